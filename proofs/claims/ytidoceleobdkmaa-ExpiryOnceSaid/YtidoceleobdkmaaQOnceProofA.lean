/- Parts of the proof of OnceProof: the logic of what is known of memory, functions' contracts. -/
import Derived.Test.YtidoceleobdkmaaHlAbb
import Derived.Sort.LotA
import Derived.Test.YtidoceleobdkmaaHlUse2
import Derived.Test.YtidoceleobdkmaaProg
import Derived.KernelRfl
import Derived.Test.YtidoceleobdkmaaHlSort
import Derived.Test.YtidoceleobdkmaaHlLib
import Derived.Sort.LotD3
import Derived.Test.YtidoceleobdkmaaHlAbb
import Derived.Test.YtidoceleobdkmaaHlFrame
import Derived.Test.YtidoceleobdkmaaHlMapE
import Derived.Sort.LotD2
namespace Go.Hp
open Go.Sort (swp SWO PermIn)
variable {α : Type} [Inhabited α] {lt : α → α → Bool}

def par (k : Nat) : Nat := (k - 1) / 2

theorem par_lt {k : Nat} (h : 0 < k) : par k < k := by unfold par; omega

/-- None of the first n is ahead of the one above it. -/
def Heap (lt : α → α → Bool) (n : Nat) (d : Array α) : Prop := ∀ k, 0 < k → k < n → lt d[k]! d[par k]! = false
/-- The same but for one, against the one above it. -/
def UpOk (lt : α → α → Bool) (n j : Nat) (d : Array α) : Prop :=
  (∀ k, 0 < k → k < n → k ≠ j → lt d[k]! d[par k]! = false) ∧ (∀ k, 0 < k → k < n → par k = j → 0 < j → lt d[k]! d[par j]! = false)
/-- The same but for those below one, and the one a walk began at. -/
def DnOk (lt : α → α → Bool) (n i0 i : Nat) (d : Array α) : Prop :=
  (∀ k, 0 < k → k < n → par k ≠ i → (k ≠ i0 ∨ i ≠ i0) → lt d[k]! d[par k]! = false) ∧ (∀ k, 0 < k → k < n → par k = i → 0 < i → lt d[k]! d[par i]! = false)

theorem asym {α : Type} {lt : α → α → Bool} (h : SWO lt) {x y : α} (hxy : lt x y = true) : lt y x = false := by
  cases hc : lt y x with
  | false => rfl
  | true => have := h.trans _ _ _ hxy hc; rw [h.irrefl] at this; cases this

theorem swp_l {d : Array α} {i j : Nat} (hi : i < d.size) (hj : j < d.size) : (swp d i j)[i]! = d[j]! := by
  rw [Go.Sort.swp_get d hi hj]; split <;> simp_all
theorem swp_r {d : Array α} {i j : Nat} (hi : i < d.size) (hj : j < d.size) : (swp d i j)[j]! = d[i]! := by
  rw [Go.Sort.swp_get d hi hj]; simp
theorem swp_o {d : Array α} {i j k : Nat} (hi : i < d.size) (hj : j < d.size) (h1 : k ≠ i) (h2 : k ≠ j) : (swp d i j)[k]! = d[k]! := by
  rw [Go.Sort.swp_get d hi hj]; simp [h1, h2]

theorem UpOk.step (h : SWO lt) {n j : Nat} {d : Array α} (hu : UpOk lt n j d) (hj : 0 < j) (hjn : j < n) (hn : n ≤ d.size) (hlt : lt d[j]! d[par j]! = true) : UpOk lt n (par j) (swp d (par j) j) := by
  have hp := par_lt hj
  generalize hi : par j = i at *
  have L := swp_l (d := d) (i := i) (j := j) (by omega) (by omega)
  have R := swp_r (d := d) (i := i) (j := j) (by omega) (by omega)
  have O := fun k (h1 : k ≠ i) (h2 : k ≠ j) => swp_o (d := d) (i := i) (j := j) (k := k) (by omega) (by omega) h1 h2
  have hij := asym h hlt
  refine ⟨fun k hk hkn hki => ?_, fun k hk hkn hpk h0 => ?_⟩
  · by_cases hkj : k = j
    · subst hkj; rw [hi, R, L]; exact hij
    · have hok := hu.1 k hk hkn hkj
      by_cases h1 : par k = i
      · rw [h1, O k hki hkj, L]; rw [h1] at hok; exact h.ntrans _ _ _ hok hij
      · by_cases h2 : par k = j
        · rw [h2, O k hki hkj, R]; exact hi ▸ hu.2 k hk hkn h2 hj
        · rw [O k hki hkj, O _ h1 h2]; exact hok
  · have hpi := par_lt h0
    rw [O (par i) (by omega) (by omega)]
    have hoi := hu.1 i h0 (by omega) (by omega)
    by_cases hkj : k = j
    · subst hkj; rw [R]; exact hoi
    · have hki : k ≠ i := fun e => by rw [e] at hpk; omega
      have hok := hu.1 k hk hkn hkj
      rw [hpk] at hok
      rw [O k hki hkj]; exact h.ntrans _ _ _ hok hoi

theorem UpOk.stop {n j : Nat} {d : Array α} (hu : UpOk lt n j d) (hs : j = 0 ∨ lt d[j]! d[par j]! = false) : Heap lt n d := by
  intro k hk hkn
  by_cases hkj : k = j
  · rcases hs with hs | hs
    · omega
    · rw [hkj]; exact hs
  · exact hu.1 k hk hkn hkj

theorem DnOk.step (h : SWO lt) {n i0 i j : Nat} {d : Array α} (hd : DnOk lt n i0 i d) (h0 : i0 ≤ i) (hj : 0 < j) (hpj : par j = i) (hjn : j < n) (hn : n ≤ d.size) (hlt : lt d[j]! d[i]! = true)
    (hmin : ∀ k, 0 < k → k < n → par k = i → lt d[k]! d[j]! = false) : DnOk lt n i0 j (swp d i j) := by
  have hp := par_lt hj
  rw [hpj] at hp
  have L := swp_l (d := d) (i := i) (j := j) (by omega) (by omega)
  have R := swp_r (d := d) (i := i) (j := j) (by omega) (by omega)
  have O := fun k (h1 : k ≠ i) (h2 : k ≠ j) => swp_o (d := d) (i := i) (j := j) (k := k) (by omega) (by omega) h1 h2
  have hij := asym h hlt
  refine ⟨fun k hk hkn hpk _ => ?_, fun k hk hkn hpk _ => ?_⟩
  · have hpl := par_lt hk
    by_cases hkj : k = j
    · subst hkj; rw [hpj, R, L]; exact hij
    · by_cases hki : k = i
      · subst hki; rw [L, O (par k) (by omega) (by omega)]; exact hd.2 j hj hjn hpj hk
      · by_cases h1 : par k = i
        · rw [h1, O k hki hkj, L]; exact hmin k hk hkn h1
        · rw [O k hki hkj, O _ h1 hpk]
          exact hd.1 k hk hkn h1 (by omega)
  · have hpl := par_lt hk
    rw [hpj, L, O k (by omega) (by omega)]
    have := hd.1 k hk hkn (by omega) (by omega)
    rw [hpk] at this; exact this

theorem DnOk.stop {n i0 i : Nat} {d : Array α} (hd : DnOk lt n i0 i d) (h0 : i0 ≤ i) (hs : ∀ k, 0 < k → k < n → par k = i → lt d[k]! d[i]! = false) :
    (i0 < i → Heap lt n d) ∧ (i = i0 → UpOk lt n i0 d) := by
  refine ⟨fun hi k hk hkn => ?_, fun hi => ?_⟩
  · by_cases hp : par k = i
    · rw [hp]; exact hs k hk hkn hp
    · exact hd.1 k hk hkn hp (by omega)
  · subst hi
    refine ⟨fun k hk hkn hki => ?_, hd.2⟩
    by_cases hp : par k = i
    · rw [hp]; exact hs k hk hkn hp
    · exact hd.1 k hk hkn hp (.inl hki)

/-- One place of a heap gets another value. -/
theorem Heap.dn {n i : Nat} {d d' : Array α} (h : SWO lt) (hh : Heap lt n d) (hi : i < n) (he : ∀ k, k < n → k ≠ i → d'[k]! = d[k]!) : DnOk lt n i i d' := by
  refine ⟨fun k hk hkn hp hki => ?_, fun k hk hkn hp h0 => ?_⟩
  · have := par_lt hk
    rw [he k hkn (by omega), he _ (by omega) hp]; exact hh k hk hkn
  · have h1 := par_lt hk
    have h2 := par_lt h0
    rw [he k hkn (by omega), he _ (by omega) (by omega)]
    have a := hh k hk hkn
    rw [hp] at a
    exact h.ntrans _ _ _ a (hh i h0 hi)

theorem Heap.mono {n m : Nat} {d : Array α} (hh : Heap lt n d) (hm : m ≤ n) : Heap lt m d := fun k hk hkm => hh k hk (by omega)

theorem Heap.root (h : SWO lt) {n : Nat} {d : Array α} (hh : Heap lt n d) : ∀ k, k < n → lt d[k]! d[0]! = false := by
  intro k
  induction k using Nat.strongRecOn with
  | ind k ih =>
    intro hk
    by_cases h0 : k = 0
    · subst h0; exact h.irrefl _
    · have := par_lt (k := k) (by omega)
      exact h.ntrans _ _ _ (hh k (by omega) hk) (ih _ this (by omega))
end Go.Hp

namespace Go.Exp
open Go.Sort (SWO)

/-- A thing: which, when it is due. -/
abbrev Th := Int × Int
/-- Is one ahead of another? -/
def tlt (x y : Th) : Bool := decide (x.2 < y.2) || (decide (x.2 = y.2) && decide (x.1 < y.1))

theorem tlt_iff {x y : Th} : tlt x y = true ↔ x.2 < y.2 ∨ (x.2 = y.2 ∧ x.1 < y.1) := by simp [tlt]
theorem tlt_false {x y : Th} : tlt x y = false ↔ ¬ (x.2 < y.2 ∨ (x.2 = y.2 ∧ x.1 < y.1)) := by rw [← tlt_iff]; simp

theorem swo_tlt : SWO tlt where
  irrefl x := by rw [tlt_false]; omega
  trans x y z := by simp only [tlt_iff]; omega
  ntrans x y z := by simp only [tlt_false]; omega

theorem tlt_total {x y : Th} (h : tlt x y = false) (k : tlt y x = false) : x = y := by
  rw [tlt_false] at h k
  exact Prod.ext (by omega) (by omega)

/-- Things in their order, each once. -/
def Ord (w : List Th) : Prop := w.Pairwise (fun x y => tlt x y = true) ∧ (w.map (·.1)).Nodup

theorem ord_nil : Ord [] := ⟨List.Pairwise.nil, List.nodup_nil⟩

theorem sorted_eq : ∀ {a b : List Th}, a.Pairwise (fun x y => tlt x y = true) → b.Pairwise (fun x y => tlt x y = true) → a.Perm b → a = b
  | [], b, _, _, h => (List.Perm.nil_eq h)
  | x :: a, [], _, _, h => absurd h.symm.nil_eq (by simp)
  | x :: a, y :: b, ha, hb, h => by
    have ha' := List.pairwise_cons.1 ha
    have hb' := List.pairwise_cons.1 hb
    have hxy : x = y := by
      have hx : x ∈ y :: b := h.mem_iff.1 (by simp)
      have hy : y ∈ x :: a := h.mem_iff.2 (by simp)
      rcases List.mem_cons.1 hx with e | hx
      · exact e
      · rcases List.mem_cons.1 hy with e | hy
        · exact e.symm
        · have h1 := ha'.1 y hy
          have h2 := hb'.1 x hx
          rw [tlt_iff] at h1 h2
          omega
    subst hxy
    rw [sorted_eq ha'.2 hb'.2 (List.Perm.cons_inv h)]

/-- One more, where it stands. -/
def insW (x : Th) (w : List Th) : List Th := w.takeWhile (tlt · x) ++ x :: w.dropWhile (tlt · x)
def dropW (id : Int) (w : List Th) : List Th := w.filter (fun t => t.1 != id)
def setW (id due : Int) (w : List Th) : List Th := insW (id, due) (dropW id w)

theorem insW_perm (x : Th) (w : List Th) : (insW x w).Perm (x :: w) := by
  unfold insW
  refine List.perm_middle.trans ?_
  rw [List.takeWhile_append_dropWhile]

theorem insW_nil (x : Th) : insW x [] = [x] := rfl
theorem insW_cons (x y : Th) (w : List Th) : insW x (y :: w) = if tlt y x then y :: insW x w else x :: y :: w := by
  unfold insW
  cases h : tlt y x <;> simp [List.takeWhile_cons, List.dropWhile_cons, h]

theorem insW_sorted {x : Th} : ∀ {w : List Th}, w.Pairwise (fun x y => tlt x y = true) → x ∉ w → (insW x w).Pairwise (fun x y => tlt x y = true)
  | [], _, _ => by simp [insW_nil]
  | y :: w, h, hn => by
    have h' := List.pairwise_cons.1 h
    rw [insW_cons]
    cases hy : tlt y x
    · simp only [Bool.false_eq_true, if_false]
      have hxy : tlt x y = true := by
        cases hc : tlt x y with
        | true => rfl
        | false => exact absurd (tlt_total hc hy) (fun e => hn (by simp [e]))
      refine List.pairwise_cons.2 ⟨fun z hz => ?_, h⟩
      rcases List.mem_cons.1 hz with rfl | hz
      · exact hxy
      · exact swo_tlt.trans _ _ _ hxy (h'.1 z hz)
    · simp only [if_true]
      refine List.pairwise_cons.2 ⟨fun z hz => ?_, insW_sorted h'.2 (fun hm => hn (by simp [hm]))⟩
      rcases List.mem_cons.1 ((insW_perm x w).mem_iff.1 hz) with rfl | hz
      · exact hy
      · exact h'.1 z hz

theorem Ord.drop {w : List Th} (h : Ord w) (id : Int) : Ord (dropW id w) :=
  ⟨h.1.filter _, h.2.sublist ((List.filter_sublist).map _)⟩
theorem not_mem_dropW {id due : Int} {w : List Th} : (id, due) ∉ dropW id w := by
  unfold dropW; simp
theorem Ord.set {w : List Th} (h : Ord w) (id due : Int) : Ord (setW id due w) := by
  have hd := h.drop id
  refine ⟨insW_sorted hd.1 not_mem_dropW, ?_⟩
  have hp := (insW_perm (id, due) (dropW id w)).map (·.1)
  refine hp.nodup_iff.2 ?_
  rw [List.map_cons, List.nodup_cons]
  refine ⟨?_, hd.2⟩
  unfold dropW
  simp

theorem Ord.tail {t : Th} {w : List Th} (h : Ord (t :: w)) : Ord w := ⟨(List.pairwise_cons.1 h.1).2, (List.nodup_cons.1 h.2).2⟩

/-- Whatever order they stand in, sorted they are w. -/
theorem Ord.eq_of {w v : List Th} (h : Ord w) (hv : v.Pairwise (fun x y => tlt x y = true)) (hp : v.Perm w) : v = w := sorted_eq hv h.1 hp

theorem set_perm {α : Type} : ∀ (l : List α) (i : Nat) (x : α), i < l.length → (l.set i x).Perm (x :: l.eraseIdx i)
  | [], i, x, h => by simp at h
  | y :: l, 0, x, _ => List.Perm.refl _
  | y :: l, i + 1, x, h => by
    simp only [List.set_cons_succ, List.eraseIdx_cons_succ]
    exact ((set_perm l i x (by simpa using h)).cons y).trans (List.Perm.swap x y _)
theorem at_perm {α : Type} : ∀ (l : List α) (i : Nat) (h : i < l.length), l.Perm (l[i] :: l.eraseIdx i)
  | [], i, h => by simp at h
  | y :: l, 0, _ => List.Perm.refl _
  | y :: l, i + 1, h => by
    simp only [List.getElem_cons_succ, List.eraseIdx_cons_succ]
    exact ((at_perm l i (by simpa using h)).cons y).trans (List.Perm.swap _ y _)

theorem dropW_absent {id : Int} {w : List Th} (h : id ∉ w.map (·.1)) : dropW id w = w := by
  unfold dropW
  refine List.filter_eq_self.2 fun t ht => ?_
  have : t.1 ≠ id := fun e => h (List.mem_map.2 ⟨t, ht, e⟩)
  simpa using this
theorem dropW_perm {w v : List Th} (id : Int) (h : v.Perm w) : (dropW id v).Perm (dropW id w) := h.filter _
theorem dropW_erase {w v : List Th} {id due : Int} (h : v.Perm ((id, due) :: w)) (hn : (v.map (·.1)).Nodup) : (dropW id v).Perm w := by
  refine (dropW_perm id h).trans ?_
  have hn' : (((id, due) :: w).map (·.1)).Nodup := (h.map (·.1)).nodup_iff.1 hn
  rw [List.map_cons, List.nodup_cons] at hn'
  have e : dropW id ((id, due) :: w) = dropW id w := by unfold dropW; simp
  rw [e, dropW_absent hn'.1]

/-- What two clocks pop is what the later one pops. -/
theorem takeWhile_two {α : Type} {p q : α → Bool} (hpq : ∀ x, p x = true → q x = true) : ∀ w : List α, w.takeWhile q = w.takeWhile p ++ (w.dropWhile p).takeWhile q
  | [] => rfl
  | x :: w => by
    cases hp : p x
    · simp [List.takeWhile_cons, List.dropWhile_cons, hp]
    · simp [List.takeWhile_cons, List.dropWhile_cons, hp, hpq x hp, takeWhile_two hpq w]
theorem dropWhile_two {α : Type} {p q : α → Bool} (hpq : ∀ x, p x = true → q x = true) : ∀ w : List α, w.dropWhile q = (w.dropWhile p).dropWhile q
  | [] => rfl
  | x :: w => by
    cases hp : p x
    · simp [List.dropWhile_cons, hp]
    · simp [List.dropWhile_cons, hp, hpq x hp, dropWhile_two hpq w]
end Go.Exp

set_option linter.unusedVariables false
set_option maxRecDepth 20000
namespace Go.Proofs
open Go Go.HL
open Go.Exp (Th tlt)

def th (t : Th) : List Value := [.int .i64 t.1, .int .i64 t.2]
theorem th_len (t : Th) : (th t).length = 2 := rfl
theorem th_one (t : Th) : (th t).all one = true := rfl
def iw (n : Int) : Value := .int .i64 n
theorem enc3 : EncK Try.prog 3 iw where
  inj a b h := by simpa [iw] using h
  law := (KeyLaw.flat (d := .int .i64) (by kernel_rfl)).weaken fun v ⟨k, hk⟩ => by subst hk; exact (rfl : IntKind.i64 = IntKind.i64)
theorem u49 : Try.prog.underlying 49 = some (.map 3 3) := by kernel_rfl
theorem zw3 : ∀ w : World, (zeroValue 3).run Try.prog w = .ok (.int .i64 0) w := by
  intro w
  have h : (Try.prog.info? 3).bind (·.zero) = some (.int .i64 0) := by kernel_rfl
  cases hi : Try.prog.info? 3 with
  | none => rw [hi] at h; cases h
  | some i => rw [hi] at h; simp only [Option.bind_some] at h; simp [zeroValue, typeInfo, hi, h]

end Go.Proofs

namespace Go.HL
open Go

/-- The comparison that a sort is handed: whatever the row holds. -/
def CmpOk {α : Type} [Inhabited α] (P : Program) (f : FuncId) (ga gb : List Value) (hp0 : HP) (b : Nat) (e : TypeId) (sp : Nat) (en : α → List Value) (n : Nat) (cf : α → α → Int) : Prop :=
  ∀ (d : Array α) (x y : α) (K : Value → HP → Prop), d.size = n → K (.int .i64 (cf x y)) (HA hp0 b e sp en d) → CF P f (ga ++ [.agg ⟨en x⟩, .agg ⟨en y⟩] ++ gb) (HA hp0 b e sp en d) K

def ltC {α : Type} (cf : α → α → Int) (x y : α) : Bool := decide (cf x y < 0)
theorem swp_size {α : Type} [Inhabited α] (d : Array α) (i j : Nat) : (Sort.swp d i j).size = d.size := by simp [Sort.swp]
end Go.HL

namespace Go.HL
open Go

theorem wi {x : Int} {i : Nat} (h : x = i) (hb : i ≤ 9223372036854775807) : IntKind.wrap .i64 x = i := by rw [h]; exact w64 (by omega) (by omega)

section
variable {α : Type} {hp0 : HP} {b : Nat} {e : TypeId} {sp : Nat} {en : α → List Value} {d : Array α}
theorem HA.set_comm {r : Nat} (hr : r ≠ b) (x : Ent) : (HA hp0 b e sp en d).set r x = HA (hp0.set r x) b e sp en d := by
  unfold HA; rw [HP.set_comm _ _ _ hr]
theorem HA.ne_of_none {r : Nat} (h : HA hp0 b e sp en d r = .none) : r ≠ b ∧ hp0 r = .none := by
  have hb : r ≠ b := fun e => by unfold HA at h; rw [e, HP.set_eq] at h; cases h
  refine ⟨hb, ?_⟩
  unfold HA at h
  rwa [HP.set_ne _ _ hb] at h
theorem HA.ne {r : Nat} (h : r ≠ b) : HA hp0 b e sp en d r = hp0 r := by
  unfold HA; rw [HP.set_ne _ _ h]

end

section
variable {α : Type} [Inhabited α] {P : Program} {f : FuncId} {ga gb : List Value} {hp0 : HP} {b : Nat} {e : TypeId} {sp size : Nat} {en : α → List Value} {n : Nat} {cf : α → α → Int} {d : Array α}

theorem cmpP (hc : CmpOk P f ga gb hp0 b e sp en n cf) (he : ∀ x, (en x).length = size) {I J : Int} {i j : Nat} {X : Int → HP → Prop} (hs : d.size = n) (hI : I = i) (hJ : J = j) (hi : i < n) (hj : j < n)
    (h : X (cf d[i]! d[j]!) (HA hp0 b e sp en d)) :
    ((0 ≤ I) ∧ (I < (n : Nat)) ∧ (ptrN (some ⟨b, 0, none⟩) fun b1 o2 => (ldL (HP.cellN (HA hp0 b e sp en d) b1 (o2 + Int.toNat I * size) size) fun l3 => ((0 ≤ J) ∧ (J < (n : Nat)) ∧ (ptrN (some ⟨b, 0, none⟩) fun b4 o5 => (ldL (HP.cellN (HA hp0 b e sp en d) b4 (o5 + Int.toNat J * size) size) fun l6 =>
      (fnV (.func (.func f) ⟨ga⟩ ⟨gb⟩) fun f7 ga8 gb9 => (CF P f7 (ga8 ++ [(Value.agg ⟨l3⟩), (Value.agg ⟨l6⟩)] ++ gb9) (HA hp0 b e sp en d) fun u10 h11 => (intV u10 .i64 fun i12 => X i12 h11))))))))) := by
  subst hI hJ
  have g1 := HA.get (hp0 := hp0) (b := b) (e := e) (sp := sp) he (d := d) (i := i) (by omega)
  have g2 := HA.get (hp0 := hp0) (b := b) (e := e) (sp := sp) he (d := d) (i := j) (by omega)
  simp only [ptrN_some, Int.toNat_natCast, g1, g2, ldL_some, fnV_mk]
  refine ⟨by omega, by omega, by omega, by omega, ?_⟩
  refine hc d _ _ _ hs ?_
  rw [intV_int]
  exact h

theorem swapP (he : ∀ x, (en x).length = size) (h1 : ∀ x, (en x).all one = true) {I J : Int} {i j : Nat} {X : HP → Prop} (hs : d.size = n) (hI : I = i) (hJ : J = j) (hi : i < n) (hj : j < n)
    (h : X (HA hp0 b e sp en (Sort.swp d i j))) :
    ((0 ≤ J) ∧ (J < (n : Nat)) ∧ (ptrN (some ⟨b, 0, none⟩) fun b1 o2 => (ldL (HP.cellN (HA hp0 b e sp en d) b1 (o2 + Int.toNat J * size) size) fun l3 => ((0 ≤ I) ∧ (I < (n : Nat)) ∧ (ptrN (some ⟨b, 0, none⟩) fun b4 o5 => (ldL (HP.cellN (HA hp0 b e sp en d) b4 (o5 + Int.toNat I * size) size) fun l6 =>
      ((0 ≤ I) ∧ (I < (n : Nat)) ∧ (ptrN (some ⟨b, 0, none⟩) fun b7 o8 => ((List.length l3 = size) ∧ (HP.stN (HA hp0 b e sp en d) b7 (o8 + Int.toNat I * size) l3 fun h9 => ((0 ≤ J) ∧ (J < (n : Nat)) ∧ (ptrN (some ⟨b, 0, none⟩) fun b10 o11 => ((List.length l6 = size) ∧ (HP.stN h9 b10 (o11 + Int.toNat J * size) l6 fun h12 => X h12)))))))))))))) := by
  subst hI hJ
  have g1 := HA.get (hp0 := hp0) (b := b) (e := e) (sp := sp) he (d := d) (i := i) (by omega)
  have g2 := HA.get (hp0 := hp0) (b := b) (e := e) (sp := sp) he (d := d) (i := j) (by omega)
  simp only [ptrN_some, Int.toNat_natCast, g1, g2, ldL_some]
  refine ⟨by omega, by omega, by omega, by omega, by omega, by omega, he _, ?_⟩
  refine HA.st he h1 (by omega) _ ?_
  refine ⟨by omega, by omega, he _, ?_⟩
  refine HA.st he h1 (by rw [Array.size_setIfInBounds]; omega) _ ?_
  exact h

/-- A comparison that holds whatever else is known. -/
def CmpX (P : Program) (f : FuncId) (ga gb : List Value) (hp0 : HP) (b : Nat) (e : TypeId) (sp : Nat) (en : α → List Value) (n : Nat) (cf : α → α → Int) : Prop :=
  ∀ hp1, HSub hp0 hp1 → CmpOk P f ga gb hp1 b e sp en n cf

theorem CmpX.sub {hp1 : HP} (h : CmpX P f ga gb hp0 b e sp en n cf) (hs : HSub hp0 hp1) : CmpX P f ga gb hp1 b e sp en n cf := fun hp2 h2 => h hp2 (hs.trans h2)
theorem CmpX.ok (h : CmpX P f ga gb hp0 b e sp en n cf) : CmpOk P f ga gb hp0 b e sp en n cf := h hp0 (HSub.refl _)
end
end Go.HL

set_option linter.unusedVariables false
set_option maxRecDepth 20000
namespace Go.Proofs
open Go Go.HL
-- 29 interpreter/expiry.New
theorem F29_r0 (e : Env) (hp : HP) (K : Env → PV → HP → Prop) : RW Try.prog 6 [] (opsAt Try.f29 [0]) (List.range 1) e V0 hp K =
    (K (upd e 0 (sV (Value.pointer none))) V0 hp) := by kernel_rfl
theorem F29_r1 (e : Env) (hp : HP) (K : Env → PV → HP → Prop) : RW Try.prog 6 [] (opsAt Try.f29 [1, 0]) (List.range 6) e V0 hp K =
    (∀ b1 : Nat, hp b1 = .none → (∀ b2 : Nat, (HP.set hp b1 (.obj (.map #[] 0))) b2 = .none → (∀ b3 : Nat, (HP.set (HP.set hp b1 (.obj (.map #[] 0))) b2 (.cells 143 [(Value.slice none 0 0), (Value.map (some b1))] 0)) b3 = .none → (K (upd (upd (upd (upd (upd (upd e 1 (sV (Value.map (some b1)))) 2 (sV (Value.agg ⟨[(Value.slice none 0 0), (Value.map (some b1))]⟩))) 3 (sV (ptr b2 0))) 4 (sV (Value.agg ⟨[(ptr b2 0)]⟩))) 5 (sV (ptr b3 0))) 0 (sV (ptr b3 0))) V0 (HP.set (HP.set (HP.set hp b1 (.obj (.map #[] 0))) b2 (.cells 143 [(Value.slice none 0 0), (Value.map (some b1))] 0)) b3 (.cells 145 [(ptr b2 0)] 0)))))) := by kernel_rfl
def F29 (hp : HP) (K : Value → HP → Prop) : Prop :=
  (∀ b_1 : Nat, hp b_1 = .none → (∀ b_2 : Nat, (HP.set hp b_1 (.obj (.map #[] 0))) b_2 = .none → (∀ b_3 : Nat, (HP.set (HP.set hp b_1 (.obj (.map #[] 0))) b_2 (.cells 143 [(Value.slice none 0 0), (Value.map (some b_1))] 0)) b_3 = .none → (K (ptr b_3 0) (HP.set (HP.set (HP.set hp b_1 (.obj (.map #[] 0))) b_2 (.cells 143 [(Value.slice none 0 0), (Value.map (some b_1))] 0)) b_3 (.cells 145 [(ptr b_2 0)] 0))))))
noncomputable def F29_code : Code := (.seq (.region 0 (opsAt Try.f29 [0]) false) (.seq (.region 1 (opsAt Try.f29 [1, 0]) false) .ret))
theorem F29_body : Try.f29.body = some F29_code := by kernel_rfl
theorem F29_ok (hp : HP) (K : Value → HP → Prop) (h : F29  hp K) : CF Try.prog 29 [] hp K := by
 refine .inl ⟨by kernel_rfl, AC.intro (N := 6) Try.func29 F29_body rfl (Nat.le_of_ble_eq_true rfl) ?_⟩
 unfold F29 at h
 unfold F29_code
 refine AWP.seq' ?_
 refine AWP.rgn (F29_r0 E0  hp _) ?_ (Rn) (Sn) (Sn)
 refine AWP.seq' ?_
 refine AWP.rgn (F29_r1 E0  hp _) ?_ (Rn) (Sn) (Sn)
 refine fun b_1 hb_b_1 => ?_
 replace h := h b_1 hb_b_1
 refine fun b_2 hb_b_2 => ?_
 replace h := h b_2 hb_b_2
 refine fun b_3 hb_b_3 => ?_
 replace h := h b_3 hb_b_3
 refine AWP.ret ?_
 exact h
-- 30 (*interpreter/expiry.Queue).Set
theorem F30_r0 (e : Env) (hp : HP) (K : Env → PV → HP → Prop) : RW Try.prog 59 [] (opsAt Try.f30 [0]) (List.range 1) e V0 hp K =
    (K (upd e 6 (sI (0))) V0 hp) := by kernel_rfl
theorem F30_r1 (e : Env) (x0 : Option Addr) (hp : HP) (K : Env → PV → HP → Prop) : RW Try.prog 59 [] (opsAt Try.f30 [1, 0, 0]) (List.range 2) (upd e 0 (sV (Value.pointer x0))) V0 hp K =
    (CF Try.prog 82 [(Value.pointer x0)] hp fun u1 h2 => (boolV u1 fun q3 => (K (upd (upd (upd e 0 (sV (Value.pointer x0))) 9 (sV (Value.pointer x0))) 10 (sB (q3))) V0 h2))) := by kernel_rfl
theorem F30_r2 (e : Env) (hp : HP) (K : Env → PV → HP → Prop) : RW Try.prog 59 [] (opsAt Try.f30 [1, 0, 1, 0, 0]) (List.range 1) e V0 hp K =
    (K (upd e 6 (sI (2))) V0 hp) := by kernel_rfl
theorem F30_r3 (e : Env) (hp : HP) (K : Env → PV → HP → Prop) : RW Try.prog 59 [] (opsAt Try.f30 [1, 1, 0, 1, 0, 0]) (List.range 1) e V0 hp K =
    (K (upd e 6 (sI (1))) V0 hp) := by kernel_rfl
theorem F30_r4 (e : Env) (x0 : Option Addr) (x1 : Int) (hp : HP) (K : Env → PV → HP → Prop) : RW Try.prog 59 [] (opsAt Try.f30 [1, 1, 1, 0]) (List.range 14) (upd (upd e 1 (sI (x1))) 0 (sV (Value.pointer x0))) V0 hp K =
    (ptrN x0 fun b1 o2 => (ldV (HP.cell hp b1 (o2 + 0)) fun v3 => (ptrV v3 fun p4 => (ptrN p4 fun b5 o6 => (ldV (HP.cell hp b5 (o6 + 1)) fun v7 => (mapV v7 fun m8 => (rdS Try.prog (Instr.lookup 49 (Value.map m8) (Value.int .i64 x1) true) hp fun u9 => (tup2V u9 fun u10 u11 => (intV u10 .i64 fun i12 => (boolV u11 fun q13 => (K (upd (upd (upd (upd (upd (upd (upd (upd (upd (upd (upd (upd (upd (upd (upd (upd e 1 (sI (x1))) 0 (sV (Value.pointer x0))) 18 (sV (Value.pointer x0))) 19 (sV (ptr b1 o2))) 20 (sV (ptr b1 (o2 + 0)))) 21 (sV (Value.pointer p4))) 22 (sV (ptr b5 o6))) 23 (sV (ptr b5 (o6 + 1)))) 24 (sV (Value.map m8))) 25 (sI (x1))) 26 (sV (Value.tuple ⟨[(Value.int .i64 i12), (Value.bool q13)]⟩))) 17 (sV (Value.tuple ⟨[(Value.int .i64 i12), (Value.bool q13)]⟩))) 27 (sI (i12))) 28 (sB (q13))) 7 (sI (i12))) 8 (sB (q13))) V0 hp))))))))))) := by kernel_rfl
theorem F30_r5 (e : Env) (x8 : Bool) (hp : HP) (K : Env → PV → HP → Prop) : RW Try.prog 59 [] (opsAt Try.f30 [1, 1, 1, 1, 0, 0]) (List.range 2) (upd e 8 (sB (x8))) V0 hp K =
    (K (upd (upd (upd e 8 (sB (x8))) 29 (sB (x8))) 30 (sB ((!x8)))) V0 hp) := by kernel_rfl
theorem F30_r6 (e : Env) (x0 : Option Addr) (x1 : Int) (x2 : Int) (hp : HP) (K : Env → PV → HP → Prop) : RW Try.prog 59 [] (opsAt Try.f30 [1, 1, 1, 1, 0, 1, 0, 0]) (List.range 10) (upd (upd (upd e 2 (sI (x2))) 1 (sI (x1))) 0 (sV (Value.pointer x0))) V0 hp K =
    (ptrN x0 fun b1 o2 => (ldV (HP.cell hp b1 (o2 + 0)) fun v3 => (ptrV v3 fun p4 => (CF Try.prog 83 [(Value.iface 140 (Value.pointer p4)), (Value.iface 148 (Value.agg ⟨[(Value.int .i64 x1), (Value.int .i64 x2)]⟩))] hp fun u5 h6 => (K (upd (upd (upd (upd (upd (upd (upd (upd (upd (upd (upd (upd (upd e 2 (sI (x2))) 1 (sI (x1))) 0 (sV (Value.pointer x0))) 31 (sV (Value.pointer x0))) 32 (sV (ptr b1 o2))) 33 (sV (ptr b1 (o2 + 0)))) 34 (sV (Value.pointer p4))) 35 (sV (Value.iface 140 (Value.pointer p4)))) 36 (sI (x1))) 37 (sI (x2))) 38 (sV (Value.agg ⟨[(Value.int .i64 x1), (Value.int .i64 x2)]⟩))) 39 (sV (Value.iface 148 (Value.agg ⟨[(Value.int .i64 x1), (Value.int .i64 x2)]⟩)))) 40 (sV u5)) V0 h6))))) := by kernel_rfl
theorem F30_r7 (e : Env) (hp : HP) (K : Env → PV → HP → Prop) : RW Try.prog 59 [] (opsAt Try.f30 [1, 1, 1, 1, 0, 1, 0, 1, 0]) (List.range 1) e V0 hp K =
    (K (upd e 6 (sI (0))) V0 hp) := by kernel_rfl
theorem F30_r8 (e : Env) (x0 : Option Addr) (x2 : Int) (x7 : Int) (hp : HP) (K : Env → PV → HP → Prop) : RW Try.prog 59 [] (opsAt Try.f30 [1, 1, 1, 1, 1, 0]) (List.range 12) (upd (upd (upd e 7 (sI (x7))) 2 (sI (x2))) 0 (sV (Value.pointer x0))) V0 hp K =
    (ptrN x0 fun b1 o2 => (ldV (HP.cell hp b1 (o2 + 0)) fun v3 => (ptrV v3 fun p4 => (ptrN p4 fun b5 o6 => (ldV (HP.cell hp b5 (o6 + 0)) fun v7 => (slcV v7 fun a8 n9 c10 => ((0 ≤ (x7 : Int)) ∧ ((x7 : Int) < (n9 : Nat)) ∧ (ptrN a8 fun b11 o12 => (HP.st hp b11 ((o12 + Int.toNat x7 * 2) + 1) (Value.int .i64 x2) fun h13 => (K (upd (upd (upd (upd (upd (upd (upd (upd (upd (upd (upd (upd (upd (upd e 7 (sI (x7))) 2 (sI (x2))) 0 (sV (Value.pointer x0))) 41 (sV (Value.pointer x0))) 42 (sV (ptr b1 o2))) 43 (sV (ptr b1 (o2 + 0)))) 44 (sV (Value.pointer p4))) 45 (sV (ptr b5 o6))) 46 (sV (ptr b5 (o6 + 0)))) 47 (sV (Value.slice a8 n9 c10))) 48 (sI (x7))) 49 (sI (x2))) 50 (sV (ptr b11 (o12 + Int.toNat x7 * 2)))) 51 (sV (ptr b11 ((o12 + Int.toNat x7 * 2) + 1)))) V0 h13)))))))))) := by kernel_rfl
theorem F30_r9 (e : Env) (x0 : Option Addr) (x7 : Int) (hp : HP) (K : Env → PV → HP → Prop) : RW Try.prog 59 [] (opsAt Try.f30 [1, 1, 1, 1, 1, 1, 0]) (List.range 7) (upd (upd e 7 (sI (x7))) 0 (sV (Value.pointer x0))) V0 hp K =
    (ptrN x0 fun b1 o2 => (ldV (HP.cell hp b1 (o2 + 0)) fun v3 => (ptrV v3 fun p4 => (CF Try.prog 84 [(Value.iface 140 (Value.pointer p4)), (Value.int .i64 x7)] hp fun u5 h6 => (K (upd (upd (upd (upd (upd (upd (upd (upd (upd e 7 (sI (x7))) 0 (sV (Value.pointer x0))) 52 (sV (Value.pointer x0))) 53 (sV (ptr b1 o2))) 54 (sV (ptr b1 (o2 + 0)))) 55 (sV (Value.pointer p4))) 56 (sV (Value.iface 140 (Value.pointer p4)))) 57 (sI (x7))) 58 (sV u5)) V0 h6))))) := by kernel_rfl
theorem F30_r10 (e : Env) (hp : HP) (K : Env → PV → HP → Prop) : RW Try.prog 59 [] (opsAt Try.f30 [1, 1, 1, 1, 1, 1, 1, 0]) (List.range 1) e V0 hp K =
    (K (upd e 6 (sI (0))) V0 hp) := by kernel_rfl
def F30_j1 (x0 : Option Addr) (x1 : Int) (x2 : Int) (x16 : Bool) (hp : HP) (K : Value → HP → Prop) : Prop :=
  (ite2 x16 (K (Value.int .i64 1) hp) (ptrN x0 fun b_4 o_5 => (ldV (HP.cell hp b_4 (o_5 + 0)) fun v_6 => (ptrV v_6 fun p_7 => (ptrN p_7 fun b_8 o_9 => (ldV (HP.cell hp b_8 (o_9 + 1)) fun v_10 => (mapV v_10 fun m_11 => (rdS Try.prog (Instr.lookup 49 (Value.map m_11) (Value.int .i64 x1) true) hp fun u_12 => (tup2V u_12 fun u_13 u_14 => (intV u_13 .i64 fun i_15 => (boolV u_14 fun q_16 => (ite2 (!q_16) (ptrN x0 fun b_17 o_18 => (ldV (HP.cell hp b_17 (o_18 + 0)) fun v_19 => (ptrV v_19 fun p_20 => (CF Try.prog 83 [(Value.iface 140 (Value.pointer p_20)), (Value.iface 148 (Value.agg ⟨[(Value.int .i64 x1), (Value.int .i64 x2)]⟩))] hp fun u_21 h_22 => (K (Value.int .i64 0) h_22))))) (ptrN x0 fun b_23 o_24 => (ldV (HP.cell hp b_23 (o_24 + 0)) fun v_25 => (ptrV v_25 fun p_26 => (ptrN p_26 fun b_27 o_28 => (ldV (HP.cell hp b_27 (o_28 + 0)) fun v_29 => (slcV v_29 fun a_30 n_31 c_32 => ((0 ≤ (i_15 : Int)) ∧ ((i_15 : Int) < (n_31 : Nat)) ∧ (ptrN a_30 fun b_33 o_34 => (HP.st hp b_33 ((o_34 + Int.toNat i_15 * 2) + 1) (Value.int .i64 x2) fun h_35 => (ptrN x0 fun b_36 o_37 => (ldV (HP.cell h_35 b_36 (o_37 + 0)) fun v_38 => (ptrV v_38 fun p_39 => (CF Try.prog 84 [(Value.iface 140 (Value.pointer p_39)), (Value.int .i64 i_15)] h_35 fun u_40 h_41 => (K (Value.int .i64 0) h_41))))))))))))))))))))))))))
theorem F30_r11 (e : Env) (x2 : Int) (hp : HP) (K : Env → PV → HP → Prop) : RW Try.prog 59 [] (opsAt Try.f30 [1, 1, 0, 0]) (List.range 6) (upd e 2 (sI (x2))) V0 hp K =
    (ite2 (decide ((x2 : Int) < 0)) (K (upd (upd (upd (upd (upd (upd (upd e 2 (sI (x2))) 11 (sI (x2))) 12 (sB ((decide ((x2 : Int) < 0))))) 13 (sB (true))) 14 (sV undef)) 15 (sV undef)) 16 (sB (true))) V0 hp) (K (upd (upd (upd (upd (upd (upd (upd e 2 (sI (x2))) 11 (sI (x2))) 12 (sB ((decide ((x2 : Int) < 0))))) 13 (sB (false))) 14 (sI (x2))) 15 (sB ((decide ((x2 : Int) > 4611686018427387904))))) 16 (sB ((decide ((x2 : Int) > 4611686018427387904))))) V0 hp)) := by kernel_rfl
def F30 (x0 : Option Addr) (x1 : Int) (x2 : Int) (hp : HP) (K : Value → HP → Prop) : Prop :=
  (CF Try.prog 82 [(Value.pointer x0)] hp fun u_1 h_2 => (boolV u_1 fun q_3 => (ite2 q_3 (K (Value.int .i64 2) h_2) (ite2 (decide ((x2 : Int) < 0)) (F30_j1 x0 x1 x2 true h_2  K) (F30_j1 x0 x1 x2 (decide ((x2 : Int) > 4611686018427387904)) h_2  K)))))
noncomputable def F30_code : Code := (.seq (.region 0 (opsAt Try.f30 [0]) false) (.seq (.seq (.region 1 (opsAt Try.f30 [1, 0, 0]) false) (.cond (.tmp 10) (.seq (.region 2 (opsAt Try.f30 [1, 0, 1, 0, 0]) false) .ret) .skip)) (.seq (.seq (.region 3 (opsAt Try.f30 [1, 1, 0, 0]) false) (.cond (.tmp 16) (.seq (.region 4 (opsAt Try.f30 [1, 1, 0, 1, 0, 0]) false) .ret) .skip)) (.seq (.region 5 (opsAt Try.f30 [1, 1, 1, 0]) false) (.seq (.seq (.region 6 (opsAt Try.f30 [1, 1, 1, 1, 0, 0]) false) (.cond (.tmp 30) (.seq (.region 7 (opsAt Try.f30 [1, 1, 1, 1, 0, 1, 0, 0]) false) (.seq (.region 8 (opsAt Try.f30 [1, 1, 1, 1, 0, 1, 0, 1, 0]) false) .ret)) .skip)) (.seq (.region 9 (opsAt Try.f30 [1, 1, 1, 1, 1, 0]) false) (.seq (.region 10 (opsAt Try.f30 [1, 1, 1, 1, 1, 1, 0]) false) (.seq (.region 11 (opsAt Try.f30 [1, 1, 1, 1, 1, 1, 1, 0]) false) .ret))))))))
theorem F30_body : Try.f30.body = some F30_code := by kernel_rfl
theorem F30_ok (x0 : Option Addr) (x1 : Int) (x2 : Int) (hp : HP) (K : Value → HP → Prop) (h : F30 x0 x1 x2 hp K) : CF Try.prog 30 [(Value.pointer x0), (Value.int .i64 x1), (Value.int .i64 x2)] hp K := by
 refine .inl ⟨by kernel_rfl, AC.intro (N := 59) Try.func30 F30_body rfl (Nat.le_of_ble_eq_true rfl) ?_⟩
 unfold F30 at h
 unfold F30_code
 refine AWP.seq' ?_
 refine AWP.rgn (F30_r0 (upd (upd (upd E0 2 (sI (x2))) 1 (sI (x1))) 0 (sV (Value.pointer x0)))  hp _) ?_ (Rv 0 _ (Rv 1 _ (Rv 2 _ (Rn)))) (Sc rfl (Sc rfl (Sc rfl (Sn)))) (Sn)
 refine AWP.seq' ?_
 refine AWP.seq' ?_
 refine AWP.rgn (F30_r1 (upd (upd E0 2 (sI (x2))) 1 (sI (x1))) x0 hp _) ?_ (Rv 0 _ (Rv 1 _ (Rv 2 _ (Rn)))) (Sc rfl (Sc rfl (Sc rfl (Sn)))) (Sn)
 refine CF_mono h (fun u_1 h_2 h => ?_)
 refine boolV_mono h (fun q_3 h => ?_)
 refine AWP.cond (t := q_3) rfl (fun e => ?_) (fun e => ?_)
 ·replace h := ite2_t h e
  refine AWP.seq' ?_
  refine AWP.rgn (F30_r2 E0  h_2 _) ?_ (Rn) (Sn) (Sn)
  refine AWP.ret ?_
  exact h
 ·replace h := ite2_f h e
  refine AWP.skip ?_
  refine AWP.seq' ?_
  refine AWP.seq (fun env pv hp => ∃ (x0 : Option Addr) (x1 : Int) (x2 : Int) (x16 : Bool), Sub (upd (upd (upd (upd E0 16 (sB (x16))) 2 (sI (x2))) 1 (sI (x1))) 0 (sV (Value.pointer x0))) env ∧ Sub V0 pv ∧ (F30_j1 x0 x1 x2 x16 hp  K)) ?_ ?_
  ·refine AWP.rgn (F30_r11 (upd (upd E0 1 (sI (x1))) 0 (sV (Value.pointer x0))) x2 h_2 _) ?_ (Rv 2 _ (Rv 0 _ (Rv 1 _ (Rn)))) (Sc rfl (Sc rfl (Sc rfl (Sn)))) (Sn)
   refine ite2_mono h (fun h => ?_) (fun h => ?_)
   ·exact ⟨x0, x1, x2, true, (Sc rfl (Sc rfl (Sc rfl (Sc rfl (Sn))))), (Sn), h⟩
   ·exact ⟨x0, x1, x2, (decide ((x2 : Int) > 4611686018427387904)), (Sc rfl (Sc rfl (Sc rfl (Sc rfl (Sn))))), (Sn), h⟩
  ·rintro env pv hp ⟨x0, x1, x2, x16, he, hv, h⟩
   refine AWP.sub (env' := (upd (upd (upd (upd E0 16 (sB (x16))) 2 (sI (x2))) 1 (sI (x1))) 0 (sV (Value.pointer x0)))) (pv' := V0) ?_ (Rv 0 _ (Rv 1 _ (Rv 2 _ (Rv 16 _ (Rn))))) he hv (HSub.refl _)
   clear he hv
   unfold F30_j1 at h
   refine AWP.cond (t := x16) rfl (fun e => ?_) (fun e => ?_)
   ·replace h := ite2_t h e
    refine AWP.seq' ?_
    refine AWP.rgn (F30_r3 E0  hp _) ?_ (Rn) (Sn) (Sn)
    refine AWP.ret ?_
    exact h
   ·replace h := ite2_f h e
    refine AWP.skip ?_
    refine AWP.seq' ?_
    refine AWP.rgn (F30_r4 (upd E0 2 (sI (x2))) x0 x1 hp _) ?_ (Rv 0 _ (Rv 1 _ (Rv 2 _ (Rn)))) (Sc rfl (Sc rfl (Sc rfl (Sn)))) (Sn)
    refine ptrN_mono h (fun b_4 o_5 h => ?_)
    refine ldV_mono h (fun v_6 h => ?_)
    refine ptrV_mono h (fun p_7 h => ?_)
    refine ptrN_mono h (fun b_8 o_9 h => ?_)
    refine ldV_mono h (fun v_10 h => ?_)
    refine mapV_mono h (fun m_11 h => ?_)
    refine rdS_mono h (fun u_12 h => ?_)
    refine tup2V_mono h (fun u_13 u_14 h => ?_)
    refine intV_mono h (fun i_15 h => ?_)
    refine boolV_mono h (fun q_16 h => ?_)
    refine AWP.seq' ?_
    refine AWP.seq' ?_
    refine AWP.rgn (F30_r5 (upd (upd (upd (upd E0 7 (sI (i_15))) 2 (sI (x2))) 1 (sI (x1))) 0 (sV (Value.pointer x0))) q_16 hp _) ?_ (Rv 8 _ (Rv 0 _ (Rv 1 _ (Rv 2 _ (Rv 7 _ (Rn)))))) (Sc rfl (Sc rfl (Sc rfl (Sc rfl (Sc rfl (Sn)))))) (Sn)
    refine AWP.cond (t := (!q_16)) rfl (fun e => ?_) (fun e => ?_)
    ·replace h := ite2_t h e
     refine AWP.seq' ?_
     refine AWP.rgn (F30_r6 E0 x0 x1 x2 hp _) ?_ (Rv 0 _ (Rv 1 _ (Rv 2 _ (Rn)))) (Sc rfl (Sc rfl (Sc rfl (Sn)))) (Sn)
     refine ptrN_mono h (fun b_17 o_18 h => ?_)
     refine ldV_mono h (fun v_19 h => ?_)
     refine ptrV_mono h (fun p_20 h => ?_)
     refine CF_mono h (fun u_21 h_22 h => ?_)
     refine AWP.seq' ?_
     refine AWP.rgn (F30_r7 E0  h_22 _) ?_ (Rn) (Sn) (Sn)
     refine AWP.ret ?_
     exact h
    ·replace h := ite2_f h e
     refine AWP.skip ?_
     refine AWP.seq' ?_
     refine AWP.rgn (F30_r8 E0 x0 x2 i_15 hp _) ?_ (Rv 0 _ (Rv 2 _ (Rv 7 _ (Rn)))) (Sc rfl (Sc rfl (Sc rfl (Sn)))) (Sn)
     refine ptrN_mono h (fun b_23 o_24 h => ?_)
     refine ldV_mono h (fun v_25 h => ?_)
     refine ptrV_mono h (fun p_26 h => ?_)
     refine ptrN_mono h (fun b_27 o_28 h => ?_)
     refine ldV_mono h (fun v_29 h => ?_)
     refine slcV_mono h (fun a_30 n_31 c_32 h => ?_)
     refine ⟨h.1, h.2.1, ?_⟩
     replace h := h.2.2
     refine ptrN_mono h (fun b_33 o_34 h => ?_)
     refine st_mono h (fun h_35 h => ?_)
     refine AWP.seq' ?_
     refine AWP.rgn (F30_r9 E0 x0 i_15 h_35 _) ?_ (Rv 0 _ (Rv 7 _ (Rn))) (Sc rfl (Sc rfl (Sn))) (Sn)
     refine ptrN_mono h (fun b_36 o_37 h => ?_)
     refine ldV_mono h (fun v_38 h => ?_)
     refine ptrV_mono h (fun p_39 h => ?_)
     refine CF_mono h (fun u_40 h_41 h => ?_)
     refine AWP.seq' ?_
     refine AWP.rgn (F30_r10 E0  h_41 _) ?_ (Rn) (Sn) (Sn)
     refine AWP.ret ?_
     exact h
-- 31 (*interpreter/expiry.Queue).Pop
theorem F31_r0 (e : Env) (hp : HP) (K : Env → PV → HP → Prop) : RW Try.prog 39 [] (opsAt Try.f31 [0]) (List.range 1) e V0 hp K =
    (K (upd e 4 (sV (Value.slice none 0 0))) V0 hp) := by kernel_rfl
theorem F31_r1 (e : Env) (hp : HP) (K : Env → PV → HP → Prop) : RW Try.prog 39 [] (opsAt Try.f31 [1, 0]) (List.range 1) e V0 hp K =
    (K (upd e 5 (sV (Value.slice none 0 0))) V0 hp) := by kernel_rfl
theorem F31_r2 (e : Env) (x5a : Option Addr) (x5n : Nat) (x5c : Nat) (hp : HP) (K : Env → PV → HP → Prop) : RW Try.prog 39 [] (opsAt Try.f31 [1, 1, 1, 0]) (List.range 2) (upd e 5 (sV (Value.slice x5a x5n x5c))) V0 hp K =
    (K (upd (upd (upd e 5 (sV (Value.slice x5a x5n x5c))) 38 (sV (Value.slice x5a x5n x5c))) 4 (sV (Value.slice x5a x5n x5c))) V0 hp) := by kernel_rfl
def F31_j1 (x5a : Option Addr) (x5n : Nat) (x5c : Nat) (hp : HP) (K : Value → HP → Prop) : Prop :=
  (K (Value.slice x5a x5n x5c) hp)
theorem F31_r3 (e : Env) (x0 : Option Addr) (x5a : Option Addr) (x5n : Nat) (x5c : Nat) (hp : HP) (K : Env → PV → HP → Prop) : RW Try.prog 39 [] (opsAt Try.f31 [1, 1, 0, 1, 0, 0, 1, 0, 0]) (List.range 12) (upd (upd e 5 (sV (Value.slice x5a x5n x5c))) 0 (sV (Value.pointer x0))) V0 hp K =
    (ptrN x0 fun b1 o2 => (ldV (HP.cell hp b1 (o2 + 0)) fun v3 => (ptrV v3 fun p4 => (CF Try.prog 85 [(Value.iface 140 (Value.pointer p4))] hp fun u5 h6 => (rdS Try.prog (Instr.typeAssert u5 20 148 false) h6 fun u7 => (aggV u7 fun l8 => (ldV (l8)[0]? fun v9 => (intV v9 .i64 fun i10 => (∀ b11 : Nat, h6 b11 = .none → (opS Try.prog (Builtin.append_ #[24, 24] 24 ⟨[(Value.slice x5a x5n x5c), (Value.slice (some ⟨b11, 0, none⟩) 1 1)]⟩) (HP.set h6 b11 (.cells 3 [(Value.int .i64 i10)] 0)) fun u12 h13 => (slcV u12 fun a14 n15 c16 => (K (upd (upd (upd (upd (upd (upd (upd (upd (upd (upd (upd (upd (upd (upd e 5 (sV (Value.slice x5a x5n x5c))) 0 (sV (Value.pointer x0))) 27 (sV (Value.slice x5a x5n x5c))) 28 (sV (Value.pointer x0))) 29 (sV (ptr b1 o2))) 30 (sV (ptr b1 (o2 + 0)))) 31 (sV (Value.pointer p4))) 32 (sV (Value.iface 140 (Value.pointer p4)))) 33 (sV u5)) 34 (sV (Value.agg ⟨l8⟩))) 35 (sI (i10))) 36 (sV (Value.slice (some ⟨b11, 0, none⟩) 1 1))) 37 (sV (Value.slice a14 n15 c16))) 5 (sV (Value.slice a14 n15 c16))) V0 h13)))))))))))) := by kernel_rfl
theorem F31_r4 (e : Env) (x0 : Option Addr) (hp : HP) (K : Env → PV → HP → Prop) : RW Try.prog 39 [] (opsAt Try.f31 [1, 1, 0, 1, 0, 0, 1, 1]) (List.range 8) (upd e 0 (sV (Value.pointer x0))) V0 hp K =
    (CF Try.prog 42 [(Value.pointer x0)] hp fun u1 h2 => (tup3V u1 fun u3 u4 u5 => (intV u3 .i64 fun i6 => (intV u4 .i64 fun i7 => (boolV u5 fun q8 => (K (upd (upd (upd (upd (upd (upd (upd (upd (upd e 0 (sV (Value.pointer x0))) 22 (sV (Value.pointer x0))) 23 (sV (Value.tuple ⟨[(Value.int .i64 i6), (Value.int .i64 i7), (Value.bool q8)]⟩))) 21 (sV (Value.tuple ⟨[(Value.int .i64 i6), (Value.int .i64 i7), (Value.bool q8)]⟩))) 24 (sI (i6))) 25 (sI (i7))) 26 (sB (q8))) 7 (sI (i7))) 8 (sB (q8))) V0 h2)))))) := by kernel_rfl
def F31_j4 (x0 : Option Addr) (x1 : Int) (x5a : Option Addr) (x5n : Nat) (x5c : Nat) (x20 : Bool) (hp : HP) (I3 : ((Option Addr) × Nat × Nat × Int × Bool) → HP → Prop) (K : Value → HP → Prop) : Prop :=
  (ite2 x20 (ptrN x0 fun b_1 o_2 => (ldV (HP.cell hp b_1 (o_2 + 0)) fun v_3 => (ptrV v_3 fun p_4 => (CF Try.prog 85 [(Value.iface 140 (Value.pointer p_4))] hp fun u_5 h_6 => (rdS Try.prog (Instr.typeAssert u_5 20 148 false) h_6 fun u_7 => (aggV u_7 fun l_8 => (ldV (l_8)[0]? fun v_9 => (intV v_9 .i64 fun i_10 => (∀ b_11 : Nat, h_6 b_11 = .none → (opS Try.prog (Builtin.append_ #[24, 24] 24 ⟨[(Value.slice x5a x5n x5c), (Value.slice (some ⟨b_11, 0, none⟩) 1 1)]⟩) (HP.set h_6 b_11 (.cells 3 [(Value.int .i64 i_10)] 0)) fun u_12 h_13 => (slcV u_12 fun a_14 n_15 c_16 => (CF Try.prog 42 [(Value.pointer x0)] h_13 fun u_17 h_18 => (tup3V u_17 fun u_19 u_20 u_21 => (intV u_19 .i64 fun i_22 => (intV u_20 .i64 fun i_23 => (boolV u_21 fun q_24 => (I3 (a_14, n_15, c_16, i_23, q_24) h_18))))))))))))))))) (F31_j1 x5a x5n x5c hp  K))
theorem F31_r5 (e : Env) (x1 : Int) (x7 : Int) (x8 : Bool) (hp : HP) (K : Env → PV → HP → Prop) : RW Try.prog 39 [] (opsAt Try.f31 [1, 1, 0, 1, 0, 0, 0, 0]) (List.range 6) (upd (upd (upd e 8 (sB (x8))) 7 (sI (x7))) 1 (sI (x1))) V0 hp K =
    (ite2 x8 (K (upd (upd (upd (upd (upd (upd (upd (upd (upd e 8 (sB (x8))) 7 (sI (x7))) 1 (sI (x1))) 15 (sB (x8))) 16 (sB (true))) 17 (sI (x7))) 18 (sI (x1))) 19 (sB ((decide ((x7 : Int) ≤ x1))))) 20 (sB ((decide ((x7 : Int) ≤ x1))))) V0 hp) (K (upd (upd (upd (upd (upd (upd (upd (upd (upd e 8 (sB (x8))) 7 (sI (x7))) 1 (sI (x1))) 15 (sB (x8))) 16 (sB (false))) 17 (sV undef)) 18 (sV undef)) 19 (sV undef)) 20 (sB (false))) V0 hp)) := by kernel_rfl
def F31_l3 (x0 : Option Addr) (x1 : Int) (K : Value → HP → Prop) (I3 : ((Option Addr) × Nat × Nat × Int × Bool) → HP → Prop) (x5a : Option Addr) (x5n : Nat) (x5c : Nat) (x7 : Int) (x8 : Bool) (hp : HP) : Prop :=
  (ite2 x8 (F31_j4 x0 x1 x5a x5n x5c (decide ((x7 : Int) ≤ x1)) hp I3 K) (F31_j4 x0 x1 x5a x5n x5c false hp I3 K))
def F31_j2 (x0 : Option Addr) (x1 : Int) (x5a : Option Addr) (x5n : Nat) (x5c : Nat) (x7 : Int) (x8 : Bool) (hp : HP) (K : Value → HP → Prop) : Prop :=
  (LoopP (σ := (Option Addr) × Nat × Nat × Int × Bool) (fun I s hp => F31_l3 x0 x1  K I s.1 s.2.1 s.2.2.1 s.2.2.2.1 s.2.2.2.2 hp) (x5a, x5n, x5c, x7, x8) hp)
theorem F31_r6 (e : Env) (x0 : Option Addr) (hp : HP) (K : Env → PV → HP → Prop) : RW Try.prog 39 [] (opsAt Try.f31 [1, 1, 0, 0]) (List.range 9) (upd e 0 (sV (Value.pointer x0))) V0 hp K =
    (CF Try.prog 42 [(Value.pointer x0)] hp fun u1 h2 => (tup3V u1 fun u3 u4 u5 => (intV u3 .i64 fun i6 => (intV u4 .i64 fun i7 => (boolV u5 fun q8 => (K (upd (upd (upd (upd (upd (upd (upd (upd (upd (upd e 0 (sV (Value.pointer x0))) 10 (sV (Value.pointer x0))) 11 (sV (Value.tuple ⟨[(Value.int .i64 i6), (Value.int .i64 i7), (Value.bool q8)]⟩))) 9 (sV (Value.tuple ⟨[(Value.int .i64 i6), (Value.int .i64 i7), (Value.bool q8)]⟩))) 12 (sI (i6))) 13 (sI (i7))) 14 (sB (q8))) 6 (sI (i6))) 7 (sI (i7))) 8 (sB (q8))) V0 h2)))))) := by kernel_rfl
def F31 (x0 : Option Addr) (x1 : Int) (hp : HP) (K : Value → HP → Prop) : Prop :=
  (CF Try.prog 42 [(Value.pointer x0)] hp fun u_25 h_26 => (tup3V u_25 fun u_27 u_28 u_29 => (intV u_27 .i64 fun i_30 => (intV u_28 .i64 fun i_31 => (boolV u_29 fun q_32 => (F31_j2 x0 x1 none 0 0 i_31 q_32 h_26  K))))))
noncomputable def F31_code : Code := (.seq (.region 0 (opsAt Try.f31 [0]) false) (.seq (.region 1 (opsAt Try.f31 [1, 0]) false) (.seq (.seq (.region 2 (opsAt Try.f31 [1, 1, 0, 0]) false) (.block 0 (.loop (.seq (.seq (.region 3 (opsAt Try.f31 [1, 1, 0, 1, 0, 0, 0, 0]) false) (.cond (.tmp 20) .skip (.exit 0))) (.seq (.block 1 (.region 5 (opsAt Try.f31 [1, 1, 0, 1, 0, 0, 1, 0, 0]) false)) (.region 4 (opsAt Try.f31 [1, 1, 0, 1, 0, 0, 1, 1]) false)))))) (.seq (.region 6 (opsAt Try.f31 [1, 1, 1, 0]) false) .ret))))
theorem F31_body : Try.f31.body = some F31_code := by kernel_rfl
theorem F31_ok (x0 : Option Addr) (x1 : Int) (hp : HP) (K : Value → HP → Prop) (h : F31 x0 x1 hp K) : CF Try.prog 31 [(Value.pointer x0), (Value.int .i64 x1)] hp K := by
 refine .inl ⟨by kernel_rfl, AC.intro (N := 39) Try.func31 F31_body rfl (Nat.le_of_ble_eq_true rfl) ?_⟩
 unfold F31 at h
 unfold F31_code
 refine AWP.seq' ?_
 refine AWP.rgn (F31_r0 (upd (upd E0 1 (sI (x1))) 0 (sV (Value.pointer x0)))  hp _) ?_ (Rv 0 _ (Rv 1 _ (Rn))) (Sc rfl (Sc rfl (Sn))) (Sn)
 refine AWP.seq' ?_
 refine AWP.rgn (F31_r1 (upd (upd E0 1 (sI (x1))) 0 (sV (Value.pointer x0)))  hp _) ?_ (Rv 0 _ (Rv 1 _ (Rn))) (Sc rfl (Sc rfl (Sn))) (Sn)
 refine AWP.seq (fun env pv hp => ∃ (x5a : Option Addr) (x5n : Nat) (x5c : Nat), Sub (upd E0 5 (sV (Value.slice x5a x5n x5c))) env ∧ Sub V0 pv ∧ (F31_j1 x5a x5n x5c hp  K)) ?_ ?_
 ·refine AWP.seq (fun env pv hp => ∃ (x0 : Option Addr) (x1 : Int) (x5a : Option Addr) (x5n : Nat) (x5c : Nat) (x7 : Int) (x8 : Bool), Sub (upd (upd (upd (upd (upd E0 8 (sB (x8))) 7 (sI (x7))) 5 (sV (Value.slice x5a x5n x5c))) 1 (sI (x1))) 0 (sV (Value.pointer x0))) env ∧ Sub V0 pv ∧ (F31_j2 x0 x1 x5a x5n x5c x7 x8 hp  K)) ?_ ?_
  ·refine AWP.rgn (F31_r6 (upd (upd E0 5 (sV (Value.slice none 0 0))) 1 (sI (x1))) x0 hp _) ?_ (Rv 0 _ (Rv 1 _ (Rv 5 _ (Rn)))) (Sc rfl (Sc rfl (Sc rfl (Sn)))) (Sn)
   refine CF_mono h (fun u_25 h_26 h => ?_)
   refine tup3V_mono h (fun u_27 u_28 u_29 h => ?_)
   refine intV_mono h (fun i_30 h => ?_)
   refine intV_mono h (fun i_31 h => ?_)
   refine boolV_mono h (fun q_32 h => ?_)
   exact ⟨x0, x1, none, 0, 0, i_31, q_32, (Sc rfl (Sc rfl (Sc rfl (Sc rfl (Sc rfl (Sn)))))), (Sn), h⟩
  ·rintro env pv hp ⟨x0, x1, x5a, x5n, x5c, x7, x8, he, hv, h⟩
   refine AWP.sub (env' := (upd (upd (upd (upd (upd E0 8 (sB (x8))) 7 (sI (x7))) 5 (sV (Value.slice x5a x5n x5c))) 1 (sI (x1))) 0 (sV (Value.pointer x0)))) (pv' := V0) ?_ (Rv 0 _ (Rv 1 _ (Rv 5 _ (Rv 7 _ (Rv 8 _ (Rn)))))) he hv (HSub.refl _)
   clear he hv
   unfold F31_j2 at h
   refine AWP.block ?_
   refine AWP.loop (σ := (Option Addr) × Nat × Nat × Int × Bool) (fun I s hp => F31_l3 x0 x1  K I s.1 s.2.1 s.2.2.1 s.2.2.2.1 s.2.2.2.2 hp) (fun s => (upd (upd (upd (upd (upd E0 8 (sB (s.2.2.2.2))) 7 (sI (s.2.2.2.1))) 5 (sV (Value.slice s.1 s.2.1 s.2.2.1))) 1 (sI (x1))) 0 (sV (Value.pointer x0)))) (fun s => V0) (x5a, x5n, x5c, x7, x8) h (fun s => (Rv 0 _ (Rv 1 _ (Rv 5 _ (Rv 7 _ (Rv 8 _ (Rn))))))) (Sc rfl (Sc rfl (Sc rfl (Sc rfl (Sc rfl (Sn)))))) (Sn) ?_
   intro I3 s hp h
   obtain ⟨x5a, x5n, x5c, x7, x8⟩ := s
   replace h : F31_l3 x0 x1  K I3 x5a x5n x5c x7 x8 hp := h
   unfold F31_l3 at h
   refine AWP.seq' ?_
   refine AWP.seq (fun env pv hp => ∃ (x5a : Option Addr) (x5n : Nat) (x5c : Nat) (x20 : Bool), Sub (upd (upd (upd (upd E0 20 (sB (x20))) 5 (sV (Value.slice x5a x5n x5c))) 1 (sI (x1))) 0 (sV (Value.pointer x0))) env ∧ Sub V0 pv ∧ (F31_j4 x0 x1 x5a x5n x5c x20 hp I3 K)) ?_ ?_
   ·refine AWP.rgn (F31_r5 (upd (upd E0 5 (sV (Value.slice x5a x5n x5c))) 0 (sV (Value.pointer x0))) x1 x7 x8 hp _) ?_ (Rv 1 _ (Rv 7 _ (Rv 8 _ (Rv 0 _ (Rv 5 _ (Rn)))))) (Sc rfl (Sc rfl (Sc rfl (Sc rfl (Sc rfl (Sn)))))) (Sn)
    refine ite2_mono h (fun h => ?_) (fun h => ?_)
    ·exact ⟨x5a, x5n, x5c, (decide ((x7 : Int) ≤ x1)), (Sc rfl (Sc rfl (Sc rfl (Sc rfl (Sn))))), (Sn), h⟩
    ·exact ⟨x5a, x5n, x5c, false, (Sc rfl (Sc rfl (Sc rfl (Sc rfl (Sn))))), (Sn), h⟩
   ·rintro env pv hp ⟨x5a, x5n, x5c, x20, he, hv, h⟩
    refine AWP.sub (env' := (upd (upd (upd (upd E0 20 (sB (x20))) 5 (sV (Value.slice x5a x5n x5c))) 1 (sI (x1))) 0 (sV (Value.pointer x0)))) (pv' := V0) ?_ (Rv 0 _ (Rv 1 _ (Rv 5 _ (Rv 20 _ (Rn))))) he hv (HSub.refl _)
    clear he hv
    unfold F31_j4 at h
    refine AWP.cond (t := x20) rfl (fun e => ?_) (fun e => ?_)
    ·replace h := ite2_t h e
     refine AWP.skip ?_
     refine AWP.seq' ?_
     refine AWP.block ?_
     refine AWP.rgn (F31_r3 (upd E0 1 (sI (x1))) x0 x5a x5n x5c hp _) ?_ (Rv 0 _ (Rv 5 _ (Rv 1 _ (Rn)))) (Sc rfl (Sc rfl (Sc rfl (Sn)))) (Sn)
     refine ptrN_mono h (fun b_1 o_2 h => ?_)
     refine ldV_mono h (fun v_3 h => ?_)
     refine ptrV_mono h (fun p_4 h => ?_)
     refine CF_mono h (fun u_5 h_6 h => ?_)
     refine rdS_mono h (fun u_7 h => ?_)
     refine aggV_mono h (fun l_8 h => ?_)
     refine ldV_mono h (fun v_9 h => ?_)
     refine intV_mono h (fun i_10 h => ?_)
     refine fun b_11 hb_b_11 => ?_
     replace h := h b_11 hb_b_11
     refine opS_mono h (fun u_12 h_13 h => ?_)
     refine slcV_mono h (fun a_14 n_15 c_16 h => ?_)
     refine AWP.rgn (F31_r4 (upd (upd E0 5 (sV (Value.slice a_14 n_15 c_16))) 1 (sI (x1))) x0 h_13 _) ?_ (Rv 0 _ (Rv 1 _ (Rv 5 _ (Rn)))) (Sc rfl (Sc rfl (Sc rfl (Sn)))) (Sn)
     refine CF_mono h (fun u_17 h_18 h => ?_)
     refine tup3V_mono h (fun u_19 u_20 u_21 h => ?_)
     refine intV_mono h (fun i_22 h => ?_)
     refine intV_mono h (fun i_23 h => ?_)
     refine boolV_mono h (fun q_24 h => ?_)
     exact ⟨(a_14, n_15, c_16, i_23, q_24), (Sc rfl (Sc rfl (Sc rfl (Sc rfl (Sc rfl (Sn)))))), (Sn), h⟩
    ·replace h := ite2_f h e
     refine AWP.exit ?_
     exact ⟨x5a, x5n, x5c, (Sc rfl (Sn)), (Sn), h⟩
 ·rintro env pv hp ⟨x5a, x5n, x5c, he, hv, h⟩
  refine AWP.sub (env' := (upd E0 5 (sV (Value.slice x5a x5n x5c)))) (pv' := V0) ?_ (Rv 5 _ (Rn)) he hv (HSub.refl _)
  clear he hv
  unfold F31_j1 at h
  refine AWP.seq' ?_
  refine AWP.rgn (F31_r2 E0 x5a x5n x5c hp _) ?_ (Rv 5 _ (Rn)) (Sc rfl (Sn)) (Sn)
  refine AWP.ret ?_
  exact h
-- 33 (*interpreter/expiry.Queue).All
theorem F33_r0 (e : Env) (hp : HP) (K : Env → PV → HP → Prop) : RW Try.prog 32 [6, 26] (opsAt Try.f33 [0]) (List.range 1) e V0 hp K =
    (K (upd e 2 (sV (Value.slice none 0 0))) V0 hp) := by kernel_rfl
theorem F33_r1 (e : Env) (x0 : Option Addr) (hp : HP) (K : Env → PV → HP → Prop) : RW Try.prog 32 [6, 26] (opsAt Try.f33 [1, 0, 0]) (List.range 2) (upd e 0 (sV (Value.pointer x0))) V0 hp K =
    (CF Try.prog 82 [(Value.pointer x0)] hp fun u1 h2 => (boolV u1 fun q3 => (K (upd (upd (upd e 0 (sV (Value.pointer x0))) 7 (sV (Value.pointer x0))) 8 (sB (q3))) V0 h2))) := by kernel_rfl
theorem F33_r2 (e : Env) (hp : HP) (K : Env → PV → HP → Prop) : RW Try.prog 32 [6, 26] (opsAt Try.f33 [1, 0, 1, 0, 0]) (List.range 1) e V0 hp K =
    (K (upd e 2 (sV (Value.slice none 0 0))) V0 hp) := by kernel_rfl
theorem F33_r3 (e : Env) (x0 : Option Addr) (hp : HP) (K : Env → PV → HP → Prop) : RW Try.prog 32 [6, 26] (opsAt Try.f33 [1, 1, 0]) (List.range 9) (upd e 0 (sV (Value.pointer x0))) V0 hp K =
    (ptrN x0 fun b1 o2 => (ldV (HP.cell hp b1 (o2 + 0)) fun v3 => (ptrV v3 fun p4 => (ptrN p4 fun b5 o6 => (ldV (HP.cell hp b5 (o6 + 0)) fun v7 => (slcV v7 fun a8 n9 c10 => (CF Try.prog 86 [(Value.slice a8 n9 c10)] hp fun u11 h12 => (slcV u11 fun a13 n14 c15 => (K (upd (upd (upd (upd (upd (upd (upd (upd (upd (upd e 0 (sV (Value.pointer x0))) 9 (sV (Value.pointer x0))) 10 (sV (ptr b1 o2))) 11 (sV (ptr b1 (o2 + 0)))) 12 (sV (Value.pointer p4))) 13 (sV (ptr b5 o6))) 14 (sV (ptr b5 (o6 + 0)))) 15 (sV (Value.slice a8 n9 c10))) 16 (sV (Value.slice a13 n14 c15))) 3 (sV (Value.slice a13 n14 c15))) V0 h12))))))))) := by kernel_rfl
theorem F33_r4 (e : Env) (x3a : Option Addr) (x3n : Nat) (x3c : Nat) (hp : HP) (K : Env → PV → HP → Prop) : RW Try.prog 32 [6, 26] (opsAt Try.f33 [1, 1, 1, 0]) (List.range 2) (upd e 3 (sV (Value.slice x3a x3n x3c))) V0 hp K =
    (CF Try.prog 87 [(Value.slice x3a x3n x3c), (Value.func (.func 88) ⟨[]⟩ ⟨[]⟩)] hp fun u1 h2 => (K (upd (upd (upd e 3 (sV (Value.slice x3a x3n x3c))) 17 (sV (Value.slice x3a x3n x3c))) 18 (sV u1)) V0 h2)) := by kernel_rfl
theorem F33_r5 (e : Env) (hp : HP) (K : Env → PV → HP → Prop) : RW Try.prog 32 [6, 26] (opsAt Try.f33 [1, 1, 1, 1, 0]) (List.range 1) e V0 hp K =
    (K (upd e 4 (sV (Value.slice none 0 0))) V0 hp) := by kernel_rfl
theorem F33_r6 (e : Env) (x4a : Option Addr) (x4n : Nat) (x4c : Nat) (hp : HP) (K : Env → PV → HP → Prop) : RW Try.prog 32 [6, 26] (opsAt Try.f33 [1, 1, 1, 1, 1, 1, 0]) (List.range 2) (upd e 4 (sV (Value.slice x4a x4n x4c))) V0 hp K =
    (K (upd (upd (upd e 4 (sV (Value.slice x4a x4n x4c))) 31 (sV (Value.slice x4a x4n x4c))) 2 (sV (Value.slice x4a x4n x4c))) V0 hp) := by kernel_rfl
def F33_j1 (x4a : Option Addr) (x4n : Nat) (x4c : Nat) (hp : HP) (K : Value → HP → Prop) : Prop :=
  (K (Value.slice x4a x4n x4c) hp)
theorem F33_r7 (e : Env) (x20 : Int) (x21 : Int) (hp : HP) (K : Env → PV → HP → Prop) : RW Try.prog 32 [6, 26] (opsAt Try.f33 [1, 1, 1, 1, 1, 0, 1, 0, 0, 0]) (List.range 1) (upd (upd e 21 (sI (x21))) 20 (sI (x20))) V0 hp K =
    (K (upd (upd (upd e 21 (sI (x21))) 20 (sI (x20))) 22 (sB ((decide ((x21 : Int) < x20))))) V0 hp) := by kernel_rfl
theorem F33_r8 (e : Env) (x19a : Option Addr) (x19n : Nat) (x19c : Nat) (x21 : Int) (hp : HP) (K : Env → PV → HP → Prop) : RW Try.prog 32 [6, 26] (opsAt Try.f33 [1, 1, 1, 1, 1, 0, 1, 0, 0, 1, 1, 0, 0, 0]) (List.range 4) (upd (upd e 21 (sI (x21))) 19 (sV (Value.slice x19a x19n x19c))) V0 hp K =
    ((0 ≤ (x21 : Int)) ∧ ((x21 : Int) < (x19n : Nat)) ∧ (ptrN x19a fun b1 o2 => (ldL (HP.cellN hp b1 (o2 + Int.toNat x21 * 2) 2) fun l3 => (if List.length l3 = 2 then (if List.all l3 one = true then (if 0 + List.length l3 ≤ List.length [(Value.int .i64 0), (Value.int .i64 0)] then (K (upd (upd (upd (upd (upd e 21 (sI (x21))) 19 (sV (Value.slice x19a x19n x19c))) 23 (sV (ptr b1 (o2 + Int.toNat x21 * 2)))) 24 (sV (Value.agg ⟨l3⟩))) 6 (SV.priv 6 0)) (upd (upd V0 6 (148, [(Value.int .i64 0), (Value.int .i64 0)])) 6 (148, (splice [(Value.int .i64 0), (Value.int .i64 0)] 0 l3))) hp) else False) else False) else False)))) := by kernel_rfl
theorem F33_r9 (e : Env) (x4a : Option Addr) (x4n : Nat) (x4c : Nat) (k6 : List Value) (hp : HP) (K : Env → PV → HP → Prop) : RW Try.prog 32 [6, 26] (opsAt Try.f33 [1, 1, 1, 1, 1, 0, 1, 0, 0, 1, 1, 0, 0, 1]) (List.range 6) (upd (upd e 6 (SV.priv 6 0)) 4 (sV (Value.slice x4a x4n x4c))) (upd V0 6 (148, k6)) hp K =
    (ldV (k6)[0]? fun v1 => (intV v1 .i64 fun i2 => (∀ b3 : Nat, hp b3 = .none → (opS Try.prog (Builtin.append_ #[24, 24] 24 ⟨[(Value.slice x4a x4n x4c), (Value.slice (some ⟨b3, 0, none⟩) 1 1)]⟩) (HP.set hp b3 (.cells 3 [(Value.int .i64 i2)] 0)) fun u4 h5 => (slcV u4 fun a6 n7 c8 => (K (upd (upd (upd (upd (upd (upd (upd (upd e 6 (SV.priv 6 0)) 4 (sV (Value.slice x4a x4n x4c))) 25 (sV (Value.slice x4a x4n x4c))) 26 (SV.priv 6 0)) 27 (sI (i2))) 28 (sV (Value.slice (some ⟨b3, 0, none⟩) 1 1))) 29 (sV (Value.slice a6 n7 c8))) 4 (sV (Value.slice a6 n7 c8))) (upd V0 6 (148, k6)) h5)))))) := by kernel_rfl
theorem F33_r10 (e : Env) (x21 : Int) (hp : HP) (K : Env → PV → HP → Prop) : RW Try.prog 32 [6, 26] (opsAt Try.f33 [1, 1, 1, 1, 1, 0, 1, 0, 0, 1, 1, 1]) (List.range 2) (upd e 21 (sI (x21))) V0 hp K =
    (K (upd (upd (upd e 21 (sI (x21))) 30 (sI ((IntKind.wrap .i64 (x21 + 1))))) 21 (sI ((IntKind.wrap .i64 (x21 + 1))))) V0 hp) := by kernel_rfl
def F33_l3 (x19a : Option Addr) (x19n : Nat) (x19c : Nat) (x20 : Int) (K : Value → HP → Prop) (I3 : ((Option Addr) × Nat × Nat × Int) → HP → Prop) (x4a : Option Addr) (x4n : Nat) (x4c : Nat) (x21 : Int) (hp : HP) : Prop :=
  (ite2 (decide ((x21 : Int) < x20)) ((0 ≤ (x21 : Int)) ∧ ((x21 : Int) < (x19n : Nat)) ∧ (ptrN x19a fun b_21 o_22 => (ldL (HP.cellN hp b_21 (o_22 + Int.toNat x21 * 2) 2) fun l_23 => (if List.length l_23 = 2 then (if List.all l_23 one = true then (if 0 + List.length l_23 ≤ List.length [(Value.int .i64 0), (Value.int .i64 0)] then (ldV ((splice [(Value.int .i64 0), (Value.int .i64 0)] 0 l_23))[0]? fun v_24 => (intV v_24 .i64 fun i_25 => (∀ b_26 : Nat, hp b_26 = .none → (opS Try.prog (Builtin.append_ #[24, 24] 24 ⟨[(Value.slice x4a x4n x4c), (Value.slice (some ⟨b_26, 0, none⟩) 1 1)]⟩) (HP.set hp b_26 (.cells 3 [(Value.int .i64 i_25)] 0)) fun u_27 h_28 => (slcV u_27 fun a_29 n_30 c_31 => (I3 (a_29, n_30, c_31, (IntKind.wrap .i64 (x21 + 1))) h_28)))))) else False) else False) else False)))) (F33_j1 x4a x4n x4c hp  K))
def F33_j2 (x4a : Option Addr) (x4n : Nat) (x4c : Nat) (x19a : Option Addr) (x19n : Nat) (x19c : Nat) (x20 : Int) (x21 : Int) (hp : HP) (K : Value → HP → Prop) : Prop :=
  (LoopP (σ := (Option Addr) × Nat × Nat × Int) (fun I s hp => F33_l3 x19a x19n x19c x20  K I s.1 s.2.1 s.2.2.1 s.2.2.2 hp) (x4a, x4n, x4c, x21) hp)
theorem F33_r11 (e : Env) (x3a : Option Addr) (x3n : Nat) (x3c : Nat) (hp : HP) (K : Env → PV → HP → Prop) : RW Try.prog 32 [6, 26] (opsAt Try.f33 [1, 1, 1, 1, 1, 0, 0]) (List.range 3) (upd e 3 (sV (Value.slice x3a x3n x3c))) V0 hp K =
    (K (upd (upd (upd (upd e 3 (sV (Value.slice x3a x3n x3c))) 19 (sV (Value.slice x3a x3n x3c))) 20 (sI ((x3n : Nat)))) 21 (sI (0))) V0 hp) := by kernel_rfl
def F33 (x0 : Option Addr) (hp : HP) (K : Value → HP → Prop) : Prop :=
  (CF Try.prog 82 [(Value.pointer x0)] hp fun u_1 h_2 => (boolV u_1 fun q_3 => (ite2 q_3 (K (Value.slice none 0 0) h_2) (ptrN x0 fun b_4 o_5 => (ldV (HP.cell h_2 b_4 (o_5 + 0)) fun v_6 => (ptrV v_6 fun p_7 => (ptrN p_7 fun b_8 o_9 => (ldV (HP.cell h_2 b_8 (o_9 + 0)) fun v_10 => (slcV v_10 fun a_11 n_12 c_13 => (CF Try.prog 86 [(Value.slice a_11 n_12 c_13)] h_2 fun u_14 h_15 => (slcV u_14 fun a_16 n_17 c_18 => (CF Try.prog 87 [(Value.slice a_16 n_17 c_18), (Value.func (.func 88) ⟨[]⟩ ⟨[]⟩)] h_15 fun u_19 h_20 => (F33_j2 none 0 0 a_16 n_17 c_18 (n_17 : Nat) 0 h_20  K)))))))))))))
noncomputable def F33_code : Code := (.seq (.region 0 (opsAt Try.f33 [0]) false) (.seq (.seq (.region 1 (opsAt Try.f33 [1, 0, 0]) false) (.cond (.tmp 8) (.seq (.region 2 (opsAt Try.f33 [1, 0, 1, 0, 0]) false) .ret) .skip)) (.seq (.region 3 (opsAt Try.f33 [1, 1, 0]) false) (.seq (.region 4 (opsAt Try.f33 [1, 1, 1, 0]) false) (.seq (.region 5 (opsAt Try.f33 [1, 1, 1, 1, 0]) false) (.seq (.seq (.region 6 (opsAt Try.f33 [1, 1, 1, 1, 1, 0, 0]) false) (.block 0 (.loop (.seq (.region 7 (opsAt Try.f33 [1, 1, 1, 1, 1, 0, 1, 0, 0, 0]) false) (.seq (.cond (.tmp 22) .skip (.exit 0)) (.seq (.block 1 (.seq (.region 8 (opsAt Try.f33 [1, 1, 1, 1, 1, 0, 1, 0, 0, 1, 1, 0, 0, 0]) false) (.region 9 (opsAt Try.f33 [1, 1, 1, 1, 1, 0, 1, 0, 0, 1, 1, 0, 0, 1]) false))) (.region 10 (opsAt Try.f33 [1, 1, 1, 1, 1, 0, 1, 0, 0, 1, 1, 1]) false))))))) (.seq (.region 11 (opsAt Try.f33 [1, 1, 1, 1, 1, 1, 0]) false) .ret)))))))
theorem F33_body : Try.f33.body = some F33_code := by kernel_rfl
theorem F33_ok (x0 : Option Addr) (hp : HP) (K : Value → HP → Prop) (h : F33 x0 hp K) : CF Try.prog 33 [(Value.pointer x0)] hp K := by
 refine .inl ⟨by kernel_rfl, AC.intro (N := 32) Try.func33 F33_body rfl (Nat.le_of_ble_eq_true rfl) ?_⟩
 unfold F33 at h
 unfold F33_code
 refine AWP.seq' ?_
 refine AWP.rgn (F33_r0 (upd E0 0 (sV (Value.pointer x0)))  hp _) ?_ (Rv 0 _ (Rn)) (Sc rfl (Sn)) (Sn)
 refine AWP.seq' ?_
 refine AWP.seq' ?_
 refine AWP.rgn (F33_r1 E0 x0 hp _) ?_ (Rv 0 _ (Rn)) (Sc rfl (Sn)) (Sn)
 refine CF_mono h (fun u_1 h_2 h => ?_)
 refine boolV_mono h (fun q_3 h => ?_)
 refine AWP.cond (t := q_3) rfl (fun e => ?_) (fun e => ?_)
 ·replace h := ite2_t h e
  refine AWP.seq' ?_
  refine AWP.rgn (F33_r2 E0  h_2 _) ?_ (Rn) (Sn) (Sn)
  refine AWP.ret ?_
  exact h
 ·replace h := ite2_f h e
  refine AWP.skip ?_
  refine AWP.seq' ?_
  refine AWP.rgn (F33_r3 E0 x0 h_2 _) ?_ (Rv 0 _ (Rn)) (Sc rfl (Sn)) (Sn)
  refine ptrN_mono h (fun b_4 o_5 h => ?_)
  refine ldV_mono h (fun v_6 h => ?_)
  refine ptrV_mono h (fun p_7 h => ?_)
  refine ptrN_mono h (fun b_8 o_9 h => ?_)
  refine ldV_mono h (fun v_10 h => ?_)
  refine slcV_mono h (fun a_11 n_12 c_13 h => ?_)
  refine CF_mono h (fun u_14 h_15 h => ?_)
  refine slcV_mono h (fun a_16 n_17 c_18 h => ?_)
  refine AWP.seq' ?_
  refine AWP.rgn (F33_r4 E0 a_16 n_17 c_18 h_15 _) ?_ (Rv 3 _ (Rn)) (Sc rfl (Sn)) (Sn)
  refine CF_mono h (fun u_19 h_20 h => ?_)
  refine AWP.seq' ?_
  refine AWP.rgn (F33_r5 (upd E0 3 (sV (Value.slice a_16 n_17 c_18)))  h_20 _) ?_ (Rv 3 _ (Rn)) (Sc rfl (Sn)) (Sn)
  refine AWP.seq (fun env pv hp => ∃ (x4a : Option Addr) (x4n : Nat) (x4c : Nat), Sub (upd E0 4 (sV (Value.slice x4a x4n x4c))) env ∧ Sub V0 pv ∧ (F33_j1 x4a x4n x4c hp  K)) ?_ ?_
  ·refine AWP.seq (fun env pv hp => ∃ (x4a : Option Addr) (x4n : Nat) (x4c : Nat) (x19a : Option Addr) (x19n : Nat) (x19c : Nat) (x20 : Int) (x21 : Int), Sub (upd (upd (upd (upd E0 21 (sI (x21))) 20 (sI (x20))) 19 (sV (Value.slice x19a x19n x19c))) 4 (sV (Value.slice x4a x4n x4c))) env ∧ Sub V0 pv ∧ (F33_j2 x4a x4n x4c x19a x19n x19c x20 x21 hp  K)) ?_ ?_
   ·refine AWP.rgn (F33_r11 (upd E0 4 (sV (Value.slice none 0 0))) a_16 n_17 c_18 h_20 _) ?_ (Rv 3 _ (Rv 4 _ (Rn))) (Sc rfl (Sc rfl (Sn))) (Sn)
    exact ⟨none, 0, 0, a_16, n_17, c_18, (n_17 : Nat), 0, (Sc rfl (Sc rfl (Sc rfl (Sc rfl (Sn))))), (Sn), h⟩
   ·rintro env pv hp ⟨x4a, x4n, x4c, x19a, x19n, x19c, x20, x21, he, hv, h⟩
    refine AWP.sub (env' := (upd (upd (upd (upd E0 21 (sI (x21))) 20 (sI (x20))) 19 (sV (Value.slice x19a x19n x19c))) 4 (sV (Value.slice x4a x4n x4c)))) (pv' := V0) ?_ (Rv 4 _ (Rv 19 _ (Rv 20 _ (Rv 21 _ (Rn))))) he hv (HSub.refl _)
    clear he hv
    unfold F33_j2 at h
    refine AWP.block ?_
    refine AWP.loop (σ := (Option Addr) × Nat × Nat × Int) (fun I s hp => F33_l3 x19a x19n x19c x20  K I s.1 s.2.1 s.2.2.1 s.2.2.2 hp) (fun s => (upd (upd (upd (upd E0 21 (sI (s.2.2.2))) 20 (sI (x20))) 19 (sV (Value.slice x19a x19n x19c))) 4 (sV (Value.slice s.1 s.2.1 s.2.2.1)))) (fun s => V0) (x4a, x4n, x4c, x21) h (fun s => (Rv 4 _ (Rv 19 _ (Rv 20 _ (Rv 21 _ (Rn)))))) (Sc rfl (Sc rfl (Sc rfl (Sc rfl (Sn))))) (Sn) ?_
    intro I3 s hp h
    obtain ⟨x4a, x4n, x4c, x21⟩ := s
    replace h : F33_l3 x19a x19n x19c x20  K I3 x4a x4n x4c x21 hp := h
    unfold F33_l3 at h
    refine AWP.seq' ?_
    refine AWP.rgn (F33_r7 (upd (upd E0 19 (sV (Value.slice x19a x19n x19c))) 4 (sV (Value.slice x4a x4n x4c))) x20 x21 hp _) ?_ (Rv 20 _ (Rv 21 _ (Rv 4 _ (Rv 19 _ (Rn))))) (Sc rfl (Sc rfl (Sc rfl (Sc rfl (Sn))))) (Sn)
    refine AWP.seq' ?_
    refine AWP.cond (t := (decide ((x21 : Int) < x20))) rfl (fun e => ?_) (fun e => ?_)
    ·replace h := ite2_t h e
     refine AWP.skip ?_
     refine AWP.seq' ?_
     refine AWP.block ?_
     refine AWP.seq' ?_
     refine AWP.rgn (F33_r8 (upd (upd E0 20 (sI (x20))) 4 (sV (Value.slice x4a x4n x4c))) x19a x19n x19c x21 hp _) ?_ (Rv 19 _ (Rv 21 _ (Rv 4 _ (Rv 20 _ (Rn))))) (Sc rfl (Sc rfl (Sc rfl (Sc rfl (Sn))))) (Sn)
     refine ⟨h.1, h.2.1, ?_⟩
     replace h := h.2.2
     refine ptrN_mono h (fun b_21 o_22 h => ?_)
     refine ldL_mono h (fun l_23 h => ?_)
     refine if_mono h (fun h => ?_)
     refine if_mono h (fun h => ?_)
     refine if_mono h (fun h => ?_)
     refine AWP.rgn (F33_r9 (upd (upd (upd E0 21 (sI (x21))) 20 (sI (x20))) 19 (sV (Value.slice x19a x19n x19c))) x4a x4n x4c (splice [(Value.int .i64 0), (Value.int .i64 0)] 0 l_23) hp _) ?_ (Rv 4 _ (RefOk.p 6 6 0 (Rv 19 _ (Rv 20 _ (Rv 21 _ (Rn)))) (fun e => by cases e))) (Sc rfl (Sc rfl (Sc rfl (Sc rfl (Sc rfl (Sn)))))) (Sc rfl (Sn))
     refine ldV_mono h (fun v_24 h => ?_)
     refine intV_mono h (fun i_25 h => ?_)
     refine fun b_26 hb_b_26 => ?_
     replace h := h b_26 hb_b_26
     refine opS_mono h (fun u_27 h_28 h => ?_)
     refine slcV_mono h (fun a_29 n_30 c_31 h => ?_)
     refine AWP.rgn (F33_r10 (upd (upd (upd E0 20 (sI (x20))) 19 (sV (Value.slice x19a x19n x19c))) 4 (sV (Value.slice a_29 n_30 c_31))) x21 h_28 _) ?_ (Rv 21 _ (Rv 4 _ (Rv 19 _ (Rv 20 _ (Rn))))) (Sc rfl (Sc rfl (Sc rfl (Sc rfl (Sn))))) (Sn)
     exact ⟨(a_29, n_30, c_31, (IntKind.wrap .i64 (x21 + 1))), (Sc rfl (Sc rfl (Sc rfl (Sc rfl (Sn))))), (Sn), h⟩
    ·replace h := ite2_f h e
     refine AWP.exit ?_
     exact ⟨x4a, x4n, x4c, (Sc rfl (Sn)), (Sn), h⟩
  ·rintro env pv hp ⟨x4a, x4n, x4c, he, hv, h⟩
   refine AWP.sub (env' := (upd E0 4 (sV (Value.slice x4a x4n x4c)))) (pv' := V0) ?_ (Rv 4 _ (Rn)) he hv (HSub.refl _)
   clear he hv
   unfold F33_j1 at h
   refine AWP.seq' ?_
   refine AWP.rgn (F33_r6 E0 x4a x4n x4c hp _) ?_ (Rv 4 _ (Rn)) (Sc rfl (Sn)) (Sn)
   refine AWP.ret ?_
   exact h
-- 34 (*interpreter/expiry.Queue).Drop
theorem F34_r0 (e : Env) (hp : HP) (K : Env → PV → HP → Prop) : RW Try.prog 30 [] (opsAt Try.f34 [0]) (List.range 1) e V0 hp K =
    (K (upd e 4 (sB (false))) V0 hp) := by kernel_rfl
theorem F34_r1 (e : Env) (x0 : Option Addr) (hp : HP) (K : Env → PV → HP → Prop) : RW Try.prog 30 [] (opsAt Try.f34 [1, 0, 0]) (List.range 2) (upd e 0 (sV (Value.pointer x0))) V0 hp K =
    (CF Try.prog 82 [(Value.pointer x0)] hp fun u1 h2 => (boolV u1 fun q3 => (K (upd (upd (upd e 0 (sV (Value.pointer x0))) 7 (sV (Value.pointer x0))) 8 (sB (q3))) V0 h2))) := by kernel_rfl
theorem F34_r2 (e : Env) (hp : HP) (K : Env → PV → HP → Prop) : RW Try.prog 30 [] (opsAt Try.f34 [1, 0, 1, 0, 0]) (List.range 1) e V0 hp K =
    (K (upd e 4 (sB (false))) V0 hp) := by kernel_rfl
theorem F34_r3 (e : Env) (x0 : Option Addr) (x1 : Int) (hp : HP) (K : Env → PV → HP → Prop) : RW Try.prog 30 [] (opsAt Try.f34 [1, 1, 0]) (List.range 14) (upd (upd e 1 (sI (x1))) 0 (sV (Value.pointer x0))) V0 hp K =
    (ptrN x0 fun b1 o2 => (ldV (HP.cell hp b1 (o2 + 0)) fun v3 => (ptrV v3 fun p4 => (ptrN p4 fun b5 o6 => (ldV (HP.cell hp b5 (o6 + 1)) fun v7 => (mapV v7 fun m8 => (rdS Try.prog (Instr.lookup 49 (Value.map m8) (Value.int .i64 x1) true) hp fun u9 => (tup2V u9 fun u10 u11 => (intV u10 .i64 fun i12 => (boolV u11 fun q13 => (K (upd (upd (upd (upd (upd (upd (upd (upd (upd (upd (upd (upd (upd (upd (upd (upd e 1 (sI (x1))) 0 (sV (Value.pointer x0))) 10 (sV (Value.pointer x0))) 11 (sV (ptr b1 o2))) 12 (sV (ptr b1 (o2 + 0)))) 13 (sV (Value.pointer p4))) 14 (sV (ptr b5 o6))) 15 (sV (ptr b5 (o6 + 1)))) 16 (sV (Value.map m8))) 17 (sI (x1))) 18 (sV (Value.tuple ⟨[(Value.int .i64 i12), (Value.bool q13)]⟩))) 9 (sV (Value.tuple ⟨[(Value.int .i64 i12), (Value.bool q13)]⟩))) 19 (sI (i12))) 20 (sB (q13))) 5 (sI (i12))) 6 (sB (q13))) V0 hp))))))))))) := by kernel_rfl
theorem F34_r4 (e : Env) (x6 : Bool) (hp : HP) (K : Env → PV → HP → Prop) : RW Try.prog 30 [] (opsAt Try.f34 [1, 1, 1, 1, 0]) (List.range 2) (upd e 6 (sB (x6))) V0 hp K =
    (K (upd (upd (upd e 6 (sB (x6))) 29 (sB (x6))) 4 (sB (x6))) V0 hp) := by kernel_rfl
def F34_j1 (x6 : Bool) (hp : HP) (K : Value → HP → Prop) : Prop :=
  (K (Value.bool x6) hp)
theorem F34_r5 (e : Env) (x6 : Bool) (hp : HP) (K : Env → PV → HP → Prop) : RW Try.prog 30 [] (opsAt Try.f34 [1, 1, 1, 0, 0]) (List.range 1) (upd e 6 (sB (x6))) V0 hp K =
    (K (upd (upd e 6 (sB (x6))) 21 (sB (x6))) V0 hp) := by kernel_rfl
theorem F34_r6 (e : Env) (x0 : Option Addr) (x5 : Int) (hp : HP) (K : Env → PV → HP → Prop) : RW Try.prog 30 [] (opsAt Try.f34 [1, 1, 1, 0, 1, 0]) (List.range 7) (upd (upd e 5 (sI (x5))) 0 (sV (Value.pointer x0))) V0 hp K =
    (ptrN x0 fun b1 o2 => (ldV (HP.cell hp b1 (o2 + 0)) fun v3 => (ptrV v3 fun p4 => (CF Try.prog 90 [(Value.iface 140 (Value.pointer p4)), (Value.int .i64 x5)] hp fun u5 h6 => (K (upd (upd (upd (upd (upd (upd (upd (upd (upd e 5 (sI (x5))) 0 (sV (Value.pointer x0))) 22 (sV (Value.pointer x0))) 23 (sV (ptr b1 o2))) 24 (sV (ptr b1 (o2 + 0)))) 25 (sV (Value.pointer p4))) 26 (sV (Value.iface 140 (Value.pointer p4)))) 27 (sI (x5))) 28 (sV u5)) V0 h6))))) := by kernel_rfl
def F34 (x0 : Option Addr) (x1 : Int) (hp : HP) (K : Value → HP → Prop) : Prop :=
  (CF Try.prog 82 [(Value.pointer x0)] hp fun u_1 h_2 => (boolV u_1 fun q_3 => (ite2 q_3 (K (Value.bool false) h_2) (ptrN x0 fun b_4 o_5 => (ldV (HP.cell h_2 b_4 (o_5 + 0)) fun v_6 => (ptrV v_6 fun p_7 => (ptrN p_7 fun b_8 o_9 => (ldV (HP.cell h_2 b_8 (o_9 + 1)) fun v_10 => (mapV v_10 fun m_11 => (rdS Try.prog (Instr.lookup 49 (Value.map m_11) (Value.int .i64 x1) true) h_2 fun u_12 => (tup2V u_12 fun u_13 u_14 => (intV u_13 .i64 fun i_15 => (boolV u_14 fun q_16 => (ite2 q_16 (ptrN x0 fun b_17 o_18 => (ldV (HP.cell h_2 b_17 (o_18 + 0)) fun v_19 => (ptrV v_19 fun p_20 => (CF Try.prog 90 [(Value.iface 140 (Value.pointer p_20)), (Value.int .i64 i_15)] h_2 fun u_21 h_22 => (F34_j1 q_16 h_22  K))))) (F34_j1 q_16 h_2  K)))))))))))))))
noncomputable def F34_code : Code := (.seq (.region 0 (opsAt Try.f34 [0]) false) (.seq (.seq (.region 1 (opsAt Try.f34 [1, 0, 0]) false) (.cond (.tmp 8) (.seq (.region 2 (opsAt Try.f34 [1, 0, 1, 0, 0]) false) .ret) .skip)) (.seq (.region 3 (opsAt Try.f34 [1, 1, 0]) false) (.seq (.seq (.region 4 (opsAt Try.f34 [1, 1, 1, 0, 0]) false) (.cond (.tmp 21) (.region 5 (opsAt Try.f34 [1, 1, 1, 0, 1, 0]) false) .skip)) (.seq (.region 6 (opsAt Try.f34 [1, 1, 1, 1, 0]) false) .ret)))))
theorem F34_body : Try.f34.body = some F34_code := by kernel_rfl
theorem F34_ok (x0 : Option Addr) (x1 : Int) (hp : HP) (K : Value → HP → Prop) (h : F34 x0 x1 hp K) : CF Try.prog 34 [(Value.pointer x0), (Value.int .i64 x1)] hp K := by
 refine .inl ⟨by kernel_rfl, AC.intro (N := 30) Try.func34 F34_body rfl (Nat.le_of_ble_eq_true rfl) ?_⟩
 unfold F34 at h
 unfold F34_code
 refine AWP.seq' ?_
 refine AWP.rgn (F34_r0 (upd (upd E0 1 (sI (x1))) 0 (sV (Value.pointer x0)))  hp _) ?_ (Rv 0 _ (Rv 1 _ (Rn))) (Sc rfl (Sc rfl (Sn))) (Sn)
 refine AWP.seq' ?_
 refine AWP.seq' ?_
 refine AWP.rgn (F34_r1 (upd E0 1 (sI (x1))) x0 hp _) ?_ (Rv 0 _ (Rv 1 _ (Rn))) (Sc rfl (Sc rfl (Sn))) (Sn)
 refine CF_mono h (fun u_1 h_2 h => ?_)
 refine boolV_mono h (fun q_3 h => ?_)
 refine AWP.cond (t := q_3) rfl (fun e => ?_) (fun e => ?_)
 ·replace h := ite2_t h e
  refine AWP.seq' ?_
  refine AWP.rgn (F34_r2 E0  h_2 _) ?_ (Rn) (Sn) (Sn)
  refine AWP.ret ?_
  exact h
 ·replace h := ite2_f h e
  refine AWP.skip ?_
  refine AWP.seq' ?_
  refine AWP.rgn (F34_r3 E0 x0 x1 h_2 _) ?_ (Rv 0 _ (Rv 1 _ (Rn))) (Sc rfl (Sc rfl (Sn))) (Sn)
  refine ptrN_mono h (fun b_4 o_5 h => ?_)
  refine ldV_mono h (fun v_6 h => ?_)
  refine ptrV_mono h (fun p_7 h => ?_)
  refine ptrN_mono h (fun b_8 o_9 h => ?_)
  refine ldV_mono h (fun v_10 h => ?_)
  refine mapV_mono h (fun m_11 h => ?_)
  refine rdS_mono h (fun u_12 h => ?_)
  refine tup2V_mono h (fun u_13 u_14 h => ?_)
  refine intV_mono h (fun i_15 h => ?_)
  refine boolV_mono h (fun q_16 h => ?_)
  refine AWP.seq (fun env pv hp => ∃ (x6 : Bool), Sub (upd E0 6 (sB (x6))) env ∧ Sub V0 pv ∧ (F34_j1 x6 hp  K)) ?_ ?_
  ·refine AWP.seq' ?_
   refine AWP.rgn (F34_r5 (upd (upd E0 5 (sI (i_15))) 0 (sV (Value.pointer x0))) q_16 h_2 _) ?_ (Rv 6 _ (Rv 0 _ (Rv 5 _ (Rn)))) (Sc rfl (Sc rfl (Sc rfl (Sn)))) (Sn)
   refine AWP.cond (t := q_16) rfl (fun e => ?_) (fun e => ?_)
   ·replace h := ite2_t h e
    refine AWP.rgn (F34_r6 (upd E0 6 (sB (q_16))) x0 i_15 h_2 _) ?_ (Rv 0 _ (Rv 5 _ (Rv 6 _ (Rn)))) (Sc rfl (Sc rfl (Sc rfl (Sn)))) (Sn)
    refine ptrN_mono h (fun b_17 o_18 h => ?_)
    refine ldV_mono h (fun v_19 h => ?_)
    refine ptrV_mono h (fun p_20 h => ?_)
    refine CF_mono h (fun u_21 h_22 h => ?_)
    exact ⟨q_16, (Sc rfl (Sn)), (Sn), h⟩
   ·replace h := ite2_f h e
    refine AWP.skip ?_
    exact ⟨q_16, (Sc rfl (Sn)), (Sn), h⟩
  ·rintro env pv hp ⟨x6, he, hv, h⟩
   refine AWP.sub (env' := (upd E0 6 (sB (x6)))) (pv' := V0) ?_ (Rv 6 _ (Rn)) he hv (HSub.refl _)
   clear he hv
   unfold F34_j1 at h
   refine AWP.seq' ?_
   refine AWP.rgn (F34_r4 E0 x6 hp _) ?_ (Rv 6 _ (Rn)) (Sc rfl (Sn)) (Sn)
   refine AWP.ret ?_
   exact h
-- 36 (*interpreter/expiry.Queue).Len
theorem F36_r0 (e : Env) (hp : HP) (K : Env → PV → HP → Prop) : RW Try.prog 10 [] (opsAt Try.f36 [0]) (List.range 1) e V0 hp K =
    (K (upd e 2 (sI (0))) V0 hp) := by kernel_rfl
theorem F36_r1 (e : Env) (x0 : Option Addr) (hp : HP) (K : Env → PV → HP → Prop) : RW Try.prog 10 [] (opsAt Try.f36 [1, 0, 0]) (List.range 2) (upd e 0 (sV (Value.pointer x0))) V0 hp K =
    (CF Try.prog 82 [(Value.pointer x0)] hp fun u1 h2 => (boolV u1 fun q3 => (K (upd (upd (upd e 0 (sV (Value.pointer x0))) 3 (sV (Value.pointer x0))) 4 (sB (q3))) V0 h2))) := by kernel_rfl
theorem F36_r2 (e : Env) (hp : HP) (K : Env → PV → HP → Prop) : RW Try.prog 10 [] (opsAt Try.f36 [1, 0, 1, 0, 0]) (List.range 1) e V0 hp K =
    (K (upd e 2 (sI (0))) V0 hp) := by kernel_rfl
theorem F36_r3 (e : Env) (x0 : Option Addr) (hp : HP) (K : Env → PV → HP → Prop) : RW Try.prog 10 [] (opsAt Try.f36 [1, 1, 0]) (List.range 6) (upd e 0 (sV (Value.pointer x0))) V0 hp K =
    (ptrN x0 fun b1 o2 => (ldV (HP.cell hp b1 (o2 + 0)) fun v3 => (ptrV v3 fun p4 => (CF Try.prog 91 [(Value.pointer p4)] hp fun u5 h6 => (intV u5 .i64 fun i7 => (K (upd (upd (upd (upd (upd (upd (upd e 0 (sV (Value.pointer x0))) 5 (sV (Value.pointer x0))) 6 (sV (ptr b1 o2))) 7 (sV (ptr b1 (o2 + 0)))) 8 (sV (Value.pointer p4))) 9 (sI (i7))) 2 (sI (i7))) V0 h6)))))) := by kernel_rfl
def F36 (x0 : Option Addr) (hp : HP) (K : Value → HP → Prop) : Prop :=
  (CF Try.prog 82 [(Value.pointer x0)] hp fun u_1 h_2 => (boolV u_1 fun q_3 => (ite2 q_3 (K (Value.int .i64 0) h_2) (ptrN x0 fun b_4 o_5 => (ldV (HP.cell h_2 b_4 (o_5 + 0)) fun v_6 => (ptrV v_6 fun p_7 => (CF Try.prog 91 [(Value.pointer p_7)] h_2 fun u_8 h_9 => (intV u_8 .i64 fun i_10 => (K (Value.int .i64 i_10) h_9)))))))))
noncomputable def F36_code : Code := (.seq (.region 0 (opsAt Try.f36 [0]) false) (.seq (.seq (.region 1 (opsAt Try.f36 [1, 0, 0]) false) (.cond (.tmp 4) (.seq (.region 2 (opsAt Try.f36 [1, 0, 1, 0, 0]) false) .ret) .skip)) (.seq (.region 3 (opsAt Try.f36 [1, 1, 0]) false) .ret)))
theorem F36_body : Try.f36.body = some F36_code := by kernel_rfl
theorem F36_ok (x0 : Option Addr) (hp : HP) (K : Value → HP → Prop) (h : F36 x0 hp K) : CF Try.prog 36 [(Value.pointer x0)] hp K := by
 refine .inl ⟨by kernel_rfl, AC.intro (N := 10) Try.func36 F36_body rfl (Nat.le_of_ble_eq_true rfl) ?_⟩
 unfold F36 at h
 unfold F36_code
 refine AWP.seq' ?_
 refine AWP.rgn (F36_r0 (upd E0 0 (sV (Value.pointer x0)))  hp _) ?_ (Rv 0 _ (Rn)) (Sc rfl (Sn)) (Sn)
 refine AWP.seq' ?_
 refine AWP.seq' ?_
 refine AWP.rgn (F36_r1 E0 x0 hp _) ?_ (Rv 0 _ (Rn)) (Sc rfl (Sn)) (Sn)
 refine CF_mono h (fun u_1 h_2 h => ?_)
 refine boolV_mono h (fun q_3 h => ?_)
 refine AWP.cond (t := q_3) rfl (fun e => ?_) (fun e => ?_)
 ·replace h := ite2_t h e
  refine AWP.seq' ?_
  refine AWP.rgn (F36_r2 E0  h_2 _) ?_ (Rn) (Sn) (Sn)
  refine AWP.ret ?_
  exact h
 ·replace h := ite2_f h e
  refine AWP.skip ?_
  refine AWP.seq' ?_
  refine AWP.rgn (F36_r3 E0 x0 h_2 _) ?_ (Rv 0 _ (Rn)) (Sc rfl (Sn)) (Sn)
  refine ptrN_mono h (fun b_4 o_5 h => ?_)
  refine ldV_mono h (fun v_6 h => ?_)
  refine ptrV_mono h (fun p_7 h => ?_)
  refine CF_mono h (fun u_8 h_9 h => ?_)
  refine intV_mono h (fun i_10 h => ?_)
  refine AWP.ret ?_
  exact h
-- 42 (*interpreter/expiry.Queue).Next
theorem F42_r0 (e : Env) (hp : HP) (K : Env → PV → HP → Prop) : RW Try.prog 35 [] (opsAt Try.f42 [0]) (List.range 3) e V0 hp K =
    (K (upd (upd (upd e 2 (sI (0))) 3 (sI (0))) 4 (sB (false))) V0 hp) := by kernel_rfl
theorem F42_r1 (e : Env) (hp : HP) (K : Env → PV → HP → Prop) : RW Try.prog 35 [] (opsAt Try.f42 [1, 0, 1, 0, 0]) (List.range 3) e V0 hp K =
    (K (upd (upd (upd e 2 (sI (0))) 3 (sI (0))) 4 (sB (false))) V0 hp) := by kernel_rfl
theorem F42_r2 (e : Env) (x0 : Option Addr) (hp : HP) (K : Env → PV → HP → Prop) : RW Try.prog 35 [] (opsAt Try.f42 [1, 1, 0]) (List.range 23) (upd e 0 (sV (Value.pointer x0))) V0 hp K =
    (ptrN x0 fun b1 o2 => (ldV (HP.cell hp b1 (o2 + 0)) fun v3 => (ptrV v3 fun p4 => (ptrN p4 fun b5 o6 => (ldV (HP.cell hp b5 (o6 + 0)) fun v7 => (slcV v7 fun a8 n9 c10 => ((0 ≤ (0 : Int)) ∧ ((0 : Int) < (n9 : Nat)) ∧ (ptrN a8 fun b11 o12 => (ldV (HP.cell hp b11 ((o12 + Int.toNat 0 * 2) + 0)) fun v13 => (intV v13 .i64 fun i14 => (ptrN x0 fun b15 o16 => (ldV (HP.cell hp b15 (o16 + 0)) fun v17 => (ptrV v17 fun p18 => (ptrN p18 fun b19 o20 => (ldV (HP.cell hp b19 (o20 + 0)) fun v21 => (slcV v21 fun a22 n23 c24 => ((0 ≤ (0 : Int)) ∧ ((0 : Int) < (n23 : Nat)) ∧ (ptrN a22 fun b25 o26 => (ldV (HP.cell hp b25 ((o26 + Int.toNat 0 * 2) + 1)) fun v27 => (intV v27 .i64 fun i28 => (K (upd (upd (upd (upd (upd (upd (upd (upd (upd (upd (upd (upd (upd (upd (upd (upd (upd (upd (upd (upd (upd (upd (upd (upd e 0 (sV (Value.pointer x0))) 15 (sV (Value.pointer x0))) 16 (sV (ptr b1 o2))) 17 (sV (ptr b1 (o2 + 0)))) 18 (sV (Value.pointer p4))) 19 (sV (ptr b5 o6))) 20 (sV (ptr b5 (o6 + 0)))) 21 (sV (Value.slice a8 n9 c10))) 22 (sV (ptr b11 (o12 + Int.toNat 0 * 2)))) 23 (sV (ptr b11 ((o12 + Int.toNat 0 * 2) + 0)))) 24 (sI (i14))) 25 (sV (Value.pointer x0))) 26 (sV (ptr b15 o16))) 27 (sV (ptr b15 (o16 + 0)))) 28 (sV (Value.pointer p18))) 29 (sV (ptr b19 o20))) 30 (sV (ptr b19 (o20 + 0)))) 31 (sV (Value.slice a22 n23 c24))) 32 (sV (ptr b25 (o26 + Int.toNat 0 * 2)))) 33 (sV (ptr b25 ((o26 + Int.toNat 0 * 2) + 1)))) 34 (sI (i28))) 2 (sI (i14))) 3 (sI (i28))) 4 (sB (true))) V0 hp))))))))))))))))))))) := by kernel_rfl
def F42_j1 (x0 : Option Addr) (x14 : Bool) (hp : HP) (K : Value → HP → Prop) : Prop :=
  (ite2 x14 (K (.tuple ⟨[(Value.int .i64 0), (Value.int .i64 0), (Value.bool false)]⟩) hp) (ptrN x0 fun b_1 o_2 => (ldV (HP.cell hp b_1 (o_2 + 0)) fun v_3 => (ptrV v_3 fun p_4 => (ptrN p_4 fun b_5 o_6 => (ldV (HP.cell hp b_5 (o_6 + 0)) fun v_7 => (slcV v_7 fun a_8 n_9 c_10 => ((0 ≤ (0 : Int)) ∧ ((0 : Int) < (n_9 : Nat)) ∧ (ptrN a_8 fun b_11 o_12 => (ldV (HP.cell hp b_11 ((o_12 + Int.toNat 0 * 2) + 0)) fun v_13 => (intV v_13 .i64 fun i_14 => (ptrN x0 fun b_15 o_16 => (ldV (HP.cell hp b_15 (o_16 + 0)) fun v_17 => (ptrV v_17 fun p_18 => (ptrN p_18 fun b_19 o_20 => (ldV (HP.cell hp b_19 (o_20 + 0)) fun v_21 => (slcV v_21 fun a_22 n_23 c_24 => ((0 ≤ (0 : Int)) ∧ ((0 : Int) < (n_23 : Nat)) ∧ (ptrN a_22 fun b_25 o_26 => (ldV (HP.cell hp b_25 ((o_26 + Int.toNat 0 * 2) + 1)) fun v_27 => (intV v_27 .i64 fun i_28 => (K (.tuple ⟨[(Value.int .i64 i_14), (Value.int .i64 i_28), (Value.bool true)]⟩) hp))))))))))))))))))))))
theorem F42_r3 (e : Env) (x0 : Option Addr) (hp : HP) (K : Env → PV → HP → Prop) : RW Try.prog 35 [] (opsAt Try.f42 [1, 0, 0]) (List.range 10) (upd e 0 (sV (Value.pointer x0))) V0 hp K =
    (CF Try.prog 82 [(Value.pointer x0)] hp fun u1 h2 => (boolV u1 fun q3 => (ite2 q3 (K (upd (upd (upd (upd (upd (upd (upd (upd (upd (upd (upd e 0 (sV (Value.pointer x0))) 5 (sV (Value.pointer x0))) 6 (sB (q3))) 7 (sB (true))) 8 (sV undef)) 9 (sV undef)) 10 (sV undef)) 11 (sV undef)) 12 (sV undef)) 13 (sV undef)) 14 (sB (true))) V0 h2) (ptrN x0 fun b4 o5 => (ldV (HP.cell h2 b4 (o5 + 0)) fun v6 => (ptrV v6 fun p7 => (CF Try.prog 91 [(Value.pointer p7)] h2 fun u8 h9 => (intV u8 .i64 fun i10 => (K (upd (upd (upd (upd (upd (upd (upd (upd (upd (upd (upd e 0 (sV (Value.pointer x0))) 5 (sV (Value.pointer x0))) 6 (sB (q3))) 7 (sB (false))) 8 (sV (Value.pointer x0))) 9 (sV (ptr b4 o5))) 10 (sV (ptr b4 (o5 + 0)))) 11 (sV (Value.pointer p7))) 12 (sI (i10))) 13 (sB (((i10 : Int) == 0)))) 14 (sB (((i10 : Int) == 0)))) V0 h9))))))))) := by kernel_rfl
def F42 (x0 : Option Addr) (hp : HP) (K : Value → HP → Prop) : Prop :=
  (CF Try.prog 82 [(Value.pointer x0)] hp fun u_29 h_30 => (boolV u_29 fun q_31 => (ite2 q_31 (F42_j1 x0 true h_30  K) (ptrN x0 fun b_32 o_33 => (ldV (HP.cell h_30 b_32 (o_33 + 0)) fun v_34 => (ptrV v_34 fun p_35 => (CF Try.prog 91 [(Value.pointer p_35)] h_30 fun u_36 h_37 => (intV u_36 .i64 fun i_38 => (F42_j1 x0 ((i_38 : Int) == 0) h_37  K)))))))))
noncomputable def F42_code : Code := (.seq (.region 0 (opsAt Try.f42 [0]) false) (.seq (.seq (.region 1 (opsAt Try.f42 [1, 0, 0]) false) (.cond (.tmp 14) (.seq (.region 2 (opsAt Try.f42 [1, 0, 1, 0, 0]) false) .ret) .skip)) (.seq (.region 3 (opsAt Try.f42 [1, 1, 0]) true) .ret)))
theorem F42_body : Try.f42.body = some F42_code := by kernel_rfl
theorem F42_ok (x0 : Option Addr) (hp : HP) (K : Value → HP → Prop) (h : F42 x0 hp K) : CF Try.prog 42 [(Value.pointer x0)] hp K := by
 refine .inl ⟨by kernel_rfl, AC.intro (N := 35) Try.func42 F42_body rfl (Nat.le_of_ble_eq_true rfl) ?_⟩
 unfold F42 at h
 unfold F42_code
 refine AWP.seq' ?_
 refine AWP.rgn (F42_r0 (upd E0 0 (sV (Value.pointer x0)))  hp _) ?_ (Rv 0 _ (Rn)) (Sc rfl (Sn)) (Sn)
 refine AWP.seq' ?_
 refine AWP.seq (fun env pv hp => ∃ (x0 : Option Addr) (x14 : Bool), Sub (upd (upd E0 14 (sB (x14))) 0 (sV (Value.pointer x0))) env ∧ Sub V0 pv ∧ (F42_j1 x0 x14 hp  K)) ?_ ?_
 ·refine AWP.rgn (F42_r3 E0 x0 hp _) ?_ (Rv 0 _ (Rn)) (Sc rfl (Sn)) (Sn)
  refine CF_mono h (fun u_29 h_30 h => ?_)
  refine boolV_mono h (fun q_31 h => ?_)
  refine ite2_mono h (fun h => ?_) (fun h => ?_)
  ·exact ⟨x0, true, (Sc rfl (Sc rfl (Sn))), (Sn), h⟩
  ·refine ptrN_mono h (fun b_32 o_33 h => ?_)
   refine ldV_mono h (fun v_34 h => ?_)
   refine ptrV_mono h (fun p_35 h => ?_)
   refine CF_mono h (fun u_36 h_37 h => ?_)
   refine intV_mono h (fun i_38 h => ?_)
   exact ⟨x0, ((i_38 : Int) == 0), (Sc rfl (Sc rfl (Sn))), (Sn), h⟩
 ·rintro env pv hp ⟨x0, x14, he, hv, h⟩
  refine AWP.sub (env' := (upd (upd E0 14 (sB (x14))) 0 (sV (Value.pointer x0)))) (pv' := V0) ?_ (Rv 0 _ (Rv 14 _ (Rn))) he hv (HSub.refl _)
  clear he hv
  unfold F42_j1 at h
  refine AWP.cond (t := x14) rfl (fun e => ?_) (fun e => ?_)
  ·replace h := ite2_t h e
   refine AWP.seq' ?_
   refine AWP.rgn (F42_r1 E0  hp _) ?_ (Rn) (Sn) (Sn)
   refine AWP.ret ?_
   exact h
  ·replace h := ite2_f h e
   refine AWP.skip ?_
   refine AWP.seq' ?_
   refine AWP.rgnD (by kernel_rfl) (by kernel_rfl) (F42_r2 E0 x0 hp _) ?_ (Rv 0 _ (Rn)) (Sc rfl (Sn)) (Sn)
   refine ptrN_mono h (fun b_1 o_2 h => ?_)
   refine ldV_mono h (fun v_3 h => ?_)
   refine ptrV_mono h (fun p_4 h => ?_)
   refine ptrN_mono h (fun b_5 o_6 h => ?_)
   refine ldV_mono h (fun v_7 h => ?_)
   refine slcV_mono h (fun a_8 n_9 c_10 h => ?_)
   refine ⟨h.1, h.2.1, ?_⟩
   replace h := h.2.2
   refine ptrN_mono h (fun b_11 o_12 h => ?_)
   refine ldV_mono h (fun v_13 h => ?_)
   refine intV_mono h (fun i_14 h => ?_)
   refine ptrN_mono h (fun b_15 o_16 h => ?_)
   refine ldV_mono h (fun v_17 h => ?_)
   refine ptrV_mono h (fun p_18 h => ?_)
   refine ptrN_mono h (fun b_19 o_20 h => ?_)
   refine ldV_mono h (fun v_21 h => ?_)
   refine slcV_mono h (fun a_22 n_23 c_24 h => ?_)
   refine ⟨h.1, h.2.1, ?_⟩
   replace h := h.2.2
   refine ptrN_mono h (fun b_25 o_26 h => ?_)
   refine ldV_mono h (fun v_27 h => ?_)
   refine intV_mono h (fun i_28 h => ?_)
   refine AWP.ret ?_
   exact h
-- 82 (*interpreter/expiry.Queue).none
theorem F82_r0 (e : Env) (hp : HP) (K : Env → PV → HP → Prop) : RW Try.prog 12 [] (opsAt Try.f82 [0]) (List.range 1) e V0 hp K =
    (K (upd e 2 (sB (false))) V0 hp) := by kernel_rfl
theorem F82_r1 (e : Env) (x0 : Option Addr) (hp : HP) (K : Env → PV → HP → Prop) : RW Try.prog 12 [] (opsAt Try.f82 [1, 0]) (List.range 10) (upd e 0 (sV (Value.pointer x0))) V0 hp K =
    (ite2 (Option.isNone x0) (K (upd (upd (upd (upd (upd (upd (upd (upd (upd (upd (upd e 0 (sV (Value.pointer x0))) 3 (sV (Value.pointer x0))) 4 (sB ((Option.isNone x0)))) 5 (sB (true))) 6 (sV undef)) 7 (sV undef)) 8 (sV undef)) 9 (sV undef)) 10 (sV undef)) 11 (sB (true))) 2 (sB (true))) V0 hp) (ptrN x0 fun b1 o2 => (ldV (HP.cell hp b1 (o2 + 0)) fun v3 => (ptrV v3 fun p4 => (K (upd (upd (upd (upd (upd (upd (upd (upd (upd (upd (upd e 0 (sV (Value.pointer x0))) 3 (sV (Value.pointer x0))) 4 (sB ((Option.isNone x0)))) 5 (sB (false))) 6 (sV (Value.pointer x0))) 7 (sV (ptr b1 o2))) 8 (sV (ptr b1 (o2 + 0)))) 9 (sV (Value.pointer p4))) 10 (sB ((Option.isNone p4)))) 11 (sB ((Option.isNone p4)))) 2 (sB ((Option.isNone p4)))) V0 hp))))) := by kernel_rfl
def F82 (x0 : Option Addr) (hp : HP) (K : Value → HP → Prop) : Prop :=
  (ite2 (Option.isNone x0) (K (Value.bool true) hp) (ptrN x0 fun b_1 o_2 => (ldV (HP.cell hp b_1 (o_2 + 0)) fun v_3 => (ptrV v_3 fun p_4 => (K (Value.bool (Option.isNone p_4)) hp)))))
noncomputable def F82_code : Code := (.seq (.region 0 (opsAt Try.f82 [0]) false) (.seq (.region 1 (opsAt Try.f82 [1, 0]) false) .ret))
theorem F82_body : Try.f82.body = some F82_code := by kernel_rfl
theorem F82_ok (x0 : Option Addr) (hp : HP) (K : Value → HP → Prop) (h : F82 x0 hp K) : CF Try.prog 82 [(Value.pointer x0)] hp K := by
 refine .inl ⟨by kernel_rfl, AC.intro (N := 12) Try.func82 F82_body rfl (Nat.le_of_ble_eq_true rfl) ?_⟩
 unfold F82 at h
 unfold F82_code
 refine AWP.seq' ?_
 refine AWP.rgn (F82_r0 (upd E0 0 (sV (Value.pointer x0)))  hp _) ?_ (Rv 0 _ (Rn)) (Sc rfl (Sn)) (Sn)
 refine AWP.seq' ?_
 refine AWP.rgn (F82_r1 E0 x0 hp _) ?_ (Rv 0 _ (Rn)) (Sc rfl (Sn)) (Sn)
 refine ite2_mono h (fun h => ?_) (fun h => ?_)
 ·refine AWP.ret ?_
  exact h
 ·refine ptrN_mono h (fun b_1 o_2 h => ?_)
  refine ldV_mono h (fun v_3 h => ?_)
  refine ptrV_mono h (fun p_4 h => ?_)
  refine AWP.ret ?_
  exact h
-- 83 container/heap.Push
theorem F83_r0 (e : Env) (x0 : Value) (x1 : Value) (hp : HP) (K : Env → PV → HP → Prop) : RW Try.prog 12 [] (opsAt Try.f83 [0]) (List.range 3) (upd (upd e 1 (sV x1)) 0 (sV x0)) V0 hp K =
    (ifaceV x0 fun t1 v2 => (mthF Try.prog t1 "Push" fun f3 => (CF Try.prog f3 (v2 :: [x1]) hp fun u4 h5 => (K (upd (upd (upd (upd (upd e 1 (sV x1)) 0 (sV x0)) 4 (sV x0)) 5 (sV x1)) 6 (sV u4)) V0 h5)))) := by kernel_rfl
theorem F83_r1 (e : Env) (x0 : Value) (hp : HP) (K : Env → PV → HP → Prop) : RW Try.prog 12 [] (opsAt Try.f83 [1]) (List.range 5) (upd e 0 (sV x0)) V0 hp K =
    (ifaceV x0 fun t1 v2 => (mthF Try.prog t1 "Len" fun f3 => (CF Try.prog f3 (v2 :: []) hp fun u4 h5 => (intV u4 .i64 fun i6 => (CF Try.prog 126 [x0, (Value.int .i64 (IntKind.wrap .i64 (i6 - 1)))] h5 fun u7 h8 => (K (upd (upd (upd (upd (upd (upd e 0 (sV x0)) 7 (sV x0)) 8 (sV x0)) 9 (sI (i6))) 10 (sI ((IntKind.wrap .i64 (i6 - 1))))) 11 (sV u7)) V0 h8)))))) := by kernel_rfl
def F83 (x0 : Value) (x1 : Value) (hp : HP) (K : Value → HP → Prop) : Prop :=
  (ifaceV x0 fun t_1 v_2 => (mthF Try.prog t_1 "Push" fun f_3 => (CF Try.prog f_3 (v_2 :: [x1]) hp fun u_4 h_5 => (ifaceV x0 fun t_6 v_7 => (mthF Try.prog t_6 "Len" fun f_8 => (CF Try.prog f_8 (v_7 :: []) h_5 fun u_9 h_10 => (intV u_9 .i64 fun i_11 => (CF Try.prog 126 [x0, (Value.int .i64 (IntKind.wrap .i64 (i_11 - 1)))] h_10 fun u_12 h_13 => (K (.tuple ⟨[]⟩) h_13)))))))))
noncomputable def F83_code : Code := (.seq (.region 0 (opsAt Try.f83 [0]) false) (.region 1 (opsAt Try.f83 [1]) false))
theorem F83_body : Try.f83.body = some F83_code := by kernel_rfl
theorem F83_ok (x0 : Value) (x1 : Value) (hp : HP) (K : Value → HP → Prop) (h : F83 x0 x1 hp K) : CF Try.prog 83 [x0, x1] hp K := by
 refine .inl ⟨by kernel_rfl, AC.intro (N := 12) Try.func83 F83_body rfl (Nat.le_of_ble_eq_true rfl) ?_⟩
 unfold F83 at h
 unfold F83_code
 refine AWP.seq' ?_
 refine AWP.rgn (F83_r0 E0 x0 x1 hp _) ?_ (Rv 0 _ (Rv 1 _ (Rn))) (Sc rfl (Sc rfl (Sn))) (Sn)
 refine ifaceV_mono h (fun t_1 v_2 h => ?_)
 refine mthF_mono h (fun f_3 h => ?_)
 refine CF_mono h (fun u_4 h_5 h => ?_)
 refine AWP.rgn (F83_r1 E0 x0 h_5 _) ?_ (Rv 0 _ (Rn)) (Sc rfl (Sn)) (Sn)
 refine ifaceV_mono h (fun t_6 v_7 h => ?_)
 refine mthF_mono h (fun f_8 h => ?_)
 refine CF_mono h (fun u_9 h_10 h => ?_)
 refine intV_mono h (fun i_11 h => ?_)
 refine CF_mono h (fun u_12 h_13 h => ?_)
 exact h
-- 84 container/heap.Fix
theorem F84_r0 (e : Env) (x0 : Value) (x1 : Int) (hp : HP) (K : Env → PV → HP → Prop) : RW Try.prog 13 [] (opsAt Try.f84 [0]) (List.range 6) (upd (upd e 1 (sI (x1))) 0 (sV x0)) V0 hp K =
    (ifaceV x0 fun t1 v2 => (mthF Try.prog t1 "Len" fun f3 => (CF Try.prog f3 (v2 :: []) hp fun u4 h5 => (intV u4 .i64 fun i6 => (CF Try.prog 127 [x0, (Value.int .i64 x1), (Value.int .i64 i6)] h5 fun u7 h8 => (boolV u7 fun q9 => (K (upd (upd (upd (upd (upd (upd (upd (upd e 1 (sI (x1))) 0 (sV x0)) 4 (sV x0)) 5 (sI (x1))) 6 (sV x0)) 7 (sI (i6))) 8 (sB (q9))) 9 (sB ((!q9)))) V0 h8))))))) := by kernel_rfl
theorem F84_r1 (e : Env) (x0 : Value) (x1 : Int) (hp : HP) (K : Env → PV → HP → Prop) : RW Try.prog 13 [] (opsAt Try.f84 [1, 0]) (List.range 3) (upd (upd e 1 (sI (x1))) 0 (sV x0)) V0 hp K =
    (CF Try.prog 126 [x0, (Value.int .i64 x1)] hp fun u1 h2 => (K (upd (upd (upd (upd (upd e 1 (sI (x1))) 0 (sV x0)) 10 (sV x0)) 11 (sI (x1))) 12 (sV u1)) V0 h2)) := by kernel_rfl
def F84 (x0 : Value) (x1 : Int) (hp : HP) (K : Value → HP → Prop) : Prop :=
  (ifaceV x0 fun t_1 v_2 => (mthF Try.prog t_1 "Len" fun f_3 => (CF Try.prog f_3 (v_2 :: []) hp fun u_4 h_5 => (intV u_4 .i64 fun i_6 => (CF Try.prog 127 [x0, (Value.int .i64 x1), (Value.int .i64 i_6)] h_5 fun u_7 h_8 => (boolV u_7 fun q_9 => (ite2 (!q_9) (CF Try.prog 126 [x0, (Value.int .i64 x1)] h_8 fun u_10 h_11 => (K (.tuple ⟨[]⟩) h_11)) (K (.tuple ⟨[]⟩) h_8))))))))
noncomputable def F84_code : Code := (.seq (.region 0 (opsAt Try.f84 [0]) false) (.cond (.tmp 9) (.region 1 (opsAt Try.f84 [1, 0]) false) .skip))
theorem F84_body : Try.f84.body = some F84_code := by kernel_rfl
theorem F84_ok (x0 : Value) (x1 : Int) (hp : HP) (K : Value → HP → Prop) (h : F84 x0 x1 hp K) : CF Try.prog 84 [x0, (Value.int .i64 x1)] hp K := by
 refine .inl ⟨by kernel_rfl, AC.intro (N := 13) Try.func84 F84_body rfl (Nat.le_of_ble_eq_true rfl) ?_⟩
 unfold F84 at h
 unfold F84_code
 refine AWP.seq' ?_
 refine AWP.rgn (F84_r0 E0 x0 x1 hp _) ?_ (Rv 0 _ (Rv 1 _ (Rn))) (Sc rfl (Sc rfl (Sn))) (Sn)
 refine ifaceV_mono h (fun t_1 v_2 h => ?_)
 refine mthF_mono h (fun f_3 h => ?_)
 refine CF_mono h (fun u_4 h_5 h => ?_)
 refine intV_mono h (fun i_6 h => ?_)
 refine CF_mono h (fun u_7 h_8 h => ?_)
 refine boolV_mono h (fun q_9 h => ?_)
 refine AWP.cond (t := (!q_9)) rfl (fun e => ?_) (fun e => ?_)
 ·replace h := ite2_t h e
  refine AWP.rgn (F84_r1 E0 x0 x1 h_8 _) ?_ (Rv 0 _ (Rv 1 _ (Rn))) (Sc rfl (Sc rfl (Sn))) (Sn)
  refine CF_mono h (fun u_10 h_11 h => ?_)
  exact h
 ·replace h := ite2_f h e
  refine AWP.skip ?_
  exact h
-- 85 container/heap.Pop
theorem F85_r0 (e : Env) (hp : HP) (K : Env → PV → HP → Prop) : RW Try.prog 15 [] (opsAt Try.f85 [0]) (List.range 1) e V0 hp K =
    (K (upd e 2 (sV (Value.nilIface : Value))) V0 hp) := by kernel_rfl
theorem F85_r1 (e : Env) (x0 : Value) (hp : HP) (K : Env → PV → HP → Prop) : RW Try.prog 15 [] (opsAt Try.f85 [1, 0]) (List.range 4) (upd e 0 (sV x0)) V0 hp K =
    (ifaceV x0 fun t1 v2 => (mthF Try.prog t1 "Len" fun f3 => (CF Try.prog f3 (v2 :: []) hp fun u4 h5 => (intV u4 .i64 fun i6 => (K (upd (upd (upd (upd (upd e 0 (sV x0)) 4 (sV x0)) 5 (sI (i6))) 6 (sI ((IntKind.wrap .i64 (i6 - 1))))) 3 (sI ((IntKind.wrap .i64 (i6 - 1))))) V0 h5))))) := by kernel_rfl
theorem F85_r2 (e : Env) (x0 : Value) (x3 : Int) (hp : HP) (K : Env → PV → HP → Prop) : RW Try.prog 15 [] (opsAt Try.f85 [1, 1, 0]) (List.range 3) (upd (upd e 3 (sI (x3))) 0 (sV x0)) V0 hp K =
    (ifaceV x0 fun t1 v2 => (mthF Try.prog t1 "Swap" fun f3 => (CF Try.prog f3 (v2 :: [(Value.int .i64 0), (Value.int .i64 x3)]) hp fun u4 h5 => (K (upd (upd (upd (upd (upd e 3 (sI (x3))) 0 (sV x0)) 7 (sV x0)) 8 (sI (x3))) 9 (sV u4)) V0 h5)))) := by kernel_rfl
theorem F85_r3 (e : Env) (x0 : Value) (x3 : Int) (hp : HP) (K : Env → PV → HP → Prop) : RW Try.prog 15 [] (opsAt Try.f85 [1, 1, 1, 0]) (List.range 3) (upd (upd e 3 (sI (x3))) 0 (sV x0)) V0 hp K =
    (CF Try.prog 127 [x0, (Value.int .i64 0), (Value.int .i64 x3)] hp fun u1 h2 => (boolV u1 fun q3 => (K (upd (upd (upd (upd (upd e 3 (sI (x3))) 0 (sV x0)) 10 (sV x0)) 11 (sI (x3))) 12 (sB (q3))) V0 h2))) := by kernel_rfl
theorem F85_r4 (e : Env) (x0 : Value) (hp : HP) (K : Env → PV → HP → Prop) : RW Try.prog 15 [] (opsAt Try.f85 [1, 1, 1, 1, 0]) (List.range 3) (upd e 0 (sV x0)) V0 hp K =
    (ifaceV x0 fun t1 v2 => (mthF Try.prog t1 "Pop" fun f3 => (CF Try.prog f3 (v2 :: []) hp fun u4 h5 => (K (upd (upd (upd (upd e 0 (sV x0)) 13 (sV x0)) 14 (sV u4)) 2 (sV u4)) V0 h5)))) := by kernel_rfl
def F85 (x0 : Value) (hp : HP) (K : Value → HP → Prop) : Prop :=
  (ifaceV x0 fun t_1 v_2 => (mthF Try.prog t_1 "Len" fun f_3 => (CF Try.prog f_3 (v_2 :: []) hp fun u_4 h_5 => (intV u_4 .i64 fun i_6 => (ifaceV x0 fun t_7 v_8 => (mthF Try.prog t_7 "Swap" fun f_9 => (CF Try.prog f_9 (v_8 :: [(Value.int .i64 0), (Value.int .i64 (IntKind.wrap .i64 (i_6 - 1)))]) h_5 fun u_10 h_11 => (CF Try.prog 127 [x0, (Value.int .i64 0), (Value.int .i64 (IntKind.wrap .i64 (i_6 - 1)))] h_11 fun u_12 h_13 => (boolV u_12 fun q_14 => (ifaceV x0 fun t_15 v_16 => (mthF Try.prog t_15 "Pop" fun f_17 => (CF Try.prog f_17 (v_16 :: []) h_13 fun u_18 h_19 => (K u_18 h_19)))))))))))))
noncomputable def F85_code : Code := (.seq (.region 0 (opsAt Try.f85 [0]) false) (.seq (.region 1 (opsAt Try.f85 [1, 0]) false) (.seq (.region 2 (opsAt Try.f85 [1, 1, 0]) false) (.seq (.region 3 (opsAt Try.f85 [1, 1, 1, 0]) false) (.seq (.region 4 (opsAt Try.f85 [1, 1, 1, 1, 0]) false) .ret)))))
theorem F85_body : Try.f85.body = some F85_code := by kernel_rfl
theorem F85_ok (x0 : Value) (hp : HP) (K : Value → HP → Prop) (h : F85 x0 hp K) : CF Try.prog 85 [x0] hp K := by
 refine .inl ⟨by kernel_rfl, AC.intro (N := 15) Try.func85 F85_body rfl (Nat.le_of_ble_eq_true rfl) ?_⟩
 unfold F85 at h
 unfold F85_code
 refine AWP.seq' ?_
 refine AWP.rgn (F85_r0 (upd E0 0 (sV x0))  hp _) ?_ (Rv 0 _ (Rn)) (Sc rfl (Sn)) (Sn)
 refine AWP.seq' ?_
 refine AWP.rgn (F85_r1 E0 x0 hp _) ?_ (Rv 0 _ (Rn)) (Sc rfl (Sn)) (Sn)
 refine ifaceV_mono h (fun t_1 v_2 h => ?_)
 refine mthF_mono h (fun f_3 h => ?_)
 refine CF_mono h (fun u_4 h_5 h => ?_)
 refine intV_mono h (fun i_6 h => ?_)
 refine AWP.seq' ?_
 refine AWP.rgn (F85_r2 E0 x0 (IntKind.wrap .i64 (i_6 - 1)) h_5 _) ?_ (Rv 0 _ (Rv 3 _ (Rn))) (Sc rfl (Sc rfl (Sn))) (Sn)
 refine ifaceV_mono h (fun t_7 v_8 h => ?_)
 refine mthF_mono h (fun f_9 h => ?_)
 refine CF_mono h (fun u_10 h_11 h => ?_)
 refine AWP.seq' ?_
 refine AWP.rgn (F85_r3 E0 x0 (IntKind.wrap .i64 (i_6 - 1)) h_11 _) ?_ (Rv 0 _ (Rv 3 _ (Rn))) (Sc rfl (Sc rfl (Sn))) (Sn)
 refine CF_mono h (fun u_12 h_13 h => ?_)
 refine boolV_mono h (fun q_14 h => ?_)
 refine AWP.seq' ?_
 refine AWP.rgn (F85_r4 E0 x0 h_13 _) ?_ (Rv 0 _ (Rn)) (Sc rfl (Sn)) (Sn)
 refine ifaceV_mono h (fun t_15 v_16 h => ?_)
 refine mthF_mono h (fun f_17 h => ?_)
 refine CF_mono h (fun u_18 h_19 h => ?_)
 refine AWP.ret ?_
 exact h
-- 86 slices.Clone[[]interpreter/expiry.thing,interpreter/expiry.thing]
theorem F86_r0 (e : Env) (hp : HP) (K : Env → PV → HP → Prop) : RW Try.prog 8 [] (opsAt Try.f86 [0]) (List.range 1) e V0 hp K =
    (K (upd e 2 (sV (Value.slice none 0 0))) V0 hp) := by kernel_rfl
theorem F86_r1 (e : Env) (x0a : Option Addr) (x0n : Nat) (x0c : Nat) (hp : HP) (K : Env → PV → HP → Prop) : RW Try.prog 8 [] (opsAt Try.f86 [1, 0, 0]) (List.range 2) (upd e 0 (sV (Value.slice x0a x0n x0c))) V0 hp K =
    (K (upd (upd (upd e 0 (sV (Value.slice x0a x0n x0c))) 3 (sV (Value.slice x0a x0n x0c))) 4 (sB ((Option.isNone x0a)))) V0 hp) := by kernel_rfl
theorem F86_r2 (e : Env) (hp : HP) (K : Env → PV → HP → Prop) : RW Try.prog 8 [] (opsAt Try.f86 [1, 0, 1, 0, 0]) (List.range 1) e V0 hp K =
    (K (upd e 2 (sV (Value.slice none 0 0))) V0 hp) := by kernel_rfl
theorem F86_r3 (e : Env) (x0a : Option Addr) (x0n : Nat) (x0c : Nat) (hp : HP) (K : Env → PV → HP → Prop) : RW Try.prog 8 [] (opsAt Try.f86 [1, 1, 0]) (List.range 4) (upd e 0 (sV (Value.slice x0a x0n x0c))) V0 hp K =
    (∀ b1 : Nat, hp b1 = .none → (opS Try.prog (Builtin.append_ #[141, 141] 141 ⟨[(Value.slice (some ⟨b1, 0, none⟩) 0 0), (Value.slice x0a x0n x0c)]⟩) (HP.set hp b1 (.cells 148 [] 0)) fun u2 h3 => (slcV u2 fun a4 n5 c6 => (K (upd (upd (upd (upd (upd e 0 (sV (Value.slice x0a x0n x0c))) 5 (sV (Value.slice (some ⟨b1, 0, none⟩) 0 0))) 6 (sV (Value.slice x0a x0n x0c))) 7 (sV (Value.slice a4 n5 c6))) 2 (sV (Value.slice a4 n5 c6))) V0 h3)))) := by kernel_rfl
def F86 (x0a : Option Addr) (x0n : Nat) (x0c : Nat) (hp : HP) (K : Value → HP → Prop) : Prop :=
  (ite2 (Option.isNone x0a) (K (Value.slice none 0 0) hp) (∀ b_1 : Nat, hp b_1 = .none → (opS Try.prog (Builtin.append_ #[141, 141] 141 ⟨[(Value.slice (some ⟨b_1, 0, none⟩) 0 0), (Value.slice x0a x0n x0c)]⟩) (HP.set hp b_1 (.cells 148 [] 0)) fun u_2 h_3 => (slcV u_2 fun a_4 n_5 c_6 => (K (Value.slice a_4 n_5 c_6) h_3)))))
noncomputable def F86_code : Code := (.seq (.region 0 (opsAt Try.f86 [0]) false) (.seq (.seq (.region 1 (opsAt Try.f86 [1, 0, 0]) false) (.cond (.tmp 4) (.seq (.region 2 (opsAt Try.f86 [1, 0, 1, 0, 0]) false) .ret) .skip)) (.seq (.region 3 (opsAt Try.f86 [1, 1, 0]) false) .ret)))
theorem F86_body : Try.f86.body = some F86_code := by kernel_rfl
theorem F86_ok (x0a : Option Addr) (x0n : Nat) (x0c : Nat) (hp : HP) (K : Value → HP → Prop) (h : F86 x0a x0n x0c hp K) : CF Try.prog 86 [(Value.slice x0a x0n x0c)] hp K := by
 refine .inl ⟨by kernel_rfl, AC.intro (N := 8) Try.func86 F86_body rfl (Nat.le_of_ble_eq_true rfl) ?_⟩
 unfold F86 at h
 unfold F86_code
 refine AWP.seq' ?_
 refine AWP.rgn (F86_r0 (upd E0 0 (sV (Value.slice x0a x0n x0c)))  hp _) ?_ (Rv 0 _ (Rn)) (Sc rfl (Sn)) (Sn)
 refine AWP.seq' ?_
 refine AWP.seq' ?_
 refine AWP.rgn (F86_r1 E0 x0a x0n x0c hp _) ?_ (Rv 0 _ (Rn)) (Sc rfl (Sn)) (Sn)
 refine AWP.cond (t := (Option.isNone x0a)) rfl (fun e => ?_) (fun e => ?_)
 ·replace h := ite2_t h e
  refine AWP.seq' ?_
  refine AWP.rgn (F86_r2 E0  hp _) ?_ (Rn) (Sn) (Sn)
  refine AWP.ret ?_
  exact h
 ·replace h := ite2_f h e
  refine AWP.skip ?_
  refine AWP.seq' ?_
  refine AWP.rgn (F86_r3 E0 x0a x0n x0c hp _) ?_ (Rv 0 _ (Rn)) (Sc rfl (Sn)) (Sn)
  refine fun b_1 hb_b_1 => ?_
  replace h := h b_1 hb_b_1
  refine opS_mono h (fun u_2 h_3 h => ?_)
  refine slcV_mono h (fun a_4 n_5 c_6 h => ?_)
  refine AWP.ret ?_
  exact h
-- 88 (*interpreter/expiry.Queue).All$1
theorem F88_r0 (e : Env) (x0 : List Value) (x1 : List Value) (hp : HP) (K : Env → PV → HP → Prop) : RW Try.prog 8 [2, 3] (opsAt Try.f88 [0]) (List.range 3) (upd (upd e 1 (sV (Value.agg ⟨x1⟩))) 0 (sV (Value.agg ⟨x0⟩))) V0 hp K =
    (K (upd (upd (upd (upd (upd e 1 (sV (Value.agg ⟨x1⟩))) 0 (sV (Value.agg ⟨x0⟩))) 2 (SV.priv 2 0)) 3 (SV.priv 3 0)) 4 (sI (0))) (upd (upd V0 2 (148, x0)) 3 (148, x1)) hp) := by kernel_rfl
theorem F88_r1 (e : Env) (k2 : List Value) (k3 : List Value) (hp : HP) (K : Env → PV → HP → Prop) : RW Try.prog 8 [2, 3] (opsAt Try.f88 [1, 0, 0]) (List.range 3) (upd (upd e 3 (SV.priv 3 0)) 2 (SV.priv 2 0)) (upd (upd V0 3 (148, k3)) 2 (148, k2)) hp K =
    (ldL (cellsN k2 0 2) fun l1 => (ldL (cellsN k3 0 2) fun l2 => (CF Try.prog 89 [(Value.agg ⟨l1⟩), (Value.agg ⟨l2⟩)] hp fun u3 h4 => (boolV u3 fun q5 => (K (upd (upd (upd (upd (upd e 3 (SV.priv 3 0)) 2 (SV.priv 2 0)) 5 (sV (Value.agg ⟨l1⟩))) 6 (sV (Value.agg ⟨l2⟩))) 7 (sB (q5))) (upd (upd V0 3 (148, k3)) 2 (148, k2)) h4))))) := by kernel_rfl
theorem F88_r2 (e : Env) (hp : HP) (K : Env → PV → HP → Prop) : RW Try.prog 8 [2, 3] (opsAt Try.f88 [1, 0, 1, 0, 0]) (List.range 1) e V0 hp K =
    (K (upd e 4 (sI ((-1)))) V0 hp) := by kernel_rfl
theorem F88_r3 (e : Env) (hp : HP) (K : Env → PV → HP → Prop) : RW Try.prog 8 [2, 3] (opsAt Try.f88 [1, 1, 0]) (List.range 1) e V0 hp K =
    (K (upd e 4 (sI (1))) V0 hp) := by kernel_rfl
def F88 (x0 : List Value) (x1 : List Value) (hp : HP) (K : Value → HP → Prop) : Prop :=
  (ldL (cellsN x0 0 2) fun l_1 => (ldL (cellsN x1 0 2) fun l_2 => (CF Try.prog 89 [(Value.agg ⟨l_1⟩), (Value.agg ⟨l_2⟩)] hp fun u_3 h_4 => (boolV u_3 fun q_5 => (ite2 q_5 (K (Value.int .i64 (-1)) h_4) (K (Value.int .i64 1) h_4))))))
noncomputable def F88_code : Code := (.seq (.region 0 (opsAt Try.f88 [0]) false) (.seq (.seq (.region 1 (opsAt Try.f88 [1, 0, 0]) false) (.cond (.tmp 7) (.seq (.region 2 (opsAt Try.f88 [1, 0, 1, 0, 0]) false) .ret) .skip)) (.seq (.region 3 (opsAt Try.f88 [1, 1, 0]) false) .ret)))
theorem F88_body : Try.f88.body = some F88_code := by kernel_rfl
theorem F88_ok (x0 : List Value) (x1 : List Value) (hp : HP) (K : Value → HP → Prop) (h : F88 x0 x1 hp K) : CF Try.prog 88 [(Value.agg ⟨x0⟩), (Value.agg ⟨x1⟩)] hp K := by
 refine .inl ⟨by kernel_rfl, AC.intro (N := 8) Try.func88 F88_body rfl (Nat.le_of_ble_eq_true rfl) ?_⟩
 unfold F88 at h
 unfold F88_code
 refine AWP.seq' ?_
 refine AWP.rgn (F88_r0 E0 x0 x1 hp _) ?_ (Rv 0 _ (Rv 1 _ (Rn))) (Sc rfl (Sc rfl (Sn))) (Sn)
 refine AWP.seq' ?_
 refine AWP.seq' ?_
 refine AWP.rgn (F88_r1 E0 x0 x1 hp _) ?_ (RefOk.p 2 2 0 (RefOk.p 3 3 0 (Rn) (fun e => by cases e)) (fun e => by cases e)) (Sc rfl (Sc rfl (Sn))) (Sc rfl (Sc rfl (Sn)))
 refine ldL_mono h (fun l_1 h => ?_)
 refine ldL_mono h (fun l_2 h => ?_)
 refine CF_mono h (fun u_3 h_4 h => ?_)
 refine boolV_mono h (fun q_5 h => ?_)
 refine AWP.cond (t := q_5) rfl (fun e => ?_) (fun e => ?_)
 ·replace h := ite2_t h e
  refine AWP.seq' ?_
  refine AWP.rgn (F88_r2 E0  h_4 _) ?_ (Rn) (Sn) (Sn)
  refine AWP.ret ?_
  exact h
 ·replace h := ite2_f h e
  refine AWP.skip ?_
  refine AWP.seq' ?_
  refine AWP.rgn (F88_r3 E0  h_4 _) ?_ (Rn) (Sn) (Sn)
  refine AWP.ret ?_
  exact h
-- 89 (interpreter/expiry.thing).ahead
theorem F89_r0 (e : Env) (x0 : List Value) (x1 : List Value) (hp : HP) (K : Env → PV → HP → Prop) : RW Try.prog 24 [2, 3, 5, 7, 11, 13, 17, 19] (opsAt Try.f89 [0]) (List.range 3) (upd (upd e 1 (sV (Value.agg ⟨x1⟩))) 0 (sV (Value.agg ⟨x0⟩))) V0 hp K =
    (K (upd (upd (upd (upd (upd e 1 (sV (Value.agg ⟨x1⟩))) 0 (sV (Value.agg ⟨x0⟩))) 2 (SV.priv 2 0)) 3 (SV.priv 3 0)) 4 (sB (false))) (upd (upd V0 2 (148, x0)) 3 (148, x1)) hp) := by kernel_rfl
theorem F89_r1 (e : Env) (k2 : List Value) (k3 : List Value) (hp : HP) (K : Env → PV → HP → Prop) : RW Try.prog 24 [2, 3, 5, 7, 11, 13, 17, 19] (opsAt Try.f89 [1, 0]) (List.range 20) (upd (upd e 3 (SV.priv 3 0)) 2 (SV.priv 2 0)) (upd (upd V0 3 (148, k3)) 2 (148, k2)) hp K =
    (ldV (k2)[1]? fun v1 => (intV v1 .i64 fun i2 => (ldV (k3)[1]? fun v3 => (intV v3 .i64 fun i4 => (ite2 (decide ((i2 : Int) < i4)) (K (upd (upd (upd (upd (upd (upd (upd (upd (upd (upd (upd (upd (upd (upd (upd (upd (upd (upd (upd (upd (upd (upd e 3 (SV.priv 3 0)) 2 (SV.priv 2 0)) 5 (SV.priv 2 1)) 6 (sI (i2))) 7 (SV.priv 3 1)) 8 (sI (i4))) 9 (sB ((decide ((i2 : Int) < i4))))) 10 (sB (true))) 11 (sV undef)) 12 (sV undef)) 13 (sV undef)) 14 (sV undef)) 15 (sV undef)) 16 (sV undef)) 17 (sV undef)) 18 (sV undef)) 19 (sV undef)) 20 (sV undef)) 21 (sV undef)) 22 (sV undef)) 23 (sB (true))) 4 (sB (true))) (upd (upd V0 3 (148, k3)) 2 (148, k2)) hp) (ldV (k2)[1]? fun v5 => (intV v5 .i64 fun i6 => (ldV (k3)[1]? fun v7 => (intV v7 .i64 fun i8 => (ite2 ((i6 : Int) == i8) (ldV (k2)[0]? fun v9 => (intV v9 .i64 fun i10 => (ldV (k3)[0]? fun v11 => (intV v11 .i64 fun i12 => (K (upd (upd (upd (upd (upd (upd (upd (upd (upd (upd (upd (upd (upd (upd (upd (upd (upd (upd (upd (upd (upd (upd e 3 (SV.priv 3 0)) 2 (SV.priv 2 0)) 5 (SV.priv 2 1)) 6 (sI (i2))) 7 (SV.priv 3 1)) 8 (sI (i4))) 9 (sB ((decide ((i2 : Int) < i4))))) 10 (sB (false))) 11 (SV.priv 2 1)) 12 (sI (i6))) 13 (SV.priv 3 1)) 14 (sI (i8))) 15 (sB (((i6 : Int) == i8)))) 16 (sB (true))) 17 (SV.priv 2 0)) 18 (sI (i10))) 19 (SV.priv 3 0)) 20 (sI (i12))) 21 (sB ((decide ((i10 : Int) < i12))))) 22 (sB ((decide ((i10 : Int) < i12))))) 23 (sB ((decide ((i10 : Int) < i12))))) 4 (sB ((decide ((i10 : Int) < i12))))) (upd (upd V0 3 (148, k3)) 2 (148, k2)) hp))))) (K (upd (upd (upd (upd (upd (upd (upd (upd (upd (upd (upd (upd (upd (upd (upd (upd (upd (upd (upd (upd (upd (upd e 3 (SV.priv 3 0)) 2 (SV.priv 2 0)) 5 (SV.priv 2 1)) 6 (sI (i2))) 7 (SV.priv 3 1)) 8 (sI (i4))) 9 (sB ((decide ((i2 : Int) < i4))))) 10 (sB (false))) 11 (SV.priv 2 1)) 12 (sI (i6))) 13 (SV.priv 3 1)) 14 (sI (i8))) 15 (sB (((i6 : Int) == i8)))) 16 (sB (false))) 17 (sV undef)) 18 (sV undef)) 19 (sV undef)) 20 (sV undef)) 21 (sV undef)) 22 (sB (false))) 23 (sB (false))) 4 (sB (false))) (upd (upd V0 3 (148, k3)) 2 (148, k2)) hp))))))))))) := by kernel_rfl
def F89 (x0 : List Value) (x1 : List Value) (hp : HP) (K : Value → HP → Prop) : Prop :=
  (ldV (x0)[1]? fun v_1 => (intV v_1 .i64 fun i_2 => (ldV (x1)[1]? fun v_3 => (intV v_3 .i64 fun i_4 => (ite2 (decide ((i_2 : Int) < i_4)) (K (Value.bool true) hp) (ldV (x0)[1]? fun v_5 => (intV v_5 .i64 fun i_6 => (ldV (x1)[1]? fun v_7 => (intV v_7 .i64 fun i_8 => (ite2 ((i_6 : Int) == i_8) (ldV (x0)[0]? fun v_9 => (intV v_9 .i64 fun i_10 => (ldV (x1)[0]? fun v_11 => (intV v_11 .i64 fun i_12 => (K (Value.bool (decide ((i_10 : Int) < i_12))) hp))))) (K (Value.bool false) hp)))))))))))
noncomputable def F89_code : Code := (.seq (.region 0 (opsAt Try.f89 [0]) false) (.seq (.region 1 (opsAt Try.f89 [1, 0]) false) .ret))
theorem F89_body : Try.f89.body = some F89_code := by kernel_rfl
theorem F89_ok (x0 : List Value) (x1 : List Value) (hp : HP) (K : Value → HP → Prop) (h : F89 x0 x1 hp K) : CF Try.prog 89 [(Value.agg ⟨x0⟩), (Value.agg ⟨x1⟩)] hp K := by
 refine .inl ⟨by kernel_rfl, AC.intro (N := 24) Try.func89 F89_body rfl (Nat.le_of_ble_eq_true rfl) ?_⟩
 unfold F89 at h
 unfold F89_code
 refine AWP.seq' ?_
 refine AWP.rgn (F89_r0 E0 x0 x1 hp _) ?_ (Rv 0 _ (Rv 1 _ (Rn))) (Sc rfl (Sc rfl (Sn))) (Sn)
 refine AWP.seq' ?_
 refine AWP.rgn (F89_r1 E0 x0 x1 hp _) ?_ (RefOk.p 2 2 0 (RefOk.p 3 3 0 (Rn) (fun e => by cases e)) (fun e => by cases e)) (Sc rfl (Sc rfl (Sn))) (Sc rfl (Sc rfl (Sn)))
 refine ldV_mono h (fun v_1 h => ?_)
 refine intV_mono h (fun i_2 h => ?_)
 refine ldV_mono h (fun v_3 h => ?_)
 refine intV_mono h (fun i_4 h => ?_)
 refine ite2_mono h (fun h => ?_) (fun h => ?_)
 ·refine AWP.ret ?_
  exact h
 ·refine ldV_mono h (fun v_5 h => ?_)
  refine intV_mono h (fun i_6 h => ?_)
  refine ldV_mono h (fun v_7 h => ?_)
  refine intV_mono h (fun i_8 h => ?_)
  refine ite2_mono h (fun h => ?_) (fun h => ?_)
  ·refine ldV_mono h (fun v_9 h => ?_)
   refine intV_mono h (fun i_10 h => ?_)
   refine ldV_mono h (fun v_11 h => ?_)
   refine intV_mono h (fun i_12 h => ?_)
   refine AWP.ret ?_
   exact h
  ·refine AWP.ret ?_
   exact h
-- 90 container/heap.Remove
theorem F90_r0 (e : Env) (hp : HP) (K : Env → PV → HP → Prop) : RW Try.prog 26 [] (opsAt Try.f90 [0]) (List.range 1) e V0 hp K =
    (K (upd e 4 (sV (Value.nilIface : Value))) V0 hp) := by kernel_rfl
theorem F90_r1 (e : Env) (x0 : Value) (hp : HP) (K : Env → PV → HP → Prop) : RW Try.prog 26 [] (opsAt Try.f90 [1, 0]) (List.range 4) (upd e 0 (sV x0)) V0 hp K =
    (ifaceV x0 fun t1 v2 => (mthF Try.prog t1 "Len" fun f3 => (CF Try.prog f3 (v2 :: []) hp fun u4 h5 => (intV u4 .i64 fun i6 => (K (upd (upd (upd (upd (upd e 0 (sV x0)) 6 (sV x0)) 7 (sI (i6))) 8 (sI ((IntKind.wrap .i64 (i6 - 1))))) 5 (sI ((IntKind.wrap .i64 (i6 - 1))))) V0 h5))))) := by kernel_rfl
theorem F90_r2 (e : Env) (x0 : Value) (hp : HP) (K : Env → PV → HP → Prop) : RW Try.prog 26 [] (opsAt Try.f90 [1, 1, 1, 0]) (List.range 3) (upd e 0 (sV x0)) V0 hp K =
    (ifaceV x0 fun t1 v2 => (mthF Try.prog t1 "Pop" fun f3 => (CF Try.prog f3 (v2 :: []) hp fun u4 h5 => (K (upd (upd (upd (upd e 0 (sV x0)) 24 (sV x0)) 25 (sV u4)) 4 (sV u4)) V0 h5)))) := by kernel_rfl
def F90_j1 (x0 : Value) (hp : HP) (K : Value → HP → Prop) : Prop :=
  (ifaceV x0 fun t_7 v_8 => (mthF Try.prog t_7 "Pop" fun f_9 => (CF Try.prog f_9 (v_8 :: []) hp fun u_10 h_11 => (K u_10 h_11))))
theorem F90_r3 (e : Env) (x1 : Int) (x5 : Int) (hp : HP) (K : Env → PV → HP → Prop) : RW Try.prog 26 [] (opsAt Try.f90 [1, 1, 0, 0]) (List.range 3) (upd (upd e 5 (sI (x5))) 1 (sI (x1))) V0 hp K =
    (K (upd (upd (upd (upd (upd e 5 (sI (x5))) 1 (sI (x1))) 9 (sI (x5))) 10 (sI (x1))) 11 (sB (((x5 : Int) != x1)))) V0 hp) := by kernel_rfl
theorem F90_r4 (e : Env) (x0 : Value) (x1 : Int) (x5 : Int) (hp : HP) (K : Env → PV → HP → Prop) : RW Try.prog 26 [] (opsAt Try.f90 [1, 1, 0, 1, 0, 0]) (List.range 4) (upd (upd (upd e 5 (sI (x5))) 1 (sI (x1))) 0 (sV x0)) V0 hp K =
    (ifaceV x0 fun t1 v2 => (mthF Try.prog t1 "Swap" fun f3 => (CF Try.prog f3 (v2 :: [(Value.int .i64 x1), (Value.int .i64 x5)]) hp fun u4 h5 => (K (upd (upd (upd (upd (upd (upd (upd e 5 (sI (x5))) 1 (sI (x1))) 0 (sV x0)) 12 (sV x0)) 13 (sI (x1))) 14 (sI (x5))) 15 (sV u4)) V0 h5)))) := by kernel_rfl
theorem F90_r5 (e : Env) (x0 : Value) (x1 : Int) (x5 : Int) (hp : HP) (K : Env → PV → HP → Prop) : RW Try.prog 26 [] (opsAt Try.f90 [1, 1, 0, 1, 0, 1, 0]) (List.range 5) (upd (upd (upd e 5 (sI (x5))) 1 (sI (x1))) 0 (sV x0)) V0 hp K =
    (CF Try.prog 127 [x0, (Value.int .i64 x1), (Value.int .i64 x5)] hp fun u1 h2 => (boolV u1 fun q3 => (K (upd (upd (upd (upd (upd (upd (upd (upd e 5 (sI (x5))) 1 (sI (x1))) 0 (sV x0)) 16 (sV x0)) 17 (sI (x1))) 18 (sI (x5))) 19 (sB (q3))) 20 (sB ((!q3)))) V0 h2))) := by kernel_rfl
theorem F90_r6 (e : Env) (x0 : Value) (x1 : Int) (hp : HP) (K : Env → PV → HP → Prop) : RW Try.prog 26 [] (opsAt Try.f90 [1, 1, 0, 1, 0, 1, 1, 0]) (List.range 3) (upd (upd e 1 (sI (x1))) 0 (sV x0)) V0 hp K =
    (CF Try.prog 126 [x0, (Value.int .i64 x1)] hp fun u1 h2 => (K (upd (upd (upd (upd (upd e 1 (sI (x1))) 0 (sV x0)) 21 (sV x0)) 22 (sI (x1))) 23 (sV u1)) V0 h2)) := by kernel_rfl
def F90 (x0 : Value) (x1 : Int) (hp : HP) (K : Value → HP → Prop) : Prop :=
  (ifaceV x0 fun t_1 v_2 => (mthF Try.prog t_1 "Len" fun f_3 => (CF Try.prog f_3 (v_2 :: []) hp fun u_4 h_5 => (intV u_4 .i64 fun i_6 => (ite2 (((IntKind.wrap .i64 (i_6 - 1)) : Int) != x1) (ifaceV x0 fun t_12 v_13 => (mthF Try.prog t_12 "Swap" fun f_14 => (CF Try.prog f_14 (v_13 :: [(Value.int .i64 x1), (Value.int .i64 (IntKind.wrap .i64 (i_6 - 1)))]) h_5 fun u_15 h_16 => (CF Try.prog 127 [x0, (Value.int .i64 x1), (Value.int .i64 (IntKind.wrap .i64 (i_6 - 1)))] h_16 fun u_17 h_18 => (boolV u_17 fun q_19 => (ite2 (!q_19) (CF Try.prog 126 [x0, (Value.int .i64 x1)] h_18 fun u_20 h_21 => (F90_j1 x0 h_21  K)) (F90_j1 x0 h_18  K))))))) (F90_j1 x0 h_5  K))))))
noncomputable def F90_code : Code := (.seq (.region 0 (opsAt Try.f90 [0]) false) (.seq (.region 1 (opsAt Try.f90 [1, 0]) false) (.seq (.seq (.region 2 (opsAt Try.f90 [1, 1, 0, 0]) false) (.cond (.tmp 11) (.seq (.region 3 (opsAt Try.f90 [1, 1, 0, 1, 0, 0]) false) (.seq (.region 4 (opsAt Try.f90 [1, 1, 0, 1, 0, 1, 0]) false) (.cond (.tmp 20) (.region 5 (opsAt Try.f90 [1, 1, 0, 1, 0, 1, 1, 0]) false) .skip))) .skip)) (.seq (.region 6 (opsAt Try.f90 [1, 1, 1, 0]) false) .ret))))
theorem F90_body : Try.f90.body = some F90_code := by kernel_rfl
theorem F90_ok (x0 : Value) (x1 : Int) (hp : HP) (K : Value → HP → Prop) (h : F90 x0 x1 hp K) : CF Try.prog 90 [x0, (Value.int .i64 x1)] hp K := by
 refine .inl ⟨by kernel_rfl, AC.intro (N := 26) Try.func90 F90_body rfl (Nat.le_of_ble_eq_true rfl) ?_⟩
 unfold F90 at h
 unfold F90_code
 refine AWP.seq' ?_
 refine AWP.rgn (F90_r0 (upd (upd E0 1 (sI (x1))) 0 (sV x0))  hp _) ?_ (Rv 0 _ (Rv 1 _ (Rn))) (Sc rfl (Sc rfl (Sn))) (Sn)
 refine AWP.seq' ?_
 refine AWP.rgn (F90_r1 (upd E0 1 (sI (x1))) x0 hp _) ?_ (Rv 0 _ (Rv 1 _ (Rn))) (Sc rfl (Sc rfl (Sn))) (Sn)
 refine ifaceV_mono h (fun t_1 v_2 h => ?_)
 refine mthF_mono h (fun f_3 h => ?_)
 refine CF_mono h (fun u_4 h_5 h => ?_)
 refine intV_mono h (fun i_6 h => ?_)
 refine AWP.seq (fun env pv hp => ∃ (x0 : Value), Sub (upd E0 0 (sV x0)) env ∧ Sub V0 pv ∧ (F90_j1 x0 hp  K)) ?_ ?_
 ·refine AWP.seq' ?_
  refine AWP.rgn (F90_r3 (upd E0 0 (sV x0)) x1 (IntKind.wrap .i64 (i_6 - 1)) h_5 _) ?_ (Rv 1 _ (Rv 5 _ (Rv 0 _ (Rn)))) (Sc rfl (Sc rfl (Sc rfl (Sn)))) (Sn)
  refine AWP.cond (t := (((IntKind.wrap .i64 (i_6 - 1)) : Int) != x1)) rfl (fun e => ?_) (fun e => ?_)
  ·replace h := ite2_t h e
   refine AWP.seq' ?_
   refine AWP.rgn (F90_r4 E0 x0 x1 (IntKind.wrap .i64 (i_6 - 1)) h_5 _) ?_ (Rv 0 _ (Rv 1 _ (Rv 5 _ (Rn)))) (Sc rfl (Sc rfl (Sc rfl (Sn)))) (Sn)
   refine ifaceV_mono h (fun t_12 v_13 h => ?_)
   refine mthF_mono h (fun f_14 h => ?_)
   refine CF_mono h (fun u_15 h_16 h => ?_)
   refine AWP.seq' ?_
   refine AWP.rgn (F90_r5 E0 x0 x1 (IntKind.wrap .i64 (i_6 - 1)) h_16 _) ?_ (Rv 0 _ (Rv 1 _ (Rv 5 _ (Rn)))) (Sc rfl (Sc rfl (Sc rfl (Sn)))) (Sn)
   refine CF_mono h (fun u_17 h_18 h => ?_)
   refine boolV_mono h (fun q_19 h => ?_)
   refine AWP.cond (t := (!q_19)) rfl (fun e => ?_) (fun e => ?_)
   ·replace h := ite2_t h e
    refine AWP.rgn (F90_r6 E0 x0 x1 h_18 _) ?_ (Rv 0 _ (Rv 1 _ (Rn))) (Sc rfl (Sc rfl (Sn))) (Sn)
    refine CF_mono h (fun u_20 h_21 h => ?_)
    exact ⟨x0, (Sc rfl (Sn)), (Sn), h⟩
   ·replace h := ite2_f h e
    refine AWP.skip ?_
    exact ⟨x0, (Sc rfl (Sn)), (Sn), h⟩
  ·replace h := ite2_f h e
   refine AWP.skip ?_
   exact ⟨x0, (Sc rfl (Sn)), (Sn), h⟩
 ·rintro env pv hp ⟨x0, he, hv, h⟩
  refine AWP.sub (env' := (upd E0 0 (sV x0))) (pv' := V0) ?_ (Rv 0 _ (Rn)) he hv (HSub.refl _)
  clear he hv
  unfold F90_j1 at h
  refine AWP.seq' ?_
  refine AWP.rgn (F90_r2 E0 x0 hp _) ?_ (Rv 0 _ (Rn)) (Sc rfl (Sn)) (Sn)
  refine ifaceV_mono h (fun t_7 v_8 h => ?_)
  refine mthF_mono h (fun f_9 h => ?_)
  refine CF_mono h (fun u_10 h_11 h => ?_)
  refine AWP.ret ?_
  exact h
-- 91 (*interpreter/expiry.order).Len
theorem F91_r0 (e : Env) (hp : HP) (K : Env → PV → HP → Prop) : RW Try.prog 8 [] (opsAt Try.f91 [0]) (List.range 1) e V0 hp K =
    (K (upd e 2 (sI (0))) V0 hp) := by kernel_rfl
theorem F91_r1 (e : Env) (x0 : Option Addr) (hp : HP) (K : Env → PV → HP → Prop) : RW Try.prog 8 [] (opsAt Try.f91 [1, 0]) (List.range 6) (upd e 0 (sV (Value.pointer x0))) V0 hp K =
    (ptrN x0 fun b1 o2 => (ldV (HP.cell hp b1 (o2 + 0)) fun v3 => (slcV v3 fun a4 n5 c6 => (K (upd (upd (upd (upd (upd (upd (upd e 0 (sV (Value.pointer x0))) 3 (sV (Value.pointer x0))) 4 (sV (ptr b1 o2))) 5 (sV (ptr b1 (o2 + 0)))) 6 (sV (Value.slice a4 n5 c6))) 7 (sI ((n5 : Nat)))) 2 (sI ((n5 : Nat)))) V0 hp)))) := by kernel_rfl
def F91 (x0 : Option Addr) (hp : HP) (K : Value → HP → Prop) : Prop :=
  (ptrN x0 fun b_1 o_2 => (ldV (HP.cell hp b_1 (o_2 + 0)) fun v_3 => (slcV v_3 fun a_4 n_5 c_6 => (K (Value.int .i64 (n_5 : Nat)) hp))))
noncomputable def F91_code : Code := (.seq (.region 0 (opsAt Try.f91 [0]) false) (.seq (.region 1 (opsAt Try.f91 [1, 0]) false) .ret))
theorem F91_body : Try.f91.body = some F91_code := by kernel_rfl
theorem F91_ok (x0 : Option Addr) (hp : HP) (K : Value → HP → Prop) (h : F91 x0 hp K) : CF Try.prog 91 [(Value.pointer x0)] hp K := by
 refine .inl ⟨by kernel_rfl, AC.intro (N := 8) Try.func91 F91_body rfl (Nat.le_of_ble_eq_true rfl) ?_⟩
 unfold F91 at h
 unfold F91_code
 refine AWP.seq' ?_
 refine AWP.rgn (F91_r0 (upd E0 0 (sV (Value.pointer x0)))  hp _) ?_ (Rv 0 _ (Rn)) (Sc rfl (Sn)) (Sn)
 refine AWP.seq' ?_
 refine AWP.rgn (F91_r1 E0 x0 hp _) ?_ (Rv 0 _ (Rn)) (Sc rfl (Sn)) (Sn)
 refine ptrN_mono h (fun b_1 o_2 h => ?_)
 refine ldV_mono h (fun v_3 h => ?_)
 refine slcV_mono h (fun a_4 n_5 c_6 h => ?_)
 refine AWP.ret ?_
 exact h
-- 126 container/heap.up
theorem F126_r0 (e : Env) (x1 : Int) (hp : HP) (K : Env → PV → HP → Prop) : RW Try.prog 23 [] (opsAt Try.f126 [0, 0, 0, 0]) (List.range 4) (upd e 1 (sI (x1))) V0 hp K =
    (((2 : Int) ≠ 0) ∧ (K (upd (upd (upd (upd (upd e 1 (sI (x1))) 5 (sI (x1))) 6 (sI ((IntKind.wrap .i64 (x1 - 1))))) 7 (sI ((IntKind.wrap .i64 (Int.tdiv (IntKind.wrap .i64 (x1 - 1)) 2))))) 4 (sI ((IntKind.wrap .i64 (Int.tdiv (IntKind.wrap .i64 (x1 - 1)) 2))))) V0 hp)) := by kernel_rfl
theorem F126_r1 (e : Env) (x0 : Value) (x1 : Int) (x4 : Int) (hp : HP) (K : Env → PV → HP → Prop) : RW Try.prog 23 [] (opsAt Try.f126 [0, 0, 0, 1, 1, 0]) (List.range 4) (upd (upd (upd e 4 (sI (x4))) 1 (sI (x1))) 0 (sV x0)) V0 hp K =
    (ifaceV x0 fun t1 v2 => (mthF Try.prog t1 "Swap" fun f3 => (CF Try.prog f3 (v2 :: [(Value.int .i64 x4), (Value.int .i64 x1)]) hp fun u4 h5 => (K (upd (upd (upd (upd (upd (upd (upd e 4 (sI (x4))) 1 (sI (x1))) 0 (sV x0)) 18 (sV x0)) 19 (sI (x4))) 20 (sI (x1))) 21 (sV u4)) V0 h5)))) := by kernel_rfl
theorem F126_r2 (e : Env) (x4 : Int) (hp : HP) (K : Env → PV → HP → Prop) : RW Try.prog 23 [] (opsAt Try.f126 [0, 0, 0, 1, 1, 1]) (List.range 2) (upd e 4 (sI (x4))) V0 hp K =
    (K (upd (upd (upd e 4 (sI (x4))) 22 (sI (x4))) 1 (sI (x4))) V0 hp) := by kernel_rfl
def F126_j2 (x0 : Value) (x1 : Int) (x4 : Int) (x17 : Bool) (hp : HP) (I1 : (Int) → HP → Prop) (K : Value → HP → Prop) : Prop :=
  (ite2 x17 (K (.tuple ⟨[]⟩) hp) (ifaceV x0 fun t_1 v_2 => (mthF Try.prog t_1 "Swap" fun f_3 => (CF Try.prog f_3 (v_2 :: [(Value.int .i64 x4), (Value.int .i64 x1)]) hp fun u_4 h_5 => (I1 x4 h_5)))))
theorem F126_r3 (e : Env) (x0 : Value) (x1 : Int) (x4 : Int) (hp : HP) (K : Env → PV → HP → Prop) : RW Try.prog 23 [] (opsAt Try.f126 [0, 0, 0, 1, 0, 0]) (List.range 10) (upd (upd (upd e 4 (sI (x4))) 1 (sI (x1))) 0 (sV x0)) V0 hp K =
    (ite2 ((x4 : Int) == x1) (K (upd (upd (upd (upd (upd (upd (upd (upd (upd (upd (upd (upd (upd e 4 (sI (x4))) 1 (sI (x1))) 0 (sV x0)) 8 (sI (x4))) 9 (sI (x1))) 10 (sB (((x4 : Int) == x1)))) 11 (sB (true))) 12 (sV undef)) 13 (sV undef)) 14 (sV undef)) 15 (sV undef)) 16 (sV undef)) 17 (sB (true))) V0 hp) (ifaceV x0 fun t1 v2 => (mthF Try.prog t1 "Less" fun f3 => (CF Try.prog f3 (v2 :: [(Value.int .i64 x1), (Value.int .i64 x4)]) hp fun u4 h5 => (boolV u4 fun q6 => (K (upd (upd (upd (upd (upd (upd (upd (upd (upd (upd (upd (upd (upd e 4 (sI (x4))) 1 (sI (x1))) 0 (sV x0)) 8 (sI (x4))) 9 (sI (x1))) 10 (sB (((x4 : Int) == x1)))) 11 (sB (false))) 12 (sV x0)) 13 (sI (x1))) 14 (sI (x4))) 15 (sB (q6))) 16 (sB ((!q6)))) 17 (sB ((!q6)))) V0 h5)))))) := by kernel_rfl
def F126_l1 (x0 : Value) (K : Value → HP → Prop) (I1 : (Int) → HP → Prop) (x1 : Int) (hp : HP) : Prop :=
  (((2 : Int) ≠ 0) ∧ (ite2 (((IntKind.wrap .i64 (Int.tdiv (IntKind.wrap .i64 (x1 - 1)) 2)) : Int) == x1) (F126_j2 x0 x1 (IntKind.wrap .i64 (Int.tdiv (IntKind.wrap .i64 (x1 - 1)) 2)) true hp I1 K) (ifaceV x0 fun t_6 v_7 => (mthF Try.prog t_6 "Less" fun f_8 => (CF Try.prog f_8 (v_7 :: [(Value.int .i64 x1), (Value.int .i64 (IntKind.wrap .i64 (Int.tdiv (IntKind.wrap .i64 (x1 - 1)) 2)))]) hp fun u_9 h_10 => (boolV u_9 fun q_11 => (F126_j2 x0 x1 (IntKind.wrap .i64 (Int.tdiv (IntKind.wrap .i64 (x1 - 1)) 2)) (!q_11) h_10 I1 K)))))))
def F126 (x0 : Value) (x1 : Int) (hp : HP) (K : Value → HP → Prop) : Prop :=
  (LoopP (σ := Int) (fun I s hp => F126_l1 x0  K I s hp) x1 hp)
noncomputable def F126_code : Code := (.block 0 (.loop (.block 1 (.seq (.region 0 (opsAt Try.f126 [0, 0, 0, 0]) false) (.seq (.seq (.region 1 (opsAt Try.f126 [0, 0, 0, 1, 0, 0]) false) (.cond (.tmp 17) (.exit 0) .skip)) (.seq (.region 2 (opsAt Try.f126 [0, 0, 0, 1, 1, 0]) false) (.region 3 (opsAt Try.f126 [0, 0, 0, 1, 1, 1]) false)))))))
theorem F126_body : Try.f126.body = some F126_code := by kernel_rfl
theorem F126_ok (x0 : Value) (x1 : Int) (hp : HP) (K : Value → HP → Prop) (h : F126 x0 x1 hp K) : CF Try.prog 126 [x0, (Value.int .i64 x1)] hp K := by
 refine .inl ⟨by kernel_rfl, AC.intro (N := 23) Try.func126 F126_body rfl (Nat.le_of_ble_eq_true rfl) ?_⟩
 unfold F126 at h
 unfold F126_code
 refine AWP.block ?_
 refine AWP.loop (σ := Int) (fun I s hp => F126_l1 x0  K I s hp) (fun s => (upd (upd E0 1 (sI (s))) 0 (sV x0))) (fun s => V0) x1 h (fun s => (Rv 0 _ (Rv 1 _ (Rn)))) (Sc rfl (Sc rfl (Sn))) (Sn) ?_
 intro I1 s hp h
 obtain ⟨x1, hs⟩ : ∃ x, x = s := ⟨s, rfl⟩
 subst hs
 replace h : F126_l1 x0  K I1 x1 hp := h
 unfold F126_l1 at h
 refine AWP.block ?_
 refine AWP.seq' ?_
 refine AWP.rgn (F126_r0 (upd E0 0 (sV x0)) x1 hp _) ?_ (Rv 1 _ (Rv 0 _ (Rn))) (Sc rfl (Sc rfl (Sn))) (Sn)
 refine ⟨h.1, ?_⟩
 replace h := h.2
 refine AWP.seq' ?_
 refine AWP.seq (fun env pv hp => ∃ (x1 : Int) (x4 : Int) (x17 : Bool), Sub (upd (upd (upd (upd E0 17 (sB (x17))) 4 (sI (x4))) 1 (sI (x1))) 0 (sV x0)) env ∧ Sub V0 pv ∧ (F126_j2 x0 x1 x4 x17 hp I1 K)) ?_ ?_
 ·refine AWP.rgn (F126_r3 E0 x0 x1 (IntKind.wrap .i64 (Int.tdiv (IntKind.wrap .i64 (x1 - 1)) 2)) hp _) ?_ (Rv 0 _ (Rv 1 _ (Rv 4 _ (Rn)))) (Sc rfl (Sc rfl (Sc rfl (Sn)))) (Sn)
  refine ite2_mono h (fun h => ?_) (fun h => ?_)
  ·exact ⟨x1, (IntKind.wrap .i64 (Int.tdiv (IntKind.wrap .i64 (x1 - 1)) 2)), true, (Sc rfl (Sc rfl (Sc rfl (Sc rfl (Sn))))), (Sn), h⟩
  ·refine ifaceV_mono h (fun t_6 v_7 h => ?_)
   refine mthF_mono h (fun f_8 h => ?_)
   refine CF_mono h (fun u_9 h_10 h => ?_)
   refine boolV_mono h (fun q_11 h => ?_)
   exact ⟨x1, (IntKind.wrap .i64 (Int.tdiv (IntKind.wrap .i64 (x1 - 1)) 2)), (!q_11), (Sc rfl (Sc rfl (Sc rfl (Sc rfl (Sn))))), (Sn), h⟩
 ·rintro env pv hp ⟨x1, x4, x17, he, hv, h⟩
  refine AWP.sub (env' := (upd (upd (upd (upd E0 17 (sB (x17))) 4 (sI (x4))) 1 (sI (x1))) 0 (sV x0))) (pv' := V0) ?_ (Rv 0 _ (Rv 1 _ (Rv 4 _ (Rv 17 _ (Rn))))) he hv (HSub.refl _)
  clear he hv
  unfold F126_j2 at h
  refine AWP.cond (t := x17) rfl (fun e => ?_) (fun e => ?_)
  ·replace h := ite2_t h e
   refine AWP.exit ?_
   exact h
  ·replace h := ite2_f h e
   refine AWP.skip ?_
   refine AWP.seq' ?_
   refine AWP.rgn (F126_r1 E0 x0 x1 x4 hp _) ?_ (Rv 0 _ (Rv 1 _ (Rv 4 _ (Rn)))) (Sc rfl (Sc rfl (Sc rfl (Sn)))) (Sn)
   refine ifaceV_mono h (fun t_1 v_2 h => ?_)
   refine mthF_mono h (fun f_3 h => ?_)
   refine CF_mono h (fun u_4 h_5 h => ?_)
   refine AWP.rgn (F126_r2 (upd E0 0 (sV x0)) x4 h_5 _) ?_ (Rv 4 _ (Rv 0 _ (Rn))) (Sc rfl (Sc rfl (Sn))) (Sn)
   exact ⟨x4, (Sc rfl (Sc rfl (Sn))), (Sn), h⟩
-- 127 container/heap.down
theorem F127_r0 (e : Env) (hp : HP) (K : Env → PV → HP → Prop) : RW Try.prog 48 [] (opsAt Try.f127 [0]) (List.range 1) e V0 hp K =
    (K (upd e 6 (sB (false))) V0 hp) := by kernel_rfl
theorem F127_r1 (e : Env) (x1 : Int) (x7 : Int) (hp : HP) (K : Env → PV → HP → Prop) : RW Try.prog 48 [] (opsAt Try.f127 [1, 1, 1, 0]) (List.range 4) (upd (upd e 7 (sI (x7))) 1 (sI (x1))) V0 hp K =
    (K (upd (upd (upd (upd (upd (upd e 7 (sI (x7))) 1 (sI (x1))) 45 (sI (x7))) 46 (sI (x1))) 47 (sB ((decide ((x7 : Int) > x1))))) 6 (sB ((decide ((x7 : Int) > x1))))) V0 hp) := by kernel_rfl
def F127_j2 (x1 : Int) (x7 : Int) (hp : HP) (K : Value → HP → Prop) : Prop :=
  (K (Value.bool (decide ((x7 : Int) > x1))) hp)
theorem F127_r2 (e : Env) (x7 : Int) (hp : HP) (K : Env → PV → HP → Prop) : RW Try.prog 48 [] (opsAt Try.f127 [1, 1, 0, 0, 0, 0, 0]) (List.range 4) (upd e 7 (sI (x7))) V0 hp K =
    (K (upd (upd (upd (upd (upd e 7 (sI (x7))) 12 (sI (x7))) 13 (sI ((IntKind.wrap .i64 (2 * x7))))) 14 (sI ((IntKind.wrap .i64 ((IntKind.wrap .i64 (2 * x7)) + 1))))) 8 (sI ((IntKind.wrap .i64 ((IntKind.wrap .i64 (2 * x7)) + 1))))) V0 hp) := by kernel_rfl
theorem F127_r3 (e : Env) (x8 : Int) (hp : HP) (K : Env → PV → HP → Prop) : RW Try.prog 48 [] (opsAt Try.f127 [1, 1, 0, 0, 0, 0, 1, 1, 0]) (List.range 2) (upd e 8 (sI (x8))) V0 hp K =
    (K (upd (upd (upd e 8 (sI (x8))) 22 (sI (x8))) 9 (sI (x8))) V0 hp) := by kernel_rfl
theorem F127_r4 (e : Env) (x0 : Value) (x7 : Int) (x9 : Int) (hp : HP) (K : Env → PV → HP → Prop) : RW Try.prog 48 [] (opsAt Try.f127 [1, 1, 0, 0, 0, 0, 1, 1, 1, 1, 0, 0]) (List.range 5) (upd (upd (upd e 9 (sI (x9))) 7 (sI (x7))) 0 (sV x0)) V0 hp K =
    (ifaceV x0 fun t1 v2 => (mthF Try.prog t1 "Less" fun f3 => (CF Try.prog f3 (v2 :: [(Value.int .i64 x9), (Value.int .i64 x7)]) hp fun u4 h5 => (boolV u4 fun q6 => (K (upd (upd (upd (upd (upd (upd (upd (upd e 9 (sI (x9))) 7 (sI (x7))) 0 (sV x0)) 35 (sV x0)) 36 (sI (x9))) 37 (sI (x7))) 38 (sB (q6))) 39 (sB ((!q6)))) V0 h5))))) := by kernel_rfl
theorem F127_r5 (e : Env) (x0 : Value) (x7 : Int) (x9 : Int) (hp : HP) (K : Env → PV → HP → Prop) : RW Try.prog 48 [] (opsAt Try.f127 [1, 1, 0, 0, 0, 0, 1, 1, 1, 1, 1, 0]) (List.range 4) (upd (upd (upd e 9 (sI (x9))) 7 (sI (x7))) 0 (sV x0)) V0 hp K =
    (ifaceV x0 fun t1 v2 => (mthF Try.prog t1 "Swap" fun f3 => (CF Try.prog f3 (v2 :: [(Value.int .i64 x7), (Value.int .i64 x9)]) hp fun u4 h5 => (K (upd (upd (upd (upd (upd (upd (upd e 9 (sI (x9))) 7 (sI (x7))) 0 (sV x0)) 40 (sV x0)) 41 (sI (x7))) 42 (sI (x9))) 43 (sV u4)) V0 h5)))) := by kernel_rfl
theorem F127_r6 (e : Env) (x9 : Int) (hp : HP) (K : Env → PV → HP → Prop) : RW Try.prog 48 [] (opsAt Try.f127 [1, 1, 0, 0, 0, 0, 1, 1, 1, 1, 1, 1]) (List.range 2) (upd e 9 (sI (x9))) V0 hp K =
    (K (upd (upd (upd e 9 (sI (x9))) 44 (sI (x9))) 7 (sI (x9))) V0 hp) := by kernel_rfl
def F127_j5 (x0 : Value) (x1 : Int) (x2 : Int) (x7 : Int) (x9 : Int) (hp : HP) (I3 : (Int) → HP → Prop) (K : Value → HP → Prop) : Prop :=
  (ifaceV x0 fun t_1 v_2 => (mthF Try.prog t_1 "Less" fun f_3 => (CF Try.prog f_3 (v_2 :: [(Value.int .i64 x9), (Value.int .i64 x7)]) hp fun u_4 h_5 => (boolV u_4 fun q_6 => (ite2 (!q_6) (F127_j2 x1 x7 h_5  K) (ifaceV x0 fun t_7 v_8 => (mthF Try.prog t_7 "Swap" fun f_9 => (CF Try.prog f_9 (v_8 :: [(Value.int .i64 x7), (Value.int .i64 x9)]) h_5 fun u_10 h_11 => (I3 x9 h_11)))))))))
theorem F127_r7 (e : Env) (x8 : Int) (hp : HP) (K : Env → PV → HP → Prop) : RW Try.prog 48 [] (opsAt Try.f127 [1, 1, 0, 0, 0, 0, 1, 1, 1, 0, 0]) (List.range 3) (upd e 8 (sI (x8))) V0 hp K =
    (K (upd (upd (upd (upd e 8 (sI (x8))) 23 (sI (x8))) 24 (sI ((IntKind.wrap .i64 (x8 + 1))))) 10 (sI ((IntKind.wrap .i64 (x8 + 1))))) V0 hp) := by kernel_rfl
theorem F127_r8 (e : Env) (x10 : Int) (hp : HP) (K : Env → PV → HP → Prop) : RW Try.prog 48 [] (opsAt Try.f127 [1, 1, 0, 0, 0, 0, 1, 1, 1, 0, 1, 1, 0]) (List.range 2) (upd e 10 (sI (x10))) V0 hp K =
    (K (upd (upd (upd e 10 (sI (x10))) 34 (sI (x10))) 9 (sI (x10))) V0 hp) := by kernel_rfl
def F127_j6 (x0 : Value) (x1 : Int) (x2 : Int) (x7 : Int) (x9 : Int) (x10 : Int) (x33 : Bool) (hp : HP) (I3 : (Int) → HP → Prop) (K : Value → HP → Prop) : Prop :=
  (ite2 x33 (F127_j5 x0 x1 x2 x7 x10 hp I3 K) (F127_j5 x0 x1 x2 x7 x9 hp I3 K))
theorem F127_r9 (e : Env) (x0 : Value) (x2 : Int) (x8 : Int) (x10 : Int) (hp : HP) (K : Env → PV → HP → Prop) : RW Try.prog 48 [] (opsAt Try.f127 [1, 1, 0, 0, 0, 0, 1, 1, 1, 0, 1, 0]) (List.range 9) (upd (upd (upd (upd e 10 (sI (x10))) 8 (sI (x8))) 2 (sI (x2))) 0 (sV x0)) V0 hp K =
    (ite2 (decide ((x10 : Int) < x2)) (ifaceV x0 fun t1 v2 => (mthF Try.prog t1 "Less" fun f3 => (CF Try.prog f3 (v2 :: [(Value.int .i64 x10), (Value.int .i64 x8)]) hp fun u4 h5 => (boolV u4 fun q6 => (K (upd (upd (upd (upd (upd (upd (upd (upd (upd (upd (upd (upd (upd e 10 (sI (x10))) 8 (sI (x8))) 2 (sI (x2))) 0 (sV x0)) 25 (sI (x10))) 26 (sI (x2))) 27 (sB ((decide ((x10 : Int) < x2))))) 28 (sB (true))) 29 (sV x0)) 30 (sI (x10))) 31 (sI (x8))) 32 (sB (q6))) 33 (sB (q6))) V0 h5))))) (K (upd (upd (upd (upd (upd (upd (upd (upd (upd (upd (upd (upd (upd e 10 (sI (x10))) 8 (sI (x8))) 2 (sI (x2))) 0 (sV x0)) 25 (sI (x10))) 26 (sI (x2))) 27 (sB ((decide ((x10 : Int) < x2))))) 28 (sB (false))) 29 (sV undef)) 30 (sV undef)) 31 (sV undef)) 32 (sV undef)) 33 (sB (false))) V0 hp)) := by kernel_rfl
def F127_j4 (x0 : Value) (x1 : Int) (x2 : Int) (x7 : Int) (x8 : Int) (x21 : Bool) (hp : HP) (I3 : (Int) → HP → Prop) (K : Value → HP → Prop) : Prop :=
  (ite2 x21 (F127_j2 x1 x7 hp  K) (ite2 (decide (((IntKind.wrap .i64 (x8 + 1)) : Int) < x2)) (ifaceV x0 fun t_12 v_13 => (mthF Try.prog t_12 "Less" fun f_14 => (CF Try.prog f_14 (v_13 :: [(Value.int .i64 (IntKind.wrap .i64 (x8 + 1))), (Value.int .i64 x8)]) hp fun u_15 h_16 => (boolV u_15 fun q_17 => (F127_j6 x0 x1 x2 x7 x8 (IntKind.wrap .i64 (x8 + 1)) q_17 h_16 I3 K))))) (F127_j6 x0 x1 x2 x7 x8 (IntKind.wrap .i64 (x8 + 1)) false hp I3 K)))
theorem F127_r10 (e : Env) (x2 : Int) (x8 : Int) (hp : HP) (K : Env → PV → HP → Prop) : RW Try.prog 48 [] (opsAt Try.f127 [1, 1, 0, 0, 0, 0, 1, 0, 0]) (List.range 7) (upd (upd e 8 (sI (x8))) 2 (sI (x2))) V0 hp K =
    (ite2 (decide ((x8 : Int) ≥ x2)) (K (upd (upd (upd (upd (upd (upd (upd (upd (upd e 8 (sI (x8))) 2 (sI (x2))) 15 (sI (x8))) 16 (sI (x2))) 17 (sB ((decide ((x8 : Int) ≥ x2))))) 18 (sB (true))) 19 (sV undef)) 20 (sV undef)) 21 (sB (true))) V0 hp) (K (upd (upd (upd (upd (upd (upd (upd (upd (upd e 8 (sI (x8))) 2 (sI (x2))) 15 (sI (x8))) 16 (sI (x2))) 17 (sB ((decide ((x8 : Int) ≥ x2))))) 18 (sB (false))) 19 (sI (x8))) 20 (sB ((decide ((x8 : Int) < 0))))) 21 (sB ((decide ((x8 : Int) < 0))))) V0 hp)) := by kernel_rfl
def F127_l3 (x0 : Value) (x1 : Int) (x2 : Int) (K : Value → HP → Prop) (I3 : (Int) → HP → Prop) (x7 : Int) (hp : HP) : Prop :=
  (ite2 (decide (((IntKind.wrap .i64 ((IntKind.wrap .i64 (2 * x7)) + 1)) : Int) ≥ x2)) (F127_j4 x0 x1 x2 x7 (IntKind.wrap .i64 ((IntKind.wrap .i64 (2 * x7)) + 1)) true hp I3 K) (F127_j4 x0 x1 x2 x7 (IntKind.wrap .i64 ((IntKind.wrap .i64 (2 * x7)) + 1)) (decide (((IntKind.wrap .i64 ((IntKind.wrap .i64 (2 * x7)) + 1)) : Int) < 0)) hp I3 K))
def F127_j1 (x0 : Value) (x1 : Int) (x2 : Int) (x7 : Int) (hp : HP) (K : Value → HP → Prop) : Prop :=
  (LoopP (σ := Int) (fun I s hp => F127_l3 x0 x1 x2  K I s hp) x7 hp)
theorem F127_r11 (e : Env) (x1 : Int) (hp : HP) (K : Env → PV → HP → Prop) : RW Try.prog 48 [] (opsAt Try.f127 [1, 0]) (List.range 2) (upd e 1 (sI (x1))) V0 hp K =
    (K (upd (upd (upd e 1 (sI (x1))) 11 (sI (x1))) 7 (sI (x1))) V0 hp) := by kernel_rfl
def F127 (x0 : Value) (x1 : Int) (x2 : Int) (hp : HP) (K : Value → HP → Prop) : Prop :=
  (F127_j1 x0 x1 x2 x1 hp  K)
noncomputable def F127_code : Code := (.seq (.region 0 (opsAt Try.f127 [0]) false) (.seq (.region 1 (opsAt Try.f127 [1, 0]) false) (.seq (.block 0 (.loop (.block 1 (.seq (.region 2 (opsAt Try.f127 [1, 1, 0, 0, 0, 0, 0]) false) (.seq (.seq (.region 3 (opsAt Try.f127 [1, 1, 0, 0, 0, 0, 1, 0, 0]) false) (.cond (.tmp 21) (.exit 0) .skip)) (.seq (.region 4 (opsAt Try.f127 [1, 1, 0, 0, 0, 0, 1, 1, 0]) false) (.seq (.seq (.region 5 (opsAt Try.f127 [1, 1, 0, 0, 0, 0, 1, 1, 1, 0, 0]) false) (.seq (.region 6 (opsAt Try.f127 [1, 1, 0, 0, 0, 0, 1, 1, 1, 0, 1, 0]) false) (.cond (.tmp 33) (.region 7 (opsAt Try.f127 [1, 1, 0, 0, 0, 0, 1, 1, 1, 0, 1, 1, 0]) false) .skip))) (.seq (.seq (.region 8 (opsAt Try.f127 [1, 1, 0, 0, 0, 0, 1, 1, 1, 1, 0, 0]) false) (.cond (.tmp 39) (.exit 0) .skip)) (.seq (.region 9 (opsAt Try.f127 [1, 1, 0, 0, 0, 0, 1, 1, 1, 1, 1, 0]) false) (.region 10 (opsAt Try.f127 [1, 1, 0, 0, 0, 0, 1, 1, 1, 1, 1, 1]) false)))))))))) (.seq (.region 11 (opsAt Try.f127 [1, 1, 1, 0]) false) .ret))))
theorem F127_body : Try.f127.body = some F127_code := by kernel_rfl
theorem F127_ok (x0 : Value) (x1 : Int) (x2 : Int) (hp : HP) (K : Value → HP → Prop) (h : F127 x0 x1 x2 hp K) : CF Try.prog 127 [x0, (Value.int .i64 x1), (Value.int .i64 x2)] hp K := by
 refine .inl ⟨by kernel_rfl, AC.intro (N := 48) Try.func127 F127_body rfl (Nat.le_of_ble_eq_true rfl) ?_⟩
 unfold F127 at h
 unfold F127_code
 refine AWP.seq' ?_
 refine AWP.rgn (F127_r0 (upd (upd (upd E0 2 (sI (x2))) 1 (sI (x1))) 0 (sV x0))  hp _) ?_ (Rv 0 _ (Rv 1 _ (Rv 2 _ (Rn)))) (Sc rfl (Sc rfl (Sc rfl (Sn)))) (Sn)
 refine AWP.seq (fun env pv hp => ∃ (x0 : Value) (x1 : Int) (x2 : Int) (x7 : Int), Sub (upd (upd (upd (upd E0 7 (sI (x7))) 2 (sI (x2))) 1 (sI (x1))) 0 (sV x0)) env ∧ Sub V0 pv ∧ (F127_j1 x0 x1 x2 x7 hp  K)) ?_ ?_
 ·refine AWP.rgn (F127_r11 (upd (upd E0 2 (sI (x2))) 0 (sV x0)) x1 hp _) ?_ (Rv 1 _ (Rv 0 _ (Rv 2 _ (Rn)))) (Sc rfl (Sc rfl (Sc rfl (Sn)))) (Sn)
  exact ⟨x0, x1, x2, x1, (Sc rfl (Sc rfl (Sc rfl (Sc rfl (Sn))))), (Sn), h⟩
 ·rintro env pv hp ⟨x0, x1, x2, x7, he, hv, h⟩
  refine AWP.sub (env' := (upd (upd (upd (upd E0 7 (sI (x7))) 2 (sI (x2))) 1 (sI (x1))) 0 (sV x0))) (pv' := V0) ?_ (Rv 0 _ (Rv 1 _ (Rv 2 _ (Rv 7 _ (Rn))))) he hv (HSub.refl _)
  clear he hv
  unfold F127_j1 at h
  refine AWP.seq (fun env pv hp => ∃ (x1 : Int) (x7 : Int), Sub (upd (upd E0 7 (sI (x7))) 1 (sI (x1))) env ∧ Sub V0 pv ∧ (F127_j2 x1 x7 hp  K)) ?_ ?_
  ·refine AWP.block ?_
   refine AWP.loop (σ := Int) (fun I s hp => F127_l3 x0 x1 x2  K I s hp) (fun s => (upd (upd (upd (upd E0 7 (sI (s))) 2 (sI (x2))) 1 (sI (x1))) 0 (sV x0))) (fun s => V0) x7 h (fun s => (Rv 0 _ (Rv 1 _ (Rv 2 _ (Rv 7 _ (Rn)))))) (Sc rfl (Sc rfl (Sc rfl (Sc rfl (Sn))))) (Sn) ?_
   intro I3 s hp h
   obtain ⟨x7, hs⟩ : ∃ x, x = s := ⟨s, rfl⟩
   subst hs
   replace h : F127_l3 x0 x1 x2  K I3 x7 hp := h
   unfold F127_l3 at h
   refine AWP.block ?_
   refine AWP.seq' ?_
   refine AWP.rgn (F127_r2 (upd (upd (upd E0 2 (sI (x2))) 1 (sI (x1))) 0 (sV x0)) x7 hp _) ?_ (Rv 7 _ (Rv 0 _ (Rv 1 _ (Rv 2 _ (Rn))))) (Sc rfl (Sc rfl (Sc rfl (Sc rfl (Sn))))) (Sn)
   refine AWP.seq' ?_
   refine AWP.seq (fun env pv hp => ∃ (x7 : Int) (x8 : Int) (x21 : Bool), Sub (upd (upd (upd (upd (upd (upd E0 21 (sB (x21))) 8 (sI (x8))) 7 (sI (x7))) 2 (sI (x2))) 1 (sI (x1))) 0 (sV x0)) env ∧ Sub V0 pv ∧ (F127_j4 x0 x1 x2 x7 x8 x21 hp I3 K)) ?_ ?_
   ·refine AWP.rgn (F127_r10 (upd (upd (upd E0 7 (sI (x7))) 1 (sI (x1))) 0 (sV x0)) x2 (IntKind.wrap .i64 ((IntKind.wrap .i64 (2 * x7)) + 1)) hp _) ?_ (Rv 2 _ (Rv 8 _ (Rv 0 _ (Rv 1 _ (Rv 7 _ (Rn)))))) (Sc rfl (Sc rfl (Sc rfl (Sc rfl (Sc rfl (Sn)))))) (Sn)
    refine ite2_mono h (fun h => ?_) (fun h => ?_)
    ·exact ⟨x7, (IntKind.wrap .i64 ((IntKind.wrap .i64 (2 * x7)) + 1)), true, (Sc rfl (Sc rfl (Sc rfl (Sc rfl (Sc rfl (Sc rfl (Sn))))))), (Sn), h⟩
    ·exact ⟨x7, (IntKind.wrap .i64 ((IntKind.wrap .i64 (2 * x7)) + 1)), (decide (((IntKind.wrap .i64 ((IntKind.wrap .i64 (2 * x7)) + 1)) : Int) < 0)), (Sc rfl (Sc rfl (Sc rfl (Sc rfl (Sc rfl (Sc rfl (Sn))))))), (Sn), h⟩
   ·rintro env pv hp ⟨x7, x8, x21, he, hv, h⟩
    refine AWP.sub (env' := (upd (upd (upd (upd (upd (upd E0 21 (sB (x21))) 8 (sI (x8))) 7 (sI (x7))) 2 (sI (x2))) 1 (sI (x1))) 0 (sV x0))) (pv' := V0) ?_ (Rv 0 _ (Rv 1 _ (Rv 2 _ (Rv 7 _ (Rv 8 _ (Rv 21 _ (Rn))))))) he hv (HSub.refl _)
    clear he hv
    unfold F127_j4 at h
    refine AWP.cond (t := x21) rfl (fun e => ?_) (fun e => ?_)
    ·replace h := ite2_t h e
     refine AWP.exit ?_
     exact ⟨x1, x7, (Sc rfl (Sc rfl (Sn))), (Sn), h⟩
    ·replace h := ite2_f h e
     refine AWP.skip ?_
     refine AWP.seq' ?_
     refine AWP.rgn (F127_r3 (upd (upd (upd (upd E0 7 (sI (x7))) 2 (sI (x2))) 1 (sI (x1))) 0 (sV x0)) x8 hp _) ?_ (Rv 8 _ (Rv 0 _ (Rv 1 _ (Rv 2 _ (Rv 7 _ (Rn)))))) (Sc rfl (Sc rfl (Sc rfl (Sc rfl (Sc rfl (Sn)))))) (Sn)
     refine AWP.seq (fun env pv hp => ∃ (x7 : Int) (x9 : Int), Sub (upd (upd (upd (upd (upd E0 9 (sI (x9))) 7 (sI (x7))) 2 (sI (x2))) 1 (sI (x1))) 0 (sV x0)) env ∧ Sub V0 pv ∧ (F127_j5 x0 x1 x2 x7 x9 hp I3 K)) ?_ ?_
     ·refine AWP.seq' ?_
      refine AWP.rgn (F127_r7 (upd (upd (upd (upd (upd E0 9 (sI (x8))) 7 (sI (x7))) 2 (sI (x2))) 1 (sI (x1))) 0 (sV x0)) x8 hp _) ?_ (Rv 8 _ (Rv 0 _ (Rv 1 _ (Rv 2 _ (Rv 7 _ (Rv 9 _ (Rn))))))) (Sc rfl (Sc rfl (Sc rfl (Sc rfl (Sc rfl (Sc rfl (Sn))))))) (Sn)
      refine AWP.seq (fun env pv hp => ∃ (x7 : Int) (x9 : Int) (x10 : Int) (x33 : Bool), Sub (upd (upd (upd (upd (upd (upd (upd E0 33 (sB (x33))) 10 (sI (x10))) 9 (sI (x9))) 7 (sI (x7))) 2 (sI (x2))) 1 (sI (x1))) 0 (sV x0)) env ∧ Sub V0 pv ∧ (F127_j6 x0 x1 x2 x7 x9 x10 x33 hp I3 K)) ?_ ?_
      ·refine AWP.rgn (F127_r9 (upd (upd (upd E0 9 (sI (x8))) 7 (sI (x7))) 1 (sI (x1))) x0 x2 x8 (IntKind.wrap .i64 (x8 + 1)) hp _) ?_ (Rv 0 _ (Rv 2 _ (Rv 8 _ (Rv 10 _ (Rv 1 _ (Rv 7 _ (Rv 9 _ (Rn)))))))) (Sc rfl (Sc rfl (Sc rfl (Sc rfl (Sc rfl (Sc rfl (Sc rfl (Sn)))))))) (Sn)
       refine ite2_mono h (fun h => ?_) (fun h => ?_)
       ·refine ifaceV_mono h (fun t_12 v_13 h => ?_)
        refine mthF_mono h (fun f_14 h => ?_)
        refine CF_mono h (fun u_15 h_16 h => ?_)
        refine boolV_mono h (fun q_17 h => ?_)
        exact ⟨x7, x8, (IntKind.wrap .i64 (x8 + 1)), q_17, (Sc rfl (Sc rfl (Sc rfl (Sc rfl (Sc rfl (Sc rfl (Sc rfl (Sn)))))))), (Sn), h⟩
       ·exact ⟨x7, x8, (IntKind.wrap .i64 (x8 + 1)), false, (Sc rfl (Sc rfl (Sc rfl (Sc rfl (Sc rfl (Sc rfl (Sc rfl (Sn)))))))), (Sn), h⟩
      ·rintro env pv hp ⟨x7, x9, x10, x33, he, hv, h⟩
       refine AWP.sub (env' := (upd (upd (upd (upd (upd (upd (upd E0 33 (sB (x33))) 10 (sI (x10))) 9 (sI (x9))) 7 (sI (x7))) 2 (sI (x2))) 1 (sI (x1))) 0 (sV x0))) (pv' := V0) ?_ (Rv 0 _ (Rv 1 _ (Rv 2 _ (Rv 7 _ (Rv 9 _ (Rv 10 _ (Rv 33 _ (Rn)))))))) he hv (HSub.refl _)
       clear he hv
       unfold F127_j6 at h
       refine AWP.cond (t := x33) rfl (fun e => ?_) (fun e => ?_)
       ·replace h := ite2_t h e
        refine AWP.rgn (F127_r8 (upd (upd (upd (upd E0 7 (sI (x7))) 2 (sI (x2))) 1 (sI (x1))) 0 (sV x0)) x10 hp _) ?_ (Rv 10 _ (Rv 0 _ (Rv 1 _ (Rv 2 _ (Rv 7 _ (Rn)))))) (Sc rfl (Sc rfl (Sc rfl (Sc rfl (Sc rfl (Sn)))))) (Sn)
        exact ⟨x7, x10, (Sc rfl (Sc rfl (Sc rfl (Sc rfl (Sc rfl (Sn)))))), (Sn), h⟩
       ·replace h := ite2_f h e
        refine AWP.skip ?_
        exact ⟨x7, x9, (Sc rfl (Sc rfl (Sc rfl (Sc rfl (Sc rfl (Sn)))))), (Sn), h⟩
     ·rintro env pv hp ⟨x7, x9, he, hv, h⟩
      refine AWP.sub (env' := (upd (upd (upd (upd (upd E0 9 (sI (x9))) 7 (sI (x7))) 2 (sI (x2))) 1 (sI (x1))) 0 (sV x0))) (pv' := V0) ?_ (Rv 0 _ (Rv 1 _ (Rv 2 _ (Rv 7 _ (Rv 9 _ (Rn)))))) he hv (HSub.refl _)
      clear he hv
      unfold F127_j5 at h
      refine AWP.seq' ?_
      refine AWP.seq' ?_
      refine AWP.rgn (F127_r4 (upd (upd E0 2 (sI (x2))) 1 (sI (x1))) x0 x7 x9 hp _) ?_ (Rv 0 _ (Rv 7 _ (Rv 9 _ (Rv 1 _ (Rv 2 _ (Rn)))))) (Sc rfl (Sc rfl (Sc rfl (Sc rfl (Sc rfl (Sn)))))) (Sn)
      refine ifaceV_mono h (fun t_1 v_2 h => ?_)
      refine mthF_mono h (fun f_3 h => ?_)
      refine CF_mono h (fun u_4 h_5 h => ?_)
      refine boolV_mono h (fun q_6 h => ?_)
      refine AWP.cond (t := (!q_6)) rfl (fun e => ?_) (fun e => ?_)
      ·replace h := ite2_t h e
       refine AWP.exit ?_
       exact ⟨x1, x7, (Sc rfl (Sc rfl (Sn))), (Sn), h⟩
      ·replace h := ite2_f h e
       refine AWP.skip ?_
       refine AWP.seq' ?_
       refine AWP.rgn (F127_r5 (upd (upd E0 2 (sI (x2))) 1 (sI (x1))) x0 x7 x9 h_5 _) ?_ (Rv 0 _ (Rv 7 _ (Rv 9 _ (Rv 1 _ (Rv 2 _ (Rn)))))) (Sc rfl (Sc rfl (Sc rfl (Sc rfl (Sc rfl (Sn)))))) (Sn)
       refine ifaceV_mono h (fun t_7 v_8 h => ?_)
       refine mthF_mono h (fun f_9 h => ?_)
       refine CF_mono h (fun u_10 h_11 h => ?_)
       refine AWP.rgn (F127_r6 (upd (upd (upd E0 2 (sI (x2))) 1 (sI (x1))) 0 (sV x0)) x9 h_11 _) ?_ (Rv 9 _ (Rv 0 _ (Rv 1 _ (Rv 2 _ (Rn))))) (Sc rfl (Sc rfl (Sc rfl (Sc rfl (Sn))))) (Sn)
       exact ⟨x9, (Sc rfl (Sc rfl (Sc rfl (Sc rfl (Sn))))), (Sn), h⟩
  ·rintro env pv hp ⟨x1, x7, he, hv, h⟩
   refine AWP.sub (env' := (upd (upd E0 7 (sI (x7))) 1 (sI (x1)))) (pv' := V0) ?_ (Rv 1 _ (Rv 7 _ (Rn))) he hv (HSub.refl _)
   clear he hv
   unfold F127_j2 at h
   refine AWP.seq' ?_
   refine AWP.rgn (F127_r1 E0 x1 x7 hp _) ?_ (Rv 1 _ (Rv 7 _ (Rn))) (Sc rfl (Sc rfl (Sn))) (Sn)
   refine AWP.ret ?_
   exact h
-- 213 (*interpreter/expiry.order).Less
theorem F213_r0 (e : Env) (hp : HP) (K : Env → PV → HP → Prop) : RW Try.prog 22 [] (opsAt Try.f213 [0]) (List.range 1) e V0 hp K =
    (K (upd e 6 (sB (false))) V0 hp) := by kernel_rfl
theorem F213_r1 (e : Env) (x0 : Option Addr) (x1 : Int) (x2 : Int) (hp : HP) (K : Env → PV → HP → Prop) : RW Try.prog 22 [] (opsAt Try.f213 [1, 0]) (List.range 16) (upd (upd (upd e 2 (sI (x2))) 1 (sI (x1))) 0 (sV (Value.pointer x0))) V0 hp K =
    (ptrN x0 fun b1 o2 => (ldV (HP.cell hp b1 (o2 + 0)) fun v3 => (slcV v3 fun a4 n5 c6 => ((0 ≤ (x1 : Int)) ∧ ((x1 : Int) < (n5 : Nat)) ∧ (ptrN a4 fun b7 o8 => (ldL (HP.cellN hp b7 (o8 + Int.toNat x1 * 2) 2) fun l9 => (ptrN x0 fun b10 o11 => (ldV (HP.cell hp b10 (o11 + 0)) fun v12 => (slcV v12 fun a13 n14 c15 => ((0 ≤ (x2 : Int)) ∧ ((x2 : Int) < (n14 : Nat)) ∧ (ptrN a13 fun b16 o17 => (ldL (HP.cellN hp b16 (o17 + Int.toNat x2 * 2) 2) fun l18 => (CF Try.prog 89 [(Value.agg ⟨l9⟩), (Value.agg ⟨l18⟩)] hp fun u19 h20 => (boolV u19 fun q21 => (K (upd (upd (upd (upd (upd (upd (upd (upd (upd (upd (upd (upd (upd (upd (upd (upd (upd (upd (upd e 2 (sI (x2))) 1 (sI (x1))) 0 (sV (Value.pointer x0))) 7 (sV (Value.pointer x0))) 8 (sV (ptr b1 o2))) 9 (sV (ptr b1 (o2 + 0)))) 10 (sV (Value.slice a4 n5 c6))) 11 (sI (x1))) 12 (sV (ptr b7 (o8 + Int.toNat x1 * 2)))) 13 (sV (Value.agg ⟨l9⟩))) 14 (sV (Value.pointer x0))) 15 (sV (ptr b10 o11))) 16 (sV (ptr b10 (o11 + 0)))) 17 (sV (Value.slice a13 n14 c15))) 18 (sI (x2))) 19 (sV (ptr b16 (o17 + Int.toNat x2 * 2)))) 20 (sV (Value.agg ⟨l18⟩))) 21 (sB (q21))) 6 (sB (q21))) V0 h20))))))))))))))) := by kernel_rfl
def F213 (x0 : Option Addr) (x1 : Int) (x2 : Int) (hp : HP) (K : Value → HP → Prop) : Prop :=
  (ptrN x0 fun b_1 o_2 => (ldV (HP.cell hp b_1 (o_2 + 0)) fun v_3 => (slcV v_3 fun a_4 n_5 c_6 => ((0 ≤ (x1 : Int)) ∧ ((x1 : Int) < (n_5 : Nat)) ∧ (ptrN a_4 fun b_7 o_8 => (ldL (HP.cellN hp b_7 (o_8 + Int.toNat x1 * 2) 2) fun l_9 => (ptrN x0 fun b_10 o_11 => (ldV (HP.cell hp b_10 (o_11 + 0)) fun v_12 => (slcV v_12 fun a_13 n_14 c_15 => ((0 ≤ (x2 : Int)) ∧ ((x2 : Int) < (n_14 : Nat)) ∧ (ptrN a_13 fun b_16 o_17 => (ldL (HP.cellN hp b_16 (o_17 + Int.toNat x2 * 2) 2) fun l_18 => (CF Try.prog 89 [(Value.agg ⟨l_9⟩), (Value.agg ⟨l_18⟩)] hp fun u_19 h_20 => (boolV u_19 fun q_21 => (K (Value.bool q_21) h_20)))))))))))))))
noncomputable def F213_code : Code := (.seq (.region 0 (opsAt Try.f213 [0]) false) (.seq (.region 1 (opsAt Try.f213 [1, 0]) true) .ret))
theorem F213_body : Try.f213.body = some F213_code := by kernel_rfl
theorem F213_ok (x0 : Option Addr) (x1 : Int) (x2 : Int) (hp : HP) (K : Value → HP → Prop) (h : F213 x0 x1 x2 hp K) : CF Try.prog 213 [(Value.pointer x0), (Value.int .i64 x1), (Value.int .i64 x2)] hp K := by
 refine .inl ⟨by kernel_rfl, AC.intro (N := 22) Try.func213 F213_body rfl (Nat.le_of_ble_eq_true rfl) ?_⟩
 unfold F213 at h
 unfold F213_code
 refine AWP.seq' ?_
 refine AWP.rgn (F213_r0 (upd (upd (upd E0 2 (sI (x2))) 1 (sI (x1))) 0 (sV (Value.pointer x0)))  hp _) ?_ (Rv 0 _ (Rv 1 _ (Rv 2 _ (Rn)))) (Sc rfl (Sc rfl (Sc rfl (Sn)))) (Sn)
 refine AWP.seq' ?_
 refine AWP.rgnD (by kernel_rfl) (by kernel_rfl) (F213_r1 E0 x0 x1 x2 hp _) ?_ (Rv 0 _ (Rv 1 _ (Rv 2 _ (Rn)))) (Sc rfl (Sc rfl (Sc rfl (Sn)))) (Sn)
 refine ptrN_mono h (fun b_1 o_2 h => ?_)
 refine ldV_mono h (fun v_3 h => ?_)
 refine slcV_mono h (fun a_4 n_5 c_6 h => ?_)
 refine ⟨h.1, h.2.1, ?_⟩
 replace h := h.2.2
 refine ptrN_mono h (fun b_7 o_8 h => ?_)
 refine ldL_mono h (fun l_9 h => ?_)
 refine ptrN_mono h (fun b_10 o_11 h => ?_)
 refine ldV_mono h (fun v_12 h => ?_)
 refine slcV_mono h (fun a_13 n_14 c_15 h => ?_)
 refine ⟨h.1, h.2.1, ?_⟩
 replace h := h.2.2
 refine ptrN_mono h (fun b_16 o_17 h => ?_)
 refine ldL_mono h (fun l_18 h => ?_)
 refine CF_mono h (fun u_19 h_20 h => ?_)
 refine boolV_mono h (fun q_21 h => ?_)
 refine AWP.ret ?_
 exact h
-- 214 (*interpreter/expiry.order).Pop
theorem F214_r0 (e : Env) (hp : HP) (K : Env → PV → HP → Prop) : RW Try.prog 35 [4, 31] (opsAt Try.f214 [0]) (List.range 1) e V0 hp K =
    (K (upd e 2 (sV (Value.nilIface : Value))) V0 hp) := by kernel_rfl
theorem F214_r1 (e : Env) (x0 : Option Addr) (hp : HP) (K : Env → PV → HP → Prop) : RW Try.prog 35 [4, 31] (opsAt Try.f214 [1, 0]) (List.range 7) (upd e 0 (sV (Value.pointer x0))) V0 hp K =
    (ptrN x0 fun b1 o2 => (ldV (HP.cell hp b1 (o2 + 0)) fun v3 => (slcV v3 fun a4 n5 c6 => (K (upd (upd (upd (upd (upd (upd (upd (upd e 0 (sV (Value.pointer x0))) 5 (sV (Value.pointer x0))) 6 (sV (ptr b1 o2))) 7 (sV (ptr b1 (o2 + 0)))) 8 (sV (Value.slice a4 n5 c6))) 9 (sI ((n5 : Nat)))) 10 (sI ((IntKind.wrap .i64 ((n5 : Nat) - 1))))) 3 (sI ((IntKind.wrap .i64 ((n5 : Nat) - 1))))) V0 hp)))) := by kernel_rfl
theorem F214_r2 (e : Env) (x0 : Option Addr) (x3 : Int) (hp : HP) (K : Env → PV → HP → Prop) : RW Try.prog 35 [4, 31] (opsAt Try.f214 [1, 1, 0]) (List.range 9) (upd (upd e 3 (sI (x3))) 0 (sV (Value.pointer x0))) V0 hp K =
    (ptrN x0 fun b1 o2 => (ldV (HP.cell hp b1 (o2 + 0)) fun v3 => (slcV v3 fun a4 n5 c6 => ((0 ≤ (x3 : Int)) ∧ ((x3 : Int) < (n5 : Nat)) ∧ (ptrN a4 fun b7 o8 => (ldL (HP.cellN hp b7 (o8 + Int.toNat x3 * 2) 2) fun l9 => (if List.length l9 = 2 then (if List.all l9 one = true then (if 0 + List.length l9 ≤ List.length [(Value.int .i64 0), (Value.int .i64 0)] then (K (upd (upd (upd (upd (upd (upd (upd (upd (upd (upd e 3 (sI (x3))) 0 (sV (Value.pointer x0))) 11 (sV (Value.pointer x0))) 12 (sV (ptr b1 o2))) 13 (sV (ptr b1 (o2 + 0)))) 14 (sV (Value.slice a4 n5 c6))) 15 (sI (x3))) 16 (sV (ptr b7 (o8 + Int.toNat x3 * 2)))) 17 (sV (Value.agg ⟨l9⟩))) 4 (SV.priv 4 0)) (upd (upd V0 4 (148, [(Value.int .i64 0), (Value.int .i64 0)])) 4 (148, (splice [(Value.int .i64 0), (Value.int .i64 0)] 0 l9))) hp) else False) else False) else False))))))) := by kernel_rfl
theorem F214_r3 (e : Env) (x0 : Option Addr) (x3 : Int) (k4 : List Value) (hp : HP) (K : Env → PV → HP → Prop) : RW Try.prog 35 [4, 31] (opsAt Try.f214 [1, 1, 1, 0]) (List.range 10) (upd (upd e 3 (sI (x3))) 0 (sV (Value.pointer x0))) (upd V0 4 (148, k4)) hp K =
    (ptrN x0 fun b1 o2 => (ldV (HP.cell hp b1 (o2 + 0)) fun v3 => (slcV v3 fun a4 n5 c6 => ((0 ≤ (x3 : Int)) ∧ ((x3 : Int) ≤ (c6 : Nat)) ∧ (ptrN x0 fun b7 o8 => (HP.st hp b7 (o8 + 0) (Value.slice a4 (Int.toNat x3) c6) fun h9 => (K (upd (upd (upd (upd (upd (upd (upd (upd (upd (upd (upd e 3 (sI (x3))) 0 (sV (Value.pointer x0))) 18 (sV (Value.pointer x0))) 19 (sV (Value.pointer x0))) 20 (sV (ptr b1 o2))) 21 (sV (ptr b1 (o2 + 0)))) 22 (sV (Value.slice a4 n5 c6))) 23 (sI (x3))) 24 (sV (Value.slice a4 (Int.toNat x3) c6))) 25 (sV (ptr b7 o8))) 26 (sV (ptr b7 (o8 + 0)))) (upd V0 4 (148, k4)) h9))))))) := by kernel_rfl
theorem F214_r4 (e : Env) (x0 : Option Addr) (k4 : List Value) (hp : HP) (K : Env → PV → HP → Prop) : RW Try.prog 35 [4, 31] (opsAt Try.f214 [1, 1, 1, 1, 0]) (List.range 7) (upd (upd e 4 (SV.priv 4 0)) 0 (sV (Value.pointer x0))) (upd V0 4 (148, k4)) hp K =
    (ptrN x0 fun b1 o2 => (ldV (HP.cell hp b1 (o2 + 1)) fun v3 => (mapV v3 fun m4 => (ldV (k4)[0]? fun v5 => (intV v5 .i64 fun i6 => (opS Try.prog (Builtin.delete_ #[49, 3] 0 ⟨[(Value.map m4), (Value.int .i64 i6)]⟩) hp fun u7 h8 => (K (upd (upd (upd (upd (upd (upd (upd (upd e 4 (SV.priv 4 0)) 0 (sV (Value.pointer x0))) 27 (sV (Value.pointer x0))) 28 (sV (ptr b1 o2))) 29 (sV (ptr b1 (o2 + 1)))) 30 (sV (Value.map m4))) 31 (SV.priv 4 0)) 32 (sI (i6))) (upd V0 4 (148, k4)) h8))))))) := by kernel_rfl
theorem F214_r5 (e : Env) (k4 : List Value) (hp : HP) (K : Env → PV → HP → Prop) : RW Try.prog 35 [4, 31] (opsAt Try.f214 [1, 1, 1, 1, 1, 0]) (List.range 3) (upd e 4 (SV.priv 4 0)) (upd V0 4 (148, k4)) hp K =
    (ldL (cellsN k4 0 2) fun l1 => (K (upd (upd (upd (upd e 4 (SV.priv 4 0)) 33 (sV (Value.agg ⟨l1⟩))) 34 (sV (Value.iface 148 (Value.agg ⟨l1⟩)))) 2 (sV (Value.iface 148 (Value.agg ⟨l1⟩)))) (upd V0 4 (148, k4)) hp)) := by kernel_rfl
def F214 (x0 : Option Addr) (hp : HP) (K : Value → HP → Prop) : Prop :=
  (ptrN x0 fun b_1 o_2 => (ldV (HP.cell hp b_1 (o_2 + 0)) fun v_3 => (slcV v_3 fun a_4 n_5 c_6 => (ptrN x0 fun b_7 o_8 => (ldV (HP.cell hp b_7 (o_8 + 0)) fun v_9 => (slcV v_9 fun a_10 n_11 c_12 => ((0 ≤ ((IntKind.wrap .i64 ((n_5 : Nat) - 1)) : Int)) ∧ (((IntKind.wrap .i64 ((n_5 : Nat) - 1)) : Int) < (n_11 : Nat)) ∧ (ptrN a_10 fun b_13 o_14 => (ldL (HP.cellN hp b_13 (o_14 + Int.toNat (IntKind.wrap .i64 ((n_5 : Nat) - 1)) * 2) 2) fun l_15 => (if List.length l_15 = 2 then (if List.all l_15 one = true then (if 0 + List.length l_15 ≤ List.length [(Value.int .i64 0), (Value.int .i64 0)] then (ptrN x0 fun b_16 o_17 => (ldV (HP.cell hp b_16 (o_17 + 0)) fun v_18 => (slcV v_18 fun a_19 n_20 c_21 => ((0 ≤ ((IntKind.wrap .i64 ((n_5 : Nat) - 1)) : Int)) ∧ (((IntKind.wrap .i64 ((n_5 : Nat) - 1)) : Int) ≤ (c_21 : Nat)) ∧ (ptrN x0 fun b_22 o_23 => (HP.st hp b_22 (o_23 + 0) (Value.slice a_19 (Int.toNat (IntKind.wrap .i64 ((n_5 : Nat) - 1))) c_21) fun h_24 => (ptrN x0 fun b_25 o_26 => (ldV (HP.cell h_24 b_25 (o_26 + 1)) fun v_27 => (mapV v_27 fun m_28 => (ldV ((splice [(Value.int .i64 0), (Value.int .i64 0)] 0 l_15))[0]? fun v_29 => (intV v_29 .i64 fun i_30 => (opS Try.prog (Builtin.delete_ #[49, 3] 0 ⟨[(Value.map m_28), (Value.int .i64 i_30)]⟩) h_24 fun u_31 h_32 => (ldL (cellsN (splice [(Value.int .i64 0), (Value.int .i64 0)] 0 l_15) 0 2) fun l_33 => (K (Value.iface 148 (Value.agg ⟨l_33⟩)) h_32)))))))))))))) else False) else False) else False))))))))))
noncomputable def F214_code : Code := (.seq (.region 0 (opsAt Try.f214 [0]) false) (.seq (.region 1 (opsAt Try.f214 [1, 0]) false) (.seq (.region 2 (opsAt Try.f214 [1, 1, 0]) false) (.seq (.region 3 (opsAt Try.f214 [1, 1, 1, 0]) false) (.seq (.region 4 (opsAt Try.f214 [1, 1, 1, 1, 0]) true) (.seq (.region 5 (opsAt Try.f214 [1, 1, 1, 1, 1, 0]) false) .ret))))))
theorem F214_body : Try.f214.body = some F214_code := by kernel_rfl
theorem F214_ok (x0 : Option Addr) (hp : HP) (K : Value → HP → Prop) (h : F214 x0 hp K) : CF Try.prog 214 [(Value.pointer x0)] hp K := by
 refine .inl ⟨by kernel_rfl, AC.intro (N := 35) Try.func214 F214_body rfl (Nat.le_of_ble_eq_true rfl) ?_⟩
 unfold F214 at h
 unfold F214_code
 refine AWP.seq' ?_
 refine AWP.rgn (F214_r0 (upd E0 0 (sV (Value.pointer x0)))  hp _) ?_ (Rv 0 _ (Rn)) (Sc rfl (Sn)) (Sn)
 refine AWP.seq' ?_
 refine AWP.rgn (F214_r1 E0 x0 hp _) ?_ (Rv 0 _ (Rn)) (Sc rfl (Sn)) (Sn)
 refine ptrN_mono h (fun b_1 o_2 h => ?_)
 refine ldV_mono h (fun v_3 h => ?_)
 refine slcV_mono h (fun a_4 n_5 c_6 h => ?_)
 refine AWP.seq' ?_
 refine AWP.rgn (F214_r2 E0 x0 (IntKind.wrap .i64 ((n_5 : Nat) - 1)) hp _) ?_ (Rv 0 _ (Rv 3 _ (Rn))) (Sc rfl (Sc rfl (Sn))) (Sn)
 refine ptrN_mono h (fun b_7 o_8 h => ?_)
 refine ldV_mono h (fun v_9 h => ?_)
 refine slcV_mono h (fun a_10 n_11 c_12 h => ?_)
 refine ⟨h.1, h.2.1, ?_⟩
 replace h := h.2.2
 refine ptrN_mono h (fun b_13 o_14 h => ?_)
 refine ldL_mono h (fun l_15 h => ?_)
 refine if_mono h (fun h => ?_)
 refine if_mono h (fun h => ?_)
 refine if_mono h (fun h => ?_)
 refine AWP.seq' ?_
 refine AWP.rgn (F214_r3 (upd E0 4 (SV.priv 4 0)) x0 (IntKind.wrap .i64 ((n_5 : Nat) - 1)) (splice [(Value.int .i64 0), (Value.int .i64 0)] 0 l_15) hp _) ?_ (Rv 0 _ (Rv 3 _ (RefOk.p 4 4 0 (Rn) (fun e => by cases e)))) (Sc rfl (Sc rfl (Sc rfl (Sn)))) (Sc rfl (Sn))
 refine ptrN_mono h (fun b_16 o_17 h => ?_)
 refine ldV_mono h (fun v_18 h => ?_)
 refine slcV_mono h (fun a_19 n_20 c_21 h => ?_)
 refine ⟨h.1, h.2.1, ?_⟩
 replace h := h.2.2
 refine ptrN_mono h (fun b_22 o_23 h => ?_)
 refine st_mono h (fun h_24 h => ?_)
 refine AWP.seq' ?_
 refine AWP.rgnD (by kernel_rfl) (by kernel_rfl) (F214_r4 E0 x0 (splice [(Value.int .i64 0), (Value.int .i64 0)] 0 l_15) h_24 _) ?_ (Rv 0 _ (RefOk.p 4 4 0 (Rn) (fun e => by cases e))) (Sc rfl (Sc rfl (Sn))) (Sc rfl (Sn))
 refine ptrN_mono h (fun b_25 o_26 h => ?_)
 refine ldV_mono h (fun v_27 h => ?_)
 refine mapV_mono h (fun m_28 h => ?_)
 refine ldV_mono h (fun v_29 h => ?_)
 refine intV_mono h (fun i_30 h => ?_)
 refine opS_mono h (fun u_31 h_32 h => ?_)
 refine AWP.seq' ?_
 refine AWP.rgn (F214_r5 E0 (splice [(Value.int .i64 0), (Value.int .i64 0)] 0 l_15) h_32 _) ?_ (RefOk.p 4 4 0 (Rn) (fun e => by cases e)) (Sc rfl (Sn)) (Sc rfl (Sn))
 refine ldL_mono h (fun l_33 h => ?_)
 refine AWP.ret ?_
 exact h
-- 215 (*interpreter/expiry.order).Push
theorem F215_r0 (e : Env) (x1 : Value) (hp : HP) (K : Env → PV → HP → Prop) : RW Try.prog 28 [4, 11] (opsAt Try.f215 [0]) (List.range 4) (upd e 1 (sV x1)) V0 hp K =
    (rdS Try.prog (Instr.typeAssert x1 20 148 false) hp fun u1 => (aggV u1 fun l2 => (if List.length l2 = 2 then (if List.all l2 one = true then (if 0 + List.length l2 ≤ List.length [(Value.int .i64 0), (Value.int .i64 0)] then (K (upd (upd (upd (upd e 1 (sV x1)) 5 (sV x1)) 6 (sV (Value.agg ⟨l2⟩))) 4 (SV.priv 4 0)) (upd (upd V0 4 (148, [(Value.int .i64 0), (Value.int .i64 0)])) 4 (148, (splice [(Value.int .i64 0), (Value.int .i64 0)] 0 l2))) hp) else False) else False) else False))) := by kernel_rfl
theorem F215_r1 (e : Env) (x0 : Option Addr) (k4 : List Value) (hp : HP) (K : Env → PV → HP → Prop) : RW Try.prog 28 [4, 11] (opsAt Try.f215 [1, 0]) (List.range 12) (upd (upd e 4 (SV.priv 4 0)) 0 (sV (Value.pointer x0))) (upd V0 4 (148, k4)) hp K =
    (ptrN x0 fun b1 o2 => (ldV (HP.cell hp b1 (o2 + 1)) fun v3 => (mapV v3 fun m4 => (ldV (k4)[0]? fun v5 => (intV v5 .i64 fun i6 => (ptrN x0 fun b7 o8 => (ldV (HP.cell hp b7 (o8 + 0)) fun v9 => (slcV v9 fun a10 n11 c12 => (opS Try.prog (Instr.mapUpdate 49 (Value.map m4) (Value.int .i64 i6) (Value.int .i64 (n11 : Nat))) hp fun u13 h14 => (K (upd (upd (upd (upd (upd (upd (upd (upd (upd (upd (upd (upd (upd e 4 (SV.priv 4 0)) 0 (sV (Value.pointer x0))) 7 (sV (Value.pointer x0))) 8 (sV (ptr b1 o2))) 9 (sV (ptr b1 (o2 + 1)))) 10 (sV (Value.map m4))) 11 (SV.priv 4 0)) 12 (sI (i6))) 13 (sV (Value.pointer x0))) 14 (sV (ptr b7 o8))) 15 (sV (ptr b7 (o8 + 0)))) 16 (sV (Value.slice a10 n11 c12))) 17 (sI ((n11 : Nat)))) (upd V0 4 (148, k4)) h14)))))))))) := by kernel_rfl
theorem F215_r2 (e : Env) (x0 : Option Addr) (k4 : List Value) (hp : HP) (K : Env → PV → HP → Prop) : RW Try.prog 28 [4, 11] (opsAt Try.f215 [1, 1]) [0, 1, 2, 3, 4, 5, 6, 7, 8, 9, 10] (upd (upd e 4 (SV.priv 4 0)) 0 (sV (Value.pointer x0))) (upd V0 4 (148, k4)) hp K =
    (ptrN x0 fun b1 o2 => (ldV (HP.cell hp b1 (o2 + 0)) fun v3 => (slcV v3 fun a4 n5 c6 => (ldL (cellsN k4 0 2) fun l7 => (if List.length l7 = 2 then (∀ b8 : Nat, hp b8 = .none → (opS Try.prog (Builtin.append_ #[141, 141] 141 ⟨[(Value.slice a4 n5 c6), (Value.slice (some ⟨b8, 0, none⟩) 1 1)]⟩) (HP.set hp b8 (.cells 148 (splice [(Value.int .i64 0), (Value.int .i64 0)] 0 l7) 0)) fun u9 h10 => (slcV u9 fun a11 n12 c13 => (ptrN x0 fun b14 o15 => (HP.st h10 b14 (o15 + 0) (Value.slice a11 n12 c13) fun h16 => (K (upd (upd (upd (upd (upd (upd (upd (upd (upd (upd (upd (upd e 4 (SV.priv 4 0)) 0 (sV (Value.pointer x0))) 18 (sV (Value.pointer x0))) 19 (sV (Value.pointer x0))) 20 (sV (ptr b1 o2))) 21 (sV (ptr b1 (o2 + 0)))) 22 (sV (Value.slice a4 n5 c6))) 23 (sV (Value.agg ⟨l7⟩))) 24 (sV (Value.slice (some ⟨b8, 0, none⟩) 1 1))) 25 (sV (Value.slice a11 n12 c13))) 26 (sV (ptr b14 o15))) 27 (sV (ptr b14 (o15 + 0)))) (upd V0 4 (148, k4)) h16)))))) else False))))) := by kernel_rfl
theorem F215_r3 (e : Env) (x0 : Option Addr) (k4 : List Value) (hp : HP) (K : Env → PV → HP → Prop) : RW Try.prog 28 [4, 11] (opsAt Try.f215 [1, 1]) [0, 1, 2, 3, 5, 6, 4, 7, 8, 9, 10] (upd (upd e 4 (SV.priv 4 0)) 0 (sV (Value.pointer x0))) (upd V0 4 (148, k4)) hp K =
    (ptrN x0 fun b1 o2 => (ldL (cellsN k4 0 2) fun l3 => (if List.length l3 = 2 then (∀ b4 : Nat, hp b4 = .none → (ldV (HP.cell (HP.set hp b4 (.cells 148 (splice [(Value.int .i64 0), (Value.int .i64 0)] 0 l3) 0)) b1 (o2 + 0)) fun v5 => (slcV v5 fun a6 n7 c8 => (opS Try.prog (Builtin.append_ #[141, 141] 141 ⟨[(Value.slice a6 n7 c8), (Value.slice (some ⟨b4, 0, none⟩) 1 1)]⟩) (HP.set hp b4 (.cells 148 (splice [(Value.int .i64 0), (Value.int .i64 0)] 0 l3) 0)) fun u9 h10 => (slcV u9 fun a11 n12 c13 => (ptrN x0 fun b14 o15 => (HP.st h10 b14 (o15 + 0) (Value.slice a11 n12 c13) fun h16 => (K (upd (upd (upd (upd (upd (upd (upd (upd (upd (upd (upd (upd e 4 (SV.priv 4 0)) 0 (sV (Value.pointer x0))) 18 (sV (Value.pointer x0))) 19 (sV (Value.pointer x0))) 20 (sV (ptr b1 o2))) 21 (sV (ptr b1 (o2 + 0)))) 23 (sV (Value.agg ⟨l3⟩))) 24 (sV (Value.slice (some ⟨b4, 0, none⟩) 1 1))) 22 (sV (Value.slice a6 n7 c8))) 25 (sV (Value.slice a11 n12 c13))) 26 (sV (ptr b14 o15))) 27 (sV (ptr b14 (o15 + 0)))) (upd V0 4 (148, k4)) h16)))))))) else False))) := by kernel_rfl
def F215 (x0 : Option Addr) (x1 : Value) (hp : HP) (K : Value → HP → Prop) : Prop :=
  (rdS Try.prog (Instr.typeAssert x1 20 148 false) hp fun u_1 => (aggV u_1 fun l_2 => (if List.length l_2 = 2 then (if List.all l_2 one = true then (if 0 + List.length l_2 ≤ List.length [(Value.int .i64 0), (Value.int .i64 0)] then (ptrN x0 fun b_3 o_4 => (ldV (HP.cell hp b_3 (o_4 + 1)) fun v_5 => (mapV v_5 fun m_6 => (ldV ((splice [(Value.int .i64 0), (Value.int .i64 0)] 0 l_2))[0]? fun v_7 => (intV v_7 .i64 fun i_8 => (ptrN x0 fun b_9 o_10 => (ldV (HP.cell hp b_9 (o_10 + 0)) fun v_11 => (slcV v_11 fun a_12 n_13 c_14 => (opS Try.prog (Instr.mapUpdate 49 (Value.map m_6) (Value.int .i64 i_8) (Value.int .i64 (n_13 : Nat))) hp fun u_15 h_16 => ((ptrN x0 fun b_17 o_18 => (ldV (HP.cell h_16 b_17 (o_18 + 0)) fun v_19 => (slcV v_19 fun a_20 n_21 c_22 => (ldL (cellsN (splice [(Value.int .i64 0), (Value.int .i64 0)] 0 l_2) 0 2) fun l_23 => (if List.length l_23 = 2 then (∀ b_24 : Nat, h_16 b_24 = .none → (opS Try.prog (Builtin.append_ #[141, 141] 141 ⟨[(Value.slice a_20 n_21 c_22), (Value.slice (some ⟨b_24, 0, none⟩) 1 1)]⟩) (HP.set h_16 b_24 (.cells 148 (splice [(Value.int .i64 0), (Value.int .i64 0)] 0 l_23) 0)) fun u_25 h_26 => (slcV u_25 fun a_27 n_28 c_29 => (ptrN x0 fun b_30 o_31 => (HP.st h_26 b_30 (o_31 + 0) (Value.slice a_27 n_28 c_29) fun h_32 => (K (.tuple ⟨[]⟩) h_32)))))) else False))))) ∧ (ptrN x0 fun b_33 o_34 => (ldL (cellsN (splice [(Value.int .i64 0), (Value.int .i64 0)] 0 l_2) 0 2) fun l_35 => (if List.length l_35 = 2 then (∀ b_36 : Nat, h_16 b_36 = .none → (ldV (HP.cell (HP.set h_16 b_36 (.cells 148 (splice [(Value.int .i64 0), (Value.int .i64 0)] 0 l_35) 0)) b_33 (o_34 + 0)) fun v_37 => (slcV v_37 fun a_38 n_39 c_40 => (opS Try.prog (Builtin.append_ #[141, 141] 141 ⟨[(Value.slice a_38 n_39 c_40), (Value.slice (some ⟨b_36, 0, none⟩) 1 1)]⟩) (HP.set h_16 b_36 (.cells 148 (splice [(Value.int .i64 0), (Value.int .i64 0)] 0 l_35) 0)) fun u_41 h_42 => (slcV u_41 fun a_43 n_44 c_45 => (ptrN x0 fun b_46 o_47 => (HP.st h_42 b_46 (o_47 + 0) (Value.slice a_43 n_44 c_45) fun h_48 => (K (.tuple ⟨[]⟩) h_48)))))))) else False))))))))))))) else False) else False) else False)))
noncomputable def F215_code : Code := (.seq (.region 0 (opsAt Try.f215 [0]) false) (.seq (.region 1 (opsAt Try.f215 [1, 0]) true) (.region 2 (opsAt Try.f215 [1, 1]) true)))
theorem F215_body : Try.f215.body = some F215_code := by kernel_rfl
theorem F215_ok (x0 : Option Addr) (x1 : Value) (hp : HP) (K : Value → HP → Prop) (h : F215 x0 x1 hp K) : CF Try.prog 215 [(Value.pointer x0), x1] hp K := by
 refine .inl ⟨by kernel_rfl, AC.intro (N := 28) Try.func215 F215_body rfl (Nat.le_of_ble_eq_true rfl) ?_⟩
 unfold F215 at h
 unfold F215_code
 refine AWP.seq' ?_
 refine AWP.rgn (F215_r0 (upd E0 0 (sV (Value.pointer x0))) x1 hp _) ?_ (Rv 1 _ (Rv 0 _ (Rn))) (Sc rfl (Sc rfl (Sn))) (Sn)
 refine rdS_mono h (fun u_1 h => ?_)
 refine aggV_mono h (fun l_2 h => ?_)
 refine if_mono h (fun h => ?_)
 refine if_mono h (fun h => ?_)
 refine if_mono h (fun h => ?_)
 refine AWP.seq' ?_
 refine AWP.rgnD (by kernel_rfl) (by kernel_rfl) (F215_r1 E0 x0 (splice [(Value.int .i64 0), (Value.int .i64 0)] 0 l_2) hp _) ?_ (Rv 0 _ (RefOk.p 4 4 0 (Rn) (fun e => by cases e))) (Sc rfl (Sc rfl (Sn))) (Sc rfl (Sn))
 refine ptrN_mono h (fun b_3 o_4 h => ?_)
 refine ldV_mono h (fun v_5 h => ?_)
 refine mapV_mono h (fun m_6 h => ?_)
 refine ldV_mono h (fun v_7 h => ?_)
 refine intV_mono h (fun i_8 h => ?_)
 refine ptrN_mono h (fun b_9 o_10 h => ?_)
 refine ldV_mono h (fun v_11 h => ?_)
 refine slcV_mono h (fun a_12 n_13 c_14 h => ?_)
 refine opS_mono h (fun u_15 h_16 h => ?_)
 refine AWP.rgnC (cf := [(4, 6)]) (c := [([true], true, [0, 1, 2, 3, 4, 5, 6, 7, 8, 9, 10]), ([false], true, [0, 1, 2, 3, 5, 6, 4, 7, 8, 9, 10])]) (by kernel_rfl) (by kernel_rfl) (by kernel_rfl) (by kernel_rfl) (allO_t (Eq.mpr (F215_r2 E0 x0 (splice [(Value.int .i64 0), (Value.int .i64 0)] 0 l_2) h_16 _) ?_) (allO_t (Eq.mpr (F215_r3 E0 x0 (splice [(Value.int .i64 0), (Value.int .i64 0)] 0 l_2) h_16 _) ?_) trivial)) (Rv 0 _ (RefOk.p 4 4 0 (Rn) (fun e => by cases e))) (Sc rfl (Sc rfl (Sn))) (Sc rfl (Sn))
 ·replace h := h.1
  refine ptrN_mono h (fun b_17 o_18 h => ?_)
  refine ldV_mono h (fun v_19 h => ?_)
  refine slcV_mono h (fun a_20 n_21 c_22 h => ?_)
  refine ldL_mono h (fun l_23 h => ?_)
  refine if_mono h (fun h => ?_)
  refine fun b_24 hb_b_24 => ?_
  replace h := h b_24 hb_b_24
  refine opS_mono h (fun u_25 h_26 h => ?_)
  refine slcV_mono h (fun a_27 n_28 c_29 h => ?_)
  refine ptrN_mono h (fun b_30 o_31 h => ?_)
  refine st_mono h (fun h_32 h => ?_)
  exact h
 ·replace h := h.2
  refine ptrN_mono h (fun b_33 o_34 h => ?_)
  refine ldL_mono h (fun l_35 h => ?_)
  refine if_mono h (fun h => ?_)
  refine fun b_36 hb_b_36 => ?_
  replace h := h b_36 hb_b_36
  refine ldV_mono h (fun v_37 h => ?_)
  refine slcV_mono h (fun a_38 n_39 c_40 h => ?_)
  refine opS_mono h (fun u_41 h_42 h => ?_)
  refine slcV_mono h (fun a_43 n_44 c_45 h => ?_)
  refine ptrN_mono h (fun b_46 o_47 h => ?_)
  refine st_mono h (fun h_48 h => ?_)
  exact h
-- 216 (*interpreter/expiry.order).Swap
theorem F216_r0 (e : Env) (x0 : Option Addr) (x1 : Int) (x2 : Int) (hp : HP) (K : Env → PV → HP → Prop) : RW Try.prog 62 [] (opsAt Try.f216 [0]) (List.range 28) (upd (upd (upd e 2 (sI (x2))) 1 (sI (x1))) 0 (sV (Value.pointer x0))) V0 hp K =
    (ptrN x0 fun b1 o2 => (ldV (HP.cell hp b1 (o2 + 0)) fun v3 => (slcV v3 fun a4 n5 c6 => (ptrN x0 fun b7 o8 => (ldV (HP.cell hp b7 (o8 + 0)) fun v9 => (slcV v9 fun a10 n11 c12 => (ptrN x0 fun b13 o14 => (ldV (HP.cell hp b13 (o14 + 0)) fun v15 => (slcV v15 fun a16 n17 c18 => ((0 ≤ (x2 : Int)) ∧ ((x2 : Int) < (n17 : Nat)) ∧ (ptrN a16 fun b19 o20 => (ldL (HP.cellN hp b19 (o20 + Int.toNat x2 * 2) 2) fun l21 => (ptrN x0 fun b22 o23 => (ldV (HP.cell hp b22 (o23 + 0)) fun v24 => (slcV v24 fun a25 n26 c27 => ((0 ≤ (x1 : Int)) ∧ ((x1 : Int) < (n26 : Nat)) ∧ (ptrN a25 fun b28 o29 => (ldL (HP.cellN hp b28 (o29 + Int.toNat x1 * 2) 2) fun l30 => ((0 ≤ (x1 : Int)) ∧ ((x1 : Int) < (n5 : Nat)) ∧ (ptrN a4 fun b31 o32 => ((List.length l21 = 2) ∧ (HP.stN hp b31 (o32 + Int.toNat x1 * 2) l21 fun h33 => ((0 ≤ (x2 : Int)) ∧ ((x2 : Int) < (n11 : Nat)) ∧ (ptrN a10 fun b34 o35 => ((List.length l30 = 2) ∧ (HP.stN h33 b34 (o35 + Int.toNat x2 * 2) l30 fun h36 => (K (upd (upd (upd (upd (upd (upd (upd (upd (upd (upd (upd (upd (upd (upd (upd (upd (upd (upd (upd (upd (upd (upd (upd (upd (upd (upd (upd (upd (upd e 2 (sI (x2))) 1 (sI (x1))) 0 (sV (Value.pointer x0))) 6 (sV (Value.pointer x0))) 7 (sV (ptr b1 o2))) 8 (sV (ptr b1 (o2 + 0)))) 9 (sV (Value.slice a4 n5 c6))) 10 (sI (x1))) 11 (sV (Value.pointer x0))) 12 (sV (ptr b7 o8))) 13 (sV (ptr b7 (o8 + 0)))) 14 (sV (Value.slice a10 n11 c12))) 15 (sI (x2))) 16 (sV (Value.pointer x0))) 17 (sV (ptr b13 o14))) 18 (sV (ptr b13 (o14 + 0)))) 19 (sV (Value.slice a16 n17 c18))) 20 (sI (x2))) 21 (sV (ptr b19 (o20 + Int.toNat x2 * 2)))) 22 (sV (Value.agg ⟨l21⟩))) 23 (sV (Value.pointer x0))) 24 (sV (ptr b22 o23))) 25 (sV (ptr b22 (o23 + 0)))) 26 (sV (Value.slice a25 n26 c27))) 27 (sI (x1))) 28 (sV (ptr b28 (o29 + Int.toNat x1 * 2)))) 29 (sV (Value.agg ⟨l30⟩))) 30 (sV (ptr b31 (o32 + Int.toNat x1 * 2)))) 31 (sV (ptr b34 (o35 + Int.toNat x2 * 2)))) V0 h36))))))))))))))))))))))))))) := by kernel_rfl
theorem F216_r1 (e : Env) (x0 : Option Addr) (x1 : Int) (x2 : Int) (hp : HP) (K : Env → PV → HP → Prop) : RW Try.prog 62 [] (opsAt Try.f216 [1]) (List.range 32) (upd (upd (upd e 2 (sI (x2))) 1 (sI (x1))) 0 (sV (Value.pointer x0))) V0 hp K =
    (ptrN x0 fun b1 o2 => (ldV (HP.cell hp b1 (o2 + 1)) fun v3 => (mapV v3 fun m4 => (ptrN x0 fun b5 o6 => (ldV (HP.cell hp b5 (o6 + 0)) fun v7 => (slcV v7 fun a8 n9 c10 => ((0 ≤ (x1 : Int)) ∧ ((x1 : Int) < (n9 : Nat)) ∧ (ptrN a8 fun b11 o12 => (ldV (HP.cell hp b11 ((o12 + Int.toNat x1 * 2) + 0)) fun v13 => (intV v13 .i64 fun i14 => (ptrN x0 fun b15 o16 => (ldV (HP.cell hp b15 (o16 + 1)) fun v17 => (mapV v17 fun m18 => (ptrN x0 fun b19 o20 => (ldV (HP.cell hp b19 (o20 + 0)) fun v21 => (slcV v21 fun a22 n23 c24 => ((0 ≤ (x2 : Int)) ∧ ((x2 : Int) < (n23 : Nat)) ∧ (ptrN a22 fun b25 o26 => (ldV (HP.cell hp b25 ((o26 + Int.toNat x2 * 2) + 0)) fun v27 => (intV v27 .i64 fun i28 => (opS Try.prog (Instr.mapEntry 49 (Value.map m4) (Value.int .i64 i14)) hp fun u29 h30 => (tupI u29 1 fun v31 => (intV v31 .i64 fun i32 => (opS Try.prog (Instr.entryStore 49 (Value.map m4) (Value.int .i64 i32) (Value.int .i64 x1)) h30 fun u33 h34 => (opS Try.prog (Instr.mapEntry 49 (Value.map m18) (Value.int .i64 i28)) h34 fun u35 h36 => (tupI u35 1 fun v37 => (intV v37 .i64 fun i38 => (opS Try.prog (Instr.entryStore 49 (Value.map m18) (Value.int .i64 i38) (Value.int .i64 x2)) h36 fun u39 h40 => (K (upd (upd (upd (upd (upd (upd (upd (upd (upd (upd (upd (upd (upd (upd (upd (upd (upd (upd (upd (upd (upd (upd (upd (upd (upd (upd (upd (upd (upd (upd (upd (upd (upd e 2 (sI (x2))) 1 (sI (x1))) 0 (sV (Value.pointer x0))) 32 (sV (Value.pointer x0))) 33 (sV (ptr b1 o2))) 34 (sV (ptr b1 (o2 + 1)))) 35 (sV (Value.map m4))) 36 (sV (Value.pointer x0))) 37 (sV (ptr b5 o6))) 38 (sV (ptr b5 (o6 + 0)))) 39 (sV (Value.slice a8 n9 c10))) 40 (sI (x1))) 41 (sV (ptr b11 (o12 + Int.toNat x1 * 2)))) 42 (sV (ptr b11 ((o12 + Int.toNat x1 * 2) + 0)))) 43 (sI (i14))) 44 (sV (Value.pointer x0))) 45 (sV (ptr b15 o16))) 46 (sV (ptr b15 (o16 + 1)))) 47 (sV (Value.map m18))) 48 (sV (Value.pointer x0))) 49 (sV (ptr b19 o20))) 50 (sV (ptr b19 (o20 + 0)))) 51 (sV (Value.slice a22 n23 c24))) 52 (sI (x2))) 53 (sV (ptr b25 (o26 + Int.toNat x2 * 2)))) 54 (sV (ptr b25 ((o26 + Int.toNat x2 * 2) + 0)))) 55 (sI (i28))) 56 (sI (x1))) 57 (sI (x2))) 58 (sV u29)) 59 (sI (i32))) 60 (sV u35)) 61 (sI (i38))) V0 h40))))))))))))))))))))))))))))) := by kernel_rfl
def F216 (x0 : Option Addr) (x1 : Int) (x2 : Int) (hp : HP) (K : Value → HP → Prop) : Prop :=
  (ptrN x0 fun b_1 o_2 => (ldV (HP.cell hp b_1 (o_2 + 0)) fun v_3 => (slcV v_3 fun a_4 n_5 c_6 => (ptrN x0 fun b_7 o_8 => (ldV (HP.cell hp b_7 (o_8 + 0)) fun v_9 => (slcV v_9 fun a_10 n_11 c_12 => (ptrN x0 fun b_13 o_14 => (ldV (HP.cell hp b_13 (o_14 + 0)) fun v_15 => (slcV v_15 fun a_16 n_17 c_18 => ((0 ≤ (x2 : Int)) ∧ ((x2 : Int) < (n_17 : Nat)) ∧ (ptrN a_16 fun b_19 o_20 => (ldL (HP.cellN hp b_19 (o_20 + Int.toNat x2 * 2) 2) fun l_21 => (ptrN x0 fun b_22 o_23 => (ldV (HP.cell hp b_22 (o_23 + 0)) fun v_24 => (slcV v_24 fun a_25 n_26 c_27 => ((0 ≤ (x1 : Int)) ∧ ((x1 : Int) < (n_26 : Nat)) ∧ (ptrN a_25 fun b_28 o_29 => (ldL (HP.cellN hp b_28 (o_29 + Int.toNat x1 * 2) 2) fun l_30 => ((0 ≤ (x1 : Int)) ∧ ((x1 : Int) < (n_5 : Nat)) ∧ (ptrN a_4 fun b_31 o_32 => ((List.length l_21 = 2) ∧ (HP.stN hp b_31 (o_32 + Int.toNat x1 * 2) l_21 fun h_33 => ((0 ≤ (x2 : Int)) ∧ ((x2 : Int) < (n_11 : Nat)) ∧ (ptrN a_10 fun b_34 o_35 => ((List.length l_30 = 2) ∧ (HP.stN h_33 b_34 (o_35 + Int.toNat x2 * 2) l_30 fun h_36 => (ptrN x0 fun b_37 o_38 => (ldV (HP.cell h_36 b_37 (o_38 + 1)) fun v_39 => (mapV v_39 fun m_40 => (ptrN x0 fun b_41 o_42 => (ldV (HP.cell h_36 b_41 (o_42 + 0)) fun v_43 => (slcV v_43 fun a_44 n_45 c_46 => ((0 ≤ (x1 : Int)) ∧ ((x1 : Int) < (n_45 : Nat)) ∧ (ptrN a_44 fun b_47 o_48 => (ldV (HP.cell h_36 b_47 ((o_48 + Int.toNat x1 * 2) + 0)) fun v_49 => (intV v_49 .i64 fun i_50 => (ptrN x0 fun b_51 o_52 => (ldV (HP.cell h_36 b_51 (o_52 + 1)) fun v_53 => (mapV v_53 fun m_54 => (ptrN x0 fun b_55 o_56 => (ldV (HP.cell h_36 b_55 (o_56 + 0)) fun v_57 => (slcV v_57 fun a_58 n_59 c_60 => ((0 ≤ (x2 : Int)) ∧ ((x2 : Int) < (n_59 : Nat)) ∧ (ptrN a_58 fun b_61 o_62 => (ldV (HP.cell h_36 b_61 ((o_62 + Int.toNat x2 * 2) + 0)) fun v_63 => (intV v_63 .i64 fun i_64 => (opS Try.prog (Instr.mapEntry 49 (Value.map m_40) (Value.int .i64 i_50)) h_36 fun u_65 h_66 => (tupI u_65 1 fun v_67 => (intV v_67 .i64 fun i_68 => (opS Try.prog (Instr.entryStore 49 (Value.map m_40) (Value.int .i64 i_68) (Value.int .i64 x1)) h_66 fun u_69 h_70 => (opS Try.prog (Instr.mapEntry 49 (Value.map m_54) (Value.int .i64 i_64)) h_70 fun u_71 h_72 => (tupI u_71 1 fun v_73 => (intV v_73 .i64 fun i_74 => (opS Try.prog (Instr.entryStore 49 (Value.map m_54) (Value.int .i64 i_74) (Value.int .i64 x2)) h_72 fun u_75 h_76 => (K (.tuple ⟨[]⟩) h_76)))))))))))))))))))))))))))))))))))))))))))))))))))))))
noncomputable def F216_code : Code := (.seq (.region 0 (opsAt Try.f216 [0]) true) (.region 1 (opsAt Try.f216 [1]) true))
theorem F216_body : Try.f216.body = some F216_code := by kernel_rfl
theorem F216_ok (x0 : Option Addr) (x1 : Int) (x2 : Int) (hp : HP) (K : Value → HP → Prop) (h : F216 x0 x1 x2 hp K) : CF Try.prog 216 [(Value.pointer x0), (Value.int .i64 x1), (Value.int .i64 x2)] hp K := by
 refine .inl ⟨by kernel_rfl, AC.intro (N := 62) Try.func216 F216_body rfl (Nat.le_of_ble_eq_true rfl) ?_⟩
 unfold F216 at h
 unfold F216_code
 refine AWP.seq' ?_
 refine AWP.rgnD (by kernel_rfl) (by kernel_rfl) (F216_r0 E0 x0 x1 x2 hp _) ?_ (Rv 0 _ (Rv 1 _ (Rv 2 _ (Rn)))) (Sc rfl (Sc rfl (Sc rfl (Sn)))) (Sn)
 refine ptrN_mono h (fun b_1 o_2 h => ?_)
 refine ldV_mono h (fun v_3 h => ?_)
 refine slcV_mono h (fun a_4 n_5 c_6 h => ?_)
 refine ptrN_mono h (fun b_7 o_8 h => ?_)
 refine ldV_mono h (fun v_9 h => ?_)
 refine slcV_mono h (fun a_10 n_11 c_12 h => ?_)
 refine ptrN_mono h (fun b_13 o_14 h => ?_)
 refine ldV_mono h (fun v_15 h => ?_)
 refine slcV_mono h (fun a_16 n_17 c_18 h => ?_)
 refine ⟨h.1, h.2.1, ?_⟩
 replace h := h.2.2
 refine ptrN_mono h (fun b_19 o_20 h => ?_)
 refine ldL_mono h (fun l_21 h => ?_)
 refine ptrN_mono h (fun b_22 o_23 h => ?_)
 refine ldV_mono h (fun v_24 h => ?_)
 refine slcV_mono h (fun a_25 n_26 c_27 h => ?_)
 refine ⟨h.1, h.2.1, ?_⟩
 replace h := h.2.2
 refine ptrN_mono h (fun b_28 o_29 h => ?_)
 refine ldL_mono h (fun l_30 h => ?_)
 refine ⟨h.1, h.2.1, ?_⟩
 replace h := h.2.2
 refine ptrN_mono h (fun b_31 o_32 h => ?_)
 refine ⟨h.1, ?_⟩
 replace h := h.2
 refine stN_mono h (fun h_33 h => ?_)
 refine ⟨h.1, h.2.1, ?_⟩
 replace h := h.2.2
 refine ptrN_mono h (fun b_34 o_35 h => ?_)
 refine ⟨h.1, ?_⟩
 replace h := h.2
 refine stN_mono h (fun h_36 h => ?_)
 refine AWP.rgnD (by kernel_rfl) (by kernel_rfl) (F216_r1 E0 x0 x1 x2 h_36 _) ?_ (Rv 0 _ (Rv 1 _ (Rv 2 _ (Rn)))) (Sc rfl (Sc rfl (Sc rfl (Sn)))) (Sn)
 refine ptrN_mono h (fun b_37 o_38 h => ?_)
 refine ldV_mono h (fun v_39 h => ?_)
 refine mapV_mono h (fun m_40 h => ?_)
 refine ptrN_mono h (fun b_41 o_42 h => ?_)
 refine ldV_mono h (fun v_43 h => ?_)
 refine slcV_mono h (fun a_44 n_45 c_46 h => ?_)
 refine ⟨h.1, h.2.1, ?_⟩
 replace h := h.2.2
 refine ptrN_mono h (fun b_47 o_48 h => ?_)
 refine ldV_mono h (fun v_49 h => ?_)
 refine intV_mono h (fun i_50 h => ?_)
 refine ptrN_mono h (fun b_51 o_52 h => ?_)
 refine ldV_mono h (fun v_53 h => ?_)
 refine mapV_mono h (fun m_54 h => ?_)
 refine ptrN_mono h (fun b_55 o_56 h => ?_)
 refine ldV_mono h (fun v_57 h => ?_)
 refine slcV_mono h (fun a_58 n_59 c_60 h => ?_)
 refine ⟨h.1, h.2.1, ?_⟩
 replace h := h.2.2
 refine ptrN_mono h (fun b_61 o_62 h => ?_)
 refine ldV_mono h (fun v_63 h => ?_)
 refine intV_mono h (fun i_64 h => ?_)
 refine opS_mono h (fun u_65 h_66 h => ?_)
 refine tupI_mono h (fun v_67 h => ?_)
 refine intV_mono h (fun i_68 h => ?_)
 refine opS_mono h (fun u_69 h_70 h => ?_)
 refine opS_mono h (fun u_71 h_72 h => ?_)
 refine tupI_mono h (fun v_73 h => ?_)
 refine intV_mono h (fun i_74 h => ?_)
 refine opS_mono h (fun u_75 h_76 h => ?_)
 exact h
end Go.Proofs

set_option linter.unusedVariables false
set_option maxRecDepth 20000
namespace Go.Proofs
open Go Go.HL
open Go.Exp (Th tlt)

/-- Where each stands. -/
def AtOk (ent : List (Int × Int)) (d : Array Th) : Prop := ∀ (id x : Int), getL id ent = some x ↔ ∃ k : Nat, x = k ∧ k < d.size ∧ d[k]!.1 = id

theorem AtOk.get {ent : List (Int × Int)} {d : Array Th} (h : AtOk ent d) {i : Nat} (hi : i < d.size) : getL d[i]!.1 ent = some (i : Int) := (h _ _).2 ⟨i, rfl, hi, rfl⟩
theorem AtOk.inj {ent : List (Int × Int)} {d : Array Th} (h : AtOk ent d) {i k : Nat} (hi : i < d.size) (hk : k < d.size) (he : d[i]!.1 = d[k]!.1) : i = k := by
  have a := h.get hi
  rw [he, h.get hk] at a
  simp only [Option.some.injEq] at a
  omega

theorem AtOk.swap {ent : List (Int × Int)} {d : Array Th} (h : AtOk ent d) {i k : Nat} (hi : i < d.size) (hk : k < d.size) :
    AtOk (putL (Sort.swp d i k)[k]!.1 (k : Int) (putL (Sort.swp d i k)[i]!.1 (i : Int) ent)) (Sort.swp d i k) := by
  have L := Hp.swp_l hi hk
  have R := Hp.swp_r hi hk
  have O := fun j (h1 : j ≠ i) (h2 : j ≠ k) => Hp.swp_o (k := j) hi hk h1 h2
  have hsz : (Sort.swp d i k).size = d.size := swp_size d i k
  intro id x
  rw [getL_put, getL_put, L, R, hsz]
  by_cases h1 : id = d[i]!.1
  · rw [if_pos h1]
    constructor
    · intro e; cases e; exact ⟨k, rfl, hk, by rw [R, h1]⟩
    · rintro ⟨j, rfl, hj, e⟩
      congr 1
      by_cases hjk : j = k
      · rw [hjk]
      · by_cases hji : j = i
        · rw [hji, L, h1] at e
          rw [hji]; exact congrArg _ (h.inj hk hi e)
        · rw [O j hji hjk, h1] at e
          exact absurd (h.inj hj hi e) hji
  · rw [if_neg h1]
    by_cases h2 : id = d[k]!.1
    · rw [if_pos h2]
      constructor
      · intro e; cases e; exact ⟨i, rfl, hi, by rw [L, h2]⟩
      · rintro ⟨j, rfl, hj, e⟩
        congr 1
        by_cases hji : j = i
        · rw [hji]
        · by_cases hjk : j = k
          · rw [hjk, R] at e; exact absurd e.symm h1
          · rw [O j hji hjk, h2] at e
            exact absurd (h.inj hj hk e) hjk
    · rw [if_neg h2, h id x]
      constructor
      · rintro ⟨j, rfl, hj, e⟩
        exact ⟨j, rfl, hj, by rw [O j (fun e' => h1 (by rw [← e, e'])) (fun e' => h2 (by rw [← e, e']))]; exact e⟩
      · rintro ⟨j, rfl, hj, e⟩
        by_cases hji : j = i
        · rw [hji, L] at e; exact absurd e.symm h2
        · by_cases hjk : j = k
          · rw [hjk, R] at e; exact absurd e.symm h1
          · rw [O j hji hjk] at e; exact ⟨j, rfl, hj, e⟩

theorem push_old {d : Array Th} {t : Th} {k : Nat} (hk : k < d.size) : (d.push t)[k]! = d[k]! := by
  rw [getElem!_pos (d.push t) k (by simp; omega), getElem!_pos d k hk, Array.getElem_push_lt]
theorem push_new {d : Array Th} {t : Th} : (d.push t)[d.size]! = t := by
  rw [getElem!_pos (d.push t) d.size (by simp), Array.getElem_push_eq]
theorem pop_old {d : Array Th} {k : Nat} (hk : k < d.size - 1) : d.pop[k]! = d[k]! := by
  rw [getElem!_pos d.pop k (by simpa using hk), getElem!_pos d k (by omega), Array.getElem_pop]

theorem AtOk.push {ent : List (Int × Int)} {d : Array Th} (h : AtOk ent d) {t : Th} (hn : ∀ k, k < d.size → d[k]!.1 ≠ t.1) : AtOk (putL t.1 (d.size : Int) ent) (d.push t) := by
  intro id x
  rw [getL_put]
  by_cases h1 : id = t.1
  · rw [if_pos h1]
    constructor
    · intro e; cases e; exact ⟨d.size, rfl, by simp, by rw [push_new, h1]⟩
    · rintro ⟨j, rfl, hj, e⟩
      congr 1
      by_cases hjs : j = d.size
      · rw [hjs]
      · have hj' : j < d.size := by simp at hj; omega
        rw [push_old hj', h1] at e
        exact absurd e (hn j hj')
  · rw [if_neg h1, h id x]
    constructor
    · rintro ⟨j, rfl, hj, e⟩
      exact ⟨j, rfl, by simp; omega, by rw [push_old hj]; exact e⟩
    · rintro ⟨j, rfl, hj, e⟩
      by_cases hjs : j = d.size
      · rw [hjs, push_new] at e; exact absurd e.symm h1
      · have hj' : j < d.size := by simp at hj; omega
        rw [push_old hj'] at e; exact ⟨j, rfl, hj', e⟩

theorem AtOk.pop {ent : List (Int × Int)} {d : Array Th} (h : AtOk ent d) (hnd : (ent.map (·.1)).Nodup) (h0 : 0 < d.size) : AtOk (delL d[d.size - 1]!.1 ent) d.pop := by
  intro id x
  rw [getL_del hnd]
  by_cases h1 : id = d[d.size - 1]!.1
  · rw [if_pos h1]
    constructor
    · intro e; cases e
    · rintro ⟨j, rfl, hj, e⟩
      have hj' : j < d.size - 1 := by simpa using hj
      rw [pop_old hj', h1] at e
      have := h.inj (by omega) (by omega) e
      omega
  · rw [if_neg h1, h id x]
    constructor
    · rintro ⟨j, rfl, hj, e⟩
      have hjn : j ≠ d.size - 1 := fun e' => h1 (by rw [← e, e'])
      exact ⟨j, rfl, by simp; omega, by rw [pop_old (by omega)]; exact e⟩
    · rintro ⟨j, rfl, hj, e⟩
      have hj' : j < d.size - 1 := by simpa using hj
      rw [pop_old hj'] at e
      exact ⟨j, rfl, by omega, e⟩

/-- A queue in memory: q, its order o, the map m of where each stands, the row of things. -/
def QD (hq : HP) (q o m : Nat) (d : Array Th) : Prop := ∃ (s : Option Addr) (c : Nat) (ent : List (Int × Int)),
  hq q = .cells 145 [ptr o 0] 0 ∧ hq o = .cells 143 [.slice s d.size c, .map (some m)] 0 ∧ Row hq s d.size c 148 2 (d.toList.flatMap th) ∧ MapE iw iw ent (hq m) ∧ (ent.map (·.1)).Nodup ∧ AtOk ent d

section
variable {hq : HP} {q o m : Nat} {d : Array Th} {K : Value → HP → Prop}

theorem C91 (h : QD hq q o m d) (k : K (.int .i64 (d.size : Nat)) hq) : CF Try.prog 91 [ptr o 0] hq K := by
  refine F91_ok _ hq K ?_
  unfold F91
  obtain ⟨s, c, ent, h1, h2, h3, h4, h5, h6⟩ := h
  rw [ptrN_some, HP.cell_of h2]
  exact k

theorem C89 {x y : Th} (k : K (.bool (tlt x y)) hq) : CF Try.prog 89 [.agg ⟨th x⟩, .agg ⟨th y⟩] hq K := by
  refine F89_ok (th x) (th y) hq K ?_
  unfold F89
  have q0 : ∀ t : Th, (th t)[0]? = some (.int .i64 t.1) := fun _ => rfl
  have q1 : ∀ t : Th, (th t)[1]? = some (.int .i64 t.2) := fun _ => rfl
  simp only [q0, q1, ldV_some, intV_int]
  unfold tlt at k
  by_cases h1 : x.2 < y.2
  · rw [decide_eq_true h1, Bool.true_or] at k
    rw [decide_eq_true h1, ite2_true]; exact k
  · rw [decide_eq_false h1, Bool.false_or] at k
    rw [decide_eq_false h1, ite2_false]
    by_cases h2 : x.2 = y.2
    · rw [decide_eq_true h2, Bool.true_and] at k
      have e : (x.2 == y.2) = true := by simpa using h2
      rw [e, ite2_true]; exact k
    · rw [decide_eq_false h2, Bool.false_and] at k
      have e : (x.2 == y.2) = false := by simpa using h2
      rw [e, ite2_false]; exact k

/-- What is known where there is at least one. -/
theorem QD.open_ (h : QD hq q o m d) (h0 : 0 < d.size) : ∃ (b c : Nat) (ent : List (Int × Int)), hq q = .cells 145 [ptr o 0] 0 ∧ hq o = .cells 143 [.slice (some ⟨b, 0, none⟩) d.size c, .map (some m)] 0 ∧ d.size ≤ c ∧
    hq b = .cells 148 (d.toList.flatMap th) ((c - d.size) * 2) ∧ MapE iw iw ent (hq m) ∧ (ent.map (·.1)).Nodup ∧ AtOk ent d ∧ b ≠ q ∧ b ≠ o ∧ b ≠ m ∧ m ≠ q ∧ m ≠ o ∧ q ≠ o ∧ (∀ i, i < d.size → hq.cellN b (0 + i * 2) 2 = some (th d[i]!)) := by
  obtain ⟨s, c, ent, h1, h2, h3, h4, h5, h6⟩ := h
  rcases h3 with ⟨_, h0', _, _⟩ | ⟨b, rfl, hnc, hxl, hb⟩
  · omega
  obtain ⟨ob, hob⟩ : ∃ ob, hq m = .obj ob := by obtain ⟨es, clock, he, _⟩ := h4; exact ⟨_, he⟩
  refine ⟨b, c, ent, h1, h2, hnc, hb, h4, h5, h6, ?_, ?_, ?_, ?_, ?_, ?_, fun i hi => ?_⟩
  · intro e; rw [e, h1] at hb; simp at hb
  · intro e; rw [e, h2] at hb; simp at hb
  · intro e; rw [e, hob] at hb; cases hb
  · intro e; rw [e, h1] at hob; cases hob
  · intro e; rw [e, h2] at hob; cases hob
  · intro e; rw [e, h2] at h1; simp at h1
  · rw [HP.cellN_of hb, Nat.zero_add, flat_at th_len (by simpa using hi), getElem!_pos d i hi]; simp

theorem C213 {i k : Nat} (h : QD hq q o m d) (hi : i < d.size) (hk : k < d.size) (hK : K (.bool (tlt d[i]! d[k]!)) hq) : CF Try.prog 213 [ptr o 0, .int .i64 i, .int .i64 k] hq K := by
  obtain ⟨b, c, ent, h1, h2, h3, h4, h5, h6, h7, n1, n2, n3, n4, n5, n6, g⟩ := h.open_ (by omega)
  refine F213_ok _ i k hq K ?_
  unfold F213
  have hco : ∀ x, hq.cell o x = [Value.slice (some ⟨b, 0, none⟩) d.size c, .map (some m)][x]? := fun x => HP.cell_of h2
  simp only [ptrN_some, hco, Nat.zero_add, List.getElem?_cons_zero, ldV_some, slcV_slice, Int.toNat_natCast]
  have gi := g i hi
  have gk := g k hk
  rw [Nat.zero_add] at gi gk
  rw [gi, ldL_some, gk, ldL_some]
  refine ⟨by omega, by omega, by omega, by omega, ?_⟩
  refine C89 ?_
  rw [boolV_bool]
  exact hK

theorem C216 {i k : Nat} (h : QD hq q o m d) (hi : i < d.size) (hk : k < d.size) (hK : ∀ hq', QD hq' q o m (Sort.swp d i k) → K (.tuple ⟨[]⟩) hq') : CF Try.prog 216 [ptr o 0, .int .i64 i, .int .i64 k] hq K := by
  obtain ⟨b, c, ent, h1, h2, h3, h4, h5, h6, h7, n1, n2, n3, n4, n5, n6, g⟩ := h.open_ (by omega)
  refine F216_ok _ i k hq K ?_
  unfold F216
  have hco : ∀ x, hq.cell o x = [Value.slice (some ⟨b, 0, none⟩) d.size c, .map (some m)][x]? := fun x => HP.cell_of h2
  simp only [ptrN_some, hco, Nat.zero_add, List.getElem?_cons_zero, List.getElem?_cons_succ, ldV_some, slcV_slice, mapV_map, Int.toNat_natCast]
  have gi := g i hi
  have gk := g k hk
  rw [Nat.zero_add] at gi gk
  simp only [gi, gk, ldL_some]
  refine ⟨by omega, by omega, by omega, by omega, by omega, by omega, th_len _, ?_⟩
  have hle : ∀ j, j < d.size → j * 2 + 2 ≤ (d.toList.flatMap th).length := fun j hj => by rw [flat_len th_len]; simp; omega
  have hle2 : ∀ (x : Th) j, j < d.size → j * 2 + 2 ≤ ((d.setIfInBounds i x).toList.flatMap th).length := fun x j hj => by rw [flat_len th_len]; simp; omega
  refine HP.stN_at h4 (by rw [th_len]; exact hle i hi) (th_one _) ?_
  refine ⟨by omega, by omega, th_len _, ?_⟩
  have e1 : splice (d.toList.flatMap th) (i * 2) (th d[k]!) = ((d.setIfInBounds i d[k]!).toList).flatMap th := by
    rw [flat_splice th_len _ (by simpa using hi)]; simp
  rw [e1]
  refine HP.stN_at (HP.set_eq ..) (by rw [th_len]; exact hle2 _ k hk) (th_one _) ?_
  have e2 : splice ((d.setIfInBounds i d[k]!).toList.flatMap th) (k * 2) (th d[i]!) = (Sort.swp d i k).toList.flatMap th := by
    rw [flat_splice th_len _ (by simpa using hk)]; simp [Sort.swp]
  rw [e2, HP.set_set]
  have hsz : (Sort.swp d i k).size = d.size := swp_size d i k
  have hb' : (hq.set b (.cells 148 ((Sort.swp d i k).toList.flatMap th) ((c - d.size) * 2))) b = .cells 148 ((Sort.swp d i k).toList.flatMap th) ((c - d.size) * 2) := HP.set_eq ..
  have ho' : (hq.set b (.cells 148 ((Sort.swp d i k).toList.flatMap th) ((c - d.size) * 2))) o = .cells 143 [.slice (some ⟨b, 0, none⟩) d.size c, .map (some m)] 0 := by rw [HP.set_ne _ _ n2.symm]; exact h2
  have hq' : (hq.set b (.cells 148 ((Sort.swp d i k).toList.flatMap th) ((c - d.size) * 2))) q = .cells 145 [ptr o 0] 0 := by rw [HP.set_ne _ _ n1.symm]; exact h1
  have hm' : MapE iw iw ent ((hq.set b (.cells 148 ((Sort.swp d i k).toList.flatMap th) ((c - d.size) * 2))) m) := by rw [HP.set_ne _ _ n3.symm]; exact h5
  generalize hq.set b (.cells 148 ((Sort.swp d i k).toList.flatMap th) ((c - d.size) * 2)) = hq2 at *
  have hco2 : ∀ x, hq2.cell o x = [Value.slice (some ⟨b, 0, none⟩) d.size c, .map (some m)][x]? := fun x => HP.cell_of ho'
  have g2 : ∀ j, j < d.size → hq2.cell b (j * 2 + 0) = some (.int .i64 (Sort.swp d i k)[j]!.1) := fun j hj => by
    have : hq2.cellN b (j * 2) 2 = some (th (Sort.swp d i k)[j]!) := by
      rw [HP.cellN_of hb', flat_at th_len (by simpa [hsz] using hj), getElem!_pos (Sort.swp d i k) j (by rw [hsz]; exact hj)]; simp
    exact HP.cell_cellN this rfl
  have g2i := g2 i hi
  have g2k := g2 k hk
  simp only [Nat.add_zero] at g2i g2k
  simp only [ptrN_some, hco2, Nat.zero_add, Nat.add_zero, List.getElem?_cons_zero, List.getElem?_cons_succ, ldV_some, slcV_slice, mapV_map, g2i, g2k, intV_int]
  refine ⟨by omega, by omega, by omega, by omega, ?_⟩
  have hat := h7.swap hi hk
  have hin : ∀ j, j < d.size → (getL (Sort.swp d i k)[j]!.1 ent).isSome = true := fun j hj => by
    by_cases e : j = i
    · rw [e, Hp.swp_l hi hk, h7.get hk]; rfl
    · by_cases e' : j = k
      · rw [e', Hp.swp_r hi hk, h7.get hi]; rfl
      · rw [Hp.swp_o hi hk e e', h7.get hj]; rfl
  refine opS_mono (opS_entrySet u49 enc3 hm' (Sort.swp d i k)[i]!.1 (i : Int) (ev := iw) (hin i hi) (K := fun _ h => opS Try.prog (Instr.mapEntry 49 (.map (some m)) (iw (Sort.swp d i k)[k]!.1)) h fun u h1 => tupI u 1 fun x => intV x .i64 fun i' => opS Try.prog (Instr.entryStore 49 (.map (some m)) (.int .i64 i') (iw (k : Int))) h1 fun _ h => K (.tuple ⟨[]⟩) h) fun e he => ?_) (fun _ _ x => x)
  have hm2 : MapE iw iw (putL (Sort.swp d i k)[i]!.1 (i : Int) ent) ((hq2.set m e) m) := by rw [HP.set_eq]; exact he
  refine opS_entrySet u49 enc3 hm2 (Sort.swp d i k)[k]!.1 (k : Int) (ev := iw) ?_ fun e' he' => ?_
  · rw [getL_put]
    split
    · rfl
    · exact hin k hk
  rw [HP.set_set]
  refine hK _ ⟨some ⟨b, 0, none⟩, c, _, ?_, ?_, .inr ⟨b, rfl, by omega, by rw [flat_len th_len]; simp [hsz], ?_⟩, by rw [HP.set_eq]; exact he', nodup_put (nodup_put h6), hat⟩
  · rw [HP.set_ne _ _ n4.symm]; exact hq'
  · rw [HP.set_ne _ _ n5.symm, hsz]; exact ho'
  · rw [HP.set_ne _ _ n3, hsz]; exact hb'

theorem C214 (h : QD hq q o m d) (h0 : 0 < d.size) (hn : d.size ≤ 1000000) (hK : ∀ hq', QD hq' q o m d.pop → K (.iface 148 (.agg ⟨th d[d.size - 1]!⟩)) hq') : CF Try.prog 214 [ptr o 0] hq K := by
  obtain ⟨b, c, ent, h1, h2, h3, h4, h5, h6, h7, n1, n2, n3, n4, n5, n6, g⟩ := h.open_ h0
  refine CF.imp (F214_ok _ hq _ ?_)
  unfold F214
  have hco : ∀ x, hq.cell o x = [Value.slice (some ⟨b, 0, none⟩) d.size c, .map (some m)][x]? := fun x => HP.cell_of h2
  have w : IntKind.wrap .i64 ((d.size : Nat) - 1) = ((d.size - 1 : Nat) : Int) := wi (by omega) (by omega)
  have gl := g (d.size - 1) (by omega)
  rw [Nat.zero_add] at gl
  have hz : [Value.int .i64 0, .int .i64 0] = th (0, 0) := rfl
  have hsp : splice (th (0, 0)) 0 (th d[d.size - 1]!) = th d[d.size - 1]! := splice_all rfl
  have q0 : (th d[d.size - 1]!)[0]? = some (.int .i64 d[d.size - 1]!.1) := rfl
  have qa : cellsN (th d[d.size - 1]!) 0 2 = some (th d[d.size - 1]!) := rfl
  simp only [ptrN_some, hco, Nat.zero_add, List.getElem?_cons_zero, List.getElem?_cons_succ, ldV_some, slcV_slice, w, Int.toNat_natCast, gl, ldL_some, th_len, th_one, if_true, hz, hsp]
  refine ⟨by omega, by omega, ?_⟩
  refine ifI (by decide) ?_
  refine ⟨by omega, by omega, ?_⟩
  refine HP.st_at h2 (by simp) ?_
  simp only [List.set_cons_zero]
  have ho' : (hq.set o (.cells 143 [Value.slice (some ⟨b, 0, none⟩) (d.size - 1) c, .map (some m)] 0)) o = .cells 143 [Value.slice (some ⟨b, 0, none⟩) (d.size - 1) c, .map (some m)] 0 := HP.set_eq ..
  have hb' : (hq.set o (.cells 143 [Value.slice (some ⟨b, 0, none⟩) (d.size - 1) c, .map (some m)] 0)) b = .cells 148 (d.toList.flatMap th) ((c - d.size) * 2) := by rw [HP.set_ne _ _ n2]; exact h4
  have hq' : (hq.set o (.cells 143 [Value.slice (some ⟨b, 0, none⟩) (d.size - 1) c, .map (some m)] 0)) q = .cells 145 [ptr o 0] 0 := by rw [HP.set_ne _ _ n6]; exact h1
  have hm' : MapE iw iw ent ((hq.set o (.cells 143 [Value.slice (some ⟨b, 0, none⟩) (d.size - 1) c, .map (some m)] 0)) m) := by rw [HP.set_ne _ _ n5]; exact h5
  generalize hq.set o (.cells 143 [Value.slice (some ⟨b, 0, none⟩) (d.size - 1) c, .map (some m)] 0) = hq2 at *
  have hco2 : ∀ x, hq2.cell o x = [Value.slice (some ⟨b, 0, none⟩) (d.size - 1) c, .map (some m)][x]? := fun x => HP.cell_of ho'
  simp only [hco2, List.getElem?_cons_zero, List.getElem?_cons_succ, ldV_some, mapV_map, q0, intV_int, qa, ldL_some]
  refine opS_delete u49 enc3 hm' d[d.size - 1]!.1 fun e he => ?_
  have hl : d.toList.flatMap th = d.pop.toList.flatMap th ++ th d[d.size - 1]! := by
    have : d.toList = d.pop.toList ++ [d[d.size - 1]!] := by
      rw [getElem!_pos d (d.size - 1) (by omega)]
      apply List.ext_getElem
      · simp; omega
      · intro i h1 h2
        rw [List.getElem_append]
        split
        · simp
        · rename_i hc
          simp at hc h1
          have : i = d.size - 1 := by omega
          subst this
          simp
    rw [this, List.flatMap_append]; simp
  have hb2 : (hq2.set m e) b = .cells 148 (d.pop.toList.flatMap th ++ th d[d.size - 1]!) ((c - d.size) * 2) := by rw [HP.set_ne _ _ n3, hb', hl]
  refine ⟨_, HImp.shrink hb2, hK _ ⟨some ⟨b, 0, none⟩, c, _, ?_, ?_, .inr ⟨b, rfl, by simp; omega, by rw [flat_len th_len]; simp, ?_⟩, ?_, nodup_del h6, h7.pop h6 h0⟩⟩
  · rw [HP.set_ne _ _ n1.symm, HP.set_ne _ _ n4.symm]; exact hq'
  · rw [HP.set_ne _ _ n2.symm, HP.set_ne _ _ n5.symm, ho']; simp
  · rw [HP.set_eq, th_len]
    congr 1
    simp
    omega
  · rw [HP.set_ne _ _ n3.symm, HP.set_eq]; exact he
end
end Go.Proofs

set_option linter.unusedVariables false
set_option maxRecDepth 20000
namespace Go.Proofs
open Go Go.HL
open Go.Exp (Th tlt swo_tlt)
open Go.Sort (PermIn swp)

theorem m_less {c : FuncId → Prop} : mthF Try.prog 140 "Less" c = c 213 := by kernel_rfl
theorem m_swap {c : FuncId → Prop} : mthF Try.prog 140 "Swap" c = c 216 := by kernel_rfl
theorem m_len {c : FuncId → Prop} : mthF Try.prog 140 "Len" c = c 91 := by kernel_rfl
theorem m_push {c : FuncId → Prop} : mthF Try.prog 140 "Push" c = c 215 := by kernel_rfl
theorem m_pop {c : FuncId → Prop} : mthF Try.prog 140 "Pop" c = c 214 := by kernel_rfl

section
variable {hq : HP} {q o m : Nat} {d : Array Th} {K : Value → HP → Prop}

theorem app_push {d : Array Th} {t : Th} : (d.push t).toList.flatMap th = d.toList.flatMap th ++ th t := by
  rw [Array.toList_push, List.flatMap_append]; simp

theorem C215 {t : Th} (h : QD hq q o m d) (hn : d.size ≤ 1000000) (hnew : ∀ k, k < d.size → d[k]!.1 ≠ t.1) (hK : ∀ hq', QD hq' q o m (d.push t) → K (.tuple ⟨[]⟩) hq') : CF Try.prog 215 [ptr o 0, .iface 148 (.agg ⟨th t⟩)] hq K := by
  obtain ⟨s, c, ent, h1, h2, h3, h4, h5, h6⟩ := h
  refine CF.drop (F215_ok _ _ hq _ ?_)
  unfold F215
  refine rdS_assert (by kernel_rfl) ?_
  have hco : ∀ x, hq.cell o x = [Value.slice s d.size c, .map (some m)][x]? := fun x => HP.cell_of h2
  have hz : [Value.int .i64 0, .int .i64 0] = th (0, 0) := rfl
  have hsp : splice (th (0, 0)) 0 (th t) = th t := splice_all rfl
  have q0 : (th t)[0]? = some (.int .i64 t.1) := rfl
  have qa : cellsN (th t) 0 2 = some (th t) := rfl
  simp only [aggV_agg, th_len, th_one, if_true, hz, hsp, ptrN_some, hco, Nat.zero_add, List.getElem?_cons_zero, List.getElem?_cons_succ, ldV_some, mapV_map, slcV_slice, q0, intV_int]
  refine ifI (by decide) ?_
  refine opS_mapUpdate u49 enc3 h4 t.1 (d.size : Int) (ev := iw) fun e he => ?_
  obtain ⟨ob, hob⟩ : ∃ ob, hq m = .obj ob := by obtain ⟨es, clock, he', _⟩ := h4; exact ⟨_, he'⟩
  have nmq : m ≠ q := fun e => by rw [e, h1] at hob; cases hob
  have nmo : m ≠ o := fun e => by rw [e, h2] at hob; cases hob
  have nqo : q ≠ o := fun e => by rw [e, h2] at h1; simp at h1
  have h1' : (hq.set m e) q = .cells 145 [ptr o 0] 0 := by rw [HP.set_ne _ _ nmq.symm]; exact h1
  have h2' : (hq.set m e) o = .cells 143 [.slice s d.size c, .map (some m)] 0 := by rw [HP.set_ne _ _ nmo.symm]; exact h2
  have h3' : Row (hq.set m e) s d.size c 148 2 (d.toList.flatMap th) := h3.set_obj hob e
  have h4' : MapE iw iw (putL t.1 (d.size : Int) ent) ((hq.set m e) m) := by rw [HP.set_eq]; exact he
  have hob' : ∃ ob, (hq.set m e) m = .obj ob := by obtain ⟨es, clock, he', _⟩ := h4'; exact ⟨_, he'⟩
  obtain ⟨ob', hob'⟩ := hob'
  have hat := h6.push hnew
  have hnd := nodup_put (k := t.1) (v := (d.size : Int)) h5
  generalize hq.set m e = hq2 at *
  have hco2 : ∀ (x y : Nat) (E : Ent), y ≠ o → (hq2.set y E).cell o x = [Value.slice s d.size c, .map (some m)][x]? := fun x y E hy => HP.cell_of (by rw [HP.set_ne _ _ hy.symm]; exact h2')
  have hco1 : ∀ x, hq2.cell o x = [Value.slice s d.size c, .map (some m)][x]? := fun x => HP.cell_of h2'
  -- the append, and the store behind it
  have fin : ∀ b24, hq2 b24 = .none → opS Try.prog (Builtin.append_ #[141, 141] 141 ⟨[(Value.slice s d.size c), (Value.slice (some ⟨b24, 0, none⟩) 1 1)]⟩) (hq2.set b24 (.cells 148 (th t) 0)) fun u_25 h_26 => slcV u_25 fun a_27 n_28 c_29 => HP.st h_26 o 0 (Value.slice a_27 n_28 c_29) fun h_32 => ∃ hp'', HSub hp'' h_32 ∧ K (.tuple ⟨[]⟩) hp'' := by
    intro b24 hb24
    have s24 := HSub.set_fresh hq2 (.cells 148 (th t) 0) hb24
    have sh : Shows (hq2.set b24 (.cells 148 (th t) 0)) (some ⟨b24, 0, none⟩) 1 2 (th t) := .inr ⟨b24, 0, rfl, by rw [HP.cellN_of (HP.set_eq ..)]; exact cellsN_all rfl⟩
    refine opS_app (e := 148) (size := 2) (bytes := 16) (by kernel_rfl) (h3'.sub s24) sh (th_one _) (by omega) (by omega) ?_
    intro s4 c4 hp4 hrow4 hup
    rw [slcV_slice]
    have key : hp4 q = .cells 145 [ptr o 0] 0 ∧ hp4 o = .cells 143 [.slice s d.size c, .map (some m)] 0 ∧ hp4 m = hq2 m := by
      have nb : ∀ {x : Nat} {E : Ent}, hq2 x = E → E ≠ .none → x ≠ b24 := fun hx hE e => hE (by rw [← hx, e, hb24])
      have k1 := s24.cells h1'
      have k2 := s24.cells h2'
      have k3 := s24.obj hob'
      rcases hup with ⟨rfl, rfl⟩ | ⟨b, e', rfl, hb, rfl⟩
      · exact ⟨k1, k2, by rw [k3, hob']⟩
      · have hbn : ∀ {x : Nat} {E : Ent}, (hq2.set b24 (.cells 148 (th t) 0)) x = E → E ≠ .none → (∀ cs sp, E ≠ .cells 148 cs sp) → x ≠ b := by
          intro x E hx hE hE2 e
          subst e
          rcases hb with hb | hb
          · exact hE (by rw [← hx, hb])
          · rcases h3'.sub s24 with ⟨r1, _⟩ | ⟨b', r1, r2, r3, r4⟩
            · rw [r1] at hb; cases hb
            · rw [r1] at hb; cases hb; exact hE2 _ _ (by rw [← hx, r4])
        refine ⟨?_, ?_, ?_⟩
        · rw [HP.set_ne _ _ (hbn k1 (by simp) (by simp))]; exact k1
        · rw [HP.set_ne _ _ (hbn k2 (by simp) (by simp))]; exact k2
        · rw [HP.set_ne _ _ (hbn k3 (by simp) (by simp)), k3, hob']
    refine HP.st_at key.2.1 (by simp) ?_
    simp only [List.set_cons_zero]
    refine ⟨_, HSub.refl _, hK _ ⟨s4, c4, _, ?_, ?_, ?_, ?_, hnd, hat⟩⟩
    · rw [HP.set_ne _ _ nqo]; exact key.1
    · rw [HP.set_eq]; simp
    · rw [app_push]
      have hsz : (d.push t).size = d.size + 1 := by simp
      rw [hsz]
      rcases hrow4 with ⟨r1, r2, r3, r4⟩ | ⟨b', r1, r2, r3, r4⟩
      · omega
      · exact .inr ⟨b', r1, r2, r3, by rw [HP.set_ne _ _ (fun e' => by rw [e', key.2.1] at r4; simp at r4)]; exact r4⟩
    · rw [HP.set_ne _ _ nmo, key.2.2]; exact h4'
  refine ⟨?_, ?_⟩
  · simp only [hco1, List.getElem?_cons_zero, ldV_some, slcV_slice, qa, ldL_some]
    refine ifI (th_len t) ?_
    intro b24 hb24
    simp only [hsp]
    exact fin b24 hb24
  · simp only [qa, ldL_some]
    refine ifI (th_len t) ?_
    intro b24 hb24
    have hbo : b24 ≠ o := fun e => by rw [e, h2'] at hb24; cases hb24
    simp only [hco2 _ _ _ hbo, List.getElem?_cons_zero, ldV_some, slcV_slice, hsp]
    exact fin b24 hb24

theorem permIn_size {n : Nat} {d d' : Array Th} (h : PermIn 0 n d d') : d'.size = d.size := h.1

theorem C126 {n j : Nat} (hu : Hp.UpOk tlt n j d) (hj : j < n) (hn : n ≤ d.size) (hsz : d.size ≤ 1000000) (h : QD hq q o m d)
    (hK : ∀ hq' d', QD hq' q o m d' → PermIn 0 n d d' → Hp.Heap tlt n d' → K (.tuple ⟨[]⟩) hq') : CF Try.prog 126 [.iface 140 (ptr o 0), .int .i64 j] hq K := by
  refine F126_ok _ j hq K ?_
  unfold F126
  refine LoopP.by (J := fun k (x : Int) hp => ∃ d', x = (k : Int) ∧ QD hp q o m d' ∧ PermIn 0 n d d' ∧ Hp.UpOk tlt n k d' ∧ k < n) ?_ (n := j) ⟨d, rfl, h, Sort.permIn_refl d 0 n, hu, hj⟩
  rintro I k x hp ⟨d', rfl, hQ, hP, hU, hk⟩ hI
  have hs : d'.size = d.size := hP.1
  unfold F126_l1
  refine ⟨by omega, ?_⟩
  cases k with
  | zero =>
    have e : (IntKind.wrap .i64 (Int.tdiv (IntKind.wrap .i64 (((0 : Nat) : Int) - 1)) 2)) = 0 := by
      rw [w64 (n := ((0 : Nat) : Int) - 1) (by omega) (by omega)]; rfl
    rw [e]
    show ite2 true _ _
    rw [ite2_true]
    unfold F126_j2
    rw [ite2_true]
    exact hK _ d' hQ hP (hU.stop (.inl rfl))
  | succ k =>
    have e : (IntKind.wrap .i64 (Int.tdiv (IntKind.wrap .i64 (((k + 1 : Nat) : Int) - 1)) 2)) = ((Hp.par (k + 1) : Nat) : Int) := by
      rw [w64 (n := ((k + 1 : Nat) : Int) - 1) (by omega) (by omega)]
      have : ((k + 1 : Nat) : Int) - 1 = (k : Int) := by omega
      rw [this]
      have h2 : Int.tdiv (k : Int) 2 = ((k / 2 : Nat) : Int) := rfl
      rw [h2]
      unfold Hp.par
      rw [Nat.add_sub_cancel]
      exact wi rfl (by omega)
    rw [e]
    have hpl := Hp.par_lt (k := k + 1) (by omega)
    have hb : (((Hp.par (k + 1) : Nat) : Int) == ((k + 1 : Nat) : Int)) = false := by rw [beq_eq_false_iff_ne]; omega
    rw [hb, ite2_false, ifaceV_mk, m_less]
    refine C213 hQ (by omega) (by omega) ?_
    rw [boolV_bool]
    unfold F126_j2
    cases hl : tlt d'[k + 1]! d'[Hp.par (k + 1)]!
    · rw [Bool.not_false, ite2_true]
      exact hK _ d' hQ hP (hU.stop (.inr hl))
    · rw [Bool.not_true, ite2_false, ifaceV_mk, m_swap]
      refine C216 hQ (by omega) (by omega) fun hq' hQ' => ?_
      exact hI (Hp.par (k + 1)) _ _ (by omega) ⟨_, rfl, hQ', Sort.permIn_trans _ _ _ _ _ hP (Sort.swp_permIn d' 0 n _ _ (by omega) (by omega) (by omega) (by omega) (by omega)), hU.step swo_tlt (by omega) hk (by omega) hl, by omega⟩

theorem C127 {n i0 : Nat} (hd : Hp.DnOk tlt n i0 i0 d) (hi0 : i0 ≤ n) (hn : n ≤ d.size) (hsz : d.size ≤ 1000000) (h : QD hq q o m d)
    (hK : ∀ (r : Bool) hq' d', QD hq' q o m d' → PermIn 0 n d d' → (r = true → Hp.Heap tlt n d') → (r = false → Hp.UpOk tlt n i0 d') → K (.bool r) hq') : CF Try.prog 127 [.iface 140 (ptr o 0), .int .i64 i0, .int .i64 n] hq K := by
  refine F127_ok _ i0 n hq K ?_
  unfold F127 F127_j1
  refine LoopP.by (J := fun k (x : Int) hp => ∃ (i : Nat) (d' : Array Th), x = (i : Int) ∧ QD hp q o m d' ∧ PermIn 0 n d d' ∧ Hp.DnOk tlt n i0 i d' ∧ i0 ≤ i ∧ i ≤ n ∧ k = n - i) ?_ (n := n - i0) ⟨i0, d, rfl, h, Sort.permIn_refl d 0 n, hd, Nat.le_refl _, hi0, rfl⟩
  rintro I k x hp ⟨i, d', rfl, hQ, hP, hD, hii, hin, rfl⟩ hI
  have hs : d'.size = d.size := hP.1
  have stop : (∀ k, 0 < k → k < n → Hp.par k = i → tlt d'[k]! d'[i]! = false) → ∀ hp', QD hp' q o m d' → F127_j2 i0 i hp' K := by
    intro hs' hp' hQ'
    unfold F127_j2
    have hst := hD.stop hii hs'
    by_cases hlt : i0 < i
    · rw [decide_eq_true (by omega : (i : Int) > (i0 : Int))]
      exact hK true _ d' hQ' hP (fun _ => hst.1 hlt) (fun e => by cases e)
    · rw [decide_eq_false (by omega : ¬ (i : Int) > (i0 : Int))]
      exact hK false _ d' hQ' hP (fun e => by cases e) (fun _ => hst.2 (by omega))
  have w1 : IntKind.wrap .i64 (2 * (i : Int)) = ((2 * i : Nat) : Int) := wi (by omega) (by omega)
  have w2 : IntKind.wrap .i64 (((2 * i : Nat) : Int) + 1) = ((2 * i + 1 : Nat) : Int) := wi (by omega) (by omega)
  have w3 : IntKind.wrap .i64 (((2 * i + 1 : Nat) : Int) + 1) = ((2 * i + 2 : Nat) : Int) := wi (by omega) (by omega)
  have chld : ∀ k, 0 < k → Hp.par k = i → k = 2 * i + 1 ∨ k = 2 * i + 2 := fun k hk hp => by unfold Hp.par at hp; omega
  unfold F127_l3
  simp only [w1, w2]
  by_cases h1 : 2 * i + 1 ≥ n
  · rw [decide_eq_true (by omega : ((2 * i + 1 : Nat) : Int) ≥ (n : Int)), ite2_true]
    unfold F127_j4
    rw [ite2_true]
    exact stop (fun k hk hkn hp => by rcases chld k hk hp with e | e <;> omega) hp hQ
  rw [decide_eq_false (by omega : ¬ ((2 * i + 1 : Nat) : Int) ≥ (n : Int)), ite2_false, decide_eq_false (by omega : ¬ ((2 * i + 1 : Nat) : Int) < 0)]
  unfold F127_j4
  rw [ite2_false, w3]
  -- with the lesser one below
  have five : ∀ j : Nat, j < n → 0 < j → Hp.par j = i → (∀ k, 0 < k → k < n → Hp.par k = i → tlt d'[k]! d'[j]! = false) → ∀ hp', QD hp' q o m d' → F127_j5 (.iface 140 (ptr o 0)) i0 n i j hp' I K := by
    intro j hjn hj0 hpj hmin hp' hQ'
    have hpl := Hp.par_lt hj0
    unfold F127_j5
    rw [ifaceV_mk, m_less]
    refine C213 hQ' (by omega) (by omega) ?_
    rw [boolV_bool]
    cases hl : tlt d'[j]! d'[i]!
    · rw [Bool.not_false, ite2_true]
      refine stop (fun k hk hkn hp => ?_) hp' hQ'
      exact swo_tlt.ntrans _ _ _ (hmin k hk hkn hp) hl
    · rw [Bool.not_true, ite2_false, ifaceV_mk, m_swap]
      refine C216 hQ' (by omega) (by omega) fun hq' hQ2 => ?_
      exact hI (n - j) _ _ (by omega) ⟨j, _, rfl, hQ2, Sort.permIn_trans _ _ _ _ _ hP (Sort.swp_permIn d' 0 n _ _ (by omega) (by omega) (by omega) (by omega) (by omega)), hD.step swo_tlt hii hj0 hpj hjn (by omega) hl hmin, by omega, by omega, rfl⟩
  have p1 : Hp.par (2 * i + 1) = i := by unfold Hp.par; omega
  have p2 : Hp.par (2 * i + 2) = i := by unfold Hp.par; omega
  by_cases h2 : 2 * i + 2 < n
  · rw [decide_eq_true (by omega : ((2 * i + 2 : Nat) : Int) < (n : Int)), ite2_true, ifaceV_mk, m_less]
    refine C213 hQ (by omega) (by omega) ?_
    rw [boolV_bool]
    unfold F127_j6
    cases hl : tlt d'[2 * i + 2]! d'[2 * i + 1]!
    · rw [ite2_false]
      refine five (2 * i + 1) (by omega) (by omega) p1 (fun k hk hkn hp => ?_) _ hQ
      rcases chld k hk hp with e | e
      · rw [e]; exact swo_tlt.irrefl _
      · rw [e]; exact hl
    · rw [ite2_true]
      refine five (2 * i + 2) (by omega) (by omega) p2 (fun k hk hkn hp => ?_) _ hQ
      rcases chld k hk hp with e | e
      · rw [e]; exact Hp.asym swo_tlt hl
      · rw [e]; exact swo_tlt.irrefl _
  · rw [decide_eq_false (by omega : ¬ ((2 * i + 2 : Nat) : Int) < (n : Int)), ite2_false]
    unfold F127_j6
    rw [ite2_false]
    refine five (2 * i + 1) (by omega) (by omega) p1 (fun k hk hkn hp => ?_) _ hQ
    rcases chld k hk hp with e | e
    · rw [e]; exact swo_tlt.irrefl _
    · omega

theorem permIn_list {n : Nat} {d d' : Array Th} (h : PermIn 0 n d d') (hn : n ≤ d.size) : d'.toList.Perm d.toList := by
  have h2 := (Sort.permIn_mono d d' 0 n 0 d.size (Nat.le_refl _) hn (Nat.le_refl _) h).2.2
  have e1 : d'.extract 0 d.size = d' := by rw [← h.1]; simp
  have e2 : d.extract 0 d.size = d := by simp
  rw [e1, e2] at h2
  exact h2

theorem C83 {t : Th} (h : QD hq q o m d) (hsz : d.size + 1 ≤ 1000000) (hH : Hp.Heap tlt d.size d) (hnew : ∀ k, k < d.size → d[k]!.1 ≠ t.1)
    (hK : ∀ hq' d', QD hq' q o m d' → d'.toList.Perm (t :: d.toList) → Hp.Heap tlt d'.size d' → K (.tuple ⟨[]⟩) hq') : CF Try.prog 83 [.iface 140 (ptr o 0), .iface 148 (.agg ⟨th t⟩)] hq K := by
  refine F83_ok _ _ hq K ?_
  unfold F83
  rw [ifaceV_mk, m_push]
  refine C215 h (by omega) hnew fun hq' hQ => ?_
  rw [ifaceV_mk, m_len]
  refine C91 hQ ?_
  rw [intV_int]
  have hps : (d.push t).size = d.size + 1 := by simp
  have w : IntKind.wrap .i64 (((d.push t).size : Nat) - 1) = ((d.size : Nat) : Int) := by rw [hps]; exact wi (by omega) (by omega)
  rw [w]
  refine C126 (n := d.size + 1) ⟨fun k hk hkn hkj => ?_, fun k hk hkn hp h0 => ?_⟩ (by omega) (by omega) (by omega) hQ fun hq2 d2 hQ2 hP hH2 => ?_
  · have := Hp.par_lt hk
    rw [push_old (by omega), push_old (by omega)]; exact hH k hk (by omega)
  · have := Hp.par_lt hk; omega
  · have hs2 : d2.size = d.size + 1 := by rw [hP.1, hps]
    refine hK _ d2 hQ2 ?_ (by rw [hs2]; exact hH2)
    refine (permIn_list hP (by omega)).trans ?_
    rw [Array.toList_push]
    exact List.perm_append_singleton t d.toList

theorem C84 {i : Nat} (h : QD hq q o m d) (hi : i < d.size) (hsz : d.size ≤ 1000000) (hD : Hp.DnOk tlt d.size i i d)
    (hK : ∀ hq' d', QD hq' q o m d' → d'.toList.Perm d.toList → Hp.Heap tlt d'.size d' → K (.tuple ⟨[]⟩) hq') : CF Try.prog 84 [.iface 140 (ptr o 0), .int .i64 i] hq K := by
  refine F84_ok _ i hq K ?_
  unfold F84
  rw [ifaceV_mk, m_len]
  refine C91 h ?_
  rw [intV_int]
  refine C127 hD (by omega) (Nat.le_refl _) hsz h fun r hq' d' hQ hP ht hf => ?_
  have hs : d'.size = d.size := hP.1
  rw [boolV_bool]
  cases r
  · rw [Bool.not_false, ite2_true]
    refine C126 (hf rfl) hi (by omega) (by omega) hQ fun hq2 d2 hQ2 hP2 hH2 => ?_
    have hs2 : d2.size = d.size := by rw [hP2.1, hs]
    exact hK _ d2 hQ2 ((permIn_list hP2 (by omega)).trans (permIn_list hP (Nat.le_refl _))) (by rw [hs2]; exact hH2)
  · rw [Bool.not_true, ite2_false]
    exact hK _ d' hQ (permIn_list hP (Nat.le_refl _)) (by rw [hs]; exact ht rfl)

theorem pop_list {d : Array Th} (h0 : 0 < d.size) : d.toList = d.pop.toList ++ [d[d.size - 1]!] := by
  rw [getElem!_pos d (d.size - 1) (by omega)]
  apply List.ext_getElem
  · simp; omega
  · intro i h1 h2
    rw [List.getElem_append]
    split
    · simp
    · rename_i hc
      simp at hc h1
      have : i = d.size - 1 := by omega
      subst this
      simp

theorem heap_pop {d : Array Th} (hH : Hp.Heap tlt (d.size - 1) d) : Hp.Heap tlt d.pop.size d.pop := by
  intro k hk hkn
  have hkn' : k < d.size - 1 := by simpa using hkn
  have := Hp.par_lt hk
  rw [pop_old hkn', pop_old (by omega)]
  exact hH k hk hkn'

/-- The last one goes. -/
theorem cut_last (h : QD hq q o m d) (h0 : 0 < d.size) (hsz : d.size ≤ 1000000) (hH : Hp.Heap tlt (d.size - 1) d) {d0 : Array Th} {t : Th} (hp : d.toList.Perm d0.toList) (ht : d[d.size - 1]! = t)
    (hK : ∀ hq' d', QD hq' q o m d' → (t :: d'.toList).Perm d0.toList → Hp.Heap tlt d'.size d' → K (.iface 148 (.agg ⟨th t⟩)) hq') : CF Try.prog 214 [ptr o 0] hq K := by
  refine C214 h h0 hsz fun hq' hQ => ?_
  rw [ht]
  refine hK _ d.pop hQ ?_ (heap_pop hH)
  refine List.Perm.trans ?_ hp
  rw [pop_list h0, ht]
  exact (List.perm_append_singleton t d.pop.toList).symm

theorem C85 (h : QD hq q o m d) (h0 : 0 < d.size) (hsz : d.size ≤ 1000000) (hH : Hp.Heap tlt d.size d)
    (hK : ∀ hq' d', QD hq' q o m d' → (d[0]! :: d'.toList).Perm d.toList → Hp.Heap tlt d'.size d' → K (.iface 148 (.agg ⟨th d[0]!⟩)) hq') : CF Try.prog 85 [.iface 140 (ptr o 0)] hq K := by
  refine F85_ok _ hq K ?_
  unfold F85
  rw [ifaceV_mk, m_len]
  refine C91 h ?_
  have w : IntKind.wrap .i64 ((d.size : Nat) - 1) = ((d.size - 1 : Nat) : Int) := wi (by omega) (by omega)
  rw [intV_int, ifaceV_mk, m_swap, w]
  have z0 : (Value.int .i64 0) = Value.int .i64 ((0 : Nat) : Int) := rfl
  rw [z0]
  refine C216 h h0 (by omega) fun hq1 hQ1 => ?_
  have hs1 : (swp d 0 (d.size - 1)).size = d.size := swp_size ..
  have dn : Hp.DnOk tlt (d.size - 1) 0 0 (swp d 0 (d.size - 1)) := by
    by_cases h1 : d.size - 1 = 0
    · exact ⟨fun k hk hkn => by omega, fun k hk hkn => by omega⟩
    · exact Hp.Heap.dn swo_tlt (hH.mono (by omega)) (by omega) fun k hk hk0 => Hp.swp_o h0 (by omega) hk0 (by omega)
  have hlast : (swp d 0 (d.size - 1))[d.size - 1]! = d[0]! := Hp.swp_r h0 (by omega)
  have hperm1 : (swp d 0 (d.size - 1)).toList.Perm d.toList := permIn_list (Sort.swp_permIn d 0 d.size 0 (d.size - 1) (by omega) h0 (by omega) (by omega) (Nat.le_refl _)) (Nat.le_refl _)
  refine C127 dn (by omega) (by omega) (by omega) hQ1 fun r hq2 d2 hQ2 hP ht hf => ?_
  have hs2 : d2.size = d.size := by rw [hP.1, hs1]
  rw [boolV_bool, ifaceV_mk, m_pop]
  have hH2 : Hp.Heap tlt (d2.size - 1) d2 := by
    rw [hs2]
    cases r
    · exact (hf rfl).stop (.inl rfl)
    · exact ht rfl
  refine cut_last hQ2 (by omega) (by omega) hH2 (d0 := d) (t := d[0]!) ((permIn_list hP (by omega)).trans hperm1) (by rw [hs2, hP.2.1 _ (.inr (Nat.le_refl _)), hlast]) ?_
  exact hK

theorem C90 {i : Nat} (h : QD hq q o m d) (hi : i < d.size) (hsz : d.size ≤ 1000000) (hH : Hp.Heap tlt d.size d)
    (hK : ∀ hq' d', QD hq' q o m d' → (d[i]! :: d'.toList).Perm d.toList → Hp.Heap tlt d'.size d' → K (.iface 148 (.agg ⟨th d[i]!⟩)) hq') : CF Try.prog 90 [.iface 140 (ptr o 0), .int .i64 i] hq K := by
  refine F90_ok _ i hq K ?_
  unfold F90
  rw [ifaceV_mk, m_len]
  refine C91 h ?_
  have w : IntKind.wrap .i64 ((d.size : Nat) - 1) = ((d.size - 1 : Nat) : Int) := wi (by omega) (by omega)
  rw [intV_int, w]
  by_cases hil : d.size - 1 = i
  · have e : (((d.size - 1 : Nat) : Int) != (i : Int)) = false := by
      rw [hil]; simp
    rw [e, ite2_false]
    unfold F90_j1
    rw [ifaceV_mk, m_pop]
    exact cut_last h (by omega) hsz (hH.mono (by omega)) (List.Perm.refl _) (by rw [hil]) hK
  have e : (((d.size - 1 : Nat) : Int) != (i : Int)) = true := by
    rw [bne_iff_ne]; omega
  rw [e, ite2_true, ifaceV_mk, m_swap]
  refine C216 h hi (by omega) fun hq1 hQ1 => ?_
  have hs1 : (swp d i (d.size - 1)).size = d.size := swp_size ..
  have dn : Hp.DnOk tlt (d.size - 1) i i (swp d i (d.size - 1)) :=
    Hp.Heap.dn swo_tlt (hH.mono (by omega)) (by omega) fun k hk hk0 => Hp.swp_o hi (by omega) hk0 (by omega)
  have hlast : (swp d i (d.size - 1))[d.size - 1]! = d[i]! := Hp.swp_r hi (by omega)
  have hperm1 : (swp d i (d.size - 1)).toList.Perm d.toList := permIn_list (Sort.swp_permIn d 0 d.size i (d.size - 1) (by omega) hi (by omega) (by omega) (Nat.le_refl _)) (Nat.le_refl _)
  refine C127 dn (by omega) (by omega) (by omega) hQ1 fun r hq2 d2 hQ2 hP ht hf => ?_
  have hs2 : d2.size = d.size := by rw [hP.1, hs1]
  have hl2 : d2[d.size - 1]! = d[i]! := by rw [hP.2.1 _ (.inr (Nat.le_refl _)), hlast]
  rw [boolV_bool]
  cases r
  · rw [Bool.not_false, ite2_true]
    refine C126 (hf rfl) (by omega) (by omega) (by omega) hQ2 fun hq3 d3 hQ3 hP3 hH3 => ?_
    have hs3 : d3.size = d.size := by rw [hP3.1, hs2]
    unfold F90_j1
    rw [ifaceV_mk, m_pop]
    exact cut_last hQ3 (by omega) (by omega) (by rw [hs3]; exact hH3) (((permIn_list hP3 (by omega)).trans (permIn_list hP (by omega))).trans hperm1) (by rw [hs3, hP3.2.1 _ (.inr (Nat.le_refl _)), hl2]) hK
  · rw [Bool.not_true, ite2_false]
    unfold F90_j1
    rw [ifaceV_mk, m_pop]
    exact cut_last hQ2 (by omega) (by omega) (by rw [hs2]; exact ht rfl) ((permIn_list hP (by omega)).trans hperm1) (by rw [hs2, hl2]) hK
end
end Go.Proofs

set_option linter.unusedVariables false
set_option maxRecDepth 20000
namespace Go.Proofs
open Go Go.HL
open Go.Exp (Th tlt swo_tlt Ord setW dropW insW)

/-- A queue that has these things, in their order. -/
def QW (hq : HP) (q : Nat) (w : List Th) : Prop := ∃ o m d, QD hq q o m d ∧ Hp.Heap tlt d.size d ∧ d.toList.Perm w ∧ Ord w

section
variable {hq : HP} {q o m : Nat} {d : Array Th} {w : List Th} {K : Value → HP → Prop}

theorem C82 (h : QD hq q o m d) (hK : K (.bool false) hq) : CF Try.prog 82 [ptr q 0] hq K := by
  refine F82_ok _ hq K ?_
  unfold F82
  obtain ⟨s, c, ent, h1, h2, h3, h4, h5, h6⟩ := h
  have hc : ∀ x, hq.cell q x = [ptr o 0][x]? := fun x => HP.cell_of h1
  have pp : ∀ (p : Nat) (c : Option Addr → Prop), ptrV (ptr p 0) c = c (some ⟨p, 0, none⟩) := fun _ _ => rfl
  simp only [Option.isNone_some, ite2_false, ptrN_some, hc, Nat.add_zero, List.getElem?_cons_zero, ldV_some, pp]
  exact hK

theorem C29 (hK : ∀ q hq', hq q = .none → HSub hq hq' → QW hq' q [] → K (ptr q 0) hq') : CF Try.prog 29 [] hq K := by
  refine F29_ok hq K ?_
  unfold F29
  intro b1 hb1 b2 hb2 b3 hb3
  have s1 := HSub.set_fresh hq (.obj (.map #[] 0)) hb1
  have s2 := HSub.set_fresh _ (.cells 143 [(Value.slice none 0 0), (Value.map (some b1))] 0) hb2
  have s3 := HSub.set_fresh _ (.cells 145 [(ptr b2 0)] 0) hb3
  refine hK b3 _ (s1.none (s2.none hb3)) ((s1.trans s2).trans s3) ⟨b2, b1, #[], ⟨none, 0, [], HP.set_eq .., ?_, .inl ⟨rfl, rfl, rfl, rfl⟩, ?_, by simp, fun id x => ?_⟩, fun k hk hkn => by simp at hkn, List.Perm.refl _, Exp.ord_nil⟩
  · exact s3.cells (HP.set_eq ..)
  · have := s3.obj (s2.obj (b := b1) (HP.set_eq ..))
    rw [this]; exact MapE.empty _ _
  · simp [getL]

theorem C36 (h : QW hq q w) (hK : K (.int .i64 (w.length : Nat)) hq) : CF Try.prog 36 [ptr q 0] hq K := by
  obtain ⟨o, m, d, hQ, hH, hp, ho⟩ := h
  refine F36_ok _ hq K ?_
  unfold F36
  refine C82 hQ ?_
  rw [boolV_bool, ite2_false]
  obtain ⟨s, c, ent, h1, h2, h3, h4, h5, h6⟩ := hQ
  have hc : ∀ x, hq.cell q x = [ptr o 0][x]? := fun x => HP.cell_of h1
  have pp : ∀ (p : Nat) (c : Option Addr → Prop), ptrV (ptr p 0) c = c (some ⟨p, 0, none⟩) := fun _ _ => rfl
  simp only [ptrN_some, hc, Nat.add_zero, List.getElem?_cons_zero, ldV_some, pp]
  refine C91 ⟨s, c, ent, h1, h2, h3, h4, h5, h6⟩ ?_
  rw [intV_int]
  have : d.size = w.length := by simpa using hp.length_eq
  rw [this]; exact hK

theorem mem_at {d : Array Th} {k : Nat} (hk : k < d.size) : d[k]! ∈ d.toList := by
  rw [getElem!_pos d k hk]; simp

/-- What is found of one. -/
theorem at_getL {ent : List (Int × Int)} (ha : AtOk ent d) (hp : d.toList.Perm w) (ho : Ord w) (id : Int) :
    (getL id ent = none ∧ getL id w = none) ∨ ∃ k : Nat, k < d.size ∧ d[k]!.1 = id ∧ getL id ent = some (k : Int) ∧ getL id w = some d[k]!.2 := by
  cases hg : getL id ent with
  | none =>
    left
    refine ⟨rfl, getL_none.2 fun hm => ?_⟩
    obtain ⟨t, ht, e⟩ := List.mem_map.1 hm
    have ht' := hp.mem_iff.2 ht
    obtain ⟨k, hk, e'⟩ := List.getElem_of_mem ht'
    have hk' : k < d.size := by simpa using hk
    have : getL id ent = some (k : Int) := (ha id k).2 ⟨k, rfl, hk', by rw [getElem!_pos d k hk', ← e, ← e']; simp⟩
    rw [hg] at this; cases this
  | some x =>
    right
    obtain ⟨k, rfl, hk, e⟩ := (ha id x).1 hg
    refine ⟨k, hk, e, rfl, getL_of_mem ho.2 ?_⟩
    rw [← e]
    exact hp.mem_iff.1 (mem_at hk)

theorem C42 (h : QW hq q w) (hK : K (.tuple ⟨[.int .i64 ((w.head?.map (·.1)).getD 0), .int .i64 ((w.head?.map (·.2)).getD 0), .bool w.head?.isSome]⟩) hq) : CF Try.prog 42 [ptr q 0] hq K := by
  obtain ⟨o, m, d, hQ, hH, hp, ho⟩ := h
  refine F42_ok _ hq K ?_
  unfold F42
  refine C82 hQ ?_
  rw [boolV_bool, ite2_false]
  have hQ0 := hQ
  obtain ⟨s, c, ent, h1, h2, h3, h4, h5, h6⟩ := hQ
  have hc : ∀ x, hq.cell q x = [ptr o 0][x]? := fun x => HP.cell_of h1
  have pp : ∀ (p : Nat) (c : Option Addr → Prop), ptrV (ptr p 0) c = c (some ⟨p, 0, none⟩) := fun _ _ => rfl
  simp only [ptrN_some, hc, Nat.add_zero, List.getElem?_cons_zero, ldV_some, pp]
  refine C91 hQ0 ?_
  rw [intV_int]
  have hl : d.size = w.length := by simpa using hp.length_eq
  cases w with
  | nil =>
    have e : ((d.size : Nat) : Int) == 0 := by rw [hl]; rfl
    rw [e]
    unfold F42_j1
    rw [ite2_true]
    exact hK
  | cons t w =>
    have h0 : 0 < d.size := by rw [hl]; simp
    have e : (((d.size : Nat) : Int) == 0) = false := by rw [beq_eq_false_iff_ne]; omega
    rw [e]
    have hroot : d[0]! = t := by
      have hm : d[0]! ∈ t :: w := hp.mem_iff.1 (mem_at h0)
      rcases List.mem_cons.1 hm with e | hm
      · exact e
      · have h1 := (List.pairwise_cons.1 ho.1).1 _ hm
        have ht : t ∈ d.toList := hp.mem_iff.2 (by simp)
        obtain ⟨k, hk, e'⟩ := List.getElem_of_mem ht
        have hk' : k < d.size := by simpa using hk
        have := hH.root swo_tlt k hk'
        rw [getElem!_pos d k hk'] at this
        have e2 : d[k] = t := by rw [← e']; simp
        rw [e2, h1] at this
        cases this
    obtain ⟨b, c', ent', g1, g2, g3, g4, g5, g6, g7, n1, n2, n3, n4, n5, n6, g⟩ := hQ0.open_ h0
    have hco : ∀ x, hq.cell o x = [Value.slice (some ⟨b, 0, none⟩) d.size c', .map (some m)][x]? := fun x => HP.cell_of g2
    have gg := g 0 h0
    have ga : hq.cell b ((0 + 0 * 2) + 0) = some (.int .i64 d[0]!.1) := HP.cell_cellN gg rfl
    have gb : hq.cell b ((0 + 0 * 2) + 1) = some (.int .i64 d[0]!.2) := HP.cell_cellN gg rfl
    unfold F42_j1
    rw [ite2_false]
    have t0 : Int.toNat 0 = 0 := rfl
    simp only [ptrN_some, hc, hco, Nat.add_zero, List.getElem?_cons_zero, ldV_some, pp, slcV_slice, t0]
    simp only [Nat.add_zero] at ga gb
    rw [ga]
    simp only [ldV_some, intV_int, gb]
    refine ⟨by omega, by omega, by omega, by omega, ?_⟩
    rw [hroot]
    exact hK

theorem C30 {id due : Int} (h : QW hq q w) (hsz : w.length + 1 ≤ 1000000)
    (hbad : (due < 0 ∨ due > 4611686018427387904) → K (.int .i64 1) hq)
    (hok : ¬ (due < 0 ∨ due > 4611686018427387904) → ∀ hq', QW hq' q (setW id due w) → K (.int .i64 0) hq') : CF Try.prog 30 [ptr q 0, .int .i64 id, .int .i64 due] hq K := by
  obtain ⟨o, m, d, hQ, hH, hp, ho⟩ := h
  refine F30_ok _ id due hq K ?_
  unfold F30
  refine C82 hQ ?_
  rw [boolV_bool, ite2_false]
  by_cases hneg : due < 0
  · rw [decide_eq_true hneg, ite2_true]
    unfold F30_j1
    rw [ite2_true]
    exact hbad (.inl hneg)
  rw [decide_eq_false hneg, ite2_false]
  unfold F30_j1
  by_cases hbig : due > 4611686018427387904
  · rw [decide_eq_true hbig, ite2_true]
    exact hbad (.inr hbig)
  rw [decide_eq_false hbig, ite2_false]
  have hok := hok (by omega)
  have hl : d.size = w.length := by simpa using hp.length_eq
  have hQ0 := hQ
  obtain ⟨s, c, ent, h1, h2, h3, h4, h5, h6⟩ := hQ
  have hc : ∀ x, hq.cell q x = [ptr o 0][x]? := fun x => HP.cell_of h1
  have hco : ∀ x, hq.cell o x = [Value.slice s d.size c, .map (some m)][x]? := fun x => HP.cell_of h2
  have pp : ∀ (p : Nat) (c : Option Addr → Prop), ptrV (ptr p 0) c = c (some ⟨p, 0, none⟩) := fun _ _ => rfl
  simp only [ptrN_some, hc, hco, Nat.zero_add, Nat.add_zero, List.getElem?_cons_zero, List.getElem?_cons_succ, ldV_some, pp, mapV_map]
  refine rdS_lookup u49 enc3 zw3 h4 id ?_
  simp only [if_true, tup2V_mk]
  have hset := ho.set id due
  rcases at_getL h6 hp ho id with ⟨e1, e2⟩ | ⟨k, hk, e0, e1, e2⟩
  · rw [e1]
    simp only [Option.map_none, Option.getD_none, intV_int, Option.isSome_none, boolV_bool, Bool.not_false, ite2_true]
    have hth : [(Value.int .i64 id), (Value.int .i64 due)] = th (id, due) := rfl
    rw [hth]
    have hnw : id ∉ w.map (·.1) := getL_none.1 e2
    refine C83 hQ0 (by omega) hH (fun k hk e => hnw ?_) fun hq' d' hQ' hP hH' => ?_
    · have e' : d[k]!.1 = id := e
      rw [← e']; exact List.mem_map.2 ⟨_, hp.mem_iff.1 (mem_at hk), rfl⟩
    · refine hok hq' ⟨o, m, d', hQ', hH', ?_, hset⟩
      refine hP.trans (((hp.cons (id, due)).trans ?_).trans (Exp.insW_perm (id, due) (dropW id w)).symm)
      rw [Exp.dropW_absent hnw]
  · rw [e1]
    obtain ⟨b, c', ent', g1, g2, g3, g4, g5, g6, g7, n1, n2, n3, n4, n5, n6, g⟩ := hQ0.open_ (by omega)
    have e9 := h2.symm.trans g2
    simp only [Ent.cells.injEq, List.cons.injEq, Value.slice.injEq, and_true, true_and] at e9
    obtain ⟨rfl, rfl⟩ := e9
    have hiw : iw (k : Int) = .int .i64 (k : Int) := rfl
    simp only [Option.map_some, Option.getD_some, hiw, intV_int, Option.isSome_some, boolV_bool, Bool.not_true, ite2_false, ptrN_some, hc, hco, Nat.zero_add, Nat.add_zero, List.getElem?_cons_zero, ldV_some, pp, slcV_slice, Int.toNat_natCast]
    refine ⟨by omega, by omega, ?_⟩
    have hfl : (d.toList.flatMap th).length = d.size * 2 := by rw [flat_len th_len]; simp
    refine HP.st_at g4 (by rw [hfl]; omega) ?_
    have hcell : (d.toList.flatMap th).set (k * 2 + 1) (.int .i64 due) = (d.setIfInBounds k (id, due)).toList.flatMap th := by
      have e : (d.setIfInBounds k (id, due)).toList = d.toList.set k (id, due) := by simp
      rw [e, ← flat_splice th_len (id, due) (by simpa using hk)]
      rw [splice_eq _ _ _ (by rw [th_len, hfl]; omega), th_len]
      have hat : (d.toList.flatMap th)[k * 2]? = some (.int .i64 id) := by
        have := HP.cell_cellN (j := 0) (g k hk) (v := .int .i64 d[k]!.1) rfl
        rw [HP.cell_of g4] at this
        rw [← e0]; simpa using this
      apply List.ext_getElem?
      intro x
      rw [List.append_assoc]
      by_cases hx : x < k * 2
      · rw [List.getElem?_set_ne (by omega), List.getElem?_append_left (by rw [List.length_take, hfl]; omega), List.getElem?_take_of_lt hx]
      · have hlt : ((d.toList.flatMap th).take (k * 2)).length = k * 2 := by rw [List.length_take, hfl]; omega
        rw [List.getElem?_append_right (by rw [hlt]; omega), hlt]
        by_cases hx0 : x = k * 2
        · rw [hx0, List.getElem?_set_ne (by omega), hat, Nat.sub_self]; rfl
        · by_cases hx1 : x = k * 2 + 1
          · rw [hx1, List.getElem?_set_self (by rw [hfl]; omega)]
            have : k * 2 + 1 - k * 2 = 1 := by omega
            rw [this]; rfl
          · rw [List.getElem?_set_ne (by omega), List.getElem?_append_right (by rw [th_len]; omega), th_len, List.getElem?_drop]
            congr 1; omega
    rw [hcell]
    have hs1 : (d.setIfInBounds k (id, due)).size = d.size := by simp
    have old : ∀ j, j ≠ k → (d.setIfInBounds k (id, due))[j]! = d[j]! := fun j hj => by
      simp only [getElem!_def, Array.getElem?_setIfInBounds, if_neg hj.symm]
    have new : (d.setIfInBounds k (id, due))[k]! = (id, due) := by
      rw [getElem!_pos _ k (by rw [hs1]; exact hk)]; simp
    have hQ1 : QD (hq.set b (.cells 148 ((d.setIfInBounds k (id, due)).toList.flatMap th) ((c - d.size) * 2))) q o m (d.setIfInBounds k (id, due)) := by
      refine ⟨some ⟨b, 0, none⟩, c, ent', ?_, ?_, .inr ⟨b, rfl, by omega, by rw [flat_len th_len]; simp, by rw [HP.set_eq, hs1]⟩, ?_, g6, fun id' x => ?_⟩
      · rw [HP.set_ne _ _ n1.symm]; exact g1
      · rw [HP.set_ne _ _ n2.symm, hs1]; exact g2
      · rw [HP.set_ne _ _ n3.symm]; exact g5
      · rw [g7 id' x, hs1]
        constructor
        · rintro ⟨j, rfl, hj, e⟩
          refine ⟨j, rfl, hj, ?_⟩
          by_cases hjk : j = k
          · rw [hjk, new]; rw [hjk, e0] at e; exact e
          · rw [old j hjk]; exact e
        · rintro ⟨j, rfl, hj, e⟩
          refine ⟨j, rfl, hj, ?_⟩
          by_cases hjk : j = k
          · rw [hjk, new] at e; rw [hjk, e0]; exact e
          · rw [old j hjk] at e; exact e
    have hc1 : ∀ x, (hq.set b (.cells 148 ((d.setIfInBounds k (id, due)).toList.flatMap th) ((c - d.size) * 2))).cell q x = [ptr o 0][x]? := fun x => HP.cell_of (by rw [HP.set_ne _ _ n1.symm]; exact g1)
    simp only [hc1, Nat.add_zero, List.getElem?_cons_zero, ldV_some, pp]
    refine C84 hQ1 (by rw [hs1]; exact hk) (by omega) ?_ fun hq' d' hQ' hP hH' => ?_
    · rw [hs1]; exact hH.dn swo_tlt hk fun j hj hjk => old j hjk
    · refine hok hq' ⟨o, m, d', hQ', hH', ?_, hset⟩
      have e : (d.setIfInBounds k (id, due)).toList = d.toList.set k (id, due) := by simp
      rw [e] at hP
      have hkl : k < d.toList.length := by simpa using hk
      have p1 := hP.trans (Exp.set_perm d.toList k (id, due) hkl)
      have p2 := Exp.at_perm d.toList k hkl
      have e2 : d.toList[k] = (id, d[k]!.2) := by rw [getElem!_pos d k hk] at e0 ⊢; rw [← e0]; simp
      rw [e2] at p2
      have p3 := Exp.dropW_erase (hp.symm.trans p2) ho.2
      exact (p1.trans (p3.symm.cons _)).trans (Exp.insW_perm (id, due) (dropW id w)).symm

theorem C34 {id : Int} (h : QW hq q w) (hsz : w.length ≤ 1000000)
    (hK : ∀ hq', QW hq' q (dropW id w) → K (.bool (getL id w).isSome) hq') : CF Try.prog 34 [ptr q 0, .int .i64 id] hq K := by
  obtain ⟨o, m, d, hQ, hH, hp, ho⟩ := h
  refine F34_ok _ id hq K ?_
  unfold F34
  refine C82 hQ ?_
  rw [boolV_bool, ite2_false]
  have hl : d.size = w.length := by simpa using hp.length_eq
  have hQ0 := hQ
  obtain ⟨s, c, ent, h1, h2, h3, h4, h5, h6⟩ := hQ
  have hc : ∀ x, hq.cell q x = [ptr o 0][x]? := fun x => HP.cell_of h1
  have hco : ∀ x, hq.cell o x = [Value.slice s d.size c, .map (some m)][x]? := fun x => HP.cell_of h2
  have pp : ∀ (p : Nat) (c : Option Addr → Prop), ptrV (ptr p 0) c = c (some ⟨p, 0, none⟩) := fun _ _ => rfl
  simp only [ptrN_some, hc, hco, Nat.zero_add, Nat.add_zero, List.getElem?_cons_zero, List.getElem?_cons_succ, ldV_some, pp, mapV_map]
  refine rdS_lookup u49 enc3 zw3 h4 id ?_
  simp only [if_true, tup2V_mk]
  rcases at_getL h6 hp ho id with ⟨e1, e2⟩ | ⟨k, hk, e0, e1, e2⟩
  · rw [e1]
    rw [e2] at hK
    simp only [Option.map_none, Option.getD_none, intV_int, Option.isSome_none, boolV_bool, ite2_false]
    unfold F34_j1
    refine hK hq ⟨o, m, d, hQ0, hH, ?_, ho.drop id⟩
    rw [Exp.dropW_absent (getL_none.1 e2)]; exact hp
  · rw [e1]
    rw [e2] at hK
    have hiw : iw (k : Int) = .int .i64 (k : Int) := rfl
    simp only [Option.map_some, Option.getD_some, hiw, intV_int, Option.isSome_some, boolV_bool, ite2_true]
    refine C90 hQ0 hk (by omega) hH fun hq' d' hQ' hP hH' => ?_
    unfold F34_j1
    refine hK hq' ⟨o, m, d', hQ', hH', ?_, ho.drop id⟩
    have e3 : d[k]! = (id, d[k]!.2) := by rw [← e0]
    rw [e3] at hP
    exact (Exp.dropW_erase (hp.symm.trans hP.symm) ho.2).symm
end
end Go.Proofs

