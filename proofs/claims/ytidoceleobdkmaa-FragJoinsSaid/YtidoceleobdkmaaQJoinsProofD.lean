/- Parts of the proof of JoinsProof: the logic of what is known of memory, functions' contracts. -/
import Derived.Test.YtidoceleobdkmaaQJoinsProofC
import Derived.Test.YtidoceleobdkmaaHlAbb
import Derived.Test.YtidoceleobdkmaaProg
import Derived.Test.YtidoceleobdkmaaHlFrame
import Derived.Laws.IdiomStrings
import Derived.Test.YtidoceleobdkmaaHlArg
set_option linter.unusedVariables false
set_option maxRecDepth 20000
namespace Go.Proofs
open Go Go.HL

/-- A piece of the document's, with its datagram's due. -/
abbrev PD := Pc × Int
def ofL (key : ByteArray) (L : List PD) : List PD := L.filter fun x => decide (x.1.key = key)
def offL (key : ByteArray) (L : List PD) : List PD := L.filter fun x => !decide (x.1.key = key)
def okPair (x y : Pc) : Bool := !(decide (x.at_ < y.to) && decide (y.at_ < x.to) && !decide (x.data = e0s) && !decide (y.data = e0s)) && (x.more || y.more) && !(!x.more && decide (y.to > x.to)) && !(!y.more && decide (x.to > y.to))
def Oks (l : List Pc) : Prop := l.Pairwise fun y x => okPair x y = true
instance (l : List Pc) : Decidable (Oks l) := by unfold Oks; exact inferInstance
def fitD (l : List Pc) : Bool := decide (Oks l)

theorem emp_iff {x : ByteArray} : x = e0s ↔ x.size = 0 := by
  constructor
  · intro h; rw [h]; rfl
  · intro h
    refine ByteArray.ext (Array.ext' ?_)
    have : x.data.toList.length = 0 := h
    rw [List.eq_nil_of_length_eq_zero this]; rfl
theorem ok_iff {x y : Pc} : okPair x y = true ↔ ¬ (x.at_ < y.to ∧ y.at_ < x.to ∧ x.data.size ≠ 0 ∧ y.data.size ≠ 0) ∧ (x.more = true ∨ y.more = true) ∧ ¬ (x.more = false ∧ y.to > x.to) ∧ ¬ (y.more = false ∧ x.to > y.to) := by
  have e : ∀ b : ByteArray, decide (b = e0s) = decide (b.size = 0) := fun b => by rw [decide_eq_decide]; exact emp_iff
  unfold okPair
  rw [e, e]
  generalize x.more = mx
  generalize y.more = my
  by_cases h1 : x.at_ < y.to <;> by_cases h2 : y.at_ < x.to <;> by_cases h3 : x.data.size = 0 <;> by_cases h4 : y.data.size = 0 <;> by_cases h5 : y.to > x.to <;> by_cases h6 : x.to > y.to <;> cases mx <;> cases my <;>
    simp [h1, h2, h3, h4, h5, h6]
theorem ok_symm {x y : Pc} (h : okPair x y = true) : okPair y x = true := by
  rw [ok_iff] at h ⊢
  obtain ⟨h1, h2, h3, h4⟩ := h
  exact ⟨fun e => h1 ⟨e.2.1, e.1, e.2.2.2, e.2.2.1⟩, h2.symm, h4, h3⟩
theorem pair_mem {l : List Pc} (h : Oks l) {x y : Pc} (hx : x ∈ l) (hy : y ∈ l) : x = y ∨ okPair x y = true := by
  unfold Oks at h
  induction l with
  | nil => cases hx
  | cons a l ih =>
    rw [List.pairwise_cons] at h
    rcases List.mem_cons.1 hx with e1 | hx'
    · rcases List.mem_cons.1 hy with e2 | hy'
      · exact .inl (e1.trans e2.symm)
      · rw [e1]; exact .inr (ok_symm (h.1 y hy'))
    · rcases List.mem_cons.1 hy with e2 | hy'
      · rw [e2]; exact .inr (h.1 x hx')
      · exact ih h.2 hx' hy' 
theorem Oks.perm {l l' : List Pc} (h : Oks l) (hp : l'.Perm l) : Oks l' := by
  unfold Oks at *
  exact (List.Perm.pairwise_iff (fun h => ok_symm h) hp).2 h

/-- The end that is known. -/
def FinOk (fin : Int) (l : List Pc) : Prop := (fin = -1 ∧ ∀ x ∈ l, x.more = true) ∨ (0 ≤ fin ∧ (∃ z ∈ l, z.more = false) ∧ ∀ x ∈ l, x.to ≤ fin ∧ (x.more = false → x.to = fin))
theorem FinOk.perm {fin : Int} {l l' : List Pc} (h : FinOk fin l) (hp : l'.Perm l) : FinOk fin l' := by
  rcases h with ⟨h1, h2⟩ | ⟨h1, ⟨z, hz, hzm⟩, h3⟩
  · exact .inl ⟨h1, fun x hx => h2 x (hp.mem_iff.1 hx)⟩
  · exact .inr ⟨h1, ⟨z, hp.mem_iff.2 hz, hzm⟩, fun x hx => h3 x (hp.mem_iff.1 hx)⟩

theorem right_to {p : Pc} (h : rightP p = true) : p.toW = p.to ∧ 0 ≤ p.at_ ∧ p.to = p.at_ + p.data.size ∧ (p.more = true → 0 < p.data.size) := by
  obtain ⟨h1, h2, h3, h4, h5⟩ := rightP_iff.1 h
  exact ⟨Pc.toW_eq h1 (by omega) (by omega), h1, rfl, fun hm => (h5 hm).1⟩

theorem clash_iff {p q : Pc} : clash p q = true ↔ (p.at_ < q.toW ∧ q.at_ < p.toW) ∨ (p.more = false ∧ q.toW > p.toW) := by
  unfold clash; simp

theorem fits_iff {fin : Int} {l : List Pc} {p : Pc} (hl : ∀ x ∈ l, rightP x = true) (hp : rightP p = true) (hf : FinOk fin l) : fitsQ fin l p = true ↔ ∀ y ∈ l, okPair p y = true := by
  obtain ⟨p1, p2, p3, p4⟩ := right_to hp
  have hfq : fitsQ fin l p = true ↔ ¬ (fin ≥ 0 ∧ (p.more = false ∨ p.toW > fin)) ∧ ∀ y ∈ l, clash p y = false := by
    unfold fitsQ
    simp only [Bool.and_eq_true, Bool.not_eq_true', Bool.and_eq_false_iff, decide_eq_false_iff_not, Bool.or_eq_false_iff, Bool.not_eq_false', List.any_eq_false, Bool.not_eq_true]
    cases p.more <;> simp <;> omega
  rw [hfq]
  constructor
  · rintro ⟨h1, h2⟩ y hy
    obtain ⟨y1, y2, y3, y4⟩ := right_to (hl y hy)
    have hc : ¬ clash p y = true := by rw [h2 y hy]; simp
    rw [clash_iff, p1, y1] at hc
    rw [p1] at h1
    rw [ok_iff]
    have hfin : y.more = false → 0 ≤ fin ∧ y.to = fin := fun hm => by
      rcases hf with ⟨_, g⟩ | ⟨g0, _, g⟩
      · rw [g y hy] at hm; cases hm
      · exact ⟨g0, (g y hy).2 hm⟩
    refine ⟨fun e => hc (.inl ⟨e.1, e.2.1⟩), ?_, fun e => hc (.inr e), fun e => ?_⟩
    · cases hm : y.more
      · have := hfin hm
        cases hpm : p.more
        · exact absurd ⟨this.1, .inl hpm⟩ h1
        · exact .inl rfl
      · exact .inr rfl
    · have := hfin e.1
      exact h1 ⟨this.1, .inr (by omega)⟩
  · intro h
    refine ⟨fun ⟨hf0, hx⟩ => ?_, fun y hy => ?_⟩
    · rcases hf with ⟨g, _⟩ | ⟨_, ⟨z, hz, hzm⟩, g⟩
      · omega
      · have := ok_iff.1 (h z hz)
        have hzf := (g z hz).2 hzm
        rcases this.2.1 with hm | hm
        · rcases hx with hx | hx
          · rw [hm] at hx; cases hx
          · rw [p1] at hx; exact this.2.2.2 ⟨hzm, by omega⟩
        · rw [hzm] at hm; cases hm
    · obtain ⟨y1, y2, y3, y4⟩ := right_to (hl y hy)
      obtain ⟨a1, a2, a3, a4⟩ := ok_iff.1 (h y hy)
      cases hc : clash p y with
      | false => rfl
      | true =>
        rw [clash_iff, p1, y1] at hc
        exfalso
        rcases hc with ⟨c1, c2⟩ | hc
        · by_cases hz : p.data.size = 0
          · have hpm : p.more = false := by
              cases hm : p.more
              · rfl
              · have := p4 hm; omega
            exact a3 ⟨hpm, by omega⟩
          · by_cases hz2 : y.data.size = 0
            · have hym : y.more = false := by
                cases hm : y.more
                · rfl
                · have := y4 hm; omega
              exact a4 ⟨hym, by omega⟩
            · exact a1 ⟨c1, c2, hz, hz2⟩
        · exact a3 hc

/-! The data that are joined. -/
def lastD (l : List Pc) : Int := l.foldl (fun a x => if x.more then a else x.to) (-1)
def scanD (a : Int) : List Pc → ByteArray → ByteArray
  | [], d => d
  | x :: l, d => scanD a l (if x.at_ = a ∧ x.data ≠ e0s ∧ (d.size : Int) = a then d ++ x.data else d)
def loopD (l : List Pc) (last : Int) : Nat → ByteArray → Option ByteArray
  | 0, d => if (d.size : Int) < last then none else some d
  | k + 1, d => if (d.size : Int) < last then (if (scanD d.size l d).size = d.size then none else loopD l last k (scanD d.size l d)) else some d
def joinD (l : List Pc) : Option ByteArray := if lastD l < 0 then none else loopD l (lastD l) (lastD l).toNat e0s
def headD (l : List Pc) : ByteArray := l.foldl (fun h x => if x.at_ = 0 then x.head else h) e0s

theorem last_fold {fin : Int} : ∀ {l : List Pc} (a : Int), (∀ x ∈ l, x.more = false → x.to = fin) → (l.foldl (fun a x => if x.more then a else x.to) a = fin ∧ (∃ z ∈ l, z.more = false)) ∨ (l.foldl (fun a x => if x.more then a else x.to) a = a ∧ ∀ x ∈ l, x.more = true)
  | [], a, _ => .inr ⟨rfl, fun x h => by cases h⟩
  | x :: l, a, h => by
    rw [List.foldl_cons]
    cases hm : x.more
    · simp only [Bool.false_eq_true, if_false]
      have hx := h x (by simp) hm
      rcases last_fold (fin := fin) (l := l) x.to (fun y hy => h y (by simp [hy])) with ⟨h1, z, hz, hzm⟩ | ⟨h1, h2⟩
      · exact .inl ⟨h1, z, by simp [hz], hzm⟩
      · exact .inl ⟨by rw [h1, hx], x, by simp, hm⟩
    · simp only [if_true]
      rcases last_fold (fin := fin) (l := l) a (fun y hy => h y (by simp [hy])) with ⟨h1, z, hz, hzm⟩ | ⟨h1, h2⟩
      · exact .inl ⟨h1, z, by simp [hz], hzm⟩
      · refine .inr ⟨h1, fun y hy => ?_⟩
        rcases List.mem_cons.1 hy with rfl | hy
        · exact hm
        · exact h2 y hy
theorem last_eq {fin : Int} {l : List Pc} (h : FinOk fin l) : lastD l = fin := by
  unfold lastD
  rcases h with ⟨h1, h2⟩ | ⟨h1, ⟨z, hz, hzm⟩, h3⟩
  · rcases last_fold (fin := -1) (l := l) (-1) (fun x hx hm => by rw [h2 x hx] at hm; cases hm) with ⟨e, _⟩ | ⟨e, _⟩
    · rw [e, h1]
    · rw [e, h1]
  · rcases last_fold (fin := fin) (l := l) (-1) (fun x hx hm => (h3 x hx).2 hm) with ⟨e, _⟩ | ⟨_, e⟩
    · exact e
    · rw [e z hz] at hzm; cases hzm

theorem scan_skip {a : Int} : ∀ {l : List Pc} {d : ByteArray}, (d.size : Int) ≠ a → scanD a l d = d
  | [], d, _ => rfl
  | x :: l, d, h => by
    rw [scanD, if_neg (fun e => h e.2.2)]; exact scan_skip h
theorem scan_none {a : Int} : ∀ {l : List Pc} {d : ByteArray}, (∀ x ∈ l, ¬ (x.at_ = a ∧ x.data ≠ e0s)) → scanD a l d = d
  | [], d, _ => rfl
  | x :: l, d, h => by
    rw [scanD, if_neg (fun e => h x (by simp) ⟨e.1, e.2.1⟩)]; exact scan_none fun y hy => h y (by simp [hy])
theorem scan_some {a : Int} {x : Pc} : ∀ {l : List Pc} {d : ByteArray}, (d.size : Int) = a → x ∈ l → x.at_ = a → x.data ≠ e0s → (∀ y ∈ l, y.at_ = a → y.data ≠ e0s → y = x) → scanD a l d = d ++ x.data
  | [], d, _, h, _, _, _ => by cases h
  | z :: l, d, hd, hx, ha, he, hu => by
    rw [scanD]
    by_cases hz : z.at_ = a ∧ z.data ≠ e0s ∧ (d.size : Int) = a
    · rw [if_pos hz]
      have := hu z (by simp) hz.1 hz.2.1
      subst this
      rw [scan_skip]
      rw [ByteArray.size_append]
      have : z.data.size ≠ 0 := fun e => he (emp_iff.2 e)
      omega
    · rw [if_neg hz]
      have hxl : x ∈ l := by
        rcases List.mem_cons.1 hx with e | h
        · subst e; exact absurd ⟨ha, he, hd⟩ hz
        · exact h
      exact scan_some hd hxl ha he fun y hy => hu y (by simp [hy])

theorem join_go {fin : Int} {l : List Pc} (hr : ∀ x ∈ l, rightP x = true) (hok : Oks l) (hf : FinOk fin l) (hf0 : 0 ≤ fin) : ∀ (s pre : List Pc) (d : ByteArray) (k : Nat), (pre ++ s).Perm l → s.Pairwise (fun x y => ltC cfP y x = false) →
    (∀ x ∈ pre, x.to ≤ d.size) → (∀ x ∈ s, (d.size : Int) ≤ x.at_) → (d.size : Int) ≤ fin → fin - d.size ≤ k →
    ((joinG s d).bind fun w => if (w.size : Int) = fin then some w else none) = loopD l fin k d := by
  have hfl : ∀ x ∈ l, x.to ≤ fin ∧ (x.more = false → x.to = fin) := by
    rcases hf with ⟨e, _⟩ | ⟨_, _, h⟩
    · omega
    · exact h
  have loop_end : ∀ k (d : ByteArray), ¬ (d.size : Int) < fin → loopD l fin k d = some d := fun k d h => by cases k <;> simp only [loopD, h, if_false]
  have loop_no : ∀ k (d : ByteArray), (d.size : Int) < fin → (∀ x ∈ l, ¬ (x.at_ = d.size ∧ x.data ≠ e0s)) → loopD l fin k d = none := fun k d h h2 => by
    cases k
    · simp only [loopD, h, if_true]
    · simp only [loopD, h, if_true, scan_none h2]
  intro s
  induction s with
  | nil =>
    intro pre d k hp _ hpre _ hd hk
    rw [List.append_nil] at hp
    simp only [joinG, Option.bind_some]
    by_cases he : (d.size : Int) = fin
    · rw [if_pos he, loop_end _ _ (by omega)]
    · rw [if_neg he, loop_no _ _ (by omega)]
      intro x hx ⟨h1, h2⟩
      have := hpre x (hp.mem_iff.2 hx)
      have h3 : x.data.size ≠ 0 := fun e => h2 (emp_iff.2 e)
      have h4 : x.to = x.at_ + x.data.size := rfl
      omega
  | cons x s ih =>
    intro pre d k hp hs hpre hsuf hd hk
    rw [List.pairwise_cons] at hs
    have hxl : x ∈ l := hp.mem_iff.1 (by simp)
    have hsl : ∀ z ∈ s, z ∈ l := fun z hz => hp.mem_iff.1 (by simp [hz])
    have hpl : ∀ z ∈ pre, z ∈ l := fun z hz => hp.mem_iff.1 (by simp [hz])
    have hxto : x.to = x.at_ + x.data.size := rfl
    have hxd := hsuf x (by simp)
    have hp2 : ((pre ++ [x]) ++ s).Perm l := by rw [List.append_assoc]; exact hp
    have hafter : ∀ z ∈ s, x.at_ ≤ z.at_ := fun z hz => by
      have := cfP_ltf.1 (hs.1 z hz)
      omega
    have hokl : Oks (pre ++ x :: s) := hok.perm hp
    have hoks : ∀ z ∈ s, okPair x z = true := fun z hz => by
      have := (List.pairwise_append.1 hokl).2.1
      rw [List.pairwise_cons] at this
      exact ok_symm (this.1 z hz)
    rw [joinG]
    by_cases ha : x.at_ = d.size
    · rw [if_pos ha]
      by_cases he : x.data = e0s
      · -- the empty one at the end
        have hz : x.data.size = 0 := emp_iff.1 he
        have hm : x.more = false := by
          cases hm : x.more
          · rfl
          · have := (right_to (hr x hxl)).2.2.2 hm; omega
        have happ : d ++ x.data = d := by rw [he]; exact ByteArray.append_empty
        rw [happ]
        refine ih (pre ++ [x]) d k hp2 hs.2 (fun z hz' => ?_) (fun z hz' => hsuf z (by simp [hz'])) hd hk
        rcases List.mem_append.1 hz' with h | h
        · exact hpre z h
        · rw [List.mem_singleton.1 h]; omega
      · have hz : x.data.size ≠ 0 := fun e => he (emp_iff.2 e)
        have hto := (hfl x hxl).1
        have hlt : (d.size : Int) < fin := by omega
        have hsc : scanD d.size l d = d ++ x.data := scan_some rfl hxl ha he fun y hy hya hye => by
          rcases pair_mem hok hy hxl with e | e
          · exact e
          · exfalso
            have hyz : y.data.size ≠ 0 := fun e => hye (emp_iff.2 e)
            have hyto : y.to = y.at_ + y.data.size := rfl
            exact (ok_iff.1 e).1 ⟨by omega, by omega, hyz, hz⟩
        have hsz : (d ++ x.data).size = d.size + x.data.size := ByteArray.size_append
        obtain ⟨k', rfl⟩ : ∃ k', k = k' + 1 := ⟨k - 1, by omega⟩
        rw [loopD, if_pos hlt, hsc, if_neg (by omega)]
        refine ih (pre ++ [x]) (d ++ x.data) k' hp2 hs.2 (fun z hz' => ?_) (fun z hz' => ?_) (by omega) (by omega)
        · rcases List.mem_append.1 hz' with h | h
          · have := hpre z h; omega
          · rw [List.mem_singleton.1 h]; omega
        · have h1 := hafter z hz'
          obtain ⟨a1, a2, a3, a4⟩ := ok_iff.1 (hoks z hz')
          have hzto : z.to = z.at_ + z.data.size := rfl
          by_cases hze : z.data.size = 0
          · have hzm : z.more = false := by
              cases hm : z.more
              · rfl
              · have := (right_to (hr z (hsl z hz'))).2.2.2 hm; omega
            have : ¬ x.to > z.to := fun e => a4 ⟨hzm, e⟩
            omega
          · have : ¬ (x.at_ < z.to ∧ z.at_ < x.to) := fun e => a1 ⟨e.1, e.2, hz, hze⟩
            omega
    · rw [if_neg ha]
      have hto := (hfl x hxl).1
      rw [Option.bind_none, loop_no k d (by omega)]
      intro y hy ⟨h1, h2⟩
      have hyz : y.data.size ≠ 0 := fun e => h2 (emp_iff.2 e)
      have hyto : y.to = y.at_ + y.data.size := rfl
      rcases List.mem_append.1 (hp.mem_iff.2 hy) with h | h
      · have := hpre y h; omega
      · rcases List.mem_cons.1 h with rfl | h
        · exact ha h1
        · have := hafter y h; omega

theorem join_eq {fin : Int} {l l' : List Pc} (hr : ∀ x ∈ l, rightP x = true) (hok : Oks l) (hf : FinOk fin l) (hf0 : 0 ≤ fin) (hp : l'.Perm l) (hs : l'.Pairwise (fun x y => ltC cfP y x = false)) : wholeQ fin l' = joinD l := by
  unfold joinD
  rw [last_eq hf, if_neg (by omega)]
  have := join_go hr hok hf hf0 l' [] e0s fin.toNat (by simpa using hp) hs (fun x h => by cases h) (fun x hx => by
    have := (right_to (hr x (hp.mem_iff.1 hx))).2.1
    show ((0 : Nat) : Int) ≤ x.at_
    omega) (by show ((0 : Nat) : Int) ≤ fin; omega) (by show fin - ((0 : Nat) : Int) ≤ fin.toNat; omega)
  rw [← this]; rfl

theorem join_more {fin : Int} {l : List Pc} (hf : FinOk fin l) (h : fin < 0) : joinD l = none := by
  unfold joinD; rw [last_eq hf, if_pos h]

/-! The head. -/
theorem headQ_none : ∀ {l : List Pc}, (∀ x ∈ l, x.at_ ≠ 0) → headQ l = e0s
  | [], _ => rfl
  | x :: l, h => by rw [headQ, if_neg (h x (by simp))]; exact headQ_none fun y hy => h y (by simp [hy])
theorem headQ_some {x : Pc} : ∀ {l : List Pc}, x ∈ l → x.at_ = 0 → (∀ y ∈ l, y.at_ = 0 → y = x) → headQ l = x.head
  | [], h, _, _ => by cases h
  | z :: l, h, h0, hu => by
    rw [headQ]
    by_cases hz : z.at_ = 0
    · rw [if_pos hz, hu z (by simp) hz]
    · rw [if_neg hz]
      rcases List.mem_cons.1 h with rfl | h
      · exact absurd h0 hz
      · exact headQ_some h h0 fun y hy => hu y (by simp [hy])
theorem headD_none {h0 : ByteArray} : ∀ {l : List Pc}, (∀ x ∈ l, x.at_ ≠ 0) → l.foldl (fun h x => if x.at_ = 0 then x.head else h) h0 = h0
  | [], _ => rfl
  | x :: l, h => by rw [List.foldl_cons, if_neg (h x (by simp))]; exact headD_none fun y hy => h y (by simp [hy])
theorem headD_some {x : Pc} : ∀ {l : List Pc} {h0 : ByteArray}, (x ∈ l ∨ h0 = x.head) → x.at_ = 0 → (∀ y ∈ l, y.at_ = 0 → y = x) → l.foldl (fun h x => if x.at_ = 0 then x.head else h) h0 = x.head
  | [], h0, h, _, _ => by rcases h with h | h; cases h; exact h
  | z :: l, h0, h, hx0, hu => by
    rw [List.foldl_cons]
    refine headD_some ?_ hx0 fun y hy => hu y (by simp [hy])
    by_cases hz : z.at_ = 0
    · rw [if_pos hz, hu z (by simp) hz]; exact .inr rfl
    · rw [if_neg hz]
      rcases h with h | h
      · rcases List.mem_cons.1 h with rfl | h
        · exact absurd hx0 hz
        · exact .inl h
      · exact .inr h
theorem at0_one {l : List Pc} (hr : ∀ x ∈ l, rightP x = true) (hok : Oks l) {x y : Pc} (hx : x ∈ l) (hy : y ∈ l) (hx0 : x.at_ = 0) (hy0 : y.at_ = 0) : y = x := by
  rcases pair_mem hok hy hx with e | e
  · exact e
  · exfalso
    obtain ⟨a1, a2, a3, a4⟩ := ok_iff.1 e
    have e1 : x.to = x.at_ + x.data.size := rfl
    have e2 : y.to = y.at_ + y.data.size := rfl
    have m1 : x.data.size = 0 → x.more = false := fun h => by
      cases hm : x.more
      · rfl
      · have := (right_to (hr x hx)).2.2.2 hm; omega
    have m2 : y.data.size = 0 → y.more = false := fun h => by
      cases hm : y.more
      · rfl
      · have := (right_to (hr y hy)).2.2.2 hm; omega
    by_cases h1 : x.data.size = 0
    · by_cases h2 : y.data.size = 0
      · rcases a2 with h | h
        · rw [m2 h2] at h; cases h
        · rw [m1 h1] at h; cases h
      · exact a4 ⟨m1 h1, by omega⟩
    · by_cases h2 : y.data.size = 0
      · exact a3 ⟨m2 h2, by omega⟩
      · exact a1 ⟨by omega, by omega, h2, h1⟩
theorem head_eq {l l' : List Pc} (hr : ∀ x ∈ l, rightP x = true) (hok : Oks l) (hp : l'.Perm l) : headQ l' = headD l := by
  by_cases h : ∃ x ∈ l, x.at_ = 0
  · obtain ⟨x, hx, hx0⟩ := h
    have hu : ∀ y ∈ l, y.at_ = 0 → y = x := fun y hy hy0 => at0_one hr hok hx hy hx0 hy0
    unfold headD
    rw [headD_some (.inl hx) hx0 hu]
    exact headQ_some (hp.mem_iff.2 hx) hx0 fun y hy => hu y (hp.mem_iff.1 hy)
  · have hn : ∀ x ∈ l, x.at_ ≠ 0 := fun x hx e => h ⟨x, hx, e⟩
    unfold headD
    rw [headD_none hn]
    exact headQ_none fun x hx => hn x (hp.mem_iff.1 hx)
end Go.Proofs

set_option linter.unusedVariables false
set_option maxRecDepth 20000
namespace Go.Proofs
open Go Go.HL

/-- The keys in the order in which they came. -/
def keysD (L : List PD) : List ByteArray := L.foldl (fun out x => if x.1.key ∈ out then out else out ++ [x.1.key]) []
theorem keysD_snoc (L : List PD) (x : PD) : keysD (L ++ [x]) = if x.1.key ∈ keysD L then keysD L else keysD L ++ [x.1.key] := by
  unfold keysD; rw [List.foldl_append]; rfl
theorem snoc_ind {α : Type} {P : List α → Prop} (h0 : P []) (h1 : ∀ l x, P l → P (l ++ [x])) : ∀ l, P l := by
  intro l
  have : ∀ r : List α, P r.reverse := fun r => by
    induction r with
    | nil => exact h0
    | cons a r ih => rw [List.reverse_cons]; exact h1 _ _ ih
  have := this l.reverse
  rwa [List.reverse_reverse] at this
theorem mem_keysD {k : ByteArray} : ∀ {L : List PD}, k ∈ keysD L ↔ ∃ x ∈ L, x.1.key = k := by
  intro L
  induction L using snoc_ind with
  | h0 => simp [keysD]
  | h1 l x ih =>
    rw [keysD_snoc]
    by_cases h : x.1.key ∈ keysD l
    · rw [if_pos h]
      constructor
      · intro hk
        obtain ⟨y, hy, e⟩ := ih.1 hk
        exact ⟨y, by simp [hy], e⟩
      · rintro ⟨y, hy, e⟩
        rcases List.mem_append.1 hy with hy | hy
        · exact ih.2 ⟨y, hy, e⟩
        · rw [List.mem_singleton.1 hy] at e; rw [← e]; exact h
    · rw [if_neg h, List.mem_append, List.mem_singleton, ih]
      constructor
      · rintro (⟨y, hy, e⟩ | e)
        · exact ⟨y, by simp [hy], e⟩
        · exact ⟨x, by simp, e.symm⟩
      · rintro ⟨y, hy, e⟩
        rcases List.mem_append.1 hy with hy | hy
        · exact .inl ⟨y, hy, e⟩
        · rw [List.mem_singleton.1 hy] at e; exact .inr e.symm
theorem keysD_off {k : ByteArray} : ∀ L : List PD, keysD (offL k L) = (keysD L).filter fun x => !decide (x = k) := by
  intro L
  induction L using snoc_ind with
  | h0 => rfl
  | h1 l x ih =>
    have e : offL k (l ++ [x]) = offL k l ++ if x.1.key = k then [] else [x] := by
      unfold offL; rw [List.filter_append]
      by_cases h : x.1.key = k <;> simp [h]
    rw [e, keysD_snoc]
    by_cases h : x.1.key = k
    · rw [if_pos h, List.append_nil, ih]
      split
      · rfl
      · rw [List.filter_append]; simp [h]
    · rw [if_neg h, keysD_snoc, ih]
      by_cases hm : x.1.key ∈ keysD l
      · rw [if_pos hm, if_pos (List.mem_filter.2 ⟨hm, by simpa using h⟩)]
      · rw [if_neg hm, if_neg (fun h' => hm (List.mem_filter.1 h').1), List.filter_append]; simp [h]
theorem nodup_keysD : ∀ L : List PD, (keysD L).Nodup := by
  intro L
  induction L using snoc_ind with
  | h0 => exact .nil
  | h1 l x ih =>
    rw [keysD_snoc]
    split
    · exact ih
    · rename_i h
      refine List.nodup_append.2 ⟨ih, by simp, ?_⟩
      intro a ha b hb
      rw [List.mem_singleton.1 hb]
      exact fun e => h (e ▸ ha)

theorem of_snoc {k : ByteArray} {L : List PD} {x : PD} : ofL k (L ++ [x]) = ofL k L ++ if x.1.key = k then [x] else [] := by
  unfold ofL; rw [List.filter_append]
  by_cases h : x.1.key = k <;> simp [h]
theorem of_off {k k' : ByteArray} {L : List PD} (h : k' ≠ k) : ofL k' (offL k L) = ofL k' L := by
  unfold ofL offL
  rw [List.filter_filter]
  refine List.filter_congr fun x _ => ?_
  by_cases e : x.1.key = k'
  · rw [e]; simp [h]
  · simp [e]
theorem of_off_perm {k : ByteArray} {L : List PD} : (ofL k L ++ offL k L).Perm L := by
  unfold ofL offL
  exact List.filter_append_perm _ L

/-- A store and the document's list. -/
structure Rel (S : Stt) (L : List PD) : Prop where
  inv : Inv S
  perm : ∀ x ∈ S.D, x.2.l.Perm ((ofL x.1 L).map (·.1))
  mem : ∀ y ∈ L, ∃ x ∈ S.D, x.1 = y.1.key
  due : ∀ x ∈ S.D, ∀ y ∈ ofL x.1 L, y.2 = x.2.due
  oks : ∀ x ∈ S.D, Oks x.2.l
  fin : ∀ x ∈ S.D, FinOk x.2.fin x.2.l
  all : (allP S.D).Perm (L.map (·.1))
  ord : (keysD L).Pairwise fun a b => ∀ x ∈ S.D, ∀ y ∈ S.D, x.1 = a → y.1 = b → x.2.id < y.2.id
  last : ∀ x ∈ S.D, x.2.id ≤ S.last

section
variable {S : Stt} {L : List PD} {p : Pc} {due : Int} {key : ByteArray} {d : Dg}

theorem Rel.keys (h : Rel S L) {k : ByteArray} : k ∈ keysD L ↔ ∃ x ∈ S.D, x.1 = k := by
  rw [mem_keysD]
  constructor
  · rintro ⟨y, hy, rfl⟩; exact h.mem y hy
  · rintro ⟨x, hx, rfl⟩
    have hne := h.inv.ne x hx
    have hp := h.perm x hx
    have : (ofL x.1 L) ≠ [] := fun e => by rw [e] at hp; exact hne (List.perm_nil.1 hp)
    obtain ⟨y, hy⟩ := List.exists_mem_of_ne_nil _ this
    unfold ofL at hy
    obtain ⟨h1, h2⟩ := List.mem_filter.1 hy
    exact ⟨y, h1, by simpa using h2⟩
theorem Rel.none (h : Rel S L) (hg : getL key S.D = none) : ofL key L = [] := by
  refine List.eq_nil_iff_forall_not_mem.2 fun y hy => ?_
  unfold ofL at hy
  obtain ⟨h1, h2⟩ := List.mem_filter.1 hy
  obtain ⟨x, hx, e⟩ := h.mem y h1
  have : y.1.key = key := by simpa using h2
  exact getL_none.1 hg (List.mem_map.2 ⟨x, hx, e.trans this⟩)
theorem Rel.empty {max source : Int} (h1 : 1 ≤ max) (h2 : max ≤ 65536) (h3 : 1 ≤ source) : Rel ⟨max, source, 0, 0, [], []⟩ [] :=
  ⟨.empty h1 h2 h3, fun _ h => (by cases h), fun _ h => (by cases h), fun _ h => (by cases h), fun _ h => (by cases h), fun _ h => (by cases h), .refl _, .nil, fun _ h => (by cases h)⟩

theorem Rel.cut (h : Rel S L) (hg : getL key S.D = some d) : Rel (cutS S key d) (offL key L) := by
  have hm : ∀ {x}, x ∈ delL key S.D → x ∈ S.D ∧ x.1 ≠ key := fun hx => mem_del h.inv.keys hx
  have hd := getL_some_mem hg
  refine ⟨h.inv.cut hg, fun x hx => ?_, fun y hy => ?_, fun x hx => ?_, fun x hx => h.oks x (hm hx).1, fun x hx => h.fin x (hm hx).1, ?_, ?_, fun x hx => h.last x (hm hx).1⟩
  · rw [of_off (hm hx).2]; exact h.perm x (hm hx).1
  · unfold offL at hy
    obtain ⟨h1, h2⟩ := List.mem_filter.1 hy
    have hne : y.1.key ≠ key := by simpa using h2
    obtain ⟨x, hx, e⟩ := h.mem y h1
    refine ⟨x, ?_, e⟩
    have : getL x.1 (delL key S.D) = some x.2 := by rw [getL_del h.inv.keys, if_neg (by rw [e]; exact hne)]; exact getL_of_mem h.inv.keys hx
    exact getL_some_mem this
  · rw [of_off (hm hx).2]; exact h.due x (hm hx).1
  · have h1 := all_del hg
    have h2 : (L.map (·.1)).Perm ((ofL key L).map (·.1) ++ (offL key L).map (·.1)) := by rw [← List.map_append]; exact (of_off_perm.symm).map _
    have h3 := (h1.symm.trans h.all).trans h2
    have h4 : (d.l ++ (offL key L).map (·.1)).Perm ((ofL key L).map (·.1) ++ (offL key L).map (·.1)) := (h.perm _ hd).append_right _
    exact (List.perm_append_left_iff _).1 (h3.trans h4.symm)
  · rw [keysD_off]
    exact (h.ord.filter _).imp fun {a b} hab x hx y hy => hab x (hm hx).1 y (hm hy).1

theorem Rel.order (h : Rel S L) (hg : getL key S.D = some d) {l' : List Pc} (hp : l'.Perm d.l) : Rel (setS S key { d with l := l' }) L := by
  have hd := getL_some_mem hg
  have hm : ∀ {x}, x ∈ putL key { d with l := l' } S.D → ∃ y ∈ S.D, y.1 = x.1 ∧ y.2.id = x.2.id ∧ y.2.due = x.2.due ∧ y.2.fin = x.2.fin ∧ x.2.l.Perm y.2.l := fun hx => by
    rcases mem_put' h.inv.keys hx with rfl | ⟨hx, _⟩
    · exact ⟨_, hd, rfl, rfl, rfl, rfl, hp⟩
    · exact ⟨_, hx, rfl, rfl, rfl, rfl, .refl _⟩
  refine ⟨h.inv.order hg hp, fun x hx => ?_, fun y hy => ?_, fun x hx => ?_, fun x hx => ?_, fun x hx => ?_, ?_, ?_, fun x hx => ?_⟩
  · obtain ⟨y, hy, e1, _, _, _, e5⟩ := hm hx
    rw [← e1]; exact e5.trans (h.perm y hy)
  · obtain ⟨x, hx, e⟩ := h.mem y hy
    by_cases hk : x.1 = key
    · exact ⟨(key, { d with l := l' }), getL_some_mem get_set, by rw [← hk]; exact e⟩
    · refine ⟨x, ?_, e⟩
      have : getL x.1 (putL key { d with l := l' } S.D) = some x.2 := by rw [getL_put, if_neg hk]; exact getL_of_mem h.inv.keys hx
      exact getL_some_mem this
  · obtain ⟨y, hy, e1, _, e3, _, _⟩ := hm hx
    rw [← e1, ← e3]; exact h.due y hy
  · obtain ⟨y, hy, _, _, _, _, e5⟩ := hm hx
    exact (h.oks y hy).perm e5
  · obtain ⟨y, hy, _, _, _, e4, e5⟩ := hm hx
    rw [← e4]; exact (h.fin y hy).perm e5
  · exact ((all_put hg).trans ((hp.append_right _).trans (all_del hg).symm)).trans h.all
  · refine h.ord.imp fun {a b} hab x hx y hy ea eb => ?_
    obtain ⟨x', hx', e1, e2, _⟩ := hm hx
    obtain ⟨y', hy', f1, f2, _⟩ := hm hy
    have := hab x' hx' y' hy' (e1.trans ea) (f1.trans eb)
    omega
  · obtain ⟨y, hy, _, e2, _⟩ := hm hx
    rw [← e2]; exact h.last y hy

def dueD (key : ByteArray) (L : List PD) (due : Int) : Int := match ofL key L with
  | [] => due
  | y :: _ => y.2

theorem fin_new (hr : rightP p = true) : FinOk (if p.more then -1 else p.toW) [p] := by
  obtain ⟨p1, p2, p3, p4⟩ := right_to hr
  cases hm : p.more
  · simp only [Bool.false_eq_true, if_false, p1]
    refine .inr ⟨by omega, ⟨p, by simp, hm⟩, fun x hx => ?_⟩
    rw [List.mem_singleton.1 hx]; exact ⟨Int.le_refl _, fun _ => rfl⟩
  · exact .inl ⟨rfl, fun x hx => by rw [List.mem_singleton.1 hx]; exact hm⟩
theorem fin_add {l : List Pc} {fin : Int} (hl : ∀ x ∈ l, rightP x = true) (hr : rightP p = true) (hf : FinOk fin l) (hfit : ∀ y ∈ l, okPair p y = true) : FinOk (if p.more then fin else p.toW) (l ++ [p]) := by
  obtain ⟨p1, p2, p3, p4⟩ := right_to hr
  cases hm : p.more
  · simp only [Bool.false_eq_true, if_false, p1]
    have hall : ∀ x ∈ l, x.more = true ∧ x.to ≤ p.to := fun x hx => by
      obtain ⟨_, a2, a3, _⟩ := ok_iff.1 (hfit x hx)
      refine ⟨?_, ?_⟩
      · rcases a2 with h | h
        · rw [hm] at h; cases h
        · exact h
      · have : ¬ x.to > p.to := fun e => a3 ⟨hm, e⟩
        omega
    refine .inr ⟨by omega, ⟨p, by simp, hm⟩, fun x hx => ?_⟩
    rcases List.mem_append.1 hx with hx | hx
    · refine ⟨(hall x hx).2, fun h => ?_⟩
      rw [(hall x hx).1] at h; cases h
    · rw [List.mem_singleton.1 hx]; exact ⟨Int.le_refl _, fun _ => rfl⟩
  · simp only [if_true]
    rcases hf with ⟨h1, h2⟩ | ⟨h1, ⟨z, hz, hzm⟩, h3⟩
    · refine .inl ⟨h1, fun x hx => ?_⟩
      rcases List.mem_append.1 hx with hx | hx
      · exact h2 x hx
      · rw [List.mem_singleton.1 hx]; exact hm
    · refine .inr ⟨h1, ⟨z, by simp [hz], hzm⟩, fun x hx => ?_⟩
      rcases List.mem_append.1 hx with hx | hx
      · exact h3 x hx
      · rw [List.mem_singleton.1 hx]
        obtain ⟨_, _, _, a4⟩ := ok_iff.1 (hfit z hz)
        have hzf := (h3 z hz).2 hzm
        have : ¬ p.to > z.to := fun e => a4 ⟨hzm, e⟩
        exact ⟨by omega, fun h => by rw [hm] at h; cases h⟩

theorem Rel.take (h : Rel S L) (hr : rightP p = true) (hd : okDue due) (hroom : Room S p) (hm : S.n < S.max) (hs : (getL p.src S.of).getD 0 < S.source) (hlast : 0 ≤ S.last ∧ S.last ≤ 1000000000) {last' : Int} {d' : Dg} (ht : Took S p due last' d') :
    Rel (takeS S p last' d') (L ++ [(p, dueD p.key L due)]) ∧ (last' = S.last ∨ last' = S.last + 1) := by
  have w1 : IntKind.wrap .i64 (S.last + 1) = S.last + 1 := w64 (by omega) (by omega)
  -- what becomes of its datagram
  have key : d'.l.Perm ((ofL p.key L).map (·.1) ++ [p]) ∧ d'.due = dueD p.key L due ∧ (∀ y ∈ ofL p.key L, y.2 = d'.due) ∧ Oks d'.l ∧ FinOk d'.fin d'.l ∧ (last' = S.last ∨ last' = S.last + 1) ∧ d'.id ≤ last' ∧
      ((getL p.key S.D = Option.none ∧ S.last < d'.id) ∨ ∃ d, getL p.key S.D = some d ∧ d'.id = d.id) := by
    rcases ht with ⟨hg, h1, h2, h3, h4, h5⟩ | ⟨d, hg, h1, h2, h3, h4, h5⟩
    · have ho := h.none hg
      rw [ho, h1, h2, h1, h3, h4, h5, w1]
      refine ⟨.refl _, (by unfold dueD; rw [ho]), (fun y hy => (by cases hy)), ?_, fin_new hr, .inr rfl, Int.le_refl _, .inl ⟨hg, (by omega)⟩⟩
      unfold Oks; simp
    · have hdm := getL_some_mem hg
      unfold Room at hroom
      rw [hg] at hroom
      have hfit := (fits_iff (h.inv.right _ hdm) hr (h.fin _ hdm)).1 hroom.2
      have hperm := h.perm _ hdm
      have hdue : d.due = dueD p.key L due := by
        unfold dueD
        cases ho : ofL p.key L with
        | nil =>
          simp only [ho, List.map_nil] at hperm
          exact absurd (List.perm_nil.1 hperm) (h.inv.ne _ hdm)
        | cons y l => exact (h.due _ hdm y (by simp only [ho]; simp)).symm
      rw [h1, h2, h3, h4, h5]
      refine ⟨hperm.append_right _, hdue, h.due _ hdm, ?_, fin_add (h.inv.right _ hdm) hr (h.fin _ hdm) hfit, .inl rfl, h.last _ hdm, .inr ⟨d, hg, rfl⟩⟩
      have hok := h.oks _ hdm
      unfold Oks at hok ⊢
      rw [List.pairwise_append]
      refine ⟨hok, by simp, fun a ha b hb => ?_⟩
      rw [List.mem_singleton.1 hb]; exact hfit a ha
  obtain ⟨k1, k2, k3, k4, k5, k6, k7, k8⟩ := key
  refine ⟨⟨h.inv.take hr hd hm hs ht, fun x hx => ?_, fun y hy => ?_, fun x hx => ?_, fun x hx => ?_, fun x hx => ?_, ?_, ?_, fun x hx => ?_⟩, k6⟩
  · rw [of_snoc]
    rcases mem_put' h.inv.keys hx with rfl | ⟨hx, hne⟩
    · simp only [if_true, List.map_append, List.map_cons, List.map_nil]; exact k1
    · rw [if_neg (fun e => hne e.symm), List.append_nil]; exact h.perm x hx
  · rcases List.mem_append.1 hy with hy | hy
    · obtain ⟨x, hx, e⟩ := h.mem y hy
      by_cases hk : x.1 = p.key
      · exact ⟨(p.key, d'), getL_some_mem get_take, by rw [← e, hk]⟩
      · refine ⟨x, ?_, e⟩
        have : getL x.1 (putL p.key d' S.D) = some x.2 := by rw [getL_put, if_neg hk]; exact getL_of_mem h.inv.keys hx
        exact getL_some_mem this
    · rw [List.mem_singleton.1 hy]; exact ⟨(p.key, d'), getL_some_mem get_take, rfl⟩
  · rw [of_snoc]
    rcases mem_put' h.inv.keys hx with rfl | ⟨hx, hne⟩
    · simp only [if_true]
      intro y hy
      rcases List.mem_append.1 hy with hy | hy
      · exact k3 y hy
      · rw [List.mem_singleton.1 hy]; exact k2.symm
    · rw [if_neg (fun e => hne e.symm), List.append_nil]; exact h.due x hx
  · rcases mem_put' h.inv.keys hx with rfl | ⟨hx, _⟩
    · exact k4
    · exact h.oks x hx
  · rcases mem_put' h.inv.keys hx with rfl | ⟨hx, _⟩
    · exact k5
    · exact h.fin x hx
  · have hperm : (allP (putL p.key d' S.D)).Perm (allP S.D ++ [p]) := by
      rcases ht with ⟨hg, _, _, _, _, hl⟩ | ⟨d, hg, _, _, _, _, hl⟩
      · rw [all_new hg, hl]
      · refine (all_put hg).trans ?_
        rw [hl, List.append_assoc]
        refine List.Perm.trans ?_ ((all_del hg).symm.append_right [p])
        rw [List.append_assoc]
        exact (List.perm_append_comm).append_left _
    rw [List.map_append]
    exact hperm.trans (h.all.append_right _)
  · rw [keysD_snoc]
    -- whoever was there keeps its number
    have old : ∀ {x}, x ∈ putL p.key d' S.D → x.1 ∈ keysD L → ∃ x' ∈ S.D, x'.1 = x.1 ∧ x'.2.id = x.2.id := fun {x} hx hk => by
      rcases mem_put' h.inv.keys hx with rfl | ⟨hx, _⟩
      · obtain ⟨x', hx', e⟩ := h.keys.1 hk
        rcases k8 with ⟨hg, _⟩ | ⟨d, hg, e2⟩
        · exact absurd (List.mem_map.2 ⟨x', hx', e⟩) (getL_none.1 hg)
        · exact ⟨(p.key, d), getL_some_mem hg, rfl, e2.symm⟩
      · exact ⟨x, hx, rfl, rfl⟩
    have hpw : (keysD L).Pairwise fun a b => ∀ x ∈ putL p.key d' S.D, ∀ y ∈ putL p.key d' S.D, x.1 = a → y.1 = b → x.2.id < y.2.id := by
      refine h.ord.imp_of_mem fun {a b} ha hb hab x hx y hy ea eb => ?_
      obtain ⟨x', hx', e1, e2⟩ := old hx (ea ▸ ha)
      obtain ⟨y', hy', f1, f2⟩ := old hy (eb ▸ hb)
      have := hab x' hx' y' hy' (e1.trans ea) (f1.trans eb)
      omega
    split
    · exact hpw
    · rename_i hnk
      rw [List.pairwise_append]
      refine ⟨hpw, by simp, fun a ha b hb x hx y hy ea eb => ?_⟩
      rw [List.mem_singleton] at hb
      subst hb
      obtain ⟨x', hx', e1, e2⟩ := old hx (ea ▸ ha)
      have hxl := h.last x' hx'
      have hy' : y = (p.key, d') := by
        rcases mem_put' h.inv.keys hy with e | ⟨_, e⟩
        · exact e
        · exact absurd eb e
      rw [hy']
      rcases k8 with ⟨_, h1⟩ | ⟨d, hg, _⟩
      · show x.2.id < d'.id; omega
      · exact absurd (h.keys.2 ⟨_, getL_some_mem hg, rfl⟩) hnk
  · show x.2.id ≤ last'
    rcases mem_put' h.inv.keys hx with rfl | ⟨hx, _⟩
    · exact k7
    · have := h.last x hx; omega

instance okDue_dec (due : Int) : Decidable (okDue due) := inferInstanceAs (Decidable (0 ≤ due ∧ due ≤ 4611686018427387904))
/-- The document's Put. -/
def putD (max source : Int) (L : List PD) (p : Pc) (due : Int) : List Value × Bool × Int × List PD :=
  if ¬ okDue due then (zeroW, false, 1, L) else
  if rightP p = false then (zeroW, false, 8, L) else
  if ((ofL p.key L).map (·.1)).any (sameP p) = true then (zeroW, false, 0, L) else
  if fitD ((ofL p.key L).map (·.1) ++ [p]) = false then (zeroW, false, 5, offL p.key L) else
  if ofL p.key L = [] ∧ p.at_ = 0 ∧ p.more = false then (wh p.key p.head p.data 1, true, 0, L) else
  if (L.length : Int) ≥ max then (zeroW, false, 6, L) else
  if (cntP p.src (L.map (·.1)) : Int) ≥ source then (zeroW, false, 11, L) else
  match joinD ((ofL p.key (L ++ [(p, dueD p.key L due)])).map (·.1)) with
  | none => (zeroW, false, 0, L ++ [(p, dueD p.key L due)])
  | some w => (wh p.key (headD ((ofL p.key (L ++ [(p, dueD p.key L due)])).map (·.1))) w ((ofL p.key (L ++ [(p, dueD p.key L due)])).length : Nat), true, 0, offL p.key (L ++ [(p, dueD p.key L due)]))

theorem any_perm {l l' : List Pc} {f : Pc → Bool} (h : l.Perm l') : l.any f = l'.any f := by
  rw [Bool.eq_iff_iff, List.any_eq_true, List.any_eq_true]
  exact ⟨fun ⟨x, hx, e⟩ => ⟨x, h.mem_iff.1 hx, e⟩, fun ⟨x, hx, e⟩ => ⟨x, h.mem_iff.2 hx, e⟩⟩
theorem fitD_app {l : List Pc} (h : Oks l) : fitD (l ++ [p]) = true ↔ ∀ y ∈ l, okPair p y = true := by
  have e : fitD (l ++ [p]) = true ↔ Oks (l ++ [p]) := by unfold fitD; exact decide_eq_true_iff
  rw [e]
  unfold Oks at *
  rw [List.pairwise_append]
  constructor
  · exact fun ⟨_, _, h3⟩ y hy => h3 y hy p (by simp)
  · refine fun h3 => ⟨h, by simp, fun a ha b hb => ?_⟩
    rw [List.mem_singleton.1 hb]; exact h3 a ha

theorem put_rel (h : Rel S L) (hlast : 0 ≤ S.last ∧ S.last ≤ 1000000000) {w : List Value} {b : Bool} {e : Int} {S' : Stt} (hp : PutR S p due w b e S') :
    ∃ L', putD S.max S.source L p due = (w, b, e, L') ∧ Rel S' L' ∧ (S'.last = S.last ∨ S'.last = S.last + 1) ∧ S'.max = S.max ∧ S'.source = S.source := by
  have hLn : (L.length : Int) = S.n := by rw [h.inv.num, h.all.length_eq, List.length_map]
  have hcnt : (cntP p.src (L.map (·.1)) : Int) = (getL p.src S.of).getD 0 := by rw [h.inv.of, cnt_perm h.all]
  -- its datagram is there
  have there : ∀ {d}, getL p.key S.D = some d → ((ofL p.key L).map (·.1)).any (sameP p) = d.l.any (sameP p) ∧ Oks ((ofL p.key L).map (·.1)) ∧ ofL p.key L ≠ [] ∧ (∀ y, y ∈ (ofL p.key L).map (·.1) ↔ y ∈ d.l) := fun {d} hg => by
    have hd := getL_some_mem hg
    have hpm := h.perm _ hd
    refine ⟨any_perm hpm.symm, (h.oks _ hd).perm hpm.symm, fun e => ?_, fun y => hpm.symm.mem_iff⟩
    simp only [e, List.map_nil] at hpm
    exact h.inv.ne _ hd (List.perm_nil.1 hpm)
  -- there is room
  have room : Room S p → rightP p = true → ((ofL p.key L).map (·.1)).any (sameP p) = false ∧ fitD ((ofL p.key L).map (·.1) ++ [p]) = true ∧ ¬ (ofL p.key L = [] ∧ p.at_ = 0 ∧ p.more = false) := fun hr hri => by
    unfold Room at hr
    cases hg : getL p.key S.D with
    | none =>
      rw [hg] at hr
      have ho := h.none hg
      rw [ho]
      refine ⟨rfl, ?_, fun e => hr e.2⟩
      unfold fitD Oks; simp
    | some d =>
      rw [hg] at hr
      obtain ⟨t1, t2, t3, t4⟩ := there hg
      have hd := getL_some_mem hg
      refine ⟨t1.trans hr.1, (fitD_app t2).2 fun y hy => ?_, fun e => t3 e.1⟩
      exact (fits_iff (h.inv.right _ hd) hri (h.fin _ hd)).1 hr.2 y ((t4 y).1 hy)
  cases hp with
  | arg h1 => exact ⟨L, by unfold putD; rw [if_pos h1], h, .inl rfl, rfl, rfl⟩
  | form h1 h2 => exact ⟨L, by unfold putD; rw [if_neg (not_not_intro h1), if_pos h2], h, .inl rfl, rfl, rfl⟩
  | again d h1 h2 hg h3 =>
    exact ⟨L, by unfold putD; rw [if_neg (not_not_intro h1), if_neg (by rw [h2]; simp), if_pos ((there hg).1.trans h3)], h, .inl rfl, rfl, rfl⟩
  | clash d h1 h2 hg h3 h4 =>
    obtain ⟨t1, t2, t3, t4⟩ := there hg
    have hd := getL_some_mem hg
    have hf : fitD ((ofL p.key L).map (·.1) ++ [p]) = false := by
      cases hf : fitD ((ofL p.key L).map (·.1) ++ [p])
      · rfl
      · have := (fits_iff (h.inv.right _ hd) h2 (h.fin _ hd)).2 fun y hy => (fitD_app t2).1 hf y ((t4 y).2 hy)
        rw [this] at h4; cases h4
    exact ⟨offL p.key L, by unfold putD; rw [if_neg (not_not_intro h1), if_neg (by rw [h2]; simp), if_neg (by rw [t1, h3]; simp), if_pos hf], h.cut hg, .inl rfl, rfl, rfl⟩
  | alone h1 h2 hg h3 h4 =>
    have ho := h.none hg
    refine ⟨L, ?_, h, .inl rfl, rfl, rfl⟩
    unfold putD
    rw [if_neg (not_not_intro h1), if_neg (by rw [h2]; simp), ho, if_neg (by simp), if_neg (by unfold fitD Oks; simp), if_pos ⟨rfl, h3, h4⟩]
  | full h1 h2 hr h3 =>
    obtain ⟨r1, r2, r3⟩ := room hr h2
    refine ⟨L, ?_, h, .inl rfl, rfl, rfl⟩
    unfold putD
    rw [if_neg (not_not_intro h1), if_neg (by rw [h2]; simp), if_neg (by rw [r1]; simp), if_neg (by rw [r2]; simp), if_neg r3, if_pos (by omega)]
  | state h1 h2 hr h3 h4 =>
    obtain ⟨r1, r2, r3⟩ := room hr h2
    refine ⟨L, ?_, h, .inl rfl, rfl, rfl⟩
    unfold putD
    rw [if_neg (not_not_intro h1), if_neg (by rw [h2]; simp), if_neg (by rw [r1]; simp), if_neg (by rw [r2]; simp), if_neg r3, if_neg (by omega), if_pos (by omega)]
  | part d' last' h1 h2 hr h3 h4 ht h5 =>
    obtain ⟨r1, r2, r3⟩ := room hr h2
    obtain ⟨hR, hl⟩ := h.take h2 h1 hr h3 h4 hlast ht
    have hd' : (p.key, d') ∈ (takeS S p last' d').D := getL_some_mem get_take
    have hj : joinD ((ofL p.key (L ++ [(p, dueD p.key L due)])).map (·.1)) = Option.none := join_more ((hR.fin _ hd').perm (hR.perm _ hd').symm) h5
    refine ⟨_, ?_, hR, hl, rfl, rfl⟩
    unfold putD
    rw [if_neg (not_not_intro h1), if_neg (by rw [h2]; simp), if_neg (by rw [r1]; simp), if_neg (by rw [r2]; simp), if_neg r3, if_neg (by omega), if_neg (by omega), hj]
  | none d' last' l' h1 h2 hr h3 h4 ht h5 h6 h7 h8 =>
    obtain ⟨r1, r2, r3⟩ := room hr h2
    obtain ⟨hR, hl⟩ := h.take h2 h1 hr h3 h4 hlast ht
    have hd' : (p.key, d') ∈ (takeS S p last' d').D := getL_some_mem get_take
    have hpm := hR.perm _ hd'
    have hj : joinD ((ofL p.key (L ++ [(p, dueD p.key L due)])).map (·.1)) = Option.none := by
      rw [← join_eq (fun x hx => hR.inv.right _ hd' x (hpm.mem_iff.2 hx)) ((hR.oks _ hd').perm hpm.symm) ((hR.fin _ hd').perm hpm.symm) h5 (h6.trans hpm) h7]
      exact h8
    refine ⟨_, ?_, hR.order get_take h6, hl, rfl, rfl⟩
    unfold putD
    rw [if_neg (not_not_intro h1), if_neg (by rw [h2]; simp), if_neg (by rw [r1]; simp), if_neg (by rw [r2]; simp), if_neg r3, if_neg (by omega), if_neg (by omega), hj]
  | whole d' last' l' w h1 h2 hr h3 h4 ht h5 h6 h7 h8 =>
    obtain ⟨r1, r2, r3⟩ := room hr h2
    obtain ⟨hR, hl⟩ := h.take h2 h1 hr h3 h4 hlast ht
    have hd' : (p.key, d') ∈ (takeS S p last' d').D := getL_some_mem get_take
    have hpm := hR.perm _ hd'
    have hri : ∀ x ∈ (ofL p.key (L ++ [(p, dueD p.key L due)])).map (·.1), rightP x = true := fun x hx => hR.inv.right _ hd' x (hpm.mem_iff.2 hx)
    have hoks := (hR.oks _ hd').perm hpm.symm
    have hj : joinD ((ofL p.key (L ++ [(p, dueD p.key L due)])).map (·.1)) = some w := by
      rw [← join_eq hri hoks ((hR.fin _ hd').perm hpm.symm) h5 (h6.trans hpm) h7]
      exact h8
    have hh := head_eq hri hoks hpm
    have hlen : d'.l.length = (ofL p.key (L ++ [(p, dueD p.key L due)])).length := by
      have := hpm.length_eq; simpa using this
    refine ⟨_, ?_, (hR.order get_take h6).cut get_set, hl, rfl, rfl⟩
    unfold putD
    simp only at hh
    rw [if_neg (not_not_intro h1), if_neg (by rw [h2]; simp), if_neg (by rw [r1]; simp), if_neg (by rw [r2]; simp), if_neg r3, if_neg (by omega), if_neg (by omega), hj, hh, hlen]

/-! What is due. -/
def sooner (x : ByteArray × Int) : Option (ByteArray × Int) → Bool
  | none => true
  | some y => decide (x.2 < y.2)
def pickD (now : Int) : List (ByteArray × Int) → Option (ByteArray × Int) → Option (ByteArray × Int)
  | [], b => b
  | x :: l, b => pickD now l (if x.2 ≤ now ∧ sooner x b = true then some x else b)
def duesD (L : List PD) : List (ByteArray × Int) := (keysD L).map fun k => (k, dueD k L 0)
inductive PopD (now : Int) : List PD → List (List Value) → List PD → Prop
  | stop {L : List PD} : pickD now (duesD L) none = none → PopD now L [] L
  | step {L L' : List PD} {out : List (List Value)} (k : ByteArray) (t : Int) : pickD now (duesD L) none = some (k, t) → PopD now (offL k L) out L' → PopD now L (wh k (headD ((ofL k L).map (·.1))) e0s (ofL k L).length :: out) L'

theorem pick_app {now : Int} : ∀ {a b : List (ByteArray × Int)} {o}, pickD now (a ++ b) o = pickD now b (pickD now a o)
  | [], _, _ => rfl
  | x :: a, b, o => by rw [List.cons_append, pickD, pickD]; exact pick_app
theorem pick_mem {now : Int} : ∀ {a : List (ByteArray × Int)} {o y}, pickD now a o = some y → o = some y ∨ (y ∈ a ∧ y.2 ≤ now)
  | [], o, y, h => .inl h
  | x :: a, o, y, h => by
    rw [pickD] at h
    rcases pick_mem h with e | ⟨h1, h2⟩
    · split at e
      · rename_i hx; cases e; exact .inr ⟨by simp, hx.1⟩
      · exact .inl e
    · exact .inr ⟨by simp [h1], h2⟩
theorem pick_keep {now : Int} {x : ByteArray × Int} : ∀ {b : List (ByteArray × Int)}, (∀ y ∈ b, x.2 ≤ y.2) → pickD now b (some x) = some x
  | [], _ => rfl
  | y :: b, h => by
    rw [pickD, if_neg (fun e => by have h1 := h y (by simp); have h2 : y.2 < x.2 := of_decide_eq_true e.2; omega)]
    exact pick_keep fun z hz => h z (by simp [hz])
theorem pick_is {now : Int} {a b : List (ByteArray × Int)} {x : ByteArray × Int} (hx : x.2 ≤ now) (ha : ∀ y ∈ a, x.2 < y.2) (hb : ∀ y ∈ b, x.2 ≤ y.2) : pickD now (a ++ x :: b) none = some x := by
  rw [pick_app, pickD]
  have : sooner x (pickD now a none) = true := by
    cases h : pickD now a none with
    | none => rfl
    | some y =>
      rcases pick_mem h with e | ⟨h1, _⟩
      · cases e
      · exact decide_eq_true (ha y h1)
  rw [if_pos ⟨hx, this⟩]
  exact pick_keep hb
theorem pick_no {now : Int} : ∀ {a : List (ByteArray × Int)}, (∀ y ∈ a, now < y.2) → pickD now a none = none
  | [], _ => rfl
  | x :: a, h => by
    rw [pickD, if_neg (fun e => by have := h x (by simp); omega)]
    exact pick_no fun y hy => h y (by simp [hy])

theorem Rel.dueOf (h : Rel S L) {x : KD} (hx : x ∈ S.D) : dueD x.1 L 0 = x.2.due := by
  unfold dueD
  have hp := h.perm x hx
  cases ho : ofL x.1 L with
  | nil => rw [ho] at hp; exact absurd (List.perm_nil.1 hp) (h.inv.ne x hx)
  | cons y l => exact h.due x hx y (by rw [ho]; simp)

theorem pop_rel {now : Int} : ∀ {kds : List KD} {S : Stt} {L L' : List PD} {out : List (List Value)}, Rel S L → kds.Perm S.D → kds.Pairwise (fun x y => ltC cfDue y x = false) → PopD now L out L' → out = toldQ now kds ∧ Rel (popS S now kds) L'
  | [], S, L, L', out, h, hp, _, hpop => by
    have hD : S.D = [] := hp.symm.eq_nil
    have hk : keysD L = [] := List.eq_nil_iff_forall_not_mem.2 fun k hk => by
      obtain ⟨x, hx, _⟩ := h.keys.1 hk
      rw [hD] at hx; cases hx
    cases hpop with
    | stop => exact ⟨rfl, h⟩
    | step k t hpk => unfold duesD at hpk; rw [hk] at hpk; cases hpk
  | x :: r, S, L, L', out, h, hp, hs, hpop => by
    rw [List.pairwise_cons] at hs
    have hxD : x ∈ S.D := hp.mem_iff.1 (by simp)
    have hrD : ∀ y ∈ r, y ∈ S.D := fun y hy => hp.mem_iff.1 (by simp [hy])
    have hDr : ∀ y ∈ S.D, y = x ∨ y ∈ r := fun y hy => by simpa using hp.mem_iff.2 hy
    have hdues : ∀ y ∈ duesD L, ∃ z ∈ S.D, z.1 = y.1 ∧ z.2.due = y.2 := fun y hy => by
      unfold duesD at hy
      obtain ⟨k, hk, rfl⟩ := List.mem_map.1 hy
      obtain ⟨z, hz, rfl⟩ := h.keys.1 hk
      exact ⟨z, hz, rfl, (h.dueOf hz).symm⟩
    by_cases hx : x.2.due ≤ now
    · have hg := getL_of_mem h.inv.keys hxD
      -- it is the one that is picked
      have hpick : pickD now (duesD L) none = some (x.1, x.2.due) := by
        have hk : x.1 ∈ keysD L := h.keys.2 ⟨x, hxD, rfl⟩
        obtain ⟨A, B, hAB⟩ := List.append_of_mem hk
        have hnd := nodup_keysD L
        have hord := h.ord
        rw [hAB] at hord hnd
        have hdx : dueD x.1 L 0 = x.2.due := h.dueOf hxD
        have hsplit : duesD L = (A.map fun k => (k, dueD k L 0)) ++ (x.1, x.2.due) :: (B.map fun k => (k, dueD k L 0)) := by
          unfold duesD; rw [hAB, List.map_append, List.map_cons, hdx]
        rw [hsplit]
        refine pick_is hx (fun y hy => ?_) (fun y hy => ?_)
        · obtain ⟨k, hkA, rfl⟩ := List.mem_map.1 hy
          obtain ⟨z, hz, rfl⟩ := h.keys.1 (by rw [hAB]; simp [hkA] : k ∈ keysD L)
          have hid := (List.pairwise_append.1 hord).2.2 z.1 hkA x.1 (by simp) z hz x hxD rfl rfl
          rw [h.dueOf hz]
          have hne : z ≠ x := fun e => by rw [e] at hid; omega
          have := cfDue_ltf.1 (hs.1 z ((hDr z hz).resolve_left hne))
          simp only; omega
        · obtain ⟨k, hkB, rfl⟩ := List.mem_map.1 hy
          obtain ⟨z, hz, rfl⟩ := h.keys.1 (by rw [hAB]; simp [hkB] : k ∈ keysD L)
          rw [h.dueOf hz]
          rcases hDr z hz with e | hzr
          · rw [e]; exact Int.le_refl _
          · have := cfDue_ltf.1 (hs.1 z hzr)
            simp only; omega
      cases hpop with
      | stop hno => rw [hpick] at hno; cases hno
      | step k t hpk hrest =>
        rw [hpick] at hpk
        cases hpk
        have hrel := h.cut hg
        have hperm : r.Perm (cutS S x.1 x.2).D := by
          have hnd : ((x :: r).map (·.1)).Nodup := (hp.map _).nodup_iff.2 h.inv.keys
          rw [List.map_cons, List.nodup_cons] at hnd
          refine perm_of_nodup (nodup_of_map _ hnd.2) (nodup_of_map _ (nodup_del h.inv.keys)) (fun y hy => ?_) (fun y hy => ?_)
          · have hne : y.1 ≠ x.1 := fun e => hnd.1 (by rw [← e]; exact List.mem_map.2 ⟨y, hy, rfl⟩)
            have : getL y.1 (delL x.1 S.D) = some y.2 := by rw [getL_del h.inv.keys, if_neg hne]; exact getL_of_mem h.inv.keys (hrD y hy)
            exact getL_some_mem this
          · obtain ⟨h1, h2⟩ := mem_del h.inv.keys hy
            exact (hDr y h1).resolve_left fun e => h2 (by rw [e])
        obtain ⟨i1, i2⟩ := pop_rel hrel hperm hs.2 hrest
        have hpm := h.perm x hxD
        have hh : headD ((ofL x.1 L).map (·.1)) = headQ x.2.l := (head_eq (fun y hy => h.inv.right x hxD y (hpm.mem_iff.2 hy)) ((h.oks x hxD).perm hpm.symm) hpm).symm
        have hl : (ofL x.1 L).length = x.2.l.length := by have := hpm.length_eq; simpa using this.symm
        refine ⟨?_, ?_⟩
        · rw [i1, hh, hl]
          unfold toldQ
          rw [List.filter_cons, if_pos (by simpa using hx), List.map_cons]
        · unfold popS at i2 ⊢
          rw [List.foldl_cons, if_pos hx]; exact i2
    · have hall : ∀ y ∈ S.D, now < y.2.due := fun y hy => by
        rcases hDr y hy with rfl | hyr
        · omega
        · have := cfDue_ltf.1 (hs.1 y hyr); omega
      have hno : pickD now (duesD L) none = none := pick_no fun y hy => by
        obtain ⟨z, hz, _, e⟩ := hdues y hy
        have := hall z hz; omega
      have hout : toldQ now (x :: r) = [] := by
        unfold toldQ
        rw [List.filter_eq_nil_iff.2, List.map_nil]
        intro y hy
        have := hall y (hp.mem_iff.1 hy)
        simp; omega
      have hS : ∀ (l : List KD), (∀ y ∈ l, now < y.2.due) → popS S now l = S := fun l => by
        induction l with
        | nil => intro _; rfl
        | cons y l ih =>
          intro hl
          have := hl y (by simp)
          unfold popS at ih ⊢
          rw [List.foldl_cons, if_neg (by omega)]
          exact ih fun z hz => hl z (by simp [hz])
      cases hpop with
      | stop => rw [hout, hS _ fun y hy => hall y (hp.mem_iff.1 hy)]; exact ⟨rfl, h⟩
      | step k t hpk => rw [hno] at hpk; cases hpk
end
end Go.Proofs

set_option linter.unusedVariables false
set_option maxRecDepth 20000
namespace Go.Proofs
open Go Go.HL

theorem C72 {x : Int} {b : Bool} {s : ByteArray} {hp : HP} {K : Value → HP → Prop} (h : K (.agg ⟨pc ⟨⟨#[107]⟩, ⟨#[115]⟩, x, b, s, ⟨#[]⟩⟩⟩) hp) : CF Try.prog 72 [.int .i64 x, .bool b, .string s] hp K := by
  refine F72_ok x b s hp K ?_
  unfold F72
  exact ifI rfl (ifI rfl (ifI (Nat.le_refl 6) h))

def pA : Pc := ⟨⟨#[107]⟩, ⟨#[115]⟩, 8, false, ⟨#[97, 98]⟩, ⟨#[]⟩⟩
def pB : Pc := ⟨⟨#[107]⟩, ⟨#[115]⟩, 0, true, ⟨#[49, 50, 51, 52, 53, 54, 55, 56]⟩, ⟨#[]⟩⟩
def stA (d : Dg) : Stt := ⟨4, 3, 1, 1, [(pA.key, d)], [(pA.src, 1)]⟩

theorem put1 {w : List Value} {b : Bool} {e : Int} {S' : Stt} (h : PutR ⟨4, 3, 0, 0, [], []⟩ pA 5 w b e S') : w = zeroW ∧ b = false ∧ e = 0 ∧ ∃ d : Dg, d.fin = 10 ∧ d.l = [pA] ∧ S' = stA d := by
  have hr : rightP pA = true := by decide
  have ht : pA.toW = 10 := by decide
  cases h with
  | arg h => exact absurd ⟨by decide, by decide⟩ h
  | form _ h => rw [hr] at h; cases h
  | again d _ _ h => cases h
  | clash d _ _ h => cases h
  | alone _ _ _ h => exact absurd h (by decide)
  | full _ _ _ h => exact absurd h (by decide)
  | state _ _ _ _ h => exact absurd h (by decide)
  | part d' last' _ _ _ _ _ htk hn =>
    rcases htk with ⟨_, _, _, _, hf, _⟩ | ⟨d, hg, _⟩
    · have : d'.fin = 10 := hf.trans ht
      omega
    · cases hg
  | none d' last' l' _ _ _ _ _ htk hp hperm hs hw =>
    rcases htk with ⟨_, h1, _, _, hf, hl⟩ | ⟨d, hg, _⟩
    · have hf' : d'.fin = 10 := hf.trans ht
      rw [hl] at hperm
      have hl' := List.perm_singleton.1 hperm
      subst h1
      exact ⟨rfl, rfl, rfl, { d' with l := l' }, hf', hl', rfl⟩
    · cases hg
  | whole d' last' l' w _ _ _ _ _ htk hp hperm hs hw =>
    rcases htk with ⟨_, h1, _, _, hf, hl⟩ | ⟨d, hg, _⟩
    · have hf' : d'.fin = 10 := hf.trans ht
      rw [hl] at hperm
      have hl' := List.perm_singleton.1 hperm
      rw [hl', hf'] at hw
      have : wholeQ 10 [pA] = none := by decide
      rw [this] at hw; cases hw
    · cases hg

theorem put2 {d : Dg} (hd : d.fin = 10) (hl : d.l = [pA]) {w : List Value} {b : Bool} {e : Int} {S' : Stt} (h : PutR (stA d) pA 9 w b e S') : w = zeroW ∧ b = false ∧ e = 0 ∧ S' = stA d := by
  have hr : rightP pA = true := by decide
  have hg : getL pA.key (stA d).D = some d := by unfold stA; simp [getL]
  have hs : d.l.any (sameP pA) = true := by rw [hl]; decide
  have no : ¬ Room (stA d) pA := by
    unfold Room; rw [hg]; simp only; rw [hs]; simp
  cases h with
  | arg h => exact absurd ⟨by decide, by decide⟩ h
  | form _ h => rw [hr] at h; cases h
  | again => exact ⟨rfl, rfl, rfl, rfl⟩
  | clash d' _ _ h h' => rw [hg] at h; cases h; rw [hs] at h'; cases h'
  | alone _ _ h => rw [hg] at h; cases h
  | full _ _ h => exact absurd h no
  | state _ _ h => exact absurd h no
  | part _ _ _ _ h => exact absurd h no
  | none _ _ _ _ _ h => exact absurd h no
  | whole _ _ _ _ _ _ h => exact absurd h no

theorem put3 {d : Dg} (hd : d.fin = 10) (hl : d.l = [pA]) {w : List Value} {b : Bool} {e : Int} {S' : Stt} (h : PutR (stA d) pB 9 w b e S') : (∃ head : ByteArray, w = wh pB.key head ⟨#[49, 50, 51, 52, 53, 54, 55, 56, 97, 98]⟩ 2) ∧ b = true ∧ e = 0 ∧ S'.n = 0 := by
  have hr : rightP pB = true := by decide
  have hg : getL pB.key (stA d).D = some d := by
    have : pB.key = pA.key := rfl
    rw [this]; unfold stA; simp [getL]
  have hs : d.l.any (sameP pB) = false := by rw [hl]; decide
  have hfit : fitsQ d.fin d.l pB = true := by rw [hl, hd]; decide
  have took : ∀ {last' : Int} {d' : Dg}, Took (stA d) pB 9 last' d' → d'.fin = 10 ∧ d'.l = [pA, pB] := by
    intro last' d' htk
    rcases htk with ⟨h, _⟩ | ⟨d2, h, _, _, _, hf, hl2⟩
    · rw [hg] at h; cases h
    · rw [hg] at h; cases h
      exact ⟨hf.trans hd, by rw [hl2, hl]; rfl⟩
  have sorted : ∀ {l' : List Pc}, l'.Perm [pA, pB] → l'.Pairwise (fun x y => ltC cfP y x = false) → l' = [pB, pA] := by
    intro l' hp hs
    have hlen := hp.length_eq
    match l', hlen with
    | [x, y], _ =>
      have hx : x = pA ∨ x = pB := by simpa using hp.mem_iff.1 (List.mem_cons_self)
      rcases hx with rfl | rfl
      · have := List.perm_singleton.1 hp.cons_inv
        simp only [List.cons.injEq, and_true] at this
        subst this
        rw [List.pairwise_cons] at hs
        have := hs.1 pB (by simp)
        have h2 : ltC cfP pB pA = true := by decide
        rw [h2] at this; cases this
      · have hp2 := hp.trans (List.Perm.swap pB pA [])
        have := List.perm_singleton.1 hp2.cons_inv
        rw [this]
  have hwq : wholeQ 10 [pB, pA] = some ⟨#[49, 50, 51, 52, 53, 54, 55, 56, 97, 98]⟩ := by decide
  cases h with
  | arg h => exact absurd ⟨by decide, by decide⟩ h
  | form _ h => rw [hr] at h; cases h
  | again d' _ _ h h' => rw [hg] at h; cases h; rw [hs] at h'; cases h'
  | clash d' _ _ h _ h' => rw [hg] at h; cases h; rw [hfit] at h'; cases h'
  | alone _ _ h => rw [hg] at h; cases h
  | full _ _ _ h =>
    have h1 : (1 : Int) ≥ 4 := h
    omega
  | state _ _ _ _ h =>
    have h0 : (getL pB.src (stA d).of).getD 0 = 1 := by
      have e : pB.src = pA.src := rfl
      rw [e]; unfold stA; simp [getL]
    rw [h0] at h
    have h1 : (1 : Int) ≥ 3 := h
    omega
  | part d' last' _ _ _ _ _ htk hn => have := (took htk).1; omega
  | none d' last' l' _ _ _ _ _ htk hp hperm hso hw =>
    obtain ⟨t1, t2⟩ := took htk
    rw [t2] at hperm
    rw [sorted hperm hso, t1, hwq] at hw; cases hw
  | whole d' last' l' w _ _ _ _ _ htk hp hperm hso hw =>
    obtain ⟨t1, t2⟩ := took htk
    rw [t2] at hperm
    have hl' := sorted hperm hso
    rw [hl', t1, hwq] at hw
    cases hw
    refine ⟨⟨headQ d'.l, by rw [t2]; rfl⟩, rfl, rfl, ?_⟩
    unfold cutS setS takeS stA
    simp only [hl']
    decide

theorem C22 {hp : HP} {K : Value → HP → Prop} (h : K (.bool true) hp) : CF Try.prog 22 [] hp K := by
  refine CF.drop (F22_ok hp _ ?_)
  unfold F22
  refine C25 (fun hn => absurd (by omega) hn) ?_
  intro _ q m mo hp1 hst
  have g1 := hst hp (HSub.refl _)
  have pp : ∀ c : Option Addr → Prop, ptrV (ptr q 0) c = c (some ⟨q, 0, none⟩) := fun _ => rfl
  simp only [tup2V_mk, intV_int, pp]
  show ite2 false _ (F22_j1 _ false _ _)
  rw [ite2_false]
  unfold F22_j1
  rw [ite2_false]
  have whl : ∀ a b c d, (wh a b c d).length = 4 := fun _ _ _ _ => rfl
  have who : ∀ a b c d, (wh a b c d).all one = true := fun _ _ _ _ => rfl
  have hz0 : [(Value.string ⟨#[]⟩), (Value.string ⟨#[]⟩), (Value.string ⟨#[]⟩), (Value.int .i64 0)] = wh e0s e0s e0s 0 := rfl
  have hsp : ∀ a b c d a' b' c' d', splice (wh a b c d) 0 (wh a' b' c' d') = wh a' b' c' d' := fun _ _ _ _ _ _ _ _ => splice_all rfl
  refine C72 ?_
  rw [aggV_agg]
  refine C26 (p := pA) g1 ⟨by decide, by decide⟩ (fun d hd => by cases hd) (fun d hd => by cases hd) ?_
  intro hp2 w b e S1 hput s1
  obtain ⟨rfl, rfl, rfl, d, hd, hl, rfl⟩ := put1 hput
  have g2 := s1 hp g1
  have hgd : ∀ {k : ByteArray} {d2 : Dg}, getL k (stA d).D = some d2 → d2 = d := by
    intro k d2 h2
    unfold stA at h2
    simp only [getL] at h2
    split at h2
    · cases h2; rfl
    · cases h2
  simp only [tup3V_mk, aggV_agg, boolV_bool, intV_int, zeroW, whl, who, if_true, hz0, Nat.zero_add]
  refine ifI (Nat.le_refl _) ?_
  refine C72 ?_
  rw [aggV_agg]
  have len1 : ∀ {k : ByteArray} (d2 : Dg), getL k (stA d).D = some d2 → d2.l.length ≤ 70000 := fun d2 h2 => by rw [hgd h2, hl]; decide
  have ri1 : ∀ {k : ByteArray} (d2 : Dg), getL k (stA d).D = some d2 → ∀ x ∈ d2.l, rightP x = true := fun d2 h2 x hx => by
    rw [hgd h2, hl, List.mem_singleton] at hx; rw [hx]; decide
  refine C26 (p := pA) g2 ⟨by decide, by decide⟩ len1 ri1 ?_
  intro hp3 w b e S2 hput s2
  obtain ⟨rfl, rfl, rfl, rfl⟩ := put2 hd hl hput
  have g3 := s2 hp g2
  simp only [tup3V_mk, aggV_agg, boolV_bool, intV_int, zeroW, whl, who, if_true, hz0, Nat.zero_add]
  refine ifI (Nat.le_refl _) ?_
  refine C72 ?_
  rw [aggV_agg]
  refine C26 (p := pB) g3 ⟨by decide, by decide⟩ len1 ri1 ?_
  intro hp4 w b e S3 hput s3
  obtain ⟨⟨head, rfl⟩, rfl, rfl, hn⟩ := put3 hd hl hput
  have g4 := s3 hp g3
  have w2 : ∀ a b c d, (wh a b c d)[2]? = some (.string c) := fun _ _ _ _ => rfl
  have w3 : ∀ a b c d, (wh a b c d)[3]? = some (.int .i64 d) := fun _ _ _ _ => rfl
  simp only [tup3V_mk, aggV_agg, boolV_bool, intV_int, whl, who, if_true, hz0, Nat.zero_add, hsp, w2, w3, ldV_some, strV_string, str_eq]
  refine ifI (Nat.le_refl _) ?_
  show ite2 true (ite2 true (ite2 true (ite2 true (ite2 true (ite2 true (ite2 _ _ _) _) _) _) _) _) _
  simp only [ite2_true, decide_eq_true_eq]
  show ite2 true _ _
  rw [ite2_true]
  show ite2 true _ _
  rw [ite2_true]
  refine C27 g4 ?_
  rw [intV_int, hn]
  exact ⟨hp, g4.1, h⟩
end Go.Proofs

set_option linter.unusedVariables false
set_option maxRecDepth 20000
namespace Go.Proofs
open Go Go.HL
-- 23 interpreter/interpreterlaw16.cut
section
variable (e : Env) (x0 x1 x2 : ByteArray) (x3 : Int) (x9a : Option Addr) (x9n x9c : Nat) (x10 : Int) (hp : HP) (K : Env → PV → HP → Prop)
abbrev R23 (p : List Nat) (n : Nat) := RW Try.prog 43 [] (opsAt Try.f23 p) (List.range n)
theorem F23_r0 : R23 [0] 1 e V0 hp K =
    (K (upd e 8 (sS none 0 0)) V0 hp) := by kernel_rfl
theorem F23_r1 : R23 [1, 0] 1 e V0 hp K =
    (K (upd e 9 (sS none 0 0)) V0 hp) := by kernel_rfl
theorem F23_r2 : R23 [1, 1, 1, 0, 0, 0, 0, 0, 0] 6 (upd (upd (upd e 10 (sI x10)) 3 (sI x3)) 2 (sV (.string x2))) V0 hp K =
    (K (upd (upd (upd (upd (upd (upd (upd (upd (upd e 10 (sI x10)) 3 (sI x3)) 2 (sV (.string x2))) 14 (sI x10)) 15 (sI x3)) 16 (sI ((wr (x10 + x3))))) 17 (sV (.string x2))) 18 (sI ((ByteArray.size x2 : Nat)))) 19 (sB ((decide (((wr (x10 + x3)) : Int) ≥ (ByteArray.size x2 : Nat)))))) V0 hp) := by kernel_rfl
theorem F23_r3 : R23 [1, 1, 1, 0, 0, 0, 0, 0, 1, 0, 0] 11 (upd (upd (upd (upd (upd e 10 (sI x10)) 9 (sS x9a x9n x9c)) 2 (sV (.string x2))) 1 (sV (.string x1))) 0 (sV (.string x0))) V0 hp K =
    ((0 ≤ x10) ∧ (x10 ≤ (ByteArray.size x2 : Nat)) ∧ (if List.length [(Value.string x0), (.string (⟨#[115]⟩ : ByteArray)), (.int .i64 x10), .bool false, (.string (ByteArray.extract x2 (Int.toNat x10) (ByteArray.size x2))), (.string x1)] = 6 then (∀ b1 : Nat, hp b1 = .none → (opS Try.prog (Builtin.append_ #[26, 26] 26 ⟨[(.slice x9a x9n x9c), (.slice (some ⟨b1, 0, none⟩) 1 1)]⟩) (HP.set hp b1 (.cells 29 (splice [.string ⟨#[]⟩, .string ⟨#[]⟩, .int .i64 0, .bool false, .string ⟨#[]⟩, .string ⟨#[]⟩] 0 [(.string x0), (.string (⟨#[115]⟩ : ByteArray)), (.int .i64 x10), .bool false, (.string (ByteArray.extract x2 (Int.toNat x10) (ByteArray.size x2))), (.string x1)]) 0)) fun u2 h3 => (slcV u2 fun a4 n5 c6 => (K (upd (upd (upd (upd (upd (upd (upd (upd (upd (upd (upd (upd (upd (upd (upd (upd e 10 (sI x10)) 9 (sS x9a x9n x9c)) 2 (sV (.string x2))) 1 (sV (.string x1))) 0 (sV (.string x0))) 20 (sS x9a x9n x9c)) 21 (sV (.string x0))) 22 (sI x10)) 23 (sV (.string x2))) 24 (sI x10)) 25 (sV (.string (ByteArray.extract x2 (Int.toNat x10) (ByteArray.size x2))))) 26 (sV (.string x1))) 27 (sV (.agg ⟨[(.string x0), (.string (⟨#[115]⟩ : ByteArray)), (.int .i64 x10), .bool false, (.string (ByteArray.extract x2 (Int.toNat x10) (ByteArray.size x2))), (.string x1)]⟩))) 28 (sV (.slice (some ⟨b1, 0, none⟩) 1 1))) 29 (sS a4 n5 c6)) 8 (sS a4 n5 c6)) V0 h3)))) else False)) := by kernel_rfl
theorem F23_r4 : R23 [1, 1, 1, 0, 0, 0, 0, 1] 14 (upd (upd (upd (upd (upd (upd e 10 (sI x10)) 9 (sS x9a x9n x9c)) 3 (sI x3)) 2 (sV (.string x2))) 1 (sV (.string x1))) 0 (sV (.string x0))) V0 hp K =
    ((0 ≤ x10) ∧ (x10 ≤ ((wr (x10 + x3)) : Int)) ∧ (((wr (x10 + x3)) : Int) ≤ (ByteArray.size x2 : Nat)) ∧ (if List.length [(Value.string x0), (.string (⟨#[115]⟩ : ByteArray)), (.int .i64 x10), (.bool true), (.string (ByteArray.extract x2 (Int.toNat x10) (Int.toNat (wr (x10 + x3))))), (.string x1)] = 6 then (∀ b1 : Nat, hp b1 = .none → (opS Try.prog (Builtin.append_ #[26, 26] 26 ⟨[(.slice x9a x9n x9c), (.slice (some ⟨b1, 0, none⟩) 1 1)]⟩) (HP.set hp b1 (.cells 29 (splice [.string ⟨#[]⟩, .string ⟨#[]⟩, .int .i64 0, .bool false, .string ⟨#[]⟩, .string ⟨#[]⟩] 0 [(.string x0), (.string (⟨#[115]⟩ : ByteArray)), (.int .i64 x10), (.bool true), (.string (ByteArray.extract x2 (Int.toNat x10) (Int.toNat (wr (x10 + x3))))), (.string x1)]) 0)) fun u2 h3 => (slcV u2 fun a4 n5 c6 => (K (upd (upd (upd (upd (upd (upd (upd (upd (upd (upd (upd (upd (upd (upd (upd (upd (upd (upd (upd (upd e 10 (sI x10)) 9 (sS x9a x9n x9c)) 3 (sI x3)) 2 (sV (.string x2))) 1 (sV (.string x1))) 0 (sV (.string x0))) 30 (sS x9a x9n x9c)) 31 (sV (.string x0))) 32 (sI x10)) 33 (sV (.string x2))) 34 (sI x10)) 35 (sI x10)) 36 (sI x3)) 37 (sI ((wr (x10 + x3))))) 38 (sV (.string (ByteArray.extract x2 (Int.toNat x10) (Int.toNat (wr (x10 + x3))))))) 39 (sV (.string x1))) 40 (sV (.agg ⟨[(.string x0), (.string (⟨#[115]⟩ : ByteArray)), (.int .i64 x10), (.bool true), (.string (ByteArray.extract x2 (Int.toNat x10) (Int.toNat (wr (x10 + x3))))), (.string x1)]⟩))) 41 (sV (.slice (some ⟨b1, 0, none⟩) 1 1))) 42 (sS a4 n5 c6)) 9 (sS a4 n5 c6)) V0 h3)))) else False)) := by kernel_rfl
theorem F23_r5 : R23 [1, 1, 1, 0, 0, 1] 4 (upd (upd e 10 (sI x10)) 3 (sI x3)) V0 hp K =
    (K (upd (upd (upd (upd (upd (upd e 10 (sI x10)) 3 (sI x3)) 11 (sI x10)) 12 (sI x3)) 13 (sI ((wr (x10 + x3))))) 10 (sI ((wr (x10 + x3))))) V0 hp) := by kernel_rfl
def F23_l2 (x0 : ByteArray) (x1 : ByteArray) (x2 : ByteArray) (x3 : Int) (K : Value → HP → Prop) (I2 : ((Option Addr) × Nat × Nat × Int) → HP → Prop) (x9a : Option Addr) (x9n : Nat) (x9c : Nat) (x10 : Int) (hp : HP) : Prop :=
  (ite2 (decide (((IntKind.wrap .i64 (x10 + x3)) : Int) ≥ (ByteArray.size x2 : Nat))) ((0 ≤ x10) ∧ (x10 ≤ (ByteArray.size x2 : Nat)) ∧ (if List.length [(Value.string x0), (.string (⟨#[115]⟩ : ByteArray)), (.int .i64 x10), .bool false, (.string (ByteArray.extract x2 (Int.toNat x10) (ByteArray.size x2))), (.string x1)] = 6 then (∀ b_1 : Nat, hp b_1 = .none → (opS Try.prog (Builtin.append_ #[26, 26] 26 ⟨[(.slice x9a x9n x9c), (.slice (some ⟨b_1, 0, none⟩) 1 1)]⟩) (HP.set hp b_1 (.cells 29 (splice [.string ⟨#[]⟩, .string ⟨#[]⟩, .int .i64 0, .bool false, .string ⟨#[]⟩, .string ⟨#[]⟩] 0 [(.string x0), (.string (⟨#[115]⟩ : ByteArray)), (.int .i64 x10), .bool false, (.string (ByteArray.extract x2 (Int.toNat x10) (ByteArray.size x2))), (.string x1)]) 0)) fun u_2 h_3 => (slcV u_2 fun a_4 n_5 c_6 => (K (.slice a_4 n_5 c_6) h_3)))) else False)) ((0 ≤ x10) ∧ (x10 ≤ ((IntKind.wrap .i64 (x10 + x3)) : Int)) ∧ (((IntKind.wrap .i64 (x10 + x3)) : Int) ≤ (ByteArray.size x2 : Nat)) ∧ (if List.length [(Value.string x0), (.string (⟨#[115]⟩ : ByteArray)), (.int .i64 x10), (.bool true), (.string (ByteArray.extract x2 (Int.toNat x10) (Int.toNat (IntKind.wrap .i64 (x10 + x3))))), (.string x1)] = 6 then (∀ b_7 : Nat, hp b_7 = .none → (opS Try.prog (Builtin.append_ #[26, 26] 26 ⟨[(.slice x9a x9n x9c), (.slice (some ⟨b_7, 0, none⟩) 1 1)]⟩) (HP.set hp b_7 (.cells 29 (splice [.string ⟨#[]⟩, .string ⟨#[]⟩, .int .i64 0, .bool false, .string ⟨#[]⟩, .string ⟨#[]⟩] 0 [(.string x0), (.string (⟨#[115]⟩ : ByteArray)), (.int .i64 x10), (.bool true), (.string (ByteArray.extract x2 (Int.toNat x10) (Int.toNat (IntKind.wrap .i64 (x10 + x3))))), (.string x1)]) 0)) fun u_8 h_9 => (slcV u_8 fun a_10 n_11 c_12 => (I2 (a_10, n_11, c_12, (IntKind.wrap .i64 (x10 + x3))) h_9)))) else False)))
def F23_j1 (x0 : ByteArray) (x1 : ByteArray) (x2 : ByteArray) (x3 : Int) (x9a : Option Addr) (x9n : Nat) (x9c : Nat) (x10 : Int) (hp : HP) (K : Value → HP → Prop) : Prop :=
  (LoopP (σ := (Option Addr) × Nat × Nat × Int) (fun I s hp => F23_l2 x0 x1 x2 x3  K I s.1 s.2.1 s.2.2.1 s.2.2.2 hp) (x9a, x9n, x9c, x10) hp)
theorem F23_r6 : R23 [1, 1, 0] 1 e V0 hp K =
    (K (upd e 10 (sI 0)) V0 hp) := by kernel_rfl
def F23 (x0 : ByteArray) (x1 : ByteArray) (x2 : ByteArray) (x3 : Int) (hp : HP) (K : Value → HP → Prop) : Prop :=
  (F23_j1 x0 x1 x2 x3 none 0 0 0 hp  K)
noncomputable def F23_code : Code := (.seq (.region 0 (opsAt Try.f23 [0]) false) (.seq (.region 1 (opsAt Try.f23 [1, 0]) false) (.seq (.region 2 (opsAt Try.f23 [1, 1, 0]) false) (.block 0 (.loop (.seq (.block 1 (.seq (.seq (.region 4 (opsAt Try.f23 [1, 1, 1, 0, 0, 0, 0, 0, 0]) false) (.cond (.tmp 19) (.seq (.region 5 (opsAt Try.f23 [1, 1, 1, 0, 0, 0, 0, 0, 1, 0, 0]) false) .ret) .skip)) (.region 6 (opsAt Try.f23 [1, 1, 1, 0, 0, 0, 0, 1]) false))) (.region 3 (opsAt Try.f23 [1, 1, 1, 0, 0, 1]) false)))))))
theorem F23_body : Try.f23.body = some F23_code := by kernel_rfl
theorem F23_ok (x0 : ByteArray) (x1 : ByteArray) (x2 : ByteArray) (x3 : Int) (hp : HP) (K : Value → HP → Prop) (h : F23 x0 x1 x2 x3 hp K) : CF Try.prog 23 [(.string x0), (.string x1), (.string x2), (.int .i64 x3)] hp K := by
 refine .inl ⟨by kernel_rfl, AC.intro (N := 43) Try.func23 F23_body rfl (Nat.le_of_ble_eq_true rfl) ?_⟩
 unfold F23 at h
 unfold F23_code
 refine AWP.seq' ?_
 refine AWP.rgn (F23_r0 (upd (upd (upd (upd E0 3 (sI x3)) 2 (sV (.string x2))) 1 (sV (.string x1))) 0 (sV (.string x0)))  hp _) ?_ (Ru 0 (Ru 1 (Ru 2 (Ru 3 Rn)))) (Sc rfl (Sc rfl (Sc rfl (Sc rfl Sn)))) Sn
 refine AWP.seq' ?_
 refine AWP.rgn (F23_r1 (upd (upd (upd (upd E0 3 (sI x3)) 2 (sV (.string x2))) 1 (sV (.string x1))) 0 (sV (.string x0)))  hp _) ?_ (Ru 0 (Ru 1 (Ru 2 (Ru 3 Rn)))) (Sc rfl (Sc rfl (Sc rfl (Sc rfl Sn)))) Sn
 refine AWP.seq (fun env pv hp => ∃ (x0 : ByteArray) (x1 : ByteArray) (x2 : ByteArray) (x3 : Int) (x9a : Option Addr) (x9n : Nat) (x9c : Nat) (x10 : Int), Sub (upd (upd (upd (upd (upd (upd E0 10 (sI x10)) 9 (sS x9a x9n x9c)) 3 (sI x3)) 2 (sV (.string x2))) 1 (sV (.string x1))) 0 (sV (.string x0))) env ∧ Sub V0 pv ∧ (F23_j1 x0 x1 x2 x3 x9a x9n x9c x10 hp  K)) ?_ ?_
 ·refine AWP.rgn (F23_r6 (upd (upd (upd (upd (upd E0 9 (sS none 0 0)) 3 (sI x3)) 2 (sV (.string x2))) 1 (sV (.string x1))) 0 (sV (.string x0)))  hp _) ?_ (Ru 0 (Ru 1 (Ru 2 (Ru 3 (Ru 9 Rn))))) (Sc rfl (Sc rfl (Sc rfl (Sc rfl (Sc rfl Sn))))) Sn
  exact ⟨x0, x1, x2, x3, none, 0, 0, 0, (Sc rfl (Sc rfl (Sc rfl (Sc rfl (Sc rfl (Sc rfl Sn)))))), Sn, h⟩
 ·rintro env pv hp ⟨x0, x1, x2, x3, x9a, x9n, x9c, x10, he, hv, h⟩
  refine AWP.sub (env' := (upd (upd (upd (upd (upd (upd E0 10 (sI x10)) 9 (sS x9a x9n x9c)) 3 (sI x3)) 2 (sV (.string x2))) 1 (sV (.string x1))) 0 (sV (.string x0)))) (pv' := V0) ?_ (Ru 0 (Ru 1 (Ru 2 (Ru 3 (Ru 9 (Ru 10 Rn)))))) he hv (HSub.refl _)
  clear he hv
  unfold F23_j1 at h
  refine AWP.block ?_
  refine AWP.loop (σ := (Option Addr) × Nat × Nat × Int) (fun I s hp => F23_l2 x0 x1 x2 x3  K I s.1 s.2.1 s.2.2.1 s.2.2.2 hp) (fun s => (upd (upd (upd (upd (upd (upd E0 10 (sI (s.2.2.2))) 9 (sV (.slice s.1 s.2.1 s.2.2.1))) 3 (sI x3)) 2 (sV (.string x2))) 1 (sV (.string x1))) 0 (sV (.string x0)))) (fun s => V0) (x9a, x9n, x9c, x10) h (fun s => (Ru 0 (Ru 1 (Ru 2 (Ru 3 (Ru 9 (Ru 10 Rn))))))) (Sc rfl (Sc rfl (Sc rfl (Sc rfl (Sc rfl (Sc rfl Sn)))))) Sn ?_
  intro I2 s hp h
  obtain ⟨x9a, x9n, x9c, x10⟩ := s
  replace h : F23_l2 x0 x1 x2 x3  K I2 x9a x9n x9c x10 hp := h
  unfold F23_l2 at h
  refine AWP.seq' ?_
  refine AWP.block ?_
  refine AWP.seq' ?_
  refine AWP.seq' ?_
  refine AWP.rgn (F23_r2 (upd (upd (upd E0 9 (sS x9a x9n x9c)) 1 (sV (.string x1))) 0 (sV (.string x0))) x2 x3 x10 hp _) ?_ (Ru 2 (Ru 3 (Ru 10 (Ru 0 (Ru 1 (Ru 9 Rn)))))) (Sc rfl (Sc rfl (Sc rfl (Sc rfl (Sc rfl (Sc rfl Sn)))))) Sn
  refine AWP.cond (t := (decide (((wr (x10 + x3)) : Int) ≥ (ByteArray.size x2 : Nat)))) rfl (fun e => ?_) (fun e => ?_)
  ·replace h := ite2_t h e
   refine AWP.seq' ?_
   refine AWP.rgn (F23_r3 E0 x0 x1 x2 x9a x9n x9c x10 hp _) ?_ (Ru 0 (Ru 1 (Ru 2 (Ru 9 (Ru 10 Rn))))) (Sc rfl (Sc rfl (Sc rfl (Sc rfl (Sc rfl Sn))))) Sn
   refine ⟨h.1, h.2.1, mf h.2.2 fun h => ?_⟩
   refine fun b_1 hb_b_1 => ?_
   replace h := h b_1 hb_b_1
   refine mO h fun u_2 h_3 h => mS h fun a_4 n_5 c_6 h => ?_
   refine AWP.ret ?_
   exact h
  ·replace h := ite2_f h e
   refine AWP.skip ?_
   refine AWP.rgn (F23_r4 E0 x0 x1 x2 x3 x9a x9n x9c x10 hp _) ?_ (Ru 0 (Ru 1 (Ru 2 (Ru 3 (Ru 9 (Ru 10 Rn)))))) (Sc rfl (Sc rfl (Sc rfl (Sc rfl (Sc rfl (Sc rfl Sn)))))) Sn
   refine ⟨h.1, h.2.1, h.2.2.1, ?_⟩
   replace h := h.2.2.2
   refine mf h fun h => ?_
   refine fun b_7 hb_b_7 => ?_
   replace h := h b_7 hb_b_7
   refine mO h fun u_8 h_9 h => mS h fun a_10 n_11 c_12 h => ?_
   refine AWP.rgn (F23_r5 (upd (upd (upd (upd E0 9 (sS a_10 n_11 c_12)) 2 (sV (.string x2))) 1 (sV (.string x1))) 0 (sV (.string x0))) x3 x10 h_9 _) ?_ (Ru 3 (Ru 10 (Ru 0 (Ru 1 (Ru 2 (Ru 9 Rn)))))) (Sc rfl (Sc rfl (Sc rfl (Sc rfl (Sc rfl (Sc rfl Sn)))))) Sn
   exact ⟨(a_10, n_11, c_12, (wr (x10 + x3))), (Sc rfl (Sc rfl (Sc rfl (Sc rfl (Sc rfl (Sc rfl Sn)))))), Sn, h⟩
end
end Go.Proofs

set_option linter.unusedVariables false
set_option maxRecDepth 20000
namespace Go.Proofs
open Go Go.HL

theorem C24 {n many : Int} {hp : HP} {K : Value → HP → Prop} (hm : 0 < many) (hb : many ≤ 1000000000) (h : ∀ r : Int, 0 ≤ r → r < many → K (.int .i64 r) hp) : CF Try.prog 24 [.int .i64 n, .int .i64 many] hp K := by
  refine F24_ok n many hp K ?_
  unfold F24
  refine ⟨by omega, ?_⟩
  have t1 := Int.tmod_lt_of_pos n hm
  have t2 := Int.lt_tmod_of_pos n hm
  generalize n.tmod many = r at *
  unfold F24_j1
  by_cases hneg : r < 0
  · rw [decide_eq_true hneg, ite2_true, w64 (by omega) (by omega)]
    exact h _ (by omega) (by omega)
  · rw [decide_eq_false hneg, ite2_false]
    exact h _ (by omega) (by omega)

/-- The i-th piece of a datagram that is cut by n bytes. -/
def cutP (key head data : ByteArray) (n i : Nat) : Pc := ⟨key, ⟨#[115]⟩, ((n * i : Nat) : Int), decide (n * i + n < data.size), data.extract (n * i) (if n * i + n < data.size then n * i + n else data.size), head⟩
def cutN' (data : ByteArray) (n : Nat) : Nat := (data.size - 1) / n + 1
def cutL (key head data : ByteArray) (n : Nat) : List Pc := (List.range (cutN' data n)).map (cutP key head data n)

theorem C23 {key head data : ByteArray} {n : Nat} {hp : HP} {K : Value → HP → Prop} (hn : 0 < n) (hnb : n ≤ 1000000) (hd : data.size ≤ 1000000)
    (hK : ∀ (hp' : HP) (s' : Option Addr) (c' : Nat), HSub hp hp' → Row hp' s' (cutL key head data n).length c' 29 6 ((cutL key head data n).flatMap pc) → (∀ b, s' = some ⟨b, 0, none⟩ → hp b = .none) → K (.slice s' (cutL key head data n).length c') hp') :
    CF Try.prog 23 [.string key, .string head, .string data, .int .i64 n] hp K := by
  refine F23_ok key head data (n : Int) hp K ?_
  unfold F23 F23_j1
  refine LoopP.by (J := fun k (st : Option Addr × Nat × Nat × Int) hp' => ∃ i : Nat, st.2.2.2 = ((n * i : Nat) : Int) ∧ k = data.size + 1 - n * i ∧ n * i ≤ data.size ∧ (0 < i → n * i < data.size) ∧ HSub hp hp' ∧ Row hp' st.1 st.2.1 st.2.2.1 29 6 (((List.range i).map (cutP key head data n)).flatMap pc) ∧ st.2.1 = i ∧ ∀ b, st.1 = some ⟨b, 0, none⟩ → hp b = .none) ?_
    (n := data.size + 1) ⟨0, by simp, by simp, by simp, by simp, HSub.refl _, .inl ⟨rfl, rfl, rfl, by simp⟩, rfl, (fun b e => by cases e)⟩
  rintro I k ⟨s, m, c, x⟩ hp1 ⟨i, hx, hk, hle, hlt, h01, hrow, hm, hfr⟩ hI
  simp only at hx hrow hm hfr
  subst hx hm
  unfold F23_l2
  simp only []
  have w1 : IntKind.wrap .i64 (((n * m : Nat) : Int) + (n : Int)) = ((n * m + n : Nat) : Int) := wiN (by omega) (by omega)
  rw [w1]
  have hmn : m ≤ n * m := Nat.le_mul_of_pos_left m hn
  have hz : ∀ p : Pc, splice [(Value.string ⟨#[]⟩), (Value.string ⟨#[]⟩), (Value.int .i64 0), (Value.bool false), (Value.string ⟨#[]⟩), (Value.string ⟨#[]⟩)] 0 (pc p) = pc p := fun p => splice_all rfl
  have hsucc : ∀ p, cutP key head data n m = p → ((List.range m).map (cutP key head data n)).flatMap pc ++ pc p = ((List.range (m + 1)).map (cutP key head data n)).flatMap pc := fun p hp => by
    rw [List.range_succ, List.map_append, List.flatMap_append]; simp [hp]
  by_cases hlast : data.size ≤ n * m + n
  · rw [decide_eq_true (by omega : ((n * m + n : Nat) : Int) ≥ (data.size : Nat)), ite2_true]
    refine ⟨by omega, by omega, ?_⟩
    refine ifI rfl ?_
    have hp0 : cutP key head data n m = ⟨key, ⟨#[115]⟩, ((n * m : Nat) : Int), false, data.extract (n * m) data.size, head⟩ := by
      unfold cutP
      rw [if_neg (by omega), decide_eq_false (by omega)]
    have hcells : [(Value.string key), (Value.string ⟨#[115]⟩), (Value.int .i64 ((n * m : Nat) : Int)), (Value.bool false), (Value.string (data.extract (n * m) data.size)), (Value.string head)] = pc (cutP key head data n m) := by rw [hp0]; rfl
    rw [Int.toNat_natCast, hcells, hz]
    intro b hb
    have sb := HSub.set_fresh hp1 (.cells 29 (pc (cutP key head data n m)) 0) hb
    refine opS_appF (e := 29) (size := 6) (bytes := 80) (by kernel_rfl) (hrow.sub sb) (.inr ⟨b, 0, rfl, by rw [HP.cellN_of (HP.set_eq ..)]; exact cellsN_all rfl⟩) (pc_one _) (by omega) (by omega) ?_
    intro s2 c2 hp2 hrow2 hf
    obtain ⟨k1, k2⟩ := hf hp (h01.trans sb) hfr
    rw [slcV_slice]
    have hN : cutN' data n = m + 1 := by
      unfold cutN'
      congr 1
      refine Nat.div_eq_of_lt_le ?_ ?_
      · rw [Nat.mul_comm]
        by_cases h0 : m = 0
        · subst h0; simp
        · have := hlt (by omega); omega
      · rw [Nat.mul_comm, Nat.mul_succ]; omega
    have hL : cutL key head data n = (List.range (m + 1)).map (cutP key head data n) := by unfold cutL; rw [hN]
    rw [hsucc _ rfl, ← hL] at hrow2
    have hlen : m + 1 = (cutL key head data n).length := by rw [hL]; simp
    rw [hlen] at hrow2 ⊢
    exact hK hp2 s2 c2 k1 hrow2 k2
  · rw [decide_eq_false (by omega : ¬ ((n * m + n : Nat) : Int) ≥ (data.size : Nat)), ite2_false]
    refine ⟨by omega, by omega, by omega, ?_⟩
    refine ifI rfl ?_
    have hp0 : cutP key head data n m = ⟨key, ⟨#[115]⟩, ((n * m : Nat) : Int), true, data.extract (n * m) (n * m + n), head⟩ := by
      unfold cutP
      rw [if_pos (by omega), decide_eq_true (by omega)]
    have hcells : [(Value.string key), (Value.string ⟨#[115]⟩), (Value.int .i64 ((n * m : Nat) : Int)), (Value.bool true), (Value.string (data.extract (n * m) (n * m + n))), (Value.string head)] = pc (cutP key head data n m) := by rw [hp0]; rfl
    rw [Int.toNat_natCast, Int.toNat_natCast, hcells, hz]
    intro b hb
    have sb := HSub.set_fresh hp1 (.cells 29 (pc (cutP key head data n m)) 0) hb
    refine opS_appF (e := 29) (size := 6) (bytes := 80) (by kernel_rfl) (hrow.sub sb) (.inr ⟨b, 0, rfl, by rw [HP.cellN_of (HP.set_eq ..)]; exact cellsN_all rfl⟩) (pc_one _) (by omega) (by omega) ?_
    intro s2 c2 hp2 hrow2 hf
    obtain ⟨k1, k2⟩ := hf hp (h01.trans sb) hfr
    rw [slcV_slice]
    rw [hsucc _ rfl] at hrow2
    have hms : n * (m + 1) = n * m + n := Nat.mul_succ n m
    exact hI (data.size + 1 - (n * m + n)) _ _ (by omega) ⟨m + 1, by simp only [hms], by rw [hms], by omega, fun _ => by omega, k1, hrow2, rfl, k2⟩
end Go.Proofs

set_option linter.unusedVariables false
set_option maxRecDepth 20000
namespace Go.Proofs
open Go Go.HL

theorem okDue5 : okDue 5 := by constructor <;> decide

end Go.Proofs

set_option linter.unusedVariables false
set_option maxRecDepth 20000
namespace Go.Proofs
open Go Go.HL

/-- Two lists of the same, in the same order, are one. -/
theorem same_ord {α : Type} {lt : α → α → Bool} : ∀ {u v : List α}, u.Nodup → v.Nodup → (∀ x, x ∈ u ↔ x ∈ v) → u.Pairwise (fun x y => lt y x = false) → v.Pairwise (fun x y => lt x y = true) → u = v
  | [], [], _, _, _, _, _ => rfl
  | [], b :: v, _, _, hm, _, _ => by have := (hm b).2 (by simp); simp at this
  | a :: u, [], _, _, hm, _, _ => by have := (hm a).1 (by simp); simp at this
  | a :: u, b :: v, hu, hv', hm, pu, pv => by
    rw [List.nodup_cons] at hu hv'
    rw [List.pairwise_cons] at pu pv
    by_cases he : a = b
    · subst he
      rw [same_ord (u := u) (v := v) hu.2 hv'.2 (fun x => ?_) pu.2 pv.2]
      have h := hm x
      simp only [List.mem_cons] at h
      constructor
      · intro hx
        rcases h.1 (.inr hx) with e | h'
        · subst e; exact absurd hx hu.1
        · exact h'
      · intro hx
        rcases h.2 (.inr hx) with e | h'
        · subst e; exact absurd hx hv'.1
        · exact h'
    · have h1 : a ∈ v := by
        have := (hm a).1 (by simp)
        rcases List.mem_cons.1 this with e | h'
        · exact absurd e he
        · exact h'
      have h2 : b ∈ u := by
        have := (hm b).2 (by simp)
        rcases List.mem_cons.1 this with e | h'
        · exact absurd e.symm he
        · exact h'
      have g1 := pu.1 b h2
      have g2 := pv.1 a h1
      rw [g1] at g2; cases g2

section
variable {key head data : ByteArray} {n i j : Nat}

theorem cut_more (hn : 0 < n) (hi : i < cutN' data n) : n * i + n < data.size ↔ i + 1 < cutN' data n := by
  unfold cutN' at *
  have hd : i ≤ (data.size - 1) / n := by omega
  rw [Nat.le_div_iff_mul_le hn] at hd
  constructor
  · intro h
    have : i + 1 ≤ (data.size - 1) / n := by
      rw [Nat.le_div_iff_mul_le hn, Nat.mul_comm, Nat.mul_succ]; omega
    omega
  · intro h
    have : i + 1 ≤ (data.size - 1) / n := by omega
    rw [Nat.le_div_iff_mul_le hn, Nat.mul_comm, Nat.mul_succ] at this
    by_cases h0 : data.size = 0
    · rw [h0] at this; omega
    · omega

theorem cut_at (hn : 0 < n) (hs : 0 < data.size) (hi : i < cutN' data n) : n * i < data.size := by
  unfold cutN' at hi
  have hd : i ≤ (data.size - 1) / n := by omega
  rw [Nat.le_div_iff_mul_le hn, Nat.mul_comm] at hd
  omega

theorem cutP_size (hn : 0 < n) (hs : 0 < data.size) (hi : i < cutN' data n) : (cutP key head data n i).data.size = (if n * i + n < data.size then n else data.size - n * i) := by
  have := cut_at hn hs hi
  unfold cutP
  simp only [ByteArray.size_extract]
  split <;> omega

theorem cutP_to (hn : 0 < n) (hn' : n ≤ 1000) (hs : 0 < data.size) (hs' : data.size ≤ 10000) (hi : i < cutN' data n) : (cutP key head data n i).toW = ((if n * i + n < data.size then n * i + n else data.size : Nat) : Int) := by
  have ha := cut_at hn hs hi
  have hz := cutP_size (key := key) (head := head) hn hs hi
  have e : (cutP key head data n i).at_ = ((n * i : Nat) : Int) := rfl
  rw [Pc.toW_eq (by rw [e]; omega) (by rw [e]; omega) (by rw [hz]; split <;> omega)]
  unfold Pc.to
  rw [hz, e]
  split <;> omega

theorem cutP_right (h8 : n % 8 = 0) (hn : 0 < n) (hn' : n ≤ 1000) (hs : 0 < data.size) (hs' : data.size ≤ 10000) (hi : i < cutN' data n) : rightP (cutP key head data n i) = true := by
  have ha := cut_at hn hs hi
  have hz := cutP_size (key := key) (head := head) hn hs hi
  have e : (cutP key head data n i).at_ = ((n * i : Nat) : Int) := rfl
  rw [rightP_iff, hz, e]
  refine ⟨by omega, by omega, ?_, by split <;> omega, ?_⟩
  · have : Int.tmod ((n * i : Nat) : Int) 8 = ((n * i % 8 : Nat) : Int) := rfl
    rw [this, Nat.mul_mod, h8]; simp
  · intro hm
    have : n * i + n < data.size := of_decide_eq_true hm
    rw [if_pos this]
    exact ⟨hn, h8⟩

/-- Two pieces of one datagram: the later one begins where the earlier one has ended. -/
theorem cutP_apart (hn : 0 < n) (hn' : n ≤ 1000) (hs : 0 < data.size) (hs' : data.size ≤ 10000) (hi : i < j) (hj : j < cutN' data n) : (cutP key head data n i).toW ≤ (cutP key head data n j).at_ ∧ (cutP key head data n i).at_ < (cutP key head data n j).at_ ∧ (cutP key head data n i).more = true := by
  have hm := (cut_more hn (show i < cutN' data n by omega)).2 (by omega)
  have ht := cutP_to (key := key) (head := head) hn hn' hs hs' (show i < cutN' data n by omega)
  rw [if_pos hm] at ht
  have e : ∀ i, (cutP key head data n i).at_ = ((n * i : Nat) : Int) := fun _ => rfl
  have hmul : n * (i + 1) ≤ n * j := Nat.mul_le_mul_left n hi
  rw [Nat.mul_succ] at hmul
  refine ⟨by rw [ht, e]; omega, by rw [e, e]; omega, ?_⟩
  show decide (n * i + n < data.size) = true
  exact decide_eq_true hm

theorem cut_len : (cutL key head data n).length = cutN' data n := by unfold cutL; simp
theorem cut_get (hi : i < (cutL key head data n).length) : (cutL key head data n)[i] = cutP key head data n i := by
  have h2 : i < cutN' data n := by rw [← cut_len (key := key) (head := head)]; exact hi
  have : (cutL key head data n)[i]? = some (cutP key head data n i) := by
    unfold cutL; rw [List.getElem?_map, List.getElem?_range h2]; rfl
  rw [List.getElem?_eq_getElem hi] at this; exact Option.some.inj this

theorem cut_sorted (hn : 0 < n) (hn' : n ≤ 1000) (hs : 0 < data.size) (hs' : data.size ≤ 10000) : (cutL key head data n).Pairwise (fun x y => ltC cfP x y = true) := by
  rw [List.pairwise_iff_getElem]
  intro i j hi hj hij
  rw [cut_get, cut_get, cfP_lt]
  rw [cut_len] at hj
  exact .inl (cutP_apart hn hn' hs hs' hij hj).2.1

theorem cut_join (hn : 0 < n) (hs : 0 < data.size) : ∀ (k i : Nat), i + k = cutN' data n → joinG ((cutL key head data n).drop i) (if i < cutN' data n then data.extract 0 (n * i) else data) = some data := by
  intro k
  induction k with
  | zero =>
    intro i hi
    rw [List.drop_of_length_le (by rw [cut_len]; omega), if_neg (by omega)]; rfl
  | succ k ih =>
    intro i hi
    have hi' : i < cutN' data n := by omega
    have hlt : i < (cutL key head data n).length := by rw [cut_len]; exact hi'
    rw [List.drop_eq_getElem_cons hlt, cut_get, if_pos hi', joinG]
    have ha := cut_at hn hs hi'
    have hsz : (data.extract 0 (n * i)).size = n * i := by rw [ByteArray.size_extract]; omega
    rw [if_pos (by rw [hsz]; rfl)]
    have hj := ih (i + 1) (by omega)
    have hm := cut_more hn hi'
    have : data.extract 0 (n * i) ++ (cutP key head data n i).data = (if i + 1 < cutN' data n then data.extract 0 (n * (i + 1)) else data) := by
      unfold cutP
      simp only
      by_cases h : n * i + n < data.size
      · rw [if_pos h, if_pos (hm.1 h), ByteArray.extract_append_extract, Nat.mul_succ]
        congr 1 <;> omega
      · rw [if_neg h, if_neg (fun h' => h (hm.2 h')), ByteArray.extract_append_extract]
        have e1 : min 0 (n * i) = 0 := by omega
        have e2 : max (n * i) data.size = data.size := by omega
        rw [e1, e2]; exact ByteArray.extract_zero_size
    rw [this]; exact hj
end
end Go.Proofs

set_option linter.unusedVariables false
set_option maxRecDepth 20000
namespace Go.Proofs
open Go Go.HL

def szs (l : List Pc) : Nat := (l.map fun p => p.data.size).sum
theorem szs_app {a b : List Pc} : szs (a ++ b) = szs a + szs b := by unfold szs; rw [List.map_append, List.sum_append]
theorem szs_cons {a : Pc} {b : List Pc} : szs (a :: b) = a.data.size + szs b := rfl
theorem szs_perm {a b : List Pc} (h : a.Perm b) : szs a = szs b := by
  induction h with
  | nil => rfl
  | cons x _ ih => rw [szs_cons, szs_cons, ih]
  | swap x y l => simp only [szs_cons]; omega
  | trans _ _ i1 i2 => exact i1.trans i2
theorem joinG_size : ∀ {l : List Pc} {w w' : ByteArray}, joinG l w = some w' → w'.size = w.size + szs l
  | [], w, w', h => by simp only [joinG, Option.some.injEq] at h; subst h; rfl
  | x :: l, w, w', h => by
    rw [joinG] at h
    split at h
    · rw [joinG_size h, ByteArray.size_append, szs_cons]; omega
    · cases h

section
variable {k hd t : ByteArray} {n : Nat}

theorem cut_zero (h0 : t.size = 0) : cutL k hd t n = [⟨k, ⟨#[115]⟩, 0, false, e0s, hd⟩] := by
  have ht : t = e0s := emp_iff.2 h0
  subst ht
  have hN : cutN' e0s n = 1 := by unfold cutN'; have : e0s.size = 0 := rfl; rw [this]; simp
  unfold cutL
  rw [hN]
  show [cutP k hd e0s n 0] = _
  have e : e0s.size = 0 := rfl
  unfold cutP
  rw [Nat.mul_zero, e]
  simp only [Nat.zero_add, Nat.not_lt_zero, if_false, decide_false]
  congr 1

theorem cut_mem {p : Pc} (h : p ∈ cutL k hd t n) : ∃ i, i < cutN' t n ∧ p = cutP k hd t n i := by
  unfold cutL at h
  obtain ⟨i, hi, rfl⟩ := List.mem_map.1 h
  exact ⟨i, List.mem_range.1 hi, rfl⟩
theorem cut_fields {p : Pc} (h : p ∈ cutL k hd t n) : p.key = k ∧ p.head = hd ∧ p.src = ⟨#[115]⟩ := by
  obtain ⟨i, _, rfl⟩ := cut_mem h; exact ⟨rfl, rfl, rfl⟩

variable (hn : 0 < n) (hn' : n ≤ 1000) (h8 : n % 8 = 0) (hs : 0 < t.size) (hs' : t.size ≤ 10000)
include hn hn' hs hs'

theorem cut_oks : Oks (cutL k hd t n) := by
  unfold Oks
  rw [List.pairwise_iff_getElem]
  intro i j hi hj hij
  rw [cut_get, cut_get]
  rw [cut_len] at hi hj
  obtain ⟨a1, a2, a3⟩ := cutP_apart (key := k) (head := hd) hn hn' hs hs' hij hj
  have t1 := cutP_to (key := k) (head := hd) hn hn' hs hs' hi
  have t2 := cutP_to (key := k) (head := hd) hn hn' hs hs' hj
  have b1 := cut_at hn hs hi
  have b2 := cut_at hn hs hj
  have z1 := cutP_size (key := k) (head := hd) hn hs hi
  have z2 := cutP_size (key := k) (head := hd) hn hs hj
  have e : ∀ i, (cutP k hd t n i).at_ = ((n * i : Nat) : Int) := fun _ => rfl
  have w1 : (cutP k hd t n i).toW = (cutP k hd t n i).to := Pc.toW_eq (by rw [e]; omega) (by rw [e]; omega) (by rw [z1]; split <;> omega)
  have e2 : (cutP k hd t n j).to = (cutP k hd t n j).at_ + (cutP k hd t n j).data.size := rfl
  rw [w1] at a1
  rw [ok_iff]
  refine ⟨fun x => by omega, .inr a3, fun x => by omega, fun x => by rw [a3] at x; cases x.1⟩
include h8 in
theorem cut_right {p : Pc} (h : p ∈ cutL k hd t n) : rightP p = true := by
  obtain ⟨i, hi, rfl⟩ := cut_mem h
  exact cutP_right h8 hn hn' hs hs' hi
omit hn' hs hs' in
theorem cut_same {p q : Pc} (hp : p ∈ cutL k hd t n) (hq : q ∈ cutL k hd t n) (h : p.at_ = q.at_) : p = q := by
  obtain ⟨i, hi, rfl⟩ := cut_mem hp
  obtain ⟨j, hj, rfl⟩ := cut_mem hq
  have e : ∀ i, (cutP k hd t n i).at_ = ((n * i : Nat) : Int) := fun _ => rfl
  rw [e, e] at h
  have h2 : n * i = n * j := by omega
  rw [Nat.eq_of_mul_eq_mul_left hn h2]
theorem cut_nodup : (cutL k hd t n).Nodup :=
  (cut_sorted (key := k) (head := hd) hn hn' hs hs').imp fun {x y} h e => by subst e; rw [swo_cfP.irrefl] at h; cases h
omit hn' hs' in
theorem cut_whole : joinG (cutL k hd t n) e0s = some t := by
  have h := cut_join (key := k) (head := hd) hn hs (cutN' t n) 0 (by omega)
  have h0 : 0 < cutN' t n := Nat.succ_pos _
  rw [if_pos h0, List.drop_zero] at h
  have hz : t.extract 0 (n * 0) = e0s := by rw [Nat.mul_zero]; exact ByteArray.extract_same
  rw [hz] at h
  exact h
theorem cut_fin {p : Pc} (h : p ∈ cutL k hd t n) : p.to ≤ t.size ∧ (p.more = false → p.to = t.size) ∧ 0 < p.data.size := by
  obtain ⟨i, hi, rfl⟩ := cut_mem h
  have t1 := cutP_to (key := k) (head := hd) hn hn' hs hs' hi
  have z1 := cutP_size (key := k) (head := hd) hn hs hi
  have b1 := cut_at hn hs hi
  have e : ∀ i, (cutP k hd t n i).at_ = ((n * i : Nat) : Int) := fun _ => rfl
  have w1 : (cutP k hd t n i).toW = (cutP k hd t n i).to := Pc.toW_eq (by rw [e]; omega) (by rw [e]; omega) (by rw [z1]; split <;> omega)
  rw [w1] at t1
  refine ⟨by rw [t1]; split <;> omega, fun hm => ?_, by rw [z1]; split <;> omega⟩
  have : ¬ n * i + n < t.size := of_decide_eq_false hm
  rw [t1, if_neg this]
omit hn hn' hs hs' in
theorem cut_head : headQ (cutL k hd t n) = hd := by
  unfold cutL cutN'
  rw [List.range_succ_eq_map, List.map_cons, headQ]
  have e : (cutP k hd t n 0).at_ = 0 := by show (((n * 0 : Nat)) : Int) = 0; simp
  rw [if_pos e]; rfl

include h8 in
/-- A piece comes; others of its datagram are there. -/
theorem join_put {L : List PD} {C R : List Pc} {p : Pc} (hC : (ofL k L).map (·.1) = C) (hdue : ∀ y ∈ ofL k L, y.2 = 5) (hp : (C ++ p :: R).Perm (cutL k hd t n)) (hL : L.length < 1000) :
    (R = [] → ∃ c : Int, putD 1000 1000 L p 5 = (wh k hd t c, true, 0, offL k L)) ∧ (R ≠ [] → putD 1000 1000 L p 5 = (zeroW, false, 0, L ++ [(p, 5)])) := by
  have hpm : p ∈ cutL k hd t n := hp.mem_iff.1 (by simp)
  have hCm : ∀ x ∈ C, x ∈ cutL k hd t n := fun x hx => hp.mem_iff.1 (by simp [hx])
  obtain ⟨f1, f2, f3⟩ := cut_fields hpm
  have hnd : (C ++ p :: R).Nodup := hp.nodup_iff.2 (cut_nodup hn hn' hs hs')
  have hri : ∀ {x : Pc}, x ∈ cutL k hd t n → rightP x = true := fun h => cut_right hn hn' h8 hs hs' h
  have hall : ∀ x ∈ C ++ [p], x ∈ cutL k hd t n := fun x hx => by
    rcases List.mem_append.1 hx with h | h
    · exact hCm x h
    · rw [List.mem_singleton.1 h]; exact hpm
  have hoks : Oks (C ++ [p]) := by
    have h1 := (cut_oks (k := k) (hd := hd) hn hn' hs hs').perm hp
    unfold Oks at h1 ⊢
    refine h1.sublist ?_
    exact List.Sublist.append_left (List.Sublist.cons_cons p (List.nil_sublist R)) C
  have hany : ((ofL p.key L).map (·.1)).any (sameP p) = false := by
    rw [f1, hC, List.any_eq_false]
    intro x hx
    unfold sameP
    by_cases ha : p.at_ = x.at_
    · have := cut_same hn hpm (hCm x hx) ha
      subst this
      exact absurd rfl ((List.nodup_append.1 hnd).2.2 p hx p (by simp))
    · rw [decide_eq_false ha]; simp
  have hfit : fitD ((ofL p.key L).map (·.1) ++ [p]) = true := by
    rw [f1, hC]; unfold fitD; exact decide_eq_true hoks
  have hof : (ofL p.key (L ++ [(p, dueD p.key L 5)])).map (·.1) = C ++ [p] := by
    rw [of_snoc, List.map_append, f1, hC]; simp [f1]
  have hdueD : dueD p.key L 5 = 5 := by
    unfold dueD
    rw [f1]
    cases ho : ofL k L with
    | nil => rfl
    | cons y l => exact hdue y (by rw [ho]; simp)
  have hoff : offL p.key (L ++ [(p, dueD p.key L 5)]) = offL k L := by
    unfold offL; rw [List.filter_append, f1]; simp [f1]
  have hcl : cntP p.src (L.map (·.1)) ≤ L.length := by have := cnt_le (src := p.src) (a := L.map (·.1)); simpa using this
  have hwh : wholeQ t.size (cutL k hd t n) = some t := by unfold wholeQ; rw [cut_whole hn hs]; simp
  -- the join
  have hjoin : putD 1000 1000 L p 5 = (if ofL p.key L = [] ∧ p.at_ = 0 ∧ p.more = false then (wh p.key p.head p.data 1, true, 0, L) else
      match joinD (C ++ [p]) with
      | none => (zeroW, false, 0, L ++ [(p, 5)])
      | some w => (wh k (headD (C ++ [p])) w ((ofL p.key (L ++ [(p, dueD p.key L 5)])).length : Nat), true, 0, offL k L) : List Value × Bool × Int × List PD) := by
    unfold putD
    rw [if_neg (not_not_intro okDue5), if_neg (by rw [hri hpm]; simp), if_neg (by rw [hany]; simp), if_neg (by rw [hfit]; simp)]
    split
    · rfl
    · rw [if_neg (by omega), if_neg (by omega), hof, hoff, hdueD, f1]
      all_goals (cases joinD (C ++ [p]) <;> rfl)
  -- alone
  have halone : ofL p.key L = [] ∧ p.at_ = 0 ∧ p.more = false → R = [] ∧ p.data = t ∧ C = [] := by
    rintro ⟨h1, h2, h3⟩
    have hC0 : C = [] := by rw [f1] at h1; rw [h1] at hC; simpa using hC.symm
    obtain ⟨f4, f5, f6⟩ := cut_fin (k := k) (hd := hd) hn hn' hs hs' hpm
    have hto := f5 h3
    have hpt : p.to = p.at_ + p.data.size := rfl
    rw [hC0, List.nil_append] at hp
    have hsz := szs_perm hp
    have hj := joinG_size (cut_whole (k := k) (hd := hd) hn hs)
    have he : e0s.size = 0 := rfl
    rw [szs_cons] at hsz
    have hR : szs R = 0 := by omega
    have hRn : R = [] := by
      cases R with
      | nil => rfl
      | cons y R =>
        have hy := (cut_fin (k := k) (hd := hd) hn hn' hs hs' (hp.mem_iff.1 (by simp : y ∈ p :: y :: R))).2.2
        rw [szs_cons] at hR; omega
    refine ⟨hRn, ?_, hC0⟩
    rw [hRn] at hp
    have hc := List.perm_singleton.1 hp.symm
    have := cut_whole (k := k) (hd := hd) hn hs
    rw [hc, joinG, if_pos (by rw [h2, he]; rfl), joinG] at this
    have h4 : e0s ++ p.data = p.data := ByteArray.empty_append
    rw [h4] at this
    exact Option.some.inj this
  constructor
  · intro hR
    rw [hjoin]
    by_cases ha : ofL p.key L = [] ∧ p.at_ = 0 ∧ p.more = false
    · obtain ⟨_, h2, h3⟩ := halone ha
      rw [if_pos ha, f1, f2, h2]
      refine ⟨1, ?_⟩
      have : offL k L = L := by
        unfold offL
        rw [List.filter_eq_self]
        intro x hx
        have h1 := ha.1
        rw [f1] at h1
        have : x ∉ ofL k L := by rw [h1]; simp
        unfold ofL at this
        rw [List.mem_filter] at this
        have : ¬ (x.1.key = k) := fun e => this ⟨hx, by simpa using e⟩
        simpa using this
      rw [this]
    · rw [if_neg ha]
      subst hR
      -- all are there
      have hfin : FinOk t.size (C ++ [p]) := by
        refine .inr ⟨by omega, ?_, fun x hx => ⟨(cut_fin hn hn' hs hs' (hall x hx)).1, (cut_fin hn hn' hs hs' (hall x hx)).2.1⟩⟩
        have h0 : 0 < cutN' t n := Nat.succ_pos _
        have hl : cutP k hd t n (cutN' t n - 1) ∈ cutL k hd t n := by
          unfold cutL; exact List.mem_map.2 ⟨_, List.mem_range.2 (by omega), rfl⟩
        refine ⟨_, hp.mem_iff.2 hl, ?_⟩
        show decide (n * (cutN' t n - 1) + n < t.size) = false
        refine decide_eq_false fun h => ?_
        have := (cut_more hn (show cutN' t n - 1 < cutN' t n by omega)).1 h
        omega
      have hst := (cut_sorted (key := k) (head := hd) hn hn' hs hs').imp fun {x y} h => swo_cfP.asymmA h
      have hj : joinD (C ++ [p]) = some t := by
        rw [← join_eq (fun x hx => hri (hall x hx)) hoks hfin (by omega) hp.symm hst]; exact hwh
      have hh : headD (C ++ [p]) = hd := by
        rw [← head_eq (fun x hx => hri (hall x hx)) hoks hp.symm]; exact cut_head
      rw [hj, hh]
      exact ⟨_, rfl⟩
  · intro hR
    rw [hjoin, if_neg (fun ha => hR (halone ha).1)]
    have hnone : joinD (C ++ [p]) = none := by
      by_cases hlast : ∃ z ∈ C ++ [p], z.more = false
      · have hfin : FinOk t.size (C ++ [p]) := .inr ⟨by omega, hlast, fun x hx => ⟨(cut_fin hn hn' hs hs' (hall x hx)).1, (cut_fin hn hn' hs hs' (hall x hx)).2.1⟩⟩
        -- in their order
        have hndp : (C ++ [p]).Nodup := hnd.sublist (List.Sublist.append_left (List.Sublist.cons_cons p (List.nil_sublist R)) C)
        have hperm : ((cutL k hd t n).filter fun x => decide (x ∈ C ++ [p])).Perm (C ++ [p]) := by
          refine perm_of_nodup ((cut_nodup hn hn' hs hs').filter _) hndp (fun x hx => ?_) (fun x hx => ?_)
          · simpa using (List.mem_filter.1 hx).2
          · exact List.mem_filter.2 ⟨hall x hx, by simpa using hx⟩
        have hst : ((cutL k hd t n).filter fun x => decide (x ∈ C ++ [p])).Pairwise (fun x y => ltC cfP y x = false) := ((cut_sorted (key := k) (head := hd) hn hn' hs hs').imp fun {x y} h => swo_cfP.asymmA h).filter _
        rw [← join_eq (fun x hx => hri (hall x hx)) hoks hfin (by omega) hperm hst]
        unfold wholeQ
        cases hj : joinG ((cutL k hd t n).filter fun x => decide (x ∈ C ++ [p])) e0s with
        | none => rfl
        | some w =>
          simp only [Option.bind_some]
          rw [if_neg]
          intro hw
          have h1 := joinG_size hj
          rw [szs_perm hperm] at h1
          have h2 := joinG_size (cut_whole (k := k) (hd := hd) hn hs)
          rw [← szs_perm hp, szs_app, szs_cons] at h2
          rw [szs_app, szs_cons] at h1
          have h3 : szs ([] : List Pc) = 0 := rfl
          have h4 : 0 < szs R := by
            cases R with
            | nil => exact absurd rfl hR
            | cons y R =>
              have hy := (cut_fin (k := k) (hd := hd) hn hn' hs hs' (hp.mem_iff.1 (by simp : y ∈ C ++ p :: y :: R))).2.2
              rw [szs_cons]; omega
          omega
      · have hfin : FinOk (-1) (C ++ [p]) := .inl ⟨rfl, fun x hx => by
          cases hm : x.more
          · exact absurd ⟨x, hx, hm⟩ hlast
          · rfl⟩
        exact join_more hfin (by omega)
    rw [hnone]

omit hn hn' hs hs' in
/-- The one piece of nothing. -/
theorem join_put0 (h0 : t.size = 0) {L : List PD} {C R : List Pc} {p : Pc} (hC : (ofL k L).map (·.1) = C) (hp : (C ++ p :: R).Perm (cutL k hd t n)) : R = [] ∧ C = [] ∧ putD 1000 1000 L p 5 = (wh k hd t 1, true, 0, L) := by
  have ht : t = e0s := emp_iff.2 h0
  rw [cut_zero h0] at hp
  have hl := hp.length_eq
  simp only [List.length_append, List.length_cons, List.length_nil] at hl
  have hC0 : C = [] := List.eq_nil_of_length_eq_zero (by omega)
  have hR0 : R = [] := List.eq_nil_of_length_eq_zero (by omega)
  subst hC0 hR0
  have hp1 := List.perm_singleton.1 hp
  simp only [List.nil_append, List.cons.injEq, and_true] at hp1
  have ho : ofL k L = [] := by simpa using hC
  refine ⟨rfl, rfl, ?_⟩
  subst hp1
  have hr : rightP ⟨k, ⟨#[115]⟩, 0, false, e0s, hd⟩ = true := rfl
  unfold putD
  rw [if_neg (not_not_intro okDue5), if_neg (by rw [hr]; simp)]
  simp only [ho, List.map_nil]
  rw [if_neg (by simp), if_neg (by unfold fitD Oks; simp), if_pos (by simp), ht]
end

/-- A piece that came comes again. -/
theorem put_again {L : List PD} {p : Pc} (hr : rightP p = true) (h : p ∈ (ofL p.key L).map (·.1)) : putD 1000 1000 L p 5 = (zeroW, false, 0, L) := by
  unfold putD
  rw [if_neg (not_not_intro okDue5), if_neg (by rw [hr]; simp), if_pos]
  rw [List.any_eq_true]
  exact ⟨p, h, by unfold sameP; simp⟩
end Go.Proofs

set_option linter.unusedVariables false
set_option maxRecDepth 20000
namespace Go.Proofs
open Go Go.HL

/-- A text that is cut: its key, its head, itself. -/
structure Tx where
  k : ByteArray
  h : ByteArray
  t : ByteArray
def allT (n : Nat) (ps : List Tx) : List Pc := ps.flatMap fun a => cutL a.k a.h a.t n
def isK (k : ByteArray) (p : Pc) : Bool := decide (p.key = k)
/-- What the store has: what came of those of which something is to come. -/
def LD (C R : List Pc) : List PD := (C.filter fun p => R.any (isK p.key)).map fun p => (p, 5)

theorem all_key {n : Nat} {a : Tx} : ∀ {ps : List Tx}, (ps.map (·.k)).Nodup → a ∈ ps → (allT n ps).filter (isK a.k) = cutL a.k a.h a.t n
  | [], _, h => by cases h
  | b :: ps, hn, h => by
    rw [List.map_cons, List.nodup_cons] at hn
    have hall : ∀ c : Tx, ∀ p ∈ cutL c.k c.h c.t n, p.key = c.k := fun c p hp => (cut_fields hp).1
    unfold allT
    rw [List.flatMap_cons, List.filter_append]
    rcases List.mem_cons.1 h with e | h
    · subst e
      have h1 : (cutL a.k a.h a.t n).filter (isK a.k) = cutL a.k a.h a.t n := by
        rw [List.filter_eq_self]; intro p hp; unfold isK; simpa using hall a p hp
      have h2 : (ps.flatMap fun a => cutL a.k a.h a.t n).filter (isK a.k) = [] := by
        rw [List.filter_eq_nil_iff]
        intro p hp
        obtain ⟨c, hc, hpc⟩ := List.mem_flatMap.1 hp
        unfold isK
        rw [hall c p hpc]
        simp only [decide_eq_true_eq]
        exact fun e => hn.1 (by rw [← e]; exact List.mem_map.2 ⟨c, hc, rfl⟩)
      rw [h1, h2, List.append_nil]
    · have h1 : (cutL b.k b.h b.t n).filter (isK a.k) = [] := by
        rw [List.filter_eq_nil_iff]
        intro p hp
        unfold isK
        rw [hall b p hp]
        simp only [decide_eq_true_eq]
        exact fun e => hn.1 (by rw [e]; exact List.mem_map.2 ⟨a, h, rfl⟩)
      rw [h1, List.nil_append]
      exact all_key hn.2 h

theorem LD_of {C R : List Pc} {k : ByteArray} (h : R.any (isK k) = true) : (ofL k (LD C R)).map (·.1) = C.filter (isK k) := by
  unfold ofL LD
  rw [List.filter_map, List.map_map]
  have : ((fun x : PD => x.1) ∘ fun p : Pc => ((p, (5 : Int)) : PD)) = id := rfl
  rw [this, List.map_id, List.filter_filter]
  refine List.filter_congr fun p hp => ?_
  simp only [Function.comp_apply, isK]
  by_cases e : p.key = k
  · rw [e]
    have h' : (R.any fun q => decide (q.key = k)) = true := h
    unfold isK
    rw [h', Bool.and_true]
  · simp [e]
theorem LD_due {C R : List Pc} {k : ByteArray} : ∀ y ∈ ofL k (LD C R), y.2 = 5 := by
  intro y hy
  unfold ofL LD at hy
  obtain ⟨p, _, rfl⟩ := List.mem_map.1 (List.mem_filter.1 hy).1
  rfl
theorem LD_len {C R : List Pc} : (LD C R).length ≤ C.length := by unfold LD; rw [List.length_map]; exact List.length_filter_le _ _

theorem any_of {l : List Pc} {p : Pc} {R : List Pc} (h : l.Perm (p :: R)) (k : ByteArray) : l.any (isK k) = (isK k p || R.any (isK k)) := by rw [any_perm h]; rfl
theorem LD_more {C rest R : List Pc} {p : Pc} (h : rest.Perm (p :: R)) (hm : R.any (isK p.key) = true) : LD (C ++ [p]) R = LD C rest ++ [(p, 5)] := by
  unfold LD
  rw [List.filter_append, List.map_append]
  have h1 : [p].filter (fun p => R.any (isK p.key)) = [p] := by rw [List.filter_cons, if_pos hm]; rfl
  rw [h1]
  congr 2
  refine List.filter_congr fun x _ => ?_
  rw [any_of h]
  by_cases e : isK x.key p = true
  · have : p.key = x.key := by simpa [isK] using e
    rw [e, Bool.true_or, ← this, hm]
  · rw [Bool.not_eq_true] at e
    rw [e, Bool.false_or]
theorem LD_last {C rest R : List Pc} {p : Pc} (h : rest.Perm (p :: R)) (hm : R.any (isK p.key) = false) : LD (C ++ [p]) R = offL p.key (LD C rest) := by
  unfold LD offL
  rw [List.filter_append]
  have h1 : [p].filter (fun p => R.any (isK p.key)) = [] := by rw [List.filter_cons, if_neg (by rw [hm]; simp)]; rfl
  rw [h1, List.append_nil, List.filter_map, List.filter_filter]
  congr 1
  refine List.filter_congr fun x _ => ?_
  rw [any_of h]
  show R.any (isK x.key) = (!decide (x.key = p.key) && (isK x.key p || R.any (isK x.key)))
  by_cases e : x.key = p.key
  · rw [e, hm, decide_eq_true rfl]; rfl
  · have e2 : isK x.key p = false := by unfold isK; exact decide_eq_false fun e' => e e'.symm
    rw [decide_eq_false e, e2]; rfl

section
variable {n : Nat} {ps : List Tx} {C rest R : List Pc} {p : Pc} {a : Tx}

/-- How things stand. -/
structure Jst (n : Nat) (ps : List Tx) (C rest : List Pc) : Prop where
  n0 : 0 < n
  n1 : n ≤ 1000
  n8 : n % 8 = 0
  nd : (ps.map (·.k)).Nodup
  sz : ∀ a ∈ ps, a.t.size ≤ 10000
  perm : (C ++ rest).Perm (allT n ps)
  few : (allT n ps).length < 1000

theorem Jst.mem (h : Jst n ps C rest) (hp : p ∈ C ∨ p ∈ rest) : ∃ a ∈ ps, p ∈ cutL a.k a.h a.t n := by
  have : p ∈ allT n ps := h.perm.mem_iff.1 (List.mem_append.2 hp)
  exact List.mem_flatMap.1 this
theorem Jst.right (h : Jst n ps C rest) (hp : p ∈ C ∨ p ∈ rest) : rightP p = true := by
  obtain ⟨a, ha, hpa⟩ := h.mem hp
  by_cases h0 : a.t.size = 0
  · rw [cut_zero h0, List.mem_singleton] at hpa
    rw [hpa]; rfl
  · exact cut_right h.n0 h.n1 h.n8 (by omega) (h.sz a ha) hpa
theorem Jst.key (h : Jst n ps C rest) (ha : a ∈ ps) : (C.filter (isK a.k) ++ rest.filter (isK a.k)).Perm (cutL a.k a.h a.t n) := by
  have := h.perm.filter (isK a.k)
  rw [List.filter_append, all_key h.nd ha] at this
  exact this
theorem Jst.step (h : Jst n ps C rest) (hr : rest.Perm (p :: R)) : Jst n ps (C ++ [p]) R := by
  refine ⟨h.n0, h.n1, h.n8, h.nd, h.sz, ?_, h.few⟩
  rw [List.append_assoc]
  exact (hr.symm.append_left C).trans h.perm
theorem Jst.lenC (h : Jst n ps C rest) : C.length + rest.length < 1000 := by
  have := h.perm.length_eq; rw [List.length_append] at this; have := h.few; omega

/-- A piece comes. -/
theorem Jst.put (h : Jst n ps C rest) (hr : rest.Perm (p :: R)) (ha : a ∈ ps) (hpa : p ∈ cutL a.k a.h a.t n) :
    (R.any (isK p.key) = false → ∃ c : Int, putD 1000 1000 (LD C rest) p 5 = (wh a.k a.h a.t c, true, 0, LD (C ++ [p]) R)) ∧
    (R.any (isK p.key) = true → putD 1000 1000 (LD C rest) p 5 = (zeroW, false, 0, LD (C ++ [p]) R)) := by
  have hk : p.key = a.k := (cut_fields hpa).1
  have hperm := h.key ha
  have hrf : (rest.filter (isK a.k)).Perm (p :: R.filter (isK a.k)) := by
    have := hr.filter (isK a.k)
    rw [List.filter_cons, if_pos (by unfold isK; simpa using hk)] at this
    exact this
  have hperm2 : (C.filter (isK a.k) ++ p :: R.filter (isK a.k)).Perm (cutL a.k a.h a.t n) := (hrf.symm.append_left _).trans hperm
  have hany : rest.any (isK a.k) = true := by rw [any_of hr]; unfold isK; simp [hk]
  have hof := LD_of (C := C) hany
  have hRe : R.any (isK p.key) = false ↔ R.filter (isK a.k) = [] := by
    rw [hk, List.filter_eq_nil_iff, List.any_eq_false]
  have hlen : (LD C rest).length < 1000 := by have := LD_len (C := C) (R := rest); have := h.lenC; omega
  by_cases h0 : a.t.size = 0
  · obtain ⟨r1, r2, r3⟩ := join_put0 (t := a.t) h0 hof hperm2
    refine ⟨fun hf => ⟨1, ?_⟩, fun hf => ?_⟩
    · rw [r3, LD_last hr hf, hk]
      congr 3
      unfold offL
      rw [eq_comm, List.filter_eq_self]
      intro x hx
      have : x ∉ ofL a.k (LD C rest) := fun hm => by
        have : (ofL a.k (LD C rest)).map (·.1) = [] := hof.trans r2
        have : ofL a.k (LD C rest) = [] := by simpa using this
        rw [this] at hm; cases hm
      have : ¬ x.1.key = a.k := fun e => this (by unfold ofL; exact List.mem_filter.2 ⟨hx, by simpa using e⟩)
      simpa using this
    · rw [hRe.2 r1] at hf; cases hf
  · have hj := join_put (k := a.k) (hd := a.h) (t := a.t) h.n0 h.n1 h.n8 (by omega) (h.sz a ha) hof LD_due hperm2 hlen
    refine ⟨fun hf => ?_, fun hf => ?_⟩
    · obtain ⟨c, hc⟩ := hj.1 (hRe.1 hf)
      exact ⟨c, by rw [hc, LD_last hr hf, hk]⟩
    · rw [hj.2 (fun e => by rw [hRe.2 e] at hf; cases hf), LD_more hr hf]

/-- One that came comes again, while others are to come. -/
theorem Jst.again (h : Jst n ps C rest) (hp : p ∈ C) (hm : rest.any (isK p.key) = true) : putD 1000 1000 (LD C rest) p 5 = (zeroW, false, 0, LD C rest) := by
  refine put_again (h.right (.inl hp)) ?_
  rw [LD_of hm]
  exact List.mem_filter.2 ⟨hp, by unfold isK; simp⟩
theorem LD_nil : LD C [] = [] := by
  unfold LD
  have : (C.filter fun p => ([] : List Pc).any (isK p.key)) = [] := by rw [List.filter_eq_nil_iff]; intro p _; simp
  rw [this]; rfl
end
end Go.Proofs

set_option linter.unusedVariables false
set_option maxRecDepth 20000
namespace Go.Proofs
open Go Go.HL

section
variable {hp0 hp hq hq' hp' : HP} {q m mo : Nat} {S : Stt}

/-- The store alone. -/
theorem StR.alone (h : StR hp0 hp q m mo S) : StR (fun _ => .none) (HP.off hp hp0) q m mo S := by
  obtain ⟨a1, a2, a3, a4, a5, a6, a7, a8, a9, r⟩ := h
  have e : ∀ {x}, hp0 x = .none → HP.off hp hp0 x = hp x := fun hx => HP.off_none hx
  refine ⟨fun x => .inl rfl, rfl, rfl, rfl, a5, by rw [e a2]; exact a6, by rw [e a3]; exact a7, by rw [e a4]; exact a8, fun kd hkd => ?_, r⟩
  obtain ⟨⟨g0, c, g1, g2, g3⟩, z1, z2⟩ := a9 kd hkd
  exact ⟨⟨g0, c, g1, by rw [e z1]; exact g2, by rw [e z2]; exact g3⟩, rfl, rfl⟩

/-- What lies beside the store takes a step. -/
theorem StR.side (h : StR hp0 hp q m mo S) (hs : HSub hq hp0) (hs' : HSub hq' hp') (hf : ∀ r, HSub r hp → Disj hq r → HSub r hp' ∧ Disj hq' r) : StR (HP.un hq' (HP.off hp0 hq)) hp' q m mo S := by
  have d1 : Disj hq (HP.off hp hp0) := fun x => by
    by_cases hx : hp0 x = .none
    · exact .inl (hs.none hx)
    · exact .inr (HP.off_some hx)
  obtain ⟨k1, k2⟩ := hf _ (HSub.off hp hp0) d1
  obtain ⟨k3, k4⟩ := hf _ ((HSub.off hp0 hq).trans h.1) (Disj.off hp0 hq)
  have ha := h.alone.sub k1
  obtain ⟨a1, a2, a3, a4, a5, a6, a7, a8, a9, r⟩ := ha
  obtain ⟨b1, b2, b3, b4, b5, b6, b7, b8, b9, _⟩ := h.alone
  obtain ⟨_, c2, c3, c4, _, _, _, _, c9, _⟩ := h
  obtain ⟨o1, e1⟩ := mapE_obj b7
  obtain ⟨o2, e2⟩ := mapE_obj b8
  have off : ∀ {x y}, hp0 x = .none → HP.off hp hp0 x = y → y ≠ .none → HP.un hq' (HP.off hp0 hq) x = .none := fun {x y} h0 hx hy => by
    have hq1 : hq' x = .none := (k2 x).resolve_right fun e => hy (by rw [← hx, e])
    rw [HP.un_none hq1]
    exact (HSub.off hp0 hq).none h0
  refine ⟨fun x => ?_, off c2 b6 (by simp), off c3 e1 (by simp), off c4 e2 (by simp), a5, a6, a7, a8, fun kd hkd => ⟨(a9 kd hkd).1, ?_, ?_⟩, r⟩
  · by_cases hx : hq' x = .none
    · rw [HP.un_none hx]; exact k3 x
    · rw [HP.un_some hx]; exact hs' x
  · obtain ⟨⟨_, c, _, g2, g3⟩, _, _⟩ := b9 kd hkd
    exact off (c9 kd hkd).2.1 g2 (by simp)
  · obtain ⟨⟨_, c, _, g2, g3⟩, _, _⟩ := b9 kd hkd
    exact off (c9 kd hkd).2.2 g3 (by simp)
/-- A block beside the store is written. -/
theorem StR.upd {R : HP} {ob : Nat} {e e' : Ent} (h : StR (R.set ob e) hp q m mo S) (he : e ≠ .none) (hR : R ob = .none) : StR (R.set ob e') (hp.set ob e') q m mo S := by
  have hn : ∀ x, (hp.set ob .none) x = .none ∨ (hp.set ob .none) x = (hp.set ob e') x := fun x => by
    by_cases hx : x = ob
    · subst hx; exact .inl (HP.set_eq ..)
    · rw [HP.set_ne _ _ hx, HP.set_ne _ _ hx]; exact .inr rfl
  exact (h.cut he hR).add (HP.set_eq ..) hn (HP.set_eq ..)
/-- What lies beside a part that takes a step stays. -/
theorem HSub.side {r : HP} (h : HSub r hp0) (hd : Disj hq r) (hf : Disj hq' (HP.off hp0 hq)) : HSub r (HP.un hq' (HP.off hp0 hq)) :=
  (h.off_of hd).trans (HSub.un_right hf)
end
end Go.Proofs

set_option linter.unusedVariables false
set_option maxRecDepth 20000
namespace Go.Proofs
open Go Go.HL

theorem rdS_byte {hp : HP} {b : Nat} {x : UInt8} {c : Value → Prop} (hb : hp b = .cells 5 [.int .u8 (x.toNat : Int)] 0) (h : c (.string ⟨#[x]⟩)) : rdS Try.prog (convert 98 9 (.slice (some ⟨b, 0, none⟩) 1 1)) hp c := by
  refine ⟨_, fun F w0 w hf => ?_, h⟩
  have := run_convert_bytes_back (P := Try.prog) w 98 9 5 ⟨b, 0, none⟩ 1 [x] (by kernel_rfl) (by kernel_rfl) (by kernel_rfl) (fun j hj => by
    have hj0 : j = 0 := by simpa using hj
    subst hj0
    rw [add_eq]
    exact hf.cell (by rw [HP.cell_of hb]; rfl))
  exact this

/-- Two rows of pieces beside the store. -/
def Two (R0 hp : HP) (q m mo : Nat) (S : Stt) (s1 : Option Addr) (n1 c1 : Nat) (xs1 : List Value) (s2 : Option Addr) (n2 c2 : Nat) (xs2 : List Value) : Prop :=
  ∃ C, StR R0 C q m mo S ∧ HSub C hp ∧ Row hp s1 n1 c1 29 6 xs1 ∧ Row hp s2 n2 c2 29 6 xs2 ∧ (∀ b, s1 = some ⟨b, 0, none⟩ → C b = .none) ∧ (∀ b, s2 = some ⟨b, 0, none⟩ → C b = .none) ∧ ∀ b, s1 = some ⟨b, 0, none⟩ → s2 ≠ some ⟨b, 0, none⟩

section
variable {R0 hp hp' : HP} {q m mo : Nat} {S S' : Stt} {s1 s2 : Option Addr} {n1 c1 n2 c2 : Nat} {xs1 xs2 : List Value}

theorem Two.swap (h : Two R0 hp q m mo S s1 n1 c1 xs1 s2 n2 c2 xs2) : Two R0 hp q m mo S s2 n2 c2 xs2 s1 n1 c1 xs1 := by
  obtain ⟨C, h1, h2, h3, h4, h5, h6, h7⟩ := h
  exact ⟨C, h1, h2, h4, h3, h6, h5, fun b e e' => h7 b e' e⟩
theorem Two.sub (h : Two R0 hp q m mo S s1 n1 c1 xs1 s2 n2 c2 xs2) (hs : HSub hp hp') : Two R0 hp' q m mo S s1 n1 c1 xs1 s2 n2 c2 xs2 := by
  obtain ⟨C, h1, h2, h3, h4, h5, h6, h7⟩ := h
  exact ⟨C, h1, h2.trans hs, h3.sub hs, h4.sub hs, h5, h6, h7⟩
theorem Two.st (h : Two R0 hp q m mo S s1 n1 c1 xs1 s2 n2 c2 xs2) : StR R0 hp q m mo S := by
  obtain ⟨C, h1, h2, _⟩ := h
  exact h1.sub h2
theorem Two.row1 (h : Two R0 hp q m mo S s1 n1 c1 xs1 s2 n2 c2 xs2) : Row hp s1 n1 c1 29 6 xs1 := by obtain ⟨C, h1, h2, h3, _⟩ := h; exact h3
theorem Two.row2 (h : Two R0 hp q m mo S s1 n1 c1 xs1 s2 n2 c2 xs2) : Row hp s2 n2 c2 29 6 xs2 := by obtain ⟨C, h1, h2, _, h4, _⟩ := h; exact h4

/-- A new first row. -/
theorem Two.new1 (h : Two R0 hp q m mo S s1 n1 c1 xs1 s2 n2 c2 xs2) (hs : HSub hp hp') {s : Option Addr} {n c : Nat} {xs : List Value} (hr : Row hp' s n c 29 6 xs) (hf : ∀ b, s = some ⟨b, 0, none⟩ → hp b = .none) :
    Two R0 hp' q m mo S s n c xs s2 n2 c2 xs2 := by
  obtain ⟨C, h1, h2, h3, h4, h5, h6, h7⟩ := h
  refine ⟨C, h1, h2.trans hs, hr, h4.sub hs, fun b e => h2.none (hf b e), h6, fun b e e' => ?_⟩
  rcases h4 with ⟨g, _⟩ | ⟨b', g, _, _, g3⟩
  · rw [g] at e'; cases e'
  · rw [g] at e'; cases e'
    rw [hf b e] at g3; cases g3
/-- The first row, behind an append. -/
theorem Two.app1 (h : Two R0 hp q m mo S s1 n1 c1 xs1 s2 n2 c2 xs2) {s : Option Addr} {n c : Nat} {xs : List Value} (hr : Row hp' s n c 29 6 xs)
    (hf : ∀ h0 : HP, HSub h0 hp → (∀ b', s1 = some ⟨b', 0, none⟩ → h0 b' = .none) → HSub h0 hp' ∧ ∀ b', s = some ⟨b', 0, none⟩ → h0 b' = .none) : Two R0 hp' q m mo S s n c xs s2 n2 c2 xs2 := by
  obtain ⟨C, h1, h2, h3, h4, h5, h6, h7⟩ := h
  rcases h4 with ⟨rfl, g⟩ | ⟨b2, rfl, g1, g2, g3⟩
  · obtain ⟨k1, k2⟩ := hf C h2 h5
    exact ⟨C, h1, k1, hr, .inl ⟨rfl, g⟩, k2, (fun b e => (by cases e)), (fun b e e' => (by cases e'))⟩
  · have hne : ∀ b', s1 = some ⟨b', 0, none⟩ → b' ≠ b2 := fun b' e e' => h7 b' e (by rw [e'])
    have hs2 : HSub (C.set b2 (.cells 29 xs2 ((c2 - n2) * 6))) hp := h2.set_of g3
    obtain ⟨k1, k2⟩ := hf _ hs2 fun b' e => by rw [HP.set_ne _ _ (hne b' e)]; exact h5 b' e
    have hsC : HSub C (C.set b2 (.cells 29 xs2 ((c2 - n2) * 6))) := HSub.set_fresh C _ (h6 b2 rfl)
    refine ⟨C, h1, hsC.trans k1, hr, .inr ⟨b2, rfl, g1, g2, k1.cells (HP.set_eq ..)⟩, fun b e => hsC.none (k2 b e), h6, fun b e e' => ?_⟩
    cases e'
    have := k2 b2 e
    rw [HP.set_eq] at this; cases this

theorem StR.row {R C : HP} {s : Option Addr} {n c : Nat} {xs : List Value} (h : StR R C q m mo S) (hs : HSub C hp) (hr : Row hp s n c 29 6 xs) (hC : ∀ b, s = some ⟨b, 0, none⟩ → C b = .none) : ∃ C', StR (outH R 29 6 s n c xs) C' q m mo S ∧ HSub C' hp ∧ ∀ x, C' x ≠ C x → s = some ⟨x, 0, none⟩ := by
  rcases hr with ⟨rfl, g⟩ | ⟨b, rfl, g1, g2, g3⟩
  · exact ⟨C, h, hs, fun x e => absurd rfl e⟩
  · refine ⟨C.set b (.cells 29 xs ((c - n) * 6)), h.add (hC b rfl) (HSub.set_fresh C _ (hC b rfl)) (HP.set_eq ..), hs.set_of g3, fun x e => ?_⟩
    by_cases hx : x = b
    · rw [hx]
    · exact absurd (HP.set_ne _ _ hx) e

/-- The store takes a step. -/
theorem Two.stp (h : Two R0 hp q m mo S s1 n1 c1 xs1 s2 n2 c2 xs2) (hs : Stp q m mo hp S hp' S') : Two R0 hp' q m mo S' s1 n1 c1 xs1 s2 n2 c2 xs2 := by
  obtain ⟨C, h1, h2, h3, h4, h5, h6, h7⟩ := h
  have hR0 : ∀ {b}, C b = .none → R0 b = .none := fun hb => h1.1.none hb
  obtain ⟨C1, k1, k2, k3⟩ := h1.row h2 h3 h5
  have h6' : ∀ b, s2 = some ⟨b, 0, none⟩ → C1 b = .none := fun b e => by
    refine Classical.byContradiction fun hc => ?_
    have : C1 b ≠ C b := fun e' => hc (by rw [e', h6 b e])
    exact h7 b (k3 b this) e
  obtain ⟨C2, l1, l2, _⟩ := k1.row k2 h4 h6'
  have g := hs _ (l1.sub l2)
  -- the rows are where they were
  have r2 : Row hp' s2 n2 c2 29 6 xs2 := by
    rcases h4 with g' | ⟨b, rfl, g1, g2, g3⟩
    · exact .inl g'
    · exact .inr ⟨b, rfl, g1, g2, g.1.cells (HP.set_eq ..)⟩
  have r1 : Row hp' s1 n1 c1 29 6 xs1 := by
    rcases h3 with g' | ⟨b, rfl, g1, g2, g3⟩
    · exact .inl g'
    · refine .inr ⟨b, rfl, g1, g2, g.1.cells ?_⟩
      rcases h4 with ⟨rfl, _⟩ | ⟨b2, rfl, _⟩
      · exact HP.set_eq ..
      · show HP.set _ b2 _ b = _
        rw [HP.set_ne _ _ (fun e => h7 b rfl (by rw [e]))]; exact HP.set_eq ..
  -- the second row is forgotten
  obtain ⟨D2, m1, m2, m3⟩ : ∃ D2, StR (outH R0 29 6 s1 n1 c1 xs1) D2 q m mo S' ∧ HSub D2 hp' ∧ ∀ b, s2 = some ⟨b, 0, none⟩ → D2 b = .none := by
    rcases h4 with ⟨rfl, _⟩ | ⟨b2, rfl, _⟩
    · exact ⟨hp', g, HSub.refl _, fun b e => by cases e⟩
    · have hz : outH R0 29 6 s1 n1 c1 xs1 b2 = .none := k1.1.none (h6' b2 rfl)
      refine ⟨hp'.set b2 .none, StR.cut g (by simp) hz, fun x => ?_, fun b e => by cases e; exact HP.set_eq ..⟩
      by_cases hx : x = b2
      · subst hx; exact .inl (HP.set_eq ..)
      · exact .inr (HP.set_ne _ _ hx)
  rcases h3 with ⟨rfl, _⟩ | ⟨b1, rfl, _⟩
  · exact ⟨D2, m1, m2, r1, r2, (fun b e => (by cases e)), m3, (fun b e => (by cases e))⟩
  · refine ⟨D2.set b1 .none, StR.cut m1 (by simp) (hR0 (h5 b1 rfl)), fun x => ?_, r1, r2, (fun b e => (by cases e; exact HP.set_eq ..)), fun b e => ?_, h7⟩
    · by_cases hx : x = b1
      · subst hx; exact .inl (HP.set_eq ..)
      · rw [HP.set_ne _ _ hx]; exact m2 x
    · by_cases hx : b = b1
      · subst hx; exact HP.set_eq ..
      · rw [HP.set_ne _ _ hx]; exact m3 b e

/-- A map beside the store is written. -/
theorem Two.map {ob : Nat} {e e' : Ent} (h : Two (R0.set ob e) hp q m mo S s1 n1 c1 xs1 s2 n2 c2 xs2) (he : ∃ o, e = .obj o) (he' : ∃ o, e' = .obj o) (hR : R0 ob = .none) : Two (R0.set ob e') (hp.set ob e') q m mo S s1 n1 c1 xs1 s2 n2 c2 xs2 := by
  obtain ⟨C, h1, h2, h3, h4, h5, h6, h7⟩ := h
  obtain ⟨o, rfl⟩ := he
  obtain ⟨o', rfl⟩ := he'
  have hCo : C ob = .obj o := h1.1.obj (HP.set_eq ..)
  have hho : hp ob = .obj o := h2.obj hCo
  refine ⟨C.set ob (.obj o'), StR.upd h1 (by simp) hR, h2.set _ _, h3.set_obj hho _, h4.set_obj hho _, fun b e => ?_, fun b e => ?_, h7⟩
  · rw [HP.set_ne _ _ (fun e' => by have := h5 b e; rw [e', hCo] at this; cases this)]; exact h5 b e
  · rw [HP.set_ne _ _ (fun e' => by have := h6 b e; rw [e', hCo] at this; cases this)]; exact h6 b e
end
end Go.Proofs

set_option linter.unusedVariables false
set_option maxRecDepth 20000
namespace Go.Proofs
open Go Go.HL

theorem S137e {v : Value} {hp : HP} {K : Value → HP → Prop} (h : K (.tuple ⟨[]⟩) hp) : CF Try.prog 137 [.slice none 0 0, v] hp K := by
  refine F137_ok none 0 0 v hp K ?_
  unfold F137
  rw [wu64 (by omega) (by omega)]
  refine C129 (n := 0) (by omega) fun L hL _ _ => ?_
  rw [intV_int]
  refine F166_ok none 0 0 ((0 : Nat) : Int) ((0 : Nat) : Int) L _ hp _ ?_
  unfold F166 F166_j1
  refine LoopP.by (J := fun k (s : Int × Int × Int × Bool × Bool) hp' => s.1 = 0 ∧ s.2.1 = 0 ∧ hp' = hp) ?_ (n := 0) ⟨rfl, rfl, rfl⟩
  rintro I k ⟨a, e, lim, wb, wp⟩ hp' ⟨h1, h2, rfl⟩ hI
  simp only at h1 h2
  subst h1 h2
  unfold F166_l2
  simp only []
  have w0 : IntKind.wrap .i64 ((0 : Int) - 0) = 0 := by rw [w64 (by omega) (by omega)]; omega
  rw [w0, decide_eq_true (by omega : (0 : Int) ≤ 12), ite2_true]
  refine F180_ok none 0 0 0 0 _ hp' _ ?_
  unfold F180 F180_j1
  have w1 : IntKind.wrap .i64 ((0 : Int) + 1) = 1 := by rw [w64 (by omega) (by omega)]; omega
  rw [w1]
  refine LoopP.by (J := fun k (x : Int) hp2 => x = 1 ∧ hp2 = hp') ?_ (n := 0) ⟨rfl, rfl⟩
  rintro I2 k2 x hp2 ⟨rfl, rfl⟩ hI2
  unfold F180_l2
  rw [decide_eq_false (by omega : ¬ (1 : Int) < 0), ite2_false]
  exact h

section
variable {hp0 hp : HP} {q m mo : Nat} {S : Stt} {K : Value → HP → Prop}
theorem C60e (h : StR hp0 hp q m mo S) (hD : S.D = []) (hK : ∀ hp', HSub hp hp' → K (.slice none 0 0) hp') : CF Try.prog 60 [ptr q 0] hp K := by
  refine F60_ok _ hp K ?_
  unfold F60
  refine C75 h ?_
  rw [boolV_bool, ite2_false]
  refine F107_ok _ _ hp _ ?_
  unfold F107
  intro b1 hb1 b2 hb2
  have hfc : Array.toList (Value.cells (.func (.func 108) ⟨[]⟩ ⟨[]⟩)) = [Value.func (.func 108) ⟨[]⟩ ⟨[]⟩] := rfl
  rw [hfc]
  have pp0 : (Value.pointer (some ⟨q, 0, none⟩)) = ptr q 0 := rfl
  rw [pp0] at hb2 ⊢
  have n21 : b2 ≠ b1 := fun e => by rw [e, HP.set_eq] at hb2; cases hb2
  have s1 := HSub.set_fresh hp (.cells 31 [ptr q 0] 0) hb1
  have s2 := s1.trans (HSub.set_fresh _ (.cells 169 [Value.func (.func 108) ⟨[]⟩ ⟨[]⟩] 0) hb2)
  have x1 : ((hp.set b1 (.cells 31 [ptr q 0] 0)).set b2 (.cells 169 [Value.func (.func 108) ⟨[]⟩ ⟨[]⟩] 0)) b1 = .cells 31 [ptr q 0] 0 := by rw [HP.set_ne _ _ n21.symm, HP.set_eq]
  have g1 := h.sub s2
  generalize (hp.set b1 (.cells 31 [ptr q 0] 0)).set b2 (.cells 169 [Value.func (.func 108) ⟨[]⟩ ⟨[]⟩] 0) = hp1 at *
  have c4 : ∀ S : Stt, (stc S m mo)[4]? = some (.map (some m)) := fun _ => rfl
  have c1 : ∀ o, hp1.cell b1 o = [ptr q 0][o]? := fun o => HP.cell_of x1
  have pp : ∀ c : Option Addr → Prop, ptrV (ptr q 0) c = c (some ⟨q, 0, none⟩) := fun _ => rfl
  simp only [ptrN_some, c1, List.getElem?_cons_zero, ldV_some, pp, g1.cell, Nat.zero_add, c4, mapV_map]
  refine opS_range u128 g1.mapD fun it e hit hI0 => ?_
  unfold F107_j2
  refine LoopP.by (J := fun k (s : Option Addr × Nat × Nat) hp' => s = (none, 0, 0) ∧ HSub hp1 hp' ∧ IterR hp' it m sw dv S.D []) ?_ (n := 0) ⟨rfl, (HSub.refl hp1).up hit e, hI0⟩
  rintro I k s hp2 ⟨rfl, hs, hI⟩ hgo
  unfold F107_l3
  refine opS_next hI ?_ ?_
  · intro _
    simp only [tupI]
    show ldV (some (Value.bool false)) _
    rw [ldV_some, boolV_bool, ite2_false]
    unfold F107_j1
    refine S137e ?_
    simp only [slcV_slice]
    exact hK hp2 (s2.trans hs)
  · intro kv hkv
    rw [hD] at hkv; cases hkv
end
end Go.Proofs

set_option linter.unusedVariables false
set_option maxRecDepth 20000
namespace Go.Proofs
open Go Go.HL
-- 15 interpreter/interpreterlaw16.FragJoins
section
variable (e : Env) (x0a : Option Addr) (x0n x0c : Nat) (x1 : Int) (x2a : Option Addr) (x2n x2c : Nat) (x7 : Option Addr) (x8 : Int) (x9a : Option Addr) (x9n x9c : Nat) (x10 : Option Nat) (x11 : Int) (x12 : ByteArray) (x13a : Option Addr) (x13n x13c : Nat) (x14a : Option Addr) (x14n x14c : Nat) (x15 x16 : Int) (x19 : Bool) (x20 : Int) (x23 : Bool) (x24 : Int) (k17 k21 k22 : List Value) (hp : HP) (K : Env → PV → HP → Prop)
abbrev R15 (p : List Nat) (n : Nat) := RW Try.prog 215 [17, 18, 21, 22, 118, 153, 169, 177, 180, 189, 191, 196, 198] (opsAt Try.f15 p) (List.range n)
theorem F15_r0 : R15 [0] 1 e V0 hp K =
    (K (upd e 6 (sB false)) V0 hp) := by kernel_rfl
theorem F15_r1 : R15 [1, 0, 1, 0, 0] 2 e V0 hp K =
    (CF Try.prog 22 [] hp fun u1 h2 => (boolV u1 fun q3 => (K (upd (upd e 33 (sB q3)) 6 (sB q3)) V0 h2))) := by kernel_rfl
theorem F15_r2 : R15 [1, 1, 0] 6 e V0 hp K =
    (CF Try.prog 25 [(.int .i64 1000), (.int .i64 1000)] hp fun u1 h2 => (tup2V u1 fun u3 u4 => (ptrV u3 fun p5 => (intV u4 .i64 fun i6 => (K (upd (upd (upd (upd (upd (upd e 35 (sV (.tuple ⟨[(.pointer p5), (.int .i64 i6)]⟩))) 34 (sV (.tuple ⟨[(.pointer p5), (.int .i64 i6)]⟩))) 36 (sP p5)) 37 (sI i6)) 7 (sP p5)) 8 (sI i6)) V0 h2))))) := by kernel_rfl
theorem F15_r3 : R15 [1, 1, 1, 0, 0] 2 (upd e 8 (sI x8)) V0 hp K =
    (K (upd (upd (upd e 8 (sI x8)) 38 (sI x8)) 39 (sB ((x8 != 0)))) V0 hp) := by kernel_rfl
theorem F15_r4 : R15 [1, 1, 1, 0, 1, 0, 0] 1 e V0 hp K =
    (K (upd e 6 (sB false)) V0 hp) := by kernel_rfl
theorem F15_r5 : R15 [1, 1, 1, 1, 0] 1 e V0 hp K =
    (K (upd e 9 (sS none 0 0)) V0 hp) := by kernel_rfl
theorem F15_r6 : R15 [1, 1, 1, 1, 1, 0] 2 e V0 hp K =
    (∀ b1 : Nat, hp b1 = .none → (K (upd (upd e 40 (sV (.map (some b1)))) 10 (sV (.map (some b1)))) V0 (HP.set hp b1 (.obj (.map #[] 0))))) := by kernel_rfl
theorem F15_r7 : R15 [1, 1, 1, 1, 1, 1, 1, 0] 1 e V0 hp K =
    (K (upd e 14 (sS none 0 0)) V0 hp) := by kernel_rfl
theorem F15_r8 : R15 [1, 1, 1, 1, 1, 1, 1, 1, 1, 0] 13 (upd e 7 (sP x7)) V0 hp K =
    (CF Try.prog 27 [(.pointer x7)] hp fun u1 h2 => (intV u1 .i64 fun i3 => (ite2 (i3 == 0) (CF Try.prog 60 [(.pointer x7)] h2 fun u4 h5 => (slcV u4 fun a6 n7 c8 => (ite2 (((n7 : Nat) : Int) == 0) (CF Try.prog 22 [] h5 fun u9 h10 => (boolV u9 fun q11 => (K (upd (upd (upd (upd (upd (upd (upd (upd (upd (upd (upd (upd (upd (upd e 7 (sP x7)) 203 (sP x7)) 204 (sI i3)) 205 (sB ((i3 == 0)))) 206 (sB true)) 207 (sP x7)) 208 (sS a6 n7 c8)) 209 (sI ((n7 : Nat)))) 210 (sB ((((n7 : Nat) : Int) == 0)))) 211 (sB ((((n7 : Nat) : Int) == 0)))) 212 (sB true)) 213 (sB q11)) 214 (sB q11)) 6 (sB q11)) V0 h10))) (K (upd (upd (upd (upd (upd (upd (upd (upd (upd (upd (upd (upd (upd (upd e 7 (sP x7)) 203 (sP x7)) 204 (sI i3)) 205 (sB ((i3 == 0)))) 206 (sB true)) 207 (sP x7)) 208 (sS a6 n7 c8)) 209 (sI ((n7 : Nat)))) 210 (sB ((((n7 : Nat) : Int) == 0)))) 211 (sB ((((n7 : Nat) : Int) == 0)))) 212 (sB false)) 213 sU) 214 (sB false)) 6 (sB false)) V0 h5)))) (K (upd (upd (upd (upd (upd (upd (upd (upd (upd (upd (upd (upd (upd (upd e 7 (sP x7)) 203 (sP x7)) 204 (sI i3)) 205 (sB ((i3 == 0)))) 206 (sB false)) 207 sU) 208 sU) 209 sU) 210 sU) 211 (sB false)) 212 (sB false)) 213 sU) 214 (sB false)) 6 (sB false)) V0 h2)))) := by kernel_rfl
def F15_j3 (x7 : Option Addr) (hp : HP) (K : Value → HP → Prop) : Prop :=
  (CF Try.prog 27 [(.pointer x7)] hp fun u_11 h_12 => (intV u_11 .i64 fun i_13 => (ite2 (i_13 == 0) (CF Try.prog 60 [(.pointer x7)] h_12 fun u_14 h_15 => (slcV u_14 fun a_16 n_17 c_18 => (ite2 (((n_17 : Nat) : Int) == 0) (CF Try.prog 22 [] h_15 fun u_19 h_20 => (boolV u_19 fun q_21 => (K (.bool q_21) h_20))) (K (.bool false) h_15)))) (K (.bool false) h_12))))
theorem F15_r9 : R15 [1, 1, 1, 1, 1, 1, 1, 1, 0, 1, 0, 0, 0, 0] 3 (upd e 9 (sS x9a x9n x9c)) V0 hp K =
    (K (upd (upd (upd (upd e 9 (sS x9a x9n x9c)) 79 (sS x9a x9n x9c)) 80 (sI ((x9n : Nat)))) 81 (sB ((decide (((x9n : Nat) : Int) > 0))))) V0 hp) := by kernel_rfl
theorem F15_r10 : R15 [1, 1, 1, 1, 1, 1, 1, 1, 0, 1, 0, 0, 1, 0, 0, 0] 1 e V0 hp K =
    (K (upd e 16 (sI 0)) V0 hp) := by kernel_rfl
theorem F15_r11 : R15 [1, 1, 1, 1, 1, 1, 1, 1, 0, 1, 0, 0, 1, 0, 0, 1, 1, 0] 6 (upd (upd e 16 (sI x16)) 9 (sS x9a x9n x9c)) V0 hp K =
    ((0 ≤ x16) ∧ (x16 < x9n) ∧ (ptrN x9a fun b1 o2 => (ldL (HP.cellN hp b1 (o2 + Int.toNat x16 * 6) 6) fun l3 => (if List.length l3 = 6 then (if List.all l3 one = true then (if 0 + List.length l3 ≤ List.length [(Value.string ⟨#[]⟩), .string ⟨#[]⟩, .int .i64 0, .bool false, .string ⟨#[]⟩, .string ⟨#[]⟩] then (K (upd (upd (upd (upd (upd (upd (upd e 16 (sI x16)) 9 (sS x9a x9n x9c)) 134 (sS x9a x9n x9c)) 135 (sI x16)) 136 (sQ b1 (o2 + Int.toNat x16 * 6))) 137 (sA l3)) 21 (sR 21 0)) (upd (upd V0 21 (29, [.string ⟨#[]⟩, .string ⟨#[]⟩, .int .i64 0, .bool false, .string ⟨#[]⟩, .string ⟨#[]⟩])) 21 (29, (splice [.string ⟨#[]⟩, .string ⟨#[]⟩, .int .i64 0, .bool false, .string ⟨#[]⟩, .string ⟨#[]⟩] 0 l3))) hp) else False) else False) else False)))) := by kernel_rfl
theorem F15_r12 : R15 [1, 1, 1, 1, 1, 1, 1, 1, 0, 1, 0, 0, 1, 0, 0, 1, 1, 1, 0] 11 (upd (upd e 16 (sI x16)) 9 (sS x9a x9n x9c)) (upd V0 21 (29, k21)) hp K =
    (∀ b1 : Nat, hp b1 = .none → ((0 ≤ x16) ∧ (x16 ≤ (x9c : Nat)) ∧ (opS Try.prog (Builtin.append_ #[26, 26] 26 ⟨[(.slice (some ⟨b1, 0, none⟩) 0 0), (.slice x9a (Int.toNat x16) x9c)]⟩) (HP.set hp b1 (.cells 29 [] 0)) fun u2 h3 => (slcV u2 fun a4 n5 c6 => ((0 ≤ ((wr (x16 + 1)) : Int)) ∧ (((wr (x16 + 1)) : Int) ≤ x9n) ∧ (x9n ≤ x9c) ∧ (opS Try.prog (Builtin.append_ #[26, 26] 26 ⟨[(.slice a4 n5 c6), (.slice (sub0 x9a x9c (Int.toNat (wr (x16 + 1))) 6) (x9n - Int.toNat (wr (x16 + 1))) (x9c - Int.toNat (wr (x16 + 1))))]⟩) h3 fun u7 h8 => (slcV u7 fun a9 n10 c11 => (K (upd (upd (upd (upd (upd (upd (upd (upd (upd (upd (upd (upd (upd e 16 (sI x16)) 9 (sS x9a x9n x9c)) 138 (sV (.slice (some ⟨b1, 0, none⟩) 0 0))) 139 (sS x9a x9n x9c)) 140 (sI x16)) 141 (sV (.slice x9a (Int.toNat x16) x9c))) 142 (sS a4 n5 c6)) 143 (sS x9a x9n x9c)) 144 (sI x16)) 145 (sI ((wr (x16 + 1))))) 146 (sV (.slice (sub0 x9a x9c (Int.toNat (wr (x16 + 1))) 6) (x9n - Int.toNat (wr (x16 + 1))) (x9c - Int.toNat (wr (x16 + 1)))))) 147 (sS a9 n10 c11)) 9 (sS a9 n10 c11)) (upd V0 21 (29, k21)) h8)))))))) := by kernel_rfl
theorem F15_r13 : R15 [1, 1, 1, 1, 1, 1, 1, 1, 0, 1, 0, 0, 1, 0, 0, 1, 1, 1, 1, 0] 5 (upd (upd e 21 (sR 21 0)) 14 (sS x14a x14n x14c)) (upd V0 21 (29, k21)) hp K =
    (ldL (cellsN k21 0 6) fun l1 => (if List.length l1 = 6 then (∀ b2 : Nat, hp b2 = .none → (opS Try.prog (Builtin.append_ #[26, 26] 26 ⟨[(.slice x14a x14n x14c), (.slice (some ⟨b2, 0, none⟩) 1 1)]⟩) (HP.set hp b2 (.cells 29 (splice [.string ⟨#[]⟩, .string ⟨#[]⟩, .int .i64 0, .bool false, .string ⟨#[]⟩, .string ⟨#[]⟩] 0 l1) 0)) fun u3 h4 => (slcV u3 fun a5 n6 c7 => (K (upd (upd (upd (upd (upd (upd (upd e 21 (sR 21 0)) 14 (sS x14a x14n x14c)) 148 (sS x14a x14n x14c)) 149 (sA l1)) 150 (sV (.slice (some ⟨b2, 0, none⟩) 1 1))) 151 (sS a5 n6 c7)) 14 (sS a5 n6 c7)) (upd V0 21 (29, k21)) h4)))) else False)) := by kernel_rfl
theorem F15_r14 : R15 [1, 1, 1, 1, 1, 1, 1, 1, 0, 1, 0, 0, 1, 0, 0, 1, 1, 1, 1, 1, 0] 6 (upd (upd e 21 (sR 21 0)) 10 (sV (.map x10))) (upd V0 21 (29, k21)) hp K =
    (ldV (k21)[0]? fun v1 => (strV v1 fun s2 => (rdS Try.prog (Instr.lookup 97 (.map x10) (.string s2) false) hp fun u3 => (intV u3 .i64 fun i4 => (opS Try.prog (Instr.mapUpdate 97 (.map x10) (.string s2) (.int .i64 (wr (i4 - 1)))) hp fun u5 h6 => (K (upd (upd (upd (upd (upd (upd (upd e 21 (sR 21 0)) 10 (sV (.map x10))) 152 (sV (.map x10))) 153 (sR 21 0)) 154 (sV (.string s2))) 155 (sI i4)) 156 (sI ((wr (i4 - 1))))) (upd V0 21 (29, k21)) h6)))))) := by kernel_rfl
theorem F15_r15 : R15 [1, 1, 1, 1, 1, 1, 1, 1, 0, 1, 0, 0, 1, 0, 0, 1, 1, 1, 1, 1, 1, 0] 11 (upd (upd e 21 (sR 21 0)) 7 (sP x7)) (upd V0 21 (29, k21)) hp K =
    (ldL (cellsN k21 0 6) fun l1 => (CF Try.prog 26 [(.pointer x7), (.agg ⟨l1⟩), (.int .i64 5)] hp fun u2 h3 => (tup3V u2 fun u4 u5 u6 => (aggV u4 fun l7 => (boolV u5 fun q8 => (intV u6 .i64 fun i9 => (if List.length l7 = 4 then (if List.all l7 one = true then (if 0 + List.length l7 ≤ List.length [(Value.string ⟨#[]⟩), .string ⟨#[]⟩, .string ⟨#[]⟩, .int .i64 0] then (K (upd (upd (upd (upd (upd (upd (upd (upd (upd (upd (upd (upd e 21 (sR 21 0)) 7 (sP x7)) 158 (sP x7)) 159 (sA l1)) 160 (sV (.tuple ⟨[(.agg ⟨l7⟩), (.bool q8), (.int .i64 i9)]⟩))) 157 (sV (.tuple ⟨[(.agg ⟨l7⟩), (.bool q8), (.int .i64 i9)]⟩))) 161 (sA l7)) 162 (sB q8)) 163 (sI i9)) 22 (sR 22 0)) 23 (sB q8)) 24 (sI i9)) (upd (upd (upd V0 21 (29, k21)) 22 (36, [.string ⟨#[]⟩, .string ⟨#[]⟩, .string ⟨#[]⟩, .int .i64 0])) 22 (36, (splice [.string ⟨#[]⟩, .string ⟨#[]⟩, .string ⟨#[]⟩, .int .i64 0] 0 l7))) h3) else False) else False) else False))))))) := by kernel_rfl
theorem F15_r16 : R15 [1, 1, 1, 1, 1, 1, 1, 1, 0, 1, 0, 0, 1, 0, 0, 1, 1, 1, 1, 1, 1, 1, 0, 1, 0, 0] 1 e V0 hp K =
    (K (upd e 6 (sB false)) V0 hp) := by kernel_rfl
theorem F15_r17 : R15 [1, 1, 1, 1, 1, 1, 1, 1, 0, 1, 0, 0, 1, 0, 0, 1, 1, 1, 1, 1, 1, 1, 1, 1, 0, 0] 1 e V0 hp K =
    (K (upd e 6 (sB false)) V0 hp) := by kernel_rfl
theorem F15_r18 : R15 [1, 1, 1, 1, 1, 1, 1, 1, 0, 1, 0, 0, 1, 1] 3 (upd e 15 (sI x15)) V0 hp K =
    (K (upd (upd (upd (upd e 15 (sI x15)) 82 (sI x15)) 83 (sI ((wr (x15 + 1))))) 15 (sI ((wr (x15 + 1))))) V0 hp) := by kernel_rfl
def F15_j8 (x0a : Option Addr) (x0n : Nat) (x0c : Nat) (x2a : Option Addr) (x2n : Nat) (x2c : Nat) (x7 : Option Addr) (x9a : Option Addr) (x9n : Nat) (x9c : Nat) (x10 : Option Nat) (x14a : Option Addr) (x14n : Nat) (x14c : Nat) (x15 : Int) (x202 : Bool) (hp : HP) (I5 : ((Option Addr) × Nat × Nat × (Option Addr) × Nat × Nat × Int) → HP → Prop) (K : Value → HP → Prop) : Prop :=
  (ite2 x202 (K (.bool false) hp) (I5 (x9a, x9n, x9c, x14a, x14n, x14c, (IntKind.wrap .i64 (x15 + 1))) hp))
theorem F15_r19 : R15 [1, 1, 1, 1, 1, 1, 1, 1, 0, 1, 0, 0, 1, 0, 0, 1, 1, 1, 1, 1, 1, 1, 1, 0] 28 (upd (upd (upd (upd e 23 (sB x23)) 22 (sR 22 0)) 21 (sR 21 0)) 0 (sS x0a x0n x0c)) (upd (upd V0 22 (36, k22)) 21 (29, k21)) hp K =
    (ite2 x23 (ldV (k22)[2]? fun v1 => (strV v1 fun s2 => (ldV (k21)[0]? fun v3 => (strV v3 fun s4 => ((0 ≤ (0 : Int)) ∧ ((0 : Int) < (ByteArray.size s4 : Nat)) ∧ ((0 ≤ ((wr ((IntKind.wrap .u8 ((bt s4 0) - 97)))) : Int)) ∧ (((wr ((IntKind.wrap .u8 ((bt s4 0) - 97)))) : Int) < x0n) ∧ (ptrN x0a fun b5 o6 => (ldV (HP.cell hp b5 (o6 + Int.toNat (wr ((IntKind.wrap .u8 ((bt s4 0) - 97)))) * 1)) fun v7 => (strV v7 fun s8 => (ite2 (!((ByteArray.toList s2) == (ByteArray.toList s8))) (K (upd (upd (upd (upd (upd (upd (upd (upd (upd (upd (upd (upd (upd (upd (upd (upd (upd (upd (upd (upd (upd (upd (upd (upd (upd (upd (upd (upd (upd (upd (upd (upd e 23 (sB x23)) 22 (sR 22 0)) 21 (sR 21 0)) 0 (sS x0a x0n x0c)) 175 (sB x23)) 176 (sB true)) 177 (sR 22 2)) 178 (sV (.string s2))) 179 (sS x0a x0n x0c)) 180 (sR 21 0)) 181 (sV (.string s4))) 182 (sV (.int .u8 (bt s4 0)))) 183 (sV (.int .u8 (IntKind.wrap .u8 ((bt s4 0) - 97))))) 184 (sI ((wr ((IntKind.wrap .u8 ((bt s4 0) - 97))))))) 185 (sV (ptr b5 (o6 + Int.toNat (wr ((IntKind.wrap .u8 ((bt s4 0) - 97)))) * 1)))) 186 (sV (.string s8))) 187 (sB ((!((ByteArray.toList s2) == (ByteArray.toList s8)))))) 188 (sB true)) 189 sU) 190 sU) 191 sU) 192 sU) 193 sU) 194 (sB true)) 195 (sB true)) 196 sU) 197 sU) 198 sU) 199 sU) 200 sU) 201 (sB true)) 202 (sB true)) (upd (upd V0 22 (36, k22)) 21 (29, k21)) hp) (ldV (k22)[0]? fun v9 => (strV v9 fun s10 => (ldV (k21)[0]? fun v11 => (strV v11 fun s12 => (ite2 (!((ByteArray.toList s10) == (ByteArray.toList s12))) (K (upd (upd (upd (upd (upd (upd (upd (upd (upd (upd (upd (upd (upd (upd (upd (upd (upd (upd (upd (upd (upd (upd (upd (upd (upd (upd (upd (upd (upd (upd (upd (upd e 23 (sB x23)) 22 (sR 22 0)) 21 (sR 21 0)) 0 (sS x0a x0n x0c)) 175 (sB x23)) 176 (sB true)) 177 (sR 22 2)) 178 (sV (.string s2))) 179 (sS x0a x0n x0c)) 180 (sR 21 0)) 181 (sV (.string s4))) 182 (sV (.int .u8 (bt s4 0)))) 183 (sV (.int .u8 (IntKind.wrap .u8 ((bt s4 0) - 97))))) 184 (sI ((wr ((IntKind.wrap .u8 ((bt s4 0) - 97))))))) 185 (sV (ptr b5 (o6 + Int.toNat (wr ((IntKind.wrap .u8 ((bt s4 0) - 97)))) * 1)))) 186 (sV (.string s8))) 187 (sB ((!((ByteArray.toList s2) == (ByteArray.toList s8)))))) 188 (sB false)) 189 (sR 22 0)) 190 (sV (.string s10))) 191 (sR 21 0)) 192 (sV (.string s12))) 193 (sB ((!((ByteArray.toList s10) == (ByteArray.toList s12)))))) 194 (sB ((!((ByteArray.toList s10) == (ByteArray.toList s12)))))) 195 (sB true)) 196 sU) 197 sU) 198 sU) 199 sU) 200 sU) 201 (sB true)) 202 (sB true)) (upd (upd V0 22 (36, k22)) 21 (29, k21)) hp) (ldV (k22)[1]? fun v13 => (strV v13 fun s14 => (ldV (k21)[5]? fun v15 => (strV v15 fun s16 => (K (upd (upd (upd (upd (upd (upd (upd (upd (upd (upd (upd (upd (upd (upd (upd (upd (upd (upd (upd (upd (upd (upd (upd (upd (upd (upd (upd (upd (upd (upd (upd (upd e 23 (sB x23)) 22 (sR 22 0)) 21 (sR 21 0)) 0 (sS x0a x0n x0c)) 175 (sB x23)) 176 (sB true)) 177 (sR 22 2)) 178 (sV (.string s2))) 179 (sS x0a x0n x0c)) 180 (sR 21 0)) 181 (sV (.string s4))) 182 (sV (.int .u8 (bt s4 0)))) 183 (sV (.int .u8 (IntKind.wrap .u8 ((bt s4 0) - 97))))) 184 (sI ((wr ((IntKind.wrap .u8 ((bt s4 0) - 97))))))) 185 (sV (ptr b5 (o6 + Int.toNat (wr ((IntKind.wrap .u8 ((bt s4 0) - 97)))) * 1)))) 186 (sV (.string s8))) 187 (sB ((!((ByteArray.toList s2) == (ByteArray.toList s8)))))) 188 (sB false)) 189 (sR 22 0)) 190 (sV (.string s10))) 191 (sR 21 0)) 192 (sV (.string s12))) 193 (sB ((!((ByteArray.toList s10) == (ByteArray.toList s12)))))) 194 (sB ((!((ByteArray.toList s10) == (ByteArray.toList s12)))))) 195 (sB false)) 196 (sR 22 1)) 197 (sV (.string s14))) 198 (sR 21 5)) 199 (sV (.string s16))) 200 (sB ((!((ByteArray.toList s14) == (ByteArray.toList s16)))))) 201 (sB ((!((ByteArray.toList s14) == (ByteArray.toList s16)))))) 202 (sB ((!((ByteArray.toList s14) == (ByteArray.toList s16)))))) (upd (upd V0 22 (36, k22)) 21 (29, k21)) hp)))))))))))))))))))) (K (upd (upd (upd (upd (upd (upd (upd (upd (upd (upd (upd (upd (upd (upd (upd (upd (upd (upd (upd (upd (upd (upd (upd (upd (upd (upd (upd (upd (upd (upd (upd (upd e 23 (sB x23)) 22 (sR 22 0)) 21 (sR 21 0)) 0 (sS x0a x0n x0c)) 175 (sB x23)) 176 (sB false)) 177 sU) 178 sU) 179 sU) 180 sU) 181 sU) 182 sU) 183 sU) 184 sU) 185 sU) 186 sU) 187 sU) 188 sU) 189 sU) 190 sU) 191 sU) 192 sU) 193 sU) 194 sU) 195 sU) 196 sU) 197 sU) 198 sU) 199 sU) 200 sU) 201 sU) 202 (sB false)) (upd (upd V0 22 (36, k22)) 21 (29, k21)) hp)) := by kernel_rfl
def F15_j7 (x0a : Option Addr) (x0n : Nat) (x0c : Nat) (x2a : Option Addr) (x2n : Nat) (x2c : Nat) (x7 : Option Addr) (x9a : Option Addr) (x9n : Nat) (x9c : Nat) (x10 : Option Nat) (x14a : Option Addr) (x14n : Nat) (x14c : Nat) (x15 : Int) (x23 : Bool) (x174 : Bool) (k21 : List Value) (k22 : List Value) (hp : HP) (I5 : ((Option Addr) × Nat × Nat × (Option Addr) × Nat × Nat × Int) → HP → Prop) (K : Value → HP → Prop) : Prop :=
  (ite2 x174 (K (.bool false) hp) (ite2 x23 (ldV (k22)[2]? fun v_58 => (strV v_58 fun s_59 => (ldV (k21)[0]? fun v_60 => (strV v_60 fun s_61 => ((0 ≤ (0 : Int)) ∧ ((0 : Int) < (ByteArray.size s_61 : Nat)) ∧ ((0 ≤ ((IntKind.wrap .i64 ((IntKind.wrap .u8 ((bt s_61 0) - 97)))) : Int)) ∧ (((IntKind.wrap .i64 ((IntKind.wrap .u8 ((bt s_61 0) - 97)))) : Int) < x0n) ∧ (ptrN x0a fun b_62 o_63 => (ldV (HP.cell hp b_62 (o_63 + Int.toNat (IntKind.wrap .i64 ((IntKind.wrap .u8 ((bt s_61 0) - 97)))) * 1)) fun v_64 => (strV v_64 fun s_65 => (ite2 (!((ByteArray.toList s_59) == (ByteArray.toList s_65))) (F15_j8 x0a x0n x0c x2a x2n x2c x7 x9a x9n x9c x10 x14a x14n x14c x15 true hp I5 K) (ldV (k22)[0]? fun v_66 => (strV v_66 fun s_67 => (ldV (k21)[0]? fun v_68 => (strV v_68 fun s_69 => (ite2 (!((ByteArray.toList s_67) == (ByteArray.toList s_69))) (F15_j8 x0a x0n x0c x2a x2n x2c x7 x9a x9n x9c x10 x14a x14n x14c x15 true hp I5 K) (ldV (k22)[1]? fun v_70 => (strV v_70 fun s_71 => (ldV (k21)[5]? fun v_72 => (strV v_72 fun s_73 => (F15_j8 x0a x0n x0c x2a x2n x2c x7 x9a x9n x9c x10 x14a x14n x14c x15 (!((ByteArray.toList s_71) == (ByteArray.toList s_73))) hp I5 K)))))))))))))))))))) (F15_j8 x0a x0n x0c x2a x2n x2c x7 x9a x9n x9c x10 x14a x14n x14c x15 false hp I5 K)))
theorem F15_r20 : R15 [1, 1, 1, 1, 1, 1, 1, 1, 0, 1, 0, 0, 1, 0, 0, 1, 1, 1, 1, 1, 1, 1, 0, 0] 11 (upd (upd (upd (upd e 24 (sI x24)) 23 (sB x23)) 21 (sR 21 0)) 10 (sV (.map x10))) (upd (upd V0 22 (36, k22)) 21 (29, k21)) hp K =
    (ite2 (x24 != 0) (K (upd (upd (upd (upd (upd (upd (upd (upd (upd (upd (upd (upd (upd (upd (upd e 24 (sI x24)) 23 (sB x23)) 21 (sR 21 0)) 10 (sV (.map x10))) 164 (sI x24)) 165 (sB ((x24 != 0)))) 166 (sB true)) 167 sU) 168 sU) 169 sU) 170 sU) 171 sU) 172 sU) 173 sU) 174 (sB true)) (upd (upd V0 22 (36, k22)) 21 (29, k21)) hp) (ldV (k21)[0]? fun v1 => (strV v1 fun s2 => (rdS Try.prog (Instr.lookup 97 (.map x10) (.string s2) false) hp fun u3 => (intV u3 .i64 fun i4 => (K (upd (upd (upd (upd (upd (upd (upd (upd (upd (upd (upd (upd (upd (upd (upd e 24 (sI x24)) 23 (sB x23)) 21 (sR 21 0)) 10 (sV (.map x10))) 164 (sI x24)) 165 (sB ((x24 != 0)))) 166 (sB false)) 167 (sB x23)) 168 (sV (.map x10))) 169 (sR 21 0)) 170 (sV (.string s2))) 171 (sI i4)) 172 (sB ((i4 == 0)))) 173 (sB ((!(x23 == (i4 == 0)))))) 174 (sB ((!(x23 == (i4 == 0)))))) (upd (upd V0 22 (36, k22)) 21 (29, k21)) hp)))))) := by kernel_rfl
def F15_j6 (x0a : Option Addr) (x0n : Nat) (x0c : Nat) (x2a : Option Addr) (x2n : Nat) (x2c : Nat) (x7 : Option Addr) (x9a : Option Addr) (x9n : Nat) (x9c : Nat) (x10 : Option Nat) (x14a : Option Addr) (x14n : Nat) (x14c : Nat) (x15 : Int) (x16 : Int) (hp : HP) (I5 : ((Option Addr) × Nat × Nat × (Option Addr) × Nat × Nat × Int) → HP → Prop) (K : Value → HP → Prop) : Prop :=
  ((0 ≤ x16) ∧ (x16 < x9n) ∧ (ptrN x9a fun b_22 o_23 => (ldL (HP.cellN hp b_22 (o_23 + Int.toNat x16 * 6) 6) fun l_24 => (if List.length l_24 = 6 then (if List.all l_24 one = true then (if 0 + List.length l_24 ≤ List.length [(Value.string ⟨#[]⟩), .string ⟨#[]⟩, .int .i64 0, .bool false, .string ⟨#[]⟩, .string ⟨#[]⟩] then (∀ b_25 : Nat, hp b_25 = .none → ((0 ≤ x16) ∧ (x16 ≤ (x9c : Nat)) ∧ (opS Try.prog (Builtin.append_ #[26, 26] 26 ⟨[(.slice (some ⟨b_25, 0, none⟩) 0 0), (.slice x9a (Int.toNat x16) x9c)]⟩) (HP.set hp b_25 (.cells 29 [] 0)) fun u_26 h_27 => (slcV u_26 fun a_28 n_29 c_30 => ((0 ≤ ((IntKind.wrap .i64 (x16 + 1)) : Int)) ∧ (((IntKind.wrap .i64 (x16 + 1)) : Int) ≤ x9n) ∧ (x9n ≤ x9c) ∧ (opS Try.prog (Builtin.append_ #[26, 26] 26 ⟨[(.slice a_28 n_29 c_30), (.slice (sub0 x9a x9c (Int.toNat (IntKind.wrap .i64 (x16 + 1))) 6) (x9n - Int.toNat (IntKind.wrap .i64 (x16 + 1))) (x9c - Int.toNat (IntKind.wrap .i64 (x16 + 1))))]⟩) h_27 fun u_31 h_32 => (slcV u_31 fun a_33 n_34 c_35 => (ldL (cellsN (splice [.string ⟨#[]⟩, .string ⟨#[]⟩, .int .i64 0, .bool false, .string ⟨#[]⟩, .string ⟨#[]⟩] 0 l_24) 0 6) fun l_36 => (if List.length l_36 = 6 then (∀ b_37 : Nat, h_32 b_37 = .none → (opS Try.prog (Builtin.append_ #[26, 26] 26 ⟨[(.slice x14a x14n x14c), (.slice (some ⟨b_37, 0, none⟩) 1 1)]⟩) (HP.set h_32 b_37 (.cells 29 (splice [.string ⟨#[]⟩, .string ⟨#[]⟩, .int .i64 0, .bool false, .string ⟨#[]⟩, .string ⟨#[]⟩] 0 l_36) 0)) fun u_38 h_39 => (slcV u_38 fun a_40 n_41 c_42 => (ldV ((splice [.string ⟨#[]⟩, .string ⟨#[]⟩, .int .i64 0, .bool false, .string ⟨#[]⟩, .string ⟨#[]⟩] 0 l_24))[0]? fun v_43 => (strV v_43 fun s_44 => (rdS Try.prog (Instr.lookup 97 (.map x10) (.string s_44) false) h_39 fun u_45 => (intV u_45 .i64 fun i_46 => (opS Try.prog (Instr.mapUpdate 97 (.map x10) (.string s_44) (.int .i64 (IntKind.wrap .i64 (i_46 - 1)))) h_39 fun u_47 h_48 => (ldL (cellsN (splice [.string ⟨#[]⟩, .string ⟨#[]⟩, .int .i64 0, .bool false, .string ⟨#[]⟩, .string ⟨#[]⟩] 0 l_24) 0 6) fun l_49 => (CF Try.prog 26 [(.pointer x7), (.agg ⟨l_49⟩), (.int .i64 5)] h_48 fun u_50 h_51 => (tup3V u_50 fun u_52 u_53 u_54 => (aggV u_52 fun l_55 => (boolV u_53 fun q_56 => (intV u_54 .i64 fun i_57 => (if List.length l_55 = 4 then (if List.all l_55 one = true then (if 0 + List.length l_55 ≤ List.length [(Value.string ⟨#[]⟩), .string ⟨#[]⟩, .string ⟨#[]⟩, .int .i64 0] then (ite2 (i_57 != 0) (F15_j7 x0a x0n x0c x2a x2n x2c x7 a_33 n_34 c_35 x10 a_40 n_41 c_42 x15 q_56 true (splice [.string ⟨#[]⟩, .string ⟨#[]⟩, .int .i64 0, .bool false, .string ⟨#[]⟩, .string ⟨#[]⟩] 0 l_24) (splice [.string ⟨#[]⟩, .string ⟨#[]⟩, .string ⟨#[]⟩, .int .i64 0] 0 l_55) h_51 I5 K) (ldV ((splice [.string ⟨#[]⟩, .string ⟨#[]⟩, .int .i64 0, .bool false, .string ⟨#[]⟩, .string ⟨#[]⟩] 0 l_24))[0]? fun v_74 => (strV v_74 fun s_75 => (rdS Try.prog (Instr.lookup 97 (.map x10) (.string s_75) false) h_51 fun u_76 => (intV u_76 .i64 fun i_77 => (F15_j7 x0a x0n x0c x2a x2n x2c x7 a_33 n_34 c_35 x10 a_40 n_41 c_42 x15 q_56 (!(q_56 == (i_77 == 0))) (splice [.string ⟨#[]⟩, .string ⟨#[]⟩, .int .i64 0, .bool false, .string ⟨#[]⟩, .string ⟨#[]⟩] 0 l_24) (splice [.string ⟨#[]⟩, .string ⟨#[]⟩, .string ⟨#[]⟩, .int .i64 0] 0 l_55) h_51 I5 K)))))) else False) else False) else False))))))))))))))) else False))))))))) else False) else False) else False))))
theorem F15_r21 : R15 [1, 1, 1, 1, 1, 1, 1, 1, 0, 1, 0, 0, 1, 0, 0, 1, 0, 0] 4 (upd (upd e 15 (sI x15)) 2 (sS x2a x2n x2c)) V0 hp K =
    (K (upd (upd (upd (upd (upd (upd e 15 (sI x15)) 2 (sS x2a x2n x2c)) 84 (sI x15)) 85 (sS x2a x2n x2c)) 86 (sI ((x2n : Nat)))) 87 (sB ((decide (x15 < x2n))))) V0 hp) := by kernel_rfl
theorem F15_r22 : R15 [1, 1, 1, 1, 1, 1, 1, 1, 0, 1, 0, 0, 1, 0, 0, 1, 0, 1, 0, 0] 8 (upd (upd (upd e 15 (sI x15)) 9 (sS x9a x9n x9c)) 2 (sS x2a x2n x2c)) V0 hp K =
    ((0 ≤ x15) ∧ (x15 < x2n) ∧ (ptrN x2a fun b1 o2 => (ldV (HP.cell hp b1 (o2 + Int.toNat x15 * 1)) fun v3 => (intV v3 .i64 fun i4 => (CF Try.prog 24 [(.int .i64 i4), (.int .i64 (x9n : Nat))] hp fun u5 h6 => (intV u5 .i64 fun i7 => (K (upd (upd (upd (upd (upd (upd (upd (upd (upd (upd (upd e 15 (sI x15)) 9 (sS x9a x9n x9c)) 2 (sS x2a x2n x2c)) 88 (sS x2a x2n x2c)) 89 (sI x15)) 90 (sQ b1 (o2 + Int.toNat x15 * 1))) 91 (sI i4)) 92 (sS x9a x9n x9c)) 93 (sI ((x9n : Nat)))) 94 (sI i7)) 16 (sI i7)) V0 h6))))))) := by kernel_rfl
theorem F15_r23 : R15 [1, 1, 1, 1, 1, 1, 1, 1, 0, 1, 0, 0, 1, 0, 0, 1, 0, 1, 0, 1, 1, 0, 0] 13 (upd (upd (upd e 15 (sI x15)) 14 (sS x14a x14n x14c)) 2 (sS x2a x2n x2c)) V0 hp K =
    ((0 ≤ x15) ∧ (x15 < x2n) ∧ (ptrN x2a fun b1 o2 => (ldV (HP.cell hp b1 (o2 + Int.toNat x15 * 1)) fun v3 => (intV v3 .i64 fun i4 => (((5 : Int) ≠ 0) ∧ (CF Try.prog 24 [(.int .i64 (wr (Int.tdiv i4 5))), (.int .i64 (x14n : Nat))] hp fun u5 h6 => (intV u5 .i64 fun i7 => ((0 ≤ i7) ∧ (i7 < x14n) ∧ (ptrN x14a fun b8 o9 => (ldL (HP.cellN h6 b8 (o9 + Int.toNat i7 * 6) 6) fun l10 => (if List.length l10 = 6 then (if List.all l10 one = true then (if 0 + List.length l10 ≤ List.length [(Value.string ⟨#[]⟩), .string ⟨#[]⟩, .int .i64 0, .bool false, .string ⟨#[]⟩, .string ⟨#[]⟩] then (K (upd (upd (upd (upd (upd (upd (upd (upd (upd (upd (upd (upd (upd (upd (upd e 15 (sI x15)) 14 (sS x14a x14n x14c)) 2 (sS x2a x2n x2c)) 106 (sS x14a x14n x14c)) 107 (sS x2a x2n x2c)) 108 (sI x15)) 109 (sQ b1 (o2 + Int.toNat x15 * 1))) 110 (sI i4)) 111 (sI ((wr (Int.tdiv i4 5))))) 112 (sS x14a x14n x14c)) 113 (sI ((x14n : Nat)))) 114 (sI i7)) 115 (sQ b8 (o9 + Int.toNat i7 * 6))) 116 (sA l10)) 17 (sR 17 0)) (upd (upd V0 17 (29, [.string ⟨#[]⟩, .string ⟨#[]⟩, .int .i64 0, .bool false, .string ⟨#[]⟩, .string ⟨#[]⟩])) 17 (29, (splice [.string ⟨#[]⟩, .string ⟨#[]⟩, .int .i64 0, .bool false, .string ⟨#[]⟩, .string ⟨#[]⟩] 0 l10))) h6) else False) else False) else False))))))))))) := by kernel_rfl
theorem F15_r24 : R15 [1, 1, 1, 1, 1, 1, 1, 1, 0, 1, 0, 0, 1, 0, 0, 1, 0, 1, 0, 1, 1, 0, 1, 0] 5 (upd (upd e 17 (sR 17 0)) 10 (sV (.map x10))) (upd V0 17 (29, k17)) hp K =
    (ldV (k17)[0]? fun v1 => (strV v1 fun s2 => (rdS Try.prog (Instr.lookup 97 (.map x10) (.string s2) false) hp fun u3 => (intV u3 .i64 fun i4 => (K (upd (upd (upd (upd (upd (upd (upd e 17 (sR 17 0)) 10 (sV (.map x10))) 117 (sV (.map x10))) 118 (sR 17 0)) 119 (sV (.string s2))) 120 (sI i4)) 121 (sB (decide (i4 > 0)))) (upd V0 17 (29, k17)) hp))))) := by kernel_rfl
theorem F15_r25 : R15 [1, 1, 1, 1, 1, 1, 1, 1, 0, 1, 0, 0, 1, 0, 0, 1, 0, 1, 0, 1, 1, 0, 1, 1, 0, 0] 11 (upd (upd e 17 (sR 17 0)) 7 (sP x7)) (upd V0 17 (29, k17)) hp K =
    (ldL (cellsN k17 0 6) fun l1 => (CF Try.prog 26 [(.pointer x7), (.agg ⟨l1⟩), (.int .i64 5)] hp fun u2 h3 => (tup3V u2 fun u4 u5 u6 => (aggV u4 fun l7 => (boolV u5 fun q8 => (intV u6 .i64 fun i9 => (if List.length l7 = 4 then (if List.all l7 one = true then (if 0 + List.length l7 ≤ List.length [(Value.string ⟨#[]⟩), .string ⟨#[]⟩, .string ⟨#[]⟩, .int .i64 0] then (K (upd (upd (upd (upd (upd (upd (upd (upd (upd (upd (upd (upd e 17 (sR 17 0)) 7 (sP x7)) 123 (sP x7)) 124 (sA l1)) 125 (sV (.tuple ⟨[(.agg ⟨l7⟩), (.bool q8), (.int .i64 i9)]⟩))) 122 (sV (.tuple ⟨[(.agg ⟨l7⟩), (.bool q8), (.int .i64 i9)]⟩))) 126 (sA l7)) 127 (sB q8)) 128 (sI i9)) 18 (sR 18 0)) 19 (sB q8)) 20 (sI i9)) (upd (upd (upd V0 17 (29, k17)) 18 (36, [.string ⟨#[]⟩, .string ⟨#[]⟩, .string ⟨#[]⟩, .int .i64 0])) 18 (36, (splice [.string ⟨#[]⟩, .string ⟨#[]⟩, .string ⟨#[]⟩, .int .i64 0] 0 l7))) h3) else False) else False) else False))))))) := by kernel_rfl
theorem F15_r26 : R15 [1, 1, 1, 1, 1, 1, 1, 1, 0, 1, 0, 0, 1, 0, 0, 1, 0, 1, 0, 1, 1, 0, 1, 1, 0, 1, 1, 0, 0] 1 e V0 hp K =
    (K (upd e 6 (sB false)) V0 hp) := by kernel_rfl
def F15_j10 (x0a : Option Addr) (x0n : Nat) (x0c : Nat) (x2a : Option Addr) (x2n : Nat) (x2c : Nat) (x7 : Option Addr) (x9a : Option Addr) (x9n : Nat) (x9c : Nat) (x10 : Option Nat) (x14a : Option Addr) (x14n : Nat) (x14c : Nat) (x15 : Int) (x16 : Int) (x133 : Bool) (hp : HP) (I5 : ((Option Addr) × Nat × Nat × (Option Addr) × Nat × Nat × Int) → HP → Prop) (K : Value → HP → Prop) : Prop :=
  (ite2 x133 (K (.bool false) hp) (F15_j6 x0a x0n x0c x2a x2n x2c x7 x9a x9n x9c x10 x14a x14n x14c x15 x16 hp I5 K))
theorem F15_r27 : R15 [1, 1, 1, 1, 1, 1, 1, 1, 0, 1, 0, 0, 1, 0, 0, 1, 0, 1, 0, 1, 1, 0, 1, 1, 0, 1, 0] 5 (upd (upd e 20 (sI x20)) 19 (sB x19)) V0 hp K =
    (ite2 x19 (K (upd (upd (upd (upd (upd (upd (upd e 20 (sI x20)) 19 (sB x19)) 129 (sB x19)) 130 (sB true)) 131 sU) 132 sU) 133 (sB true)) V0 hp) (K (upd (upd (upd (upd (upd (upd (upd e 20 (sI x20)) 19 (sB x19)) 129 (sB x19)) 130 (sB false)) 131 (sI x20)) 132 (sB ((x20 != 0)))) 133 (sB ((x20 != 0)))) V0 hp)) := by kernel_rfl
def F15_j9 (x0a : Option Addr) (x0n : Nat) (x0c : Nat) (x2a : Option Addr) (x2n : Nat) (x2c : Nat) (x7 : Option Addr) (x9a : Option Addr) (x9n : Nat) (x9c : Nat) (x10 : Option Nat) (x14a : Option Addr) (x14n : Nat) (x14c : Nat) (x15 : Int) (x16 : Int) (x105 : Bool) (hp : HP) (I5 : ((Option Addr) × Nat × Nat × (Option Addr) × Nat × Nat × Int) → HP → Prop) (K : Value → HP → Prop) : Prop :=
  (ite2 x105 ((0 ≤ x15) ∧ (x15 < x2n) ∧ (ptrN x2a fun b_85 o_86 => (ldV (HP.cell hp b_85 (o_86 + Int.toNat x15 * 1)) fun v_87 => (intV v_87 .i64 fun i_88 => (((5 : Int) ≠ 0) ∧ (CF Try.prog 24 [(.int .i64 (IntKind.wrap .i64 (Int.tdiv i_88 5))), (.int .i64 (x14n : Nat))] hp fun u_89 h_90 => (intV u_89 .i64 fun i_91 => ((0 ≤ i_91) ∧ (i_91 < x14n) ∧ (ptrN x14a fun b_92 o_93 => (ldL (HP.cellN h_90 b_92 (o_93 + Int.toNat i_91 * 6) 6) fun l_94 => (if List.length l_94 = 6 then (if List.all l_94 one = true then (if 0 + List.length l_94 ≤ List.length [(Value.string ⟨#[]⟩), .string ⟨#[]⟩, .int .i64 0, .bool false, .string ⟨#[]⟩, .string ⟨#[]⟩] then (ldV ((splice [.string ⟨#[]⟩, .string ⟨#[]⟩, .int .i64 0, .bool false, .string ⟨#[]⟩, .string ⟨#[]⟩] 0 l_94))[0]? fun v_95 => (strV v_95 fun s_96 => (rdS Try.prog (Instr.lookup 97 (.map x10) (.string s_96) false) h_90 fun u_97 => (intV u_97 .i64 fun i_98 => (ite2 (decide (i_98 > 0)) (ldL (cellsN (splice [.string ⟨#[]⟩, .string ⟨#[]⟩, .int .i64 0, .bool false, .string ⟨#[]⟩, .string ⟨#[]⟩] 0 l_94) 0 6) fun l_99 => (CF Try.prog 26 [(.pointer x7), (.agg ⟨l_99⟩), (.int .i64 5)] h_90 fun u_100 h_101 => (tup3V u_100 fun u_102 u_103 u_104 => (aggV u_102 fun l_105 => (boolV u_103 fun q_106 => (intV u_104 .i64 fun i_107 => (if List.length l_105 = 4 then (if List.all l_105 one = true then (if 0 + List.length l_105 ≤ List.length [(Value.string ⟨#[]⟩), .string ⟨#[]⟩, .string ⟨#[]⟩, .int .i64 0] then (ite2 q_106 (F15_j10 x0a x0n x0c x2a x2n x2c x7 x9a x9n x9c x10 x14a x14n x14c x15 x16 true h_101 I5 K) (F15_j10 x0a x0n x0c x2a x2n x2c x7 x9a x9n x9c x10 x14a x14n x14c x15 x16 (i_107 != 0) h_101 I5 K)) else False) else False) else False))))))) (F15_j6 x0a x0n x0c x2a x2n x2c x7 x9a x9n x9c x10 x14a x14n x14c x15 x16 h_90 I5 K)))))) else False) else False) else False))))))))))) (F15_j6 x0a x0n x0c x2a x2n x2c x7 x9a x9n x9c x10 x14a x14n x14c x15 x16 hp I5 K))
theorem F15_r28 : R15 [1, 1, 1, 1, 1, 1, 1, 1, 0, 1, 0, 0, 1, 0, 0, 1, 0, 1, 0, 1, 0] 11 (upd (upd (upd e 15 (sI x15)) 14 (sS x14a x14n x14c)) 2 (sS x2a x2n x2c)) V0 hp K =
    ((0 ≤ x15) ∧ (x15 < x2n) ∧ (ptrN x2a fun b1 o2 => (ldV (HP.cell hp b1 (o2 + Int.toNat x15 * 1)) fun v3 => (intV v3 .i64 fun i4 => (((5 : Int) ≠ 0) ∧ (ite2 (((Int.tmod i4 5) : Int) == 0) (K (upd (upd (upd (upd (upd (upd (upd (upd (upd (upd (upd (upd (upd (upd e 15 (sI x15)) 14 (sS x14a x14n x14c)) 2 (sS x2a x2n x2c)) 95 (sS x2a x2n x2c)) 96 (sI x15)) 97 (sQ b1 (o2 + Int.toNat x15 * 1))) 98 (sI i4)) 99 (sI ((Int.tmod i4 5)))) 100 (sB ((((Int.tmod i4 5) : Int) == 0)))) 101 (sB true)) 102 (sS x14a x14n x14c)) 103 (sI ((x14n : Nat)))) 104 (sB ((decide (((x14n : Nat) : Int) > 0))))) 105 (sB ((decide (((x14n : Nat) : Int) > 0))))) V0 hp) (K (upd (upd (upd (upd (upd (upd (upd (upd (upd (upd (upd (upd (upd (upd e 15 (sI x15)) 14 (sS x14a x14n x14c)) 2 (sS x2a x2n x2c)) 95 (sS x2a x2n x2c)) 96 (sI x15)) 97 (sQ b1 (o2 + Int.toNat x15 * 1))) 98 (sI i4)) 99 (sI ((Int.tmod i4 5)))) 100 (sB ((((Int.tmod i4 5) : Int) == 0)))) 101 (sB false)) 102 sU) 103 sU) 104 sU) 105 (sB false)) V0 hp))))))) := by kernel_rfl
def F15_l5 (x0a : Option Addr) (x0n : Nat) (x0c : Nat) (x2a : Option Addr) (x2n : Nat) (x2c : Nat) (x7 : Option Addr) (x10 : Option Nat) (K : Value → HP → Prop) (I5 : ((Option Addr) × Nat × Nat × (Option Addr) × Nat × Nat × Int) → HP → Prop) (x9a : Option Addr) (x9n : Nat) (x9c : Nat) (x14a : Option Addr) (x14n : Nat) (x14c : Nat) (x15 : Int) (hp : HP) : Prop :=
  (ite2 (decide (((x9n : Nat) : Int) > 0)) (ite2 (decide (x15 < x2n)) ((0 ≤ x15) ∧ (x15 < x2n) ∧ (ptrN x2a fun b_78 o_79 => (ldV (HP.cell hp b_78 (o_79 + Int.toNat x15 * 1)) fun v_80 => (intV v_80 .i64 fun i_81 => (CF Try.prog 24 [(.int .i64 i_81), (.int .i64 (x9n : Nat))] hp fun u_82 h_83 => (intV u_82 .i64 fun i_84 => ((0 ≤ x15) ∧ (x15 < x2n) ∧ (ptrN x2a fun b_108 o_109 => (ldV (HP.cell h_83 b_108 (o_109 + Int.toNat x15 * 1)) fun v_110 => (intV v_110 .i64 fun i_111 => (((5 : Int) ≠ 0) ∧ (ite2 (((Int.tmod i_111 5) : Int) == 0) (F15_j9 x0a x0n x0c x2a x2n x2c x7 x9a x9n x9c x10 x14a x14n x14c x15 i_84 (decide (((x14n : Nat) : Int) > 0)) h_83 I5 K) (F15_j9 x0a x0n x0c x2a x2n x2c x7 x9a x9n x9c x10 x14a x14n x14c x15 i_84 false h_83 I5 K))))))))))))) (F15_j6 x0a x0n x0c x2a x2n x2c x7 x9a x9n x9c x10 x14a x14n x14c x15 0 hp I5 K)) (F15_j3 x7 hp  K))
def F15_j4 (x0a : Option Addr) (x0n : Nat) (x0c : Nat) (x2a : Option Addr) (x2n : Nat) (x2c : Nat) (x7 : Option Addr) (x9a : Option Addr) (x9n : Nat) (x9c : Nat) (x10 : Option Nat) (x14a : Option Addr) (x14n : Nat) (x14c : Nat) (x15 : Int) (hp : HP) (K : Value → HP → Prop) : Prop :=
  (LoopP (σ := (Option Addr) × Nat × Nat × (Option Addr) × Nat × Nat × Int) (fun I s hp => F15_l5 x0a x0n x0c x2a x2n x2c x7 x10  K I s.1 s.2.1 s.2.2.1 s.2.2.2.1 s.2.2.2.2.1 s.2.2.2.2.2.1 s.2.2.2.2.2.2 hp) (x9a, x9n, x9c, x14a, x14n, x14c, x15) hp)
theorem F15_r29 : R15 [1, 1, 1, 1, 1, 1, 1, 1, 0, 0] 1 e V0 hp K =
    (K (upd e 15 (sI 0)) V0 hp) := by kernel_rfl
def F15_j2 (x0a : Option Addr) (x0n : Nat) (x0c : Nat) (x2a : Option Addr) (x2n : Nat) (x2c : Nat) (x7 : Option Addr) (x9a : Option Addr) (x9n : Nat) (x9c : Nat) (x10 : Option Nat) (hp : HP) (K : Value → HP → Prop) : Prop :=
  (F15_j4 x0a x0n x0c x2a x2n x2c x7 x9a x9n x9c x10 none 0 0 0 hp  K)
theorem F15_r30 : R15 [1, 1, 1, 1, 1, 1, 0, 1, 0, 0, 0, 0] 4 (upd (upd e 11 (sI x11)) 0 (sS x0a x0n x0c)) V0 hp K =
    (K (upd (upd (upd (upd (upd (upd e 11 (sI x11)) 0 (sS x0a x0n x0c)) 41 (sI x11)) 42 (sS x0a x0n x0c)) 43 (sI ((x0n : Nat)))) 44 (sB ((decide (x11 < x0n))))) V0 hp) := by kernel_rfl
theorem F15_r31 : R15 [1, 1, 1, 1, 1, 1, 0, 1, 0, 0, 1, 0, 0, 0, 0] 6 (upd (upd e 11 (sI x11)) 0 (sS x0a x0n x0c)) V0 hp K =
    ((0 ≤ x11) ∧ (x11 < x0n) ∧ (ptrN x0a fun b1 o2 => (ldV (HP.cell hp b1 (o2 + Int.toNat x11 * 1)) fun v3 => (strV v3 fun s4 => (K (upd (upd (upd (upd (upd (upd (upd (upd e 11 (sI x11)) 0 (sS x0a x0n x0c)) 47 (sS x0a x0n x0c)) 48 (sI x11)) 49 (sQ b1 (o2 + Int.toNat x11 * 1))) 50 (sV (.string s4))) 51 (sI ((ByteArray.size s4 : Nat)))) 52 (sB ((decide (((ByteArray.size s4 : Nat) : Int) > 600))))) V0 hp))))) := by kernel_rfl
theorem F15_r32 : R15 [1, 1, 1, 1, 1, 1, 0, 1, 0, 0, 1, 0, 0, 0, 1, 0, 0] 2 e V0 hp K =
    (CF Try.prog 22 [] hp fun u1 h2 => (boolV u1 fun q3 => (K (upd (upd e 53 (sB q3)) 6 (sB q3)) V0 h2))) := by kernel_rfl
theorem F15_r33 : R15 [1, 1, 1, 1, 1, 1, 0, 1, 0, 0, 1, 0, 0, 1, 0] 6 (upd e 11 (sI x11)) V0 hp K =
    (∀ b1 : Nat, hp b1 = .none → (rdS Try.prog (convert 98 9 (.slice (some ⟨b1, 0, none⟩) 1 1)) (HP.set hp b1 (.cells 5 [(.int .u8 (IntKind.wrap .u8 ((wr (97 + x11)))))] 0)) fun u2 => (strV u2 fun s3 => (K (upd (upd (upd (upd (upd (upd (upd e 11 (sI x11)) 54 (sI x11)) 55 (sI ((wr (97 + x11))))) 56 (sV (.int .u8 (IntKind.wrap .u8 ((wr (97 + x11))))))) 57 (sV (.slice (some ⟨b1, 0, none⟩) 1 1))) 58 (sV (.string s3))) 12 (sV (.string s3))) V0 (HP.set hp b1 (.cells 5 [(.int .u8 (IntKind.wrap .u8 ((wr (97 + x11)))))] 0)))))) := by kernel_rfl
theorem F15_r34 : R15 [1, 1, 1, 1, 1, 1, 0, 1, 0, 0, 1, 0, 0, 1, 1, 0] 14 (upd (upd (upd (upd e 12 (sV (.string x12))) 11 (sI x11)) 1 (sV (.int .u8 x1))) 0 (sS x0a x0n x0c)) V0 hp K =
    ((ByteArray.size (⟨#[104]⟩ : ByteArray) + ByteArray.size x12 ≤ 9223372036854775807) ∧ ((0 ≤ x11) ∧ (x11 < x0n) ∧ (ptrN x0a fun b1 o2 => (ldV (HP.cell hp b1 (o2 + Int.toNat x11 * 1)) fun v3 => (strV v3 fun s4 => (((9 : Int) ≠ 0) ∧ (CF Try.prog 23 [(.string x12), (.string ((⟨#[104]⟩ : ByteArray) ++ x12)), (.string s4), (.int .i64 (wr (8 * (wr (1 + (wr ((Int.tmod x1 9))))))))] hp fun u5 h6 => (slcV u5 fun a7 n8 c9 => (K (upd (upd (upd (upd (upd (upd (upd (upd (upd (upd (upd (upd (upd (upd (upd (upd (upd (upd e 12 (sV (.string x12))) 11 (sI x11)) 1 (sV (.int .u8 x1))) 0 (sS x0a x0n x0c)) 59 (sV (.string x12))) 60 (sV (.string x12))) 61 (sV (.string ((⟨#[104]⟩ : ByteArray) ++ x12)))) 62 (sS x0a x0n x0c)) 63 (sI x11)) 64 (sQ b1 (o2 + Int.toNat x11 * 1))) 65 (sV (.string s4))) 66 (sV (.int .u8 x1))) 67 (sV (.int .u8 (Int.tmod x1 9)))) 68 (sI ((wr ((Int.tmod x1 9)))))) 69 (sI ((wr (1 + (wr ((Int.tmod x1 9)))))))) 70 (sI ((wr (8 * (wr (1 + (wr ((Int.tmod x1 9)))))))))) 71 (sS a7 n8 c9)) 13 (sS a7 n8 c9)) V0 h6))))))))) := by kernel_rfl
theorem F15_r35 : R15 [1, 1, 1, 1, 1, 1, 0, 1, 0, 0, 1, 0, 0, 1, 1, 1, 0] 4 (upd (upd e 13 (sS x13a x13n x13c)) 9 (sS x9a x9n x9c)) V0 hp K =
    (opS Try.prog (Builtin.append_ #[26, 26] 26 ⟨[(.slice x9a x9n x9c), (.slice x13a x13n x13c)]⟩) hp fun u1 h2 => (slcV u1 fun a3 n4 c5 => (K (upd (upd (upd (upd (upd (upd e 13 (sS x13a x13n x13c)) 9 (sS x9a x9n x9c)) 72 (sS x9a x9n x9c)) 73 (sS x13a x13n x13c)) 74 (sS a3 n4 c5)) 9 (sS a3 n4 c5)) V0 h2))) := by kernel_rfl
theorem F15_r36 : R15 [1, 1, 1, 1, 1, 1, 0, 1, 0, 0, 1, 0, 0, 1, 1, 1, 1] 5 (upd (upd (upd e 13 (sS x13a x13n x13c)) 12 (sV (.string x12))) 10 (sV (.map x10))) V0 hp K =
    (opS Try.prog (Instr.mapUpdate 97 (.map x10) (.string x12) (.int .i64 (x13n : Nat))) hp fun u1 h2 => (K (upd (upd (upd (upd (upd (upd (upd e 13 (sS x13a x13n x13c)) 12 (sV (.string x12))) 10 (sV (.map x10))) 75 (sV (.map x10))) 76 (sV (.string x12))) 77 (sS x13a x13n x13c)) 78 (sI ((x13n : Nat)))) V0 h2)) := by kernel_rfl
theorem F15_r37 : R15 [1, 1, 1, 1, 1, 1, 0, 1, 0, 0, 1, 1] 3 (upd e 11 (sI x11)) V0 hp K =
    (K (upd (upd (upd (upd e 11 (sI x11)) 45 (sI x11)) 46 (sI ((wr (x11 + 1))))) 11 (sI ((wr (x11 + 1))))) V0 hp) := by kernel_rfl
def F15_l12 (x0a : Option Addr) (x0n : Nat) (x0c : Nat) (x1 : Int) (x2a : Option Addr) (x2n : Nat) (x2c : Nat) (x7 : Option Addr) (x10 : Option Nat) (K : Value → HP → Prop) (I12 : ((Option Addr) × Nat × Nat × Int) → HP → Prop) (x9a : Option Addr) (x9n : Nat) (x9c : Nat) (x11 : Int) (hp : HP) : Prop :=
  (ite2 (decide (x11 < x0n)) ((0 ≤ x11) ∧ (x11 < x0n) ∧ (ptrN x0a fun b_112 o_113 => (ldV (HP.cell hp b_112 (o_113 + Int.toNat x11 * 1)) fun v_114 => (strV v_114 fun s_115 => (ite2 (decide (((ByteArray.size s_115 : Nat) : Int) > 600)) (CF Try.prog 22 [] hp fun u_116 h_117 => (boolV u_116 fun q_118 => (K (.bool q_118) h_117))) (∀ b_119 : Nat, hp b_119 = .none → (rdS Try.prog (convert 98 9 (.slice (some ⟨b_119, 0, none⟩) 1 1)) (HP.set hp b_119 (.cells 5 [(.int .u8 (IntKind.wrap .u8 ((IntKind.wrap .i64 (97 + x11)))))] 0)) fun u_120 => (strV u_120 fun s_121 => ((ByteArray.size (⟨#[104]⟩ : ByteArray) + ByteArray.size s_121 ≤ 9223372036854775807) ∧ ((0 ≤ x11) ∧ (x11 < x0n) ∧ (ptrN x0a fun b_122 o_123 => (ldV (HP.cell (HP.set hp b_119 (.cells 5 [(.int .u8 (IntKind.wrap .u8 ((IntKind.wrap .i64 (97 + x11)))))] 0)) b_122 (o_123 + Int.toNat x11 * 1)) fun v_124 => (strV v_124 fun s_125 => (((9 : Int) ≠ 0) ∧ (CF Try.prog 23 [(.string s_121), (.string ((⟨#[104]⟩ : ByteArray) ++ s_121)), (.string s_125), (.int .i64 (IntKind.wrap .i64 (8 * (IntKind.wrap .i64 (1 + (IntKind.wrap .i64 ((Int.tmod x1 9))))))))] (HP.set hp b_119 (.cells 5 [(.int .u8 (IntKind.wrap .u8 ((IntKind.wrap .i64 (97 + x11)))))] 0)) fun u_126 h_127 => (slcV u_126 fun a_128 n_129 c_130 => (opS Try.prog (Builtin.append_ #[26, 26] 26 ⟨[(.slice x9a x9n x9c), (.slice a_128 n_129 c_130)]⟩) h_127 fun u_131 h_132 => (slcV u_131 fun a_133 n_134 c_135 => (opS Try.prog (Instr.mapUpdate 97 (.map x10) (.string s_121) (.int .i64 (n_129 : Nat))) h_132 fun u_136 h_137 => (I12 (a_133, n_134, c_135, (IntKind.wrap .i64 (x11 + 1))) h_137)))))))))))))))))))) (F15_j2 x0a x0n x0c x2a x2n x2c x7 x9a x9n x9c x10 hp  K))
def F15_j11 (x0a : Option Addr) (x0n : Nat) (x0c : Nat) (x1 : Int) (x2a : Option Addr) (x2n : Nat) (x2c : Nat) (x7 : Option Addr) (x9a : Option Addr) (x9n : Nat) (x9c : Nat) (x10 : Option Nat) (x11 : Int) (hp : HP) (K : Value → HP → Prop) : Prop :=
  (LoopP (σ := (Option Addr) × Nat × Nat × Int) (fun I s hp => F15_l12 x0a x0n x0c x1 x2a x2n x2c x7 x10  K I s.1 s.2.1 s.2.2.1 s.2.2.2 hp) (x9a, x9n, x9c, x11) hp)
theorem F15_r38 : R15 [1, 1, 1, 1, 1, 1, 0, 0] 1 e V0 hp K =
    (K (upd e 11 (sI 0)) V0 hp) := by kernel_rfl
def F15_j1 (x0a : Option Addr) (x0n : Nat) (x0c : Nat) (x1 : Int) (x2a : Option Addr) (x2n : Nat) (x2c : Nat) (x32 : Bool) (hp : HP) (K : Value → HP → Prop) : Prop :=
  (ite2 x32 (CF Try.prog 22 [] hp fun u_1 h_2 => (boolV u_1 fun q_3 => (K (.bool q_3) h_2))) (CF Try.prog 25 [(.int .i64 1000), (.int .i64 1000)] hp fun u_4 h_5 => (tup2V u_4 fun u_6 u_7 => (ptrV u_6 fun p_8 => (intV u_7 .i64 fun i_9 => (ite2 (i_9 != 0) (K (.bool false) h_5) (∀ b_10 : Nat, h_5 b_10 = .none → (F15_j11 x0a x0n x0c x1 x2a x2n x2c p_8 none 0 0 (some b_10) 0 (HP.set h_5 b_10 (.obj (.map #[] 0)))  K))))))))
theorem F15_r39 : R15 [1, 0, 0] 8 (upd (upd e 2 (sS x2a x2n x2c)) 0 (sS x0a x0n x0c)) V0 hp K =
    (ite2 (decide (((x0n : Nat) : Int) > 5)) (K (upd (upd (upd (upd (upd (upd (upd (upd (upd (upd e 2 (sS x2a x2n x2c)) 0 (sS x0a x0n x0c)) 25 (sS x0a x0n x0c)) 26 (sI ((x0n : Nat)))) 27 (sB ((decide (((x0n : Nat) : Int) > 5))))) 28 (sB true)) 29 sU) 30 sU) 31 sU) 32 (sB true)) V0 hp) (K (upd (upd (upd (upd (upd (upd (upd (upd (upd (upd e 2 (sS x2a x2n x2c)) 0 (sS x0a x0n x0c)) 25 (sS x0a x0n x0c)) 26 (sI ((x0n : Nat)))) 27 (sB ((decide (((x0n : Nat) : Int) > 5))))) 28 (sB false)) 29 (sS x2a x2n x2c)) 30 (sI ((x2n : Nat)))) 31 (sB ((decide (((x2n : Nat) : Int) > 400))))) 32 (sB ((decide (((x2n : Nat) : Int) > 400))))) V0 hp)) := by kernel_rfl
def F15 (x0a : Option Addr) (x0n : Nat) (x0c : Nat) (x1 : Int) (x2a : Option Addr) (x2n : Nat) (x2c : Nat) (hp : HP) (K : Value → HP → Prop) : Prop :=
  (ite2 (decide (((x0n : Nat) : Int) > 5)) (F15_j1 x0a x0n x0c x1 x2a x2n x2c true hp  K) (F15_j1 x0a x0n x0c x1 x2a x2n x2c (decide (((x2n : Nat) : Int) > 400)) hp  K))
noncomputable def F15_code : Code := (.seq (.region 0 (opsAt Try.f15 [0]) false) (.seq (.seq (.region 1 (opsAt Try.f15 [1, 0, 0]) false) (.cond (.tmp 32) (.seq (.region 2 (opsAt Try.f15 [1, 0, 1, 0, 0]) false) .ret) .skip)) (.seq (.region 3 (opsAt Try.f15 [1, 1, 0]) false) (.seq (.seq (.region 4 (opsAt Try.f15 [1, 1, 1, 0, 0]) false) (.cond (.tmp 39) (.seq (.region 5 (opsAt Try.f15 [1, 1, 1, 0, 1, 0, 0]) false) .ret) .skip)) (.seq (.region 6 (opsAt Try.f15 [1, 1, 1, 1, 0]) false) (.seq (.region 7 (opsAt Try.f15 [1, 1, 1, 1, 1, 0]) false) (.seq (.seq (.region 8 (opsAt Try.f15 [1, 1, 1, 1, 1, 1, 0, 0]) false) (.block 0 (.loop (.seq (.seq (.region 9 (opsAt Try.f15 [1, 1, 1, 1, 1, 1, 0, 1, 0, 0, 0, 0]) false) (.cond (.tmp 44) .skip (.exit 0))) (.seq (.block 1 (.seq (.seq (.region 11 (opsAt Try.f15 [1, 1, 1, 1, 1, 1, 0, 1, 0, 0, 1, 0, 0, 0, 0]) false) (.cond (.tmp 52) (.seq (.region 12 (opsAt Try.f15 [1, 1, 1, 1, 1, 1, 0, 1, 0, 0, 1, 0, 0, 0, 1, 0, 0]) false) .ret) .skip)) (.seq (.region 13 (opsAt Try.f15 [1, 1, 1, 1, 1, 1, 0, 1, 0, 0, 1, 0, 0, 1, 0]) false) (.seq (.region 14 (opsAt Try.f15 [1, 1, 1, 1, 1, 1, 0, 1, 0, 0, 1, 0, 0, 1, 1, 0]) false) (.seq (.region 15 (opsAt Try.f15 [1, 1, 1, 1, 1, 1, 0, 1, 0, 0, 1, 0, 0, 1, 1, 1, 0]) false) (.region 16 (opsAt Try.f15 [1, 1, 1, 1, 1, 1, 0, 1, 0, 0, 1, 0, 0, 1, 1, 1, 1]) false)))))) (.region 10 (opsAt Try.f15 [1, 1, 1, 1, 1, 1, 0, 1, 0, 0, 1, 1]) false)))))) (.seq (.region 17 (opsAt Try.f15 [1, 1, 1, 1, 1, 1, 1, 0]) false) (.seq (.seq (.region 18 (opsAt Try.f15 [1, 1, 1, 1, 1, 1, 1, 1, 0, 0]) false) (.block 2 (.loop (.seq (.seq (.region 19 (opsAt Try.f15 [1, 1, 1, 1, 1, 1, 1, 1, 0, 1, 0, 0, 0, 0]) false) (.cond (.tmp 81) .skip (.exit 2))) (.seq (.block 3 (.seq (.region 21 (opsAt Try.f15 [1, 1, 1, 1, 1, 1, 1, 1, 0, 1, 0, 0, 1, 0, 0, 0]) false) (.seq (.seq (.region 22 (opsAt Try.f15 [1, 1, 1, 1, 1, 1, 1, 1, 0, 1, 0, 0, 1, 0, 0, 1, 0, 0]) false) (.cond (.tmp 87) (.seq (.region 23 (opsAt Try.f15 [1, 1, 1, 1, 1, 1, 1, 1, 0, 1, 0, 0, 1, 0, 0, 1, 0, 1, 0, 0]) false) (.seq (.region 24 (opsAt Try.f15 [1, 1, 1, 1, 1, 1, 1, 1, 0, 1, 0, 0, 1, 0, 0, 1, 0, 1, 0, 1, 0]) false) (.cond (.tmp 105) (.seq (.region 25 (opsAt Try.f15 [1, 1, 1, 1, 1, 1, 1, 1, 0, 1, 0, 0, 1, 0, 0, 1, 0, 1, 0, 1, 1, 0, 0]) false) (.seq (.region 26 (opsAt Try.f15 [1, 1, 1, 1, 1, 1, 1, 1, 0, 1, 0, 0, 1, 0, 0, 1, 0, 1, 0, 1, 1, 0, 1, 0]) false) (.cond (.tmp 121) (.seq (.region 27 (opsAt Try.f15 [1, 1, 1, 1, 1, 1, 1, 1, 0, 1, 0, 0, 1, 0, 0, 1, 0, 1, 0, 1, 1, 0, 1, 1, 0, 0]) false) (.seq (.region 28 (opsAt Try.f15 [1, 1, 1, 1, 1, 1, 1, 1, 0, 1, 0, 0, 1, 0, 0, 1, 0, 1, 0, 1, 1, 0, 1, 1, 0, 1, 0]) false) (.cond (.tmp 133) (.seq (.region 29 (opsAt Try.f15 [1, 1, 1, 1, 1, 1, 1, 1, 0, 1, 0, 0, 1, 0, 0, 1, 0, 1, 0, 1, 1, 0, 1, 1, 0, 1, 1, 0, 0]) false) .ret) .skip))) .skip))) .skip))) .skip)) (.seq (.region 30 (opsAt Try.f15 [1, 1, 1, 1, 1, 1, 1, 1, 0, 1, 0, 0, 1, 0, 0, 1, 1, 0]) false) (.seq (.region 31 (opsAt Try.f15 [1, 1, 1, 1, 1, 1, 1, 1, 0, 1, 0, 0, 1, 0, 0, 1, 1, 1, 0]) true) (.seq (.region 32 (opsAt Try.f15 [1, 1, 1, 1, 1, 1, 1, 1, 0, 1, 0, 0, 1, 0, 0, 1, 1, 1, 1, 0]) false) (.seq (.region 33 (opsAt Try.f15 [1, 1, 1, 1, 1, 1, 1, 1, 0, 1, 0, 0, 1, 0, 0, 1, 1, 1, 1, 1, 0]) false) (.seq (.region 34 (opsAt Try.f15 [1, 1, 1, 1, 1, 1, 1, 1, 0, 1, 0, 0, 1, 0, 0, 1, 1, 1, 1, 1, 1, 0]) false) (.seq (.seq (.region 35 (opsAt Try.f15 [1, 1, 1, 1, 1, 1, 1, 1, 0, 1, 0, 0, 1, 0, 0, 1, 1, 1, 1, 1, 1, 1, 0, 0]) false) (.cond (.tmp 174) (.seq (.region 36 (opsAt Try.f15 [1, 1, 1, 1, 1, 1, 1, 1, 0, 1, 0, 0, 1, 0, 0, 1, 1, 1, 1, 1, 1, 1, 0, 1, 0, 0]) false) .ret) .skip)) (.seq (.region 37 (opsAt Try.f15 [1, 1, 1, 1, 1, 1, 1, 1, 0, 1, 0, 0, 1, 0, 0, 1, 1, 1, 1, 1, 1, 1, 1, 0]) true) (.cond (.tmp 202) (.seq (.region 38 (opsAt Try.f15 [1, 1, 1, 1, 1, 1, 1, 1, 0, 1, 0, 0, 1, 0, 0, 1, 1, 1, 1, 1, 1, 1, 1, 1, 0, 0]) false) .ret) .skip))))))))))) (.region 20 (opsAt Try.f15 [1, 1, 1, 1, 1, 1, 1, 1, 0, 1, 0, 0, 1, 1]) false)))))) (.seq (.region 39 (opsAt Try.f15 [1, 1, 1, 1, 1, 1, 1, 1, 1, 0]) false) .ret))))))))))
theorem F15_body : Try.f15.body = some F15_code := by kernel_rfl
theorem F15_ok (x0a : Option Addr) (x0n : Nat) (x0c : Nat) (x1 : Int) (x2a : Option Addr) (x2n : Nat) (x2c : Nat) (hp : HP) (K : Value → HP → Prop) (h : F15 x0a x0n x0c x1 x2a x2n x2c hp K) : CF Try.prog 15 [(.slice x0a x0n x0c), (.int .u8 x1), (.slice x2a x2n x2c)] hp K := by
 refine .inl ⟨by kernel_rfl, AC.intro (N := 215) Try.func15 F15_body rfl (Nat.le_of_ble_eq_true rfl) ?_⟩
 unfold F15 at h
 unfold F15_code
 refine AWP.seq' ?_
 refine AWP.rgn (F15_r0 (upd (upd (upd E0 2 (sS x2a x2n x2c)) 1 (sV (.int .u8 x1))) 0 (sS x0a x0n x0c))  hp _) ?_ (Ru 0 (Ru 1 (Ru 2 Rn))) (Sc rfl (Sc rfl (Sc rfl Sn))) Sn
 refine AWP.seq' ?_
 refine AWP.seq (fun env pv hp => ∃ (x0a : Option Addr) (x0n : Nat) (x0c : Nat) (x1 : Int) (x2a : Option Addr) (x2n : Nat) (x2c : Nat) (x32 : Bool), Sub (upd (upd (upd (upd E0 32 (sB x32)) 2 (sS x2a x2n x2c)) 1 (sV (.int .u8 x1))) 0 (sS x0a x0n x0c)) env ∧ Sub V0 pv ∧ (F15_j1 x0a x0n x0c x1 x2a x2n x2c x32 hp  K)) ?_ ?_
 ·refine AWP.rgn (F15_r39 (upd E0 1 (sV (.int .u8 x1))) x0a x0n x0c x2a x2n x2c hp _) ?_ (Ru 0 (Ru 2 (Ru 1 Rn))) (Sc rfl (Sc rfl (Sc rfl Sn))) Sn
  refine mt h (fun h => ?_) (fun h => ?_)
  ·exact ⟨x0a, x0n, x0c, x1, x2a, x2n, x2c, true, (Sc rfl (Sc rfl (Sc rfl (Sc rfl Sn)))), Sn, h⟩
  ·exact ⟨x0a, x0n, x0c, x1, x2a, x2n, x2c, (decide (((x2n : Nat) : Int) > 400)), (Sc rfl (Sc rfl (Sc rfl (Sc rfl Sn)))), Sn, h⟩
 ·rintro env pv hp ⟨x0a, x0n, x0c, x1, x2a, x2n, x2c, x32, he, hv, h⟩
  refine AWP.sub (env' := (upd (upd (upd (upd E0 32 (sB x32)) 2 (sS x2a x2n x2c)) 1 (sV (.int .u8 x1))) 0 (sS x0a x0n x0c))) (pv' := V0) ?_ (Ru 0 (Ru 1 (Ru 2 (Ru 32 Rn)))) he hv (HSub.refl _)
  clear he hv
  unfold F15_j1 at h
  refine AWP.cond (t := x32) rfl (fun e => ?_) (fun e => ?_)
  ·replace h := ite2_t h e
   refine AWP.seq' ?_
   refine AWP.rgn (F15_r1 E0  hp _) ?_ Rn Sn Sn
   refine mC h fun u_1 h_2 h => mB h fun q_3 h => ?_
   refine AWP.ret ?_
   exact h
  ·replace h := ite2_f h e
   refine AWP.skip ?_
   refine AWP.seq' ?_
   refine AWP.rgn (F15_r2 (upd (upd (upd E0 2 (sS x2a x2n x2c)) 1 (sV (.int .u8 x1))) 0 (sS x0a x0n x0c))  hp _) ?_ (Ru 0 (Ru 1 (Ru 2 Rn))) (Sc rfl (Sc rfl (Sc rfl Sn))) Sn
   refine mC h fun u_4 h_5 h => mT h fun u_6 u_7 h => mP h fun p_8 h => mI h fun i_9 h => ?_
   refine AWP.seq' ?_
   refine AWP.seq' ?_
   refine AWP.rgn (F15_r3 (upd (upd (upd (upd E0 7 (sP p_8)) 2 (sS x2a x2n x2c)) 1 (sV (.int .u8 x1))) 0 (sS x0a x0n x0c)) i_9 h_5 _) ?_ (Ru 8 (Ru 0 (Ru 1 (Ru 2 (Ru 7 Rn))))) (Sc rfl (Sc rfl (Sc rfl (Sc rfl (Sc rfl Sn))))) Sn
   refine AWP.cond (t := (i_9 != 0)) rfl (fun e => ?_) (fun e => ?_)
   ·replace h := ite2_t h e
    refine AWP.seq' ?_
    refine AWP.rgn (F15_r4 E0  h_5 _) ?_ Rn Sn Sn
    refine AWP.ret ?_
    exact h
   ·replace h := ite2_f h e
    refine AWP.skip ?_
    refine AWP.seq' ?_
    refine AWP.rgn (F15_r5 (upd (upd (upd (upd E0 7 (sP p_8)) 2 (sS x2a x2n x2c)) 1 (sV (.int .u8 x1))) 0 (sS x0a x0n x0c))  h_5 _) ?_ (Ru 0 (Ru 1 (Ru 2 (Ru 7 Rn)))) (Sc rfl (Sc rfl (Sc rfl (Sc rfl Sn)))) Sn
    refine AWP.seq' ?_
    refine AWP.rgn (F15_r6 (upd (upd (upd (upd (upd E0 9 (sS none 0 0)) 7 (sP p_8)) 2 (sS x2a x2n x2c)) 1 (sV (.int .u8 x1))) 0 (sS x0a x0n x0c))  h_5 _) ?_ (Ru 0 (Ru 1 (Ru 2 (Ru 7 (Ru 9 Rn))))) (Sc rfl (Sc rfl (Sc rfl (Sc rfl (Sc rfl Sn))))) Sn
    refine fun b_10 hb_b_10 => ?_
    replace h := h b_10 hb_b_10
    refine AWP.seq (fun env pv hp => ∃ (x0a : Option Addr) (x0n : Nat) (x0c : Nat) (x2a : Option Addr) (x2n : Nat) (x2c : Nat) (x7 : Option Addr) (x9a : Option Addr) (x9n : Nat) (x9c : Nat) (x10 : Option Nat), Sub (upd (upd (upd (upd (upd E0 10 (sV (.map x10))) 9 (sS x9a x9n x9c)) 7 (sP x7)) 2 (sS x2a x2n x2c)) 0 (sS x0a x0n x0c)) env ∧ Sub V0 pv ∧ (F15_j2 x0a x0n x0c x2a x2n x2c x7 x9a x9n x9c x10 hp  K)) ?_ ?_
    ·refine AWP.seq (fun env pv hp => ∃ (x0a : Option Addr) (x0n : Nat) (x0c : Nat) (x1 : Int) (x2a : Option Addr) (x2n : Nat) (x2c : Nat) (x7 : Option Addr) (x9a : Option Addr) (x9n : Nat) (x9c : Nat) (x10 : Option Nat) (x11 : Int), Sub (upd (upd (upd (upd (upd (upd (upd E0 11 (sI x11)) 10 (sV (.map x10))) 9 (sS x9a x9n x9c)) 7 (sP x7)) 2 (sS x2a x2n x2c)) 1 (sV (.int .u8 x1))) 0 (sS x0a x0n x0c)) env ∧ Sub V0 pv ∧ (F15_j11 x0a x0n x0c x1 x2a x2n x2c x7 x9a x9n x9c x10 x11 hp  K)) ?_ ?_
     ·refine AWP.rgn (F15_r38 (upd (upd (upd (upd (upd (upd E0 10 (sV (.map (some b_10)))) 9 (sS none 0 0)) 7 (sP p_8)) 2 (sS x2a x2n x2c)) 1 (sV (.int .u8 x1))) 0 (sS x0a x0n x0c))  (HP.set h_5 b_10 (.obj (.map #[] 0))) _) ?_ (Ru 0 (Ru 1 (Ru 2 (Ru 7 (Ru 9 (Ru 10 Rn)))))) (Sc rfl (Sc rfl (Sc rfl (Sc rfl (Sc rfl (Sc rfl Sn)))))) Sn
      exact ⟨x0a, x0n, x0c, x1, x2a, x2n, x2c, p_8, none, 0, 0, (some b_10), 0, (Sc rfl (Sc rfl (Sc rfl (Sc rfl (Sc rfl (Sc rfl (Sc rfl Sn))))))), Sn, h⟩
     ·rintro env pv hp ⟨x0a, x0n, x0c, x1, x2a, x2n, x2c, x7, x9a, x9n, x9c, x10, x11, he, hv, h⟩
      refine AWP.sub (env' := (upd (upd (upd (upd (upd (upd (upd E0 11 (sI x11)) 10 (sV (.map x10))) 9 (sS x9a x9n x9c)) 7 (sP x7)) 2 (sS x2a x2n x2c)) 1 (sV (.int .u8 x1))) 0 (sS x0a x0n x0c))) (pv' := V0) ?_ (Ru 0 (Ru 1 (Ru 2 (Ru 7 (Ru 9 (Ru 10 (Ru 11 Rn))))))) he hv (HSub.refl _)
      clear he hv
      unfold F15_j11 at h
      refine AWP.block ?_
      refine AWP.loop (σ := (Option Addr) × Nat × Nat × Int) (fun I s hp => F15_l12 x0a x0n x0c x1 x2a x2n x2c x7 x10  K I s.1 s.2.1 s.2.2.1 s.2.2.2 hp) (fun s => (upd (upd (upd (upd (upd (upd (upd E0 11 (sI (s.2.2.2))) 10 (sV (.map x10))) 9 (sV (.slice s.1 s.2.1 s.2.2.1))) 7 (sP x7)) 2 (sS x2a x2n x2c)) 1 (sV (.int .u8 x1))) 0 (sS x0a x0n x0c))) (fun s => V0) (x9a, x9n, x9c, x11) h (fun s => (Ru 0 (Ru 1 (Ru 2 (Ru 7 (Ru 9 (Ru 10 (Ru 11 Rn)))))))) (Sc rfl (Sc rfl (Sc rfl (Sc rfl (Sc rfl (Sc rfl (Sc rfl Sn))))))) Sn ?_
      intro I12 s hp h
      obtain ⟨x9a, x9n, x9c, x11⟩ := s
      replace h : F15_l12 x0a x0n x0c x1 x2a x2n x2c x7 x10  K I12 x9a x9n x9c x11 hp := h
      unfold F15_l12 at h
      refine AWP.seq' ?_
      refine AWP.seq' ?_
      refine AWP.rgn (F15_r30 (upd (upd (upd (upd (upd E0 10 (sV (.map x10))) 9 (sS x9a x9n x9c)) 7 (sP x7)) 2 (sS x2a x2n x2c)) 1 (sV (.int .u8 x1))) x0a x0n x0c x11 hp _) ?_ (Ru 0 (Ru 11 (Ru 1 (Ru 2 (Ru 7 (Ru 9 (Ru 10 Rn))))))) (Sc rfl (Sc rfl (Sc rfl (Sc rfl (Sc rfl (Sc rfl (Sc rfl Sn))))))) Sn
      refine AWP.cond (t := (decide (x11 < x0n))) rfl (fun e => ?_) (fun e => ?_)
      ·replace h := ite2_t h e
       refine AWP.skip ?_
       refine AWP.seq' ?_
       refine AWP.block ?_
       refine AWP.seq' ?_
       refine AWP.seq' ?_
       refine AWP.rgn (F15_r31 (upd (upd (upd (upd (upd E0 10 (sV (.map x10))) 9 (sS x9a x9n x9c)) 7 (sP x7)) 2 (sS x2a x2n x2c)) 1 (sV (.int .u8 x1))) x0a x0n x0c x11 hp _) ?_ (Ru 0 (Ru 11 (Ru 1 (Ru 2 (Ru 7 (Ru 9 (Ru 10 Rn))))))) (Sc rfl (Sc rfl (Sc rfl (Sc rfl (Sc rfl (Sc rfl (Sc rfl Sn))))))) Sn
       refine ⟨h.1, h.2.1, mN h.2.2 fun b_112 o_113 h => mV h fun v_114 h => ms h fun s_115 h => ?_⟩
       refine AWP.cond (t := (decide (((ByteArray.size s_115 : Nat) : Int) > 600))) rfl (fun e => ?_) (fun e => ?_)
       ·replace h := ite2_t h e
        refine AWP.seq' ?_
        refine AWP.rgn (F15_r32 E0  hp _) ?_ Rn Sn Sn
        refine mC h fun u_116 h_117 h => mB h fun q_118 h => ?_
        refine AWP.ret ?_
        exact h
       ·replace h := ite2_f h e
        refine AWP.skip ?_
        refine AWP.seq' ?_
        refine AWP.rgn (F15_r33 (upd (upd (upd (upd (upd (upd E0 10 (sV (.map x10))) 9 (sS x9a x9n x9c)) 7 (sP x7)) 2 (sS x2a x2n x2c)) 1 (sV (.int .u8 x1))) 0 (sS x0a x0n x0c)) x11 hp _) ?_ (Ru 11 (Ru 0 (Ru 1 (Ru 2 (Ru 7 (Ru 9 (Ru 10 Rn))))))) (Sc rfl (Sc rfl (Sc rfl (Sc rfl (Sc rfl (Sc rfl (Sc rfl Sn))))))) Sn
        refine fun b_119 hb_b_119 => ?_
        replace h := h b_119 hb_b_119
        refine mR h fun u_120 h => ms h fun s_121 h => ?_
        refine AWP.seq' ?_
        refine AWP.rgn (F15_r34 (upd (upd (upd (upd E0 10 (sV (.map x10))) 9 (sS x9a x9n x9c)) 7 (sP x7)) 2 (sS x2a x2n x2c)) x0a x0n x0c x1 x11 s_121 (HP.set hp b_119 (.cells 5 [(.int .u8 (IntKind.wrap .u8 ((wr (97 + x11)))))] 0)) _) ?_ (Ru 0 (Ru 1 (Ru 11 (Ru 12 (Ru 2 (Ru 7 (Ru 9 (Ru 10 Rn)))))))) (Sc rfl (Sc rfl (Sc rfl (Sc rfl (Sc rfl (Sc rfl (Sc rfl (Sc rfl Sn)))))))) Sn
        refine ⟨h.1, ?_⟩
        replace h := h.2
        refine ⟨h.1, h.2.1, mN h.2.2 (fun b_122 o_123 h => mV h (fun v_124 h => ms h (fun s_125 h => ⟨h.1, mC h.2 fun u_126 h_127 h => mS h fun a_128 n_129 c_130 h => ?_⟩)))⟩
        refine AWP.seq' ?_
        refine AWP.rgn (F15_r35 (upd (upd (upd (upd (upd (upd (upd E0 12 (sV (.string s_121))) 11 (sI x11)) 10 (sV (.map x10))) 7 (sP x7)) 2 (sS x2a x2n x2c)) 1 (sV (.int .u8 x1))) 0 (sS x0a x0n x0c)) x9a x9n x9c a_128 n_129 c_130 h_127 _) ?_ (Ru 9 (Ru 13 (Ru 0 (Ru 1 (Ru 2 (Ru 7 (Ru 10 (Ru 11 (Ru 12 Rn))))))))) (Sc rfl (Sc rfl (Sc rfl (Sc rfl (Sc rfl (Sc rfl (Sc rfl (Sc rfl (Sc rfl Sn))))))))) Sn
        refine mO h fun u_131 h_132 h => mS h fun a_133 n_134 c_135 h => ?_
        refine AWP.rgn (F15_r36 (upd (upd (upd (upd (upd (upd E0 11 (sI x11)) 9 (sS a_133 n_134 c_135)) 7 (sP x7)) 2 (sS x2a x2n x2c)) 1 (sV (.int .u8 x1))) 0 (sS x0a x0n x0c)) x10 s_121 a_128 n_129 c_130 h_132 _) ?_ (Ru 10 (Ru 12 (Ru 13 (Ru 0 (Ru 1 (Ru 2 (Ru 7 (Ru 9 (Ru 11 Rn))))))))) (Sc rfl (Sc rfl (Sc rfl (Sc rfl (Sc rfl (Sc rfl (Sc rfl (Sc rfl (Sc rfl Sn))))))))) Sn
        refine mO h fun u_136 h_137 h => ?_
        refine AWP.rgn (F15_r37 (upd (upd (upd (upd (upd (upd E0 10 (sV (.map x10))) 9 (sS a_133 n_134 c_135)) 7 (sP x7)) 2 (sS x2a x2n x2c)) 1 (sV (.int .u8 x1))) 0 (sS x0a x0n x0c)) x11 h_137 _) ?_ (Ru 11 (Ru 0 (Ru 1 (Ru 2 (Ru 7 (Ru 9 (Ru 10 Rn))))))) (Sc rfl (Sc rfl (Sc rfl (Sc rfl (Sc rfl (Sc rfl (Sc rfl Sn))))))) Sn
        exact ⟨(a_133, n_134, c_135, (wr (x11 + 1))), (Sc rfl (Sc rfl (Sc rfl (Sc rfl (Sc rfl (Sc rfl (Sc rfl Sn))))))), Sn, h⟩
      ·replace h := ite2_f h e
       refine AWP.exit ?_
       exact ⟨x0a, x0n, x0c, x2a, x2n, x2c, x7, x9a, x9n, x9c, x10, (Sc rfl (Sc rfl (Sc rfl (Sc rfl (Sc rfl Sn))))), Sn, h⟩
    ·rintro env pv hp ⟨x0a, x0n, x0c, x2a, x2n, x2c, x7, x9a, x9n, x9c, x10, he, hv, h⟩
     refine AWP.sub (env' := (upd (upd (upd (upd (upd E0 10 (sV (.map x10))) 9 (sS x9a x9n x9c)) 7 (sP x7)) 2 (sS x2a x2n x2c)) 0 (sS x0a x0n x0c))) (pv' := V0) ?_ (Ru 0 (Ru 2 (Ru 7 (Ru 9 (Ru 10 Rn))))) he hv (HSub.refl _)
     clear he hv
     unfold F15_j2 at h
     refine AWP.seq' ?_
     refine AWP.rgn (F15_r7 (upd (upd (upd (upd (upd E0 10 (sV (.map x10))) 9 (sS x9a x9n x9c)) 7 (sP x7)) 2 (sS x2a x2n x2c)) 0 (sS x0a x0n x0c))  hp _) ?_ (Ru 0 (Ru 2 (Ru 7 (Ru 9 (Ru 10 Rn))))) (Sc rfl (Sc rfl (Sc rfl (Sc rfl (Sc rfl Sn))))) Sn
     refine AWP.seq (fun env pv hp => ∃ (x7 : Option Addr), Sub (upd E0 7 (sP x7)) env ∧ Sub V0 pv ∧ (F15_j3 x7 hp  K)) ?_ ?_
     ·refine AWP.seq (fun env pv hp => ∃ (x0a : Option Addr) (x0n : Nat) (x0c : Nat) (x2a : Option Addr) (x2n : Nat) (x2c : Nat) (x7 : Option Addr) (x9a : Option Addr) (x9n : Nat) (x9c : Nat) (x10 : Option Nat) (x14a : Option Addr) (x14n : Nat) (x14c : Nat) (x15 : Int), Sub (upd (upd (upd (upd (upd (upd (upd E0 15 (sI x15)) 14 (sS x14a x14n x14c)) 10 (sV (.map x10))) 9 (sS x9a x9n x9c)) 7 (sP x7)) 2 (sS x2a x2n x2c)) 0 (sS x0a x0n x0c)) env ∧ Sub V0 pv ∧ (F15_j4 x0a x0n x0c x2a x2n x2c x7 x9a x9n x9c x10 x14a x14n x14c x15 hp  K)) ?_ ?_
      ·refine AWP.rgn (F15_r29 (upd (upd (upd (upd (upd (upd E0 14 (sS none 0 0)) 10 (sV (.map x10))) 9 (sS x9a x9n x9c)) 7 (sP x7)) 2 (sS x2a x2n x2c)) 0 (sS x0a x0n x0c))  hp _) ?_ (Ru 0 (Ru 2 (Ru 7 (Ru 9 (Ru 10 (Ru 14 Rn)))))) (Sc rfl (Sc rfl (Sc rfl (Sc rfl (Sc rfl (Sc rfl Sn)))))) Sn
       exact ⟨x0a, x0n, x0c, x2a, x2n, x2c, x7, x9a, x9n, x9c, x10, none, 0, 0, 0, (Sc rfl (Sc rfl (Sc rfl (Sc rfl (Sc rfl (Sc rfl (Sc rfl Sn))))))), Sn, h⟩
      ·rintro env pv hp ⟨x0a, x0n, x0c, x2a, x2n, x2c, x7, x9a, x9n, x9c, x10, x14a, x14n, x14c, x15, he, hv, h⟩
       refine AWP.sub (env' := (upd (upd (upd (upd (upd (upd (upd E0 15 (sI x15)) 14 (sS x14a x14n x14c)) 10 (sV (.map x10))) 9 (sS x9a x9n x9c)) 7 (sP x7)) 2 (sS x2a x2n x2c)) 0 (sS x0a x0n x0c))) (pv' := V0) ?_ (Ru 0 (Ru 2 (Ru 7 (Ru 9 (Ru 10 (Ru 14 (Ru 15 Rn))))))) he hv (HSub.refl _)
       clear he hv
       unfold F15_j4 at h
       refine AWP.block ?_
       refine AWP.loop (σ := (Option Addr) × Nat × Nat × (Option Addr) × Nat × Nat × Int) (fun I s hp => F15_l5 x0a x0n x0c x2a x2n x2c x7 x10  K I s.1 s.2.1 s.2.2.1 s.2.2.2.1 s.2.2.2.2.1 s.2.2.2.2.2.1 s.2.2.2.2.2.2 hp) (fun s => (upd (upd (upd (upd (upd (upd (upd E0 15 (sI (s.2.2.2.2.2.2))) 14 (sV (.slice s.2.2.2.1 s.2.2.2.2.1 s.2.2.2.2.2.1))) 10 (sV (.map x10))) 9 (sV (.slice s.1 s.2.1 s.2.2.1))) 7 (sP x7)) 2 (sS x2a x2n x2c)) 0 (sS x0a x0n x0c))) (fun s => V0) (x9a, x9n, x9c, x14a, x14n, x14c, x15) h (fun s => (Ru 0 (Ru 2 (Ru 7 (Ru 9 (Ru 10 (Ru 14 (Ru 15 Rn)))))))) (Sc rfl (Sc rfl (Sc rfl (Sc rfl (Sc rfl (Sc rfl (Sc rfl Sn))))))) Sn ?_
       intro I5 s hp h
       obtain ⟨x9a, x9n, x9c, x14a, x14n, x14c, x15⟩ := s
       replace h : F15_l5 x0a x0n x0c x2a x2n x2c x7 x10  K I5 x9a x9n x9c x14a x14n x14c x15 hp := h
       unfold F15_l5 at h
       refine AWP.seq' ?_
       refine AWP.seq' ?_
       refine AWP.rgn (F15_r9 (upd (upd (upd (upd (upd (upd E0 15 (sI x15)) 14 (sS x14a x14n x14c)) 10 (sV (.map x10))) 7 (sP x7)) 2 (sS x2a x2n x2c)) 0 (sS x0a x0n x0c)) x9a x9n x9c hp _) ?_ (Ru 9 (Ru 0 (Ru 2 (Ru 7 (Ru 10 (Ru 14 (Ru 15 Rn))))))) (Sc rfl (Sc rfl (Sc rfl (Sc rfl (Sc rfl (Sc rfl (Sc rfl Sn))))))) Sn
       refine AWP.cond (t := (decide (((x9n : Nat) : Int) > 0))) rfl (fun e => ?_) (fun e => ?_)
       ·replace h := ite2_t h e
        refine AWP.skip ?_
        refine AWP.seq' ?_
        refine AWP.block ?_
        refine AWP.seq' ?_
        refine AWP.rgn (F15_r10 (upd (upd (upd (upd (upd (upd (upd E0 15 (sI x15)) 14 (sS x14a x14n x14c)) 10 (sV (.map x10))) 9 (sS x9a x9n x9c)) 7 (sP x7)) 2 (sS x2a x2n x2c)) 0 (sS x0a x0n x0c))  hp _) ?_ (Ru 0 (Ru 2 (Ru 7 (Ru 9 (Ru 10 (Ru 14 (Ru 15 Rn))))))) (Sc rfl (Sc rfl (Sc rfl (Sc rfl (Sc rfl (Sc rfl (Sc rfl Sn))))))) Sn
        refine AWP.seq (fun env pv hp => ∃ (x9a : Option Addr) (x9n : Nat) (x9c : Nat) (x14a : Option Addr) (x14n : Nat) (x14c : Nat) (x15 : Int) (x16 : Int), Sub (upd (upd (upd (upd (upd (upd (upd (upd E0 16 (sI x16)) 15 (sI x15)) 14 (sS x14a x14n x14c)) 10 (sV (.map x10))) 9 (sS x9a x9n x9c)) 7 (sP x7)) 2 (sS x2a x2n x2c)) 0 (sS x0a x0n x0c)) env ∧ Sub V0 pv ∧ (F15_j6 x0a x0n x0c x2a x2n x2c x7 x9a x9n x9c x10 x14a x14n x14c x15 x16 hp I5 K)) ?_ ?_
        ·refine AWP.seq' ?_
         refine AWP.rgn (F15_r21 (upd (upd (upd (upd (upd (upd E0 16 (sI 0)) 14 (sS x14a x14n x14c)) 10 (sV (.map x10))) 9 (sS x9a x9n x9c)) 7 (sP x7)) 0 (sS x0a x0n x0c)) x2a x2n x2c x15 hp _) ?_ (Ru 2 (Ru 15 (Ru 0 (Ru 7 (Ru 9 (Ru 10 (Ru 14 (Ru 16 Rn)))))))) (Sc rfl (Sc rfl (Sc rfl (Sc rfl (Sc rfl (Sc rfl (Sc rfl (Sc rfl Sn)))))))) Sn
         refine AWP.cond (t := (decide (x15 < x2n))) rfl (fun e => ?_) (fun e => ?_)
         ·replace h := ite2_t h e
          refine AWP.seq' ?_
          refine AWP.rgn (F15_r22 (upd (upd (upd (upd E0 14 (sS x14a x14n x14c)) 10 (sV (.map x10))) 7 (sP x7)) 0 (sS x0a x0n x0c)) x2a x2n x2c x9a x9n x9c x15 hp _) ?_ (Ru 2 (Ru 9 (Ru 15 (Ru 0 (Ru 7 (Ru 10 (Ru 14 Rn))))))) (Sc rfl (Sc rfl (Sc rfl (Sc rfl (Sc rfl (Sc rfl (Sc rfl Sn))))))) Sn
          refine ⟨h.1, h.2.1, mN h.2.2 fun b_78 o_79 h => mV h fun v_80 h => mI h fun i_81 h => mC h fun u_82 h_83 h => mI h fun i_84 h => ?_⟩
          refine AWP.seq (fun env pv hp => ∃ (x9a : Option Addr) (x9n : Nat) (x9c : Nat) (x14a : Option Addr) (x14n : Nat) (x14c : Nat) (x15 : Int) (x16 : Int) (x105 : Bool), Sub (upd (upd (upd (upd (upd (upd (upd (upd (upd E0 105 (sB x105)) 16 (sI x16)) 15 (sI x15)) 14 (sS x14a x14n x14c)) 10 (sV (.map x10))) 9 (sS x9a x9n x9c)) 7 (sP x7)) 2 (sS x2a x2n x2c)) 0 (sS x0a x0n x0c)) env ∧ Sub V0 pv ∧ (F15_j9 x0a x0n x0c x2a x2n x2c x7 x9a x9n x9c x10 x14a x14n x14c x15 x16 x105 hp I5 K)) ?_ ?_
          ·refine AWP.rgn (F15_r28 (upd (upd (upd (upd (upd E0 16 (sI i_84)) 10 (sV (.map x10))) 9 (sS x9a x9n x9c)) 7 (sP x7)) 0 (sS x0a x0n x0c)) x2a x2n x2c x14a x14n x14c x15 h_83 _) ?_ (Ru 2 (Ru 14 (Ru 15 (Ru 0 (Ru 7 (Ru 9 (Ru 10 (Ru 16 Rn)))))))) (Sc rfl (Sc rfl (Sc rfl (Sc rfl (Sc rfl (Sc rfl (Sc rfl (Sc rfl Sn)))))))) Sn
           refine ⟨h.1, h.2.1, mN h.2.2 fun b_108 o_109 h => mV h fun v_110 h => mI h fun i_111 h => ?_⟩
           refine ⟨h.1, mt h.2 (fun h => ?_) (fun h => ?_)⟩
           ·exact ⟨x9a, x9n, x9c, x14a, x14n, x14c, x15, i_84, (decide (((x14n : Nat) : Int) > 0)), (Sc rfl (Sc rfl (Sc rfl (Sc rfl (Sc rfl (Sc rfl (Sc rfl (Sc rfl (Sc rfl Sn))))))))), Sn, h⟩
           ·exact ⟨x9a, x9n, x9c, x14a, x14n, x14c, x15, i_84, false, (Sc rfl (Sc rfl (Sc rfl (Sc rfl (Sc rfl (Sc rfl (Sc rfl (Sc rfl (Sc rfl Sn))))))))), Sn, h⟩
          ·rintro env pv hp ⟨x9a, x9n, x9c, x14a, x14n, x14c, x15, x16, x105, he, hv, h⟩
           refine AWP.sub (env' := (upd (upd (upd (upd (upd (upd (upd (upd (upd E0 105 (sB x105)) 16 (sI x16)) 15 (sI x15)) 14 (sS x14a x14n x14c)) 10 (sV (.map x10))) 9 (sS x9a x9n x9c)) 7 (sP x7)) 2 (sS x2a x2n x2c)) 0 (sS x0a x0n x0c))) (pv' := V0) ?_ (Ru 0 (Ru 2 (Ru 7 (Ru 9 (Ru 10 (Ru 14 (Ru 15 (Ru 16 (Ru 105 Rn))))))))) he hv (HSub.refl _)
           clear he hv
           unfold F15_j9 at h
           refine AWP.cond (t := x105) rfl (fun e => ?_) (fun e => ?_)
           ·replace h := ite2_t h e
            refine AWP.seq' ?_
            refine AWP.rgn (F15_r23 (upd (upd (upd (upd (upd E0 16 (sI x16)) 10 (sV (.map x10))) 9 (sS x9a x9n x9c)) 7 (sP x7)) 0 (sS x0a x0n x0c)) x2a x2n x2c x14a x14n x14c x15 hp _) ?_ (Ru 2 (Ru 14 (Ru 15 (Ru 0 (Ru 7 (Ru 9 (Ru 10 (Ru 16 Rn)))))))) (Sc rfl (Sc rfl (Sc rfl (Sc rfl (Sc rfl (Sc rfl (Sc rfl (Sc rfl Sn)))))))) Sn
            refine ⟨h.1, h.2.1, mN h.2.2 (fun b_85 o_86 h => mV h (fun v_87 h => mI h (fun i_88 h => ⟨h.1, mC h.2 (fun u_89 h_90 h => mI h (fun i_91 h => ⟨h.1, h.2.1, mN h.2.2 fun b_92 o_93 h => mL h fun l_94 h => mf h fun h => mf h fun h => mf h fun h => ?_⟩))⟩)))⟩
            refine AWP.seq' ?_
            refine AWP.rgn (F15_r24 (upd (upd (upd (upd (upd (upd (upd E0 16 (sI x16)) 15 (sI x15)) 14 (sS x14a x14n x14c)) 9 (sS x9a x9n x9c)) 7 (sP x7)) 2 (sS x2a x2n x2c)) 0 (sS x0a x0n x0c)) x10 (splice [.string ⟨#[]⟩, .string ⟨#[]⟩, .int .i64 0, .bool false, .string ⟨#[]⟩, .string ⟨#[]⟩] 0 l_94) h_90 _) ?_ (Ru 10 (RefOk.p 17 17 0 (Ru 0 (Ru 2 (Ru 7 (Ru 9 (Ru 14 (Ru 15 (Ru 16 Rn))))))) (fun e => by cases e))) (Sc rfl (Sc rfl (Sc rfl (Sc rfl (Sc rfl (Sc rfl (Sc rfl (Sc rfl (Sc rfl Sn))))))))) (Sc rfl Sn)
            refine mV h fun v_95 h => ms h fun s_96 h => mR h fun u_97 h => mI h fun i_98 h => ?_
            refine AWP.cond (t := (decide (i_98 > 0))) rfl (fun e => ?_) (fun e => ?_)
            ·replace h := ite2_t h e
             refine AWP.seq' ?_
             refine AWP.rgn (F15_r25 (upd (upd (upd (upd (upd (upd (upd E0 16 (sI x16)) 15 (sI x15)) 14 (sS x14a x14n x14c)) 10 (sV (.map x10))) 9 (sS x9a x9n x9c)) 2 (sS x2a x2n x2c)) 0 (sS x0a x0n x0c)) x7 (splice [.string ⟨#[]⟩, .string ⟨#[]⟩, .int .i64 0, .bool false, .string ⟨#[]⟩, .string ⟨#[]⟩] 0 l_94) h_90 _) ?_ (Ru 7 (RefOk.p 17 17 0 (Ru 0 (Ru 2 (Ru 9 (Ru 10 (Ru 14 (Ru 15 (Ru 16 Rn))))))) (fun e => by cases e))) (Sc rfl (Sc rfl (Sc rfl (Sc rfl (Sc rfl (Sc rfl (Sc rfl (Sc rfl (Sc rfl Sn))))))))) (Sc rfl Sn)
             refine mL h fun l_99 h => mC h fun u_100 h_101 h => mU h fun u_102 u_103 u_104 h => mA h fun l_105 h => mB h fun q_106 h => mI h fun i_107 h => mf h fun h => mf h fun h => mf h fun h => ?_
             refine AWP.seq (fun env pv hp => ∃ (x9a : Option Addr) (x9n : Nat) (x9c : Nat) (x14a : Option Addr) (x14n : Nat) (x14c : Nat) (x15 : Int) (x16 : Int) (x133 : Bool), Sub (upd (upd (upd (upd (upd (upd (upd (upd (upd E0 133 (sB x133)) 16 (sI x16)) 15 (sI x15)) 14 (sS x14a x14n x14c)) 10 (sV (.map x10))) 9 (sS x9a x9n x9c)) 7 (sP x7)) 2 (sS x2a x2n x2c)) 0 (sS x0a x0n x0c)) env ∧ Sub V0 pv ∧ (F15_j10 x0a x0n x0c x2a x2n x2c x7 x9a x9n x9c x10 x14a x14n x14c x15 x16 x133 hp I5 K)) ?_ ?_
             ·refine AWP.rgn (F15_r27 (upd (upd (upd (upd (upd (upd (upd (upd E0 16 (sI x16)) 15 (sI x15)) 14 (sS x14a x14n x14c)) 10 (sV (.map x10))) 9 (sS x9a x9n x9c)) 7 (sP x7)) 2 (sS x2a x2n x2c)) 0 (sS x0a x0n x0c)) q_106 i_107 h_101 _) ?_ (Ru 19 (Ru 20 (Ru 0 (Ru 2 (Ru 7 (Ru 9 (Ru 10 (Ru 14 (Ru 15 (Ru 16 Rn)))))))))) (Sc rfl (Sc rfl (Sc rfl (Sc rfl (Sc rfl (Sc rfl (Sc rfl (Sc rfl (Sc rfl (Sc rfl Sn)))))))))) Sn
              refine mt h (fun h => ?_) (fun h => ?_)
              ·exact ⟨x9a, x9n, x9c, x14a, x14n, x14c, x15, x16, true, (Sc rfl (Sc rfl (Sc rfl (Sc rfl (Sc rfl (Sc rfl (Sc rfl (Sc rfl (Sc rfl Sn))))))))), Sn, h⟩
              ·exact ⟨x9a, x9n, x9c, x14a, x14n, x14c, x15, x16, (i_107 != 0), (Sc rfl (Sc rfl (Sc rfl (Sc rfl (Sc rfl (Sc rfl (Sc rfl (Sc rfl (Sc rfl Sn))))))))), Sn, h⟩
             ·rintro env pv hp ⟨x9a, x9n, x9c, x14a, x14n, x14c, x15, x16, x133, he, hv, h⟩
              refine AWP.sub (env' := (upd (upd (upd (upd (upd (upd (upd (upd (upd E0 133 (sB x133)) 16 (sI x16)) 15 (sI x15)) 14 (sS x14a x14n x14c)) 10 (sV (.map x10))) 9 (sS x9a x9n x9c)) 7 (sP x7)) 2 (sS x2a x2n x2c)) 0 (sS x0a x0n x0c))) (pv' := V0) ?_ (Ru 0 (Ru 2 (Ru 7 (Ru 9 (Ru 10 (Ru 14 (Ru 15 (Ru 16 (Ru 133 Rn))))))))) he hv (HSub.refl _)
              clear he hv
              unfold F15_j10 at h
              refine AWP.cond (t := x133) rfl (fun e => ?_) (fun e => ?_)
              ·replace h := ite2_t h e
               refine AWP.seq' ?_
               refine AWP.rgn (F15_r26 E0  hp _) ?_ Rn Sn Sn
               refine AWP.ret ?_
               exact h
              ·replace h := ite2_f h e
               refine AWP.skip ?_
               exact ⟨x9a, x9n, x9c, x14a, x14n, x14c, x15, x16, (Sc rfl (Sc rfl (Sc rfl (Sc rfl (Sc rfl (Sc rfl (Sc rfl (Sc rfl Sn)))))))), Sn, h⟩
            ·replace h := ite2_f h e
             refine AWP.skip ?_
             exact ⟨x9a, x9n, x9c, x14a, x14n, x14c, x15, x16, (Sc rfl (Sc rfl (Sc rfl (Sc rfl (Sc rfl (Sc rfl (Sc rfl (Sc rfl Sn)))))))), Sn, h⟩
           ·replace h := ite2_f h e
            refine AWP.skip ?_
            exact ⟨x9a, x9n, x9c, x14a, x14n, x14c, x15, x16, (Sc rfl (Sc rfl (Sc rfl (Sc rfl (Sc rfl (Sc rfl (Sc rfl (Sc rfl Sn)))))))), Sn, h⟩
         ·replace h := ite2_f h e
          refine AWP.skip ?_
          exact ⟨x9a, x9n, x9c, x14a, x14n, x14c, x15, 0, (Sc rfl (Sc rfl (Sc rfl (Sc rfl (Sc rfl (Sc rfl (Sc rfl (Sc rfl Sn)))))))), Sn, h⟩
        ·rintro env pv hp ⟨x9a, x9n, x9c, x14a, x14n, x14c, x15, x16, he, hv, h⟩
         refine AWP.sub (env' := (upd (upd (upd (upd (upd (upd (upd (upd E0 16 (sI x16)) 15 (sI x15)) 14 (sS x14a x14n x14c)) 10 (sV (.map x10))) 9 (sS x9a x9n x9c)) 7 (sP x7)) 2 (sS x2a x2n x2c)) 0 (sS x0a x0n x0c))) (pv' := V0) ?_ (Ru 0 (Ru 2 (Ru 7 (Ru 9 (Ru 10 (Ru 14 (Ru 15 (Ru 16 Rn)))))))) he hv (HSub.refl _)
         clear he hv
         unfold F15_j6 at h
         refine AWP.seq' ?_
         refine AWP.rgn (F15_r11 (upd (upd (upd (upd (upd (upd E0 15 (sI x15)) 14 (sS x14a x14n x14c)) 10 (sV (.map x10))) 7 (sP x7)) 2 (sS x2a x2n x2c)) 0 (sS x0a x0n x0c)) x9a x9n x9c x16 hp _) ?_ (Ru 9 (Ru 16 (Ru 0 (Ru 2 (Ru 7 (Ru 10 (Ru 14 (Ru 15 Rn)))))))) (Sc rfl (Sc rfl (Sc rfl (Sc rfl (Sc rfl (Sc rfl (Sc rfl (Sc rfl Sn)))))))) Sn
         refine ⟨h.1, h.2.1, mN h.2.2 fun b_22 o_23 h => mL h fun l_24 h => mf h fun h => mf h fun h => mf h fun h => ?_⟩
         refine AWP.seq' ?_
         refine AWP.rgnD (by kernel_rfl) (by kernel_rfl) (F15_r12 (upd (upd (upd (upd (upd (upd (upd E0 21 (sR 21 0)) 15 (sI x15)) 14 (sS x14a x14n x14c)) 10 (sV (.map x10))) 7 (sP x7)) 2 (sS x2a x2n x2c)) 0 (sS x0a x0n x0c)) x9a x9n x9c x16 (splice [.string ⟨#[]⟩, .string ⟨#[]⟩, .int .i64 0, .bool false, .string ⟨#[]⟩, .string ⟨#[]⟩] 0 l_24) hp _) ?_ (Ru 9 (Ru 16 (Ru 0 (Ru 2 (Ru 7 (Ru 10 (Ru 14 (Ru 15 (RefOk.p 21 21 0 Rn (fun e => by cases e)))))))))) (Sc rfl (Sc rfl (Sc rfl (Sc rfl (Sc rfl (Sc rfl (Sc rfl (Sc rfl (Sc rfl Sn))))))))) (Sc rfl Sn)
         refine fun b_25 hb_b_25 => ?_
         replace h := h b_25 hb_b_25
         refine ⟨h.1, h.2.1, mO h.2.2 (fun u_26 h_27 h => mS h (fun a_28 n_29 c_30 h => ⟨h.1, h.2.1, h.2.2.1, ?_⟩))⟩
         replace h := h.2.2.2
         refine mO h fun u_31 h_32 h => mS h fun a_33 n_34 c_35 h => ?_
         refine AWP.seq' ?_
         refine AWP.rgn (F15_r13 (upd (upd (upd (upd (upd (upd E0 15 (sI x15)) 10 (sV (.map x10))) 9 (sS a_33 n_34 c_35)) 7 (sP x7)) 2 (sS x2a x2n x2c)) 0 (sS x0a x0n x0c)) x14a x14n x14c (splice [.string ⟨#[]⟩, .string ⟨#[]⟩, .int .i64 0, .bool false, .string ⟨#[]⟩, .string ⟨#[]⟩] 0 l_24) h_32 _) ?_ (Ru 14 (RefOk.p 21 21 0 (Ru 0 (Ru 2 (Ru 7 (Ru 9 (Ru 10 (Ru 15 Rn)))))) (fun e => by cases e))) (Sc rfl (Sc rfl (Sc rfl (Sc rfl (Sc rfl (Sc rfl (Sc rfl (Sc rfl Sn)))))))) (Sc rfl Sn)
         refine mL h fun l_36 h => mf h fun h => ?_
         refine fun b_37 hb_b_37 => ?_
         replace h := h b_37 hb_b_37
         refine mO h fun u_38 h_39 h => mS h fun a_40 n_41 c_42 h => ?_
         refine AWP.seq' ?_
         refine AWP.rgn (F15_r14 (upd (upd (upd (upd (upd (upd E0 15 (sI x15)) 14 (sS a_40 n_41 c_42)) 9 (sS a_33 n_34 c_35)) 7 (sP x7)) 2 (sS x2a x2n x2c)) 0 (sS x0a x0n x0c)) x10 (splice [.string ⟨#[]⟩, .string ⟨#[]⟩, .int .i64 0, .bool false, .string ⟨#[]⟩, .string ⟨#[]⟩] 0 l_24) h_39 _) ?_ (Ru 10 (RefOk.p 21 21 0 (Ru 0 (Ru 2 (Ru 7 (Ru 9 (Ru 14 (Ru 15 Rn)))))) (fun e => by cases e))) (Sc rfl (Sc rfl (Sc rfl (Sc rfl (Sc rfl (Sc rfl (Sc rfl (Sc rfl Sn)))))))) (Sc rfl Sn)
         refine mV h fun v_43 h => ms h fun s_44 h => mR h fun u_45 h => mI h fun i_46 h => mO h fun u_47 h_48 h => ?_
         refine AWP.seq' ?_
         refine AWP.rgn (F15_r15 (upd (upd (upd (upd (upd (upd E0 15 (sI x15)) 14 (sS a_40 n_41 c_42)) 10 (sV (.map x10))) 9 (sS a_33 n_34 c_35)) 2 (sS x2a x2n x2c)) 0 (sS x0a x0n x0c)) x7 (splice [.string ⟨#[]⟩, .string ⟨#[]⟩, .int .i64 0, .bool false, .string ⟨#[]⟩, .string ⟨#[]⟩] 0 l_24) h_48 _) ?_ (Ru 7 (RefOk.p 21 21 0 (Ru 0 (Ru 2 (Ru 9 (Ru 10 (Ru 14 (Ru 15 Rn)))))) (fun e => by cases e))) (Sc rfl (Sc rfl (Sc rfl (Sc rfl (Sc rfl (Sc rfl (Sc rfl (Sc rfl Sn)))))))) (Sc rfl Sn)
         refine mL h fun l_49 h => mC h fun u_50 h_51 h => mU h fun u_52 u_53 u_54 h => mA h fun l_55 h => mB h fun q_56 h => mI h fun i_57 h => mf h fun h => mf h fun h => mf h fun h => ?_
         refine AWP.seq' ?_
         refine AWP.seq (fun env pv hp => ∃ (x9a : Option Addr) (x9n : Nat) (x9c : Nat) (x14a : Option Addr) (x14n : Nat) (x14c : Nat) (x15 : Int) (x23 : Bool) (x174 : Bool) (k21 : List Value) (k22 : List Value), Sub (upd (upd (upd (upd (upd (upd (upd (upd (upd (upd (upd E0 174 (sB x174)) 23 (sB x23)) 22 (sR 22 0)) 21 (sR 21 0)) 15 (sI x15)) 14 (sS x14a x14n x14c)) 10 (sV (.map x10))) 9 (sS x9a x9n x9c)) 7 (sP x7)) 2 (sS x2a x2n x2c)) 0 (sS x0a x0n x0c)) env ∧ Sub (upd (upd V0 22 (36, k22)) 21 (29, k21)) pv ∧ (F15_j7 x0a x0n x0c x2a x2n x2c x7 x9a x9n x9c x10 x14a x14n x14c x15 x23 x174 k21 k22 hp I5 K)) ?_ ?_
         ·refine AWP.rgn (F15_r20 (upd (upd (upd (upd (upd (upd (upd E0 22 (sR 22 0)) 15 (sI x15)) 14 (sS a_40 n_41 c_42)) 9 (sS a_33 n_34 c_35)) 7 (sP x7)) 2 (sS x2a x2n x2c)) 0 (sS x0a x0n x0c)) x10 q_56 i_57 (splice [.string ⟨#[]⟩, .string ⟨#[]⟩, .int .i64 0, .bool false, .string ⟨#[]⟩, .string ⟨#[]⟩] 0 l_24) (splice [.string ⟨#[]⟩, .string ⟨#[]⟩, .string ⟨#[]⟩, .int .i64 0] 0 l_55) h_51 _) ?_ (Ru 10 (RefOk.p 21 21 0 (Ru 23 (Ru 24 (Ru 0 (Ru 2 (Ru 7 (Ru 9 (Ru 14 (Ru 15 (RefOk.p 22 22 0 Rn (fun e => by cases e)))))))))) (fun e => by cases e))) (Sc rfl (Sc rfl (Sc rfl (Sc rfl (Sc rfl (Sc rfl (Sc rfl (Sc rfl (Sc rfl (Sc rfl (Sc rfl Sn))))))))))) (Sc rfl (Sc rfl Sn))
          refine mt h (fun h => ?_) (fun h => ?_)
          ·exact ⟨a_33, n_34, c_35, a_40, n_41, c_42, x15, q_56, true, (splice [.string ⟨#[]⟩, .string ⟨#[]⟩, .int .i64 0, .bool false, .string ⟨#[]⟩, .string ⟨#[]⟩] 0 l_24), (splice [.string ⟨#[]⟩, .string ⟨#[]⟩, .string ⟨#[]⟩, .int .i64 0] 0 l_55), (Sc rfl (Sc rfl (Sc rfl (Sc rfl (Sc rfl (Sc rfl (Sc rfl (Sc rfl (Sc rfl (Sc rfl (Sc rfl Sn))))))))))), (Sc rfl (Sc rfl Sn)), h⟩
          ·refine mV h fun v_74 h => ms h fun s_75 h => mR h fun u_76 h => mI h fun i_77 h => ?_
           exact ⟨a_33, n_34, c_35, a_40, n_41, c_42, x15, q_56, (!(q_56 == (i_77 == 0))), (splice [.string ⟨#[]⟩, .string ⟨#[]⟩, .int .i64 0, .bool false, .string ⟨#[]⟩, .string ⟨#[]⟩] 0 l_24), (splice [.string ⟨#[]⟩, .string ⟨#[]⟩, .string ⟨#[]⟩, .int .i64 0] 0 l_55), (Sc rfl (Sc rfl (Sc rfl (Sc rfl (Sc rfl (Sc rfl (Sc rfl (Sc rfl (Sc rfl (Sc rfl (Sc rfl Sn))))))))))), (Sc rfl (Sc rfl Sn)), h⟩
         ·rintro env pv hp ⟨x9a, x9n, x9c, x14a, x14n, x14c, x15, x23, x174, k21, k22, he, hv, h⟩
          refine AWP.sub (env' := (upd (upd (upd (upd (upd (upd (upd (upd (upd (upd (upd E0 174 (sB x174)) 23 (sB x23)) 22 (sR 22 0)) 21 (sR 21 0)) 15 (sI x15)) 14 (sS x14a x14n x14c)) 10 (sV (.map x10))) 9 (sS x9a x9n x9c)) 7 (sP x7)) 2 (sS x2a x2n x2c)) 0 (sS x0a x0n x0c))) (pv' := (upd (upd V0 22 (36, k22)) 21 (29, k21))) ?_ (Ru 0 (Ru 2 (Ru 7 (Ru 9 (Ru 10 (Ru 14 (Ru 15 (RefOk.p 21 21 0 (RefOk.p 22 22 0 (Ru 23 (Ru 174 Rn)) (fun e => by cases e)) (fun e => by cases e))))))))) he hv (HSub.refl _)
          clear he hv
          unfold F15_j7 at h
          refine AWP.cond (t := x174) rfl (fun e => ?_) (fun e => ?_)
          ·replace h := ite2_t h e
           refine AWP.seq' ?_
           refine AWP.rgn (F15_r16 E0  hp _) ?_ Rn Sn Sn
           refine AWP.ret ?_
           exact h
          ·replace h := ite2_f h e
           refine AWP.skip ?_
           refine AWP.seq (fun env pv hp => ∃ (x9a : Option Addr) (x9n : Nat) (x9c : Nat) (x14a : Option Addr) (x14n : Nat) (x14c : Nat) (x15 : Int) (x202 : Bool), Sub (upd (upd (upd (upd (upd (upd (upd (upd E0 202 (sB x202)) 15 (sI x15)) 14 (sS x14a x14n x14c)) 10 (sV (.map x10))) 9 (sS x9a x9n x9c)) 7 (sP x7)) 2 (sS x2a x2n x2c)) 0 (sS x0a x0n x0c)) env ∧ Sub V0 pv ∧ (F15_j8 x0a x0n x0c x2a x2n x2c x7 x9a x9n x9c x10 x14a x14n x14c x15 x202 hp I5 K)) ?_ ?_
           ·refine AWP.rgnD (by kernel_rfl) (by kernel_rfl) (F15_r19 (upd (upd (upd (upd (upd (upd E0 15 (sI x15)) 14 (sS x14a x14n x14c)) 10 (sV (.map x10))) 9 (sS x9a x9n x9c)) 7 (sP x7)) 2 (sS x2a x2n x2c)) x0a x0n x0c x23 k21 k22 hp _) ?_ (Ru 0 (RefOk.p 21 21 0 (RefOk.p 22 22 0 (Ru 23 (Ru 2 (Ru 7 (Ru 9 (Ru 10 (Ru 14 (Ru 15 Rn))))))) (fun e => by cases e)) (fun e => by cases e))) (Sc rfl (Sc rfl (Sc rfl (Sc rfl (Sc rfl (Sc rfl (Sc rfl (Sc rfl (Sc rfl (Sc rfl Sn)))))))))) (Sc rfl (Sc rfl Sn))
            refine mt h (fun h => ?_) (fun h => ?_)
            ·refine mV h (fun v_58 h => ms h (fun s_59 h => mV h (fun v_60 h => ms h (fun s_61 h => ⟨h.1, h.2.1, ?_⟩))))
             replace h := h.2.2
             refine ⟨h.1, h.2.1, mN h.2.2 fun b_62 o_63 h => mV h fun v_64 h => ms h fun s_65 h => ?_⟩
             refine mt h (fun h => ?_) (fun h => ?_)
             ·exact ⟨x9a, x9n, x9c, x14a, x14n, x14c, x15, true, (Sc rfl (Sc rfl (Sc rfl (Sc rfl (Sc rfl (Sc rfl (Sc rfl (Sc rfl Sn)))))))), Sn, h⟩
             ·refine mV h fun v_66 h => ms h fun s_67 h => mV h fun v_68 h => ms h fun s_69 h => ?_
              refine mt h (fun h => ?_) (fun h => ?_)
              ·exact ⟨x9a, x9n, x9c, x14a, x14n, x14c, x15, true, (Sc rfl (Sc rfl (Sc rfl (Sc rfl (Sc rfl (Sc rfl (Sc rfl (Sc rfl Sn)))))))), Sn, h⟩
              ·refine mV h fun v_70 h => ms h fun s_71 h => mV h fun v_72 h => ms h fun s_73 h => ?_
               exact ⟨x9a, x9n, x9c, x14a, x14n, x14c, x15, (!((ByteArray.toList s_71) == (ByteArray.toList s_73))), (Sc rfl (Sc rfl (Sc rfl (Sc rfl (Sc rfl (Sc rfl (Sc rfl (Sc rfl Sn)))))))), Sn, h⟩
            ·exact ⟨x9a, x9n, x9c, x14a, x14n, x14c, x15, false, (Sc rfl (Sc rfl (Sc rfl (Sc rfl (Sc rfl (Sc rfl (Sc rfl (Sc rfl Sn)))))))), Sn, h⟩
           ·rintro env pv hp ⟨x9a, x9n, x9c, x14a, x14n, x14c, x15, x202, he, hv, h⟩
            refine AWP.sub (env' := (upd (upd (upd (upd (upd (upd (upd (upd E0 202 (sB x202)) 15 (sI x15)) 14 (sS x14a x14n x14c)) 10 (sV (.map x10))) 9 (sS x9a x9n x9c)) 7 (sP x7)) 2 (sS x2a x2n x2c)) 0 (sS x0a x0n x0c))) (pv' := V0) ?_ (Ru 0 (Ru 2 (Ru 7 (Ru 9 (Ru 10 (Ru 14 (Ru 15 (Ru 202 Rn)))))))) he hv (HSub.refl _)
            clear he hv
            unfold F15_j8 at h
            refine AWP.cond (t := x202) rfl (fun e => ?_) (fun e => ?_)
            ·replace h := ite2_t h e
             refine AWP.seq' ?_
             refine AWP.rgn (F15_r17 E0  hp _) ?_ Rn Sn Sn
             refine AWP.ret ?_
             exact h
            ·replace h := ite2_f h e
             refine AWP.skip ?_
             refine AWP.rgn (F15_r18 (upd (upd (upd (upd (upd (upd E0 14 (sS x14a x14n x14c)) 10 (sV (.map x10))) 9 (sS x9a x9n x9c)) 7 (sP x7)) 2 (sS x2a x2n x2c)) 0 (sS x0a x0n x0c)) x15 hp _) ?_ (Ru 15 (Ru 0 (Ru 2 (Ru 7 (Ru 9 (Ru 10 (Ru 14 Rn))))))) (Sc rfl (Sc rfl (Sc rfl (Sc rfl (Sc rfl (Sc rfl (Sc rfl Sn))))))) Sn
             exact ⟨(x9a, x9n, x9c, x14a, x14n, x14c, (wr (x15 + 1))), (Sc rfl (Sc rfl (Sc rfl (Sc rfl (Sc rfl (Sc rfl (Sc rfl Sn))))))), Sn, h⟩
       ·replace h := ite2_f h e
        refine AWP.exit ?_
        exact ⟨x7, (Sc rfl Sn), Sn, h⟩
     ·rintro env pv hp ⟨x7, he, hv, h⟩
      refine AWP.sub (env' := (upd E0 7 (sP x7))) (pv' := V0) ?_ (Ru 7 Rn) he hv (HSub.refl _)
      clear he hv
      unfold F15_j3 at h
      refine AWP.seq' ?_
      refine AWP.rgn (F15_r8 E0 x7 hp _) ?_ (Ru 7 Rn) (Sc rfl Sn) Sn
      refine mC h fun u_11 h_12 h => mI h fun i_13 h => ?_
      refine mt h (fun h => ?_) (fun h => ?_)
      ·refine mC h fun u_14 h_15 h => mS h fun a_16 n_17 c_18 h => ?_
       refine mt h (fun h => ?_) (fun h => ?_)
       ·refine mC h fun u_19 h_20 h => mB h fun q_21 h => ?_
        refine AWP.ret ?_
        exact h
       ·refine AWP.ret ?_
        exact h
      ·refine AWP.ret ?_
       exact h
end
end Go.Proofs

set_option linter.unusedVariables false
set_option maxRecDepth 20000
namespace Go.Proofs
open Go Go.HL

def kx (j : Nat) : ByteArray := ⟨#[UInt8.ofNat (97 + j)]⟩
def hx (j : Nat) : ByteArray := ⟨#[104]⟩ ++ kx j
def txs (T : List ByteArray) (i : Nat) : List Tx := (List.range i).map fun j => ⟨kx j, hx j, T.getD j e0s⟩
theorem kx_inj {i j : Nat} (hi : i < 100) (hj : j < 100) (h : kx i = kx j) : i = j := by
  unfold kx at h
  have h1 : UInt8.ofNat (97 + i) = UInt8.ofNat (97 + j) := by simpa using h
  have h2 := congrArg UInt8.toNat h1
  rw [UInt8.toNat_ofNat', UInt8.toNat_ofNat'] at h2
  omega
theorem txs_nodup {T : List ByteArray} {i : Nat} (hi : i ≤ 100) : ((txs T i).map (·.k)).Nodup := by
  unfold txs
  rw [List.map_map]
  rw [List.nodup_iff_pairwise_ne, List.pairwise_map]
  refine List.nodup_range.imp_of_mem fun {a b} ha hb hab e => hab ?_
  exact kx_inj (by have := List.mem_range.1 ha; omega) (by have := List.mem_range.1 hb; omega) e
theorem txs_succ {T : List ByteArray} {i : Nat} : txs T (i + 1) = txs T i ++ [⟨kx i, hx i, T.getD i e0s⟩] := by
  unfold txs; rw [List.range_succ, List.map_append]; rfl
theorem txs_mem {T : List ByteArray} {i : Nat} {a : Tx} (h : a ∈ txs T i) : ∃ j, j < i ∧ a = ⟨kx j, hx j, T.getD j e0s⟩ := by
  unfold txs at h
  obtain ⟨j, hj, rfl⟩ := List.mem_map.1 h
  exact ⟨j, List.mem_range.1 hj, rfl⟩
theorem allT_app {n : Nat} {a b : List Tx} : allT n (a ++ b) = allT n a ++ allT n b := by unfold allT; rw [List.flatMap_append]
theorem cutN_le {t : ByteArray} {n : Nat} (hn : 8 ≤ n) (ht : t.size ≤ 600) : cutN' t n ≤ 76 := by
  unfold cutN'
  have : (t.size - 1) / n ≤ (t.size - 1) / 8 := Nat.div_le_div_left hn (by omega)
  omega
theorem allT_len {T : List ByteArray} {n : Nat} (hn : 8 ≤ n) : ∀ i, (∀ j, j < i → (T.getD j e0s).size ≤ 600) → (allT n (txs T i)).length ≤ 76 * i := by
  intro i
  induction i with
  | zero => intro _; simp [txs, allT]
  | succ i ih =>
    intro h
    have h1 := ih fun j hj => h j (by omega)
    rw [txs_succ, allT_app, List.length_append]
    have h2 : (allT n [⟨kx i, hx i, T.getD i e0s⟩]).length = cutN' (T.getD i e0s) n := by
      unfold allT; rw [List.flatMap_cons, List.flatMap_nil, List.append_nil, cut_len]
    have h3 := cutN_le (n := n) hn (h i (by omega))
    omega

theorem byte_i {i : Nat} (hi : i < 100) : IntKind.wrap .u8 (IntKind.wrap .i64 (97 + (i : Int))) = ((UInt8.ofNat (97 + i)).toNat : Int) := by
  have h1 : IntKind.wrap .i64 (97 + (i : Int)) = ((97 + i : Nat) : Int) := wiN (by omega) (by omega)
  rw [h1, UInt8.toNat_ofNat']
  have h2 : IntKind.wrap .u8 ((97 + i : Nat) : Int) = ((97 + i : Nat) : Int) := by
    exact wu8 (by omega) (by omega)
  rw [h2]; omega

theorem cntK {l R : List Pc} {p : Pc} (h : l.Perm (p :: R)) (k : ByteArray) : l.countP (isK k) = R.countP (isK k) + if p.key = k then 1 else 0 := by
  rw [h.countP_eq, List.countP_cons]; unfold isK; simp
theorem cntK_any {l : List Pc} {k : ByteArray} : l.any (isK k) = decide (l.countP (isK k) > 0) := by
  rw [Bool.eq_iff_iff, List.any_eq_true, decide_eq_true_iff, gt_iff_lt, List.countP_pos_iff]

def jn (x : Int) : List Value := [.int .i64 x]
def sn (s : ByteArray) : List Value := [sw s]

section
variable {sT sO : Option Addr} {nT cT nO cO : Nat} {T : List ByteArray} {O : List Int} {hp0 hp : HP} {q m mo ms n : Nat} {S : Stt} {K : Value → HP → Prop}

/-- The end: nothing is left. -/
theorem F15end {C : List Pc} (h : StR hp0 hp q m mo S) (hR : Rel S (LD C [])) (hK : ∀ hp', HSub hp0 hp' → K (.bool true) hp') : F15_j3 (some ⟨q, 0, none⟩) hp K := by
  have hD : S.D = [] := by
    rw [LD_nil] at hR
    refine List.eq_nil_iff_forall_not_mem.2 fun x hx => ?_
    have := hR.perm x hx
    have h0 : ofL x.1 ([] : List PD) = [] := rfl
    rw [h0] at this
    exact hR.inv.ne x hx (List.perm_nil.1 this)
  have hn : S.n = 0 := by rw [hR.inv.num, hD]; rfl
  unfold F15_j3
  refine C27 h ?_
  rw [intV_int, hn]
  show ite2 true _ _
  rw [ite2_true]
  refine C60e h hD fun hp' hs => ?_
  rw [slcV_slice]
  show ite2 true _ _
  rw [ite2_true]
  refine C22 ?_
  rw [boolV_bool]
  exact hK hp' (h.1.trans hs)

/-- How things stand ahead of a round. -/
structure Rnd (hp hp' : HP) (q m mo ms n : Nat) (ps : List Tx) (S : Stt) (M : List (ByteArray × Int)) (e : Ent) (C R : List Pc) (s1 : Option Addr) (c1 : Nat) (s2 : Option Addr) (c2 : Nat) : Prop where
  two : Two (hp.set ms e) hp' q m mo S s1 R.length c1 (R.flatMap pc) s2 C.length c2 (C.flatMap pc)
  map : MapE sw jw M e
  jst : Jst n ps C R
  left : ∀ a ∈ ps, (getL a.k M).getD 0 = (R.countP (isK a.k) : Nat)
  rel : Rel S (LD C R)
  max : S.max = 1000
  source : S.source = 1000
  last : 0 ≤ S.last

theorem Rnd.mapE {hp' : HP} {ps : List Tx} {M : List (ByteArray × Int)} {e : Ent} {C R : List Pc} {s1 s2 : Option Addr} {c1 c2 : Nat} (h : Rnd hp hp' q m mo ms n ps S M e C R s1 c1 s2 c2) : MapE sw jw M (hp' ms) := by
  obtain ⟨es, clock, he, r⟩ := h.map
  exact ⟨es, clock, h.two.st.1.obj (by rw [HP.set_eq]; exact he), r⟩

set_option maxHeartbeats 2000000 in
/-- A piece is taken from those that are to come, and handed to the store. -/
theorem F15six {hp' : HP} {ps : List Tx} {M : List (ByteArray × Int)} {e : Ent} {C R : List Pc} {s1 s2 : Option Addr} {c1 c2 k : Nat} {I5 : ((Option Addr) × Nat × Nat × (Option Addr) × Nat × Nat × Int) → HP → Prop}
    (h : Rnd hp hp' q m mo ms n ps S M e C R s1 c1 s2 c2) (hms : hp ms = .none) (hlast : S.last ≤ 2 * C.length + 1) (hps : ps = txs T T.length) (hT : Shows hp sT nT 1 (T.flatMap sn)) (hTl : T.length = nT) (hT5 : nT ≤ 5) (hk : k < R.length)
    (hI : ∀ (hp'' : HP) (S' : Stt) (M' : List (ByteArray × Int)) (e' : Ent) (C' R' : List Pc) (s1' s2' : Option Addr) (c1' c2' : Nat), Rnd hp hp'' q m mo ms n ps S' M' e' C' R' s1' c1' s2' c2' → S'.last ≤ 2 * C'.length → C'.length = C.length + 1 → R'.length + 1 = R.length →
      I5 (s1', R'.length, c1', s2', C'.length, c2', (C'.length : Nat)) hp'') :
    F15_j6 sT nT cT sO nO cO (some ⟨q, 0, none⟩) s1 R.length c1 (some ms) s2 C.length c2 (C.length : Nat) (k : Nat) hp' I5 K := by
  have hlenC := h.jst.lenC
  have hperm : R.Perm (R[k] :: (R.take k ++ R.drop (k + 1))) := by
    have e1 : R = R.take k ++ R[k] :: R.drop (k + 1) := by rw [← List.drop_eq_getElem_cons hk, List.take_append_drop]
    exact (List.Perm.of_eq e1).trans List.perm_middle
  have hkR : R[k] ∈ R := List.getElem_mem hk
  have hlenR' : (R.take k ++ R.drop (k + 1)).length + 1 = R.length := by rw [List.length_append, List.length_take, List.length_drop]; omega
  obtain ⟨a, ha, hpa⟩ := h.jst.mem (p := R[k]) (.inr hkR)
  have hkey : R[k].key = a.k := (cut_fields hpa).1
  have hright := h.jst.right (p := R[k]) (.inr hkR)
  have hsh := h.two.row1.shows
  obtain ⟨bR, oR, hsR, hcR⟩ := hsh.get pc_len rfl hk
  have hnc1 : R.length ≤ c1 := by
    rcases h.two.row1 with ⟨e1, _⟩ | ⟨b, _, g, _⟩
    · rw [e1] at hsR; cases hsR
    · exact g
  unfold F15_j6
  have hz : ∀ p : Pc, splice [(Value.string ⟨#[]⟩), (Value.string ⟨#[]⟩), (Value.int .i64 0), (Value.bool false), (Value.string ⟨#[]⟩), (Value.string ⟨#[]⟩)] 0 (pc p) = pc p := fun p => splice_all rfl
  have k0 : ∀ p : Pc, (pc p)[0]? = some (.string p.key) := fun _ => rfl
  have k5 : ∀ p : Pc, (pc p)[5]? = some (.string p.head) := fun _ => rfl
  have kN : ∀ p : Pc, cellsN (pc p) 0 6 = some (pc p) := fun p => cellsN_all (pc_len p)
  have w1 : IntKind.wrap .i64 ((k : Int) + 1) = ((k + 1 : Nat) : Int) := wiN (by omega) (by omega)
  simp only [hsR, ptrN_some, Int.toNat_natCast, hcR, ldL_some, pc_len, pc_one, if_true, hz, w1]
  rw [← hsR]
  refine ⟨by omega, by omega, ?_⟩
  refine ifI (Nat.le_refl _) ?_
  intro b1 hb1
  refine ⟨by omega, by omega, ?_⟩
  have sb1 := HSub.set_fresh hp' (.cells 29 [] 0) hb1
  have row0 : Row (hp'.set b1 (.cells 29 [] 0)) (some ⟨b1, 0, none⟩) 0 0 29 6 [] := .inr ⟨b1, rfl, Nat.le_refl _, rfl, HP.set_eq ..⟩
  refine opS_appF (e := 29) (size := 6) (bytes := 80) (by kernel_rfl) row0 ((hsh.take pc_len rfl (by omega : k ≤ R.length)).sub sb1) (all_flat pc_one _) (by omega) (by omega) ?_
  intro s3 c3 hp3 hrow3 hf3
  obtain ⟨t1, t2⟩ := hf3 hp' sb1 (fun b' e => by cases e; exact hb1)
  rw [slcV_slice]
  refine ⟨by omega, by omega, hnc1, ?_⟩
  have hsub0 := (hsh.sub t1).subF (c := c1) pc_len rfl hnc1 (show k + 1 ≤ R.length by omega)
  refine opS_appF (e := 29) (size := 6) (bytes := 80) (by kernel_rfl) hrow3 hsub0 (all_flat pc_one _) (by omega) (by omega) ?_
  intro s4 c4 hp4 hrow4 hf4
  obtain ⟨t3, t4⟩ := hf4 hp' t1 t2
  rw [slcV_slice]
  have exs : [] ++ List.flatMap pc (List.take k R) ++ List.flatMap pc (List.drop (k + 1) R) = (R.take k ++ R.drop (k + 1)).flatMap pc := by rw [List.flatMap_append]; simp
  have elen : 0 + k + (R.length - (k + 1)) = (R.take k ++ R.drop (k + 1)).length := by omega
  rw [exs, elen] at hrow4
  rw [elen]
  have two4 := h.two.new1 t3 hrow4 t4
  generalize hR' : R.take k ++ R.drop (k + 1) = R' at *
  simp only [kN, ldL_some, pc_len, if_true]
  intro b5 hb5
  have sb5 := HSub.set_fresh hp4 (.cells 29 (pc R[k]) 0) hb5
  have two5 := two4.sub sb5
  have sh5 : Shows (hp4.set b5 (.cells 29 (pc R[k]) 0)) (some ⟨b5, 0, none⟩) 1 6 (pc R[k]) := .inr ⟨b5, 0, rfl, by rw [HP.cellN_of (HP.set_eq ..)]; exact cellsN_all rfl⟩
  refine opS_appF (e := 29) (size := 6) (bytes := 80) (by kernel_rfl) two5.row2 sh5 (pc_one _) (by omega) (by omega) ?_
  intro s6 c6 hp6 hrow6 hf6
  rw [slcV_slice]
  have exs6 : List.flatMap pc C ++ pc R[k] = (C ++ [R[k]]).flatMap pc := by rw [List.flatMap_append]; simp
  have elen6 : C.length + 1 = (C ++ [R[k]]).length := by simp
  rw [exs6, elen6] at hrow6
  rw [elen6]
  have two6 := (two5.swap.app1 hrow6 hf6).swap
  have hM6 : MapE sw jw M (hp6 ms) := by
    obtain ⟨es, clock, he, r⟩ := h.map
    exact ⟨es, clock, two6.st.1.obj (by rw [HP.set_eq]; exact he), r⟩
  simp only [k0, ldV_some, strV_string]
  refine rdS_lookup u97 enc9 zj hM6 R[k].key ?_
  simp only [Bool.false_eq_true, if_false, jw_get, intV_int]
  have hleft := h.left a ha
  have hcnt := fun k' => cntK hperm k'
  have hcl : R.countP (isK a.k) ≤ R.length := List.countP_le_length
  have hc1 : R.countP (isK a.k) = R'.countP (isK a.k) + 1 := by rw [hcnt, if_pos hkey]
  have w7 : IntKind.wrap .i64 ((getL R[k].key M).getD 0 - 1) = (R'.countP (isK a.k) : Nat) := by
    rw [hkey, hleft]; exact wiN (by omega) (by omega)
  rw [w7]
  refine opS_mapUpdate u97 enc9 (ev := jw) hM6 R[k].key ((R'.countP (isK a.k) : Nat) : Int) ?_
  intro e7 he7
  have hobj : ∃ o, e = .obj o := by obtain ⟨es, clock, he, _⟩ := h.map; exact ⟨_, he⟩
  have hobj7 : ∃ o, e7 = .obj o := by obtain ⟨es, clock, he, _⟩ := he7; exact ⟨_, he⟩
  have two7 := two6.map hobj hobj7 hms
  have hleft7 : ∀ a' ∈ ps, (getL a'.k (putL R[k].key ((R'.countP (isK a.k) : Nat) : Int) M)).getD 0 = (R'.countP (isK a'.k) : Nat) := fun a' ha' => by
    rw [getL_put]
    by_cases ek : a'.k = R[k].key
    · rw [if_pos ek, Option.getD_some, ek, hkey]
    · rw [if_neg ek, h.left a' ha', hcnt, if_neg (fun e' => ek e'.symm)]; rfl
  generalize hp6.set ms e7 = hp7 at *
  have hok7 : okP R[k] := by
    obtain ⟨r1, r2, r3, r4, _⟩ := rightP_iff.1 hright
    exact ⟨by omega, by omega⟩
  refine C26 (p := R[k]) two7.st hok7 (fun d hg => Nat.le_trans (h.rel.inv.lenl (getL_some_mem hg)) (by omega)) (fun d hg => h.rel.inv.right _ (getL_some_mem hg)) ?_
  intro hp8 w b ee S8 hput hstp
  have two8 := two7.stp hstp
  obtain ⟨L', hpd, hrel8, hlast8, hmax8, hsrc8⟩ := put_rel h.rel ⟨h.last, by omega⟩ hput
  rw [h.max, h.source] at hpd
  have hjp := h.jst.put hperm ha hpa
  have hjs := h.jst.step hperm
  have hM8 : MapE sw jw (putL R[k].key ((R'.countP (isK a.k) : Nat) : Int) M) (hp8 ms) := by
    obtain ⟨es, clock, he, r⟩ := he7
    exact ⟨es, clock, two8.st.1.obj (by rw [HP.set_eq]; exact he), r⟩
  have next : Rel S8 (LD (C ++ [R[k]]) R') → F15_j8 sT nT cT sO nO cO (some ⟨q, 0, none⟩) s4 R'.length c4 (some ms) s6 (C ++ [R[k]]).length c6 (C.length : Nat) false hp8 I5 K := fun hrel => by
    unfold F15_j8
    have w9 : IntKind.wrap .i64 (((C.length : Nat) : Int) + 1) = (((C ++ [R[k]]).length : Nat) : Int) := wiN (by simp) (by simp; omega)
    rw [ite2_false, w9]
    refine hI hp8 S8 _ e7 (C ++ [R[k]]) R' s4 s6 c4 c6 ⟨two8, he7, hjs, hleft7, hrel, hmax8.trans h.max, hsrc8.trans h.source, by have := h.last; omega⟩ (by simp; omega) (by simp) (by omega)
  have whl : ∀ a b c d, (wh a b c d).length = 4 := fun _ _ _ _ => rfl
  have who : ∀ a b c d, (wh a b c d).all one = true := fun _ _ _ _ => rfl
  have hz4 : ∀ a b c d, splice [(Value.string ⟨#[]⟩), (Value.string ⟨#[]⟩), (Value.string ⟨#[]⟩), (Value.int .i64 0)] 0 (wh a b c d) = wh a b c d := fun _ _ _ _ => splice_all rfl
  have hany : R'.any (isK R[k].key) = decide (R'.countP (isK a.k) > 0) := by rw [hkey]; exact cntK_any
  have g0 : ∀ a b c d, (wh a b c d)[0]? = some (.string a) := fun _ _ _ _ => rfl
  have g1 : ∀ a b c d, (wh a b c d)[1]? = some (.string b) := fun _ _ _ _ => rfl
  have g2 : ∀ a b c d, (wh a b c d)[2]? = some (.string c) := fun _ _ _ _ => rfl
  have ee0 : ((0 : Int) != 0) = false := rfl
  cases hc : R'.any (isK R[k].key)
  · -- the last one of its datagram
    obtain ⟨cc, hcc⟩ := hjp.1 hc
    rw [hpd] at hcc
    simp only [Prod.mk.injEq] at hcc
    obtain ⟨rfl, rfl, rfl, rfl⟩ := hcc
    rw [hc] at hany
    have h0 : R'.countP (isK a.k) = 0 := by have := of_decide_eq_false hany.symm; omega
    simp only [tup3V_mk, aggV_agg, boolV_bool, intV_int, whl, who, if_true, hz4, ee0, ite2_false, k0, ldV_some, strV_string]
    refine ifI (Nat.le_refl _) ?_
    refine rdS_lookup u97 enc9 zj hM8 R[k].key ?_
    simp only [Bool.false_eq_true, if_false, getL_put, if_true, Option.map_some, Option.getD_some, jw, intV_int, h0]
    unfold F15_j7
    obtain ⟨j, hj, rfl⟩ := txs_mem (hps ▸ ha)
    simp only at hkey
    have ebt : bt R[k].key 0 = ((97 + j : Nat) : Int) := by
      rw [hkey]
      show (((UInt8.ofNat (97 + j)).toNat : Nat) : Int) = _
      rw [UInt8.toNat_ofNat']; omega
    have eix : IntKind.wrap .i64 (IntKind.wrap .u8 (bt R[k].key 0 - 97)) = (j : Int) := by
      rw [ebt, wu8 (by omega) (by omega)]
      exact wiN (by omega) (by omega)
    have esz : R[k].key.size = 1 := by rw [hkey]; rfl
    obtain ⟨bT, oT, hsT, hcT⟩ := Shows.get (size := 1) (enc := sn) (hT.sub ((HSub.set_fresh hp e7 hms).trans two8.st.1)) (fun _ => rfl) hTl (show j < nT by omega)
    have hcell := HP.cell_cellN (j := 0) hcT rfl
    rw [Nat.add_zero] at hcell
    have egd : T[j] = T.getD j e0s := by rw [List.getD_eq_getElem?_getD, List.getElem?_eq_getElem hj]; rfl
    subst hsT
    have ex : (!(true == ((((0 : Nat) : Int)) == 0))) = false := rfl
    simp only [ex, ite2_false, ite2_true, g2, k0, ldV_some, strV_string, eix, esz, ptrN_some, Int.toNat_natCast, hcell]
    refine ⟨by omega, by omega, by omega, by omega, ?_⟩
    show strV (Value.string T[j]) _
    simp only [strV_string, str_eq, egd, decide_true, Bool.not_true, ite2_false, g0, g1, k0, k5, ldV_some, hkey]
    have hhd : R[k].head = hx j := (cut_fields hpa).2.1
    rw [hhd]
    simp only [decide_true, Bool.not_true]
    exact next hrel8
  · -- others are to come
    have hcc := hjp.2 hc
    rw [hpd] at hcc
    simp only [Prod.mk.injEq] at hcc
    obtain ⟨rfl, rfl, rfl, rfl⟩ := hcc
    rw [hc] at hany
    have h0 : R'.countP (isK a.k) > 0 := of_decide_eq_true hany.symm
    have zl : zeroW.length = 4 := rfl
    have zo : zeroW.all one = true := rfl
    simp only [tup3V_mk, aggV_agg, boolV_bool, intV_int, zl, zo, if_true, ee0, ite2_false, hz, k0, ldV_some, strV_string]
    refine ifI (Nat.le_refl _) ?_
    refine rdS_lookup u97 enc9 zj hM8 R[k].key ?_
    simp only [Bool.false_eq_true, if_false, getL_put, if_true, Option.map_some, Option.getD_some, jw, intV_int]
    have ex : (((R'.countP (isK a.k) : Nat) : Int) == 0) = false := by rw [beq_eq_false_iff_ne]; omega
    rw [ex]
    unfold F15_j7
    have ex2 : (!(false == false)) = false := rfl
    simp only [ex2, ite2_false]
    exact next hrel8
end
end Go.Proofs

set_option linter.unusedVariables false
set_option maxRecDepth 20000
namespace Go.Proofs
open Go Go.HL

section
variable {sT sO : Option Addr} {nT cT nO cO : Nat} {T : List ByteArray} {O : List Int} {hp : HP} {q m mo ms n : Nat} {K : Value → HP → Prop}

set_option maxHeartbeats 2000000 in
/-- The pieces come. -/
theorem F15two {hp' : HP} {ps : List Tx} {S : Stt} {M : List (ByteArray × Int)} {e : Ent} {R : List Pc} {s1 : Option Addr} {c1 : Nat} (h : Rnd hp hp' q m mo ms n ps S M e [] R s1 c1 none 0) (hl0 : S.last = 0) (hms : hp ms = .none) (hps : ps = txs T T.length)
    (hT : Shows hp sT nT 1 (T.flatMap sn)) (hTl : T.length = nT) (hT5 : nT ≤ 5) (hO : Shows hp sO nO 1 (O.flatMap jn)) (hOl : O.length = nO) (hO4 : nO ≤ 400) (hK : ∀ hp'', HSub hp hp'' → K (.bool true) hp'') :
    F15_j2 sT nT cT sO nO cO (some ⟨q, 0, none⟩) s1 R.length c1 (some ms) hp' K := by
  unfold F15_j2 F15_j4
  refine LoopP.by (J := fun r (y : (Option Addr) × Nat × Nat × (Option Addr) × Nat × Nat × Int) hp' => ∃ (S : Stt) (M : List (ByteArray × Int)) (e : Ent) (C R : List Pc) (s1 : Option Addr) (c1 : Nat) (s2 : Option Addr) (c2 : Nat),
      y = (s1, R.length, c1, s2, C.length, c2, ((C.length : Nat) : Int)) ∧ Rnd hp hp' q m mo ms n ps S M e C R s1 c1 s2 c2 ∧ S.last ≤ 2 * C.length ∧ r = R.length) ?_
    (n := R.length) ⟨S, M, e, [], R, s1, c1, none, 0, rfl, h, by rw [hl0]; exact Int.le_refl _, rfl⟩
  rintro I r y hp2 ⟨S, M, e, C, R, s1, c1, s2, c2, rfl, hN, hlast, rfl⟩ hgo
  clear h
  have h := hN
  clear hN
  have hlenC := h.jst.lenC
  have hsubR : HSub hp hp2 := (HSub.set_fresh hp e hms).trans h.two.st.1
  unfold F15_l5
  simp only []
  by_cases hR0 : R.length > 0
  rotate_left
  · rw [decide_eq_false (by omega : ¬ ((R.length : Nat) : Int) > 0), ite2_false]
    have : R = [] := List.eq_nil_of_length_eq_zero (by omega)
    subst this
    exact F15end h.two.st h.rel fun hp3 hs3 => hK hp3 ((HSub.set_fresh hp e hms).trans hs3)
  rw [decide_eq_true (by omega : ((R.length : Nat) : Int) > 0), ite2_true]
  -- the piece that is next
  have six : ∀ {hp3 : HP} {S3 : Stt} {k : Nat}, Rnd hp hp3 q m mo ms n ps S3 M e C R s1 c1 s2 c2 → S3.last ≤ 2 * C.length + 1 → k < R.length → F15_j6 sT nT cT sO nO cO (some ⟨q, 0, none⟩) s1 R.length c1 (some ms) s2 C.length c2 (C.length : Nat) (k : Nat) hp3 I K := by
    intro hp3 S3 k h3 hl3 hk
    refine F15six h3 hms hl3 hps hT hTl hT5 hk ?_
    intro hp4 S4 M4 e4 C4 R4 s14 s24 c14 c24 h4 hl4 hC4 hR4
    exact hgo R4.length _ _ (by omega) ⟨S4, M4, e4, C4, R4, s14, c14, s24, c24, rfl, h4, hl4, rfl⟩
  by_cases hO1 : C.length < nO
  rotate_left
  · rw [decide_eq_false (by omega : ¬ ((C.length : Nat) : Int) < ((nO : Nat) : Int)), ite2_false]
    have z0 : (0 : Int) = ((0 : Nat) : Int) := rfl
    rw [z0]
    exact six h (by omega) hR0
  rw [decide_eq_true (by omega : ((C.length : Nat) : Int) < ((nO : Nat) : Int)), ite2_true]
  obtain ⟨bO, oO, hsO, hcO⟩ := Shows.get (size := 1) (enc := jn) (hO.sub hsubR) (fun _ => rfl) hOl hO1
  have hcell := HP.cell_cellN (j := 0) hcO rfl
  rw [Nat.add_zero] at hcell
  simp only [hsO, ptrN_some, Int.toNat_natCast, hcell, ldV_some]
  rw [← hsO]
  refine ⟨by omega, by omega, ?_⟩
  rw [intV_int]
  refine C24 (by omega) (by omega) fun rr hr0 hr1 => ?_
  obtain ⟨kk, rfl⟩ := Int.eq_ofNat_of_zero_le hr0
  have hkR : kk < R.length := by omega
  simp only [intV_int, hsO, ptrN_some, hcell, ldV_some]
  rw [← hsO]
  refine ⟨by omega, by omega, by decide, ?_⟩
  have nine : F15_j9 sT nT cT sO nO cO (some ⟨q, 0, none⟩) s1 R.length c1 (some ms) s2 C.length c2 (C.length : Nat) (kk : Nat) false hp2 I K := by
    unfold F15_j9
    rw [ite2_false]
    exact six h (by omega) hkR
  -- one that came comes again
  have again : C.length > 0 → F15_j9 sT nT cT sO nO cO (some ⟨q, 0, none⟩) s1 R.length c1 (some ms) s2 C.length c2 (C.length : Nat) (kk : Nat) true hp2 I K := by
    intro hC0
    unfold F15_j9
    rw [ite2_true]
    simp only [hsO, ptrN_some, Int.toNat_natCast, hcell, ldV_some]
    rw [← hsO]
    refine ⟨by omega, by omega, ?_⟩
    rw [intV_int]
    refine ⟨by decide, ?_⟩
    refine C24 (by omega) (by omega) fun r2 hr20 hr21 => ?_
    obtain ⟨k2, rfl⟩ := Int.eq_ofNat_of_zero_le hr20
    have hk2 : k2 < C.length := by omega
    obtain ⟨bC, oC, hsC, hcC⟩ := h.two.row2.shows.get pc_len rfl hk2
    have hz : ∀ p : Pc, splice [(Value.string ⟨#[]⟩), (Value.string ⟨#[]⟩), (Value.int .i64 0), (Value.bool false), (Value.string ⟨#[]⟩), (Value.string ⟨#[]⟩)] 0 (pc p) = pc p := fun p => splice_all rfl
    have k0 : ∀ p : Pc, (pc p)[0]? = some (.string p.key) := fun _ => rfl
    have kN : ∀ p : Pc, cellsN (pc p) 0 6 = some (pc p) := fun p => cellsN_all (pc_len p)
    simp only [intV_int, hsC, ptrN_some, Int.toNat_natCast, hcC, ldL_some, pc_len, pc_one, if_true, hz, k0, kN, ldV_some, strV_string]
    rw [← hsC]
    refine ⟨by omega, by omega, ?_⟩
    refine ifI (Nat.le_refl _) ?_
    refine rdS_lookup u97 enc9 zj h.mapE C[k2].key ?_
    simp only [Bool.false_eq_true, if_false, jw_get, intV_int]
    have hpC : C[k2] ∈ C := List.getElem_mem hk2
    obtain ⟨a, ha, hpa⟩ := h.jst.mem (p := C[k2]) (.inl hpC)
    have hkey : C[k2].key = a.k := (cut_fields hpa).1
    have hleft := h.left a ha
    rw [← hkey] at hleft
    rw [hleft]
    by_cases hany : R.any (isK C[k2].key) = true
    rotate_left
    · have : ¬ R.countP (isK C[k2].key) > 0 := fun hc => hany (by rw [cntK_any]; exact decide_eq_true hc)
      rw [decide_eq_false (by omega), ite2_false]
      exact six h (by omega) hkR
    have hcnt : R.countP (isK C[k2].key) > 0 := by rw [cntK_any] at hany; exact of_decide_eq_true hany
    rw [decide_eq_true (by omega), ite2_true]
    have hright := h.jst.right (p := C[k2]) (.inl hpC)
    have hok7 : okP C[k2] := by
      obtain ⟨r1, r2, r3, r4, _⟩ := rightP_iff.1 hright
      exact ⟨by omega, by omega⟩
    refine C26 (p := C[k2]) h.two.st hok7 (fun d hg => Nat.le_trans (h.rel.inv.lenl (getL_some_mem hg)) (by omega)) (fun d hg => h.rel.inv.right _ (getL_some_mem hg)) ?_
    intro hp8 w b ee S8 hput hstp
    have two8 := h.two.stp hstp
    obtain ⟨L', hpd, hrel8, hlast8, hmax8, hsrc8⟩ := put_rel h.rel ⟨h.last, by omega⟩ hput
    rw [h.max, h.source, h.jst.again hpC hany] at hpd
    simp only [Prod.mk.injEq] at hpd
    obtain ⟨rfl, rfl, rfl, rfl⟩ := hpd
    have zl : zeroW.length = 4 := rfl
    have zo : zeroW.all one = true := rfl
    simp only [tup3V_mk, aggV_agg, boolV_bool, intV_int, zl, zo, if_true, ite2_false]
    refine ifI (Nat.le_refl _) ?_
    unfold F15_j10
    have e0 : ((0 : Int) != 0) = false := rfl
    rw [e0, ite2_false]
    exact six (S3 := S8) ⟨two8, h.map, h.jst, h.left, hrel8, hmax8.trans h.max, hsrc8.trans h.source, by have := h.last; omega⟩ (by omega) hkR
  by_cases hm5 : ((O[C.length]'(hOl ▸ hO1)).tmod 5) = 0
  · have e5 : ((O[C.length]'(hOl ▸ hO1)).tmod 5 == 0) = true := by simpa using hm5
    rw [e5, ite2_true]
    by_cases hC0 : C.length > 0
    · rw [decide_eq_true (by omega : ((C.length : Nat) : Int) > 0)]; exact again hC0
    · rw [decide_eq_false (by omega : ¬ ((C.length : Nat) : Int) > 0)]; exact nine
  · have e5 : ((O[C.length]'(hOl ▸ hO1)).tmod 5 == 0) = false := by simpa using hm5
    rw [e5, ite2_false]; exact nine

set_option maxHeartbeats 2000000 in
theorem C15 {x1 : Int} (hx1 : 0 ≤ x1 ∧ x1 ≤ 255) (hT : Shows hp sT nT 1 (T.flatMap sn)) (hTl : T.length = nT) (hO : Shows hp sO nO 1 (O.flatMap jn)) (hOl : O.length = nO) (h : K (.bool true) hp) :
    CF Try.prog 15 [.slice sT nT cT, .int .u8 x1, .slice sO nO cO] hp K := by
  refine CF.drop (F15_ok sT nT cT x1 sO nO cO hp _ ?_)
  unfold F15
  have hk : ∀ hp', HSub hp hp' → CF Try.prog 22 [] hp' fun u h => boolV u fun q => ∃ hp'', HSub hp'' h ∧ K (.bool q) hp'' := by
    intro hp' hs
    refine C22 ?_
    rw [boolV_bool]
    exact ⟨hp, hs, h⟩
  have yes : F15_j1 sT nT cT x1 sO nO cO true hp (fun v hp' => ∃ hp'', HSub hp'' hp' ∧ K v hp'') := by
    unfold F15_j1
    rw [ite2_true]
    exact hk hp (HSub.refl _)
  by_cases g1 : nT > 5
  · rw [decide_eq_true (by omega : ((nT : Nat) : Int) > 5), ite2_true]; exact yes
  rw [decide_eq_false (by omega : ¬ ((nT : Nat) : Int) > 5), ite2_false]
  by_cases g2 : nO > 400
  · rw [decide_eq_true (by omega : ((nO : Nat) : Int) > 400)]; exact yes
  rw [decide_eq_false (by omega : ¬ ((nO : Nat) : Int) > 400)]
  clear yes
  unfold F15_j1
  rw [ite2_false]
  refine C25 (fun hn => absurd (by omega) hn) ?_
  intro _ q m mo hp1 hst
  have g1' := hst hp (HSub.refl _)
  have pp : ∀ c : Option Addr → Prop, ptrV (ptr q 0) c = c (some ⟨q, 0, none⟩) := fun _ => rfl
  have e0 : ((0 : Int) != 0) = false := rfl
  simp only [tup2V_mk, intV_int, pp, e0, ite2_false]
  intro ms hms
  have hms0 : hp ms = .none := g1'.1.none hms
  have g2' := g1'.add hms (HSub.set_fresh hp1 (.obj (.map #[] 0)) hms) (HP.set_eq ..)
  generalize hp1.set ms (.obj (.map #[] 0)) = hp2 at g2'
  obtain ⟨u, rfl⟩ := Int.eq_ofNat_of_zero_le hx1.1
  have hu : u ≤ 255 := by omega
  have hn9 : IntKind.wrap .i64 (8 * IntKind.wrap .i64 (1 + IntKind.wrap .i64 (Int.tmod (u : Int) 9))) = ((8 * (1 + u % 9) : Nat) : Int) := by
    have e1 : Int.tmod (u : Int) 9 = ((u % 9 : Nat) : Int) := rfl
    rw [e1, wiN (x := ((u % 9 : Nat) : Int)) rfl (by omega), wiN (x := 1 + ((u % 9 : Nat) : Int)) (i := 1 + u % 9) (by omega) (by omega)]
    exact wiN (by omega) (by omega)
  generalize hnn : 8 * (1 + u % 9) = n at *
  have hn8 : 8 ≤ n ∧ n ≤ 72 ∧ n % 8 = 0 := by omega
  unfold F15_j11
  refine LoopP.by (J := fun r (y : (Option Addr) × Nat × Nat × Int) hp' => ∃ (i : Nat) (M : List (ByteArray × Int)) (e : Ent) (s1 : Option Addr) (c1 : Nat), y = (s1, (allT n (txs T i)).length, c1, ((i : Nat) : Int)) ∧ i + r = nT ∧
      Two (hp.set ms e) hp' q m mo ⟨1000, 1000, 0, 0, [], []⟩ s1 (allT n (txs T i)).length c1 ((allT n (txs T i)).flatMap pc) none 0 0 [] ∧ MapE sw jw M e ∧ (∀ j, j < i → getL (kx j) M = some (((cutL (kx j) (hx j) (T.getD j e0s) n).length : Nat) : Int)) ∧ ∀ j, j < i → (T.getD j e0s).size ≤ 600) ?_
    (n := nT) ⟨0, [], .obj (.map #[] 0), none, 0, rfl, by omega, ⟨hp2, g2', HSub.refl _, .inl ⟨rfl, rfl, rfl, rfl⟩, .inl ⟨rfl, rfl, rfl, rfl⟩, (fun b e => (by cases e)), (fun b e => (by cases e)), (fun b e => (by cases e))⟩, MapE.empty _ _, (fun j hj => absurd hj (by omega)), fun j hj => absurd hj (by omega)⟩
  rintro I r y hp3 ⟨i, M, e, s1, c1, rfl, hir, two3, hM, hMk, hsz⟩ hgo
  have hsub3 : HSub hp hp3 := (HSub.set_fresh hp e hms0).trans two3.st.1
  have hlen3 := allT_len (T := T) (n := n) hn8.1 i hsz
  unfold F15_l12
  simp only []
  by_cases hi : i < nT
  rotate_left
  · rw [decide_eq_false (by omega : ¬ ((i : Nat) : Int) < ((nT : Nat) : Int)), ite2_false]
    have hie : i = T.length := by omega
    subst hie
    refine F15two (ps := txs T T.length) (n := n) (S := ⟨1000, 1000, 0, 0, [], []⟩) (M := M) (e := e) ⟨two3, hM, ⟨by omega, by omega, hn8.2.2, txs_nodup (by omega), fun a ha => ?_, List.Perm.refl _, by omega⟩, fun a ha => ?_, Rel.empty (by omega) (by omega) (by omega), rfl, rfl, Int.le_refl _⟩ rfl hms0 rfl hT hTl (by omega) hO hOl (by omega) fun hp'' hs'' => ⟨hp, hs'', h⟩
    · obtain ⟨j, hj, rfl⟩ := txs_mem ha
      have := hsz j hj
      exact Nat.le_trans this (by omega)
    · obtain ⟨j, hj, rfl⟩ := txs_mem ha
      rw [hMk j hj, Option.getD_some, List.countP_eq_length_filter, all_key (txs_nodup (by omega)) ha]
  rw [decide_eq_true (by omega : ((i : Nat) : Int) < ((nT : Nat) : Int)), ite2_true]
  have hiT : i < T.length := by omega
  have egd : T[i] = T.getD i e0s := by rw [List.getD_eq_getElem?_getD, List.getElem?_eq_getElem hiT]; rfl
  have hcT : ∀ hp', HSub hp hp' → ∃ b o, sT = some ⟨b, o, none⟩ ∧ hp'.cell b (o + i * 1) = some (.string (T.getD i e0s)) := fun hp' hs' => by
    obtain ⟨bT, oT, hsT, hcT⟩ := Shows.get (size := 1) (enc := sn) (hT.sub hs') (fun _ => rfl) hTl hi
    have hcell := HP.cell_cellN (j := 0) hcT rfl
    rw [Nat.add_zero] at hcell
    exact ⟨bT, oT, hsT, by rw [← egd]; exact hcell⟩
  obtain ⟨bT, oT, hsT, hcell3⟩ := hcT hp3 hsub3
  simp only [hsT, ptrN_some, Int.toNat_natCast, hcell3, ldV_some, strV_string]
  refine ⟨by omega, by omega, ?_⟩
  by_cases h600 : (((T.getD i e0s).size : Nat) : Int) > 600
  · rw [decide_eq_true h600, ite2_true]
    exact hk hp3 hsub3
  rw [decide_eq_false h600, ite2_false]
  intro b4 hb4
  rw [byte_i (by omega)]
  have sb4 := HSub.set_fresh hp3 (.cells 5 [.int .u8 ((UInt8.ofNat (97 + i)).toNat : Int)] 0) hb4
  refine rdS_byte (x := UInt8.ofNat (97 + i)) (HP.set_eq ..) ?_
  have ekx : (⟨#[UInt8.ofNat (97 + i)]⟩ : ByteArray) = kx i := rfl
  have ehx : (⟨#[104]⟩ : ByteArray) ++ kx i = hx i := rfl
  rw [ekx, strV_string, ehx]
  obtain ⟨bT', oT', hsT', hcell4⟩ := hcT _ (hsub3.trans sb4)
  rw [hsT] at hsT'
  cases hsT'
  simp only [hcell4, ldV_some, strV_string]
  refine ⟨by show 1 + 1 ≤ _; omega, by omega, by omega, by decide, ?_⟩
  rw [hn9]
  have two4 := two3.sub sb4
  generalize hp3.set b4 (.cells 5 [.int .u8 ((UInt8.ofNat (97 + i)).toNat : Int)] 0) = hp4 at *
  refine C23 (by omega) (by omega) (by omega) ?_
  intro hp5 s5 c5 hs5 hrow5 hfr5
  rw [slcV_slice]
  have two5 := two4.sub hs5
  have hlen6 := allT_len (T := T) (n := n) hn8.1 (i + 1) (fun j hj => by
    by_cases hji : j = i
    · rw [hji]; omega
    · exact hsz j (by omega))
  have eT : allT n (txs T i) ++ cutL (kx i) (hx i) (T.getD i e0s) n = allT n (txs T (i + 1)) := by
    rw [txs_succ, allT_app]; unfold allT; simp
  have eTl : (allT n (txs T i)).length + (cutL (kx i) (hx i) (T.getD i e0s) n).length = (allT n (txs T (i + 1))).length := by rw [← eT, List.length_append]
  refine opS_appF (e := 29) (size := 6) (bytes := 80) (by kernel_rfl) two5.row1 hrow5.shows (all_flat pc_one _) (by omega) (by omega) ?_
  intro s6 c6 hp6 hrow6 hf6
  rw [slcV_slice]
  rw [← List.flatMap_append, eT, eTl] at hrow6
  rw [eTl]
  have two6 := two5.app1 hrow6 hf6
  have hM6 : MapE sw jw M (hp6 ms) := by
    obtain ⟨es, clock, he, rr⟩ := hM
    exact ⟨es, clock, two6.st.1.obj (by rw [HP.set_eq]; exact he), rr⟩
  refine opS_mapUpdate u97 enc9 (ev := jw) hM6 (kx i) (((cutL (kx i) (hx i) (T.getD i e0s) n).length : Nat) : Int) ?_
  intro e7 he7
  have hobj : ∃ o, e = .obj o := by obtain ⟨es, clock, he, _⟩ := hM; exact ⟨_, he⟩
  have hobj7 : ∃ o, e7 = .obj o := by obtain ⟨es, clock, he, _⟩ := he7; exact ⟨_, he⟩
  have two7 := two6.map hobj hobj7 hms0
  have w1 : IntKind.wrap .i64 (((i : Nat) : Int) + 1) = ((i + 1 : Nat) : Int) := wiN (by omega) (by omega)
  rw [w1]
  refine hgo (r - 1) _ _ (by omega) ⟨i + 1, _, e7, s6, c6, rfl, by omega, two7, he7, fun j hj => ?_, fun j hj => ?_⟩
  · rw [getL_put]
    by_cases hji : j = i
    · subst hji; rw [if_pos rfl]
    · rw [if_neg (fun e' => hji (kx_inj (by omega) (by omega) e'))]; exact hMk j (by omega)
  · by_cases hji : j = i
    · rw [hji]; omega
    · exact hsz j (by omega)

theorem decS : ∀ (D : Nat) (cs : List Value), wellS Try.prog D 9 cs = true → ∃ s : ByteArray, True ∧ cs = sn s := by
  intro D cs h
  cases D with
  | zero => cases h
  | succ D =>
    unfold wellS at h
    rw [show Try.prog.underlying 9 = some .string by kernel_rfl] at h
    simp only at h
    split at h
    · exact ⟨_, trivial, rfl⟩
    · cases h
theorem decI : ∀ (D : Nat) (cs : List Value), wellS Try.prog D 3 cs = true → ∃ x : Int, True ∧ cs = jn x := by
  intro D cs h
  cases D with
  | zero => cases h
  | succ D =>
    unfold wellS at h
    rw [show Try.prog.underlying 3 = some (.int .i64) by kernel_rfl] at h
    simp only at h
    split at h
    · rename_i q n
      simp only [Bool.and_eq_true, decide_eq_true_eq] at h
      obtain ⟨rfl, h⟩ := h
      exact ⟨n, trivial, rfl⟩
    · cases h
theorem sn_len (s : ByteArray) : (sn s).length = 1 := rfl
theorem jn_len (x : Int) : (jn x).length = 1 := rfl
end
end Go.Proofs

