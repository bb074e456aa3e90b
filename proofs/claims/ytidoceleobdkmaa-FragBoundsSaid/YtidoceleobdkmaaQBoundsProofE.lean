/- Parts of the proof of BoundsProof: the logic of what is known of memory, functions' contracts. -/
import Derived.Test.YtidoceleobdkmaaQBoundsProofD
import Derived.Sort.LotD3
import Derived.Test.YtidoceleobdkmaaHlRange
import Derived.Test.YtidoceleobdkmaaHlAbb
import Derived.Test.YtidoceleobdkmaaProg
import Derived.Test.YtidoceleobdkmaaHlDec
import Derived.DataShut
set_option linter.unusedVariables false
set_option maxRecDepth 20000
namespace Go.Proofs
open Go Go.HL

section
variable {f : FuncId} {ga gb : List Value} {hp0 : HP} {b sp n c : Nat} {T : Type} [Inhabited T] {en : T → ByteArray} {cf : T → T → Int}

theorem S166 (hx : CmpX1 Try.prog f ga gb hp0 b 9 sp n cf en) (hS : Sort.SWO (ltC cf)) (hn : n ≤ 65535) : ∀ (m : Nat) {d : Array T} {lo hi limit : Nat} {K : Value → HP → Prop}, d.size = n → lo ≤ hi → hi ≤ n → limit ≤ 64 → hi - lo ≤ m → Sort.Below (ltC cf) lo hi d →
    (∀ d', Sort.PermIn lo hi d d' → Sort.SortedIn (ltC cf) lo hi d' → K (.tuple ⟨[]⟩) (HA hp0 b 9 sp (ssT en) d')) →
    CF Try.prog 166 [.slice (some ⟨b, 0, none⟩) n c, .int .i64 lo, .int .i64 hi, .int .i64 limit, .func (.func f) ⟨ga⟩ ⟨gb⟩] (HA hp0 b 9 sp (ssT en) d) K := by
  intro m
  induction m using Nat.strongRecOn with
  | ind m ih =>
  intro d lo hi limit K hs hlo hhi hl hm hB h
  have hc := hx.ok
  refine F166_ok _ n c lo hi limit _ _ K ?_
  unfold F166 F166_j1
  refine LoopP.by (J := fun k (s : Int × Int × Int × Bool × Bool) hp => ∃ (a e lim : Nat) (wb wp : Bool) (d' : Array T), s = ((a : Int), (e : Int), (lim : Int), wb, wp) ∧ hp = HA hp0 b 9 sp (ssT en) d' ∧ d'.size = n ∧ a ≤ e ∧ e ≤ n ∧ lim ≤ 64 ∧ e - a ≤ hi - lo ∧ k = e - a ∧ Sort.Below (ltC cf) a e d' ∧
      (∀ R, Sort.PermIn a e d' R → Sort.SortedIn (ltC cf) a e R → K (.tuple ⟨[]⟩) (HA hp0 b 9 sp (ssT en) R))) ?_
    (n := hi - lo) ⟨lo, hi, limit, true, true, d, rfl, rfl, hs, hlo, hhi, hl, Nat.le_refl _, rfl, hB, h⟩
  clear hs hlo hhi hl hB h
  rintro I k x hp ⟨a, e, lim, wb, wp, d, rfl, rfl, hs, hae, hen, hl, hle, rfl, hB, h⟩ hI
  unfold F166_l2
  simp only []
  have w1 : IntKind.wrap .i64 ((e : Int) - (a : Int)) = ((e - a : Nat) : Int) := wi (by omega) (by omega)
  rw [w1]
  by_cases h12 : e - a ≤ 12
  · rw [decide_eq_true (by omega : ((e - a : Nat) : Int) ≤ 12), ite2_true]
    refine S180 hc hs hae hen (by omega) ?_
    have hi := Sort.insertionSort_holds hS d a e hae (by omega)
    exact h _ hi.1 hi.2
  rw [decide_eq_false (by omega : ¬ ((e - a : Nat) : Int) ≤ 12), ite2_false]
  by_cases h0 : lim = 0
  · subst h0
    have hb : (((0 : Nat) : Int) == 0) = true := rfl
    rw [hb, ite2_true]
    refine S181 hc hs hae hen (by omega) ?_
    have hi := Sort.heapSort_holds hS d a e hae (by omega)
    exact h _ hi.1 hi.2
  have hb : ((lim : Int) == 0) = false := by rw [beq_eq_false_iff_ne]; omega
  rw [hb, ite2_false]
  -- from the pivot on
  have last : ∀ (lim' : Nat) (d3 : Array T) (p : Nat) (wb wp : Bool), lim' ≤ 64 → Sort.PermIn a e d d3 → a ≤ p → p < e →
      F166_j5 (some ⟨b, 0, none⟩) n c a e lim' (.func (.func f) ⟨ga⟩ ⟨gb⟩) wb wp ((e - a : Nat) : Int) p (HA hp0 b 9 sp (ssT en) d3) I K := by
    intro lim' d3 p wb wp hl' hp3 hpa hpe
    have hs3 : d3.size = n := by rw [hp3.1]; exact hs
    have B3 : Sort.Below (ltC cf) a e d3 := hB.perm (by omega) hp3
    -- by the partition in two
    have two : F166_j6 (some ⟨b, 0, none⟩) n c a e lim' (.func (.func f) ⟨ga⟩ ⟨gb⟩) wb wp ((e - a : Nat) : Int) p false (HA hp0 b 9 sp (ssT en) d3) I K := by
      unfold F166_j6
      rw [ite2_false]
      refine S187 hc hs3 (by omega) hen (by omega) (by omega) ?_
      rcases hR : Sort.partition (ltC cf) d3 a e p with ⟨mid, ap, d4⟩
      obtain ⟨q1, q2, q3, q4, q5, q6, q7⟩ := Sort.round_part hS (Sort.partition_holds _) hpa hpe (by omega) B3 hR
      simp only [tup2V_mk, intV_int, boolV_bool]
      refine ⟨by omega, ?_⟩
      have v1 : IntKind.wrap .i64 ((mid : Int) - (a : Int)) = ((mid - a : Nat) : Int) := wi (by omega) (by omega)
      have v2 : IntKind.wrap .i64 ((e : Int) - (mid : Int)) = ((e - mid : Nat) : Int) := wi (by omega) (by omega)
      have v3 : IntKind.wrap .i64 ((mid : Int) + 1) = ((mid + 1 : Nat) : Int) := wi (by omega) (by omega)
      rw [v1, v2, v3]
      by_cases hlt : mid - a < e - mid
      · rw [decide_eq_true (by omega : ((mid - a : Nat) : Int) < ((e - mid : Nat) : Int)), ite2_true]
        refine ih (mid - a) (by omega) (by omega) q1 (by omega) hl' (Nat.le_refl _) q4 ?_
        intro L hL hsL
        obtain ⟨z1, z2⟩ := q6 L hL hsL
        exact hI (e - (mid + 1)) _ _ (by omega) ⟨mid + 1, e, lim', _, ap, L, rfl, rfl, by rw [hL.1]; omega, by omega, hen, hl', by omega, rfl, z1, fun R hR hsR => h R (Sort.permIn_trans _ _ _ _ _ hp3 (z2 R hR hsR).1) (z2 R hR hsR).2⟩
      · rw [decide_eq_false (by omega : ¬ ((mid - a : Nat) : Int) < ((e - mid : Nat) : Int)), ite2_false]
        refine ih (e - (mid + 1)) (by omega) (by omega) (by omega) hen hl' (Nat.le_refl _) q5 ?_
        intro L hL hsL
        obtain ⟨z1, z2⟩ := q7 L hL hsL
        exact hI (mid - a) _ _ (by omega) ⟨a, mid, lim', _, ap, L, rfl, rfl, by rw [hL.1]; omega, q1, by omega, hl', by omega, rfl, z1, fun R hR hsR => h R (Sort.permIn_trans _ _ _ _ _ hp3 (z2 R hR hsR).1) (z2 R hR hsR).2⟩
    unfold F166_j5
    by_cases ha : a > 0
    · rw [decide_eq_true (by omega : (a : Int) > 0), ite2_true]
      have v1 : IntKind.wrap .i64 ((a : Int) - 1) = ((a - 1 : Nat) : Int) := wi (by omega) (by omega)
      rw [v1]
      refine cmpP1 hc hs3 (i := a - 1) (j := p) rfl rfl (by omega) (by omega) ?_
      have hlq : decide (cf d3[a - 1]! d3[p]! < 0) = ltC cf d3[a - 1]! d3[p]! := rfl
      rw [hlq]
      cases hlt : ltC cf d3[a - 1]! d3[p]!
      · unfold F166_j6
        simp only [Bool.not_false, ite2_true]
        refine S186 hc hs3 (by omega) hen (by omega) (by omega) ?_
        rcases hR : Sort.partitionEqual (ltC cf) d3 a e p with ⟨mid, d4⟩
        obtain ⟨q1, q2, q3, q4, q5⟩ := Sort.round_eq hS (Sort.partitionEqual_holds _) ha hpa hpe (by omega) B3 hlt hR
        rw [intV_int]
        exact hI (e - mid) _ _ (by omega) ⟨mid, e, lim', wb, wp, d4, rfl, rfl, by omega, q2, hen, hl', by omega, rfl, q4, fun R hR hsR => h R (Sort.permIn_trans _ _ _ _ _ hp3 (q5 R hR hsR).1) (q5 R hR hsR).2⟩
      · simp only [Bool.not_true]
        exact two
    · rw [decide_eq_false (by omega : ¬ (a : Int) > 0), ite2_false]
      exact two
  -- is it sorted already?
  have part : ∀ (lim' : Nat) (d2 : Array T) (p : Nat) (w : Int), lim' ≤ 64 → Sort.PermIn a e d d2 → a ≤ p → p < e →
      F166_j4 (some ⟨b, 0, none⟩) n c a e lim' (.func (.func f) ⟨ga⟩ ⟨gb⟩) wb wp ((e - a : Nat) : Int) p w (HA hp0 b 9 sp (ssT en) d2) I K := by
    intro lim' d2 p w hl' hp2 hpa hpe
    have hs2 : d2.size = n := by rw [hp2.1]; exact hs
    have B2 : Sort.Below (ltC cf) a e d2 := hB.perm (by omega) hp2
    have seven : ∀ q : Bool, F166_j7 (some ⟨b, 0, none⟩) n c a e lim' (.func (.func f) ⟨ga⟩ ⟨gb⟩) wb wp ((e - a : Nat) : Int) p q (HA hp0 b 9 sp (ssT en) d2) I K := by
      intro q
      unfold F166_j7
      cases q
      · rw [ite2_false]; exact last lim' d2 p wb wp hl' hp2 hpa hpe
      · rw [ite2_true]
        refine S185 hc hs2 (by omega) hen (by omega) ?_
        obtain ⟨r1, r2⟩ := Sort.partialInsertionSort_holds hS d2 a e (by omega) (by omega) B2
        rw [boolV_bool]
        cases hq : (Sort.partialInsertionSort (ltC cf) d2 a e).2
        · rw [ite2_false]
          exact last lim' _ p wb wp hl' (Sort.permIn_trans _ _ _ _ _ hp2 r1) hpa hpe
        · rw [ite2_true]
          exact h _ (Sort.permIn_trans _ _ _ _ _ hp2 r1) (r2 hq)
    unfold F166_j4
    cases wb
    · rw [ite2_false]; exact seven _
    · rw [ite2_true]
      cases wp
      · rw [ite2_false]; exact seven _
      · rw [ite2_true]; exact seven _
  -- the pivot
  have piv : ∀ (lim' : Nat) (d1 : Array T), lim' ≤ 64 → Sort.PermIn a e d d1 → F166_j3 (some ⟨b, 0, none⟩) n c a e lim' (.func (.func f) ⟨ga⟩ ⟨gb⟩) wb wp ((e - a : Nat) : Int) (HA hp0 b 9 sp (ssT en) d1) I K := by
    intro lim' d1 hl' hp1
    have hs1 : d1.size = n := by rw [hp1.1]; exact hs
    unfold F166_j3
    refine S183 hx hs1 (by omega) hen hn fun p w hpa hpe => ?_
    simp only [tup2V_mk, intV_int]
    cases (w == 2)
    · rw [ite2_false]; exact part lim' d1 p w hl' hp1 hpa hpe
    · rw [ite2_true]
      refine S184 hs1 (by omega) hen (by omega) ?_
      have v1 : IntKind.wrap .i64 ((e : Int) - 1) = ((e - 1 : Nat) : Int) := wi (by omega) (by omega)
      have v2 : IntKind.wrap .i64 ((p : Int) - (a : Int)) = ((p - a : Nat) : Int) := wi (by omega) (by omega)
      have v3 : IntKind.wrap .i64 (((e - 1 : Nat) : Int) - ((p - a : Nat) : Int)) = ((e - 1 - (p - a) : Nat) : Int) := wi (by omega) (by omega)
      rw [v1, v2, v3]
      exact part lim' _ _ 1 hl' (Sort.permIn_trans _ _ _ _ _ hp1 (Sort.reverseRange_holds d1 a e hae (by omega))) (by omega) (by omega)
  cases wb
  · simp only [Bool.not_false, ite2_true]
    refine S182 hs hae hen hn fun d1 hp1 => ?_
    have v1 : IntKind.wrap .i64 ((lim : Int) - 1) = ((lim - 1 : Nat) : Int) := wi (by omega) (by omega)
    rw [v1]
    exact piv (lim - 1) d1 (by omega) hp1
  · simp only [Bool.not_true, ite2_false]
    exact piv lim d hl (Sort.permIn_refl d a e)
end

/-- SortFunc of a row: the same things, in their order. -/
theorem S137 {f : FuncId} {ga gb : List Value} {T : Type} [Inhabited T] {en : T → ByteArray} {cf : T → T → Int} (hS : Sort.SWO (ltC cf)) {hp : HP} {s : Option Addr} {n c : Nat} {ts : List T} (hr : Row hp s n c 9 1 (ts.flatMap (ssT en))) (hl : ts.length = n) (hn : n ≤ 65535)
    (hx : ∀ b, s = some ⟨b, 0, none⟩ → CmpX1 Try.prog f ga gb hp b 9 ((c - n) * 1) n cf en) {K : Value → HP → Prop}
    (h : ∀ (ts' : List T) (hp' : HP), ts'.Perm ts → ts'.Pairwise (fun x y => ltC cf y x = false) → Row hp' s n c 9 1 (ts'.flatMap (ssT en)) → (hp' = hp ∨ ∃ b e, s = some ⟨b, 0, none⟩ ∧ hp' = hp.set b e) → K (.tuple ⟨[]⟩) hp') :
    CF Try.prog 137 [.slice s n c, .func (.func f) ⟨ga⟩ ⟨gb⟩] hp K := by
  refine F137_ok s n c _ hp K ?_
  unfold F137
  rw [wu64 (by omega) (by omega)]
  refine C129 hn fun L hL _ _ => ?_
  rw [intV_int]
  have z0 : (Value.int .i64 0) = Value.int .i64 ((0 : Nat) : Int) := rfl
  rcases hr with ⟨rfl, rfl, rfl, hnil⟩ | ⟨b, rfl, hnc, hxl, hb⟩
  · have ht : ts = [] := List.eq_nil_of_length_eq_zero hl
    subst ht
    rw [z0]
    refine F166_ok none 0 0 ((0 : Nat) : Int) ((0 : Nat) : Int) L _ hp _ ?_
    unfold F166 F166_j1
    refine LoopP.by (J := fun k (s : Int × Int × Int × Bool × Bool) hp' => s.1 = 0 ∧ s.2.1 = 0 ∧ hp' = hp) ?_ (n := 0) ⟨rfl, rfl, rfl⟩
    rintro I k ⟨a, e, lim, wb, wp⟩ hp' ⟨h1, h2, rfl⟩ hI
    simp only at h1 h2
    subst h1 h2
    unfold F166_l2
    simp only []
    have w0 : IntKind.wrap .i64 ((0 : Int) - 0) = 0 := by rw [w64 (by omega) (by omega)]; omega
    rw [w0, decide_eq_true (by omega : (0 : Int) ≤ 12), ite2_true]
    refine F180_ok none 0 0 0 0 _ hp' _ ?_
    unfold F180 F180_j1
    have w1 : IntKind.wrap .i64 ((0 : Int) + 1) = 1 := by rw [w64 (by omega) (by omega)]; omega
    rw [w1]
    refine LoopP.by (J := fun k (x : Int) hp2 => x = 1 ∧ hp2 = hp') ?_ (n := 0) ⟨rfl, rfl⟩
    rintro I2 k2 x hp2 ⟨rfl, rfl⟩ hI2
    unfold F180_l2
    rw [decide_eq_false (by omega : ¬ (1 : Int) < 0), ite2_false]
    exact h [] _ (List.Perm.refl _) List.Pairwise.nil (.inl ⟨rfl, rfl, rfl, rfl⟩) (.inl rfl)
  · have hha : HA hp b 9 ((c - n) * 1) (ssT en) ts.toArray = hp := HP.set_self _ _ _ hb
    rw [z0]
    have key := S166 (c := c) (hx b rfl) hS hn n (d := ts.toArray) (lo := 0) (hi := n) (limit := L) (K := fun u_4 h_5 => K (.tuple ⟨[]⟩) h_5) (by simpa using hl) (Nat.zero_le _) (Nat.le_refl _) (by omega) (by omega) (.inl rfl) ?_
    · rw [hha] at key; exact key
    intro d' hpm hst
    have hsz : d'.size = n := by rw [hpm.1]; simpa using hl
    have hpl : d'.toList.Perm ts := by
      have h3 := hpm.2.2
      have e1 : d'.extract 0 n = d' := by rw [← hsz]; simp
      have e2 : ts.toArray.extract 0 n = ts.toArray := by rw [← hl]; simp
      rw [e1, e2] at h3
      exact h3
    refine h d'.toList _ hpl ?_ (.inr ⟨b, rfl, hnc, by rw [flat_len ss_len]; simp [hsz], by unfold HA; rw [HP.set_eq]⟩) (.inr ⟨b, _, rfl, rfl⟩)
    rw [List.pairwise_iff_getElem]
    intro i j hi hj hij
    have := hst i j (Nat.zero_le _) hij (by simpa [hsz] using hj)
    rw [getElem!_pos d' j (by simpa using hj), getElem!_pos d' i (by simpa using hi)] at this
    simpa using this
end Go.Proofs

set_option linter.unusedVariables false
set_option maxRecDepth 20000
namespace Go.Proofs
open Go Go.HL

abbrev KD := ByteArray × Dg
/-- A datagram that is there. -/
abbrev KT (D : List KD) := {x : KD // x ∈ D ∨ D = []}
theorem KT.inh (D : List KD) : Nonempty (KT D) := by
  cases D with
  | nil => exact ⟨⟨(e0s, ⟨0, 0, 0, 0, 0, []⟩), .inr rfl⟩⟩
  | cons a l => exact ⟨⟨a, .inl (by simp)⟩⟩
noncomputable instance KT.inhabited {D : List KD} : Inhabited (KT D) := Classical.inhabited_of_nonempty (KT.inh D)
def KT.key {D : List KD} (x : KT D) : ByteArray := x.1.1

theorem dv_inj {a b : Dg} (h : dv a = dv b) : a.blk = b.blk := by simpa [dv] using h
theorem perm_ofm {α β : Type} {f : α → β} (hf : ∀ a b, f a = f b → a = b) : ∀ {l l' : List α}, (l.map f).Perm (l'.map f) → l.Perm l'
  | [], l', h => by
    have := h.length_eq
    simp at this
    rw [List.eq_nil_of_length_eq_zero this.symm]
  | a :: l, l', h => by
    classical
    have hm : f a ∈ l'.map f := h.mem_iff.1 (by simp)
    obtain ⟨a', ha', e⟩ := List.mem_map.1 hm
    have := hf _ _ e
    subst this
    have hp := List.perm_cons_erase ha'
    refine List.Perm.trans ?_ hp.symm
    refine List.Perm.cons _ (perm_ofm hf ?_)
    have h2 := h.trans (hp.map f)
    simp only [List.map_cons] at h2
    exact h2.cons_inv
theorem nodup_of_map {α β : Type} (f : α → β) {l : List α} (h : (l.map f).Nodup) : l.Nodup := (List.pairwise_map.1 h).imp fun h e => h (by rw [e])
theorem sw_inj {a b : ByteArray} (h : sw a = sw b) : a = b := by simpa [sw] using h

section
variable {hp0 hp : HP} {q m mo : Nat} {S : Stt} {K : Value → HP → Prop}

/-- Two of them are compared by what lies behind their keys. -/
theorem C138 {fo : FuncId} {cf : KD → KD → Int} {b1 b2 : Nat} {x y : KD} (h : StR hp0 hp q m mo S) (h1 : hp b1 = .cells 31 [ptr q 0] 0) (h2 : hp b2 = .cells 169 [.func (.func fo) ⟨[]⟩ ⟨[]⟩] 0) (hx : x ∈ S.D) (hy : y ∈ S.D)
    (hf : ∀ K, K (.int .i64 (cf x y)) hp → CF Try.prog fo [dv x.2, dv y.2] hp K) (hK : K (.int .i64 (cf x y)) hp) :
    CF Try.prog 138 [.string x.1, .string y.1, .pointer (some ⟨b2, 0, none⟩), .pointer (some ⟨b1, 0, none⟩)] hp K := by
  refine F138_ok x.1 y.1 _ _ hp K ?_
  unfold F138
  have c4 : ∀ S : Stt, (stc S m mo)[4]? = some (.map (some m)) := fun _ => rfl
  have c1 : ∀ o, hp.cell b1 o = [ptr q 0][o]? := fun o => HP.cell_of h1
  have c2 : ∀ o, hp.cell b2 o = [Value.func (.func fo) ⟨[]⟩ ⟨[]⟩][o]? := fun o => HP.cell_of h2
  have pp : ∀ c : Option Addr → Prop, ptrV (ptr q 0) c = c (some ⟨q, 0, none⟩) := fun _ => rfl
  have hnd := h.2.2.2.2.2.2.2.2.2.2.2
  have gx : getL x.1 S.D = some x.2 := getL_of_mem hnd hx
  have gy : getL y.1 S.D = some y.2 := getL_of_mem hnd hy
  simp only [ptrN_some, c1, c2, List.getElem?_cons_zero, ldV_some, pp, h.cell, Nat.zero_add, c4, mapV_map]
  refine rdS_lookup u128 enc9 zpt h.mapD x.1 ?_
  simp only [Bool.false_eq_true, if_false, gx, Option.map_some, Option.getD_some]
  have e1 : ∀ (d : Dg) (c : Option Addr → Prop), ptrV (dv d) c = c (some ⟨d.blk, 0, none⟩) := fun _ _ => rfl
  simp only [e1, ptrN_some, c1, List.getElem?_cons_zero, ldV_some, pp, h.cell, Nat.zero_add, c4, mapV_map]
  refine rdS_lookup u128 enc9 zpt h.mapD y.1 ?_
  simp only [Bool.false_eq_true, if_false, gy, Option.map_some, Option.getD_some, e1, fnV_mk, List.nil_append, List.append_nil]
  refine hf _ ?_
  rw [intV_int]
  exact hK

theorem C107 {fo : FuncId} {cf : KD → KD → Int} (hS : Sort.SWO (ltC cf)) (h : StR hp0 hp q m mo S) (hD : S.D.length ≤ 60000)
    (hf : ∀ hp', StR hp0 hp' q m mo S → ∀ x ∈ S.D, ∀ y ∈ S.D, ∀ K, K (.int .i64 (cf x y)) hp' → CF Try.prog fo [dv x.2, dv y.2] hp' K)
    (hK : ∀ hp' (s : Option Addr) (c : Nat) (kds : List KD), HSub hp hp' → kds.Perm S.D → kds.Pairwise (fun x y => ltC cf y x = false) → Row hp' s S.D.length c 9 1 (kds.flatMap fun x => [sw x.1]) → (∀ b, s = some ⟨b, 0, none⟩ → hp b = .none) → K (.slice s S.D.length c) hp') :
    CF Try.prog 107 [ptr q 0, .func (.func fo) ⟨[]⟩ ⟨[]⟩] hp K := by
  refine F107_ok _ _ hp K ?_
  unfold F107
  intro b1 hb1 b2 hb2
  have hfc : Array.toList (Value.cells (.func (.func fo) ⟨[]⟩ ⟨[]⟩)) = [Value.func (.func fo) ⟨[]⟩ ⟨[]⟩] := rfl
  rw [hfc]
  have pp0 : (Value.pointer (some ⟨q, 0, none⟩)) = ptr q 0 := rfl
  rw [pp0] at hb2 ⊢
  have n21 : b2 ≠ b1 := fun e => by rw [e, HP.set_eq] at hb2; cases hb2
  have s1 := HSub.set_fresh hp (.cells 31 [ptr q 0] 0) hb1
  have s2 := s1.trans (HSub.set_fresh _ (.cells 169 [Value.func (.func fo) ⟨[]⟩ ⟨[]⟩] 0) hb2)
  have x1 : ((hp.set b1 (.cells 31 [ptr q 0] 0)).set b2 (.cells 169 [Value.func (.func fo) ⟨[]⟩ ⟨[]⟩] 0)) b1 = .cells 31 [ptr q 0] 0 := by rw [HP.set_ne _ _ n21.symm, HP.set_eq]
  have x2 : ((hp.set b1 (.cells 31 [ptr q 0] 0)).set b2 (.cells 169 [Value.func (.func fo) ⟨[]⟩ ⟨[]⟩] 0)) b2 = .cells 169 [Value.func (.func fo) ⟨[]⟩ ⟨[]⟩] 0 := HP.set_eq ..
  have g1 := h.sub s2
  generalize (hp.set b1 (.cells 31 [ptr q 0] 0)).set b2 (.cells 169 [Value.func (.func fo) ⟨[]⟩ ⟨[]⟩] 0) = hp1 at *
  have c4 : ∀ S : Stt, (stc S m mo)[4]? = some (.map (some m)) := fun _ => rfl
  have c1 : ∀ o, hp1.cell b1 o = [ptr q 0][o]? := fun o => HP.cell_of x1
  have pp : ∀ c : Option Addr → Prop, ptrV (ptr q 0) c = c (some ⟨q, 0, none⟩) := fun _ => rfl
  simp only [ptrN_some, c1, List.getElem?_cons_zero, ldV_some, pp, g1.cell, Nat.zero_add, c4, mapV_map]
  refine opS_range u128 g1.mapD fun it e hit hI0 => ?_
  unfold F107_j2
  refine LoopP.by (J := fun k (s : Option Addr × Nat × Nat) hp' => ∃ done : List KD, HSub hp1 hp' ∧ IterR hp' it m sw dv S.D done ∧ Row hp' s.1 s.2.1 s.2.2 9 1 (done.flatMap fun x => [sw x.1]) ∧ s.2.1 = done.length ∧ (∀ b, s.1 = some ⟨b, 0, none⟩ → hp1 b = .none) ∧ k = S.D.length - done.length) ?_
    (n := S.D.length - 0) ⟨[], (HSub.refl hp1).up hit e, hI0, .inl ⟨rfl, rfl, rfl, rfl⟩, rfl, (fun b e => by cases e), rfl⟩
  rintro I k ⟨s, n, c⟩ hp2 ⟨done, hs, hI, hrow, hn, hfr, rfl⟩ hgo
  simp only at hrow hn hfr
  subst hn
  unfold F107_l3
  refine opS_next hI ?_ ?_
  · intro hperm
    simp only [tupI]
    show ldV (some (Value.bool false)) _
    rw [ldV_some, boolV_bool, ite2_false]
    unfold F107_j1
    -- what was met, as what is there
    have hkp : (done.map (·.1)).Perm (S.D.map (·.1)) := by
      have h1 := hperm.map (fun p : Value × Value => p.1)
      simp only [List.map_map] at h1
      have e1 : ∀ l : List KD, l.map ((fun p : Value × Value => p.1) ∘ fun p => (sw p.1, dv p.2)) = (l.map (·.1)).map sw := fun l => by simp [Function.comp_def]
      rw [e1, e1] at h1
      exact perm_ofm (f := sw) (fun a b e => sw_inj e) h1
    have hlen : done.length = S.D.length := by simpa using hkp.length_eq
    have hnd := g1.2.2.2.2.2.2.2.2.2.2.2
    -- the keys as datagrams that are there
    obtain ⟨ts, hts, htsd⟩ : ∃ ts : List (KT S.D), ts.map (fun x => x.1.1) = done.map (·.1) ∧ (ts.map (·.1)).Perm S.D := by
      have : ∀ l : List ByteArray, (∀ k ∈ l, k ∈ S.D.map (·.1)) → ∃ ts : List (KT S.D), ts.map (fun x => x.1.1) = l := by
        intro l
        induction l with
        | nil => intro _; exact ⟨[], rfl⟩
        | cons k l ih =>
          intro hl
          obtain ⟨ts, h⟩ := ih fun k' hk' => hl k' (by simp [hk'])
          obtain ⟨x, hx, hxk⟩ := List.mem_map.1 (hl k (by simp))
          exact ⟨⟨x, .inl hx⟩ :: ts, by simp [h, hxk]⟩
      obtain ⟨ts, hts⟩ := this (done.map (·.1)) fun k hk => hkp.mem_iff.1 hk
      refine ⟨ts, hts, ?_⟩
      have hne : S.D = [] ∨ ∀ x : KT S.D, x.1 ∈ S.D := by
        by_cases he : S.D = []
        · exact .inl he
        · exact .inr fun x => x.2.resolve_right he
      rcases hne with he | hne
      · have : done = [] := List.eq_nil_of_length_eq_zero (by rw [hlen, he]; rfl)
        rw [this] at hts
        have : ts = [] := by simpa using hts
        rw [this, he]; exact List.Perm.refl _
      · have hk2 : (ts.map (·.1)).map (·.1) = done.map (·.1) := by rw [← hts, List.map_map]; rfl
        have hnd2 : ((ts.map (·.1)).map (·.1)).Nodup := by rw [hk2]; exact hkp.nodup_iff.2 hnd
        refine perm_of_nodup (nodup_of_map _ hnd2) (nodup_of_map _ hnd) (fun x hx => ?_) (fun x hx => ?_)
        · obtain ⟨t, _, rfl⟩ := List.mem_map.1 hx; exact hne t
        · have h1 : x.1 ∈ done.map (·.1) := hkp.mem_iff.2 (List.mem_map.2 ⟨x, hx, rfl⟩)
          rw [← hts] at h1
          obtain ⟨t, ht, e⟩ := List.mem_map.1 h1
          have : t.1 = x := map_inj_of_nodup hnd (hne t) hx e
          rw [← this]; exact List.mem_map.2 ⟨t, ht, rfl⟩
    have hrow' : Row hp2 s done.length c 9 1 (ts.flatMap (ssT KT.key)) := by
      have e : ts.flatMap (ssT KT.key) = done.flatMap fun x => [sw x.1] := by
        have h1 : ∀ l : List (KT S.D), l.flatMap (ssT KT.key) = (l.map (fun x => x.1.1)).map sw := fun l => by
          induction l with
          | nil => rfl
          | cons a l ih => rw [List.flatMap_cons, ih]; rfl
        have h2 : ∀ l : List KD, (l.flatMap fun x => [sw x.1]) = (l.map (·.1)).map sw := fun l => by
          induction l with
          | nil => rfl
          | cons a l ih => rw [List.flatMap_cons, ih]; rfl
        rw [h1, h2, hts]
      rw [e]; exact hrow
    have htl : ts.length = done.length := by have := congrArg List.length hts; simpa using this
    refine S137 (T := KT S.D) (en := KT.key) (cf := fun x y => cf x.1 y.1) ⟨fun x => hS.irrefl x.1, fun x y z => hS.trans x.1 y.1 z.1, fun x y z => hS.ntrans x.1 y.1 z.1⟩ hrow' htl (by omega) ?_ ?_
    · intro b hb hp3 h3 d x y K' hsz hx hy hk
      have hb1' := hfr b hb
      have s3 : HSub hp1 (HA hp3 b 9 ((c - done.length) * 1) (ssT KT.key) d) := (hs.trans h3).up hb1' _
      have hDne : S.D ≠ [] := fun e => by
        have : d.toList = [] := List.eq_nil_of_length_eq_zero (by rw [Array.length_toList, hsz, hlen, e]; rfl)
        rw [this] at hx; cases hx
      have hxm : x.1 ∈ S.D := x.2.resolve_right hDne
      have hym : y.1 ∈ S.D := y.2.resolve_right hDne
      have g3 := g1.sub s3
      exact C138 (x := x.1) (y := y.1) (cf := cf) g3 (s3.cells x1) (s3.cells x2) hxm hym (fun K'' hk'' => hf _ g3 x.1 hxm y.1 hym K'' hk'') hk
    · intro ts' hp' hp1' hpw hrow2 hh'
      have hperm2 : (ts'.map (·.1)).Perm S.D := (hp1'.map _).trans htsd
      have hrow3 : Row hp' s done.length c 9 1 ((ts'.map (·.1)).flatMap fun x => [sw x.1]) := by
        have e : ts'.flatMap (ssT KT.key) = (ts'.map (·.1)).flatMap fun x : KD => [sw x.1] := by
          rw [List.flatMap_map]; rfl
        rw [← e]; exact hrow2
      rw [hlen] at hrow3 ⊢
      refine hK hp' s c (ts'.map (·.1)) ?_ hperm2 ?_ hrow3 (fun b hb => s2.none (hfr b hb))
      · rcases hh' with rfl | ⟨b, e', hb, rfl⟩
        · exact s2.trans hs
        · exact (s2.trans hs).up (s2.none (hfr b hb)) _
      · rw [List.pairwise_map]; exact hpw
  · intro kv hkv e2 hI2
    have hlen2 := hI2.step_len
    simp only [tupI]
    show ldV (some (Value.bool true)) _
    rw [ldV_some, boolV_bool, ite2_true]
    refine rdS_entry hI2 ?_
    show ldV (some (sw kv.1)) _
    rw [ldV_some]
    show strV (Value.string kv.1) _
    rw [strV_string]
    intro b3 hb3
    have esw : (Value.string kv.1) = sw kv.1 := rfl
    rw [esw] at *
    obtain ⟨⟨oi, hoi⟩, ⟨om, hom⟩⟩ := hI2.obj
    have hiti : ∃ o, hp2 it = .obj o := hI.obj.1
    have s2' : HSub hp1 (hp2.set it e2) := hs.up hit e2
    have hne3 : ∀ {x o}, (hp2.set it e2) x = .obj o → x ≠ b3 := fun hx e => by rw [e, hb3] at hx; cases hx
    have s3 := HSub.set_fresh (hp2.set it e2) (.cells 9 [sw kv.1] 0) hb3
    have hI3 : IterR ((hp2.set it e2).set b3 (.cells 9 [sw kv.1] 0)) it m sw dv S.D (done ++ [kv]) := hI2.keep (HP.set_ne _ _ (hne3 hoi)) (HP.set_ne _ _ (hne3 hom))
    have hrow2 : Row (hp2.set it e2) s done.length c 9 1 (done.flatMap fun x => [sw x.1]) := by
      obtain ⟨o, ho⟩ := hiti
      exact hrow.set_obj ho e2
    have hrow3 := hrow2.sub s3
    have sh : Shows ((hp2.set it e2).set b3 (.cells 9 [sw kv.1] 0)) (some ⟨b3, 0, none⟩) 1 1 [sw kv.1] := .inr ⟨b3, 0, rfl, by rw [HP.cellN_of (HP.set_eq ..)]; exact cellsN_all rfl⟩
    have s13 : HSub hp1 ((hp2.set it e2).set b3 (.cells 9 [sw kv.1] 0)) := s2'.trans s3
    refine opS_app (e := 9) (size := 1) (bytes := 16) (by kernel_rfl) hrow3 sh rfl (by omega) (by omega) ?_
    intro s4 c4 hp4 hrow4 hup
    rw [slcV_slice]
    have hfl : (done.flatMap fun x => [sw x.1]) ++ [sw kv.1] = (done ++ [kv]).flatMap fun x => [sw x.1] := by simp
    rw [hfl] at hrow4
    have key : HSub hp1 hp4 ∧ IterR hp4 it m sw dv S.D (done ++ [kv]) ∧ ∀ b, s4 = some ⟨b, 0, none⟩ → hp1 b = .none := by
      rcases hup with ⟨rfl, rfl⟩ | ⟨b, e', rfl, hb, rfl⟩
      · exact ⟨s13, hI3, hfr⟩
      · have hb1 : hp1 b = .none := by
          rcases hb with hb | hb
          · exact s13.none hb
          · exact hfr b hb
        obtain ⟨⟨oi3, hoi3⟩, ⟨om3, hom3⟩⟩ := hI3.obj
        have hbo : ∀ o, ((hp2.set it e2).set b3 (.cells 9 [sw kv.1] 0)) b ≠ .obj o := by
          intro o ho
          rcases hb with hb | hb
          · rw [hb] at ho; cases ho
          · rcases hrow3 with ⟨r1, _⟩ | ⟨b', r1, r2, r3, r4⟩
            · rw [r1] at hb; cases hb
            · rw [r1] at hb; cases hb; rw [r4] at ho; cases ho
        refine ⟨s13.up hb1 e', hI3.keep (HP.set_ne _ _ (fun e => hbo oi3 (by rw [← e]; exact hoi3))) (HP.set_ne _ _ (fun e => hbo om3 (by rw [← e]; exact hom3))), fun b' eb => ?_⟩
        cases eb; exact hb1
    have hdl : done.length + 1 = (done ++ [kv]).length := by simp
    rw [hdl] at hrow4 ⊢
    exact hgo (S.D.length - (done ++ [kv]).length) _ _ (by simp; omega) ⟨done ++ [kv], key.1, key.2.1, hrow4, rfl, key.2.2, rfl⟩

/-- By number. -/
def cfId (x y : KD) : Int := cmpN x.2.id y.2.id
/-- By when they are due, then by number. -/
def cfDue (x y : KD) : Int := if cmpN x.2.due y.2.due ≠ 0 then cmpN x.2.due y.2.due else cmpN x.2.id y.2.id
theorem cfId_lt {a b : KD} : ltC cfId a b = true ↔ a.2.id < b.2.id := by
  unfold ltC cfId cmpN
  rw [decide_eq_true_iff]
  repeat' split
  all_goals omega
theorem cfId_ltf {a b : KD} : ltC cfId a b = false ↔ ¬ a.2.id < b.2.id := by rw [← cfId_lt]; simp
theorem swo_cfId : Sort.SWO (ltC cfId) where
  irrefl x := by rw [cfId_ltf]; omega
  trans x y z := by simp only [cfId_lt]; omega
  ntrans x y z := by simp only [cfId_ltf]; omega
theorem cfDue_lt {a b : KD} : ltC cfDue a b = true ↔ a.2.due < b.2.due ∨ (a.2.due = b.2.due ∧ a.2.id < b.2.id) := by
  unfold ltC cfDue cmpN
  rw [decide_eq_true_iff]
  repeat' split
  all_goals omega
theorem cfDue_ltf {a b : KD} : ltC cfDue a b = false ↔ ¬ (a.2.due < b.2.due ∨ (a.2.due = b.2.due ∧ a.2.id < b.2.id)) := by rw [← cfDue_lt]; simp
theorem swo_cfDue : Sort.SWO (ltC cfDue) where
  irrefl x := by rw [cfDue_ltf]; omega
  trans x y z := by simp only [cfDue_lt]; omega
  ntrans x y z := by simp only [cfDue_ltf]; omega

theorem C108 {x y : KD} (hx : DgR hp x.2) (hy : DgR hp y.2) (hK : K (.int .i64 (cfId x y)) hp) : CF Try.prog 108 [dv x.2, dv y.2] hp K := by
  refine F108_ok _ _ hp K ?_
  unfold F108
  obtain ⟨_, c, _, h2, _⟩ := hx
  obtain ⟨_, c', _, h2', _⟩ := hy
  have hc : ∀ o, hp.cell x.2.blk o = _ := fun o => HP.cell_of h2
  have hc' : ∀ o, hp.cell y.2.blk o = _ := fun o => HP.cell_of h2'
  simp only [ptrN_some, hc, hc', Nat.zero_add, List.getElem?_cons_zero, ldV_some, intV_int]
  refine D97 ?_
  rw [intV_int]
  exact hK

theorem C109 {x y : KD} (hx : DgR hp x.2) (hy : DgR hp y.2) (hK : K (.int .i64 (cfDue x y)) hp) : CF Try.prog 109 [dv x.2, dv y.2] hp K := by
  refine CF.drop (F109_ok _ _ hp _ ?_)
  unfold F109
  obtain ⟨_, c, _, h2, _⟩ := hx
  obtain ⟨_, c', _, h2', _⟩ := hy
  have hc : ∀ o, hp.cell x.2.blk o = _ := fun o => HP.cell_of h2
  have hc' : ∀ o, hp.cell y.2.blk o = _ := fun o => HP.cell_of h2'
  have fin : ∀ (b : Nat), hp b = .none → CF Try.prog 96 [.slice (some ⟨b, 0, none⟩) 2 2] (hp.set b (.cells 3 [.int .i64 (cmpN x.2.due y.2.due), .int .i64 (cmpN x.2.id y.2.id)] 0)) fun u h => intV u .i64 fun k => ∃ hp'', HSub hp'' h ∧ K (.int .i64 k) hp'' := by
    intro b hb
    refine D96 (HP.set_eq ..) ?_
    rw [intV_int]
    exact ⟨hp, HSub.set_fresh hp _ hb, hK⟩
  refine ⟨?_, ?_, ?_, ?_⟩
  all_goals
    simp only [ptrN_some, hc, hc', Nat.zero_add, List.getElem?_cons_succ, List.getElem?_cons_zero, ldV_some, intV_int]
    refine D97 ?_
    simp only [ptrN_some, hc, hc', Nat.zero_add, List.getElem?_cons_succ, List.getElem?_cons_zero, ldV_some, intV_int]
    refine D97 ?_
    rw [intV_int]
    exact fin

/-- The keys, by number. -/
theorem C60 (h : StR hp0 hp q m mo S) (hD : S.D.length ≤ 60000)
    (hK : ∀ hp' (s : Option Addr) (c : Nat) (kds : List KD), HSub hp hp' → kds.Perm S.D → kds.Pairwise (fun x y => ltC cfId y x = false) → Row hp' s S.D.length c 9 1 (kds.flatMap fun x => [sw x.1]) → (∀ b, s = some ⟨b, 0, none⟩ → hp b = .none) → K (.slice s S.D.length c) hp') :
    CF Try.prog 60 [ptr q 0] hp K := by
  refine F60_ok _ hp K ?_
  unfold F60
  refine C75 h ?_
  rw [boolV_bool, ite2_false]
  refine C107 swo_cfId h hD (fun hp' g x hx y hy K' hk => C108 (g.2.2.2.2.2.2.2.2.1 x hx).1 (g.2.2.2.2.2.2.2.2.1 y hy).1 hk) ?_
  intro hp' s c kds a1 a2 a3 a4 a5
  rw [slcV_slice]
  exact hK hp' s c kds a1 a2 a3 a4 a5

theorem C70 {src : ByteArray} (h : StR hp0 hp q m mo S) (hK : K (.int .i64 ((getL src S.of).getD 0)) hp) : CF Try.prog 70 [ptr q 0, .string src] hp K := by
  refine F70_ok _ src hp K ?_
  unfold F70
  refine C75 h ?_
  rw [boolV_bool, ite2_false]
  have c5 : (stc S m mo)[5]? = some (.map (some mo)) := rfl
  simp only [ptrN_some, h.cell, Nat.zero_add, c5, ldV_some, mapV_map]
  refine rdS_lookup u97 enc9 zj h.mapOf src ?_
  simp only [Bool.false_eq_true, if_false, jw_get, intV_int]
  exact hK

/-- What is left when those that are due are gone. -/
def popS (S : Stt) (now : Int) (kds : List KD) : Stt := kds.foldl (fun S x => if x.2.due ≤ now then cutS S x.1 x.2 else S) S
/-- What is told of them. -/
def toldQ (now : Int) (kds : List KD) : List (List Value) := (kds.filter fun x => decide (x.2.due ≤ now)).map fun x => wh x.1 (headQ x.2.l) e0s x.2.l.length

theorem getL_foldl_cut {now : Int} : ∀ {kds : List KD} {S : Stt} {k : ByteArray}, (S.D.map (·.1)).Nodup → k ∉ kds.map (·.1) → getL k (popS S now kds).D = getL k S.D
  | [], _, _, _, _ => rfl
  | x :: l, S, k, hn, h => by
    simp only [List.map_cons, List.mem_cons, not_or] at h
    unfold popS
    rw [List.foldl_cons]
    by_cases hx : x.2.due ≤ now
    · rw [if_pos hx]
      have := getL_foldl_cut (now := now) (kds := l) (S := cutS S x.1 x.2) (k := k) (by unfold cutS; exact nodup_del hn) h.2
      unfold popS at this
      rw [this]
      unfold cutS
      simp only [getL_del hn, h.1, if_false]
    · rw [if_neg hx]
      have := getL_foldl_cut (now := now) (kds := l) (S := S) (k := k) hn h.2
      unfold popS at this
      exact this


/-! What lies beside the store. -/
theorem StR.weak {h0 R : HP} (h : StR R hp q m mo S) (hs : HSub h0 R) : StR h0 hp q m mo S := by
  obtain ⟨a1, a2, a3, a4, a5, a6, a7, a8, a9, r⟩ := h
  exact ⟨hs.trans a1, hs.none a2, hs.none a3, hs.none a4, a5, a6, a7, a8, fun kd hkd => ⟨(a9 kd hkd).1, hs.none (a9 kd hkd).2.1, hs.none (a9 kd hkd).2.2⟩, r⟩
/-- A block beside the store is forgotten. -/
theorem StR.cut {R : HP} {ob : Nat} {e : Ent} (h : StR (R.set ob e) hp q m mo S) (he : e ≠ .none) (hR : R ob = .none) : StR R (hp.set ob .none) q m mo S := by
  obtain ⟨a1, a2, a3, a4, a5, a6, a7, a8, a9, r⟩ := h
  have ne : ∀ x, (R.set ob e) x = .none → x ≠ ob := fun x hx e' => he (by rw [e', HP.set_eq] at hx; exact hx)
  have sub : HSub R (R.set ob e) := HSub.set_fresh R e hR
  refine ⟨fun x => ?_, sub.none a2, sub.none a3, sub.none a4, a5, ?_, ?_, ?_, fun kd hkd => ⟨?_, sub.none (a9 kd hkd).2.1, sub.none (a9 kd hkd).2.2⟩, r⟩
  · by_cases hx : x = ob
    · subst hx; exact .inl hR
    · rw [HP.set_ne _ _ hx]; exact (sub.trans a1) x
  · rw [HP.set_ne _ _ (ne q a2)]; exact a6
  · rw [HP.set_ne _ _ (ne m a3)]; exact a7
  · rw [HP.set_ne _ _ (ne mo a4)]; exact a8
  · exact (a9 kd hkd).1.ne (ne _ (a9 kd hkd).2.1).symm (ne _ (a9 kd hkd).2.2).symm
/-- A new block lies beside the store. -/
theorem StR.add {R hp' : HP} {ob : Nat} {e : Ent} (h : StR R hp q m mo S) (hn : hp ob = .none) (hs : HSub hp hp') (hb : hp' ob = e) : StR (R.set ob e) hp' q m mo S := by
  have h' := h.sub hs
  obtain ⟨a1, a2, a3, a4, a5, a6, a7, a8, a9, r⟩ := h
  obtain ⟨b1, b2, b3, b4, b5, b6, b7, b8, b9, _⟩ := h'
  obtain ⟨o1, e1⟩ := mapE_obj a7
  obtain ⟨o2, e2⟩ := mapE_obj a8
  have ne : ∀ {x y}, hp x = y → y ≠ .none → x ≠ ob := fun hx hy e' => hy (by rw [← hx, e', hn])
  have off : ∀ {x}, R x = .none → x ≠ ob → (R.set ob e) x = .none := fun hx hne => by rw [HP.set_ne _ _ hne]; exact hx
  refine ⟨b1.set_of hb, off a2 (ne a6 (by simp)), off a3 (ne e1 (by simp)), off a4 (ne e2 (by simp)), a5, b6, b7, b8, fun kd hkd => ⟨(b9 kd hkd).1, ?_, ?_⟩, r⟩
  · obtain ⟨⟨_, c, _, g2, g3⟩, z1, z2⟩ := a9 kd hkd
    exact off z1 (ne g2 (by simp))
  · obtain ⟨⟨_, c, _, g2, g3⟩, z1, z2⟩ := a9 kd hkd
    exact off z2 (ne g3 (by simp))

/-- What is known beside, and a row. -/
def outH (R : HP) (e : TypeId) (size : Nat) (s : Option Addr) (n c : Nat) (xs : List Value) : HP := match s with
  | none => R
  | some a => R.set a.block (.cells e xs ((c - n) * size))
/-- A row beside the store. -/
def Bes (R hp : HP) (q m mo : Nat) (S : Stt) (e : TypeId) (size : Nat) (s : Option Addr) (n c : Nat) (xs : List Value) : Prop :=
  (∀ b, s = some ⟨b, 0, none⟩ → R b = .none) ∧ Row (outH R e size s n c xs) s n c e size xs ∧ StR (outH R e size s n c xs) hp q m mo S
theorem Bes.row {R : HP} {e : TypeId} {size : Nat} {s : Option Addr} {n c : Nat} {xs : List Value} (h : Bes R hp q m mo S e size s n c xs) : Row hp s n c e size xs := h.2.1.sub h.2.2.1
theorem Bes.st {R : HP} {e : TypeId} {size : Nat} {s : Option Addr} {n c : Nat} {xs : List Value} (h : Bes R hp q m mo S e size s n c xs) : StR R hp q m mo S := by
  obtain ⟨h1, h2, h3⟩ := h
  rcases h2 with ⟨rfl, _⟩ | ⟨b, rfl, _⟩
  · exact h3
  · exact h3.weak (HSub.set_fresh R _ (h1 b rfl))
theorem Bes.stp {R hp' : HP} {S' : Stt} {e : TypeId} {size : Nat} {s : Option Addr} {n c : Nat} {xs : List Value} (h : Bes R hp q m mo S e size s n c xs) (hs : Stp q m mo hp S hp' S') : Bes R hp' q m mo S' e size s n c xs := ⟨h.1, h.2.1, hs _ h.2.2⟩
theorem Bes.sub {R hp' : HP} {e : TypeId} {size : Nat} {s : Option Addr} {n c : Nat} {xs : List Value} (h : Bes R hp q m mo S e size s n c xs) (hs : HSub hp hp') : Bes R hp' q m mo S e size s n c xs := ⟨h.1, h.2.1, h.2.2.sub hs⟩
theorem Bes.nil {R : HP} {e : TypeId} {size : Nat} (h : StR R hp q m mo S) : Bes R hp q m mo S e size none 0 0 [] := ⟨fun b e => (by cases e), .inl ⟨rfl, rfl, rfl, rfl⟩, h⟩
/-- Behind an append. -/
theorem Bes.app {R hp' : HP} {e : TypeId} {size : Nat} {s s2 : Option Addr} {n c n2 c2 : Nat} {xs ys : List Value} (h : Bes R hp q m mo S e size s n c xs) (hr : Row hp' s2 n2 c2 e size ys)
    (hf : ∀ h0 : HP, HSub h0 hp → (∀ b', s = some ⟨b', 0, none⟩ → h0 b' = .none) → HSub h0 hp' ∧ ∀ b', s2 = some ⟨b', 0, none⟩ → h0 b' = .none) : Bes R hp' q m mo S e size s2 n2 c2 ys := by
  obtain ⟨h1, h2, h3⟩ := h
  obtain ⟨hpA, hA, hAs, hAn⟩ : ∃ hpA, StR R hpA q m mo S ∧ HSub hpA hp ∧ ∀ b', s = some ⟨b', 0, none⟩ → hpA b' = .none := by
    rcases h2 with ⟨rfl, _⟩ | ⟨b, rfl, _⟩
    · exact ⟨hp, h3, HSub.refl _, fun b e => by cases e⟩
    · refine ⟨hp.set b .none, h3.cut (by simp) (h1 b rfl), fun x => ?_, fun b' e => by cases e; exact HP.set_eq ..⟩
      by_cases hx : x = b
      · subst hx; exact .inl (HP.set_eq ..)
      · exact .inr (HP.set_ne _ _ hx)
  obtain ⟨k1, k2⟩ := hf hpA hAs hAn
  rcases hr with ⟨rfl, g⟩ | ⟨b, rfl, g1, g2, g3⟩
  · exact ⟨fun b e => (by cases e), .inl ⟨rfl, g⟩, hA.sub k1⟩
  · have hb := k2 b rfl
    refine ⟨fun b' e => by cases e; exact hA.1.none hb, .inr ⟨b, rfl, g1, g2, HP.set_eq ..⟩, hA.add hb k1 g3⟩

theorem popS_succ {now : Int} {kds : List KD} {i : Nat} (hi : i < kds.length) : popS S now (kds.take (i + 1)) = if kds[i].2.due ≤ now then cutS (popS S now (kds.take i)) kds[i].1 kds[i].2 else popS S now (kds.take i) := by
  unfold popS
  rw [List.take_succ_eq_append_getElem hi, List.foldl_append]; rfl
theorem toldQ_succ {now : Int} {kds : List KD} {i : Nat} (hi : i < kds.length) : toldQ now (kds.take (i + 1)) = toldQ now (kds.take i) ++ if kds[i].2.due ≤ now then [wh kds[i].1 (headQ kds[i].2.l) e0s kds[i].2.l.length] else [] := by
  unfold toldQ
  rw [List.take_succ_eq_append_getElem hi, List.filter_append, List.map_append]
  by_cases h : kds[i].2.due ≤ now
  · simp [h]
  · simp [h]
theorem toldQ_len {now : Int} {kds : List KD} : (toldQ now kds).length ≤ kds.length := by
  unfold toldQ; rw [List.length_map]; exact List.length_filter_le _ _

theorem C62 {now : Int} (h : StR hp0 hp q m mo S) (hD : S.D.length ≤ 60000) (hlen : ∀ kd ∈ S.D, kd.2.l.length ≤ 100000)
    (hK : ∀ hp' (s : Option Addr) (n c : Nat) (kds : List KD), kds.Perm S.D → kds.Pairwise (fun x y => ltC cfDue y x = false) → (∀ h0, StR h0 hp q m mo S → Bes h0 hp' q m mo (popS S now kds) 36 4 s n c ((toldQ now kds).flatMap fun x => x)) →
      n = (toldQ now kds).length → K (.slice s n c) hp') :
    CF Try.prog 62 [ptr q 0, .int .i64 now] hp K := by
  refine F62_ok _ now hp K ?_
  unfold F62
  refine C75 h ?_
  rw [boolV_bool, ite2_false]
  refine C107 swo_cfDue h hD (fun hp' g x hx y hy K' hk => C109 (g.2.2.2.2.2.2.2.2.1 x hx).1 (g.2.2.2.2.2.2.2.2.1 y hy).1 hk) ?_
  intro hp1 ks kc kds h01 hperm hpw hkrow hkfr
  rw [slcV_slice]
  unfold F62_j2
  have hkl : kds.length = S.D.length := hperm.length_eq
  have hnd := h.2.2.2.2.2.2.2.2.2.2.2
  have hndk : (kds.map (·.1)).Nodup := (hperm.map _).nodup_iff.2 hnd
  have c4 : ∀ S : Stt, (stc S m mo)[4]? = some (.map (some m)) := fun _ => rfl
  rw [← hkl] at hkrow ⊢
  -- what is known beside the store: the keys, and what is told
  let J1 : HP → Option Addr → Nat → Nat → Nat → Prop := fun hp' s n c i => ∀ h0, StR h0 hp q m mo S → ∃ R, HSub h0 R ∧ Shows R ks kds.length 1 (kds.flatMap fun x => [sw x.1]) ∧ Bes R hp' q m mo (popS S now (kds.take i)) 36 4 s n c ((toldQ now (kds.take i)).flatMap fun x => x)
  refine LoopP.by (J := fun k (y : Option Addr × Nat × Nat × Int) hp' => ∃ i : Nat, y.2.2.2 = i ∧ i + k = kds.length ∧ J1 hp' y.1 y.2.1 y.2.2.1 i ∧ y.2.1 = (toldQ now (kds.take i)).length) ?_ (n := kds.length) ?_
  rotate_left
  · refine ⟨0, rfl, by omega, fun h0 g => ?_, rfl⟩
    rcases hkrow with ⟨rfl, k2, k3, k4⟩ | ⟨kb, rfl, k2, k3, k4⟩
    · exact ⟨h0, HSub.refl _, .inl ⟨k2, k4⟩, Bes.nil (g.sub h01)⟩
    · have hkb := hkfr kb rfl
      refine ⟨h0.set kb (.cells 9 (kds.flatMap fun x => [sw x.1]) ((kc - kds.length) * 1)), HSub.set_fresh h0 _ (g.1.none hkb), .inr ⟨kb, 0, rfl, ?_⟩, Bes.nil (g.add hkb h01 k4)⟩
      rw [HP.cellN_of (HP.set_eq ..)]; exact cellsN_all k3
  rintro I k ⟨s, n, c, y⟩ hp2 ⟨i, hy, hik, hJ, hn⟩ hgo
  simp only at hy hJ hn
  subst hy hn
  obtain ⟨R, hR0, hRs, hRb⟩ := hJ hp0 h
  have g2 := hRb.st
  have hs2 : Shows hp2 ks kds.length 1 (kds.flatMap fun x => [sw x.1]) := hRs.sub g2.1
  unfold F62_l3
  simp only []
  by_cases hi : i < kds.length
  rotate_left
  · rw [decide_eq_false (by omega : ¬ (i : Int) < ((kds.length : Nat) : Int)), ite2_false]
    unfold F62_j1
    rw [List.take_of_length_le (by omega)] at *
    refine hK hp2 s _ c kds hperm hpw (fun h0 g => ?_) rfl
    obtain ⟨R', hR', _, hRb'⟩ := hJ h0 g
    rw [List.take_of_length_le (by omega)] at hRb'
    refine ⟨fun b e => hR'.none (hRb'.1 b e), ?_, ?_⟩
    · rcases hRb'.2.1 with ⟨e, r⟩ | ⟨b, e, r1, r2, r3⟩
      · exact .inl ⟨e, r⟩
      · subst e; exact .inr ⟨b, rfl, r1, r2, HP.set_eq ..⟩
    · refine hRb'.2.2.weak ?_
      unfold outH
      split
      · exact hR'
      · exact hR'.set _ _
  rw [decide_eq_true (by omega : (i : Int) < ((kds.length : Nat) : Int)), ite2_true]
  obtain ⟨kb, ko, hks, hkc⟩ := Shows.get (size := 1) (enc := fun x : KD => [sw x.1]) hs2 (fun _ => rfl) rfl hi
  have hcell := HP.cell_cellN (j := 0) hkc rfl
  rw [Nat.add_zero] at hcell
  have hxm : kds[i] ∈ S.D := hperm.mem_iff.1 (List.getElem_mem hi)
  have hgx : getL kds[i].1 (popS S now (kds.take i)).D = some kds[i].2 := by
    rw [getL_foldl_cut hnd ?_]
    · exact getL_of_mem hnd hxm
    · intro hm
      obtain ⟨x, hx, e⟩ := List.mem_map.1 hm
      obtain ⟨j, hj, rfl⟩ := List.getElem_of_mem hx
      rw [List.length_take] at hj
      rw [List.getElem_take] at e
      have := (List.pairwise_iff_getElem.1 hndk) j i (by simp; omega) (by simpa using hi) (by omega)
      simp only [List.getElem_map] at this
      exact this e
  have hle := toldQ_len (now := now) (kds := kds.take i)
  rw [List.length_take] at hle
  subst hks
  simp only [ptrN_some, Int.toNat_natCast, hcell, ldV_some]
  refine ⟨by omega, by omega, ?_⟩
  show strV (Value.string kds[i].1) _
  simp only [strV_string, g2.cell, Nat.zero_add, c4, ldV_some, mapV_map]
  refine rdS_lookup u128 enc9 zpt g2.mapD kds[i].1 ?_
  simp only [Bool.false_eq_true, if_false, hgx, Option.map_some, Option.getD_some]
  have e1 : ∀ (d : Dg) (c : Option Addr → Prop), ptrV (dv d) c = c (some ⟨d.blk, 0, none⟩) := fun _ _ => rfl
  have hdg := g2.dg hgx
  have hdg0 := hdg
  obtain ⟨_, dc, _, d2, _⟩ := hdg
  have hc : ∀ hp', HSub hp2 hp' → ∀ o, hp'.cell kds[i].2.blk o = _ := fun hp' hs o => HP.cell_of (hs.cells d2)
  have w1 : IntKind.wrap .i64 ((i : Int) + 1) = ((i + 1 : Nat) : Int) := wiN (by omega) (by omega)
  simp only [e1, ptrN_some, hc hp2 (HSub.refl _), Nat.zero_add, List.getElem?_cons_succ, List.getElem?_cons_zero, ldV_some, intV_int, slcV_slice]
  have hsucc := popS_succ (S := S) (now := now) hi
  have htold := toldQ_succ (now := now) hi
  by_cases hdue : kds[i].2.due ≤ now
  rotate_left
  · rw [decide_eq_false hdue, ite2_false]
    unfold F62_j4
    rw [w1]
    rw [if_neg hdue] at hsucc htold
    rw [List.append_nil] at htold
    refine hgo (k - 1) _ _ (by omega) ⟨i + 1, rfl, by omega, ?_, by simp only; rw [htold]⟩
    intro h0 g
    obtain ⟨R', a, b, c'⟩ := hJ h0 g
    exact ⟨R', a, b, by rw [hsucc, htold]; exact c'⟩
  rw [decide_eq_true hdue, ite2_true]
  rw [if_pos hdue] at hsucc htold
  have hz4 : ∀ a b : ByteArray, ∀ x : Int, splice [(Value.string ⟨#[]⟩), (Value.string ⟨#[]⟩), (Value.string ⟨#[]⟩), (Value.int .i64 0)] 0 [Value.string a, .string b, .string ⟨#[]⟩, .int .i64 x] = wh a b e0s x := fun _ _ _ => splice_all rfl
  have tail : ∀ b4, hp2 b4 = .none → opS Try.prog (Builtin.append_ #[109, 109] 109 ⟨[.slice s (toldQ now (kds.take i)).length c, .slice (some ⟨b4, 0, none⟩) 1 1]⟩) (hp2.set b4 (.cells 36 (wh kds[i].1 (headQ kds[i].2.l) e0s kds[i].2.l.length) 0)) fun u h => slcV u fun a n c' => F62_j5 (some ⟨q, 0, none⟩) now a n c' kds[i].1 (some ⟨kb, ko, none⟩) kds.length kc (kds.length : Nat) i h I K := by
    intro b4 hb4
    have s4 := HSub.set_fresh hp2 (.cells 36 (wh kds[i].1 (headQ kds[i].2.l) e0s kds[i].2.l.length) 0) hb4
    have rb := hRb.sub s4
    refine opS_appF (e := 36) (size := 4) (bytes := 56) (by kernel_rfl) rb.row (.inr ⟨b4, 0, rfl, by rw [HP.cellN_of (HP.set_eq ..)]; exact cellsN_all rfl⟩) rfl (by omega) (by omega) ?_
    intro s5 c5 hp5 hrow5 hf5
    rw [slcV_slice]
    unfold F62_j5
    have eapp : ((toldQ now (kds.take i)).flatMap fun x => x) ++ wh kds[i].1 (headQ kds[i].2.l) e0s kds[i].2.l.length = (toldQ now (kds.take (i + 1))).flatMap fun x => x := by
      rw [htold, List.flatMap_append]; simp
    have elen : (toldQ now (kds.take i)).length + 1 = (toldQ now (kds.take (i + 1))).length := by rw [htold]; simp
    rw [eapp, elen] at hrow5
    rw [elen]
    have rb5 := rb.app hrow5 hf5
    refine C79 rb5.st hgx (Nat.le_trans (hlen _ hxm) (by omega)) ?_
    intro hp6 s6
    unfold F62_j4
    rw [w1]
    refine hgo (k - 1) _ _ (by omega) ⟨i + 1, rfl, by omega, ?_, rfl⟩
    intro h0 g
    obtain ⟨R', a, b, c'⟩ := hJ h0 g
    refine ⟨R', a, b, ?_⟩
    rw [hsucc]
    exact ((c'.sub s4).app hrow5 hf5).stp s6
  refine ⟨?_, ?_⟩
  · refine C110 hdg0 (Nat.le_trans (hlen _ hxm) (by omega)) ?_
    simp only [strV_string, hc hp2 (HSub.refl _), Nat.zero_add, List.getElem?_cons_succ, List.getElem?_cons_zero, ldV_some, slcV_slice, hz4]
    exact ifI rfl tail
  · refine C110 hdg0 (Nat.le_trans (hlen _ hxm) (by omega)) ?_
    simp only [strV_string, hz4]
    exact ifI rfl tail
end
end Go.Proofs

set_option linter.unusedVariables false
set_option maxRecDepth 20000
namespace Go.Proofs
open Go Go.HL

instance memB (a : ByteArray) (l : List ByteArray) : Decidable (a ∈ l) := decidable_of_iff (l.any fun k => decide (a = k)) (by simp)
/-- All pieces. -/
def allP (D : List KD) : List Pc := D.flatMap fun x => x.2.l
def cntP (src : ByteArray) (l : List Pc) : Nat := l.countP fun p => decide (p.src = src)

theorem cnt_perm {src : ByteArray} {a b : List Pc} (h : a.Perm b) : cntP src a = cntP src b := h.countP_eq _
theorem cnt_app {src : ByteArray} {a b : List Pc} : cntP src (a ++ b) = cntP src a + cntP src b := List.countP_append
theorem cnt_le {src : ByteArray} {a : List Pc} : cntP src a ≤ a.length := List.countP_le_length

theorem all_del {key : ByteArray} {d : Dg} : ∀ {D : List KD}, getL key D = some d → (allP D).Perm (d.l ++ allP (delL key D))
  | [], h => by cases h
  | x :: D, h => by
    simp only [getL] at h
    by_cases hk : key = x.1
    · simp only [hk, if_true, Option.some.injEq] at h
      simp only [delL, hk, if_true, allP, List.flatMap_cons, h]
      exact List.Perm.refl _
    · simp only [hk, if_false] at h
      simp only [delL, hk, if_false, allP, List.flatMap_cons]
      have := all_del h
      unfold allP at this
      refine (this.append_left x.2.l).trans ?_
      rw [← List.append_assoc, ← List.append_assoc]
      exact List.perm_append_comm.append_right _
theorem all_put {key : ByteArray} {d d' : Dg} : ∀ {D : List KD}, getL key D = some d → (allP (putL key d' D)).Perm (d'.l ++ allP (delL key D))
  | [], h => by cases h
  | x :: D, h => by
    simp only [getL] at h
    by_cases hk : key = x.1
    · simp only [delL, putL, hk, if_true, allP, List.flatMap_cons]
      exact List.Perm.refl _
    · simp only [hk, if_false] at h
      simp only [delL, putL, hk, if_false, allP, List.flatMap_cons]
      have := all_put (d' := d') h
      unfold allP at this
      refine (this.append_left x.2.l).trans ?_
      rw [← List.append_assoc, ← List.append_assoc]
      exact List.perm_append_comm.append_right _
theorem all_new {key : ByteArray} {d' : Dg} {D : List KD} (h : getL key D = none) : allP (putL key d' D) = allP D ++ d'.l := by
  rw [put_new h]; unfold allP; rw [List.flatMap_append]; simp
theorem mem_put' {k : ByteArray} {v : Dg} {l : List KD} {x : KD} (hn : (l.map (·.1)).Nodup) (h : x ∈ putL k v l) : x = (k, v) ∨ (x ∈ l ∧ x.1 ≠ k) := mem_put hn h
theorem mem_del {k : ByteArray} {l : List KD} {x : KD} (hn : (l.map (·.1)).Nodup) (h : x ∈ delL k l) : x ∈ l ∧ x.1 ≠ k := by
  refine ⟨(del_sub k l).subset h, fun e => ?_⟩
  have h1 : getL x.1 (delL k l) = some x.2 := getL_of_mem (nodup_del hn) h
  rw [getL_del hn, if_pos e] at h1
  cases h1

theorem cutN_eq : ∀ (k : Nat) (n : Int), (k : Int) ≤ n → n ≤ 1000000000 → cutN k n = n - k
  | 0, n, _, _ => by simp [cutN]
  | k + 1, n, h, h2 => by
    rw [cutN, w64 (by omega) (by omega), cutN_eq k _ (by omega) (by omega)]; omega

theorem cutOf_eq : ∀ (l : List Pc) (of : List (ByteArray × Int)) (c : ByteArray → Nat), (of.map (·.1)).Nodup → (∀ s, (getL s of).getD 0 = (c s : Int)) → (∀ s, cntP s l ≤ c s) → (∀ s, c s ≤ 1000000000) →
    ((cutOf l of).map (·.1)).Nodup ∧ ∀ s, (getL s (cutOf l of)).getD 0 = ((c s - cntP s l : Nat) : Int)
  | [], of, c, hn, h, _, _ => ⟨hn, fun s => by rw [cutOf, h]; simp [cntP]⟩
  | p :: l, of, c, hn, h, hc, hb => by
    have hp := hc p.src
    have h1 : ∀ s, cntP s (p :: l) = cntP s l + if p.src = s then 1 else 0 := fun s => by
      unfold cntP; rw [List.countP_cons]; simp
    have hp1 : 1 ≤ c p.src := by rw [h1, if_pos rfl] at hp; omega
    have hbb := hb p.src
    have hw : IntKind.wrap .i64 ((getL p.src of).getD 0 - 1) = ((c p.src - 1 : Nat) : Int) := by rw [h, w64 (by omega) (by omega)]; omega
    rw [cutOf, hw]
    have key : ∀ of' : List (ByteArray × Int), (of'.map (·.1)).Nodup → (∀ s, (getL s of').getD 0 = ((if s = p.src then c p.src - 1 else c s : Nat) : Int)) →
        ((cutOf l of').map (·.1)).Nodup ∧ ∀ s, (getL s (cutOf l of')).getD 0 = ((c s - cntP s (p :: l) : Nat) : Int) := by
      intro of' hn' h'
      obtain ⟨k1, k2⟩ := cutOf_eq l of' (fun s => if s = p.src then c p.src - 1 else c s) hn' h' (fun s => by
        have := hc s
        rw [h1] at this
        by_cases e : s = p.src
        · subst e; rw [if_pos rfl] at this; show cntP p.src l ≤ if p.src = p.src then _ else _; rw [if_pos rfl]; omega
        · rw [if_neg (fun e' => e e'.symm)] at this; show cntP s l ≤ if s = p.src then _ else _; rw [if_neg e]; omega) (fun s => by
        have := hb s
        have := hb p.src
        show (if s = p.src then _ else _) ≤ 1000000000
        split <;> omega)
      refine ⟨k1, fun s => ?_⟩
      rw [k2, h1]
      show (((if s = p.src then c p.src - 1 else c s) - cntP s l : Nat) : Int) = ((c s - (cntP s l + if p.src = s then 1 else 0) : Nat) : Int)
      by_cases e : s = p.src
      · subst e; rw [if_pos rfl, if_pos rfl]; omega
      · have e2 : ¬ p.src = s := fun e' => e e'.symm
        rw [if_neg e, if_neg e2]; rfl
    have hnp := nodup_put (k := p.src) (v := ((c p.src - 1 : Nat) : Int)) hn
    split
    · rename_i h0
      refine key _ (nodup_del hnp) fun s => ?_
      rw [getL_del hnp]
      by_cases e : s = p.src
      · simp only [e, if_true, Option.getD_none]; omega
      · simp only [e, if_false, getL_put]; exact h s
    · refine key _ hnp fun s => ?_
      rw [getL_put]
      by_cases e : s = p.src
      · simp only [e, if_true, Option.getD_some]
      · simp only [e, if_false]; exact h s

/-- What holds of a store. -/
structure Inv (S : Stt) : Prop where
  keys : (S.D.map (·.1)).Nodup
  okeys : (S.of.map (·.1)).Nodup
  num : S.n = ((allP S.D).length : Nat)
  of : ∀ s, (getL s S.of).getD 0 = (cntP s (allP S.D) : Nat)
  ne : ∀ x ∈ S.D, x.2.l ≠ []
  right : ∀ x ∈ S.D, ∀ p ∈ x.2.l, rightP p = true
  key : ∀ x ∈ S.D, ∀ p ∈ x.2.l, p.key = x.1
  due : ∀ x ∈ S.D, okDue x.2.due
  le : S.n ≤ S.max
  big : S.max ≤ 65536
  les : ∀ s, (cntP s (allP S.D) : Int) ≤ S.source

theorem len_all : ∀ {D : List KD}, (∀ x ∈ D, x.2.l ≠ []) → D.length ≤ (allP D).length
  | [], _ => Nat.zero_le _
  | x :: D, h => by
    have h1 := len_all (D := D) fun y hy => h y (by simp [hy])
    have h2 := List.length_pos_iff.2 (h x (by simp))
    unfold allP at *
    rw [List.flatMap_cons, List.length_append, List.length_cons]; omega
theorem len_part {D : List KD} {x : KD} (h : x ∈ D) : x.2.l.length ≤ (allP D).length := by
  induction D with
  | nil => cases h
  | cons y D ih =>
    unfold allP at *
    rw [List.flatMap_cons, List.length_append]
    rcases List.mem_cons.1 h with rfl | h
    · omega
    · have := ih h; omega

section
variable {S : Stt} {p : Pc} {due : Int} {key : ByteArray} {d : Dg}

theorem Inv.lenD (h : Inv S) : S.D.length ≤ 65536 := by have := len_all h.ne; have := h.num; have := h.le; have := h.big; omega
theorem Inv.lenl (h : Inv S) {x : KD} (hx : x ∈ S.D) : x.2.l.length ≤ 65536 := by have := len_part hx; have := h.num; have := h.le; have := h.big; omega
theorem Inv.empty {max source : Int} (h1 : 1 ≤ max) (h2 : max ≤ 65536) (h3 : 1 ≤ source) : Inv ⟨max, source, 0, 0, [], []⟩ :=
  ⟨.nil, .nil, rfl, fun _ => rfl, fun _ h => (by cases h), fun _ h => (by cases h), fun _ h => (by cases h), fun _ h => (by cases h), (by show (0 : Int) ≤ max; omega), h2, fun s => (by show (0 : Int) ≤ source; omega)⟩

theorem Inv.cut (h : Inv S) (hg : getL key S.D = some d) : Inv (cutS S key d) := by
  have hp := all_del hg
  have hl : (allP S.D).length = d.l.length + (allP (delL key S.D)).length := by rw [hp.length_eq, List.length_append]
  have hc : ∀ s, cntP s (allP S.D) = cntP s d.l + cntP s (allP (delL key S.D)) := fun s => by rw [cnt_perm hp, cnt_app]
  have hnum := h.num
  have hle := h.le
  have hbig := h.big
  obtain ⟨k1, k2⟩ := cutOf_eq d.l S.of (fun s => cntP s (allP S.D)) h.okeys h.of (fun s => by rw [hc]; omega) (fun s => by have := cnt_le (src := s) (a := allP S.D); omega)
  have hsub : ∀ x ∈ delL key S.D, x ∈ S.D := fun x hx => (del_sub key S.D).subset hx
  have hn : cutN d.l.length S.n = ((allP (delL key S.D)).length : Nat) := by rw [cutN_eq _ _ (by omega) (by omega)]; omega
  refine ⟨nodup_del h.keys, k1, hn, fun s => ?_, fun x hx => h.ne x (hsub x hx), fun x hx => h.right x (hsub x hx), fun x hx => h.key x (hsub x hx), fun x hx => h.due x (hsub x hx), ?_, h.big, fun s => ?_⟩
  · show (getL s (cutOf d.l S.of)).getD 0 = _
    rw [k2, hc]; congr 1; show _ = cntP s (allP (delL key S.D)); omega
  · show cutN d.l.length S.n ≤ S.max
    rw [hn]; omega
  · have := h.les s
    rw [hc] at this
    show ((cntP s (allP (delL key S.D)) : Nat) : Int) ≤ S.source
    omega

theorem Inv.take (h : Inv S) (hr : rightP p = true) (hd : okDue due) (hm : S.n < S.max) (hs : (getL p.src S.of).getD 0 < S.source) {last' : Int} {d' : Dg} (ht : Took S p due last' d') : Inv (takeS S p last' d') := by
  have hnum := h.num
  have hbig := h.big
  have hof := h.of p.src
  have hcl := cnt_le (src := p.src) (a := allP S.D)
  have hw : IntKind.wrap .i64 (S.n + 1) = (((allP S.D).length + 1 : Nat) : Int) := by rw [w64 (by omega) (by omega)]; omega
  have hw2 : IntKind.wrap .i64 ((getL p.src S.of).getD 0 + 1) = ((cntP p.src (allP S.D) + 1 : Nat) : Int) := by rw [w64 (by omega) (by omega)]; omega
  have hperm : (allP (putL p.key d' S.D)).Perm (allP S.D ++ [p]) := by
    rcases ht with ⟨hg, _, _, _, _, hl⟩ | ⟨d, hg, _, _, _, _, hl⟩
    · rw [all_new hg, hl]
    · refine (all_put hg).trans ?_
      rw [hl, List.append_assoc]
      refine List.Perm.trans ?_ ((all_del hg).symm.append_right [p])
      rw [List.append_assoc]
      exact (List.perm_append_comm).append_left d.l
  have hlen : (allP (putL p.key d' S.D)).length = (allP S.D).length + 1 := by rw [hperm.length_eq]; simp
  have hcnt : ∀ s, cntP s (allP (putL p.key d' S.D)) = cntP s (allP S.D) + if p.src = s then 1 else 0 := fun s => by
    rw [cnt_perm hperm, cnt_app]; congr 1; unfold cntP; rw [List.countP_cons]; simp
  have hd' : d'.l ≠ [] ∧ (∀ x ∈ d'.l, rightP x = true) ∧ (∀ x ∈ d'.l, x.key = p.key) ∧ okDue d'.due := by
    rcases ht with ⟨hg, _, _, hdue, _, hl⟩ | ⟨d, hg, _, _, hdue, _, hl⟩
    · rw [hl, hdue]
      refine ⟨by simp, fun x hx => ?_, fun x hx => ?_, hd⟩
      · rw [List.mem_singleton] at hx; rw [hx]; exact hr
      · rw [List.mem_singleton] at hx; rw [hx]
    · have hm := getL_some_mem hg
      rw [hl, hdue]
      refine ⟨by simp, fun x hx => ?_, fun x hx => ?_, h.due _ hm⟩
      · rw [List.mem_append, List.mem_singleton] at hx
        rcases hx with hx | hx
        · exact h.right _ hm x hx
        · rw [hx]; exact hr
      · rw [List.mem_append, List.mem_singleton] at hx
        rcases hx with hx | hx
        · exact h.key _ hm x hx
        · rw [hx]
  refine ⟨nodup_put h.keys, nodup_put h.okeys, ?_, fun s => ?_, fun x hx => ?_, fun x hx => ?_, fun x hx => ?_, fun x hx => ?_, ?_, h.big, fun s => ?_⟩
  · show IntKind.wrap .i64 (S.n + 1) = _
    rw [hw]; show _ = (((allP (putL p.key d' S.D)).length : Nat) : Int); rw [hlen]
  · show (getL s (putL p.src (IntKind.wrap .i64 ((getL p.src S.of).getD 0 + 1)) S.of)).getD 0 = ((cntP s (allP (putL p.key d' S.D)) : Nat) : Int)
    rw [getL_put, hcnt]
    by_cases e : s = p.src
    · subst e; rw [if_pos rfl, if_pos rfl, Option.getD_some, hw2]
    · have e2 : ¬ p.src = s := fun e' => e e'.symm
      rw [if_neg e, if_neg e2, h.of]; rfl
  · rcases mem_put' h.keys hx with rfl | ⟨hx, _⟩
    · exact hd'.1
    · exact h.ne x hx
  · rcases mem_put' h.keys hx with rfl | ⟨hx, _⟩
    · exact hd'.2.1
    · exact h.right x hx
  · rcases mem_put' h.keys hx with rfl | ⟨hx, _⟩
    · exact hd'.2.2.1
    · exact h.key x hx
  · rcases mem_put' h.keys hx with rfl | ⟨hx, _⟩
    · exact hd'.2.2.2
    · exact h.due x hx
  · show IntKind.wrap .i64 (S.n + 1) ≤ S.max
    rw [hw]; omega
  · have hls := h.les s
    show ((cntP s (allP (putL p.key d' S.D)) : Nat) : Int) ≤ S.source
    rw [hcnt]
    by_cases e : p.src = s
    · subst e; rw [if_pos rfl]; omega
    · rw [if_neg e]; exact hls

theorem Inv.order (h : Inv S) (hg : getL key S.D = some d) {l' : List Pc} (hp : l'.Perm d.l) : Inv (setS S key { d with l := l' }) := by
  have hperm : (allP (putL key { d with l := l' } S.D)).Perm (allP S.D) := (all_put hg).trans ((hp.append_right _).trans (all_del hg).symm)
  have hm := getL_some_mem hg
  refine ⟨nodup_put h.keys, h.okeys, ?_, fun s => ?_, fun x hx => ?_, fun x hx => ?_, fun x hx => ?_, fun x hx => ?_, h.le, h.big, fun s => ?_⟩
  · show S.n = (((allP (putL key { d with l := l' } S.D)).length : Nat) : Int); rw [h.num, hperm.length_eq]
  · show (getL s S.of).getD 0 = ((cntP s (allP (putL key { d with l := l' } S.D)) : Nat) : Int)
    rw [cnt_perm hperm]; exact h.of s
  · rcases mem_put' h.keys hx with rfl | ⟨hx, _⟩
    · exact fun e => h.ne _ hm (List.eq_nil_of_length_eq_zero (by rw [← hp.length_eq]; simp only at e; rw [e]; rfl))
    · exact h.ne x hx
  · rcases mem_put' h.keys hx with rfl | ⟨hx, _⟩
    · exact fun y hy => h.right _ hm y (hp.mem_iff.1 hy)
    · exact h.right x hx
  · rcases mem_put' h.keys hx with rfl | ⟨hx, _⟩
    · exact fun y hy => h.key _ hm y (hp.mem_iff.1 hy)
    · exact h.key x hx
  · rcases mem_put' h.keys hx with rfl | ⟨hx, _⟩
    · exact h.due (key, d) hm
    · exact h.due x hx
  · show ((cntP s (allP (putL key { d with l := l' } S.D)) : Nat) : Int) ≤ S.source
    rw [cnt_perm hperm]; exact h.les s

theorem get_take {last' : Int} {d' : Dg} : getL p.key (takeS S p last' d').D = some d' := by unfold takeS; simp only [getL_put, if_true]
theorem get_set {d' : Dg} : getL key (setS S key d').D = some d' := by unfold setS; simp only [getL_put, if_true]

theorem Inv.put (h : Inv S) {w : List Value} {b : Bool} {e : Int} {S' : Stt} (hp : PutR S p due w b e S') : Inv S' := by
  cases hp with
  | arg | form | again | alone | full | state => exact h
  | clash d _ _ hg => exact h.cut hg
  | part d' last' h1 h2 _ h4 h5 h6 => exact h.take h2 h1 h4 h5 h6
  | none d' last' l' h1 h2 _ h4 h5 h6 _ h8 => exact (h.take h2 h1 h4 h5 h6).order get_take h8
  | whole d' last' l' w h1 h2 _ h4 h5 h6 _ h8 => exact ((h.take h2 h1 h4 h5 h6).order get_take h8).cut get_set

theorem Inv.pop {now : Int} : ∀ {kds : List KD} {S : Stt}, Inv S → (kds.map (·.1)).Nodup → (∀ x ∈ kds, x ∈ S.D) → Inv (popS S now kds)
  | [], S, h, _, _ => h
  | x :: l, S, h, hn, hm => by
    rw [List.map_cons, List.nodup_cons] at hn
    unfold popS
    rw [List.foldl_cons]
    by_cases hx : x.2.due ≤ now
    · rw [if_pos hx]
      have hg := getL_of_mem h.keys (hm x (by simp))
      have := Inv.pop (now := now) (kds := l) (h.cut hg) hn.2 fun y hy => ?_
      · unfold popS at this; exact this
      · have hne : y.1 ≠ x.1 := fun e => hn.1 (by rw [← e]; exact List.mem_map.2 ⟨y, hy, rfl⟩)
        have hgy : getL y.1 (delL x.1 S.D) = some y.2 := by rw [getL_del h.keys, if_neg hne]; exact getL_of_mem h.keys (hm y (by simp [hy]))
        exact getL_some_mem hgy
    · rw [if_neg hx]
      have := Inv.pop (now := now) (kds := l) h hn.2 fun y hy => hm y (by simp [hy])
      unfold popS at this; exact this

theorem mem_pop {now : Int} : ∀ {kds : List KD} {S : Stt} {y : KD}, (S.D.map (·.1)).Nodup → y ∈ (popS S now kds).D → y ∈ S.D ∧ (y ∈ kds → ¬ y.2.due ≤ now)
  | [], S, y, _, h => ⟨h, fun h => by cases h⟩
  | x :: l, S, y, hn, h => by
    unfold popS at h
    rw [List.foldl_cons] at h
    by_cases hx : x.2.due ≤ now
    · rw [if_pos hx] at h
      have := mem_pop (now := now) (kds := l) (S := cutS S x.1 x.2) (y := y) (by unfold cutS; exact nodup_del hn) (by unfold popS; exact h)
      unfold cutS at this
      obtain ⟨h1, h2⟩ := mem_del hn this.1
      refine ⟨h1, fun hm => ?_⟩
      rcases List.mem_cons.1 hm with rfl | hm
      · exact absurd rfl h2
      · exact this.2 hm
    · rw [if_neg hx] at h
      have := mem_pop (now := now) (kds := l) (S := S) (y := y) hn (by unfold popS; exact h)
      refine ⟨this.1, fun hm => ?_⟩
      rcases List.mem_cons.1 hm with rfl | hm
      · exact hx
      · exact this.2 hm

theorem pop_all {now : Int} {kds : List KD} (h : Inv S) (hp : kds.Perm S.D) (hd : ∀ x ∈ S.D, x.2.due ≤ now) : (popS S now kds).D = [] := by
  refine List.eq_nil_iff_forall_not_mem.2 fun y hy => ?_
  obtain ⟨h1, h2⟩ := mem_pop h.keys hy
  exact h2 (hp.mem_iff.2 h1) (hd y h1)

/-- The sources' numbers together. -/
theorem cnt_sum : ∀ {ks : List ByteArray} {l : List Pc}, ks.Nodup → (∀ p ∈ l, p.src ∈ ks) → (ks.map fun k => cntP k l).sum = l.length
  | ks, [], _, _ => by
    have : (ks.map fun k => cntP k []) = ks.map fun _ => 0 := rfl
    have hz : ∀ ks : List ByteArray, (ks.map fun _ => 0).sum = 0 := fun ks => by
      induction ks with
      | nil => rfl
      | cons a l ih => simpa using ih
    rw [this, hz]; rfl
  | ks, p :: l, hn, h => by
    have ih := cnt_sum (l := l) hn fun q hq => h q (by simp [hq])
    have e : ∀ k, cntP k (p :: l) = cntP k l + if p.src = k then 1 else 0 := fun k => by unfold cntP; rw [List.countP_cons]; simp
    have key : ∀ ks : List ByteArray, ks.Nodup → (ks.map fun k => cntP k (p :: l)).sum = (ks.map fun k => cntP k l).sum + if p.src ∈ ks then 1 else 0 := by
      intro ks
      induction ks with
      | nil => intro _; rfl
      | cons a ks ih2 =>
        intro hn
        rw [List.nodup_cons] at hn
        simp only [List.map_cons, List.sum_cons, ih2 hn.2, e a, List.mem_cons]
        by_cases hpa : p.src = a
        · have : p.src ∉ ks := hpa ▸ hn.1
          simp only [hpa, if_true, true_or]
          rw [if_neg (hpa ▸ this)]; omega
        · simp only [hpa, if_false, false_or]; omega
    rw [key ks hn, ih, if_pos (h p (by simp)), List.length_cons]
end
end Go.Proofs

set_option linter.unusedVariables false
set_option maxRecDepth 20000
namespace Go.Proofs
open Go Go.HL
-- 18 interpreter/interpreterlaw16.FragBounds
section
variable (e : Env) (x0 x1 : Int) (x2a : Option Addr) (x2n x2c : Nat) (x7 : Option Addr) (x8 : Int) (x9 : Option Nat) (x10 x11 : Int) (x12 : ByteArray) (x13 : Int) (x14a : Option Addr) (x14n x14c : Nat) (x15 : Int) (x83 : Value) (hp : HP) (K : Env → PV → HP → Prop)
abbrev R18 (p : List Nat) (n : Nat) := RW Try.prog 153 [] (opsAt Try.f18 p) (List.range n)
theorem F18_r0 : R18 [0] 1 e V0 hp K =
    (K (upd e 6 (sB false)) V0 hp) := by kernel_rfl
theorem F18_r1 : R18 [1, 0, 1, 0, 0] 2 e V0 hp K =
    (CF Try.prog 22 [] hp fun u1 h2 => (boolV u1 fun q3 => (K (upd (upd e 34 (sB q3)) 6 (sB q3)) V0 h2))) := by kernel_rfl
theorem F18_r2 : R18 [1, 1, 0] 8 (upd (upd e 1 (sI x1)) 0 (sI x0)) V0 hp K =
    (CF Try.prog 25 [(.int .i64 x0), (.int .i64 x1)] hp fun u1 h2 => (tup2V u1 fun u3 u4 => (ptrV u3 fun p5 => (intV u4 .i64 fun i6 => (K (upd (upd (upd (upd (upd (upd (upd (upd (upd (upd e 1 (sI x1)) 0 (sI x0)) 36 (sI x0)) 37 (sI x1)) 38 (sV (.tuple ⟨[(.pointer p5), (.int .i64 i6)]⟩))) 35 (sV (.tuple ⟨[(.pointer p5), (.int .i64 i6)]⟩))) 39 (sP p5)) 40 (sI i6)) 7 (sP p5)) 8 (sI i6)) V0 h2))))) := by kernel_rfl
theorem F18_r3 : R18 [1, 1, 1, 0, 0] 2 (upd e 8 (sI x8)) V0 hp K =
    (K (upd (upd (upd e 8 (sI x8)) 41 (sI x8)) 42 (sB ((x8 != 0)))) V0 hp) := by kernel_rfl
theorem F18_r4 : R18 [1, 1, 1, 0, 1, 0, 0] 1 e V0 hp K =
    (K (upd e 6 (sB false)) V0 hp) := by kernel_rfl
theorem F18_r5 : R18 [1, 1, 1, 1, 0] 2 e V0 hp K =
    (∀ b1 : Nat, hp b1 = .none → (K (upd (upd e 43 (sV (.map (some b1)))) 9 (sV (.map (some b1)))) V0 (HP.set hp b1 (.obj (.map #[] 0))))) := by kernel_rfl
theorem F18_r6 : R18 [1, 1, 1, 1, 1, 1, 0] 3 (upd e 7 (sP x7)) V0 hp K =
    (CF Try.prog 27 [(.pointer x7)] hp fun u1 h2 => (intV u1 .i64 fun i3 => (K (upd (upd (upd (upd e 7 (sP x7)) 126 (sP x7)) 127 (sI i3)) 13 (sI i3)) V0 h2))) := by kernel_rfl
theorem F18_r7 : R18 [1, 1, 1, 1, 1, 1, 1, 0] 3 (upd e 7 (sP x7)) V0 hp K =
    (CF Try.prog 62 [(.pointer x7), (.int .i64 4611686018427387904)] hp fun u1 h2 => (slcV u1 fun a3 n4 c5 => (K (upd (upd (upd (upd e 7 (sP x7)) 128 (sP x7)) 129 (sS a3 n4 c5)) 14 (sS a3 n4 c5)) V0 h2))) := by kernel_rfl
theorem F18_r8 : R18 [1, 1, 1, 1, 1, 1, 1, 1, 1, 0] 11 (upd (upd e 13 (sI x13)) 7 (sP x7)) V0 hp K =
    (ite2 (x13 == 0) (CF Try.prog 27 [(.pointer x7)] hp fun u1 h2 => (intV u1 .i64 fun i3 => (ite2 (i3 == 0) (CF Try.prog 22 [] h2 fun u4 h5 => (boolV u4 fun q6 => (K (upd (upd (upd (upd (upd (upd (upd (upd (upd (upd (upd (upd (upd e 13 (sI x13)) 7 (sP x7)) 143 (sI x13)) 144 (sB ((x13 == 0)))) 145 (sB true)) 146 (sP x7)) 147 (sI i3)) 148 (sB ((i3 == 0)))) 149 (sB ((i3 == 0)))) 150 (sB true)) 151 (sB q6)) 152 (sB q6)) 6 (sB q6)) V0 h5))) (K (upd (upd (upd (upd (upd (upd (upd (upd (upd (upd (upd (upd (upd e 13 (sI x13)) 7 (sP x7)) 143 (sI x13)) 144 (sB ((x13 == 0)))) 145 (sB true)) 146 (sP x7)) 147 (sI i3)) 148 (sB ((i3 == 0)))) 149 (sB ((i3 == 0)))) 150 (sB false)) 151 sU) 152 (sB false)) 6 (sB false)) V0 h2)))) (K (upd (upd (upd (upd (upd (upd (upd (upd (upd (upd (upd (upd (upd e 13 (sI x13)) 7 (sP x7)) 143 (sI x13)) 144 (sB ((x13 == 0)))) 145 (sB false)) 146 sU) 147 sU) 148 sU) 149 (sB false)) 150 (sB false)) 151 sU) 152 (sB false)) 6 (sB false)) V0 hp)) := by kernel_rfl
def F18_j3 (x7 : Option Addr) (x13 : Int) (hp : HP) (K : Value → HP → Prop) : Prop :=
  (ite2 (x13 == 0) (CF Try.prog 27 [(.pointer x7)] hp fun u_19 h_20 => (intV u_19 .i64 fun i_21 => (ite2 (i_21 == 0) (CF Try.prog 22 [] h_20 fun u_22 h_23 => (boolV u_22 fun q_24 => (K (.bool q_24) h_23))) (K (.bool false) h_20)))) (K (.bool false) hp))
theorem F18_r9 : R18 [1, 1, 1, 1, 1, 1, 1, 1, 0, 1, 0, 0, 0, 0] 4 (upd (upd e 15 (sI x15)) 14 (sS x14a x14n x14c)) V0 hp K =
    (K (upd (upd (upd (upd (upd (upd e 15 (sI x15)) 14 (sS x14a x14n x14c)) 130 (sI x15)) 131 (sS x14a x14n x14c)) 132 (sI ((x14n : Nat)))) 133 (sB ((decide (x15 < x14n))))) V0 hp) := by kernel_rfl
theorem F18_r10 : R18 [1, 1, 1, 1, 1, 1, 1, 1, 0, 1, 0, 0, 1, 0, 0] 8 (upd (upd (upd e 15 (sI x15)) 14 (sS x14a x14n x14c)) 13 (sI x13)) V0 hp K =
    ((0 ≤ x15) ∧ (x15 < x14n) ∧ (ptrN x14a fun b1 o2 => (ldV (HP.cell hp b1 ((o2 + Int.toNat x15 * 4) + 3)) fun v3 => (intV v3 .i64 fun i4 => (K (upd (upd (upd (upd (upd (upd (upd (upd (upd (upd (upd e 15 (sI x15)) 14 (sS x14a x14n x14c)) 13 (sI x13)) 136 (sI x13)) 137 (sS x14a x14n x14c)) 138 (sI x15)) 139 (sQ b1 (o2 + Int.toNat x15 * 4))) 140 (sQ b1 ((o2 + Int.toNat x15 * 4) + 3))) 141 (sI i4)) 142 (sI ((wr (x13 - i4))))) 13 (sI ((wr (x13 - i4))))) V0 hp))))) := by kernel_rfl
theorem F18_r11 : R18 [1, 1, 1, 1, 1, 1, 1, 1, 0, 1, 0, 0, 1, 1] 3 (upd e 15 (sI x15)) V0 hp K =
    (K (upd (upd (upd (upd e 15 (sI x15)) 134 (sI x15)) 135 (sI ((wr (x15 + 1))))) 15 (sI ((wr (x15 + 1))))) V0 hp) := by kernel_rfl
def F18_l5 (x7 : Option Addr) (x14a : Option Addr) (x14n : Nat) (x14c : Nat) (K : Value → HP → Prop) (I5 : (Int × Int) → HP → Prop) (x13 : Int) (x15 : Int) (hp : HP) : Prop :=
  (ite2 (decide (x15 < x14n)) ((0 ≤ x15) ∧ (x15 < x14n) ∧ (ptrN x14a fun b_25 o_26 => (ldV (HP.cell hp b_25 ((o_26 + Int.toNat x15 * 4) + 3)) fun v_27 => (intV v_27 .i64 fun i_28 => (I5 ((IntKind.wrap .i64 (x13 - i_28)), (IntKind.wrap .i64 (x15 + 1))) hp))))) (F18_j3 x7 x13 hp  K))
def F18_j4 (x7 : Option Addr) (x13 : Int) (x14a : Option Addr) (x14n : Nat) (x14c : Nat) (x15 : Int) (hp : HP) (K : Value → HP → Prop) : Prop :=
  (LoopP (σ := Int × Int) (fun I s hp => F18_l5 x7 x14a x14n x14c  K I s.1 s.2 hp) (x13, x15) hp)
theorem F18_r12 : R18 [1, 1, 1, 1, 1, 1, 1, 1, 0, 0] 1 e V0 hp K =
    (K (upd e 15 (sI 0)) V0 hp) := by kernel_rfl
def F18_j2 (x7 : Option Addr) (hp : HP) (K : Value → HP → Prop) : Prop :=
  (CF Try.prog 27 [(.pointer x7)] hp fun u_11 h_12 => (intV u_11 .i64 fun i_13 => (CF Try.prog 62 [(.pointer x7), (.int .i64 4611686018427387904)] h_12 fun u_14 h_15 => (slcV u_14 fun a_16 n_17 c_18 => (F18_j4 x7 i_13 a_16 n_17 c_18 0 h_15  K)))))
theorem F18_r13 : R18 [1, 1, 1, 1, 1, 0, 1, 0, 0, 0, 0] 4 (upd (upd e 10 (sI x10)) 2 (sS x2a x2n x2c)) V0 hp K =
    (K (upd (upd (upd (upd (upd (upd e 10 (sI x10)) 2 (sS x2a x2n x2c)) 44 (sI x10)) 45 (sS x2a x2n x2c)) 46 (sI ((x2n : Nat)))) 47 (sB ((decide (x10 < x2n))))) V0 hp) := by kernel_rfl
theorem F18_r14 : R18 [1, 1, 1, 1, 1, 0, 1, 0, 0, 1, 1] 3 (upd e 10 (sI x10)) V0 hp K =
    (K (upd (upd (upd (upd e 10 (sI x10)) 48 (sI x10)) 49 (sI ((wr (x10 + 1))))) 10 (sI ((wr (x10 + 1))))) V0 hp) := by kernel_rfl
def F18_j8 (x0 : Int) (x1 : Int) (x2a : Option Addr) (x2n : Nat) (x2c : Nat) (x7 : Option Addr) (x9 : Option Nat) (x10 : Int) (hp : HP) (I7 : (Int) → HP → Prop) (K : Value → HP → Prop) : Prop :=
  (I7 (IntKind.wrap .i64 (x10 + 1)) hp)
theorem F18_r15 : R18 [1, 1, 1, 1, 1, 0, 1, 0, 0, 1, 0, 0, 0] 8 (upd (upd (upd e 10 (sI x10)) 9 (sV (.map x9))) 2 (sS x2a x2n x2c)) V0 hp K =
    ((0 ≤ x10) ∧ (x10 < x2n) ∧ (ptrN x2a fun b1 o2 => (ldV (HP.cell hp b1 (((o2 + Int.toNat x10 * 8) + 1) + 1)) fun v3 => (strV v3 fun s4 => (opS Try.prog (Instr.mapUpdate 97 (.map x9) (.string s4) (.int .i64 1)) hp fun u5 h6 => (K (upd (upd (upd (upd (upd (upd (upd (upd (upd (upd e 10 (sI x10)) 9 (sV (.map x9))) 2 (sS x2a x2n x2c)) 50 (sV (.map x9))) 51 (sS x2a x2n x2c)) 52 (sI x10)) 53 (sQ b1 (o2 + Int.toNat x10 * 8))) 54 (sQ b1 ((o2 + Int.toNat x10 * 8) + 1))) 55 (sV (ptr b1 (((o2 + Int.toNat x10 * 8) + 1) + 1)))) 56 (sV (.string s4))) V0 h6)))))) := by kernel_rfl
theorem F18_r16 : R18 [1, 1, 1, 1, 1, 0, 1, 0, 0, 1, 0, 0, 1, 1, 0] 1 e V0 hp K =
    (K (upd e 11 (sI 0)) V0 hp) := by kernel_rfl
theorem F18_r17 : R18 [1, 1, 1, 1, 1, 0, 1, 0, 0, 1, 0, 0, 1, 1, 1, 1, 1, 0, 0] 1 e V0 hp K =
    (K (upd e 6 (sB false)) V0 hp) := by kernel_rfl
def F18_j11 (x0 : Int) (x1 : Int) (x2a : Option Addr) (x2n : Nat) (x2c : Nat) (x7 : Option Addr) (x9 : Option Nat) (x10 : Int) (x125 : Bool) (hp : HP) (I7 : (Int) → HP → Prop) (K : Value → HP → Prop) : Prop :=
  (ite2 x125 (K (.bool false) hp) (F18_j8 x0 x1 x2a x2n x2c x7 x9 x10 hp I7 K))
theorem F18_r18 : R18 [1, 1, 1, 1, 1, 0, 1, 0, 0, 1, 0, 0, 1, 1, 1, 1, 0] 28 (upd (upd (upd e 11 (sI x11)) 7 (sP x7)) 0 (sI x0)) V0 hp K =
    (CF Try.prog 27 [(.pointer x7)] hp fun u1 h2 => (intV u1 .i64 fun i3 => (ite2 (decide (i3 > x0)) (K (upd (upd (upd (upd (upd (upd (upd (upd (upd (upd (upd (upd (upd (upd (upd (upd (upd (upd (upd (upd (upd (upd (upd (upd (upd (upd (upd (upd (upd (upd (upd e 11 (sI x11)) 7 (sP x7)) 0 (sI x0)) 98 (sP x7)) 99 (sI i3)) 100 (sI x0)) 101 (sB (decide (i3 > x0)))) 102 (sB true)) 103 sU) 104 sU) 105 sU) 106 sU) 107 (sB true)) 108 (sB true)) 109 sU) 110 sU) 111 sU) 112 sU) 113 sU) 114 sU) 115 (sB true)) 116 (sB true)) 117 sU) 118 sU) 119 sU) 120 sU) 121 sU) 122 sU) 123 sU) 124 sU) 125 (sB true)) V0 h2) (CF Try.prog 27 [(.pointer x7)] h2 fun u4 h5 => (intV u4 .i64 fun i6 => (ite2 (x11 != i6) (K (upd (upd (upd (upd (upd (upd (upd (upd (upd (upd (upd (upd (upd (upd (upd (upd (upd (upd (upd (upd (upd (upd (upd (upd (upd (upd (upd (upd (upd (upd (upd e 11 (sI x11)) 7 (sP x7)) 0 (sI x0)) 98 (sP x7)) 99 (sI i3)) 100 (sI x0)) 101 (sB (decide (i3 > x0)))) 102 (sB false)) 103 (sI x11)) 104 (sP x7)) 105 (sI i6)) 106 (sB ((x11 != i6)))) 107 (sB ((x11 != i6)))) 108 (sB true)) 109 sU) 110 sU) 111 sU) 112 sU) 113 sU) 114 sU) 115 (sB true)) 116 (sB true)) 117 sU) 118 sU) 119 sU) 120 sU) 121 sU) 122 sU) 123 sU) 124 sU) 125 (sB true)) V0 h5) (CF Try.prog 60 [(.pointer x7)] h5 fun u7 h8 => (slcV u7 fun a9 n10 c11 => (CF Try.prog 27 [(.pointer x7)] h8 fun u12 h13 => (intV u12 .i64 fun i14 => (ite2 (decide (((n10 : Nat) : Int) > i14)) (K (upd (upd (upd (upd (upd (upd (upd (upd (upd (upd (upd (upd (upd (upd (upd (upd (upd (upd (upd (upd (upd (upd (upd (upd (upd (upd (upd (upd (upd (upd (upd e 11 (sI x11)) 7 (sP x7)) 0 (sI x0)) 98 (sP x7)) 99 (sI i3)) 100 (sI x0)) 101 (sB (decide (i3 > x0)))) 102 (sB false)) 103 (sI x11)) 104 (sP x7)) 105 (sI i6)) 106 (sB ((x11 != i6)))) 107 (sB ((x11 != i6)))) 108 (sB false)) 109 (sP x7)) 110 (sS a9 n10 c11)) 111 (sI ((n10 : Nat)))) 112 (sP x7)) 113 (sI i14)) 114 (sB ((decide (((n10 : Nat) : Int) > i14))))) 115 (sB ((decide (((n10 : Nat) : Int) > i14))))) 116 (sB true)) 117 sU) 118 sU) 119 sU) 120 sU) 121 sU) 122 sU) 123 sU) 124 sU) 125 (sB true)) V0 h13) (CF Try.prog 27 [(.pointer x7)] h13 fun u15 h16 => (intV u15 .i64 fun i17 => (CF Try.prog 60 [(.pointer x7)] h16 fun u18 h19 => (slcV u18 fun a20 n21 c22 => (K (upd (upd (upd (upd (upd (upd (upd (upd (upd (upd (upd (upd (upd (upd (upd (upd (upd (upd (upd (upd (upd (upd (upd (upd (upd (upd (upd (upd (upd (upd (upd e 11 (sI x11)) 7 (sP x7)) 0 (sI x0)) 98 (sP x7)) 99 (sI i3)) 100 (sI x0)) 101 (sB (decide (i3 > x0)))) 102 (sB false)) 103 (sI x11)) 104 (sP x7)) 105 (sI i6)) 106 (sB ((x11 != i6)))) 107 (sB ((x11 != i6)))) 108 (sB false)) 109 (sP x7)) 110 (sS a9 n10 c11)) 111 (sI ((n10 : Nat)))) 112 (sP x7)) 113 (sI i14)) 114 (sB ((decide (((n10 : Nat) : Int) > i14))))) 115 (sB ((decide (((n10 : Nat) : Int) > i14))))) 116 (sB false)) 117 (sP x7)) 118 (sI i17)) 119 (sB (decide (i17 > 0)))) 120 (sP x7)) 121 (sS a20 n21 c22)) 122 (sI ((n21 : Nat)))) 123 (sB ((decide (((n21 : Nat) : Int) > 0))))) 124 (sB ((!((decide (i17 > 0)) == (decide (((n21 : Nat) : Int) > 0))))))) 125 (sB ((!((decide (i17 > 0)) == (decide (((n21 : Nat) : Int) > 0))))))) V0 h19)))))))))))))))) := by kernel_rfl
def F18_j10 (x0 : Int) (x1 : Int) (x2a : Option Addr) (x2n : Nat) (x2c : Nat) (x7 : Option Addr) (x9 : Option Nat) (x10 : Int) (x11 : Int) (hp : HP) (I7 : (Int) → HP → Prop) (K : Value → HP → Prop) : Prop :=
  (CF Try.prog 27 [(.pointer x7)] hp fun u_35 h_36 => (intV u_35 .i64 fun i_37 => (ite2 (decide (i_37 > x0)) (F18_j11 x0 x1 x2a x2n x2c x7 x9 x10 true h_36 I7 K) (CF Try.prog 27 [(.pointer x7)] h_36 fun u_38 h_39 => (intV u_38 .i64 fun i_40 => (ite2 (x11 != i_40) (F18_j11 x0 x1 x2a x2n x2c x7 x9 x10 true h_39 I7 K) (CF Try.prog 60 [(.pointer x7)] h_39 fun u_41 h_42 => (slcV u_41 fun a_43 n_44 c_45 => (CF Try.prog 27 [(.pointer x7)] h_42 fun u_46 h_47 => (intV u_46 .i64 fun i_48 => (ite2 (decide (((n_44 : Nat) : Int) > i_48)) (F18_j11 x0 x1 x2a x2n x2c x7 x9 x10 true h_47 I7 K) (CF Try.prog 27 [(.pointer x7)] h_47 fun u_49 h_50 => (intV u_49 .i64 fun i_51 => (CF Try.prog 60 [(.pointer x7)] h_50 fun u_52 h_53 => (slcV u_52 fun a_54 n_55 c_56 => (F18_j11 x0 x1 x2a x2n x2c x7 x9 x10 (!((decide (i_51 > 0)) == (decide (((n_55 : Nat) : Int) > 0)))) h_53 I7 K))))))))))))))))
theorem F18_r19 : R18 [1, 1, 1, 1, 1, 0, 1, 0, 0, 1, 0, 0, 1, 1, 1, 0, 1, 0, 0, 0] 2 (upd e 83 (sV x83)) V0 hp K =
    (opS Try.prog (Instr.next x83 false 0) hp fun u1 h2 => (tupI u1 0 fun v3 => (boolV v3 fun q4 => (K (upd (upd (upd e 83 (sV x83)) 84 (sV u1)) 85 (sB q4)) V0 h2)))) := by kernel_rfl
theorem F18_r20 : R18 [1, 1, 1, 1, 1, 0, 1, 0, 0, 1, 0, 0, 1, 1, 1, 0, 1, 0, 0, 1, 1, 0, 0] 3 (upd e 83 (sV x83)) V0 hp K =
    (rdS Try.prog (Instr.entry x83) hp fun u1 => (tupI u1 0 fun v2 => (strV v2 fun s3 => (K (upd (upd (upd (upd e 83 (sV x83)) 86 (sV u1)) 87 (sV (.string s3))) 12 (sV (.string s3))) V0 hp)))) := by kernel_rfl
theorem F18_r21 : R18 [1, 1, 1, 1, 1, 0, 1, 0, 0, 1, 0, 0, 1, 1, 1, 0, 1, 0, 0, 1, 1, 0, 1, 0, 0] 5 (upd (upd (upd e 12 (sV (.string x12))) 7 (sP x7)) 1 (sI x1)) V0 hp K =
    (CF Try.prog 70 [(.pointer x7), (.string x12)] hp fun u1 h2 => (intV u1 .i64 fun i3 => (K (upd (upd (upd (upd (upd (upd (upd (upd e 12 (sV (.string x12))) 7 (sP x7)) 1 (sI x1)) 88 (sP x7)) 89 (sV (.string x12))) 90 (sI i3)) 91 (sI x1)) 92 (sB (decide (i3 > x1)))) V0 h2))) := by kernel_rfl
theorem F18_r22 : R18 [1, 1, 1, 1, 1, 0, 1, 0, 0, 1, 0, 0, 1, 1, 1, 0, 1, 0, 0, 1, 1, 0, 1, 0, 1, 0, 0] 1 e V0 hp K =
    (K (upd e 6 (sB false)) V0 hp) := by kernel_rfl
theorem F18_r23 : R18 [1, 1, 1, 1, 1, 0, 1, 0, 0, 1, 0, 0, 1, 1, 1, 0, 1, 0, 0, 1, 1, 0, 1, 1] 6 (upd (upd (upd e 12 (sV (.string x12))) 11 (sI x11)) 7 (sP x7)) V0 hp K =
    (CF Try.prog 70 [(.pointer x7), (.string x12)] hp fun u1 h2 => (intV u1 .i64 fun i3 => (K (upd (upd (upd (upd (upd (upd (upd (upd (upd e 12 (sV (.string x12))) 11 (sI x11)) 7 (sP x7)) 93 (sI x11)) 94 (sP x7)) 95 (sV (.string x12))) 96 (sI i3)) 97 (sI ((wr (x11 + i3))))) 11 (sI ((wr (x11 + i3))))) V0 h2))) := by kernel_rfl
def F18_l13 (x0 : Int) (x1 : Int) (x2a : Option Addr) (x2n : Nat) (x2c : Nat) (x7 : Option Addr) (x9 : Option Nat) (x10 : Int) (x83 : Value) (I7 : (Int) → HP → Prop) (K : Value → HP → Prop) (I13 : (Int) → HP → Prop) (x11 : Int) (hp : HP) : Prop :=
  (opS Try.prog (Instr.next x83 false 0) hp fun u_57 h_58 => (tupI u_57 0 fun v_59 => (boolV v_59 fun q_60 => (ite2 q_60 (rdS Try.prog (Instr.entry x83) h_58 fun u_61 => (tupI u_61 0 fun v_62 => (strV v_62 fun s_63 => (CF Try.prog 70 [(.pointer x7), (.string s_63)] h_58 fun u_64 h_65 => (intV u_64 .i64 fun i_66 => (ite2 (decide (i_66 > x1)) (K (.bool false) h_65) (CF Try.prog 70 [(.pointer x7), (.string s_63)] h_65 fun u_67 h_68 => (intV u_67 .i64 fun i_69 => (I13 (IntKind.wrap .i64 (x11 + i_69)) h_68))))))))) (F18_j10 x0 x1 x2a x2n x2c x7 x9 x10 x11 h_58 I7 K)))))
def F18_j12 (x0 : Int) (x1 : Int) (x2a : Option Addr) (x2n : Nat) (x2c : Nat) (x7 : Option Addr) (x9 : Option Nat) (x10 : Int) (x11 : Int) (x83 : Value) (hp : HP) (I7 : (Int) → HP → Prop) (K : Value → HP → Prop) : Prop :=
  (LoopP (σ := Int) (fun I s hp => F18_l13 x0 x1 x2a x2n x2c x7 x9 x10 x83 I7 K I s hp) x11 hp)
theorem F18_r24 : R18 [1, 1, 1, 1, 1, 0, 1, 0, 0, 1, 0, 0, 1, 1, 1, 0, 0] 2 (upd e 9 (sV (.map x9))) V0 hp K =
    (opS Try.prog (Instr.range 97 (.map x9)) hp fun u1 h2 => (K (upd (upd (upd e 9 (sV (.map x9))) 82 (sV (.map x9))) 83 (sV u1)) V0 h2)) := by kernel_rfl
def F18_j9 (x0 : Int) (x1 : Int) (x2a : Option Addr) (x2n : Nat) (x2c : Nat) (x7 : Option Addr) (x9 : Option Nat) (x10 : Int) (hp : HP) (I7 : (Int) → HP → Prop) (K : Value → HP → Prop) : Prop :=
  (opS Try.prog (Instr.range 97 (.map x9)) hp fun u_70 h_71 => (F18_j12 x0 x1 x2a x2n x2c x7 x9 x10 0 u_70 h_71 I7 K))
theorem F18_r25 : R18 [1, 1, 1, 1, 1, 0, 1, 0, 0, 1, 0, 0, 1, 0, 0] 6 (upd (upd e 10 (sI x10)) 2 (sS x2a x2n x2c)) V0 hp K =
    ((0 ≤ x10) ∧ (x10 < x2n) ∧ (ptrN x2a fun b1 o2 => (ldV (HP.cell hp b1 ((o2 + Int.toNat x10 * 8) + 0)) fun v3 => (intV v3 .u8 fun i4 => (K (upd (upd (upd (upd (upd (upd (upd (upd e 10 (sI x10)) 2 (sS x2a x2n x2c)) 57 (sS x2a x2n x2c)) 58 (sI x10)) 59 (sQ b1 (o2 + Int.toNat x10 * 8))) 60 (sQ b1 ((o2 + Int.toNat x10 * 8) + 0))) 61 (sV (.int .u8 i4))) 62 (sB ((i4 == 0)))) V0 hp))))) := by kernel_rfl
theorem F18_r26 : R18 [1, 1, 1, 1, 1, 0, 1, 0, 0, 1, 0, 0, 1, 0, 1, 0] 7 (upd (upd (upd e 10 (sI x10)) 7 (sP x7)) 2 (sS x2a x2n x2c)) V0 hp K =
    ((0 ≤ x10) ∧ (x10 < x2n) ∧ (ptrN x2a fun b1 o2 => (ldV (HP.cell hp b1 ((o2 + Int.toNat x10 * 8) + 7)) fun v3 => (intV v3 .i64 fun i4 => (CF Try.prog 62 [(.pointer x7), (.int .i64 i4)] hp fun u5 h6 => (slcV u5 fun a7 n8 c9 => (K (upd (upd (upd (upd (upd (upd (upd (upd (upd (upd e 10 (sI x10)) 7 (sP x7)) 2 (sS x2a x2n x2c)) 63 (sP x7)) 64 (sS x2a x2n x2c)) 65 (sI x10)) 66 (sQ b1 (o2 + Int.toNat x10 * 8))) 67 (sQ b1 ((o2 + Int.toNat x10 * 8) + 7))) 68 (sI i4)) 69 (sS a7 n8 c9)) V0 h6))))))) := by kernel_rfl
theorem F18_r27 : R18 [1, 1, 1, 1, 1, 0, 1, 0, 0, 1, 0, 0, 1, 0, 1, 1] 12 (upd (upd (upd e 10 (sI x10)) 7 (sP x7)) 2 (sS x2a x2n x2c)) V0 hp K =
    ((0 ≤ x10) ∧ (x10 < x2n) ∧ (ptrN x2a fun b1 o2 => (ldL (HP.cellN hp b1 ((o2 + Int.toNat x10 * 8) + 1) 6) fun l3 => ((0 ≤ x10) ∧ (x10 < x2n) ∧ (ptrN x2a fun b4 o5 => (ldV (HP.cell hp b4 ((o5 + Int.toNat x10 * 8) + 7)) fun v6 => (intV v6 .i64 fun i7 => (CF Try.prog 26 [(.pointer x7), (.agg ⟨l3⟩), (.int .i64 i7)] hp fun u8 h9 => (tup3V u8 fun u10 u11 u12 => (aggV u10 fun l13 => (boolV u11 fun q14 => (intV u12 .i64 fun i15 => (K (upd (upd (upd (upd (upd (upd (upd (upd (upd (upd (upd (upd (upd (upd (upd e 10 (sI x10)) 7 (sP x7)) 2 (sS x2a x2n x2c)) 70 (sP x7)) 71 (sS x2a x2n x2c)) 72 (sI x10)) 73 (sQ b1 (o2 + Int.toNat x10 * 8))) 74 (sQ b1 ((o2 + Int.toNat x10 * 8) + 1))) 75 (sA l3)) 76 (sS x2a x2n x2c)) 77 (sI x10)) 78 (sQ b4 (o5 + Int.toNat x10 * 8))) 79 (sQ b4 ((o5 + Int.toNat x10 * 8) + 7))) 80 (sI i7)) 81 (sV (.tuple ⟨[(.agg ⟨l13⟩), (.bool q14), (.int .i64 i15)]⟩))) V0 h9))))))))))))) := by kernel_rfl
def F18_l7 (x0 : Int) (x1 : Int) (x2a : Option Addr) (x2n : Nat) (x2c : Nat) (x7 : Option Addr) (x9 : Option Nat) (K : Value → HP → Prop) (I7 : (Int) → HP → Prop) (x10 : Int) (hp : HP) : Prop :=
  (ite2 (decide (x10 < x2n)) ((0 ≤ x10) ∧ (x10 < x2n) ∧ (ptrN x2a fun b_29 o_30 => (ldV (HP.cell hp b_29 (((o_30 + Int.toNat x10 * 8) + 1) + 1)) fun v_31 => (strV v_31 fun s_32 => (opS Try.prog (Instr.mapUpdate 97 (.map x9) (.string s_32) (.int .i64 1)) hp fun u_33 h_34 => ((0 ≤ x10) ∧ (x10 < x2n) ∧ (ptrN x2a fun b_72 o_73 => (ldV (HP.cell h_34 b_72 ((o_73 + Int.toNat x10 * 8) + 0)) fun v_74 => (intV v_74 .u8 fun i_75 => (ite2 (i_75 == 0) ((0 ≤ x10) ∧ (x10 < x2n) ∧ (ptrN x2a fun b_76 o_77 => (ldV (HP.cell h_34 b_76 ((o_77 + Int.toNat x10 * 8) + 7)) fun v_78 => (intV v_78 .i64 fun i_79 => (CF Try.prog 62 [(.pointer x7), (.int .i64 i_79)] h_34 fun u_80 h_81 => (slcV u_80 fun a_82 n_83 c_84 => (F18_j9 x0 x1 x2a x2n x2c x7 x9 x10 h_81 I7 K))))))) ((0 ≤ x10) ∧ (x10 < x2n) ∧ (ptrN x2a fun b_85 o_86 => (ldL (HP.cellN h_34 b_85 ((o_86 + Int.toNat x10 * 8) + 1) 6) fun l_87 => ((0 ≤ x10) ∧ (x10 < x2n) ∧ (ptrN x2a fun b_88 o_89 => (ldV (HP.cell h_34 b_88 ((o_89 + Int.toNat x10 * 8) + 7)) fun v_90 => (intV v_90 .i64 fun i_91 => (CF Try.prog 26 [(.pointer x7), (.agg ⟨l_87⟩), (.int .i64 i_91)] h_34 fun u_92 h_93 => (tup3V u_92 fun u_94 u_95 u_96 => (aggV u_94 fun l_97 => (boolV u_95 fun q_98 => (intV u_96 .i64 fun i_99 => (F18_j9 x0 x1 x2a x2n x2c x7 x9 x10 h_93 I7 K))))))))))))))))))))))) (F18_j2 x7 hp  K))
def F18_j6 (x0 : Int) (x1 : Int) (x2a : Option Addr) (x2n : Nat) (x2c : Nat) (x7 : Option Addr) (x9 : Option Nat) (x10 : Int) (hp : HP) (K : Value → HP → Prop) : Prop :=
  (LoopP (σ := Int) (fun I s hp => F18_l7 x0 x1 x2a x2n x2c x7 x9  K I s hp) x10 hp)
theorem F18_r28 : R18 [1, 1, 1, 1, 1, 0, 0] 1 e V0 hp K =
    (K (upd e 10 (sI 0)) V0 hp) := by kernel_rfl
def F18_j1 (x0 : Int) (x1 : Int) (x2a : Option Addr) (x2n : Nat) (x2c : Nat) (x33 : Bool) (hp : HP) (K : Value → HP → Prop) : Prop :=
  (ite2 x33 (CF Try.prog 22 [] hp fun u_1 h_2 => (boolV u_1 fun q_3 => (K (.bool q_3) h_2))) (CF Try.prog 25 [(.int .i64 x0), (.int .i64 x1)] hp fun u_4 h_5 => (tup2V u_4 fun u_6 u_7 => (ptrV u_6 fun p_8 => (intV u_7 .i64 fun i_9 => (ite2 (i_9 != 0) (K (.bool false) h_5) (∀ b_10 : Nat, h_5 b_10 = .none → (F18_j6 x0 x1 x2a x2n x2c p_8 (some b_10) 0 (HP.set h_5 b_10 (.obj (.map #[] 0)))  K))))))))
theorem F18_r29 : R18 [1, 0, 0] 18 (upd (upd (upd e 2 (sS x2a x2n x2c)) 1 (sI x1)) 0 (sI x0)) V0 hp K =
    (CF Try.prog 61 [(.slice x2a x2n x2c)] hp fun u1 h2 => (boolV u1 fun q3 => (ite2 q3 (K (upd (upd (upd (upd (upd (upd (upd (upd (upd (upd (upd (upd (upd (upd (upd (upd (upd (upd (upd (upd (upd e 2 (sS x2a x2n x2c)) 1 (sI x1)) 0 (sI x0)) 16 (sS x2a x2n x2c)) 17 (sB q3)) 18 (sB true)) 19 sU) 20 sU) 21 (sB true)) 22 (sB true)) 23 sU) 24 sU) 25 (sB true)) 26 (sB true)) 27 sU) 28 sU) 29 (sB true)) 30 (sB true)) 31 sU) 32 sU) 33 (sB true)) V0 h2) (ite2 (decide (x0 < 1)) (K (upd (upd (upd (upd (upd (upd (upd (upd (upd (upd (upd (upd (upd (upd (upd (upd (upd (upd (upd (upd (upd e 2 (sS x2a x2n x2c)) 1 (sI x1)) 0 (sI x0)) 16 (sS x2a x2n x2c)) 17 (sB q3)) 18 (sB false)) 19 (sI x0)) 20 (sB (decide (x0 < 1)))) 21 (sB (decide (x0 < 1)))) 22 (sB true)) 23 sU) 24 sU) 25 (sB true)) 26 (sB true)) 27 sU) 28 sU) 29 (sB true)) 30 (sB true)) 31 sU) 32 sU) 33 (sB true)) V0 h2) (ite2 (decide (x0 > 100)) (K (upd (upd (upd (upd (upd (upd (upd (upd (upd (upd (upd (upd (upd (upd (upd (upd (upd (upd (upd (upd (upd e 2 (sS x2a x2n x2c)) 1 (sI x1)) 0 (sI x0)) 16 (sS x2a x2n x2c)) 17 (sB q3)) 18 (sB false)) 19 (sI x0)) 20 (sB (decide (x0 < 1)))) 21 (sB (decide (x0 < 1)))) 22 (sB false)) 23 (sI x0)) 24 (sB (decide (x0 > 100)))) 25 (sB (decide (x0 > 100)))) 26 (sB true)) 27 sU) 28 sU) 29 (sB true)) 30 (sB true)) 31 sU) 32 sU) 33 (sB true)) V0 h2) (ite2 (decide (x1 < 1)) (K (upd (upd (upd (upd (upd (upd (upd (upd (upd (upd (upd (upd (upd (upd (upd (upd (upd (upd (upd (upd (upd e 2 (sS x2a x2n x2c)) 1 (sI x1)) 0 (sI x0)) 16 (sS x2a x2n x2c)) 17 (sB q3)) 18 (sB false)) 19 (sI x0)) 20 (sB (decide (x0 < 1)))) 21 (sB (decide (x0 < 1)))) 22 (sB false)) 23 (sI x0)) 24 (sB (decide (x0 > 100)))) 25 (sB (decide (x0 > 100)))) 26 (sB false)) 27 (sI x1)) 28 (sB (decide (x1 < 1)))) 29 (sB (decide (x1 < 1)))) 30 (sB true)) 31 sU) 32 sU) 33 (sB true)) V0 h2) (K (upd (upd (upd (upd (upd (upd (upd (upd (upd (upd (upd (upd (upd (upd (upd (upd (upd (upd (upd (upd (upd e 2 (sS x2a x2n x2c)) 1 (sI x1)) 0 (sI x0)) 16 (sS x2a x2n x2c)) 17 (sB q3)) 18 (sB false)) 19 (sI x0)) 20 (sB (decide (x0 < 1)))) 21 (sB (decide (x0 < 1)))) 22 (sB false)) 23 (sI x0)) 24 (sB (decide (x0 > 100)))) 25 (sB (decide (x0 > 100)))) 26 (sB false)) 27 (sI x1)) 28 (sB (decide (x1 < 1)))) 29 (sB (decide (x1 < 1)))) 30 (sB false)) 31 (sI x1)) 32 (sB (decide (x1 > 100)))) 33 (sB (decide (x1 > 100)))) V0 h2))))))) := by kernel_rfl
def F18 (x0 : Int) (x1 : Int) (x2a : Option Addr) (x2n : Nat) (x2c : Nat) (hp : HP) (K : Value → HP → Prop) : Prop :=
  (CF Try.prog 61 [(.slice x2a x2n x2c)] hp fun u_100 h_101 => (boolV u_100 fun q_102 => (ite2 q_102 (F18_j1 x0 x1 x2a x2n x2c true h_101  K) (ite2 (decide (x0 < 1)) (F18_j1 x0 x1 x2a x2n x2c true h_101  K) (ite2 (decide (x0 > 100)) (F18_j1 x0 x1 x2a x2n x2c true h_101  K) (ite2 (decide (x1 < 1)) (F18_j1 x0 x1 x2a x2n x2c true h_101  K) (F18_j1 x0 x1 x2a x2n x2c (decide (x1 > 100)) h_101  K)))))))
noncomputable def F18_code : Code := (.seq (.region 0 (opsAt Try.f18 [0]) false) (.seq (.seq (.region 1 (opsAt Try.f18 [1, 0, 0]) false) (.cond (.tmp 33) (.seq (.region 2 (opsAt Try.f18 [1, 0, 1, 0, 0]) false) .ret) .skip)) (.seq (.region 3 (opsAt Try.f18 [1, 1, 0]) false) (.seq (.seq (.region 4 (opsAt Try.f18 [1, 1, 1, 0, 0]) false) (.cond (.tmp 42) (.seq (.region 5 (opsAt Try.f18 [1, 1, 1, 0, 1, 0, 0]) false) .ret) .skip)) (.seq (.region 6 (opsAt Try.f18 [1, 1, 1, 1, 0]) false) (.seq (.seq (.region 7 (opsAt Try.f18 [1, 1, 1, 1, 1, 0, 0]) false) (.block 0 (.loop (.seq (.seq (.region 8 (opsAt Try.f18 [1, 1, 1, 1, 1, 0, 1, 0, 0, 0, 0]) false) (.cond (.tmp 47) .skip (.exit 0))) (.seq (.block 1 (.seq (.region 10 (opsAt Try.f18 [1, 1, 1, 1, 1, 0, 1, 0, 0, 1, 0, 0, 0]) false) (.seq (.seq (.region 11 (opsAt Try.f18 [1, 1, 1, 1, 1, 0, 1, 0, 0, 1, 0, 0, 1, 0, 0]) false) (.cond (.tmp 62) (.region 12 (opsAt Try.f18 [1, 1, 1, 1, 1, 0, 1, 0, 0, 1, 0, 0, 1, 0, 1, 0]) false) (.region 13 (opsAt Try.f18 [1, 1, 1, 1, 1, 0, 1, 0, 0, 1, 0, 0, 1, 0, 1, 1]) true))) (.seq (.region 14 (opsAt Try.f18 [1, 1, 1, 1, 1, 0, 1, 0, 0, 1, 0, 0, 1, 1, 0]) false) (.seq (.seq (.region 15 (opsAt Try.f18 [1, 1, 1, 1, 1, 0, 1, 0, 0, 1, 0, 0, 1, 1, 1, 0, 0]) false) (.block 2 (.loop (.seq (.region 16 (opsAt Try.f18 [1, 1, 1, 1, 1, 0, 1, 0, 0, 1, 0, 0, 1, 1, 1, 0, 1, 0, 0, 0]) false) (.seq (.cond (.tmp 85) .skip (.exit 2)) (.block 3 (.seq (.region 17 (opsAt Try.f18 [1, 1, 1, 1, 1, 0, 1, 0, 0, 1, 0, 0, 1, 1, 1, 0, 1, 0, 0, 1, 1, 0, 0]) false) (.seq (.seq (.region 18 (opsAt Try.f18 [1, 1, 1, 1, 1, 0, 1, 0, 0, 1, 0, 0, 1, 1, 1, 0, 1, 0, 0, 1, 1, 0, 1, 0, 0]) false) (.cond (.tmp 92) (.seq (.region 19 (opsAt Try.f18 [1, 1, 1, 1, 1, 0, 1, 0, 0, 1, 0, 0, 1, 1, 1, 0, 1, 0, 0, 1, 1, 0, 1, 0, 1, 0, 0]) false) .ret) .skip)) (.region 20 (opsAt Try.f18 [1, 1, 1, 1, 1, 0, 1, 0, 0, 1, 0, 0, 1, 1, 1, 0, 1, 0, 0, 1, 1, 0, 1, 1]) false))))))))) (.seq (.region 21 (opsAt Try.f18 [1, 1, 1, 1, 1, 0, 1, 0, 0, 1, 0, 0, 1, 1, 1, 1, 0]) false) (.cond (.tmp 125) (.seq (.region 22 (opsAt Try.f18 [1, 1, 1, 1, 1, 0, 1, 0, 0, 1, 0, 0, 1, 1, 1, 1, 1, 0, 0]) false) .ret) .skip))))))) (.region 9 (opsAt Try.f18 [1, 1, 1, 1, 1, 0, 1, 0, 0, 1, 1]) false)))))) (.seq (.region 23 (opsAt Try.f18 [1, 1, 1, 1, 1, 1, 0]) false) (.seq (.region 24 (opsAt Try.f18 [1, 1, 1, 1, 1, 1, 1, 0]) false) (.seq (.seq (.region 25 (opsAt Try.f18 [1, 1, 1, 1, 1, 1, 1, 1, 0, 0]) false) (.block 4 (.loop (.seq (.seq (.region 26 (opsAt Try.f18 [1, 1, 1, 1, 1, 1, 1, 1, 0, 1, 0, 0, 0, 0]) false) (.cond (.tmp 133) .skip (.exit 4))) (.seq (.block 5 (.region 28 (opsAt Try.f18 [1, 1, 1, 1, 1, 1, 1, 1, 0, 1, 0, 0, 1, 0, 0]) false)) (.region 27 (opsAt Try.f18 [1, 1, 1, 1, 1, 1, 1, 1, 0, 1, 0, 0, 1, 1]) false)))))) (.seq (.region 29 (opsAt Try.f18 [1, 1, 1, 1, 1, 1, 1, 1, 1, 0]) false) .ret))))))))))
theorem F18_body : Try.f18.body = some F18_code := by kernel_rfl
theorem F18_ok (x0 : Int) (x1 : Int) (x2a : Option Addr) (x2n : Nat) (x2c : Nat) (hp : HP) (K : Value → HP → Prop) (h : F18 x0 x1 x2a x2n x2c hp K) : CF Try.prog 18 [(.int .i64 x0), (.int .i64 x1), (.slice x2a x2n x2c)] hp K := by
 refine .inl ⟨by kernel_rfl, AC.intro (N := 153) Try.func18 F18_body rfl (Nat.le_of_ble_eq_true rfl) ?_⟩
 unfold F18 at h
 unfold F18_code
 refine AWP.seq' ?_
 refine AWP.rgn (F18_r0 (upd (upd (upd E0 2 (sS x2a x2n x2c)) 1 (sI x1)) 0 (sI x0))  hp _) ?_ (Ru 0 (Ru 1 (Ru 2 Rn))) (Sc rfl (Sc rfl (Sc rfl Sn))) Sn
 refine AWP.seq' ?_
 refine AWP.seq (fun env pv hp => ∃ (x0 : Int) (x1 : Int) (x2a : Option Addr) (x2n : Nat) (x2c : Nat) (x33 : Bool), Sub (upd (upd (upd (upd E0 33 (sB x33)) 2 (sS x2a x2n x2c)) 1 (sI x1)) 0 (sI x0)) env ∧ Sub V0 pv ∧ (F18_j1 x0 x1 x2a x2n x2c x33 hp  K)) ?_ ?_
 ·refine AWP.rgn (F18_r29 E0 x0 x1 x2a x2n x2c hp _) ?_ (Ru 0 (Ru 1 (Ru 2 Rn))) (Sc rfl (Sc rfl (Sc rfl Sn))) Sn
  refine mC h fun u_100 h_101 h => mB h fun q_102 h => ?_
  refine mt h (fun h => ?_) (fun h => ?_)
  ·exact ⟨x0, x1, x2a, x2n, x2c, true, (Sc rfl (Sc rfl (Sc rfl (Sc rfl Sn)))), Sn, h⟩
  ·refine mt h (fun h => ?_) (fun h => ?_)
   ·exact ⟨x0, x1, x2a, x2n, x2c, true, (Sc rfl (Sc rfl (Sc rfl (Sc rfl Sn)))), Sn, h⟩
   ·refine mt h (fun h => ?_) (fun h => ?_)
    ·exact ⟨x0, x1, x2a, x2n, x2c, true, (Sc rfl (Sc rfl (Sc rfl (Sc rfl Sn)))), Sn, h⟩
    ·refine mt h (fun h => ?_) (fun h => ?_)
     ·exact ⟨x0, x1, x2a, x2n, x2c, true, (Sc rfl (Sc rfl (Sc rfl (Sc rfl Sn)))), Sn, h⟩
     ·exact ⟨x0, x1, x2a, x2n, x2c, (decide (x1 > 100)), (Sc rfl (Sc rfl (Sc rfl (Sc rfl Sn)))), Sn, h⟩
 ·rintro env pv hp ⟨x0, x1, x2a, x2n, x2c, x33, he, hv, h⟩
  refine AWP.sub (env' := (upd (upd (upd (upd E0 33 (sB x33)) 2 (sS x2a x2n x2c)) 1 (sI x1)) 0 (sI x0))) (pv' := V0) ?_ (Ru 0 (Ru 1 (Ru 2 (Ru 33 Rn)))) he hv (HSub.refl _)
  clear he hv
  unfold F18_j1 at h
  refine AWP.cond (t := x33) rfl (fun e => ?_) (fun e => ?_)
  ·replace h := ite2_t h e
   refine AWP.seq' ?_
   refine AWP.rgn (F18_r1 E0  hp _) ?_ Rn Sn Sn
   refine mC h fun u_1 h_2 h => mB h fun q_3 h => ?_
   refine AWP.ret ?_
   exact h
  ·replace h := ite2_f h e
   refine AWP.skip ?_
   refine AWP.seq' ?_
   refine AWP.rgn (F18_r2 (upd E0 2 (sS x2a x2n x2c)) x0 x1 hp _) ?_ (Ru 0 (Ru 1 (Ru 2 Rn))) (Sc rfl (Sc rfl (Sc rfl Sn))) Sn
   refine mC h fun u_4 h_5 h => mT h fun u_6 u_7 h => mP h fun p_8 h => mI h fun i_9 h => ?_
   refine AWP.seq' ?_
   refine AWP.seq' ?_
   refine AWP.rgn (F18_r3 (upd (upd (upd (upd E0 7 (sP p_8)) 2 (sS x2a x2n x2c)) 1 (sI x1)) 0 (sI x0)) i_9 h_5 _) ?_ (Ru 8 (Ru 0 (Ru 1 (Ru 2 (Ru 7 Rn))))) (Sc rfl (Sc rfl (Sc rfl (Sc rfl (Sc rfl Sn))))) Sn
   refine AWP.cond (t := (i_9 != 0)) rfl (fun e => ?_) (fun e => ?_)
   ·replace h := ite2_t h e
    refine AWP.seq' ?_
    refine AWP.rgn (F18_r4 E0  h_5 _) ?_ Rn Sn Sn
    refine AWP.ret ?_
    exact h
   ·replace h := ite2_f h e
    refine AWP.skip ?_
    refine AWP.seq' ?_
    refine AWP.rgn (F18_r5 (upd (upd (upd (upd E0 7 (sP p_8)) 2 (sS x2a x2n x2c)) 1 (sI x1)) 0 (sI x0))  h_5 _) ?_ (Ru 0 (Ru 1 (Ru 2 (Ru 7 Rn)))) (Sc rfl (Sc rfl (Sc rfl (Sc rfl Sn)))) Sn
    refine fun b_10 hb_b_10 => ?_
    replace h := h b_10 hb_b_10
    refine AWP.seq (fun env pv hp => ∃ (x7 : Option Addr), Sub (upd E0 7 (sP x7)) env ∧ Sub V0 pv ∧ (F18_j2 x7 hp  K)) ?_ ?_
    ·refine AWP.seq (fun env pv hp => ∃ (x0 : Int) (x1 : Int) (x2a : Option Addr) (x2n : Nat) (x2c : Nat) (x7 : Option Addr) (x9 : Option Nat) (x10 : Int), Sub (upd (upd (upd (upd (upd (upd E0 10 (sI x10)) 9 (sV (.map x9))) 7 (sP x7)) 2 (sS x2a x2n x2c)) 1 (sI x1)) 0 (sI x0)) env ∧ Sub V0 pv ∧ (F18_j6 x0 x1 x2a x2n x2c x7 x9 x10 hp  K)) ?_ ?_
     ·refine AWP.rgn (F18_r28 (upd (upd (upd (upd (upd E0 9 (sV (.map (some b_10)))) 7 (sP p_8)) 2 (sS x2a x2n x2c)) 1 (sI x1)) 0 (sI x0))  (HP.set h_5 b_10 (.obj (.map #[] 0))) _) ?_ (Ru 0 (Ru 1 (Ru 2 (Ru 7 (Ru 9 Rn))))) (Sc rfl (Sc rfl (Sc rfl (Sc rfl (Sc rfl Sn))))) Sn
      exact ⟨x0, x1, x2a, x2n, x2c, p_8, (some b_10), 0, (Sc rfl (Sc rfl (Sc rfl (Sc rfl (Sc rfl (Sc rfl Sn)))))), Sn, h⟩
     ·rintro env pv hp ⟨x0, x1, x2a, x2n, x2c, x7, x9, x10, he, hv, h⟩
      refine AWP.sub (env' := (upd (upd (upd (upd (upd (upd E0 10 (sI x10)) 9 (sV (.map x9))) 7 (sP x7)) 2 (sS x2a x2n x2c)) 1 (sI x1)) 0 (sI x0))) (pv' := V0) ?_ (Ru 0 (Ru 1 (Ru 2 (Ru 7 (Ru 9 (Ru 10 Rn)))))) he hv (HSub.refl _)
      clear he hv
      unfold F18_j6 at h
      refine AWP.block ?_
      refine AWP.loop (σ := Int) (fun I s hp => F18_l7 x0 x1 x2a x2n x2c x7 x9  K I s hp) (fun s => (upd (upd (upd (upd (upd (upd E0 10 (sI s)) 9 (sV (.map x9))) 7 (sP x7)) 2 (sS x2a x2n x2c)) 1 (sI x1)) 0 (sI x0))) (fun s => V0) x10 h (fun s => (Ru 0 (Ru 1 (Ru 2 (Ru 7 (Ru 9 (Ru 10 Rn))))))) (Sc rfl (Sc rfl (Sc rfl (Sc rfl (Sc rfl (Sc rfl Sn)))))) Sn ?_
      intro I7 s hp h
      obtain ⟨x10, hs⟩ : ∃ x, x = s := ⟨s, rfl⟩
      subst hs
      replace h : F18_l7 x0 x1 x2a x2n x2c x7 x9  K I7 x10 hp := h
      unfold F18_l7 at h
      refine AWP.seq' ?_
      refine AWP.seq' ?_
      refine AWP.rgn (F18_r13 (upd (upd (upd (upd E0 9 (sV (.map x9))) 7 (sP x7)) 1 (sI x1)) 0 (sI x0)) x2a x2n x2c x10 hp _) ?_ (Ru 2 (Ru 10 (Ru 0 (Ru 1 (Ru 7 (Ru 9 Rn)))))) (Sc rfl (Sc rfl (Sc rfl (Sc rfl (Sc rfl (Sc rfl Sn)))))) Sn
      refine AWP.cond (t := (decide (x10 < x2n))) rfl (fun e => ?_) (fun e => ?_)
      ·replace h := ite2_t h e
       refine AWP.skip ?_
       refine AWP.seq (fun env pv hp => ∃ (x10 : Int), Sub (upd (upd (upd (upd (upd (upd E0 10 (sI x10)) 9 (sV (.map x9))) 7 (sP x7)) 2 (sS x2a x2n x2c)) 1 (sI x1)) 0 (sI x0)) env ∧ Sub V0 pv ∧ (F18_j8 x0 x1 x2a x2n x2c x7 x9 x10 hp I7 K)) ?_ ?_
       ·refine AWP.block ?_
        refine AWP.seq' ?_
        refine AWP.rgn (F18_r15 (upd (upd (upd E0 7 (sP x7)) 1 (sI x1)) 0 (sI x0)) x2a x2n x2c x9 x10 hp _) ?_ (Ru 2 (Ru 9 (Ru 10 (Ru 0 (Ru 1 (Ru 7 Rn)))))) (Sc rfl (Sc rfl (Sc rfl (Sc rfl (Sc rfl (Sc rfl Sn)))))) Sn
        refine ⟨h.1, h.2.1, mN h.2.2 fun b_29 o_30 h => mV h fun v_31 h => ms h fun s_32 h => mO h fun u_33 h_34 h => ?_⟩
        refine AWP.seq (fun env pv hp => ∃ (x10 : Int), Sub (upd (upd (upd (upd (upd (upd E0 10 (sI x10)) 9 (sV (.map x9))) 7 (sP x7)) 2 (sS x2a x2n x2c)) 1 (sI x1)) 0 (sI x0)) env ∧ Sub V0 pv ∧ (F18_j9 x0 x1 x2a x2n x2c x7 x9 x10 hp I7 K)) ?_ ?_
        ·refine AWP.seq' ?_
         refine AWP.rgn (F18_r25 (upd (upd (upd (upd E0 9 (sV (.map x9))) 7 (sP x7)) 1 (sI x1)) 0 (sI x0)) x2a x2n x2c x10 h_34 _) ?_ (Ru 2 (Ru 10 (Ru 0 (Ru 1 (Ru 7 (Ru 9 Rn)))))) (Sc rfl (Sc rfl (Sc rfl (Sc rfl (Sc rfl (Sc rfl Sn)))))) Sn
         refine ⟨h.1, h.2.1, mN h.2.2 fun b_72 o_73 h => mV h fun v_74 h => mI h fun i_75 h => ?_⟩
         refine AWP.cond (t := (i_75 == 0)) rfl (fun e => ?_) (fun e => ?_)
         ·replace h := ite2_t h e
          refine AWP.rgn (F18_r26 (upd (upd (upd E0 9 (sV (.map x9))) 1 (sI x1)) 0 (sI x0)) x2a x2n x2c x7 x10 h_34 _) ?_ (Ru 2 (Ru 7 (Ru 10 (Ru 0 (Ru 1 (Ru 9 Rn)))))) (Sc rfl (Sc rfl (Sc rfl (Sc rfl (Sc rfl (Sc rfl Sn)))))) Sn
          refine ⟨h.1, h.2.1, mN h.2.2 fun b_76 o_77 h => mV h fun v_78 h => mI h fun i_79 h => mC h fun u_80 h_81 h => mS h fun a_82 n_83 c_84 h => ?_⟩
          exact ⟨x10, (Sc rfl (Sc rfl (Sc rfl (Sc rfl (Sc rfl (Sc rfl Sn)))))), Sn, h⟩
         ·replace h := ite2_f h e
          refine AWP.rgnD (by kernel_rfl) (by kernel_rfl) (F18_r27 (upd (upd (upd E0 9 (sV (.map x9))) 1 (sI x1)) 0 (sI x0)) x2a x2n x2c x7 x10 h_34 _) ?_ (Ru 2 (Ru 7 (Ru 10 (Ru 0 (Ru 1 (Ru 9 Rn)))))) (Sc rfl (Sc rfl (Sc rfl (Sc rfl (Sc rfl (Sc rfl Sn)))))) Sn
          refine ⟨h.1, h.2.1, mN h.2.2 (fun b_85 o_86 h => mL h (fun l_87 h => ⟨h.1, h.2.1, mN h.2.2 fun b_88 o_89 h => mV h fun v_90 h => mI h fun i_91 h => mC h fun u_92 h_93 h => mU h fun u_94 u_95 u_96 h => mA h fun l_97 h => mB h fun q_98 h => mI h fun i_99 h => ?_⟩))⟩
          exact ⟨x10, (Sc rfl (Sc rfl (Sc rfl (Sc rfl (Sc rfl (Sc rfl Sn)))))), Sn, h⟩
        ·rintro env pv hp ⟨x10, he, hv, h⟩
         refine AWP.sub (env' := (upd (upd (upd (upd (upd (upd E0 10 (sI x10)) 9 (sV (.map x9))) 7 (sP x7)) 2 (sS x2a x2n x2c)) 1 (sI x1)) 0 (sI x0))) (pv' := V0) ?_ (Ru 0 (Ru 1 (Ru 2 (Ru 7 (Ru 9 (Ru 10 Rn)))))) he hv (HSub.refl _)
         clear he hv
         unfold F18_j9 at h
         refine AWP.seq' ?_
         refine AWP.rgn (F18_r16 (upd (upd (upd (upd (upd (upd E0 10 (sI x10)) 9 (sV (.map x9))) 7 (sP x7)) 2 (sS x2a x2n x2c)) 1 (sI x1)) 0 (sI x0))  hp _) ?_ (Ru 0 (Ru 1 (Ru 2 (Ru 7 (Ru 9 (Ru 10 Rn)))))) (Sc rfl (Sc rfl (Sc rfl (Sc rfl (Sc rfl (Sc rfl Sn)))))) Sn
         refine AWP.seq (fun env pv hp => ∃ (x10 : Int) (x11 : Int), Sub (upd (upd (upd (upd (upd (upd (upd E0 11 (sI x11)) 10 (sI x10)) 9 (sV (.map x9))) 7 (sP x7)) 2 (sS x2a x2n x2c)) 1 (sI x1)) 0 (sI x0)) env ∧ Sub V0 pv ∧ (F18_j10 x0 x1 x2a x2n x2c x7 x9 x10 x11 hp I7 K)) ?_ ?_
         ·refine AWP.seq (fun env pv hp => ∃ (x10 : Int) (x11 : Int) (x83 : Value), Sub (upd (upd (upd (upd (upd (upd (upd (upd E0 83 (sV x83)) 11 (sI x11)) 10 (sI x10)) 9 (sV (.map x9))) 7 (sP x7)) 2 (sS x2a x2n x2c)) 1 (sI x1)) 0 (sI x0)) env ∧ Sub V0 pv ∧ (F18_j12 x0 x1 x2a x2n x2c x7 x9 x10 x11 x83 hp I7 K)) ?_ ?_
          ·refine AWP.rgn (F18_r24 (upd (upd (upd (upd (upd (upd E0 11 (sI 0)) 10 (sI x10)) 7 (sP x7)) 2 (sS x2a x2n x2c)) 1 (sI x1)) 0 (sI x0)) x9 hp _) ?_ (Ru 9 (Ru 0 (Ru 1 (Ru 2 (Ru 7 (Ru 10 (Ru 11 Rn))))))) (Sc rfl (Sc rfl (Sc rfl (Sc rfl (Sc rfl (Sc rfl (Sc rfl Sn))))))) Sn
           refine mO h fun u_70 h_71 h => ?_
           exact ⟨x10, 0, u_70, (Sc rfl (Sc rfl (Sc rfl (Sc rfl (Sc rfl (Sc rfl (Sc rfl (Sc rfl Sn)))))))), Sn, h⟩
          ·rintro env pv hp ⟨x10, x11, x83, he, hv, h⟩
           refine AWP.sub (env' := (upd (upd (upd (upd (upd (upd (upd (upd E0 83 (sV x83)) 11 (sI x11)) 10 (sI x10)) 9 (sV (.map x9))) 7 (sP x7)) 2 (sS x2a x2n x2c)) 1 (sI x1)) 0 (sI x0))) (pv' := V0) ?_ (Ru 0 (Ru 1 (Ru 2 (Ru 7 (Ru 9 (Ru 10 (Ru 11 (Ru 83 Rn)))))))) he hv (HSub.refl _)
           clear he hv
           unfold F18_j12 at h
           refine AWP.block ?_
           refine AWP.loop (σ := Int) (fun I s hp => F18_l13 x0 x1 x2a x2n x2c x7 x9 x10 x83 I7 K I s hp) (fun s => (upd (upd (upd (upd (upd (upd (upd (upd E0 83 (sV x83)) 11 (sI s)) 10 (sI x10)) 9 (sV (.map x9))) 7 (sP x7)) 2 (sS x2a x2n x2c)) 1 (sI x1)) 0 (sI x0))) (fun s => V0) x11 h (fun s => (Ru 0 (Ru 1 (Ru 2 (Ru 7 (Ru 9 (Ru 10 (Ru 11 (Ru 83 Rn))))))))) (Sc rfl (Sc rfl (Sc rfl (Sc rfl (Sc rfl (Sc rfl (Sc rfl (Sc rfl Sn)))))))) Sn ?_
           intro I13 s hp h
           obtain ⟨x11, hs⟩ : ∃ x, x = s := ⟨s, rfl⟩
           subst hs
           replace h : F18_l13 x0 x1 x2a x2n x2c x7 x9 x10 x83 I7 K I13 x11 hp := h
           unfold F18_l13 at h
           refine AWP.seq' ?_
           refine AWP.rgn (F18_r19 (upd (upd (upd (upd (upd (upd (upd E0 11 (sI x11)) 10 (sI x10)) 9 (sV (.map x9))) 7 (sP x7)) 2 (sS x2a x2n x2c)) 1 (sI x1)) 0 (sI x0)) x83 hp _) ?_ (Ru 83 (Ru 0 (Ru 1 (Ru 2 (Ru 7 (Ru 9 (Ru 10 (Ru 11 Rn)))))))) (Sc rfl (Sc rfl (Sc rfl (Sc rfl (Sc rfl (Sc rfl (Sc rfl (Sc rfl Sn)))))))) Sn
           refine mO h fun u_57 h_58 h => tupI_mono h fun v_59 h => mB h fun q_60 h => ?_
           refine AWP.seq' ?_
           refine AWP.cond (t := q_60) rfl (fun e => ?_) (fun e => ?_)
           ·replace h := ite2_t h e
            refine AWP.skip ?_
            refine AWP.block ?_
            refine AWP.seq' ?_
            refine AWP.rgn (F18_r20 (upd (upd (upd (upd (upd (upd (upd E0 11 (sI x11)) 10 (sI x10)) 9 (sV (.map x9))) 7 (sP x7)) 2 (sS x2a x2n x2c)) 1 (sI x1)) 0 (sI x0)) x83 h_58 _) ?_ (Ru 83 (Ru 0 (Ru 1 (Ru 2 (Ru 7 (Ru 9 (Ru 10 (Ru 11 Rn)))))))) (Sc rfl (Sc rfl (Sc rfl (Sc rfl (Sc rfl (Sc rfl (Sc rfl (Sc rfl Sn)))))))) Sn
            refine mR h fun u_61 h => tupI_mono h fun v_62 h => ms h fun s_63 h => ?_
            refine AWP.seq' ?_
            refine AWP.seq' ?_
            refine AWP.rgn (F18_r21 (upd (upd (upd (upd (upd (upd E0 83 (sV x83)) 11 (sI x11)) 10 (sI x10)) 9 (sV (.map x9))) 2 (sS x2a x2n x2c)) 0 (sI x0)) x1 x7 s_63 h_58 _) ?_ (Ru 1 (Ru 7 (Ru 12 (Ru 0 (Ru 2 (Ru 9 (Ru 10 (Ru 11 (Ru 83 Rn))))))))) (Sc rfl (Sc rfl (Sc rfl (Sc rfl (Sc rfl (Sc rfl (Sc rfl (Sc rfl (Sc rfl Sn))))))))) Sn
            refine mC h fun u_64 h_65 h => mI h fun i_66 h => ?_
            refine AWP.cond (t := (decide (i_66 > x1))) rfl (fun e => ?_) (fun e => ?_)
            ·replace h := ite2_t h e
             refine AWP.seq' ?_
             refine AWP.rgn (F18_r22 E0  h_65 _) ?_ Rn Sn Sn
             refine AWP.ret ?_
             exact h
            ·replace h := ite2_f h e
             refine AWP.skip ?_
             refine AWP.rgn (F18_r23 (upd (upd (upd (upd (upd (upd E0 83 (sV x83)) 10 (sI x10)) 9 (sV (.map x9))) 2 (sS x2a x2n x2c)) 1 (sI x1)) 0 (sI x0)) x7 x11 s_63 h_65 _) ?_ (Ru 7 (Ru 11 (Ru 12 (Ru 0 (Ru 1 (Ru 2 (Ru 9 (Ru 10 (Ru 83 Rn))))))))) (Sc rfl (Sc rfl (Sc rfl (Sc rfl (Sc rfl (Sc rfl (Sc rfl (Sc rfl (Sc rfl Sn))))))))) Sn
             refine mC h fun u_67 h_68 h => mI h fun i_69 h => ?_
             exact ⟨(wr (x11 + i_69)), (Sc rfl (Sc rfl (Sc rfl (Sc rfl (Sc rfl (Sc rfl (Sc rfl (Sc rfl Sn)))))))), Sn, h⟩
           ·replace h := ite2_f h e
            refine AWP.exit ?_
            exact ⟨x10, x11, (Sc rfl (Sc rfl (Sc rfl (Sc rfl (Sc rfl (Sc rfl (Sc rfl Sn))))))), Sn, h⟩
         ·rintro env pv hp ⟨x10, x11, he, hv, h⟩
          refine AWP.sub (env' := (upd (upd (upd (upd (upd (upd (upd E0 11 (sI x11)) 10 (sI x10)) 9 (sV (.map x9))) 7 (sP x7)) 2 (sS x2a x2n x2c)) 1 (sI x1)) 0 (sI x0))) (pv' := V0) ?_ (Ru 0 (Ru 1 (Ru 2 (Ru 7 (Ru 9 (Ru 10 (Ru 11 Rn))))))) he hv (HSub.refl _)
          clear he hv
          unfold F18_j10 at h
          refine AWP.seq (fun env pv hp => ∃ (x10 : Int) (x125 : Bool), Sub (upd (upd (upd (upd (upd (upd (upd E0 125 (sB x125)) 10 (sI x10)) 9 (sV (.map x9))) 7 (sP x7)) 2 (sS x2a x2n x2c)) 1 (sI x1)) 0 (sI x0)) env ∧ Sub V0 pv ∧ (F18_j11 x0 x1 x2a x2n x2c x7 x9 x10 x125 hp I7 K)) ?_ ?_
          ·refine AWP.rgn (F18_r18 (upd (upd (upd (upd E0 10 (sI x10)) 9 (sV (.map x9))) 2 (sS x2a x2n x2c)) 1 (sI x1)) x0 x7 x11 hp _) ?_ (Ru 0 (Ru 7 (Ru 11 (Ru 1 (Ru 2 (Ru 9 (Ru 10 Rn))))))) (Sc rfl (Sc rfl (Sc rfl (Sc rfl (Sc rfl (Sc rfl (Sc rfl Sn))))))) Sn
           refine mC h fun u_35 h_36 h => mI h fun i_37 h => ?_
           refine mt h (fun h => ?_) (fun h => ?_)
           ·exact ⟨x10, true, (Sc rfl (Sc rfl (Sc rfl (Sc rfl (Sc rfl (Sc rfl (Sc rfl Sn))))))), Sn, h⟩
           ·refine mC h fun u_38 h_39 h => mI h fun i_40 h => ?_
            refine mt h (fun h => ?_) (fun h => ?_)
            ·exact ⟨x10, true, (Sc rfl (Sc rfl (Sc rfl (Sc rfl (Sc rfl (Sc rfl (Sc rfl Sn))))))), Sn, h⟩
            ·refine mC h fun u_41 h_42 h => mS h fun a_43 n_44 c_45 h => mC h fun u_46 h_47 h => mI h fun i_48 h => ?_
             refine mt h (fun h => ?_) (fun h => ?_)
             ·exact ⟨x10, true, (Sc rfl (Sc rfl (Sc rfl (Sc rfl (Sc rfl (Sc rfl (Sc rfl Sn))))))), Sn, h⟩
             ·refine mC h fun u_49 h_50 h => mI h fun i_51 h => mC h fun u_52 h_53 h => mS h fun a_54 n_55 c_56 h => ?_
              exact ⟨x10, (!((decide (i_51 > 0)) == (decide (((n_55 : Nat) : Int) > 0)))), (Sc rfl (Sc rfl (Sc rfl (Sc rfl (Sc rfl (Sc rfl (Sc rfl Sn))))))), Sn, h⟩
          ·rintro env pv hp ⟨x10, x125, he, hv, h⟩
           refine AWP.sub (env' := (upd (upd (upd (upd (upd (upd (upd E0 125 (sB x125)) 10 (sI x10)) 9 (sV (.map x9))) 7 (sP x7)) 2 (sS x2a x2n x2c)) 1 (sI x1)) 0 (sI x0))) (pv' := V0) ?_ (Ru 0 (Ru 1 (Ru 2 (Ru 7 (Ru 9 (Ru 10 (Ru 125 Rn))))))) he hv (HSub.refl _)
           clear he hv
           unfold F18_j11 at h
           refine AWP.cond (t := x125) rfl (fun e => ?_) (fun e => ?_)
           ·replace h := ite2_t h e
            refine AWP.seq' ?_
            refine AWP.rgn (F18_r17 E0  hp _) ?_ Rn Sn Sn
            refine AWP.ret ?_
            exact h
           ·replace h := ite2_f h e
            refine AWP.skip ?_
            exact ⟨x10, (Sc rfl (Sc rfl (Sc rfl (Sc rfl (Sc rfl (Sc rfl Sn)))))), Sn, h⟩
       ·rintro env pv hp ⟨x10, he, hv, h⟩
        refine AWP.sub (env' := (upd (upd (upd (upd (upd (upd E0 10 (sI x10)) 9 (sV (.map x9))) 7 (sP x7)) 2 (sS x2a x2n x2c)) 1 (sI x1)) 0 (sI x0))) (pv' := V0) ?_ (Ru 0 (Ru 1 (Ru 2 (Ru 7 (Ru 9 (Ru 10 Rn)))))) he hv (HSub.refl _)
        clear he hv
        unfold F18_j8 at h
        refine AWP.rgn (F18_r14 (upd (upd (upd (upd (upd E0 9 (sV (.map x9))) 7 (sP x7)) 2 (sS x2a x2n x2c)) 1 (sI x1)) 0 (sI x0)) x10 hp _) ?_ (Ru 10 (Ru 0 (Ru 1 (Ru 2 (Ru 7 (Ru 9 Rn)))))) (Sc rfl (Sc rfl (Sc rfl (Sc rfl (Sc rfl (Sc rfl Sn)))))) Sn
        exact ⟨(wr (x10 + 1)), (Sc rfl (Sc rfl (Sc rfl (Sc rfl (Sc rfl (Sc rfl Sn)))))), Sn, h⟩
      ·replace h := ite2_f h e
       refine AWP.exit ?_
       exact ⟨x7, (Sc rfl Sn), Sn, h⟩
    ·rintro env pv hp ⟨x7, he, hv, h⟩
     refine AWP.sub (env' := (upd E0 7 (sP x7))) (pv' := V0) ?_ (Ru 7 Rn) he hv (HSub.refl _)
     clear he hv
     unfold F18_j2 at h
     refine AWP.seq' ?_
     refine AWP.rgn (F18_r6 E0 x7 hp _) ?_ (Ru 7 Rn) (Sc rfl Sn) Sn
     refine mC h fun u_11 h_12 h => mI h fun i_13 h => ?_
     refine AWP.seq' ?_
     refine AWP.rgn (F18_r7 (upd E0 13 (sI i_13)) x7 h_12 _) ?_ (Ru 7 (Ru 13 Rn)) (Sc rfl (Sc rfl Sn)) Sn
     refine mC h fun u_14 h_15 h => mS h fun a_16 n_17 c_18 h => ?_
     refine AWP.seq (fun env pv hp => ∃ (x7 : Option Addr) (x13 : Int), Sub (upd (upd E0 13 (sI x13)) 7 (sP x7)) env ∧ Sub V0 pv ∧ (F18_j3 x7 x13 hp  K)) ?_ ?_
     ·refine AWP.seq (fun env pv hp => ∃ (x7 : Option Addr) (x13 : Int) (x14a : Option Addr) (x14n : Nat) (x14c : Nat) (x15 : Int), Sub (upd (upd (upd (upd E0 15 (sI x15)) 14 (sS x14a x14n x14c)) 13 (sI x13)) 7 (sP x7)) env ∧ Sub V0 pv ∧ (F18_j4 x7 x13 x14a x14n x14c x15 hp  K)) ?_ ?_
      ·refine AWP.rgn (F18_r12 (upd (upd (upd E0 14 (sS a_16 n_17 c_18)) 13 (sI i_13)) 7 (sP x7))  h_15 _) ?_ (Ru 7 (Ru 13 (Ru 14 Rn))) (Sc rfl (Sc rfl (Sc rfl Sn))) Sn
       exact ⟨x7, i_13, a_16, n_17, c_18, 0, (Sc rfl (Sc rfl (Sc rfl (Sc rfl Sn)))), Sn, h⟩
      ·rintro env pv hp ⟨x7, x13, x14a, x14n, x14c, x15, he, hv, h⟩
       refine AWP.sub (env' := (upd (upd (upd (upd E0 15 (sI x15)) 14 (sS x14a x14n x14c)) 13 (sI x13)) 7 (sP x7))) (pv' := V0) ?_ (Ru 7 (Ru 13 (Ru 14 (Ru 15 Rn)))) he hv (HSub.refl _)
       clear he hv
       unfold F18_j4 at h
       refine AWP.block ?_
       refine AWP.loop (σ := Int × Int) (fun I s hp => F18_l5 x7 x14a x14n x14c  K I s.1 s.2 hp) (fun s => (upd (upd (upd (upd E0 15 (sI (s.2))) 14 (sS x14a x14n x14c)) 13 (sI (s.1))) 7 (sP x7))) (fun s => V0) (x13, x15) h (fun s => (Ru 7 (Ru 13 (Ru 14 (Ru 15 Rn))))) (Sc rfl (Sc rfl (Sc rfl (Sc rfl Sn)))) Sn ?_
       intro I5 s hp h
       obtain ⟨x13, x15⟩ := s
       replace h : F18_l5 x7 x14a x14n x14c  K I5 x13 x15 hp := h
       unfold F18_l5 at h
       refine AWP.seq' ?_
       refine AWP.seq' ?_
       refine AWP.rgn (F18_r9 (upd (upd E0 13 (sI x13)) 7 (sP x7)) x14a x14n x14c x15 hp _) ?_ (Ru 14 (Ru 15 (Ru 7 (Ru 13 Rn)))) (Sc rfl (Sc rfl (Sc rfl (Sc rfl Sn)))) Sn
       refine AWP.cond (t := (decide (x15 < x14n))) rfl (fun e => ?_) (fun e => ?_)
       ·replace h := ite2_t h e
        refine AWP.skip ?_
        refine AWP.seq' ?_
        refine AWP.block ?_
        refine AWP.rgn (F18_r10 (upd E0 7 (sP x7)) x13 x14a x14n x14c x15 hp _) ?_ (Ru 13 (Ru 14 (Ru 15 (Ru 7 Rn)))) (Sc rfl (Sc rfl (Sc rfl (Sc rfl Sn)))) Sn
        refine ⟨h.1, h.2.1, mN h.2.2 fun b_25 o_26 h => mV h fun v_27 h => mI h fun i_28 h => ?_⟩
        refine AWP.rgn (F18_r11 (upd (upd (upd E0 14 (sS x14a x14n x14c)) 13 (sI ((wr (x13 - i_28))))) 7 (sP x7)) x15 hp _) ?_ (Ru 15 (Ru 7 (Ru 13 (Ru 14 Rn)))) (Sc rfl (Sc rfl (Sc rfl (Sc rfl Sn)))) Sn
        exact ⟨((wr (x13 - i_28)), (wr (x15 + 1))), (Sc rfl (Sc rfl (Sc rfl (Sc rfl Sn)))), Sn, h⟩
       ·replace h := ite2_f h e
        refine AWP.exit ?_
        exact ⟨x7, x13, (Sc rfl (Sc rfl Sn)), Sn, h⟩
     ·rintro env pv hp ⟨x7, x13, he, hv, h⟩
      refine AWP.sub (env' := (upd (upd E0 13 (sI x13)) 7 (sP x7))) (pv' := V0) ?_ (Ru 7 (Ru 13 Rn)) he hv (HSub.refl _)
      clear he hv
      unfold F18_j3 at h
      refine AWP.seq' ?_
      refine AWP.rgn (F18_r8 E0 x7 x13 hp _) ?_ (Ru 7 (Ru 13 Rn)) (Sc rfl (Sc rfl Sn)) Sn
      refine mt h (fun h => ?_) (fun h => ?_)
      ·refine mC h fun u_19 h_20 h => mI h fun i_21 h => ?_
       refine mt h (fun h => ?_) (fun h => ?_)
       ·refine mC h fun u_22 h_23 h => mB h fun q_24 h => ?_
        refine AWP.ret ?_
        exact h
       ·refine AWP.ret ?_
        exact h
      ·refine AWP.ret ?_
       exact h
end
-- 61 interpreter/interpreterlaw16.Great
section
variable (e : Env) (x0a : Option Addr) (x0n x0c : Nat) (x3 : Int) (k4 : List Value) (hp : HP) (K : Env → PV → HP → Prop)
abbrev R61 (p : List Nat) (n : Nat) := RW Try.prog 41 [4, 19, 24, 30, 36] (opsAt Try.f61 p) (List.range n)
theorem F61_r0 : R61 [0] 1 e V0 hp K =
    (K (upd e 2 (sB false)) V0 hp) := by kernel_rfl
theorem F61_r1 : R61 [1, 0, 0] 3 (upd e 0 (sS x0a x0n x0c)) V0 hp K =
    (K (upd (upd (upd (upd e 0 (sS x0a x0n x0c)) 5 (sS x0a x0n x0c)) 6 (sI ((x0n : Nat)))) 7 (sB ((decide (((x0n : Nat) : Int) > 150))))) V0 hp) := by kernel_rfl
theorem F61_r2 : R61 [1, 0, 1, 0, 0] 1 e V0 hp K =
    (K (upd e 2 (sB true)) V0 hp) := by kernel_rfl
theorem F61_r3 : R61 [1, 1, 0, 1, 0, 0, 0, 0] 4 (upd (upd e 3 (sI x3)) 0 (sS x0a x0n x0c)) V0 hp K =
    (K (upd (upd (upd (upd (upd (upd e 3 (sI x3)) 0 (sS x0a x0n x0c)) 8 (sI x3)) 9 (sS x0a x0n x0c)) 10 (sI ((x0n : Nat)))) 11 (sB ((decide (x3 < x0n))))) V0 hp) := by kernel_rfl
theorem F61_r4 : R61 [1, 1, 0, 1, 0, 0, 1, 0, 0, 0] 7 (upd (upd e 3 (sI x3)) 0 (sS x0a x0n x0c)) V0 hp K =
    ((0 ≤ x3) ∧ (x3 < x0n) ∧ (ptrN x0a fun b1 o2 => (ldL (HP.cellN hp b1 ((o2 + Int.toNat x3 * 8) + 1) 6) fun l3 => (if List.length l3 = 6 then (if List.all l3 one = true then (if 0 + List.length l3 ≤ List.length [(Value.string ⟨#[]⟩), .string ⟨#[]⟩, .int .i64 0, .bool false, .string ⟨#[]⟩, .string ⟨#[]⟩] then (K (upd (upd (upd (upd (upd (upd (upd (upd e 3 (sI x3)) 0 (sS x0a x0n x0c)) 14 (sS x0a x0n x0c)) 15 (sI x3)) 16 (sQ b1 (o2 + Int.toNat x3 * 8))) 17 (sQ b1 ((o2 + Int.toNat x3 * 8) + 1))) 18 (sA l3)) 4 (sR 4 0)) (upd (upd V0 4 (29, [.string ⟨#[]⟩, .string ⟨#[]⟩, .int .i64 0, .bool false, .string ⟨#[]⟩, .string ⟨#[]⟩])) 4 (29, (splice [.string ⟨#[]⟩, .string ⟨#[]⟩, .int .i64 0, .bool false, .string ⟨#[]⟩, .string ⟨#[]⟩] 0 l3))) hp) else False) else False) else False)))) := by kernel_rfl
theorem F61_r5 : R61 [1, 1, 0, 1, 0, 0, 1, 0, 0, 1, 1, 0, 0] 1 e V0 hp K =
    (K (upd e 2 (sB true)) V0 hp) := by kernel_rfl
theorem F61_r6 : R61 [1, 1, 0, 1, 0, 0, 1, 1] 3 (upd e 3 (sI x3)) V0 hp K =
    (K (upd (upd (upd (upd e 3 (sI x3)) 12 (sI x3)) 13 (sI ((wr (x3 + 1))))) 3 (sI ((wr (x3 + 1))))) V0 hp) := by kernel_rfl
def F61_j3 (x0a : Option Addr) (x0n : Nat) (x0c : Nat) (x3 : Int) (x40 : Bool) (hp : HP) (I2 : (Int) → HP → Prop) (K : Value → HP → Prop) : Prop :=
  (ite2 x40 (K (.bool true) hp) (I2 (IntKind.wrap .i64 (x3 + 1)) hp))
theorem F61_r7 : R61 [1, 1, 0, 1, 0, 0, 1, 0, 0, 1, 0] 22 (upd e 4 (sR 4 0)) (upd V0 4 (29, k4)) hp K =
    (ldV (k4)[0]? fun v1 => (strV v1 fun s2 => (ite2 (decide (((ByteArray.size s2 : Nat) : Int) > 50)) (K (upd (upd (upd (upd (upd (upd (upd (upd (upd (upd (upd (upd (upd (upd (upd (upd (upd (upd (upd (upd (upd (upd (upd e 4 (sR 4 0)) 19 (sR 4 0)) 20 (sV (.string s2))) 21 (sI ((ByteArray.size s2 : Nat)))) 22 (sB ((decide (((ByteArray.size s2 : Nat) : Int) > 50))))) 23 (sB true)) 24 sU) 25 sU) 26 sU) 27 sU) 28 (sB true)) 29 (sB true)) 30 sU) 31 sU) 32 sU) 33 sU) 34 (sB true)) 35 (sB true)) 36 sU) 37 sU) 38 sU) 39 sU) 40 (sB true)) (upd V0 4 (29, k4)) hp) (ldV (k4)[1]? fun v3 => (strV v3 fun s4 => (ite2 (decide (((ByteArray.size s4 : Nat) : Int) > 50)) (K (upd (upd (upd (upd (upd (upd (upd (upd (upd (upd (upd (upd (upd (upd (upd (upd (upd (upd (upd (upd (upd (upd (upd e 4 (sR 4 0)) 19 (sR 4 0)) 20 (sV (.string s2))) 21 (sI ((ByteArray.size s2 : Nat)))) 22 (sB ((decide (((ByteArray.size s2 : Nat) : Int) > 50))))) 23 (sB false)) 24 (sR 4 1)) 25 (sV (.string s4))) 26 (sI ((ByteArray.size s4 : Nat)))) 27 (sB ((decide (((ByteArray.size s4 : Nat) : Int) > 50))))) 28 (sB ((decide (((ByteArray.size s4 : Nat) : Int) > 50))))) 29 (sB true)) 30 sU) 31 sU) 32 sU) 33 sU) 34 (sB true)) 35 (sB true)) 36 sU) 37 sU) 38 sU) 39 sU) 40 (sB true)) (upd V0 4 (29, k4)) hp) (ldV (k4)[5]? fun v5 => (strV v5 fun s6 => (ite2 (decide (((ByteArray.size s6 : Nat) : Int) > 50)) (K (upd (upd (upd (upd (upd (upd (upd (upd (upd (upd (upd (upd (upd (upd (upd (upd (upd (upd (upd (upd (upd (upd (upd e 4 (sR 4 0)) 19 (sR 4 0)) 20 (sV (.string s2))) 21 (sI ((ByteArray.size s2 : Nat)))) 22 (sB ((decide (((ByteArray.size s2 : Nat) : Int) > 50))))) 23 (sB false)) 24 (sR 4 1)) 25 (sV (.string s4))) 26 (sI ((ByteArray.size s4 : Nat)))) 27 (sB ((decide (((ByteArray.size s4 : Nat) : Int) > 50))))) 28 (sB ((decide (((ByteArray.size s4 : Nat) : Int) > 50))))) 29 (sB false)) 30 (sR 4 5)) 31 (sV (.string s6))) 32 (sI ((ByteArray.size s6 : Nat)))) 33 (sB ((decide (((ByteArray.size s6 : Nat) : Int) > 50))))) 34 (sB ((decide (((ByteArray.size s6 : Nat) : Int) > 50))))) 35 (sB true)) 36 sU) 37 sU) 38 sU) 39 sU) 40 (sB true)) (upd V0 4 (29, k4)) hp) (ldV (k4)[4]? fun v7 => (strV v7 fun s8 => (K (upd (upd (upd (upd (upd (upd (upd (upd (upd (upd (upd (upd (upd (upd (upd (upd (upd (upd (upd (upd (upd (upd (upd e 4 (sR 4 0)) 19 (sR 4 0)) 20 (sV (.string s2))) 21 (sI ((ByteArray.size s2 : Nat)))) 22 (sB ((decide (((ByteArray.size s2 : Nat) : Int) > 50))))) 23 (sB false)) 24 (sR 4 1)) 25 (sV (.string s4))) 26 (sI ((ByteArray.size s4 : Nat)))) 27 (sB ((decide (((ByteArray.size s4 : Nat) : Int) > 50))))) 28 (sB ((decide (((ByteArray.size s4 : Nat) : Int) > 50))))) 29 (sB false)) 30 (sR 4 5)) 31 (sV (.string s6))) 32 (sI ((ByteArray.size s6 : Nat)))) 33 (sB ((decide (((ByteArray.size s6 : Nat) : Int) > 50))))) 34 (sB ((decide (((ByteArray.size s6 : Nat) : Int) > 50))))) 35 (sB false)) 36 (sR 4 4)) 37 (sV (.string s8))) 38 (sI ((ByteArray.size s8 : Nat)))) 39 (sB ((decide (((ByteArray.size s8 : Nat) : Int) > 300))))) 40 (sB ((decide (((ByteArray.size s8 : Nat) : Int) > 300))))) (upd V0 4 (29, k4)) hp)))))))))))) := by kernel_rfl
theorem F61_r8 : R61 [1, 1, 1, 0] 1 e V0 hp K =
    (K (upd e 2 (sB false)) V0 hp) := by kernel_rfl
def F61_l2 (x0a : Option Addr) (x0n : Nat) (x0c : Nat) (K : Value → HP → Prop) (I2 : (Int) → HP → Prop) (x3 : Int) (hp : HP) : Prop :=
  (ite2 (decide (x3 < x0n)) ((0 ≤ x3) ∧ (x3 < x0n) ∧ (ptrN x0a fun b_1 o_2 => (ldL (HP.cellN hp b_1 ((o_2 + Int.toNat x3 * 8) + 1) 6) fun l_3 => (if List.length l_3 = 6 then (if List.all l_3 one = true then (if 0 + List.length l_3 ≤ List.length [(Value.string ⟨#[]⟩), .string ⟨#[]⟩, .int .i64 0, .bool false, .string ⟨#[]⟩, .string ⟨#[]⟩] then (ldV ((splice [.string ⟨#[]⟩, .string ⟨#[]⟩, .int .i64 0, .bool false, .string ⟨#[]⟩, .string ⟨#[]⟩] 0 l_3))[0]? fun v_4 => (strV v_4 fun s_5 => (ite2 (decide (((ByteArray.size s_5 : Nat) : Int) > 50)) (F61_j3 x0a x0n x0c x3 true hp I2 K) (ldV ((splice [.string ⟨#[]⟩, .string ⟨#[]⟩, .int .i64 0, .bool false, .string ⟨#[]⟩, .string ⟨#[]⟩] 0 l_3))[1]? fun v_6 => (strV v_6 fun s_7 => (ite2 (decide (((ByteArray.size s_7 : Nat) : Int) > 50)) (F61_j3 x0a x0n x0c x3 true hp I2 K) (ldV ((splice [.string ⟨#[]⟩, .string ⟨#[]⟩, .int .i64 0, .bool false, .string ⟨#[]⟩, .string ⟨#[]⟩] 0 l_3))[5]? fun v_8 => (strV v_8 fun s_9 => (ite2 (decide (((ByteArray.size s_9 : Nat) : Int) > 50)) (F61_j3 x0a x0n x0c x3 true hp I2 K) (ldV ((splice [.string ⟨#[]⟩, .string ⟨#[]⟩, .int .i64 0, .bool false, .string ⟨#[]⟩, .string ⟨#[]⟩] 0 l_3))[4]? fun v_10 => (strV v_10 fun s_11 => (F61_j3 x0a x0n x0c x3 (decide (((ByteArray.size s_11 : Nat) : Int) > 300)) hp I2 K)))))))))))) else False) else False) else False)))) (K (.bool false) hp))
def F61_j1 (x0a : Option Addr) (x0n : Nat) (x0c : Nat) (x3 : Int) (hp : HP) (K : Value → HP → Prop) : Prop :=
  (LoopP (σ := Int) (fun I s hp => F61_l2 x0a x0n x0c  K I s hp) x3 hp)
theorem F61_r9 : R61 [1, 1, 0, 0] 1 e V0 hp K =
    (K (upd e 3 (sI 0)) V0 hp) := by kernel_rfl
def F61 (x0a : Option Addr) (x0n : Nat) (x0c : Nat) (hp : HP) (K : Value → HP → Prop) : Prop :=
  (ite2 (decide (((x0n : Nat) : Int) > 150)) (K (.bool true) hp) (F61_j1 x0a x0n x0c 0 hp  K))
noncomputable def F61_code : Code := (.seq (.region 0 (opsAt Try.f61 [0]) false) (.seq (.seq (.region 1 (opsAt Try.f61 [1, 0, 0]) false) (.cond (.tmp 7) (.seq (.region 2 (opsAt Try.f61 [1, 0, 1, 0, 0]) false) .ret) .skip)) (.seq (.seq (.region 3 (opsAt Try.f61 [1, 1, 0, 0]) false) (.block 0 (.loop (.seq (.seq (.region 4 (opsAt Try.f61 [1, 1, 0, 1, 0, 0, 0, 0]) false) (.cond (.tmp 11) .skip (.exit 0))) (.seq (.block 1 (.seq (.region 6 (opsAt Try.f61 [1, 1, 0, 1, 0, 0, 1, 0, 0, 0]) false) (.seq (.region 7 (opsAt Try.f61 [1, 1, 0, 1, 0, 0, 1, 0, 0, 1, 0]) false) (.cond (.tmp 40) (.seq (.region 8 (opsAt Try.f61 [1, 1, 0, 1, 0, 0, 1, 0, 0, 1, 1, 0, 0]) false) .ret) .skip)))) (.region 5 (opsAt Try.f61 [1, 1, 0, 1, 0, 0, 1, 1]) false)))))) (.seq (.region 9 (opsAt Try.f61 [1, 1, 1, 0]) false) .ret))))
theorem F61_body : Try.f61.body = some F61_code := by kernel_rfl
theorem F61_ok (x0a : Option Addr) (x0n : Nat) (x0c : Nat) (hp : HP) (K : Value → HP → Prop) (h : F61 x0a x0n x0c hp K) : CF Try.prog 61 [(.slice x0a x0n x0c)] hp K := by
 refine .inl ⟨by kernel_rfl, AC.intro (N := 41) Try.func61 F61_body rfl (Nat.le_of_ble_eq_true rfl) ?_⟩
 unfold F61 at h
 unfold F61_code
 refine AWP.seq' ?_
 refine AWP.rgn (F61_r0 (upd E0 0 (sS x0a x0n x0c))  hp _) ?_ (Ru 0 Rn) (Sc rfl Sn) Sn
 refine AWP.seq' ?_
 refine AWP.seq' ?_
 refine AWP.rgn (F61_r1 E0 x0a x0n x0c hp _) ?_ (Ru 0 Rn) (Sc rfl Sn) Sn
 refine AWP.cond (t := (decide (((x0n : Nat) : Int) > 150))) rfl (fun e => ?_) (fun e => ?_)
 ·replace h := ite2_t h e
  refine AWP.seq' ?_
  refine AWP.rgn (F61_r2 E0  hp _) ?_ Rn Sn Sn
  refine AWP.ret ?_
  exact h
 ·replace h := ite2_f h e
  refine AWP.skip ?_
  refine AWP.seq' ?_
  refine AWP.seq (fun env pv hp => ∃ (x0a : Option Addr) (x0n : Nat) (x0c : Nat) (x3 : Int), Sub (upd (upd E0 3 (sI x3)) 0 (sS x0a x0n x0c)) env ∧ Sub V0 pv ∧ (F61_j1 x0a x0n x0c x3 hp  K)) ?_ ?_
  ·refine AWP.rgn (F61_r9 (upd E0 0 (sS x0a x0n x0c))  hp _) ?_ (Ru 0 Rn) (Sc rfl Sn) Sn
   exact ⟨x0a, x0n, x0c, 0, (Sc rfl (Sc rfl Sn)), Sn, h⟩
  ·rintro env pv hp ⟨x0a, x0n, x0c, x3, he, hv, h⟩
   refine AWP.sub (env' := (upd (upd E0 3 (sI x3)) 0 (sS x0a x0n x0c))) (pv' := V0) ?_ (Ru 0 (Ru 3 Rn)) he hv (HSub.refl _)
   clear he hv
   unfold F61_j1 at h
   refine AWP.block ?_
   refine AWP.loop (σ := Int) (fun I s hp => F61_l2 x0a x0n x0c  K I s hp) (fun s => (upd (upd E0 3 (sI s)) 0 (sS x0a x0n x0c))) (fun s => V0) x3 h (fun s => (Ru 0 (Ru 3 Rn))) (Sc rfl (Sc rfl Sn)) Sn ?_
   intro I2 s hp h
   obtain ⟨x3, hs⟩ : ∃ x, x = s := ⟨s, rfl⟩
   subst hs
   replace h : F61_l2 x0a x0n x0c  K I2 x3 hp := h
   unfold F61_l2 at h
   refine AWP.seq' ?_
   refine AWP.seq' ?_
   refine AWP.rgn (F61_r3 E0 x0a x0n x0c x3 hp _) ?_ (Ru 0 (Ru 3 Rn)) (Sc rfl (Sc rfl Sn)) Sn
   refine AWP.cond (t := (decide (x3 < x0n))) rfl (fun e => ?_) (fun e => ?_)
   ·replace h := ite2_t h e
    refine AWP.skip ?_
    refine AWP.seq' ?_
    refine AWP.block ?_
    refine AWP.seq' ?_
    refine AWP.rgn (F61_r4 E0 x0a x0n x0c x3 hp _) ?_ (Ru 0 (Ru 3 Rn)) (Sc rfl (Sc rfl Sn)) Sn
    refine ⟨h.1, h.2.1, mN h.2.2 fun b_1 o_2 h => mL h fun l_3 h => mf h fun h => mf h fun h => mf h fun h => ?_⟩
    refine AWP.seq (fun env pv hp => ∃ (x3 : Int) (x40 : Bool), Sub (upd (upd (upd E0 40 (sB x40)) 3 (sI x3)) 0 (sS x0a x0n x0c)) env ∧ Sub V0 pv ∧ (F61_j3 x0a x0n x0c x3 x40 hp I2 K)) ?_ ?_
    ·refine AWP.rgn (F61_r7 (upd (upd E0 3 (sI x3)) 0 (sS x0a x0n x0c)) (splice [.string ⟨#[]⟩, .string ⟨#[]⟩, .int .i64 0, .bool false, .string ⟨#[]⟩, .string ⟨#[]⟩] 0 l_3) hp _) ?_ (RefOk.p 4 4 0 (Ru 0 (Ru 3 Rn)) (fun e => by cases e)) (Sc rfl (Sc rfl (Sc rfl Sn))) (Sc rfl Sn)
     refine mV h fun v_4 h => ms h fun s_5 h => ?_
     refine mt h (fun h => ?_) (fun h => ?_)
     ·exact ⟨x3, true, (Sc rfl (Sc rfl (Sc rfl Sn))), Sn, h⟩
     ·refine mV h fun v_6 h => ms h fun s_7 h => ?_
      refine mt h (fun h => ?_) (fun h => ?_)
      ·exact ⟨x3, true, (Sc rfl (Sc rfl (Sc rfl Sn))), Sn, h⟩
      ·refine mV h fun v_8 h => ms h fun s_9 h => ?_
       refine mt h (fun h => ?_) (fun h => ?_)
       ·exact ⟨x3, true, (Sc rfl (Sc rfl (Sc rfl Sn))), Sn, h⟩
       ·refine mV h fun v_10 h => ms h fun s_11 h => ?_
        exact ⟨x3, (decide (((ByteArray.size s_11 : Nat) : Int) > 300)), (Sc rfl (Sc rfl (Sc rfl Sn))), Sn, h⟩
    ·rintro env pv hp ⟨x3, x40, he, hv, h⟩
     refine AWP.sub (env' := (upd (upd (upd E0 40 (sB x40)) 3 (sI x3)) 0 (sS x0a x0n x0c))) (pv' := V0) ?_ (Ru 0 (Ru 3 (Ru 40 Rn))) he hv (HSub.refl _)
     clear he hv
     unfold F61_j3 at h
     refine AWP.cond (t := x40) rfl (fun e => ?_) (fun e => ?_)
     ·replace h := ite2_t h e
      refine AWP.seq' ?_
      refine AWP.rgn (F61_r5 E0  hp _) ?_ Rn Sn Sn
      refine AWP.ret ?_
      exact h
     ·replace h := ite2_f h e
      refine AWP.skip ?_
      refine AWP.rgn (F61_r6 (upd E0 0 (sS x0a x0n x0c)) x3 hp _) ?_ (Ru 3 (Ru 0 Rn)) (Sc rfl (Sc rfl Sn)) Sn
      exact ⟨(wr (x3 + 1)), (Sc rfl (Sc rfl Sn)), Sn, h⟩
   ·replace h := ite2_f h e
    refine AWP.exit ?_
    refine AWP.seq' ?_
    refine AWP.rgn (F61_r8 E0  hp _) ?_ Rn Sn Sn
    refine AWP.ret ?_
    exact h
end
end Go.Proofs

set_option linter.unusedVariables false
set_option maxRecDepth 20000
namespace Go.Proofs
open Go Go.HL

theorem fdec3 {D : Nat} {cs : List Value} (h : wellS Try.prog D 3 cs = true) : ∃ n : Int, (-9223372036854775808 ≤ n ∧ n ≤ 9223372036854775807) ∧ cs = [.int .i64 n] := by
  cases D with
  | zero => cases h
  | succ D =>
    unfold wellS at h
    rw [show Try.prog.underlying 3 = some (.int .i64) by kernel_rfl] at h
    simp only at h
    split at h
    · rename_i q n
      simp only [Bool.and_eq_true, decide_eq_true_eq] at h
      obtain ⟨rfl, h⟩ := h
      exact ⟨n, (Lit.wf_int_iff _ _).1 h, rfl⟩
    · cases h
theorem fdec4 {D : Nat} {cs : List Value} (h : wellS Try.prog D 4 cs = true) : ∃ b : Bool, cs = [.bool b] := by
  cases D with
  | zero => cases h
  | succ D =>
    unfold wellS at h
    rw [show Try.prog.underlying 4 = some .bool by kernel_rfl] at h
    simp only at h
    split at h
    · exact ⟨_, rfl⟩
    · cases h
theorem fdec9 {D : Nat} {cs : List Value} (h : wellS Try.prog D 9 cs = true) : ∃ s : ByteArray, cs = [.string s] := by
  cases D with
  | zero => cases h
  | succ D =>
    unfold wellS at h
    rw [show Try.prog.underlying 9 = some .string by kernel_rfl] at h
    simp only at h
    split at h
    · exact ⟨_, rfl⟩
    · cases h

def okAt (p : Pc) : Prop := -9223372036854775808 ≤ p.at_ ∧ p.at_ ≤ 9223372036854775807

theorem dec29 : ∀ (D : Nat) (cs : List Value), wellS Try.prog D 29 cs = true → ∃ p : Pc, okAt p ∧ cs = pc p := by
  intro D cs h
  cases D with
  | zero => cases h
  | succ D =>
    obtain ⟨hl, hf⟩ := wellS_struct (fs0 := [(9, 0), (9, 1), (3, 2), (4, 3), (9, 4), (9, 5)]) (by kernel_rfl) (by simp) h
    rw [show Try.prog.cellsOf 29 = 6 by kernel_rfl] at hl
    have f0 := hf (9, 0) (by simp)
    have f1 := hf (9, 1) (by simp)
    have f2 := hf (3, 2) (by simp)
    have f3 := hf (4, 3) (by simp)
    have f4 := hf (9, 4) (by simp)
    have f5 := hf (9, 5) (by simp)
    simp only [show Try.prog.cellsOf 9 = 1 by kernel_rfl, show Try.prog.cellsOf 3 = 1 by kernel_rfl, show Try.prog.cellsOf 4 = 1 by kernel_rfl] at f0 f1 f2 f3 f4 f5
    obtain ⟨s0, e0⟩ := fdec9 f0
    obtain ⟨s1, e1⟩ := fdec9 f1
    obtain ⟨n2, hn, e2⟩ := fdec3 f2
    obtain ⟨b3, e3⟩ := fdec4 f3
    obtain ⟨s4, e4⟩ := fdec9 f4
    obtain ⟨s5, e5⟩ := fdec9 f5
    match cs, hl with
    | [c0, c1, c2, c3, c4, c5], _ =>
      simp only [List.drop_zero, List.drop_succ_cons, List.take_succ_cons, List.take_zero, List.cons.injEq, and_true] at e0 e1 e2 e3 e4 e5
      subst e0; subst e1; subst e2; subst e3; subst e4; subst e5
      exact ⟨⟨s0, s1, n2, b3, s4, s5⟩, hn, rfl⟩
end Go.Proofs

set_option linter.unusedVariables false
set_option maxRecDepth 20000
namespace Go.Proofs
open Go Go.HL

theorem C72 {x : Int} {b : Bool} {s : ByteArray} {hp : HP} {K : Value → HP → Prop} (h : K (.agg ⟨pc ⟨⟨#[107]⟩, ⟨#[115]⟩, x, b, s, ⟨#[]⟩⟩⟩) hp) : CF Try.prog 72 [.int .i64 x, .bool b, .string s] hp K := by
  refine F72_ok x b s hp K ?_
  unfold F72
  exact ifI rfl (ifI rfl (ifI (Nat.le_refl 6) h))

def pA : Pc := ⟨⟨#[107]⟩, ⟨#[115]⟩, 8, false, ⟨#[97, 98]⟩, ⟨#[]⟩⟩
def pB : Pc := ⟨⟨#[107]⟩, ⟨#[115]⟩, 0, true, ⟨#[49, 50, 51, 52, 53, 54, 55, 56]⟩, ⟨#[]⟩⟩
def stA (d : Dg) : Stt := ⟨4, 3, 1, 1, [(pA.key, d)], [(pA.src, 1)]⟩

theorem put1 {w : List Value} {b : Bool} {e : Int} {S' : Stt} (h : PutR ⟨4, 3, 0, 0, [], []⟩ pA 5 w b e S') : w = zeroW ∧ b = false ∧ e = 0 ∧ ∃ d : Dg, d.fin = 10 ∧ d.l = [pA] ∧ S' = stA d := by
  have hr : rightP pA = true := by decide
  have ht : pA.toW = 10 := by decide
  cases h with
  | arg h => exact absurd ⟨by decide, by decide⟩ h
  | form _ h => rw [hr] at h; cases h
  | again d _ _ h => cases h
  | clash d _ _ h => cases h
  | alone _ _ _ h => exact absurd h (by decide)
  | full _ _ _ h => exact absurd h (by decide)
  | state _ _ _ _ h => exact absurd h (by decide)
  | part d' last' _ _ _ _ _ htk hn =>
    rcases htk with ⟨_, _, _, _, hf, _⟩ | ⟨d, hg, _⟩
    · have : d'.fin = 10 := hf.trans ht
      omega
    · cases hg
  | none d' last' l' _ _ _ _ _ htk hp hperm hs hw =>
    rcases htk with ⟨_, h1, _, _, hf, hl⟩ | ⟨d, hg, _⟩
    · have hf' : d'.fin = 10 := hf.trans ht
      rw [hl] at hperm
      have hl' := List.perm_singleton.1 hperm
      subst h1
      exact ⟨rfl, rfl, rfl, { d' with l := l' }, hf', hl', rfl⟩
    · cases hg
  | whole d' last' l' w _ _ _ _ _ htk hp hperm hs hw =>
    rcases htk with ⟨_, h1, _, _, hf, hl⟩ | ⟨d, hg, _⟩
    · have hf' : d'.fin = 10 := hf.trans ht
      rw [hl] at hperm
      have hl' := List.perm_singleton.1 hperm
      rw [hl', hf'] at hw
      have : wholeQ 10 [pA] = none := by decide
      rw [this] at hw; cases hw
    · cases hg

theorem put2 {d : Dg} (hd : d.fin = 10) (hl : d.l = [pA]) {w : List Value} {b : Bool} {e : Int} {S' : Stt} (h : PutR (stA d) pA 9 w b e S') : w = zeroW ∧ b = false ∧ e = 0 ∧ S' = stA d := by
  have hr : rightP pA = true := by decide
  have hg : getL pA.key (stA d).D = some d := by unfold stA; simp [getL]
  have hs : d.l.any (sameP pA) = true := by rw [hl]; decide
  have no : ¬ Room (stA d) pA := by
    unfold Room; rw [hg]; simp only; rw [hs]; simp
  cases h with
  | arg h => exact absurd ⟨by decide, by decide⟩ h
  | form _ h => rw [hr] at h; cases h
  | again => exact ⟨rfl, rfl, rfl, rfl⟩
  | clash d' _ _ h h' => rw [hg] at h; cases h; rw [hs] at h'; cases h'
  | alone _ _ h => rw [hg] at h; cases h
  | full _ _ h => exact absurd h no
  | state _ _ h => exact absurd h no
  | part _ _ _ _ h => exact absurd h no
  | none _ _ _ _ _ h => exact absurd h no
  | whole _ _ _ _ _ _ h => exact absurd h no

theorem put3 {d : Dg} (hd : d.fin = 10) (hl : d.l = [pA]) {w : List Value} {b : Bool} {e : Int} {S' : Stt} (h : PutR (stA d) pB 9 w b e S') : (∃ head : ByteArray, w = wh pB.key head ⟨#[49, 50, 51, 52, 53, 54, 55, 56, 97, 98]⟩ 2) ∧ b = true ∧ e = 0 ∧ S'.n = 0 := by
  have hr : rightP pB = true := by decide
  have hg : getL pB.key (stA d).D = some d := by
    have : pB.key = pA.key := rfl
    rw [this]; unfold stA; simp [getL]
  have hs : d.l.any (sameP pB) = false := by rw [hl]; decide
  have hfit : fitsQ d.fin d.l pB = true := by rw [hl, hd]; decide
  have took : ∀ {last' : Int} {d' : Dg}, Took (stA d) pB 9 last' d' → d'.fin = 10 ∧ d'.l = [pA, pB] := by
    intro last' d' htk
    rcases htk with ⟨h, _⟩ | ⟨d2, h, _, _, _, hf, hl2⟩
    · rw [hg] at h; cases h
    · rw [hg] at h; cases h
      exact ⟨hf.trans hd, by rw [hl2, hl]; rfl⟩
  have sorted : ∀ {l' : List Pc}, l'.Perm [pA, pB] → l'.Pairwise (fun x y => ltC cfP y x = false) → l' = [pB, pA] := by
    intro l' hp hs
    have hlen := hp.length_eq
    match l', hlen with
    | [x, y], _ =>
      have hx : x = pA ∨ x = pB := by simpa using hp.mem_iff.1 (List.mem_cons_self)
      rcases hx with rfl | rfl
      · have := List.perm_singleton.1 hp.cons_inv
        simp only [List.cons.injEq, and_true] at this
        subst this
        rw [List.pairwise_cons] at hs
        have := hs.1 pB (by simp)
        have h2 : ltC cfP pB pA = true := by decide
        rw [h2] at this; cases this
      · have hp2 := hp.trans (List.Perm.swap pB pA [])
        have := List.perm_singleton.1 hp2.cons_inv
        rw [this]
  have hwq : wholeQ 10 [pB, pA] = some ⟨#[49, 50, 51, 52, 53, 54, 55, 56, 97, 98]⟩ := by decide
  cases h with
  | arg h => exact absurd ⟨by decide, by decide⟩ h
  | form _ h => rw [hr] at h; cases h
  | again d' _ _ h h' => rw [hg] at h; cases h; rw [hs] at h'; cases h'
  | clash d' _ _ h _ h' => rw [hg] at h; cases h; rw [hfit] at h'; cases h'
  | alone _ _ h => rw [hg] at h; cases h
  | full _ _ _ h =>
    have h1 : (1 : Int) ≥ 4 := h
    omega
  | state _ _ _ _ h =>
    have h0 : (getL pB.src (stA d).of).getD 0 = 1 := by
      have e : pB.src = pA.src := rfl
      rw [e]; unfold stA; simp [getL]
    rw [h0] at h
    have h1 : (1 : Int) ≥ 3 := h
    omega
  | part d' last' _ _ _ _ _ htk hn => have := (took htk).1; omega
  | none d' last' l' _ _ _ _ _ htk hp hperm hso hw =>
    obtain ⟨t1, t2⟩ := took htk
    rw [t2] at hperm
    rw [sorted hperm hso, t1, hwq] at hw; cases hw
  | whole d' last' l' w _ _ _ _ _ htk hp hperm hso hw =>
    obtain ⟨t1, t2⟩ := took htk
    rw [t2] at hperm
    have hl' := sorted hperm hso
    rw [hl', t1, hwq] at hw
    cases hw
    refine ⟨⟨headQ d'.l, by rw [t2]; rfl⟩, rfl, rfl, ?_⟩
    unfold cutS setS takeS stA
    simp only [hl']
    decide

theorem C22 {hp : HP} {K : Value → HP → Prop} (h : K (.bool true) hp) : CF Try.prog 22 [] hp K := by
  refine CF.drop (F22_ok hp _ ?_)
  unfold F22
  refine C25 (fun hn => absurd (by omega) hn) ?_
  intro _ q m mo hp1 hst
  have g1 := hst hp (HSub.refl _)
  have pp : ∀ c : Option Addr → Prop, ptrV (ptr q 0) c = c (some ⟨q, 0, none⟩) := fun _ => rfl
  simp only [tup2V_mk, intV_int, pp]
  show ite2 false _ (F22_j1 _ false _ _)
  rw [ite2_false]
  unfold F22_j1
  rw [ite2_false]
  have whl : ∀ a b c d, (wh a b c d).length = 4 := fun _ _ _ _ => rfl
  have who : ∀ a b c d, (wh a b c d).all one = true := fun _ _ _ _ => rfl
  have hz0 : [(Value.string ⟨#[]⟩), (Value.string ⟨#[]⟩), (Value.string ⟨#[]⟩), (Value.int .i64 0)] = wh e0s e0s e0s 0 := rfl
  have hsp : ∀ a b c d a' b' c' d', splice (wh a b c d) 0 (wh a' b' c' d') = wh a' b' c' d' := fun _ _ _ _ _ _ _ _ => splice_all rfl
  refine C72 ?_
  rw [aggV_agg]
  refine C26 (p := pA) g1 ⟨by decide, by decide⟩ (fun d hd => by cases hd) (fun d hd => by cases hd) ?_
  intro hp2 w b e S1 hput s1
  obtain ⟨rfl, rfl, rfl, d, hd, hl, rfl⟩ := put1 hput
  have g2 := s1 hp g1
  have hgd : ∀ {k : ByteArray} {d2 : Dg}, getL k (stA d).D = some d2 → d2 = d := by
    intro k d2 h2
    unfold stA at h2
    simp only [getL] at h2
    split at h2
    · cases h2; rfl
    · cases h2
  simp only [tup3V_mk, aggV_agg, boolV_bool, intV_int, zeroW, whl, who, if_true, hz0, Nat.zero_add]
  refine ifI (Nat.le_refl _) ?_
  refine C72 ?_
  rw [aggV_agg]
  have len1 : ∀ {k : ByteArray} (d2 : Dg), getL k (stA d).D = some d2 → d2.l.length ≤ 70000 := fun d2 h2 => by rw [hgd h2, hl]; decide
  have ri1 : ∀ {k : ByteArray} (d2 : Dg), getL k (stA d).D = some d2 → ∀ x ∈ d2.l, rightP x = true := fun d2 h2 x hx => by
    rw [hgd h2, hl, List.mem_singleton] at hx; rw [hx]; decide
  refine C26 (p := pA) g2 ⟨by decide, by decide⟩ len1 ri1 ?_
  intro hp3 w b e S2 hput s2
  obtain ⟨rfl, rfl, rfl, rfl⟩ := put2 hd hl hput
  have g3 := s2 hp g2
  simp only [tup3V_mk, aggV_agg, boolV_bool, intV_int, zeroW, whl, who, if_true, hz0, Nat.zero_add]
  refine ifI (Nat.le_refl _) ?_
  refine C72 ?_
  rw [aggV_agg]
  refine C26 (p := pB) g3 ⟨by decide, by decide⟩ len1 ri1 ?_
  intro hp4 w b e S3 hput s3
  obtain ⟨⟨head, rfl⟩, rfl, rfl, hn⟩ := put3 hd hl hput
  have g4 := s3 hp g3
  have w2 : ∀ a b c d, (wh a b c d)[2]? = some (.string c) := fun _ _ _ _ => rfl
  have w3 : ∀ a b c d, (wh a b c d)[3]? = some (.int .i64 d) := fun _ _ _ _ => rfl
  simp only [tup3V_mk, aggV_agg, boolV_bool, intV_int, whl, who, if_true, hz0, Nat.zero_add, hsp, w2, w3, ldV_some, strV_string, str_eq]
  refine ifI (Nat.le_refl _) ?_
  show ite2 true (ite2 true (ite2 true (ite2 true (ite2 true (ite2 true (ite2 _ _ _) _) _) _) _) _) _
  simp only [ite2_true, decide_eq_true_eq]
  show ite2 true _ _
  rw [ite2_true]
  show ite2 true _ _
  rw [ite2_true]
  refine C27 g4 ?_
  rw [intV_int, hn]
  exact ⟨hp, g4.1, h⟩
end Go.Proofs

set_option linter.unusedVariables false
set_option maxRecDepth 20000
namespace Go.Proofs
open Go Go.HL

theorem fdec5 {D : Nat} {cs : List Value} (h : wellS Try.prog D 5 cs = true) : ∃ n : Int, (0 ≤ n ∧ n ≤ 255) ∧ cs = [.int .u8 n] := by
  cases D with
  | zero => cases h
  | succ D =>
    unfold wellS at h
    rw [show Try.prog.underlying 5 = some (.int .u8) by kernel_rfl] at h
    simp only at h
    split at h
    · rename_i q n
      simp only [Bool.and_eq_true, decide_eq_true_eq] at h
      obtain ⟨rfl, hw⟩ := h
      exact ⟨n, (Go.Lit.wf_int_iff _ _).1 hw, rfl⟩
    · cases h
/-- An act: what, which piece, when. -/
abbrev A16 := Int × Pc × Int
def a16 (a : A16) : List Value := .int .u8 a.1 :: (pc a.2.1 ++ [.int .i64 a.2.2])
theorem a16_len (a : A16) : (a16 a).length = 8 := rfl
theorem a16_one (a : A16) : (a16 a).all one = true := rfl
def okA16 (a : A16) : Prop := (0 ≤ a.1 ∧ a.1 ≤ 255) ∧ okAt a.2.1 ∧ (-9223372036854775808 ≤ a.2.2 ∧ a.2.2 ≤ 9223372036854775807)

theorem dec108 : ∀ (D : Nat) (cs : List Value), wellS Try.prog D 108 cs = true → ∃ a : A16, okA16 a ∧ cs = a16 a := by
  intro D cs h
  cases D with
  | zero => cases h
  | succ D =>
    obtain ⟨hl, hf⟩ := wellS_struct (fs0 := flds Try.prog 108) rfl (by rw [show flds Try.prog 108 = [(5, 0), (29, 1), (3, 7)] by kernel_rfl]; simp) h
    rw [show flds Try.prog 108 = [(5, 0), (29, 1), (3, 7)] by kernel_rfl] at hf
    rw [show Try.prog.cellsOf 108 = 8 by kernel_rfl] at hl
    have f1 := hf (5, 0) (by simp)
    have f2 := hf (29, 1) (by simp)
    have f3 := hf (3, 7) (by simp)
    simp only [show Try.prog.cellsOf 5 = 1 by kernel_rfl, show Try.prog.cellsOf 29 = 6 by kernel_rfl, show Try.prog.cellsOf 3 = 1 by kernel_rfl] at f1 f2 f3
    obtain ⟨n, hn, e1⟩ := fdec5 f1
    obtain ⟨p, hp, e2⟩ := dec29 _ _ f2
    obtain ⟨x, hx, e3⟩ := fdec3 f3
    match cs, hl with
    | [c0, c1, c2, c3, c4, c5, c6, c7], _ =>
      simp only [List.drop_zero, List.take_succ_cons, List.take_zero, List.cons.injEq, and_true] at e1
      simp only [List.drop_succ_cons, List.drop_zero, List.take_succ_cons, List.take_zero] at e2
      simp only [List.drop_succ_cons, List.drop_zero, List.take_succ_cons, List.take_zero, List.cons.injEq, and_true] at e3
      refine ⟨(n, p, x), ⟨hn, hp, hx⟩, ?_⟩
      subst e1 e3
      show _ = _ :: (pc p ++ [_])
      rw [← e2]; rfl

section
variable {s : Option Addr} {n c : Nat} {l : List A16} {hp : HP} {K : Value → HP → Prop}

theorem C61 (hs : Shows hp s n 8 (l.flatMap a16)) (hl : l.length = n) (h : ∀ b : Bool, (b = false → l.length ≤ 150 ∧ ∀ x ∈ l, x.2.1.data.size ≤ 300) → K (.bool b) hp) : CF Try.prog 61 [.slice s n c] hp K := by
  refine F61_ok s n c hp K ?_
  unfold F61
  have yes : K (.bool true) hp := h true (fun e => by cases e)
  by_cases h1 : n > 150
  · rw [decide_eq_true (by omega : ((n : Nat) : Int) > 150), ite2_true]; exact yes
  rw [decide_eq_false (by omega : ¬ ((n : Nat) : Int) > 150), ite2_false]
  unfold F61_j1
  refine LoopP.by (J := fun k (x : Int) hp' => hp' = hp ∧ ∃ i : Nat, x = i ∧ i + k = n ∧ ∀ x ∈ l.take i, x.2.1.data.size ≤ 300) ?_ (n := n) ⟨rfl, 0, rfl, by omega, fun x hx => by simp at hx⟩
  rintro I k x hp' ⟨rfl, i, rfl, hik, hall⟩ hI
  unfold F61_l2
  by_cases hi : i < n
  rotate_left
  · rw [decide_eq_false (by omega : ¬ (i : Int) < ((n : Nat) : Int)), ite2_false]
    rw [List.take_of_length_le (by omega)] at hall
    exact h false fun _ => ⟨by omega, hall⟩
  rw [decide_eq_true (by omega : (i : Int) < ((n : Nat) : Int)), ite2_true]
  obtain ⟨b, o, hao, hc⟩ := hs.get a16_len hl hi
  have hpc := cellN_cellN (o' := 1) (n' := 6) hc (by omega)
  have e6 : cellsN (a16 (l[i]'(hl ▸ hi))) 1 6 = some (pc (l[i]'(hl ▸ hi)).2.1) := rfl
  rw [e6] at hpc
  have hz : splice [(Value.string ⟨#[]⟩), (Value.string ⟨#[]⟩), (Value.int .i64 0), (Value.bool false), (Value.string ⟨#[]⟩), (Value.string ⟨#[]⟩)] 0 (pc (l[i]'(hl ▸ hi)).2.1) = pc (l[i]'(hl ▸ hi)).2.1 := splice_all rfl
  have k0 : ∀ p : Pc, (pc p)[0]? = some (.string p.key) := fun _ => rfl
  have k1 : ∀ p : Pc, (pc p)[1]? = some (.string p.src) := fun _ => rfl
  have k4 : ∀ p : Pc, (pc p)[4]? = some (.string p.data) := fun _ => rfl
  have k5 : ∀ p : Pc, (pc p)[5]? = some (.string p.head) := fun _ => rfl
  have w1 : IntKind.wrap .i64 ((i : Int) + 1) = ((i + 1 : Nat) : Int) := wiN (by omega) (by omega)
  simp only [hao, ptrN_some, Int.toNat_natCast, hpc, ldL_some, pc_len, pc_one, if_true, hz, k0, k1, k4, k5, ldV_some, strV_string]
  refine ⟨by omega, by omega, ?_⟩
  refine ifI (Nat.le_refl _) ?_
  have no : F61_j3 s n c i true hp' I K := by unfold F61_j3; rw [ite2_true]; exact yes
  rw [hao] at no
  generalize hx : l[i]'(hl ▸ hi) = a at *
  by_cases g1 : ((a.2.1.key.size : Nat) : Int) > 50
  · rw [decide_eq_true g1, ite2_true]; exact no
  rw [decide_eq_false g1, ite2_false]
  by_cases g2 : ((a.2.1.src.size : Nat) : Int) > 50
  · rw [decide_eq_true g2, ite2_true]; exact no
  rw [decide_eq_false g2, ite2_false]
  by_cases g3 : ((a.2.1.head.size : Nat) : Int) > 50
  · rw [decide_eq_true g3, ite2_true]; exact no
  rw [decide_eq_false g3, ite2_false]
  by_cases g4 : ((a.2.1.data.size : Nat) : Int) > 300
  · rw [decide_eq_true g4]; exact no
  rw [decide_eq_false g4]
  unfold F61_j3
  rw [ite2_false, w1]
  refine hI (k - 1) _ _ (by omega) ⟨rfl, i + 1, rfl, by omega, ?_⟩
  intro y hy
  rw [List.take_succ_eq_append_getElem (hl ▸ hi)] at hy
  rcases List.mem_append.1 hy with hy | hy
  · exact hall y hy
  · rw [List.mem_singleton.1 hy, hx]; omega
end

section
variable {hp0 hp : HP} {q m mo : Nat} {S : Stt} {K : Value → HP → Prop}

theorem StR.upd {R : HP} {ob : Nat} {e e' : Ent} (h : StR (R.set ob e) hp q m mo S) (he : e ≠ .none) (hR : R ob = .none) : StR (R.set ob e') (hp.set ob e') q m mo S := by
  have hn : ∀ x, (hp.set ob .none) x = .none ∨ (hp.set ob .none) x = (hp.set ob e') x := fun x => by
    by_cases hx : x = ob
    · subst hx; exact .inl (HP.set_eq ..)
    · rw [HP.set_ne _ _ hx, HP.set_ne _ _ hx]; exact .inr rfl
  exact (h.cut he hR).add (HP.set_eq ..) hn (HP.set_eq ..)

/-- The sources' numbers are gone through. -/
theorem F18sum {x0 x1 : Int} {x2a : Option Addr} {x2n x2c : Nat} {ms : Nat} {x10 : Int} {srcs : List (ByteArray × Int)} {I7 : Int → HP → Prop} (h : StR hp0 hp q m mo S) (hI : Inv S) (hM : MapE sw jw srcs (hp ms)) (hx1 : S.source = x1) (hmax : S.max ≤ 100) (hnd : (srcs.map (·.1)).Nodup) (hlen : srcs.length ≤ 1000)
    (hall : ∀ p ∈ allP S.D, p.src ∈ srcs.map (·.1))
    (hK : ∀ hp', HSub hp hp' → F18_j10 x0 x1 x2a x2n x2c (some ⟨q, 0, none⟩) (some ms) x10 ((allP S.D).length : Nat) hp' I7 K) :
    F18_j9 x0 x1 x2a x2n x2c (some ⟨q, 0, none⟩) (some ms) x10 hp I7 K := by
  unfold F18_j9
  refine opS_range u97 hM fun it e hit hI0 => ?_
  unfold F18_j12
  have hN : (allP S.D).length ≤ 100 := by have := hI.num; have := hI.le; omega
  refine LoopP.by (J := fun k (x : Int) hp' => ∃ done : List (ByteArray × Int), HSub hp hp' ∧ IterR hp' it ms sw jw srcs done ∧ x = ((done.map fun y => cntP y.1 (allP S.D)).sum : Nat) ∧ (done.map fun y => cntP y.1 (allP S.D)).sum ≤ done.length * 100 ∧ k = srcs.length - done.length) ?_
    (n := srcs.length - 0) ⟨[], (HSub.refl hp).up hit e, hI0, rfl, by simp, rfl⟩
  rintro I k x hp2 ⟨done, hs, hIt, rfl, hle, rfl⟩ hgo
  have hil := hIt.len
  unfold F18_l13
  refine opS_next hIt ?_ ?_
  · intro hperm
    simp only [tupI]
    show ldV (some (Value.bool false)) _
    rw [ldV_some, boolV_bool, ite2_false]
    have hkp : (done.map (·.1)).Perm (srcs.map (·.1)) := by
      have h1 := hperm.map (fun p : Value × Value => p.1)
      simp only [List.map_map] at h1
      have e1 : ∀ l : List (ByteArray × Int), l.map ((fun p : Value × Value => p.1) ∘ fun p => (sw p.1, jw p.2)) = (l.map (·.1)).map sw := fun l => by simp [Function.comp_def]
      rw [e1, e1] at h1
      exact perm_ofm (f := sw) (fun a b e => sw_inj e) h1
    have hsum : (done.map fun y => cntP y.1 (allP S.D)).sum = (allP S.D).length := by
      have e1 : (done.map fun y => cntP y.1 (allP S.D)) = (done.map (·.1)).map fun k => cntP k (allP S.D) := by rw [List.map_map]; rfl
      rw [e1]
      exact cnt_sum (hkp.nodup_iff.2 hnd) fun p hp => hkp.mem_iff.2 (hall p hp)
    rw [hsum]
    exact hK hp2 hs
  · intro kv hkv e2 hI2
    have hlen2 := hI2.step_len
    simp only [tupI]
    show ldV (some (Value.bool true)) _
    rw [ldV_some, boolV_bool, ite2_true]
    refine rdS_entry hI2 ?_
    show ldV (some (sw kv.1)) _
    rw [ldV_some]
    show strV (Value.string kv.1) _
    rw [strV_string]
    have s2 : HSub hp (hp2.set it e2) := hs.up hit e2
    have g2 := h.sub s2
    have hof := hI.of kv.1
    have hls := hI.les kv.1
    have hcl := cnt_le (src := kv.1) (a := allP S.D)
    refine C70 g2 ?_
    rw [intV_int, hof, decide_eq_false (by omega), ite2_false]
    refine C70 g2 ?_
    rw [intV_int, hof]
    have hd : done.length ≤ 1000 := by omega
    have w1 : IntKind.wrap .i64 (((done.map fun y => cntP y.1 (allP S.D)).sum : Nat) + (cntP kv.1 (allP S.D) : Nat) : Int) = ((((done ++ [kv]).map fun y => cntP y.1 (allP S.D)).sum : Nat) : Int) := by
      rw [w64 (by omega) (by omega)]
      simp
    rw [w1]
    refine hgo (srcs.length - (done ++ [kv]).length) _ _ (by simp; omega) ⟨done ++ [kv], s2, hI2, rfl, ?_, rfl⟩
    simp only [List.map_append, List.map_cons, List.map_nil, List.sum_append, List.sum_cons, List.sum_nil, List.length_append, List.length_cons, List.length_nil]
    omega

theorem len_eq_perm {a b : List KD} (h : a.Perm b) : (allP a).length = (allP b).length := by
  unfold allP; exact (List.Perm.flatMap_right _ h).length_eq

def whK (x : KD) : List Value := wh x.1 (headQ x.2.l) e0s x.2.l.length
theorem whK_len (x : KD) : (whK x).length = 4 := rfl
theorem told_flat {now : Int} {kds : List KD} : ((toldQ now kds).flatMap fun x => x) = (kds.filter fun x => decide (x.2.due ≤ now)).flatMap whK := by
  unfold toldQ; rw [List.flatMap_map]; rfl

theorem pop_same {now : Int} : ∀ {kds : List KD} {S : Stt}, (popS S now kds).max = S.max ∧ (popS S now kds).source = S.source
  | [], S => ⟨rfl, rfl⟩
  | x :: l, S => by
    unfold popS
    rw [List.foldl_cons]
    by_cases hx : x.2.due ≤ now
    · rw [if_pos hx]
      have := pop_same (now := now) (kds := l) (S := cutS S x.1 x.2)
      unfold popS at this; exact this
    · rw [if_neg hx]
      have := pop_same (now := now) (kds := l) (S := S)
      unfold popS at this; exact this
theorem put_same {p : Pc} {due : Int} {w : List Value} {b : Bool} {e : Int} {S' : Stt} (h : PutR S p due w b e S') : S'.max = S.max ∧ S'.source = S.source ∧ ∀ x ∈ allP S'.D, x = p ∨ x ∈ allP S.D := by
  have hcut : ∀ {S : Stt} {key : ByteArray} {d : Dg}, ∀ x ∈ allP (cutS S key d).D, x ∈ allP S.D := fun {S key d} x hx => by
    unfold allP at *
    obtain ⟨y, hy, hxy⟩ := List.mem_flatMap.1 hx
    exact List.mem_flatMap.2 ⟨y, (del_sub key S.D).subset hy, hxy⟩
  have hput : ∀ {l : List KD} {k : ByteArray} {v : Dg}, ∀ x ∈ allP (putL k v l), x ∈ v.l ∨ x ∈ allP l := fun {l k v} x hx => by
    induction l with
    | nil => unfold allP putL at hx; left; simpa using hx
    | cons a l ih =>
      unfold allP at *
      by_cases hk : k = a.1
      · simp only [putL, hk, if_true, List.flatMap_cons, List.mem_append] at hx ⊢
        rcases hx with hx | hx
        · exact .inl hx
        · exact .inr (.inr hx)
      · simp only [putL, hk, if_false, List.flatMap_cons, List.mem_append] at hx ⊢
        rcases hx with hx | hx
        · exact .inr (.inl hx)
        · rcases ih hx with hx | hx
          · exact .inl hx
          · exact .inr (.inr hx)
  have htake : ∀ {last' : Int} {d' : Dg}, Took S p due last' d' → (∀ x ∈ allP (takeS S p last' d').D, x = p ∨ x ∈ allP S.D) ∧ (∀ x ∈ d'.l, x = p ∨ x ∈ allP S.D) := fun {last' d'} ht => by
    have hd : ∀ x ∈ d'.l, x = p ∨ x ∈ allP S.D := fun x hx => by
      rcases ht with ⟨_, _, _, _, _, hl⟩ | ⟨d, hg, _, _, _, _, hl⟩
      · rw [hl, List.mem_singleton] at hx; exact .inl hx
      · rw [hl] at hx
        rcases List.mem_append.1 hx with hx | hx
        · exact .inr (List.mem_flatMap.2 ⟨_, getL_some_mem hg, hx⟩)
        · exact .inl (List.mem_singleton.1 hx)
    refine ⟨fun x hx => ?_, hd⟩
    rcases hput x hx with hx | hx
    · exact hd x hx
    · exact .inr hx
  cases h with
  | arg | form | again | alone | full | state => exact ⟨rfl, rfl, fun x hx => .inr hx⟩
  | clash d => exact ⟨rfl, rfl, fun x hx => .inr (hcut x hx)⟩
  | part d' last' _ _ _ _ _ ht => exact ⟨rfl, rfl, (htake ht).1⟩
  | none d' last' l' _ _ _ _ _ ht _ hp =>
    refine ⟨rfl, rfl, fun x hx => ?_⟩
    rcases hput x hx with hx | hx
    · exact (htake ht).2 x (hp.mem_iff.1 hx)
    · exact (htake ht).1 x hx
  | whole d' last' l' w _ _ _ _ _ ht _ hp =>
    refine ⟨rfl, rfl, fun x hx => ?_⟩
    rcases hput x (hcut x hx) with hx | hx
    · exact (htake ht).2 x (hp.mem_iff.1 hx)
    · exact (htake ht).1 x hx

/-- The end: all that is due is gone. -/
theorem F18end (h : StR hp0 hp q m mo S) (hI : Inv S) (hmx : S.max ≤ 60000) (hK : ∀ hp', HSub hp0 hp' → K (.bool true) hp') : F18_j2 (some ⟨q, 0, none⟩) hp K := by
  unfold F18_j2
  refine C27 h ?_
  rw [intV_int]
  refine C62 h (by have := hI.num; have := len_all hI.ne; have := hI.le; omega) (fun kd hkd => Nat.le_trans (hI.lenl hkd) (by omega)) ?_
  intro hp1 s n c kds hperm hpw hbes hn
  rw [slcV_slice]
  have hall : ∀ x ∈ kds, x.2.due ≤ 4611686018427387904 := fun x hx => (hI.due x (hperm.mem_iff.1 hx)).2
  have hf : (kds.filter fun x => decide (x.2.due ≤ 4611686018427387904)) = kds := List.filter_eq_self.2 fun x hx => decide_eq_true (hall x hx)
  have hb := hbes _ h
  rw [told_flat, hf] at hb
  have hnk : n = kds.length := by rw [hn]; unfold toldQ; rw [List.length_map, hf]
  subst hnk
  have sh := hb.row.shows
  have hI' := hI.pop (now := 4611686018427387904) (kds := kds) ((hperm.map _).nodup_iff.2 hI.keys) fun x hx => hperm.mem_iff.1 hx
  have hD' := pop_all (now := 4611686018427387904) hI hperm fun x hx => (hI.due x hx).2
  have hn' : (popS S 4611686018427387904 kds).n = 0 := by rw [hI'.num, hD']; rfl
  have hnum := hI.num
  have hle := hI.le
  have hbig := hI.big
  rw [← len_eq_perm hperm] at hnum
  unfold F18_j4
  refine LoopP.by (J := fun r (z : Int × Int) hp' => hp' = hp1 ∧ ∃ i : Nat, z.2 = i ∧ i + r = kds.length ∧ z.1 = ((allP (kds.drop i)).length : Nat)) ?_ (n := kds.length) ⟨rfl, 0, rfl, by omega, by simpa using hnum⟩
  rintro I r ⟨z, y⟩ hp' ⟨rfl, i, hy, hir, hz⟩ hgo
  simp only at hy hz
  subst hy hz
  unfold F18_l5
  simp only []
  by_cases hi : i < kds.length
  · rw [decide_eq_true (by omega : (i : Int) < ((kds.length : Nat) : Int)), ite2_true]
    obtain ⟨b, o, hao, hc⟩ := sh.get whK_len rfl hi
    have hcell : hp'.cell b (o + i * 4 + 3) = some (.int .i64 (kds[i].2.l.length : Nat)) := HP.cell_cellN (j := 3) hc rfl
    have hlp : (allP (kds.drop i)).length = kds[i].2.l.length + (allP (kds.drop (i + 1))).length := by
      rw [List.drop_eq_getElem_cons hi]; unfold allP; rw [List.flatMap_cons, List.length_append]
    have hlt : (allP (kds.drop i)).length ≤ (allP kds).length := by
      have : allP kds = allP (kds.take i) ++ allP (kds.drop i) := by unfold allP; rw [← List.flatMap_append, List.take_append_drop]
      rw [this, List.length_append]; omega
    have w1 : IntKind.wrap .i64 ((i : Int) + 1) = ((i + 1 : Nat) : Int) := wiN (by omega) (by have := hI.lenD; have := hperm.length_eq; omega)
    have w2 : IntKind.wrap .i64 (((allP (kds.drop i)).length : Nat) - (kds[i].2.l.length : Nat) : Int) = ((allP (kds.drop (i + 1))).length : Nat) := wiN (by omega) (by omega)
    simp only [hao, ptrN_some, Int.toNat_natCast, hcell, ldV_some, intV_int, w1, w2]
    refine ⟨by omega, by omega, ?_⟩
    exact hgo (r - 1) _ _ (by omega) ⟨rfl, i + 1, rfl, by omega, rfl⟩
  · rw [decide_eq_false (by omega : ¬ (i : Int) < ((kds.length : Nat) : Int)), ite2_false]
    unfold F18_j3
    rw [List.drop_of_length_le (by omega)]
    have e0 : (((allP ([] : List KD)).length : Nat) : Int) = 0 := rfl
    rw [e0]
    show ite2 true _ _
    rw [ite2_true]
    refine C27 hb.st ?_
    rw [intV_int, hn']
    show ite2 true _ _
    rw [ite2_true]
    refine C22 ?_
    rw [boolV_bool]
    exact hK hp' hb.st.1

theorem C18 {x0 x1 : Int} {s : Option Addr} {n c : Nat} {l : List A16} (hs : Shows hp s n 8 (l.flatMap a16)) (hl : l.length = n) (hok : ∀ x ∈ l, okA16 x) (h : K (.bool true) hp) : CF Try.prog 18 [.int .i64 x0, .int .i64 x1, .slice s n c] hp K := by
  refine CF.drop (F18_ok x0 x1 s n c hp _ ?_)
  unfold F18
  have hk : ∀ hp', HSub hp hp' → CF Try.prog 22 [] hp' fun u h => boolV u fun q => ∃ hp'', HSub hp'' h ∧ K (.bool q) hp'' := by
    intro hp' hs
    refine C22 ?_
    rw [boolV_bool]
    exact ⟨hp, hs, h⟩
  have yes : F18_j1 x0 x1 s n c true hp (fun v hp' => ∃ hp'', HSub hp'' hp' ∧ K v hp'') := by
    unfold F18_j1
    rw [ite2_true]
    exact hk hp (HSub.refl _)
  refine C61 hs hl fun b hgreat => ?_
  rw [boolV_bool]
  cases b
  rotate_left
  · rw [ite2_true]; exact yes
  obtain ⟨hl150, hdata⟩ := hgreat rfl
  rw [ite2_false]
  by_cases g1 : x0 < 1
  · rw [decide_eq_true g1, ite2_true]; exact yes
  rw [decide_eq_false g1, ite2_false]
  by_cases g2 : x0 > 100
  · rw [decide_eq_true g2, ite2_true]; exact yes
  rw [decide_eq_false g2, ite2_false]
  by_cases g3 : x1 < 1
  · rw [decide_eq_true g3, ite2_true]; exact yes
  rw [decide_eq_false g3, ite2_false]
  by_cases g4 : x1 > 100
  · rw [decide_eq_true g4]; exact yes
  rw [decide_eq_false g4]
  clear yes
  unfold F18_j1
  rw [ite2_false]
  refine C25 (fun hn => absurd (by omega) hn) ?_
  intro _ q m mo hp1 hst
  have g1' := hst hp (HSub.refl _)
  have pp : ∀ c : Option Addr → Prop, ptrV (ptr q 0) c = c (some ⟨q, 0, none⟩) := fun _ => rfl
  simp only [tup2V_mk, intV_int, pp]
  show ite2 false _ _
  rw [ite2_false]
  intro ms hms
  have hms0 : hp ms = .none := g1'.1.none hms
  have g2' := g1'.add hms (HSub.set_fresh hp1 (.obj (.map #[] 0)) hms) (HP.set_eq ..)
  generalize hp1.set ms (.obj (.map #[] 0)) = hp2 at g2'
  unfold F18_j6
  refine LoopP.by (J := fun r (z : Int) hp' => ∃ (i : Nat) (S : Stt) (srcs : List (ByteArray × Int)) (e : Ent), z = i ∧ i + r = n ∧ StR (hp.set ms e) hp' q m mo S ∧ MapE sw jw srcs e ∧ Inv S ∧ S.max = x0 ∧ S.source = x1 ∧ (srcs.map (·.1)).Nodup ∧ srcs.length ≤ i ∧ ∀ p ∈ allP S.D, p.src ∈ srcs.map (·.1)) ?_
    (n := n) ⟨0, ⟨x0, x1, 0, 0, [], []⟩, [], .obj (.map #[] 0), rfl, by omega, g2', MapE.empty _ _, Inv.empty (by omega) (by omega) (by omega), rfl, rfl, .nil, Nat.le_refl _, fun p hp => by cases hp⟩
  rintro I r z hp3 ⟨i, S, srcs, e, rfl, hir, g3, hM, hI, hmx, hsx, hnd, hsl, hall⟩ hgo
  have hsub3 : HSub hp hp3 := (HSub.set_fresh hp e hms0).trans g3.1
  unfold F18_l7
  by_cases hi : i < n
  rotate_left
  · rw [decide_eq_false (by omega : ¬ (i : Int) < ((n : Nat) : Int)), ite2_false]
    exact F18end g3 hI (by omega) fun hp' hs' => ⟨hp, (HSub.set_fresh hp e hms0).trans hs', h⟩
  rw [decide_eq_true (by omega : (i : Int) < ((n : Nat) : Int)), ite2_true]
  obtain ⟨b, o, hao, hc0⟩ := hs.get a16_len hl hi
  have hxl : l[i]'(hl ▸ hi) ∈ l := List.getElem_mem _
  generalize hx : l[i]'(hl ▸ hi) = a at *
  have cN : ∀ hp', HSub hp hp' → hp'.cellN b (o + i * 8 + 1) 6 = some (pc a.2.1) := fun hp' hs' => by
    rw [cellN_cellN (o' := 1) (n' := 6) (HP.cellN_sub hs' hc0) (by omega)]; rfl
  have c0 : ∀ hp', HSub hp hp' → hp'.cell b (o + i * 8 + 0) = some (.int .u8 a.1) := fun hp' hs' => HP.cell_cellN (j := 0) (HP.cellN_sub hs' hc0) rfl
  have c2 : ∀ hp', HSub hp hp' → hp'.cell b (o + i * 8 + 1 + 1) = some (.string a.2.1.src) := fun hp' hs' => HP.cell_cellN (j := 2) (HP.cellN_sub hs' hc0) rfl
  have c7 : ∀ hp', HSub hp hp' → hp'.cell b (o + i * 8 + 7) = some (.int .i64 a.2.2) := fun hp' hs' => HP.cell_cellN (j := 7) (HP.cellN_sub hs' hc0) rfl
  simp only [hao, ptrN_some, Int.toNat_natCast, c2 hp3 hsub3, ldV_some, strV_string]
  refine ⟨by omega, by omega, ?_⟩
  have hM3 : MapE sw jw srcs (hp3 ms) := by
    obtain ⟨es, clock, he, r⟩ := hM
    exact ⟨es, clock, g3.1.obj (by rw [HP.set_eq]; exact he), r⟩
  refine opS_mapUpdate u97 enc9 (ev := jw) hM3 a.2.1.src 1 ?_
  intro e4 he4
  have hene : e ≠ .none := by obtain ⟨es, clock, he, r⟩ := hM; rw [he]; simp
  have g4 : StR (hp.set ms e4) (hp3.set ms e4) q m mo S := g3.upd hene hms0
  have hsub4 : HSub hp (hp3.set ms e4) := hsub3.up hms0 e4
  have hM4 : MapE sw jw (putL a.2.1.src 1 srcs) ((hp3.set ms e4) ms) := by rw [HP.set_eq]; exact he4
  generalize hp3.set ms e4 = hp4 at *
  have hnd4 := nodup_put (k := a.2.1.src) (v := (1 : Int)) hnd
  have hsl4 := len_put_le a.2.1.src (1 : Int) srcs
  have hin4 : ∀ k, k = a.2.1.src ∨ k ∈ srcs.map (·.1) → k ∈ (putL a.2.1.src (1 : Int) srcs).map (·.1) := fun k hk => by
    rw [← getL_isSome, getL_put]
    by_cases e : k = a.2.1.src
    · rw [if_pos e]; rfl
    · rw [if_neg e, getL_isSome]; exact hk.resolve_left e
  obtain ⟨ha1, ha2, ha3⟩ := hok a hxl
  -- behind the act
  have tail : ∀ (hp5 : HP) (S5 : Stt), StR (hp.set ms e4) hp5 q m mo S5 → Inv S5 → S5.max = x0 → S5.source = x1 → (∀ p ∈ allP S5.D, p.src = a.2.1.src ∨ p.src ∈ srcs.map (·.1)) →
      F18_j9 x0 x1 (some ⟨b, o, none⟩) n c (some ⟨q, 0, none⟩) (some ms) i hp5 I (fun v hp' => ∃ hp'', HSub hp'' hp' ∧ K v hp'') := by
    intro hp5 S5 g5 hI5 hmx5 hsx5 hall5
    have hM5 : MapE sw jw (putL a.2.1.src 1 srcs) (hp5 ms) := by
      obtain ⟨es, clock, he, r⟩ := he4
      exact ⟨es, clock, g5.1.obj (by rw [HP.set_eq]; exact he), r⟩
    refine F18sum g5 hI5 hM5 hsx5 (by omega) hnd4 (by omega) (fun p hp => hin4 _ (hall5 p hp)) ?_
    intro hp6 hs6
    have g6 := g5.sub hs6
    have hn5 := hI5.num
    have hle5 := hI5.le
    have hD5 := len_all hI5.ne
    unfold F18_j10
    refine C27 g6 ?_
    rw [intV_int, decide_eq_false (by omega), ite2_false]
    refine C27 g6 ?_
    rw [intV_int]
    have e1 : ((((allP S5.D).length : Nat) : Int) != S5.n) = false := by rw [hn5]; simp
    rw [e1, ite2_false]
    refine C60 g6 (by omega) ?_
    intro hp7 sk ck kds hs7 _ _ _ _
    have g7 := g6.sub hs7
    rw [slcV_slice]
    refine C27 g7 ?_
    rw [intV_int, decide_eq_false (by omega), ite2_false]
    refine C27 g7 ?_
    rw [intV_int]
    refine C60 g7 (by omega) ?_
    intro hp8 sk2 ck2 kds2 hs8 _ _ _ _
    have g8 := g7.sub hs8
    rw [slcV_slice]
    have e2 : (!(decide (S5.n > 0) == decide (((S5.D.length : Nat) : Int) > 0))) = false := by
      have : (S5.n > 0) ↔ (((S5.D.length : Nat) : Int) > 0) := by
        constructor
        · intro h1
          refine Classical.byContradiction fun h2 => ?_
          have : S5.D = [] := List.eq_nil_of_length_eq_zero (by omega)
          rw [this] at hn5
          have e0 : (allP ([] : List KD)).length = 0 := rfl
          omega
        · intro h1; omega
      have e3 : decide (S5.n > 0) = decide (((S5.D.length : Nat) : Int) > 0) := by rw [decide_eq_decide]; exact this
      rw [e3]; simp
    rw [e2]
    unfold F18_j11 F18_j8
    have w1 : IntKind.wrap .i64 ((i : Int) + 1) = ((i + 1 : Nat) : Int) := wiN (by omega) (by omega)
    rw [ite2_false, w1]
    exact hgo (r - 1) _ _ (by omega) ⟨i + 1, S5, _, e4, rfl, by omega, g8, he4, hI5, hmx5, hsx5, hnd4, by omega, fun p hp => hin4 _ (hall5 p hp)⟩
  simp only [c0 hp4 hsub4, ldV_some, intV_int]
  refine ⟨by omega, by omega, ?_⟩
  have hD4 : S.D.length ≤ 60000 := by have := hI.num; have := len_all hI.ne; have := hI.le; omega
  by_cases hdo : a.1 = 0
  · have ed : (a.1 == 0) = true := by simpa using hdo
    rw [ed, ite2_true]
    simp only [c7 hp4 hsub4, ldV_some, intV_int]
    refine ⟨by omega, by omega, ?_⟩
    refine C62 g4 hD4 (fun kd hkd => Nat.le_trans (hI.lenl hkd) (by omega)) ?_
    intro hp5 so no co kds hperm hpw hbes _
    rw [slcV_slice]
    have hI5 := hI.pop (now := a.2.2) (kds := kds) ((hperm.map _).nodup_iff.2 hI.keys) fun x hx => hperm.mem_iff.1 hx
    have hm5 : (popS S a.2.2 kds).max = S.max ∧ (popS S a.2.2 kds).source = S.source := pop_same
    refine tail hp5 _ (hbes _ g4).st hI5 (hm5.1.trans hmx) (hm5.2.trans hsx) fun p hp => ?_
    unfold allP at hp
    obtain ⟨x, hx, hpx⟩ := List.mem_flatMap.1 hp
    right
    exact hall p (List.mem_flatMap.2 ⟨x, (mem_pop hI.keys hx).1, hpx⟩)
  · have ed : (a.1 == 0) = false := by simpa using hdo
    rw [ed, ite2_false]
    simp only [cN hp4 hsub4, c7 hp4 hsub4, ldV_some, ldL_some, intV_int]
    refine ⟨by omega, by omega, by omega, by omega, ?_⟩
    have hd300 := hdata a hxl
    refine C26 (p := a.2.1) g4 ⟨ha2, by omega⟩ (fun d hg => Nat.le_trans (hI.lenl (getL_some_mem hg)) (by omega)) (fun d hg => hI.right _ (getL_some_mem hg)) ?_
    intro hp5 w bb ee S5 hput hstp
    have hI5 := hI.put hput
    have hm5 := put_same hput
    simp only [tup3V_mk, aggV_agg, boolV_bool, intV_int]
    refine tail hp5 S5 (hstp _ g4) hI5 (hm5.1.trans hmx) (hm5.2.1.trans hsx) fun p hp => ?_
    rcases hm5.2.2 p hp with e | e
    · left; rw [e]
    · exact .inr (hall p e)
end
end Go.Proofs

