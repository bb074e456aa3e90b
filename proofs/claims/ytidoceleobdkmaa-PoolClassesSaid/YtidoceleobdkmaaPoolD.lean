import Derived.Test.YtidoceleobdkmaaPoolC
set_option linter.unusedVariables false
namespace Go.Proofs
open Go Go.HL

def ports : Nat → Int → List Int
  | 0, _ => []
  | k + 1, n => n :: ports k (n + 1)

/-- Is a port of an address free, and of the class? -/
def freeAt (held : List ((Q × Int) × Bool)) (x : Int) (plain : Bool) (a : Q) (n : Int) : Option (Q × Int) :=
  if (getL (a, n) held).isNone && (plain || cls x n) then some (a, n) else none
def firstIn (low high : Int) (held : List ((Q × Int) × Bool)) (x : Int) (plain : Bool) (a : Q) : Option (Q × Int) :=
  (ports (high + 1 - low).toNat low).findSome? (freeAt held x plain a)
def takeQ (l : List Q) (low high : Int) (held : List ((Q × Int) × Bool)) (first : Q) (x : Int) (plain : Bool) : Option (Q × Int) :=
  (orderQ first l).findSome? (firstIn low high held x plain)

def q0 : Q := (0, 0, 0, 0)
theorem orderQ_len {first : Q} {l : List Q} : (orderQ first l).length = l.length := by
  unfold orderQ
  split
  · rename_i h
    have hm : first ∈ l := by
      unfold idx at h
      split at h
      · assumption
      · omega
    simp only [List.length_cons, List.length_erase_of_mem hm]
    have : 0 < l.length := List.length_pos_of_mem hm
    omega
  · rfl

theorem C46 {p m : Nat} {l : List Q} {low high : Int} {held} {first : Q} {x : Int} {plain : Bool} {hp : HP} {K : Value → HP → Prop} (hr : PoolR hp p l low high held m) (hlen : l.length ≤ 4) (ho : idx first l ≤ 0)
    (hb : 0 ≤ low ∧ low ≤ 65535 ∧ 0 ≤ high ∧ high ≤ 65535)
    (harg : isPort x = false → K (.tuple ⟨[.agg ⟨t4 (q0, 0)⟩, .int .i64 1]⟩) hp)
    (hfull : isPort x = true → takeQ l low high held first x plain = none → K (.tuple ⟨[.agg ⟨t4 (q0, 0)⟩, .int .i64 6]⟩) hp)
    (hgot : isPort x = true → ∀ t, takeQ l low high held first x plain = some t → ∀ e, MapE t4k vb (putL t false held) e → K (.tuple ⟨[.agg ⟨t4 t⟩, .int .i64 0]⟩) (hp.set m e)) :
    CF Try.prog 46 [ptr p 0, .agg ⟨v4 first⟩, .int .i64 x, .bool plain] hp K := by
  refine CF.drop (F46_ok _ (v4 first) x plain hp _ ?_)
  have hr0 := hr
  obtain ⟨a, c, h1, h2, h3⟩ := hr
  unfold F46
  have hz5 : [Value.int .u8 0, .int .u8 0, .int .u8 0, .int .u8 0, .int .i64 0] = t4 (q0, 0) := rfl
  have hz4 : [Value.int .u8 0, .int .u8 0, .int .u8 0, .int .u8 0] = v4 q0 := rfl
  have h1c : ∀ o, hp.cell p o = [Value.slice a l.length c, .int .i64 low, .int .i64 high, .map (some m)][o]? := fun o => HP.cell_of h1
  simp only [Option.isNone_some, ite2_false, ptrN_some, h1c, Nat.zero_add, List.getElem?_cons_succ, List.getElem?_cons_zero, ldV_some, mapV_map]
  unfold F46_j1
  rw [ite2_false]
  refine C74 ?_
  rw [boolV_bool]
  cases hx : isPort x
  · simp only [Bool.not_false, ite2_true, hz5, t4_len, t4_one, if_true, splice_all, cellsN_all, ldL_some]
    refine ifI (by omega) ?_
    exact ⟨hp, HSub.refl _, harg hx⟩
  simp only [Bool.not_true, ite2_false, cellsN_all (v4_len first), ldL_some]
  refine C99 hr0 hlen ho ?_
  intro s2 c2 hp2 hsub hrow
  rw [slcV_slice]
  unfold F46_j3
  have hr2 := hr0.sub hsub
  have h2c : ∀ o, hp2.cell p o = [Value.slice a l.length c, .int .i64 low, .int .i64 high, .map (some m)][o]? := fun o => HP.cell_of (hsub.cells h1)
  have h3' : MapE t4k vb held (hp2 m) := by
    obtain ⟨es, clock, he, hrr⟩ := h3
    exact ⟨es, clock, hsub.obj he, hrr⟩
  have htq : takeQ l low high held first x plain = (orderQ first l).findSome? (firstIn low high held x plain) := rfl
  have hol := orderQ_len (first := first) (l := l)
  generalize hO : orderQ first l = O at *
  refine LoopP.by (J := fun k (s : Int × List Value) hp' => hp' = hp2 ∧ s.2 = t4 (q0, 0) ∧ ∃ i : Nat, s.1 = i ∧ i + k = l.length ∧ takeQ l low high held first x plain = (O.drop i).findSome? (firstIn low high held x plain)) ?_ (n := l.length)
    ⟨rfl, hz5, 0, rfl, by omega, htq⟩
  rintro I k ⟨x1, k8⟩ hp' ⟨rfl, hk8, i, hxi, hik, hO2⟩ hI
  simp only at hk8 hxi
  subst hk8; subst hxi
  unfold F46_l4
  by_cases hi : i < l.length
  · have hlt : decide ((i : Int) < (l.length : Int)) = true := decide_eq_true (by omega)
    have hiO : i < O.length := by omega
    obtain ⟨b, o, rfl, hc⟩ := hrow.shows.get v4_len hol hi
    simp only [hlt, ite2_true, ptrN_some, Int.toNat_natCast, hc, ldL_some, v4_len, v4_one, if_true, hz4]
    refine ⟨by omega, by omega, ?_⟩
    refine ifI (by omega) ?_
    simp only [h2c, Nat.zero_add, List.getElem?_cons_succ, List.getElem?_cons_zero, ldV_some, intV_int, splice_all (show (v4 O[i]).length = (v4 q0).length from rfl)]
    unfold F46_j6
    have hdrop : O.drop i = O[i] :: O.drop (i + 1) := List.drop_eq_getElem_cons hiO
    rw [hdrop, List.findSome?_cons] at hO2
    refine LoopP.by (J := fun k' (s : Int × List Value) hp'' => hp'' = hp' ∧ s.2 = t4 (q0, 0) ∧ k' = (high + 1 - s.1).toNat ∧ low ≤ s.1 ∧
      firstIn low high held x plain O[i] = (ports k' s.1).findSome? (freeAt held x plain O[i])) ?_ (n := (high + 1 - low).toNat) ⟨rfl, rfl, rfl, Int.le_refl _, rfl⟩
    rintro I' k' ⟨y, k8⟩ hp'' ⟨rfl, hk8, hk', hly, hfi⟩ hI'
    simp only at hk8 hk' hly hfi
    subst hk8
    unfold F46_l7
    simp only [ptrN_some, h2c, Nat.zero_add, List.getElem?_cons_succ, List.getElem?_cons_zero, ldV_some, intV_int]
    by_cases hyh : y ≤ high
    · have hle : decide (y ≤ high) = true := decide_eq_true hyh
      have hset : (splice (t4 (q0, 0)) 0 (v4 O[i])).set 4 (.int .i64 y) = t4 (O[i], y) := rfl
      simp only [hle, ite2_true, cellsN_all (v4_len _), ldL_some, v4_len, if_true, hz5, hset, t4_len, t4_one]
      refine ifI (by omega) ?_
      have hsp : splice (t4 (q0, 0)) 0 (t4 (O[i], y)) = t4 (O[i], y) := splice_all rfl
      simp only [mapV_map, hsp, cellsN_all (t4_len _), ldL_some]
      refine rdS_lookup u158 enc75 z4 h3' (O[i], y) ?_
      simp only [if_true, tup2V_mk]
      have hv : boolV (((getL (O[i], y) held).map vb).getD (.bool false)) = fun c => c ((getL (O[i], y) held).getD false) := by
        funext c; cases getL (O[i], y) held <;> rfl
      rw [hv]
      simp only [boolV_bool]
      obtain ⟨kk, rfl⟩ : ∃ kk, k' = kk + 1 := ⟨k' - 1, by omega⟩
      rw [ports, List.findSome?_cons] at hfi
      -- behind one that does not do
      have next : freeAt held x plain O[i] y = none → F46_j8 (some ⟨p, 0, none⟩) x plain y (some ⟨b, o, none⟩) l.length c2 l.length i false (t4 (q0, 0)) (v4 O[i]) (t4 (O[i], y)) hp'' I I' (fun v hp' => ∃ hp'', HSub hp'' hp' ∧ K v hp'') := by
        intro hf
        unfold F46_j8
        rw [ite2_false, w64 (by omega) (by omega)]
        rw [hf] at hfi
        exact hI' kk _ _ (by omega) ⟨rfl, rfl, by simp only; omega, by simp only; omega, hfi⟩
      have found : freeAt held x plain O[i] y = some (O[i], y) → F46_j8 (some ⟨p, 0, none⟩) x plain y (some ⟨b, o, none⟩) l.length c2 l.length i true (t4 (q0, 0)) (v4 O[i]) (t4 (O[i], y)) hp'' I I' (fun v hp' => ∃ hp'', HSub hp'' hp' ∧ K v hp'') := by
        intro hf
        unfold F46_j8
        rw [hf] at hfi
        rw [hfi] at hO2
        simp only [ite2_true, ptrN_some, h2c, Nat.zero_add, List.getElem?_cons_succ, List.getElem?_cons_zero, ldV_some, mapV_map, cellsN_all (t4_len _), ldL_some, t4_len, t4_one, if_true, hsp]
        refine opS_mapUpdate u158 enc75 h3' (O[i], y) false (ev := vb) ?_
        intro e he
        refine ifI (by omega) ?_
        exact ⟨hp.set m e, hsub.set m e, hgot hx _ hO2 e he⟩
      cases hg : (getL (O[i], y) held).isSome
      · have hg' : (getL (O[i], y) held).isNone = true := by cases h : getL (O[i], y) held <;> simp_all
        simp only [Bool.not_false, ite2_true]
        cases plain
        · rw [ite2_false]
          refine C20 ?_
          rw [boolV_bool]
          cases hcl : cls x y
          · exact next (by simp [freeAt, hcl])
          · exact found (by simp [freeAt, hg', hcl])
        · rw [ite2_true]
          exact found (by simp [freeAt, hg'])
      · have hg' : (getL (O[i], y) held).isNone = false := by cases h : getL (O[i], y) held <;> simp_all
        simp only [Bool.not_true, ite2_false]
        exact next (by simp [freeAt, hg'])
    · have hle : decide (y ≤ high) = false := decide_eq_false hyh
      rw [hle, ite2_false]
      unfold F46_j5
      have : k' = 0 := by omega
      subst this
      rw [ports, List.findSome?_nil] at hfi
      rw [hfi] at hO2
      rw [w64 (by omega) (by omega)]
      exact hI (k - 1) _ _ (by omega) ⟨rfl, rfl, i + 1, by simp, by omega, hO2⟩
  · have hlt : decide ((i : Int) < (l.length : Int)) = false := decide_eq_false (by omega)
    rw [hlt, ite2_false]
    unfold F46_j2
    rw [List.drop_eq_nil_of_le (by omega), List.findSome?_nil] at hO2
    simp only [hz5, t4_len, t4_one, if_true, splice_all, cellsN_all, ldL_some]
    refine ifI (by omega) ?_
    exact ⟨hp, hsub, hfull hx hO2⟩
end Go.Proofs
