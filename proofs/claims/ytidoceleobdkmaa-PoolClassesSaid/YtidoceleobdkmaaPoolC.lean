import Derived.Test.YtidoceleobdkmaaPoolB
set_option linter.unusedVariables false
namespace Go.Proofs
open Go Go.HL

def t4k (t : Q × Int) : Value := .agg ⟨t4 t⟩
def vb (b : Bool) : Value := .bool b
theorem enc75 : EncK Try.prog 75 t4k where
  inj a b h := by simp only [t4k, Value.agg.injEq, Array.mk.injEq] at h; exact t4_inj.1 h
  law := (KeyLaw.wide (m := 3) (D := 3) (by kernel_rfl)).weaken fun v ⟨k, hk⟩ => ⟨t4 k, hk, t4_shaped k, rfl⟩
theorem u158 : Try.prog.underlying 158 = some (.map 75 4) := by kernel_rfl
theorem zero_of {P : Program} {t : TypeId} {z : Value} (h : (P.info? t).bind (·.zero) = some z) (w : World) : (zeroValue t).run P w = .ok z w := by
  cases hi : P.info? t with
  | none => rw [hi] at h; cases h
  | some i => rw [hi] at h; simp only [Option.bind_some] at h; simp [zeroValue, typeInfo, hi, h]
theorem z4 : ∀ w : World, (zeroValue 4).run Try.prog w = .ok (.bool false) w := zero_of (by kernel_rfl)

/-- A pool: its addresses, its range, what is not free. -/
def PoolR (hp : HP) (p : Nat) (l : List Q) (low high : Int) (held : List ((Q × Int) × Bool)) (m : Nat) : Prop :=
  ∃ a c, hp p = .cells 160 [.slice a l.length c, .int .i64 low, .int .i64 high, .map (some m)] 0 ∧ Row hp a l.length c 73 4 (l.flatMap v4) ∧ MapE t4k vb held (hp m)

theorem PoolR.sub {hp hp' : HP} {p l low high held m} (h : PoolR hp p l low high held m) (hs : HSub hp hp') : PoolR hp' p l low high held m := by
  obtain ⟨a, c, h1, h2, h3⟩ := h
  refine ⟨a, c, hs.cells h1, h2.sub hs, ?_⟩
  obtain ⟨es, clock, he, hr⟩ := h3
  exact ⟨es, clock, hs.obj he, hr⟩

theorem PoolR.upd {hp : HP} {p l low high held m held'} (h : PoolR hp p l low high held m) {e : Ent} (he : MapE t4k vb held' e) : PoolR (hp.set m e) p l low high held' m := by
  obtain ⟨a, c, h1, h2, h3⟩ := h
  have hm : ∃ o, hp m = .obj o := by obtain ⟨es, clock, he, _⟩ := h3; exact ⟨_, he⟩
  obtain ⟨o, hm⟩ := hm
  refine ⟨a, c, ?_, ?_, by rw [HP.set_eq]; exact he⟩
  · rw [HP.set_ne _ _ (fun e => by rw [e, hm] at h1; cases h1)]; exact h1
  · rcases h2 with h2 | ⟨b, h21, h22, h23, h24⟩
    · exact .inl h2
    · refine .inr ⟨b, h21, h22, h23, ?_⟩
      rw [HP.set_ne _ _ (fun e => by rw [e, hm] at h24; cases h24)]; exact h24

/-- Of which addresses and ports a pool is made. -/
def newOk (l : List Q) (low high : Int) : Bool :=
  decide (1 ≤ l.length) && decide (l.length ≤ 4) && isPort low && isPort high && decide (low ≤ high) && decide (high - low < 1024) && decide l.Nodup

theorem nodup_take {l : List Q} {i : Nat} (hi : i < l.length) (h : (l.take i).Nodup) (hn : l[i] ∉ l.take i) : (l.take (i + 1)).Nodup := by
  rw [List.take_succ_eq_append_getElem hi]
  refine List.nodup_append.2 ⟨h, by simp, ?_⟩
  intro x hx y hy
  simp only [List.mem_singleton] at hy
  subst hy
  exact fun e => hn (e ▸ hx)

theorem C44 {a : Option Addr} {n c : Nat} {l : List Q} {low high : Int} {hp : HP} {K : Value → HP → Prop} (hs : Shows hp a n 4 (l.flatMap v4)) (hl : l.length = n) (hnc : n ≤ c) (hsm : -9223372036854775808 ≤ low ∧ low ≤ 9223372036854775807) (hsm2 : -9223372036854775808 ≤ high ∧ high ≤ 9223372036854775807)
    (hbad : newOk l low high = false → K (.tuple ⟨[.pointer none, .int .i64 1]⟩) hp)
    (hok : newOk l low high = true → ∀ p m hp', HSub hp hp' → hp p = .none → hp m = .none → PoolR hp' p l low high [] m → K (.tuple ⟨[ptr p 0, .int .i64 0]⟩) hp') :
    CF Try.prog 44 [.slice a n c, .int .i64 low, .int .i64 high] hp K := by
  refine F44_ok a n c low high hp K ?_
  unfold F44
  have bad : newOk l low high = false → F44_j1 a n c low high true hp K := fun h => by
    unfold F44_j1; exact hbad h
  by_cases h1 : n < 1
  · have e : decide (((n : Nat) : Int) < 1) = true := decide_eq_true (by omega)
    rw [e]
    exact bad (by unfold newOk; rw [hl]; simp; omega)
  have e : decide (((n : Nat) : Int) < 1) = false := decide_eq_false (by omega)
  rw [e, ite2_false]
  by_cases h4 : n > 4
  · have e : decide (((n : Nat) : Int) > 4) = true := decide_eq_true (by omega)
    rw [e]
    exact bad (by unfold newOk; rw [hl]; simp; omega)
  have e : decide (((n : Nat) : Int) > 4) = false := decide_eq_false (by omega)
  rw [e, ite2_false]
  refine C74 ?_
  rw [boolV_bool]
  cases hlo : isPort low
  · exact bad (by unfold newOk; rw [hlo]; simp)
  refine C74 ?_
  rw [boolV_bool]
  cases hhi : isPort high
  · exact bad (by unfold newOk; rw [hhi]; simp)
  simp only [Bool.not_true, ite2_false]
  by_cases hlh : high < low
  · have e : decide ((high : Int) < low) = true := by simpa using hlh
    rw [e]
    exact bad (by unfold newOk; simp; omega)
  have e : decide ((high : Int) < low) = false := by simpa using hlh
  rw [e, ite2_false]
  have hp1 := hlo; have hp2 := hhi
  unfold isPort at hp1 hp2
  simp only [decide_eq_true_eq] at hp1 hp2
  rw [w64 (by omega) (by omega)]
  by_cases hw : high - low ≥ 1024
  · have e : decide ((high - low : Int) ≥ 1024) = true := by simpa using hw
    rw [e]
    exact bad (by unfold newOk; simp; omega)
  have e : decide ((high - low : Int) ≥ 1024) = false := by simpa using hw
  rw [e]
  unfold F44_j1
  rw [ite2_false]
  unfold F44_j3
  have hrest : (decide (1 ≤ l.length) && decide (l.length ≤ 4) && isPort low && isPort high && decide (low ≤ high) && decide (high - low < 1024)) = true := by
    rw [hl, hlo, hhi]; simp; omega
  refine LoopP.by (J := fun k (x : Int) hp' => hp' = hp ∧ ∃ i : Nat, x = i ∧ i + k = n ∧ (l.take i).Nodup) ?_ (n := n) ⟨rfl, 0, rfl, by omega, by simp⟩
  rintro I k x hp' ⟨rfl, i, rfl, hik, hnd⟩ hI
  unfold F44_l4
  by_cases hi : i < n
  · have hlt : decide ((i : Int) < (n : Int)) = true := by simpa using hi
    obtain ⟨b, o, rfl, hc⟩ := hs.get v4_len hl hi
    have hz : splice [(Value.int .u8 0), (Value.int .u8 0), (Value.int .u8 0), (Value.int .u8 0)] 0 (v4 (l[i]'(hl ▸ hi))) = v4 (l[i]'(hl ▸ hi)) := splice_all rfl
    simp only [hlt, ite2_true, ldL_some, ptrN_some, Int.toNat_natCast, hc, v4_len, v4_one, if_true, hz, cellsN_all (v4_len _)]
    refine ⟨by omega, by omega, ?_⟩
    rw [if_pos (by decide)]
    refine ⟨by omega, by omega, ?_⟩
    refine C92 (hs.take v4_len hl (by omega)) (by simp; omega) (by omega) ?_
    rw [boolV_bool]
    by_cases hm : l[i]'(hl ▸ hi) ∈ l.take i
    · simp only [hm, decide_true, ite2_true]
      refine hbad ?_
      unfold newOk
      have : ¬ l.Nodup := fun hnd' => by
        rw [← List.take_append_drop i l] at hnd'
        have := (List.nodup_append.1 hnd').2.2 _ hm (l[i]'(hl ▸ hi)) (by rw [List.drop_eq_getElem_cons (hl ▸ hi)]; exact List.mem_cons_self ..)
        exact this rfl
      simp [this]
    · simp only [hm, decide_false, ite2_false]
      rw [w64 (by omega) (by omega)]
      exact hI (k - 1) _ _ (by omega) ⟨rfl, i + 1, by omega, by omega, nodup_take (hl ▸ hi) hnd hm⟩
  · have hlt : decide ((i : Int) < (n : Int)) = false := by simpa using hi
    have hin : i = l.length := by omega
    subst hin
    rw [List.take_length] at hnd
    rw [hlt, ite2_false]
    have hok' := hok (by unfold newOk; rw [hrest]; simpa using hnd)
    unfold F44_j2
    refine C93 hs hl (by omega) ?_
    intro s2 c2 hp2 hsub hrow hfr
    simp only [slcV_slice]
    intro m hm p hpn
    have hne : p ≠ m := fun e => by rw [e, HP.set_eq] at hpn; cases hpn
    rw [HP.set_ne _ _ hne] at hpn
    have s1 := HSub.set_fresh hp2 (.obj (.map #[] 0)) hm
    have s2' := HSub.set_fresh (hp2.set m (.obj (.map #[] 0))) (b := p) (.cells 160 [Value.slice s2 n c2, .int .i64 low, .int .i64 high, .map (some m)] 0) (by rw [HP.set_ne _ _ hne]; exact hpn)
    have sub := (hsub.trans s1).trans s2'
    refine hok' p m _ sub (hsub.none hpn) (hsub.none hm) ⟨s2, c2, ?_, ?_, ?_⟩
    · rw [HP.set_eq, hl]
    · rw [hl]; exact hrow.sub (s1.trans s2')
    · rw [HP.set_ne _ _ hne.symm, HP.set_eq]; exact MapE.empty _ _

/-- The addresses, one first. -/
def orderQ (first : Q) (l : List Q) : List Q := if idx first l > 0 then first :: l.erase first else l

theorem C99 {p m : Nat} {l : List Q} {low high : Int} {held} {first : Q} {hp : HP} {K : Value → HP → Prop} (hr : PoolR hp p l low high held m) (hlen : l.length ≤ 4) (ho : idx first l ≤ 0)
    (h : ∀ s2 c2 hp', HSub hp hp' → Row hp' s2 l.length c2 73 4 ((orderQ first l).flatMap v4) → K (.slice s2 l.length c2) hp') :
    CF Try.prog 99 [ptr p 0, .agg ⟨v4 first⟩] hp K := by
  refine F99_ok _ (v4 first) hp K ?_
  unfold F99
  obtain ⟨a, c, h1, h2, h3⟩ := hr
  rw [ptrN_some, HP.cell_of h1]
  simp only [Nat.zero_add, List.getElem?_cons_zero, ldV_some, slcV_slice]
  refine C93 h2.shows rfl (by omega) ?_
  intro s2 c2 hp2 hsub hrow hfr
  simp only [slcV_slice, cellsN_all (v4_len first), ldL_some]
  refine C98 hrow.shows rfl (by omega) ?_
  simp only [intV_int]
  have : decide (idx first l > 0) = false := by simpa using ho
  rw [this, ite2_false]
  unfold F99_j1
  have h' := h s2 c2 hp2 hsub
  unfold orderQ at h'
  rw [if_neg (by omega)] at h'
  exact h' hrow
end Go.Proofs
