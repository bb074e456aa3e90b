import Derived.Test.YtidoceleobdkmaaPoolD
set_option linter.unusedVariables false
set_option maxRecDepth 20000
namespace Go.Proofs
open Go Go.HL

theorem idx_q0 : idx q0 [(1, 0, 0, 1), (1, 0, 0, 2)] ≤ 0 := by decide

theorem C21 {hp : HP} {K : Value → HP → Prop} (h : K (.bool true) hp) : CF Try.prog 21 [] hp K := by
  refine CF.drop (F21_ok hp _ ?_)
  unfold F21
  refine C52 ?_
  rw [aggV_agg]
  refine C53 ?_
  rw [aggV_agg]
  refine ifI rfl (ifI rfl ?_)
  intro b hb
  have hcs : splice (splice [(Value.int .u8 0), (Value.int .u8 0), (Value.int .u8 0), (Value.int .u8 0), (Value.int .u8 0), (Value.int .u8 0), (Value.int .u8 0), (Value.int .u8 0)] 0 (v4 (1, 0, 0, 1))) 4 (v4 (1, 0, 0, 2)) = [(1, 0, 0, 1), (1, 0, 0, 2)].flatMap v4 := rfl
  rw [hcs]
  have s0 := HSub.set_fresh hp (.cells 73 ([(1, 0, 0, 1), (1, 0, 0, 2)].flatMap v4) 0) hb
  refine C44 (l := [(1, 0, 0, 1), (1, 0, 0, 2)]) (.inr ⟨b, 0, rfl, by rw [HP.cellN_of (HP.set_eq ..)]; rfl⟩) rfl (by omega) (by omega) (by omega) (fun h => absurd h (by decide)) ?_
  intro _ p m hp1 s1 _ hm hr
  have s1 := s0.trans s1
  have hm := s0.none hm
  simp only [tup2V_mk, ptrV_pointer, intV_int]
  show ite2 false _ _
  rw [ite2_false]
  unfold F21_j1
  show ite2 false _ _
  rw [ite2_false]
  have hl5 : ∀ t, (t4 t).length = 5 := fun _ => rfl
  have st : ∀ t, splice [(Value.int .u8 0), (Value.int .u8 0), (Value.int .u8 0), (Value.int .u8 0), (Value.int .i64 0)] 0 (t4 t) = t4 t := fun t => splice_all rfl
  have up : ∀ {h2 : HP}, HSub hp h2 → ∀ e, HSub hp (h2.set m e) := fun {h2} hs e x => by
    by_cases hx : x = m
    · subst hx; exact .inl hm
    · rw [HP.set_ne _ _ hx]; exact hs x
  refine C46 (first := q0) (x := 80) (plain := false) hr (by decide) idx_q0 (by omega) (fun h => absurd h (by decide)) (fun _ h => absurd h (by decide)) ?_
  intro _ t1 ht1 e1 he1
  rw [show takeQ [(1, 0, 0, 1), (1, 0, 0, 2)] 1020 1027 [] q0 80 false = some ((1, 0, 0, 1), 1020) by decide] at ht1
  cases ht1
  simp only [tup2V_mk, aggV_agg, intV_int]
  refine ifI rfl (ifI rfl (ifI (by decide) ?_))
  refine C46 (first := q0) (x := 80) (plain := false) (hr.upd he1) (by decide) idx_q0 (by omega) (fun h => absurd h (by decide)) (fun _ h => absurd h (by decide)) ?_
  intro _ t2 ht2 e2 he2
  rw [show takeQ [(1, 0, 0, 1), (1, 0, 0, 2)] 1020 1027 (putL ((1, 0, 0, 1), 1020) false []) q0 80 false = some ((1, 0, 0, 1), 1022) by decide] at ht2
  cases ht2
  simp only [tup2V_mk, aggV_agg, intV_int]
  refine ifI rfl (ifI rfl (ifI (by decide) ?_))
  refine C46 (first := q0) (x := 80) (plain := false) ((hr.upd he1).upd he2) (by decide) idx_q0 (by omega) (fun h => absurd h (by decide)) (fun _ h => absurd h (by decide)) ?_
  intro _ t3 ht3 e3 he3
  rw [show takeQ [(1, 0, 0, 1), (1, 0, 0, 2)] 1020 1027 (putL ((1, 0, 0, 1), 1022) false (putL ((1, 0, 0, 1), 1020) false [])) q0 80 false = some ((1, 0, 0, 2), 1020) by decide] at ht3
  cases ht3
  simp only [tup2V_mk, aggV_agg, intV_int]
  refine ifI rfl (ifI rfl (ifI (by decide) ?_))
  rw [st, st, st, cellsN_all (hl5 _), ldL_some]
  refine C52 ?_
  rw [aggV_agg]
  refine ifI rfl ?_
  refine eq75 (p := ((1, 0, 0, 1), 1020)) (q := ((1, 0, 0, 1), 1020)) ?_
  show ite2 true _ _
  rw [ite2_true, cellsN_all (hl5 _), ldL_some]
  refine C52 ?_
  rw [aggV_agg]
  refine ifI rfl ?_
  refine eq75 (p := ((1, 0, 0, 1), 1022)) (q := ((1, 0, 0, 1), 1022)) ?_
  show ite2 true _ _
  rw [ite2_true, cellsN_all (hl5 _), ldL_some]
  refine C53 ?_
  rw [aggV_agg]
  refine ifI rfl ?_
  refine eq75 (p := ((1, 0, 0, 2), 1020)) (q := ((1, 0, 0, 2), 1020)) ?_
  show ite2 true _ _
  rw [ite2_true]
  refine C20 ?_
  rw [boolV_bool]
  show ite2 true _ _
  rw [ite2_true]
  refine C20 ?_
  rw [boolV_bool]
  exact ⟨hp, up (up (up s1 e1) e2) e3, h⟩
end Go.Proofs
