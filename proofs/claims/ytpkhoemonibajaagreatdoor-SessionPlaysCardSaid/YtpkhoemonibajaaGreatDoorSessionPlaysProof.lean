/- SessionPlaysCardSaid: the tied card, out of the contract of the law's function. -/
import Derived.Test.YtpkhoemonibajaaGreatDoorQSessionPlaysProofS
import Derived.Test.YtpkhoemonibajaaGreatDoorRows
import Derived.Test.YtpkhoemonibajaaGreatDoorCards
import Derived.Test.YtpkhoemonibajaaGreatDoorTie
import Derived.Test.YtpkhoemonibajaaGreatDoorHlArg
import Derived.Test.YtpkhoemonibajaaGreatDoorHlFacts
import Derived.WalkKit
import Derived.ProofKit
import Derived.OpenShut
import Derived.Carry
import Derived.DataShut
import Derived.Deep.DeepHandedRow
import Derived.SevenTiedAt
namespace Go.Proofs.YtpkhoemonibajaaGreatDoor.sessionPlays
open Go.ChangeShapes Go.WideShapes Go.ChangeAt Go.RowKit
set_option linter.unusedVariables false
set_option maxRecDepth 100000

theorem laid1 : laidOutB Tryz.prog = true := by kernel_rfl
theorem laid2 : mapsRowed Tryz.prog = true := by kernel_rfl
theorem heard : Tryz.prog.stopsHeard = true := by kernel_rfl
theorem c9 : Rows.sessionPlaysRow.inPlace = Tryz.prog.inPlace 3 := by kernel_rfl
theorem c10 : Rows.sessionPlaysRow.unfollowed = Tryz.prog.unfollowed 3 := by kernel_rfl
theorem c11 : Rows.sessionPlaysRow.recurses = Tryz.prog.recurses 3 := by kernel_rfl
theorem c12 : Rows.sessionPlaysRow.named = Tryz.prog.varsNamed 3 := by kernel_rfl
theorem named : Tryz.prog.funcNamed Rows.sessionPlaysRow.func = some 3 := by kernel_rfl
theorem inst : decide (Tryz.f3.isInstance Tryz.prog Rows.sessionPlaysRow.origin Rows.sessionPlaysRow.targs) = true := by kernel_rfl
theorem own : ownKnob Tryz.prog.godebug = none := by kernel_rfl

/-- What the walk gives, for every argument and every world that holds the tables. -/
theorem contract (H : Type) (enc : TypeId × Value → H) (W : World) (base : Nat) (args : Array Value) (ds gs : List (DataW H)) (before : List MemPlace)
    (hval0 : ∀ (j : Nat) t v, Tryz.f3.params[j]? = some t → args[j]? = some v → Value.okWide Tryz.prog W .any base t v)
    (hW : DataW.Whole enc Tryz.prog Tryz.f3.params.toList Rows.sessionPlaysSpec.vars false W args.toList ds gs before) (hL : laidMetH Tryz.prog Rows.sessionPlaysRow.laid W) :
    Calls Tryz.prog 3 args W fun e W' => ∃ v, e = .returned v ∧ Rows.sessionPlaysSpec.post enc Tryz.prog Tryz.f3 false true false false W args v W' := by
  obtain ⟨tb, tb0, tbO⟩ := tabOf hL
  have ht : Go.Proofs.TabR tb (Go.HL.hpAll W) := ⟨tb0, tbO⟩
  have hval : ∀ (j : Nat) t v, Tryz.f3.params[j]? = some t → args[j]? = some v → Value.okWide Tryz.prog W .any base t v := hval0
  have hW' := hW
  obtain ⟨p, q, hA0, hV, rfl, hfz, hnd⟩ := hW
  have hA : DataW.TrodAll enc Tryz.prog W 0 (fun _ => true) true Tryz.f3.params.toList args.toList ds p := hA0
  rw [Tryz.params3] at hA hval
  obtain ⟨v0, vs0, d0, ds0, p0, q0, hargs, rfl, rfl, h0, r0⟩ := trodAll_cons hA
  obtain ⟨v1, vs1, d1, ds1, p1, q1, rfl, rfl, rfl, h1, r1⟩ := trodAll_cons r0
  obtain ⟨rfl, rfl, rfl⟩ := trodAll_nil r1
  obtain rfl : args = #[v0, v1] := by cases args; simp_all
  obtain ⟨rfl, rfl⟩ := trodVars_none hV
  obtain ⟨a0, rfl, rfl, rfl, w0⟩ := open_int Tryz.underlying3 (hval 0 3 v0 rfl rfl) h0
  have z0 := (Go.Lit.wf_int_iff _ _).1 w0
  obtain ⟨a1, n1, c1, rfl⟩ := okWide_slice Tryz.underlying22 (hval 1 22 v1 rfl rfl)
  have k1 := h1
  have lt1 : ∀ x ∈ p1, x.block < W.heap.size := by obtain ⟨m, hm⟩ := k1; exact DataW.trod_lt m _ _ _ hm
  obtain ⟨l1, hl1, hn1, hc1, ho1, hs1⟩ := Go.HL.arg_slice (m := 5) (size := 7) Tryz.underlying22 (by kernel_rfl) (by kernel_rfl) (by decide) h1 okA22 Go.Proofs.a22 a22_len dec77
  clear hA0 hval0 hval
  refine (Go.HL.below_all (v := .bool true) (args := [.int .i64 a0, .slice a1 n1 c1]) W (by kernel_rfl) ?_).mono fun e W' ⟨he, bel⟩ => ?_
  · exact Go.Proofs.C3 ht hs1 hl1 ho1 ⟨rfl, rfl⟩
  · subst he
    exact ⟨_, rfl, _, _, _, [], _, [], hW', trodAll_mk1 (shut_bool Tryz.underlying4 _), (trodAll_cons_mk (shut_int Tryz.underlying3 w0) (trodAll_cons_mk (Below.trod laid1 (by kernel_rfl) (of_decide_eq_true (by kernel_rfl)) k1 bel lt1) trodAll_mk0)), rfl, bel.frame _, fun h => by cases h⟩

theorem laid_met (os : Os) : laidMet Tryz.prog Rows.sessionPlaysRow.laid ((laidWorld os ⟨#[], #[.int .i64 0, .slice none 0 0], []⟩).forCall (fun _ _ => 0) ⟨#[], #[.int .i64 0, .slice none 0 0], []⟩).memory :=
  laidMet_of_run' 8 (by kernel_rfl) (by kernel_rfl)
theorem reads (os : Os) {H : Type} (enc : TypeId × Value → H) : ∃ places, DataW.whole enc Tryz.prog ((laidWorld os ⟨#[], #[.int .i64 0, .slice none 0 0], []⟩).forCall (fun _ _ => 0) ⟨#[], #[.int .i64 0, .slice none 0 0], []⟩).memory Tryz.f3.params.toList Rows.sessionPlaysSpec.vars false (#[.int .i64 0, .slice none 0 0] : Array Value).toList 8 = some ([.lit (.int .i64 0), .nil], [], places) :=
  ⟨[], by kernel_rfl⟩

set_option maxRecDepth 100000 in
theorem lifted (os : Os) (started : os.Started) (H : Type) (enc : TypeId × Value → H) (F : Stop.Interp) :
    ReturnsInHanded {} Tryz.checked os 3 .any ((OpenSpec.ofChange Rows.sessionPlaysSpec).preRow enc Tryz.prog Tryz.f3 Rows.sessionPlaysRow.domain false Rows.sessionPlaysRow.laid) (((OpenSpec.ofChange Rows.sessionPlaysSpec).at F).post enc Tryz.prog Tryz.f3 false true false false) := by
  obtain ⟨places, hx⟩ := reads os enc
  refine returnsInHanded_of_row (C := Tryz.checked) (s := OpenSpec.ofChange Rows.sessionPlaysSpec) own started (by kernel_rfl) Tryz.func3
    (witness_row_at (enc := enc) (C := Tryz.checked) false (laidWorld os ⟨#[], #[.int .i64 0, .slice none 0 0], []⟩) #[.int .i64 0, .slice none 0 0] rfl (by kernel_rfl) (by kernel_rfl) (by kernel_rfl)
      (OpenSpec.preRow_of_cond 8 hx (by kernel_rfl) (fun k hk => by cases hk) (by kernel_rfl) (laid_met os))) ?_
  intro W base args ds gs before hval hW _ _ _ hL _ _
  exact contract H enc W base args ds gs before hval hW hL

theorem closed : joinedFacts Tryz.prog 3 Tryz.f3 Rows.sessionPlaysSpec Rows.sessionPlaysRow = true :=
  Go.HL.facts_of (by kernel_rfl) laid1 laid2 (by kernel_rfl) (by kernel_rfl) (by kernel_rfl) (by kernel_rfl) (by kernel_rfl) (by kernel_rfl)
    c9 c10 c11 c12 (by kernel_rfl) (by kernel_rfl) (by kernel_rfl) (by kernel_rfl) (by kernel_rfl) (by kernel_rfl) (by kernel_rfl) (by kernel_rfl) (by kernel_rfl)
    (by kernel_rfl) (by kernel_rfl) heard Tryz.enters Tryz.lifts Tryz.made (by kernel_rfl) (by kernel_rfl) (by kernel_rfl) (by kernel_rfl) (by kernel_rfl)

theorem said : Rows.sessionPlaysRow.holds Tryz.pinned (OpenSpec.ofChange Rows.sessionPlaysSpec) :=
  OpenClaim.holds_of_cond 3 Tryz.f3 rfl rfl rfl rfl rfl rfl rfl ⟨rfl, rfl, rfl, rfl, rfl⟩ rfl rfl rfl rfl rfl named Tryz.func3 closed
    (of_decide_eq_true inst) (by unfold Func.isWrapper; first | (rw [if_pos (by decide +kernel)]; kernel_rfl) | (rw [if_neg (by decide +kernel)]; exact ⟨rfl, rfl⟩))
    (fun os started H enc _ F => by rw [OpenClaim.pre_eq_preRow]; exact lifted os started H enc F)

theorem plain (f : FuncId) (fn : Func) (hf : Tryz.pinned.checked.prog.funcNamed "interpreter/interpreterlaw22.SessionPlays" = some f) (hfn : Tryz.pinned.checked.prog.funcs[f]? = some fn) :
    true = Tryz.pinned.checked.prog.looks [] ∧ ∀ (j : Nat) t, fn.params[j]? = some t → Tryz.pinned.checked.prog.wantsStandIn t = false := by
  obtain rfl : f = 3 := Option.some.inj ((show Tryz.prog.funcNamed "interpreter/interpreterlaw22.SessionPlays" = some 3 by kernel_rfl).symm.trans hf) |>.symm
  obtain rfl : fn = Tryz.f3 := (Option.some.inj (Tryz.func3.symm.trans hfn)).symm
  refine ⟨by kernel_rfl, fun j t ht => ?_⟩
  rw [Tryz.params3] at ht
  have hall : ∀ t ∈ ([3, 22] : List Nat), Tryz.prog.wantsStandIn t = false := by
    intro t ht
    simp only [List.mem_cons, List.not_mem_nil, or_false] at ht
    rcases ht with rfl | rfl <;> kernel_rfl
  refine hall t ?_
  have := Array.mem_of_getElem? ht
  simpa using this

/-- THE STATEMENT -/
theorem proved : Rows.SessionPlaysCardSaid :=
  Claim7.holds_tied_plain_at .later [] _ _ _ _ said (fun _ h => by cases h) (by as_aux_lemma => kernel_rfl) (fun _ h => by cases h) sessionPlays_row_tie (by as_aux_lemma => exact rfl) ⟨by as_aux_lemma => exact rfl, by as_aux_lemma => exact rfl⟩ (by as_aux_lemma => kernel_rfl) (by as_aux_lemma => exact rfl) plain (by as_aux_lemma => kernel_rfl)
#print axioms proved
end Go.Proofs.YtpkhoemonibajaaGreatDoor.sessionPlays
