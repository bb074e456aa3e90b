/- SessionKnownCardSaid: the tied card, out of the contract of the law's function. -/
import Derived.Test.YtpkhoemonibajaaDoorQSessionKnownProofS
import Derived.Test.YtpkhoemonibajaaDoorRows
import Derived.Test.YtpkhoemonibajaaDoorCards
import Derived.Test.YtpkhoemonibajaaDoorTie
import Derived.Test.YtpkhoemonibajaaDoorHlArg
import Derived.Test.YtpkhoemonibajaaDoorHlFacts
import Derived.WalkKit
import Derived.ProofKit
import Derived.OpenShut
import Derived.Carry
import Derived.DataShut
import Derived.Deep.DeepHandedRow
import Derived.SevenTiedAt
namespace Go.Proofs.YtpkhoemonibajaaDoor.sessionKnown
open Go.ChangeShapes Go.WideShapes Go.ChangeAt Go.RowKit
set_option linter.unusedVariables false
set_option maxRecDepth 100000

theorem laid1 : laidOutB Tryd.prog = true := by kernel_rfl
theorem laid2 : mapsRowed Tryd.prog = true := by kernel_rfl
theorem heard : Tryd.prog.stopsHeard = true := by kernel_rfl
theorem c9 : Rows.sessionKnownRow.inPlace = Tryd.prog.inPlace 11 := by kernel_rfl
theorem c10 : Rows.sessionKnownRow.unfollowed = Tryd.prog.unfollowed 11 := by kernel_rfl
theorem c11 : Rows.sessionKnownRow.recurses = Tryd.prog.recurses 11 := by kernel_rfl
theorem c12 : Rows.sessionKnownRow.named = Tryd.prog.varsNamed 11 := by kernel_rfl
theorem named : Tryd.prog.funcNamed Rows.sessionKnownRow.func = some 11 := by kernel_rfl
theorem inst : decide (Tryd.f11.isInstance Tryd.prog Rows.sessionKnownRow.origin Rows.sessionKnownRow.targs) = true := by kernel_rfl
theorem own : ownKnob Tryd.prog.godebug = none := by kernel_rfl

/-- What the walk gives, for every argument and every world that holds the tables. -/
theorem contract (H : Type) (enc : TypeId × Value → H) (W : World) (base : Nat) (args : Array Value) (ds gs : List (DataW H)) (before : List MemPlace)
    (hval0 : ∀ (j : Nat) t v, Tryd.f11.params[j]? = some t → args[j]? = some v → Value.okWide Tryd.prog W .any base t v)
    (hW : DataW.Whole enc Tryd.prog Tryd.f11.params.toList Rows.sessionKnownSpec.vars false W args.toList ds gs before) (hL : laidMetH Tryd.prog Rows.sessionKnownRow.laid W) :
    Calls Tryd.prog 11 args W fun e W' => ∃ v, e = .returned v ∧ Rows.sessionKnownSpec.post enc Tryd.prog Tryd.f11 false true false false W args v W' := by
  obtain ⟨tb, tb0, tbO⟩ := tabOf hL
  have ht : Go.Proofs.TabR tb (Go.HL.hpAll W) := ⟨tb0, tbO⟩
  have hval : ∀ (j : Nat) t v, Tryd.f11.params[j]? = some t → args[j]? = some v → Value.okWide Tryd.prog W .any base t v := hval0
  have hW' := hW
  obtain ⟨p, q, hA0, hV, rfl, hfz, hnd⟩ := hW
  have hA : DataW.TrodAll enc Tryd.prog W 0 (fun _ => true) true Tryd.f11.params.toList args.toList ds p := hA0
  rw [Tryd.params11] at hA hval
  obtain ⟨hargs, rfl, rfl⟩ := trodAll_nil hA
  obtain rfl : args = #[] := by cases args; simp_all
  obtain ⟨rfl, rfl⟩ := trodVars_none hV
  clear hA0 hval0 hval
  refine (Go.HL.below_all (v := .bool true) (args := []) W (by kernel_rfl) ?_).mono fun e W' ⟨he, bel⟩ => ?_
  · exact Go.Proofs.C11 ht ⟨rfl, rfl⟩
  · subst he
    exact ⟨_, rfl, _, _, _, [], _, [], hW', trodAll_mk1 (shut_bool Tryd.underlying4 _), trodAll_mk0, rfl, bel.frame _, fun h => by cases h⟩

theorem laid_met (os : Os) : laidMet Tryd.prog Rows.sessionKnownRow.laid ((laidWorld os ⟨#[], #[], []⟩).forCall (fun _ _ => 0) ⟨#[], #[], []⟩).memory :=
  laidMet_of_run' 8 (by kernel_rfl) (by kernel_rfl)
theorem reads (os : Os) {H : Type} (enc : TypeId × Value → H) : ∃ places, DataW.whole enc Tryd.prog ((laidWorld os ⟨#[], #[], []⟩).forCall (fun _ _ => 0) ⟨#[], #[], []⟩).memory Tryd.f11.params.toList Rows.sessionKnownSpec.vars false (#[] : Array Value).toList 8 = some ([], [], places) :=
  ⟨[], by kernel_rfl⟩

set_option maxRecDepth 100000 in
theorem lifted (os : Os) (started : os.Started) (H : Type) (enc : TypeId × Value → H) (F : Stop.Interp) :
    ReturnsInHanded {} Tryd.checked os 11 .any ((OpenSpec.ofChange Rows.sessionKnownSpec).preRow enc Tryd.prog Tryd.f11 Rows.sessionKnownRow.domain false Rows.sessionKnownRow.laid) (((OpenSpec.ofChange Rows.sessionKnownSpec).at F).post enc Tryd.prog Tryd.f11 false true false false) := by
  obtain ⟨places, hx⟩ := reads os enc
  refine returnsInHanded_of_row (C := Tryd.checked) (s := OpenSpec.ofChange Rows.sessionKnownSpec) own started (by kernel_rfl) Tryd.func11
    (witness_row_at (enc := enc) (C := Tryd.checked) false (laidWorld os ⟨#[], #[], []⟩) #[] rfl (by kernel_rfl) (by kernel_rfl) (by kernel_rfl)
      (OpenSpec.preRow_of_cond 8 hx (by kernel_rfl) (fun k hk => by cases hk) (by kernel_rfl) (laid_met os))) ?_
  intro W base args ds gs before hval hW _ _ _ hL _ _
  exact contract H enc W base args ds gs before hval hW hL

theorem closed : joinedFacts Tryd.prog 11 Tryd.f11 Rows.sessionKnownSpec Rows.sessionKnownRow = true :=
  Go.HL.facts_of (by kernel_rfl) laid1 laid2 (by kernel_rfl) (by kernel_rfl) (by kernel_rfl) (by kernel_rfl) (by kernel_rfl) (by kernel_rfl)
    c9 c10 c11 c12 (by kernel_rfl) (by kernel_rfl) (by kernel_rfl) (by kernel_rfl) (by kernel_rfl) (by kernel_rfl) (by kernel_rfl) (by kernel_rfl) (by kernel_rfl)
    (by kernel_rfl) (by kernel_rfl) heard Tryd.enters Tryd.lifts Tryd.made (by kernel_rfl) (by kernel_rfl) (by kernel_rfl) (by kernel_rfl) (by kernel_rfl)

theorem said : Rows.sessionKnownRow.holds Tryd.pinned (OpenSpec.ofChange Rows.sessionKnownSpec) :=
  OpenClaim.holds_of_cond 11 Tryd.f11 rfl rfl rfl rfl rfl rfl rfl ⟨rfl, rfl, rfl, rfl, rfl⟩ rfl rfl rfl rfl rfl named Tryd.func11 closed
    (of_decide_eq_true inst) (by unfold Func.isWrapper; first | (rw [if_pos (by decide +kernel)]; kernel_rfl) | (rw [if_neg (by decide +kernel)]; exact ⟨rfl, rfl⟩))
    (fun os started H enc _ F => by rw [OpenClaim.pre_eq_preRow]; exact lifted os started H enc F)

theorem plain (f : FuncId) (fn : Func) (hf : Tryd.pinned.checked.prog.funcNamed "interpreter/interpreterlaw22.SessionKnown" = some f) (hfn : Tryd.pinned.checked.prog.funcs[f]? = some fn) :
    true = Tryd.pinned.checked.prog.looks [] ∧ ∀ (j : Nat) t, fn.params[j]? = some t → Tryd.pinned.checked.prog.wantsStandIn t = false := by
  obtain rfl : f = 11 := Option.some.inj ((show Tryd.prog.funcNamed "interpreter/interpreterlaw22.SessionKnown" = some 11 by kernel_rfl).symm.trans hf) |>.symm
  obtain rfl : fn = Tryd.f11 := (Option.some.inj (Tryd.func11.symm.trans hfn)).symm
  refine ⟨by kernel_rfl, fun j t ht => ?_⟩
  rw [Tryd.params11] at ht
  exact absurd ht (by simp)

/-- THE STATEMENT -/
theorem proved : Rows.SessionKnownCardSaid :=
  Claim7.holds_tied_plain_at .later [] _ _ _ _ said (fun _ h => by cases h) (by as_aux_lemma => kernel_rfl) (fun _ h => by cases h) sessionKnown_row_tie (by as_aux_lemma => exact rfl) ⟨by as_aux_lemma => exact rfl, by as_aux_lemma => exact rfl⟩ (by as_aux_lemma => kernel_rfl) (by as_aux_lemma => exact rfl) plain (by as_aux_lemma => kernel_rfl)
#print axioms proved
end Go.Proofs.YtpkhoemonibajaaDoor.sessionKnown
