/- FragKnownSaid: the row, out of the contract C19 ⟨rfl, rfl⟩ of the law's function. -/
import Derived.Test.YtidoceleobdkmaaQFKnownProofS
import Derived.Test.YtidoceleobdkmaaRows
import Derived.Test.YtidoceleobdkmaaHlArg
import Derived.Test.YtidoceleobdkmaaHlFacts
import Derived.WalkKit
import Derived.ProofKit
import Derived.OpenShut
import Derived.Carry
import Derived.DataShut
namespace Go.Proofs.Ytidoceleobdkmaa.fragKnown
open Go.ChangeShapes Go.WideShapes Go.ChangeAt Go.RowKit
set_option linter.unusedVariables false

theorem laid1 : laidOutB Try.prog = true := by kernel_rfl
theorem laid2 : mapsRowed Try.prog = true := by kernel_rfl
theorem heard : Try.prog.stopsHeard = true := by kernel_rfl
theorem c9 : Rows.fragKnownRow.inPlace = Try.prog.inPlace 19 := by kernel_rfl
theorem c10 : Rows.fragKnownRow.unfollowed = Try.prog.unfollowed 19 := by kernel_rfl
theorem c11 : Rows.fragKnownRow.recurses = Try.prog.recurses 19 := by kernel_rfl
theorem c12 : Rows.fragKnownRow.named = Try.prog.varsNamed 19 := by kernel_rfl
theorem named : Try.prog.funcNamed Rows.fragKnownRow.func = some 19 := by kernel_rfl
theorem inst : decide (Try.f19.isInstance Try.prog Rows.fragKnownRow.origin Rows.fragKnownRow.targs) = true := by kernel_rfl
theorem own : ownKnob Try.prog.godebug = none := by kernel_rfl

set_option maxRecDepth 100000 in
theorem lifted (os : Os) (started : os.Started) (H : Type) (enc : TypeId × Value → H) :
    ReturnsInHanded {} Try.checked os 19 .any (Rows.fragKnownSpec.pre6 enc Try.prog Try.f19 Rows.fragKnownRow.domain false) (Rows.fragKnownSpec.post enc Try.prog Try.f19 false true false false) := by
  refine returnsInHanded_of_change (C := Try.checked) own started (by kernel_rfl) Try.func19
    (ChangeSpec.witness6 (enc := enc) (C := Try.checked) false ⟨#[], #[], []⟩ 8 (by kernel_rfl) (by kernel_rfl) (by kernel_rfl) (by kernel_rfl)) ?_
  intro W base args ds gs before hval0 hW hcnd _
  have hval : ∀ (j : Nat) t v, Try.f19.params[j]? = some t → args[j]? = some v → Value.okWide Try.prog W .any base t v := hval0
  have hW' := hW
  obtain ⟨p, q, hA0, hV, rfl, hfz, hnd⟩ := hW
  have hA : DataW.TrodAll enc Try.prog W 0 (fun _ => true) true Try.f19.params.toList args.toList ds p := hA0
  rw [Try.params19] at hA hval
  obtain ⟨hargs, rfl, rfl⟩ := trodAll_nil hA
  obtain rfl : args = #[] := by cases args; simp_all
  obtain ⟨rfl, rfl⟩ := trodVars_none hV
  clear hA0 hval0
  refine (Go.HL.below_all (v := .bool true) (args := []) W (by kernel_rfl) ?_).mono fun e W' ⟨he, bel⟩ => ?_
  · exact C19 ⟨rfl, rfl⟩
  · subst he
    exact ⟨_, rfl, _, _, _, [], _, [], hW', trodAll_mk1 (shut_bool Try.underlying4 _), trodAll_mk0, rfl, bel.frame _, fun h => by cases h⟩

theorem closed : joinedFacts Try.prog 19 Try.f19 Rows.fragKnownSpec Rows.fragKnownRow = true :=
  Go.HL.facts_of (by kernel_rfl) laid1 laid2 (by kernel_rfl) (by kernel_rfl) (by kernel_rfl) (by kernel_rfl) (by kernel_rfl) (by kernel_rfl)
    c9 c10 c11 c12 (by kernel_rfl) (by kernel_rfl) (by kernel_rfl) (by kernel_rfl) (by kernel_rfl) (by kernel_rfl) (by kernel_rfl) (by kernel_rfl) (by kernel_rfl)
    (by kernel_rfl) (by kernel_rfl) heard Try.enters Try.lifts Try.made (by kernel_rfl) (by kernel_rfl) (by kernel_rfl) (by kernel_rfl) (by kernel_rfl)

theorem over : Rows.fragKnownRow.holds Try.pinned (OpenSpec.ofChange Rows.fragKnownSpec) :=
  OpenClaim.holds_of_wide 19 Try.f19 rfl rfl rfl rfl rfl rfl rfl ⟨rfl, rfl, rfl, rfl, rfl⟩ rfl rfl rfl rfl rfl named Try.func19 closed
    (of_decide_eq_true inst) (by unfold Func.isWrapper; first | (rw [if_pos (by decide +kernel)]; kernel_rfl) | (rw [if_neg (by decide +kernel)]; exact ⟨rfl, rfl⟩))
    (fun os started H enc _ => lifted os started H enc)

/-- THE STATEMENT -/
theorem proved : Rows.FragKnownSaid :=
  over
#print axioms proved
end Go.Proofs.Ytidoceleobdkmaa.fragKnown
