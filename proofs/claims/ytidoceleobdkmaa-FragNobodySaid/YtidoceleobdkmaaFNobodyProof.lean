/- FragNobodySaid: the row, out of the contract C17 z0 ⟨rfl, rfl⟩ of the law's function. -/
import Derived.Test.YtidoceleobdkmaaQFNobodyProofS
import Derived.Test.YtidoceleobdkmaaRows
import Derived.Test.YtidoceleobdkmaaHlArg2
import Derived.Test.YtidoceleobdkmaaHlArg
import Derived.Test.YtidoceleobdkmaaHlFacts
import Derived.WalkKit
import Derived.ProofKit
import Derived.OpenShut
import Derived.Carry
import Derived.DataShut
namespace Go.Proofs.Ytidoceleobdkmaa.fragNobody
open Go.ChangeShapes Go.WideShapes Go.ChangeAt Go.RowKit
set_option linter.unusedVariables false

theorem laid1 : laidOutB Try.prog = true := by kernel_rfl
theorem laid2 : mapsRowed Try.prog = true := by kernel_rfl
theorem heard : Try.prog.stopsHeard = true := by kernel_rfl
theorem c9 : Rows.fragNobodyRow.inPlace = Try.prog.inPlace 17 := by kernel_rfl
theorem c10 : Rows.fragNobodyRow.unfollowed = Try.prog.unfollowed 17 := by kernel_rfl
theorem c11 : Rows.fragNobodyRow.recurses = Try.prog.recurses 17 := by kernel_rfl
theorem c12 : Rows.fragNobodyRow.named = Try.prog.varsNamed 17 := by kernel_rfl
theorem named : Try.prog.funcNamed Rows.fragNobodyRow.func = some 17 := by kernel_rfl
theorem inst : decide (Try.f17.isInstance Try.prog Rows.fragNobodyRow.origin Rows.fragNobodyRow.targs) = true := by kernel_rfl
theorem own : ownKnob Try.prog.godebug = none := by kernel_rfl

set_option maxRecDepth 100000 in
theorem lifted (os : Os) (started : os.Started) (H : Type) (enc : TypeId × Value → H) :
    ReturnsInHanded {} Try.checked os 17 .any (Rows.fragNobodySpec.pre6 enc Try.prog Try.f17 Rows.fragNobodyRow.domain false) (Rows.fragNobodySpec.post enc Try.prog Try.f17 false true false false) := by
  refine returnsInHanded_of_change (C := Try.checked) own started (by kernel_rfl) Try.func17
    (ChangeSpec.witness6 (enc := enc) (C := Try.checked) false ⟨#[], #[.agg ⟨[.string ⟨#[]⟩, .string ⟨#[]⟩, .int .i64 0, .bool false, .string ⟨#[]⟩, .string ⟨#[]⟩]⟩, .int .i64 0], []⟩ 8 (by kernel_rfl) (by kernel_rfl) (by kernel_rfl) (by kernel_rfl)) ?_
  intro W base args ds gs before hval0 hW hcnd _
  have hval : ∀ (j : Nat) t v, Try.f17.params[j]? = some t → args[j]? = some v → Value.okWide Try.prog W .any base t v := hval0
  have hW' := hW
  obtain ⟨p, q, hA0, hV, rfl, hfz, hnd⟩ := hW
  have hA : DataW.TrodAll enc Try.prog W 0 (fun _ => true) true Try.f17.params.toList args.toList ds p := hA0
  rw [Try.params17] at hA hval
  obtain ⟨v0, vs0, d0, ds0, p0, q0, hargs, rfl, rfl, h0, r0⟩ := trodAll_cons hA
  obtain ⟨v1, vs1, d1, ds1, p1, q1, rfl, rfl, rfl, h1, r1⟩ := trodAll_cons r0
  obtain ⟨rfl, rfl, rfl⟩ := trodAll_nil r1
  obtain rfl : args = #[v0, v1] := by cases args; simp_all
  obtain ⟨rfl, rfl⟩ := trodVars_none hV
  obtain ⟨a1, rfl, rfl, rfl, w1⟩ := open_int Try.underlying3 (hval 1 3 v1 rfl rfl) h1
  have z1 := (Go.Lit.wf_int_iff _ _).1 w1
  obtain ⟨c0, rfl, _⟩ := okWide_struct Try.underlying29 (hval 0 29 v0 rfl rfl)
  have k0 := h0
  have lt0 : ∀ x ∈ p0, x.block < W.heap.size := by obtain ⟨m, hm⟩ := k0; exact DataW.trod_lt m _ _ _ hm
  obtain ⟨a0, z0, rfl⟩ := Go.HL.arg_struct (m := 5) (by kernel_rfl) h0 okAt Go.Proofs.pc dec29
  clear hA0 hval0
  refine (Go.HL.below_all (v := .bool true) (args := [.agg ⟨Go.Proofs.pc a0⟩, .int .i64 a1]) W (by kernel_rfl) ?_).mono fun e W' ⟨he, bel⟩ => ?_
  · exact C17 z0 ⟨rfl, rfl⟩
  · subst he
    exact ⟨_, rfl, _, _, _, [], _, [], hW', trodAll_mk1 (shut_bool Try.underlying4 _), (trodAll_cons_mk (Below.trod laid1 (by kernel_rfl) (of_decide_eq_true (by kernel_rfl)) k0 bel lt0) (trodAll_cons_mk (shut_int Try.underlying3 w1) trodAll_mk0)), rfl, bel.frame _, fun h => by cases h⟩

theorem closed : joinedFacts Try.prog 17 Try.f17 Rows.fragNobodySpec Rows.fragNobodyRow = true :=
  Go.HL.facts_of (by kernel_rfl) laid1 laid2 (by kernel_rfl) (by kernel_rfl) (by kernel_rfl) (by kernel_rfl) (by kernel_rfl) (by kernel_rfl)
    c9 c10 c11 c12 (by kernel_rfl) (by kernel_rfl) (by kernel_rfl) (by kernel_rfl) (by kernel_rfl) (by kernel_rfl) (by kernel_rfl) (by kernel_rfl) (by kernel_rfl)
    (by kernel_rfl) (by kernel_rfl) heard Try.enters Try.lifts Try.made (by kernel_rfl) (by kernel_rfl) (by kernel_rfl) (by kernel_rfl) (by kernel_rfl)

theorem over : Rows.fragNobodyRow.holds Try.pinned (OpenSpec.ofChange Rows.fragNobodySpec) :=
  OpenClaim.holds_of_wide 17 Try.f17 rfl rfl rfl rfl rfl rfl rfl ⟨rfl, rfl, rfl, rfl, rfl⟩ rfl rfl rfl rfl rfl named Try.func17 closed
    (of_decide_eq_true inst) (by unfold Func.isWrapper; first | (rw [if_pos (by decide +kernel)]; kernel_rfl) | (rw [if_neg (by decide +kernel)]; exact ⟨rfl, rfl⟩))
    (fun os started H enc _ => lifted os started H enc)

/-- THE STATEMENT -/
theorem proved : Rows.FragNobodySaid :=
  over
#print axioms proved
end Go.Proofs.Ytidoceleobdkmaa.fragNobody
