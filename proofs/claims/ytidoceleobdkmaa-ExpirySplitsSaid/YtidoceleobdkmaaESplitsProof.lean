/- ExpirySplitsSaid: the row, out of the contract C5 hs0 hl0 hs1 hl1 ⟨rfl, rfl⟩ of the law's function. -/
import Derived.Test.YtidoceleobdkmaaQESplitsProofS
import Derived.Test.YtidoceleobdkmaaRows
import Derived.Test.YtidoceleobdkmaaHlArg
import Derived.Test.YtidoceleobdkmaaHlFacts
import Derived.WalkKit
import Derived.ProofKit
import Derived.OpenShut
import Derived.Carry
import Derived.DataShut
namespace Go.Proofs.Ytidoceleobdkmaa.expirySplits
open Go.ChangeShapes Go.WideShapes Go.ChangeAt Go.RowKit
set_option linter.unusedVariables false

theorem laid1 : laidOutB Try.prog = true := by kernel_rfl
theorem laid2 : mapsRowed Try.prog = true := by kernel_rfl
theorem heard : Try.prog.stopsHeard = true := by kernel_rfl
theorem c9 : Rows.expirySplitsRow.inPlace = Try.prog.inPlace 5 := by kernel_rfl
theorem c10 : Rows.expirySplitsRow.unfollowed = Try.prog.unfollowed 5 := by kernel_rfl
theorem c11 : Rows.expirySplitsRow.recurses = Try.prog.recurses 5 := by kernel_rfl
theorem c12 : Rows.expirySplitsRow.named = Try.prog.varsNamed 5 := by kernel_rfl
theorem named : Try.prog.funcNamed Rows.expirySplitsRow.func = some 5 := by kernel_rfl
theorem inst : decide (Try.f5.isInstance Try.prog Rows.expirySplitsRow.origin Rows.expirySplitsRow.targs) = true := by kernel_rfl
theorem own : ownKnob Try.prog.godebug = none := by kernel_rfl

set_option maxRecDepth 100000 in
theorem lifted (os : Os) (started : os.Started) (H : Type) (enc : TypeId × Value → H) :
    ReturnsInHanded {} Try.checked os 5 .any (Rows.expirySplitsSpec.pre6 enc Try.prog Try.f5 Rows.expirySplitsRow.domain false) (Rows.expirySplitsSpec.post enc Try.prog Try.f5 false true false false) := by
  refine returnsInHanded_of_change (C := Try.checked) own started (by kernel_rfl) Try.func5
    (ChangeSpec.witness6 (enc := enc) (C := Try.checked) false ⟨#[], #[.slice none 0 0, .slice none 0 0, .int .i64 0], []⟩ 8 (by kernel_rfl) (by kernel_rfl) (by kernel_rfl) (by kernel_rfl)) ?_
  intro W base args ds gs before hval0 hW hcnd _
  have hval : ∀ (j : Nat) t v, Try.f5.params[j]? = some t → args[j]? = some v → Value.okWide Try.prog W .any base t v := hval0
  have hW' := hW
  obtain ⟨p, q, hA0, hV, rfl, hfz, hnd⟩ := hW
  have hA : DataW.TrodAll enc Try.prog W 0 (fun _ => true) true Try.f5.params.toList args.toList ds p := hA0
  rw [Try.params5] at hA hval
  obtain ⟨v0, vs0, d0, ds0, p0, q0, hargs, rfl, rfl, h0, r0⟩ := trodAll_cons hA
  obtain ⟨v1, vs1, d1, ds1, p1, q1, rfl, rfl, rfl, h1, r1⟩ := trodAll_cons r0
  obtain ⟨v2, vs2, d2, ds2, p2, q2, rfl, rfl, rfl, h2, r2⟩ := trodAll_cons r1
  obtain ⟨rfl, rfl, rfl⟩ := trodAll_nil r2
  obtain rfl : args = #[v0, v1, v2] := by cases args; simp_all
  obtain ⟨rfl, rfl⟩ := trodVars_none hV
  obtain ⟨a0, n0, c0, rfl⟩ := okWide_slice Try.underlying24 (hval 0 24 v0 rfl rfl)
  have k0 := h0
  have lt0 : ∀ x ∈ p0, x.block < W.heap.size := by obtain ⟨m, hm⟩ := k0; exact DataW.trod_lt m _ _ _ hm
  obtain ⟨l0, hl0, hn0, hc0, ho0, hs0⟩ := Go.HL.arg_slice (m := 5) (size := 1) Try.underlying24 (by kernel_rfl) (by kernel_rfl) (by decide) h0 okI Go.Proofs.i1 i1_len decI
  obtain ⟨a1, n1, c1, rfl⟩ := okWide_slice Try.underlying24 (hval 1 24 v1 rfl rfl)
  have k1 := h1
  have lt1 : ∀ x ∈ p1, x.block < W.heap.size := by obtain ⟨m, hm⟩ := k1; exact DataW.trod_lt m _ _ _ hm
  obtain ⟨l1, hl1, hn1, hc1, ho1, hs1⟩ := Go.HL.arg_slice (m := 5) (size := 1) Try.underlying24 (by kernel_rfl) (by kernel_rfl) (by decide) h1 okI Go.Proofs.i1 i1_len decI
  obtain ⟨a2, rfl, rfl, rfl, w2⟩ := open_int Try.underlying3 (hval 2 3 v2 rfl rfl) h2
  have z2 := (Go.Lit.wf_int_iff _ _).1 w2
  clear hA0 hval0
  refine (Go.HL.below_all (v := .bool true) (args := [.slice a0 n0 c0, .slice a1 n1 c1, .int .i64 a2]) W (by kernel_rfl) ?_).mono fun e W' ⟨he, bel⟩ => ?_
  · exact C5 hs0 hl0 hs1 hl1 ⟨rfl, rfl⟩
  · subst he
    exact ⟨_, rfl, _, _, _, [], _, [], hW', trodAll_mk1 (shut_bool Try.underlying4 _), (trodAll_cons_mk (Below.trod laid1 (by kernel_rfl) (of_decide_eq_true (by kernel_rfl)) k0 bel lt0) (trodAll_cons_mk (Below.trod laid1 (by kernel_rfl) (of_decide_eq_true (by kernel_rfl)) k1 bel lt1) (trodAll_cons_mk (shut_int Try.underlying3 w2) trodAll_mk0))), rfl, bel.frame _, fun h => by cases h⟩

theorem closed : joinedFacts Try.prog 5 Try.f5 Rows.expirySplitsSpec Rows.expirySplitsRow = true :=
  Go.HL.facts_of (by kernel_rfl) laid1 laid2 (by kernel_rfl) (by kernel_rfl) (by kernel_rfl) (by kernel_rfl) (by kernel_rfl) (by kernel_rfl)
    c9 c10 c11 c12 (by kernel_rfl) (by kernel_rfl) (by kernel_rfl) (by kernel_rfl) (by kernel_rfl) (by kernel_rfl) (by kernel_rfl) (by kernel_rfl) (by kernel_rfl)
    (by kernel_rfl) (by kernel_rfl) heard Try.enters Try.lifts Try.made (by kernel_rfl) (by kernel_rfl) (by kernel_rfl) (by kernel_rfl) (by kernel_rfl)

theorem over : Rows.expirySplitsRow.holds Try.pinned (OpenSpec.ofChange Rows.expirySplitsSpec) :=
  OpenClaim.holds_of_wide 5 Try.f5 rfl rfl rfl rfl rfl rfl rfl ⟨rfl, rfl, rfl, rfl, rfl⟩ rfl rfl rfl rfl rfl named Try.func5 closed
    (of_decide_eq_true inst) (by unfold Func.isWrapper; first | (rw [if_pos (by decide +kernel)]; kernel_rfl) | (rw [if_neg (by decide +kernel)]; exact ⟨rfl, rfl⟩))
    (fun os started H enc _ => lifted os started H enc)

/-- THE STATEMENT -/
theorem proved : Rows.ExpirySplitsSaid :=
  over
#print axioms proved
end Go.Proofs.Ytidoceleobdkmaa.expirySplits
