/- ExpiryOnceSaid: the row, out of the contract C6 hs0 hl0 ⟨rfl, rfl⟩ of the law's function. -/
import Derived.Test.YtidoceleobdkmaaQOnceProofS
import Derived.Test.YtidoceleobdkmaaRows
import Derived.Test.YtidoceleobdkmaaHlArg
import Derived.Test.YtidoceleobdkmaaHlFacts
import Derived.WalkKit
import Derived.ProofKit
import Derived.OpenShut
import Derived.Carry
import Derived.DataShut
namespace Go.Proofs.Ytidoceleobdkmaa.expiryOnce
open Go.ChangeShapes Go.WideShapes Go.ChangeAt Go.RowKit
set_option linter.unusedVariables false

theorem laid1 : laidOutB Try.prog = true := by kernel_rfl
theorem laid2 : mapsRowed Try.prog = true := by kernel_rfl
theorem heard : Try.prog.stopsHeard = true := by kernel_rfl
theorem c9 : Rows.expiryOnceRow.inPlace = Try.prog.inPlace 6 := by kernel_rfl
theorem c10 : Rows.expiryOnceRow.unfollowed = Try.prog.unfollowed 6 := by kernel_rfl
theorem c11 : Rows.expiryOnceRow.recurses = Try.prog.recurses 6 := by kernel_rfl
theorem c12 : Rows.expiryOnceRow.named = Try.prog.varsNamed 6 := by kernel_rfl
theorem named : Try.prog.funcNamed Rows.expiryOnceRow.func = some 6 := by kernel_rfl
theorem inst : decide (Try.f6.isInstance Try.prog Rows.expiryOnceRow.origin Rows.expiryOnceRow.targs) = true := by kernel_rfl
theorem own : ownKnob Try.prog.godebug = none := by kernel_rfl

set_option maxRecDepth 100000 in
theorem lifted (os : Os) (started : os.Started) (H : Type) (enc : TypeId × Value → H) :
    ReturnsInHanded {} Try.checked os 6 .any (Rows.expiryOnceSpec.pre6 enc Try.prog Try.f6 Rows.expiryOnceRow.domain false) (Rows.expiryOnceSpec.post enc Try.prog Try.f6 false true false false) := by
  refine returnsInHanded_of_change (C := Try.checked) own started (by kernel_rfl) Try.func6
    (ChangeSpec.witness6 (enc := enc) (C := Try.checked) false ⟨#[], #[.slice none 0 0], []⟩ 8 (by kernel_rfl) (by kernel_rfl) (by kernel_rfl) (by kernel_rfl)) ?_
  intro W base args ds gs before hval0 hW hcnd _
  have hval : ∀ (j : Nat) t v, Try.f6.params[j]? = some t → args[j]? = some v → Value.okWide Try.prog W .any base t v := hval0
  have hW' := hW
  obtain ⟨p, q, hA0, hV, rfl, hfz, hnd⟩ := hW
  have hA : DataW.TrodAll enc Try.prog W 0 (fun _ => true) true Try.f6.params.toList args.toList ds p := hA0
  rw [Try.params6] at hA hval
  obtain ⟨v0, vs0, d0, ds0, p0, q0, hargs, rfl, rfl, h0, r0⟩ := trodAll_cons hA
  obtain ⟨rfl, rfl, rfl⟩ := trodAll_nil r0
  obtain rfl : args = #[v0] := by cases args; simp_all
  obtain ⟨rfl, rfl⟩ := trodVars_none hV
  obtain ⟨a0, n0, c0, rfl⟩ := okWide_slice Try.underlying48 (hval 0 48 v0 rfl rfl)
  have k0 := h0
  have lt0 : ∀ x ∈ p0, x.block < W.heap.size := by obtain ⟨m, hm⟩ := k0; exact DataW.trod_lt m _ _ _ hm
  obtain ⟨l0, hl0, hn0, hc0, ho0, hs0⟩ := Go.HL.arg_slice (m := 5) (size := 3) Try.underlying48 (by kernel_rfl) (by kernel_rfl) (by decide) h0 okAc Go.Proofs.ac ac_len dec51
  clear hA0 hval0
  refine (Go.HL.below_all (v := .bool true) (args := [.slice a0 n0 c0]) W (by kernel_rfl) ?_).mono fun e W' ⟨he, bel⟩ => ?_
  · exact C6 hs0 hl0 ⟨rfl, rfl⟩
  · subst he
    exact ⟨_, rfl, _, _, _, [], _, [], hW', trodAll_mk1 (shut_bool Try.underlying4 _), (trodAll_cons_mk (Below.trod laid1 (by kernel_rfl) (of_decide_eq_true (by kernel_rfl)) k0 bel lt0) trodAll_mk0), rfl, bel.frame _, fun h => by cases h⟩

theorem closed : joinedFacts Try.prog 6 Try.f6 Rows.expiryOnceSpec Rows.expiryOnceRow = true :=
  Go.HL.facts_of (by kernel_rfl) laid1 laid2 (by kernel_rfl) (by kernel_rfl) (by kernel_rfl) (by kernel_rfl) (by kernel_rfl) (by kernel_rfl)
    c9 c10 c11 c12 (by kernel_rfl) (by kernel_rfl) (by kernel_rfl) (by kernel_rfl) (by kernel_rfl) (by kernel_rfl) (by kernel_rfl) (by kernel_rfl) (by kernel_rfl)
    (by kernel_rfl) (by kernel_rfl) heard Try.enters Try.lifts Try.made (by kernel_rfl) (by kernel_rfl) (by kernel_rfl) (by kernel_rfl) (by kernel_rfl)

theorem over : Rows.expiryOnceRow.holds Try.pinned (OpenSpec.ofChange Rows.expiryOnceSpec) :=
  OpenClaim.holds_of_wide 6 Try.f6 rfl rfl rfl rfl rfl rfl rfl ⟨rfl, rfl, rfl, rfl, rfl⟩ rfl rfl rfl rfl rfl named Try.func6 closed
    (of_decide_eq_true inst) (by unfold Func.isWrapper; first | (rw [if_pos (by decide +kernel)]; kernel_rfl) | (rw [if_neg (by decide +kernel)]; exact ⟨rfl, rfl⟩))
    (fun os started H enc _ => lifted os started H enc)

/-- THE STATEMENT -/
theorem proved : Rows.ExpiryOnceSaid :=
  over
#print axioms proved
end Go.Proofs.Ytidoceleobdkmaa.expiryOnce
