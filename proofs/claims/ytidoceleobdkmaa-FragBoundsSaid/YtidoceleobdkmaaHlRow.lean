/- The heaplet logic in use, part 5: from a contract to what a row asks. -/
import Derived.Test.YtidoceleobdkmaaHlLib
import Derived.Below
import Derived.ProofKit
import Derived.OpenShut
namespace Go.HL
open Go

/-- What is known of the arguments is known; what is there stays, but for what is known. -/
theorem below_of {P : Program} {f : FuncId} {args : List Value} {v : Value} (hb : bodied P f = true) (h : CF P f args (fun _ => .none) fun u _ => u = v) (w : World) :
    Calls P f args.toArray w fun e w' => e = .returned v ∧ RowKit.Below w.heap.size w w' := by
  have hf : Fits (fun b => b < w.heap.size) w (fun _ => .none) w := ⟨fun _ => trivial, fun b hb => ⟨rfl, hb, rfl⟩, rfl, rfl, rfl, Nat.le_refl _⟩
  refine (h.ac hb (fun b => b < w.heap.size) w hf).mono ?_
  rintro e w' ⟨u, hp', rfl, hf, rfl⟩
  exact ⟨rfl, hf.os, hf.tape, hf.output, hf.size, fun k hk => (hf.fr k hk).2.2⟩

open Go.ChangeShapes Go.WideShapes in
/-- 'post' behind a call that turns nothing of old: by 'Below'. -/
theorem post_of_below {H : Type} {enc : TypeId × Value → H} {P : Program} {f : Func} {s : ChangeSpec} {apart fresh handsOn again : Bool} {W W' : World} {args : Array Value} {v : Value} {ds gs : List (DataW H)} {before pa pv : List MemPlace}
    (hW : DataW.Whole enc P f.params.toList s.vars apart W args.toList ds gs before)
    (hres : ∀ (b : Nat) (sp : Nat → Bool) (hd : Bool), DataW.TrodAll enc P W' b sp hd f.resultTypes.toList (v.resultList f.resultTypes.size) (s.fn H (ds ++ gs)).results [])
    (hargs : ∀ sp : Nat → Bool, (∀ p ∈ before, sp p.block = true) → DataW.TrodAll enc P W' 0 sp true f.params.toList args.toList (s.fn H (ds ++ gs)).args pa)
    (hvars : ∀ sp : Nat → Bool, (∀ p ∈ before, sp p.block = true) → DataW.TrodVars enc P W' sp s.vars (s.fn H (ds ++ gs)).vars pv)
    (hps : before = pa ++ pv) (hb : RowKit.Below W.heap.size W W')
    (hok : ∀ (j : Nat) (t : TypeId) (r : Value), f.resultTypes[j]? = some t → (v.resultList f.resultTypes.size)[j]? = some r → Value.okWide P W' .any 0 t r) :
    s.post enc P f apart fresh handsOn again W args v W' := by
  have hlt := hW.lt
  have hold : ∀ p ∈ before, (fun b => decide (b < W.heap.size)) p.block = true := fun p hp => by simpa using hlt p hp
  refine ⟨ds, gs, before, [], pa, pv, hW, hres _ _ _, hargs _ hold, hvars _ hold, World.keptBut_mono (fun p hp => ⟨hp, ?_⟩) (hb.frame (· ∈ before)), fun _ => ?_⟩
  · rw [hps, List.mem_append] at hp
    exact Or.inr hp
  · obtain ⟨_, _, _, _, _, hz, hn⟩ := hW
    refine ⟨hok, _, _, ([] ++ pa) ++ pv, ⟨[] ++ pa, pv, trodAll_append (hargs _ (fun _ _ => rfl)) (hres _ _ _), hvars _ (fun _ _ => rfl), rfl, ?_, ?_⟩, ?_⟩
    · intro b off hp
      have hp' : MemPlace.cell b off ∈ before := by rw [hps]; simpa using hp
      have hbl : b < W.heap.size := hlt _ hp'
      rw [hb.frozen (p := ⟨b, off, _⟩) hbl]
      exact hz b off hp'
    · intro ha
      have := hn ha
      rw [hps] at this
      simpa using this
    · intro p hp _
      rw [hps]
      simpa using hp
end Go.HL
