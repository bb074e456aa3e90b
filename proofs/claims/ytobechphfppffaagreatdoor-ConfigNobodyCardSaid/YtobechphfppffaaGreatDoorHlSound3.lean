/- The heaplet logic, part 7: slices, binary operations, calls; the whole operation. -/
import Derived.Test.YtobechphfppffaaGreatDoorHlSound2
set_option linter.unusedVariables false
set_option linter.unusedSimpArgs false
namespace Go.HL
open Go
section
variable {P:Program} {F:Nat→Prop} {w0 w:World} {N:Nat} {env:Env} {pv:PV} {hp:HP} {nm:Nat→Nat} {tmps:Array Value}
theorem run_bound {k:IntKind} {i:Int} {y:Nat} {code:BoundsCode} (h0:0≤i) (h1:i≤y):(Instr.sliceBound (.int k i) y code).run P w=.ok i.toNat w:=by
  simp [Instr.sliceBound,asIntOf,h0,h1]
theorem sub0_zero (a:Option Addr) (m z:Nat):sub0 a m 0 z=a:=by
  unfold sub0; split
  · rfl
  · cases a <;> simp [Addr.add]
theorem sliceSF_run {t:TypeId} {x:Value} {lo hi mx:Option Value} {c:Value→Prop} (h:sliceSF P t x lo hi mx c):∃ v,(Instr.sliceAt t x lo hi mx).run P w=.ok v w∧c v:=by
  unfold sliceSF at h
  split at h
  · rename_i s hu; exact ⟨_,by simp [Instr.sliceAt,Instr.slice,underlying,hu,Instr.sliceBounds],h⟩
  · rename_i s k l hu
    have e:((l.toNat:Nat):Int)=l:=Int.toNat_of_nonneg h.1
    exact ⟨_,by simp [Instr.sliceAt,Instr.slice,underlying,hu,Instr.sliceBounds,run_bound h.1 h.2.1],h.2.2⟩
  · rename_i s k l hu
    exact ⟨_,by simp [Instr.sliceAt,Instr.slice,underlying,hu,Instr.sliceBounds,run_bound h.1 h.2.1],h.2.2⟩
  · rename_i s k l k' r hu
    have:(Instr.sliceBound (.int k l) r.toNat .sliceB).run P w=.ok l.toNat w:=run_bound h.1 (by have:=h.2.1; omega)
    exact ⟨_,by simp [Instr.sliceAt,Instr.slice,underlying,hu,Instr.sliceBounds,run_bound (Int.le_trans h.1 h.2.1) h.2.2.1,this],h.2.2.2⟩
  · rename_i e a n m hu
    obtain ⟨z,hz,h⟩:=sizeT_elim h
    refine ⟨.slice a n m,?_,h⟩
    have h0:=sub0_zero a m z
    unfold sub0 at h0
    simp [Instr.sliceAt,Instr.slice,underlying,hu,Instr.sliceBounds,run_size hz]
    simpa using h0
  · rename_i e a n m k l hu
    obtain ⟨z,hz,h'⟩:=sizeT_elim h.2.2.2
    refine ⟨_,?_,h'⟩
    simp [Instr.sliceAt,Instr.slice,underlying,hu,Instr.sliceBounds,run_bound h.1 h.2.1,run_size hz,sub0]
  · rename_i e a n m k r hu
    obtain ⟨z,hz,h'⟩:=sizeT_elim h.2.2
    refine ⟨_,?_,h'⟩
    have h0:=sub0_zero a m z
    unfold sub0 at h0
    simp [Instr.sliceAt,Instr.slice,underlying,hu,Instr.sliceBounds,run_bound h.1 h.2.1,run_size hz]
    simpa using h0
  · rename_i e a n m k l k' r hu
    obtain ⟨z,hz,h'⟩:=sizeT_elim h.2.2.2
    refine ⟨_,?_,h'⟩
    have:(Instr.sliceBound (.int k l) r.toNat .sliceB).run P w=.ok l.toNat w:=run_bound h.1 (by have:=h.2.1; omega)
    simp [Instr.sliceAt,Instr.slice,underlying,hu,Instr.sliceBounds,run_bound (Int.le_trans h.1 h.2.1) h.2.2.1,this,run_size hz,sub0]
  · rename_i e a n m k r k' x hu
    obtain ⟨z,hz,h'⟩:=sizeT_elim h.2.2.2
    refine ⟨_,?_,h'⟩
    have h1:(Instr.sliceBound (.int k r) x.toNat .slice3B).run P w=.ok r.toNat w:=run_bound h.1 (by have:=h.2.1; omega)
    have h0:=sub0_zero a x.toNat z
    unfold sub0 at h0
    simp [Instr.sliceAt,Instr.slice,underlying,hu,Instr.sliceBounds,run_bound (Int.le_trans h.1 h.2.1) h.2.2.1,h1,run_size hz]
    simpa using h0
  · rename_i e a n m k l k' r k'' x hu
    obtain ⟨z,hz,h'⟩:=sizeT_elim h.2.2.2.2
    refine ⟨_,?_,h'⟩
    have h1:(Instr.sliceBound (.int k' r) x.toNat .slice3B).run P w=.ok r.toNat w:=run_bound (Int.le_trans h.1 h.2.1) (by have:=h.2.2.1; omega)
    have h2:(Instr.sliceBound (.int k l) r.toNat .slice3C).run P w=.ok l.toNat w:=run_bound h.1 (by have:=h.2.1; omega)
    simp [Instr.sliceAt,Instr.slice,underlying,hu,Instr.sliceBounds,run_bound (Int.le_trans h.1 (Int.le_trans h.2.1 h.2.2.1)) h.2.2.2.1,h1,h2,run_size hz,sub0]
  · rename_i n e a hu
    obtain ⟨b,o,e1,h1⟩:=ptrN_elim h
    obtain ⟨z,hz,h2⟩:=sizeT_elim h1
    refine ⟨_,?_,h2⟩
    simp [Instr.sliceAt,underlying,hu,e1,Instr.sureAddr,Instr.sliceBounds,run_size hz,Addr.add]
  · rename_i n e a k r hu
    obtain ⟨b,o,e1,h1⟩:=ptrN_elim h.2.2
    obtain ⟨z,hz,h2⟩:=sizeT_elim h1
    refine ⟨_,?_,h2⟩
    simp [Instr.sliceAt,underlying,hu,e1,Instr.sureAddr,Instr.sliceBounds,run_bound h.1 h.2.1,run_size hz,Addr.add]
  · rename_i n e a k l hu
    obtain ⟨b,o,e1,h1⟩:=ptrN_elim h.2.2
    obtain ⟨z,hz,h2⟩:=sizeT_elim h1
    refine ⟨_,?_,h2⟩
    simp [Instr.sliceAt,underlying,hu,e1,Instr.sureAddr,Instr.sliceBounds,run_bound h.1 h.2.1,run_size hz,sub0]
    split <;> rfl
  · rename_i n e a k l k' r hu
    obtain ⟨b,o,e1,h1⟩:=ptrN_elim h.2.2.2
    obtain ⟨z,hz,h2⟩:=sizeT_elim h1
    refine ⟨_,?_,h2⟩
    have h3:(Instr.sliceBound (.int k l) r.toNat .sliceB).run P w=.ok l.toNat w:=run_bound h.1 (by have:=h.2.1; omega)
    simp [Instr.sliceAt,underlying,hu,e1,Instr.sureAddr,Instr.sliceBounds,run_bound (Int.le_trans h.1 h.2.1) h.2.2.1,h3,run_size hz,sub0]
    split <;> rfl
  · exact h.elim
theorem semV_of_run {s:Sem Value} {c:Value→Prop} (h:semV P s c):opS P s hp fun v hp'=>hp'=hp∧c v:=opS_of_semV h
theorem equalIn_ptr {d:Nat} {t e:TypeId} {a:Option Addr} (hu:P.underlying t=some (.pointer e)) (w:World):(Op.equalIn (d+1) t (.pointer a) (.pointer none)).run P w=.ok a.isNone w:=by
  cases a <;> simp [Op.equalIn,run_underlying hu]
theorem equalIn_map {d:Nat} {t k e:TypeId} {a:Option Nat} (hu:P.underlying t=some (.map k e)) (w:World):(Op.equalIn (d+1) t (.map a) (.map none)).run P w=.ok a.isNone w:=by
  cases a <;> simp [Op.equalIn,run_underlying hu]
theorem equalIn_slc {d:Nat} {t e:TypeId} {a:Option Addr} {n m n' m':Nat} (hu:P.underlying t=some (.slice e)) (w:World):(Op.equalIn (d+1) t (.slice a n m) (.slice none n' m')).run P w=.ok a.isNone w:=by
  cases a <;> simp [Op.equalIn,run_underlying hu]
theorem equal_ptr {t e:TypeId} {a:Option Addr} (hu:P.underlying t=some (.pointer e)) (w:World):(Op.equal t (.pointer a) (.pointer none)).run P w=.ok a.isNone w:=equalIn_ptr (d:=9999) hu w
theorem equal_map {t k e:TypeId} {a:Option Nat} (hu:P.underlying t=some (.map k e)) (w:World):(Op.equal t (.map a) (.map none)).run P w=.ok a.isNone w:=equalIn_map (d:=9999) hu w
theorem equal_slc {t e:TypeId} {a:Option Addr} {n m n' m':Nat} (hu:P.underlying t=some (.slice e)) (w:World):(Op.equal t (.slice a n m) (.slice none n' m')).run P w=.ok a.isNone w:=equalIn_slc (d:=9999) hu w
theorem binF_opS {op:BinOp} {t:TypeId} {x y:Operand} {a b:Value} {c:Value→Prop} (h:binF P op t x y a b c) :
    opS P (do eqGuard op t x y a b; binOp op t a b) hp fun v hp'=>hp'=hp∧c v:=by
  have pu:∀ v,(∀ w:World,(do eqGuard op t x y a b; binOp op t a b:Sem Value).run P w=.ok v w)→c v→opS P (do eqGuard op t x y a b; binOp op t a b) hp fun v hp'=>hp'=hp∧c v:=
    fun v hr hc _ _ w hf=>⟨v,w,hp,hr w,hf,rfl,hc⟩
  unfold binF at h
  split at h
  · rename_i a b
    refine pu _ (fun w=>?_) h.2
    have hle:¬ ((a.size+b.size:Nat):Int) > IntKind.i64.max:=by
      have:IntKind.i64.max=9223372036854775807:=rfl
      rw [this]; have:=h.1; omega
    simp only [eqGuard,binOp,Op.stringOp]
    simp only [Sem.run_bind,if_neg hle]
    simp
  · refine pu _ (fun w=>?_) h
    simp [eqGuard,binOp,Op.stringOp]
  · refine pu _ (fun w=>?_) h
    simp [eqGuard,binOp,Op.stringOp]
  · split at h
    · rename_i hk
      subst hk
      refine pu _ (fun w=>?_) h.2
      simp [eqGuard,binOp,Op.intDiv,h.1]
    · exact h.elim
  · split at h
    · rename_i hk
      subst hk
      refine pu _ (fun w=>?_) h.2
      simp [eqGuard,binOp,Op.intDiv,h.1]
    · exact h.elim
  · refine pu _ (fun w=>?_) h.2
    have:=h.1
    simp [eqGuard,binOp,Op.shift]; omega
  · refine pu _ (fun w=>?_) h.2
    have:=h.1
    simp [eqGuard,binOp,Op.shift]; omega
  · split at h
    · rename_i hu
      exact pu _ (fun w=>by simp only [eqGuard,binOp]; simp [equal_ptr hu]) h
    · exact h.elim
  · split at h
    · rename_i hu
      exact pu _ (fun w=>by simp only [eqGuard,binOp]; simp [equal_ptr hu]) h
    · exact h.elim
  · split at h
    · rename_i hu
      exact pu _ (fun w=>by simp only [eqGuard,binOp]; simp [equal_map hu]) h
    · exact h.elim
  · split at h
    · rename_i hu
      exact pu _ (fun w=>by simp only [eqGuard,binOp]; simp [equal_map hu]) h
    · exact h.elim
  · split at h
    · rename_i hu
      exact pu _ (fun w=>by simp only [eqGuard,binOp]; simp [equal_slc hu]) h
    · exact h.elim
  · split at h
    · rename_i hu
      exact pu _ (fun w=>by simp only [eqGuard,binOp]; simp [equal_slc hu]) h
    · exact h.elim
  · rename_i xs ys
    split at h
    · exact h.elim
    · rename_i hg
      obtain ⟨r,hr,hc⟩:=h
      refine pu _ (fun w=>?_) hc
      have:=hr (fun _=>False) w w ⟨fun b=>trivial,fun _ h=>h.elim,rfl,rfl,rfl,Nat.le_refl _⟩
      simp only [Bool.not_eq_true] at hg
      have hpr:∀ w:World,(program).run P w=.ok P w:=fun _=>rfl
      simp only [eqGuard,binOp]
      simp [hpr,hg,this]
  · rename_i xs ys
    split at h
    · exact h.elim
    · rename_i hg
      obtain ⟨r,hr,hc⟩:=h
      refine pu _ (fun w=>?_) hc
      have:=hr (fun _=>False) w w ⟨fun b=>trivial,fun _ h=>h.elim,rfl,rfl,rfl,Nat.le_refl _⟩
      simp only [Bool.not_eq_true] at hg
      have hpr:∀ w:World,(program).run P w=.ok P w:=fun _=>rfl
      simp only [eqGuard,binOp]
      simp [hpr,hg,this]
  · exact semV_of_run h
end
end Go.HL
