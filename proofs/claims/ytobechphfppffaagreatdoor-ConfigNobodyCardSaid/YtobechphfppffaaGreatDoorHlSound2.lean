/- The heaplet logic, part 6: soundness of the operations, one by one. -/
import Derived.Test.YtobechphfppffaaGreatDoorHlSound
set_option linter.unusedVariables false
set_option linter.unusedSimpArgs false
namespace Go.HL
open Go
section
variable {P:Program} {F:Nat→Prop} {w0 w:World} {N:Nat} {env:Env} {pv:PV} {hp:HP} {nm:Nat→Nat} {tmps:Array Value}
theorem splice_length:∀ (vs cs:List Value) (o:Nat),(splice cs o vs).length=cs.length
  | [],cs,o=>rfl
  | v::vs,cs,o=>by rw [splice,splice_length vs]; simp
theorem fillF_elim {place:Nat→Option (Nat × Nat)} {n:Nat}:∀ {parts:List (Nat × Value)} {cells:List Value} {c:List Value→Prop},cells.length=n→fillF place n cells parts c →
    ∃ r,Instr.fill place cells.toArray parts=some r.toArray∧c r
  | [],cells,c,_,h=>⟨cells,rfl,h⟩
  | (i,v)::rest,cells,c,hn,h=>by
    unfold fillF at h
    split at h
    · exact h.elim
    · rename_i off size hp
      have key:∀ vs:List Value,v.cells.toList=vs→vs.length=size→off+size≤n→fillF place n (splice cells off vs) rest c→∃ r,Instr.fill place cells.toArray ((i,v)::rest)=some r.toArray∧c r:=by
        intro vs hv hl ho hf
        obtain ⟨r,hr,hc⟩:=fillF_elim (by rw [splice_length]; exact hn) hf
        refine ⟨r,?_,hc⟩
        have hsz:v.cells.size=size:=by rw [← hl,← hv]; simp
        have hfold:∀ (vs:List Value) (off j:Nat) (cells:List Value),((vs.zipIdx j).foldl (fun (cs:Array Value) (x:Value × Nat)=>cs.setIfInBounds (off+x.2) x.1) cells.toArray)=(splice cells (off+j) vs).toArray:=by
          intro vs
          induction vs with
          | nil=>intro off j cells; rfl
          | cons u us ih=>
            intro off j cells
            have:=ih off (j+1) (cells.set (off+j) u)
            simp only [List.zipIdx_cons,List.foldl_cons,splice]
            rw [show off+j+1=off+(j+1) from by omega,← this]
            simp
        have hvc:v.cells=vs.toArray:=by rw [← hv]
        simp only [Instr.fill,hp]
        rw [if_neg (by rw [hvc]; simp; omega)]
        have:=hfold vs off 0 cells
        rw [hvc,← Array.foldl_toList,Array.toList_zipIdx]
        simp only [Nat.add_zero] at this
        rw [this]; exact hr
      unfold cellsV at h
      split at h
      · rename_i cs
        split at h
        · rename_i hl
          split at h
          · rename_i ho; exact key cs rfl hl ho h
          · exact h.elim
        · exact h.elim
      · rename_i v' hne
        split at h
        · rename_i hl
          split at h
          · rename_i ho
            refine key [v] ?_ (by simp [hl]) ho h
            cases v <;> first | rfl | (exfalso; exact hne _ rfl)
          · exact h.elim
        · exact h.elim
theorem zeroT_elim {t:TypeId} {c:List Value→Prop} (h:zeroT P t c):∃ v,(∀ w:World,(zeroValue t).run P w=.ok v w)∧c v.cells.toList:=by
  unfold zeroT at h
  split at h
  · rename_i i hi
    split at h
    · rename_i v hv; exact ⟨v,fun w=>by simp [zeroValue,typeInfo,hi,hv],h⟩
    · exact h.elim
  · exact h.elim
theorem run_places {fs:List Field} (h:fs.all (fun f=>(P.info? f.type).isSome)=true):∀ acc:Array (Nat × Nat),
    (fs.foldlM (fun (bs:Array (Nat × Nat)) (f:Field)=>(do let b ← (do pure (f.offset,← sizeOf f.type):Sem (Nat × Nat)); pure (bs.push b))) acc).run P w=
      .ok (acc++(fs.map fun (f:Field)=>(f.offset,((P.info? f.type).map (·.size)).getD 0)).toArray) w:=by
  induction fs with
  | nil=>intro acc; simp
  | cons f fs ih=>
    intro acc
    simp only [List.all_cons,Bool.and_eq_true] at h
    obtain ⟨i,hi⟩:=Option.isSome_iff_exists.1 h.1
    simp only [List.foldlM_cons,Sem.run_bind]
    have:(sizeOf f.type).run P w=.ok i.size w:=run_size (by rw [hi]; rfl)
    simp only [this,Result.andThen_ok,Sem.run_pure,ih h.2,hi,Option.map_some,Option.getD_some,List.map_cons]
    simp
theorem buildF_run {t:TypeId} {parts:List (Nat × Value)} {c:Value→Prop} (h:buildF P t parts c):∃ v,(Instr.build t parts.toArray).run P w=.ok v w∧c v:=by
  unfold buildF at h
  split at h
  · rename_i fs hu
    split at h
    · rename_i hall
      obtain ⟨z,hz,h⟩:=zeroT_elim h
      obtain ⟨r,hr,h⟩:=fillF_elim (by first | rfl | simp [zerosL]) h
      refine ⟨_,?_,h⟩
      have hpl:=run_places (P:=P) (w:=w) (fs:=fs.toList) (by simpa using hall) #[]
      have:(fs.mapM fun (f:Field)=>(do pure (f.offset,← sizeOf f.type):Sem (Nat × Nat))).run P w=.ok (fs.toList.map fun (f:Field)=>(f.offset,((P.info? f.type).map (·.size)).getD 0)).toArray w:=by
        rw [Array.mapM_eq_foldlM,← Array.foldlM_toList]
        simpa using hpl
      have hplace:(fun i=>(fs.toList.map fun (f:Field)=>(f.offset,((P.info? f.type).map (·.size)).getD 0)).toArray[i]?)=places P fs:=by
        funext i
        simp only [places,List.getElem?_toArray,List.getElem?_map,Array.getElem?_toList]
        cases hfi:fs[i]? with
        | none=>rfl
        | some f=>
          have hm:f∈fs:=Array.mem_of_getElem? hfi
          have:=(Array.all_eq_true_iff_forall_mem.1 hall) f hm
          obtain ⟨j,hj⟩:=Option.isSome_iff_exists.1 this
          simp [hj]
      simp only [Instr.build,Sem.run_bind,hz,Result.andThen_ok,run_underlying hu,this]
      rw [hplace]
      have hr':Instr.fill (places P fs) z.cells parts=some r.toArray:=hr
      rw [hr']; rfl
    · exact h.elim
  · rename_i n e hu
    obtain ⟨s,hs,h⟩:=sizeT_elim h
    obtain ⟨z,hz,h⟩:=zeroT_elim h
    obtain ⟨r,hr,h⟩:=fillF_elim (by first | rfl | simp [zerosL]) h
    refine ⟨_,?_,h⟩
    simp only [Instr.build,Sem.run_bind,hz,Result.andThen_ok,run_underlying hu,run_size hs]
    have hr':Instr.fill (fun i=>some (i*s,s)) z.cells parts=some r.toArray:=hr
    rw [hr']; rfl
  · exact h.elim
theorem zerosL_eq (z:Array Value) (n:Nat) (h:n=0∨z.size≠0):((Array.range n).map fun i=>z[i % z.size]!)=(zerosL z.toList n).toArray:=by
  apply Array.ext'
  simp only [Array.toList_map,Array.toList_range,zerosL]
  rcases h with h | h
  · subst h; rfl
  · apply List.map_congr_left
    intro i _
    have hlt:i % z.size<z.size:=Nat.mod_lt _ (by omega)
    rw [getElem!_pos z _ hlt]
    simp [List.getD,hlt]
theorem buildSF_run {t:TypeId} {n:Nat} {parts:List (Nat × Value)} {K:Value→HP→Prop} (h:buildSF P t n parts hp K):opS P (Instr.buildSlice t n parts.toArray) hp K:=by
  unfold buildSF at h
  split at h
  · rename_i e hu
    obtain ⟨s,hs,h⟩:=sizeT_elim h
    split at h
    · exact h.elim
    · rename_i hle
      obtain ⟨z,hz,h⟩:=zeroT_elim h
      obtain ⟨r,hr,h⟩:=fillF_elim (by first | rfl | simp [zerosL]) h
      intro F w0 w hf
      refine ⟨_,_,_,?_,hf.alloc (.cells ⟨r⟩ e) (Ent.ok_cells e r),h _ hf.fresh⟩
      have hfill:Instr.fill (fun i=>some (i*s,s)) ((Array.range (n*s)).map fun i=>(if n*s=0 then #[] else z.cells)[i % (if n*s=0 then #[] else z.cells).size]!) parts=some r.toArray:=by
        rw [← hr]
        congr 1
        by_cases h0:n*s=0
        · rw [h0]; simp [zerosL]
        · rw [if_neg h0]
          by_cases hzz:z.cells.size=0
          · apply Array.ext'
            simp only [Array.toList_map,Array.toList_range,zerosL]
            apply List.map_congr_left
            intro i _
            have:z.cells=#[]:=Array.eq_empty_of_size_eq_zero hzz
            rw [this]; simp
          · exact zerosL_eq z.cells _ (.inr hzz)
      by_cases h0:n*s=0
      · simp only [h0,if_true] at hfill
        simp only [Instr.buildSlice,Sem.run_bind,run_underlying hu,Result.andThen_ok,run_size hs]
        rw [if_neg (by omega)]
        simp only [h0,if_true,Sem.run_bind,Sem.run_pure,Result.andThen_ok,hfill,run_newRow']
      · simp only [if_neg h0] at hfill
        simp only [Instr.buildSlice,Sem.run_bind,run_underlying hu,Result.andThen_ok,run_size hs]
        rw [if_neg (by omega),if_neg h0]
        simp only [Sem.run_bind,hz,Sem.run_pure,Result.andThen_ok,hfill,run_newRow']
  · exact h.elim
end
end Go.HL
