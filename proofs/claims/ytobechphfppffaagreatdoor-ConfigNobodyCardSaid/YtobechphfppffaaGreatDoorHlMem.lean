/- The heaplet logic, part 4: memory: what a world that fits answers. -/
import Derived.Test.YtobechphfppffaaGreatDoorHlExec
set_option linter.unusedVariables false
set_option linter.unusedSimpArgs false
namespace Go.HL
open Go
section
variable {P:Program} {F:Nat→Prop} {w0 w:World} {hp:HP}
theorem World.setCell_get (w:World) (b o:Nat) (v:Value) (x:Nat):(w.setCell ⟨b,o,none⟩ v).heap[x]?=
    if b=x then (match w.heap[x]? with | some (.cells c e f)=>some (.cells (c.setIfInBounds o v) e f) | y=>y) else w.heap[x]?:=by
  simp only [World.setCell,Array.getElem?_modify]
  split
  · cases h:w.heap[x]? with
    | none=>simp
    | some y=>cases y <;> simp
  · rfl
theorem cell_of {b o:Nat} {e:TypeId} {cs rest:List Value} {f:Nat × Nat} (h:w.heap[b]?=some (.cells (cs++rest).toArray e f)) (ho:o<cs.length) :
    w.cell? ⟨b,o,none⟩=cs[o]?:=by
  simp only [World.cell?,h]
  simp [List.getElem?_append_left ho]
theorem frozen_of {b o:Nat} {c:Array Value} {e:TypeId} (h:w.heap[b]?=some (.cells c e (0,0))):w.frozen? ⟨b,o,none⟩=false:=by
  simp [World.frozen?,h]
theorem Fits.cell (h:Fits F w0 hp w) {b o:Nat} {v:Value} (hv:hp.cell b o=some v):w.cell? ⟨b,o,none⟩=some v:=by
  unfold HP.cell at hv
  split at hv
  · rename_i e cs sp hb
    obtain ⟨rest,_,hw⟩:=(hb▸h.ent b:(Ent.cells e cs sp).ok _)
    have ho:o<cs.length:=by
      rcases Nat.lt_or_ge o cs.length with h | h
      · exact h
      · rw [List.getElem?_eq_none h] at hv; cases hv
    rw [cell_of hw ho,hv]
  · rename_i c e f hb
    have hw:w.heap[b]?=some (.cells c e f):=by have:=h.ent b; rw [hb] at this; exact this
    have ho:o<c.toList.length:=by
      rcases Nat.lt_or_ge o c.toList.length with h | h
      · exact h
      · rw [List.getElem?_eq_none h] at hv; cases hv
    have:=cell_of (w:=w) (b:=b) (o:=o) (e:=e) (cs:=c.toList) (rest:=[]) (f:=f) (by simpa using hw) ho
    rw [this,hv]
  · cases hv
theorem add_eq (b o j:Nat):(⟨b,o,none⟩:Addr).add j=⟨b,o+j,none⟩:=by
  unfold Addr.add; split <;> simp_all
theorem run_loadCells_row {b o n:Nat} {e:TypeId} {cs rest vs:List Value} {f:Nat × Nat} (hw:w.heap[b]?=some (.cells (cs++rest).toArray e f))
    (hv:cellsN cs o n=some vs):(loadCells ⟨b,o,none⟩ n).run P w=.ok ⟨vs⟩ w:=by
  unfold cellsN at hv
  split at hv
  · rename_i hl
    cases hv
    have hlen:((cs.drop o).take n).length=n:=by simp; omega
    have:=run_loadCells_list (P:=P) w ⟨b,o,none⟩ ((cs.drop o).take n) (fun j v hj=>by
      have hjn:j<n:=by
        rcases Nat.lt_or_ge j n with h | h
        · exact h
        · rw [List.getElem?_eq_none (by omega)] at hj; cases hj
      rw [add_eq,cell_of hw (by omega)]
      rw [List.getElem?_take_of_lt hjn,List.getElem?_drop] at hj
      exact hj)
    rw [hlen] at this
    exact this
  · cases hv
theorem Fits.cellN (h:Fits F w0 hp w) {b o n:Nat} {vs:List Value} (hv:hp.cellN b o n=some vs):(loadCells ⟨b,o,none⟩ n).run P w=.ok ⟨vs⟩ w:=by
  unfold HP.cellN at hv
  split at hv
  · rename_i e cs sp hb
    obtain ⟨rest,_,hw⟩:=(hb▸h.ent b:(Ent.cells e cs sp).ok _)
    exact run_loadCells_row hw hv
  · rename_i c e f hb
    have hw:w.heap[b]?=some (.cells c e f):=by have:=h.ent b; rw [hb] at this; exact this
    exact run_loadCells_row (rest:=[]) (by simpa using hw) hv
  · cases hv
theorem flat_true {t:TypeId} (h:flat P t=some true):(∀ w:World,(isAgg t).run P w=.ok false w)∧(P.info? t).map (·.size)=some 1:=by
  unfold flat at h
  split at h
  · cases h
  · cases h
  · rename_i d h1 h2 hu
    split at h
    · rename_i hs
      refine ⟨fun w=>?_,hs⟩
      simp only [isAgg,underlying,program]
      cases d <;> simp_all [Sem.run,Bind.bind,Sem.bind,Pure.pure]
    · cases h
  · cases h
theorem flat_false {t:TypeId} (h:flat P t=some false):∀ w:World,(isAgg t).run P w=.ok true w:=by
  unfold flat at h
  intro w
  split at h
  · rename_i fs hu; simp only [isAgg,underlying,program]; simp_all [Sem.run,Bind.bind,Sem.bind,Pure.pure]
  · rename_i n e hu; simp only [isAgg,underlying,program]; simp_all [Sem.run,Bind.bind,Sem.bind,Pure.pure]
  · split at h <;> cases h
  · cases h
theorem run_size {t:TypeId} {z:Nat} (h:(P.info? t).map (·.size)=some z):(sizeOf t).run P w=.ok z w:=by
  cases hi:P.info? t with
  | none=>rw [hi] at h; cases h
  | some i=>rw [hi] at h; simp at h; simp [sizeOf,typeInfo,hi,h]
theorem run_load_flat {t:TypeId} {b o:Nat} {v:Value} (hf:flat P t=some true) (hv:w.cell? ⟨b,o,none⟩=some v) :
    (Instr.loadAt t (ptr b o)).run P w=.ok v w:=by
  simp [Instr.loadAt,Instr.sureAddr,loadVar,(flat_true hf).1,load,Sem.run,hv]
theorem run_load_agg {t:TypeId} {b o z:Nat} {vs:List Value} (hf:flat P t=some false) (hz:(P.info? t).map (·.size)=some z)
    (hv:(loadCells ⟨b,o,none⟩ z).run P w=.ok ⟨vs⟩ w):(Instr.loadAt t (ptr b o)).run P w=.ok (.agg ⟨vs⟩) w:=by
  simp [Instr.loadAt,Instr.sureAddr,loadVar,flat_false hf,run_size hz,hv]
theorem run_store_one {b o:Nat} {v x:Value} (h1:one v=true) (hc:w.cell? ⟨b,o,none⟩=some x) (hf:w.frozen? ⟨b,o,none⟩=false) (k:Sem Unit) :
    (Sem.store .plain ⟨b,o,none⟩ v k).run P w=k.run P (w.setCell ⟨b,o,none⟩ v):=by
  cases v <;> simp_all [Sem.run,one]
theorem cells_one {v:Value} (h:one v=true):v.cells=#[v]:=by cases v <;> simp_all [one,Value.cells]
theorem run_store_flat {t:TypeId} {b o:Nat} {v x:Value} (hf:flat P t=some true) (h1:one v=true) (hc:w.cell? ⟨b,o,none⟩=some x) (hfz:w.frozen? ⟨b,o,none⟩=false) :
    (Instr.storeAt t (ptr b o) v).run P w=.ok () (w.setCell ⟨b,o,none⟩ v):=by
  have hst:(store ⟨b,o,none⟩ v).run P w=.ok () (w.setCell ⟨b,o,none⟩ v):=by
    rw [store,run_store_one h1 hc hfz]; rfl
  simp [Instr.storeAt,Instr.sureAddr,storeVar,cells_one h1,run_size (flat_true hf).2,storeCells,add_eq,hst]
theorem setCell_row {b o:Nat} {e:TypeId} {cs rest:List Value} {v:Value} (hw:w.heap[b]?=some (.cells (cs++rest).toArray e (0,0))) (ho:o<cs.length) :
    (w.setCell ⟨b,o,none⟩ v).heap[b]?=some (.cells (cs.set o v++rest).toArray e (0,0)):=by
  rw [World.setCell_get,if_pos rfl,hw]
  simp [List.set_append_left _ _ ho]
theorem Fits.stores (h:Fits F w0 hp w) {b:Nat} {e:TypeId} {cs cs':List Value} {sp:Nat} (hb:hp b=.cells e cs sp) {w':World}
    (hw':∀ rest,w.heap[b]?=some (.cells (cs++rest).toArray e (0,0))→w'.heap[b]?=some (.cells (cs'++rest).toArray e (0,0)))
    (hr:∀ x,x≠b→w'.heap[x]?=w.heap[x]?) (hos:w'.os=w.os) (ht:w'.tape=w.tape) (ho:w'.output=w.output) (hsz:w'.heap.size=w.heap.size) :
    Fits F w0 (hp.set b (.cells e cs' sp)) w' where
  ent x:=by
    by_cases hx:x=b
    · subst hx
      rw [HP.set_eq]
      obtain ⟨rest,hl,hw⟩:=(hb▸h.ent x:(Ent.cells e cs sp).ok _)
      exact ⟨rest,hl,hw' rest hw⟩
    · rw [HP.set_ne _ _ hx,hr x hx]; exact h.ent x
  fr x hx:=by
    have:=h.fr x hx
    have hne:x≠b:=fun e=>by rw [e,hb] at this; cases this.1
    rw [HP.set_ne _ _ hne,hr x hne,hsz]; exact this
  os:=hos.trans h.os
  tape:=ht.trans h.tape
  output:=ho.trans h.output
  size:=by rw [hsz]; exact h.size
theorem setCell_size (w:World) (a:Addr) (v:Value):(w.setCell a v).heap.size=w.heap.size:=by simp [World.setCell]
theorem Fits.setCell (h:Fits F w0 hp w) {b o:Nat} {e:TypeId} {cs:List Value} {sp:Nat} {v:Value} (hb:hp b=.cells e cs sp) (ho:o<cs.length) :
    Fits F w0 (hp.set b (.cells e (cs.set o v) sp)) (w.setCell ⟨b,o,none⟩ v):=
  h.stores hb (fun rest hw=>setCell_row hw ho) (fun x hx=>by rw [World.setCell_get,if_neg (fun e=>hx e.symm)]) rfl rfl rfl (setCell_size ..)
theorem run_storeCells_row {b:Nat} {e:TypeId} {rest:List Value}:∀ (vs:List Value) (i o:Nat) (cs:List Value) (w:World),vs.all one=true→o+i+vs.length≤cs.length →
    w.heap[b]?=some (.cells (cs++rest).toArray e (0,0))→∃ w',(storeCells ⟨b,o,none⟩ vs i).run P w=.ok () w' ∧
      w'.heap[b]?=some (.cells (splice cs (o+i) vs++rest).toArray e (0,0))∧(∀ x,x≠b→w'.heap[x]?=w.heap[x]?)∧w'.os=w.os∧w'.tape=w.tape∧w'.output=w.output∧w'.heap.size=w.heap.size
  | [],i,o,cs,w,_,_,hw=>⟨w,by simp [storeCells],hw,fun _ _=>rfl,rfl,rfl,rfl,rfl⟩
  | v::vs,i,o,cs,w,h1,hl,hw=>by
    simp only [List.all_cons,Bool.and_eq_true] at h1
    simp only [List.length_cons] at hl
    have hc:w.cell? ⟨b,o+i,none⟩=cs[o+i]?:=cell_of hw (by omega)
    rw [List.getElem?_eq_getElem (by omega)] at hc
    have hz:=frozen_of (o:=o+i) hw
    obtain ⟨w',hrun,hb',hr,a1,a2,a3,a4⟩:=run_storeCells_row vs (i+1) o (cs.set (o+i) v) (w.setCell ⟨b,o+i,none⟩ v) h1.2 (by simp; omega) (setCell_row hw (by omega))
    refine ⟨w',?_,?_,fun x hx=>?_,a1,a2,a3,a4.trans (setCell_size ..)⟩
    · simp only [storeCells,store,Bind.bind,Sem.bind,add_eq]
      rw [run_store_one h1.1 hc hz]
      exact hrun
    · rw [hb']; rfl
    · rw [hr x hx,World.setCell_get,if_neg (fun e=>hx e.symm)]
theorem run_store_agg {t:TypeId} {b o z:Nat} {vs:List Value} (hz:(P.info? t).map (·.size)=some z) (hl:vs.length=z) :
    (Instr.storeAt t (ptr b o) (.agg ⟨vs⟩)).run P w=(storeCells ⟨b,o,none⟩ vs).run P w:=by
  simp only [Instr.storeAt,Instr.sureAddr,storeVar]
  simp [run_size hz,Value.cells,hl]
theorem Fits.alloc (h:Fits F w0 hp w) (o:Obj) {e:Ent} (he:e.ok (some o)):Fits F w0 (hp.set w.heap.size e) (w.alloc o) where
  ent x:=by
    show Ent.ok _ (w.heap.push o)[x]?
    rw [Array.getElem?_push]
    by_cases hx:x=w.heap.size
    · subst hx; rw [HP.set_eq,if_pos rfl]; exact he
    · rw [HP.set_ne _ _ hx,if_neg hx]; exact h.ent x
  fr x hx:=by
    have:=h.fr x hx
    have hne:x≠w.heap.size:=by omega
    rw [HP.set_ne _ _ hne]
    refine ⟨this.1,?_,?_⟩
    · show x<(w.heap.push o).size
      simp; omega
    · show (w.heap.push o)[x]?=_
      rw [Array.getElem?_push,if_neg hne]; exact this.2.2
  os:=h.os
  tape:=h.tape
  output:=h.output
  size:=by show _≤(w.heap.push o).size; simp; exact Nat.le_succ_of_le h.size
theorem run_newObj (o:Obj):(newObj o).run P w=.ok w.heap.size (w.alloc o):=rfl
theorem run_newRow' (e:TypeId) (cs:Array Value):(newRow e cs).run P w=.ok ⟨w.heap.size,0,none⟩ (w.alloc (.cells cs e)):=rfl
theorem Ent.ok_cells (e:TypeId) (cs:List Value):(Ent.cells e cs 0).ok (some (.cells ⟨cs⟩ e)):=⟨[],rfl,by simp⟩
theorem opS_mono {α:Type} {s:Sem α} {K K':α→HP→Prop} (h:opS P s hp K) (hk:∀ v hp,K v hp→K' v hp):opS P s hp K':=
  fun F w0 w hf=>let ⟨v,w',hp',a,b,c⟩:=h F w0 w hf; ⟨v,w',hp',a,b,hk _ _ c⟩
theorem opS_of_rdS {α:Type} {s:Sem α} {c:α→Prop} (h:rdS P s hp c):opS P s hp fun v hp'=>hp'=hp∧c v:=
  let ⟨v,hr,hc⟩:=h
  fun _ _ w hf=>⟨v,w,hp,hr _ _ _ hf,hf,rfl,hc⟩
theorem opS_of_semV {s:Sem Value} {c:Value→Prop} (h:semV P s c):opS P s hp fun v hp'=>hp'=hp∧c v:=fun _ _ w hf=>
  let ⟨v,hr,hc⟩:=semV_run (w:=w) h
  ⟨v,w,hp,hr,hf,rfl,hc⟩
theorem opS_st {t:TypeId} {b o:Nat} {v:Value} {c:HP→Prop} (hf:flat P t=some true) (h1:one v=true) (h:hp.st b o v c):opS P (Instr.storeAt t (ptr b o) v) hp fun _ hp=>c hp:=by
  intro F w0 w hfit
  unfold HP.st at h
  split at h
  · rename_i e cs sp hb
    obtain ⟨rest,hl,hw⟩:=(hb▸hfit.ent b:(Ent.cells e cs sp).ok _)
    have hc:=cell_of hw h.1
    rw [List.getElem?_eq_getElem h.1] at hc
    exact ⟨(),_,_,run_store_flat hf h1 hc (frozen_of hw),hfit.setCell hb h.1,h.2⟩
  · exact h.elim
theorem opS_stN {t:TypeId} {b o z:Nat} {vs:List Value} {c:HP→Prop} (hz:(P.info? t).map (·.size)=some z) (hl:vs.length=z) (h:hp.stN b o vs c):opS P (Instr.storeAt t (ptr b o) (.agg ⟨vs⟩)) hp fun _ hp=>c hp:=by
  intro F w0 w hfit
  unfold HP.stN at h
  split at h
  · rename_i e cs sp hb
    obtain ⟨rest,hlr,hw⟩:=(hb▸hfit.ent b:(Ent.cells e cs sp).ok _)
    obtain ⟨w',hrun,hb',hr,a1,a2,a3,a4⟩:=run_storeCells_row (P:=P) vs 0 o cs w h.2.1 (by have:=h.1; omega) hw
    refine ⟨(),w',_,(run_store_agg hz hl).trans hrun,hfit.stores hb (fun rest' hw''=>?_) hr a1 a2 a3 a4,h.2.2⟩
    rw [hw] at hw''
    have:rest=rest':=by simpa using hw''
    rw [← this]; exact hb'
  · exact h.elim
end
end Go.HL
