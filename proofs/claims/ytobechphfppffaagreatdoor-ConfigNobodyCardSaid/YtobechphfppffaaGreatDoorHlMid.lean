/- The heaplet logic in use, part 8: append into the middle of a row that is known. -/
import Derived.Test.YtobechphfppffaaGreatDoorHlLib
set_option linter.unusedVariables false
set_option linter.unusedSimpArgs false
namespace Go.HL
open Go
theorem opS_append_in {P:Program} {hp:HP} {t e ty size bytes:Nat} (hok:elemOk P t e size bytes=true) {b o n c e':Nat} {cs:List Value} {sp:Nat} (hb:hp b=.cells e' cs sp) {a:Option Addr} {m c':Nat} {ys:List Value}
    (ha:Shows hp a m size ys) (h1:ys.all one=true) (hg:n+m≤c) (hin:o+(n+m)*size≤cs.length) {K:Value→HP→Prop}
    (h:K (.slice (some ⟨b,o,none⟩) (n+m) c) (hp.set b (.cells e' (splice cs (o+n*size) ys) sp))) :
    opS P (Builtin.append_ #[t,t] ty ⟨[.slice (some ⟨b,o,none⟩) n c,.slice a m c']⟩) hp K:=by
  obtain ⟨ht,i,z,hi,hsz,hby,hz,hzs⟩:=elemOk_elim hok
  intro F w0 w hf
  have hsrc:=hf.src (P:=P) (c:=c') ht ha h1
  obtain ⟨rest,hrl,hw⟩:=(hb▸hf.ent b:(Ent.cells e' cs sp).ok _)
  have hyl:=ha.len
  rw [Nat.add_mul] at hin
  obtain ⟨w',hrun,hb',hr,a1,a2,a3,a4⟩:=run_storeCells_row (P:=P) ys 0 (o+n*size) cs w h1 (by omega) hw
  refine ⟨.slice (some ⟨b,o,none⟩) (n+m) c,w',_,?_,hf.stores hb (fun rest' hw'=>?_) hr a1 a2 a3 a4,h⟩
  · subst hsz
    rcases hsrc.kind with ⟨e'',hk⟩ | hk
    all_goals simp [Builtin.append_,run_underlying ht,sizeOf,typeInfo,hi,hsrc.len,hg,hsrc.cells]
    all_goals first
      | (simp only [add_eq] at hrun ⊢; rw [hrun]; simp)
      | (rw [hrun]; simp)
  · rw [hw] at hw'
    have hrr:rest=rest':=by
      have e1:=Option.some.inj hw'
      simp only [Obj.cells.injEq] at e1
      have:=congrArg Array.toList e1.1
      simpa using this
    subst hrr
    simpa using hb'
theorem Shows.cut {hp:HP} {a:Option Addr} {n k size:Nat} {ys:List Value} (h:Shows hp a n size ys) (hk:k≤n):Shows hp a k size (ys.take (k*size)):=by
  rcases h with ⟨h1,h2⟩ | ⟨b,o,h1,h2⟩
  · left
    have:k=0:=by omega
    subst this; simp
  · right
    refine ⟨b,o,h1,?_⟩
    have hle:k*size≤n*size:=Nat.mul_le_mul_right _ hk
    have hl:ys.length=n*size:=Shows.len (.inr ⟨b,o,h1,h2⟩)
    have:=cellN_cellN (o':=0) (n':=k*size) h2 (by omega)
    rw [Nat.add_zero] at this
    rw [this,cellsN_of (by omega),List.drop_zero]
theorem opS_copy_in {P:Program} {hp:HP} {t e ty size bytes:Nat} (hok:elemOk P t e size bytes=true) {b o n c e':Nat} {cs:List Value} {sp:Nat} (hb:hp b=.cells e' cs sp) {a:Option Addr} {m c':Nat} {ys:List Value}
    (ha:Shows hp a m size ys) (h1:ys.all one=true) (hin:o+n*size≤cs.length) {K:Value→HP→Prop}
    (h:K (.int .i64 (Nat.min m n:Nat)) (hp.set b (.cells e' (splice cs o (ys.take (Nat.min m n*size))) sp))) :
    opS P (Builtin.copy_ #[t,t] ty ⟨[.slice (some ⟨b,o,none⟩) n c,.slice a m c']⟩) hp K:=by
  obtain ⟨ht,i,z,hi,hsz,hby,hz,hzs⟩:=elemOk_elim hok
  intro F w0 w hf
  have hmin:Nat.min m n≤m:=Nat.min_le_left ..
  have hmin2:Nat.min m n≤n:=Nat.min_le_right ..
  have hcut:=ha.cut hmin
  have h1':(ys.take (Nat.min m n*size)).all one=true:=List.all_eq_true.2 fun x hx=>List.all_eq_true.1 h1 x (List.mem_of_mem_take hx)
  have hsrc:=hf.src (P:=P) (c:=c') ht hcut h1'
  obtain ⟨rest,hrl,hw⟩:=(hb▸hf.ent b:(Ent.cells e' cs sp).ok _)
  have hyl:=hcut.len
  have hle:Nat.min m n*size≤n*size:=Nat.mul_le_mul_right _ hmin2
  obtain ⟨w',hrun,hb',hr,a1,a2,a3,a4⟩:=run_storeCells_row (P:=P) (ys.take (Nat.min m n*size)) 0 o cs w h1' (by omega) hw
  refine ⟨.int .i64 (Nat.min m n:Nat),w',_,?_,hf.stores hb (fun rest' hw'=>?_) hr a1 a2 a3 a4,h⟩
  · subst hsz
    have hfc:(Builtin.firstCells i.size (Nat.min m n) (.slice a m c')).run P w=.ok (ys.take (Nat.min m n*i.size)).toArray w:=by
      have:=hsrc.cells
      cases a <;> exact this
    simp only [Builtin.copy_]
    simp [run_underlying ht,sizeOf,typeInfo,hi,Builtin.lenOf,hfc,hrun,goInt]
  · rw [hw] at hw'
    have hrr:rest=rest':=by
      have e1:=Option.some.inj hw'
      simp only [Obj.cells.injEq] at e1
      have:=congrArg Array.toList e1.1
      simpa using this
    subst hrr
    simpa using hb'
end Go.HL
