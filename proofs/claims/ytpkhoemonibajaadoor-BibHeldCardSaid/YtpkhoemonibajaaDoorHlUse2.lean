/- The heaplet logic in use, part 12: stores, reads of parts, walks through maps, numbers without a sign. -/
import Derived.Test.YtpkhoemonibajaaDoorHlSort
import Derived.Test.YtpkhoemonibajaaDoorHlRange
import Derived.Test.YtpkhoemonibajaaDoorHlMapL
set_option linter.unusedVariables false
set_option linter.unusedSimpArgs false
namespace Go.HL
open Go
theorem HP.st_at {hp:HP} {r o:Nat} {e:TypeId} {cs:List Value} {sp:Nat} {v:Value} {c:HP→Prop} (hb:hp r=.cells e cs sp) (ho:o<cs.length) (h:c (hp.set r (.cells e (cs.set o v) sp))):hp.st r o v c:=by
  unfold HP.st; rw [hb]; exact ⟨ho,h⟩
theorem nodup_len_le {α:Type}:∀ {a b:List α},a.Nodup→(∀ x∈a,x∈b)→a.length≤b.length
  | [],_,_,_=>Nat.zero_le _
  | x::a,b,ha,h=>by
    classical
    have hx:x∈b:=h x (by simp)
    rw [List.nodup_cons] at ha
    have:=nodup_len_le (b:=b.erase x) ha.2 (fun y hy=>by
      have hne:y≠x:=fun e=>ha.1 (e▸hy)
      exact (List.mem_erase_of_ne hne).2 (h y (by simp [hy])))
    rw [List.length_erase_of_mem hx] at this
    have:=List.length_pos_of_mem hx
    simp only [List.length_cons]; omega
section
variable {κ ν:Type} {hp hp':HP} {ek:κ→Value} {ev:ν→Value} {m it:Nat} {l done:List (κ × ν)}
theorem IterR.len (h:IterR hp it m ek ev l done):done.length≤l.length:=by
  obtain ⟨es,clock,seen,des,h1,h2,hes,hb1,hb2,hseen,hin,hnd,hdone⟩:=h
  have e1:=congrArg List.length hes
  have e2:=congrArg List.length hdone
  simp only [List.length_map] at e1 e2
  have:=nodup_len_le hnd hin
  omega
theorem IterR.step_len {kv:κ × ν} (h:IterR hp it m ek ev l (done++[kv])):done.length+1≤l.length:=by
  have:=h.len; simpa using this
end
theorem HSub.up {hp hp':HP} (h:HSub hp hp') {b:Nat} (hb:hp b=.none) (e:Ent):HSub hp (hp'.set b e):=fun x=>by
  by_cases hx:x=b
  · subst hx; exact .inl hb
  · rw [HP.set_ne _ _ hx]; exact h x
theorem HP.cell_cellN {hp:HP} {b o n j:Nat} {ys:List Value} {v:Value} (h:hp.cellN b o n=some ys) (hj:ys[j]?=some v):hp.cell b (o+j)=some v:=by
  unfold HP.cellN at h
  unfold HP.cell
  split at h
  · exact cellsN_get h hj
  · exact cellsN_get h hj
  · cases h
theorem HP.stN_at {hp:HP} {r o:Nat} {e:TypeId} {cs vs:List Value} {sp:Nat} {c:HP→Prop} (hb:hp r=.cells e cs sp) (ho:o+vs.length≤cs.length) (h1:vs.all one=true) (h:c (hp.set r (.cells e (splice cs o vs) sp))):hp.stN r o vs c:=by
  unfold HP.stN; rw [hb]; exact ⟨ho,h1,h⟩
end Go.HL
