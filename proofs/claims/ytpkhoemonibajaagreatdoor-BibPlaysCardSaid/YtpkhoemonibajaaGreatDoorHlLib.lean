/- The heaplet logic in use, part 4: rows of things of several cells; numbers. -/
import Derived.Test.YtpkhoemonibajaaGreatDoorHlMap
import Derived.IntWalk
set_option linter.unusedVariables false
set_option linter.unusedSimpArgs false
namespace Go.HL
open Go
theorem ifI {p c:Prop} {i:Decidable p} (h:p) (hc:c):@ite Prop p i c False:=by rw [if_pos h]; exact hc
theorem w64 {n:Int} (h0:-9223372036854775808≤n) (h1:n≤9223372036854775807):IntKind.wrap .i64 n=n:=by
  rw [IntKind.wrap_i64]; omega
section
variable {α:Type} {enc:α→List Value} {size:Nat}
theorem flat_len (he:∀ x,(enc x).length=size):∀ l:List α,(l.flatMap enc).length=l.length*size
  | []=>by simp
  | x::l=>by simp only [List.flatMap_cons,List.length_append,he,flat_len he l,List.length_cons,Nat.succ_mul]; omega
theorem flat_drop (he:∀ x,(enc x).length=size):∀ (l:List α) (i:Nat),(l.flatMap enc).drop (i*size)=(l.drop i).flatMap enc
  | l,0=>by simp
  | [],i+1=>by simp
  | x::l,i+1=>by
    have e:(enc x++l.flatMap enc).drop size=l.flatMap enc:=by
      have:=List.drop_left (l₁:=enc x) (l₂:=l.flatMap enc)
      rwa [he] at this
    rw [List.flatMap_cons,List.drop_succ_cons,Nat.succ_mul,Nat.add_comm,← List.drop_drop,e]
    exact flat_drop he l i
theorem flat_take (he:∀ x,(enc x).length=size):∀ (l:List α) (i:Nat),(l.flatMap enc).take (i*size)=(l.take i).flatMap enc
  | l,0=>by simp
  | [],i+1=>by simp
  | x::l,i+1=>by
    rw [List.flatMap_cons,List.take_succ_cons,List.flatMap_cons,Nat.succ_mul,Nat.add_comm,List.take_append,he,List.take_of_length_le (by rw [he]; omega),Nat.add_sub_cancel_left,flat_take he l i]
theorem flat_at (he:∀ x,(enc x).length=size) {l:List α} {i:Nat} (hi:i<l.length):cellsN (l.flatMap enc) (i*size) size=some (enc l[i]):=by
  have hle:(i+1)*size≤l.length*size:=Nat.mul_le_mul_right _ hi
  rw [Nat.succ_mul] at hle
  rw [cellsN_of (by rw [flat_len he]; exact hle),flat_drop he,List.drop_eq_getElem_cons hi,List.flatMap_cons]
  rw [List.take_append_of_le_length (by simp [he]),List.take_of_length_le (by simp [he])]
theorem cellsN_cellsN {cs ys:List Value} {o n o' n':Nat} (h:cellsN cs o n=some ys) (h':o'+n'≤n):cellsN cs (o+o') n'=cellsN ys o' n':=by
  unfold cellsN at h
  split at h
  · rename_i hl
    cases h
    rw [cellsN_of (by omega),cellsN_of (by simp; omega)]
    rw [List.drop_take,List.take_take,List.drop_drop,Nat.min_eq_left (by omega)]
  · cases h
theorem cellN_cellN {hp:HP} {b o n o' n':Nat} {ys:List Value} (h:hp.cellN b o n=some ys) (h':o'+n'≤n):hp.cellN b (o+o') n'=cellsN ys o' n':=by
  unfold HP.cellN at h ⊢
  split at h
  · exact cellsN_cellsN h h'
  · exact cellsN_cellsN h h'
  · cases h
theorem Shows.get {hp:HP} {a:Option Addr} {n i:Nat} {l:List α} (h:Shows hp a n size (l.flatMap enc)) (he:∀ x,(enc x).length=size) (hl:l.length=n) (hi:i<n) :
    ∃ b o,a=some ⟨b,o,none⟩∧hp.cellN b (o+i*size) size=some (enc (l[i]'(hl▸hi))):=by
  rcases h with ⟨h1,_⟩ | ⟨b,o,h1,h2⟩
  · omega
  · refine ⟨b,o,h1,?_⟩
    have hle:(i+1)*size≤n*size:=Nat.mul_le_mul_right _ hi
    rw [Nat.succ_mul] at hle
    rw [cellN_cellN h2 hle]
    exact flat_at he _
theorem Shows.take {hp:HP} {a:Option Addr} {n i:Nat} {l:List α} (h:Shows hp a n size (l.flatMap enc)) (he:∀ x,(enc x).length=size) (hl:l.length=n) (hi:i≤n) :
    Shows hp a i size ((l.take i).flatMap enc):=by
  rcases h with ⟨h1,h2⟩ | ⟨b,o,h1,h2⟩
  · left
    have:i=0:=by omega
    subst this; simp
  · right
    refine ⟨b,o,h1,?_⟩
    have hle:i*size≤n*size:=Nat.mul_le_mul_right _ hi
    have:=cellN_cellN (o':=0) (n':=i*size) h2 (by omega)
    rw [Nat.add_zero] at this
    rw [this,cellsN_of (by rw [flat_len he,hl]; omega),List.drop_zero,flat_take he]
end
theorem all_flat {α:Type} {enc:α→List Value} (h:∀ x,(enc x).all one=true):∀ l:List α,(l.flatMap enc).all one=true
  | []=>rfl
  | x::l=>by rw [List.flatMap_cons,List.all_append,h,all_flat h l]; rfl
def elemOk (P:Program) (t e size bytes:Nat):Bool:=(match P.underlying t with | some (.slice e')=>e'==e | _=>false) &&
  (match P.info? e with | some i=>i.size==size&&i.bytes==bytes&&(match i.zero with | some z=>z.cells.size==size | none=>false) | none=>false)
theorem elemOk_elim {P:Program} {t e size bytes:Nat} (h:elemOk P t e size bytes=true):P.underlying t=some (.slice e)∧∃ i z,P.info? e=some i∧i.size=size∧i.bytes=bytes∧i.zero=some z∧z.cells.size=size:=by
  unfold elemOk at h
  rw [Bool.and_eq_true] at h
  obtain ⟨h1,h2⟩:=h
  split at h1
  · rename_i e' hu
    split at h2
    · rename_i i hi
      simp only [Bool.and_eq_true,beq_iff_eq] at h2 h1
      obtain ⟨⟨a,b⟩,c⟩:=h2
      split at c
      · rename_i z hz
        exact ⟨by rw [hu,h1],i,z,hi,a,b,hz,by simpa using c⟩
      · cases c
    · cases h2
  · cases h1
theorem opS_app {P:Program} {hp:HP} {t e ty size bytes:Nat} (hok:elemOk P t e size bytes=true) {s:Option Addr} {n c:Nat} {xs:List Value} (hs:Row hp s n c e size xs) {a:Option Addr} {m c':Nat} {ys:List Value}
    (ha:Shows hp a m size ys) (h1:ys.all one=true) (hb:(n+m)*bytes≤140737488355328) (h63:n+m≤9223372036854775807) {K:Value→HP→Prop}
    (h:∀ s2 c2 hp',Row hp' s2 (n+m) c2 e size (xs++ys) →
      ((hp'=hp∧s2=s)∨∃ b e',s2=some ⟨b,0,none⟩∧(hp b=.none∨s=some ⟨b,0,none⟩)∧hp'=hp.set b e')→K (.slice s2 (n+m) c2) hp') :
    opS P (Builtin.append_ #[t,t] ty ⟨[.slice s n c,.slice a m c']⟩) hp K:=by
  obtain ⟨ht,i,z,hi,rfl,rfl,hz,hzs⟩:=elemOk_elim hok
  exact opS_append ht hi hz hzs ht hs ha h1 hb h63 h
end Go.HL
