/- The heaplet logic in use, part 1: eliminators, cells, forgetting, append. -/
import Derived.Test.YtobechphfppffaaGreatDoorHlOrd
import Derived.Deep.AppendSrc
import Derived.Laws.AppendOwn
set_option linter.unusedVariables false
set_option linter.unusedSimpArgs false
namespace Go.HL
open Go
section
variable {k:IntKind} {n:Int} {c:Int→Prop}
@[simp] theorem intV_int:intV (.int k n) k c=c n:=by simp [intV]
@[simp] theorem boolV_bool {b:Bool} {c:Bool→Prop}:boolV (.bool b) c=c b:=rfl
@[simp] theorem strV_string {s:ByteArray} {c:ByteArray→Prop}:strV (.string s) c=c s:=rfl
@[simp] theorem ptrV_pointer {s:Option Addr} {c:Option Addr→Prop}:ptrV (.pointer s) c=c s:=rfl
@[simp] theorem slcV_slice {s:Option Addr} {n m:Nat} {c:Option Addr→Nat→Nat→Prop}:slcV (.slice s n m) c=c s n m:=rfl
@[simp] theorem mapV_map {s:Option Nat} {c:Option Nat→Prop}:mapV (.map s) c=c s:=rfl
@[simp] theorem aggV_agg {s:List Value} {c:List Value→Prop}:aggV (.agg ⟨s⟩) c=c s:=rfl
@[simp] theorem tup2V_mk {a b:Value} {c:Value→Value→Prop}:tup2V (.tuple ⟨[a,b]⟩) c=c a b:=rfl
@[simp] theorem tup3V_mk {a b d:Value} {c:Value→Value→Value→Prop}:tup3V (.tuple ⟨[a,b,d]⟩) c=c a b d:=rfl
@[simp] theorem tup4V_mk {a b d e:Value} {c:Value→Value→Value→Value→Prop}:tup4V (.tuple ⟨[a,b,d,e]⟩) c=c a b d e:=rfl
@[simp] theorem ifaceV_mk {t:TypeId} {x:Value} {c:TypeId→Value→Prop}:ifaceV (.iface t x) c=c t x:=rfl
@[simp] theorem fnV_mk {f:FuncId} {a b:List Value} {c:FuncId→List Value→List Value→Prop}:fnV (.func (.func f) ⟨a⟩ ⟨b⟩) c=c f a b:=rfl
@[simp] theorem ptrN_some {b o:Nat} {c:Nat→Nat→Prop}:ptrN (some ⟨b,o,none⟩) c=c b o:=rfl
@[simp] theorem ldV_some {v:Value} {c:Value→Prop}:ldV (some v) c=c v:=rfl
@[simp] theorem ldL_some {v:List Value} {c:List Value→Prop}:ldL (some v) c=c v:=rfl
@[simp] theorem ite2_true {x y:Prop}:ite2 true x y=x:=rfl
@[simp] theorem ite2_false {x y:Prop}:ite2 false x y=y:=rfl
@[simp] theorem HP.set_eq' (hp:HP) (b:Nat) (e:Ent):hp.set b e b=e:=HP.set_eq hp b e
theorem HP.cell_of {hp:HP} {b o:Nat} {e:TypeId} {cs:List Value} {sp:Nat} (h:hp b=.cells e cs sp):hp.cell b o=cs[o]?:=by simp [HP.cell,h]
theorem HP.cellN_of {hp:HP} {b o n:Nat} {e:TypeId} {cs:List Value} {sp:Nat} (h:hp b=.cells e cs sp):hp.cellN b o n=cellsN cs o n:=by simp [HP.cellN,h]
theorem cellsN_all {cs:List Value} {n:Nat} (h:cs.length=n):cellsN cs 0 n=some cs:=by subst h; simp [cellsN]
theorem cellsN_of {cs:List Value} {o n:Nat} (h:o+n≤cs.length):cellsN cs o n=some ((cs.drop o).take n):=by simp [cellsN,h]
end
theorem splice_eq:∀ (vs cs:List Value) (o:Nat),o+vs.length≤cs.length→splice cs o vs=cs.take o++vs++cs.drop (o+vs.length)
  | [],cs,o,_=>by simp [splice]
  | v::vs,cs,o,h=>by
    simp only [List.length_cons] at h
    rw [splice,splice_eq vs (cs.set o v) (o+1) (by simp; omega)]
    have ho:o<cs.length:=by omega
    have e1:(cs.set o v).take (o+1)=cs.take o++[v]:=by
      rw [List.take_succ_eq_append_getElem (by simpa using ho)]
      simp [List.take_set_of_le]
    rw [e1,List.drop_set_of_lt (by omega)]
    simp [Nat.add_assoc,Nat.add_comm 1]
theorem length_splice:∀ (vs cs:List Value) (o:Nat),(splice cs o vs).length=cs.length
  | [],_,_=>rfl
  | v::vs,cs,o=>by rw [splice,length_splice vs]; simp
/-! Forgetting. -/
theorem HSub.none {hp' hp:HP} (h:HSub hp' hp) {b:Nat} (hb:hp b=.none):hp' b=.none:=by
  rcases h b with h | h
  · exact h
  · rw [h,hb]
theorem CF.drop {P f args hp} {K:Value→HP→Prop} (h:CF P f args hp fun v hp'=>∃ hp'',HSub hp'' hp'∧K v hp''):CF P f args hp K:=by
  rcases h with h | h
  · exact .inl ⟨h.1,h.2.drop⟩
  · exact .inr fun F w0 w hf=>let ⟨v,w',hp',a,b,hp'',s,k⟩:=h F w0 w hf; ⟨v,w',hp'',a,b.sub s,k⟩
/-! Append. -/
def Row (hp:HP) (s:Option Addr) (n c:Nat) (e:TypeId) (size:Nat) (xs:List Value):Prop:=
  (s=none∧n=0∧c=0∧xs=[])∨∃ b,s=some ⟨b,0,none⟩∧n≤c∧xs.length=n*size∧hp b=.cells e xs ((c-n)*size)
theorem Row.len {hp:HP} {s n c e size xs} (h:Row hp s n c e size xs):xs.length=n*size:=by
  rcases h with ⟨_,h2,_,h4⟩ | ⟨b,h1,h2,h3,h4⟩
  · subst h2; subst h4; simp
  · exact h3
def Shows (hp:HP) (a:Option Addr) (n:Nat) (size:Nat) (ys:List Value):Prop:=
  (n=0∧ys=[])∨∃ b o,a=some ⟨b,o,none⟩∧hp.cellN b o (n*size)=some ys
theorem Row.shows {hp:HP} {s n c e size xs} (h:Row hp s n c e size xs):Shows hp s n size xs:=by
  rcases h with ⟨h1,h2,h3,h4⟩ | ⟨b,h1,h2,h3,h4⟩
  · exact .inl ⟨h2,h4⟩
  · exact .inr ⟨b,0,h1,by rw [HP.cellN_of h4]; exact cellsN_all h3⟩
theorem cellsN_len {cs:List Value} {o n:Nat} {ys} (h:cellsN cs o n=some ys):ys.length=n:=by
  unfold cellsN at h; split at h
  · cases h; simp; omega
  · cases h
theorem Shows.len {hp:HP} {a n size ys} (h:Shows hp a n size ys):ys.length=n*size:=by
  rcases h with ⟨h1,h2⟩ | ⟨b,o,h1,h2⟩
  · subst h1; subst h2; simp
  · unfold HP.cellN at h2; split at h2
    · exact cellsN_len h2
    · exact cellsN_len h2
    · cases h2
theorem one_cell {v:Value} (h:one v=true):v.oneCell'=true:=by cases v <;> first | rfl | cases h
section
variable {P:Program} {F:Nat→Prop} {w0 w:World} {hp:HP}
theorem cellsN_get {cs ys:List Value} {o n j:Nat} {v:Value} (h:cellsN cs o n=some ys) (hj:ys[j]?=some v):cs[o+j]?=some v:=by
  unfold cellsN at h
  split at h
  · cases h
    have hjn:j<n:=by
      rcases Nat.lt_or_ge j n with hh | hh
      · exact hh
      · rw [List.getElem?_eq_none (by simp; omega)] at hj; cases hj
    rw [List.getElem?_take_of_lt hjn,List.getElem?_drop] at hj
    exact hj
  · cases h
theorem Fits.cellN_at (h:Fits F w0 hp w) {b o n:Nat} {ys:List Value} (hv:hp.cellN b o n=some ys) (j:Nat) (v:Value) (hj:ys[j]?=some v):w.cell? ((⟨b,o,none⟩:Addr).add j)=some v:=by
  rw [add_eq]
  apply h.cell (hp:=hp)
  unfold HP.cellN at hv
  unfold HP.cell
  split at hv
  · rename_i e cs sp hb
    exact cellsN_get hv hj
  · rename_i c e f hb
    exact cellsN_get hv hj
  · cases hv
theorem Fits.src (h:Fits F w0 hp w) {tx e':TypeId} (hk:P.underlying tx=some (.slice e')) {a:Option Addr} {n c size:Nat} {ys:List Value} (hs:Shows hp a n size ys) (h1:ys.all one=true) :
    Src P size tx (.slice a n c) n ys w:=by
  cases a with
  | none=>
    rcases hs with ⟨rfl,rfl⟩ | ⟨_,_,e,_⟩
    · exact Src.ofNil w hk c
    · cases e
  | some a=>
    refine Src.ofSlice w hk a n c ys hs.len ?_ (fun u hu=>one_cell (List.all_eq_true.1 h1 u hu))
    rcases hs with ⟨rfl,rfl⟩ | ⟨b,o,e,hv⟩
    · intro j u hj; simp at hj
    · cases e
      exact fun j u hj=>h.cellN_at hv j u hj
theorem Fits.drew (h:Fits F w0 hp w):Fits F w0 hp w.drew:=⟨h.ent,h.fr,h.os,h.tape,h.output,h.size⟩
theorem opS_append_grow {t tx ty e:TypeId} {i:TypeInfo} {z:Value} {e':TypeId} (ht:P.underlying t=some (.slice e)) (hi:P.info? e=some i) (hz:i.zero=some z) (hzs:z.cells.size=i.size)
    (htx:P.underlying tx=some (.slice e')) {s:Option Addr} {n c:Nat} {xs:List Value} (hs:Shows hp s n i.size xs) {a:Option Addr} {m c':Nat} {ys:List Value} (ha:Shows hp a m i.size ys) (h1:ys.all one=true)
    (hg:c<n+m) (hb:(n+m)*i.bytes≤140737488355328) (h63:n+m≤9223372036854775807) {K:Value→HP→Prop}
    (h:∀ b c2,hp b=.none→n+m≤c2→K (.slice (some ⟨b,0,none⟩) (n+m) c2) (hp.set b (.cells e (xs++ys) ((c2-(n+m))*i.size)))) :
    opS P (Builtin.append_ #[t,tx] ty ⟨[.slice s n c,.slice a m c']⟩) hp K:=by
  intro F w0 w hf
  have hsrc:=hf.src (P:=P) (c:=c') htx ha h1
  have hold:(Builtin.firstCells i.size n (.slice s n c)).run P w.drew=.ok xs.toArray w.drew:=by
    rcases hs with ⟨rfl,rfl⟩ | ⟨b,o,rfl,hv⟩
    · cases s with
      | none=>exact run_firstCells_none w.drew i.size 0 0 c
      | some s=>exact run_firstCells_some w.drew i.size 0 s 0 c [] (by simp) (by simp)
    · have hl:xs.length=n*i.size:=Shows.len (.inr ⟨b,o,rfl,hv⟩)
      exact run_firstCells_some w.drew i.size n _ n c xs hl (fun j u hj=>by simpa using hf.cellN_at hv j u hj)
  have hrun:=run_append_grow_src w t tx ty e i z ht hi hz s n c xs hold (.slice a m c') m ys hsrc hg (by omega) (by
    have:=nextslicecap_le hg
    calc _≤2*(n+m)*i.bytes:=Nat.mul_le_mul_right _ this
      _≤_:=by rw [Nat.mul_assoc]; omega)
  refine ⟨_,_,_,hrun,?_,h w.heap.size (grownCap w (n+m) c e) hf.fresh (grownCap_ge ..)⟩
  refine hf.drew.alloc _ ⟨(Builtin.zeroCells z.cells (grownCap w (n+m) c e-(n+m))).toList,?_,?_⟩
  · rw [Array.length_toList,size_zeroCells,hzs]
  · congr 2
    apply Array.ext'
    simp
theorem run_storeCells_ext {b:Nat} {e:TypeId}:∀ (vs:List Value) (i o:Nat) (cs:List Value) (w:World),vs.all one=true→o+i+vs.length≤cs.length →
    w.heap[b]?=some (.cells cs.toArray e (0,0))→∃ w',(storeCells ⟨b,o,none⟩ vs i).run P w=.ok () w' ∧
      w'.heap[b]?=some (.cells (splice cs (o+i) vs).toArray e (0,0))∧(∀ x,x≠b→w'.heap[x]?=w.heap[x]?)∧w'.os=w.os∧w'.tape=w.tape∧w'.output=w.output∧w'.heap.size=w.heap.size:=by
  intro vs i o cs w h1 hl hw
  have:=run_storeCells_row (P:=P) (rest:=[]) vs i o cs w h1 hl (by simpa using hw)
  simpa using this
theorem opS_append_room {t tx ty e:TypeId} {i:TypeInfo} {e':TypeId} (ht:P.underlying t=some (.slice e)) (hi:P.info? e=some i)
    (htx:P.underlying tx=some (.slice e')) {b n c:Nat} {xs:List Value} (hb:hp b=.cells e xs ((c-n)*i.size)) (hl:xs.length=n*i.size) {a:Option Addr} {m c':Nat} {ys:List Value} (ha:Shows hp a m i.size ys)
    (h1:ys.all one=true) (hg:n+m≤c) {K:Value→HP→Prop}
    (h:K (.slice (some ⟨b,0,none⟩) (n+m) c) (hp.set b (.cells e (xs++ys) ((c-(n+m))*i.size)))) :
    opS P (Builtin.append_ #[t,tx] ty ⟨[.slice (some ⟨b,0,none⟩) n c,.slice a m c']⟩) hp K:=by
  intro F w0 w hf
  have hsrc:=hf.src (P:=P) (c:=c') htx ha h1
  obtain ⟨rest,hrl,hw⟩:=(hb▸hf.ent b:(Ent.cells e xs ((c-n)*i.size)).ok _)
  have hyl:=ha.len
  have hmr:m*i.size≤(c-n)*i.size:=Nat.mul_le_mul_right _ (by omega)
  obtain ⟨w',hrun,hb',hr,a1,a2,a3,a4⟩:=run_storeCells_ext (P:=P) ys 0 (n*i.size) (xs++rest) w h1 (by simp only [List.length_append]; omega) hw
  refine ⟨.slice (some ⟨b,0,none⟩) (n+m) c,w',_,?_,?_,h⟩
  · rcases hsrc.kind with ⟨e'',hk⟩ | hk
    all_goals simp [Builtin.append_,run_underlying ht,run_underlying hk,sizeOf,typeInfo,hi,hsrc.len,hg,hsrc.cells,Addr.add_lit]
    all_goals first
      | (simp only [add_eq,Nat.zero_add] at hrun ⊢; rw [hrun]; simp)
      | (rw [hrun]; simp)
  · have hsp:splice (xs++rest) (n*i.size) ys=xs++ys++rest.drop ys.length:=by
      rw [splice_eq _ _ _ (by simp only [List.length_append]; omega),← hl,List.take_left,List.append_assoc,List.append_assoc,List.drop_append,Nat.add_sub_cancel_left,List.drop_eq_nil_of_le (Nat.le_add_right ..),List.nil_append]
    rw [Nat.add_zero,hsp] at hb'
    refine ⟨fun x=>?_,fun x hx=>?_,a1.trans hf.os,a2.trans hf.tape,a3.trans hf.output,by rw [a4]; exact hf.size⟩
    · by_cases hx:x=b
      · subst hx
        rw [HP.set_eq]
        refine ⟨rest.drop ys.length,?_,hb'⟩
        rw [List.length_drop,hrl,hyl,← Nat.sub_mul]
        congr 1; omega
      · rw [HP.set_ne _ _ hx,hr x hx]; exact hf.ent x
    · have:=hf.fr x hx
      have hne:x≠b:=fun e=>by rw [e,hb] at this; cases this.1
      rw [HP.set_ne _ _ hne,hr x hne,a4]; exact this
theorem opS_append {t tx ty e:TypeId} {i:TypeInfo} {z:Value} {e':TypeId} (ht:P.underlying t=some (.slice e)) (hi:P.info? e=some i) (hz:i.zero=some z) (hzs:z.cells.size=i.size)
    (htx:P.underlying tx=some (.slice e')) {s:Option Addr} {n c:Nat} {xs:List Value} (hs:Row hp s n c e i.size xs) {a:Option Addr} {m c':Nat} {ys:List Value} (ha:Shows hp a m i.size ys) (h1:ys.all one=true)
    (hb:(n+m)*i.bytes≤140737488355328) (h63:n+m≤9223372036854775807) {K:Value→HP→Prop}
    (h:∀ s2 c2 hp',Row hp' s2 (n+m) c2 e i.size (xs++ys) →
      ((hp'=hp∧s2=s)∨∃ b e',s2=some ⟨b,0,none⟩∧(hp b=.none∨s=some ⟨b,0,none⟩)∧hp'=hp.set b e')→K (.slice s2 (n+m) c2) hp') :
    opS P (Builtin.append_ #[t,tx] ty ⟨[.slice s n c,.slice a m c']⟩) hp K:=by
  by_cases hg:n+m≤c
  · rcases hs with ⟨rfl,rfl,rfl,rfl⟩ | ⟨b,rfl,hnc,hl,hbb⟩
    · have hm:m=0:=by omega
      subst hm
      have hys:ys=[]:=List.eq_nil_of_length_eq_zero (by rw [ha.len]; simp)
      subst hys
      intro F w0 w hf
      have hsrc:=hf.src (P:=P) (c:=c') htx ha h1
      refine ⟨.slice none 0 0,w,hp,?_,hf,h none 0 hp (.inl ⟨rfl,rfl,rfl,rfl⟩) (.inl ⟨rfl,rfl⟩)⟩
      rcases hsrc.kind with ⟨e'',hk⟩ | hk <;> simp [Builtin.append_,run_underlying ht,run_underlying hk,sizeOf,typeInfo,hi,hsrc.len,hsrc.cells]
    · refine opS_append_room ht hi htx hbb hl ha h1 hg ?_
      exact h _ _ _ (.inr ⟨b,rfl,hg,by rw [List.length_append,hl,ha.len,Nat.add_mul],HP.set_eq ..⟩) (.inr ⟨b,_,rfl,.inr rfl,rfl⟩)
  · refine opS_append_grow ht hi hz hzs htx hs.shows ha h1 (by omega) hb h63 fun b c2 hbn hc2=>?_
    exact h _ _ _ (.inr ⟨b,rfl,hc2,by rw [List.length_append,hs.len,ha.len,Nat.add_mul],HP.set_eq ..⟩) (.inr ⟨b,_,rfl,.inl hbn,rfl⟩)
end
end Go.HL
