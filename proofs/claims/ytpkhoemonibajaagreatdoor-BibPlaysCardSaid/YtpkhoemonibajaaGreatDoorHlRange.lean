/- The heaplet logic in use, part 7: going through a map: each pair once, in whichever order. -/
import Derived.Test.YtpkhoemonibajaaGreatDoorHlLib
import Derived.Maps.RangeRun
set_option linter.unusedVariables false
set_option linter.unusedSimpArgs false
namespace Go.HL
open Go
section
variable {κ ν:Type} {P:Program} {hp:HP} {mt kt et:TypeId} {ek:κ→Value} {ev:ν→Value} {m it:Nat} {l done:List (κ × ν)}
def IterR (hp:HP) (it m:Nat) (ek:κ→Value) (ev:ν→Value) (l done:List (κ × ν)):Prop:=
  ∃ (es:Array MapEntry) (clock:Nat) (seen:Array Nat) (des:List MapEntry),hp it=.obj (.mapIter (some m) clock seen clock)∧hp m=.obj (.map es clock) ∧
    es.toList.map (fun e:MapEntry=>(e.key,e.val))=l.map (fun p=>(ek p.1,ev p.2))∧(∀ x∈es.toList,x.born<clock)∧(es.toList.map (·.born)).Nodup ∧
    seen.toList=des.map (·.born)∧(∀ e∈des,e∈es.toList)∧des.Nodup∧des.map (fun e:MapEntry=>(e.key,e.val))=done.map (fun p=>(ek p.1,ev p.2))
theorem opS_range (hm:P.underlying mt=some (.map kt et)) (hr:MapE ek ev l (hp m)) {K:Value→HP→Prop}
    (h:∀ it e,hp it=.none→IterR (hp.set it e) it m ek ev l []→K (ptr it 0) (hp.set it e)):opS P (Instr.range mt (.map (some m))) hp K:=by
  obtain ⟨es,clock,he,hes,hb1,hb2⟩:=hr
  intro F w0 w hf
  have hb:=getObj_of hf he
  refine ⟨ptr w.heap.size 0,w.alloc (.mapIter (some m) clock #[] clock),hp.set w.heap.size (.obj (.mapIter (some m) clock #[] clock)),?_,hf.alloc _ rfl,h _ _ hf.fresh ?_⟩
  · simp [Instr.range,run_underlying hm,MapKept.run_getObj_map hb,run_newObj]
  · have hne:m≠w.heap.size:=fun e=>by have:=hf.fresh; rw [← e,he] at this; cases this
    exact ⟨es,clock,#[],[],HP.set_eq ..,by rw [HP.set_ne _ _ hne]; exact he,hes,hb1,hb2,rfl,(fun _ h=>by cases h),List.nodup_nil,rfl⟩
theorem perm_of_nodup {α:Type}:∀ {a b:List α},a.Nodup→b.Nodup→(∀ x∈a,x∈b)→(∀ x∈b,x∈a)→a.Perm b
  | [],b,_,_,_,h=>by
    cases b with
    | nil=>exact List.Perm.nil
    | cons x b=>exact absurd (h x (by simp)) (by simp)
  | x::a,b,ha,hb,h1,h2=>by
    classical
    have hx:x∈b:=h1 x (by simp)
    have hp:=List.perm_cons_erase hx
    refine List.Perm.trans ?_ hp.symm
    refine List.Perm.cons _ (perm_of_nodup (List.nodup_cons.1 ha).2 (hb.erase x) ?_ ?_)
    · intro y hy
      have hne:y≠x:=fun e=>(List.nodup_cons.1 ha).1 (e▸hy)
      exact (List.mem_erase_of_ne hne).2 (h1 y (by simp [hy]))
    · intro y hy
      have hyb:=List.mem_of_mem_erase hy
      have hne:y≠x:=fun e=>by subst e; exact (hb.not_mem_erase) hy
      rcases List.mem_cons.1 (h2 y hyb) with e | e
      · exact absurd e hne
      · exact e
theorem inj_of_nodup {α β:Type} {f:α→β}:∀ {l:List α},(l.map f).Nodup→∀ {x y:α},x∈l→y∈l→f x=f y→x=y
  | [],_,_,_,h,_,_=>by cases h
  | a::l,hn,x,y,hx,hy,e=>by
    rw [List.map_cons,List.nodup_cons] at hn
    rcases List.mem_cons.1 hx with rfl | hx
    · rcases List.mem_cons.1 hy with rfl | hy
      · rfl
      · exact absurd (List.mem_map.2 ⟨y,hy,e.symm⟩) hn.1
    · rcases List.mem_cons.1 hy with hya | hy
      · exact absurd (List.mem_map.2 ⟨x,hx,by rw [e,hya]⟩) hn.1
      · exact inj_of_nodup hn.2 hx hy e
theorem run_next_cases {F w0 w} (hf:Fits F w0 hp w) {ty:TypeId} (hr:IterR hp it m ek ev l done) :
    (((done.map fun p=>(ek p.1,ev p.2)).Perm (l.map fun p=>(ek p.1,ev p.2)))∧(Instr.next (ptr it 0) false ty).run P w=.ok (.tuple #[.bool false]) w) ∨
    ∃ kv e w',kv∈l∧IterR (hp.set it e) it m ek ev l (done++[kv])∧Fits F w0 (hp.set it e) w'∧(Instr.next (ptr it 0) false ty).run P w=.ok (.tuple #[.bool true,ek kv.1,ev kv.2]) w':=by
  obtain ⟨es,clock,seen,des,h1,h2,hes,hb1,hb2,hseen,hin,hnd,hdone⟩:=hr
  have g1:=getObj_of hf h1
  have g2:=getObj_of hf h2
  have hesn:es.toList.Nodup:=by
    exact (List.pairwise_map.1 hb2).imp fun h e=>h (by rw [e])
  rcases run_next_at (P:=P) w ty it m clock clock seen es clock g1 g2 hb1 (Nat.le_refl _) with ⟨hl,hrun⟩ | ⟨e,he,w1,hw1,hrun⟩
  · left
    refine ⟨?_,hrun⟩
    rw [← hdone,← hes]
    refine List.Perm.map _ (perm_of_nodup hnd hesn hin ?_)
    intro x hx
    have:x ∉ (leftOf es seen).toList:=by
      have:(leftOf es seen)=#[]:=Array.eq_empty_of_size_eq_zero hl
      rw [this]; simp
    have hxs:x.born∈seen.toList:=by
      refine Classical.byContradiction fun hn=>this ?_
      unfold leftOf
      simp only [Array.toList_filter,List.mem_filter]
      refine ⟨hx,?_⟩
      simpa using hn
    rw [hseen] at hxs
    obtain ⟨y,hy,hyb⟩:=List.mem_map.1 hxs
    have:y=x:=inj_of_nodup hb2 (hin y hy) hx hyb
    rw [← this]; exact hy
  · right
    have hel:e∈es.toList∧e.born ∉ seen.toList:=by
      unfold leftOf at he
      simp only [Array.toList_filter,List.mem_filter] at he
      exact ⟨he.1,by simpa using he.2⟩
    have hmem:(e.key,e.val)∈l.map (fun p=>(ek p.1,ev p.2)):=hes▸List.mem_map.2 ⟨e,hel.1,rfl⟩
    obtain ⟨kv,hkv,hkve⟩:=List.mem_map.1 hmem
    simp only [Prod.mk.injEq] at hkve
    have hf1:Fits F w0 hp w1:=by
      rcases hw1 with rfl | rfl
      · exact hf
      · exact hf.drew
    have hne:m≠it:=fun e=>by rw [e,h1] at h2; cases h2
    refine ⟨kv,.obj (.mapIter (some m) clock (seen.push e.born) clock),_,hkv,?_,hf1.setObj h1 (o':=.mapIter (some m) clock (seen.push e.born) clock),?_⟩
    · refine ⟨es,clock,seen.push e.born,des++[e],HP.set_eq ..,by rw [HP.set_ne _ _ hne]; exact h2,hes,hb1,hb2,?_,?_,?_,?_⟩
      · simp [hseen]
      · intro x hx
        rcases List.mem_append.1 hx with hx | hx
        · exact hin x hx
        · rw [List.mem_singleton.1 hx]; exact hel.1
      · refine List.nodup_append.2 ⟨hnd,by simp,?_⟩
        intro x hx y hy
        rw [List.mem_singleton.1 hy]
        intro e'
        exact hel.2 (by rw [hseen]; exact List.mem_map.2 ⟨x,hx,by rw [e']⟩)
      · simp [hdone,hkve]
    · rw [hkve.1,hkve.2]; exact hrun
theorem opS_next {ty:TypeId} (hr:IterR hp it m ek ev l done) {K:Value→HP→Prop}
    (hend:((done.map fun p=>(ek p.1,ev p.2)).Perm (l.map fun p=>(ek p.1,ev p.2)))→K (.tuple #[.bool false]) hp)
    (hgo:∀ kv,kv∈l→∀ e,IterR (hp.set it e) it m ek ev l (done++[kv])→K (.tuple #[.bool true,ek kv.1,ev kv.2]) (hp.set it e)) :
    opS P (Instr.next (ptr it 0) false ty) hp K:=by
  intro F w0 w hf
  rcases run_next_cases (P:=P) (ty:=ty) hf hr with ⟨h1,h2⟩ | ⟨kv,e,w',h1,h2,h3,h4⟩
  · exact ⟨_,_,_,h2,hf,hend h1⟩
  · exact ⟨_,_,_,h4,h3,hgo kv h1 e h2⟩
theorem rdS_entry {kv:κ × ν} (hr:IterR hp it m ek ev l (done++[kv])) {c:Value→Prop} (h:c (.tuple #[ek kv.1,ev kv.2])):rdS P (Instr.entry (ptr it 0)) hp c:=by
  obtain ⟨es,clock,seen,des,h1,h2,hes,hb1,hb2,hseen,hin,hnd,hdone⟩:=hr
  have hd:∃ des' e,des=des'++[e]:=by
    rcases List.eq_nil_or_concat des with h | ⟨a,b,h⟩
    · subst h; simp at hdone
    · exact ⟨a,b,by simpa using h⟩
  obtain ⟨des',e,rfl⟩:=hd
  have hlen:des'.length=done.length:=by have:=congrArg List.length hdone; simpa using this
  simp only [List.map_append,List.map_cons,List.map_nil] at hdone hseen
  obtain ⟨hd1,hd2⟩:=List.append_inj hdone (by simpa using hlen)
  simp only [List.cons.injEq,Prod.mk.injEq,and_true] at hd2
  refine ⟨_,fun F w0 w hf=>?_,h⟩
  have g1:=getObj_of hf h1
  have g2:=getObj_of hf h2
  have hs:seen=(⟨des'.map (·.born)⟩:Array Nat).push e.born:=by
    apply Array.ext'
    simp [hseen]
  rw [hs] at g1
  have:=run_entry_at (P:=P) w it m clock _ es clock e g1 g2 (hin e (by simp)) hb2
  rw [hd2.1,hd2.2] at this
  exact this
end
end Go.HL
