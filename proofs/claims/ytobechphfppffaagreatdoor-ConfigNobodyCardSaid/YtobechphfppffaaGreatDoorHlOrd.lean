/- The heaplet logic, part 18: the orders that a region may draw. -/
import Derived.Test.YtobechphfppffaaGreatDoorHlDraw
set_option linter.unusedVariables false
set_option linter.unusedSimpArgs false
namespace Go.HL
open Go
def edgesOf (ops:Array Oper):List (Nat × Nat):=ops.toList.zipIdx.flatMap fun (o,i)=>(o.after.toList.filter (Region.binds .any)).map fun e=>(e.on,i)
def fwd (E:List (Nat × Nat)):Bool:=E.all fun (a,b)=>a<b
theorem mem_edges {ops:Array Oper} {i p:Nat}:(p,i)∈edgesOf ops↔∃ o e,ops[i]?=some o∧e∈o.after∧Region.binds .any e=true∧e.on=p:=by
  unfold edgesOf
  simp only [List.mem_flatMap,List.mem_map,List.mem_filter,Array.mem_toList_iff,Prod.exists]
  constructor
  · rintro ⟨o,j,ho,e,⟨he,hb⟩,heq⟩
    have hj:ops[j]?=some o:=by
      have:=List.mem_zipIdx_iff_getElem?.1 ho
      simpa using this
    simp only [Prod.mk.injEq] at heq
    obtain ⟨rfl,rfl⟩:=heq
    exact ⟨o,e,hj,he,hb,rfl⟩
  · rintro ⟨o,e,ho,he,hb,rfl⟩
    exact ⟨o,i,List.mem_zipIdx_iff_getElem?.2 (by simpa using ho),e,⟨he,hb⟩,rfl⟩
theorem sub_len:∀ {l m:List Nat},l.Nodup→(∀ x∈l,x∈m)→l.length≤m.length
  | [],m,_,_=>by simp
  | x::l,m,hn,hs=>by
    rw [List.nodup_cons] at hn
    have h:=sub_len (m:=m.erase x) hn.2 (fun y hy=>(List.mem_erase_of_ne (fun (e:y=x)=>hn.1 (e▸hy))).2 (hs y (by simp [hy])))
    rw [List.length_erase_of_mem (hs x (by simp))] at h
    have:0<m.length:=List.length_pos_of_mem (hs x (by simp))
    simp only [List.length_cons]; omega
theorem full {l:List Nat} {n:Nat} (hn:l.Nodup) (hs:∀ x∈l,x<n) (hl:n≤l.length) {x:Nat} (hx:x<n):x∈l:=by
  refine Classical.byContradiction fun h=>?_
  have:=sub_len (l:=x::l) (m:=List.range n) (List.nodup_cons.2 ⟨h,hn⟩) (fun y hy=>by
    rcases List.mem_cons.1 hy with e | e
    · subst e; exact List.mem_range.2 hx
    · exact List.mem_range.2 (hs y e))
  simp at this; omega
structure IsOrd (ops:Array Oper) (l:List Nat):Prop where
  nodup:l.Nodup
  mem:∀ i,i∈l↔i<ops.size
  edge:∀ p i,(p,i)∈edgesOf ops→l.idxOf p<l.idxOf i
theorem idx_append_new {l:List Nat} {i:Nat} (h:i ∉ l):(l++[i]).idxOf i=l.length:=by
  rw [List.idxOf_append]; simp [h]
theorem idx_append_old {l:List Nat} {p i:Nat} (h:p∈l):(l++[i]).idxOf p=l.idxOf p:=by
  rw [List.idxOf_append]; simp [h]
theorem lin_go {ops:Array Oper} (hf:fwd (edgesOf ops)=true):∀ (fuel t:Nat) (listed:Array Bool) (acc:List Nat),listed.size=ops.size→acc.length+fuel=ops.size →
    (∀ i,i∈acc↔listed.getD i false=true)→acc.Nodup→(∀ p i,(p,i)∈edgesOf ops→i∈acc→p∈acc∧acc.reverse.idxOf p<acc.reverse.idxOf i) →
    IsOrd ops (Region.linearise.go .any ops fuel t listed acc)
  | 0,t,listed,acc,hsz,hlen,hm,hn,he=>by
    simp only [Region.linearise.go]
    have hlt:∀ i∈acc,i<ops.size:=by
      intro i hi
      have:=(hm i).1 hi
      rcases Nat.lt_or_ge i listed.size with h | h
      · omega
      · simp [Array.getD,Nat.not_lt.2 h] at this
    have hall:∀ i,i<ops.size→i∈acc:=fun i hi=>full hn hlt (by omega) hi
    refine ⟨List.pairwise_reverse.2 (hn.imp fun h=>Ne.symm h),fun i=>by simp only [List.mem_reverse]; exact ⟨hlt i,hall i⟩,fun p i h=>?_⟩
    have hi:i∈acc:=hall i (by
      obtain ⟨o,e,ho,_⟩:=mem_edges.1 h
      rcases Nat.lt_or_ge i ops.size with h | h
      · exact h
      · rw [Array.getElem?_eq_none h] at ho; cases ho)
    exact (he p i h hi).2
  | fuel+1,t,listed,acc,hsz,hlen,hm,hn,he=>by
    have hlt:∀ i∈acc,i<ops.size:=by
      intro i hi
      have:=(hm i).1 hi
      rcases Nat.lt_or_ge i listed.size with h | h
      · omega
      · simp [Array.getD,Nat.not_lt.2 h] at this
    simp only [Region.linearise.go]
    generalize hrs:((List.range ops.size).filter fun i=>!listed.getD i true&&((ops[i]?).map (·.after.all fun e=>!Region.binds .any e||listed.getD e.on false)).getD false)=rs
    have hready:∀ i,i∈rs↔i<ops.size∧listed.getD i true=false∧∀ p,(p,i)∈edgesOf ops→listed.getD p false=true:=by
      intro i
      rw [← hrs,List.mem_filter,List.mem_range]
      constructor
      · rintro ⟨hi,h⟩
        simp only [Bool.and_eq_true,Bool.not_eq_true'] at h
        refine ⟨hi,h.1,fun p hp=>?_⟩
        obtain ⟨o,e,ho,hea,hb,rfl⟩:=mem_edges.1 hp
        have h2:=h.2
        rw [ho] at h2
        simp only [Option.map_some,Option.getD_some,Array.all_eq_true_iff_forall_mem] at h2
        have:=h2 e hea
        rw [hb] at this
        simpa using this
      · rintro ⟨hi,h1,h2⟩
        refine ⟨hi,?_⟩
        rw [h1,Array.getElem?_eq_getElem hi]
        simp only [Option.map_some,Option.getD_some,Bool.not_false,Bool.true_and,Array.all_eq_true_iff_forall_mem]
        intro e hea
        by_cases hb:Region.binds .any e=true
        · have:=h2 e.on (mem_edges.2 ⟨_,e,Array.getElem?_eq_getElem hi,hea,hb,rfl⟩)
          rw [hb,this]; rfl
        · simp only [Bool.not_eq_true] at hb
          rw [hb]; rfl
    have hne:rs≠[]:=by
      have hex:∃ i,i<ops.size∧i ∉ acc:=by
        refine Classical.byContradiction fun hno=>?_
        have hsub:List.range ops.size ⊆ acc:=fun x hx=>Classical.byContradiction fun hx'=>hno ⟨x,List.mem_range.1 hx,hx'⟩
        have:=sub_len (l:=List.range ops.size) List.nodup_range (fun x hx=>hsub hx)
        simp at this; omega
      have key:∀ n i,i<n→i<ops.size→i ∉ acc→rs≠[]:=by
        intro n
        induction n with
        | zero=>intro i h; omega
        | succ n ih=>
          intro i hin hi hia
          by_cases hp:∀ p,(p,i)∈edgesOf ops→p∈acc
          · refine List.ne_nil_of_mem ((hready i).2 ⟨hi,?_,fun p h=>(hm p).1 (hp p h)⟩)
            have:=fun h=>hia ((hm i).2 h)
            rcases Nat.lt_or_ge i listed.size with h | h
            · simp only [Array.getD,dif_pos h] at this ⊢
              simpa using this
            · omega
          · simp only [Classical.not_forall] at hp
            obtain ⟨p,hpe,hpa⟩:=hp
            have hlt:p<i:=by
              have:=List.all_eq_true.1 hf (p,i) hpe
              simpa using this
            exact ih p (by omega) (by omega) hpa
      obtain ⟨i,hi,hia⟩:=hex
      exact key (i+1) i (by omega) hi hia
    have hpos:0<rs.length:=List.length_pos_iff.2 hne
    have hget:rs[t % rs.length]?=some (rs[t % rs.length]'(Nat.mod_lt _ hpos)):=List.getElem?_eq_getElem _
    rw [hget]
    simp only
    generalize hi:rs[t % rs.length]'(Nat.mod_lt _ hpos)=i
    have him:i∈rs:=hi▸List.getElem_mem _
    obtain ⟨hilt,hil,hip⟩:=(hready i).1 him
    have hia:i ∉ acc:=fun h=>by
      have:=(hm i).1 h
      have hlt':i<listed.size:=by omega
      simp only [Array.getD,dif_pos hlt'] at this hil
      rw [hil] at this; cases this
    refine lin_go hf fuel (t / rs.length) (listed.setIfInBounds i true) (i::acc) (by simp [hsz]) (by simp; omega) (fun j=>?_) (List.nodup_cons.2 ⟨hia,hn⟩) (fun p j hpj hj=>?_)
    · rw [List.mem_cons,hm j]
      by_cases hji:j=i
      · subst hji
        simp only [true_or,true_iff]
        have hlt':j<listed.size:=by omega
        simp [Array.getD,hlt']
      · simp only [hji,false_or]
        by_cases hlt':j<listed.size
        · simp [Array.getD,hlt',Array.getElem_setIfInBounds,Ne.symm hji]
        · simp [Array.getD,hlt']
    · rcases List.mem_cons.1 hj with e | hj
      · subst e
        have hpa:=(hm p).2 (hip p hpj)
        refine ⟨List.mem_cons.2 (.inr hpa),?_⟩
        rw [List.reverse_cons,idx_append_new (by simpa using hia),idx_append_old (by simpa using hpa)]
        exact List.idxOf_lt_length_of_mem (by simpa using hpa)
      · obtain ⟨h1,h2⟩:=he p j hpj hj
        refine ⟨List.mem_cons.2 (.inr h1),?_⟩
        rw [List.reverse_cons,idx_append_old (by simpa using h1),idx_append_old (by simpa using hj)]
        exact h2
theorem ord_of_schedule {ops:Array Oper} (hf:fwd (edgesOf ops)=true) (t:Nat):IsOrd ops (Region.schedule true ops t):=by
  unfold Region.schedule
  simp only [Bool.true_or,if_true,Region.linearise]
  refine lin_go hf _ _ _ _ (by simp) (by simp) (fun i=>?_) List.nodup_nil (fun p i _ h=>by cases h)
  simp only [List.not_mem_nil,false_iff]
  rcases Nat.lt_or_ge i ops.size with h | h
  · simp [Array.getD,h]
  · simp [Array.getD,Nat.not_lt.2 h]
theorem pair_idx {l:List Nat} {x y:Nat} (hn:l.Nodup) (h:[x,y].Sublist l):l.idxOf x<l.idxOf y:=by
  induction l with
  | nil=>cases h
  | cons a l ih=>
    rw [List.nodup_cons] at hn
    cases h with
    | cons _ h=>
      have hx:x∈l:=h.subset (by simp)
      have hy:y∈l:=h.subset (by simp)
      have hxa:a≠x:=fun e=>hn.1 (e▸hx)
      have hya:a≠y:=fun e=>hn.1 (e▸hy)
      have:=ih hn.2 h
      rw [List.idxOf_cons,List.idxOf_cons,show (a==x)=false from by simpa using hxa,show (a==y)=false from by simpa using hya]; simp only [cond_false]; omega
    | cons_cons _ h=>
      have hy:y∈l:=List.singleton_sublist.1 h
      have hya:x≠y:=fun e=>hn.1 (e▸hy)
      rw [List.idxOf_cons,List.idxOf_cons,show (x==y)=false from by simpa using hya]; simp
def ahead (E:List (Nat × Nat)):List Nat→List (Nat × List Nat)→List (Nat × List Nat)
  | [],T=>T
  | y::l,T=>ahead E l ((y,(E.filter (·.2==y)).flatMap fun e=>e.1::((T.lookup e.1).getD []))::T)
theorem lookup_mem {T:List (Nat × List Nat)} {x:Nat} {ps:List Nat} (h:T.lookup x=some ps):(x,ps)∈T:=by
  induction T with
  | nil=>cases h
  | cons a T ih=>
    obtain ⟨k,v⟩:=a
    simp only [List.lookup] at h
    split at h
    · rename_i he
      have:x=k:=by simpa using he
      cases h; subst this; simp
    · exact List.mem_cons.2 (.inr (ih h))
def pairsOf:List Nat→List (Nat × Nat)
  | []=>[]
  | x::l=>l.map (fun y=>(x,y))++pairsOf l
theorem mem_pairs {l:List Nat} {x y:Nat} (h:[x,y].Sublist l):(x,y)∈pairsOf l:=by
  induction l with
  | nil=>cases h
  | cons a l ih=>
    cases h with
    | cons _ h=>simp only [pairsOf,List.mem_append]; exact .inr (ih h)
    | cons_cons _ h=>simp only [pairsOf,List.mem_append,List.mem_map]; exact .inl ⟨y,List.singleton_sublist.1 h,rfl⟩
def nodupB (l:List Nat):Bool:=match l with
  | []=>true
  | x::l=>!l.contains x&&nodupB l
theorem nodupB_iff {l:List Nat} (h:nodupB l=true):l.Nodup:=by
  induction l with
  | nil=>exact List.nodup_nil
  | cons x l ih=>
    simp only [nodupB,Bool.and_eq_true,Bool.not_eq_true'] at h
    refine List.nodup_cons.2 ⟨fun hx=>?_,ih h.2⟩
    have h1:=h.1
    simp [hx] at h1
def waysOf:List (Nat × Nat)→List Bool→List (Nat × Nat)
  | (x,y)::c,b::s=>(if b then (x,y) else (y,x))::waysOf c s
  | _,_=>[]
def ringOk (E:List (Nat × Nat)):List Nat→Bool
  | x::y::l=>E.contains (x,y)&&ringOk E (y::l)
  | _=>true
def vecs:Nat→List (List Bool)
  | 0=>[[]]
  | n+1=>(vecs n).flatMap fun s=>[true::s,false::s]
theorem mem_vecs:∀ s:List Bool,s∈vecs s.length
  | []=>by simp [vecs]
  | b::s=>by
    simp only [List.length_cons,vecs,List.mem_flatMap]
    exact ⟨s,mem_vecs s,by cases b <;> simp⟩
section
variable {P:Program} {N:Nat} {prv:List Nat} {ops:Array Oper}
theorem ring_lt {E:List (Nat × Nat)} {f:Nat→Nat} (hE:∀ p i,(p,i)∈E→f p<f i):∀ {l:List Nat} {x:Nat},ringOk E (x::l)=true→∀ z,(x::l).getLast?=some z→l=[]∨f x<f z
  | [],_,_,_,_=>.inl rfl
  | y::l,x,h,z,hz=>by
    simp only [ringOk,Bool.and_eq_true] at h
    have hxy:=hE x y (by simpa using h.1)
    rcases ring_lt hE h.2 z (by simpa using hz) with e | hlt
    · subst e
      have:z=y:=by simpa using hz.symm
      subst this; exact .inr hxy
    · exact .inr (Nat.lt_trans hxy hlt)
end
end Go.HL
