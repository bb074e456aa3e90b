/- The heaplet logic, part 18b: the orders that a region may draw, for long regions: what stands ahead is kept without repetition. -/
import Derived.Test.YtobechphfppffaaGreatDoorHlOrd
set_option linter.unusedVariables false
set_option linter.unusedSimpArgs false
namespace Go.HL
open Go
def dd:List Nat→List Nat
  | []=>[]
  | x::l=>(fun r:List Nat=>if r.contains x then r else x::r) (dd l)
theorem mem_dd {x:Nat}:∀ {l:List Nat},x∈dd l→x∈l
  | [],h=>h
  | y::l,h=>by
    unfold dd at h
    simp only at h
    split at h
    · exact List.mem_cons_of_mem _ (mem_dd h)
    · rcases List.mem_cons.1 h with e | h
      · rw [e]; simp
      · exact List.mem_cons_of_mem _ (mem_dd h)
def aheadD (E:List (Nat × Nat)):List Nat→List (Nat × List Nat)→List (Nat × List Nat)
  | [],T=>T
  | y::l,T=>aheadD E l ((y,dd ((E.filter (·.2==y)).flatMap fun e=>e.1::((T.lookup e.1).getD [])))::T)
theorem aheadD_sound {E:List (Nat × Nat)} {f:Nat→Nat} (hE:∀ p i,(p,i)∈E→f p<f i):∀ (l:List Nat) (T:List (Nat × List Nat)),(∀ y ps,(y,ps)∈T→∀ p∈ps,f p<f y) →
    ∀ y ps,(y,ps)∈aheadD E l T→∀ p∈ps,f p<f y
  | [],_,h=>h
  | y::l,T,h=>by
    refine aheadD_sound hE l _ fun z ps hz p hp=>?_
    rcases List.mem_cons.1 hz with e | hz
    · simp only [Prod.mk.injEq] at e
      obtain ⟨rfl,rfl⟩:=e
      replace hp:=mem_dd hp
      simp only [List.mem_flatMap,List.mem_filter,List.mem_cons] at hp
      obtain ⟨e,⟨he,hey⟩,hp⟩:=hp
      have hlt:f e.1<f z:=by
        have:e.2=z:=by simpa using hey
        exact hE e.1 z (by rw [← this]; exact he)
      rcases hp with rfl | hp
      · exact hlt
      · cases hl:T.lookup e.1 with
        | none=>rw [hl] at hp; simp at hp
        | some qs=>
          rw [hl] at hp
          exact Nat.lt_trans (h e.1 qs (lookup_mem hl) p (by simpa using hp)) hlt
    · exact h z ps hz p hp
def ordOkD (P:Program) (prv:List Nat) (ops:Array Oper) (X:List (Nat × Nat)) (l0:List Nat):Bool:=
  let T:=aheadD (edgesOf ops++X) l0 []
  nodupB l0&&l0.length==ops.size&&l0.all (·<ops.size) &&
    (pairsOf l0).all fun (x,y)=>comm P prv ops x y||((T.lookup y).getD []).contains x
def certD (P:Program) (prv:List Nat) (ops:Array Oper) (cf:List (Nat × Nat)) (c:List (List Bool × Bool × List Nat)):Bool:=
  fwd (edgesOf ops)&&c.all (fun (s,b,l)=>let X:=waysOf cf s
    if b then ordOkD P prv ops X l else ringOk (edgesOf ops++X) l&&decide (2≤l.length)&&l.head?==l.getLast?)
section
variable {P:Program} {N:Nat} {prv:List Nat} {ops:Array Oper}
theorem certD_sound {cf:List (Nat × Nat)} {c:List (List Bool × Bool × List Nat)} (hc:certD P prv ops cf c=true) (hv:((vecs cf.length).all fun s=>c.any (·.1==s))=true)
    (hd:(cf.all fun (x,y)=>x != y&&decide (x<ops.size)&&decide (y<ops.size))=true) {env:Env} {pv:PV} {hp:HP} {K:Env→PV→HP→Prop}
    (h:∀ s l,(s,true,l)∈c→RW P N prv ops l env pv hp K) (hs:Sat hp) {l:List Nat} (hl:IsOrd ops l):RG P N prv ops l env pv hp K:=by
  let s:=cf.map fun (x,y)=>decide (l.idxOf x<l.idxOf y)
  have hways:∀ cf':List (Nat × Nat),(∀ e∈cf',e∈cf)→∀ p i,(p,i)∈waysOf cf' (cf'.map fun (x,y)=>decide (l.idxOf x<l.idxOf y))→l.idxOf p<l.idxOf i:=by
    intro cf'
    induction cf' with
    | nil=>intro _ p i h; cases h
    | cons a cf' ih=>
      intro hsub p i h
      obtain ⟨x,y⟩:=a
      simp only [List.map_cons,waysOf,List.mem_cons] at h
      rcases h with h | h
      · by_cases hlt:l.idxOf x<l.idxOf y
        · simp only [hlt,decide_true,if_true,Prod.mk.injEq] at h
          obtain ⟨rfl,rfl⟩:=h; exact hlt
        · simp only [hlt,decide_false,Bool.false_eq_true,if_false,Prod.mk.injEq] at h
          obtain ⟨rfl,rfl⟩:=h
          have hd':=List.all_eq_true.1 hd (i,p) (hsub _ (by simp))
          simp only [Bool.and_eq_true,bne_iff_ne,ne_eq,decide_eq_true_eq] at hd'
          have hne:l.idxOf i≠l.idxOf p:=fun e=>hd'.1.1 (by
            have hi:=(hl.mem i).2 hd'.1.2
            have hp:=(hl.mem p).2 hd'.2
            have h1:=List.getElem_idxOf (List.idxOf_lt_length_of_mem hi)
            have h2:=List.getElem_idxOf (List.idxOf_lt_length_of_mem hp)
            rw [← h1,← h2]; simp only [e])
          omega
      · exact ih (fun e he=>hsub e (by simp [he])) p i h
  have hE:∀ p i,(p,i)∈edgesOf ops++waysOf cf s→l.idxOf p<l.idxOf i:=by
    intro p i h
    rcases List.mem_append.1 h with h | h
    · exact hl.edge p i h
    · exact hways cf (fun _ h=>h) p i h
  have hsv:s∈vecs cf.length:=by
    have:=mem_vecs s
    simpa [s] using this
  obtain ⟨⟨s',b,l0⟩,hmem,hss⟩:=List.any_eq_true.1 (List.all_eq_true.1 hv s hsv)
  have hss:s'=s:=by simpa using hss
  subst hss
  simp only [certD,Bool.and_eq_true] at hc
  have hck:=List.all_eq_true.1 hc.2 _ hmem
  cases b with
  | false=>
    exfalso
    simp only [Bool.false_eq_true,if_false,Bool.and_eq_true,decide_eq_true_eq,beq_iff_eq] at hck
    obtain ⟨⟨h1,h2⟩,h3⟩:=hck
    cases l0 with
    | nil=>simp at h2
    | cons x l0=>
      rcases ring_lt hE h1 x (by rw [← h3]; rfl) with e | hlt
      · subst e; simp at h2
      · omega
  | true=>
    simp only [if_true] at hck
    simp only [ordOkD,Bool.and_eq_true,beq_iff_eq,List.all_eq_true,decide_eq_true_eq] at hck
    obtain ⟨⟨⟨k1,k2⟩,k3⟩,k4⟩:=hck
    have n0:=nodupB_iff k1
    have hall:∀ x,x∈l0↔x∈l:=by
      intro x
      rw [hl.mem]
      constructor
      · exact k3 x
      · intro hx
        exact full n0 k3 (by omega) hx
    refine RG_perm n0 hall hl.nodup (fun x y hxy hyx=>?_) hs (RG_of_RW (h s l0 hmem))
    have:=k4 (x,y) (mem_pairs hxy)
    simp only [Bool.or_eq_true] at this
    rcases this with h | h
    · exact h
    · exfalso
      cases hlk:(aheadD (edgesOf ops++waysOf cf s) l0 []).lookup y with
      | none=>rw [hlk] at h; simp at h
      | some ps=>
        rw [hlk] at h
        have h1:=aheadD_sound hE l0 [] (fun _ _ h=>by cases h) y ps (lookup_mem hlk) x (by simpa using h)
        have h2:=pair_idx hl.nodup hyx
        omega
theorem AWP.drawE {id:Nat} {Q:Post} {env pv hp} (hm:P.follows .mixedOrders=true) {cf:List (Nat × Nat)} {c:List (List Bool × Bool × List Nat)} (hc:certD P prv ops cf c=true)
    (hv:((vecs cf.length).all fun s=>c.any (·.1==s))=true) (hd:(cf.all fun (x,y)=>x != y&&decide (x<ops.size)&&decide (y<ops.size))=true)
    (h:∀ s l,(s,true,l)∈c→RW P N prv ops l env pv hp fun env pv hp=>Q .normal env pv hp):AWP P N (.region id ops true) Q env pv hp:=by
  intro F w0 nm tmps w hs hr
  refine wp_region_draw fun t=>?_
  rw [hm]
  have hf:fwd (edgesOf ops)=true:=by simp only [certD,Bool.and_eq_true] at hc; exact hc.1
  have hs':Sim F w0 N env pv hp nm tmps { w with drawn:=w.drawn+1 }:=
    { len:=hs.len,slots:=hs.slots,priv:=hs.priv,inj:=hs.inj
      fits:={ ent:=hs.fits.ent,fr:=hs.fits.fr,os:=hs.fits.os,tape:=hs.fits.tape,output:=hs.fits.output,size:=hs.fits.size } }
  exact RG_sound _ (certD_sound hc hv hd h ⟨_,_,_,hs.fits⟩ (ord_of_schedule hf t)) hs' hr fun _ _ _ _ _ _ hk hs hr=>⟨rfl,.normal,_,_,_,_,rfl,hs,hr,hk⟩
end
end Go.HL
