/- The heaplet logic in use, part 20: memory in parts, each beside the others. -/
import Derived.Test.YtpkhoemonibajaaGreatDoorHlFrame
import Derived.Test.YtpkhoemonibajaaGreatDoorHlUse2
set_option linter.unusedVariables false
set_option linter.unusedSimpArgs false
namespace Go.HL
open Go
def pu (ps:Nat→HP) (i:Nat) (h:HP):Nat→HP:=fun j=>if j=i then h else ps j
theorem pu_eq (ps:Nat→HP) (i:Nat) (h:HP):pu ps i h i=h:=by simp [pu]
theorem pu_ne (ps:Nat→HP) {i j:Nat} (h:HP) (hj:j≠i):pu ps i h j=ps j:=by simp [pu,hj]
structure Parts (hp:HP) (ps:Nat→HP):Prop where
  sub:∀ i,HSub (ps i) hp
  dis:∀ i j,i≠j→Disj (ps i) (ps j)
theorem Disj.none_of {a r:HP} (h:Disj a r) {b:Nat} (hb:a b≠.none):r b=.none:=(h b).resolve_left hb
theorem Disj.set {a r:HP} (h:Disj a r) {b:Nat} (hb:r b=.none) (e:Ent):Disj (a.set b e) r:=fun x=>by
  by_cases hx:x=b
  · subst hx; exact .inr hb
  · rw [HP.set_ne _ _ hx]; exact h x
theorem Disj.sub {a a' r:HP} (h:Disj a r) (hs:HSub a' a):Disj a' r:=(h.symm.mono hs).symm
theorem Disj.nil (r:HP):Disj (fun _=>.none) r:=fun _=>.inl rfl
section
variable {hp hp':HP} {ps:Nat→HP}
theorem Parts.weak (h:Parts hp ps) (hs:HSub hp hp'):Parts hp' ps:=⟨fun i=>(h.sub i).trans hs,h.dis⟩
theorem Parts.none (h:Parts hp ps) {i j b:Nat} (hb:ps i b≠.none) (hj:j≠i):ps j b=.none:=(h.dis i j hj.symm).none_of hb
theorem Parts.put (h:Parts hp ps) (i:Nat) {b:Nat} (hb:ps i b≠.none) (e:Ent):Parts (hp.set b e) (pu ps i ((ps i).set b e)) where
  sub j:=by
    by_cases hj:j=i
    · subst hj; rw [pu_eq]; exact (h.sub j).set b e
    · rw [pu_ne _ _ hj]; exact (h.sub j).up (h.none hb hj) e
  dis j k hjk:=by
    by_cases hj:j=i
    · subst hj; rw [pu_eq,pu_ne _ _ (fun e=>hjk e.symm)]; exact (h.dis j k hjk).set (h.none hb (fun e=>hjk e.symm)) e
    · rw [pu_ne _ _ hj]
      by_cases hk:k=i
      · subst hk; rw [pu_eq]; exact ((h.dis k j (fun e=>hj e.symm)).set (h.none hb hj) e).symm
      · rw [pu_ne _ _ hk]; exact h.dis j k hjk
theorem Parts.new (h:Parts hp ps) (i:Nat) {b:Nat} (hb:hp b=.none) (e:Ent):Parts (hp.set b e) (pu ps i ((ps i).set b e)) where
  sub j:=by
    by_cases hj:j=i
    · subst hj; rw [pu_eq]; exact (h.sub j).set b e
    · rw [pu_ne _ _ hj]; exact (h.sub j).up ((h.sub j).none hb) e
  dis j k hjk:=by
    by_cases hj:j=i
    · subst hj; rw [pu_eq,pu_ne _ _ hjk.symm]; exact (h.dis j k hjk).set ((h.sub k).none hb) e
    · rw [pu_ne _ _ hj]
      by_cases hk:k=i
      · subst hk; rw [pu_eq]; exact ((h.dis k j (fun e=>hj e.symm)).set ((h.sub j).none hb) e).symm
      · rw [pu_ne _ _ hk]; exact h.dis j k hjk
theorem Parts.loc (h:Parts hp ps) (i:Nat) {l:HP} (hl:HSub l hp') (f:∀ r,HSub r hp→Disj (ps i) r→HSub r hp'∧Disj l r):Parts hp' (pu ps i l) where
  sub j:=by
    by_cases hj:j=i
    · subst hj; rw [pu_eq]; exact hl
    · rw [pu_ne _ _ hj]; exact (f _ (h.sub j) (h.dis i j (fun e=>hj e.symm))).1
  dis j k hjk:=by
    by_cases hj:j=i
    · subst hj; rw [pu_eq,pu_ne _ _ hjk.symm]; exact (f _ (h.sub k) (h.dis j k hjk)).2
    · rw [pu_ne _ _ hj]
      by_cases hk:k=i
      · subst hk; rw [pu_eq]; exact (f _ (h.sub j) (h.dis k j hjk.symm)).2.symm
      · rw [pu_ne _ _ hk]; exact h.dis j k hjk
theorem CF.part {P:Program} {f:FuncId} {args:List Value} {K K':Value→HP→Prop} (hP:Parts hp ps) (i:Nat) (h:CF P f args (ps i) K')
    (k:∀ v l hp',K' v l→Parts hp' (pu ps i l)→K v hp'):CF P f args hp K:=
  CF.loc (hP.sub i) h fun v l hp' hv hl hf=>k v l hp' hv (hP.loc i hl hf)
theorem Parts.add (h:Parts hp ps) (i:Nat) (hi:∀ b,ps i b=.none) {l:HP} (hl:HSub l hp') (f:∀ r,HSub r hp→HSub r hp'∧Disj l r):Parts hp' (pu ps i l):=
  h.loc i hl fun r hr _=>f r hr
theorem Parts.of_two {a b:HP} (ha:HSub a hp) (hb:HSub b hp) (hd:Disj a b):Parts hp (pu (pu (fun _ _=>.none) 1 b) 0 a) where
  sub j:=by
    by_cases h0:j=0
    · subst h0; rw [pu_eq]; exact ha
    · rw [pu_ne _ _ h0]
      by_cases h1:j=1
      · subst h1; rw [pu_eq]; exact hb
      · rw [pu_ne _ _ h1]; exact fun _=>.inl rfl
  dis j k hjk:=by
    by_cases h0:j=0
    · subst h0
      rw [pu_eq,pu_ne _ _ hjk.symm]
      by_cases h1:k=1
      · subst h1; rw [pu_eq]; exact hd
      · rw [pu_ne _ _ h1]; exact (Disj.nil _).symm
    · rw [pu_ne _ _ h0]
      by_cases h1:j=1
      · subst h1
        rw [pu_eq]
        by_cases k0:k=0
        · subst k0; rw [pu_eq]; exact hd.symm
        · rw [pu_ne _ _ k0,pu_ne _ _ hjk.symm]; exact (Disj.nil _).symm
      · rw [pu_ne _ _ h1]; exact Disj.nil _
theorem Parts.one {a:HP} (ha:HSub a hp):Parts hp (pu (fun _ _=>.none) 0 a) where
  sub j:=by
    by_cases h0:j=0
    · subst h0; rw [pu_eq]; exact ha
    · rw [pu_ne _ _ h0]; exact fun _=>.inl rfl
  dis j k hjk:=by
    by_cases h0:j=0
    · subst h0; rw [pu_ne _ _ hjk.symm]; exact (Disj.nil _).symm
    · rw [pu_ne _ _ h0]; exact Disj.nil _
end
end Go.HL
