/- The heaplet logic in use, part 21: parts that are parted; a row in a part grows; the shut. -/
import Derived.Test.YtpkhoemonibajaaDoorHlParts
import Derived.Test.YtpkhoemonibajaaDoorHlApp
set_option linter.unusedVariables false
set_option linter.unusedSimpArgs false
namespace Go.HL
open Go
section
variable {hp hp':HP} {ps:Nat→HP}
theorem Parts.at (h:Parts hp ps) (i:Nat) {l:HP} (e:ps i=l):HSub l hp:=e▸h.sub i
theorem Parts.less (h:Parts hp ps) (i:Nat) {l:HP} (hl:HSub l (ps i)):Parts hp (pu ps i l) where
  sub j:=by
    by_cases hj:j=i
    · subst hj; rw [pu_eq]; exact hl.trans (h.sub j)
    · rw [pu_ne _ _ hj]; exact h.sub j
  dis j k hjk:=by
    by_cases hj:j=i
    · subst hj; rw [pu_eq,pu_ne _ _ (fun e=>hjk e.symm)]; exact (h.dis j k hjk).sub hl
    · rw [pu_ne _ _ hj]
      by_cases hk:k=i
      · subst hk; rw [pu_eq]; exact (h.dis j k hjk).mono hl
      · rw [pu_ne _ _ hk]; exact h.dis j k hjk
theorem Parts.split (h:Parts hp ps) {i j:Nat} (hij:j≠i) (hj:∀ b,ps j b=.none) {l r:HP} (hl:HSub l (ps i)) (hr:HSub r (ps i)) (hd:Disj l r):Parts hp (pu (pu ps i l) j r) where
  sub k:=by
    by_cases hk:k=j
    · subst hk; rw [pu_eq]; exact hr.trans (h.sub i)
    · rw [pu_ne _ _ hk]; exact (h.less i hl).sub k
  dis a b hab:=by
    by_cases ha:a=j
    · subst ha
      rw [pu_eq,pu_ne _ _ (fun e=>hab e.symm)]
      by_cases hb:b=i
      · subst hb; rw [pu_eq]; exact hd.symm
      · rw [pu_ne _ _ hb]; exact (h.dis i b (fun e=>hb e.symm)).sub hr
    · rw [pu_ne _ _ ha]
      by_cases hb:b=j
      · subst hb
        rw [pu_eq]
        by_cases hi:a=i
        · subst hi; rw [pu_eq]; exact hd
        · rw [pu_ne _ _ hi]; exact (h.dis a i hi).mono hr
      · rw [pu_ne _ _ hb]; exact (h.less i hl).dis a b hab
theorem Parts.cut (h:Parts hp ps) (n:Nat):Parts hp (fun i=>if i<n then ps i else fun _=>.none) where
  sub j:=by
    by_cases hj:j<n
    · simp only [hj,if_true]; exact h.sub j
    · simp only [hj,if_false]; exact fun _=>.inl rfl
  dis j k hjk:=by
    by_cases hj:j<n
    · by_cases hk:k<n
      · simp only [hj,hk,if_true]; exact h.dis j k hjk
      · simp only [hk,if_false]; exact fun _=>.inr rfl
    · simp only [hj,if_false]; exact Disj.nil _
end
section
variable {κ ν:Type} {ek:κ→Value} {ev:ν→Value} {l:List (κ × ν)}
theorem MapE.sub {hp hp':HP} {m:Nat} (h:MapE ek ev l (hp m)) (hs:HSub hp hp'):MapE ek ev l (hp' m):=by
  obtain ⟨es,clock,he,hr⟩:=h
  exact ⟨es,clock,hs.obj he,hr⟩
theorem MapE.ne {e:Ent} (h:MapE ek ev l e):e≠.none:=by
  obtain ⟨es,clock,he,hr⟩:=h
  rw [he]; simp
end
end Go.HL
