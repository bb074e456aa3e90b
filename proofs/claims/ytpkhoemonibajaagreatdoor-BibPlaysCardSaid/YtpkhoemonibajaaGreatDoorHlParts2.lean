/- The heaplet logic in use, part 21: parts that are parted; a row in a part grows; the shut. -/
import Derived.Test.YtpkhoemonibajaaGreatDoorHlParts
import Derived.Test.YtpkhoemonibajaaGreatDoorHlApp
set_option linter.unusedVariables false
set_option linter.unusedSimpArgs false
namespace Go.HL
open Go
section
variable {hp hp':HP} {ps:Nat→HP}
theorem Parts.at (h:Parts hp ps) (i:Nat) {l:HP} (e:ps i=l):HSub l hp:=e▸h.sub i
theorem Parts.less (h:Parts hp ps) (i:Nat) {l:HP} (hl:HSub l (ps i)):Parts hp (pu ps i l) where
  sub j:=by
    by_cases hj:j=i
    · subst hj; rw [pu_eq]; exact hl.trans (h.sub j)
    · rw [pu_ne _ _ hj]; exact h.sub j
  dis j k hjk:=by
    by_cases hj:j=i
    · subst hj; rw [pu_eq,pu_ne _ _ (fun e=>hjk e.symm)]; exact (h.dis j k hjk).sub hl
    · rw [pu_ne _ _ hj]
      by_cases hk:k=i
      · subst hk; rw [pu_eq]; exact (h.dis j k hjk).mono hl
      · rw [pu_ne _ _ hk]; exact h.dis j k hjk
theorem Parts.split (h:Parts hp ps) {i j:Nat} (hij:j≠i) (hj:∀ b,ps j b=.none) {l r:HP} (hl:HSub l (ps i)) (hr:HSub r (ps i)) (hd:Disj l r):Parts hp (pu (pu ps i l) j r) where
  sub k:=by
    by_cases hk:k=j
    · subst hk; rw [pu_eq]; exact hr.trans (h.sub i)
    · rw [pu_ne _ _ hk]; exact (h.less i hl).sub k
  dis a b hab:=by
    by_cases ha:a=j
    · subst ha
      rw [pu_eq,pu_ne _ _ (fun e=>hab e.symm)]
      by_cases hb:b=i
      · subst hb; rw [pu_eq]; exact hd.symm
      · rw [pu_ne _ _ hb]; exact (h.dis i b (fun e=>hb e.symm)).sub hr
    · rw [pu_ne _ _ ha]
      by_cases hb:b=j
      · subst hb
        rw [pu_eq]
        by_cases hi:a=i
        · subst hi; rw [pu_eq]; exact hd
        · rw [pu_ne _ _ hi]; exact (h.dis a i hi).mono hr
      · rw [pu_ne _ _ hb]; exact (h.less i hl).dis a b hab
theorem Parts.cut (h:Parts hp ps) (n:Nat):Parts hp (fun i=>if i<n then ps i else fun _=>.none) where
  sub j:=by
    by_cases hj:j<n
    · simp only [hj,if_true]; exact h.sub j
    · simp only [hj,if_false]; exact fun _=>.inl rfl
  dis j k hjk:=by
    by_cases hj:j<n
    · by_cases hk:k<n
      · simp only [hj,hk,if_true]; exact h.dis j k hjk
      · simp only [hk,if_false]; exact fun _=>.inr rfl
    · simp only [hj,if_false]; exact Disj.nil _
theorem opS_appP {P:Program} {t e ty size bytes:Nat} (hok:elemOk P t e size bytes=true) (hP:Parts hp ps) (i:Nat) {s:Option Addr} {n c:Nat} {xs:List Value} (hs:Row (ps i) s n c e size xs) {a:Option Addr} {m c':Nat} {ys:List Value}
    (ha:Shows hp a m size ys) (h1:ys.all one=true) (hy:ys≠[]) (hb:(n+m)*bytes≤140737488355328) (h63:n+m≤9223372036854775807) {K:Value→HP→Prop}
    (h:∀ s2 c2 hp' r,Row r s2 (n+m) c2 e size (xs++ys)→Parts hp' (pu ps i r)→K (.slice s2 (n+m) c2) hp') :
    opS P (Builtin.append_ #[t,t] ty ⟨[.slice s n c,.slice a m c']⟩) hp K:=by
  refine opS_app hok (hs.sub (hP.sub i)) ha h1 hb h63 ?_
  intro s2 c2 hp' hrow' hup
  rcases hup with ⟨rfl,rfl⟩ | ⟨b',e',rfl,hb',rfl⟩
  · exfalso
    have hyl:=ha.len
    rcases hrow' with ⟨h1,h2,h3,h4⟩ | ⟨b,r1,r2,r3,r4⟩
    · exact hy (List.append_eq_nil_iff.1 h4).2
    · rcases hs with ⟨h1,_⟩ | ⟨b0,s1,s2,s3,s4⟩
      · rw [h1] at r1; cases r1
      · rw [s1] at r1; cases r1
        have:=(hP.sub i).cells s4
        rw [r4] at this
        simp only [Ent.cells.injEq] at this
        have e2:=this.2.1
        have:=congrArg List.length e2
        rw [List.length_append] at this
        exact hy (List.eq_nil_of_length_eq_zero (by omega))
  · have hrow2:∀ q:HP,Row (q.set b' e') (some ⟨b',0,none⟩) (n+m) c2 e size (xs++ys):=fun q=>by
      rcases hrow' with ⟨h1,_⟩ | ⟨b,r1,r2,r3,r4⟩
      · cases h1
      · cases r1
        rw [HP.set_eq] at r4
        exact .inr ⟨b',rfl,r2,r3,by rw [HP.set_eq]; exact r4⟩
    by_cases hn:hp b'=.none
    · exact h _ _ _ _ (hrow2 _) (hP.new i hn e')
    · have hs':s=some ⟨b',0,none⟩:=hb'.resolve_left hn
      have hne:ps i b'≠.none:=by
        rcases hs with ⟨h1,_⟩ | ⟨b0,s1,_,_,s4⟩
        · rw [h1] at hs'; cases hs'
        · rw [s1] at hs'; cases hs'
          rw [s4]; simp
      exact h _ _ _ _ (hrow2 _) (hP.put i hne e')
end
section
variable {κ ν:Type} {ek:κ→Value} {ev:ν→Value} {l:List (κ × ν)}
theorem MapE.sub {hp hp':HP} {m:Nat} (h:MapE ek ev l (hp m)) (hs:HSub hp hp'):MapE ek ev l (hp' m):=by
  obtain ⟨es,clock,he,hr⟩:=h
  exact ⟨es,clock,hs.obj he,hr⟩
theorem MapE.ne {e:Ent} (h:MapE ek ev l e):e≠.none:=by
  obtain ⟨es,clock,he,hr⟩:=h
  rw [he]; simp
end
end Go.HL
