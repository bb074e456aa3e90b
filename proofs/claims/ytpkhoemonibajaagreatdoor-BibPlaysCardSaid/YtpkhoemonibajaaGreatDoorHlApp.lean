/- The heaplet logic in use, part 14: an append and what it leaves as it was; the end of a row; one block alone. -/
import Derived.Test.YtpkhoemonibajaaGreatDoorHlUse2
import Derived.Test.YtpkhoemonibajaaGreatDoorHlMid
set_option linter.unusedVariables false
set_option linter.unusedSimpArgs false
namespace Go.HL
open Go
def HP.onlyF (b:Nat) (e:Ent):HP:=HP.set (fun _=>.none) b e
theorem HSub.onlyF {hp:HP} {b:Nat} {e:Ent} (h:hp b=e):HSub (HP.onlyF b e) hp:=fun x=>by
  unfold HP.onlyF
  by_cases hx:x=b
  · subst hx; rw [HP.set_eq]; exact .inr h.symm
  · rw [HP.set_ne _ _ hx]; exact .inl rfl
theorem HP.onlyF_eq (b:Nat) (e:Ent):HP.onlyF b e b=e:=HP.set_eq ..
theorem HP.onlyF_ne {b x:Nat} (e:Ent) (h:x≠b):HP.onlyF b e x=.none:=HP.set_ne _ _ h
theorem opS_appF {P:Program} {hp:HP} {t e ty size bytes:Nat} (hok:elemOk P t e size bytes=true) {s:Option Addr} {n c:Nat} {xs:List Value} (hs:Row hp s n c e size xs) {a:Option Addr} {m c':Nat} {ys:List Value}
    (ha:Shows hp a m size ys) (h1:ys.all one=true) (hb:(n+m)*bytes≤140737488355328) (h63:n+m≤9223372036854775807) {K:Value→HP→Prop}
    (h:∀ s2 c2 hp',Row hp' s2 (n+m) c2 e size (xs++ys)→(∀ h0:HP,HSub h0 hp→(∀ b',s=some ⟨b',0,none⟩→h0 b'=.none)→HSub h0 hp'∧∀ b',s2=some ⟨b',0,none⟩→h0 b'=.none)→K (.slice s2 (n+m) c2) hp') :
    opS P (Builtin.append_ #[t,t] ty ⟨[.slice s n c,.slice a m c']⟩) hp K:=by
  refine opS_app hok hs ha h1 hb h63 ?_
  intro s2 c2 hp' hrow' hup
  refine h s2 c2 hp' hrow' fun h0 hs0 hfr=>?_
  rcases hup with ⟨rfl,rfl⟩ | ⟨b',e',rfl,hb',rfl⟩
  · exact ⟨hs0,hfr⟩
  · have hn0:h0 b'=.none:=by
      rcases hb' with hb' | hb'
      · exact hs0.none hb'
      · exact hfr b' hb'
    exact ⟨hs0.up hn0 e',fun b'' e=>by cases e; exact hn0⟩
theorem Shows.subF {α:Type} {enc:α→List Value} {size:Nat} {hp:HP} {s:Option Addr} {n c i:Nat} {l:List α} (h:Shows hp s n size (l.flatMap enc)) (he:∀ x,(enc x).length=size) (hl:l.length=n) (hc:n≤c) (hi:i≤n) :
    Shows hp (sub0 s c i size) (n-i) size ((l.drop i).flatMap enc):=by
  unfold HL.sub0
  by_cases hin:i=n
  · left
    have:l.drop i=[]:=List.drop_of_length_le (by omega)
    exact ⟨by omega,by rw [this]; rfl⟩
  rw [if_neg (by omega)]
  rcases h with ⟨h1,h2⟩ | ⟨b,o,h1,h2⟩
  · omega
  · right
    refine ⟨b,o+i*size,by rw [h1,Option.map_some,add_eq],?_⟩
    have hle:i*size+(n-i)*size=n*size:=by rw [← Nat.add_mul]; congr 1; omega
    rw [cellN_cellN h2 (by omega),cellsN_of (by rw [flat_len he,hl]; omega),flat_drop he]
    have:((l.drop i).flatMap enc).length=(n-i)*size:=by rw [flat_len he,List.length_drop,hl]
    rw [List.take_of_length_le (by omega)]
end Go.HL
