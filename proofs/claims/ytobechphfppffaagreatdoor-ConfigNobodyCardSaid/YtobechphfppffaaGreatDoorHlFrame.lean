/- The heaplet logic in use, part 10: what a call does not own it leaves as it was; what may be forgotten behind a call. -/
import Derived.Test.YtobechphfppffaaGreatDoorHlLib
set_option linter.unusedVariables false
set_option linter.unusedSimpArgs false
namespace Go.HL
open Go
def HP.un (a r:HP):HP:=fun x=>match a x with | .none=>r x | e=>e
def HP.off (p a:HP):HP:=fun x=>match a x with | .none=>p x | _=>.none
def Disj (a r:HP):Prop:=∀ x,a x=.none∨r x=.none
theorem HP.un_none {a r:HP} {x:Nat} (h:a x=.none):HP.un a r x=r x:=by unfold HP.un; rw [h]
theorem HP.un_some {a r:HP} {x:Nat} (h:a x≠.none):HP.un a r x=a x:=by
  unfold HP.un; cases hx:a x <;> simp_all
theorem HP.off_none {p a:HP} {x:Nat} (h:a x=.none):HP.off p a x=p x:=by unfold HP.off; rw [h]
theorem HP.off_some {p a:HP} {x:Nat} (h:a x≠.none):HP.off p a x=.none:=by
  unfold HP.off; cases hx:a x <;> simp_all
theorem HSub.un_left (a r:HP):HSub a (HP.un a r):=fun x=>by
  by_cases h:a x=.none
  · exact .inl h
  · exact .inr (HP.un_some h).symm
theorem HSub.un_right {a r:HP} (h:Disj a r):HSub r (HP.un a r):=fun x=>by
  rcases h x with h | h
  · exact .inr (HP.un_none h).symm
  · exact .inl h
theorem HSub.off (p a:HP):HSub (HP.off p a) p:=fun x=>by
  by_cases h:a x=.none
  · exact .inr (HP.off_none h)
  · exact .inl (HP.off_some h)
theorem HSub.off_of {p a r:HP} (h:HSub r p) (hd:Disj a r):HSub r (HP.off p a):=fun x=>by
  rcases hd x with e | e
  · rw [HP.off_none e]; exact h x
  · exact .inl e
theorem Disj.mono {a r r':HP} (h:Disj a r) (hs:HSub r' r):Disj a r':=fun x=>by
  rcases h x with e | e
  · exact .inl e
  · exact .inr (hs.none e)
theorem Fits.frame_in {F w0 hp hq w} (h:Fits F w0 hp w) (hs:HSub hq hp):Fits (fun x=>F x∨HP.off hp hq x≠.none) w hq w where
  ent:=(h.sub hs).ent
  fr b hb:=by
    rcases hb with hb | hb
    · exact ⟨((h.sub hs).fr b hb).1,((h.sub hs).fr b hb).2.1,rfl⟩
    · have hn:hq b=.none:=Classical.byContradiction fun hc=>hb (HP.off_some hc)
      rw [HP.off_none hn] at hb
      exact ⟨hn,Ent.ok_lt (h.ent b) hb,rfl⟩
  os:=rfl
  tape:=rfl
  output:=rfl
  size:=Nat.le_refl _
theorem Fits.frame_out {F w0 hp hq hq' w w'} (h:Fits F w0 hp w) (hs:HSub hq hp) (k:Fits (fun x=>F x∨HP.off hp hq x≠.none) w hq' w'):Disj hq' (HP.off hp hq)∧Fits F w0 (HP.un hq' (HP.off hp hq)) w':=by
  have hd:Disj hq' (HP.off hp hq):=fun x=>by
    by_cases hx:HP.off hp hq x=.none
    · exact .inr hx
    · exact .inl (k.fr x (.inr hx)).1
  refine ⟨hd,?_,?_,k.os.trans h.os,k.tape.trans h.tape,k.output.trans h.output,Nat.le_trans h.size k.size⟩
  · intro x
    by_cases hx:hq' x=.none
    · rw [HP.un_none hx]
      by_cases ho:HP.off hp hq x=.none
      · rw [ho]; trivial
      · rw [(k.fr x (.inr ho)).2.2]
        have hn:hq x=.none:=Classical.byContradiction fun hc=>ho (HP.off_some hc)
        rw [HP.off_none hn]; exact h.ent x
    · rw [HP.un_some hx]; exact k.ent x
  · intro x hx
    have k1:=k.fr x (.inl hx)
    have h1:=h.fr x hx
    refine ⟨?_,k1.2.1,k1.2.2.trans h1.2.2⟩
    rw [HP.un_none k1.1]
    exact (HSub.off hp hq).none h1.1
theorem CF.frame {P f args hp hq} {K:Value→HP→Prop} (hs:HSub hq hp) (h:CF P f args hq K) :
    CF P f args hp fun v hp'=>∃ hq',K v hq'∧Disj hq' (HP.off hp hq)∧hp'=HP.un hq' (HP.off hp hq):=by
  rcases h with h | h
  · refine .inl ⟨h.1,fun F w hf=>?_⟩
    refine (h.2 _ w (hf.frame_in hs)).mono ?_
    rintro e w' ⟨v,hq',rfl,hf',hk⟩
    have:=hf.frame_out hs hf'
    exact ⟨v,_,rfl,this.2,hq',hk,this.1,rfl⟩
  · refine .inr fun F w0 w hf=>?_
    obtain ⟨v,w',hq',hr,hf',hk⟩:=h _ w w (hf.frame_in hs)
    have:=hf.frame_out hs hf'
    exact ⟨v,w',_,hr,this.2,hq',hk,this.1,rfl⟩
theorem CF.loc {P f args hp hq} {K K':Value→HP→Prop} (hs:HSub hq hp) (h:CF P f args hq K')
    (k:∀ v hq' hp',K' v hq'→HSub hq' hp'→(∀ r,HSub r hp→Disj hq r→HSub r hp'∧Disj hq' r)→K v hp'):CF P f args hp K:=by
  refine CF_mono (h.frame hs) ?_
  rintro v hp' ⟨hq',hk,hd,rfl⟩
  refine k v hq' _ hk (HSub.un_left _ _) fun r hr hdr=>?_
  have h1:=hr.off_of hdr
  exact ⟨h1.trans (HSub.un_right hd),hd.mono h1⟩
end Go.HL
