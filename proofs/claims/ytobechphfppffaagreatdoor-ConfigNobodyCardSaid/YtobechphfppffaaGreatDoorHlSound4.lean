/- The heaplet logic, part 8: the whole operation. -/
import Derived.Test.YtobechphfppffaaGreatDoorHlSound3
set_option linter.unusedVariables false
set_option linter.unusedSimpArgs false
namespace Go.HL
open Go
section
variable {P:Program} {F:Nat→Prop} {w0 w:World} {N:Nat} {env:Env} {pv:PV} {hp:HP} {nm:Nat→Nat} {tmps:Array Value}
theorem opS_pure {α:Type} {s:Sem α} {v:α} {K:α→HP→Prop} (hr:∀ w:World,s.run P w=.ok v w) (h:K v hp):opS P s hp K:=
  fun _ _ w hf=>⟨v,w,hp,hr w,hf,h⟩
theorem builtinF_opS {b:Builtin} {ts:Array TypeId} {t:TypeId} {args:List Value} {K:Value→HP→Prop} (cs:Array Bool) (h:builtinF P b ts t args hp K) :
    ∃ s:Sem Value,builtin b ts t cs ⟨args⟩=(do pure (Go.Next.value (← s)))∧opS P s hp K:=by
  unfold builtinF at h
  split at h
  · refine ⟨_,rfl,?_⟩
    unfold lenF at h
    split at h
    · rename_i e a n m hu
      cases ht:ts[0]? with
      | none=>rw [ht] at hu; cases hu
      | some t0=>
        rw [ht] at hu
        exact opS_pure (v:=.int .i64 n) (fun w=>by simp [Builtin.len_,ht,run_underlying (show P.underlying t0=_ from hu),goInt]) h
    · rename_i s hu
      cases ht:ts[0]? with
      | none=>rw [ht] at hu; cases hu
      | some t0=>
        rw [ht] at hu
        exact opS_pure (v:=.int .i64 s.size) (fun w=>by simp [Builtin.len_,ht,run_underlying (show P.underlying t0=_ from hu),goInt]) h
    · refine opS_mono (opS_of_rdS h) fun v hp' ⟨e,h⟩=>?_
      obtain ⟨n,rfl,h⟩:=intV_elim h
      subst e; exact h
    · exact opS_mono (opS_of_semV h) fun v hp' ⟨e,h⟩=>by subst e; exact h
  · refine ⟨_,rfl,?_⟩
    unfold capF at h
    split at h
    · rename_i e a n m hu
      cases ht:ts[0]? with
      | none=>rw [ht] at hu; cases hu
      | some t0=>
        rw [ht] at hu
        exact opS_pure (v:=.int .i64 m) (fun w=>by simp [Builtin.cap_,ht,run_underlying (show P.underlying t0=_ from hu),goInt]) h
    · exact opS_mono (opS_of_semV h) fun v hp' ⟨e,h⟩=>by subst e; exact h
  · exact ⟨_,rfl,opS_mono (opS_of_semV h) fun v hp' ⟨e,h⟩=>by subst e; exact h⟩
  · exact ⟨_,rfl,opS_mono (opS_of_semV h) fun v hp' ⟨e,h⟩=>by subst e; exact h⟩
  · refine ⟨_,rfl,opS_mono h fun v hp' h=>?_⟩
    obtain ⟨a,n,m,rfl,h⟩:=slcV_elim h
    exact h
  · refine ⟨_,rfl,opS_mono h fun v hp' h=>?_⟩
    obtain ⟨n,rfl,h⟩:=intV_elim h
    exact h
  · exact ⟨_,rfl,h⟩
  · exact ⟨_,rfl,h⟩
  · exact h.elim
variable {o:Oper} {K:SV→PV→HP→Prop} {next:Act→World→Prop} {Q:Exit→Act→World→Prop}
theorem Sim.alloc (hs:Sim F w0 N env pv hp nm tmps w) (hr:RefOk env pv) {d:Nat} {t:TypeId} {cs:List Value} (hd:pv d=none) :
    Sim F w0 N env (upd pv d (t,cs)) hp (fun k=>if k=d then w.heap.size else nm k) tmps (w.alloc (.cells cs.toArray t)) where
  len:=hs.len
  slots i s hi:=by
    have:=hs.slots i s hi
    rw [this]
    cases s with
    | val v=>rfl
    | priv k off=>
      have hk:k≠d:=fun e=>hr i k off hi (by rw [e,hd])
      simp [SV.conc,hk]
  priv k T cs' hk:=by
    by_cases hkd:k=d
    · subst hkd
      rw [upd_eq] at hk
      cases hk
      simp only [if_true]
      refine ⟨?_,hs.fits.fresh,fun hF=>?_⟩
      · show (w.heap.push _)[_]?=_
        simp
      · have:=(hs.fits.fr _ hF).2.1; omega
    · rw [upd_ne _ _ hkd] at hk
      obtain ⟨a,b,c⟩:=hs.priv k T cs' hk
      simp only [if_neg hkd]
      refine ⟨?_,b,c⟩
      show (w.heap.push _)[_]?=_
      rw [Array.getElem?_push,if_neg,a]
      intro e
      rw [e,Array.getElem?_eq_none (Nat.le_refl _)] at a
      cases a
  inj k k' hk hk' h:=by
    have lt:∀ x,x≠d→upd pv d (t,cs) x≠none→nm x<w.heap.size:=by
      intro x hx hn
      rw [upd_ne _ _ hx] at hn
      cases hp:pv x with
      | none=>exact absurd hp hn
      | some y=>
        have a:=(hs.priv x y.1 y.2 hp).1
        rcases Nat.lt_or_ge (nm x) w.heap.size with h | h
        · exact h
        · rw [Array.getElem?_eq_none h] at a; cases a
    by_cases h1:k=d <;> by_cases h2:k'=d
    · rw [h1,h2]
    · simp only [h1,if_true,if_neg h2] at h
      have:=lt k' h2 hk'; omega
    · simp only [h2,if_true,if_neg h1] at h
      have:=lt k h1 hk; omega
    · simp only [if_neg h1,if_neg h2] at h
      rw [upd_ne _ _ h1] at hk
      rw [upd_ne _ _ h2] at hk'
      exact hs.inj k k' hk hk' h
  fits:=by
    have:=hs.fits.alloc (.cells cs.toArray t) (e:=.none) trivial
    rwa [HP.set_self _ _ _ hs.fits.fresh] at this
theorem RefOk.upd (hr:RefOk env pv) (d:Nat) (x:TypeId × List Value):RefOk env (upd pv d x):=fun i k off hi hn=>by
  by_cases h:k=d
  · subst h; rw [upd_eq] at hn; cases hn
  · rw [upd_ne _ _ h] at hn; exact hr i k off hi hn
theorem Sim.setPriv (hs:Sim F w0 N env pv hp nm tmps w) {k:Nat} {t:TypeId} {cs cs':List Value} (hk:pv k=some (t,cs)) {w':World}
    (hb:w'.heap[nm k]?=some (.cells cs'.toArray t (0,0))) (hr:∀ x,x≠nm k→w'.heap[x]?=w.heap[x]?) (hos:w'.os=w.os) (ht:w'.tape=w.tape) (ho:w'.output=w.output) (hsz:w'.heap.size=w.heap.size) :
    Sim F w0 N env (upd pv k (t,cs')) hp nm tmps w' where
  len:=hs.len
  slots:=hs.slots
  priv j T cs'' hj:=by
    by_cases h:j=k
    · subst h
      rw [upd_eq] at hj; cases hj
      exact ⟨hb,(hs.priv j _ _ hk).2⟩
    · rw [upd_ne _ _ h] at hj
      obtain ⟨a,b⟩:=hs.priv j _ _ hj
      refine ⟨?_,b⟩
      rw [hr _ (fun e=>h (hs.inj j k (by rw [hj]; simp) (by rw [hk]; simp) e)),a]
  inj j j' hj hj':=by
    refine hs.inj j j' ?_ ?_
    · by_cases h:j=k
      · rw [h,hk]; simp
      · rwa [upd_ne _ _ h] at hj
    · by_cases h:j'=k
      · rw [h,hk]; simp
      · rwa [upd_ne _ _ h] at hj'
  fits:=
    { ent:=fun x=>by
        by_cases h:x=nm k
        · rw [h,(hs.priv k _ _ hk).2.1]; trivial
        · rw [hr x h]; exact hs.fits.ent x
      fr:=fun x hx=>by
        have h:x≠nm k:=fun e=>(hs.priv k _ _ hk).2.2 (e▸hx)
        rw [hr x h,hsz]; exact hs.fits.fr x hx
      os:=hos.trans hs.fits.os
      tape:=ht.trans hs.fits.tape
      output:=ho.trans hs.fits.output
      size:=by rw [hsz]; exact hs.fits.size }
end
end Go.HL
