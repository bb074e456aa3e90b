/- Parts of the proof of SessionHasProof: the logic of what is known of memory, functions' contracts. -/
import Derived.Test.YtpkhoemonibajaaDoorHlAbb
import Derived.Test.YtpkhoemonibajaaDoorHlMapL
import Derived.Test.YtpkhoemonibajaaDoorHlUse2
import Derived.Test.YtpkhoemonibajaaDoorHlSort
import Derived.Test.YtpkhoemonibajaaDoorHlLib
import Derived.Sort.LotD3
import Derived.Test.YtpkhoemonibajaaDoorHlAbb
import Derived.Test.YtpkhoemonibajaaDoorProg
import Derived.Test.YtpkhoemonibajaaDoorHlRangeS
import Derived.Test.YtpkhoemonibajaaDoorHlMake
import Derived.Test.YtpkhoemonibajaaDoorHlStr
import Derived.Sort.LotA
import Derived.Test.YtpkhoemonibajaaDoorHlFrame
import Derived.KernelRfl
import Derived.Test.YtpkhoemonibajaaDoorHlMapE
import Derived.Sort.LotD2
import Derived.Test.YtpkhoemonibajaaDoorHlParts2
set_option linter.unusedVariables false
set_option linter.unusedSimpArgs false
set_option linter.unusedVariables false
namespace Go.HL
open Go
/-- So many places on, counted round. -/
def nx (N a u:Nat):Nat:=if a+u<N then a+u else a+u-N
/-- How many places on another one is. -/
def ds (N a b:Nat):Nat:=if a≤b then b-a else b+N-a
theorem nx_ds {N a b:Nat} (ha:a<N) (hb:b<N):nx N a (ds N a b)=b:=by unfold nx ds; split <;> split <;> omega
theorem ds_nx {N a u:Nat} (ha:a<N) (hu:u<N):ds N a (nx N a u)=u:=by unfold nx ds; split <;> split <;> omega
theorem nx_lt {N a u:Nat} (ha:a<N) (hu:u≤N):nx N a u<N:=by unfold nx; split <;> omega
theorem ds_lt {N a b:Nat} (ha:a<N) (hb:b<N):ds N a b<N:=by unfold ds; split <;> omega
theorem nx_zero {N a:Nat} (ha:a<N):nx N a 0=a:=by unfold nx; split <;> omega
theorem nx_cases (N a u:Nat):(a+u<N∧nx N a u=a+u)∨(N≤a+u∧nx N a u=a+u-N):=by unfold nx; split <;> omega
theorem ds_cases (N a b:Nat):(a≤b∧ds N a b=b-a)∨(b<a∧ds N a b=b+N-a):=by unfold ds; split <;> omega
theorem nx_succ {N a u:Nat} (ha:a<N) (hu:u<N):nx N a (u+1)=if nx N a u+1<N then nx N a u+1 else 0:=by
  rcases nx_cases N a u with ⟨h1,h2⟩ | ⟨h1,h2⟩ <;> rcases nx_cases N a (u+1) with ⟨h3,h4⟩ | ⟨h3,h4⟩ <;> rw [h2,h4] <;> split <;> omega
/-- Where a path meets the place that is t on from i. -/
theorem path1 {N h i p u t:Nat} (hh:h<N) (hi:i<N) (hp:p<N) (ht:t<N) (hu:u<ds N h p) (h1:ds N i (nx N h u)<t) (h2:t≤ds N i p) :
    nx N h (u+(t-ds N i (nx N h u)))=nx N i t∧(nx N i t=p∨u+(t-ds N i (nx N h u))<ds N h p):=by
  rcases ds_cases N h p with ⟨a1,a2⟩ | ⟨a1,a2⟩ <;> rcases nx_cases N h u with ⟨b1,b2⟩ | ⟨b1,b2⟩ <;> rcases ds_cases N i (nx N h u) with ⟨c1,c2⟩ | ⟨c1,c2⟩ <;>
    rcases ds_cases N i p with ⟨d1,d2⟩ | ⟨d1,d2⟩ <;> rcases nx_cases N i t with ⟨e1,e2⟩ | ⟨e1,e2⟩ <;> rcases nx_cases N h (u+(t-ds N i (nx N h u))) with ⟨f1,f2⟩ | ⟨f1,f2⟩ <;> omega
/-- A path that passes the place t on from i, to a place ahead of it, passes all behind it. -/
theorem path2 {N h i p u t z:Nat} (hh:h<N) (hi:i<N) (hp:p<N) (hz:z<N) (htz:t≤z) (hu:u<ds N h p) (h1:nx N h u=nx N i t) (h2:ds N i p<t) :
    nx N h (u+(z-t))=nx N i z∧u+(z-t)<ds N h p:=by
  rcases ds_cases N h p with ⟨a1,a2⟩ | ⟨a1,a2⟩ <;> rcases nx_cases N h u with ⟨b1,b2⟩ | ⟨b1,b2⟩ <;> rcases nx_cases N i t with ⟨c1,c2⟩ | ⟨c1,c2⟩ <;>
    rcases ds_cases N i p with ⟨d1,d2⟩ | ⟨d1,d2⟩ <;> rcases nx_cases N i z with ⟨e1,e2⟩ | ⟨e1,e2⟩ <;> rcases nx_cases N h (u+(z-t)) with ⟨f1,f2⟩ | ⟨f1,f2⟩ <;> omega
section
variable {κ ν:Type} [DecidableEq κ]
/-- A table: at each place something with its key, or nothing. -/
abbrev Tb (κ ν:Type):=Nat→Option (κ × ν)
def tset (T:Tb κ ν) (p:Nat) (x:Option (κ × ν)):Tb κ ν:=fun q=>if q=p then x else T q
omit [DecidableEq κ] in
theorem tset_eq (T:Tb κ ν) (p:Nat) (x:Option (κ × ν)):tset T p x p=x:=by simp [tset]
omit [DecidableEq κ] in
theorem tset_ne (T:Tb κ ν) {p q:Nat} (x:Option (κ × ν)) (h:q≠p):tset T p x q=T q:=by simp [tset,h]
variable {N:Nat} {H:κ→Nat} {T:Tb κ ν} {k:κ} {v:ν} {p:Nat}
/-- From where a key begins to where it lies nothing is free. -/
def Good (N:Nat) (H:κ→Nat) (T:Tb κ ν):Prop:=∀ p,p<N→∀ x,T p=some x→∀ u,u<ds N (H x.1) p→T (nx N (H x.1) u)≠none
def Uniq (N:Nat) (T:Tb κ ν):Prop:=∀ p q,p<N→q<N→∀ x y,T p=some x→T q=some y→x.1=y.1→p=q
/-- What a search for a key comes to. -/
def Fd (N:Nat) (H:κ→Nat) (T:Tb κ ν) (k:κ) (p:Nat):Prop:=p<N∧(∀ u,u<ds N (H k) p→∃ x,T (nx N (H k) u)=some x∧x.1≠k)∧∀ x,T p=some x→x.1=k
/-- The table as a list of pairs. -/
def TM (N:Nat) (T:Tb κ ν) (M:List (κ × ν)):Prop:=(M.map (·.1)).Nodup∧∀ k v,getL k M=some v↔∃ p,p<N∧T p=some (k,v)
theorem Fd.get {M:List (κ × ν)} (hH:H k<N) (hg:Good N H T) (hu:Uniq N T) (hm:TM N T M) (hf:Fd N H T k p):(T p).map (·.2)=getL k M:=by
  obtain ⟨f1,f2,f3⟩:=hf
  cases hp:T p with
  | some x=>
    have:=f3 x hp
    rw [Option.map_some,eq_comm,hm.2]
    exact ⟨p,f1,by rw [hp,← this]⟩
  | none=>
    rw [Option.map_none]
    cases hk:getL k M with
    | none=>rfl
    | some v=>
      exfalso
      obtain ⟨q,hq,hqv⟩:=(hm.2 k v).1 hk
      have h1:=hg q hq _ hqv
      rcases Nat.lt_trichotomy (ds N (H k) p) (ds N (H k) q) with h | h | h
      · have:=h1 _ h
        simp only at this
        rw [nx_ds hH f1] at this
        exact this hp
      · have:p=q:=by rw [← nx_ds hH f1,h,nx_ds hH hq]
        rw [this,hqv] at hp; cases hp
      · obtain ⟨x,hx,hne⟩:=f2 _ h
        rw [nx_ds hH hq,hqv] at hx
        cases hx; exact hne rfl
/-- Something new is put where the search came to. -/
theorem put_table {M:List (κ × ν)} (hH:H k<N) (hg:Good N H T) (hu:Uniq N T) (hm:TM N T M) (hf:Fd N H T k p) (hn:T p=none) :
    Good N H (tset T p (some (k,v)))∧Uniq N (tset T p (some (k,v)))∧TM N (tset T p (some (k,v))) (putL k v M)∧getL k M=none:=by
  have hget:=hf.get hH hg hu hm
  rw [hn,Option.map_none] at hget
  obtain ⟨f1,f2,f3⟩:=hf
  have hno:∀ q,q<N→∀ x,T q=some x→x.1≠k:=fun q hq x hx e=>by
    have:getL k M=some x.2:=(hm.2 k x.2).2 ⟨q,hq,by rw [hx,← e]⟩
    rw [this] at hget; cases hget
  refine ⟨?_,?_,⟨nodup_put hm.1,?_⟩,hget.symm⟩
  · intro q hq x hx u hu'
    by_cases hqp:q=p
    · subst hqp
      rw [tset_eq] at hx
      cases hx
      obtain ⟨y,hy,_⟩:=f2 u hu'
      by_cases he:nx N (H k) u=q
      · simp only [he,tset_eq]; simp
      · simp only; rw [tset_ne _ _ he,hy]; simp
    · rw [tset_ne _ _ hqp] at hx
      have:=hg q hq x hx u hu'
      by_cases he:nx N (H x.1) u=p
      · rw [he,tset_eq]; simp
      · rw [tset_ne _ _ he]; exact this
  · intro a b ha hb x y hx hy he
    by_cases h1:a=p
    · by_cases h2:b=p
      · rw [h1,h2]
      · rw [h1,tset_eq] at hx; cases hx
        rw [tset_ne _ _ h2] at hy
        exact absurd he.symm (hno b hb y hy)
    · rw [tset_ne _ _ h1] at hx
      by_cases h2:b=p
      · rw [h2,tset_eq] at hy; cases hy
        exact absurd he (hno a ha x hx)
      · rw [tset_ne _ _ h2] at hy
        exact hu a b ha hb x y hx hy he
  · intro k' v'
    rw [getL_put]
    by_cases hk:k'=k
    · subst hk
      rw [if_pos rfl]
      constructor
      · intro h; cases h; exact ⟨p,f1,tset_eq ..⟩
      · rintro ⟨q,hq,hx⟩
        by_cases hqp:q=p
        · rw [hqp,tset_eq] at hx; cases hx; rfl
        · rw [tset_ne _ _ hqp] at hx; exact absurd rfl (hno q hq _ hx)
    · rw [if_neg hk,hm.2]
      constructor
      · rintro ⟨q,hq,hx⟩
        refine ⟨q,hq,?_⟩
        rw [tset_ne _ _ (fun e=>by rw [e,hn] at hx; cases hx)]; exact hx
      · rintro ⟨q,hq,hx⟩
        by_cases hqp:q=p
        · rw [hqp,tset_eq] at hx; cases hx; exact absurd rfl hk
        · rw [tset_ne _ _ hqp] at hx; exact ⟨q,hq,hx⟩
/-- While those behind a place that was made free are put anew: t of them are done. -/
structure Mid (N:Nat) (H:κ→Nat) (T:Tb κ ν) (i t:Nat) (M:List (κ × ν)):Prop where
  path:∀ p,p<N→∀ x,T p=some x→∀ u,u<ds N (H x.1) p→T (nx N (H x.1) u)≠none∨(ds N i (nx N (H x.1) u)<t∧t≤ds N i p)
  uniq:Uniq N T
  tm:TM N T M
  room:∃ z,t≤z∧z<N∧T (nx N i z)=none
/-- A place is made free. -/
theorem Mid.start {M:List (κ × ν)} (hN:1<N) (hg:Good N H T) (hu:Uniq N T) (hm:TM N T M) (hp:p<N) (hx:T p=some (k,v)) (hr:∃ z,z<N∧T z=none):Mid N H (tset T p none) p 1 (delL k M):=by
  refine ⟨?_,?_,⟨nodup_del hm.1,?_⟩,?_⟩
  · intro q hq x hqx u hu'
    have hqp:q≠p:=fun e=>by rw [e,tset_eq] at hqx; cases hqx
    rw [tset_ne _ _ hqp] at hqx
    have:=hg q hq x hqx u hu'
    by_cases he:nx N (H x.1) u=p
    · right
      rw [he]
      unfold ds; constructor <;> split <;> omega
    · left; rw [tset_ne _ _ he]; exact this
  · intro a b ha hb x y hax hby he
    have h1:a≠p:=fun e=>by rw [e,tset_eq] at hax; cases hax
    have h2:b≠p:=fun e=>by rw [e,tset_eq] at hby; cases hby
    rw [tset_ne _ _ h1] at hax
    rw [tset_ne _ _ h2] at hby
    exact hu a b ha hb x y hax hby he
  · intro k' v'
    rw [getL_del hm.1]
    by_cases hk:k'=k
    · subst hk
      rw [if_pos rfl]
      constructor
      · intro h; cases h
      · rintro ⟨q,hq,hqx⟩
        have hqp:q≠p:=fun e=>by rw [e,tset_eq] at hqx; cases hqx
        rw [tset_ne _ _ hqp] at hqx
        exact absurd (hu q p hq hp _ _ hqx hx rfl) hqp
    · rw [if_neg hk,hm.2]
      constructor
      · rintro ⟨q,hq,hqx⟩
        refine ⟨q,hq,?_⟩
        rw [tset_ne _ _ (fun e=>by rw [e,hx] at hqx; cases hqx; exact hk rfl)]; exact hqx
      · rintro ⟨q,hq,hqx⟩
        have hqp:q≠p:=fun e=>by rw [e,tset_eq] at hqx; cases hqx
        rw [tset_ne _ _ hqp] at hqx
        exact ⟨q,hq,hqx⟩
  · obtain ⟨z,hz,hzn⟩:=hr
    have hzp:z≠p:=fun e=>by rw [e,hx] at hzn; cases hzn
    refine ⟨ds N p z,?_,ds_lt hp hz,?_⟩
    · unfold ds; split <;> omega
    · rw [nx_ds hp hz,tset_ne _ _ hzp]; exact hzn
/-- The one behind is free: it is done. -/
theorem Mid.done {M:List (κ × ν)} {i t:Nat} (hH:∀ k,H k<N) (hi:i<N) (ht:t<N) (h:Mid N H T i t M) (hn:T (nx N i t)=none):Good N H T:=by
  intro p hp x hx u hu
  rcases h.path p hp x hx u hu with h1 | ⟨h1,h2⟩
  · exact h1
  · exfalso
    have hHx:=hH x.1
    obtain ⟨e,hu1⟩:=path1 hHx hi hp ht hu h1 h2
    rcases hu1 with hu1 | hu1
    · rw [hu1,hx] at hn; cases hn
    · rcases h.path p hp x hx _ hu1 with h3 | ⟨h3,_⟩
      · rw [e] at h3; exact h3 hn
      · rw [e,ds_nx hi ht] at h3
        omega
/-- The one behind is put anew. -/
theorem Mid.step {M:List (κ × ν)} {i t:Nat} {x:κ × ν} {q:Nat} (hH:∀ k,H k<N) (hi:i<N) (ht0:0<t) (ht:t<N) (h:Mid N H T i t M) (hx:T (nx N i t)=some x)
    (hf:Fd N H (tset T (nx N i t) none) x.1 q):tset T (nx N i t) none q=none∧Mid N H (tset (tset T (nx N i t) none) q (some x)) i (t+1) M:=by
  have hjN:nx N i t<N:=nx_lt hi (by omega)
  have hdj:ds N i (nx N i t)=t:=ds_nx hi ht
  generalize hj:nx N i t=j at *
  obtain ⟨f1,f2,f3⟩:=hf
  have hHx:=hH x.1
  have hqn:tset T j none q=none:=by
    cases hq:tset T j none q with
    | none=>rfl
    | some y=>
      have hk:=f3 y hq
      have hqj:q≠j:=fun e=>by rw [e,tset_eq] at hq; cases hq
      rw [tset_ne _ _ hqj] at hq
      exact absurd (h.uniq q j f1 hjN y x hq hx hk) hqj
  have hle:ds N (H x.1) q≤ds N (H x.1) j:=by
    rcases Nat.lt_or_ge (ds N (H x.1) j) (ds N (H x.1) q) with hlt | hge
    · obtain ⟨y,hy,_⟩:=f2 _ hlt
      rw [nx_ds hHx hjN,tset_eq] at hy; cases hy
    · exact hge
  have hnone:∀ a,a≠q→tset (tset T j none) q (some x) a=none→a=j∨T a=none:=fun a haq ha=>by
    rw [tset_ne _ _ haq] at ha
    by_cases haj:a=j
    · exact .inl haj
    · rw [tset_ne _ _ haj] at ha; exact .inr ha
  have hsome:∀ a y,a≠q→tset (tset T j none) q (some x) a=some y→a≠j∧T a=some y:=fun a y haq ha=>by
    rw [tset_ne _ _ haq] at ha
    by_cases haj:a=j
    · rw [haj,tset_eq] at ha; cases ha
    · rw [tset_ne _ _ haj] at ha; exact ⟨haj,ha⟩
  obtain ⟨z,hz1,hz2,hz3⟩:=h.room
  have hzt:z≠t:=fun e=>by rw [e,hj,hx] at hz3; cases hz3
  have hzq:nx N i z≠q:=fun e=>by
    have hzj:nx N i z≠j:=fun e'=>by rw [e',hx] at hz3; cases hz3
    have hlt:ds N (H x.1) q<ds N (H x.1) j:=by
      rcases Nat.lt_or_eq_of_le hle with h1 | h1
      · exact h1
      · exact absurd (by rw [e,← nx_ds hHx f1,h1,nx_ds hHx hjN]) hzj
    rcases h.path j hjN x hx _ hlt with h1 | ⟨h1,_⟩
    · rw [nx_ds hHx f1,← e] at h1; exact h1 hz3
    · rw [nx_ds hHx f1,← e,ds_nx hi hz2] at h1; omega
  refine ⟨hqn,?_,?_,⟨h.tm.1,?_⟩,⟨z,by omega,hz2,?_⟩⟩
  · intro p hp y hy u hu
    by_cases hpq:p=q
    · subst hpq
      rw [tset_eq] at hy; cases hy
      left
      obtain ⟨w,hw,_⟩:=f2 u hu
      by_cases he:nx N (H x.1) u=p
      · rw [he,tset_eq]; simp
      · rw [tset_ne _ _ he,hw]; simp
    · obtain ⟨hpj,hpy⟩:=hsome p y hpq hy
      by_cases hd:tset (tset T j none) q (some x) (nx N (H y.1) u)=none
      · right
        have haq:nx N (H y.1) u≠q:=fun e=>by rw [e,tset_eq] at hd; cases hd
        have hne:ds N i p≠t:=fun e=>hpj (by rw [← nx_ds hi hp,e,hj])
        rcases hnone _ haq hd with e | e
        ·
          rw [e,hdj]
          refine ⟨by omega,?_⟩
          rcases Nat.lt_or_ge (ds N i p) t with hlt | hge
          · exfalso
            have hHy:=hH y.1
            obtain ⟨e2,hu2⟩:=path2 hHy hi hp hz2 hz1 hu (e.trans hj.symm) hlt
            rcases h.path p hp y hpy _ hu2 with h1 | ⟨_,h1⟩
            · rw [e2] at h1; exact h1 hz3
            · omega
          · omega
        · rcases h.path p hp y hpy u hu with h1 | ⟨h1,h2⟩
          · exact absurd e h1
          · exact ⟨by omega,by omega⟩
      · exact .inl hd
  · intro a b ha hb y w hy hw he
    by_cases h1:a=q
    · by_cases h2:b=q
      · rw [h1,h2]
      · rw [h1,tset_eq] at hy; cases hy
        obtain ⟨g1,g2⟩:=hsome b w h2 hw
        exact absurd (h.uniq j b hjN hb x w hx g2 he).symm g1
    · obtain ⟨g1,g2⟩:=hsome a y h1 hy
      by_cases h2:b=q
      · rw [h2,tset_eq] at hw; cases hw
        exact absurd (h.uniq a j ha hjN y x g2 hx he) g1
      · obtain ⟨g3,g4⟩:=hsome b w h2 hw
        exact h.uniq a b ha hb y w g2 g4 he
  · intro k' v'
    rw [h.tm.2]
    constructor
    · rintro ⟨a,ha,hav⟩
      by_cases haj:a=j
      · rw [haj,hx] at hav
        exact ⟨q,f1,by rw [tset_eq]; exact hav⟩
      · refine ⟨a,ha,?_⟩
        have haq:a≠q:=fun e=>by
          rw [e] at haj hav
          rw [tset_ne _ _ haj,hav] at hqn; cases hqn
        rw [tset_ne _ _ haq,tset_ne _ _ haj]; exact hav
    · rintro ⟨a,ha,hav⟩
      by_cases haq:a=q
      · rw [haq,tset_eq] at hav
        exact ⟨j,hjN,by rw [hx]; exact hav⟩
      · exact ⟨a,ha,(hsome a _ haq hav).2⟩
  · cases hc:tset (tset T j none) q (some x) (nx N i z) with
    | none=>rfl
    | some y=>
      have:=(hsome _ y hzq hc).2
      rw [hz3] at this; cases this
/-- Where there is less than places, one is free. -/
theorem room_of {M:List (κ × ν)} (hu:Uniq N T) (hm:TM N T M) (hl:M.length<N):∃ z,z<N∧T z=none:=by
  refine Classical.byContradiction fun hno=>?_
  have hall:∀ z,z<N→∃ x,T z=some x:=fun z hz=>by
    cases h:T z with
    | none=>exact absurd ⟨z,hz,h⟩ hno
    | some x=>exact ⟨x,rfl⟩
  have key:∀ n,n≤N→∃ ks:List κ,ks.length=n∧ks.Nodup∧∀ a∈ks,∃ p,p<n∧∃ v,T p=some (a,v):=by
    intro n
    induction n with
    | zero=>intro _; exact ⟨[],rfl,.nil,fun a h=>by cases h⟩
    | succ n ih=>
      intro hn
      obtain ⟨ks,h1,h2,h3⟩:=ih (by omega)
      obtain ⟨x,hx⟩:=hall n (by omega)
      refine ⟨x.1::ks,by simp [h1],List.nodup_cons.2 ⟨fun hm=>?_,h2⟩,fun a ha=>?_⟩
      · obtain ⟨p,hp,v,hv⟩:=h3 _ hm
        have:=hu p n (by omega) (by omega) _ _ hv hx rfl
        omega
      · rcases List.mem_cons.1 ha with rfl | ha
        · exact ⟨n,by omega,x.2,hx⟩
        · obtain ⟨p,hp,v,hv⟩:=h3 a ha
          exact ⟨p,by omega,v,hv⟩
  obtain ⟨ks,h1,h2,h3⟩:=key N (Nat.le_refl _)
  have hsub:∀ a∈ks,a∈M.map (·.1):=fun a ha=>by
    obtain ⟨p,hp,v,hv⟩:=h3 a ha
    have:=(hm.2 a v).2 ⟨p,hp,hv⟩
    exact List.mem_map.2 ⟨_,getL_some_mem this,rfl⟩
  have:=nodup_len_le h2 hsub
  simp only [List.length_map] at this
  omega
end
end Go.HL
namespace Go.HL
open Go
/-- The comparison that a sort is handed: whatever the row holds. -/
def CmpOk {α:Type} [Inhabited α] (P:Program) (f:FuncId) (ga gb:List Value) (hp0:HP) (b:Nat) (e:TypeId) (sp:Nat) (en:α→List Value) (n:Nat) (cf:α→α→Int):Prop:=
  ∀ (d:Array α) (x y:α) (K:Value→HP→Prop),d.size=n→K (.int .i64 (cf x y)) (HA hp0 b e sp en d)→CF P f (ga++[.agg ⟨en x⟩,.agg ⟨en y⟩]++gb) (HA hp0 b e sp en d) K
def ltC {α:Type} (cf:α→α→Int) (x y:α):Bool:=decide (cf x y<0)
theorem swp_size {α:Type} [Inhabited α] (d:Array α) (i j:Nat):(Sort.swp d i j).size=d.size:=by simp [Sort.swp]
end Go.HL
namespace Go.HL
open Go
theorem wi {x:Int} {i:Nat} (h:x=i) (hb:i≤9223372036854775807):IntKind.wrap .i64 x=i:=by rw [h]; exact w64 (by omega) (by omega)
section
variable {α:Type} {hp0:HP} {b:Nat} {e:TypeId} {sp:Nat} {en:α→List Value} {d:Array α}
theorem HA.set_comm {r:Nat} (hr:r≠b) (x:Ent):(HA hp0 b e sp en d).set r x=HA (hp0.set r x) b e sp en d:=by
  unfold HA; rw [HP.set_comm _ _ _ hr]
theorem HA.ne_of_none {r:Nat} (h:HA hp0 b e sp en d r=.none):r≠b∧hp0 r=.none:=by
  have hb:r≠b:=fun e=>by unfold HA at h; rw [e,HP.set_eq] at h; cases h
  refine ⟨hb,?_⟩
  unfold HA at h
  rwa [HP.set_ne _ _ hb] at h
theorem HA.ne {r:Nat} (h:r≠b):HA hp0 b e sp en d r=hp0 r:=by
  unfold HA; rw [HP.set_ne _ _ h]
end
section
variable {α:Type} [Inhabited α] {P:Program} {f:FuncId} {ga gb:List Value} {hp0:HP} {b:Nat} {e:TypeId} {sp size:Nat} {en:α→List Value} {n:Nat} {cf:α→α→Int} {d:Array α}
theorem cmpP (hc:CmpOk P f ga gb hp0 b e sp en n cf) (he:∀ x,(en x).length=size) {I J:Int} {i j:Nat} {X:Int→HP→Prop} (hs:d.size=n) (hI:I=i) (hJ:J=j) (hi:i<n) (hj:j<n)
    (h:X (cf d[i]! d[j]!) (HA hp0 b e sp en d)) :
    ((0≤I)∧(I<(n:Nat))∧(ptrN (some ⟨b,0,none⟩) fun b1 o2=>(ldL (HP.cellN (HA hp0 b e sp en d) b1 (o2+Int.toNat I*size) size) fun l3=>((0≤J)∧(J<(n:Nat))∧(ptrN (some ⟨b,0,none⟩) fun b4 o5=>(ldL (HP.cellN (HA hp0 b e sp en d) b4 (o5+Int.toNat J*size) size) fun l6=>
      (fnV (.func (.func f) ⟨ga⟩ ⟨gb⟩) fun f7 ga8 gb9=>(CF P f7 (ga8++[(Value.agg ⟨l3⟩),(Value.agg ⟨l6⟩)]++gb9) (HA hp0 b e sp en d) fun u10 h11=>(intV u10 .i64 fun i12=>X i12 h11))))))))):=by
  subst hI hJ
  have g1:=HA.get (hp0:=hp0) (b:=b) (e:=e) (sp:=sp) he (d:=d) (i:=i) (by omega)
  have g2:=HA.get (hp0:=hp0) (b:=b) (e:=e) (sp:=sp) he (d:=d) (i:=j) (by omega)
  simp only [ptrN_some,Int.toNat_natCast,g1,g2,ldL_some,fnV_mk]
  refine ⟨by omega,by omega,by omega,by omega,?_⟩
  refine hc d _ _ _ hs ?_
  rw [intV_int]
  exact h
theorem swapP (he:∀ x,(en x).length=size) (h1:∀ x,(en x).all one=true) {I J:Int} {i j:Nat} {X:HP→Prop} (hs:d.size=n) (hI:I=i) (hJ:J=j) (hi:i<n) (hj:j<n)
    (h:X (HA hp0 b e sp en (Sort.swp d i j))) :
    ((0≤J)∧(J<(n:Nat))∧(ptrN (some ⟨b,0,none⟩) fun b1 o2=>(ldL (HP.cellN (HA hp0 b e sp en d) b1 (o2+Int.toNat J*size) size) fun l3=>((0≤I)∧(I<(n:Nat))∧(ptrN (some ⟨b,0,none⟩) fun b4 o5=>(ldL (HP.cellN (HA hp0 b e sp en d) b4 (o5+Int.toNat I*size) size) fun l6=>
      ((0≤I)∧(I<(n:Nat))∧(ptrN (some ⟨b,0,none⟩) fun b7 o8=>((List.length l3=size)∧(HP.stN (HA hp0 b e sp en d) b7 (o8+Int.toNat I*size) l3 fun h9=>((0≤J)∧(J<(n:Nat))∧(ptrN (some ⟨b,0,none⟩) fun b10 o11=>((List.length l6=size)∧(HP.stN h9 b10 (o11+Int.toNat J*size) l6 fun h12=>X h12)))))))))))))):=by
  subst hI hJ
  have g1:=HA.get (hp0:=hp0) (b:=b) (e:=e) (sp:=sp) he (d:=d) (i:=i) (by omega)
  have g2:=HA.get (hp0:=hp0) (b:=b) (e:=e) (sp:=sp) he (d:=d) (i:=j) (by omega)
  simp only [ptrN_some,Int.toNat_natCast,g1,g2,ldL_some]
  refine ⟨by omega,by omega,by omega,by omega,by omega,by omega,he _,?_⟩
  refine HA.st he h1 (by omega) _ ?_
  refine ⟨by omega,by omega,he _,?_⟩
  refine HA.st he h1 (by rw [Array.size_setIfInBounds]; omega) _ ?_
  exact h
/-- A comparison that holds whatever else is known. -/
def CmpX (P:Program) (f:FuncId) (ga gb:List Value) (hp0:HP) (b:Nat) (e:TypeId) (sp:Nat) (en:α→List Value) (n:Nat) (cf:α→α→Int):Prop:=
  ∀ hp1,HSub hp0 hp1→CmpOk P f ga gb hp1 b e sp en n cf
theorem CmpX.ok (h:CmpX P f ga gb hp0 b e sp en n cf):CmpOk P f ga gb hp0 b e sp en n cf:=h hp0 (HSub.refl _)
end
end Go.HL
set_option linter.unusedVariables false
set_option maxRecDepth 20000
namespace Go.Proofs
open Go Go.HL
section
variable {e:Env} {x0 x4:Int} {hp:HP} {K:Env→PV→HP→Prop}
abbrev R66 (p n:Nat):=RW Tryd.prog 22 [] (opsAt Tryd.f66 (pth p)) (List.range n)
theorem F66_r0:R66 2 2 e V0 hp K=
 K (w2 e 2 (sP none) 3 (sI 0)) V0 hp:= by kernel_rfl
theorem F66_r1:R66 37 2 e V0 hp K=
 K (w2 e 2 (sP none) 3 (sI 1)) V0 hp:= by kernel_rfl
theorem F66_r2:R66 47 7 (w2 e 4 (sI x4) 0 (sI x0)) V0 hp K=
 opS Tryd.prog (Instr.makeSlice 177 (.int .i64 x4) (.int .i64 x4)) hp fun u1 h2=>(slcV u1 fun a3 n4 c5=>∀ b6:Nat,h2 b6=.none→(K (upd (w8 e 4 (sI x4) 0 (sI x0) 17 (sI x4) 18 (sS a3 n4 c5) 19 (sI x0) 20 (sV (.agg ⟨[(.slice a3 n4 c5),(.int .i64 x0),.int .i64 0]⟩)) 21 (sQ b6 0) 2 (sQ b6 0)) 3 (sI 0)) V0 (HP.set h2 b6 (.cells 179 [(.slice a3 n4 c5),(.int .i64 x0),.int .i64 0] 0)))):= by kernel_rfl
def F66_j3 (x0 x4:Int) (hp:HP) (K:Kh):Prop:=
  (opS Tryd.prog (Instr.makeSlice 177 (.int .i64 x4) (.int .i64 x4)) hp fun u1 h2=>slcV u1 fun a3 n4 c5=>∀ b6:Nat,h2 b6=.none→(K (.tuple ⟨[(ptr b6 0),.int .i64 0]⟩) (HP.set h2 b6 (.cells 179 [(.slice a3 n4 c5),(.int .i64 x0),.int .i64 0] 0))))
theorem F66_r3:R66 263 4 (w2 e 4 (sI x4) 0 (sI x0)) V0 hp K=
 K (w6 e 4 (sI x4) 0 (sI x0) 11 (sI x4) 12 (sI x0) 13 (sI ((wr (2*x0)))) 14 (sB ((decide (x4<(wr (2*x0))))))) V0 hp:= by kernel_rfl
theorem F66_r4:R66 327 3 (upd e 4 (sI x4)) V0 hp K=
 K (w4 e 4 (sI x4) 15 (sI x4) 16 (sI ((wr (x4*2)))) 4 (sI ((wr (x4*2))))) V0 hp:= by kernel_rfl
def F66_l4 (x0:Int) (K:Kh) (I4:(Int)→HP→Prop) (x4:Int) (hp:HP):Prop:=
  (ite2 (decide (x4<(IntKind.wrap .i64 (2*x0)))) (I4 (IntKind.wrap .i64 (x4*2)) hp) (F66_j3 x0 x4 hp  K))
def F66_j2 (x0 x4:Int) (hp:HP) (K:Kh):Prop:=
  (LoopP (σ:=Int) (fun I s hp=>F66_l4 x0  K I s hp) x4 hp)
theorem F66_r5:R66 11 1 e V0 hp K=
 K (upd e 4 (sI 8)) V0 hp:= by kernel_rfl
def F66_j1 (x0:Int) (x10:Bool) (hp:HP) (K:Kh):Prop:=
  (ite2 x10 (K (.tuple ⟨[(.pointer none),(.int .i64 1)]⟩) hp) (F66_j2 x0 8 hp  K))
theorem F66_r6:R66 9 6 (upd e 0 (sI x0)) V0 hp K=
 ite2 (decide (x0<1)) (K (w7 e 0 (sI x0) 5 (sI x0) 6 (sB (decide (x0<1))) 7 (sB true) 8 sU 9 sU 10 (sB true)) V0 hp) (K (w7 e 0 (sI x0) 5 (sI x0) 6 (sB (decide (x0<1))) 7 (sB false) 8 (sI x0) 9 (sB (decide (x0 > 65536))) 10 (sB (decide (x0 > 65536)))) V0 hp):= by kernel_rfl
def F66 (x0:Int) (hp:HP) (K:Kh):Prop:=
  (ite2 (decide (x0<1)) (F66_j1 x0 true hp  K) (F66_j1 x0 (decide (x0 > 65536)) hp  K))
noncomputable abbrev o66 (k n:Nat):Code:=.region k (opsAt Tryd.f66 (pth n)) false
noncomputable def F66_code:Code:=(.seq (o66 0 2) (.seq (.seq (o66 1 9) (.cond (.tmp 10) (.seq (o66 2 37) .ret) .skip)) (.seq (o66 3 11) (.seq (.block 0 (.loop (.seq (.seq (o66 4 263) (.cond (.tmp 14) .skip (.exit 0))) (.block 1 (o66 5 327))))) (.seq (o66 6 47) .ret)))))
theorem F66_body:Tryd.f66.body=some F66_code:=by kernel_rfl
theorem F66_ok (x0:Int) (hp:HP) (K:Kh) (h:F66 x0 hp K):CF Tryd.prog 66 [(.int .i64 x0)] hp K:=by
 refine .inl ⟨by kernel_rfl,AC.intro (N:=22) Tryd.func66 F66_body rfl (Nat.le_of_ble_eq_true rfl) ?_⟩
 unfold F66 at h
 refine Ar F66_r0 ?_ (r1 0 Rn) (z1 Sn) Sn
 refine Aq (As (fun env pv hp=>∃ x0 x10,Sub (w2 E0 10 (sB x10) 0 (sI x0)) env∧Sub V0 pv∧F66_j1 x0 x10 hp  K) ?_ ?_)
 ·refine Ag F66_r6 ?_ (r1 0 Rn) (z1 Sn) Sn
  refine mt h (fun h=>?_) (fun h=>?_)
  ·exact ⟨_,_,(z2 Sn),Sn,h⟩
  ·exact ⟨_,_,(z2 Sn),Sn,h⟩
 ·rintro env pv hp ⟨x0,x10,he,hv,h⟩
  refine Ae ?_ (r2 0 10 Rn) he hv
  unfold F66_j1 at h
  refine Ac h rfl (fun h=>?_) (fun h=>?_)
  ·refine Ar F66_r1 ?_ Rn Sn Sn
   refine AWP.ret ?_
   exact h
  ·refine AWP.skip (As (fun env pv hp=>∃ x0 x4,Sub (w2 E0 4 (sI x4) 0 (sI x0)) env∧Sub V0 pv∧F66_j2 x0 x4 hp  K) ?_ ?_)
   ·refine Ag F66_r5 ?_ (r1 0 Rn) (z1 Sn) Sn
    exact ⟨_,_,(z2 Sn),Sn,h⟩
   ·rintro env pv hp ⟨x0,x4,he,hv,h⟩
    refine Ae ?_ (r2 0 4 Rn) he hv
    unfold F66_j2 at h
    refine As (fun env pv hp=>∃ x0 x4,Sub (w2 E0 4 (sI x4) 0 (sI x0)) env∧Sub V0 pv∧F66_j3 x0 x4 hp  K) ?_ ?_
    ·refine AWP.block (AWP.loop (σ:=Int) _ (fun s=>w2 E0 4 (sI s) 0 (sI x0)) (fun s=>V0) x4 h (fun s=>r2 0 4 Rn) (z2 Sn) Sn ?_)
     intro I4 x4 hp h
     replace h:F66_l4 x0  K I4 x4 hp:=h
     unfold F66_l4 at h
     refine Aq (Ar F66_r3 ?_ (r2 0 4 Rn) (z2 Sn) Sn)
     refine Ac h rfl (fun h=>?_) (fun h=>?_)
     ·refine AWP.skip (AWP.block (Ag F66_r4 ?_ (r2 4 0 Rn) (z2 Sn) Sn))
      exact ⟨_,(z2 Sn),Sn,h⟩
     ·refine AWP.exit ?_
      exact ⟨_,_,(z2 Sn),Sn,h⟩
    ·rintro env pv hp ⟨x0,x4,he,hv,h⟩
     refine Ae ?_ (r2 0 4 Rn) he hv
     unfold F66_j3 at h
     refine Ar F66_r2 ?_ (r2 0 4 Rn) (z2 Sn) Sn
     refine mO h fun u1 h2 h=>mS h fun a3 n4 c5 h=>?_
     refine fun b6 hb_b_6=>?_
     replace h:=h b6 hb_b_6
     refine AWP.ret ?_
     exact h
end
section
variable {e:Env} {x0:OA} {x1:ByteArray} {x4 x6:Int} {hp:HP} {K:Env→PV→HP→Prop}
abbrev R84 (p n:Nat):=RW Tryd.prog 33 [] (opsAt Tryd.f84 (pth p)) (List.range n)
theorem F84_r0:R84 2 2 e V0 hp K=
 K (w2 e 4 (sI 0) 5 (sB false)) V0 hp:= by kernel_rfl
theorem F84_r1:R84 9 2 (upd e 0 (sP x0)) V0 hp K=
 CF Tryd.prog 114 [(.pointer x0)] hp fun u1 h2=>(boolV u1 fun q3=>K (w3 e 0 (sP x0) 8 (sP x0) 9 (sB q3)) V0 h2):= by kernel_rfl
theorem F84_r2:R84 37 3 (upd e 4 (sI x4)) V0 hp K=
 K (w4 e 4 (sI x4) 10 (sI x4) 4 (sI x4) 5 (sB false)) V0 hp:= by kernel_rfl
theorem F84_r3:R84 11 8 (w2 e 1 (sT x1) 0 (sP x0)) V0 hp K=
 CF Tryd.prog 115 [(.pointer x0),(.string x1)] hp fun u1 h2=>(tup2V u1 fun u3 u4=>intV u3 .i64 fun i5=>intV u4 .i64 fun i6=>K (w2 (w8 e 1 (sT x1) 0 (sP x0) 12 (sP x0) 13 (sT x1) 14 (sV (.tuple ⟨[(.int .i64 i5),(.int .i64 i6)]⟩)) 11 (sV (.tuple ⟨[(.int .i64 i5),(.int .i64 i6)]⟩)) 15 (sI i5) 16 (sI i6)) 6 (sI i5) 7 (sI i6)) V0 h2):= by kernel_rfl
theorem F84_r4:R84 23 18 (w2 e 6 (sI x6) 0 (sP x0)) V0 hp K=
    (ptrN x0 fun b1 o2=>ldV (HP.cell hp b1 (o2+0)) fun v3=>slcV v3 fun a4 n5 c6=>(0≤x6)∧(x6<n5)∧(ptrN a4 fun b7 o8=>ldV (HP.cell hp b7 ((o8+Int.toNat x6*3)+1)) fun v9=>intV v9 .i64 fun i10=>ptrN x0 fun b11 o12=>ldV (HP.cell hp b11 (o12+0)) fun v13=>slcV v13 fun a14 n15 c16=>(0≤x6)∧(x6<n15)∧(ptrN a14 fun b17 o18=>ldV (HP.cell hp b17 ((o18+Int.toNat x6*3)+2)) fun v19=>boolV v19 fun q20=>K (w4 (w8 (w8 e 6 (sI x6) 0 (sP x0) 17 (sP x0) 18 (sQ b1 o2) 19 (sQ b1 (o2+0)) 20 (sS a4 n5 c6) 21 (sI x6) 22 (sQ b7 (o8+Int.toNat x6*3))) 23 (sQ b7 ((o8+Int.toNat x6*3)+1)) 24 (sI i10) 25 (sP x0) 26 (sQ b11 o12) 27 (sQ b11 (o12+0)) 28 (sS a14 n15 c16) 29 (sI x6) 30 (sQ b17 (o18+Int.toNat x6*3))) 31 (sQ b17 ((o18+Int.toNat x6*3)+2)) 32 (sB q20) 4 (sI i10) 5 (sB q20)) V0 hp))):=by kernel_rfl
def F84 (x0:OA) (x1:ByteArray) (hp:HP) (K:Kh):Prop:=
  (CF Tryd.prog 114 [(.pointer x0)] hp fun u1 h2=>boolV u1 fun q3=>ite2 q3 (K (.tuple ⟨[.int .i64 0,.bool false]⟩) h2) (CF Tryd.prog 115 [(.pointer x0),(.string x1)] h2 fun u4 h5=>tup2V u4 fun u6 u7=>intV u6 .i64 fun i8=>intV u7 .i64 fun i9=>ptrN x0 fun b10 o11=>ldV (HP.cell h5 b10 (o11+0)) fun v12=>slcV v12 fun a13 n14 c15=>(0≤i8)∧(i8<n14)∧(ptrN a13 fun b16 o17=>ldV (HP.cell h5 b16 ((o17+Int.toNat i8*3)+1)) fun v18=>intV v18 .i64 fun i19=>ptrN x0 fun b20 o21=>ldV (HP.cell h5 b20 (o21+0)) fun v22=>slcV v22 fun a23 n24 c25=>(0≤i8)∧(i8<n24)∧(ptrN a23 fun b26 o27=>ldV (HP.cell h5 b26 ((o27+Int.toNat i8*3)+2)) fun v28=>boolV v28 fun q29=>K (.tuple ⟨[(.int .i64 i19),(.bool q29)]⟩) h5))))
noncomputable def F84_code:Code:=(.seq (.region 0 (opsAt Tryd.f84 (pth 2)) false) (.seq (.seq (.region 1 (opsAt Tryd.f84 (pth 9)) false) (.cond (.tmp 9) (.seq (.region 2 (opsAt Tryd.f84 (pth 37)) false) .ret) .skip)) (.seq (.region 3 (opsAt Tryd.f84 (pth 11)) false) (.seq (.region 4 (opsAt Tryd.f84 (pth 23)) true) .ret))))
theorem F84_body:Tryd.f84.body=some F84_code:=by kernel_rfl
theorem F84_ok (x0:OA) (x1:ByteArray) (hp:HP) (K:Kh) (h:F84 x0 x1 hp K):CF Tryd.prog 84 [(.pointer x0),(.string x1)] hp K:=by
 refine .inl ⟨by kernel_rfl,AC.intro (N:=33) Tryd.func84 F84_body rfl (Nat.le_of_ble_eq_true rfl) ?_⟩
 unfold F84 at h
 refine Ar F84_r0 ?_ (r2 0 1 Rn) (z2 Sn) Sn
 refine Aq (Ar F84_r1 ?_ (r3 0 1 4 Rn) (z3 Sn) Sn)
 refine mC h fun u1 h2 h=>mB h fun q3 h=>?_
 refine Ac h rfl (fun h=>?_) (fun h=>?_)
 ·refine Ar F84_r2 ?_ (r1 4 Rn) (z1 Sn) Sn
  refine AWP.ret ?_
  exact h
 ·refine AWP.skip (Ar F84_r3 ?_ (r2 0 1 Rn) (z2 Sn) Sn)
  refine mC h fun u4 h5 h=>mT h fun u6 u7 h=>mI h fun i8 h=>mI h fun i9 h=>?_
  refine Aq (AWP.rgnD (by kernel_rfl) (by kernel_rfl) F84_r4 ?_ (r2 0 6 Rn) (z2 Sn) Sn)
  refine mN h (fun b10 o11 h=>mV h (fun v12 h=>mS h (fun a13 n14 c15 h=>⟨h.1,h.2.1,mN h.2.2 (fun b16 o17 h=>mV h (fun v18 h=>mI h (fun i19 h=>mN h (fun b20 o21 h=>mV h (fun v22 h=>mS h (fun a23 n24 c25 h=>⟨h.1,h.2.1,mN h.2.2 fun b26 o27 h=>mV h fun v28 h=>mB h fun q29 h=>?_⟩))))))⟩)))
  refine AWP.ret ?_
  exact h
end
section
variable {e E:Env} {x0:OA} {x1:ByteArray} {x2 x7:Int} {hp:HP} {K:Env→PV→HP→Prop}
abbrev R86 (p n:Nat):=RW Tryd.prog 52 [] (opsAt Tryd.f86 (pth p)) (List.range n)
theorem F86_r0:R86 2 1 e V0 hp K=
 K (upd e 6 (sI 0)) V0 hp:= by kernel_rfl
theorem F86_r1:R86 9 2 (upd e 0 (sP x0)) V0 hp K=
 CF Tryd.prog 114 [(.pointer x0)] hp fun u1 h2=>(boolV u1 fun q3=>K (w3 e 0 (sP x0) 9 (sP x0) 10 (sB q3)) V0 h2):= by kernel_rfl
theorem F86_r2:R86 37 1 e V0 hp K=
 K (upd e 6 (sI 2)) V0 hp:= by kernel_rfl
theorem F86_r3:R86 11 8 (w2 e 1 (sT x1) 0 (sP x0)) V0 hp K=
 CF Tryd.prog 115 [(.pointer x0),(.string x1)] hp fun u1 h2=>(tup2V u1 fun u3 u4=>intV u3 .i64 fun i5=>intV u4 .i64 fun i6=>K (w2 (w8 e 1 (sT x1) 0 (sP x0) 12 (sP x0) 13 (sT x1) 14 (sV (.tuple ⟨[(.int .i64 i5),(.int .i64 i6)]⟩)) 11 (sV (.tuple ⟨[(.int .i64 i5),(.int .i64 i6)]⟩)) 15 (sI i5) 16 (sI i6)) 7 (sI i5) 8 (sI i6)) V0 h2):= by kernel_rfl
theorem F86_r4:R86 71 9 (w2 e 7 (sI x7) 0 (sP x0)) V0 hp K=
    (ptrN x0 fun b1 o2=>ldV (HP.cell hp b1 (o2+0)) fun v3=>slcV v3 fun a4 n5 c6=>(0≤x7)∧(x7<n5)∧(ptrN a4 fun b7 o8=>ldV (HP.cell hp b7 ((o8+Int.toNat x7*3)+2)) fun v9=>boolV v9 fun q10=>K (w3 (w8 e 7 (sI x7) 0 (sP x0) 18 (sP x0) 19 (sQ b1 o2) 20 (sQ b1 (o2+0)) 21 (sS a4 n5 c6) 22 (sI x7) 23 (sQ b7 (o8+Int.toNat x7*3))) 24 (sQ b7 ((o8+Int.toNat x7*3)+2)) 25 (sB q10) 17 (sB q10)) V0 hp)):=by kernel_rfl
theorem F86_r5:R86 295 1 e V0 hp K=
 K (upd e 6 (sI 5)) V0 hp:= by kernel_rfl
theorem F86_r6:R86 359 10 (upd e 0 (sP x0)) V0 hp K=
 ptrN x0 fun b1 o2=>(ldV (HP.cell hp b1 (o2+2)) fun v3=>intV v3 .i64 fun i4=>ptrN x0 fun b5 o6=>ldV (HP.cell hp b5 (o6+1)) fun v7=>intV v7 .i64 fun i8=>K (w3 (w8 e 0 (sP x0) 27 (sP x0) 28 (sQ b1 o2) 29 (sQ b1 (o2+2)) 30 (sI i4) 31 (sP x0) 32 (sQ b5 o6) 33 (sQ b5 (o6+1))) 34 (sI i8) 35 (sB (decide (i4≥i8))) 26 (sB (decide (i4≥i8)))) V0 hp):= by kernel_rfl
theorem F86_r7:R86 1255 1 e V0 hp K=
 K (upd e 6 (sI 6)) V0 hp:= by kernel_rfl
theorem F86_r8 (h:E=upd (w3 e 7 (sI x7) 2 (sI x2) 1 (sT x1)) 0 (sP x0)):R86 47 10 E V0 hp K=
    (ptrN x0 fun b1 o2=>ldV (HP.cell hp b1 (o2+0)) fun v3=>slcV v3 fun a4 n5 c6=>(0≤x7)∧(x7<n5)∧(ptrN a4 fun b7 o8=>(List.length [(Value.string x1),(.int .i64 x2),(.bool true)]=3)∧(HP.stN hp b7 (o8+Int.toNat x7*3) [(.string x1),(.int .i64 x2),(.bool true)] fun h9=>K (upd (w8 E 36 (sP x0) 37 (sQ b1 o2) 38 (sQ b1 (o2+0)) 39 (sS a4 n5 c6) 40 (sI x7) 41 (sT x1) 42 (sI x2) 43 (sV (.agg ⟨[(.string x1),(.int .i64 x2),(.bool true)]⟩))) 44 (sQ b7 (o8+Int.toNat x7*3))) V0 h9))):=by subst h; kernel_rfl
theorem F86_r9:R86 95 8 (upd e 0 (sP x0)) V0 hp K=
 ptrN x0 fun b1 o2=>(ldV (HP.cell hp b1 (o2+2)) fun v3=>intV v3 .i64 fun i4=>ptrN x0 fun b5 o6=>HP.st hp b5 (o6+2) (.int .i64 (wr (i4+1))) fun h7=>K (w8 e 0 (sP x0) 45 (sP x0) 46 (sQ b1 o2) 47 (sQ b1 (o2+2)) 48 (sI i4) 49 (sI ((wr (i4+1)))) 50 (sQ b5 o6) 51 (sQ b5 (o6+2))) V0 h7):= by kernel_rfl
theorem F86_r10:R86 191 1 e V0 hp K=
 K (upd e 6 (sI 0)) V0 hp:= by kernel_rfl
def F86 (x0:OA) (x1:ByteArray) (x2:Int) (hp:HP) (K:Kh):Prop:=
  (CF Tryd.prog 114 [(.pointer x0)] hp fun u1 h2=>boolV u1 fun q3=>ite2 q3 (K (.int .i64 2) h2) (CF Tryd.prog 115 [(.pointer x0),(.string x1)] h2 fun u4 h5=>tup2V u4 fun u6 u7=>intV u6 .i64 fun i8=>intV u7 .i64 fun i9=>ptrN x0 fun b10 o11=>ldV (HP.cell h5 b10 (o11+0)) fun v12=>slcV v12 fun a13 n14 c15=>(0≤i8)∧(i8<n14)∧(ptrN a13 fun b16 o17=>ldV (HP.cell h5 b16 ((o17+Int.toNat i8*3)+2)) fun v18=>boolV v18 fun q19=>ite2 q19 (K (.int .i64 5) h5) (ptrN x0 fun b20 o21=>ldV (HP.cell h5 b20 (o21+2)) fun v22=>intV v22 .i64 fun i23=>ptrN x0 fun b24 o25=>ldV (HP.cell h5 b24 (o25+1)) fun v26=>intV v26 .i64 fun i27=>ite2 (decide (i23≥i27)) (K (.int .i64 6) h5) (ptrN x0 fun b28 o29=>ldV (HP.cell h5 b28 (o29+0)) fun v30=>slcV v30 fun a31 n32 c33=>(0≤i8)∧(i8<n32)∧(ptrN a31 fun b34 o35=>(List.length [(Value.string x1),(.int .i64 x2),(.bool true)]=3)∧(HP.stN h5 b34 (o35+Int.toNat i8*3) [(.string x1),(.int .i64 x2),(.bool true)] fun h36=>ptrN x0 fun b37 o38=>ldV (HP.cell h36 b37 (o38+2)) fun v39=>intV v39 .i64 fun i40=>ptrN x0 fun b41 o42=>HP.st h36 b41 (o42+2) (.int .i64 (IntKind.wrap .i64 (i40+1))) fun h43=>K (.int .i64 0) h43)))))))
noncomputable abbrev o86 (k n:Nat):Code:=.region k (opsAt Tryd.f86 (pth n)) false
noncomputable def F86_code:Code:=(.seq (o86 0 2) (.seq (.seq (o86 1 9) (.cond (.tmp 10) (.seq (o86 2 37) .ret) .skip)) (.seq (o86 3 11) (.seq (.block 0 (.seq (o86 4 71) (.cond (.tmp 17) (.seq (o86 5 295) .ret) (.seq (.region 6 (opsAt Tryd.f86 (pth 359)) true) (.cond (.tmp 26) (.seq (o86 7 1255) .ret) .skip))))) (.seq (o86 8 47) (.seq (o86 9 95) (.seq (o86 10 191) .ret)))))))
theorem F86_body:Tryd.f86.body=some F86_code:=by kernel_rfl
theorem F86_ok (x0:OA) (x1:ByteArray) (x2:Int) (hp:HP) (K:Kh) (h:F86 x0 x1 x2 hp K):CF Tryd.prog 86 [(.pointer x0),(.string x1),(.int .i64 x2)] hp K:=by
 refine .inl ⟨by kernel_rfl,AC.intro (N:=52) Tryd.func86 F86_body rfl (Nat.le_of_ble_eq_true rfl) ?_⟩
 unfold F86 at h
 refine Ar F86_r0 ?_ (r3 0 1 2 Rn) (z3 Sn) Sn
 refine Aq (Ar F86_r1 ?_ (r3 0 1 2 Rn) (z3 Sn) Sn)
 refine mC h fun u1 h2 h=>mB h fun q3 h=>?_
 refine Ac h rfl (fun h=>?_) (fun h=>?_)
 ·refine Ar F86_r2 ?_ Rn Sn Sn
  refine AWP.ret ?_
  exact h
 ·refine AWP.skip (Ar F86_r3 ?_ (r3 0 1 2 Rn) (z3 Sn) Sn)
  refine mC h fun u4 h5 h=>mT h fun u6 u7 h=>mI h fun i8 h=>mI h fun i9 h=>?_
  refine Aq (AWP.block (Ar F86_r4 ?_ (r4 0 7 1 2 Rn) (z4 Sn) Sn))
  refine mN h (fun b10 o11 h=>mV h (fun v12 h=>mS h (fun a13 n14 c15 h=>⟨h.1,h.2.1,mN h.2.2 fun b16 o17 h=>mV h fun v18 h=>mB h fun q19 h=>?_⟩)))
  refine Ac h rfl (fun h=>?_) (fun h=>?_)
  ·refine Ar F86_r5 ?_ Rn Sn Sn
   refine AWP.ret ?_
   exact h
  ·refine Aq (AWP.rgnD (by kernel_rfl) (by kernel_rfl) F86_r6 ?_ (r4 0 1 2 7 Rn) (z4 Sn) Sn)
   refine mN h fun b20 o21 h=>mV h fun v22 h=>mI h fun i23 h=>mN h fun b24 o25 h=>mV h fun v26 h=>mI h fun i27 h=>?_
   refine Ac h rfl (fun h=>?_) (fun h=>?_)
   ·refine Ar F86_r7 ?_ Rn Sn Sn
    refine AWP.ret ?_
    exact h
   ·refine AWP.skip (Ar (F86_r8 rfl) ?_ (r4 0 1 2 7 Rn) (z4 Sn) Sn)
    refine mN h (fun b28 o29 h=>mV h (fun v30 h=>mS h (fun a31 n32 c33 h=>⟨h.1,h.2.1,mN h.2.2 (fun b34 o35 h=>⟨h.1,mW h.2 fun h36 h=>?_⟩)⟩)))
    refine Ar F86_r9 ?_ (r1 0 Rn) (z1 Sn) Sn
    refine mN h fun b37 o38 h=>mV h fun v39 h=>mI h fun i40 h=>mN h fun b41 o42 h=>mw h fun h43 h=>?_
    refine Ar F86_r10 ?_ Rn Sn Sn
    refine AWP.ret ?_
    exact h
end
section
variable {e E:Env} {x0:OA} {x1:ByteArray} {x5 x8:Int} {k7:List Value} {hp:HP} {K:Env→PV→HP→Prop}
abbrev R92 (p n:Nat):=RW Tryd.prog 95 [7,83] (opsAt Tryd.f92 (pth p)) (List.range n)
theorem F92_r0:R92 2 1 e V0 hp K=
 K (upd e 4 (sB false)) V0 hp:= by kernel_rfl
theorem F92_r1:R92 9 2 (upd e 0 (sP x0)) V0 hp K=
 CF Tryd.prog 114 [(.pointer x0)] hp fun u1 h2=>(boolV u1 fun q3=>K (w3 e 0 (sP x0) 10 (sP x0) 11 (sB q3)) V0 h2):= by kernel_rfl
theorem F92_r2:R92 37 1 e V0 hp K=
 K (upd e 4 (sB false)) V0 hp:= by kernel_rfl
theorem F92_r3:R92 11 8 (w2 e 1 (sT x1) 0 (sP x0)) V0 hp K=
 CF Tryd.prog 115 [(.pointer x0),(.string x1)] hp fun u1 h2=>(tup2V u1 fun u3 u4=>intV u3 .i64 fun i5=>intV u4 .i64 fun i6=>K (w2 (w8 e 1 (sT x1) 0 (sP x0) 13 (sP x0) 14 (sT x1) 15 (sV (.tuple ⟨[(.int .i64 i5),(.int .i64 i6)]⟩)) 12 (sV (.tuple ⟨[(.int .i64 i5),(.int .i64 i6)]⟩)) 16 (sI i5) 17 (sI i6)) 5 (sI i5) 6 (sI i6)) V0 h2):= by kernel_rfl
theorem F92_r4:R92 39 9 (w2 e 5 (sI x5) 0 (sP x0)) V0 hp K=
    (ptrN x0 fun b1 o2=>ldV (HP.cell hp b1 (o2+0)) fun v3=>slcV v3 fun a4 n5 c6=>(0≤x5)∧(x5<n5)∧(ptrN a4 fun b7 o8=>ldV (HP.cell hp b7 ((o8+Int.toNat x5*3)+2)) fun v9=>boolV v9 fun q10=>K (w3 (w8 e 5 (sI x5) 0 (sP x0) 18 (sP x0) 19 (sQ b1 o2) 20 (sQ b1 (o2+0)) 21 (sS a4 n5 c6) 22 (sI x5) 23 (sQ b7 (o8+Int.toNat x5*3))) 24 (sQ b7 ((o8+Int.toNat x5*3)+2)) 25 (sB q10) 26 (sB ((!q10)))) V0 hp)):=by kernel_rfl
theorem F92_r5:R92 151 1 e V0 hp K=
 K (upd e 4 (sB false)) V0 hp:= by kernel_rfl
theorem F92_r6:R92 47 8 (w2 e 5 (sI x5) 0 (sP x0)) V0 hp K=
    (ptrN x0 fun b1 o2=>ldV (HP.cell hp b1 (o2+0)) fun v3=>slcV v3 fun a4 n5 c6=>(0≤x5)∧(x5<n5)∧(ptrN a4 fun b7 o8=>(List.length [(Value.string ⟨#[]⟩),.int .i64 0,.bool false]=3)∧(HP.stN hp b7 (o8+Int.toNat x5*3) [.string ⟨#[]⟩,.int .i64 0,.bool false] fun h9=>K (upd (w8 e 5 (sI x5) 0 (sP x0) 27 (sP x0) 28 (sQ b1 o2) 29 (sQ b1 (o2+0)) 30 (sS a4 n5 c6) 31 (sI x5) 32 (sV (.agg ⟨[.string ⟨#[]⟩,.int .i64 0,.bool false]⟩))) 33 (sQ b7 (o8+Int.toNat x5*3))) V0 h9))):=by kernel_rfl
theorem F92_r7:R92 95 8 (upd e 0 (sP x0)) V0 hp K=
 ptrN x0 fun b1 o2=>(ldV (HP.cell hp b1 (o2+2)) fun v3=>intV v3 .i64 fun i4=>ptrN x0 fun b5 o6=>HP.st hp b5 (o6+2) (.int .i64 (wr (i4-1))) fun h7=>K (w8 e 0 (sP x0) 34 (sP x0) 35 (sQ b1 o2) 36 (sQ b1 (o2+2)) 37 (sI i4) 38 (sI ((wr (i4-1)))) 39 (sQ b5 o6) 40 (sQ b5 (o6+2))) V0 h7):= by kernel_rfl
theorem F92_r8:R92 4287 8 (w2 e 5 (sI x5) 0 (sP x0)) V0 hp K=
    (ptrN x0 fun b1 o2=>ldV (HP.cell hp b1 (o2+0)) fun v3=>slcV v3 fun a4 n5 c6=>(0≤x5)∧(x5<n5)∧(ptrN a4 fun b7 o8=>ldV (HP.cell hp b7 ((o8+Int.toNat x5*3)+2)) fun v9=>boolV v9 fun q10=>K (w2 (w8 e 5 (sI x5) 0 (sP x0) 50 (sP x0) 51 (sQ b1 o2) 52 (sQ b1 (o2+0)) 53 (sS a4 n5 c6) 54 (sI x5) 55 (sQ b7 (o8+Int.toNat x5*3))) 56 (sQ b7 ((o8+Int.toNat x5*3)+2)) 57 (sB q10)) V0 hp)):=by kernel_rfl
theorem F92_r9:R92 17599 9 (w2 e 5 (sI x5) 0 (sP x0)) V0 hp K=
    (ptrN x0 fun b1 o2=>ldV (HP.cell hp b1 (o2+0)) fun v3=>slcV v3 fun a4 n5 c6=>(0≤x5)∧(x5<n5)∧(ptrN a4 fun b7 o8=>ldL (HP.cellN hp b7 (o8+Int.toNat x5*3) 3) fun l9=>if List.length l9=3 then (if List.all l9 one=true then (if 0+List.length l9≤List.length [(Value.string ⟨#[]⟩),.int .i64 0,.bool false] then (K (w2 (w8 e 5 (sI x5) 0 (sP x0) 67 (sP x0) 68 (sQ b1 o2) 69 (sQ b1 (o2+0)) 70 (sS a4 n5 c6) 71 (sI x5) 72 (sQ b7 (o8+Int.toNat x5*3))) 73 (sA l9) 7 (sR 7 0)) (w2 V0 7 (197,[.string ⟨#[]⟩,.int .i64 0,.bool false]) 7 (197,(splice [.string ⟨#[]⟩,.int .i64 0,.bool false] 0 l9))) hp) else False) else False) else False)):=by kernel_rfl
theorem F92_r10:R92 42175 8 (w2 e 5 (sI x5) 0 (sP x0)) (upd V0 7 (197,k7)) hp K=
    (ptrN x0 fun b1 o2=>ldV (HP.cell hp b1 (o2+0)) fun v3=>slcV v3 fun a4 n5 c6=>(0≤x5)∧(x5<n5)∧(ptrN a4 fun b7 o8=>(List.length [(Value.string ⟨#[]⟩),.int .i64 0,.bool false]=3)∧(HP.stN hp b7 (o8+Int.toNat x5*3) [.string ⟨#[]⟩,.int .i64 0,.bool false] fun h9=>K (upd (w8 e 5 (sI x5) 0 (sP x0) 74 (sP x0) 75 (sQ b1 o2) 76 (sQ b1 (o2+0)) 77 (sS a4 n5 c6) 78 (sI x5) 79 (sV (.agg ⟨[.string ⟨#[]⟩,.int .i64 0,.bool false]⟩))) 80 (sQ b7 (o8+Int.toNat x5*3))) (upd V0 7 (197,k7)) h9))):=by kernel_rfl
theorem F92_r11:R92 91327 9 (w2 e 7 (sR 7 0) 0 (sP x0)) (upd V0 7 (197,k7)) hp K=
 ldV (k7)[0]? fun v1=>(strV v1 fun s2=>CF Tryd.prog 115 [(.pointer x0),(.string s2)] hp fun u3 h4=>tup2V u3 fun u5 u6=>intV u5 .i64 fun i7=>intV u6 .i64 fun i8=>K (w3 (w8 e 7 (sR 7 0) 0 (sP x0) 82 (sP x0) 83 (sR 7 0) 84 (sT s2) 85 (sV (.tuple ⟨[(.int .i64 i7),(.int .i64 i8)]⟩)) 81 (sV (.tuple ⟨[(.int .i64 i7),(.int .i64 i8)]⟩)) 86 (sI i7)) 87 (sI i8) 8 (sI i7) 9 (sI i8)) (upd V0 7 (197,k7)) h4):= by kernel_rfl
theorem F92_r12 (h:E=upd (w2 e 8 (sI x8) 7 (sR 7 0)) 0 (sP x0)):R92 124095 8 E (upd V0 7 (197,k7)) hp K=
    (ptrN x0 fun b1 o2=>ldV (HP.cell hp b1 (o2+0)) fun v3=>slcV v3 fun a4 n5 c6=>ldL (cellsN k7 0 3) fun l7=>(0≤x8)∧(x8<n5)∧(ptrN a4 fun b8 o9=>(List.length l7=3)∧(HP.stN hp b8 (o9+Int.toNat x8*3) l7 fun h10=>K (w7 E 88 (sP x0) 89 (sQ b1 o2) 90 (sQ b1 (o2+0)) 91 (sS a4 n5 c6) 92 (sI x8) 93 (sA l7) 94 (sQ b8 (o9+Int.toNat x8*3))) (upd V0 7 (197,k7)) h10))):=by subst h; kernel_rfl
theorem F92_r13:R92 7359 10 (w2 e 5 (sI x5) 0 (sP x0)) V0 hp K=
 ptrN x0 fun b1 o2=>(ldV (HP.cell hp b1 (o2+0)) fun v3=>slcV v3 fun a4 n5 c6=>K (w4 (w8 e 5 (sI x5) 0 (sP x0) 58 (sI x5) 59 (sI ((wr (x5+1)))) 60 (sP x0) 61 (sQ b1 o2) 62 (sQ b1 (o2+0)) 63 (sS a4 n5 c6)) 64 (sI ((n5:Nat))) 65 (sI ((wr ((n5:Nat)-1)))) 66 (sI ((band .i64 (wr (x5+1)) (wr ((n5:Nat)-1))))) 5 (sI ((band .i64 (wr (x5+1)) (wr ((n5:Nat)-1)))))) V0 hp):= by kernel_rfl
theorem F92_r14:R92 383 1 e V0 hp K=
 K (upd e 4 (sB true)) V0 hp:= by kernel_rfl
def F92_l2 (x0:OA) (K:Kh) (I2:(Int)→HP→Prop) (x5:Int) (hp:HP):Prop:=
  (ptrN x0 fun b36 o37=>ldV (HP.cell hp b36 (o37+0)) fun v38=>slcV v38 fun a39 n40 c41=>(0≤x5)∧(x5<n40)∧(ptrN a39 fun b42 o43=>ldV (HP.cell hp b42 ((o43+Int.toNat x5*3)+2)) fun v44=>boolV v44 fun q45=>ite2 q45 (ptrN x0 fun b46 o47=>ldV (HP.cell hp b46 (o47+0)) fun v48=>slcV v48 fun a49 n50 c51=>(0≤x5)∧(x5<n50)∧(ptrN a49 fun b52 o53=>ldL (HP.cellN hp b52 (o53+Int.toNat x5*3) 3) fun l54=>if List.length l54=3 then (if List.all l54 one=true then (if 0+List.length l54≤List.length [(Value.string ⟨#[]⟩),.int .i64 0,.bool false] then (ptrN x0 fun b55 o56=>ldV (HP.cell hp b55 (o56+0)) fun v57=>slcV v57 fun a58 n59 c60=>(0≤x5)∧(x5<n59)∧(ptrN a58 fun b61 o62=>(List.length [(Value.string ⟨#[]⟩),.int .i64 0,.bool false]=3)∧(HP.stN hp b61 (o62+Int.toNat x5*3) [.string ⟨#[]⟩,.int .i64 0,.bool false] fun h63=>ldV ((splice [.string ⟨#[]⟩,.int .i64 0,.bool false] 0 l54))[0]? fun v64=>strV v64 fun s65=>CF Tryd.prog 115 [(.pointer x0),(.string s65)] h63 fun u66 h67=>tup2V u66 fun u68 u69=>intV u68 .i64 fun i70=>intV u69 .i64 fun i71=>ptrN x0 fun b72 o73=>ldV (HP.cell h67 b72 (o73+0)) fun v74=>slcV v74 fun a75 n76 c77=>ldL (cellsN (splice [.string ⟨#[]⟩,.int .i64 0,.bool false] 0 l54) 0 3) fun l78=>(0≤i70)∧(i70<n76)∧(ptrN a75 fun b79 o80=>(List.length l78=3)∧(HP.stN h67 b79 (o80+Int.toNat i70*3) l78 fun h81=>ptrN x0 fun b82 o83=>ldV (HP.cell h81 b82 (o83+0)) fun v84=>slcV v84 fun a85 n86 c87=>I2 (band .i64 (IntKind.wrap .i64 (x5+1)) (IntKind.wrap .i64 ((n86:Nat)-1))) h81))))) else False) else False) else False)) (K (.bool true) hp)))
def F92_j1 (x0:OA) (x5:Int) (hp:HP) (K:Kh):Prop:=
  (LoopP (σ:=Int) (fun I s hp=>F92_l2 x0  K I s hp) x5 hp)
theorem F92_r15:R92 319 10 (w2 e 5 (sI x5) 0 (sP x0)) V0 hp K=
 ptrN x0 fun b1 o2=>(ldV (HP.cell hp b1 (o2+0)) fun v3=>slcV v3 fun a4 n5 c6=>K (w4 (w8 e 5 (sI x5) 0 (sP x0) 41 (sI x5) 42 (sI ((wr (x5+1)))) 43 (sP x0) 44 (sQ b1 o2) 45 (sQ b1 (o2+0)) 46 (sS a4 n5 c6)) 47 (sI ((n5:Nat))) 48 (sI ((wr ((n5:Nat)-1)))) 49 (sI ((band .i64 (wr (x5+1)) (wr ((n5:Nat)-1))))) 5 (sI ((band .i64 (wr (x5+1)) (wr ((n5:Nat)-1)))))) V0 hp):= by kernel_rfl
def F92 (x0:OA) (x1:ByteArray) (hp:HP) (K:Kh):Prop:=
  (CF Tryd.prog 114 [(.pointer x0)] hp fun u1 h2=>boolV u1 fun q3=>ite2 q3 (K (.bool false) h2) (CF Tryd.prog 115 [(.pointer x0),(.string x1)] h2 fun u4 h5=>tup2V u4 fun u6 u7=>intV u6 .i64 fun i8=>intV u7 .i64 fun i9=>ptrN x0 fun b10 o11=>ldV (HP.cell h5 b10 (o11+0)) fun v12=>slcV v12 fun a13 n14 c15=>(0≤i8)∧(i8<n14)∧(ptrN a13 fun b16 o17=>ldV (HP.cell h5 b16 ((o17+Int.toNat i8*3)+2)) fun v18=>boolV v18 fun q19=>ite2 (!q19) (K (.bool false) h5) (ptrN x0 fun b20 o21=>ldV (HP.cell h5 b20 (o21+0)) fun v22=>slcV v22 fun a23 n24 c25=>(0≤i8)∧(i8<n24)∧(ptrN a23 fun b26 o27=>(List.length [(Value.string ⟨#[]⟩),.int .i64 0,.bool false]=3)∧(HP.stN h5 b26 (o27+Int.toNat i8*3) [.string ⟨#[]⟩,.int .i64 0,.bool false] fun h28=>ptrN x0 fun b29 o30=>ldV (HP.cell h28 b29 (o30+2)) fun v31=>intV v31 .i64 fun i32=>ptrN x0 fun b33 o34=>HP.st h28 b33 (o34+2) (.int .i64 (IntKind.wrap .i64 (i32-1))) fun h35=>ptrN x0 fun b88 o89=>ldV (HP.cell h35 b88 (o89+0)) fun v90=>slcV v90 fun a91 n92 c93=>F92_j1 x0 (band .i64 (IntKind.wrap .i64 (i8+1)) (IntKind.wrap .i64 ((n92:Nat)-1))) h35  K))))))
noncomputable abbrev o92 (k n:Nat):Code:=.region k (opsAt Tryd.f92 (pth n)) false
noncomputable def F92_code:Code:=(.seq (o92 0 2) (.seq (.seq (o92 1 9) (.cond (.tmp 11) (.seq (o92 2 37) .ret) .skip)) (.seq (o92 3 11) (.seq (.seq (o92 4 39) (.cond (.tmp 26) (.seq (o92 5 151) .ret) .skip)) (.seq (o92 6 47) (.seq (o92 7 95) (.seq (.seq (o92 8 319) (.block 0 (.loop (.seq (.seq (o92 9 4287) (.cond (.tmp 57) .skip (.exit 0))) (.seq (.block 1 (.seq (o92 11 17599) (.seq (o92 12 42175) (.seq (o92 13 91327) (.region 14 (opsAt Tryd.f92 (pth 124095)) true))))) (o92 10 7359)))))) (.seq (o92 15 383) .ret))))))))
theorem F92_body:Tryd.f92.body=some F92_code:=by kernel_rfl
theorem F92_ok (x0:OA) (x1:ByteArray) (hp:HP) (K:Kh) (h:F92 x0 x1 hp K):CF Tryd.prog 92 [(.pointer x0),(.string x1)] hp K:=by
 refine .inl ⟨by kernel_rfl,AC.intro (N:=95) Tryd.func92 F92_body rfl (Nat.le_of_ble_eq_true rfl) ?_⟩
 unfold F92 at h
 refine Ar F92_r0 ?_ (r2 0 1 Rn) (z2 Sn) Sn
 refine Aq (Ar F92_r1 ?_ (r2 0 1 Rn) (z2 Sn) Sn)
 refine mC h fun u1 h2 h=>mB h fun q3 h=>?_
 refine Ac h rfl (fun h=>?_) (fun h=>?_)
 ·refine Ar F92_r2 ?_ Rn Sn Sn
  refine AWP.ret ?_
  exact h
 ·refine AWP.skip (Ar F92_r3 ?_ (r2 0 1 Rn) (z2 Sn) Sn)
  refine mC h fun u4 h5 h=>mT h fun u6 u7 h=>mI h fun i8 h=>mI h fun i9 h=>?_
  refine Aq (Ar F92_r4 ?_ (r2 0 5 Rn) (z2 Sn) Sn)
  refine mN h (fun b10 o11 h=>mV h (fun v12 h=>mS h (fun a13 n14 c15 h=>⟨h.1,h.2.1,mN h.2.2 fun b16 o17 h=>mV h fun v18 h=>mB h fun q19 h=>?_⟩)))
  refine Ac h rfl (fun h=>?_) (fun h=>?_)
  ·refine Ar F92_r5 ?_ Rn Sn Sn
   refine AWP.ret ?_
   exact h
  ·refine AWP.skip (Ar F92_r6 ?_ (r2 0 5 Rn) (z2 Sn) Sn)
   refine mN h (fun b20 o21 h=>mV h (fun v22 h=>mS h (fun a23 n24 c25 h=>⟨h.1,h.2.1,mN h.2.2 (fun b26 o27 h=>⟨h.1,mW h.2 fun h28 h=>?_⟩)⟩)))
   refine Ar F92_r7 ?_ (r2 0 5 Rn) (z2 Sn) Sn
   refine mN h fun b29 o30 h=>mV h fun v31 h=>mI h fun i32 h=>mN h fun b33 o34 h=>mw h fun h35 h=>?_
   refine Aq (As (fun env pv hp=>∃ x0 x5,Sub (w2 E0 5 (sI x5) 0 (sP x0)) env∧Sub V0 pv∧F92_j1 x0 x5 hp  K) ?_ ?_)
   ·refine Ag F92_r15 ?_ (r2 0 5 Rn) (z2 Sn) Sn
    refine mN h fun b88 o89 h=>mV h fun v90 h=>mS h fun a91 n92 c93 h=>?_
    exact ⟨_,_,(z2 Sn),Sn,h⟩
   ·rintro env pv hp ⟨x0,x5,he,hv,h⟩
    refine Ae ?_ (r2 0 5 Rn) he hv
    unfold F92_j1 at h
    refine AWP.block (AWP.loop (σ:=Int) _ (fun s=>w2 E0 5 (sI s) 0 (sP x0)) (fun s=>V0) x5 h (fun s=>r2 0 5 Rn) (z2 Sn) Sn ?_)
    intro I2 x5 hp h
    replace h:F92_l2 x0  K I2 x5 hp:=h
    unfold F92_l2 at h
    refine Aq (Ar F92_r8 ?_ (r2 0 5 Rn) (z2 Sn) Sn)
    refine mN h (fun b36 o37 h=>mV h (fun v38 h=>mS h (fun a39 n40 c41 h=>⟨h.1,h.2.1,mN h.2.2 fun b42 o43 h=>mV h fun v44 h=>mB h fun q45 h=>?_⟩)))
    refine Ac h rfl (fun h=>?_) (fun h=>?_)
    ·refine AWP.skip (Aq (AWP.block (Ar F92_r9 ?_ (r2 0 5 Rn) (z2 Sn) Sn)))
     refine mN h (fun b46 o47 h=>mV h (fun v48 h=>mS h (fun a49 n50 c51 h=>⟨h.1,h.2.1,mN h.2.2 fun b52 o53 h=>mL h fun l54 h=>mf h fun h=>mf h fun h=>mf h fun h=>?_⟩)))
     refine Ar F92_r10 ?_ (r2 0 5 (rp 7 7 0 Rn)) (z3 Sn) (z1 Sn)
     refine mN h (fun b55 o56 h=>mV h (fun v57 h=>mS h (fun a58 n59 c60 h=>⟨h.1,h.2.1,mN h.2.2 (fun b61 o62 h=>⟨h.1,mW h.2 fun h63 h=>?_⟩)⟩)))
     refine Ar F92_r11 ?_ (r1 0 (rp 7 7 0 (r1 5 Rn))) (z3 Sn) (z1 Sn)
     refine mV h fun v64 h=>ms h fun s65 h=>mC h fun u66 h67 h=>mT h fun u68 u69 h=>mI h fun i70 h=>mI h fun i71 h=>?_
     refine AWP.rgnD (by kernel_rfl) (by kernel_rfl) (F92_r12 rfl) ?_ (r1 0 (rp 7 7 0 (r2 8 5 Rn))) (z4 Sn) (z1 Sn)
     refine mN h (fun b72 o73 h=>mV h (fun v74 h=>mS h (fun a75 n76 c77 h=>mL h (fun l78 h=>⟨h.1,h.2.1,mN h.2.2 (fun b79 o80 h=>⟨h.1,mW h.2 fun h81 h=>?_⟩)⟩))))
     refine Ag F92_r13 ?_ (r2 0 5 Rn) (z2 Sn) Sn
     refine mN h fun b82 o83 h=>mV h fun v84 h=>mS h fun a85 n86 c87 h=>?_
     exact ⟨_,(z2 Sn),Sn,h⟩
    ·refine AWP.exit ?_
     refine Ar F92_r14 ?_ Rn Sn Sn
     refine AWP.ret ?_
     exact h
end
section
variable {e:Env} {x0:OA} {hp:HP} {K:Env→PV→HP→Prop}
abbrev R114 (p n:Nat):=RW Tryd.prog 13 [] (opsAt Tryd.f114 (pth p)) (List.range n)
theorem F114_r0:R114 2 1 e V0 hp K=
 K (upd e 2 (sB false)) V0 hp:= by kernel_rfl
theorem F114_r1:R114 5 11 (upd e 0 (sP x0)) V0 hp K=
 ite2 (Option.isNone x0) (K (w4 (w8 e 0 (sP x0) 3 (sP x0) 4 (sB ((Option.isNone x0))) 5 (sB true) 6 sU 7 sU 8 sU 9 sU) 10 sU 11 sU 12 (sB true) 2 (sB true)) V0 hp) (ptrN x0 fun b1 o2=>ldV (HP.cell hp b1 (o2+0)) fun v3=>slcV v3 fun a4 n5 c6=>K (w4 (w8 e 0 (sP x0) 3 (sP x0) 4 (sB ((Option.isNone x0))) 5 (sB false) 6 (sP x0) 7 (sQ b1 o2) 8 (sQ b1 (o2+0)) 9 (sS a4 n5 c6)) 10 (sI ((n5:Nat))) 11 (sB ((((n5:Nat):Int)==0))) 12 (sB ((((n5:Nat):Int)==0))) 2 (sB ((((n5:Nat):Int)==0)))) V0 hp):= by kernel_rfl
def F114 (x0:OA) (hp:HP) (K:Kh):Prop:=
  (ite2 (Option.isNone x0) (K (.bool true) hp) (ptrN x0 fun b1 o2=>ldV (HP.cell hp b1 (o2+0)) fun v3=>slcV v3 fun a4 n5 c6=>K (.bool (((n5:Nat):Int)==0)) hp))
noncomputable def F114_code:Code:=(.seq (.region 0 (opsAt Tryd.f114 (pth 2)) false) (.seq (.region 1 (opsAt Tryd.f114 (pth 5)) false) .ret))
theorem F114_body:Tryd.f114.body=some F114_code:=by kernel_rfl
theorem F114_ok (x0:OA) (hp:HP) (K:Kh) (h:F114 x0 hp K):CF Tryd.prog 114 [(.pointer x0)] hp K:=by
 refine .inl ⟨by kernel_rfl,AC.intro (N:=13) Tryd.func114 F114_body rfl (Nat.le_of_ble_eq_true rfl) ?_⟩
 unfold F114 at h
 refine Ar F114_r0 ?_ (r1 0 Rn) (z1 Sn) Sn
 refine Ar F114_r1 ?_ (r1 0 Rn) (z1 Sn) Sn
 refine mt h (fun h=>?_) (fun h=>?_)
 ·refine AWP.ret ?_
  exact h
 ·refine mN h fun b1 o2 h=>mV h fun v3 h=>mS h fun a4 n5 c6 h=>?_
  refine AWP.ret ?_
  exact h
end
section
variable {e E:Env} {x0:OA} {x1:ByteArray} {x4 x5:Int} {hp:HP} {K:Env→PV→HP→Prop}
abbrev R115 (p n:Nat):=RW Tryd.prog 49 [] (opsAt Tryd.f115 (pth p)) (List.range n)
theorem F115_r0:R115 2 2 e V0 hp K=
 K (w2 e 4 (sI 0) 5 (sI 0)) V0 hp:= by kernel_rfl
theorem F115_r1:R115 23 4 (w2 e 5 (sI x5) 4 (sI x4)) V0 hp K=
 K (w6 e 5 (sI x5) 4 (sI x4) 47 (sI x4) 48 (sI x5) 4 (sI x4) 5 (sI x5)) V0 hp:= by kernel_rfl
def F115_j2 (x4 x5:Int) (hp:HP) (K:Kh):Prop:=
  (K (.tuple ⟨[(.int .i64 x4),(.int .i64 x5)]⟩) hp)
theorem F115_r2:R115 587 10 (w2 e 4 (sI x4) 0 (sP x0)) V0 hp K=
 ptrN x0 fun b1 o2=>(ldV (HP.cell hp b1 (o2+0)) fun v3=>slcV v3 fun a4 n5 c6=>K (w4 (w8 e 4 (sI x4) 0 (sP x0) 38 (sI x4) 39 (sI ((wr (x4+1)))) 40 (sP x0) 41 (sQ b1 o2) 42 (sQ b1 (o2+0)) 43 (sS a4 n5 c6)) 44 (sI ((n5:Nat))) 45 (sI ((wr ((n5:Nat)-1)))) 46 (sI ((band .i64 (wr (x4+1)) (wr ((n5:Nat)-1))))) 4 (sI ((band .i64 (wr (x4+1)) (wr ((n5:Nat)-1)))))) V0 hp):= by kernel_rfl
theorem F115_r3:R115 459 3 (upd e 5 (sI x5)) V0 hp K=
 K (w4 e 5 (sI x5) 36 (sI x5) 37 (sI ((wr (x5+1)))) 5 (sI ((wr (x5+1))))) V0 hp:= by kernel_rfl
def F115_j5 (x0:OA) (x1:ByteArray) (x4 x5:Int) (x35:Bool) (hp:HP) (I4:(Int × Int)→HP→Prop) (K:Kh):Prop:=
  (ite2 x35 (ptrN x0 fun b1 o2=>ldV (HP.cell hp b1 (o2+0)) fun v3=>slcV v3 fun a4 n5 c6=>I4 ((band .i64 (IntKind.wrap .i64 (x4+1)) (IntKind.wrap .i64 ((n5:Nat)-1))),(IntKind.wrap .i64 (x5+1))) hp) (F115_j2 x4 x5 hp  K))
theorem F115_r4 (h:E=upd (w2 e 4 (sI x4) 1 (sT x1)) 0 (sP x0)):R115 267 20 E V0 hp K=
    (ptrN x0 fun b1 o2=>ldV (HP.cell hp b1 (o2+0)) fun v3=>slcV v3 fun a4 n5 c6=>(0≤x4)∧(x4<n5)∧(ptrN a4 fun b7 o8=>ldV (HP.cell hp b7 ((o8+Int.toNat x4*3)+2)) fun v9=>boolV v9 fun q10=>ite2 q10 (ptrN x0 fun b11 o12=>ldV (HP.cell hp b11 (o12+0)) fun v13=>slcV v13 fun a14 n15 c16=>(0≤x4)∧(x4<n15)∧(ptrN a14 fun b17 o18=>ldV (HP.cell hp b17 ((o18+Int.toNat x4*3)+0)) fun v19=>strV v19 fun s20=>K (w4 (w8 (w8 E 16 (sP x0) 17 (sQ b1 o2) 18 (sQ b1 (o2+0)) 19 (sS a4 n5 c6) 20 (sI x4) 21 (sQ b7 (o8+Int.toNat x4*3)) 22 (sQ b7 ((o8+Int.toNat x4*3)+2)) 23 (sB q10)) 24 (sB true) 25 (sP x0) 26 (sQ b11 o12) 27 (sQ b11 (o12+0)) 28 (sS a14 n15 c16) 29 (sI x4) 30 (sQ b17 (o18+Int.toNat x4*3)) 31 (sQ b17 ((o18+Int.toNat x4*3)+0))) 32 (sT s20) 33 (sT x1) 34 (sB ((!((ByteArray.toList s20)==(ByteArray.toList x1))))) 35 (sB ((!((ByteArray.toList s20)==(ByteArray.toList x1)))))) V0 hp)) (K (w4 (w8 (w8 E 16 (sP x0) 17 (sQ b1 o2) 18 (sQ b1 (o2+0)) 19 (sS a4 n5 c6) 20 (sI x4) 21 (sQ b7 (o8+Int.toNat x4*3)) 22 (sQ b7 ((o8+Int.toNat x4*3)+2)) 23 (sB q10)) 24 (sB false) 25 sU 26 sU 27 sU 28 sU 29 sU 30 sU 31 sU) 32 sU 33 sU 34 sU 35 (sB false)) V0 hp))):=by subst h; kernel_rfl
def F115_l4 (x0:OA) (x1:ByteArray) (K:Kh) (I4:(Int × Int)→HP→Prop) (x4 x5:Int) (hp:HP):Prop:=
  (ptrN x0 fun b7 o8=>ldV (HP.cell hp b7 (o8+0)) fun v9=>slcV v9 fun a10 n11 c12=>(0≤x4)∧(x4<n11)∧(ptrN a10 fun b13 o14=>ldV (HP.cell hp b13 ((o14+Int.toNat x4*3)+2)) fun v15=>boolV v15 fun q16=>ite2 q16 (ptrN x0 fun b17 o18=>ldV (HP.cell hp b17 (o18+0)) fun v19=>slcV v19 fun a20 n21 c22=>(0≤x4)∧(x4<n21)∧(ptrN a20 fun b23 o24=>ldV (HP.cell hp b23 ((o24+Int.toNat x4*3)+0)) fun v25=>strV v25 fun s26=>F115_j5 x0 x1 x4 x5 (!((ByteArray.toList s26)==(ByteArray.toList x1))) hp I4 K)) (F115_j5 x0 x1 x4 x5 false hp I4 K)))
def F115_j3 (x0:OA) (x1:ByteArray) (x4 x5:Int) (hp:HP) (K:Kh):Prop:=
  (LoopP (σ:=Int × Int) (fun I s hp=>F115_l4 x0 x1  K I s.1 s.2 hp) (x4,x5) hp)
theorem F115_r5:R115 19 1 e V0 hp K=
 K (upd e 5 (sI 1)) V0 hp:= by kernel_rfl
def F115_j1 (x0:OA) (x1:ByteArray) (x4:Int) (hp:HP) (K:Kh):Prop:=
  (F115_j3 x0 x1 x4 1 hp  K)
theorem F115_r6 {e:Env} {x0:OA} {x1:ByteArray} {hp:HP} {K:Env→PV→HP→Prop}:RW Tryd.prog 49 [] (opsAt Tryd.f115 (pth 5)) [0,1,2,3,4,5,6,7,8,9,10] (w2 e 1 (sT x1) 0 (sP x0)) V0 hp K=
 CF Tryd.prog 134 [(.string x1)] hp fun u1 h2=>(intV u1 .u32 fun i3=>ptrN x0 fun b4 o5=>ldV (HP.cell h2 b4 (o5+0)) fun v6=>slcV v6 fun a7 n8 c9=>K (w5 (w8 e 1 (sT x1) 0 (sP x0) 6 (sT x1) 7 (sV (.int .u32 i3)) 8 (sI ((wr (i3)))) 9 (sP x0) 10 (sQ b4 o5) 11 (sQ b4 (o5+0))) 12 (sS a7 n8 c9) 13 (sI ((n8:Nat))) 14 (sI ((wr ((n8:Nat)-1)))) 15 (sI ((band .i64 (wr (i3)) (wr ((n8:Nat)-1))))) 4 (sI ((band .i64 (wr (i3)) (wr ((n8:Nat)-1)))))) V0 h2):= by kernel_rfl
theorem F115_r7 {e:Env} {x0:OA} {x1:ByteArray} {hp:HP} {K:Env→PV→HP→Prop}:RW Tryd.prog 49 [] (opsAt Tryd.f115 (pth 5)) [0,3,4,5,6,1,2,7,8,9,10] (w2 e 1 (sT x1) 0 (sP x0)) V0 hp K=
 ptrN x0 fun b1 o2=>(ldV (HP.cell hp b1 (o2+0)) fun v3=>slcV v3 fun a4 n5 c6=>CF Tryd.prog 134 [(.string x1)] hp fun u7 h8=>intV u7 .u32 fun i9=>K (w5 (w8 e 1 (sT x1) 0 (sP x0) 6 (sT x1) 9 (sP x0) 10 (sQ b1 o2) 11 (sQ b1 (o2+0)) 12 (sS a4 n5 c6) 7 (sV (.int .u32 i9))) 8 (sI ((wr (i9)))) 13 (sI ((n5:Nat))) 14 (sI ((wr ((n5:Nat)-1)))) 15 (sI ((band .i64 (wr (i9)) (wr ((n5:Nat)-1))))) 4 (sI ((band .i64 (wr (i9)) (wr ((n5:Nat)-1)))))) V0 h8):= by kernel_rfl
def F115 (x0:OA) (x1:ByteArray) (hp:HP) (K:Kh):Prop:=
  ((CF Tryd.prog 134 [(.string x1)] hp fun u27 h28=>intV u27 .u32 fun i29=>ptrN x0 fun b30 o31=>ldV (HP.cell h28 b30 (o31+0)) fun v32=>slcV v32 fun a33 n34 c35=>F115_j1 x0 x1 (band .i64 (IntKind.wrap .i64 (i29)) (IntKind.wrap .i64 ((n34:Nat)-1))) h28  K)∧(ptrN x0 fun b36 o37=>ldV (HP.cell hp b36 (o37+0)) fun v38=>slcV v38 fun a39 n40 c41=>CF Tryd.prog 134 [(.string x1)] hp fun u42 h43=>intV u42 .u32 fun i44=>F115_j1 x0 x1 (band .i64 (IntKind.wrap .i64 (i44)) (IntKind.wrap .i64 ((n40:Nat)-1))) h43  K))
noncomputable abbrev o115 (k n:Nat):Code:=.region k (opsAt Tryd.f115 (pth n)) false
noncomputable def F115_code:Code:=(.seq (o115 0 2) (.seq (.region 1 (opsAt Tryd.f115 (pth 5)) true) (.seq (.seq (o115 2 19) (.block 0 (.loop (.seq (.seq (o115 3 267) (.cond (.tmp 35) .skip (.exit 0))) (.seq (.block 1 (o115 5 587)) (o115 4 459)))))) (.seq (o115 6 23) .ret))))
theorem F115_body:Tryd.f115.body=some F115_code:=by kernel_rfl
theorem F115_ok (x0:OA) (x1:ByteArray) (hp:HP) (K:Kh) (h:F115 x0 x1 hp K):CF Tryd.prog 115 [(.pointer x0),(.string x1)] hp K:=by
 refine .inl ⟨by kernel_rfl,AC.intro (N:=49) Tryd.func115 F115_body rfl (Nat.le_of_ble_eq_true rfl) ?_⟩
 unfold F115 at h
 refine Ar F115_r0 ?_ (r2 0 1 Rn) (z2 Sn) Sn
 refine As (fun env pv hp=>∃ x0 x1 x4,Sub (w3 E0 4 (sI x4) 1 (sT x1) 0 (sP x0)) env∧Sub V0 pv∧F115_j1 x0 x1 x4 hp  K) ?_ ?_
 ·refine AWP.rgnC (cf:=[(1,6)]) (c:=[([true],true,[0,1,2,3,4,5,6,7,8,9,10]),([false],true,[0,3,4,5,6,1,2,7,8,9,10])]) (by kernel_rfl) (by kernel_rfl) (by kernel_rfl) (by kernel_rfl) (allO_t (Eq.mpr F115_r6 ?_) (allO_t (Eq.mpr F115_r7 ?_) trivial)) (r2 0 1 Rn) (z2 Sn) Sn
  ·replace h:=h.1
   refine mC h fun u27 h28 h=>mI h fun i29 h=>mN h fun b30 o31 h=>mV h fun v32 h=>mS h fun a33 n34 c35 h=>?_
   exact ⟨_,_,_,(z3 Sn),Sn,h⟩
  ·replace h:=h.2
   refine mN h fun b36 o37 h=>mV h fun v38 h=>mS h fun a39 n40 c41 h=>mC h fun u42 h43 h=>mI h fun i44 h=>?_
   exact ⟨_,_,_,(z3 Sn),Sn,h⟩
 ·rintro env pv hp ⟨x0,x1,x4,he,hv,h⟩
  refine Ae ?_ (r3 0 1 4 Rn) he hv
  unfold F115_j1 at h
  refine As (fun env pv hp=>∃ x4 x5,Sub (w2 E0 5 (sI x5) 4 (sI x4)) env∧Sub V0 pv∧F115_j2 x4 x5 hp  K) ?_ ?_
  ·refine As (fun env pv hp=>∃ x0 x1 x4 x5,Sub (w4 E0 5 (sI x5) 4 (sI x4) 1 (sT x1) 0 (sP x0)) env∧Sub V0 pv∧F115_j3 x0 x1 x4 x5 hp  K) ?_ ?_
   ·refine Ag F115_r5 ?_ (r3 0 1 4 Rn) (z3 Sn) Sn
    exact ⟨_,_,_,_,(z4 Sn),Sn,h⟩
   ·rintro env pv hp ⟨x0,x1,x4,x5,he,hv,h⟩
    refine Ae ?_ (r4 0 1 4 5 Rn) he hv
    unfold F115_j3 at h
    refine AWP.block (AWP.loop (σ:=Int × Int) _ (fun s=>w4 E0 5 (sI (s.2)) 4 (sI (s.1)) 1 (sT x1) 0 (sP x0)) (fun s=>V0) (x4,x5) h (fun s=>r4 0 1 4 5 Rn) (z4 Sn) Sn ?_)
    intro I4 s hp h
    obtain ⟨x4,x5⟩:=s
    replace h:F115_l4 x0 x1  K I4 x4 x5 hp:=h
    unfold F115_l4 at h
    refine Aq (As (fun env pv hp=>∃ x4 x5 x35,Sub (w5 E0 35 (sB x35) 5 (sI x5) 4 (sI x4) 1 (sT x1) 0 (sP x0)) env∧Sub V0 pv∧F115_j5 x0 x1 x4 x5 x35 hp I4 K) ?_ ?_)
    ·refine Ag (F115_r4 rfl) ?_ (r4 0 1 4 5 Rn) (z4 Sn) Sn
     refine mN h (fun b7 o8 h=>mV h (fun v9 h=>mS h (fun a10 n11 c12 h=>⟨h.1,h.2.1,mN h.2.2 fun b13 o14 h=>mV h fun v15 h=>mB h fun q16 h=>?_⟩)))
     refine mt h (fun h=>?_) (fun h=>?_)
     ·refine mN h (fun b17 o18 h=>mV h (fun v19 h=>mS h (fun a20 n21 c22 h=>⟨h.1,h.2.1,mN h.2.2 fun b23 o24 h=>mV h fun v25 h=>ms h fun s26 h=>?_⟩)))
      exact ⟨_,_,_,(z5 Sn),Sn,h⟩
     ·exact ⟨_,_,_,(z5 Sn),Sn,h⟩
    ·rintro env pv hp ⟨x4,x5,x35,he,hv,h⟩
     refine Ae ?_ (r5 0 1 4 5 35 Rn) he hv
     unfold F115_j5 at h
     refine Ac h rfl (fun h=>?_) (fun h=>?_)
     ·refine AWP.skip (Aq (AWP.block (Ag F115_r2 ?_ (r4 0 4 1 5 Rn) (z4 Sn) Sn)))
      refine mN h fun b1 o2 h=>mV h fun v3 h=>mS h fun a4 n5 c6 h=>?_
      refine Ag F115_r3 ?_ (r4 5 0 1 4 Rn) (z4 Sn) Sn
      exact ⟨_,(z4 Sn),Sn,h⟩
     ·refine AWP.exit ?_
      exact ⟨_,_,(z2 Sn),Sn,h⟩
  ·rintro env pv hp ⟨x4,x5,he,hv,h⟩
   refine Ae ?_ (r2 4 5 Rn) he hv
   unfold F115_j2 at h
   refine Ar F115_r1 ?_ (r2 4 5 Rn) (z2 Sn) Sn
   refine AWP.ret ?_
   exact h
end
section
variable {e E:Env} {x0:ByteArray} {x3 x5:Int} {x7 x8:Value} {hp:HP} {K:Env→PV→HP→Prop}
abbrev R134 (p n:Nat):=RW Tryd.prog 17 [] (opsAt Tryd.f134 (pth p)) (List.range n)
theorem F134_r0:R134 2 1 e V0 hp K=
 K (upd e 2 (sV (.int .u32 0))) V0 hp:= by kernel_rfl
theorem F134_r1:R134 5 1 e V0 hp K=
 K (upd e 3 (sV (.int .u32 2166136261))) V0 hp:= by kernel_rfl
theorem F134_r2:R134 23 2 (upd e 3 (sV (.int .u32 x3))) V0 hp K=
 K (w3 e 3 (sV (.int .u32 x3)) 16 (sV (.int .u32 x3)) 2 (sV (.int .u32 x3))) V0 hp:= by kernel_rfl
def F134_j1 (x3:Int) (hp:HP) (K:Kh):Prop:=
  (K (.int .u32 x3) hp)
theorem F134_r3:R134 139 2 (upd e 7 (sV x7)) V0 hp K=
 opS Tryd.prog (Instr.next x7 true 0) hp fun u1 h2=>(tupI u1 0 fun v3=>boolV v3 fun q4=>K (w3 e 7 (sV x7) 8 (sV u1) 9 (sB q4)) V0 h2):= by kernel_rfl
theorem F134_r4:R134 1227 2 (upd e 8 (sV x8)) V0 hp K=
    (tupI x8 2 fun v1=>intV v1 .i32 fun i2=>K (w3 e 8 (sV x8) 10 (sV (.int .i32 i2)) 5 (sV (.int .i32 i2))) V0 hp):=by kernel_rfl
theorem F134_r5 (h:E=upd (upd e 5 (sV (.int .i32 x5))) 3 (sV (.int .u32 x3))):R134 1739 6 E V0 hp K=
 K (w6 E 11 (sV (.int .u32 x3)) 12 (sV (.int .i32 x5)) 13 (sV (.int .u32 (IntKind.wrap .u32 (x5)))) 14 (sV (.int .u32 (bxor .u32 x3 (IntKind.wrap .u32 (x5))))) 15 (sV (.int .u32 (IntKind.wrap .u32 ((bxor .u32 x3 (IntKind.wrap .u32 (x5)))*16777619)))) 3 (sV (.int .u32 (IntKind.wrap .u32 ((bxor .u32 x3 (IntKind.wrap .u32 (x5)))*16777619))))) V0 hp:= by subst h; kernel_rfl
def F134_l3 (x7:Value) (K:Kh) (I3:(Int)→HP→Prop) (x3:Int) (hp:HP):Prop:=
  (opS Tryd.prog (Instr.next x7 true 0) hp fun u1 h2=>tupI u1 0 fun v3=>boolV v3 fun q4=>ite2 q4 (tupI u1 2 fun v5=>intV v5 .i32 fun i6=>I3 (IntKind.wrap .u32 ((bxor .u32 x3 (IntKind.wrap .u32 (i6)))*16777619)) h2) (F134_j1 x3 h2  K))
def F134_j2 (x3:Int) (x7:Value) (hp:HP) (K:Kh):Prop:=
  (LoopP (σ:=Int) (fun I s hp=>F134_l3 x7  K I s hp) x3 hp)
theorem F134_r6:R134 19 2 (upd e 0 (sT x0)) V0 hp K=
 opS Tryd.prog (Instr.range 9 (.string x0)) hp fun u1 h2=>(K (w3 e 0 (sT x0) 6 (sT x0) 7 (sV u1)) V0 h2):= by kernel_rfl
def F134 (x0:ByteArray) (hp:HP) (K:Kh):Prop:=
  (opS Tryd.prog (Instr.range 9 (.string x0)) hp fun u7 h8=>F134_j2 2166136261 u7 h8  K)
noncomputable abbrev o134 (k n:Nat):Code:=.region k (opsAt Tryd.f134 (pth n)) false
noncomputable def F134_code:Code:=(.seq (o134 0 2) (.seq (o134 1 5) (.seq (.seq (o134 2 19) (.block 0 (.loop (.seq (o134 3 139) (.seq (.cond (.tmp 9) .skip (.exit 0)) (.block 1 (.seq (o134 4 1227) (o134 5 1739)))))))) (.seq (o134 6 23) .ret))))
theorem F134_body:Tryd.f134.body=some F134_code:=by kernel_rfl
theorem F134_ok (x0:ByteArray) (hp:HP) (K:Kh) (h:F134 x0 hp K):CF Tryd.prog 134 [(.string x0)] hp K:=by
 refine .inl ⟨by kernel_rfl,AC.intro (N:=17) Tryd.func134 F134_body rfl (Nat.le_of_ble_eq_true rfl) ?_⟩
 unfold F134 at h
 refine Ar F134_r0 ?_ (r1 0 Rn) (z1 Sn) Sn
 refine Ar F134_r1 ?_ (r1 0 Rn) (z1 Sn) Sn
 refine As (fun env pv hp=>∃ x3,Sub (upd E0 3 (sV (.int .u32 x3))) env∧Sub V0 pv∧F134_j1 x3 hp  K) ?_ ?_
 ·refine As (fun env pv hp=>∃ x3 x7,Sub (w2 E0 7 (sV x7) 3 (sV (.int .u32 x3))) env∧Sub V0 pv∧F134_j2 x3 x7 hp  K) ?_ ?_
  ·refine Ag F134_r6 ?_ (r2 0 3 Rn) (z2 Sn) Sn
   refine mO h fun u7 h8 h=>?_
   exact ⟨_,_,(z2 Sn),Sn,h⟩
  ·rintro env pv hp ⟨x3,x7,he,hv,h⟩
   refine Ae ?_ (r2 3 7 Rn) he hv
   unfold F134_j2 at h
   refine AWP.block (AWP.loop (σ:=Int) _ (fun s=>w2 E0 7 (sV x7) 3 (sV (.int .u32 s))) (fun s=>V0) x3 h (fun s=>r2 3 7 Rn) (z2 Sn) Sn ?_)
   intro I3 x3 hp h
   replace h:F134_l3 x7  K I3 x3 hp:=h
   unfold F134_l3 at h
   refine Ar F134_r3 ?_ (r2 7 3 Rn) (z2 Sn) Sn
   refine mO h fun u1 h2 h=>tupI_mono h fun v3 h=>mB h fun q4 h=>?_
   refine Aq (Ac h rfl (fun h=>?_) (fun h=>?_))
   ·refine AWP.skip (AWP.block (Ar F134_r4 ?_ (r3 8 3 7 Rn) (z3 Sn) Sn))
    refine tupI_mono h fun v5 h=>mI h fun i6 h=>?_
    refine Ag (F134_r5 rfl) ?_ (r3 3 5 7 Rn) (z3 Sn) Sn
    exact ⟨_,(z2 Sn),Sn,h⟩
   ·refine AWP.exit ?_
    exact ⟨_,(z1 Sn),Sn,h⟩
 ·rintro env pv hp ⟨x3,he,hv,h⟩
  refine Ae ?_ (r1 3 Rn) he hv
  unfold F134_j1 at h
  refine Ar F134_r2 ?_ (r1 3 Rn) (z1 Sn) Sn
  refine AWP.ret ?_
  exact h
end
end Go.Proofs
set_option linter.unusedVariables false
set_option linter.unusedSimpArgs false
set_option maxRecDepth 20000
namespace Go.Proofs
open Go Go.HL
/-- A slot: a key and what it stands for, or nothing. -/
abbrev Slot:=Option (ByteArray × Int)
def slv:Slot→List Value
  | none=>[.string ⟨#[]⟩,.int .i64 0,.bool false]
  | some (k,v)=>[.string k,.int .i64 v,.bool true]
theorem slv_len (s:Slot):(slv s).length=3:=by cases s <;> rfl
theorem slv_one (s:Slot):(slv s).all one=true:=by cases s <;> rfl
/-- The hash: rounds from a place on. -/
def hashN (s:ByteArray):Nat→Nat→Int→Int
  | 0,_,h=>h
  | n+1,p,h=>if p<s.size then hashN s n (p+(Utf8.decode s p).2) (IntKind.wrap .u32 (bxor .u32 h (IntKind.wrap .u32 ((Utf8.decode s p).1:Int))*16777619)) else h
def hashF (s:ByteArray):Int:=hashN s s.size 0 2166136261
theorem wrap_u32_rng (x:Int):0≤IntKind.wrap .u32 x∧IntKind.wrap .u32 x<4294967296:=by
  have e:IntKind.wrap .u32 x=x % 4294967296:=by simp [IntKind.wrap,IntKind.bits,IntKind.signed]
  rw [e]; omega
theorem hashN_rng (s:ByteArray):∀ (n p:Nat) (h:Int),0≤h∧h<4294967296→0≤hashN s n p h∧hashN s n p h<4294967296
  | 0,_,_,hh=>hh
  | n+1,p,h,hh=>by
    unfold hashN
    split
    · exact hashN_rng s n _ _ (wrap_u32_rng _)
    · exact hh
theorem hashF_rng (s:ByteArray):0≤hashF s∧hashF s<4294967296:=hashN_rng s _ _ _ (by omega)
theorem C134 {s:ByteArray} {hp:HP} {K:Value→HP→Prop} (hK:K (.int .u32 (hashF s)) hp):CF Tryd.prog 134 [.string s] hp K:=by
  refine CF.drop (F134_ok s hp _ ?_)
  unfold F134
  refine opS_rangeS (by kernel_rfl) fun it hit=>?_
  unfold F134_j2
  have s0:=HSub.set_fresh hp (.obj (.stringIter s 0)) hit
  refine LoopP.by (J:=fun k (x:Int) hp'=>∃ p e,hp'=hp.set it (.obj (.stringIter s p))∧hashN s k p x=hashF s∧s.size≤p+k) ?_ (n:=s.size) ⟨0,0,rfl,rfl,by omega⟩
  rintro I k x hp' ⟨p,_,rfl,hh,hk⟩ hI
  unfold F134_l3
  refine opS_nextS (s:=s) (pos:=p) (HP.set_eq ..) (fun hend=>?_) (fun hgo=>?_)
  · have t0:∀ c:Value→Prop,tupI (.tuple #[.bool false]) 0 c=c (.bool false):=fun _=>rfl
    rw [t0,boolV_bool,ite2_false]
    unfold F134_j1
    have:hashN s k p x=x:=by cases k with | zero=>rfl | succ k=>rw [hashN,if_neg hend]
    rw [← hh,this] at hK
    exact ⟨hp,HSub.up (HSub.refl hp) hit _,hK⟩
  · have t0:∀ (a b:Value) (c:Value→Prop),tupI (.tuple #[.bool true,a,b]) 0 c=c (.bool true):=fun _ _ _=>rfl
    have t2:∀ (a b:Value) (c:Value→Prop),tupI (.tuple #[.bool true,a,b]) 2 c=c b:=fun _ _ _=>rfl
    rw [t0,boolV_bool,ite2_true,t2,intV_int]
    have hd:=decode_pos s p
    cases k with
    | zero=>omega
    | succ k=>
      rw [hashN,if_pos hgo] at hh
      rw [HP.set_set]
      exact hI k _ _ (by omega) ⟨_,0,rfl,hh,by omega⟩
/-- The table that slots make. -/
def tbl (A:List Slot):Tb ByteArray Int:=fun p=>(A[p]?).join
theorem tbl_at {A:List Slot} {p:Nat} (h:p<A.length):tbl A p=A[p]:=by unfold tbl; rw [List.getElem?_eq_getElem h]; rfl
theorem tbl_set {A:List Slot} {p:Nat} (h:p<A.length) (s:Slot):tbl (A.set p s)=tset (tbl A) p s:=by
  funext q
  unfold tbl tset
  rw [List.getElem?_set]
  by_cases hq:p=q
  · subst hq; simp [h]
  · rw [if_neg hq,if_neg (fun e=>hq e.symm)]
/-- Where a key begins. -/
def hx (N:Nat) (k:ByteArray):Nat:=(hashF k).toNat % N
/-- An index in memory: x itself, its row of slots. -/
def IdxM (hq:HP) (x b N n c:Nat) (A:List Slot):Prop:=
  hq x=.cells 179 [.slice (some ⟨b,0,none⟩) N N,.int .i64 n,.int .i64 c] 0∧hq b=.cells 197 (A.flatMap slv) 0∧A.length=N
section
variable {hq:HP} {x b N n c:Nat} {A:List Slot} {K:Value→HP→Prop}
theorem IdxM.ne (h:IdxM hq x b N n c A):x≠b:=fun e=>by
  have h1:=h.1; have h2:=h.2.1
  rw [e,h2] at h1; cases h1
theorem IdxM.slot (h:IdxM hq x b N n c A) {i:Nat} (hi:i<N):hq.cellN b (i*3) 3=some (slv (A[i]'(by rw [h.2.2]; exact hi))):=by
  rw [HP.cellN_of h.2.1]
  exact flat_at slv_len _
theorem IdxM.cells (h:IdxM hq x b N n c A) {i:Nat} (hi:i<N) {t:Nat} {v:Value} (hv:(slv (A[i]'(by rw [h.2.2]; exact hi)))[t]?=some v):hq.cell b (i*3+t)=some v:=HP.cell_cellN (h.slot hi) hv
theorem IdxM.setSlot (h:IdxM hq x b N n c A) {i:Nat} (hi:i<N) (s:Slot) {X:HP→Prop} (hX:∀ hq',IdxM hq' x b N n c (A.set i s)→X hq'):hq.stN b (i*3) (slv s) X:=by
  have hA:i<A.length:=by rw [h.2.2]; exact hi
  refine HP.stN_at h.2.1 ?_ (slv_one s) (hX _ ⟨?_,?_,?_⟩)
  · rw [flat_len slv_len,slv_len]; omega
  · rw [HP.set_ne _ _ h.ne]; exact h.1
  · rw [HP.set_eq,flat_splice slv_len s hA]
  · rw [List.length_set]; exact h.2.2
theorem IdxM.setLen (h:IdxM hq x b N n c A) {c':Nat} {v:Int} (hv:v=c') {X:HP→Prop} (hX:∀ hq',IdxM hq' x b N n c' A→X hq'):hq.st x 2 (.int .i64 v) X:=by
  subst hv
  refine HP.st_at h.1 (by simp) (hX _ ⟨?_,?_,h.2.2⟩)
  · rw [HP.set_eq]; rfl
  · rw [HP.set_ne _ _ h.ne.symm]; exact h.2.1
theorem IdxM.c0 (h:IdxM hq x b N n c A):hq.cell x 0=some (.slice (some ⟨b,0,none⟩) N N):=HP.cell_of h.1
theorem IdxM.c1 (h:IdxM hq x b N n c A):hq.cell x 1=some (.int .i64 n):=HP.cell_of h.1
theorem IdxM.c2 (h:IdxM hq x b N n c A):hq.cell x 2=some (.int .i64 c):=HP.cell_of h.1
theorem C114 (h:IdxM hq x b N n c A) (h0:0<N) (hK:K (.bool false) hq):CF Tryd.prog 114 [ptr x 0] hq K:=by
  refine F114_ok _ hq K ?_
  unfold F114
  have e:(((N:Nat):Int)==0)=false:=by
    rw [beq_eq_false_iff_ne]; omega
  simp only [Option.isNone_some,ite2_false,ptrN_some,Nat.zero_add,h.c0,ldV_some,slcV_slice,e]
  exact hK
theorem mask_hash {j:Nat} (hj:j≤40) (k:ByteArray):band .i64 (IntKind.wrap .i64 (hashF k)) (IntKind.wrap .i64 (((2 ^ j:Nat):Int)-1))=((hx (2 ^ j) k:Nat):Int):=by
  have h1:=hashF_rng k
  have h2:(2 ^ j:Nat)≤2 ^ 40:=Nat.pow_le_pow_right (by omega) hj
  have e40:(2 ^ 40:Nat)=1099511627776:=rfl
  have hp:0<(2 ^ j:Nat):=Nat.pos_of_ne_zero (by simp)
  rw [w64 (n:=hashF k) (by omega) (by omega),w64 (n:=((2 ^ j:Nat):Int)-1) (by omega) (by omega)]
  exact band_mask (by omega) (by omega) hj
theorem mask_next {j i:Nat} (hj:j≤40) (hi:i<2 ^ j):band .i64 (IntKind.wrap .i64 ((i:Int)+1)) (IntKind.wrap .i64 (((2 ^ j:Nat):Int)-1))=((if i+1<2 ^ j then i+1 else 0:Nat):Int):=by
  have h2:(2 ^ j:Nat)≤2 ^ 40:=Nat.pow_le_pow_right (by omega) hj
  have e40:(2 ^ 40:Nat)=1099511627776:=rfl
  have hp:0<(2 ^ j:Nat):=Nat.pos_of_ne_zero (by simp)
  rw [w64 (n:=(i:Int)+1) (by omega) (by omega),w64 (n:=((2 ^ j:Nat):Int)-1) (by omega) (by omega),band_mask (by omega) (by omega) hj]
  congr 1
  have e:((i:Int)+1).toNat=i+1:=by omega
  rw [e]
  split
  · exact Nat.mod_eq_of_lt ‹_›
  · have:i+1=2 ^ j:=by omega
    rw [this,Nat.mod_self]
theorem C115 {j:Nat} {key:ByteArray} (h:IdxM hq x b N n c A) (hN:N=2 ^ j) (hj:j≤40) (hr:∃ z,z<N∧tbl A z=none)
    (hK:∀ (p:Nat) (l:Int),p<N→HL.Fd N (hx N) (tbl A) key p→K (.tuple ⟨[.int .i64 p,.int .i64 l]⟩) hq):CF Tryd.prog 115 [ptr x 0,.string key] hq K:=by
  refine F115_ok _ key hq K ?_
  unfold F115
  have hp:0<N:=by subst hN; exact Nat.pos_of_ne_zero (by simp)
  have hH:hx N key<N:=Nat.mod_lt _ hp
  have main:F115_j1 (some ⟨x,0,none⟩) key ((hx N key:Nat):Int) hq K:=by
    unfold F115_j1 F115_j3
    obtain ⟨z,hz,hzn⟩:=hr
    refine LoopP.by (J:=fun k (s:Int × Int) hp=>hp=hq∧∃ u:Nat,s.1=(nx N (hx N key) u:Nat)∧u+k=ds N (hx N key) z∧∀ v,v<u→∃ y,tbl A (nx N (hx N key) v)=some y∧y.1≠key) ?_
      (n:=ds N (hx N key) z) ⟨rfl,0,by rw [nx_zero hH],by omega,fun v hv=>by omega⟩
    rintro I k ⟨i,l⟩ hp' ⟨rfl,u,hi,huk,hall⟩ hI
    simp only at hi
    subst hi
    unfold F115_l4
    have hdz:ds N (hx N key) z<N:=ds_lt hH hz
    have hiN:nx N (hx N key) u<N:=nx_lt hH (by omega)
    have hds:ds N (hx N key) (nx N (hx N key) u)=u:=ds_nx hH (by omega)
    have hA:nx N (hx N key) u<A.length:=by rw [h.2.2]; exact hiN
    have hta:=tbl_at hA
    simp only [ptrN_some,Nat.zero_add,h.c0,ldV_some,slcV_slice,Int.toNat_natCast]
    refine ⟨by omega,by omega,?_⟩
    have stop:(∀ y,tbl A (nx N (hx N key) u)=some y→y.1=key)→K (.tuple ⟨[.int .i64 (nx N (hx N key) u:Nat),.int .i64 l]⟩) hp':=fun hs=>by
      refine hK _ _ hiN ⟨hiN,fun v hv=>?_,hs⟩
      rw [hds] at hv
      exact hall v hv
    cases hs:A[nx N (hx N key) u]'hA with
    | none=>
      have e2:=h.cells hiN (t:=2) (v:=.bool false) (by rw [hs]; rfl)
      simp only [e2,ldV_some,boolV_bool,ite2_false]
      unfold F115_j5 F115_j2
      rw [ite2_false]
      exact stop fun y hy=>by rw [hta,hs] at hy; cases hy
    | some kv=>
      obtain ⟨k',v'⟩:=kv
      have e2:=h.cells hiN (t:=2) (v:=.bool true) (by rw [hs]; rfl)
      have e0:=h.cells hiN (t:=0) (v:=.string k') (by rw [hs]; rfl)
      simp only [e2,ldV_some,boolV_bool,ite2_true]
      refine ⟨by omega,by omega,?_⟩
      simp only [Nat.add_zero] at e0 ⊢
      simp only [e0,ldV_some,strV_string,str_eq]
      unfold F115_j5
      by_cases hk:k'=key
      · rw [decide_eq_true hk,Bool.not_true,ite2_false]
        unfold F115_j2
        exact stop fun y hy=>by rw [hta,hs] at hy; cases hy; exact hk
      · rw [decide_eq_false hk,Bool.not_false,ite2_true]
        simp only [ptrN_some,Nat.zero_add,h.c0,ldV_some,slcV_slice]
        have hne:u≠ds N (hx N key) z:=fun e=>by
          have h1:tbl A (nx N (hx N key) u)=none:=by rw [e,nx_ds hH hz]; exact hzn
          rw [hta,hs] at h1; cases h1
        have hm:=mask_next (i:=nx N (hx N key) u) hj (hN▸hiN)
        rw [← hN] at hm
        rw [hm,← nx_succ hH (by omega)]
        refine hI (k-1) _ _ (by omega) ⟨rfl,u+1,rfl,by omega,fun v hv=>?_⟩
        by_cases hvu:v=u
        · rw [hvu]; exact ⟨_,by rw [hta,hs],hk⟩
        · exact hall v (by omega)
  have hmk:=mask_hash hj key
  rw [← hN] at hmk
  constructor
  · refine C134 ?_
    simp only [intV_int,ptrN_some,Nat.zero_add,h.c0,ldV_some,slcV_slice,hmk]
    exact main
  · simp only [ptrN_some,Nat.zero_add,h.c0,ldV_some,slcV_slice]
    refine C134 ?_
    simp only [intV_int,hmk]
    exact main
end
end Go.Proofs
namespace Go.Exp
open Go.Sort (SWO)
/-- A thing: which, when it is due. -/
abbrev Th:=Int × Int
/-- Is one ahead of another? -/
def tlt (x y:Th):Bool:=decide (x.2<y.2)||(decide (x.2=y.2)&&decide (x.1<y.1))
theorem tlt_iff {x y:Th}:tlt x y=true↔x.2<y.2∨(x.2=y.2∧x.1<y.1):=by simp [tlt]
theorem tlt_false {x y:Th}:tlt x y=false↔¬ (x.2<y.2∨(x.2=y.2∧x.1<y.1)):=by rw [← tlt_iff]; simp
theorem swo_tlt:SWO tlt where
  irrefl x:=by rw [tlt_false]; omega
  trans x y z:=by simp only [tlt_iff]; omega
  ntrans x y z:=by simp only [tlt_false]; omega
theorem tlt_total {x y:Th} (h:tlt x y=false) (k:tlt y x=false):x=y:=by
  rw [tlt_false] at h k
  exact Prod.ext (by omega) (by omega)
/-- Things in their order, each once. -/
def Ord (w:List Th):Prop:=w.Pairwise (fun x y=>tlt x y=true)∧(w.map (·.1)).Nodup
theorem ord_nil:Ord []:=⟨List.Pairwise.nil,List.nodup_nil⟩
/-- One more, where it stands. -/
def insW (x:Th) (w:List Th):List Th:=w.takeWhile (tlt · x)++x::w.dropWhile (tlt · x)
def dropW (id:Int) (w:List Th):List Th:=w.filter (fun t=>t.1 != id)
def setW (id due:Int) (w:List Th):List Th:=insW (id,due) (dropW id w)
theorem insW_perm (x:Th) (w:List Th):(insW x w).Perm (x::w):=by
  unfold insW
  refine List.perm_middle.trans ?_
  rw [List.takeWhile_append_dropWhile]
theorem insW_nil (x:Th):insW x []=[x]:=rfl
theorem insW_cons (x y:Th) (w:List Th):insW x (y::w)=if tlt y x then y::insW x w else x::y::w:=by
  unfold insW
  cases h:tlt y x <;> simp [List.takeWhile_cons,List.dropWhile_cons,h]
theorem insW_sorted {x:Th}:∀ {w:List Th},w.Pairwise (fun x y=>tlt x y=true)→x ∉ w→(insW x w).Pairwise (fun x y=>tlt x y=true)
  | [],_,_=>by simp [insW_nil]
  | y::w,h,hn=>by
    have h':=List.pairwise_cons.1 h
    rw [insW_cons]
    cases hy:tlt y x
    · simp only [Bool.false_eq_true,if_false]
      have hxy:tlt x y=true:=by
        cases hc:tlt x y with
        | true=>rfl
        | false=>exact absurd (tlt_total hc hy) (fun e=>hn (by simp [e]))
      refine List.pairwise_cons.2 ⟨fun z hz=>?_,h⟩
      rcases List.mem_cons.1 hz with rfl | hz
      · exact hxy
      · exact swo_tlt.trans _ _ _ hxy (h'.1 z hz)
    · simp only [if_true]
      refine List.pairwise_cons.2 ⟨fun z hz=>?_,insW_sorted h'.2 (fun hm=>hn (by simp [hm]))⟩
      rcases List.mem_cons.1 ((insW_perm x w).mem_iff.1 hz) with rfl | hz
      · exact hy
      · exact h'.1 z hz
theorem Ord.drop {w:List Th} (h:Ord w) (id:Int):Ord (dropW id w):=
  ⟨h.1.filter _,h.2.sublist ((List.filter_sublist).map _)⟩
theorem not_mem_dropW {id due:Int} {w:List Th}:(id,due) ∉ dropW id w:=by
  unfold dropW; simp
theorem Ord.set {w:List Th} (h:Ord w) (id due:Int):Ord (setW id due w):=by
  have hd:=h.drop id
  refine ⟨insW_sorted hd.1 not_mem_dropW,?_⟩
  have hp:=(insW_perm (id,due) (dropW id w)).map (·.1)
  refine hp.nodup_iff.2 ?_
  rw [List.map_cons,List.nodup_cons]
  refine ⟨?_,hd.2⟩
  unfold dropW
  simp
theorem set_perm {α:Type}:∀ (l:List α) (i:Nat) (x:α),i<l.length→(l.set i x).Perm (x::l.eraseIdx i)
  | [],i,x,h=>by simp at h
  | y::l,0,x,_=>List.Perm.refl _
  | y::l,i+1,x,h=>by
    simp only [List.set_cons_succ,List.eraseIdx_cons_succ]
    exact ((set_perm l i x (by simpa using h)).cons y).trans (List.Perm.swap x y _)
theorem at_perm {α:Type}:∀ (l:List α) (i:Nat) (h:i<l.length),l.Perm (l[i]::l.eraseIdx i)
  | [],i,h=>by simp at h
  | y::l,0,_=>List.Perm.refl _
  | y::l,i+1,h=>by
    simp only [List.getElem_cons_succ,List.eraseIdx_cons_succ]
    exact ((at_perm l i (by simpa using h)).cons y).trans (List.Perm.swap _ y _)
theorem dropW_absent {id:Int} {w:List Th} (h:id ∉ w.map (·.1)):dropW id w=w:=by
  unfold dropW
  refine List.filter_eq_self.2 fun t ht=>?_
  have:t.1≠id:=fun e=>h (List.mem_map.2 ⟨t,ht,e⟩)
  simpa using this
theorem dropW_perm {w v:List Th} (id:Int) (h:v.Perm w):(dropW id v).Perm (dropW id w):=h.filter _
theorem dropW_erase {w v:List Th} {id due:Int} (h:v.Perm ((id,due)::w)) (hn:(v.map (·.1)).Nodup):(dropW id v).Perm w:=by
  refine (dropW_perm id h).trans ?_
  have hn':(((id,due)::w).map (·.1)).Nodup:=(h.map (·.1)).nodup_iff.1 hn
  rw [List.map_cons,List.nodup_cons] at hn'
  have e:dropW id ((id,due)::w)=dropW id w:=by unfold dropW; simp
  rw [e,dropW_absent hn'.1]
end Go.Exp
set_option linter.unusedVariables false
set_option linter.unusedSectionVars false
namespace Go.HL
open Go
open Go.Exp (Th tlt swo_tlt Ord setW dropW insW)
section
variable {α κ ν:Type} [DecidableEq κ]
theorem getL_mapK (g:α→κ) (f:α→ν) (k:κ):∀ L:List α,getL k (L.map fun x=>(g x,f x))=(L.find? fun x=>decide (g x=k)).map f
  | []=>rfl
  | x::L=>by
    simp only [List.map_cons,getL,List.find?_cons]
    by_cases h:k=g x
    · rw [if_pos h,decide_eq_true h.symm]; rfl
    · rw [if_neg h,decide_eq_false (fun e=>h e.symm),getL_mapK g f k L]
theorem delL_mapK (g:α→κ) (f:α→ν) (k:κ):∀ {L:List α},(L.map g).Nodup→delL k (L.map fun x=>(g x,f x))=(L.filter fun x=>decide (g x≠k)).map fun x=>(g x,f x)
  | [],_=>rfl
  | x::L,h=>by
    rw [List.map_cons,List.nodup_cons] at h
    simp only [List.map_cons,delL,List.filter_cons]
    by_cases hk:k=g x
    · have hd:decide (g x≠k)=false:=by simp [hk]
      rw [if_pos hk,hd]
      simp only [Bool.false_eq_true,if_false]
      congr 1
      refine (List.filter_eq_self.2 fun y hy=>?_).symm
      have:g y≠k:=fun e=>h.1 (List.mem_map.2 ⟨y,hy,by rw [e,hk]⟩)
      simpa using this
    · have hd:decide (g x≠k)=true:=by simpa using fun e=>hk e.symm
      rw [if_neg hk,hd,if_pos rfl,List.map_cons,delL_mapK g f k h.2]
theorem len_del_mem {k:κ}:∀ {l:List (κ × ν)},k∈l.map (·.1)→(delL k l).length+1=l.length
  | [],h=>by simp at h
  | p::l,h=>by
    by_cases hk:k=p.1
    · simp [delL,hk]
    · have h':k∈l.map (·.1):=by
        rw [List.map_cons] at h
        rcases List.mem_cons.1 h with e | e
        · exact absurd e hk
        · exact e
      simp only [delL,hk,if_false,List.length_cons]
      rw [len_del_mem h']
theorem find_none {p:α→Bool} {L:List α}:L.find? p=none↔∀ x∈L,p x=false:=by
  rw [List.find?_eq_none]; simp
theorem putL_mapK (g:α→κ) (f:α→ν) {L:List α} {x:α} (h:g x ∉ L.map g):putL (g x) (f x) (L.map fun x=>(g x,f x))=(L++[x]).map fun x=>(g x,f x):=by
  rw [put_new,List.map_append]; rfl
  rw [getL_none,List.map_map]; exact h
theorem find_of {g:α→κ} {L:List α} {x:α} (hn:(L.map g).Nodup) (hx:x∈L):(L.find? fun y=>decide (g y=g x))=some x:=by
  induction L with
  | nil=>cases hx
  | cons y L ih=>
    rw [List.map_cons,List.nodup_cons] at hn
    rw [List.find?_cons]
    rcases List.mem_cons.1 hx with rfl | hx
    · simp
    · have:g y≠g x:=fun e=>hn.1 (e▸List.mem_map.2 ⟨x,hx,rfl⟩)
      rw [decide_eq_false this]
      exact ih hn.2 hx
theorem inj_of {g:α→κ} {L:List α} {x y:α} (hn:(L.map g).Nodup) (hx:x∈L) (hy:y∈L) (h:g x=g y):x=y:=by
  have a:=find_of hn hx
  rw [h,find_of hn hy] at a
  exact (Option.some.inj a).symm
theorem find_mem {p:α→Bool} {L:List α} {x:α} (h:L.find? p=some x):x∈L∧p x=true:=⟨List.mem_of_find?_eq_some h,List.find?_some h⟩
theorem filter_congr_key {g:α→κ} {f:α→ν} [DecidableEq ν] {L:List α} {x:α} (hg:(L.map g).Nodup) (hf:(L.map f).Nodup) (hx:x∈L) :
    (L.filter fun y=>decide (g y≠g x))=L.filter fun y=>decide (f y≠f x):=by
  refine List.filter_congr fun y hy=>?_
  by_cases h:y=x
  · subst h; simp
  · have h1:g y≠g x:=fun e=>h (inj_of hg hy hx e)
    have h2:f y≠f x:=fun e=>h (inj_of hf hy hx e)
    simp [h1,h2]
theorem nodup_filter {f:α→ν} {p:α→Bool} {L:List α} (h:(L.map f).Nodup):((L.filter p).map f).Nodup:=h.sublist (List.filter_sublist.map _)
end
section
variable {α:Type} {id due:α→Int}
/-- The queue of a list of things. -/
def QOk (id due:α→Int) (L:List α) (w:List Th):Prop:=w.Perm (L.map fun x=>(id x,due x))∧Ord w
theorem QOk.nil:QOk id due ([]:List α) []:=⟨List.Perm.nil,Exp.ord_nil⟩
theorem QOk.len {L:List α} {w:List Th} (h:QOk id due L w):w.length=L.length:=by rw [h.1.length_eq]; simp
theorem QOk.put {L:List α} {w:List Th} {x:α} (h:QOk id due L w) (hx:id x ∉ L.map id):QOk id due (L++[x]) (setW (id x) (due x) w):=by
  refine ⟨?_,h.2.set _ _⟩
  have hw:dropW (id x) w=w:=Exp.dropW_absent fun hm=>hx (by
    have:=(h.1.map (·.1)).mem_iff.1 hm
    simpa using this)
  unfold setW
  rw [hw]
  refine (Exp.insW_perm _ _).trans ?_
  rw [List.map_append]
  exact (h.1.cons _).trans (List.perm_append_singleton _ _).symm
theorem QOk.cut {L:List α} {w:List Th} {i:Int} (h:QOk id due L w):QOk id due (L.filter fun x=>decide (id x≠i)) (dropW i w):=by
  refine ⟨?_,h.2.drop _⟩
  have:=Exp.dropW_perm i h.1
  refine this.trans (List.Perm.of_eq ?_)
  unfold dropW
  rw [List.filter_map]
  congr 1
  refine List.filter_congr fun y hy=>?_
  simp only [Function.comp,bne_iff_ne,ne_eq]
  by_cases he:id y=i <;> simp [he]
theorem QOk.mem {L:List α} {w:List Th} {t:Th} (h:QOk id due L w) (ht:t∈w):∃ x∈L,(id x,due x)=t:=by
  have:=h.1.mem_iff.1 ht
  simpa using this
theorem QOk.head {L:List α} {w:List Th} {t:Th} (h:QOk id due L (t::w)):∃ x∈L,id x=t.1∧due x=t.2∧∀ y∈L,due x<due y∨(due x=due y∧id x≤id y):=by
  obtain ⟨x,hx,e⟩:=h.mem (t:=t) (by simp)
  subst e
  refine ⟨x,hx,rfl,rfl,fun y hy=>?_⟩
  have hm:(id y,due y)∈(id x,due x)::w:=h.1.mem_iff.2 (List.mem_map.2 ⟨y,hy,rfl⟩)
  rcases List.mem_cons.1 hm with e | hm
  · simp only [Prod.mk.injEq] at e
    right; omega
  · have:=(List.pairwise_cons.1 h.2.1).1 _ hm
    rw [Exp.tlt_iff] at this
    simp only at this
    omega
theorem QOk.tail {L:List α} {w:List Th} {t:Th} (h:QOk id due L (t::w)):dropW t.1 (t::w)=w:=by
  have h1:(t::w).map (·.1)=t.1::w.map (·.1):=rfl
  have hn:=h.2.2
  rw [h1,List.nodup_cons] at hn
  have e:dropW t.1 (t::w)=dropW t.1 w:=by unfold dropW; simp
  rw [e,Exp.dropW_absent hn.1]
/-- Those that are due, by when, then by number. -/
def popsL (id:α→Int) (now:Int) (L:List α) (w:List Th):List α:=(w.takeWhile fun t=>decide (t.2≤now)).filterMap fun t=>L.find? fun x=>decide (id x=t.1)
def restL (due:α→Int) (now:Int) (L:List α):List α:=L.filter fun x=>decide (¬ due x≤now)
/-- The first one is due: it is the first popped. -/
theorem pops_step {L:List α} {w:List Th} {t:Th} {now:Int} {x:α} (hn:(L.map id).Nodup) (h:QOk id due L (t::w)) (ht:t.2≤now) (hx:x∈L) (hid:id x=t.1) :
    popsL id now L (t::w)=x::popsL id now (L.filter fun y=>decide (id y≠t.1)) w∧restL due now (L.filter fun y=>decide (id y≠t.1))=restL due now L:=by
  constructor
  · unfold popsL
    have hf:(L.find? fun y=>decide (id y=t.1))=some x:=hid▸find_of hn hx
    have e1:(t::w).takeWhile (fun t:Th=>decide (t.2≤now))=t::w.takeWhile (fun t:Th=>decide (t.2≤now)):=by rw [List.takeWhile_cons,decide_eq_true ht,if_pos rfl]
    rw [e1,List.filterMap_cons,hf]
    simp only []
    congr 1
    have hn2:=h.2.2
    rw [List.map_cons,List.nodup_cons] at hn2
    have key:∀ u∈w.takeWhile (fun t:Th=>decide (t.2≤now)),(L.find? fun x=>decide (id x=u.1))=(L.filter fun y=>decide (id y≠t.1)).find? fun x=>decide (id x=u.1):=by
      intro u hu
      have hne:u.1≠t.1:=fun e=>hn2.1 (e▸List.mem_map.2 ⟨u,List.takeWhile_subset _ hu,rfl⟩)
      rw [List.find?_filter]
      congr 1
      funext y
      by_cases hy:id y=u.1
      · simp [hy,hne]
      · simp [hy]
    generalize w.takeWhile (fun t:Th=>decide (t.2≤now))=v at key
    induction v with
    | nil=>rfl
    | cons u v ih=>
      rw [List.filterMap_cons,List.filterMap_cons,key u (by simp),ih fun z hz=>key z (List.mem_cons_of_mem _ hz)]
  · unfold restL
    rw [List.filter_filter]
    refine List.filter_congr fun y hy=>?_
    by_cases hy1:id y=t.1
    · have:y=x:=inj_of hn hy hx (by rw [hy1,hid])
      subst this
      have hd:due y=t.2:=by
        obtain ⟨z,hz,h1,h2,_⟩:=h.head
        have:y=z:=inj_of hn hy hz (by rw [hy1,h1])
        rw [this,h2]
      have:due y≤now:=by rw [hd]; exact ht
      simp [this]
    · simp [hy1]
/-- The first one is not due: no one is. -/
theorem pops_stop {L:List α} {w:List Th} {now:Int} (h:QOk id due L w) (ht:∀ t,w.head?=some t→¬ t.2≤now):popsL id now L w=[]∧restL due now L=L:=by
  cases w with
  | nil=>
    have:L=[]:=List.eq_nil_of_length_eq_zero h.len.symm
    subst this
    exact ⟨rfl,rfl⟩
  | cons t w=>
    have ht:=ht t rfl
    constructor
    · unfold popsL
      have e1:(t::w).takeWhile (fun t:Th=>decide (t.2≤now))=[]:=by
        rw [List.takeWhile_cons,decide_eq_false ht]; rfl
      rw [e1]; rfl
    · unfold restL
      refine List.filter_eq_self.2 fun y hy=>?_
      obtain ⟨x,hx,h1,h2,h3⟩:=h.head
      have:=h3 y hy
      simp only [decide_eq_true_eq]
      omega
end
end Go.HL
set_option linter.unusedVariables false
set_option linter.unusedSimpArgs false
set_option maxRecDepth 20000
namespace Go.Proofs
open Go Go.HL
/-- An index x of at most n that holds M. -/
def IdxR (hq:HP) (x n:Nat) (M:List (ByteArray × Int)):Prop:=
  ∃ (b j:Nat) (A:List Slot),IdxM hq x b (2 ^ j) n M.length A∧j≤40∧n+n≤2 ^ j∧8≤2 ^ j∧M.length≤n∧HL.Good (2 ^ j) (hx (2 ^ j)) (tbl A)∧HL.Uniq (2 ^ j) (tbl A)∧HL.TM (2 ^ j) (tbl A) M
section
variable {hq:HP} {x n:Nat} {M:List (ByteArray × Int)} {K:Value→HP→Prop}
theorem IdxR.fd {key:ByteArray} {L:Nat} {A:List Slot} {p:Nat} (hg:HL.Good L (hx L) (tbl A)) (hu:HL.Uniq L (tbl A)) (hm:HL.TM L (tbl A) M) (h0:0<L) (hf:HL.Fd L (hx L) (tbl A) key p):(tbl A p).map (·.2)=getL key M:=
  HL.Fd.get (Nat.mod_lt _ h0) hg hu hm hf
theorem C84 {key:ByteArray} (h:IdxR hq x n M) (hK:K (.tuple ⟨[.int .i64 ((getL key M).getD 0),.bool (getL key M).isSome]⟩) hq):CF Tryd.prog 84 [ptr x 0,.string key] hq K:=by
  obtain ⟨b,j,A,hM,hj,hn2,h8,hl,hg,hu,hm⟩:=h
  refine F84_ok _ key hq K ?_
  unfold F84
  refine C114 hM (by omega) ?_
  rw [boolV_bool,ite2_false]
  refine C115 hM rfl hj (room_of hu hm (by omega)) fun p l hp hf=>?_
  have hA:p<A.length:=by rw [hM.2.2]; exact hp
  have hget:=IdxR.fd hg hu hm (by omega) hf
  rw [tbl_at hA] at hget
  simp only [tup2V_mk,intV_int,ptrN_some,Nat.zero_add,hM.c0,ldV_some,slcV_slice,Int.toNat_natCast]
  refine ⟨by omega,by omega,?_⟩
  cases hs:A[p]'hA with
  | none=>
    have e1:=hM.cells hp (t:=1) (v:=.int .i64 0) (by rw [hs]; rfl)
    have e2:=hM.cells hp (t:=2) (v:=.bool false) (by rw [hs]; rfl)
    simp only [e1,e2,ldV_some,intV_int,boolV_bool]
    refine ⟨by omega,by omega,?_⟩
    rw [hs] at hget
    rw [← hget] at hK
    exact hK
  | some kv=>
    obtain ⟨k',v'⟩:=kv
    have e1:=hM.cells hp (t:=1) (v:=.int .i64 v') (by rw [hs]; rfl)
    have e2:=hM.cells hp (t:=2) (v:=.bool true) (by rw [hs]; rfl)
    simp only [e1,e2,ldV_some,intV_int,boolV_bool]
    refine ⟨by omega,by omega,?_⟩
    rw [hs] at hget
    rw [← hget] at hK
    exact hK
theorem C86 {key:ByteArray} {v:Int} (h:IdxR hq x n M) (hnew:getL key M=none) (hlen:M.length<n) (hn:n≤65536)
    (hK:∀ hq',IdxR hq' x n (M++[(key,v)])→K (.int .i64 0) hq'):CF Tryd.prog 86 [ptr x 0,.string key,.int .i64 v] hq K:=by
  obtain ⟨b,j,A,hM,hj,hn2,h8,hl,hg,hu,hm⟩:=h
  refine F86_ok _ key v hq K ?_
  unfold F86
  refine C114 hM (by omega) ?_
  rw [boolV_bool,ite2_false]
  refine C115 hM rfl hj (room_of hu hm (by omega)) fun p l hp hf=>?_
  have hA:p<A.length:=by rw [hM.2.2]; exact hp
  have hget:=IdxR.fd hg hu hm (by omega) hf
  rw [tbl_at hA,hnew] at hget
  have hs:A[p]'hA=none:=by
    cases hs:A[p]'hA with
    | none=>rfl
    | some kv=>rw [hs] at hget; cases hget
  have e2:=hM.cells hp (t:=2) (v:=.bool false) (by rw [hs]; rfl)
  simp only [tup2V_mk,intV_int,ptrN_some,Nat.zero_add,hM.c0,ldV_some,slcV_slice,Int.toNat_natCast]
  refine ⟨by omega,by omega,?_⟩
  simp only [e2,ldV_some,boolV_bool,ite2_false,hM.c1,hM.c2,intV_int]
  rw [decide_eq_false (by omega),ite2_false]
  refine ⟨by omega,by omega,rfl,?_⟩
  refine hM.setSlot hp (some (key,v)) fun hq1 hM1=>?_
  simp only [hM1.c2,ldV_some,intV_int]
  refine hM1.setLen (c':=M.length+1) (wi (by omega) (by omega)) fun hq2 hM2=>?_
  refine hK hq2 ?_
  have hH:hx (2 ^ j) key<2 ^ j:=Nat.mod_lt _ (by omega)
  have hpn:tbl A p=none:=(tbl_at hA).trans hs
  obtain ⟨t1,t2,t3,t4⟩:=put_table (v:=v) hH hg hu hm hf hpn
  rw [put_new hnew] at t3
  rw [← tbl_set hA] at t1 t2 t3
  exact ⟨b,j,A.set p (some (key,v)),by rw [List.length_append]; exact hM2,hj,hn2,h8,by rw [List.length_append]; simp; omega,t1,t2,t3⟩
theorem C92 {key:ByteArray} {v:Int} (h:IdxR hq x n M) (hin:getL key M=some v) (hn:n≤65536)
    (hK:∀ hq',IdxR hq' x n (delL key M)→K (.bool true) hq'):CF Tryd.prog 92 [ptr x 0,.string key] hq K:=by
  obtain ⟨b,j,A,hM,hj,hn2,h8,hl,hg,hu,hm⟩:=h
  refine F92_ok _ key hq K ?_
  unfold F92
  refine C114 hM (by omega) ?_
  rw [boolV_bool,ite2_false]
  have hroom:=room_of hu hm (by omega)
  refine C115 hM rfl hj hroom fun p l hp hf=>?_
  have hH:∀ k,hx (2 ^ j) k<2 ^ j:=fun k=>Nat.mod_lt _ (by omega)
  have hA:p<A.length:=by rw [hM.2.2]; exact hp
  have hget:=IdxR.fd hg hu hm (by omega) hf
  rw [tbl_at hA,hin] at hget
  obtain ⟨k',hs⟩:∃ k',A[p]'hA=some (k',v):=by
    cases hs:A[p]'hA with
    | none=>rw [hs] at hget; cases hget
    | some kv=>
      rw [hs] at hget
      simp only [Option.map_some,Option.some.injEq] at hget
      exact ⟨kv.1,by rw [← hget]⟩
  have hkk:k'=key:=hf.2.2 _ (by rw [tbl_at hA]; exact hs)
  subst hkk
  have e2:=hM.cells hp (t:=2) (v:=.bool true) (by rw [hs]; rfl)
  simp only [tup2V_mk,intV_int,ptrN_some,Nat.zero_add,hM.c0,ldV_some,slcV_slice,Int.toNat_natCast]
  refine ⟨by omega,by omega,?_⟩
  simp only [e2,ldV_some,boolV_bool,Bool.not_true,ite2_false]
  refine ⟨by omega,by omega,rfl,?_⟩
  have hkm:k'∈M.map (·.1):=getL_isSome.1 (by rw [hin]; rfl)
  have hdl:(delL k' M).length+1=M.length:=by
    exact len_del_mem hkm
  refine hM.setSlot hp none fun hq1 hM1=>?_
  simp only [hM1.c2,ldV_some,intV_int]
  refine hM1.setLen (c':=(delL k' M).length) (wi (by omega) (by omega)) fun hq2 hM2=>?_
  simp only [hM2.c0,ldV_some,slcV_slice]
  have hstart:=Mid.start (N:=2 ^ j) (H:=hx (2 ^ j)) (by omega) hg hu hm hp (by rw [tbl_at hA]; exact hs) hroom
  rw [← tbl_set hA] at hstart
  rw [mask_next hj hp,show (if p+1<2 ^ j then p+1 else 0)=nx (2 ^ j) p 1 from by
    have:=nx_succ (u:=0) hp (by omega)
    rw [nx_zero hp] at this
    exact this.symm]
  clear hM hM1 hg hu hm hf hget e2 hroom hin
  unfold F92_j1
  obtain ⟨z,hz1,hz2,hz3⟩:=hstart.room
  refine LoopP.by (J:=fun k (y:Int) hp'=>∃ (t:Nat) (B:List Slot),y=(nx (2 ^ j) p t:Nat)∧k+t=2 ^ j∧0<t∧t<2 ^ j∧IdxM hp' x b (2 ^ j) n (delL k' M).length B∧Mid (2 ^ j) (hx (2 ^ j)) (tbl B) p t (delL k' M)) ?_
    (n:=2 ^ j-1) ⟨1,A.set p none,rfl,by omega,by omega,by omega,hM2,hstart⟩
  rintro I k y hp' ⟨t,B,rfl,hkt,ht0,ht,hB,hmid⟩ hI
  unfold F92_l2
  have hq:nx (2 ^ j) p t<2 ^ j:=nx_lt hp (by omega)
  have hBl:nx (2 ^ j) p t<B.length:=by rw [hB.2.2]; exact hq
  simp only [ptrN_some,Nat.zero_add,hB.c0,ldV_some,slcV_slice,Int.toNat_natCast]
  refine ⟨by omega,by omega,?_⟩
  cases hs:B[nx (2 ^ j) p t]'hBl with
  | none=>
    have e2:=hB.cells hq (t:=2) (v:=.bool false) (by rw [hs]; rfl)
    simp only [e2,ldV_some,boolV_bool,ite2_false]
    have hgood:=hmid.done hH hp ht (by rw [tbl_at hBl]; exact hs)
    exact hK hp' ⟨b,j,B,hB,hj,hn2,h8,by omega,hgood,hmid.uniq,hmid.tm⟩
  | some kv=>
    obtain ⟨k2,v2⟩:=kv
    have e2:=hB.cells hq (t:=2) (v:=.bool true) (by rw [hs]; rfl)
    have e3:=hB.slot hq
    rw [hs] at e3
    simp only [e2,ldV_some,boolV_bool,ite2_true]
    refine ⟨by omega,by omega,?_⟩
    have e4:splice (slv none) 0 (slv (some (k2,v2)))=slv (some (k2,v2)):=splice_all rfl
    have e5:cellsN (slv (some (k2,v2))) 0 3=some (slv (some (k2,v2))):=rfl
    have e6:([Value.string ⟨#[]⟩,Value.int .i64 0,Value.bool false]:List Value)=slv none:=rfl
    have e7:(slv (some (k2,v2)))[0]?=some (.string k2):=rfl
    simp only [e3,ldL_some,e6,e4,e5,e7,ldV_some,strV_string]
    refine ifI (slv_len _) (ifI (slv_one _) (ifI (by simp [slv_len]) ?_))
    refine ⟨by omega,by omega,slv_len _,?_⟩
    refine hB.setSlot hq none fun hq3 hB3=>?_
    have hTz:=tbl_set hBl (none:Slot)
    obtain ⟨z',g1,g2,g3⟩:=hmid.room
    have hz'n:nx (2 ^ j) p z'≠nx (2 ^ j) p t:=fun e=>by
      rw [e,tbl_at hBl,hs] at g3; cases g3
    have hroom2:∃ z,z<2 ^ j∧tbl (B.set (nx (2 ^ j) p t) none) z=none:=⟨nx (2 ^ j) p t,hq,by rw [hTz,tset_eq]⟩
    refine C115 (key:=k2) hB3 rfl hj hroom2 fun q l2 hq4 hf4=>?_
    rw [hTz] at hf4
    obtain ⟨s1,s2⟩:=hmid.step (x:=(k2,v2)) hH hp ht0 ht (by rw [tbl_at hBl]; exact hs) hf4
    simp only [tup2V_mk,intV_int,ptrN_some,Nat.zero_add,hB3.c0,ldV_some,slcV_slice,Int.toNat_natCast]
    refine ⟨by omega,by omega,slv_len _,?_⟩
    refine hB3.setSlot hq4 (some (k2,v2)) fun hq5 hB5=>?_
    simp only [hB5.c0,ldV_some,slcV_slice]
    rw [mask_next hj hq,← nx_succ hp ht]
    have hBl2:q<(B.set (nx (2 ^ j) p t) none).length:=by rw [List.length_set,hB.2.2]; exact hq4
    have hT5:=tbl_set hBl2 (some (k2,v2))
    rw [hTz] at hT5
    rw [← hT5] at s2
    obtain ⟨z5,r1,r2,r3⟩:=s2.room
    exact hI (k-1) _ _ (by omega) ⟨t+1,_,rfl,by omega,by omega,by omega,hB5,s2⟩
theorem C66 {m:Int} {hp:HP} (hbad:(m<1∨m > 65536)→K (.tuple ⟨[.pointer none,.int .i64 1]⟩) hp)
    (hok:¬ (m<1∨m > 65536)→∀ x hl hp',IdxR hl x m.toNat []→HSub hl hp'→(∀ r,HSub r hp→HSub r hp'∧Disj hl r)→K (.tuple ⟨[ptr x 0,.int .i64 0]⟩) hp'):CF Tryd.prog 66 [.int .i64 m] hp K:=by
  refine F66_ok m hp K ?_
  unfold F66 F66_j1
  by_cases h1:m<1
  · rw [decide_eq_true h1,ite2_true,ite2_true]
    exact hbad (.inl h1)
  rw [decide_eq_false h1,ite2_false]
  by_cases h2:m > 65536
  · rw [decide_eq_true h2,ite2_true]
    exact hbad (.inr h2)
  rw [decide_eq_false h2,ite2_false]
  have hok:=hok (by omega)
  obtain ⟨n,rfl⟩:∃ n:Nat,m=n:=⟨m.toNat,by omega⟩
  unfold F66_j2
  refine LoopP.by (J:=fun k (y:Int) hp'=>hp'=hp∧∃ j:Nat,y=((2 ^ j:Nat):Int)∧3≤j∧j+k=40∧(j=3∨2 ^ j<4*n)) ?_ (n:=37) ⟨rfl,3,rfl,by omega,rfl,.inl rfl⟩
  rintro I k y hp' ⟨rfl,j,rfl,hj3,hjk,hj4⟩ hI
  unfold F66_l4
  have h8:(2:Nat) ^ 3≤2 ^ j:=Nat.pow_le_pow_right (by omega) hj3
  have e3:(2:Nat) ^ 3=8:=rfl
  have hN:2 ^ j≤262144:=by
    rcases hj4 with rfl | h
    · decide
    · omega
  rw [w64 (n:=2*(n:Int)) (by omega) (by omega)]
  by_cases hlt:2 ^ j<2*n
  · rw [decide_eq_true (by omega:((2 ^ j:Nat):Int)<2*(n:Int)),ite2_true]
    have hj18:j<40:=by
      rcases Nat.lt_or_ge j 40 with h | h
      · exact h
      · have:=Nat.pow_le_pow_right (n:=2) (by omega) h
        have e40:(2 ^ 40:Nat)=1099511627776:=rfl
        omega
    refine hI (k-1) _ _ (by omega) ⟨rfl,j+1,?_,by omega,by omega,.inr ?_⟩
    · rw [w64 (by omega) (by omega),Nat.pow_succ]; simp
    · rw [Nat.pow_succ]; omega
  · rw [decide_eq_false (by omega:¬ ((2 ^ j:Nat):Int)<2*(n:Int)),ite2_false]
    unfold F66_j3
    obtain ⟨i,hi,hi1,hi2,hi3⟩:∃ i:TypeInfo,Tryd.prog.info? 197=some i∧i.zero=some (.agg ⟨slv none⟩)∧i.size=3∧i.bytes=32:=by
      have h0:(Tryd.prog.info? 197).map (fun i=>(i.zero,i.size,i.bytes))=some (some (.agg ⟨slv none⟩),3,32):=by kernel_rfl
      cases hi:Tryd.prog.info? 197 with
      | none=>rw [hi] at h0; cases h0
      | some i=>
        rw [hi] at h0
        simp only [Option.map_some,Option.some.injEq,Prod.mk.injEq] at h0
        exact ⟨i,rfl,h0.1,h0.2.1,h0.2.2⟩
    refine opS_make (zs:=slv none) (by kernel_rfl) hi hi1 rfl (by rw [hi2]; rfl) (by omega) (by rw [hi3]; omega) (by omega) fun b hb=>?_
    rw [slcV_slice]
    intro x hx'
    have hxb:x≠b:=fun e=>by rw [e,HP.set_eq] at hx'; cases hx'
    have hxn:hp' x=.none:=by rwa [HP.set_ne _ _ hxb] at hx'
    have efl:∀ N:Nat,(List.replicate N (slv none)).flatten=(List.replicate N (none:Slot)).flatMap slv:=fun N=>by
      rw [List.flatMap_def,List.map_replicate]
    rw [efl]
    have ht:tbl (List.replicate (2 ^ j) (none:Slot))=fun _=>none:=by
      funext p
      unfold tbl
      rw [List.getElem?_replicate]
      split <;> rfl
    refine hok x (HP.set (HP.set (fun _=>.none) b (.cells 197 ((List.replicate (2 ^ j) (none:Slot)).flatMap slv) 0)) x (.cells 179 [.slice (some ⟨b,0,none⟩) (2 ^ j) (2 ^ j),.int .i64 n,.int .i64 0] 0)) _ ?_ ?_ ?_
    · refine ⟨b,j,List.replicate (2 ^ j) none,⟨HP.set_eq ..,?_,by simp⟩,by omega,by rw [Int.toNat_natCast]; omega,by omega,by simp,?_,?_,⟨by simp,?_⟩⟩
      · rw [HP.set_ne _ _ hxb.symm,HP.set_eq]
      · rw [ht]; intro p _ y hy; cases hy
      · rw [ht]; intro p q _ _ y z hy; cases hy
      · rw [ht]; intro k v
        simp [getL]
    · exact HSub.set (HSub.set (fun _=>.inl rfl) _ _) _ _
    · intro r hr
      refine ⟨HSub.up (HSub.up hr (hr.none hb) _) (hr.none hxn) _,fun y=>?_⟩
      by_cases hy:y=x
      · subst hy; exact .inr (hr.none hxn)
      · rw [HP.set_ne _ _ hy]
        by_cases hyb:y=b
        · subst hyb; exact .inr (hr.none hb)
        · rw [HP.set_ne _ _ hyb]; exact .inl rfl
end
end Go.Proofs
namespace Go.Hp
open Go.Sort (swp SWO PermIn)
variable {α:Type} [Inhabited α] {lt:α→α→Bool}
def par (k:Nat):Nat:=(k-1) / 2
theorem par_lt {k:Nat} (h:0<k):par k<k:=by unfold par; omega
/-- None of the first n is ahead of the one above it. -/
def Heap (lt:α→α→Bool) (n:Nat) (d:Array α):Prop:=∀ k,0<k→k<n→lt d[k]! d[par k]! = false
/-- The same but for one, against the one above it. -/
def UpOk (lt:α→α→Bool) (n j:Nat) (d:Array α):Prop:=
  (∀ k,0<k→k<n→k≠j→lt d[k]! d[par k]! = false)∧(∀ k,0<k→k<n→par k=j→0<j→lt d[k]! d[par j]! = false)
/-- The same but for those below one, and the one a walk began at. -/
def DnOk (lt:α→α→Bool) (n i0 i:Nat) (d:Array α):Prop:=
  (∀ k,0<k→k<n→par k≠i→(k≠i0∨i≠i0)→lt d[k]! d[par k]! = false)∧(∀ k,0<k→k<n→par k=i→0<i→lt d[k]! d[par i]! = false)
theorem asym {α:Type} {lt:α→α→Bool} (h:SWO lt) {x y:α} (hxy:lt x y=true):lt y x=false:=by
  cases hc:lt y x with
  | false=>rfl
  | true=>have:=h.trans _ _ _ hxy hc; rw [h.irrefl] at this; cases this
theorem swp_l {d:Array α} {i j:Nat} (hi:i<d.size) (hj:j<d.size):(swp d i j)[i]! = d[j]!:= by
  rw [Go.Sort.swp_get d hi hj]; split <;> simp_all
theorem swp_r {d:Array α} {i j:Nat} (hi:i<d.size) (hj:j<d.size):(swp d i j)[j]! = d[i]!:= by
  rw [Go.Sort.swp_get d hi hj]; simp
theorem swp_o {d:Array α} {i j k:Nat} (hi:i<d.size) (hj:j<d.size) (h1:k≠i) (h2:k≠j):(swp d i j)[k]! = d[k]!:= by
  rw [Go.Sort.swp_get d hi hj]; simp [h1,h2]
theorem UpOk.step (h:SWO lt) {n j:Nat} {d:Array α} (hu:UpOk lt n j d) (hj:0<j) (hjn:j<n) (hn:n≤d.size) (hlt:lt d[j]! d[par j]! = true):UpOk lt n (par j) (swp d (par j) j):=by
  have hp:=par_lt hj
  generalize hi:par j=i at *
  have L:=swp_l (d:=d) (i:=i) (j:=j) (by omega) (by omega)
  have R:=swp_r (d:=d) (i:=i) (j:=j) (by omega) (by omega)
  have O:=fun k (h1:k≠i) (h2:k≠j)=>swp_o (d:=d) (i:=i) (j:=j) (k:=k) (by omega) (by omega) h1 h2
  have hij:=asym h hlt
  refine ⟨fun k hk hkn hki=>?_,fun k hk hkn hpk h0=>?_⟩
  · by_cases hkj:k=j
    · subst hkj; rw [hi,R,L]; exact hij
    · have hok:=hu.1 k hk hkn hkj
      by_cases h1:par k=i
      · rw [h1,O k hki hkj,L]; rw [h1] at hok; exact h.ntrans _ _ _ hok hij
      · by_cases h2:par k=j
        · rw [h2,O k hki hkj,R]; exact hi▸hu.2 k hk hkn h2 hj
        · rw [O k hki hkj,O _ h1 h2]; exact hok
  · have hpi:=par_lt h0
    rw [O (par i) (by omega) (by omega)]
    have hoi:=hu.1 i h0 (by omega) (by omega)
    by_cases hkj:k=j
    · subst hkj; rw [R]; exact hoi
    · have hki:k≠i:=fun e=>by rw [e] at hpk; omega
      have hok:=hu.1 k hk hkn hkj
      rw [hpk] at hok
      rw [O k hki hkj]; exact h.ntrans _ _ _ hok hoi
theorem UpOk.stop {n j:Nat} {d:Array α} (hu:UpOk lt n j d) (hs:j=0∨lt d[j]! d[par j]! = false):Heap lt n d:=by
  intro k hk hkn
  by_cases hkj:k=j
  · rcases hs with hs | hs
    · omega
    · rw [hkj]; exact hs
  · exact hu.1 k hk hkn hkj
theorem DnOk.step (h:SWO lt) {n i0 i j:Nat} {d:Array α} (hd:DnOk lt n i0 i d) (h0:i0≤i) (hj:0<j) (hpj:par j=i) (hjn:j<n) (hn:n≤d.size) (hlt:lt d[j]! d[i]! = true)
    (hmin:∀ k,0<k→k<n→par k=i→lt d[k]! d[j]! = false):DnOk lt n i0 j (swp d i j):=by
  have hp:=par_lt hj
  rw [hpj] at hp
  have L:=swp_l (d:=d) (i:=i) (j:=j) (by omega) (by omega)
  have R:=swp_r (d:=d) (i:=i) (j:=j) (by omega) (by omega)
  have O:=fun k (h1:k≠i) (h2:k≠j)=>swp_o (d:=d) (i:=i) (j:=j) (k:=k) (by omega) (by omega) h1 h2
  have hij:=asym h hlt
  refine ⟨fun k hk hkn hpk _=>?_,fun k hk hkn hpk _=>?_⟩
  · have hpl:=par_lt hk
    by_cases hkj:k=j
    · subst hkj; rw [hpj,R,L]; exact hij
    · by_cases hki:k=i
      · subst hki; rw [L,O (par k) (by omega) (by omega)]; exact hd.2 j hj hjn hpj hk
      · by_cases h1:par k=i
        · rw [h1,O k hki hkj,L]; exact hmin k hk hkn h1
        · rw [O k hki hkj,O _ h1 hpk]
          exact hd.1 k hk hkn h1 (by omega)
  · have hpl:=par_lt hk
    rw [hpj,L,O k (by omega) (by omega)]
    have:=hd.1 k hk hkn (by omega) (by omega)
    rw [hpk] at this; exact this
theorem DnOk.stop {n i0 i:Nat} {d:Array α} (hd:DnOk lt n i0 i d) (h0:i0≤i) (hs:∀ k,0<k→k<n→par k=i→lt d[k]! d[i]! = false) :
    (i0<i→Heap lt n d)∧(i=i0→UpOk lt n i0 d):=by
  refine ⟨fun hi k hk hkn=>?_,fun hi=>?_⟩
  · by_cases hp:par k=i
    · rw [hp]; exact hs k hk hkn hp
    · exact hd.1 k hk hkn hp (by omega)
  · subst hi
    refine ⟨fun k hk hkn hki=>?_,hd.2⟩
    by_cases hp:par k=i
    · rw [hp]; exact hs k hk hkn hp
    · exact hd.1 k hk hkn hp (.inl hki)
/-- One place of a heap gets another value. -/
theorem Heap.dn {n i:Nat} {d d':Array α} (h:SWO lt) (hh:Heap lt n d) (hi:i<n) (he:∀ k,k<n→k≠i→d'[k]! = d[k]!):DnOk lt n i i d':=by
  refine ⟨fun k hk hkn hp hki=>?_,fun k hk hkn hp h0=>?_⟩
  · have:=par_lt hk
    rw [he k hkn (by omega),he _ (by omega) hp]; exact hh k hk hkn
  · have h1:=par_lt hk
    have h2:=par_lt h0
    rw [he k hkn (by omega),he _ (by omega) (by omega)]
    have a:=hh k hk hkn
    rw [hp] at a
    exact h.ntrans _ _ _ a (hh i h0 hi)
theorem Heap.mono {n m:Nat} {d:Array α} (hh:Heap lt n d) (hm:m≤n):Heap lt m d:=fun k hk hkm=>hh k hk (by omega)
theorem Heap.root (h:SWO lt) {n:Nat} {d:Array α} (hh:Heap lt n d):∀ k,k<n→lt d[k]! d[0]! = false:=by
  intro k
  induction k using Nat.strongRecOn with
  | ind k ih=>
    intro hk
    by_cases h0:k=0
    · subst h0; exact h.irrefl _
    · have:=par_lt (k:=k) (by omega)
      exact h.ntrans _ _ _ (hh k (by omega) hk) (ih _ this (by omega))
end Go.Hp
set_option linter.unusedVariables false
set_option maxRecDepth 20000
namespace Go.Proofs
open Go Go.HL
open Go.Exp (Th tlt)
def th (t:Th):List Value:=[.int .i64 t.1,.int .i64 t.2]
theorem th_len (t:Th):(th t).length=2:=rfl
theorem th_one (t:Th):(th t).all one=true:=rfl
def iw (n:Int):Value:=.int .i64 n
theorem enc3:EncK Tryd.prog 3 iw where
  inj a b h:=by simpa [iw] using h
  law:=(KeyLaw.flat (d:=.int .i64) (by kernel_rfl)).weaken fun v ⟨k,hk⟩=>by subst hk; exact (rfl:IntKind.i64=IntKind.i64)
theorem u49:Tryd.prog.underlying 117=some (.map 3 3):=by kernel_rfl
theorem zw3:∀ w:World,(zeroValue 3).run Tryd.prog w=.ok (.int .i64 0) w:=by
  intro w
  have h:(Tryd.prog.info? 3).bind (·.zero)=some (.int .i64 0):=by kernel_rfl
  cases hi:Tryd.prog.info? 3 with
  | none=>rw [hi] at h; cases h
  | some i=>rw [hi] at h; simp only [Option.bind_some] at h; simp [zeroValue,typeInfo,hi,h]
end Go.Proofs
set_option linter.unusedVariables false
set_option maxRecDepth 20000
namespace Go.Proofs
open Go Go.HL
section
variable {e:Env} {hp:HP} {K:Env→PV→HP→Prop}
abbrev R82 (p n:Nat):=RW Tryd.prog 6 [] (opsAt Tryd.f82 (pth p)) (List.range n)
theorem F82_r0:R82 2 1 e V0 hp K=
 K (upd e 0 (sP none)) V0 hp:= by kernel_rfl
theorem F82_r1:R82 5 6 e V0 hp K=
    (∀ b1:Nat,hp b1=.none→(∀ b2:Nat,(HP.set hp b1 (.obj (.map #[] 0))) b2=.none→(∀ b3:Nat,(HP.set (HP.set hp b1 (.obj (.map #[] 0))) b2 (.cells 191 [(.slice none 0 0),(.map (some b1))] 0)) b3=.none→(K (w6 e 1 (sV (.map (some b1))) 2 (sV (.agg ⟨[(.slice none 0 0),(.map (some b1))]⟩)) 3 (sQ b2 0) 4 (sV (.agg ⟨[(ptr b2 0)]⟩)) 5 (sQ b3 0) 0 (sQ b3 0)) V0 (HP.set (HP.set (HP.set hp b1 (.obj (.map #[] 0))) b2 (.cells 191 [(.slice none 0 0),(.map (some b1))] 0)) b3 (.cells 193 [(ptr b2 0)] 0)))))):=by kernel_rfl
def F82 (hp:HP) (K:Kh):Prop:=
  (∀ b1:Nat,hp b1=.none→(∀ b2:Nat,(HP.set hp b1 (.obj (.map #[] 0))) b2=.none→(∀ b3:Nat,(HP.set (HP.set hp b1 (.obj (.map #[] 0))) b2 (.cells 191 [(.slice none 0 0),(.map (some b1))] 0)) b3=.none→(K (ptr b3 0) (HP.set (HP.set (HP.set hp b1 (.obj (.map #[] 0))) b2 (.cells 191 [(.slice none 0 0),(.map (some b1))] 0)) b3 (.cells 193 [(ptr b2 0)] 0))))))
noncomputable def F82_code:Code:=(.seq (.region 0 (opsAt Tryd.f82 (pth 2)) false) (.seq (.region 1 (opsAt Tryd.f82 (pth 5)) false) .ret))
theorem F82_body:Tryd.f82.body=some F82_code:=by kernel_rfl
theorem F82_ok (hp:HP) (K:Kh) (h:F82  hp K):CF Tryd.prog 82 [] hp K:=by
 refine .inl ⟨by kernel_rfl,AC.intro (N:=6) Tryd.func82 F82_body rfl (Nat.le_of_ble_eq_true rfl) ?_⟩
 unfold F82 at h
 refine Ar F82_r0 ?_ Rn Sn Sn
 refine Ar F82_r1 ?_ Rn Sn Sn
 refine fun b1 hb_b_1=>?_
 replace h:=h b1 hb_b_1
 refine fun b2 hb_b_2=>?_
 replace h:=h b2 hb_b_2
 refine fun b3 hb_b_3=>?_
 replace h:=h b3 hb_b_3
 refine AWP.ret ?_
 exact h
end
section
variable {e E:Env} {x0:OA} {x1 x2 x7:Int} {x8:Bool} {hp:HP} {K:Env→PV→HP→Prop}
abbrev R87 (p n:Nat):=RW Tryd.prog 59 [] (opsAt Tryd.f87 (pth p)) (List.range n)
theorem F87_r0:R87 2 1 e V0 hp K=
 K (upd e 6 (sI 0)) V0 hp:= by kernel_rfl
theorem F87_r1:R87 9 2 (upd e 0 (sP x0)) V0 hp K=
 CF Tryd.prog 117 [(.pointer x0)] hp fun u1 h2=>(boolV u1 fun q3=>K (w3 e 0 (sP x0) 9 (sP x0) 10 (sB q3)) V0 h2):= by kernel_rfl
theorem F87_r2:R87 37 1 e V0 hp K=
 K (upd e 6 (sI 2)) V0 hp:= by kernel_rfl
theorem F87_r3:R87 75 1 e V0 hp K=
 K (upd e 6 (sI 1)) V0 hp:= by kernel_rfl
theorem F87_r4:R87 23 14 (w2 e 1 (sI x1) 0 (sP x0)) V0 hp K=
 ptrN x0 fun b1 o2=>(ldV (HP.cell hp b1 (o2+0)) fun v3=>ptrV v3 fun p4=>ptrN p4 fun b5 o6=>ldV (HP.cell hp b5 (o6+1)) fun v7=>mapV v7 fun m8=>rdS Tryd.prog (Instr.lookup 117 (.map m8) (.int .i64 x1) true) hp fun u9=>tup2V u9 fun u10 u11=>intV u10 .i64 fun i12=>boolV u11 fun q13=>K (w8 (w8 e 1 (sI x1) 0 (sP x0) 18 (sP x0) 19 (sQ b1 o2) 20 (sQ b1 (o2+0)) 21 (sP p4) 22 (sQ b5 o6) 23 (sQ b5 (o6+1))) 24 (sV (.map m8)) 25 (sI x1) 26 (sV (.tuple ⟨[(.int .i64 i12),(.bool q13)]⟩)) 17 (sV (.tuple ⟨[(.int .i64 i12),(.bool q13)]⟩)) 27 (sI i12) 28 (sB q13) 7 (sI i12) 8 (sB q13)) V0 hp):= by kernel_rfl
theorem F87_r5:R87 79 2 (upd e 8 (sB x8)) V0 hp K=
 K (w3 e 8 (sB x8) 29 (sB x8) 30 (sB ((!x8)))) V0 hp:= by kernel_rfl
theorem F87_r6 (h:E=upd (w2 e 2 (sI x2) 1 (sI x1)) 0 (sP x0)):R87 303 10 E V0 hp K=
 ptrN x0 fun b1 o2=>(ldV (HP.cell hp b1 (o2+0)) fun v3=>ptrV v3 fun p4=>CF Tryd.prog 118 [(.iface 188 (.pointer p4)),(.iface 202 (.agg ⟨[(.int .i64 x1),(.int .i64 x2)]⟩))] hp fun u5 h6=>K (w2 (w8 E 31 (sP x0) 32 (sQ b1 o2) 33 (sQ b1 (o2+0)) 34 (sP p4) 35 (sV (.iface 188 (.pointer p4))) 36 (sI x1) 37 (sI x2) 38 (sV (.agg ⟨[(.int .i64 x1),(.int .i64 x2)]⟩))) 39 (sV (.iface 202 (.agg ⟨[(.int .i64 x1),(.int .i64 x2)]⟩))) 40 (sV u5)) V0 h6):= by subst h; kernel_rfl
theorem F87_r7:R87 687 1 e V0 hp K=
 K (upd e 6 (sI 0)) V0 hp:= by kernel_rfl
theorem F87_r8 (h:E=upd (w2 e 7 (sI x7) 2 (sI x2)) 0 (sP x0)):R87 95 12 E V0 hp K=
    (ptrN x0 fun b1 o2=>ldV (HP.cell hp b1 (o2+0)) fun v3=>ptrV v3 fun p4=>ptrN p4 fun b5 o6=>ldV (HP.cell hp b5 (o6+0)) fun v7=>slcV v7 fun a8 n9 c10=>(0≤x7)∧(x7<n9)∧(ptrN a8 fun b11 o12=>HP.st hp b11 ((o12+Int.toNat x7*2)+1) (.int .i64 x2) fun h13=>K (w3 (w8 E 41 (sP x0) 42 (sQ b1 o2) 43 (sQ b1 (o2+0)) 44 (sP p4) 45 (sQ b5 o6) 46 (sQ b5 (o6+0)) 47 (sS a8 n9 c10) 48 (sI x7)) 49 (sI x2) 50 (sQ b11 (o12+Int.toNat x7*2)) 51 (sQ b11 ((o12+Int.toNat x7*2)+1))) V0 h13)):=by subst h; kernel_rfl
theorem F87_r9:R87 191 7 (w2 e 7 (sI x7) 0 (sP x0)) V0 hp K=
 ptrN x0 fun b1 o2=>(ldV (HP.cell hp b1 (o2+0)) fun v3=>ptrV v3 fun p4=>CF Tryd.prog 119 [(.iface 188 (.pointer p4)),(.int .i64 x7)] hp fun u5 h6=>K (upd (w8 e 7 (sI x7) 0 (sP x0) 52 (sP x0) 53 (sQ b1 o2) 54 (sQ b1 (o2+0)) 55 (sP p4) 56 (sV (.iface 188 (.pointer p4))) 57 (sI x7)) 58 (sV u5)) V0 h6):= by kernel_rfl
theorem F87_r10:R87 383 1 e V0 hp K=
 K (upd e 6 (sI 0)) V0 hp:= by kernel_rfl
def F87_j1 (x0:OA) (x1 x2:Int) (x16:Bool) (hp:HP) (K:Kh):Prop:=
  (ite2 x16 (K (.int .i64 1) hp) (ptrN x0 fun b4 o5=>ldV (HP.cell hp b4 (o5+0)) fun v6=>ptrV v6 fun p7=>ptrN p7 fun b8 o9=>ldV (HP.cell hp b8 (o9+1)) fun v10=>mapV v10 fun m11=>rdS Tryd.prog (Instr.lookup 117 (.map m11) (.int .i64 x1) true) hp fun u12=>tup2V u12 fun u13 u14=>intV u13 .i64 fun i15=>boolV u14 fun q16=>ite2 (!q16) (ptrN x0 fun b17 o18=>ldV (HP.cell hp b17 (o18+0)) fun v19=>ptrV v19 fun p20=>CF Tryd.prog 118 [(.iface 188 (.pointer p20)),(.iface 202 (.agg ⟨[(.int .i64 x1),(.int .i64 x2)]⟩))] hp fun u21 h22=>K (.int .i64 0) h22) (ptrN x0 fun b23 o24=>ldV (HP.cell hp b23 (o24+0)) fun v25=>ptrV v25 fun p26=>ptrN p26 fun b27 o28=>ldV (HP.cell hp b27 (o28+0)) fun v29=>slcV v29 fun a30 n31 c32=>(0≤i15)∧(i15<n31)∧(ptrN a30 fun b33 o34=>HP.st hp b33 ((o34+Int.toNat i15*2)+1) (.int .i64 x2) fun h35=>ptrN x0 fun b36 o37=>ldV (HP.cell h35 b36 (o37+0)) fun v38=>ptrV v38 fun p39=>CF Tryd.prog 119 [(.iface 188 (.pointer p39)),(.int .i64 i15)] h35 fun u40 h41=>K (.int .i64 0) h41))))
theorem F87_r11:R87 19 6 (upd e 2 (sI x2)) V0 hp K=
 ite2 (decide (x2<0)) (K (w7 e 2 (sI x2) 11 (sI x2) 12 (sB (decide (x2<0))) 13 (sB true) 14 sU 15 sU 16 (sB true)) V0 hp) (K (w7 e 2 (sI x2) 11 (sI x2) 12 (sB (decide (x2<0))) 13 (sB false) 14 (sI x2) 15 (sB (decide (x2 > 4611686018427387904))) 16 (sB (decide (x2 > 4611686018427387904)))) V0 hp):= by kernel_rfl
def F87 (x0:OA) (x1 x2:Int) (hp:HP) (K:Kh):Prop:=
  (CF Tryd.prog 117 [(.pointer x0)] hp fun u1 h2=>boolV u1 fun q3=>ite2 q3 (K (.int .i64 2) h2) (ite2 (decide (x2<0)) (F87_j1 x0 x1 x2 true h2  K) (F87_j1 x0 x1 x2 (decide (x2 > 4611686018427387904)) h2  K)))
noncomputable abbrev o87 (k n:Nat):Code:=.region k (opsAt Tryd.f87 (pth n)) false
noncomputable def F87_code:Code:=(.seq (o87 0 2) (.seq (.seq (o87 1 9) (.cond (.tmp 10) (.seq (o87 2 37) .ret) .skip)) (.seq (.seq (o87 3 19) (.cond (.tmp 16) (.seq (o87 4 75) .ret) .skip)) (.seq (o87 5 23) (.seq (.seq (o87 6 79) (.cond (.tmp 30) (.seq (o87 7 303) (.seq (o87 8 687) .ret)) .skip)) (.seq (o87 9 95) (.seq (o87 10 191) (.seq (o87 11 383) .ret))))))))
theorem F87_body:Tryd.f87.body=some F87_code:=by kernel_rfl
theorem F87_ok (x0:OA) (x1 x2:Int) (hp:HP) (K:Kh) (h:F87 x0 x1 x2 hp K):CF Tryd.prog 87 [(.pointer x0),(.int .i64 x1),(.int .i64 x2)] hp K:=by
 refine .inl ⟨by kernel_rfl,AC.intro (N:=59) Tryd.func87 F87_body rfl (Nat.le_of_ble_eq_true rfl) ?_⟩
 unfold F87 at h
 refine Ar F87_r0 ?_ (r3 0 1 2 Rn) (z3 Sn) Sn
 refine Aq (Ar F87_r1 ?_ (r3 0 1 2 Rn) (z3 Sn) Sn)
 refine mC h fun u1 h2 h=>mB h fun q3 h=>?_
 refine Ac h rfl (fun h=>?_) (fun h=>?_)
 ·refine Ar F87_r2 ?_ Rn Sn Sn
  refine AWP.ret ?_
  exact h
 ·refine AWP.skip (Aq (As (fun env pv hp=>∃ x0 x1 x2 x16,Sub (w4 E0 16 (sB x16) 2 (sI x2) 1 (sI x1) 0 (sP x0)) env∧Sub V0 pv∧F87_j1 x0 x1 x2 x16 hp  K) ?_ ?_))
  ·refine Ag F87_r11 ?_ (r3 2 0 1 Rn) (z3 Sn) Sn
   refine mt h (fun h=>?_) (fun h=>?_)
   ·exact ⟨_,_,_,_,(z4 Sn),Sn,h⟩
   ·exact ⟨_,_,_,_,(z4 Sn),Sn,h⟩
  ·rintro env pv hp ⟨x0,x1,x2,x16,he,hv,h⟩
   refine Ae ?_ (r4 0 1 2 16 Rn) he hv
   unfold F87_j1 at h
   refine Ac h rfl (fun h=>?_) (fun h=>?_)
   ·refine Ar F87_r3 ?_ Rn Sn Sn
    refine AWP.ret ?_
    exact h
   ·refine AWP.skip (Ar F87_r4 ?_ (r3 0 1 2 Rn) (z3 Sn) Sn)
    refine mN h fun b4 o5 h=>mV h fun v6 h=>mP h fun p7 h=>mN h fun b8 o9 h=>mV h fun v10 h=>mM h fun m11 h=>mR h fun u12 h=>mT h fun u13 u14 h=>mI h fun i15 h=>mB h fun q16 h=>?_
    refine Aq (Ar F87_r5 ?_ (r5 8 0 1 2 7 Rn) (z5 Sn) Sn)
    refine Ac h rfl (fun h=>?_) (fun h=>?_)
    ·refine Ar (F87_r6 rfl) ?_ (r3 0 1 2 Rn) (z3 Sn) Sn
     refine mN h fun b17 o18 h=>mV h fun v19 h=>mP h fun p20 h=>mC h fun u21 h22 h=>?_
     refine Ar F87_r7 ?_ Rn Sn Sn
     refine AWP.ret ?_
     exact h
    ·refine AWP.skip (Ar (F87_r8 rfl) ?_ (r3 0 2 7 Rn) (z3 Sn) Sn)
     refine mN h (fun b23 o24 h=>mV h (fun v25 h=>mP h (fun p26 h=>mN h (fun b27 o28 h=>mV h (fun v29 h=>mS h (fun a30 n31 c32 h=>⟨h.1,h.2.1,mN h.2.2 fun b33 o34 h=>mw h fun h35 h=>?_⟩))))))
     refine Ar F87_r9 ?_ (r2 0 7 Rn) (z2 Sn) Sn
     refine mN h fun b36 o37 h=>mV h fun v38 h=>mP h fun p39 h=>mC h fun u40 h41 h=>?_
     refine Ar F87_r10 ?_ Rn Sn Sn
     refine AWP.ret ?_
     exact h
end
section
variable {e:Env} {x0:OA} {hp:HP} {K:Env→PV→HP→Prop}
abbrev R89 (p n:Nat):=RW Tryd.prog 35 [] (opsAt Tryd.f89 (pth p)) (List.range n)
theorem F89_r0:R89 2 3 e V0 hp K=
 K (w3 e 2 (sI 0) 3 (sI 0) 4 (sB false)) V0 hp:= by kernel_rfl
theorem F89_r1:R89 37 3 e V0 hp K=
 K (w3 e 2 (sI 0) 3 (sI 0) 4 (sB false)) V0 hp:= by kernel_rfl
theorem F89_r2:R89 11 23 (upd e 0 (sP x0)) V0 hp K=
    (ptrN x0 fun b1 o2=>ldV (HP.cell hp b1 (o2+0)) fun v3=>ptrV v3 fun p4=>ptrN p4 fun b5 o6=>ldV (HP.cell hp b5 (o6+0)) fun v7=>slcV v7 fun a8 n9 c10=>(0≤(0:Int))∧((0:Int)<n9)∧(ptrN a8 fun b11 o12=>ldV (HP.cell hp b11 ((o12+Int.toNat 0*2)+0)) fun v13=>intV v13 .i64 fun i14=>ptrN x0 fun b15 o16=>ldV (HP.cell hp b15 (o16+0)) fun v17=>ptrV v17 fun p18=>ptrN p18 fun b19 o20=>ldV (HP.cell hp b19 (o20+0)) fun v21=>slcV v21 fun a22 n23 c24=>(0≤(0:Int))∧((0:Int)<n23)∧(ptrN a22 fun b25 o26=>ldV (HP.cell hp b25 ((o26+Int.toNat 0*2)+1)) fun v27=>intV v27 .i64 fun i28=>K (w8 (w8 (w8 e 0 (sP x0) 15 (sP x0) 16 (sQ b1 o2) 17 (sQ b1 (o2+0)) 18 (sP p4) 19 (sQ b5 o6) 20 (sQ b5 (o6+0)) 21 (sS a8 n9 c10)) 22 (sQ b11 (o12+Int.toNat 0*2)) 23 (sQ b11 ((o12+Int.toNat 0*2)+0)) 24 (sI i14) 25 (sP x0) 26 (sQ b15 o16) 27 (sQ b15 (o16+0)) 28 (sP p18) 29 (sQ b19 o20)) 30 (sQ b19 (o20+0)) 31 (sS a22 n23 c24) 32 (sQ b25 (o26+Int.toNat 0*2)) 33 (sQ b25 ((o26+Int.toNat 0*2)+1)) 34 (sI i28) 2 (sI i14) 3 (sI i28) 4 (sB true)) V0 hp))):=by kernel_rfl
def F89_j1 (x0:OA) (x14:Bool) (hp:HP) (K:Kh):Prop:=
  (ite2 x14 (K (.tuple ⟨[.int .i64 0,.int .i64 0,.bool false]⟩) hp) (ptrN x0 fun b1 o2=>ldV (HP.cell hp b1 (o2+0)) fun v3=>ptrV v3 fun p4=>ptrN p4 fun b5 o6=>ldV (HP.cell hp b5 (o6+0)) fun v7=>slcV v7 fun a8 n9 c10=>(0≤(0:Int))∧((0:Int)<n9)∧(ptrN a8 fun b11 o12=>ldV (HP.cell hp b11 ((o12+Int.toNat 0*2)+0)) fun v13=>intV v13 .i64 fun i14=>ptrN x0 fun b15 o16=>ldV (HP.cell hp b15 (o16+0)) fun v17=>ptrV v17 fun p18=>ptrN p18 fun b19 o20=>ldV (HP.cell hp b19 (o20+0)) fun v21=>slcV v21 fun a22 n23 c24=>(0≤(0:Int))∧((0:Int)<n23)∧(ptrN a22 fun b25 o26=>ldV (HP.cell hp b25 ((o26+Int.toNat 0*2)+1)) fun v27=>intV v27 .i64 fun i28=>K (.tuple ⟨[(.int .i64 i14),(.int .i64 i28),(.bool true)]⟩) hp))))
theorem F89_r3:R89 9 10 (upd e 0 (sP x0)) V0 hp K=
 CF Tryd.prog 117 [(.pointer x0)] hp fun u1 h2=>(boolV u1 fun q3=>ite2 q3 (K (w3 (w8 e 0 (sP x0) 5 (sP x0) 6 (sB q3) 7 (sB true) 8 sU 9 sU 10 sU 11 sU) 12 sU 13 sU 14 (sB true)) V0 h2) (ptrN x0 fun b4 o5=>ldV (HP.cell h2 b4 (o5+0)) fun v6=>ptrV v6 fun p7=>CF Tryd.prog 120 [(.pointer p7)] h2 fun u8 h9=>intV u8 .i64 fun i10=>K (w3 (w8 e 0 (sP x0) 5 (sP x0) 6 (sB q3) 7 (sB false) 8 (sP x0) 9 (sQ b4 o5) 10 (sQ b4 (o5+0)) 11 (sP p7)) 12 (sI i10) 13 (sB ((i10==0))) 14 (sB ((i10==0)))) V0 h9)):= by kernel_rfl
def F89 (x0:OA) (hp:HP) (K:Kh):Prop:=
  (CF Tryd.prog 117 [(.pointer x0)] hp fun u29 h30=>boolV u29 fun q31=>ite2 q31 (F89_j1 x0 true h30  K) (ptrN x0 fun b32 o33=>ldV (HP.cell h30 b32 (o33+0)) fun v34=>ptrV v34 fun p35=>CF Tryd.prog 120 [(.pointer p35)] h30 fun u36 h37=>intV u36 .i64 fun i38=>F89_j1 x0 (i38==0) h37  K))
noncomputable def F89_code:Code:=(.seq (.region 0 (opsAt Tryd.f89 (pth 2)) false) (.seq (.seq (.region 1 (opsAt Tryd.f89 (pth 9)) false) (.cond (.tmp 14) (.seq (.region 2 (opsAt Tryd.f89 (pth 37)) false) .ret) .skip)) (.seq (.region 3 (opsAt Tryd.f89 (pth 11)) true) .ret)))
theorem F89_body:Tryd.f89.body=some F89_code:=by kernel_rfl
theorem F89_ok (x0:OA) (hp:HP) (K:Kh) (h:F89 x0 hp K):CF Tryd.prog 89 [(.pointer x0)] hp K:=by
 refine .inl ⟨by kernel_rfl,AC.intro (N:=35) Tryd.func89 F89_body rfl (Nat.le_of_ble_eq_true rfl) ?_⟩
 unfold F89 at h
 refine Ar F89_r0 ?_ (r1 0 Rn) (z1 Sn) Sn
 refine Aq (As (fun env pv hp=>∃ x0 x14,Sub (w2 E0 14 (sB x14) 0 (sP x0)) env∧Sub V0 pv∧F89_j1 x0 x14 hp  K) ?_ ?_)
 ·refine Ag F89_r3 ?_ (r1 0 Rn) (z1 Sn) Sn
  refine mC h fun u29 h30 h=>mB h fun q31 h=>?_
  refine mt h (fun h=>?_) (fun h=>?_)
  ·exact ⟨_,_,(z2 Sn),Sn,h⟩
  ·refine mN h fun b32 o33 h=>mV h fun v34 h=>mP h fun p35 h=>mC h fun u36 h37 h=>mI h fun i38 h=>?_
   exact ⟨_,_,(z2 Sn),Sn,h⟩
 ·rintro env pv hp ⟨x0,x14,he,hv,h⟩
  refine Ae ?_ (r2 0 14 Rn) he hv
  unfold F89_j1 at h
  refine Ac h rfl (fun h=>?_) (fun h=>?_)
  ·refine Ar F89_r1 ?_ Rn Sn Sn
   refine AWP.ret ?_
   exact h
  ·refine AWP.skip (Aq (AWP.rgnD (by kernel_rfl) (by kernel_rfl) F89_r2 ?_ (r1 0 Rn) (z1 Sn) Sn))
   refine mN h (fun b1 o2 h=>mV h (fun v3 h=>mP h (fun p4 h=>mN h (fun b5 o6 h=>mV h (fun v7 h=>mS h (fun a8 n9 c10 h=>⟨h.1,h.2.1,mN h.2.2 (fun b11 o12 h=>mV h (fun v13 h=>mI h (fun i14 h=>mN h (fun b15 o16 h=>mV h (fun v17 h=>mP h (fun p18 h=>mN h (fun b19 o20 h=>mV h (fun v21 h=>mS h (fun a22 n23 c24 h=>⟨h.1,h.2.1,mN h.2.2 fun b25 o26 h=>mV h fun v27 h=>mI h fun i28 h=>?_⟩)))))))))⟩))))))
   refine AWP.ret ?_
   exact h
end
section
variable {e:Env} {x0:OA} {x1 x5:Int} {x6:Bool} {hp:HP} {K:Env→PV→HP→Prop}
abbrev R93 (p n:Nat):=RW Tryd.prog 30 [] (opsAt Tryd.f93 (pth p)) (List.range n)
theorem F93_r0:R93 2 1 e V0 hp K=
 K (upd e 4 (sB false)) V0 hp:= by kernel_rfl
theorem F93_r1:R93 9 2 (upd e 0 (sP x0)) V0 hp K=
 CF Tryd.prog 117 [(.pointer x0)] hp fun u1 h2=>(boolV u1 fun q3=>K (w3 e 0 (sP x0) 7 (sP x0) 8 (sB q3)) V0 h2):= by kernel_rfl
theorem F93_r2:R93 37 1 e V0 hp K=
 K (upd e 4 (sB false)) V0 hp:= by kernel_rfl
theorem F93_r3:R93 11 14 (w2 e 1 (sI x1) 0 (sP x0)) V0 hp K=
 ptrN x0 fun b1 o2=>(ldV (HP.cell hp b1 (o2+0)) fun v3=>ptrV v3 fun p4=>ptrN p4 fun b5 o6=>ldV (HP.cell hp b5 (o6+1)) fun v7=>mapV v7 fun m8=>rdS Tryd.prog (Instr.lookup 117 (.map m8) (.int .i64 x1) true) hp fun u9=>tup2V u9 fun u10 u11=>intV u10 .i64 fun i12=>boolV u11 fun q13=>K (w8 (w8 e 1 (sI x1) 0 (sP x0) 10 (sP x0) 11 (sQ b1 o2) 12 (sQ b1 (o2+0)) 13 (sP p4) 14 (sQ b5 o6) 15 (sQ b5 (o6+1))) 16 (sV (.map m8)) 17 (sI x1) 18 (sV (.tuple ⟨[(.int .i64 i12),(.bool q13)]⟩)) 9 (sV (.tuple ⟨[(.int .i64 i12),(.bool q13)]⟩)) 19 (sI i12) 20 (sB q13) 5 (sI i12) 6 (sB q13)) V0 hp):= by kernel_rfl
theorem F93_r4:R93 47 2 (upd e 6 (sB x6)) V0 hp K=
 K (w3 e 6 (sB x6) 29 (sB x6) 4 (sB x6)) V0 hp:= by kernel_rfl
def F93_j1 (x6:Bool) (hp:HP) (K:Kh):Prop:=
  (K (.bool x6) hp)
theorem F93_r5:R93 39 1 (upd e 6 (sB x6)) V0 hp K=
 K (w2 e 6 (sB x6) 21 (sB x6)) V0 hp:= by kernel_rfl
theorem F93_r6:R93 87 7 (w2 e 5 (sI x5) 0 (sP x0)) V0 hp K=
 ptrN x0 fun b1 o2=>(ldV (HP.cell hp b1 (o2+0)) fun v3=>ptrV v3 fun p4=>CF Tryd.prog 121 [(.iface 188 (.pointer p4)),(.int .i64 x5)] hp fun u5 h6=>K (upd (w8 e 5 (sI x5) 0 (sP x0) 22 (sP x0) 23 (sQ b1 o2) 24 (sQ b1 (o2+0)) 25 (sP p4) 26 (sV (.iface 188 (.pointer p4))) 27 (sI x5)) 28 (sV u5)) V0 h6):= by kernel_rfl
def F93 (x0:OA) (x1:Int) (hp:HP) (K:Kh):Prop:=
  (CF Tryd.prog 117 [(.pointer x0)] hp fun u1 h2=>boolV u1 fun q3=>ite2 q3 (K (.bool false) h2) (ptrN x0 fun b4 o5=>ldV (HP.cell h2 b4 (o5+0)) fun v6=>ptrV v6 fun p7=>ptrN p7 fun b8 o9=>ldV (HP.cell h2 b8 (o9+1)) fun v10=>mapV v10 fun m11=>rdS Tryd.prog (Instr.lookup 117 (.map m11) (.int .i64 x1) true) h2 fun u12=>tup2V u12 fun u13 u14=>intV u13 .i64 fun i15=>boolV u14 fun q16=>ite2 q16 (ptrN x0 fun b17 o18=>ldV (HP.cell h2 b17 (o18+0)) fun v19=>ptrV v19 fun p20=>CF Tryd.prog 121 [(.iface 188 (.pointer p20)),(.int .i64 i15)] h2 fun u21 h22=>F93_j1 q16 h22  K) (F93_j1 q16 h2  K)))
noncomputable abbrev o93 (k n:Nat):Code:=.region k (opsAt Tryd.f93 (pth n)) false
noncomputable def F93_code:Code:=(.seq (o93 0 2) (.seq (.seq (o93 1 9) (.cond (.tmp 8) (.seq (o93 2 37) .ret) .skip)) (.seq (o93 3 11) (.seq (.seq (o93 4 39) (.cond (.tmp 21) (o93 5 87) .skip)) (.seq (o93 6 47) .ret)))))
theorem F93_body:Tryd.f93.body=some F93_code:=by kernel_rfl
theorem F93_ok (x0:OA) (x1:Int) (hp:HP) (K:Kh) (h:F93 x0 x1 hp K):CF Tryd.prog 93 [(.pointer x0),(.int .i64 x1)] hp K:=by
 refine .inl ⟨by kernel_rfl,AC.intro (N:=30) Tryd.func93 F93_body rfl (Nat.le_of_ble_eq_true rfl) ?_⟩
 unfold F93 at h
 refine Ar F93_r0 ?_ (r2 0 1 Rn) (z2 Sn) Sn
 refine Aq (Ar F93_r1 ?_ (r2 0 1 Rn) (z2 Sn) Sn)
 refine mC h fun u1 h2 h=>mB h fun q3 h=>?_
 refine Ac h rfl (fun h=>?_) (fun h=>?_)
 ·refine Ar F93_r2 ?_ Rn Sn Sn
  refine AWP.ret ?_
  exact h
 ·refine AWP.skip (Ar F93_r3 ?_ (r2 0 1 Rn) (z2 Sn) Sn)
  refine mN h fun b4 o5 h=>mV h fun v6 h=>mP h fun p7 h=>mN h fun b8 o9 h=>mV h fun v10 h=>mM h fun m11 h=>mR h fun u12 h=>mT h fun u13 u14 h=>mI h fun i15 h=>mB h fun q16 h=>?_
  refine As (fun env pv hp=>∃ x6,Sub (upd E0 6 (sB x6)) env∧Sub V0 pv∧F93_j1 x6 hp  K) ?_ ?_
  ·refine Ar F93_r5 ?_ (r3 6 0 5 Rn) (z3 Sn) Sn
   refine Ac h rfl (fun h=>?_) (fun h=>?_)
   ·refine Ag F93_r6 ?_ (r3 0 5 6 Rn) (z3 Sn) Sn
    refine mN h fun b17 o18 h=>mV h fun v19 h=>mP h fun p20 h=>mC h fun u21 h22 h=>?_
    exact ⟨_,(z1 Sn),Sn,h⟩
   ·refine AWP.skip ?_
    exact ⟨_,(z1 Sn),Sn,h⟩
  ·rintro env pv hp ⟨x6,he,hv,h⟩
   refine Ae ?_ (r1 6 Rn) he hv
   unfold F93_j1 at h
   refine Ar F93_r4 ?_ (r1 6 Rn) (z1 Sn) Sn
   refine AWP.ret ?_
   exact h
end
section
variable {e:Env} {x0:OA} {hp:HP} {K:Env→PV→HP→Prop}
abbrev R117 (p n:Nat):=RW Tryd.prog 12 [] (opsAt Tryd.f117 (pth p)) (List.range n)
theorem F117_r0:R117 2 1 e V0 hp K=
 K (upd e 2 (sB false)) V0 hp:= by kernel_rfl
theorem F117_r1:R117 5 10 (upd e 0 (sP x0)) V0 hp K=
 ite2 (Option.isNone x0) (K (w3 (w8 e 0 (sP x0) 3 (sP x0) 4 (sB ((Option.isNone x0))) 5 (sB true) 6 sU 7 sU 8 sU 9 sU) 10 sU 11 (sB true) 2 (sB true)) V0 hp) (ptrN x0 fun b1 o2=>ldV (HP.cell hp b1 (o2+0)) fun v3=>ptrV v3 fun p4=>K (w3 (w8 e 0 (sP x0) 3 (sP x0) 4 (sB ((Option.isNone x0))) 5 (sB false) 6 (sP x0) 7 (sQ b1 o2) 8 (sQ b1 (o2+0)) 9 (sP p4)) 10 (sB ((Option.isNone p4))) 11 (sB ((Option.isNone p4))) 2 (sB ((Option.isNone p4)))) V0 hp):= by kernel_rfl
def F117 (x0:OA) (hp:HP) (K:Kh):Prop:=
  (ite2 (Option.isNone x0) (K (.bool true) hp) (ptrN x0 fun b1 o2=>ldV (HP.cell hp b1 (o2+0)) fun v3=>ptrV v3 fun p4=>K (.bool (Option.isNone p4)) hp))
noncomputable def F117_code:Code:=(.seq (.region 0 (opsAt Tryd.f117 (pth 2)) false) (.seq (.region 1 (opsAt Tryd.f117 (pth 5)) false) .ret))
theorem F117_body:Tryd.f117.body=some F117_code:=by kernel_rfl
theorem F117_ok (x0:OA) (hp:HP) (K:Kh) (h:F117 x0 hp K):CF Tryd.prog 117 [(.pointer x0)] hp K:=by
 refine .inl ⟨by kernel_rfl,AC.intro (N:=12) Tryd.func117 F117_body rfl (Nat.le_of_ble_eq_true rfl) ?_⟩
 unfold F117 at h
 refine Ar F117_r0 ?_ (r1 0 Rn) (z1 Sn) Sn
 refine Ar F117_r1 ?_ (r1 0 Rn) (z1 Sn) Sn
 refine mt h (fun h=>?_) (fun h=>?_)
 ·refine AWP.ret ?_
  exact h
 ·refine mN h fun b1 o2 h=>mV h fun v3 h=>mP h fun p4 h=>?_
  refine AWP.ret ?_
  exact h
end
section
variable {e:Env} {x0 x1:Value} {hp:HP} {K:Env→PV→HP→Prop}
abbrev R118 (p n:Nat):=RW Tryd.prog 12 [] (opsAt Tryd.f118 (pth p)) (List.range n)
theorem F118_r0:R118 2 3 (w2 e 1 (sV x1) 0 (sV x0)) V0 hp K=
    (ifaceV x0 fun t1 v2 => mthF Tryd.prog t1 "Push" fun f3 => CF Tryd.prog f3 (v2 :: [x1]) hp fun u4 h5 => K (w5 e 1 (sV x1) 0 (sV x0) 4 (sV x0) 5 (sV x1) 6 (sV u4)) V0 h5) := by kernel_rfl
theorem F118_r1:R118 3 5 (upd e 0 (sV x0)) V0 hp K=
    (ifaceV x0 fun t1 v2 => mthF Tryd.prog t1 "Len" fun f3 => CF Tryd.prog f3 (v2 :: []) hp fun u4 h5 => intV u4 .i64 fun i6 => CF Tryd.prog 136 [x0,(.int .i64 (wr (i6 - 1)))] h5 fun u7 h8 => K (w6 e 0 (sV x0) 7 (sV x0) 8 (sV x0) 9 (sI i6) 10 (sI ((wr (i6 - 1)))) 11 (sV u7)) V0 h8) := by kernel_rfl
def F118 (x0 x1:Value) (hp:HP) (K:Kh):Prop:=
  (ifaceV x0 fun t1 v2 => mthF Tryd.prog t1 "Push" fun f3 => CF Tryd.prog f3 (v2 :: [x1]) hp fun u4 h5 => ifaceV x0 fun t6 v7 => mthF Tryd.prog t6 "Len" fun f8 => CF Tryd.prog f8 (v7 :: []) h5 fun u9 h10 => intV u9 .i64 fun i11 => CF Tryd.prog 136 [x0,(.int .i64 (IntKind.wrap .i64 (i11 - 1)))] h10 fun u12 h13 => K (.tuple ⟨[]⟩) h13)
noncomputable def F118_code:Code:=(.seq (.region 0 (opsAt Tryd.f118 (pth 2)) false) (.region 1 (opsAt Tryd.f118 (pth 3)) false))
theorem F118_body:Tryd.f118.body=some F118_code:=by kernel_rfl
theorem F118_ok (x0 x1:Value) (hp:HP) (K:Kh) (h:F118 x0 x1 hp K):CF Tryd.prog 118 [x0,x1] hp K:=by
 refine .inl ⟨by kernel_rfl,AC.intro (N:=12) Tryd.func118 F118_body rfl (Nat.le_of_ble_eq_true rfl) ?_⟩
 unfold F118 at h
 refine Ar F118_r0 ?_ (r2 0 1 Rn) (z2 Sn) Sn
 refine ifaceV_mono h fun t1 v2 h=>mthF_mono h fun f3 h=>mC h fun u4 h5 h=>?_
 refine Ag F118_r1 ?_ (r1 0 Rn) (z1 Sn) Sn
 refine ifaceV_mono h fun t6 v7 h=>mthF_mono h fun f8 h=>mC h fun u9 h10 h=>mI h fun i11 h=>mC h fun u12 h13 h=>?_
 exact h
end
section
variable {e:Env} {x0:Value} {x1:Int} {hp:HP} {K:Env→PV→HP→Prop}
abbrev R119 (p n:Nat):=RW Tryd.prog 13 [] (opsAt Tryd.f119 (pth p)) (List.range n)
theorem F119_r0:R119 2 6 (w2 e 1 (sI x1) 0 (sV x0)) V0 hp K=
    (ifaceV x0 fun t1 v2 => mthF Tryd.prog t1 "Len" fun f3 => CF Tryd.prog f3 (v2 :: []) hp fun u4 h5 => intV u4 .i64 fun i6 => CF Tryd.prog 137 [x0,(.int .i64 x1),(.int .i64 i6)] h5 fun u7 h8 => boolV u7 fun q9 => K (w8 e 1 (sI x1) 0 (sV x0) 4 (sV x0) 5 (sI x1) 6 (sV x0) 7 (sI i6) 8 (sB q9) 9 (sB ((!q9)))) V0 h8) := by kernel_rfl
theorem F119_r1:R119 5 3 (w2 e 1 (sI x1) 0 (sV x0)) V0 hp K=
 CF Tryd.prog 136 [x0,(.int .i64 x1)] hp fun u1 h2=>(K (w5 e 1 (sI x1) 0 (sV x0) 10 (sV x0) 11 (sI x1) 12 (sV u1)) V0 h2):= by kernel_rfl
def F119 (x0:Value) (x1:Int) (hp:HP) (K:Kh):Prop:=
  (ifaceV x0 fun t1 v2 => mthF Tryd.prog t1 "Len" fun f3 => CF Tryd.prog f3 (v2 :: []) hp fun u4 h5 => intV u4 .i64 fun i6 => CF Tryd.prog 137 [x0,(.int .i64 x1),(.int .i64 i6)] h5 fun u7 h8 => boolV u7 fun q9 => ite2 (!q9) (CF Tryd.prog 136 [x0,(.int .i64 x1)] h8 fun u10 h11 => K (.tuple ⟨[]⟩) h11) (K (.tuple ⟨[]⟩) h8))
noncomputable def F119_code:Code:=(.seq (.region 0 (opsAt Tryd.f119 (pth 2)) false) (.cond (.tmp 9) (.region 1 (opsAt Tryd.f119 (pth 5)) false) .skip))
theorem F119_body:Tryd.f119.body=some F119_code:=by kernel_rfl
theorem F119_ok (x0:Value) (x1:Int) (hp:HP) (K:Kh) (h:F119 x0 x1 hp K):CF Tryd.prog 119 [x0,(.int .i64 x1)] hp K:=by
 refine .inl ⟨by kernel_rfl,AC.intro (N:=13) Tryd.func119 F119_body rfl (Nat.le_of_ble_eq_true rfl) ?_⟩
 unfold F119 at h
 refine Ar F119_r0 ?_ (r2 0 1 Rn) (z2 Sn) Sn
 refine ifaceV_mono h fun t1 v2 h=>mthF_mono h fun f3 h=>mC h fun u4 h5 h=>mI h fun i6 h=>mC h fun u7 h8 h=>mB h fun q9 h=>?_
 refine Ac h rfl (fun h=>?_) (fun h=>?_)
 ·refine Ag F119_r1 ?_ (r2 0 1 Rn) (z2 Sn) Sn
  refine mC h fun u10 h11 h=>?_
  exact h
 ·refine AWP.skip ?_
  exact h
end
section
variable {e:Env} {x0:OA} {hp:HP} {K:Env→PV→HP→Prop}
abbrev R120 (p n:Nat):=RW Tryd.prog 8 [] (opsAt Tryd.f120 (pth p)) (List.range n)
theorem F120_r0:R120 2 1 e V0 hp K=
 K (upd e 2 (sI 0)) V0 hp:= by kernel_rfl
theorem F120_r1:R120 5 6 (upd e 0 (sP x0)) V0 hp K=
 ptrN x0 fun b1 o2=>(ldV (HP.cell hp b1 (o2+0)) fun v3=>slcV v3 fun a4 n5 c6=>K (w7 e 0 (sP x0) 3 (sP x0) 4 (sQ b1 o2) 5 (sQ b1 (o2+0)) 6 (sS a4 n5 c6) 7 (sI ((n5:Nat))) 2 (sI ((n5:Nat)))) V0 hp):= by kernel_rfl
def F120 (x0:OA) (hp:HP) (K:Kh):Prop:=
  (ptrN x0 fun b1 o2=>ldV (HP.cell hp b1 (o2+0)) fun v3=>slcV v3 fun a4 n5 c6=>K (.int .i64 (n5:Nat)) hp)
noncomputable def F120_code:Code:=(.seq (.region 0 (opsAt Tryd.f120 (pth 2)) false) (.seq (.region 1 (opsAt Tryd.f120 (pth 5)) false) .ret))
theorem F120_body:Tryd.f120.body=some F120_code:=by kernel_rfl
theorem F120_ok (x0:OA) (hp:HP) (K:Kh) (h:F120 x0 hp K):CF Tryd.prog 120 [(.pointer x0)] hp K:=by
 refine .inl ⟨by kernel_rfl,AC.intro (N:=8) Tryd.func120 F120_body rfl (Nat.le_of_ble_eq_true rfl) ?_⟩
 unfold F120 at h
 refine Ar F120_r0 ?_ (r1 0 Rn) (z1 Sn) Sn
 refine Ar F120_r1 ?_ (r1 0 Rn) (z1 Sn) Sn
 refine mN h fun b1 o2 h=>mV h fun v3 h=>mS h fun a4 n5 c6 h=>?_
 refine AWP.ret ?_
 exact h
end
section
variable {e E:Env} {x0:Value} {x1 x5:Int} {hp:HP} {K:Env→PV→HP→Prop}
abbrev R121 (p n:Nat):=RW Tryd.prog 26 [] (opsAt Tryd.f121 (pth p)) (List.range n)
theorem F121_r0:R121 2 1 e V0 hp K=
 K (upd e 4 (sV (Value.nilIface:Value))) V0 hp:= by kernel_rfl
theorem F121_r1:R121 5 4 (upd e 0 (sV x0)) V0 hp K=
    (ifaceV x0 fun t1 v2 => mthF Tryd.prog t1 "Len" fun f3 => CF Tryd.prog f3 (v2 :: []) hp fun u4 h5 => intV u4 .i64 fun i6 => K (w5 e 0 (sV x0) 6 (sV x0) 7 (sI i6) 8 (sI ((wr (i6 - 1)))) 5 (sI ((wr (i6 - 1))))) V0 h5) := by kernel_rfl
theorem F121_r2:R121 23 3 (upd e 0 (sV x0)) V0 hp K=
    (ifaceV x0 fun t1 v2 => mthF Tryd.prog t1 "Pop" fun f3 => CF Tryd.prog f3 (v2 :: []) hp fun u4 h5 => K (w4 e 0 (sV x0) 24 (sV x0) 25 (sV u4) 4 (sV u4)) V0 h5) := by kernel_rfl
def F121_j1 (x0:Value) (hp:HP) (K:Kh):Prop:=
  (ifaceV x0 fun t7 v8 => mthF Tryd.prog t7 "Pop" fun f9 => CF Tryd.prog f9 (v8 :: []) hp fun u10 h11 => K u10 h11)
theorem F121_r3:R121 19 3 (w2 e 5 (sI x5) 1 (sI x1)) V0 hp K=
 K (w5 e 5 (sI x5) 1 (sI x1) 9 (sI x5) 10 (sI x1) 11 (sB ((x5 != x1)))) V0 hp:= by kernel_rfl
theorem F121_r4 (h:E=upd (w2 e 5 (sI x5) 1 (sI x1)) 0 (sV x0)):R121 75 4 E V0 hp K=
    (ifaceV x0 fun t1 v2 => mthF Tryd.prog t1 "Swap" fun f3 => CF Tryd.prog f3 (v2 :: [(.int .i64 x1),(.int .i64 x5)]) hp fun u4 h5 => K (w4 E 12 (sV x0) 13 (sI x1) 14 (sI x5) 15 (sV u4)) V0 h5) := by subst h; kernel_rfl
theorem F121_r5 (h:E=upd (w2 e 5 (sI x5) 1 (sI x1)) 0 (sV x0)):R121 171 5 E V0 hp K=
 CF Tryd.prog 137 [x0,(.int .i64 x1),(.int .i64 x5)] hp fun u1 h2=>(boolV u1 fun q3=>K (w5 E 16 (sV x0) 17 (sI x1) 18 (sI x5) 19 (sB q3) 20 (sB ((!q3)))) V0 h2):= by subst h; kernel_rfl
theorem F121_r6:R121 363 3 (w2 e 1 (sI x1) 0 (sV x0)) V0 hp K=
 CF Tryd.prog 136 [x0,(.int .i64 x1)] hp fun u1 h2=>(K (w5 e 1 (sI x1) 0 (sV x0) 21 (sV x0) 22 (sI x1) 23 (sV u1)) V0 h2):= by kernel_rfl
def F121 (x0:Value) (x1:Int) (hp:HP) (K:Kh):Prop:=
  (ifaceV x0 fun t1 v2 => mthF Tryd.prog t1 "Len" fun f3 => CF Tryd.prog f3 (v2 :: []) hp fun u4 h5 => intV u4 .i64 fun i6 => ite2 (((IntKind.wrap .i64 (i6 - 1)) : Int) != x1) (ifaceV x0 fun t12 v13 => mthF Tryd.prog t12 "Swap" fun f14 => CF Tryd.prog f14 (v13 :: [(.int .i64 x1),(.int .i64 (IntKind.wrap .i64 (i6 - 1)))]) h5 fun u15 h16 => CF Tryd.prog 137 [x0,(.int .i64 x1),(.int .i64 (IntKind.wrap .i64 (i6 - 1)))] h16 fun u17 h18 => boolV u17 fun q19 => ite2 (!q19) (CF Tryd.prog 136 [x0,(.int .i64 x1)] h18 fun u20 h21 => F121_j1 x0 h21  K) (F121_j1 x0 h18  K)) (F121_j1 x0 h5  K))
noncomputable abbrev o121 (k n:Nat):Code:=.region k (opsAt Tryd.f121 (pth n)) false
noncomputable def F121_code:Code:=(.seq (o121 0 2) (.seq (o121 1 5) (.seq (.seq (o121 2 19) (.cond (.tmp 11) (.seq (o121 3 75) (.seq (o121 4 171) (.cond (.tmp 20) (o121 5 363) .skip))) .skip)) (.seq (o121 6 23) .ret))))
theorem F121_body:Tryd.f121.body=some F121_code:=by kernel_rfl
theorem F121_ok (x0:Value) (x1:Int) (hp:HP) (K:Kh) (h:F121 x0 x1 hp K):CF Tryd.prog 121 [x0,(.int .i64 x1)] hp K:=by
 refine .inl ⟨by kernel_rfl,AC.intro (N:=26) Tryd.func121 F121_body rfl (Nat.le_of_ble_eq_true rfl) ?_⟩
 unfold F121 at h
 refine Ar F121_r0 ?_ (r2 0 1 Rn) (z2 Sn) Sn
 refine Ar F121_r1 ?_ (r2 0 1 Rn) (z2 Sn) Sn
 refine ifaceV_mono h fun t1 v2 h=>mthF_mono h fun f3 h=>mC h fun u4 h5 h=>mI h fun i6 h=>?_
 refine As (fun env pv hp=>∃ x0,Sub (upd E0 0 (sV x0)) env∧Sub V0 pv∧F121_j1 x0 hp  K) ?_ ?_
 ·refine Ar F121_r3 ?_ (r3 1 5 0 Rn) (z3 Sn) Sn
  refine Ac h rfl (fun h=>?_) (fun h=>?_)
  ·refine Ar (F121_r4 rfl) ?_ (r3 0 1 5 Rn) (z3 Sn) Sn
   refine ifaceV_mono h fun t12 v13 h=>mthF_mono h fun f14 h=>mC h fun u15 h16 h=>?_
   refine Ar (F121_r5 rfl) ?_ (r3 0 1 5 Rn) (z3 Sn) Sn
   refine mC h fun u17 h18 h=>mB h fun q19 h=>?_
   refine Ac h rfl (fun h=>?_) (fun h=>?_)
   ·refine Ag F121_r6 ?_ (r2 0 1 Rn) (z2 Sn) Sn
    refine mC h fun u20 h21 h=>?_
    exact ⟨_,(z1 Sn),Sn,h⟩
   ·refine AWP.skip ?_
    exact ⟨_,(z1 Sn),Sn,h⟩
  ·refine AWP.skip ?_
   exact ⟨_,(z1 Sn),Sn,h⟩
 ·rintro env pv hp ⟨x0,he,hv,h⟩
  refine Ae ?_ (r1 0 Rn) he hv
  unfold F121_j1 at h
  refine Ar F121_r2 ?_ (r1 0 Rn) (z1 Sn) Sn
  refine ifaceV_mono h fun t7 v8 h=>mthF_mono h fun f9 h=>mC h fun u10 h11 h=>?_
  refine AWP.ret ?_
  exact h
end
section
variable {e E:Env} {x0:Value} {x1 x4:Int} {hp:HP} {K:Env→PV→HP→Prop}
abbrev R136 (p n:Nat):=RW Tryd.prog 23 [] (opsAt Tryd.f136 (pth p)) (List.range n)
theorem F136_r0:R136 16 4 (upd e 1 (sI x1)) V0 hp K=
    (((2:Int)≠0)∧(K (w5 e 1 (sI x1) 5 (sI x1) 6 (sI ((wr (x1-1)))) 7 (sI ((wr (Int.tdiv (wr (x1-1)) 2)))) 4 (sI ((wr (Int.tdiv (wr (x1-1)) 2))))) V0 hp)):=by kernel_rfl
theorem F136_r1 (h:E=upd (w2 e 4 (sI x4) 1 (sI x1)) 0 (sV x0)):R136 88 4 E V0 hp K=
    (ifaceV x0 fun t1 v2 => mthF Tryd.prog t1 "Swap" fun f3 => CF Tryd.prog f3 (v2 :: [(.int .i64 x4),(.int .i64 x1)]) hp fun u4 h5 => K (w4 E 18 (sV x0) 19 (sI x4) 20 (sI x1) 21 (sV u4)) V0 h5) := by subst h; kernel_rfl
theorem F136_r2:R136 120 2 (upd e 4 (sI x4)) V0 hp K=
 K (w3 e 4 (sI x4) 22 (sI x4) 1 (sI x4)) V0 hp:= by kernel_rfl
def F136_j2 (x0:Value) (x1 x4:Int) (x17:Bool) (hp:HP) (I1:(Int)→HP→Prop) (K:Kh):Prop:=
  (ite2 x17 (K (.tuple ⟨[]⟩) hp) (ifaceV x0 fun t1 v2 => mthF Tryd.prog t1 "Swap" fun f3 => CF Tryd.prog f3 (v2 :: [(.int .i64 x4),(.int .i64 x1)]) hp fun u4 h5 => I1 x4 h5))
theorem F136_r3 (h:E=upd (w2 e 4 (sI x4) 1 (sI x1)) 0 (sV x0)):R136 72 10 E V0 hp K=
 ite2 (x4 == x1) (K (w2 (w8 E 8 (sI x4) 9 (sI x1) 10 (sB ((x4 == x1))) 11 (sB true) 12 sU 13 sU 14 sU 15 sU) 16 sU 17 (sB true)) V0 hp) (ifaceV x0 fun t1 v2 => mthF Tryd.prog t1 "Less" fun f3 => CF Tryd.prog f3 (v2 :: [(.int .i64 x1),(.int .i64 x4)]) hp fun u4 h5 => boolV u4 fun q6 => K (w2 (w8 E 8 (sI x4) 9 (sI x1) 10 (sB ((x4 == x1))) 11 (sB false) 12 (sV x0) 13 (sI x1) 14 (sI x4) 15 (sB q6)) 16 (sB ((!q6))) 17 (sB ((!q6)))) V0 h5):= by subst h; kernel_rfl
def F136_l1 (x0:Value) (K:Kh) (I1:(Int)→HP→Prop) (x1:Int) (hp:HP):Prop:=
  (((2 : Int) ≠ 0) ∧ (ite2 (((IntKind.wrap .i64 (Int.tdiv (IntKind.wrap .i64 (x1 - 1)) 2)) : Int) == x1) (F136_j2 x0 x1 (IntKind.wrap .i64 (Int.tdiv (IntKind.wrap .i64 (x1 - 1)) 2)) true hp I1 K) (ifaceV x0 fun t6 v7 => mthF Tryd.prog t6 "Less" fun f8 => CF Tryd.prog f8 (v7 :: [(.int .i64 x1),(.int .i64 (IntKind.wrap .i64 (Int.tdiv (IntKind.wrap .i64 (x1 - 1)) 2)))]) hp fun u9 h10 => boolV u9 fun q11 => F136_j2 x0 x1 (IntKind.wrap .i64 (Int.tdiv (IntKind.wrap .i64 (x1 - 1)) 2)) (!q11) h10 I1 K)))
def F136 (x0:Value) (x1:Int) (hp:HP) (K:Kh):Prop:=
  (LoopP (σ:=Int) (fun I s hp=>F136_l1 x0  K I s hp) x1 hp)
noncomputable def F136_code:Code:=(.block 0 (.loop (.block 1 (.seq (.region 0 (opsAt Tryd.f136 (pth 16)) false) (.seq (.seq (.region 1 (opsAt Tryd.f136 (pth 72)) false) (.cond (.tmp 17) (.exit 0) .skip)) (.seq (.region 2 (opsAt Tryd.f136 (pth 88)) false) (.region 3 (opsAt Tryd.f136 (pth 120)) false)))))))
theorem F136_body:Tryd.f136.body=some F136_code:=by kernel_rfl
theorem F136_ok (x0:Value) (x1:Int) (hp:HP) (K:Kh) (h:F136 x0 x1 hp K):CF Tryd.prog 136 [x0,(.int .i64 x1)] hp K:=by
 refine .inl ⟨by kernel_rfl,AC.intro (N:=23) Tryd.func136 F136_body rfl (Nat.le_of_ble_eq_true rfl) ?_⟩
 unfold F136 at h
 refine AWP.block (AWP.loop (σ:=Int) _ (fun s=>w2 E0 1 (sI s) 0 (sV x0)) (fun s=>V0) x1 h (fun s=>r2 0 1 Rn) (z2 Sn) Sn ?_)
 intro I1 x1 hp h
 replace h:F136_l1 x0  K I1 x1 hp:=h
 unfold F136_l1 at h
 refine AWP.block (Ar F136_r0 ?_ (r2 1 0 Rn) (z2 Sn) Sn)
 refine ⟨h.1,?_⟩
 replace h:=h.2
 refine Aq (As (fun env pv hp=>∃ x1 x4 x17,Sub (w4 E0 17 (sB x17) 4 (sI x4) 1 (sI x1) 0 (sV x0)) env∧Sub V0 pv∧F136_j2 x0 x1 x4 x17 hp I1 K) ?_ ?_)
 ·refine Ag (F136_r3 rfl) ?_ (r3 0 1 4 Rn) (z3 Sn) Sn
  refine mt h (fun h=>?_) (fun h=>?_)
  ·exact ⟨_,_,_,(z4 Sn),Sn,h⟩
  ·refine ifaceV_mono h fun t6 v7 h=>mthF_mono h fun f8 h=>mC h fun u9 h10 h=>mB h fun q11 h=>?_
   exact ⟨_,_,_,(z4 Sn),Sn,h⟩
 ·rintro env pv hp ⟨x1,x4,x17,he,hv,h⟩
  refine Ae ?_ (r4 0 1 4 17 Rn) he hv
  unfold F136_j2 at h
  refine Ac h rfl (fun h=>?_) (fun h=>?_)
  ·refine AWP.exit ?_
   exact h
  ·refine AWP.skip (Ar (F136_r1 rfl) ?_ (r3 0 1 4 Rn) (z3 Sn) Sn)
   refine ifaceV_mono h fun t1 v2 h=>mthF_mono h fun f3 h=>mC h fun u4 h5 h=>?_
   refine Ag F136_r2 ?_ (r2 4 0 Rn) (z2 Sn) Sn
   exact ⟨_,(z2 Sn),Sn,h⟩
end
section
variable {e E:Env} {x0:Value} {x1 x2 x7 x8 x9 x10:Int} {hp:HP} {K:Env→PV→HP→Prop}
abbrev R137 (p n:Nat):=RW Tryd.prog 48 [] (opsAt Tryd.f137 (pth p)) (List.range n)
theorem F137_r0:R137 2 1 e V0 hp K=
 K (upd e 6 (sB false)) V0 hp:= by kernel_rfl
theorem F137_r1:R137 23 4 (w2 e 7 (sI x7) 1 (sI x1)) V0 hp K=
 K (w6 e 7 (sI x7) 1 (sI x1) 45 (sI x7) 46 (sI x1) 47 (sB (decide (x7 > x1))) 6 (sB (decide (x7 > x1)))) V0 hp:= by kernel_rfl
def F137_j2 (x1 x7:Int) (hp:HP) (K:Kh):Prop:=
  (K (.bool (decide (x7 > x1))) hp)
theorem F137_r2:R137 131 4 (upd e 7 (sI x7)) V0 hp K=
 K (w5 e 7 (sI x7) 12 (sI x7) 13 (sI ((wr (2*x7)))) 14 (sI ((wr ((wr (2*x7))+1)))) 8 (sI ((wr ((wr (2*x7))+1))))) V0 hp:= by kernel_rfl
theorem F137_r3:R137 707 2 (upd e 8 (sI x8)) V0 hp K=
 K (w3 e 8 (sI x8) 22 (sI x8) 9 (sI x8)) V0 hp:= by kernel_rfl
theorem F137_r4 (h:E=upd (w2 e 9 (sI x9) 7 (sI x7)) 0 (sV x0)):R137 5059 5 E V0 hp K=
    (ifaceV x0 fun t1 v2 => mthF Tryd.prog t1 "Less" fun f3 => CF Tryd.prog f3 (v2 :: [(.int .i64 x9),(.int .i64 x7)]) hp fun u4 h5 => boolV u4 fun q6 => K (w5 E 35 (sV x0) 36 (sI x9) 37 (sI x7) 38 (sB q6) 39 (sB ((!q6)))) V0 h5) := by subst h; kernel_rfl
theorem F137_r5 (h:E=upd (w2 e 9 (sI x9) 7 (sI x7)) 0 (sV x0)):R137 6083 4 E V0 hp K=
    (ifaceV x0 fun t1 v2 => mthF Tryd.prog t1 "Swap" fun f3 => CF Tryd.prog f3 (v2 :: [(.int .i64 x7),(.int .i64 x9)]) hp fun u4 h5 => K (w4 E 40 (sV x0) 41 (sI x7) 42 (sI x9) 43 (sV u4)) V0 h5) := by subst h; kernel_rfl
theorem F137_r6:R137 8131 2 (upd e 9 (sI x9)) V0 hp K=
 K (w3 e 9 (sI x9) 44 (sI x9) 7 (sI x9)) V0 hp:= by kernel_rfl
def F137_j5 (x0:Value) (x1 x2 x7 x9:Int) (hp:HP) (I3:(Int)→HP→Prop) (K:Kh):Prop:=
  (ifaceV x0 fun t1 v2 => mthF Tryd.prog t1 "Less" fun f3 => CF Tryd.prog f3 (v2 :: [(.int .i64 x9),(.int .i64 x7)]) hp fun u4 h5 => boolV u4 fun q6 => ite2 (!q6) (F137_j2 x1 x7 h5  K) (ifaceV x0 fun t7 v8 => mthF Tryd.prog t7 "Swap" fun f9 => CF Tryd.prog f9 (v8 :: [(.int .i64 x7),(.int .i64 x9)]) h5 fun u10 h11 => I3 x9 h11))
theorem F137_r7:R137 2499 3 (upd e 8 (sI x8)) V0 hp K=
 K (w4 e 8 (sI x8) 23 (sI x8) 24 (sI ((wr (x8+1)))) 10 (sI ((wr (x8+1))))) V0 hp:= by kernel_rfl
theorem F137_r8:R137 11715 2 (upd e 10 (sI x10)) V0 hp K=
 K (w3 e 10 (sI x10) 34 (sI x10) 9 (sI x10)) V0 hp:= by kernel_rfl
def F137_j6 (x0:Value) (x1 x2 x7 x9 x10:Int) (x33:Bool) (hp:HP) (I3:(Int)→HP→Prop) (K:Kh):Prop:=
  (ite2 x33 (F137_j5 x0 x1 x2 x7 x10 hp I3 K) (F137_j5 x0 x1 x2 x7 x9 hp I3 K))
theorem F137_r9 (h:E=upd (w3 e 10 (sI x10) 8 (sI x8) 2 (sI x2)) 0 (sV x0)):R137 5571 9 E V0 hp K=
 ite2 (decide (x10 < x2)) (ifaceV x0 fun t1 v2 => mthF Tryd.prog t1 "Less" fun f3 => CF Tryd.prog f3 (v2 :: [(.int .i64 x10),(.int .i64 x8)]) hp fun u4 h5 => boolV u4 fun q6 => K (upd (w8 E 25 (sI x10) 26 (sI x2) 27 (sB (decide (x10 < x2))) 28 (sB true) 29 (sV x0) 30 (sI x10) 31 (sI x8) 32 (sB q6)) 33 (sB q6)) V0 h5) (K (upd (w8 E 25 (sI x10) 26 (sI x2) 27 (sB (decide (x10 < x2))) 28 (sB false) 29 sU 30 sU 31 sU 32 sU) 33 (sB false)) V0 hp):= by subst h; kernel_rfl
def F137_j4 (x0:Value) (x1 x2 x7 x8:Int) (x21:Bool) (hp:HP) (I3:(Int)→HP→Prop) (K:Kh):Prop:=
  (ite2 x21 (F137_j2 x1 x7 hp  K) (ite2 (decide (((IntKind.wrap .i64 (x8 + 1)) : Int) < x2)) (ifaceV x0 fun t12 v13 => mthF Tryd.prog t12 "Less" fun f14 => CF Tryd.prog f14 (v13 :: [(.int .i64 (IntKind.wrap .i64 (x8 + 1))),(.int .i64 x8)]) hp fun u15 h16 => boolV u15 fun q17 => F137_j6 x0 x1 x2 x7 x8 (IntKind.wrap .i64 (x8 + 1)) q17 h16 I3 K) (F137_j6 x0 x1 x2 x7 x8 (IntKind.wrap .i64 (x8 + 1)) false hp I3 K)))
theorem F137_r10 (h:E=upd (upd e 8 (sI x8)) 2 (sI x2)):R137 579 7 E V0 hp K=
 ite2 (decide (x8≥x2)) (K (w7 E 15 (sI x8) 16 (sI x2) 17 (sB (decide (x8≥x2))) 18 (sB true) 19 sU 20 sU 21 (sB true)) V0 hp) (K (w7 E 15 (sI x8) 16 (sI x2) 17 (sB (decide (x8≥x2))) 18 (sB false) 19 (sI x8) 20 (sB (decide (x8<0))) 21 (sB (decide (x8<0)))) V0 hp):= by subst h; kernel_rfl
def F137_l3 (x0:Value) (x1 x2:Int) (K:Kh) (I3:(Int)→HP→Prop) (x7:Int) (hp:HP):Prop:=
  (ite2 (decide (((IntKind.wrap .i64 ((IntKind.wrap .i64 (2*x7))+1)):Int)≥x2)) (F137_j4 x0 x1 x2 x7 (IntKind.wrap .i64 ((IntKind.wrap .i64 (2*x7))+1)) true hp I3 K) (F137_j4 x0 x1 x2 x7 (IntKind.wrap .i64 ((IntKind.wrap .i64 (2*x7))+1)) (decide (((IntKind.wrap .i64 ((IntKind.wrap .i64 (2*x7))+1)):Int)<0)) hp I3 K))
def F137_j1 (x0:Value) (x1 x2 x7:Int) (hp:HP) (K:Kh):Prop:=
  (LoopP (σ:=Int) (fun I s hp=>F137_l3 x0 x1 x2  K I s hp) x7 hp)
theorem F137_r11:R137 5 2 (upd e 1 (sI x1)) V0 hp K=
 K (w3 e 1 (sI x1) 11 (sI x1) 7 (sI x1)) V0 hp:= by kernel_rfl
def F137 (x0:Value) (x1 x2:Int) (hp:HP) (K:Kh):Prop:=
  (F137_j1 x0 x1 x2 x1 hp  K)
noncomputable abbrev o137 (k n:Nat):Code:=.region k (opsAt Tryd.f137 (pth n)) false
noncomputable def F137_code:Code:=(.seq (o137 0 2) (.seq (o137 1 5) (.seq (.block 0 (.loop (.block 1 (.seq (o137 2 131) (.seq (.seq (o137 3 579) (.cond (.tmp 21) (.exit 0) .skip)) (.seq (o137 4 707) (.seq (.seq (o137 5 2499) (.seq (o137 6 5571) (.cond (.tmp 33) (o137 7 11715) .skip))) (.seq (.seq (o137 8 5059) (.cond (.tmp 39) (.exit 0) .skip)) (.seq (o137 9 6083) (o137 10 8131)))))))))) (.seq (o137 11 23) .ret))))
theorem F137_body:Tryd.f137.body=some F137_code:=by kernel_rfl
theorem F137_ok (x0:Value) (x1 x2:Int) (hp:HP) (K:Kh) (h:F137 x0 x1 x2 hp K):CF Tryd.prog 137 [x0,(.int .i64 x1),(.int .i64 x2)] hp K:=by
 refine .inl ⟨by kernel_rfl,AC.intro (N:=48) Tryd.func137 F137_body rfl (Nat.le_of_ble_eq_true rfl) ?_⟩
 unfold F137 at h
 refine Ar F137_r0 ?_ (r3 0 1 2 Rn) (z3 Sn) Sn
 refine As (fun env pv hp=>∃ x0 x1 x2 x7,Sub (w4 E0 7 (sI x7) 2 (sI x2) 1 (sI x1) 0 (sV x0)) env∧Sub V0 pv∧F137_j1 x0 x1 x2 x7 hp  K) ?_ ?_
 ·refine Ag F137_r11 ?_ (r3 1 0 2 Rn) (z3 Sn) Sn
  exact ⟨_,_,_,_,(z4 Sn),Sn,h⟩
 ·rintro env pv hp ⟨x0,x1,x2,x7,he,hv,h⟩
  refine Ae ?_ (r4 0 1 2 7 Rn) he hv
  unfold F137_j1 at h
  refine As (fun env pv hp=>∃ x1 x7,Sub (w2 E0 7 (sI x7) 1 (sI x1)) env∧Sub V0 pv∧F137_j2 x1 x7 hp  K) ?_ ?_
  ·refine AWP.block (AWP.loop (σ:=Int) _ (fun s=>w4 E0 7 (sI s) 2 (sI x2) 1 (sI x1) 0 (sV x0)) (fun s=>V0) x7 h (fun s=>r4 0 1 2 7 Rn) (z4 Sn) Sn ?_)
   intro I3 x7 hp h
   replace h:F137_l3 x0 x1 x2  K I3 x7 hp:=h
   unfold F137_l3 at h
   refine AWP.block (Ar F137_r2 ?_ (r4 7 0 1 2 Rn) (z4 Sn) Sn)
   refine Aq (As (fun env pv hp=>∃ x7 x8 x21,Sub (w6 E0 21 (sB x21) 8 (sI x8) 7 (sI x7) 2 (sI x2) 1 (sI x1) 0 (sV x0)) env∧Sub V0 pv∧F137_j4 x0 x1 x2 x7 x8 x21 hp I3 K) ?_ ?_)
   ·refine Ag (F137_r10 rfl) ?_ (r5 2 8 0 1 7 Rn) (z5 Sn) Sn
    refine mt h (fun h=>?_) (fun h=>?_)
    ·exact ⟨_,_,_,(z6 Sn),Sn,h⟩
    ·exact ⟨_,_,_,(z6 Sn),Sn,h⟩
   ·rintro env pv hp ⟨x7,x8,x21,he,hv,h⟩
    refine Ae ?_ (r6 0 1 2 7 8 21 Rn) he hv
    unfold F137_j4 at h
    refine Ac h rfl (fun h=>?_) (fun h=>?_)
    ·refine AWP.exit ?_
     exact ⟨_,_,(z2 Sn),Sn,h⟩
    ·refine AWP.skip (Ar F137_r3 ?_ (r5 8 0 1 2 7 Rn) (z5 Sn) Sn)
     refine As (fun env pv hp=>∃ x7 x9,Sub (w5 E0 9 (sI x9) 7 (sI x7) 2 (sI x2) 1 (sI x1) 0 (sV x0)) env∧Sub V0 pv∧F137_j5 x0 x1 x2 x7 x9 hp I3 K) ?_ ?_
     ·refine Ar F137_r7 ?_ (r6 8 0 1 2 7 9 Rn) (z6 Sn) Sn
      refine As (fun env pv hp=>∃ x7 x9 x10 x33,Sub (w7 E0 33 (sB x33) 10 (sI x10) 9 (sI x9) 7 (sI x7) 2 (sI x2) 1 (sI x1) 0 (sV x0)) env∧Sub V0 pv∧F137_j6 x0 x1 x2 x7 x9 x10 x33 hp I3 K) ?_ ?_
      ·refine Ag (F137_r9 rfl) ?_ (r7 0 2 8 10 1 7 9 Rn) (z7 Sn) Sn
       refine mt h (fun h=>?_) (fun h=>?_)
       ·refine ifaceV_mono h fun t12 v13 h=>mthF_mono h fun f14 h=>mC h fun u15 h16 h=>mB h fun q17 h=>?_
        exact ⟨_,_,_,_,(z7 Sn),Sn,h⟩
       ·exact ⟨_,_,_,_,(z7 Sn),Sn,h⟩
      ·rintro env pv hp ⟨x7,x9,x10,x33,he,hv,h⟩
       refine Ae ?_ (r7 0 1 2 7 9 10 33 Rn) he hv
       unfold F137_j6 at h
       refine Ac h rfl (fun h=>?_) (fun h=>?_)
       ·refine Ag F137_r8 ?_ (r5 10 0 1 2 7 Rn) (z5 Sn) Sn
        exact ⟨_,_,(z5 Sn),Sn,h⟩
       ·refine AWP.skip ?_
        exact ⟨_,_,(z5 Sn),Sn,h⟩
     ·rintro env pv hp ⟨x7,x9,he,hv,h⟩
      refine Ae ?_ (r5 0 1 2 7 9 Rn) he hv
      unfold F137_j5 at h
      refine Aq (Ar (F137_r4 rfl) ?_ (r5 0 7 9 1 2 Rn) (z5 Sn) Sn)
      refine ifaceV_mono h fun t1 v2 h=>mthF_mono h fun f3 h=>mC h fun u4 h5 h=>mB h fun q6 h=>?_
      refine Ac h rfl (fun h=>?_) (fun h=>?_)
      ·refine AWP.exit ?_
       exact ⟨_,_,(z2 Sn),Sn,h⟩
      ·refine AWP.skip (Ar (F137_r5 rfl) ?_ (r5 0 7 9 1 2 Rn) (z5 Sn) Sn)
       refine ifaceV_mono h fun t7 v8 h=>mthF_mono h fun f9 h=>mC h fun u10 h11 h=>?_
       refine Ag F137_r6 ?_ (r4 9 0 1 2 Rn) (z4 Sn) Sn
       exact ⟨_,(z4 Sn),Sn,h⟩
  ·rintro env pv hp ⟨x1,x7,he,hv,h⟩
   refine Ae ?_ (r2 1 7 Rn) he hv
   unfold F137_j2 at h
   refine Ar F137_r1 ?_ (r2 1 7 Rn) (z2 Sn) Sn
   refine AWP.ret ?_
   exact h
end
section
variable {e E:Env} {x0:OA} {x1 x2:Int} {hp:HP} {K:Env→PV→HP→Prop}
abbrev R216 (p n:Nat):=RW Tryd.prog 22 [] (opsAt Tryd.f216 (pth p)) (List.range n)
theorem F216_r0:R216 2 1 e V0 hp K=
 K (upd e 6 (sB false)) V0 hp:= by kernel_rfl
theorem F216_r1 (h:E=upd (w2 e 2 (sI x2) 1 (sI x1)) 0 (sP x0)):R216 5 16 E V0 hp K=
    (ptrN x0 fun b1 o2=>ldV (HP.cell hp b1 (o2+0)) fun v3=>slcV v3 fun a4 n5 c6=>(0≤x1)∧(x1<n5)∧(ptrN a4 fun b7 o8=>ldL (HP.cellN hp b7 (o8+Int.toNat x1*2) 2) fun l9=>ptrN x0 fun b10 o11=>ldV (HP.cell hp b10 (o11+0)) fun v12=>slcV v12 fun a13 n14 c15=>(0≤x2)∧(x2<n14)∧(ptrN a13 fun b16 o17=>ldL (HP.cellN hp b16 (o17+Int.toNat x2*2) 2) fun l18=>CF Tryd.prog 220 [(.agg ⟨l9⟩),(.agg ⟨l18⟩)] hp fun u19 h20=>boolV u19 fun q21=>K (w8 (w8 E 7 (sP x0) 8 (sQ b1 o2) 9 (sQ b1 (o2+0)) 10 (sS a4 n5 c6) 11 (sI x1) 12 (sQ b7 (o8+Int.toNat x1*2)) 13 (sA l9) 14 (sP x0)) 15 (sQ b10 o11) 16 (sQ b10 (o11+0)) 17 (sS a13 n14 c15) 18 (sI x2) 19 (sQ b16 (o17+Int.toNat x2*2)) 20 (sA l18) 21 (sB q21) 6 (sB q21)) V0 h20))):=by subst h; kernel_rfl
def F216 (x0:OA) (x1 x2:Int) (hp:HP) (K:Kh):Prop:=
  (ptrN x0 fun b1 o2=>ldV (HP.cell hp b1 (o2+0)) fun v3=>slcV v3 fun a4 n5 c6=>(0≤x1)∧(x1<n5)∧(ptrN a4 fun b7 o8=>ldL (HP.cellN hp b7 (o8+Int.toNat x1*2) 2) fun l9=>ptrN x0 fun b10 o11=>ldV (HP.cell hp b10 (o11+0)) fun v12=>slcV v12 fun a13 n14 c15=>(0≤x2)∧(x2<n14)∧(ptrN a13 fun b16 o17=>ldL (HP.cellN hp b16 (o17+Int.toNat x2*2) 2) fun l18=>CF Tryd.prog 220 [(.agg ⟨l9⟩),(.agg ⟨l18⟩)] hp fun u19 h20=>boolV u19 fun q21=>K (.bool q21) h20)))
noncomputable def F216_code:Code:=(.seq (.region 0 (opsAt Tryd.f216 (pth 2)) false) (.seq (.region 1 (opsAt Tryd.f216 (pth 5)) true) .ret))
theorem F216_body:Tryd.f216.body=some F216_code:=by kernel_rfl
theorem F216_ok (x0:OA) (x1 x2:Int) (hp:HP) (K:Kh) (h:F216 x0 x1 x2 hp K):CF Tryd.prog 216 [(.pointer x0),(.int .i64 x1),(.int .i64 x2)] hp K:=by
 refine .inl ⟨by kernel_rfl,AC.intro (N:=22) Tryd.func216 F216_body rfl (Nat.le_of_ble_eq_true rfl) ?_⟩
 unfold F216 at h
 refine Ar F216_r0 ?_ (r3 0 1 2 Rn) (z3 Sn) Sn
 refine Aq (AWP.rgnD (by kernel_rfl) (by kernel_rfl) (F216_r1 rfl) ?_ (r3 0 1 2 Rn) (z3 Sn) Sn)
 refine mN h (fun b1 o2 h=>mV h (fun v3 h=>mS h (fun a4 n5 c6 h=>⟨h.1,h.2.1,mN h.2.2 (fun b7 o8 h=>mL h (fun l9 h=>mN h (fun b10 o11 h=>mV h (fun v12 h=>mS h (fun a13 n14 c15 h=>⟨h.1,h.2.1,mN h.2.2 fun b16 o17 h=>mL h fun l18 h=>mC h fun u19 h20 h=>mB h fun q21 h=>?_⟩)))))⟩)))
 refine AWP.ret ?_
 exact h
end
section
variable {e:Env} {x0:OA} {x3:Int} {k4:List Value} {hp:HP} {K:Env→PV→HP→Prop}
abbrev R217 (p n:Nat):=RW Tryd.prog 35 [4,31] (opsAt Tryd.f217 (pth p)) (List.range n)
theorem F217_r0:R217 2 1 e V0 hp K=
 K (upd e 2 (sV (Value.nilIface:Value))) V0 hp:= by kernel_rfl
theorem F217_r1:R217 5 7 (upd e 0 (sP x0)) V0 hp K=
 ptrN x0 fun b1 o2=>(ldV (HP.cell hp b1 (o2+0)) fun v3=>slcV v3 fun a4 n5 c6=>K (w8 e 0 (sP x0) 5 (sP x0) 6 (sQ b1 o2) 7 (sQ b1 (o2+0)) 8 (sS a4 n5 c6) 9 (sI ((n5:Nat))) 10 (sI ((wr ((n5:Nat)-1)))) 3 (sI ((wr ((n5:Nat)-1))))) V0 hp):= by kernel_rfl
theorem F217_r2:R217 11 9 (w2 e 3 (sI x3) 0 (sP x0)) V0 hp K=
    (ptrN x0 fun b1 o2=>ldV (HP.cell hp b1 (o2+0)) fun v3=>slcV v3 fun a4 n5 c6=>(0≤x3)∧(x3<n5)∧(ptrN a4 fun b7 o8=>ldL (HP.cellN hp b7 (o8+Int.toNat x3*2) 2) fun l9=>if List.length l9=2 then (if List.all l9 one=true then (if 0+List.length l9≤List.length [(Value.int .i64 0),.int .i64 0] then (K (w2 (w8 e 3 (sI x3) 0 (sP x0) 11 (sP x0) 12 (sQ b1 o2) 13 (sQ b1 (o2+0)) 14 (sS a4 n5 c6) 15 (sI x3) 16 (sQ b7 (o8+Int.toNat x3*2))) 17 (sA l9) 4 (sR 4 0)) (w2 V0 4 (202,[.int .i64 0,.int .i64 0]) 4 (202,(splice [.int .i64 0,.int .i64 0] 0 l9))) hp) else False) else False) else False)):=by kernel_rfl
theorem F217_r3:R217 23 10 (w2 e 3 (sI x3) 0 (sP x0)) (upd V0 4 (202,k4)) hp K=
    (ptrN x0 fun b1 o2=>ldV (HP.cell hp b1 (o2+0)) fun v3=>slcV v3 fun a4 n5 c6=>(0≤x3)∧(x3≤(c6:Nat))∧(ptrN x0 fun b7 o8=>HP.st hp b7 (o8+0) (.slice a4 (Int.toNat x3) c6) fun h9=>K (w3 (w8 e 3 (sI x3) 0 (sP x0) 18 (sP x0) 19 (sP x0) 20 (sQ b1 o2) 21 (sQ b1 (o2+0)) 22 (sS a4 n5 c6) 23 (sI x3)) 24 (sV (.slice a4 (Int.toNat x3) c6)) 25 (sQ b7 o8) 26 (sQ b7 (o8+0))) (upd V0 4 (202,k4)) h9)):=by kernel_rfl
theorem F217_r4:R217 47 7 (w2 e 4 (sR 4 0) 0 (sP x0)) (upd V0 4 (202,k4)) hp K=
 ptrN x0 fun b1 o2=>(ldV (HP.cell hp b1 (o2+1)) fun v3=>mapV v3 fun m4=>ldV (k4)[0]? fun v5=>intV v5 .i64 fun i6=>opS Tryd.prog (Builtin.delete_ #[117,3] 0 ⟨[(.map m4),(.int .i64 i6)]⟩) hp fun u7 h8=>K (w8 e 4 (sR 4 0) 0 (sP x0) 27 (sP x0) 28 (sQ b1 o2) 29 (sQ b1 (o2+1)) 30 (sV (.map m4)) 31 (sR 4 0) 32 (sI i6)) (upd V0 4 (202,k4)) h8):= by kernel_rfl
theorem F217_r5:R217 95 3 (upd e 4 (sR 4 0)) (upd V0 4 (202,k4)) hp K=
 ldL (cellsN k4 0 2) fun l1=>(K (w4 e 4 (sR 4 0) 33 (sA l1) 34 (sV (.iface 202 (.agg ⟨l1⟩))) 2 (sV (.iface 202 (.agg ⟨l1⟩)))) (upd V0 4 (202,k4)) hp):= by kernel_rfl
def F217 (x0:OA) (hp:HP) (K:Kh):Prop:=
  (ptrN x0 fun b1 o2=>ldV (HP.cell hp b1 (o2+0)) fun v3=>slcV v3 fun a4 n5 c6=>ptrN x0 fun b7 o8=>ldV (HP.cell hp b7 (o8+0)) fun v9=>slcV v9 fun a10 n11 c12=>(0≤((IntKind.wrap .i64 ((n5:Nat)-1)):Int))∧(((IntKind.wrap .i64 ((n5:Nat)-1)):Int)<n11)∧(ptrN a10 fun b13 o14=>ldL (HP.cellN hp b13 (o14+Int.toNat (IntKind.wrap .i64 ((n5:Nat)-1))*2) 2) fun l15=>if List.length l15=2 then (if List.all l15 one=true then (if 0+List.length l15≤List.length [(Value.int .i64 0),.int .i64 0] then (ptrN x0 fun b16 o17=>ldV (HP.cell hp b16 (o17+0)) fun v18=>slcV v18 fun a19 n20 c21=>(0≤((IntKind.wrap .i64 ((n5:Nat)-1)):Int))∧(((IntKind.wrap .i64 ((n5:Nat)-1)):Int)≤(c21:Nat))∧(ptrN x0 fun b22 o23=>HP.st hp b22 (o23+0) (.slice a19 (Int.toNat (IntKind.wrap .i64 ((n5:Nat)-1))) c21) fun h24=>ptrN x0 fun b25 o26=>ldV (HP.cell h24 b25 (o26+1)) fun v27=>mapV v27 fun m28=>ldV ((splice [.int .i64 0,.int .i64 0] 0 l15))[0]? fun v29=>intV v29 .i64 fun i30=>opS Tryd.prog (Builtin.delete_ #[117,3] 0 ⟨[(.map m28),(.int .i64 i30)]⟩) h24 fun u31 h32=>ldL (cellsN (splice [.int .i64 0,.int .i64 0] 0 l15) 0 2) fun l33=>K (.iface 202 (.agg ⟨l33⟩)) h32)) else False) else False) else False))
noncomputable abbrev o217 (k n:Nat):Code:=.region k (opsAt Tryd.f217 (pth n)) false
noncomputable def F217_code:Code:=(.seq (o217 0 2) (.seq (o217 1 5) (.seq (o217 2 11) (.seq (o217 3 23) (.seq (.region 4 (opsAt Tryd.f217 (pth 47)) true) (.seq (o217 5 95) .ret))))))
theorem F217_body:Tryd.f217.body=some F217_code:=by kernel_rfl
theorem F217_ok (x0:OA) (hp:HP) (K:Kh) (h:F217 x0 hp K):CF Tryd.prog 217 [(.pointer x0)] hp K:=by
 refine .inl ⟨by kernel_rfl,AC.intro (N:=35) Tryd.func217 F217_body rfl (Nat.le_of_ble_eq_true rfl) ?_⟩
 unfold F217 at h
 refine Ar F217_r0 ?_ (r1 0 Rn) (z1 Sn) Sn
 refine Ar F217_r1 ?_ (r1 0 Rn) (z1 Sn) Sn
 refine mN h fun b1 o2 h=>mV h fun v3 h=>mS h fun a4 n5 c6 h=>?_
 refine Ar F217_r2 ?_ (r2 0 3 Rn) (z2 Sn) Sn
 refine mN h (fun b7 o8 h=>mV h (fun v9 h=>mS h (fun a10 n11 c12 h=>⟨h.1,h.2.1,mN h.2.2 fun b13 o14 h=>mL h fun l15 h=>mf h fun h=>mf h fun h=>mf h fun h=>?_⟩)))
 refine Ar F217_r3 ?_ (r2 0 3 (rp 4 4 0 Rn)) (z3 Sn) (z1 Sn)
 refine mN h (fun b16 o17 h=>mV h (fun v18 h=>mS h (fun a19 n20 c21 h=>⟨h.1,h.2.1,mN h.2.2 fun b22 o23 h=>mw h fun h24 h=>?_⟩)))
 refine Aq (AWP.rgnD (by kernel_rfl) (by kernel_rfl) F217_r4 ?_ (r1 0 (rp 4 4 0 Rn)) (z2 Sn) (z1 Sn))
 refine mN h fun b25 o26 h=>mV h fun v27 h=>mM h fun m28 h=>mV h fun v29 h=>mI h fun i30 h=>mO h fun u31 h32 h=>?_
 refine Ar F217_r5 ?_ (rp 4 4 0 Rn) (z1 Sn) (z1 Sn)
 refine mL h fun l33 h=>?_
 refine AWP.ret ?_
 exact h
end
section
variable {e:Env} {x0:OA} {x1:Value} {k4:List Value} {hp:HP} {K:Env→PV→HP→Prop}
abbrev R218 (p n:Nat):=RW Tryd.prog 28 [4,11] (opsAt Tryd.f218 (pth p)) (List.range n)
theorem F218_r0:R218 2 4 (upd e 1 (sV x1)) V0 hp K=
    (rdS Tryd.prog (Instr.typeAssert x1 20 202 false) hp fun u1=>aggV u1 fun l2=>if List.length l2=2 then (if List.all l2 one=true then (if 0+List.length l2≤List.length [(Value.int .i64 0),.int .i64 0] then (K (w4 e 1 (sV x1) 5 (sV x1) 6 (sA l2) 4 (sR 4 0)) (w2 V0 4 (202,[.int .i64 0,.int .i64 0]) 4 (202,(splice [.int .i64 0,.int .i64 0] 0 l2))) hp) else False) else False) else False):=by kernel_rfl
theorem F218_r1:R218 5 12 (w2 e 4 (sR 4 0) 0 (sP x0)) (upd V0 4 (202,k4)) hp K=
 ptrN x0 fun b1 o2=>(ldV (HP.cell hp b1 (o2+1)) fun v3=>mapV v3 fun m4=>ldV (k4)[0]? fun v5=>intV v5 .i64 fun i6=>ptrN x0 fun b7 o8=>ldV (HP.cell hp b7 (o8+0)) fun v9=>slcV v9 fun a10 n11 c12=>opS Tryd.prog (Instr.mapUpdate 117 (.map m4) (.int .i64 i6) (.int .i64 (n11:Nat))) hp fun u13 h14=>K (w5 (w8 e 4 (sR 4 0) 0 (sP x0) 7 (sP x0) 8 (sQ b1 o2) 9 (sQ b1 (o2+1)) 10 (sV (.map m4)) 11 (sR 4 0) 12 (sI i6)) 13 (sP x0) 14 (sQ b7 o8) 15 (sQ b7 (o8+0)) 16 (sS a10 n11 c12) 17 (sI ((n11:Nat)))) (upd V0 4 (202,k4)) h14):= by kernel_rfl
theorem F218_r2 {e:Env} {x0:OA} {k4:List Value} {hp:HP} {K:Env→PV→HP→Prop}:RW Tryd.prog 28 [4,11] (opsAt Tryd.f218 (pth 7)) [0,1,2,3,4,5,6,7,8,9,10] (w2 e 4 (sR 4 0) 0 (sP x0)) (upd V0 4 (202,k4)) hp K=
 ptrN x0 fun b1 o2=>(ldV (HP.cell hp b1 (o2+0)) fun v3=>slcV v3 fun a4 n5 c6=>ldL (cellsN k4 0 2) fun l7=>if List.length l7=2 then (∀ b8:Nat,hp b8=.none→(opS Tryd.prog (Builtin.append_ #[189,189] 189 ⟨[(.slice a4 n5 c6),(.slice (some ⟨b8,0,none⟩) 1 1)]⟩) (HP.set hp b8 (.cells 202 (splice [.int .i64 0,.int .i64 0] 0 l7) 0)) fun u9 h10=>slcV u9 fun a11 n12 c13=>ptrN x0 fun b14 o15=>HP.st h10 b14 (o15+0) (.slice a11 n12 c13) fun h16=>K (w4 (w8 e 4 (sR 4 0) 0 (sP x0) 18 (sP x0) 19 (sP x0) 20 (sQ b1 o2) 21 (sQ b1 (o2+0)) 22 (sS a4 n5 c6) 23 (sA l7)) 24 (sV (.slice (some ⟨b8,0,none⟩) 1 1)) 25 (sS a11 n12 c13) 26 (sQ b14 o15) 27 (sQ b14 (o15+0))) (upd V0 4 (202,k4)) h16)) else False):= by kernel_rfl
theorem F218_r3 {e:Env} {x0:OA} {k4:List Value} {hp:HP} {K:Env→PV→HP→Prop}:RW Tryd.prog 28 [4,11] (opsAt Tryd.f218 (pth 7)) [0,1,2,3,5,6,4,7,8,9,10] (w2 e 4 (sR 4 0) 0 (sP x0)) (upd V0 4 (202,k4)) hp K=
 ptrN x0 fun b1 o2=>(ldL (cellsN k4 0 2) fun l3=>if List.length l3=2 then (∀ b4:Nat,hp b4=.none→(ldV (HP.cell (HP.set hp b4 (.cells 202 (splice [.int .i64 0,.int .i64 0] 0 l3) 0)) b1 (o2+0)) fun v5=>slcV v5 fun a6 n7 c8=>opS Tryd.prog (Builtin.append_ #[189,189] 189 ⟨[(.slice a6 n7 c8),(.slice (some ⟨b4,0,none⟩) 1 1)]⟩) (HP.set hp b4 (.cells 202 (splice [.int .i64 0,.int .i64 0] 0 l3) 0)) fun u9 h10=>slcV u9 fun a11 n12 c13=>ptrN x0 fun b14 o15=>HP.st h10 b14 (o15+0) (.slice a11 n12 c13) fun h16=>K (w4 (w8 e 4 (sR 4 0) 0 (sP x0) 18 (sP x0) 19 (sP x0) 20 (sQ b1 o2) 21 (sQ b1 (o2+0)) 23 (sA l3) 24 (sV (.slice (some ⟨b4,0,none⟩) 1 1))) 22 (sS a6 n7 c8) 25 (sS a11 n12 c13) 26 (sQ b14 o15) 27 (sQ b14 (o15+0))) (upd V0 4 (202,k4)) h16)) else False):= by kernel_rfl
def F218 (x0:OA) (x1:Value) (hp:HP) (K:Kh):Prop:=
  (rdS Tryd.prog (Instr.typeAssert x1 20 202 false) hp fun u1=>aggV u1 fun l2=>if List.length l2=2 then (if List.all l2 one=true then (if 0+List.length l2≤List.length [(Value.int .i64 0),.int .i64 0] then (ptrN x0 fun b3 o4=>ldV (HP.cell hp b3 (o4+1)) fun v5=>mapV v5 fun m6=>ldV ((splice [.int .i64 0,.int .i64 0] 0 l2))[0]? fun v7=>intV v7 .i64 fun i8=>ptrN x0 fun b9 o10=>ldV (HP.cell hp b9 (o10+0)) fun v11=>slcV v11 fun a12 n13 c14=>opS Tryd.prog (Instr.mapUpdate 117 (.map m6) (.int .i64 i8) (.int .i64 (n13:Nat))) hp fun u15 h16=>(ptrN x0 fun b17 o18=>ldV (HP.cell h16 b17 (o18+0)) fun v19=>slcV v19 fun a20 n21 c22=>ldL (cellsN (splice [.int .i64 0,.int .i64 0] 0 l2) 0 2) fun l23=>if List.length l23=2 then (∀ b24:Nat,h16 b24=.none→(opS Tryd.prog (Builtin.append_ #[189,189] 189 ⟨[(.slice a20 n21 c22),(.slice (some ⟨b24,0,none⟩) 1 1)]⟩) (HP.set h16 b24 (.cells 202 (splice [.int .i64 0,.int .i64 0] 0 l23) 0)) fun u25 h26=>slcV u25 fun a27 n28 c29=>ptrN x0 fun b30 o31=>HP.st h26 b30 (o31+0) (.slice a27 n28 c29) fun h32=>K (.tuple ⟨[]⟩) h32)) else False)∧(ptrN x0 fun b33 o34=>ldL (cellsN (splice [.int .i64 0,.int .i64 0] 0 l2) 0 2) fun l35=>if List.length l35=2 then (∀ b36:Nat,h16 b36=.none→(ldV (HP.cell (HP.set h16 b36 (.cells 202 (splice [.int .i64 0,.int .i64 0] 0 l35) 0)) b33 (o34+0)) fun v37=>slcV v37 fun a38 n39 c40=>opS Tryd.prog (Builtin.append_ #[189,189] 189 ⟨[(.slice a38 n39 c40),(.slice (some ⟨b36,0,none⟩) 1 1)]⟩) (HP.set h16 b36 (.cells 202 (splice [.int .i64 0,.int .i64 0] 0 l35) 0)) fun u41 h42=>slcV u41 fun a43 n44 c45=>ptrN x0 fun b46 o47=>HP.st h42 b46 (o47+0) (.slice a43 n44 c45) fun h48=>K (.tuple ⟨[]⟩) h48)) else False)) else False) else False) else False)
noncomputable def F218_code:Code:=(.seq (.region 0 (opsAt Tryd.f218 (pth 2)) false) (.seq (.region 1 (opsAt Tryd.f218 (pth 5)) true) (.region 2 (opsAt Tryd.f218 (pth 7)) true)))
theorem F218_body:Tryd.f218.body=some F218_code:=by kernel_rfl
theorem F218_ok (x0:OA) (x1:Value) (hp:HP) (K:Kh) (h:F218 x0 x1 hp K):CF Tryd.prog 218 [(.pointer x0),x1] hp K:=by
 refine .inl ⟨by kernel_rfl,AC.intro (N:=28) Tryd.func218 F218_body rfl (Nat.le_of_ble_eq_true rfl) ?_⟩
 unfold F218 at h
 refine Ar F218_r0 ?_ (r2 1 0 Rn) (z2 Sn) Sn
 refine mR h fun u1 h=>mA h fun l2 h=>mf h fun h=>mf h fun h=>mf h fun h=>?_
 refine Aq (AWP.rgnD (by kernel_rfl) (by kernel_rfl) F218_r1 ?_ (r1 0 (rp 4 4 0 Rn)) (z2 Sn) (z1 Sn))
 refine mN h fun b3 o4 h=>mV h fun v5 h=>mM h fun m6 h=>mV h fun v7 h=>mI h fun i8 h=>mN h fun b9 o10 h=>mV h fun v11 h=>mS h fun a12 n13 c14 h=>mO h fun u15 h16 h=>?_
 refine AWP.rgnC (cf:=[(4,6)]) (c:=[([true],true,[0,1,2,3,4,5,6,7,8,9,10]),([false],true,[0,1,2,3,5,6,4,7,8,9,10])]) (by kernel_rfl) (by kernel_rfl) (by kernel_rfl) (by kernel_rfl) (allO_t (Eq.mpr F218_r2 ?_) (allO_t (Eq.mpr F218_r3 ?_) trivial)) (r1 0 (rp 4 4 0 Rn)) (z2 Sn) (z1 Sn)
 ·replace h:=h.1
  refine mN h fun b17 o18 h=>mV h fun v19 h=>mS h fun a20 n21 c22 h=>mL h fun l23 h=>mf h fun h=>?_
  refine fun b24 hb_b_24=>?_
  replace h:=h b24 hb_b_24
  refine mO h fun u25 h26 h=>mS h fun a27 n28 c29 h=>mN h fun b30 o31 h=>mw h fun h32 h=>?_
  exact h
 ·replace h:=h.2
  refine mN h fun b33 o34 h=>mL h fun l35 h=>mf h fun h=>?_
  refine fun b36 hb_b_36=>?_
  replace h:=h b36 hb_b_36
  refine mV h fun v37 h=>mS h fun a38 n39 c40 h=>mO h fun u41 h42 h=>mS h fun a43 n44 c45 h=>mN h fun b46 o47 h=>mw h fun h48 h=>?_
  exact h
end
section
variable {e E:Env} {x0:OA} {x1 x2:Int} {hp:HP} {K:Env→PV→HP→Prop}
abbrev R219 (p n:Nat):=RW Tryd.prog 62 [] (opsAt Tryd.f219 (pth p)) (List.range n)
theorem F219_r0 (h:E=upd (w2 e 2 (sI x2) 1 (sI x1)) 0 (sP x0)):R219 2 28 E V0 hp K=
    (ptrN x0 fun b1 o2=>ldV (HP.cell hp b1 (o2+0)) fun v3=>slcV v3 fun a4 n5 c6=>ptrN x0 fun b7 o8=>ldV (HP.cell hp b7 (o8+0)) fun v9=>slcV v9 fun a10 n11 c12=>ptrN x0 fun b13 o14=>ldV (HP.cell hp b13 (o14+0)) fun v15=>slcV v15 fun a16 n17 c18=>(0≤x2)∧(x2<n17)∧(ptrN a16 fun b19 o20=>ldL (HP.cellN hp b19 (o20+Int.toNat x2*2) 2) fun l21=>ptrN x0 fun b22 o23=>ldV (HP.cell hp b22 (o23+0)) fun v24=>slcV v24 fun a25 n26 c27=>(0≤x1)∧(x1<n26)∧(ptrN a25 fun b28 o29=>ldL (HP.cellN hp b28 (o29+Int.toNat x1*2) 2) fun l30=>(0≤x1)∧(x1<n5)∧(ptrN a4 fun b31 o32=>(List.length l21=2)∧(HP.stN hp b31 (o32+Int.toNat x1*2) l21 fun h33=>(0≤x2)∧(x2<n11)∧(ptrN a10 fun b34 o35=>(List.length l30=2)∧(HP.stN h33 b34 (o35+Int.toNat x2*2) l30 fun h36=>K (w2 (w8 (w8 (w8 E 6 (sP x0) 7 (sQ b1 o2) 8 (sQ b1 (o2+0)) 9 (sS a4 n5 c6) 10 (sI x1) 11 (sP x0) 12 (sQ b7 o8) 13 (sQ b7 (o8+0))) 14 (sS a10 n11 c12) 15 (sI x2) 16 (sP x0) 17 (sQ b13 o14) 18 (sQ b13 (o14+0)) 19 (sS a16 n17 c18) 20 (sI x2) 21 (sQ b19 (o20+Int.toNat x2*2))) 22 (sA l21) 23 (sP x0) 24 (sQ b22 o23) 25 (sQ b22 (o23+0)) 26 (sS a25 n26 c27) 27 (sI x1) 28 (sQ b28 (o29+Int.toNat x1*2)) 29 (sA l30)) 30 (sQ b31 (o32+Int.toNat x1*2)) 31 (sQ b34 (o35+Int.toNat x2*2))) V0 h36))))))):=by subst h; kernel_rfl
theorem F219_r1 (h:E=upd (w2 e 2 (sI x2) 1 (sI x1)) 0 (sP x0)):R219 3 32 E V0 hp K=
    (ptrN x0 fun b1 o2=>ldV (HP.cell hp b1 (o2+1)) fun v3=>mapV v3 fun m4=>ptrN x0 fun b5 o6=>ldV (HP.cell hp b5 (o6+0)) fun v7=>slcV v7 fun a8 n9 c10=>(0≤x1)∧(x1<n9)∧(ptrN a8 fun b11 o12=>ldV (HP.cell hp b11 ((o12+Int.toNat x1*2)+0)) fun v13=>intV v13 .i64 fun i14=>ptrN x0 fun b15 o16=>ldV (HP.cell hp b15 (o16+1)) fun v17=>mapV v17 fun m18=>ptrN x0 fun b19 o20=>ldV (HP.cell hp b19 (o20+0)) fun v21=>slcV v21 fun a22 n23 c24=>(0≤x2)∧(x2<n23)∧(ptrN a22 fun b25 o26=>ldV (HP.cell hp b25 ((o26+Int.toNat x2*2)+0)) fun v27=>intV v27 .i64 fun i28=>opS Tryd.prog (Instr.mapEntry 117 (.map m4) (.int .i64 i14)) hp fun u29 h30=>tupI u29 1 fun v31=>intV v31 .i64 fun i32=>opS Tryd.prog (Instr.entryStore 117 (.map m4) (.int .i64 i32) (.int .i64 x1)) h30 fun u33 h34=>opS Tryd.prog (Instr.mapEntry 117 (.map m18) (.int .i64 i28)) h34 fun u35 h36=>tupI u35 1 fun v37=>intV v37 .i64 fun i38=>opS Tryd.prog (Instr.entryStore 117 (.map m18) (.int .i64 i38) (.int .i64 x2)) h36 fun u39 h40=>K (w6 (w8 (w8 (w8 E 32 (sP x0) 33 (sQ b1 o2) 34 (sQ b1 (o2+1)) 35 (sV (.map m4)) 36 (sP x0) 37 (sQ b5 o6) 38 (sQ b5 (o6+0)) 39 (sS a8 n9 c10)) 40 (sI x1) 41 (sQ b11 (o12+Int.toNat x1*2)) 42 (sQ b11 ((o12+Int.toNat x1*2)+0)) 43 (sI i14) 44 (sP x0) 45 (sQ b15 o16) 46 (sQ b15 (o16+1)) 47 (sV (.map m18))) 48 (sP x0) 49 (sQ b19 o20) 50 (sQ b19 (o20+0)) 51 (sS a22 n23 c24) 52 (sI x2) 53 (sQ b25 (o26+Int.toNat x2*2)) 54 (sQ b25 ((o26+Int.toNat x2*2)+0)) 55 (sI i28)) 56 (sI x1) 57 (sI x2) 58 (sV u29) 59 (sI i32) 60 (sV u35) 61 (sI i38)) V0 h40))):=by subst h; kernel_rfl
def F219 (x0:OA) (x1 x2:Int) (hp:HP) (K:Kh):Prop:=
  (ptrN x0 fun b1 o2=>ldV (HP.cell hp b1 (o2+0)) fun v3=>slcV v3 fun a4 n5 c6=>ptrN x0 fun b7 o8=>ldV (HP.cell hp b7 (o8+0)) fun v9=>slcV v9 fun a10 n11 c12=>ptrN x0 fun b13 o14=>ldV (HP.cell hp b13 (o14+0)) fun v15=>slcV v15 fun a16 n17 c18=>(0≤x2)∧(x2<n17)∧(ptrN a16 fun b19 o20=>ldL (HP.cellN hp b19 (o20+Int.toNat x2*2) 2) fun l21=>ptrN x0 fun b22 o23=>ldV (HP.cell hp b22 (o23+0)) fun v24=>slcV v24 fun a25 n26 c27=>(0≤x1)∧(x1<n26)∧(ptrN a25 fun b28 o29=>ldL (HP.cellN hp b28 (o29+Int.toNat x1*2) 2) fun l30=>(0≤x1)∧(x1<n5)∧(ptrN a4 fun b31 o32=>(List.length l21=2)∧(HP.stN hp b31 (o32+Int.toNat x1*2) l21 fun h33=>(0≤x2)∧(x2<n11)∧(ptrN a10 fun b34 o35=>(List.length l30=2)∧(HP.stN h33 b34 (o35+Int.toNat x2*2) l30 fun h36=>ptrN x0 fun b37 o38=>ldV (HP.cell h36 b37 (o38+1)) fun v39=>mapV v39 fun m40=>ptrN x0 fun b41 o42=>ldV (HP.cell h36 b41 (o42+0)) fun v43=>slcV v43 fun a44 n45 c46=>(0≤x1)∧(x1<n45)∧(ptrN a44 fun b47 o48=>ldV (HP.cell h36 b47 ((o48+Int.toNat x1*2)+0)) fun v49=>intV v49 .i64 fun i50=>ptrN x0 fun b51 o52=>ldV (HP.cell h36 b51 (o52+1)) fun v53=>mapV v53 fun m54=>ptrN x0 fun b55 o56=>ldV (HP.cell h36 b55 (o56+0)) fun v57=>slcV v57 fun a58 n59 c60=>(0≤x2)∧(x2<n59)∧(ptrN a58 fun b61 o62=>ldV (HP.cell h36 b61 ((o62+Int.toNat x2*2)+0)) fun v63=>intV v63 .i64 fun i64=>opS Tryd.prog (Instr.mapEntry 117 (.map m40) (.int .i64 i50)) h36 fun u65 h66=>tupI u65 1 fun v67=>intV v67 .i64 fun i68=>opS Tryd.prog (Instr.entryStore 117 (.map m40) (.int .i64 i68) (.int .i64 x1)) h66 fun u69 h70=>opS Tryd.prog (Instr.mapEntry 117 (.map m54) (.int .i64 i64)) h70 fun u71 h72=>tupI u71 1 fun v73=>intV v73 .i64 fun i74=>opS Tryd.prog (Instr.entryStore 117 (.map m54) (.int .i64 i74) (.int .i64 x2)) h72 fun u75 h76=>K (.tuple ⟨[]⟩) h76)))))))))
noncomputable def F219_code:Code:=(.seq (.region 0 (opsAt Tryd.f219 (pth 2)) true) (.region 1 (opsAt Tryd.f219 (pth 3)) true))
theorem F219_body:Tryd.f219.body=some F219_code:=by kernel_rfl
theorem F219_ok (x0:OA) (x1 x2:Int) (hp:HP) (K:Kh) (h:F219 x0 x1 x2 hp K):CF Tryd.prog 219 [(.pointer x0),(.int .i64 x1),(.int .i64 x2)] hp K:=by
 refine .inl ⟨by kernel_rfl,AC.intro (N:=62) Tryd.func219 F219_body rfl (Nat.le_of_ble_eq_true rfl) ?_⟩
 unfold F219 at h
 refine Aq (AWP.rgnD (by kernel_rfl) (by kernel_rfl) (F219_r0 rfl) ?_ (r3 0 1 2 Rn) (z3 Sn) Sn)
 refine mN h (fun b1 o2 h=>mV h (fun v3 h=>mS h (fun a4 n5 c6 h=>mN h (fun b7 o8 h=>mV h (fun v9 h=>mS h (fun a10 n11 c12 h=>mN h (fun b13 o14 h=>mV h (fun v15 h=>mS h (fun a16 n17 c18 h=>⟨h.1,h.2.1,mN h.2.2 (fun b19 o20 h=>mL h (fun l21 h=>mN h (fun b22 o23 h=>mV h (fun v24 h=>mS h (fun a25 n26 c27 h=>⟨h.1,h.2.1,mN h.2.2 (fun b28 o29 h=>mL h (fun l30 h=>⟨h.1,h.2.1,mN h.2.2 (fun b31 o32 h=>⟨h.1,mW h.2 (fun h33 h=>⟨h.1,h.2.1,mN h.2.2 (fun b34 o35 h=>⟨h.1,mW h.2 fun h36 h=>?_⟩)⟩)⟩)⟩))⟩)))))⟩)))))))))
 refine AWP.rgnD (by kernel_rfl) (by kernel_rfl) (F219_r1 rfl) ?_ (r3 0 1 2 Rn) (z3 Sn) Sn
 refine mN h (fun b37 o38 h=>mV h (fun v39 h=>mM h (fun m40 h=>mN h (fun b41 o42 h=>mV h (fun v43 h=>mS h (fun a44 n45 c46 h=>⟨h.1,h.2.1,mN h.2.2 (fun b47 o48 h=>mV h (fun v49 h=>mI h (fun i50 h=>mN h (fun b51 o52 h=>mV h (fun v53 h=>mM h (fun m54 h=>mN h (fun b55 o56 h=>mV h (fun v57 h=>mS h (fun a58 n59 c60 h=>⟨h.1,h.2.1,mN h.2.2 fun b61 o62 h=>mV h fun v63 h=>mI h fun i64 h=>mO h fun u65 h66 h=>tupI_mono h fun v67 h=>mI h fun i68 h=>mO h fun u69 h70 h=>mO h fun u71 h72 h=>tupI_mono h fun v73 h=>mI h fun i74 h=>mO h fun u75 h76 h=>?_⟩)))))))))⟩))))))
 exact h
end
section
variable {e E:Env} {x0 x1 k2 k3:List Value} {hp:HP} {K:Env→PV→HP→Prop}
abbrev R220 (p n:Nat):=RW Tryd.prog 24 [2,3,5,7,11,13,17,19] (opsAt Tryd.f220 (pth p)) (List.range n)
theorem F220_r0:R220 2 3 (w2 e 1 (sA x1) 0 (sA x0)) V0 hp K=
 K (w5 e 1 (sA x1) 0 (sA x0) 2 (sR 2 0) 3 (sR 3 0) 4 (sB false)) (w2 V0 2 (202,x0) 3 (202,x1)) hp:= by kernel_rfl
theorem F220_r1 (h:E=upd (upd e 3 (sR 3 0)) 2 (sR 2 0)):R220 5 20 E (w2 V0 3 (202,k3) 2 (202,k2)) hp K=
 ldV (k2)[1]? fun v1=>(intV v1 .i64 fun i2=>ldV (k3)[1]? fun v3=>intV v3 .i64 fun i4=>ite2 (decide (i2<i4)) (K (w4 (w8 (w8 E 5 (sR 2 1) 6 (sI i2) 7 (sR 3 1) 8 (sI i4) 9 (sB (decide (i2<i4))) 10 (sB true) 11 sU 12 sU) 13 sU 14 sU 15 sU 16 sU 17 sU 18 sU 19 sU 20 sU) 21 sU 22 sU 23 (sB true) 4 (sB true)) (w2 V0 3 (202,k3) 2 (202,k2)) hp) (ldV (k2)[1]? fun v5=>intV v5 .i64 fun i6=>ldV (k3)[1]? fun v7=>intV v7 .i64 fun i8=>ite2 (i6==i8) (ldV (k2)[0]? fun v9=>intV v9 .i64 fun i10=>ldV (k3)[0]? fun v11=>intV v11 .i64 fun i12=>K (w4 (w8 (w8 E 5 (sR 2 1) 6 (sI i2) 7 (sR 3 1) 8 (sI i4) 9 (sB (decide (i2<i4))) 10 (sB false) 11 (sR 2 1) 12 (sI i6)) 13 (sR 3 1) 14 (sI i8) 15 (sB ((i6==i8))) 16 (sB true) 17 (sR 2 0) 18 (sI i10) 19 (sR 3 0) 20 (sI i12)) 21 (sB (decide (i10<i12))) 22 (sB (decide (i10<i12))) 23 (sB (decide (i10<i12))) 4 (sB (decide (i10<i12)))) (w2 V0 3 (202,k3) 2 (202,k2)) hp) (K (w4 (w8 (w8 E 5 (sR 2 1) 6 (sI i2) 7 (sR 3 1) 8 (sI i4) 9 (sB (decide (i2<i4))) 10 (sB false) 11 (sR 2 1) 12 (sI i6)) 13 (sR 3 1) 14 (sI i8) 15 (sB ((i6==i8))) 16 (sB false) 17 sU 18 sU 19 sU 20 sU) 21 sU 22 (sB false) 23 (sB false) 4 (sB false)) (w2 V0 3 (202,k3) 2 (202,k2)) hp))):= by subst h; kernel_rfl
def F220 (x0 x1:List Value) (hp:HP) (K:Kh):Prop:=
  (ldV (x0)[1]? fun v1=>intV v1 .i64 fun i2=>ldV (x1)[1]? fun v3=>intV v3 .i64 fun i4=>ite2 (decide (i2<i4)) (K (.bool true) hp) (ldV (x0)[1]? fun v5=>intV v5 .i64 fun i6=>ldV (x1)[1]? fun v7=>intV v7 .i64 fun i8=>ite2 (i6==i8) (ldV (x0)[0]? fun v9=>intV v9 .i64 fun i10=>ldV (x1)[0]? fun v11=>intV v11 .i64 fun i12=>K (.bool (decide (i10<i12))) hp) (K (.bool false) hp)))
noncomputable def F220_code:Code:=(.seq (.region 0 (opsAt Tryd.f220 (pth 2)) false) (.seq (.region 1 (opsAt Tryd.f220 (pth 5)) false) .ret))
theorem F220_body:Tryd.f220.body=some F220_code:=by kernel_rfl
theorem F220_ok (x0 x1:List Value) (hp:HP) (K:Kh) (h:F220 x0 x1 hp K):CF Tryd.prog 220 [(.agg ⟨x0⟩),(.agg ⟨x1⟩)] hp K:=by
 refine .inl ⟨by kernel_rfl,AC.intro (N:=24) Tryd.func220 F220_body rfl (Nat.le_of_ble_eq_true rfl) ?_⟩
 unfold F220 at h
 refine Ar F220_r0 ?_ (r2 0 1 Rn) (z2 Sn) Sn
 refine Ar (F220_r1 rfl) ?_ (rp 2 2 0 (rp 3 3 0 Rn)) (z2 Sn) (z2 Sn)
 refine mV h fun v1 h=>mI h fun i2 h=>mV h fun v3 h=>mI h fun i4 h=>?_
 refine mt h (fun h=>?_) (fun h=>?_)
 ·refine AWP.ret ?_
  exact h
 ·refine mV h fun v5 h=>mI h fun i6 h=>mV h fun v7 h=>mI h fun i8 h=>?_
  refine mt h (fun h=>?_) (fun h=>?_)
  ·refine mV h fun v9 h=>mI h fun i10 h=>mV h fun v11 h=>mI h fun i12 h=>?_
   refine AWP.ret ?_
   exact h
  ·refine AWP.ret ?_
   exact h
end
end Go.Proofs
set_option linter.unusedVariables false
set_option maxRecDepth 20000
namespace Go.Proofs
open Go Go.HL
open Go.Exp (Th tlt)
/-- Where each stands. -/
def AtOk (ent:List (Int × Int)) (d:Array Th):Prop:=∀ (id x:Int),getL id ent=some x↔∃ k:Nat,x=k∧k<d.size∧d[k]!.1=id
theorem AtOk.get {ent:List (Int × Int)} {d:Array Th} (h:AtOk ent d) {i:Nat} (hi:i<d.size):getL d[i]!.1 ent=some (i:Int):=(h _ _).2 ⟨i,rfl,hi,rfl⟩
theorem AtOk.inj {ent:List (Int × Int)} {d:Array Th} (h:AtOk ent d) {i k:Nat} (hi:i<d.size) (hk:k<d.size) (he:d[i]!.1=d[k]!.1):i=k:=by
  have a:=h.get hi
  rw [he,h.get hk] at a
  simp only [Option.some.injEq] at a
  omega
theorem AtOk.swap {ent:List (Int × Int)} {d:Array Th} (h:AtOk ent d) {i k:Nat} (hi:i<d.size) (hk:k<d.size) :
    AtOk (putL (Sort.swp d i k)[k]!.1 (k:Int) (putL (Sort.swp d i k)[i]!.1 (i:Int) ent)) (Sort.swp d i k):=by
  have L:=Hp.swp_l hi hk
  have R:=Hp.swp_r hi hk
  have O:=fun j (h1:j≠i) (h2:j≠k)=>Hp.swp_o (k:=j) hi hk h1 h2
  have hsz:(Sort.swp d i k).size=d.size:=swp_size d i k
  intro id x
  rw [getL_put,getL_put,L,R,hsz]
  by_cases h1:id=d[i]!.1
  · rw [if_pos h1]
    constructor
    · intro e; cases e; exact ⟨k,rfl,hk,by rw [R,h1]⟩
    · rintro ⟨j,rfl,hj,e⟩
      congr 1
      by_cases hjk:j=k
      · rw [hjk]
      · by_cases hji:j=i
        · rw [hji,L,h1] at e
          rw [hji]; exact congrArg _ (h.inj hk hi e)
        · rw [O j hji hjk,h1] at e
          exact absurd (h.inj hj hi e) hji
  · rw [if_neg h1]
    by_cases h2:id=d[k]!.1
    · rw [if_pos h2]
      constructor
      · intro e; cases e; exact ⟨i,rfl,hi,by rw [L,h2]⟩
      · rintro ⟨j,rfl,hj,e⟩
        congr 1
        by_cases hji:j=i
        · rw [hji]
        · by_cases hjk:j=k
          · rw [hjk,R] at e; exact absurd e.symm h1
          · rw [O j hji hjk,h2] at e
            exact absurd (h.inj hj hk e) hjk
    · rw [if_neg h2,h id x]
      constructor
      · rintro ⟨j,rfl,hj,e⟩
        exact ⟨j,rfl,hj,by rw [O j (fun e'=>h1 (by rw [← e,e'])) (fun e'=>h2 (by rw [← e,e']))]; exact e⟩
      · rintro ⟨j,rfl,hj,e⟩
        by_cases hji:j=i
        · rw [hji,L] at e; exact absurd e.symm h2
        · by_cases hjk:j=k
          · rw [hjk,R] at e; exact absurd e.symm h1
          · rw [O j hji hjk] at e; exact ⟨j,rfl,hj,e⟩
theorem push_old {d:Array Th} {t:Th} {k:Nat} (hk:k<d.size):(d.push t)[k]! = d[k]!:= by
  rw [getElem!_pos (d.push t) k (by simp; omega),getElem!_pos d k hk,Array.getElem_push_lt]
theorem push_new {d:Array Th} {t:Th}:(d.push t)[d.size]! = t:=by
  rw [getElem!_pos (d.push t) d.size (by simp),Array.getElem_push_eq]
theorem pop_old {d:Array Th} {k:Nat} (hk:k<d.size-1):d.pop[k]! = d[k]!:= by
  rw [getElem!_pos d.pop k (by simpa using hk),getElem!_pos d k (by omega),Array.getElem_pop]
theorem AtOk.push {ent:List (Int × Int)} {d:Array Th} (h:AtOk ent d) {t:Th} (hn:∀ k,k<d.size→d[k]!.1≠t.1):AtOk (putL t.1 (d.size:Int) ent) (d.push t):=by
  intro id x
  rw [getL_put]
  by_cases h1:id=t.1
  · rw [if_pos h1]
    constructor
    · intro e; cases e; exact ⟨d.size,rfl,by simp,by rw [push_new,h1]⟩
    · rintro ⟨j,rfl,hj,e⟩
      congr 1
      by_cases hjs:j=d.size
      · rw [hjs]
      · have hj':j<d.size:=by simp at hj; omega
        rw [push_old hj',h1] at e
        exact absurd e (hn j hj')
  · rw [if_neg h1,h id x]
    constructor
    · rintro ⟨j,rfl,hj,e⟩
      exact ⟨j,rfl,by simp; omega,by rw [push_old hj]; exact e⟩
    · rintro ⟨j,rfl,hj,e⟩
      by_cases hjs:j=d.size
      · rw [hjs,push_new] at e; exact absurd e.symm h1
      · have hj':j<d.size:=by simp at hj; omega
        rw [push_old hj'] at e; exact ⟨j,rfl,hj',e⟩
theorem AtOk.pop {ent:List (Int × Int)} {d:Array Th} (h:AtOk ent d) (hnd:(ent.map (·.1)).Nodup) (h0:0<d.size):AtOk (delL d[d.size-1]!.1 ent) d.pop:=by
  intro id x
  rw [getL_del hnd]
  by_cases h1:id=d[d.size-1]!.1
  · rw [if_pos h1]
    constructor
    · intro e; cases e
    · rintro ⟨j,rfl,hj,e⟩
      have hj':j<d.size-1:=by simpa using hj
      rw [pop_old hj',h1] at e
      have:=h.inj (by omega) (by omega) e
      omega
  · rw [if_neg h1,h id x]
    constructor
    · rintro ⟨j,rfl,hj,e⟩
      have hjn:j≠d.size-1:=fun e'=>h1 (by rw [← e,e'])
      exact ⟨j,rfl,by simp; omega,by rw [pop_old (by omega)]; exact e⟩
    · rintro ⟨j,rfl,hj,e⟩
      have hj':j<d.size-1:=by simpa using hj
      rw [pop_old hj'] at e
      exact ⟨j,rfl,by omega,e⟩
/-- A queue in memory: q, its order o, the map m of where each stands, the row of things. -/
def QD (hq:HP) (q o m:Nat) (d:Array Th):Prop:=∃ (s:Option Addr) (c:Nat) (ent:List (Int × Int)),
  hq q=.cells 193 [ptr o 0] 0∧hq o=.cells 191 [.slice s d.size c,.map (some m)] 0∧Row hq s d.size c 202 2 (d.toList.flatMap th)∧MapE iw iw ent (hq m)∧(ent.map (·.1)).Nodup∧AtOk ent d
section
variable {hq:HP} {q o m:Nat} {d:Array Th} {K:Value→HP→Prop}
theorem C120 (h:QD hq q o m d) (k:K (.int .i64 (d.size:Nat)) hq):CF Tryd.prog 120 [ptr o 0] hq K:=by
  refine F120_ok _ hq K ?_
  unfold F120
  obtain ⟨s,c,ent,h1,h2,h3,h4,h5,h6⟩:=h
  rw [ptrN_some,HP.cell_of h2]
  exact k
theorem C220 {x y:Th} (k:K (.bool (tlt x y)) hq):CF Tryd.prog 220 [.agg ⟨th x⟩,.agg ⟨th y⟩] hq K:=by
  refine F220_ok (th x) (th y) hq K ?_
  unfold F220
  have q0:∀ t:Th,(th t)[0]?=some (.int .i64 t.1):=fun _=>rfl
  have q1:∀ t:Th,(th t)[1]?=some (.int .i64 t.2):=fun _=>rfl
  simp only [q0,q1,ldV_some,intV_int]
  unfold tlt at k
  by_cases h1:x.2<y.2
  · rw [decide_eq_true h1,Bool.true_or] at k
    rw [decide_eq_true h1,ite2_true]; exact k
  · rw [decide_eq_false h1,Bool.false_or] at k
    rw [decide_eq_false h1,ite2_false]
    by_cases h2:x.2=y.2
    · rw [decide_eq_true h2,Bool.true_and] at k
      have e:(x.2==y.2)=true:=by simpa using h2
      rw [e,ite2_true]; exact k
    · rw [decide_eq_false h2,Bool.false_and] at k
      have e:(x.2==y.2)=false:=by simpa using h2
      rw [e,ite2_false]; exact k
/-- What is known where there is at least one. -/
theorem QD.open_ (h:QD hq q o m d) (h0:0<d.size):∃ (b c:Nat) (ent:List (Int × Int)),hq q=.cells 193 [ptr o 0] 0∧hq o=.cells 191 [.slice (some ⟨b,0,none⟩) d.size c,.map (some m)] 0∧d.size≤c ∧
    hq b=.cells 202 (d.toList.flatMap th) ((c-d.size)*2)∧MapE iw iw ent (hq m)∧(ent.map (·.1)).Nodup∧AtOk ent d∧b≠q∧b≠o∧b≠m∧m≠q∧m≠o∧q≠o∧(∀ i,i<d.size→hq.cellN b (0+i*2) 2=some (th d[i]!)):=by
  obtain ⟨s,c,ent,h1,h2,h3,h4,h5,h6⟩:=h
  rcases h3 with ⟨_,h0',_,_⟩ | ⟨b,rfl,hnc,hxl,hb⟩
  · omega
  obtain ⟨ob,hob⟩:∃ ob,hq m=.obj ob:=by obtain ⟨es,clock,he,_⟩:=h4; exact ⟨_,he⟩
  refine ⟨b,c,ent,h1,h2,hnc,hb,h4,h5,h6,?_,?_,?_,?_,?_,?_,fun i hi=>?_⟩
  · intro e; rw [e,h1] at hb; simp at hb
  · intro e; rw [e,h2] at hb; simp at hb
  · intro e; rw [e,hob] at hb; cases hb
  · intro e; rw [e,h1] at hob; cases hob
  · intro e; rw [e,h2] at hob; cases hob
  · intro e; rw [e,h2] at h1; simp at h1
  · rw [HP.cellN_of hb,Nat.zero_add,flat_at th_len (by simpa using hi),getElem!_pos d i hi]; simp
theorem C216 {i k:Nat} (h:QD hq q o m d) (hi:i<d.size) (hk:k<d.size) (hK:K (.bool (tlt d[i]! d[k]!)) hq):CF Tryd.prog 216 [ptr o 0,.int .i64 i,.int .i64 k] hq K:=by
  obtain ⟨b,c,ent,h1,h2,h3,h4,h5,h6,h7,n1,n2,n3,n4,n5,n6,g⟩:=h.open_ (by omega)
  refine F216_ok _ i k hq K ?_
  unfold F216
  have hco:∀ x,hq.cell o x=[Value.slice (some ⟨b,0,none⟩) d.size c,.map (some m)][x]?:=fun x=>HP.cell_of h2
  simp only [ptrN_some,hco,Nat.zero_add,List.getElem?_cons_zero,ldV_some,slcV_slice,Int.toNat_natCast]
  have gi:=g i hi
  have gk:=g k hk
  rw [Nat.zero_add] at gi gk
  rw [gi,ldL_some,gk,ldL_some]
  refine ⟨by omega,by omega,by omega,by omega,?_⟩
  refine C220 ?_
  rw [boolV_bool]
  exact hK
theorem C219 {i k:Nat} (h:QD hq q o m d) (hi:i<d.size) (hk:k<d.size) (hK:∀ hq',QD hq' q o m (Sort.swp d i k)→K (.tuple ⟨[]⟩) hq'):CF Tryd.prog 219 [ptr o 0,.int .i64 i,.int .i64 k] hq K:=by
  obtain ⟨b,c,ent,h1,h2,h3,h4,h5,h6,h7,n1,n2,n3,n4,n5,n6,g⟩:=h.open_ (by omega)
  refine F219_ok _ i k hq K ?_
  unfold F219
  have hco:∀ x,hq.cell o x=[Value.slice (some ⟨b,0,none⟩) d.size c,.map (some m)][x]?:=fun x=>HP.cell_of h2
  simp only [ptrN_some,hco,Nat.zero_add,List.getElem?_cons_zero,List.getElem?_cons_succ,ldV_some,slcV_slice,mapV_map,Int.toNat_natCast]
  have gi:=g i hi
  have gk:=g k hk
  rw [Nat.zero_add] at gi gk
  simp only [gi,gk,ldL_some]
  refine ⟨by omega,by omega,by omega,by omega,by omega,by omega,th_len _,?_⟩
  have hle:∀ j,j<d.size→j*2+2≤(d.toList.flatMap th).length:=fun j hj=>by rw [flat_len th_len]; simp; omega
  have hle2:∀ (x:Th) j,j<d.size→j*2+2≤((d.setIfInBounds i x).toList.flatMap th).length:=fun x j hj=>by rw [flat_len th_len]; simp; omega
  refine HP.stN_at h4 (by rw [th_len]; exact hle i hi) (th_one _) ?_
  refine ⟨by omega,by omega,th_len _,?_⟩
  have e1:splice (d.toList.flatMap th) (i*2) (th d[k]!)=((d.setIfInBounds i d[k]!).toList).flatMap th:=by
    rw [flat_splice th_len _ (by simpa using hi)]; simp
  rw [e1]
  refine HP.stN_at (HP.set_eq ..) (by rw [th_len]; exact hle2 _ k hk) (th_one _) ?_
  have e2:splice ((d.setIfInBounds i d[k]!).toList.flatMap th) (k*2) (th d[i]!)=(Sort.swp d i k).toList.flatMap th:=by
    rw [flat_splice th_len _ (by simpa using hk)]; simp [Sort.swp]
  rw [e2,HP.set_set]
  have hsz:(Sort.swp d i k).size=d.size:=swp_size d i k
  have hb':(hq.set b (.cells 202 ((Sort.swp d i k).toList.flatMap th) ((c-d.size)*2))) b=.cells 202 ((Sort.swp d i k).toList.flatMap th) ((c-d.size)*2):=HP.set_eq ..
  have ho':(hq.set b (.cells 202 ((Sort.swp d i k).toList.flatMap th) ((c-d.size)*2))) o=.cells 191 [.slice (some ⟨b,0,none⟩) d.size c,.map (some m)] 0:=by rw [HP.set_ne _ _ n2.symm]; exact h2
  have hq':(hq.set b (.cells 202 ((Sort.swp d i k).toList.flatMap th) ((c-d.size)*2))) q=.cells 193 [ptr o 0] 0:=by rw [HP.set_ne _ _ n1.symm]; exact h1
  have hm':MapE iw iw ent ((hq.set b (.cells 202 ((Sort.swp d i k).toList.flatMap th) ((c-d.size)*2))) m):=by rw [HP.set_ne _ _ n3.symm]; exact h5
  generalize hq.set b (.cells 202 ((Sort.swp d i k).toList.flatMap th) ((c-d.size)*2))=hq2 at *
  have hco2:∀ x,hq2.cell o x=[Value.slice (some ⟨b,0,none⟩) d.size c,.map (some m)][x]?:=fun x=>HP.cell_of ho'
  have g2:∀ j,j<d.size→hq2.cell b (j*2+0)=some (.int .i64 (Sort.swp d i k)[j]!.1):=fun j hj=>by
    have:hq2.cellN b (j*2) 2=some (th (Sort.swp d i k)[j]!):=by
      rw [HP.cellN_of hb',flat_at th_len (by simpa [hsz] using hj),getElem!_pos (Sort.swp d i k) j (by rw [hsz]; exact hj)]; simp
    exact HP.cell_cellN this rfl
  have g2i:=g2 i hi
  have g2k:=g2 k hk
  simp only [Nat.add_zero] at g2i g2k
  simp only [ptrN_some,hco2,Nat.zero_add,Nat.add_zero,List.getElem?_cons_zero,List.getElem?_cons_succ,ldV_some,slcV_slice,mapV_map,g2i,g2k,intV_int]
  refine ⟨by omega,by omega,by omega,by omega,?_⟩
  have hat:=h7.swap hi hk
  have hin:∀ j,j<d.size→(getL (Sort.swp d i k)[j]!.1 ent).isSome=true:=fun j hj=>by
    by_cases e:j=i
    · rw [e,Hp.swp_l hi hk,h7.get hk]; rfl
    · by_cases e':j=k
      · rw [e',Hp.swp_r hi hk,h7.get hi]; rfl
      · rw [Hp.swp_o hi hk e e',h7.get hj]; rfl
  refine opS_mono (opS_entrySet u49 enc3 hm' (Sort.swp d i k)[i]!.1 (i:Int) (ev:=iw) (hin i hi) (K:=fun _ h=>opS Tryd.prog (Instr.mapEntry 117 (.map (some m)) (iw (Sort.swp d i k)[k]!.1)) h fun u h1=>tupI u 1 fun x=>intV x .i64 fun i'=>opS Tryd.prog (Instr.entryStore 117 (.map (some m)) (.int .i64 i') (iw (k:Int))) h1 fun _ h=>K (.tuple ⟨[]⟩) h) fun e he=>?_) (fun _ _ x=>x)
  have hm2:MapE iw iw (putL (Sort.swp d i k)[i]!.1 (i:Int) ent) ((hq2.set m e) m):=by rw [HP.set_eq]; exact he
  refine opS_entrySet u49 enc3 hm2 (Sort.swp d i k)[k]!.1 (k:Int) (ev:=iw) ?_ fun e' he'=>?_
  · rw [getL_put]
    split
    · rfl
    · exact hin k hk
  rw [HP.set_set]
  refine hK _ ⟨some ⟨b,0,none⟩,c,_,?_,?_,.inr ⟨b,rfl,by omega,by rw [flat_len th_len]; simp [hsz],?_⟩,by rw [HP.set_eq]; exact he',nodup_put (nodup_put h6),hat⟩
  · rw [HP.set_ne _ _ n4.symm]; exact hq'
  · rw [HP.set_ne _ _ n5.symm,hsz]; exact ho'
  · rw [HP.set_ne _ _ n3,hsz]; exact hb'
theorem C217 (h:QD hq q o m d) (h0:0<d.size) (hn:d.size≤1000000) (hK:∀ hq',QD hq' q o m d.pop→K (.iface 202 (.agg ⟨th d[d.size-1]!⟩)) hq'):CF Tryd.prog 217 [ptr o 0] hq K:=by
  obtain ⟨b,c,ent,h1,h2,h3,h4,h5,h6,h7,n1,n2,n3,n4,n5,n6,g⟩:=h.open_ h0
  refine CF.imp (F217_ok _ hq _ ?_)
  unfold F217
  have hco:∀ x,hq.cell o x=[Value.slice (some ⟨b,0,none⟩) d.size c,.map (some m)][x]?:=fun x=>HP.cell_of h2
  have w:IntKind.wrap .i64 ((d.size:Nat)-1)=((d.size-1:Nat):Int):=wi (by omega) (by omega)
  have gl:=g (d.size-1) (by omega)
  rw [Nat.zero_add] at gl
  have hz:[Value.int .i64 0,.int .i64 0]=th (0,0):=rfl
  have hsp:splice (th (0,0)) 0 (th d[d.size-1]!)=th d[d.size-1]! := splice_all rfl
  have q0:(th d[d.size-1]!)[0]?=some (.int .i64 d[d.size-1]!.1):=rfl
  have qa:cellsN (th d[d.size-1]!) 0 2=some (th d[d.size-1]!):=rfl
  simp only [ptrN_some,hco,Nat.zero_add,List.getElem?_cons_zero,List.getElem?_cons_succ,ldV_some,slcV_slice,w,Int.toNat_natCast,gl,ldL_some,th_len,th_one,if_true,hz,hsp]
  refine ⟨by omega,by omega,?_⟩
  refine ifI (by decide) ?_
  refine ⟨by omega,by omega,?_⟩
  refine HP.st_at h2 (by simp) ?_
  simp only [List.set_cons_zero]
  have ho':(hq.set o (.cells 191 [Value.slice (some ⟨b,0,none⟩) (d.size-1) c,.map (some m)] 0)) o=.cells 191 [Value.slice (some ⟨b,0,none⟩) (d.size-1) c,.map (some m)] 0:=HP.set_eq ..
  have hb':(hq.set o (.cells 191 [Value.slice (some ⟨b,0,none⟩) (d.size-1) c,.map (some m)] 0)) b=.cells 202 (d.toList.flatMap th) ((c-d.size)*2):=by rw [HP.set_ne _ _ n2]; exact h4
  have hq':(hq.set o (.cells 191 [Value.slice (some ⟨b,0,none⟩) (d.size-1) c,.map (some m)] 0)) q=.cells 193 [ptr o 0] 0:=by rw [HP.set_ne _ _ n6]; exact h1
  have hm':MapE iw iw ent ((hq.set o (.cells 191 [Value.slice (some ⟨b,0,none⟩) (d.size-1) c,.map (some m)] 0)) m):=by rw [HP.set_ne _ _ n5]; exact h5
  generalize hq.set o (.cells 191 [Value.slice (some ⟨b,0,none⟩) (d.size-1) c,.map (some m)] 0)=hq2 at *
  have hco2:∀ x,hq2.cell o x=[Value.slice (some ⟨b,0,none⟩) (d.size-1) c,.map (some m)][x]?:=fun x=>HP.cell_of ho'
  simp only [hco2,List.getElem?_cons_zero,List.getElem?_cons_succ,ldV_some,mapV_map,q0,intV_int,qa,ldL_some]
  refine opS_delete u49 enc3 hm' d[d.size-1]!.1 fun e he=>?_
  have hl:d.toList.flatMap th=d.pop.toList.flatMap th++th d[d.size-1]!:= by
    have:d.toList=d.pop.toList++[d[d.size-1]!]:=by
      rw [getElem!_pos d (d.size-1) (by omega)]
      apply List.ext_getElem
      · simp; omega
      · intro i h1 h2
        rw [List.getElem_append]
        split
        · simp
        · rename_i hc
          simp at hc h1
          have:i=d.size-1:=by omega
          subst this
          simp
    rw [this,List.flatMap_append]; simp
  have hb2:(hq2.set m e) b=.cells 202 (d.pop.toList.flatMap th++th d[d.size-1]!) ((c-d.size)*2):=by rw [HP.set_ne _ _ n3,hb',hl]
  refine ⟨_,HImp.shrink hb2,hK _ ⟨some ⟨b,0,none⟩,c,_,?_,?_,.inr ⟨b,rfl,by simp; omega,by rw [flat_len th_len]; simp,?_⟩,?_,nodup_del h6,h7.pop h6 h0⟩⟩
  · rw [HP.set_ne _ _ n1.symm,HP.set_ne _ _ n4.symm]; exact hq'
  · rw [HP.set_ne _ _ n2.symm,HP.set_ne _ _ n5.symm,ho']; simp
  · rw [HP.set_eq,th_len]
    congr 1
    simp
    omega
  · rw [HP.set_ne _ _ n3.symm,HP.set_eq]; exact he
end
end Go.Proofs
set_option linter.unusedVariables false
set_option maxRecDepth 20000
namespace Go.Proofs
open Go Go.HL
open Go.Exp (Th tlt swo_tlt)
open Go.Sort (PermIn swp)
theorem m_less {c : FuncId → Prop} : mthF Tryd.prog 188 "Less" c = c 216 := by kernel_rfl
theorem m_swap {c : FuncId → Prop} : mthF Tryd.prog 188 "Swap" c = c 219 := by kernel_rfl
theorem m_len {c : FuncId → Prop} : mthF Tryd.prog 188 "Len" c = c 120 := by kernel_rfl
theorem m_push {c : FuncId → Prop} : mthF Tryd.prog 188 "Push" c = c 218 := by kernel_rfl
theorem m_pop {c : FuncId → Prop} : mthF Tryd.prog 188 "Pop" c = c 217 := by kernel_rfl
section
variable {hq:HP} {q o m:Nat} {d:Array Th} {K:Value→HP→Prop}
theorem app_push {d:Array Th} {t:Th}:(d.push t).toList.flatMap th=d.toList.flatMap th++th t:=by
  rw [Array.toList_push,List.flatMap_append]; simp
theorem C218 {t:Th} (h:QD hq q o m d) (hn:d.size≤1000000) (hnew:∀ k,k<d.size→d[k]!.1≠t.1) (hK:∀ hq',QD hq' q o m (d.push t)→K (.tuple ⟨[]⟩) hq'):CF Tryd.prog 218 [ptr o 0,.iface 202 (.agg ⟨th t⟩)] hq K:=by
  obtain ⟨s,c,ent,h1,h2,h3,h4,h5,h6⟩:=h
  refine CF.drop (F218_ok _ _ hq _ ?_)
  unfold F218
  refine rdS_assert (by kernel_rfl) ?_
  have hco:∀ x,hq.cell o x=[Value.slice s d.size c,.map (some m)][x]?:=fun x=>HP.cell_of h2
  have hz:[Value.int .i64 0,.int .i64 0]=th (0,0):=rfl
  have hsp:splice (th (0,0)) 0 (th t)=th t:=splice_all rfl
  have q0:(th t)[0]?=some (.int .i64 t.1):=rfl
  have qa:cellsN (th t) 0 2=some (th t):=rfl
  simp only [aggV_agg,th_len,th_one,if_true,hz,hsp,ptrN_some,hco,Nat.zero_add,List.getElem?_cons_zero,List.getElem?_cons_succ,ldV_some,mapV_map,slcV_slice,q0,intV_int]
  refine ifI (by decide) ?_
  refine opS_mapUpdate u49 enc3 h4 t.1 (d.size:Int) (ev:=iw) fun e he=>?_
  obtain ⟨ob,hob⟩:∃ ob,hq m=.obj ob:=by obtain ⟨es,clock,he',_⟩:=h4; exact ⟨_,he'⟩
  have nmq:m≠q:=fun e=>by rw [e,h1] at hob; cases hob
  have nmo:m≠o:=fun e=>by rw [e,h2] at hob; cases hob
  have nqo:q≠o:=fun e=>by rw [e,h2] at h1; simp at h1
  have h1':(hq.set m e) q=.cells 193 [ptr o 0] 0:=by rw [HP.set_ne _ _ nmq.symm]; exact h1
  have h2':(hq.set m e) o=.cells 191 [.slice s d.size c,.map (some m)] 0:=by rw [HP.set_ne _ _ nmo.symm]; exact h2
  have h3':Row (hq.set m e) s d.size c 202 2 (d.toList.flatMap th):=h3.set_obj hob e
  have h4':MapE iw iw (putL t.1 (d.size:Int) ent) ((hq.set m e) m):=by rw [HP.set_eq]; exact he
  have hob':∃ ob,(hq.set m e) m=.obj ob:=by obtain ⟨es,clock,he',_⟩:=h4'; exact ⟨_,he'⟩
  obtain ⟨ob',hob'⟩:=hob'
  have hat:=h6.push hnew
  have hnd:=nodup_put (k:=t.1) (v:=(d.size:Int)) h5
  generalize hq.set m e=hq2 at *
  have hco2:∀ (x y:Nat) (E:Ent),y≠o→(hq2.set y E).cell o x=[Value.slice s d.size c,.map (some m)][x]?:=fun x y E hy=>HP.cell_of (by rw [HP.set_ne _ _ hy.symm]; exact h2')
  have hco1:∀ x,hq2.cell o x=[Value.slice s d.size c,.map (some m)][x]?:=fun x=>HP.cell_of h2'
  have fin:∀ b24,hq2 b24=.none→opS Tryd.prog (Builtin.append_ #[189,189] 189 ⟨[(Value.slice s d.size c),(Value.slice (some ⟨b24,0,none⟩) 1 1)]⟩) (hq2.set b24 (.cells 202 (th t) 0)) fun u_25 h_26=>slcV u_25 fun a_27 n_28 c_29=>HP.st h_26 o 0 (Value.slice a_27 n_28 c_29) fun h_32=>∃ hp'',HSub hp'' h_32∧K (.tuple ⟨[]⟩) hp'':=by
    intro b24 hb24
    have s24:=HSub.set_fresh hq2 (.cells 202 (th t) 0) hb24
    have sh:Shows (hq2.set b24 (.cells 202 (th t) 0)) (some ⟨b24,0,none⟩) 1 2 (th t):=.inr ⟨b24,0,rfl,by rw [HP.cellN_of (HP.set_eq ..)]; exact cellsN_all rfl⟩
    refine opS_app (e:=202) (size:=2) (bytes:=16) (by kernel_rfl) (h3'.sub s24) sh (th_one _) (by omega) (by omega) ?_
    intro s4 c4 hp4 hrow4 hup
    rw [slcV_slice]
    have key:hp4 q=.cells 193 [ptr o 0] 0∧hp4 o=.cells 191 [.slice s d.size c,.map (some m)] 0∧hp4 m=hq2 m:=by
      have nb:∀ {x:Nat} {E:Ent},hq2 x=E→E≠.none→x≠b24:=fun hx hE e=>hE (by rw [← hx,e,hb24])
      have k1:=s24.cells h1'
      have k2:=s24.cells h2'
      have k3:=s24.obj hob'
      rcases hup with ⟨rfl,rfl⟩ | ⟨b,e',rfl,hb,rfl⟩
      · exact ⟨k1,k2,by rw [k3,hob']⟩
      · have hbn:∀ {x:Nat} {E:Ent},(hq2.set b24 (.cells 202 (th t) 0)) x=E→E≠.none→(∀ cs sp,E≠.cells 202 cs sp)→x≠b:=by
          intro x E hx hE hE2 e
          subst e
          rcases hb with hb | hb
          · exact hE (by rw [← hx,hb])
          · rcases h3'.sub s24 with ⟨r1,_⟩ | ⟨b',r1,r2,r3,r4⟩
            · rw [r1] at hb; cases hb
            · rw [r1] at hb; cases hb; exact hE2 _ _ (by rw [← hx,r4])
        refine ⟨?_,?_,?_⟩
        · rw [HP.set_ne _ _ (hbn k1 (by simp) (by simp))]; exact k1
        · rw [HP.set_ne _ _ (hbn k2 (by simp) (by simp))]; exact k2
        · rw [HP.set_ne _ _ (hbn k3 (by simp) (by simp)),k3,hob']
    refine HP.st_at key.2.1 (by simp) ?_
    simp only [List.set_cons_zero]
    refine ⟨_,HSub.refl _,hK _ ⟨s4,c4,_,?_,?_,?_,?_,hnd,hat⟩⟩
    · rw [HP.set_ne _ _ nqo]; exact key.1
    · rw [HP.set_eq]; simp
    · rw [app_push]
      have hsz:(d.push t).size=d.size+1:=by simp
      rw [hsz]
      rcases hrow4 with ⟨r1,r2,r3,r4⟩ | ⟨b',r1,r2,r3,r4⟩
      · omega
      · exact .inr ⟨b',r1,r2,r3,by rw [HP.set_ne _ _ (fun e'=>by rw [e',key.2.1] at r4; simp at r4)]; exact r4⟩
    · rw [HP.set_ne _ _ nmo,key.2.2]; exact h4'
  refine ⟨?_,?_⟩
  · simp only [hco1,List.getElem?_cons_zero,ldV_some,slcV_slice,qa,ldL_some]
    refine ifI (th_len t) ?_
    intro b24 hb24
    simp only [hsp]
    exact fin b24 hb24
  · simp only [qa,ldL_some]
    refine ifI (th_len t) ?_
    intro b24 hb24
    have hbo:b24≠o:=fun e=>by rw [e,h2'] at hb24; cases hb24
    simp only [hco2 _ _ _ hbo,List.getElem?_cons_zero,ldV_some,slcV_slice,hsp]
    exact fin b24 hb24
theorem C136 {n j:Nat} (hu:Hp.UpOk tlt n j d) (hj:j<n) (hn:n≤d.size) (hsz:d.size≤1000000) (h:QD hq q o m d)
    (hK:∀ hq' d',QD hq' q o m d'→PermIn 0 n d d'→Hp.Heap tlt n d'→K (.tuple ⟨[]⟩) hq'):CF Tryd.prog 136 [.iface 188 (ptr o 0),.int .i64 j] hq K:=by
  refine F136_ok _ j hq K ?_
  unfold F136
  refine LoopP.by (J:=fun k (x:Int) hp=>∃ d',x=(k:Int)∧QD hp q o m d'∧PermIn 0 n d d'∧Hp.UpOk tlt n k d'∧k<n) ?_ (n:=j) ⟨d,rfl,h,Sort.permIn_refl d 0 n,hu,hj⟩
  rintro I k x hp ⟨d',rfl,hQ,hP,hU,hk⟩ hI
  have hs:d'.size=d.size:=hP.1
  unfold F136_l1
  refine ⟨by omega,?_⟩
  cases k with
  | zero=>
    have e:(IntKind.wrap .i64 (Int.tdiv (IntKind.wrap .i64 (((0:Nat):Int)-1)) 2))=0:=by
      rw [w64 (n:=((0:Nat):Int)-1) (by omega) (by omega)]; rfl
    rw [e]
    show ite2 true _ _
    rw [ite2_true]
    unfold F136_j2
    rw [ite2_true]
    exact hK _ d' hQ hP (hU.stop (.inl rfl))
  | succ k=>
    have e:(IntKind.wrap .i64 (Int.tdiv (IntKind.wrap .i64 (((k+1:Nat):Int)-1)) 2))=((Hp.par (k+1):Nat):Int):=by
      rw [w64 (n:=((k+1:Nat):Int)-1) (by omega) (by omega)]
      have:((k+1:Nat):Int)-1=(k:Int):=by omega
      rw [this]
      have h2:Int.tdiv (k:Int) 2=((k / 2:Nat):Int):=rfl
      rw [h2]
      unfold Hp.par
      rw [Nat.add_sub_cancel]
      exact wi rfl (by omega)
    rw [e]
    have hpl:=Hp.par_lt (k:=k+1) (by omega)
    have hb:(((Hp.par (k+1):Nat):Int)==((k+1:Nat):Int))=false:=by rw [beq_eq_false_iff_ne]; omega
    rw [hb,ite2_false,ifaceV_mk,m_less]
    refine C216 hQ (by omega) (by omega) ?_
    rw [boolV_bool]
    unfold F136_j2
    cases hl:tlt d'[k+1]! d'[Hp.par (k+1)]!
    · rw [Bool.not_false,ite2_true]
      exact hK _ d' hQ hP (hU.stop (.inr hl))
    · rw [Bool.not_true,ite2_false,ifaceV_mk,m_swap]
      refine C219 hQ (by omega) (by omega) fun hq' hQ'=>?_
      exact hI (Hp.par (k+1)) _ _ (by omega) ⟨_,rfl,hQ',Sort.permIn_trans _ _ _ _ _ hP (Sort.swp_permIn d' 0 n _ _ (by omega) (by omega) (by omega) (by omega) (by omega)),hU.step swo_tlt (by omega) hk (by omega) hl,by omega⟩
theorem C137 {n i0:Nat} (hd:Hp.DnOk tlt n i0 i0 d) (hi0:i0≤n) (hn:n≤d.size) (hsz:d.size≤1000000) (h:QD hq q o m d)
    (hK:∀ (r:Bool) hq' d',QD hq' q o m d'→PermIn 0 n d d'→(r=true→Hp.Heap tlt n d')→(r=false→Hp.UpOk tlt n i0 d')→K (.bool r) hq'):CF Tryd.prog 137 [.iface 188 (ptr o 0),.int .i64 i0,.int .i64 n] hq K:=by
  refine F137_ok _ i0 n hq K ?_
  unfold F137 F137_j1
  refine LoopP.by (J:=fun k (x:Int) hp=>∃ (i:Nat) (d':Array Th),x=(i:Int)∧QD hp q o m d'∧PermIn 0 n d d'∧Hp.DnOk tlt n i0 i d'∧i0≤i∧i≤n∧k=n-i) ?_ (n:=n-i0) ⟨i0,d,rfl,h,Sort.permIn_refl d 0 n,hd,Nat.le_refl _,hi0,rfl⟩
  rintro I k x hp ⟨i,d',rfl,hQ,hP,hD,hii,hin,rfl⟩ hI
  have hs:d'.size=d.size:=hP.1
  have stop:(∀ k,0<k→k<n→Hp.par k=i→tlt d'[k]! d'[i]! = false)→∀ hp',QD hp' q o m d'→F137_j2 i0 i hp' K:=by
    intro hs' hp' hQ'
    unfold F137_j2
    have hst:=hD.stop hii hs'
    by_cases hlt:i0<i
    · rw [decide_eq_true (by omega:(i:Int) > (i0:Int))]
      exact hK true _ d' hQ' hP (fun _=>hst.1 hlt) (fun e=>by cases e)
    · rw [decide_eq_false (by omega:¬ (i:Int) > (i0:Int))]
      exact hK false _ d' hQ' hP (fun e=>by cases e) (fun _=>hst.2 (by omega))
  have w1:IntKind.wrap .i64 (2*(i:Int))=((2*i:Nat):Int):=wi (by omega) (by omega)
  have w2:IntKind.wrap .i64 (((2*i:Nat):Int)+1)=((2*i+1:Nat):Int):=wi (by omega) (by omega)
  have w3:IntKind.wrap .i64 (((2*i+1:Nat):Int)+1)=((2*i+2:Nat):Int):=wi (by omega) (by omega)
  have chld:∀ k,0<k→Hp.par k=i→k=2*i+1∨k=2*i+2:=fun k hk hp=>by unfold Hp.par at hp; omega
  unfold F137_l3
  simp only [w1,w2]
  by_cases h1:2*i+1≥n
  · rw [decide_eq_true (by omega:((2*i+1:Nat):Int)≥(n:Int)),ite2_true]
    unfold F137_j4
    rw [ite2_true]
    exact stop (fun k hk hkn hp=>by rcases chld k hk hp with e | e <;> omega) hp hQ
  rw [decide_eq_false (by omega:¬ ((2*i+1:Nat):Int)≥(n:Int)),ite2_false,decide_eq_false (by omega:¬ ((2*i+1:Nat):Int)<0)]
  unfold F137_j4
  rw [ite2_false,w3]
  have five:∀ j:Nat,j<n→0<j→Hp.par j=i→(∀ k,0<k→k<n→Hp.par k=i→tlt d'[k]! d'[j]! = false)→∀ hp',QD hp' q o m d'→F137_j5 (.iface 188 (ptr o 0)) i0 n i j hp' I K:=by
    intro j hjn hj0 hpj hmin hp' hQ'
    have hpl:=Hp.par_lt hj0
    unfold F137_j5
    rw [ifaceV_mk,m_less]
    refine C216 hQ' (by omega) (by omega) ?_
    rw [boolV_bool]
    cases hl:tlt d'[j]! d'[i]!
    · rw [Bool.not_false,ite2_true]
      refine stop (fun k hk hkn hp=>?_) hp' hQ'
      exact swo_tlt.ntrans _ _ _ (hmin k hk hkn hp) hl
    · rw [Bool.not_true,ite2_false,ifaceV_mk,m_swap]
      refine C219 hQ' (by omega) (by omega) fun hq' hQ2=>?_
      exact hI (n-j) _ _ (by omega) ⟨j,_,rfl,hQ2,Sort.permIn_trans _ _ _ _ _ hP (Sort.swp_permIn d' 0 n _ _ (by omega) (by omega) (by omega) (by omega) (by omega)),hD.step swo_tlt hii hj0 hpj hjn (by omega) hl hmin,by omega,by omega,rfl⟩
  have p1:Hp.par (2*i+1)=i:=by unfold Hp.par; omega
  have p2:Hp.par (2*i+2)=i:=by unfold Hp.par; omega
  by_cases h2:2*i+2<n
  · rw [decide_eq_true (by omega:((2*i+2:Nat):Int)<(n:Int)),ite2_true,ifaceV_mk,m_less]
    refine C216 hQ (by omega) (by omega) ?_
    rw [boolV_bool]
    unfold F137_j6
    cases hl:tlt d'[2*i+2]! d'[2*i+1]!
    · rw [ite2_false]
      refine five (2*i+1) (by omega) (by omega) p1 (fun k hk hkn hp=>?_) _ hQ
      rcases chld k hk hp with e | e
      · rw [e]; exact swo_tlt.irrefl _
      · rw [e]; exact hl
    · rw [ite2_true]
      refine five (2*i+2) (by omega) (by omega) p2 (fun k hk hkn hp=>?_) _ hQ
      rcases chld k hk hp with e | e
      · rw [e]; exact Hp.asym swo_tlt hl
      · rw [e]; exact swo_tlt.irrefl _
  · rw [decide_eq_false (by omega:¬ ((2*i+2:Nat):Int)<(n:Int)),ite2_false]
    unfold F137_j6
    rw [ite2_false]
    refine five (2*i+1) (by omega) (by omega) p1 (fun k hk hkn hp=>?_) _ hQ
    rcases chld k hk hp with e | e
    · rw [e]; exact swo_tlt.irrefl _
    · omega
theorem permIn_list {n:Nat} {d d':Array Th} (h:PermIn 0 n d d') (hn:n≤d.size):d'.toList.Perm d.toList:=by
  have h2:=(Sort.permIn_mono d d' 0 n 0 d.size (Nat.le_refl _) hn (Nat.le_refl _) h).2.2
  have e1:d'.extract 0 d.size=d':=by rw [← h.1]; simp
  have e2:d.extract 0 d.size=d:=by simp
  rw [e1,e2] at h2
  exact h2
theorem C118 {t:Th} (h:QD hq q o m d) (hsz:d.size+1≤1000000) (hH:Hp.Heap tlt d.size d) (hnew:∀ k,k<d.size→d[k]!.1≠t.1)
    (hK:∀ hq' d',QD hq' q o m d'→d'.toList.Perm (t::d.toList)→Hp.Heap tlt d'.size d'→K (.tuple ⟨[]⟩) hq'):CF Tryd.prog 118 [.iface 188 (ptr o 0),.iface 202 (.agg ⟨th t⟩)] hq K:=by
  refine F118_ok _ _ hq K ?_
  unfold F118
  rw [ifaceV_mk,m_push]
  refine C218 h (by omega) hnew fun hq' hQ=>?_
  rw [ifaceV_mk,m_len]
  refine C120 hQ ?_
  rw [intV_int]
  have hps:(d.push t).size=d.size+1:=by simp
  have w:IntKind.wrap .i64 (((d.push t).size:Nat)-1)=((d.size:Nat):Int):=by rw [hps]; exact wi (by omega) (by omega)
  rw [w]
  refine C136 (n:=d.size+1) ⟨fun k hk hkn hkj=>?_,fun k hk hkn hp h0=>?_⟩ (by omega) (by omega) (by omega) hQ fun hq2 d2 hQ2 hP hH2=>?_
  · have:=Hp.par_lt hk
    rw [push_old (by omega),push_old (by omega)]; exact hH k hk (by omega)
  · have:=Hp.par_lt hk; omega
  · have hs2:d2.size=d.size+1:=by rw [hP.1,hps]
    refine hK _ d2 hQ2 ?_ (by rw [hs2]; exact hH2)
    refine (permIn_list hP (by omega)).trans ?_
    rw [Array.toList_push]
    exact List.perm_append_singleton t d.toList
theorem C119 {i:Nat} (h:QD hq q o m d) (hi:i<d.size) (hsz:d.size≤1000000) (hD:Hp.DnOk tlt d.size i i d)
    (hK:∀ hq' d',QD hq' q o m d'→d'.toList.Perm d.toList→Hp.Heap tlt d'.size d'→K (.tuple ⟨[]⟩) hq'):CF Tryd.prog 119 [.iface 188 (ptr o 0),.int .i64 i] hq K:=by
  refine F119_ok _ i hq K ?_
  unfold F119
  rw [ifaceV_mk,m_len]
  refine C120 h ?_
  rw [intV_int]
  refine C137 hD (by omega) (Nat.le_refl _) hsz h fun r hq' d' hQ hP ht hf=>?_
  have hs:d'.size=d.size:=hP.1
  rw [boolV_bool]
  cases r
  · rw [Bool.not_false,ite2_true]
    refine C136 (hf rfl) hi (by omega) (by omega) hQ fun hq2 d2 hQ2 hP2 hH2=>?_
    have hs2:d2.size=d.size:=by rw [hP2.1,hs]
    exact hK _ d2 hQ2 ((permIn_list hP2 (by omega)).trans (permIn_list hP (Nat.le_refl _))) (by rw [hs2]; exact hH2)
  · rw [Bool.not_true,ite2_false]
    exact hK _ d' hQ (permIn_list hP (Nat.le_refl _)) (by rw [hs]; exact ht rfl)
theorem pop_list {d:Array Th} (h0:0<d.size):d.toList=d.pop.toList++[d[d.size-1]!]:=by
  rw [getElem!_pos d (d.size-1) (by omega)]
  apply List.ext_getElem
  · simp; omega
  · intro i h1 h2
    rw [List.getElem_append]
    split
    · simp
    · rename_i hc
      simp at hc h1
      have:i=d.size-1:=by omega
      subst this
      simp
theorem heap_pop {d:Array Th} (hH:Hp.Heap tlt (d.size-1) d):Hp.Heap tlt d.pop.size d.pop:=by
  intro k hk hkn
  have hkn':k<d.size-1:=by simpa using hkn
  have:=Hp.par_lt hk
  rw [pop_old hkn',pop_old (by omega)]
  exact hH k hk hkn'
/-- The last one goes. -/
theorem cut_last (h:QD hq q o m d) (h0:0<d.size) (hsz:d.size≤1000000) (hH:Hp.Heap tlt (d.size-1) d) {d0:Array Th} {t:Th} (hp:d.toList.Perm d0.toList) (ht:d[d.size-1]! = t)
    (hK:∀ hq' d',QD hq' q o m d'→(t::d'.toList).Perm d0.toList→Hp.Heap tlt d'.size d'→K (.iface 202 (.agg ⟨th t⟩)) hq'):CF Tryd.prog 217 [ptr o 0] hq K:=by
  refine C217 h h0 hsz fun hq' hQ=>?_
  rw [ht]
  refine hK _ d.pop hQ ?_ (heap_pop hH)
  refine List.Perm.trans ?_ hp
  rw [pop_list h0,ht]
  exact (List.perm_append_singleton t d.pop.toList).symm
theorem C121 {i:Nat} (h:QD hq q o m d) (hi:i<d.size) (hsz:d.size≤1000000) (hH:Hp.Heap tlt d.size d)
    (hK:∀ hq' d',QD hq' q o m d'→(d[i]! :: d'.toList).Perm d.toList→Hp.Heap tlt d'.size d'→K (.iface 202 (.agg ⟨th d[i]!⟩)) hq'):CF Tryd.prog 121 [.iface 188 (ptr o 0),.int .i64 i] hq K:=by
  refine F121_ok _ i hq K ?_
  unfold F121
  rw [ifaceV_mk,m_len]
  refine C120 h ?_
  have w:IntKind.wrap .i64 ((d.size:Nat)-1)=((d.size-1:Nat):Int):=wi (by omega) (by omega)
  rw [intV_int,w]
  by_cases hil:d.size-1=i
  · have e:(((d.size-1:Nat):Int) != (i:Int))=false:=by
      rw [hil]; simp
    rw [e,ite2_false]
    unfold F121_j1
    rw [ifaceV_mk,m_pop]
    exact cut_last h (by omega) hsz (hH.mono (by omega)) (List.Perm.refl _) (by rw [hil]) hK
  have e:(((d.size-1:Nat):Int) != (i:Int))=true:=by
    rw [bne_iff_ne]; omega
  rw [e,ite2_true,ifaceV_mk,m_swap]
  refine C219 h hi (by omega) fun hq1 hQ1=>?_
  have hs1:(swp d i (d.size-1)).size=d.size:=swp_size ..
  have dn:Hp.DnOk tlt (d.size-1) i i (swp d i (d.size-1)):=
    Hp.Heap.dn swo_tlt (hH.mono (by omega)) (by omega) fun k hk hk0=>Hp.swp_o hi (by omega) hk0 (by omega)
  have hlast:(swp d i (d.size-1))[d.size-1]! = d[i]! := Hp.swp_r hi (by omega)
  have hperm1:(swp d i (d.size-1)).toList.Perm d.toList:=permIn_list (Sort.swp_permIn d 0 d.size i (d.size-1) (by omega) hi (by omega) (by omega) (Nat.le_refl _)) (Nat.le_refl _)
  refine C137 dn (by omega) (by omega) (by omega) hQ1 fun r hq2 d2 hQ2 hP ht hf=>?_
  have hs2:d2.size=d.size:=by rw [hP.1,hs1]
  have hl2:d2[d.size-1]! = d[i]! := by rw [hP.2.1 _ (.inr (Nat.le_refl _)),hlast]
  rw [boolV_bool]
  cases r
  · rw [Bool.not_false,ite2_true]
    refine C136 (hf rfl) (by omega) (by omega) (by omega) hQ2 fun hq3 d3 hQ3 hP3 hH3=>?_
    have hs3:d3.size=d.size:=by rw [hP3.1,hs2]
    unfold F121_j1
    rw [ifaceV_mk,m_pop]
    exact cut_last hQ3 (by omega) (by omega) (by rw [hs3]; exact hH3) (((permIn_list hP3 (by omega)).trans (permIn_list hP (by omega))).trans hperm1) (by rw [hs3,hP3.2.1 _ (.inr (Nat.le_refl _)),hl2]) hK
  · rw [Bool.not_true,ite2_false]
    unfold F121_j1
    rw [ifaceV_mk,m_pop]
    exact cut_last hQ2 (by omega) (by omega) (by rw [hs2]; exact ht rfl) ((permIn_list hP (by omega)).trans hperm1) (by rw [hs2,hl2]) hK
end
end Go.Proofs
set_option linter.unusedVariables false
set_option maxRecDepth 20000
namespace Go.Proofs
open Go Go.HL
open Go.Exp (Th tlt swo_tlt Ord setW dropW insW)
/-- A queue that has these things, in their order. -/
def QW (hq:HP) (q:Nat) (w:List Th):Prop:=∃ o m d,QD hq q o m d∧Hp.Heap tlt d.size d∧d.toList.Perm w∧Ord w
section
variable {hq:HP} {q o m:Nat} {d:Array Th} {w:List Th} {K:Value→HP→Prop}
theorem C117 (h:QD hq q o m d) (hK:K (.bool false) hq):CF Tryd.prog 117 [ptr q 0] hq K:=by
  refine F117_ok _ hq K ?_
  unfold F117
  obtain ⟨s,c,ent,h1,h2,h3,h4,h5,h6⟩:=h
  have hc:∀ x,hq.cell q x=[ptr o 0][x]?:=fun x=>HP.cell_of h1
  have pp:∀ (p:Nat) (c:Option Addr→Prop),ptrV (ptr p 0) c=c (some ⟨p,0,none⟩):=fun _ _=>rfl
  simp only [Option.isNone_some,ite2_false,ptrN_some,hc,Nat.add_zero,List.getElem?_cons_zero,ldV_some,pp]
  exact hK
theorem C82 (hK:∀ q hq',hq q=.none→HSub hq hq'→QW hq' q []→K (ptr q 0) hq'):CF Tryd.prog 82 [] hq K:=by
  refine F82_ok hq K ?_
  unfold F82
  intro b1 hb1 b2 hb2 b3 hb3
  have s1:=HSub.set_fresh hq (.obj (.map #[] 0)) hb1
  have s2:=HSub.set_fresh _ (.cells 191 [(Value.slice none 0 0),(Value.map (some b1))] 0) hb2
  have s3:=HSub.set_fresh _ (.cells 193 [(ptr b2 0)] 0) hb3
  refine hK b3 _ (s1.none (s2.none hb3)) ((s1.trans s2).trans s3) ⟨b2,b1,#[],⟨none,0,[],HP.set_eq ..,?_,.inl ⟨rfl,rfl,rfl,rfl⟩,?_,by simp,fun id x=>?_⟩,fun k hk hkn=>by simp at hkn,List.Perm.refl _,Exp.ord_nil⟩
  · exact s3.cells (HP.set_eq ..)
  · have:=s3.obj (s2.obj (b:=b1) (HP.set_eq ..))
    rw [this]; exact MapE.empty _ _
  · simp [getL]
theorem mem_at {d:Array Th} {k:Nat} (hk:k<d.size):d[k]! ∈ d.toList:=by
  rw [getElem!_pos d k hk]; simp
/-- What is found of one. -/
theorem at_getL {ent:List (Int × Int)} (ha:AtOk ent d) (hp:d.toList.Perm w) (ho:Ord w) (id:Int) :
    (getL id ent=none∧getL id w=none)∨∃ k:Nat,k<d.size∧d[k]!.1=id∧getL id ent=some (k:Int)∧getL id w=some d[k]!.2:=by
  cases hg:getL id ent with
  | none=>
    left
    refine ⟨rfl,getL_none.2 fun hm=>?_⟩
    obtain ⟨t,ht,e⟩:=List.mem_map.1 hm
    have ht':=hp.mem_iff.2 ht
    obtain ⟨k,hk,e'⟩:=List.getElem_of_mem ht'
    have hk':k<d.size:=by simpa using hk
    have:getL id ent=some (k:Int):=(ha id k).2 ⟨k,rfl,hk',by rw [getElem!_pos d k hk',← e,← e']; simp⟩
    rw [hg] at this; cases this
  | some x=>
    right
    obtain ⟨k,rfl,hk,e⟩:=(ha id x).1 hg
    refine ⟨k,hk,e,rfl,getL_of_mem ho.2 ?_⟩
    rw [← e]
    exact hp.mem_iff.1 (mem_at hk)
theorem C89 (h:QW hq q w) (hK:K (.tuple ⟨[.int .i64 ((w.head?.map (·.1)).getD 0),.int .i64 ((w.head?.map (·.2)).getD 0),.bool w.head?.isSome]⟩) hq):CF Tryd.prog 89 [ptr q 0] hq K:=by
  obtain ⟨o,m,d,hQ,hH,hp,ho⟩:=h
  refine F89_ok _ hq K ?_
  unfold F89
  refine C117 hQ ?_
  rw [boolV_bool,ite2_false]
  have hQ0:=hQ
  obtain ⟨s,c,ent,h1,h2,h3,h4,h5,h6⟩:=hQ
  have hc:∀ x,hq.cell q x=[ptr o 0][x]?:=fun x=>HP.cell_of h1
  have pp:∀ (p:Nat) (c:Option Addr→Prop),ptrV (ptr p 0) c=c (some ⟨p,0,none⟩):=fun _ _=>rfl
  simp only [ptrN_some,hc,Nat.add_zero,List.getElem?_cons_zero,ldV_some,pp]
  refine C120 hQ0 ?_
  rw [intV_int]
  have hl:d.size=w.length:=by simpa using hp.length_eq
  cases w with
  | nil=>
    have e:((d.size:Nat):Int)==0:=by rw [hl]; rfl
    rw [e]
    unfold F89_j1
    rw [ite2_true]
    exact hK
  | cons t w=>
    have h0:0<d.size:=by rw [hl]; simp
    have e:(((d.size:Nat):Int)==0)=false:=by rw [beq_eq_false_iff_ne]; omega
    rw [e]
    have hroot:d[0]! = t:=by
      have hm:d[0]! ∈ t::w:=hp.mem_iff.1 (mem_at h0)
      rcases List.mem_cons.1 hm with e | hm
      · exact e
      · have h1:=(List.pairwise_cons.1 ho.1).1 _ hm
        have ht:t∈d.toList:=hp.mem_iff.2 (by simp)
        obtain ⟨k,hk,e'⟩:=List.getElem_of_mem ht
        have hk':k<d.size:=by simpa using hk
        have:=hH.root swo_tlt k hk'
        rw [getElem!_pos d k hk'] at this
        have e2:d[k]=t:=by rw [← e']; simp
        rw [e2,h1] at this
        cases this
    obtain ⟨b,c',ent',g1,g2,g3,g4,g5,g6,g7,n1,n2,n3,n4,n5,n6,g⟩:=hQ0.open_ h0
    have hco:∀ x,hq.cell o x=[Value.slice (some ⟨b,0,none⟩) d.size c',.map (some m)][x]?:=fun x=>HP.cell_of g2
    have gg:=g 0 h0
    have ga:hq.cell b ((0+0*2)+0)=some (.int .i64 d[0]!.1):=HP.cell_cellN gg rfl
    have gb:hq.cell b ((0+0*2)+1)=some (.int .i64 d[0]!.2):=HP.cell_cellN gg rfl
    unfold F89_j1
    rw [ite2_false]
    have t0:Int.toNat 0=0:=rfl
    simp only [ptrN_some,hc,hco,Nat.add_zero,List.getElem?_cons_zero,ldV_some,pp,slcV_slice,t0]
    simp only [Nat.add_zero] at ga gb
    rw [ga]
    simp only [ldV_some,intV_int,gb]
    refine ⟨by omega,by omega,by omega,by omega,?_⟩
    rw [hroot]
    exact hK
theorem C87 {id due:Int} (h:QW hq q w) (hsz:w.length+1≤1000000)
    (hbad:(due<0∨due > 4611686018427387904)→K (.int .i64 1) hq)
    (hok:¬ (due<0∨due > 4611686018427387904)→∀ hq',QW hq' q (setW id due w)→K (.int .i64 0) hq'):CF Tryd.prog 87 [ptr q 0,.int .i64 id,.int .i64 due] hq K:=by
  obtain ⟨o,m,d,hQ,hH,hp,ho⟩:=h
  refine F87_ok _ id due hq K ?_
  unfold F87
  refine C117 hQ ?_
  rw [boolV_bool,ite2_false]
  by_cases hneg:due<0
  · rw [decide_eq_true hneg,ite2_true]
    unfold F87_j1
    rw [ite2_true]
    exact hbad (.inl hneg)
  rw [decide_eq_false hneg,ite2_false]
  unfold F87_j1
  by_cases hbig:due > 4611686018427387904
  · rw [decide_eq_true hbig,ite2_true]
    exact hbad (.inr hbig)
  rw [decide_eq_false hbig,ite2_false]
  have hok:=hok (by omega)
  have hl:d.size=w.length:=by simpa using hp.length_eq
  have hQ0:=hQ
  obtain ⟨s,c,ent,h1,h2,h3,h4,h5,h6⟩:=hQ
  have hc:∀ x,hq.cell q x=[ptr o 0][x]?:=fun x=>HP.cell_of h1
  have hco:∀ x,hq.cell o x=[Value.slice s d.size c,.map (some m)][x]?:=fun x=>HP.cell_of h2
  have pp:∀ (p:Nat) (c:Option Addr→Prop),ptrV (ptr p 0) c=c (some ⟨p,0,none⟩):=fun _ _=>rfl
  simp only [ptrN_some,hc,hco,Nat.zero_add,Nat.add_zero,List.getElem?_cons_zero,List.getElem?_cons_succ,ldV_some,pp,mapV_map]
  refine rdS_lookup u49 enc3 zw3 h4 id ?_
  simp only [if_true,tup2V_mk]
  have hset:=ho.set id due
  rcases at_getL h6 hp ho id with ⟨e1,e2⟩ | ⟨k,hk,e0,e1,e2⟩
  · rw [e1]
    simp only [Option.map_none,Option.getD_none,intV_int,Option.isSome_none,boolV_bool,Bool.not_false,ite2_true]
    have hth:[(Value.int .i64 id),(Value.int .i64 due)]=th (id,due):=rfl
    rw [hth]
    have hnw:id ∉ w.map (·.1):=getL_none.1 e2
    refine C118 hQ0 (by omega) hH (fun k hk e=>hnw ?_) fun hq' d' hQ' hP hH'=>?_
    · have e':d[k]!.1=id:=e
      rw [← e']; exact List.mem_map.2 ⟨_,hp.mem_iff.1 (mem_at hk),rfl⟩
    · refine hok hq' ⟨o,m,d',hQ',hH',?_,hset⟩
      refine hP.trans (((hp.cons (id,due)).trans ?_).trans (Exp.insW_perm (id,due) (dropW id w)).symm)
      rw [Exp.dropW_absent hnw]
  · rw [e1]
    obtain ⟨b,c',ent',g1,g2,g3,g4,g5,g6,g7,n1,n2,n3,n4,n5,n6,g⟩:=hQ0.open_ (by omega)
    have e9:=h2.symm.trans g2
    simp only [Ent.cells.injEq,List.cons.injEq,Value.slice.injEq,and_true,true_and] at e9
    obtain ⟨rfl,rfl⟩:=e9
    have hiw:iw (k:Int)=.int .i64 (k:Int):=rfl
    simp only [Option.map_some,Option.getD_some,hiw,intV_int,Option.isSome_some,boolV_bool,Bool.not_true,ite2_false,ptrN_some,hc,hco,Nat.zero_add,Nat.add_zero,List.getElem?_cons_zero,ldV_some,pp,slcV_slice,Int.toNat_natCast]
    refine ⟨by omega,by omega,?_⟩
    have hfl:(d.toList.flatMap th).length=d.size*2:=by rw [flat_len th_len]; simp
    refine HP.st_at g4 (by rw [hfl]; omega) ?_
    have hcell:(d.toList.flatMap th).set (k*2+1) (.int .i64 due)=(d.setIfInBounds k (id,due)).toList.flatMap th:=by
      have e:(d.setIfInBounds k (id,due)).toList=d.toList.set k (id,due):=by simp
      rw [e,← flat_splice th_len (id,due) (by simpa using hk)]
      rw [splice_eq _ _ _ (by rw [th_len,hfl]; omega),th_len]
      have hat:(d.toList.flatMap th)[k*2]?=some (.int .i64 id):=by
        have:=HP.cell_cellN (j:=0) (g k hk) (v:=.int .i64 d[k]!.1) rfl
        rw [HP.cell_of g4] at this
        rw [← e0]; simpa using this
      apply List.ext_getElem?
      intro x
      rw [List.append_assoc]
      by_cases hx:x<k*2
      · rw [List.getElem?_set_ne (by omega),List.getElem?_append_left (by rw [List.length_take,hfl]; omega),List.getElem?_take_of_lt hx]
      · have hlt:((d.toList.flatMap th).take (k*2)).length=k*2:=by rw [List.length_take,hfl]; omega
        rw [List.getElem?_append_right (by rw [hlt]; omega),hlt]
        by_cases hx0:x=k*2
        · rw [hx0,List.getElem?_set_ne (by omega),hat,Nat.sub_self]; rfl
        · by_cases hx1:x=k*2+1
          · rw [hx1,List.getElem?_set_self (by rw [hfl]; omega)]
            have:k*2+1-k*2=1:=by omega
            rw [this]; rfl
          · rw [List.getElem?_set_ne (by omega),List.getElem?_append_right (by rw [th_len]; omega),th_len,List.getElem?_drop]
            congr 1; omega
    rw [hcell]
    have hs1:(d.setIfInBounds k (id,due)).size=d.size:=by simp
    have old:∀ j,j≠k→(d.setIfInBounds k (id,due))[j]! = d[j]! := fun j hj=>by
      simp only [getElem!_def,Array.getElem?_setIfInBounds,if_neg hj.symm]
    have new:(d.setIfInBounds k (id,due))[k]! = (id,due):=by
      rw [getElem!_pos _ k (by rw [hs1]; exact hk)]; simp
    have hQ1:QD (hq.set b (.cells 202 ((d.setIfInBounds k (id,due)).toList.flatMap th) ((c-d.size)*2))) q o m (d.setIfInBounds k (id,due)):=by
      refine ⟨some ⟨b,0,none⟩,c,ent',?_,?_,.inr ⟨b,rfl,by omega,by rw [flat_len th_len]; simp,by rw [HP.set_eq,hs1]⟩,?_,g6,fun id' x=>?_⟩
      · rw [HP.set_ne _ _ n1.symm]; exact g1
      · rw [HP.set_ne _ _ n2.symm,hs1]; exact g2
      · rw [HP.set_ne _ _ n3.symm]; exact g5
      · rw [g7 id' x,hs1]
        constructor
        · rintro ⟨j,rfl,hj,e⟩
          refine ⟨j,rfl,hj,?_⟩
          by_cases hjk:j=k
          · rw [hjk,new]; rw [hjk,e0] at e; exact e
          · rw [old j hjk]; exact e
        · rintro ⟨j,rfl,hj,e⟩
          refine ⟨j,rfl,hj,?_⟩
          by_cases hjk:j=k
          · rw [hjk,new] at e; rw [hjk,e0]; exact e
          · rw [old j hjk] at e; exact e
    have hc1:∀ x,(hq.set b (.cells 202 ((d.setIfInBounds k (id,due)).toList.flatMap th) ((c-d.size)*2))).cell q x=[ptr o 0][x]?:=fun x=>HP.cell_of (by rw [HP.set_ne _ _ n1.symm]; exact g1)
    simp only [hc1,Nat.add_zero,List.getElem?_cons_zero,ldV_some,pp]
    refine C119 hQ1 (by rw [hs1]; exact hk) (by omega) ?_ fun hq' d' hQ' hP hH'=>?_
    · rw [hs1]; exact hH.dn swo_tlt hk fun j hj hjk=>old j hjk
    · refine hok hq' ⟨o,m,d',hQ',hH',?_,hset⟩
      have e:(d.setIfInBounds k (id,due)).toList=d.toList.set k (id,due):=by simp
      rw [e] at hP
      have hkl:k<d.toList.length:=by simpa using hk
      have p1:=hP.trans (Exp.set_perm d.toList k (id,due) hkl)
      have p2:=Exp.at_perm d.toList k hkl
      have e2:d.toList[k]=(id,d[k]!.2):=by rw [getElem!_pos d k hk] at e0 ⊢; rw [← e0]; simp
      rw [e2] at p2
      have p3:=Exp.dropW_erase (hp.symm.trans p2) ho.2
      exact (p1.trans (p3.symm.cons _)).trans (Exp.insW_perm (id,due) (dropW id w)).symm
theorem C93 {id:Int} (h:QW hq q w) (hsz:w.length≤1000000)
    (hK:∀ hq',QW hq' q (dropW id w)→K (.bool (getL id w).isSome) hq'):CF Tryd.prog 93 [ptr q 0,.int .i64 id] hq K:=by
  obtain ⟨o,m,d,hQ,hH,hp,ho⟩:=h
  refine F93_ok _ id hq K ?_
  unfold F93
  refine C117 hQ ?_
  rw [boolV_bool,ite2_false]
  have hl:d.size=w.length:=by simpa using hp.length_eq
  have hQ0:=hQ
  obtain ⟨s,c,ent,h1,h2,h3,h4,h5,h6⟩:=hQ
  have hc:∀ x,hq.cell q x=[ptr o 0][x]?:=fun x=>HP.cell_of h1
  have hco:∀ x,hq.cell o x=[Value.slice s d.size c,.map (some m)][x]?:=fun x=>HP.cell_of h2
  have pp:∀ (p:Nat) (c:Option Addr→Prop),ptrV (ptr p 0) c=c (some ⟨p,0,none⟩):=fun _ _=>rfl
  simp only [ptrN_some,hc,hco,Nat.zero_add,Nat.add_zero,List.getElem?_cons_zero,List.getElem?_cons_succ,ldV_some,pp,mapV_map]
  refine rdS_lookup u49 enc3 zw3 h4 id ?_
  simp only [if_true,tup2V_mk]
  rcases at_getL h6 hp ho id with ⟨e1,e2⟩ | ⟨k,hk,e0,e1,e2⟩
  · rw [e1]
    rw [e2] at hK
    simp only [Option.map_none,Option.getD_none,intV_int,Option.isSome_none,boolV_bool,ite2_false]
    unfold F93_j1
    refine hK hq ⟨o,m,d,hQ0,hH,?_,ho.drop id⟩
    rw [Exp.dropW_absent (getL_none.1 e2)]; exact hp
  · rw [e1]
    rw [e2] at hK
    have hiw:iw (k:Int)=.int .i64 (k:Int):=rfl
    simp only [Option.map_some,Option.getD_some,hiw,intV_int,Option.isSome_some,boolV_bool,ite2_true]
    refine C121 hQ0 hk (by omega) hH fun hq' d' hQ' hP hH'=>?_
    unfold F93_j1
    refine hK hq' ⟨o,m,d',hQ',hH',?_,ho.drop id⟩
    have e3:d[k]! = (id,d[k]!.2):=by rw [← e0]
    rw [e3] at hP
    exact (Exp.dropW_erase (hp.symm.trans hP.symm) ho.2).symm
end
end Go.Proofs
set_option linter.unusedVariables false
set_option maxRecDepth 20000
namespace Go.Proofs
open Go Go.HL
open Go.Exp (Th tlt Ord setW dropW insW)
section
variable {hp hq:HP} {ps:Nat→HP} {x n q:Nat} {M:List (ByteArray × Int)} {w:List Th} {K:Value→HP→Prop}
theorem IdxR.sub (h:IdxR hq x n M) (hs:HSub hq hp):IdxR hp x n M:=by
  obtain ⟨b,j,A,⟨h1,h2,h3⟩,r⟩:=h
  exact ⟨b,j,A,⟨hs.cells h1,hs.cells h2,h3⟩,r⟩
theorem QD.sub {o m:Nat} {d:Array Th} (h:QD hq q o m d) (hs:HSub hq hp):QD hp q o m d:=by
  obtain ⟨s,c,ent,h1,h2,h3,h4,h5,h6⟩:=h
  refine ⟨s,c,ent,hs.cells h1,hs.cells h2,h3.sub hs,?_,h5,h6⟩
  obtain ⟨es,clock,he,hr⟩:=h4
  exact ⟨es,clock,hs.obj he,hr⟩
theorem QW.sub (h:QW hq q w) (hs:HSub hq hp):QW hp q w:=by
  obtain ⟨o,m,d,hQ,hH,hp,ho⟩:=h
  exact ⟨o,m,d,hQ.sub hs,hH,hp,ho⟩
theorem N86 {key:ByteArray} {v:Int} (hP:Parts hp ps) (i:Nat) (h:IdxR (ps i) x n M) (hnew:getL key M=none) (hlen:M.length<n) (hn:n≤65536)
    (hK:∀ l hp',IdxR l x n (M++[(key,v)])→Parts hp' (pu ps i l)→K (.int .i64 0) hp'):CF Tryd.prog 86 [ptr x 0,.string key,.int .i64 v] hp K:=by
  refine CF.part hP i (C86 (v:=v) (K:=fun u l=>u=.int .i64 0∧IdxR l x n (M++[(key,v)])) h hnew hlen hn fun l hl=>⟨rfl,hl⟩) ?_
  rintro u l hp' ⟨rfl,hl⟩ hP'
  exact hK l hp' hl hP'
theorem N92 {key:ByteArray} {v:Int} (hP:Parts hp ps) (i:Nat) (h:IdxR (ps i) x n M) (hin:getL key M=some v) (hn:n≤65536)
    (hK:∀ l hp',IdxR l x n (delL key M)→Parts hp' (pu ps i l)→K (.bool true) hp'):CF Tryd.prog 92 [ptr x 0,.string key] hp K:=by
  refine CF.part hP i (C92 (K:=fun u l=>u=.bool true∧IdxR l x n (delL key M)) h hin hn fun l hl=>⟨rfl,hl⟩) ?_
  rintro u l hp' ⟨rfl,hl⟩ hP'
  exact hK l hp' hl hP'
theorem N66 {m:Int} (hP:Parts hp ps) (i:Nat) (hi:∀ b,ps i b=.none) (hbad:(m<1∨m > 65536)→K (.tuple ⟨[.pointer none,.int .i64 1]⟩) hp)
    (hok:¬ (m<1∨m > 65536)→∀ x l hp',IdxR l x m.toNat []→Parts hp' (pu ps i l)→HSub hp hp'→K (.tuple ⟨[ptr x 0,.int .i64 0]⟩) hp'):CF Tryd.prog 66 [.int .i64 m] hp K:=
  C66 hbad fun hm x l hp' hl hs hf=>hok hm x l hp' hl (hP.add i hi hs hf) (hf hp (HSub.refl _)).1
theorem N82 (hP:Parts hp ps) (i:Nat) (hi:∀ b,ps i b=.none) (hK:∀ q l hp',QW l q []→Parts hp' (pu ps i l)→HSub hp hp'→K (ptr q 0) hp'):CF Tryd.prog 82 [] hp K:=by
  refine CF.loc (hq:=fun _=>.none) (fun x=>.inl rfl) (C82 (K:=fun v h'=>∃ q,v=ptr q 0∧QW h' q []) fun q hq' _ _ h=>⟨q,rfl,h⟩) ?_
  rintro v l hp' ⟨q,rfl,h⟩ hs hf
  exact hK q l hp' h (hP.add i hi hs fun r hr=>hf r hr fun x=>.inl rfl) (hf hp (HSub.refl _) (fun x=>.inl rfl)).1
theorem N87 {id due:Int} (hP:Parts hp ps) (i:Nat) (h:QW (ps i) q w) (hsz:w.length+1≤1000000) (hd:¬ (due<0∨due > 4611686018427387904))
    (hK:∀ l hp',QW l q (setW id due w)→Parts hp' (pu ps i l)→K (.int .i64 0) hp'):CF Tryd.prog 87 [ptr q 0,.int .i64 id,.int .i64 due] hp K:=by
  refine CF.part hP i (C87 (K:=fun u l=>u=.int .i64 0∧QW l q (setW id due w)) h hsz (fun hb=>absurd hb hd) fun _ l hl=>⟨rfl,hl⟩) ?_
  rintro u l hp' ⟨rfl,hl⟩ hP'
  exact hK l hp' hl hP'
theorem N93 {id:Int} (hP:Parts hp ps) (i:Nat) (h:QW (ps i) q w) (hsz:w.length≤1000000)
    (hK:∀ l hp',QW l q (dropW id w)→Parts hp' (pu ps i l)→K (.bool (getL id w).isSome) hp'):CF Tryd.prog 93 [ptr q 0,.int .i64 id] hp K:=by
  refine CF.part hP i (C93 (K:=fun u l=>u=.bool (getL id w).isSome∧QW l q (dropW id w)) h hsz fun l hl=>⟨rfl,hl⟩) ?_
  rintro u l hp' ⟨rfl,hl⟩ hP'
  exact hK l hp' hl hP'
end
end Go.Proofs
