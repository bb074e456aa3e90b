/- Parts of the proof of BibPlaysProof: the logic of what is known of memory, functions' contracts. -/
import Derived.Test.YtpkhoemonibajaaGreatDoorHlCW
import Derived.Test.YtpkhoemonibajaaGreatDoorHlMapL
import Derived.Test.YtpkhoemonibajaaGreatDoorHlUse2
import Derived.Test.YtpkhoemonibajaaGreatDoorHlSort
import Derived.Test.YtpkhoemonibajaaGreatDoorHlLib
import Derived.Sort.LotD3
import Derived.Test.YtpkhoemonibajaaGreatDoorHlCW
import Derived.Test.YtpkhoemonibajaaGreatDoorProg
import Derived.Test.YtpkhoemonibajaaGreatDoorHlRangeS
import Derived.Test.YtpkhoemonibajaaGreatDoorHlMake
import Derived.Test.YtpkhoemonibajaaGreatDoorHlStr
import Derived.Test.YtpkhoemonibajaaGreatDoorHlAbb
import Derived.Sort.LotA
import Derived.Test.YtpkhoemonibajaaGreatDoorHlFrame
import Derived.KernelRfl
import Derived.Test.YtpkhoemonibajaaGreatDoorHlMapE
import Derived.Sort.LotD2
import Derived.Test.YtpkhoemonibajaaGreatDoorHlParts2
import Derived.Shelf.Strconv.Itoa3
import Derived.ChangeKeysEq
import Derived.Lib.ItoaNum
import Derived.Test.YtpkhoemonibajaaGreatDoorHlBytes
import Derived.Lib.ItoaLen
import Derived.Lib.Overlaps
import Derived.Laws.Externs
import Derived.Test.YtpkhoemonibajaaGreatDoorHlMid
import Derived.Test.YtpkhoemonibajaaGreatDoorHlRange
set_option linter.unusedVariables false
set_option linter.unusedSimpArgs false
set_option linter.unusedVariables false
namespace Go.HL
open Go
/-- So many places on, counted round. -/
def nx (N a u:Nat):Nat:=if a+u<N then a+u else a+u-N
/-- How many places on another one is. -/
def ds (N a b:Nat):Nat:=if a≤b then b-a else b+N-a
theorem nx_ds {N a b:Nat} (ha:a<N) (hb:b<N):nx N a (ds N a b)=b:=by unfold nx ds; split <;> split <;> omega
theorem ds_nx {N a u:Nat} (ha:a<N) (hu:u<N):ds N a (nx N a u)=u:=by unfold nx ds; split <;> split <;> omega
theorem nx_lt {N a u:Nat} (ha:a<N) (hu:u≤N):nx N a u<N:=by unfold nx; split <;> omega
theorem ds_lt {N a b:Nat} (ha:a<N) (hb:b<N):ds N a b<N:=by unfold ds; split <;> omega
theorem nx_zero {N a:Nat} (ha:a<N):nx N a 0=a:=by unfold nx; split <;> omega
theorem nx_cases (N a u:Nat):(a+u<N∧nx N a u=a+u)∨(N≤a+u∧nx N a u=a+u-N):=by unfold nx; split <;> omega
theorem ds_cases (N a b:Nat):(a≤b∧ds N a b=b-a)∨(b<a∧ds N a b=b+N-a):=by unfold ds; split <;> omega
theorem nx_succ {N a u:Nat} (ha:a<N) (hu:u<N):nx N a (u+1)=if nx N a u+1<N then nx N a u+1 else 0:=by
  rcases nx_cases N a u with ⟨h1,h2⟩ | ⟨h1,h2⟩ <;> rcases nx_cases N a (u+1) with ⟨h3,h4⟩ | ⟨h3,h4⟩ <;> rw [h2,h4] <;> split <;> omega
/-- Where a path meets the place that is t on from i. -/
theorem path1 {N h i p u t:Nat} (hh:h<N) (hi:i<N) (hp:p<N) (ht:t<N) (hu:u<ds N h p) (h1:ds N i (nx N h u)<t) (h2:t≤ds N i p) :
    nx N h (u+(t-ds N i (nx N h u)))=nx N i t∧(nx N i t=p∨u+(t-ds N i (nx N h u))<ds N h p):=by
  rcases ds_cases N h p with ⟨a1,a2⟩ | ⟨a1,a2⟩ <;> rcases nx_cases N h u with ⟨b1,b2⟩ | ⟨b1,b2⟩ <;> rcases ds_cases N i (nx N h u) with ⟨c1,c2⟩ | ⟨c1,c2⟩ <;>
    rcases ds_cases N i p with ⟨d1,d2⟩ | ⟨d1,d2⟩ <;> rcases nx_cases N i t with ⟨e1,e2⟩ | ⟨e1,e2⟩ <;> rcases nx_cases N h (u+(t-ds N i (nx N h u))) with ⟨f1,f2⟩ | ⟨f1,f2⟩ <;> omega
/-- A path that passes the place t on from i, to a place ahead of it, passes all behind it. -/
theorem path2 {N h i p u t z:Nat} (hh:h<N) (hi:i<N) (hp:p<N) (hz:z<N) (htz:t≤z) (hu:u<ds N h p) (h1:nx N h u=nx N i t) (h2:ds N i p<t) :
    nx N h (u+(z-t))=nx N i z∧u+(z-t)<ds N h p:=by
  rcases ds_cases N h p with ⟨a1,a2⟩ | ⟨a1,a2⟩ <;> rcases nx_cases N h u with ⟨b1,b2⟩ | ⟨b1,b2⟩ <;> rcases nx_cases N i t with ⟨c1,c2⟩ | ⟨c1,c2⟩ <;>
    rcases ds_cases N i p with ⟨d1,d2⟩ | ⟨d1,d2⟩ <;> rcases nx_cases N i z with ⟨e1,e2⟩ | ⟨e1,e2⟩ <;> rcases nx_cases N h (u+(z-t)) with ⟨f1,f2⟩ | ⟨f1,f2⟩ <;> omega
section
variable {κ ν:Type} [DecidableEq κ]
/-- A table: at each place something with its key, or nothing. -/
abbrev Tb (κ ν:Type):=Nat→Option (κ × ν)
def tset (T:Tb κ ν) (p:Nat) (x:Option (κ × ν)):Tb κ ν:=fun q=>if q=p then x else T q
omit [DecidableEq κ] in
theorem tset_eq (T:Tb κ ν) (p:Nat) (x:Option (κ × ν)):tset T p x p=x:=by simp [tset]
omit [DecidableEq κ] in
theorem tset_ne (T:Tb κ ν) {p q:Nat} (x:Option (κ × ν)) (h:q≠p):tset T p x q=T q:=by simp [tset,h]
variable {N:Nat} {H:κ→Nat} {T:Tb κ ν} {k:κ} {v:ν} {p:Nat}
/-- From where a key begins to where it lies nothing is free. -/
def Good (N:Nat) (H:κ→Nat) (T:Tb κ ν):Prop:=∀ p,p<N→∀ x,T p=some x→∀ u,u<ds N (H x.1) p→T (nx N (H x.1) u)≠none
def Uniq (N:Nat) (T:Tb κ ν):Prop:=∀ p q,p<N→q<N→∀ x y,T p=some x→T q=some y→x.1=y.1→p=q
/-- What a search for a key comes to. -/
def Fd (N:Nat) (H:κ→Nat) (T:Tb κ ν) (k:κ) (p:Nat):Prop:=p<N∧(∀ u,u<ds N (H k) p→∃ x,T (nx N (H k) u)=some x∧x.1≠k)∧∀ x,T p=some x→x.1=k
/-- The table as a list of pairs. -/
def TM (N:Nat) (T:Tb κ ν) (M:List (κ × ν)):Prop:=(M.map (·.1)).Nodup∧∀ k v,getL k M=some v↔∃ p,p<N∧T p=some (k,v)
theorem Fd.get {M:List (κ × ν)} (hH:H k<N) (hg:Good N H T) (hu:Uniq N T) (hm:TM N T M) (hf:Fd N H T k p):(T p).map (·.2)=getL k M:=by
  obtain ⟨f1,f2,f3⟩:=hf
  cases hp:T p with
  | some x=>
    have:=f3 x hp
    rw [Option.map_some,eq_comm,hm.2]
    exact ⟨p,f1,by rw [hp,← this]⟩
  | none=>
    rw [Option.map_none]
    cases hk:getL k M with
    | none=>rfl
    | some v=>
      exfalso
      obtain ⟨q,hq,hqv⟩:=(hm.2 k v).1 hk
      have h1:=hg q hq _ hqv
      rcases Nat.lt_trichotomy (ds N (H k) p) (ds N (H k) q) with h | h | h
      · have:=h1 _ h
        simp only at this
        rw [nx_ds hH f1] at this
        exact this hp
      · have:p=q:=by rw [← nx_ds hH f1,h,nx_ds hH hq]
        rw [this,hqv] at hp; cases hp
      · obtain ⟨x,hx,hne⟩:=f2 _ h
        rw [nx_ds hH hq,hqv] at hx
        cases hx; exact hne rfl
/-- Something new is put where the search came to. -/
theorem put_table {M:List (κ × ν)} (hH:H k<N) (hg:Good N H T) (hu:Uniq N T) (hm:TM N T M) (hf:Fd N H T k p) (hn:T p=none) :
    Good N H (tset T p (some (k,v)))∧Uniq N (tset T p (some (k,v)))∧TM N (tset T p (some (k,v))) (putL k v M)∧getL k M=none:=by
  have hget:=hf.get hH hg hu hm
  rw [hn,Option.map_none] at hget
  obtain ⟨f1,f2,f3⟩:=hf
  have hno:∀ q,q<N→∀ x,T q=some x→x.1≠k:=fun q hq x hx e=>by
    have:getL k M=some x.2:=(hm.2 k x.2).2 ⟨q,hq,by rw [hx,← e]⟩
    rw [this] at hget; cases hget
  refine ⟨?_,?_,⟨nodup_put hm.1,?_⟩,hget.symm⟩
  · intro q hq x hx u hu'
    by_cases hqp:q=p
    · subst hqp
      rw [tset_eq] at hx
      cases hx
      obtain ⟨y,hy,_⟩:=f2 u hu'
      by_cases he:nx N (H k) u=q
      · simp only [he,tset_eq]; simp
      · simp only; rw [tset_ne _ _ he,hy]; simp
    · rw [tset_ne _ _ hqp] at hx
      have:=hg q hq x hx u hu'
      by_cases he:nx N (H x.1) u=p
      · rw [he,tset_eq]; simp
      · rw [tset_ne _ _ he]; exact this
  · intro a b ha hb x y hx hy he
    by_cases h1:a=p
    · by_cases h2:b=p
      · rw [h1,h2]
      · rw [h1,tset_eq] at hx; cases hx
        rw [tset_ne _ _ h2] at hy
        exact absurd he.symm (hno b hb y hy)
    · rw [tset_ne _ _ h1] at hx
      by_cases h2:b=p
      · rw [h2,tset_eq] at hy; cases hy
        exact absurd he (hno a ha x hx)
      · rw [tset_ne _ _ h2] at hy
        exact hu a b ha hb x y hx hy he
  · intro k' v'
    rw [getL_put]
    by_cases hk:k'=k
    · subst hk
      rw [if_pos rfl]
      constructor
      · intro h; cases h; exact ⟨p,f1,tset_eq ..⟩
      · rintro ⟨q,hq,hx⟩
        by_cases hqp:q=p
        · rw [hqp,tset_eq] at hx; cases hx; rfl
        · rw [tset_ne _ _ hqp] at hx; exact absurd rfl (hno q hq _ hx)
    · rw [if_neg hk,hm.2]
      constructor
      · rintro ⟨q,hq,hx⟩
        refine ⟨q,hq,?_⟩
        rw [tset_ne _ _ (fun e=>by rw [e,hn] at hx; cases hx)]; exact hx
      · rintro ⟨q,hq,hx⟩
        by_cases hqp:q=p
        · rw [hqp,tset_eq] at hx; cases hx; exact absurd rfl hk
        · rw [tset_ne _ _ hqp] at hx; exact ⟨q,hq,hx⟩
/-- While those behind a place that was made free are put anew: t of them are done. -/
structure Mid (N:Nat) (H:κ→Nat) (T:Tb κ ν) (i t:Nat) (M:List (κ × ν)):Prop where
  path:∀ p,p<N→∀ x,T p=some x→∀ u,u<ds N (H x.1) p→T (nx N (H x.1) u)≠none∨(ds N i (nx N (H x.1) u)<t∧t≤ds N i p)
  uniq:Uniq N T
  tm:TM N T M
  room:∃ z,t≤z∧z<N∧T (nx N i z)=none
/-- A place is made free. -/
theorem Mid.start {M:List (κ × ν)} (hN:1<N) (hg:Good N H T) (hu:Uniq N T) (hm:TM N T M) (hp:p<N) (hx:T p=some (k,v)) (hr:∃ z,z<N∧T z=none):Mid N H (tset T p none) p 1 (delL k M):=by
  refine ⟨?_,?_,⟨nodup_del hm.1,?_⟩,?_⟩
  · intro q hq x hqx u hu'
    have hqp:q≠p:=fun e=>by rw [e,tset_eq] at hqx; cases hqx
    rw [tset_ne _ _ hqp] at hqx
    have:=hg q hq x hqx u hu'
    by_cases he:nx N (H x.1) u=p
    · right
      rw [he]
      unfold ds; constructor <;> split <;> omega
    · left; rw [tset_ne _ _ he]; exact this
  · intro a b ha hb x y hax hby he
    have h1:a≠p:=fun e=>by rw [e,tset_eq] at hax; cases hax
    have h2:b≠p:=fun e=>by rw [e,tset_eq] at hby; cases hby
    rw [tset_ne _ _ h1] at hax
    rw [tset_ne _ _ h2] at hby
    exact hu a b ha hb x y hax hby he
  · intro k' v'
    rw [getL_del hm.1]
    by_cases hk:k'=k
    · subst hk
      rw [if_pos rfl]
      constructor
      · intro h; cases h
      · rintro ⟨q,hq,hqx⟩
        have hqp:q≠p:=fun e=>by rw [e,tset_eq] at hqx; cases hqx
        rw [tset_ne _ _ hqp] at hqx
        exact absurd (hu q p hq hp _ _ hqx hx rfl) hqp
    · rw [if_neg hk,hm.2]
      constructor
      · rintro ⟨q,hq,hqx⟩
        refine ⟨q,hq,?_⟩
        rw [tset_ne _ _ (fun e=>by rw [e,hx] at hqx; cases hqx; exact hk rfl)]; exact hqx
      · rintro ⟨q,hq,hqx⟩
        have hqp:q≠p:=fun e=>by rw [e,tset_eq] at hqx; cases hqx
        rw [tset_ne _ _ hqp] at hqx
        exact ⟨q,hq,hqx⟩
  · obtain ⟨z,hz,hzn⟩:=hr
    have hzp:z≠p:=fun e=>by rw [e,hx] at hzn; cases hzn
    refine ⟨ds N p z,?_,ds_lt hp hz,?_⟩
    · unfold ds; split <;> omega
    · rw [nx_ds hp hz,tset_ne _ _ hzp]; exact hzn
/-- The one behind is free: it is done. -/
theorem Mid.done {M:List (κ × ν)} {i t:Nat} (hH:∀ k,H k<N) (hi:i<N) (ht:t<N) (h:Mid N H T i t M) (hn:T (nx N i t)=none):Good N H T:=by
  intro p hp x hx u hu
  rcases h.path p hp x hx u hu with h1 | ⟨h1,h2⟩
  · exact h1
  · exfalso
    have hHx:=hH x.1
    obtain ⟨e,hu1⟩:=path1 hHx hi hp ht hu h1 h2
    rcases hu1 with hu1 | hu1
    · rw [hu1,hx] at hn; cases hn
    · rcases h.path p hp x hx _ hu1 with h3 | ⟨h3,_⟩
      · rw [e] at h3; exact h3 hn
      · rw [e,ds_nx hi ht] at h3
        omega
/-- The one behind is put anew. -/
theorem Mid.step {M:List (κ × ν)} {i t:Nat} {x:κ × ν} {q:Nat} (hH:∀ k,H k<N) (hi:i<N) (ht0:0<t) (ht:t<N) (h:Mid N H T i t M) (hx:T (nx N i t)=some x)
    (hf:Fd N H (tset T (nx N i t) none) x.1 q):tset T (nx N i t) none q=none∧Mid N H (tset (tset T (nx N i t) none) q (some x)) i (t+1) M:=by
  have hjN:nx N i t<N:=nx_lt hi (by omega)
  have hdj:ds N i (nx N i t)=t:=ds_nx hi ht
  generalize hj:nx N i t=j at *
  obtain ⟨f1,f2,f3⟩:=hf
  have hHx:=hH x.1
  have hqn:tset T j none q=none:=by
    cases hq:tset T j none q with
    | none=>rfl
    | some y=>
      have hk:=f3 y hq
      have hqj:q≠j:=fun e=>by rw [e,tset_eq] at hq; cases hq
      rw [tset_ne _ _ hqj] at hq
      exact absurd (h.uniq q j f1 hjN y x hq hx hk) hqj
  have hle:ds N (H x.1) q≤ds N (H x.1) j:=by
    rcases Nat.lt_or_ge (ds N (H x.1) j) (ds N (H x.1) q) with hlt | hge
    · obtain ⟨y,hy,_⟩:=f2 _ hlt
      rw [nx_ds hHx hjN,tset_eq] at hy; cases hy
    · exact hge
  have hnone:∀ a,a≠q→tset (tset T j none) q (some x) a=none→a=j∨T a=none:=fun a haq ha=>by
    rw [tset_ne _ _ haq] at ha
    by_cases haj:a=j
    · exact .inl haj
    · rw [tset_ne _ _ haj] at ha; exact .inr ha
  have hsome:∀ a y,a≠q→tset (tset T j none) q (some x) a=some y→a≠j∧T a=some y:=fun a y haq ha=>by
    rw [tset_ne _ _ haq] at ha
    by_cases haj:a=j
    · rw [haj,tset_eq] at ha; cases ha
    · rw [tset_ne _ _ haj] at ha; exact ⟨haj,ha⟩
  obtain ⟨z,hz1,hz2,hz3⟩:=h.room
  have hzt:z≠t:=fun e=>by rw [e,hj,hx] at hz3; cases hz3
  have hzq:nx N i z≠q:=fun e=>by
    have hzj:nx N i z≠j:=fun e'=>by rw [e',hx] at hz3; cases hz3
    have hlt:ds N (H x.1) q<ds N (H x.1) j:=by
      rcases Nat.lt_or_eq_of_le hle with h1 | h1
      · exact h1
      · exact absurd (by rw [e,← nx_ds hHx f1,h1,nx_ds hHx hjN]) hzj
    rcases h.path j hjN x hx _ hlt with h1 | ⟨h1,_⟩
    · rw [nx_ds hHx f1,← e] at h1; exact h1 hz3
    · rw [nx_ds hHx f1,← e,ds_nx hi hz2] at h1; omega
  refine ⟨hqn,?_,?_,⟨h.tm.1,?_⟩,⟨z,by omega,hz2,?_⟩⟩
  · intro p hp y hy u hu
    by_cases hpq:p=q
    · subst hpq
      rw [tset_eq] at hy; cases hy
      left
      obtain ⟨w,hw,_⟩:=f2 u hu
      by_cases he:nx N (H x.1) u=p
      · rw [he,tset_eq]; simp
      · rw [tset_ne _ _ he,hw]; simp
    · obtain ⟨hpj,hpy⟩:=hsome p y hpq hy
      by_cases hd:tset (tset T j none) q (some x) (nx N (H y.1) u)=none
      · right
        have haq:nx N (H y.1) u≠q:=fun e=>by rw [e,tset_eq] at hd; cases hd
        have hne:ds N i p≠t:=fun e=>hpj (by rw [← nx_ds hi hp,e,hj])
        rcases hnone _ haq hd with e | e
        ·
          rw [e,hdj]
          refine ⟨by omega,?_⟩
          rcases Nat.lt_or_ge (ds N i p) t with hlt | hge
          · exfalso
            have hHy:=hH y.1
            obtain ⟨e2,hu2⟩:=path2 hHy hi hp hz2 hz1 hu (e.trans hj.symm) hlt
            rcases h.path p hp y hpy _ hu2 with h1 | ⟨_,h1⟩
            · rw [e2] at h1; exact h1 hz3
            · omega
          · omega
        · rcases h.path p hp y hpy u hu with h1 | ⟨h1,h2⟩
          · exact absurd e h1
          · exact ⟨by omega,by omega⟩
      · exact .inl hd
  · intro a b ha hb y w hy hw he
    by_cases h1:a=q
    · by_cases h2:b=q
      · rw [h1,h2]
      · rw [h1,tset_eq] at hy; cases hy
        obtain ⟨g1,g2⟩:=hsome b w h2 hw
        exact absurd (h.uniq j b hjN hb x w hx g2 he).symm g1
    · obtain ⟨g1,g2⟩:=hsome a y h1 hy
      by_cases h2:b=q
      · rw [h2,tset_eq] at hw; cases hw
        exact absurd (h.uniq a j ha hjN y x g2 hx he) g1
      · obtain ⟨g3,g4⟩:=hsome b w h2 hw
        exact h.uniq a b ha hb y w g2 g4 he
  · intro k' v'
    rw [h.tm.2]
    constructor
    · rintro ⟨a,ha,hav⟩
      by_cases haj:a=j
      · rw [haj,hx] at hav
        exact ⟨q,f1,by rw [tset_eq]; exact hav⟩
      · refine ⟨a,ha,?_⟩
        have haq:a≠q:=fun e=>by
          rw [e] at haj hav
          rw [tset_ne _ _ haj,hav] at hqn; cases hqn
        rw [tset_ne _ _ haq,tset_ne _ _ haj]; exact hav
    · rintro ⟨a,ha,hav⟩
      by_cases haq:a=q
      · rw [haq,tset_eq] at hav
        exact ⟨j,hjN,by rw [hx]; exact hav⟩
      · exact ⟨a,ha,(hsome a _ haq hav).2⟩
  · cases hc:tset (tset T j none) q (some x) (nx N i z) with
    | none=>rfl
    | some y=>
      have:=(hsome _ y hzq hc).2
      rw [hz3] at this; cases this
/-- Where there is less than places, one is free. -/
theorem room_of {M:List (κ × ν)} (hu:Uniq N T) (hm:TM N T M) (hl:M.length<N):∃ z,z<N∧T z=none:=by
  refine Classical.byContradiction fun hno=>?_
  have hall:∀ z,z<N→∃ x,T z=some x:=fun z hz=>by
    cases h:T z with
    | none=>exact absurd ⟨z,hz,h⟩ hno
    | some x=>exact ⟨x,rfl⟩
  have key:∀ n,n≤N→∃ ks:List κ,ks.length=n∧ks.Nodup∧∀ a∈ks,∃ p,p<n∧∃ v,T p=some (a,v):=by
    intro n
    induction n with
    | zero=>intro _; exact ⟨[],rfl,.nil,fun a h=>by cases h⟩
    | succ n ih=>
      intro hn
      obtain ⟨ks,h1,h2,h3⟩:=ih (by omega)
      obtain ⟨x,hx⟩:=hall n (by omega)
      refine ⟨x.1::ks,by simp [h1],List.nodup_cons.2 ⟨fun hm=>?_,h2⟩,fun a ha=>?_⟩
      · obtain ⟨p,hp,v,hv⟩:=h3 _ hm
        have:=hu p n (by omega) (by omega) _ _ hv hx rfl
        omega
      · rcases List.mem_cons.1 ha with rfl | ha
        · exact ⟨n,by omega,x.2,hx⟩
        · obtain ⟨p,hp,v,hv⟩:=h3 a ha
          exact ⟨p,by omega,v,hv⟩
  obtain ⟨ks,h1,h2,h3⟩:=key N (Nat.le_refl _)
  have hsub:∀ a∈ks,a∈M.map (·.1):=fun a ha=>by
    obtain ⟨p,hp,v,hv⟩:=h3 a ha
    have:=(hm.2 a v).2 ⟨p,hp,hv⟩
    exact List.mem_map.2 ⟨_,getL_some_mem this,rfl⟩
  have:=nodup_len_le h2 hsub
  simp only [List.length_map] at this
  omega
end
end Go.HL
namespace Go.HL
open Go
/-- The comparison that a sort is handed: whatever the row holds. -/
def CmpOk {α:Type} [Inhabited α] (P:Program) (f:FuncId) (ga gb:List Value) (hp0:HP) (b:Nat) (e:TypeId) (sp:Nat) (en:α→List Value) (n:Nat) (cf:α→α→Int):Prop:=
  ∀ (d:Array α) (x y:α) (K:Value→HP→Prop),d.size=n→K (.int .i64 (cf x y)) (HA hp0 b e sp en d)→CF P f (ga++[.agg ⟨en x⟩,.agg ⟨en y⟩]++gb) (HA hp0 b e sp en d) K
def ltC {α:Type} (cf:α→α→Int) (x y:α):Bool:=decide (cf x y<0)
theorem swp_size {α:Type} [Inhabited α] (d:Array α) (i j:Nat):(Sort.swp d i j).size=d.size:=by simp [Sort.swp]
end Go.HL
namespace Go.HL
open Go
theorem wi {x:Int} {i:Nat} (h:x=i) (hb:i≤9223372036854775807):IntKind.wrap .i64 x=i:=by rw [h]; exact w64 (by omega) (by omega)
section
variable {α:Type} {hp0:HP} {b:Nat} {e:TypeId} {sp:Nat} {en:α→List Value} {d:Array α}
theorem HA.set_comm {r:Nat} (hr:r≠b) (x:Ent):(HA hp0 b e sp en d).set r x=HA (hp0.set r x) b e sp en d:=by
  unfold HA; rw [HP.set_comm _ _ _ hr]
theorem HA.ne_of_none {r:Nat} (h:HA hp0 b e sp en d r=.none):r≠b∧hp0 r=.none:=by
  have hb:r≠b:=fun e=>by unfold HA at h; rw [e,HP.set_eq] at h; cases h
  refine ⟨hb,?_⟩
  unfold HA at h
  rwa [HP.set_ne _ _ hb] at h
theorem HA.ne {r:Nat} (h:r≠b):HA hp0 b e sp en d r=hp0 r:=by
  unfold HA; rw [HP.set_ne _ _ h]
end
section
variable {α:Type} [Inhabited α] {P:Program} {f:FuncId} {ga gb:List Value} {hp0:HP} {b:Nat} {e:TypeId} {sp size:Nat} {en:α→List Value} {n:Nat} {cf:α→α→Int} {d:Array α}
theorem cmpP (hc:CmpOk P f ga gb hp0 b e sp en n cf) (he:∀ x,(en x).length=size) {I J:Int} {i j:Nat} {X:Int→HP→Prop} (hs:d.size=n) (hI:I=i) (hJ:J=j) (hi:i<n) (hj:j<n)
    (h:X (cf d[i]! d[j]!) (HA hp0 b e sp en d)) :
    ((0≤I)∧(I<(n:Nat))∧(ptrN (some ⟨b,0,none⟩) fun b1 o2=>(ldL (HP.cellN (HA hp0 b e sp en d) b1 (o2+Int.toNat I*size) size) fun l3=>((0≤J)∧(J<(n:Nat))∧(ptrN (some ⟨b,0,none⟩) fun b4 o5=>(ldL (HP.cellN (HA hp0 b e sp en d) b4 (o5+Int.toNat J*size) size) fun l6=>
      (fnV (.func (.func f) ⟨ga⟩ ⟨gb⟩) fun f7 ga8 gb9=>(CF P f7 (ga8++[(Value.agg ⟨l3⟩),(Value.agg ⟨l6⟩)]++gb9) (HA hp0 b e sp en d) fun u10 h11=>(intV u10 .i64 fun i12=>X i12 h11))))))))):=by
  subst hI hJ
  have g1:=HA.get (hp0:=hp0) (b:=b) (e:=e) (sp:=sp) he (d:=d) (i:=i) (by omega)
  have g2:=HA.get (hp0:=hp0) (b:=b) (e:=e) (sp:=sp) he (d:=d) (i:=j) (by omega)
  simp only [ptrN_some,Int.toNat_natCast,g1,g2,ldL_some,fnV_mk]
  refine ⟨by omega,by omega,by omega,by omega,?_⟩
  refine hc d _ _ _ hs ?_
  rw [intV_int]
  exact h
theorem swapP (he:∀ x,(en x).length=size) (h1:∀ x,(en x).all one=true) {I J:Int} {i j:Nat} {X:HP→Prop} (hs:d.size=n) (hI:I=i) (hJ:J=j) (hi:i<n) (hj:j<n)
    (h:X (HA hp0 b e sp en (Sort.swp d i j))) :
    ((0≤J)∧(J<(n:Nat))∧(ptrN (some ⟨b,0,none⟩) fun b1 o2=>(ldL (HP.cellN (HA hp0 b e sp en d) b1 (o2+Int.toNat J*size) size) fun l3=>((0≤I)∧(I<(n:Nat))∧(ptrN (some ⟨b,0,none⟩) fun b4 o5=>(ldL (HP.cellN (HA hp0 b e sp en d) b4 (o5+Int.toNat I*size) size) fun l6=>
      ((0≤I)∧(I<(n:Nat))∧(ptrN (some ⟨b,0,none⟩) fun b7 o8=>((List.length l3=size)∧(HP.stN (HA hp0 b e sp en d) b7 (o8+Int.toNat I*size) l3 fun h9=>((0≤J)∧(J<(n:Nat))∧(ptrN (some ⟨b,0,none⟩) fun b10 o11=>((List.length l6=size)∧(HP.stN h9 b10 (o11+Int.toNat J*size) l6 fun h12=>X h12)))))))))))))):=by
  subst hI hJ
  have g1:=HA.get (hp0:=hp0) (b:=b) (e:=e) (sp:=sp) he (d:=d) (i:=i) (by omega)
  have g2:=HA.get (hp0:=hp0) (b:=b) (e:=e) (sp:=sp) he (d:=d) (i:=j) (by omega)
  simp only [ptrN_some,Int.toNat_natCast,g1,g2,ldL_some]
  refine ⟨by omega,by omega,by omega,by omega,by omega,by omega,he _,?_⟩
  refine HA.st he h1 (by omega) _ ?_
  refine ⟨by omega,by omega,he _,?_⟩
  refine HA.st he h1 (by rw [Array.size_setIfInBounds]; omega) _ ?_
  exact h
/-- A comparison that holds whatever else is known. -/
def CmpX (P:Program) (f:FuncId) (ga gb:List Value) (hp0:HP) (b:Nat) (e:TypeId) (sp:Nat) (en:α→List Value) (n:Nat) (cf:α→α→Int):Prop:=
  ∀ hp1,HSub hp0 hp1→CmpOk P f ga gb hp1 b e sp en n cf
theorem CmpX.ok (h:CmpX P f ga gb hp0 b e sp en n cf):CmpOk P f ga gb hp0 b e sp en n cf:=h hp0 (HSub.refl _)
end
end Go.HL
set_option linter.unusedVariables false
set_option maxRecDepth 20000
namespace Go.Proofs
open Go Go.HL
def F22_j3 (x0 x4:Int) (hp:HP) (K:Kh):Prop:=
  (opS Tryz.prog (Instr.makeSlice 144 (Value.int .i64 x4) (Value.int .i64 x4)) hp fun u_1 h_2=>(slcV u_1 fun a_3 n_4 c_5=>(∀ b_6:Nat,h_2 b_6=.none→(K (.tuple ⟨[(ptr b_6 0),(Value.int .i64 0)]⟩) (HP.set h_2 b_6 (.cells 146 [(Value.slice a_3 n_4 c_5),(Value.int .i64 x0),(Value.int .i64 0)] 0))))))
def F22_l4 (x0:Int) (K:Kh) (I4:(Int)→HP→Prop) (x4:Int) (hp:HP):Prop:=
  (ite2 (decide ((x4:Int)<(IntKind.wrap .i64 (2*x0)))) (I4 (IntKind.wrap .i64 (x4*2)) hp) (F22_j3 x0 x4 hp  K))
def F22_j2 (x0 x4:Int) (hp:HP) (K:Kh):Prop:=
  (LoopP (σ:=Int) (fun I s hp=>F22_l4 x0  K I s hp) x4 hp)
def F22_j1 (x0:Int) (x10:Bool) (hp:HP) (K:Kh):Prop:=
  (ite2 x10 (K (.tuple ⟨[(Value.pointer none),(Value.int .i64 1)]⟩) hp) (F22_j2 x0 8 hp  K))
def F22 (x0:Int) (hp:HP) (K:Kh):Prop:=
  (ite2 (decide ((x0:Int)<1)) (F22_j1 x0 true hp  K) (F22_j1 x0 (decide ((x0:Int) > 65536)) hp  K))
theorem F22_ok (x0:Int) (hp:HP) (K:Kh) (h:F22 x0 hp K):CF Tryz.prog 22 [(Value.int .i64 x0)] hp K:=
  have L:∀ {Q} n,Snd Tryz.prog 22 (cAt Tryz.f22 (pth n)) Q (CW Tryz.prog 22 [] [] (cAt Tryz.f22 (pth n)) Q):=fun _=>Snd.leaf
  okF h Tryz.func22 (Snd.seq (L 2) (Snd.seq (Snd.jn [(0,.i .i64),(10,.b)] (fun a hp=>F22_j1 a.1 a.2.1 hp  K) (L 9) (L 13) (by rfl) (by kernel_rfl)) (Snd.jn [(0,.i .i64),(4,.i .i64)] (fun a hp=>F22_j2 a.1 a.2.1 hp  K) (L 11) (Snd.jn [(0,.i .i64),(4,.i .i64)] (fun a hp=>F22_j3 a.1 a.2.1 hp  K) (Snd.block 0 (Snd.lp (σ:=Int) [(0,.i .i64),(4,.i .i64)] (fun a=>a.2.1) (fun a s=>(a.1,s,())) (fun a I s hp=>F22_l4 a.1  K I s hp) (fun I4=>(L 71)) (by rfl) (by kernel_rfl) (by kernel_rfl))) (L 31) (by rfl) (by kernel_rfl)) (by rfl) (by kernel_rfl)))) (by kernel_rfl) (by kernel_rfl) (by kernel_rfl)
def F74 (x0:OA) (x1:ByteArray) (hp:HP) (K:Kh):Prop:=
  (CF Tryz.prog 117 [(Value.pointer x0)] hp fun u_1 h_2=>(boolV u_1 fun q_3=>(ite2 q_3 (K (.tuple ⟨[(Value.int .i64 0),(Value.bool false)]⟩) h_2) (CF Tryz.prog 118 [(Value.pointer x0),(Value.string x1)] h_2 fun u_4 h_5=>(tup2V u_4 fun u_6 u_7=>(intV u_6 .i64 fun i_8=>(intV u_7 .i64 fun i_9=>(ptrN x0 fun b_10 o_11=>(ldV (HP.cell h_5 b_10 (o_11+0)) fun v_12=>(slcV v_12 fun a_13 n_14 c_15=>((0≤(i_8:Int))∧((i_8:Int)<(n_14:Nat))∧(ptrN a_13 fun b_16 o_17=>(ldV (HP.cell h_5 b_16 ((o_17+Int.toNat i_8*3)+1)) fun v_18=>(intV v_18 .i64 fun i_19=>(ptrN x0 fun b_20 o_21=>(ldV (HP.cell h_5 b_20 (o_21+0)) fun v_22=>(slcV v_22 fun a_23 n_24 c_25=>((0≤(i_8:Int))∧((i_8:Int)<(n_24:Nat))∧(ptrN a_23 fun b_26 o_27=>(ldV (HP.cell h_5 b_26 ((o_27+Int.toNat i_8*3)+2)) fun v_28=>(boolV v_28 fun q_29=>(K (.tuple ⟨[(Value.int .i64 i_19),(Value.bool q_29)]⟩) h_5))))))))))))))))))))))
theorem F74_ok (x0:OA) (x1:ByteArray) (hp:HP) (K:Kh) (h:F74 x0 x1 hp K):CF Tryz.prog 74 [(Value.pointer x0),(Value.string x1)] hp K:=
  have L:∀ {Q} n,Snd Tryz.prog 33 (cAt Tryz.f74 (pth n)) Q (CW Tryz.prog 33 [] [] (cAt Tryz.f74 (pth n)) Q):=fun _=>Snd.leaf
  okF h Tryz.func74 (L 1) (by kernel_rfl) (by kernel_rfl) (by kernel_rfl)
def F68 (x0:OA) (x1:ByteArray) (x2:Int) (hp:HP) (K:Kh):Prop:=
  (CF Tryz.prog 117 [(Value.pointer x0)] hp fun u_1 h_2=>(boolV u_1 fun q_3=>(ite2 q_3 (K (Value.int .i64 2) h_2) (CF Tryz.prog 118 [(Value.pointer x0),(Value.string x1)] h_2 fun u_4 h_5=>(tup2V u_4 fun u_6 u_7=>(intV u_6 .i64 fun i_8=>(intV u_7 .i64 fun i_9=>(ptrN x0 fun b_10 o_11=>(ldV (HP.cell h_5 b_10 (o_11+0)) fun v_12=>(slcV v_12 fun a_13 n_14 c_15=>((0≤(i_8:Int))∧((i_8:Int)<(n_14:Nat))∧(ptrN a_13 fun b_16 o_17=>(ldV (HP.cell h_5 b_16 ((o_17+Int.toNat i_8*3)+2)) fun v_18=>(boolV v_18 fun q_19=>(ite2 q_19 (K (Value.int .i64 5) h_5) (ptrN x0 fun b_20 o_21=>(ldV (HP.cell h_5 b_20 (o_21+2)) fun v_22=>(intV v_22 .i64 fun i_23=>(ptrN x0 fun b_24 o_25=>(ldV (HP.cell h_5 b_24 (o_25+1)) fun v_26=>(intV v_26 .i64 fun i_27=>(ite2 (decide ((i_23:Int)≥i_27)) (K (Value.int .i64 6) h_5) (ptrN x0 fun b_28 o_29=>(ldV (HP.cell h_5 b_28 (o_29+0)) fun v_30=>(slcV v_30 fun a_31 n_32 c_33=>((0≤(i_8:Int))∧((i_8:Int)<(n_32:Nat))∧(ptrN a_31 fun b_34 o_35=>((List.length [(Value.string x1),(Value.int .i64 x2),(Value.bool true)]=3)∧(HP.stN h_5 b_34 (o_35+Int.toNat i_8*3) [(Value.string x1),(Value.int .i64 x2),(Value.bool true)] fun h_36=>(ptrN x0 fun b_37 o_38=>(ldV (HP.cell h_36 b_37 (o_38+2)) fun v_39=>(intV v_39 .i64 fun i_40=>(ptrN x0 fun b_41 o_42=>(HP.st h_36 b_41 (o_42+2) (Value.int .i64 (IntKind.wrap .i64 (i_40+1))) fun h_43=>(K (Value.int .i64 0) h_43)))))))))))))))))))))))))))))))))))
theorem F68_ok (x0:OA) (x1:ByteArray) (x2:Int) (hp:HP) (K:Kh) (h:F68 x0 x1 x2 hp K):CF Tryz.prog 68 [(Value.pointer x0),(Value.string x1),(Value.int .i64 x2)] hp K:=
  have L:∀ {Q} n,Snd Tryz.prog 52 (cAt Tryz.f68 (pth n)) Q (CW Tryz.prog 52 [] [] (cAt Tryz.f68 (pth n)) Q):=fun _=>Snd.leaf
  okF h Tryz.func68 (L 1) (by kernel_rfl) (by kernel_rfl) (by kernel_rfl)
def F78_l2 (x0:OA) (K:Kh) (I2:(Int)→HP→Prop) (x5:Int) (hp:HP):Prop:=
  (ptrN x0 fun b_36 o_37=>(ldV (HP.cell hp b_36 (o_37+0)) fun v_38=>(slcV v_38 fun a_39 n_40 c_41=>((0≤(x5:Int))∧((x5:Int)<(n_40:Nat))∧(ptrN a_39 fun b_42 o_43=>(ldV (HP.cell hp b_42 ((o_43+Int.toNat x5*3)+2)) fun v_44=>(boolV v_44 fun q_45=>(ite2 q_45 (ptrN x0 fun b_46 o_47=>(ldV (HP.cell hp b_46 (o_47+0)) fun v_48=>(slcV v_48 fun a_49 n_50 c_51=>((0≤(x5:Int))∧((x5:Int)<(n_50:Nat))∧(ptrN a_49 fun b_52 o_53=>(ldL (HP.cellN hp b_52 (o_53+Int.toNat x5*3) 3) fun l_54=>(if List.length l_54=3 then (if List.all l_54 one=true then (if 0+List.length l_54≤List.length [(Value.string ⟨#[]⟩),(Value.int .i64 0),(Value.bool false)] then (ptrN x0 fun b_55 o_56=>(ldV (HP.cell hp b_55 (o_56+0)) fun v_57=>(slcV v_57 fun a_58 n_59 c_60=>((0≤(x5:Int))∧((x5:Int)<(n_59:Nat))∧(ptrN a_58 fun b_61 o_62=>((List.length [(Value.string ⟨#[]⟩),(Value.int .i64 0),(Value.bool false)]=3)∧(HP.stN hp b_61 (o_62+Int.toNat x5*3) [(Value.string ⟨#[]⟩),(Value.int .i64 0),(Value.bool false)] fun h_63=>(ldV ((splice [(Value.string ⟨#[]⟩),(Value.int .i64 0),(Value.bool false)] 0 l_54))[0]? fun v_64=>(strV v_64 fun s_65=>(CF Tryz.prog 118 [(Value.pointer x0),(Value.string s_65)] h_63 fun u_66 h_67=>(tup2V u_66 fun u_68 u_69=>(intV u_68 .i64 fun i_70=>(intV u_69 .i64 fun i_71=>(ptrN x0 fun b_72 o_73=>(ldV (HP.cell h_67 b_72 (o_73+0)) fun v_74=>(slcV v_74 fun a_75 n_76 c_77=>(ldL (cellsN (splice [(Value.string ⟨#[]⟩),(Value.int .i64 0),(Value.bool false)] 0 l_54) 0 3) fun l_78=>((0≤(i_70:Int))∧((i_70:Int)<(n_76:Nat))∧(ptrN a_75 fun b_79 o_80=>((List.length l_78=3)∧(HP.stN h_67 b_79 (o_80+Int.toNat i_70*3) l_78 fun h_81=>(ptrN x0 fun b_82 o_83=>(ldV (HP.cell h_81 b_82 (o_83+0)) fun v_84=>(slcV v_84 fun a_85 n_86 c_87=>(I2 (band .i64 (IntKind.wrap .i64 (x5+1)) (IntKind.wrap .i64 ((n_86:Nat)-1))) h_81))))))))))))))))))))))))) else False) else False) else False))))))) (K (Value.bool true) hp)))))))))
def F78_j1 (x0:OA) (x5:Int) (hp:HP) (K:Kh):Prop:=
  (LoopP (σ:=Int) (fun I s hp=>F78_l2 x0  K I s hp) x5 hp)
def F78 (x0:OA) (x1:ByteArray) (hp:HP) (K:Kh):Prop:=
  (CF Tryz.prog 117 [(Value.pointer x0)] hp fun u_1 h_2=>(boolV u_1 fun q_3=>(ite2 q_3 (K (Value.bool false) h_2) (CF Tryz.prog 118 [(Value.pointer x0),(Value.string x1)] h_2 fun u_4 h_5=>(tup2V u_4 fun u_6 u_7=>(intV u_6 .i64 fun i_8=>(intV u_7 .i64 fun i_9=>(ptrN x0 fun b_10 o_11=>(ldV (HP.cell h_5 b_10 (o_11+0)) fun v_12=>(slcV v_12 fun a_13 n_14 c_15=>((0≤(i_8:Int))∧((i_8:Int)<(n_14:Nat))∧(ptrN a_13 fun b_16 o_17=>(ldV (HP.cell h_5 b_16 ((o_17+Int.toNat i_8*3)+2)) fun v_18=>(boolV v_18 fun q_19=>(ite2 (!q_19) (K (Value.bool false) h_5) (ptrN x0 fun b_20 o_21=>(ldV (HP.cell h_5 b_20 (o_21+0)) fun v_22=>(slcV v_22 fun a_23 n_24 c_25=>((0≤(i_8:Int))∧((i_8:Int)<(n_24:Nat))∧(ptrN a_23 fun b_26 o_27=>((List.length [(Value.string ⟨#[]⟩),(Value.int .i64 0),(Value.bool false)]=3)∧(HP.stN h_5 b_26 (o_27+Int.toNat i_8*3) [(Value.string ⟨#[]⟩),(Value.int .i64 0),(Value.bool false)] fun h_28=>(ptrN x0 fun b_29 o_30=>(ldV (HP.cell h_28 b_29 (o_30+2)) fun v_31=>(intV v_31 .i64 fun i_32=>(ptrN x0 fun b_33 o_34=>(HP.st h_28 b_33 (o_34+2) (Value.int .i64 (IntKind.wrap .i64 (i_32-1))) fun h_35=>(ptrN x0 fun b_88 o_89=>(ldV (HP.cell h_35 b_88 (o_89+0)) fun v_90=>(slcV v_90 fun a_91 n_92 c_93=>(F78_j1 x0 (band .i64 (IntKind.wrap .i64 (i_8+1)) (IntKind.wrap .i64 ((n_92:Nat)-1))) h_35  K)))))))))))))))))))))))))))))))
theorem F78_ok (x0:OA) (x1:ByteArray) (hp:HP) (K:Kh) (h:F78 x0 x1 hp K):CF Tryz.prog 78 [(Value.pointer x0),(Value.string x1)] hp K:=
  have L:∀ {Q} n,Snd Tryz.prog 95 (cAt Tryz.f78 (pth n)) Q (CW Tryz.prog 95 [7,83] [] (cAt Tryz.f78 (pth n)) Q):=fun _=>Snd.leaf
  okF h Tryz.func78 (Snd.seq (L 2) (Snd.seq (L 5) (Snd.seq (L 11) (Snd.seq (L 23) (Snd.seq (L 47) (Snd.seq (L 95) (Snd.seq (Snd.jn [(0,.p),(5,.i .i64)] (fun a hp=>F78_j1 a.1 a.2.1 hp  K) (L 319) (Snd.block 0 (Snd.lp (σ:=Int) [(0,.p),(5,.i .i64)] (fun a=>a.2.1) (fun a s=>(a.1,s,())) (fun a I s hp=>F78_l2 a.1  K I s hp) (fun I2=>(L 1215)) (by rfl) (by kernel_rfl) (by kernel_rfl))) (by rfl) (by kernel_rfl)) (L 255)))))))) (by kernel_rfl) (by kernel_rfl) (by kernel_rfl)
def F117 (x0:OA) (hp:HP) (K:Kh):Prop:=
  (ite2 (Option.isNone x0) (K (Value.bool true) hp) (ptrN x0 fun b_1 o_2=>(ldV (HP.cell hp b_1 (o_2+0)) fun v_3=>(slcV v_3 fun a_4 n_5 c_6=>(K (Value.bool (((n_5:Nat):Int)==0)) hp)))))
theorem F117_ok (x0:OA) (hp:HP) (K:Kh) (h:F117 x0 hp K):CF Tryz.prog 117 [(Value.pointer x0)] hp K:=
  have L:∀ {Q} n,Snd Tryz.prog 13 (cAt Tryz.f117 (pth n)) Q (CW Tryz.prog 13 [] [] (cAt Tryz.f117 (pth n)) Q):=fun _=>Snd.leaf
  okF h Tryz.func117 (L 1) (by kernel_rfl) (by kernel_rfl) (by kernel_rfl)
def F118_j2 (x4 x5:Int) (hp:HP) (K:Kh):Prop:=
  (K (.tuple ⟨[(Value.int .i64 x4),(Value.int .i64 x5)]⟩) hp)
def F118_j5 (x0:OA) (x1:ByteArray) (x4 x5:Int) (x35:Bool) (hp:HP) (I4:(Int × Int)→HP→Prop) (K:Kh):Prop:=
  (ite2 x35 (ptrN x0 fun b_1 o_2=>(ldV (HP.cell hp b_1 (o_2+0)) fun v_3=>(slcV v_3 fun a_4 n_5 c_6=>(I4 ((band .i64 (IntKind.wrap .i64 (x4+1)) (IntKind.wrap .i64 ((n_5:Nat)-1))),(IntKind.wrap .i64 (x5+1))) hp)))) (F118_j2 x4 x5 hp  K))
def F118_l4 (x0:OA) (x1:ByteArray) (K:Kh) (I4:(Int × Int)→HP→Prop) (x4 x5:Int) (hp:HP):Prop:=
  (ptrN x0 fun b_7 o_8=>(ldV (HP.cell hp b_7 (o_8+0)) fun v_9=>(slcV v_9 fun a_10 n_11 c_12=>((0≤(x4:Int))∧((x4:Int)<(n_11:Nat))∧(ptrN a_10 fun b_13 o_14=>(ldV (HP.cell hp b_13 ((o_14+Int.toNat x4*3)+2)) fun v_15=>(boolV v_15 fun q_16=>(ite2 q_16 (ptrN x0 fun b_17 o_18=>(ldV (HP.cell hp b_17 (o_18+0)) fun v_19=>(slcV v_19 fun a_20 n_21 c_22=>((0≤(x4:Int))∧((x4:Int)<(n_21:Nat))∧(ptrN a_20 fun b_23 o_24=>(ldV (HP.cell hp b_23 ((o_24+Int.toNat x4*3)+0)) fun v_25=>(strV v_25 fun s_26=>(F118_j5 x0 x1 x4 x5 (!((ByteArray.toList s_26)==(ByteArray.toList x1))) hp I4 K)))))))) (F118_j5 x0 x1 x4 x5 false hp I4 K)))))))))
def F118_j3 (x0:OA) (x1:ByteArray) (x4 x5:Int) (hp:HP) (K:Kh):Prop:=
  (LoopP (σ:=Int × Int) (fun I s hp=>F118_l4 x0 x1  K I s.1 s.2 hp) (x4,x5) hp)
def F118_j1 (x0:OA) (x1:ByteArray) (x4:Int) (hp:HP) (K:Kh):Prop:=
  (F118_j3 x0 x1 x4 1 hp  K)
def F118 (x0:OA) (x1:ByteArray) (hp:HP) (K:Kh):Prop:=
  ((CF Tryz.prog 140 [(Value.string x1)] hp fun u_27 h_28=>(intV u_27 .u32 fun i_29=>(ptrN x0 fun b_30 o_31=>(ldV (HP.cell h_28 b_30 (o_31+0)) fun v_32=>(slcV v_32 fun a_33 n_34 c_35=>(F118_j1 x0 x1 (band .i64 (IntKind.wrap .i64 (i_29)) (IntKind.wrap .i64 ((n_34:Nat)-1))) h_28  K))))))∧(ptrN x0 fun b_36 o_37=>(ldV (HP.cell hp b_36 (o_37+0)) fun v_38=>(slcV v_38 fun a_39 n_40 c_41=>(CF Tryz.prog 140 [(Value.string x1)] hp fun u_42 h_43=>(intV u_42 .u32 fun i_44=>(F118_j1 x0 x1 (band .i64 (IntKind.wrap .i64 (i_44)) (IntKind.wrap .i64 ((n_40:Nat)-1))) h_43  K)))))))
theorem F118_ok (x0:OA) (x1:ByteArray) (hp:HP) (K:Kh) (h:F118 x0 x1 hp K):CF Tryz.prog 118 [(Value.pointer x0),(Value.string x1)] hp K:=
  have L:∀ {Q} n,Snd Tryz.prog 49 (cAt Tryz.f118 (pth n)) Q (CW Tryz.prog 49 [] [(1,[(1,6)],[([true],true,[0,1,2,3,4,5,6,7,8,9,10]),([false],true,[0,3,4,5,6,1,2,7,8,9,10])])] (cAt Tryz.f118 (pth n)) Q):=fun _=>Snd.leaf
  okF h Tryz.func118 (Snd.seq (L 2) (Snd.jn [(0,.p),(1,.t),(4,.i .i64)] (fun a hp=>F118_j1 a.1 a.2.1 a.2.2.1 hp  K) (L 5) (Snd.jn [(4,.i .i64),(5,.i .i64)] (fun a hp=>F118_j2 a.1 a.2.1 hp  K) (Snd.jn [(0,.p),(1,.t),(4,.i .i64),(5,.i .i64)] (fun a hp=>F118_j3 a.1 a.2.1 a.2.2.1 a.2.2.2.1 hp  K) (L 19) (Snd.block 0 (Snd.lp (σ:=Int × Int) [(0,.p),(1,.t),(4,.i .i64),(5,.i .i64)] (fun a=>(a.2.2.1,a.2.2.2.1)) (fun a s=>(a.1,a.2.1,s.1,s.2,())) (fun a I s hp=>F118_l4 a.1 a.2.1  K I s.1 s.2 hp) (fun I4=>(Snd.seq (Snd.jn [(0,.p),(1,.t),(4,.i .i64),(5,.i .i64),(35,.b)] (fun a hp=>F118_j5 a.1 a.2.1 a.2.2.1 a.2.2.2.1 a.2.2.2.2.1 hp (fun s hp=>I4 (a.1,a.2.1,s.1,s.2,()) hp) K) (L 267) (L 395) (by rfl) (by kernel_rfl)) (L 203))) (by rfl) (by kernel_rfl) (by kernel_rfl))) (by rfl) (by kernel_rfl)) (L 15) (by rfl) (by kernel_rfl)) (by rfl) (by kernel_rfl))) (by kernel_rfl) (by kernel_rfl) (by kernel_rfl)
def F140_j1 (x3:Int) (hp:HP) (K:Kh):Prop:=
  (K (Value.int .u32 x3) hp)
def F140_l3 (x7:Value) (K:Kh) (I3:(Int)→HP→Prop) (x3:Int) (hp:HP):Prop:=
  (opS Tryz.prog (Instr.next x7 true 0) hp fun u_1 h_2=>(tupI u_1 0 fun v_3=>(boolV v_3 fun q_4=>(ite2 q_4 (tupI u_1 2 fun v_5=>(intV v_5 .i32 fun i_6=>(I3 (IntKind.wrap .u32 ((bxor .u32 x3 (IntKind.wrap .u32 (i_6)))*16777619)) h_2))) (F140_j1 x3 h_2  K)))))
def F140_j2 (x3:Int) (x7:Value) (hp:HP) (K:Kh):Prop:=
  (LoopP (σ:=Int) (fun I s hp=>F140_l3 x7  K I s hp) x3 hp)
def F140 (x0:ByteArray) (hp:HP) (K:Kh):Prop:=
  (opS Tryz.prog (Instr.range 9 (Value.string x0)) hp fun u_7 h_8=>(F140_j2 2166136261 u_7 h_8  K))
theorem F140_ok (x0:ByteArray) (hp:HP) (K:Kh) (h:F140 x0 hp K):CF Tryz.prog 140 [(Value.string x0)] hp K:=
  have L:∀ {Q} n,Snd Tryz.prog 17 (cAt Tryz.f140 (pth n)) Q (CW Tryz.prog 17 [] [] (cAt Tryz.f140 (pth n)) Q):=fun _=>Snd.leaf
  okF h Tryz.func140 (Snd.seq (L 2) (Snd.seq (L 5) (Snd.jn [(3,.i .u32)] (fun a hp=>F140_j1 a.1 hp  K) (Snd.jn [(3,.i .u32),(7,.w)] (fun a hp=>F140_j2 a.1 a.2.1 hp  K) (L 19) (Snd.block 0 (Snd.lp (σ:=Int) [(3,.i .u32),(7,.w)] (fun a=>a.1) (fun a s=>(s,a.2.1,())) (fun a I s hp=>F140_l3 a.2.1  K I s hp) (fun I3=>(L 75)) (by rfl) (by kernel_rfl) (by kernel_rfl))) (by rfl) (by kernel_rfl)) (L 15) (by rfl) (by kernel_rfl)))) (by kernel_rfl) (by kernel_rfl) (by kernel_rfl)
end Go.Proofs
set_option linter.unusedVariables false
set_option linter.unusedSimpArgs false
set_option maxRecDepth 20000
namespace Go.Proofs
open Go Go.HL
/-- A slot: a key and what it stands for, or nothing. -/
abbrev Slot:=Option (ByteArray × Int)
def slv:Slot→List Value
  | none=>[.string ⟨#[]⟩,.int .i64 0,.bool false]
  | some (k,v)=>[.string k,.int .i64 v,.bool true]
theorem slv_len (s:Slot):(slv s).length=3:=by cases s <;> rfl
theorem slv_one (s:Slot):(slv s).all one=true:=by cases s <;> rfl
/-- The hash: rounds from a place on. -/
def hashN (s:ByteArray):Nat→Nat→Int→Int
  | 0,_,h=>h
  | n+1,p,h=>if p<s.size then hashN s n (p+(Utf8.decode s p).2) (IntKind.wrap .u32 (bxor .u32 h (IntKind.wrap .u32 ((Utf8.decode s p).1:Int))*16777619)) else h
def hashF (s:ByteArray):Int:=hashN s s.size 0 2166136261
theorem wrap_u32_rng (x:Int):0≤IntKind.wrap .u32 x∧IntKind.wrap .u32 x<4294967296:=by
  have e:IntKind.wrap .u32 x=x % 4294967296:=by simp [IntKind.wrap,IntKind.bits,IntKind.signed]
  rw [e]; omega
theorem hashN_rng (s:ByteArray):∀ (n p:Nat) (h:Int),0≤h∧h<4294967296→0≤hashN s n p h∧hashN s n p h<4294967296
  | 0,_,_,hh=>hh
  | n+1,p,h,hh=>by
    unfold hashN
    split
    · exact hashN_rng s n _ _ (wrap_u32_rng _)
    · exact hh
theorem hashF_rng (s:ByteArray):0≤hashF s∧hashF s<4294967296:=hashN_rng s _ _ _ (by omega)
theorem C140 {s:ByteArray} {hp:HP} {K:Value→HP→Prop} (hK:K (.int .u32 (hashF s)) hp):CF Tryz.prog 140 [.string s] hp K:=by
  refine CF.drop (F140_ok s hp _ ?_)
  unfold F140
  refine opS_rangeS (by kernel_rfl) fun it hit=>?_
  unfold F140_j2
  have s0:=HSub.set_fresh hp (.obj (.stringIter s 0)) hit
  refine LoopP.by (J:=fun k (x:Int) hp'=>∃ p e,hp'=hp.set it (.obj (.stringIter s p))∧hashN s k p x=hashF s∧s.size≤p+k) ?_ (n:=s.size) ⟨0,0,rfl,rfl,by omega⟩
  rintro I k x hp' ⟨p,_,rfl,hh,hk⟩ hI
  unfold F140_l3
  refine opS_nextS (s:=s) (pos:=p) (HP.set_eq ..) (fun hend=>?_) (fun hgo=>?_)
  · have t0:∀ c:Value→Prop,tupI (.tuple #[.bool false]) 0 c=c (.bool false):=fun _=>rfl
    rw [t0,boolV_bool,ite2_false]
    unfold F140_j1
    have:hashN s k p x=x:=by cases k with | zero=>rfl | succ k=>rw [hashN,if_neg hend]
    rw [← hh,this] at hK
    exact ⟨hp,HSub.up (HSub.refl hp) hit _,hK⟩
  · have t0:∀ (a b:Value) (c:Value→Prop),tupI (.tuple #[.bool true,a,b]) 0 c=c (.bool true):=fun _ _ _=>rfl
    have t2:∀ (a b:Value) (c:Value→Prop),tupI (.tuple #[.bool true,a,b]) 2 c=c b:=fun _ _ _=>rfl
    rw [t0,boolV_bool,ite2_true,t2,intV_int]
    have hd:=decode_pos s p
    cases k with
    | zero=>omega
    | succ k=>
      rw [hashN,if_pos hgo] at hh
      rw [HP.set_set]
      exact hI k _ _ (by omega) ⟨_,0,rfl,hh,by omega⟩
/-- The table that slots make. -/
def tbl (A:List Slot):Tb ByteArray Int:=fun p=>(A[p]?).join
theorem tbl_at {A:List Slot} {p:Nat} (h:p<A.length):tbl A p=A[p]:=by unfold tbl; rw [List.getElem?_eq_getElem h]; rfl
theorem tbl_set {A:List Slot} {p:Nat} (h:p<A.length) (s:Slot):tbl (A.set p s)=tset (tbl A) p s:=by
  funext q
  unfold tbl tset
  rw [List.getElem?_set]
  by_cases hq:p=q
  · subst hq; simp [h]
  · rw [if_neg hq,if_neg (fun e=>hq e.symm)]
/-- Where a key begins. -/
def hx (N:Nat) (k:ByteArray):Nat:=(hashF k).toNat % N
/-- An index in memory: x itself, its row of slots. -/
def IdxM (hq:HP) (x b N n c:Nat) (A:List Slot):Prop:=
  hq x=.cells 146 [.slice (some ⟨b,0,none⟩) N N,.int .i64 n,.int .i64 c] 0∧hq b=.cells 191 (A.flatMap slv) 0∧A.length=N
section
variable {hq:HP} {x b N n c:Nat} {A:List Slot} {K:Value→HP→Prop}
theorem IdxM.ne (h:IdxM hq x b N n c A):x≠b:=fun e=>by
  have h1:=h.1; have h2:=h.2.1
  rw [e,h2] at h1; cases h1
theorem IdxM.slot (h:IdxM hq x b N n c A) {i:Nat} (hi:i<N):hq.cellN b (i*3) 3=some (slv (A[i]'(by rw [h.2.2]; exact hi))):=by
  rw [HP.cellN_of h.2.1]
  exact flat_at slv_len _
theorem IdxM.cells (h:IdxM hq x b N n c A) {i:Nat} (hi:i<N) {t:Nat} {v:Value} (hv:(slv (A[i]'(by rw [h.2.2]; exact hi)))[t]?=some v):hq.cell b (i*3+t)=some v:=HP.cell_cellN (h.slot hi) hv
theorem IdxM.setSlot (h:IdxM hq x b N n c A) {i:Nat} (hi:i<N) (s:Slot) {X:HP→Prop} (hX:∀ hq',IdxM hq' x b N n c (A.set i s)→X hq'):hq.stN b (i*3) (slv s) X:=by
  have hA:i<A.length:=by rw [h.2.2]; exact hi
  refine HP.stN_at h.2.1 ?_ (slv_one s) (hX _ ⟨?_,?_,?_⟩)
  · rw [flat_len slv_len,slv_len]; omega
  · rw [HP.set_ne _ _ h.ne]; exact h.1
  · rw [HP.set_eq,flat_splice slv_len s hA]
  · rw [List.length_set]; exact h.2.2
theorem IdxM.setLen (h:IdxM hq x b N n c A) {c':Nat} {v:Int} (hv:v=c') {X:HP→Prop} (hX:∀ hq',IdxM hq' x b N n c' A→X hq'):hq.st x 2 (.int .i64 v) X:=by
  subst hv
  refine HP.st_at h.1 (by simp) (hX _ ⟨?_,?_,h.2.2⟩)
  · rw [HP.set_eq]; rfl
  · rw [HP.set_ne _ _ h.ne.symm]; exact h.2.1
theorem IdxM.c0 (h:IdxM hq x b N n c A):hq.cell x 0=some (.slice (some ⟨b,0,none⟩) N N):=HP.cell_of h.1
theorem IdxM.c1 (h:IdxM hq x b N n c A):hq.cell x 1=some (.int .i64 n):=HP.cell_of h.1
theorem IdxM.c2 (h:IdxM hq x b N n c A):hq.cell x 2=some (.int .i64 c):=HP.cell_of h.1
theorem C117 (h:IdxM hq x b N n c A) (h0:0<N) (hK:K (.bool false) hq):CF Tryz.prog 117 [ptr x 0] hq K:=by
  refine F117_ok _ hq K ?_
  unfold F117
  have e:(((N:Nat):Int)==0)=false:=by
    rw [beq_eq_false_iff_ne]; omega
  simp only [Option.isNone_some,ite2_false,ptrN_some,Nat.zero_add,h.c0,ldV_some,slcV_slice,e]
  exact hK
theorem mask_hash {j:Nat} (hj:j≤40) (k:ByteArray):band .i64 (IntKind.wrap .i64 (hashF k)) (IntKind.wrap .i64 (((2 ^ j:Nat):Int)-1))=((hx (2 ^ j) k:Nat):Int):=by
  have h1:=hashF_rng k
  have h2:(2 ^ j:Nat)≤2 ^ 40:=Nat.pow_le_pow_right (by omega) hj
  have e40:(2 ^ 40:Nat)=1099511627776:=rfl
  have hp:0<(2 ^ j:Nat):=Nat.pos_of_ne_zero (by simp)
  rw [w64 (n:=hashF k) (by omega) (by omega),w64 (n:=((2 ^ j:Nat):Int)-1) (by omega) (by omega)]
  exact band_mask (by omega) (by omega) hj
theorem mask_next {j i:Nat} (hj:j≤40) (hi:i<2 ^ j):band .i64 (IntKind.wrap .i64 ((i:Int)+1)) (IntKind.wrap .i64 (((2 ^ j:Nat):Int)-1))=((if i+1<2 ^ j then i+1 else 0:Nat):Int):=by
  have h2:(2 ^ j:Nat)≤2 ^ 40:=Nat.pow_le_pow_right (by omega) hj
  have e40:(2 ^ 40:Nat)=1099511627776:=rfl
  have hp:0<(2 ^ j:Nat):=Nat.pos_of_ne_zero (by simp)
  rw [w64 (n:=(i:Int)+1) (by omega) (by omega),w64 (n:=((2 ^ j:Nat):Int)-1) (by omega) (by omega),band_mask (by omega) (by omega) hj]
  congr 1
  have e:((i:Int)+1).toNat=i+1:=by omega
  rw [e]
  split
  · exact Nat.mod_eq_of_lt ‹_›
  · have:i+1=2 ^ j:=by omega
    rw [this,Nat.mod_self]
theorem C118 {j:Nat} {key:ByteArray} (h:IdxM hq x b N n c A) (hN:N=2 ^ j) (hj:j≤40) (hr:∃ z,z<N∧tbl A z=none)
    (hK:∀ (p:Nat) (l:Int),p<N→HL.Fd N (hx N) (tbl A) key p→K (.tuple ⟨[.int .i64 p,.int .i64 l]⟩) hq):CF Tryz.prog 118 [ptr x 0,.string key] hq K:=by
  refine F118_ok _ key hq K ?_
  unfold F118
  have hp:0<N:=by subst hN; exact Nat.pos_of_ne_zero (by simp)
  have hH:hx N key<N:=Nat.mod_lt _ hp
  have main:F118_j1 (some ⟨x,0,none⟩) key ((hx N key:Nat):Int) hq K:=by
    unfold F118_j1 F118_j3
    obtain ⟨z,hz,hzn⟩:=hr
    refine LoopP.by (J:=fun k (s:Int × Int) hp=>hp=hq∧∃ u:Nat,s.1=(nx N (hx N key) u:Nat)∧u+k=ds N (hx N key) z∧∀ v,v<u→∃ y,tbl A (nx N (hx N key) v)=some y∧y.1≠key) ?_
      (n:=ds N (hx N key) z) ⟨rfl,0,by rw [nx_zero hH],by omega,fun v hv=>by omega⟩
    rintro I k ⟨i,l⟩ hp' ⟨rfl,u,hi,huk,hall⟩ hI
    simp only at hi
    subst hi
    unfold F118_l4
    have hdz:ds N (hx N key) z<N:=ds_lt hH hz
    have hiN:nx N (hx N key) u<N:=nx_lt hH (by omega)
    have hds:ds N (hx N key) (nx N (hx N key) u)=u:=ds_nx hH (by omega)
    have hA:nx N (hx N key) u<A.length:=by rw [h.2.2]; exact hiN
    have hta:=tbl_at hA
    simp only [ptrN_some,Nat.zero_add,h.c0,ldV_some,slcV_slice,Int.toNat_natCast]
    refine ⟨by omega,by omega,?_⟩
    have stop:(∀ y,tbl A (nx N (hx N key) u)=some y→y.1=key)→K (.tuple ⟨[.int .i64 (nx N (hx N key) u:Nat),.int .i64 l]⟩) hp':=fun hs=>by
      refine hK _ _ hiN ⟨hiN,fun v hv=>?_,hs⟩
      rw [hds] at hv
      exact hall v hv
    cases hs:A[nx N (hx N key) u]'hA with
    | none=>
      have e2:=h.cells hiN (t:=2) (v:=.bool false) (by rw [hs]; rfl)
      simp only [e2,ldV_some,boolV_bool,ite2_false]
      unfold F118_j5 F118_j2
      rw [ite2_false]
      exact stop fun y hy=>by rw [hta,hs] at hy; cases hy
    | some kv=>
      obtain ⟨k',v'⟩:=kv
      have e2:=h.cells hiN (t:=2) (v:=.bool true) (by rw [hs]; rfl)
      have e0:=h.cells hiN (t:=0) (v:=.string k') (by rw [hs]; rfl)
      simp only [e2,ldV_some,boolV_bool,ite2_true]
      refine ⟨by omega,by omega,?_⟩
      simp only [Nat.add_zero] at e0 ⊢
      simp only [e0,ldV_some,strV_string,str_eq]
      unfold F118_j5
      by_cases hk:k'=key
      · rw [decide_eq_true hk,Bool.not_true,ite2_false]
        unfold F118_j2
        exact stop fun y hy=>by rw [hta,hs] at hy; cases hy; exact hk
      · rw [decide_eq_false hk,Bool.not_false,ite2_true]
        simp only [ptrN_some,Nat.zero_add,h.c0,ldV_some,slcV_slice]
        have hne:u≠ds N (hx N key) z:=fun e=>by
          have h1:tbl A (nx N (hx N key) u)=none:=by rw [e,nx_ds hH hz]; exact hzn
          rw [hta,hs] at h1; cases h1
        have hm:=mask_next (i:=nx N (hx N key) u) hj (hN▸hiN)
        rw [← hN] at hm
        rw [hm,← nx_succ hH (by omega)]
        refine hI (k-1) _ _ (by omega) ⟨rfl,u+1,rfl,by omega,fun v hv=>?_⟩
        by_cases hvu:v=u
        · rw [hvu]; exact ⟨_,by rw [hta,hs],hk⟩
        · exact hall v (by omega)
  have hmk:=mask_hash hj key
  rw [← hN] at hmk
  constructor
  · refine C140 ?_
    simp only [intV_int,ptrN_some,Nat.zero_add,h.c0,ldV_some,slcV_slice,hmk]
    exact main
  · simp only [ptrN_some,Nat.zero_add,h.c0,ldV_some,slcV_slice]
    refine C140 ?_
    simp only [intV_int,hmk]
    exact main
end
end Go.Proofs
namespace Go.Exp
open Go.Sort (SWO)
/-- A thing: which, when it is due. -/
abbrev Th:=Int × Int
/-- Is one ahead of another? -/
def tlt (x y:Th):Bool:=decide (x.2<y.2)||(decide (x.2=y.2)&&decide (x.1<y.1))
theorem tlt_iff {x y:Th}:tlt x y=true↔x.2<y.2∨(x.2=y.2∧x.1<y.1):=by simp [tlt]
theorem tlt_false {x y:Th}:tlt x y=false↔¬ (x.2<y.2∨(x.2=y.2∧x.1<y.1)):=by rw [← tlt_iff]; simp
theorem swo_tlt:SWO tlt where
  irrefl x:=by rw [tlt_false]; omega
  trans x y z:=by simp only [tlt_iff]; omega
  ntrans x y z:=by simp only [tlt_false]; omega
/-- Things in their order, each once. -/
def Ord (w:List Th):Prop:=w.Pairwise (fun x y=>tlt x y=true)∧(w.map (·.1)).Nodup
/-- One more, where it stands. -/
def insW (x:Th) (w:List Th):List Th:=w.takeWhile (tlt · x)++x::w.dropWhile (tlt · x)
def dropW (id:Int) (w:List Th):List Th:=w.filter (fun t=>t.1 != id)
def setW (id due:Int) (w:List Th):List Th:=insW (id,due) (dropW id w)
end Go.Exp
set_option linter.unusedVariables false
set_option linter.unusedSectionVars false
namespace Go.HL
open Go
open Go.Exp (Th tlt swo_tlt Ord setW dropW insW)
section
variable {α κ ν:Type} [DecidableEq κ]
theorem getL_mapK (g:α→κ) (f:α→ν) (k:κ):∀ L:List α,getL k (L.map fun x=>(g x,f x))=(L.find? fun x=>decide (g x=k)).map f
  | []=>rfl
  | x::L=>by
    simp only [List.map_cons,getL,List.find?_cons]
    by_cases h:k=g x
    · rw [if_pos h,decide_eq_true h.symm]; rfl
    · rw [if_neg h,decide_eq_false (fun e=>h e.symm),getL_mapK g f k L]
theorem delL_mapK (g:α→κ) (f:α→ν) (k:κ):∀ {L:List α},(L.map g).Nodup→delL k (L.map fun x=>(g x,f x))=(L.filter fun x=>decide (g x≠k)).map fun x=>(g x,f x)
  | [],_=>rfl
  | x::L,h=>by
    rw [List.map_cons,List.nodup_cons] at h
    simp only [List.map_cons,delL,List.filter_cons]
    by_cases hk:k=g x
    · have hd:decide (g x≠k)=false:=by simp [hk]
      rw [if_pos hk,hd]
      simp only [Bool.false_eq_true,if_false]
      congr 1
      refine (List.filter_eq_self.2 fun y hy=>?_).symm
      have:g y≠k:=fun e=>h.1 (List.mem_map.2 ⟨y,hy,by rw [e,hk]⟩)
      simpa using this
    · have hd:decide (g x≠k)=true:=by simpa using fun e=>hk e.symm
      rw [if_neg hk,hd,if_pos rfl,List.map_cons,delL_mapK g f k h.2]
theorem len_del_mem {k:κ}:∀ {l:List (κ × ν)},k∈l.map (·.1)→(delL k l).length+1=l.length
  | [],h=>by simp at h
  | p::l,h=>by
    by_cases hk:k=p.1
    · simp [delL,hk]
    · have h':k∈l.map (·.1):=by
        rw [List.map_cons] at h
        rcases List.mem_cons.1 h with e | e
        · exact absurd e hk
        · exact e
      simp only [delL,hk,if_false,List.length_cons]
      rw [len_del_mem h']
theorem find_none {p:α→Bool} {L:List α}:L.find? p=none↔∀ x∈L,p x=false:=by
  rw [List.find?_eq_none]; simp
theorem find_of {g:α→κ} {L:List α} {x:α} (hn:(L.map g).Nodup) (hx:x∈L):(L.find? fun y=>decide (g y=g x))=some x:=by
  induction L with
  | nil=>cases hx
  | cons y L ih=>
    rw [List.map_cons,List.nodup_cons] at hn
    rw [List.find?_cons]
    rcases List.mem_cons.1 hx with rfl | hx
    · simp
    · have:g y≠g x:=fun e=>hn.1 (e▸List.mem_map.2 ⟨x,hx,rfl⟩)
      rw [decide_eq_false this]
      exact ih hn.2 hx
theorem inj_of {g:α→κ} {L:List α} {x y:α} (hn:(L.map g).Nodup) (hx:x∈L) (hy:y∈L) (h:g x=g y):x=y:=by
  have a:=find_of hn hx
  rw [h,find_of hn hy] at a
  exact (Option.some.inj a).symm
theorem find_mem {p:α→Bool} {L:List α} {x:α} (h:L.find? p=some x):x∈L∧p x=true:=⟨List.mem_of_find?_eq_some h,List.find?_some h⟩
theorem filter_congr_key {g:α→κ} {f:α→ν} [DecidableEq ν] {L:List α} {x:α} (hg:(L.map g).Nodup) (hf:(L.map f).Nodup) (hx:x∈L) :
    (L.filter fun y=>decide (g y≠g x))=L.filter fun y=>decide (f y≠f x):=by
  refine List.filter_congr fun y hy=>?_
  by_cases h:y=x
  · subst h; simp
  · have h1:g y≠g x:=fun e=>h (inj_of hg hy hx e)
    have h2:f y≠f x:=fun e=>h (inj_of hf hy hx e)
    simp [h1,h2]
end
section
variable {α:Type} {id due:α→Int}
end
end Go.HL
set_option linter.unusedVariables false
set_option linter.unusedSimpArgs false
set_option maxRecDepth 20000
namespace Go.Proofs
open Go Go.HL
/-- An index x of at most n that holds M. -/
def IdxR (hq:HP) (x n:Nat) (M:List (ByteArray × Int)):Prop:=
  ∃ (b j:Nat) (A:List Slot),IdxM hq x b (2 ^ j) n M.length A∧j≤40∧n+n≤2 ^ j∧8≤2 ^ j∧M.length≤n∧HL.Good (2 ^ j) (hx (2 ^ j)) (tbl A)∧HL.Uniq (2 ^ j) (tbl A)∧HL.TM (2 ^ j) (tbl A) M
section
variable {hq:HP} {x n:Nat} {M:List (ByteArray × Int)} {K:Value→HP→Prop}
theorem IdxR.fd {key:ByteArray} {L:Nat} {A:List Slot} {p:Nat} (hg:HL.Good L (hx L) (tbl A)) (hu:HL.Uniq L (tbl A)) (hm:HL.TM L (tbl A) M) (h0:0<L) (hf:HL.Fd L (hx L) (tbl A) key p):(tbl A p).map (·.2)=getL key M:=
  HL.Fd.get (Nat.mod_lt _ h0) hg hu hm hf
theorem C74 {key:ByteArray} (h:IdxR hq x n M) (hK:K (.tuple ⟨[.int .i64 ((getL key M).getD 0),.bool (getL key M).isSome]⟩) hq):CF Tryz.prog 74 [ptr x 0,.string key] hq K:=by
  obtain ⟨b,j,A,hM,hj,hn2,h8,hl,hg,hu,hm⟩:=h
  refine F74_ok _ key hq K ?_
  unfold F74
  refine C117 hM (by omega) ?_
  rw [boolV_bool,ite2_false]
  refine C118 hM rfl hj (room_of hu hm (by omega)) fun p l hp hf=>?_
  have hA:p<A.length:=by rw [hM.2.2]; exact hp
  have hget:=IdxR.fd hg hu hm (by omega) hf
  rw [tbl_at hA] at hget
  simp only [tup2V_mk,intV_int,ptrN_some,Nat.zero_add,hM.c0,ldV_some,slcV_slice,Int.toNat_natCast]
  refine ⟨by omega,by omega,?_⟩
  cases hs:A[p]'hA with
  | none=>
    have e1:=hM.cells hp (t:=1) (v:=.int .i64 0) (by rw [hs]; rfl)
    have e2:=hM.cells hp (t:=2) (v:=.bool false) (by rw [hs]; rfl)
    simp only [e1,e2,ldV_some,intV_int,boolV_bool]
    refine ⟨by omega,by omega,?_⟩
    rw [hs] at hget
    rw [← hget] at hK
    exact hK
  | some kv=>
    obtain ⟨k',v'⟩:=kv
    have e1:=hM.cells hp (t:=1) (v:=.int .i64 v') (by rw [hs]; rfl)
    have e2:=hM.cells hp (t:=2) (v:=.bool true) (by rw [hs]; rfl)
    simp only [e1,e2,ldV_some,intV_int,boolV_bool]
    refine ⟨by omega,by omega,?_⟩
    rw [hs] at hget
    rw [← hget] at hK
    exact hK
theorem C68 {key:ByteArray} {v:Int} (h:IdxR hq x n M) (hnew:getL key M=none) (hlen:M.length<n) (hn:n≤65536)
    (hK:∀ hq',IdxR hq' x n (M++[(key,v)])→K (.int .i64 0) hq'):CF Tryz.prog 68 [ptr x 0,.string key,.int .i64 v] hq K:=by
  obtain ⟨b,j,A,hM,hj,hn2,h8,hl,hg,hu,hm⟩:=h
  refine F68_ok _ key v hq K ?_
  unfold F68
  refine C117 hM (by omega) ?_
  rw [boolV_bool,ite2_false]
  refine C118 hM rfl hj (room_of hu hm (by omega)) fun p l hp hf=>?_
  have hA:p<A.length:=by rw [hM.2.2]; exact hp
  have hget:=IdxR.fd hg hu hm (by omega) hf
  rw [tbl_at hA,hnew] at hget
  have hs:A[p]'hA=none:=by
    cases hs:A[p]'hA with
    | none=>rfl
    | some kv=>rw [hs] at hget; cases hget
  have e2:=hM.cells hp (t:=2) (v:=.bool false) (by rw [hs]; rfl)
  simp only [tup2V_mk,intV_int,ptrN_some,Nat.zero_add,hM.c0,ldV_some,slcV_slice,Int.toNat_natCast]
  refine ⟨by omega,by omega,?_⟩
  simp only [e2,ldV_some,boolV_bool,ite2_false,hM.c1,hM.c2,intV_int]
  rw [decide_eq_false (by omega),ite2_false]
  refine ⟨by omega,by omega,rfl,?_⟩
  refine hM.setSlot hp (some (key,v)) fun hq1 hM1=>?_
  simp only [hM1.c2,ldV_some,intV_int]
  refine hM1.setLen (c':=M.length+1) (wi (by omega) (by omega)) fun hq2 hM2=>?_
  refine hK hq2 ?_
  have hH:hx (2 ^ j) key<2 ^ j:=Nat.mod_lt _ (by omega)
  have hpn:tbl A p=none:=(tbl_at hA).trans hs
  obtain ⟨t1,t2,t3,t4⟩:=put_table (v:=v) hH hg hu hm hf hpn
  rw [put_new hnew] at t3
  rw [← tbl_set hA] at t1 t2 t3
  exact ⟨b,j,A.set p (some (key,v)),by rw [List.length_append]; exact hM2,hj,hn2,h8,by rw [List.length_append]; simp; omega,t1,t2,t3⟩
theorem C78 {key:ByteArray} {v:Int} (h:IdxR hq x n M) (hin:getL key M=some v) (hn:n≤65536)
    (hK:∀ hq',IdxR hq' x n (delL key M)→K (.bool true) hq'):CF Tryz.prog 78 [ptr x 0,.string key] hq K:=by
  obtain ⟨b,j,A,hM,hj,hn2,h8,hl,hg,hu,hm⟩:=h
  refine F78_ok _ key hq K ?_
  unfold F78
  refine C117 hM (by omega) ?_
  rw [boolV_bool,ite2_false]
  have hroom:=room_of hu hm (by omega)
  refine C118 hM rfl hj hroom fun p l hp hf=>?_
  have hH:∀ k,hx (2 ^ j) k<2 ^ j:=fun k=>Nat.mod_lt _ (by omega)
  have hA:p<A.length:=by rw [hM.2.2]; exact hp
  have hget:=IdxR.fd hg hu hm (by omega) hf
  rw [tbl_at hA,hin] at hget
  obtain ⟨k',hs⟩:∃ k',A[p]'hA=some (k',v):=by
    cases hs:A[p]'hA with
    | none=>rw [hs] at hget; cases hget
    | some kv=>
      rw [hs] at hget
      simp only [Option.map_some,Option.some.injEq] at hget
      exact ⟨kv.1,by rw [← hget]⟩
  have hkk:k'=key:=hf.2.2 _ (by rw [tbl_at hA]; exact hs)
  subst hkk
  have e2:=hM.cells hp (t:=2) (v:=.bool true) (by rw [hs]; rfl)
  simp only [tup2V_mk,intV_int,ptrN_some,Nat.zero_add,hM.c0,ldV_some,slcV_slice,Int.toNat_natCast]
  refine ⟨by omega,by omega,?_⟩
  simp only [e2,ldV_some,boolV_bool,Bool.not_true,ite2_false]
  refine ⟨by omega,by omega,rfl,?_⟩
  have hkm:k'∈M.map (·.1):=getL_isSome.1 (by rw [hin]; rfl)
  have hdl:(delL k' M).length+1=M.length:=by
    exact len_del_mem hkm
  refine hM.setSlot hp none fun hq1 hM1=>?_
  simp only [hM1.c2,ldV_some,intV_int]
  refine hM1.setLen (c':=(delL k' M).length) (wi (by omega) (by omega)) fun hq2 hM2=>?_
  simp only [hM2.c0,ldV_some,slcV_slice]
  have hstart:=Mid.start (N:=2 ^ j) (H:=hx (2 ^ j)) (by omega) hg hu hm hp (by rw [tbl_at hA]; exact hs) hroom
  rw [← tbl_set hA] at hstart
  rw [mask_next hj hp,show (if p+1<2 ^ j then p+1 else 0)=nx (2 ^ j) p 1 from by
    have:=nx_succ (u:=0) hp (by omega)
    rw [nx_zero hp] at this
    exact this.symm]
  clear hM hM1 hg hu hm hf hget e2 hroom hin
  unfold F78_j1
  obtain ⟨z,hz1,hz2,hz3⟩:=hstart.room
  refine LoopP.by (J:=fun k (y:Int) hp'=>∃ (t:Nat) (B:List Slot),y=(nx (2 ^ j) p t:Nat)∧k+t=2 ^ j∧0<t∧t<2 ^ j∧IdxM hp' x b (2 ^ j) n (delL k' M).length B∧Mid (2 ^ j) (hx (2 ^ j)) (tbl B) p t (delL k' M)) ?_
    (n:=2 ^ j-1) ⟨1,A.set p none,rfl,by omega,by omega,by omega,hM2,hstart⟩
  rintro I k y hp' ⟨t,B,rfl,hkt,ht0,ht,hB,hmid⟩ hI
  unfold F78_l2
  have hq:nx (2 ^ j) p t<2 ^ j:=nx_lt hp (by omega)
  have hBl:nx (2 ^ j) p t<B.length:=by rw [hB.2.2]; exact hq
  simp only [ptrN_some,Nat.zero_add,hB.c0,ldV_some,slcV_slice,Int.toNat_natCast]
  refine ⟨by omega,by omega,?_⟩
  cases hs:B[nx (2 ^ j) p t]'hBl with
  | none=>
    have e2:=hB.cells hq (t:=2) (v:=.bool false) (by rw [hs]; rfl)
    simp only [e2,ldV_some,boolV_bool,ite2_false]
    have hgood:=hmid.done hH hp ht (by rw [tbl_at hBl]; exact hs)
    exact hK hp' ⟨b,j,B,hB,hj,hn2,h8,by omega,hgood,hmid.uniq,hmid.tm⟩
  | some kv=>
    obtain ⟨k2,v2⟩:=kv
    have e2:=hB.cells hq (t:=2) (v:=.bool true) (by rw [hs]; rfl)
    have e3:=hB.slot hq
    rw [hs] at e3
    simp only [e2,ldV_some,boolV_bool,ite2_true]
    refine ⟨by omega,by omega,?_⟩
    have e4:splice (slv none) 0 (slv (some (k2,v2)))=slv (some (k2,v2)):=splice_all rfl
    have e5:cellsN (slv (some (k2,v2))) 0 3=some (slv (some (k2,v2))):=rfl
    have e6:([Value.string ⟨#[]⟩,Value.int .i64 0,Value.bool false]:List Value)=slv none:=rfl
    have e7:(slv (some (k2,v2)))[0]?=some (.string k2):=rfl
    simp only [e3,ldL_some,e6,e4,e5,e7,ldV_some,strV_string]
    refine ifI (slv_len _) (ifI (slv_one _) (ifI (by simp [slv_len]) ?_))
    refine ⟨by omega,by omega,slv_len _,?_⟩
    refine hB.setSlot hq none fun hq3 hB3=>?_
    have hTz:=tbl_set hBl (none:Slot)
    obtain ⟨z',g1,g2,g3⟩:=hmid.room
    have hz'n:nx (2 ^ j) p z'≠nx (2 ^ j) p t:=fun e=>by
      rw [e,tbl_at hBl,hs] at g3; cases g3
    have hroom2:∃ z,z<2 ^ j∧tbl (B.set (nx (2 ^ j) p t) none) z=none:=⟨nx (2 ^ j) p t,hq,by rw [hTz,tset_eq]⟩
    refine C118 (key:=k2) hB3 rfl hj hroom2 fun q l2 hq4 hf4=>?_
    rw [hTz] at hf4
    obtain ⟨s1,s2⟩:=hmid.step (x:=(k2,v2)) hH hp ht0 ht (by rw [tbl_at hBl]; exact hs) hf4
    simp only [tup2V_mk,intV_int,ptrN_some,Nat.zero_add,hB3.c0,ldV_some,slcV_slice,Int.toNat_natCast]
    refine ⟨by omega,by omega,slv_len _,?_⟩
    refine hB3.setSlot hq4 (some (k2,v2)) fun hq5 hB5=>?_
    simp only [hB5.c0,ldV_some,slcV_slice]
    rw [mask_next hj hq,← nx_succ hp ht]
    have hBl2:q<(B.set (nx (2 ^ j) p t) none).length:=by rw [List.length_set,hB.2.2]; exact hq4
    have hT5:=tbl_set hBl2 (some (k2,v2))
    rw [hTz] at hT5
    rw [← hT5] at s2
    obtain ⟨z5,r1,r2,r3⟩:=s2.room
    exact hI (k-1) _ _ (by omega) ⟨t+1,_,rfl,by omega,by omega,by omega,hB5,s2⟩
theorem C22 {m:Int} {hp:HP} (hbad:(m<1∨m > 65536)→K (.tuple ⟨[.pointer none,.int .i64 1]⟩) hp)
    (hok:¬ (m<1∨m > 65536)→∀ x hl hp',IdxR hl x m.toNat []→HSub hl hp'→(∀ r,HSub r hp→HSub r hp'∧Disj hl r)→K (.tuple ⟨[ptr x 0,.int .i64 0]⟩) hp'):CF Tryz.prog 22 [.int .i64 m] hp K:=by
  refine F22_ok m hp K ?_
  unfold F22 F22_j1
  by_cases h1:m<1
  · rw [decide_eq_true h1,ite2_true,ite2_true]
    exact hbad (.inl h1)
  rw [decide_eq_false h1,ite2_false]
  by_cases h2:m > 65536
  · rw [decide_eq_true h2,ite2_true]
    exact hbad (.inr h2)
  rw [decide_eq_false h2,ite2_false]
  have hok:=hok (by omega)
  obtain ⟨n,rfl⟩:∃ n:Nat,m=n:=⟨m.toNat,by omega⟩
  unfold F22_j2
  refine LoopP.by (J:=fun k (y:Int) hp'=>hp'=hp∧∃ j:Nat,y=((2 ^ j:Nat):Int)∧3≤j∧j+k=40∧(j=3∨2 ^ j<4*n)) ?_ (n:=37) ⟨rfl,3,rfl,by omega,rfl,.inl rfl⟩
  rintro I k y hp' ⟨rfl,j,rfl,hj3,hjk,hj4⟩ hI
  unfold F22_l4
  have h8:(2:Nat) ^ 3≤2 ^ j:=Nat.pow_le_pow_right (by omega) hj3
  have e3:(2:Nat) ^ 3=8:=rfl
  have hN:2 ^ j≤262144:=by
    rcases hj4 with rfl | h
    · decide
    · omega
  rw [w64 (n:=2*(n:Int)) (by omega) (by omega)]
  by_cases hlt:2 ^ j<2*n
  · rw [decide_eq_true (by omega:((2 ^ j:Nat):Int)<2*(n:Int)),ite2_true]
    have hj18:j<40:=by
      rcases Nat.lt_or_ge j 40 with h | h
      · exact h
      · have:=Nat.pow_le_pow_right (n:=2) (by omega) h
        have e40:(2 ^ 40:Nat)=1099511627776:=rfl
        omega
    refine hI (k-1) _ _ (by omega) ⟨rfl,j+1,?_,by omega,by omega,.inr ?_⟩
    · rw [w64 (by omega) (by omega),Nat.pow_succ]; simp
    · rw [Nat.pow_succ]; omega
  · rw [decide_eq_false (by omega:¬ ((2 ^ j:Nat):Int)<2*(n:Int)),ite2_false]
    unfold F22_j3
    obtain ⟨i,hi,hi1,hi2,hi3⟩:∃ i:TypeInfo,Tryz.prog.info? 191=some i∧i.zero=some (.agg ⟨slv none⟩)∧i.size=3∧i.bytes=32:=by
      have h0:(Tryz.prog.info? 191).map (fun i=>(i.zero,i.size,i.bytes))=some (some (.agg ⟨slv none⟩),3,32):=by kernel_rfl
      cases hi:Tryz.prog.info? 191 with
      | none=>rw [hi] at h0; cases h0
      | some i=>
        rw [hi] at h0
        simp only [Option.map_some,Option.some.injEq,Prod.mk.injEq] at h0
        exact ⟨i,rfl,h0.1,h0.2.1,h0.2.2⟩
    refine opS_make (zs:=slv none) (by kernel_rfl) hi hi1 rfl (by rw [hi2]; rfl) (by omega) (by rw [hi3]; omega) (by omega) fun b hb=>?_
    rw [slcV_slice]
    intro x hx'
    have hxb:x≠b:=fun e=>by rw [e,HP.set_eq] at hx'; cases hx'
    have hxn:hp' x=.none:=by rwa [HP.set_ne _ _ hxb] at hx'
    have efl:∀ N:Nat,(List.replicate N (slv none)).flatten=(List.replicate N (none:Slot)).flatMap slv:=fun N=>by
      rw [List.flatMap_def,List.map_replicate]
    rw [efl]
    have ht:tbl (List.replicate (2 ^ j) (none:Slot))=fun _=>none:=by
      funext p
      unfold tbl
      rw [List.getElem?_replicate]
      split <;> rfl
    refine hok x (HP.set (HP.set (fun _=>.none) b (.cells 191 ((List.replicate (2 ^ j) (none:Slot)).flatMap slv) 0)) x (.cells 146 [.slice (some ⟨b,0,none⟩) (2 ^ j) (2 ^ j),.int .i64 n,.int .i64 0] 0)) _ ?_ ?_ ?_
    · refine ⟨b,j,List.replicate (2 ^ j) none,⟨HP.set_eq ..,?_,by simp⟩,by omega,by rw [Int.toNat_natCast]; omega,by omega,by simp,?_,?_,⟨by simp,?_⟩⟩
      · rw [HP.set_ne _ _ hxb.symm,HP.set_eq]
      · rw [ht]; intro p _ y hy; cases hy
      · rw [ht]; intro p q _ _ y z hy; cases hy
      · rw [ht]; intro k v
        simp [getL]
    · exact HSub.set (HSub.set (fun _=>.inl rfl) _ _) _ _
    · intro r hr
      refine ⟨HSub.up (HSub.up hr (hr.none hb) _) (hr.none hxn) _,fun y=>?_⟩
      by_cases hy:y=x
      · subst hy; exact .inr (hr.none hxn)
      · rw [HP.set_ne _ _ hy]
        by_cases hyb:y=b
        · subst hyb; exact .inr (hr.none hb)
        · rw [HP.set_ne _ _ hyb]; exact .inl rfl
end
end Go.Proofs
namespace Go.Hp
open Go.Sort (swp SWO PermIn)
variable {α:Type} [Inhabited α] {lt:α→α→Bool}
end Go.Hp
set_option linter.unusedVariables false
set_option maxRecDepth 20000
namespace Go.Proofs
open Go Go.HL
open Go.Exp (Th tlt)
def iw (n:Int):Value:=.int .i64 n
theorem enc3:EncK Tryz.prog 3 iw where
  inj a b h:=by simpa [iw] using h
  law:=(KeyLaw.flat (d:=.int .i64) (by kernel_rfl)).weaken fun v ⟨k,hk⟩=>by subst hk; exact (rfl:IntKind.i64=IntKind.i64)
end Go.Proofs
set_option linter.unusedVariables false
set_option maxRecDepth 20000
namespace Go.Proofs
open Go Go.HL
open Go.Exp (Th tlt)
section
variable {hq:HP} {q o m:Nat} {d:Array Th} {K:Value→HP→Prop}
end
end Go.Proofs
set_option linter.unusedVariables false
set_option maxRecDepth 20000
namespace Go.Proofs
open Go Go.HL
open Go.Exp (Th tlt swo_tlt)
open Go.Sort (PermIn swp)
section
variable {hq:HP} {q o m:Nat} {d:Array Th} {K:Value→HP→Prop}
end
end Go.Proofs
set_option linter.unusedVariables false
set_option maxRecDepth 20000
namespace Go.Proofs
open Go Go.HL
open Go.Exp (Th tlt swo_tlt Ord setW dropW insW)
section
variable {hq:HP} {q o m:Nat} {d:Array Th} {w:List Th} {K:Value→HP→Prop}
end
end Go.Proofs
set_option linter.unusedVariables false
set_option maxRecDepth 20000
namespace Go.Proofs
open Go Go.HL
open Go.Exp (Th tlt Ord setW dropW insW)
section
variable {hp hq:HP} {ps:Nat→HP} {x n q:Nat} {M:List (ByteArray × Int)} {w:List Th} {K:Value→HP→Prop}
theorem IdxR.sub (h:IdxR hq x n M) (hs:HSub hq hp):IdxR hp x n M:=by
  obtain ⟨b,j,A,⟨h1,h2,h3⟩,r⟩:=h
  exact ⟨b,j,A,⟨hs.cells h1,hs.cells h2,h3⟩,r⟩
theorem N68 {key:ByteArray} {v:Int} (hP:Parts hp ps) (i:Nat) (h:IdxR (ps i) x n M) (hnew:getL key M=none) (hlen:M.length<n) (hn:n≤65536)
    (hK:∀ l hp',IdxR l x n (M++[(key,v)])→Parts hp' (pu ps i l)→K (.int .i64 0) hp'):CF Tryz.prog 68 [ptr x 0,.string key,.int .i64 v] hp K:=by
  refine CF.part hP i (C68 (v:=v) (K:=fun u l=>u=.int .i64 0∧IdxR l x n (M++[(key,v)])) h hnew hlen hn fun l hl=>⟨rfl,hl⟩) ?_
  rintro u l hp' ⟨rfl,hl⟩ hP'
  exact hK l hp' hl hP'
theorem N78 {key:ByteArray} {v:Int} (hP:Parts hp ps) (i:Nat) (h:IdxR (ps i) x n M) (hin:getL key M=some v) (hn:n≤65536)
    (hK:∀ l hp',IdxR l x n (delL key M)→Parts hp' (pu ps i l)→K (.bool true) hp'):CF Tryz.prog 78 [ptr x 0,.string key] hp K:=by
  refine CF.part hP i (C78 (K:=fun u l=>u=.bool true∧IdxR l x n (delL key M)) h hin hn fun l hl=>⟨rfl,hl⟩) ?_
  rintro u l hp' ⟨rfl,hl⟩ hP'
  exact hK l hp' hl hP'
theorem N22 {m:Int} (hP:Parts hp ps) (i:Nat) (hi:∀ b,ps i b=.none) (hbad:(m<1∨m > 65536)→K (.tuple ⟨[.pointer none,.int .i64 1]⟩) hp)
    (hok:¬ (m<1∨m > 65536)→∀ x l hp',IdxR l x m.toNat []→Parts hp' (pu ps i l)→HSub hp hp'→K (.tuple ⟨[ptr x 0,.int .i64 0]⟩) hp'):CF Tryz.prog 22 [.int .i64 m] hp K:=
  C22 hbad fun hm x l hp' hl hs hf=>hok hm x l hp' hl (hP.add i hi hs hf) (hf hp (HSub.refl _)).1
end
end Go.Proofs
set_option linter.unusedVariables false
set_option maxRecDepth 20000
namespace Go.Proofs
open Go Go.HL Go.Shelf
def itoaRen:Ren where
  f:=fun | 129=>153 | 171=>119 | 243=>141 | 246=>164 | 283=>175 | 284=>176 | 285=>177 | 286=>178 | 317=>183 | 318=>184 | 319=>185 | 320=>186 | 337=>188 | 338=>189 | n=>n
  t:=fun | 0=>0 | 2=>2 | 3=>3 | 4=>4 | 5=>5 | 9=>9 | 20=>20 | 37=>193 | 46=>202 | 51=>210 | 53=>227 | 171=>245 | 173=>247 | 212=>255 | 213=>256 | 232=>258 | 233=>259 | n=>n
  g:=fun | 17=>0 | 18=>1 | 19=>2 | n=>n
theorem itoa_zero {P:Program} {t:TypeId} {z:Value} (h:(P.info? t).bind (·.zero)=some z) (w:World):(zeroValue t).run P w=.ok z w:=by
  cases hi:P.info? t with
  | none=>rw [hi] at h; cases h
  | some i=>
    rw [hi] at h
    have hz:i.zero=some z:=h
    simp [zeroValue,typeInfo,hi,hz]
theorem itoa_size {P:Program} {t:TypeId} {n:Nat} (h:(P.info? t).map (·.size)=some n) (w:World):(Go.sizeOf t).run P w=.ok n w:=by
  cases hi:P.info? t with
  | none=>rw [hi] at h; cases h
  | some i=>
    rw [hi] at h
    have hz:i.size=n:=by simpa using h
    simp [Go.sizeOf,typeInfo,hi,hz]
theorem itoa_agg {P:Program} {t:TypeId} {n e} (h:P.underlying t=some (.array n e)) (w:World):(isAgg t).run P w=.ok true w:=by
  simp [isAgg,run_underlying h]
theorem itoaLays0:Lays.n171 Tryz.prog itoaRen where
  mixed:=by kernel_rfl
  f129:=by kernel_rfl
  f171:=by kernel_rfl
  f243:=by kernel_rfl
  f246:=by kernel_rfl
  f283:=by kernel_rfl
  f284:=by kernel_rfl
  f285:=by kernel_rfl
  f286:=by kernel_rfl
  f317:=by kernel_rfl
  f318:=by kernel_rfl
  f319:=by kernel_rfl
  f320:=by kernel_rfl
  f337:=by kernel_rfl
  f338:=by kernel_rfl
  t0:=by kernel_rfl
  a0:=run_isAgg_plain (t:=itoaRen.t 0) (d:=(TypeDesc.tuple #[])) (by kernel_rfl) rfl
  z0:=itoa_size (by kernel_rfl)
  v0:=itoa_zero (by kernel_rfl)
  t2:=by kernel_rfl
  a2:=run_isAgg_plain (t:=itoaRen.t 2) (d:=(TypeDesc.int IntKind.i64)) (by kernel_rfl) rfl
  z2:=itoa_size (by kernel_rfl)
  v2:=itoa_zero (by kernel_rfl)
  t3:=by kernel_rfl
  a3:=run_isAgg_plain (t:=itoaRen.t 3) (d:=(TypeDesc.int IntKind.i64)) (by kernel_rfl) rfl
  z3:=itoa_size (by kernel_rfl)
  v3:=itoa_zero (by kernel_rfl)
  t4:=by kernel_rfl
  a4:=run_isAgg_plain (t:=itoaRen.t 4) (d:=(TypeDesc.bool)) (by kernel_rfl) rfl
  z4:=itoa_size (by kernel_rfl)
  v4:=itoa_zero (by kernel_rfl)
  t5:=by kernel_rfl
  a5:=run_isAgg_plain (t:=itoaRen.t 5) (d:=(TypeDesc.int IntKind.u8)) (by kernel_rfl) rfl
  z5:=itoa_size (by kernel_rfl)
  v5:=itoa_zero (by kernel_rfl)
  t9:=by kernel_rfl
  a9:=run_isAgg_plain (t:=itoaRen.t 9) (d:=(TypeDesc.string)) (by kernel_rfl) rfl
  z9:=itoa_size (by kernel_rfl)
  v9:=itoa_zero (by kernel_rfl)
  t20:=by kernel_rfl
  a20:=run_isAgg_plain (t:=itoaRen.t 20) (d:=(TypeDesc.interface #[])) (by kernel_rfl) rfl
  z20:=itoa_size (by kernel_rfl)
  v20:=itoa_zero (by kernel_rfl)
  t37:=by kernel_rfl
  a37:=run_isAgg_plain (t:=itoaRen.t 37) (d:=(TypeDesc.slice (itoaRen.t 5))) (by kernel_rfl) rfl
  z37:=itoa_size (by kernel_rfl)
  v37:=itoa_zero (by kernel_rfl)
  t46:=by kernel_rfl
  a46:=run_isAgg_plain (t:=itoaRen.t 46) (d:=(TypeDesc.int IntKind.u64)) (by kernel_rfl) rfl
  z46:=itoa_size (by kernel_rfl)
  v46:=itoa_zero (by kernel_rfl)
  t51:=by kernel_rfl
  a51:=run_isAgg_plain (t:=itoaRen.t 51) (d:=(TypeDesc.int IntKind.u32)) (by kernel_rfl) rfl
  z51:=itoa_size (by kernel_rfl)
  v51:=itoa_zero (by kernel_rfl)
  t53:=by kernel_rfl
  a53:=run_isAgg_plain (t:=itoaRen.t 53) (d:=(TypeDesc.int IntKind.u64)) (by kernel_rfl) rfl
  z53:=itoa_size (by kernel_rfl)
  v53:=itoa_zero (by kernel_rfl)
  t171:=by kernel_rfl
  a171:=itoa_agg (t:=itoaRen.t 171) (n:=24) (e:=(itoaRen.t 5)) (by kernel_rfl)
  z171:=itoa_size (by kernel_rfl)
  v171:=itoa_zero (by kernel_rfl)
  t173:=by kernel_rfl
  a173:=run_isAgg_plain (t:=itoaRen.t 173) (d:=(TypeDesc.tuple #[itoaRen.t 37,itoaRen.t 9])) (by kernel_rfl) rfl
  z173:=itoa_size (by kernel_rfl)
  v173:=itoa_zero (by kernel_rfl)
  t212:=by kernel_rfl
  a212:=itoa_agg (t:=itoaRen.t 212) (n:=20) (e:=(itoaRen.t 53)) (by kernel_rfl)
  z212:=itoa_size (by kernel_rfl)
  v212:=itoa_zero (by kernel_rfl)
  t213:=by kernel_rfl
  a213:=itoa_agg (t:=itoaRen.t 213) (n:=65) (e:=(itoaRen.t 5)) (by kernel_rfl)
  z213:=itoa_size (by kernel_rfl)
  t232:=by kernel_rfl
  a232:=itoa_agg (t:=itoaRen.t 232) (n:=32) (e:=(itoaRen.t 5)) (by kernel_rfl)
  z232:=itoa_size (by kernel_rfl)
  v232:=itoa_zero (by kernel_rfl)
  t233:=by kernel_rfl
  a233:=itoa_agg (t:=itoaRen.t 233) (n:=64) (e:=(itoaRen.t 5)) (by kernel_rfl)
  z233:=itoa_size (by kernel_rfl)
  v233:=itoa_zero (by kernel_rfl)
  g17:=by kernel_rfl
  g18:=by kernel_rfl
  g19:=by kernel_rfl
theorem itoaLays:LaysM.n171 Tryz.prog itoaRen:={ itoaLays0 with
  i0:=by kernel_rfl
  i2:=by kernel_rfl
  i3:=by kernel_rfl
  i4:=by kernel_rfl
  i5:=by kernel_rfl
  i9:=by kernel_rfl
  i20:=by kernel_rfl
  i37:=by kernel_rfl
  i46:=by kernel_rfl
  i51:=by kernel_rfl
  i53:=by kernel_rfl
  i171:=by kernel_rfl
  i173:=by kernel_rfl
  i212:=by kernel_rfl
  i232:=by kernel_rfl
  i233:=by kernel_rfl
  m17:=by kernel_rfl
  m18:=by kernel_rfl
  m19:=by kernel_rfl }
theorem fits_below {F:Nat→Prop} {w0 w w':World} {hp:HP} (h:Fits F w0 hp w) (b:RowKit.Below w.heap.size w w'):Fits F w0 hp w':=by
  refine ⟨fun k=>?_,fun k hk=>?_,b.os.trans h.os,b.tape.trans h.tape,b.output.trans h.output,Nat.le_trans h.size b.size⟩
  · have hk:=h.ent k
    by_cases hlt:k<w.heap.size
    · rw [b.block k hlt]; exact hk
    · have hn:w.heap[k]?=none:=by simp; omega
      rw [hn] at hk
      cases e:hp k with
      | none=>trivial
      | cells t cs sp=>rw [e] at hk; obtain ⟨_,_,hk⟩:=hk; cases hk
      | obj o=>rw [e] at hk; cases hk
  · obtain ⟨h1,h2,h3⟩:=h.fr k hk
    exact ⟨h1,Nat.lt_of_lt_of_le h2 b.size,(b.block k h2).trans h3⟩
/-- The table of the powers of ten, as it lies in memory. -/
def TabO (o:Obj):Prop:=∃ t z,o=.cells (Lib.pow10Tab.map fun z=>Value.int .u64 z).toArray t z
/-- It is what is known of the first block. -/
def TabR (o:Obj) (hp:HP):Prop:=hp 0=.obj o∧TabO o
theorem TabR.sub {o:Obj} {hp hp':HP} (h:TabR o hp) (hs:HSub hp hp'):TabR o hp':=⟨hs.obj h.1,h.2⟩
theorem TabR.tab {o : Obj} {hp : HP} (h : TabR o hp) {F w0 w} (hf : Fits F w0 hp w) : Lib.TabIs Tryz.prog w "internal/strconv.uint64pow10" .u64 Lib.pow10Tab := by
  obtain ⟨h,t,z,rfl⟩:=h
  have hb:w.heap[0]?=_:=h▸hf.ent 0
  have hg : Tryz.prog.globalNamed "internal/strconv.uint64pow10" = some 0 := by kernel_rfl
  unfold Lib.TabIs World.var?
  rw [hg]
  simp [hb]
theorem tabO_of {W : World} (h : Lib.TabIs Tryz.prog W "internal/strconv.uint64pow10" .u64 Lib.pow10Tab) : ∃ o, W.heap[0]? = some o ∧ TabO o := by
  have hg : Tryz.prog.globalNamed "internal/strconv.uint64pow10" = some 0 := by kernel_rfl
  unfold Lib.TabIs World.var? at h
  rw [hg] at h
  simp only [Option.bind_some] at h
  split at h
  · rename_i cs t z e
    cases h
    exact ⟨_,e,t,z,rfl⟩
  · cases h
theorem C119 {o:Obj} {n:Int} {hp:HP} {K:Value→HP→Prop} (ht:TabR o hp) (h0:-9223372036854775808≤n∧n≤9223372036854775807) (h:K (.string ⟨(Lib.itoa n).toArray⟩) hp):CF Tryz.prog 119 [.int .i64 n] hp K:=
  .inl ⟨by kernel_rfl,fun F w hf=>(Any.strconv_Itoa itoaLays n h0.1 h0.2 w (ht.tab hf)).mono fun e w' ⟨he,k,os,hw⟩=>⟨_,hp,he,fits_below hf (by subst hw; exact ⟨rfl,rfl,rfl,by simp [Sort.grow,World.drewN],fun k hk=>by simp [Sort.grow,World.drewN,Array.getElem?_append,hk]⟩),h⟩⟩
end Go.Proofs
set_option linter.unusedVariables false
set_option maxRecDepth 20000
namespace Go.Proofs
open Go Go.HL
def F155 (x0 x1:Int) (hp:HP) (K:Kh):Prop:=
  (CF Tryz.prog 91 [(Value.int .i64 x0)] hp fun u_1 h_2=>(boolV u_1 fun q_3=>(ite2 q_3 (CF Tryz.prog 91 [(Value.int .i64 x1)] h_2 fun u_4 h_5=>(boolV u_4 fun q_6=>(ite2 q_6 (ite2 ((decide ((x0:Int)<1024))==(decide ((x1:Int)<1024))) (((2:Int)≠0)∧(((2:Int)≠0)∧(K (Value.bool (((Int.tmod x0 2):Int)==(Int.tmod x1 2))) h_5))) (K (Value.bool false) h_5)) (K (Value.bool false) h_5)))) (K (Value.bool false) h_2))))
theorem F155_ok (x0 x1:Int) (hp:HP) (K:Kh) (h:F155 x0 x1 hp K):CF Tryz.prog 155 [(Value.int .i64 x0),(Value.int .i64 x1)] hp K:=
  have L:∀ {Q} n,Snd Tryz.prog 25 (cAt Tryz.f155 (pth n)) Q (CW Tryz.prog 25 [] [] (cAt Tryz.f155 (pth n)) Q):=fun _=>Snd.leaf
  okF h Tryz.func155 (L 1) (by kernel_rfl) (by kernel_rfl) (by kernel_rfl)
def F47_j2 (x0a:OA) (x0n x0c:Nat) (x1 x2:Int) (hp:HP) (K:Kh):Prop:=
  (CF Tryz.prog 93 [(Value.slice x0a x0n x0c)] hp fun u_1 h_2=>(slcV u_1 fun a_3 n_4 c_5=>(∀ b_6:Nat,h_2 b_6=.none→(∀ b_7:Nat,(HP.set h_2 b_6 (.obj (.map #[] 0))) b_7=.none→(K (.tuple ⟨[(ptr b_7 0),(Value.int .i64 0)]⟩) (HP.set (HP.set h_2 b_6 (.obj (.map #[] 0))) b_7 (.cells 172 [(Value.slice a_3 n_4 c_5),(Value.int .i64 x1),(Value.int .i64 x2),(Value.map (some b_6))] 0)))))))
def F47_l4 (x0a:OA) (x0n x0c:Nat) (x1 x2:Int) (x39a:OA) (x39n x39c:Nat) (x40:Int) (K:Kh) (I4:(Int)→HP→Prop) (x41:Int) (hp:HP):Prop:=
  (ite2 (decide ((x41:Int)<x40)) ((0≤(x41:Int))∧((x41:Int)<(x39n:Nat))∧(ptrN x39a fun b_8 o_9=>(ldL (HP.cellN hp b_8 (o_9+Int.toNat x41*4) 4) fun l_10=>(if List.length l_10=4 then (if List.all l_10 one=true then (if 0+List.length l_10≤List.length [(Value.int .u8 0),(Value.int .u8 0),(Value.int .u8 0),(Value.int .u8 0)] then ((0≤(x41:Int))∧((x41:Int)≤(x0c:Nat))∧(ldL (cellsN (splice [(Value.int .u8 0),(Value.int .u8 0),(Value.int .u8 0),(Value.int .u8 0)] 0 l_10) 0 4) fun l_11=>(CF Tryz.prog 92 [(Value.slice x0a (Int.toNat x41) x0c),(Value.agg ⟨l_11⟩)] hp fun u_12 h_13=>(boolV u_12 fun q_14=>(ite2 q_14 (K (.tuple ⟨[(Value.pointer none),(Value.int .i64 1)]⟩) h_13) (I4 (IntKind.wrap .i64 (x41+1)) h_13)))))) else False) else False) else False)))) (F47_j2 x0a x0n x0c x1 x2 hp  K))
def F47_j3 (x0a:OA) (x0n x0c:Nat) (x1 x2:Int) (x39a:OA) (x39n x39c:Nat) (x40 x41:Int) (hp:HP) (K:Kh):Prop:=
  (LoopP (σ:=Int) (fun I s hp=>F47_l4 x0a x0n x0c x1 x2 x39a x39n x39c x40  K I s hp) x41 hp)
def F47_j1 (x0a:OA) (x0n x0c:Nat) (x1 x2:Int) (x38:Bool) (hp:HP) (K:Kh):Prop:=
  (ite2 x38 (K (.tuple ⟨[(Value.pointer none),(Value.int .i64 1)]⟩) hp) (F47_j3 x0a x0n x0c x1 x2 x0a x0n x0c (x0n:Nat) 0 hp  K))
def F47 (x0a:OA) (x0n x0c:Nat) (x1 x2:Int) (hp:HP) (K:Kh):Prop:=
  (ite2 (decide (((x0n:Nat):Int)<1)) (F47_j1 x0a x0n x0c x1 x2 true hp  K) (ite2 (decide (((x0n:Nat):Int) > 4)) (F47_j1 x0a x0n x0c x1 x2 true hp  K) (CF Tryz.prog 91 [(Value.int .i64 x1)] hp fun u_15 h_16=>(boolV u_15 fun q_17=>(ite2 (!q_17) (F47_j1 x0a x0n x0c x1 x2 true h_16  K) (CF Tryz.prog 91 [(Value.int .i64 x2)] h_16 fun u_18 h_19=>(boolV u_18 fun q_20=>(ite2 (!q_20) (F47_j1 x0a x0n x0c x1 x2 true h_19  K) (ite2 (decide ((x2:Int)<x1)) (F47_j1 x0a x0n x0c x1 x2 true h_19  K) (F47_j1 x0a x0n x0c x1 x2 (decide (((IntKind.wrap .i64 (x2-x1)):Int)≥1024)) h_19  K))))))))))
theorem F47_ok (x0a:OA) (x0n x0c:Nat) (x1 x2:Int) (hp:HP) (K:Kh) (h:F47 x0a x0n x0c x1 x2 hp K):CF Tryz.prog 47 [(Value.slice x0a x0n x0c),(Value.int .i64 x1),(Value.int .i64 x2)] hp K:=
  have L:∀ {Q} n,Snd Tryz.prog 59 (cAt Tryz.f47 (pth n)) Q (CW Tryz.prog 59 [9] [] (cAt Tryz.f47 (pth n)) Q):=fun _=>Snd.leaf
  okF h Tryz.func47 (Snd.seq (L 2) (Snd.seq (Snd.jn [(0,.s),(1,.i .i64),(2,.i .i64),(38,.b)] (fun a hp=>F47_j1 a.1 a.2.1 a.2.2.1 a.2.2.2.1 a.2.2.2.2.1 a.2.2.2.2.2.1 hp  K) (L 9) (L 13) (by rfl) (by kernel_rfl)) (Snd.jn [(0,.s),(1,.i .i64),(2,.i .i64)] (fun a hp=>F47_j2 a.1 a.2.1 a.2.2.1 a.2.2.2.1 a.2.2.2.2.1 hp  K) (Snd.jn [(0,.s),(1,.i .i64),(2,.i .i64),(39,.s),(40,.i .i64),(41,.i .i64)] (fun a hp=>F47_j3 a.1 a.2.1 a.2.2.1 a.2.2.2.1 a.2.2.2.2.1 a.2.2.2.2.2.1 a.2.2.2.2.2.2.1 a.2.2.2.2.2.2.2.1 a.2.2.2.2.2.2.2.2.1 a.2.2.2.2.2.2.2.2.2.1 hp  K) (L 19) (Snd.block 0 (Snd.lp (σ:=Int) [(0,.s),(1,.i .i64),(2,.i .i64),(39,.s),(40,.i .i64),(41,.i .i64)] (fun a=>a.2.2.2.2.2.2.2.2.2.1) (fun a s=>(a.1,a.2.1,a.2.2.1,a.2.2.2.1,a.2.2.2.2.1,a.2.2.2.2.2.1,a.2.2.2.2.2.2.1,a.2.2.2.2.2.2.2.1,a.2.2.2.2.2.2.2.2.1,s,())) (fun a I s hp=>F47_l4 a.1 a.2.1 a.2.2.1 a.2.2.2.1 a.2.2.2.2.1 a.2.2.2.2.2.1 a.2.2.2.2.2.2.1 a.2.2.2.2.2.2.2.1 a.2.2.2.2.2.2.2.2.1  K I s hp) (fun I4=>(L 75)) (by rfl) (by kernel_rfl) (by kernel_rfl))) (by rfl) (by kernel_rfl)) (L 15) (by rfl) (by kernel_rfl)))) (by kernel_rfl) (by kernel_rfl) (by kernel_rfl)
def F91 (x0:Int) (hp:HP) (K:Kh):Prop:=
  (ite2 (decide ((x0:Int)≥0)) (K (Value.bool (decide ((x0:Int)≤65535))) hp) (K (Value.bool false) hp))
theorem F91_ok (x0:Int) (hp:HP) (K:Kh) (h:F91 x0 hp K):CF Tryz.prog 91 [(Value.int .i64 x0)] hp K:=
  have L:∀ {Q} n,Snd Tryz.prog 9 (cAt Tryz.f91 (pth n)) Q (CW Tryz.prog 9 [] [] (cAt Tryz.f91 (pth n)) Q):=fun _=>Snd.leaf
  okF h Tryz.func91 (L 1) (by kernel_rfl) (by kernel_rfl) (by kernel_rfl)
def F92 (x0a:OA) (x0n x0c:Nat) (x1:List Value) (hp:HP) (K:Kh):Prop:=
  (ldL (cellsN x1 0 4) fun l_1=>(CF Tryz.prog 132 [(Value.slice x0a x0n x0c),(Value.agg ⟨l_1⟩)] hp fun u_2 h_3=>(intV u_2 .i64 fun i_4=>(K (Value.bool (decide ((i_4:Int)≥0))) h_3))))
theorem F92_ok (x0a:OA) (x0n x0c:Nat) (x1:List Value) (hp:HP) (K:Kh) (h:F92 x0a x0n x0c x1 hp K):CF Tryz.prog 92 [(Value.slice x0a x0n x0c),(Value.agg ⟨x1⟩)] hp K:=
  have L:∀ {Q} n,Snd Tryz.prog 9 (cAt Tryz.f92 (pth n)) Q (CW Tryz.prog 9 [3] [] (cAt Tryz.f92 (pth n)) Q):=fun _=>Snd.leaf
  okF h Tryz.func92 (L 1) (by kernel_rfl) (by kernel_rfl) (by kernel_rfl)
def F93 (x0a:OA) (x0n x0c:Nat) (hp:HP) (K:Kh):Prop:=
  (ite2 (Option.isNone x0a) (K (Value.slice none 0 0) hp) (∀ b_1:Nat,hp b_1=.none→(opS Tryz.prog (Builtin.append_ #[40,40] 40 ⟨[(Value.slice (some ⟨b_1,0,none⟩) 0 0),(Value.slice x0a x0n x0c)]⟩) (HP.set hp b_1 (.cells 54 [] 0)) fun u_2 h_3=>(slcV u_2 fun a_4 n_5 c_6=>(K (Value.slice a_4 n_5 c_6) h_3)))))
theorem F93_ok (x0a:OA) (x0n x0c:Nat) (hp:HP) (K:Kh) (h:F93 x0a x0n x0c hp K):CF Tryz.prog 93 [(Value.slice x0a x0n x0c)] hp K:=
  have L:∀ {Q} n,Snd Tryz.prog 8 (cAt Tryz.f93 (pth n)) Q (CW Tryz.prog 8 [] [] (cAt Tryz.f93 (pth n)) Q):=fun _=>Snd.leaf
  okF h Tryz.func93 (L 1) (by kernel_rfl) (by kernel_rfl) (by kernel_rfl)
def F130_j2 (k8:List Value) (hp:HP) (K:Kh):Prop:=
  (if List.length [(Value.int .u8 0),(Value.int .u8 0),(Value.int .u8 0),(Value.int .u8 0),(Value.int .i64 0)]=5 then (if List.all [(Value.int .u8 0),(Value.int .u8 0),(Value.int .u8 0),(Value.int .u8 0),(Value.int .i64 0)] one=true then (if 0+List.length [(Value.int .u8 0),(Value.int .u8 0),(Value.int .u8 0),(Value.int .u8 0),(Value.int .i64 0)]≤List.length k8 then (ldL (cellsN (splice k8 0 [(Value.int .u8 0),(Value.int .u8 0),(Value.int .u8 0),(Value.int .u8 0),(Value.int .i64 0)]) 0 5) fun l_6=>(K (.tuple ⟨[(.agg ⟨l_6⟩),(Value.int .i64 6)]⟩) hp)) else False) else False) else False)
def F130_j5 (x0:OA) (x2:Int) (x3:Bool) (x32a:OA) (x32n x32c:Nat) (x33 x34:Int) (k8:List Value) (hp:HP) (I4:(Int × (List Value))→HP→Prop) (K:Value→HP→Prop):Prop:=
  (I4 ((IntKind.wrap .i64 (x34+1)),k8) hp)
def F130_j8 (x0:OA) (x2:Int) (x3:Bool) (x12:Int) (x32a:OA) (x32n x32c:Nat) (x33 x34:Int) (x71:Bool) (k8 k11 k13:List Value) (hp:HP) (I4:(Int × (List Value))→HP→Prop) (I7:(Int × (List Value))→HP→Prop) (K:Value→HP→Prop):Prop:=
  (ite2 x71 (ptrN x0 fun b_25 o_26=>(ldV (HP.cell hp b_25 (o_26+3)) fun v_27=>(mapV v_27 fun m_28=>(ldL (cellsN k13 0 5) fun l_29=>(opS Tryz.prog (Instr.mapUpdate 170 (Value.map m_28) (Value.agg ⟨l_29⟩) (Value.bool false)) hp fun u_30 h_31=>(ldL (cellsN k13 0 5) fun l_32=>(if List.length l_32=5 then (if List.all l_32 one=true then (if 0+List.length l_32≤List.length k8 then (ldL (cellsN (splice k8 0 l_32) 0 5) fun l_33=>(K (.tuple ⟨[(.agg ⟨l_33⟩),(Value.int .i64 0)]⟩) h_31)) else False) else False) else False))))))) (I7 ((IntKind.wrap .i64 (x12+1)),k8) hp))
def F130_l7 (x0:OA) (x2:Int) (x3:Bool) (x32a:OA) (x32n x32c:Nat) (x33 x34:Int) (k11:List Value) (I4:(Int × (List Value))→HP→Prop) (K:Value→HP→Prop) (I7:(Int × (List Value))→HP→Prop) (x12:Int) (k8:List Value) (hp:HP):Prop:=
  (ptrN x0 fun b_10 o_11=>(ldV (HP.cell hp b_10 (o_11+2)) fun v_12=>(intV v_12 .i64 fun i_13=>(ite2 (decide ((x12:Int)≤i_13)) (ldL (cellsN k11 0 4) fun l_14=>(if List.length l_14=4 then (if List.length (List.set (splice [(Value.int .u8 0),(Value.int .u8 0),(Value.int .u8 0),(Value.int .u8 0),(Value.int .i64 0)] 0 l_14) 4 (Value.int .i64 x12))=5 then (if List.all (List.set (splice [(Value.int .u8 0),(Value.int .u8 0),(Value.int .u8 0),(Value.int .u8 0),(Value.int .i64 0)] 0 l_14) 4 (Value.int .i64 x12)) one=true then (if 0+List.length (List.set (splice [(Value.int .u8 0),(Value.int .u8 0),(Value.int .u8 0),(Value.int .u8 0),(Value.int .i64 0)] 0 l_14) 4 (Value.int .i64 x12))≤List.length [(Value.int .u8 0),(Value.int .u8 0),(Value.int .u8 0),(Value.int .u8 0),(Value.int .i64 0)] then (ptrN x0 fun b_15 o_16=>(ldV (HP.cell hp b_15 (o_16+3)) fun v_17=>(mapV v_17 fun m_18=>(ldL (cellsN (splice [(Value.int .u8 0),(Value.int .u8 0),(Value.int .u8 0),(Value.int .u8 0),(Value.int .i64 0)] 0 (List.set (splice [(Value.int .u8 0),(Value.int .u8 0),(Value.int .u8 0),(Value.int .u8 0),(Value.int .i64 0)] 0 l_14) 4 (Value.int .i64 x12))) 0 5) fun l_19=>(rdS Tryz.prog (Instr.lookup 170 (Value.map m_18) (Value.agg ⟨l_19⟩) true) hp fun u_20=>(tup2V u_20 fun u_21 u_22=>(boolV u_21 fun q_23=>(boolV u_22 fun q_24=>(ite2 (!q_24) (ite2 x3 (F130_j8 x0 x2 x3 x12 x32a x32n x32c x33 x34 true k8 k11 (splice [(Value.int .u8 0),(Value.int .u8 0),(Value.int .u8 0),(Value.int .u8 0),(Value.int .i64 0)] 0 (List.set (splice [(Value.int .u8 0),(Value.int .u8 0),(Value.int .u8 0),(Value.int .u8 0),(Value.int .i64 0)] 0 l_14) 4 (Value.int .i64 x12))) hp I4 I7 K) (CF Tryz.prog 155 [(Value.int .i64 x2),(Value.int .i64 x12)] hp fun u_34 h_35=>(boolV u_34 fun q_36=>(F130_j8 x0 x2 x3 x12 x32a x32n x32c x33 x34 q_36 k8 k11 (splice [(Value.int .u8 0),(Value.int .u8 0),(Value.int .u8 0),(Value.int .u8 0),(Value.int .i64 0)] 0 (List.set (splice [(Value.int .u8 0),(Value.int .u8 0),(Value.int .u8 0),(Value.int .u8 0),(Value.int .i64 0)] 0 l_14) 4 (Value.int .i64 x12))) h_35 I4 I7 K)))) (F130_j8 x0 x2 x3 x12 x32a x32n x32c x33 x34 false k8 k11 (splice [(Value.int .u8 0),(Value.int .u8 0),(Value.int .u8 0),(Value.int .u8 0),(Value.int .i64 0)] 0 (List.set (splice [(Value.int .u8 0),(Value.int .u8 0),(Value.int .u8 0),(Value.int .u8 0),(Value.int .i64 0)] 0 l_14) 4 (Value.int .i64 x12))) hp I4 I7 K)))))))))) else False) else False) else False) else False)) (F130_j5 x0 x2 x3 x32a x32n x32c x33 x34 k8 hp I4 K)))))
def F130_j6 (x0:OA) (x2:Int) (x3:Bool) (x12:Int) (x32a:OA) (x32n x32c:Nat) (x33 x34:Int) (k8 k11:List Value) (hp:HP) (I4:(Int × (List Value))→HP→Prop) (K:Value→HP→Prop):Prop:=
  (LoopP (σ:=Int × (List Value)) (fun I s hp=>F130_l7 x0 x2 x3 x32a x32n x32c x33 x34 k11 I4 K I s.1 s.2 hp) (x12,k8) hp)
def F130_l4 (x0:OA) (x2:Int) (x3:Bool) (x32a:OA) (x32n x32c:Nat) (x33:Int) (K:Kh) (I4:(Int × (List Value))→HP→Prop) (x34:Int) (k8:List Value) (hp:HP):Prop:=
  (ite2 (decide ((x34:Int)<x33)) ((0≤(x34:Int))∧((x34:Int)<(x32n:Nat))∧(ptrN x32a fun b_7 o_8=>(ldL (HP.cellN hp b_7 (o_8+Int.toNat x34*4) 4) fun l_9=>(if List.length l_9=4 then (if List.all l_9 one=true then (if 0+List.length l_9≤List.length [(Value.int .u8 0),(Value.int .u8 0),(Value.int .u8 0),(Value.int .u8 0)] then (ptrN x0 fun b_37 o_38=>(ldV (HP.cell hp b_37 (o_38+1)) fun v_39=>(intV v_39 .i64 fun i_40=>(F130_j6 x0 x2 x3 i_40 x32a x32n x32c x33 x34 k8 (splice [(Value.int .u8 0),(Value.int .u8 0),(Value.int .u8 0),(Value.int .u8 0)] 0 l_9) hp I4 K)))) else False) else False) else False)))) (F130_j2 k8 hp  K))
def F130_j3 (x0:OA) (x2:Int) (x3:Bool) (x32a:OA) (x32n x32c:Nat) (x33 x34:Int) (k8:List Value) (hp:HP) (K:Kh):Prop:=
  (LoopP (σ:=Int × (List Value)) (fun I s hp=>F130_l4 x0 x2 x3 x32a x32n x32c x33  K I s.1 s.2 hp) (x34,k8) hp)
def F130_j1 (x0:OA) (x2:Int) (x3 x24:Bool) (k5 k8:List Value) (hp:HP) (K:Kh):Prop:=
  (ite2 x24 (if List.length [(Value.int .u8 0),(Value.int .u8 0),(Value.int .u8 0),(Value.int .u8 0),(Value.int .i64 0)]=5 then (if List.all [(Value.int .u8 0),(Value.int .u8 0),(Value.int .u8 0),(Value.int .u8 0),(Value.int .i64 0)] one=true then (if 0+List.length [(Value.int .u8 0),(Value.int .u8 0),(Value.int .u8 0),(Value.int .u8 0),(Value.int .i64 0)]≤List.length k8 then (ldL (cellsN (splice k8 0 [(Value.int .u8 0),(Value.int .u8 0),(Value.int .u8 0),(Value.int .u8 0),(Value.int .i64 0)]) 0 5) fun l_1=>(K (.tuple ⟨[(.agg ⟨l_1⟩),(Value.int .i64 2)]⟩) hp)) else False) else False) else False) (CF Tryz.prog 91 [(Value.int .i64 x2)] hp fun u_2 h_3=>(boolV u_2 fun q_4=>(ite2 (!q_4) (if List.length [(Value.int .u8 0),(Value.int .u8 0),(Value.int .u8 0),(Value.int .u8 0),(Value.int .i64 0)]=5 then (if List.all [(Value.int .u8 0),(Value.int .u8 0),(Value.int .u8 0),(Value.int .u8 0),(Value.int .i64 0)] one=true then (if 0+List.length [(Value.int .u8 0),(Value.int .u8 0),(Value.int .u8 0),(Value.int .u8 0),(Value.int .i64 0)]≤List.length k8 then (ldL (cellsN (splice k8 0 [(Value.int .u8 0),(Value.int .u8 0),(Value.int .u8 0),(Value.int .u8 0),(Value.int .i64 0)]) 0 5) fun l_5=>(K (.tuple ⟨[(.agg ⟨l_5⟩),(Value.int .i64 1)]⟩) h_3)) else False) else False) else False) (ldL (cellsN k5 0 4) fun l_41=>(CF Tryz.prog 154 [(Value.pointer x0),(Value.agg ⟨l_41⟩)] h_3 fun u_42 h_43=>(slcV u_42 fun a_44 n_45 c_46=>(F130_j3 x0 x2 x3 a_44 n_45 c_46 (n_45:Nat) 0 k8 h_43  K))))))))
def F130 (x0:OA) (x1:List Value) (x2:Int) (x3:Bool) (hp:HP) (K:Kh):Prop:=
  (ite2 (Option.isNone x0) (F130_j1 x0 x2 x3 true x1 [(Value.int .u8 0),(Value.int .u8 0),(Value.int .u8 0),(Value.int .u8 0),(Value.int .i64 0)] hp  K) (ptrN x0 fun b_47 o_48=>(ldV (HP.cell hp b_47 (o_48+3)) fun v_49=>(mapV v_49 fun m_50=>(F130_j1 x0 x2 x3 (Option.isNone m_50) x1 [(Value.int .u8 0),(Value.int .u8 0),(Value.int .u8 0),(Value.int .u8 0),(Value.int .i64 0)] hp  K)))))
theorem F130_ok (x0:OA) (x1:List Value) (x2:Int) (x3:Bool) (hp:HP) (K:Kh) (h:F130 x0 x1 x2 x3 hp K):CF Tryz.prog 130 [(Value.pointer x0),(Value.agg ⟨x1⟩),(Value.int .i64 x2),(Value.bool x3)] hp K:=
  have L:∀ {Q} n,Snd Tryz.prog 80 (cAt Tryz.f130 (pth n)) Q (CW Tryz.prog 80 [5,8,11,13] [] (cAt Tryz.f130 (pth n)) Q):=fun _=>Snd.leaf
  okF h Tryz.func130 (Snd.seq (L 2) (Snd.seq (Snd.jn [(0,.p),(2,.i .i64),(3,.b),(5,.r 5 0),(8,.r 8 0),(24,.b),(5,.c 54),(8,.c 56)] (fun a hp=>F130_j1 a.1 a.2.1 a.2.2.1 a.2.2.2.1 a.2.2.2.2.1 a.2.2.2.2.2.1 hp  K) (L 9) (L 13) (by rfl) (by kernel_rfl)) (Snd.seq (L 11) (Snd.jn [(8,.r 8 0),(8,.c 56)] (fun a hp=>F130_j2 a.1 hp  K) (Snd.jn [(0,.p),(2,.i .i64),(3,.b),(8,.r 8 0),(32,.s),(33,.i .i64),(34,.i .i64),(8,.c 56)] (fun a hp=>F130_j3 a.1 a.2.1 a.2.2.1 a.2.2.2.1 a.2.2.2.2.1 a.2.2.2.2.2.1 a.2.2.2.2.2.2.1 a.2.2.2.2.2.2.2.1 a.2.2.2.2.2.2.2.2.1 hp  K) (L 39) (Snd.block 0 (Snd.lp (σ:=Int × (List Value)) [(0,.p),(2,.i .i64),(3,.b),(8,.r 8 0),(32,.s),(33,.i .i64),(34,.i .i64),(8,.c 56)] (fun a=>(a.2.2.2.2.2.2.2.1,a.2.2.2.2.2.2.2.2.1)) (fun a s=>(a.1,a.2.1,a.2.2.1,a.2.2.2.1,a.2.2.2.2.1,a.2.2.2.2.2.1,a.2.2.2.2.2.2.1,s.1,s.2,())) (fun a I s hp=>F130_l4 a.1 a.2.1 a.2.2.1 a.2.2.2.1 a.2.2.2.2.1 a.2.2.2.2.2.1 a.2.2.2.2.2.2.1  K I s.1 s.2 hp) (fun I4=>(Snd.seq (L 279) (Snd.seq (L 663) (Snd.jn [(0,.p),(2,.i .i64),(3,.b),(8,.r 8 0),(32,.s),(33,.i .i64),(34,.i .i64),(8,.c 56)] (fun a hp=>F130_j5 a.1 a.2.1 a.2.2.1 a.2.2.2.1 a.2.2.2.2.1 a.2.2.2.2.2.1 a.2.2.2.2.2.2.1 a.2.2.2.2.2.2.2.1 a.2.2.2.2.2.2.2.2.1 hp (fun s hp=>I4 (a.1,a.2.1,a.2.2.1,a.2.2.2.1,a.2.2.2.2.1,a.2.2.2.2.2.1,a.2.2.2.2.2.2.1,s.1,s.2,()) hp) K) (Snd.block 1 (Snd.seq (L 4503) (Snd.jn [(0,.p),(2,.i .i64),(3,.b),(8,.r 8 0),(11,.r 11 0),(12,.i .i64),(32,.s),(33,.i .i64),(34,.i .i64),(8,.c 56),(11,.c 54)] (fun a hp=>F130_j6 a.1 a.2.1 a.2.2.1 a.2.2.2.1 a.2.2.2.2.1 a.2.2.2.2.2.1 a.2.2.2.2.2.2.1 a.2.2.2.2.2.2.2.1 a.2.2.2.2.2.2.2.2.1 a.2.2.2.2.2.2.2.2.2.1 a.2.2.2.2.2.2.2.2.2.2.1 hp (fun s hp=>I4 (a.1,a.2.1,a.2.2.1,a.2.2.2.2.1,a.2.2.2.2.2.1,a.2.2.2.2.2.2.1,a.2.2.2.2.2.2.2.1,s.1,s.2,()) hp) K) (L 10647) (Snd.block 2 (Snd.lp (σ:=Int × (List Value)) [(0,.p),(2,.i .i64),(3,.b),(8,.r 8 0),(11,.r 11 0),(12,.i .i64),(32,.s),(33,.i .i64),(34,.i .i64),(8,.c 56),(11,.c 54)] (fun a=>(a.2.2.2.1,a.2.2.2.2.2.2.2.2.2.1)) (fun a s=>(a.1,a.2.1,a.2.2.1,s.1,a.2.2.2.2.1,a.2.2.2.2.2.1,a.2.2.2.2.2.2.1,a.2.2.2.2.2.2.2.1,a.2.2.2.2.2.2.2.2.1,s.2,a.2.2.2.2.2.2.2.2.2.2.1,())) (fun a I s hp=>F130_l7 a.1 a.2.1 a.2.2.1 a.2.2.2.2.1 a.2.2.2.2.2.1 a.2.2.2.2.2.2.1 a.2.2.2.2.2.2.2.1 a.2.2.2.2.2.2.2.2.1 a.2.2.2.2.2.2.2.2.2.2.1 (fun s hp=>I4 (a.1,a.2.1,a.2.2.1,a.2.2.2.2.1,a.2.2.2.2.2.1,a.2.2.2.2.2.2.1,a.2.2.2.2.2.2.2.1,s.1,s.2,()) hp) K I s.1 s.2 hp) (fun I7=>(Snd.seq (L 72087) (Snd.seq (Snd.block 3 (Snd.seq (L 563607) (Snd.seq (L 1350039) (Snd.jn [(0,.p),(2,.i .i64),(3,.b),(8,.r 8 0),(11,.r 11 0),(12,.i .i64),(13,.r 13 0),(32,.s),(33,.i .i64),(34,.i .i64),(71,.b),(8,.c 56),(11,.c 54),(13,.c 56)] (fun a hp=>F130_j8 a.1 a.2.1 a.2.2.1 a.2.2.2.1 a.2.2.2.2.1 a.2.2.2.2.2.1 a.2.2.2.2.2.2.1 a.2.2.2.2.2.2.2.1 a.2.2.2.2.2.2.2.2.1 a.2.2.2.2.2.2.2.2.2.1 a.2.2.2.2.2.2.2.2.2.2.1 a.2.2.2.2.2.2.2.2.2.2.2.1 a.2.2.2.2.2.2.2.2.2.2.2.2.1 hp (fun s hp=>I4 (a.1,a.2.1,a.2.2.1,a.2.2.2.2.1,a.2.2.2.2.2.1,a.2.2.2.2.2.2.1,a.2.2.2.2.2.2.2.1,s.1,s.2,()) hp) (fun s hp=>I7 (a.1,a.2.1,a.2.2.1,s.1,a.2.2.2.2.1,a.2.2.2.2.2.1,a.2.2.2.2.2.2.1,a.2.2.2.2.2.2.2.1,a.2.2.2.2.2.2.2.2.1,s.2,a.2.2.2.2.2.2.2.2.2.2.2.1,()) hp) K) (L 2922903) (L 3971479) (by rfl) (by kernel_rfl))))) (L 235927)))) (by rfl) (by kernel_rfl) (by kernel_rfl))) (by rfl) (by kernel_rfl)))) (L 1943) (by rfl) (by kernel_rfl))))) (by rfl) (by kernel_rfl) (by kernel_rfl))) (by rfl) (by kernel_rfl)) (L 31) (by rfl) (by kernel_rfl))))) (by kernel_rfl) (by kernel_rfl) (by kernel_rfl)
def F132_l2 (x0a:OA) (x0n x0c:Nat) (x7:Int) (k3:List Value) (K:Kh) (I2:(Int)→HP→Prop) (x8:Int) (hp:HP):Prop:=
  (ite2 (decide ((x8:Int)<x7)) (ldL (cellsN k3 0 4) fun l_1=>((0≤(x8:Int))∧((x8:Int)<(x0n:Nat))∧(ptrN x0a fun b_2 o_3=>(ldL (HP.cellN hp b_2 (o_3+Int.toNat x8*4) 4) fun l_4=>(eqAgg Tryz.prog 54 l_1 l_4 fun q_5=>(ite2 q_5 (K (Value.int .i64 x8) hp) (I2 (IntKind.wrap .i64 (x8+1)) hp))))))) (K (Value.int .i64 (-1)) hp))
def F132_j1 (x0a:OA) (x0n x0c:Nat) (x7 x8:Int) (k3:List Value) (hp:HP) (K:Kh):Prop:=
  (LoopP (σ:=Int) (fun I s hp=>F132_l2 x0a x0n x0c x7 k3  K I s hp) x8 hp)
def F132 (x0a:OA) (x0n x0c:Nat) (x1:List Value) (hp:HP) (K:Kh):Prop:=
  (F132_j1 x0a x0n x0c (x0n:Nat) 0 x1 hp  K)
theorem F132_ok (x0a:OA) (x0n x0c:Nat) (x1:List Value) (hp:HP) (K:Kh) (h:F132 x0a x0n x0c x1 hp K):CF Tryz.prog 132 [(Value.slice x0a x0n x0c),(Value.agg ⟨x1⟩)] hp K:=
  have L:∀ {Q} n,Snd Tryz.prog 19 (cAt Tryz.f132 (pth n)) Q (CW Tryz.prog 19 [3] [] (cAt Tryz.f132 (pth n)) Q):=fun _=>Snd.leaf
  okF h Tryz.func132 (Snd.seq (L 2) (Snd.seq (Snd.jn [(0,.s),(3,.r 3 0),(7,.i .i64),(8,.i .i64),(3,.c 54)] (fun a hp=>F132_j1 a.1 a.2.1 a.2.2.1 a.2.2.2.1 a.2.2.2.2.1 a.2.2.2.2.2.1 hp  K) (L 9) (Snd.block 0 (Snd.lp (σ:=Int) [(0,.s),(3,.r 3 0),(7,.i .i64),(8,.i .i64),(3,.c 54)] (fun a=>a.2.2.2.2.1) (fun a s=>(a.1,a.2.1,a.2.2.1,a.2.2.2.1,s,a.2.2.2.2.2.1,())) (fun a I s hp=>F132_l2 a.1 a.2.1 a.2.2.1 a.2.2.2.1 a.2.2.2.2.2.1  K I s hp) (fun I2=>(L 37)) (by rfl) (by kernel_rfl) (by kernel_rfl))) (by rfl) (by kernel_rfl)) (L 7))) (by kernel_rfl) (by kernel_rfl) (by kernel_rfl)
def F154_j1 (x5a:OA) (x5n x5c:Nat) (hp:HP) (K:Kh):Prop:=
  (K (Value.slice x5a x5n x5c) hp)
def F154 (x0:OA) (x1:List Value) (hp:HP) (K:Kh):Prop:=
  (ptrN x0 fun b_1 o_2=>(ldV (HP.cell hp b_1 (o_2+0)) fun v_3=>(slcV v_3 fun a_4 n_5 c_6=>(CF Tryz.prog 93 [(Value.slice a_4 n_5 c_6)] hp fun u_7 h_8=>(slcV u_7 fun a_9 n_10 c_11=>(ldL (cellsN x1 0 4) fun l_12=>(CF Tryz.prog 132 [(Value.slice a_9 n_10 c_11),(Value.agg ⟨l_12⟩)] h_8 fun u_13 h_14=>(intV u_13 .i64 fun i_15=>(ite2 (decide ((i_15:Int) > 0)) ((CF Tryz.prog 171 [(Value.slice a_9 n_10 c_11),(Value.int .i64 i_15),(Value.int .i64 (IntKind.wrap .i64 (i_15+1)))] h_14 fun u_16 h_17=>(slcV u_16 fun a_18 n_19 c_20=>(ldL (cellsN x1 0 4) fun l_21=>(if List.length l_21=4 then (∀ b_22:Nat,h_17 b_22=.none→(CF Tryz.prog 170 [(Value.slice a_18 n_19 c_20),(Value.int .i64 0),(Value.slice (some ⟨b_22,0,none⟩) 1 1)] (HP.set h_17 b_22 (.cells 54 (splice [(Value.int .u8 0),(Value.int .u8 0),(Value.int .u8 0),(Value.int .u8 0)] 0 l_21) 0)) fun u_23 h_24=>(slcV u_23 fun a_25 n_26 c_27=>(F154_j1 a_25 n_26 c_27 h_24  K)))) else False))))∧(ldL (cellsN x1 0 4) fun l_28=>(if List.length l_28=4 then (∀ b_29:Nat,h_14 b_29=.none→(CF Tryz.prog 171 [(Value.slice a_9 n_10 c_11),(Value.int .i64 i_15),(Value.int .i64 (IntKind.wrap .i64 (i_15+1)))] (HP.set h_14 b_29 (.cells 54 (splice [(Value.int .u8 0),(Value.int .u8 0),(Value.int .u8 0),(Value.int .u8 0)] 0 l_28) 0)) fun u_30 h_31=>(slcV u_30 fun a_32 n_33 c_34=>(CF Tryz.prog 170 [(Value.slice a_32 n_33 c_34),(Value.int .i64 0),(Value.slice (some ⟨b_29,0,none⟩) 1 1)] h_31 fun u_35 h_36=>(slcV u_35 fun a_37 n_38 c_39=>(F154_j1 a_37 n_38 c_39 h_36  K)))))) else False))) (F154_j1 a_9 n_10 c_11 h_14  K))))))))))
theorem F154_ok (x0:OA) (x1:List Value) (hp:HP) (K:Kh) (h:F154 x0 x1 hp K):CF Tryz.prog 154 [(Value.pointer x0),(Value.agg ⟨x1⟩)] hp K:=
  have L:∀ {Q} n,Snd Tryz.prog 26 (cAt Tryz.f154 (pth n)) Q (CW Tryz.prog 26 [3] [(4,[(4,6)],[([true],true,[0,1,2,3,4,5,6,7,8]),([false],true,[0,1,2,3,5,6,4,7,8])])] (cAt Tryz.f154 (pth n)) Q):=fun _=>Snd.leaf
  okF h Tryz.func154 (Snd.seq (L 2) (Snd.seq (L 5) (Snd.jn [(5,.s)] (fun a hp=>F154_j1 a.1 a.2.1 a.2.2.1 hp  K) (L 11) (L 15) (by rfl) (by kernel_rfl)))) (by kernel_rfl) (by kernel_rfl) (by kernel_rfl)
end Go.Proofs
set_option linter.unusedVariables false
namespace Go.Proofs
open Go Go.HL
/-- An address: four bytes. -/
abbrev Q:=Int × Int × Int × Int
def v4 (q:Q):List Value:=[.int .u8 q.1,.int .u8 q.2.1,.int .u8 q.2.2.1,.int .u8 q.2.2.2]
def t4 (t:Q × Int):List Value:=[.int .u8 t.1.1,.int .u8 t.1.2.1,.int .u8 t.1.2.2.1,.int .u8 t.1.2.2.2,.int .i64 t.2]
theorem v4_len (q:Q):(v4 q).length=4:=rfl
theorem t4_len (q:Q × Int):(t4 q).length=5:=rfl
theorem v4_one (q:Q):(v4 q).all one=true:=rfl
theorem t4_one (q:Q × Int):(t4 q).all one=true:=rfl
theorem v4_inj {p q:Q}:v4 p=v4 q↔p=q:=by
  simp only [v4,List.cons.injEq,Value.int.injEq,true_and,and_true]
  constructor
  · rintro ⟨a,b,c,d⟩; exact Prod.ext a (Prod.ext b (Prod.ext c d))
  · rintro rfl; exact ⟨rfl,rfl,rfl,rfl⟩
theorem t4_inj {p q:Q × Int}:t4 p=t4 q↔p=q:=by
  simp only [t4,List.cons.injEq,Value.int.injEq,true_and,and_true]
  constructor
  · rintro ⟨a,b,c,d,e⟩; exact Prod.ext (Prod.ext a (Prod.ext b (Prod.ext c d))) e
  · rintro rfl; exact ⟨rfl,rfl,rfl,rfl,rfl⟩
theorem v4_shaped (q:Q):shaped Tryz.prog 3 54 (v4 q)=true:=by kernel_rfl
theorem t4_shaped (q:Q × Int):shaped Tryz.prog 3 56 (t4 q)=true:=by kernel_rfl
theorem eq73 {p q:Q} {c:Bool→Prop} (h:c (decide (p=q))):eqAgg Tryz.prog 54 (v4 p) (v4 q) c:=
  eqAgg_of (m:=3) (D:=3) (by kernel_rfl) (v4_shaped p) (v4_shaped q) (by simp [v4_inj]) h
theorem eq75 {p q:Q × Int} {c:Bool→Prop} (h:c (decide (p=q))):eqAgg Tryz.prog 56 (t4 p) (t4 q) c:=
  eqAgg_of (m:=3) (D:=3) (by kernel_rfl) (t4_shaped p) (t4_shaped q) (by simp [t4_inj]) h
/-! Class, the two addresses. -/
def isPort (x:Int):Bool:=decide (0≤x∧x≤65535)
def cls (x y:Int):Bool:=isPort x&&isPort y&&(decide (x<1024)==decide (y<1024))&&(x.tmod 2==y.tmod 2)
theorem C91 {x:Int} {hp:HP} {K:Value→HP→Prop} (h:K (.bool (isPort x)) hp):CF Tryz.prog 91 [.int .i64 x] hp K:=by
  refine F91_ok x hp K ?_
  unfold F91
  unfold isPort at h
  by_cases h0:0≤x
  · simpa [h0] using h
  · simpa [h0] using h
theorem C155 {x y:Int} {hp:HP} {K:Value→HP→Prop} (h:K (.bool (cls x y)) hp):CF Tryz.prog 155 [.int .i64 x,.int .i64 y] hp K:=by
  refine F155_ok x y hp K ?_
  unfold F155
  unfold cls at h
  refine C91 ?_
  simp only [boolV_bool]
  cases hx:isPort x
  · simpa [hx] using h
  · refine C91 ?_
    simp only [boolV_bool,ite2_true]
    cases hy:isPort y
    · simpa [hx,hy] using h
    · simp only [hx,hy,Bool.true_and] at h
      simp only [ite2_true]
      cases hz:(decide (x<1024)==decide (y<1024))
      · simpa [hz] using h
      · simpa [hz] using h
/-- Where an address is in a list, or -1. -/
def idx (q:Q) (l:List Q):Int:=if q∈l then (l.idxOf q:Int) else -1
theorem idx_none {q:Q} {l:List Q} (h:∀ j:Nat,l[j]?≠some q):idx q l=-1:=by
  have:q ∉ l:=fun hm=>by obtain ⟨j,hj⟩:=List.mem_iff_getElem?.1 hm; exact h j hj
  simp [idx,this]
theorem idx_at {q:Q} {l:List Q} {i:Nat} (h:l[i]?=some q) (hn:∀ j:Nat,j<i→l[j]?≠some q):idx q l=i:=by
  have hm:q∈l:=List.mem_iff_getElem?.2 ⟨i,h⟩
  have hlt:l.idxOf q<l.length:=List.idxOf_lt_length_of_mem hm
  have h1:l[l.idxOf q]?=some q:=by rw [List.getElem?_eq_getElem hlt]; simp
  have h2:¬ l.idxOf q<i:=fun h'=>hn _ h' h1
  have h3:¬ i<l.idxOf q:=fun h'=>by
    have:=List.not_of_lt_findIdx (xs:=l) (p:=(·==q)) (i:=i) h'
    have hi:i<l.length:=by omega
    rw [List.getElem?_eq_getElem hi] at h
    simp at this h
    exact this h
  simp only [idx,hm,if_true]
  omega
theorem C132 {a:Option Addr} {n c:Nat} {l:List Q} {q:Q} {hp:HP} {K:Value→HP→Prop} (hs:Shows hp a n 4 (l.flatMap v4)) (hl:l.length=n) (hn:n≤9223372036854775806)
    (h:K (.int .i64 (idx q l)) hp):CF Tryz.prog 132 [.slice a n c,.agg ⟨v4 q⟩] hp K:=by
  refine F132_ok a n c (v4 q) hp K ?_
  unfold F132 F132_j1
  refine LoopP.by (J:=fun k (x:Int) hp'=>hp'=hp∧∃ i:Nat,x=i∧i+k=n∧∀ j:Nat,j<i→l[j]?≠some q) ?_ (n:=n) ⟨rfl,0,rfl,by omega,fun j hj=>by omega⟩
  rintro I k x hp' ⟨rfl,i,rfl,hik,hnone⟩ hI
  unfold F132_l2
  by_cases hi:i<n
  · have hlt:decide ((i:Int)<(n:Int))=true:=by simpa using hi
    obtain ⟨b,o,rfl,hc⟩:=hs.get v4_len hl hi
    simp only [hlt,ite2_true,cellsN_all (v4_len q),ldL_some,ptrN_some,Int.toNat_natCast,hc]
    refine ⟨by omega,by omega,eq73 ?_⟩
    by_cases he:q=l[i]'(hl▸hi)
    · have:l[i]?=some q:=by rw [List.getElem?_eq_getElem (hl▸hi),he]
      rw [idx_at this hnone] at h
      simpa [he] using h
    · simp only [he,decide_false,ite2_false]
      rw [w64 (by omega) (by omega)]
      refine hI (k-1) _ _ (by omega) ⟨rfl,i+1,by omega,by omega,fun j hj=>?_⟩
      by_cases hji:j=i
      · subst hji
        rw [List.getElem?_eq_getElem (hl▸hi)]
        intro hh
        exact he (Option.some.inj hh).symm
      · exact hnone j (by omega)
  · have hlt:decide ((i:Int)<(n:Int))=false:=by simpa using hi
    simp only [hlt,ite2_false]
    rw [idx_none] at h
    · exact h
    · intro j
      by_cases hj:j<i
      · exact hnone j hj
      · rw [List.getElem?_eq_none (by omega)]; simp
theorem C92 {a:Option Addr} {n c:Nat} {l:List Q} {q:Q} {hp:HP} {K:Value→HP→Prop} (hs:Shows hp a n 4 (l.flatMap v4)) (hl:l.length=n) (hn:n≤9223372036854775806)
    (h:K (.bool (decide (q∈l))) hp):CF Tryz.prog 92 [.slice a n c,.agg ⟨v4 q⟩] hp K:=by
  refine F92_ok a n c (v4 q) hp K ?_
  unfold F92
  simp only [cellsN_all (v4_len q),ldL_some]
  refine C132 hs hl hn ?_
  simp only [intV_int]
  have:decide (idx q l≥0)=decide (q∈l):=by
    unfold idx
    by_cases hm:q∈l <;> simp [hm]
  rw [this]; exact h
/-- Clone: a new row. -/
theorem C93 {a:Option Addr} {n c:Nat} {l:List Q} {hp:HP} {K:Value→HP→Prop} (hs:Shows hp a n 4 (l.flatMap v4)) (hl:l.length=n) (hn:n≤10000000000)
    (h:∀ s2 c2 hp',HSub hp hp'→Row hp' s2 n c2 54 4 (l.flatMap v4)→(∀ b,s2=some ⟨b,0,none⟩→hp b=.none)→K (.slice s2 n c2) hp'):CF Tryz.prog 93 [.slice a n c] hp K:=by
  refine F93_ok a n c hp K ?_
  unfold F93
  cases a with
  | none=>
    have hn0:n=0:=by
      rcases hs with h | ⟨b,o,h,_⟩
      · exact h.1
      · cases h
    subst hn0
    have:l=[]:=List.eq_nil_of_length_eq_zero hl
    subst this
    simp only [Option.isNone_none,ite2_true]
    exact h none 0 hp (HSub.refl _) (.inl ⟨rfl,rfl,rfl,rfl⟩) (fun b hb=>by cases hb)
  | some a=>
    simp only [Option.isNone_some,ite2_false]
    intro b hb
    have hsub:=HSub.set_fresh hp (.cells 54 [] 0) hb
    refine opS_app (e:=54) (size:=4) (bytes:=4) (xs:=[]) (by kernel_rfl) (.inr ⟨b,rfl,Nat.le_refl _,by simp,by simp [HP.set_eq]⟩) (hs.sub hsub) (all_flat v4_one l) (by omega) (by omega) ?_
    intro s2 c2 hp' hrow hupd
    simp only [Nat.zero_add,List.nil_append,slcV_slice] at hrow ⊢
    have hsub':HSub hp hp'∧∀ b',s2=some ⟨b',0,none⟩→hp b'=.none:=by
      rcases hupd with ⟨rfl,rfl⟩ | ⟨b',e',rfl,hb',rfl⟩
      · exact ⟨hsub,fun b' e=>by cases e; exact hb⟩
      · have hn':hp b'=.none:=by
          rcases hb' with hb' | hb'
          · exact hsub.none hb'
          · cases hb'; exact hb
        refine ⟨fun x=>?_,fun b'' e=>by cases e; exact hn'⟩
        by_cases hx:x=b'
        · subst hx; exact .inl hn'
        · rw [HP.set_ne _ _ hx]; exact hsub x
    exact h s2 c2 hp' hsub'.1 hrow hsub'.2
end Go.Proofs
namespace Go.HL
open Go Go.Lib
/-- The number that digits read as. -/
def dval (l:List UInt8):Nat:=l.foldl (fun a b=>a*10+(b.toNat-48)) 0
theorem dval_dec:∀ u:Nat,dval (decDigits u)=u
  | u=>by
    rw [decDigits]
    split
    · rename_i h
      simp only [dval,List.foldl_cons,List.foldl_nil]
      have:(UInt8.ofNat (48+u)).toNat=48+u:=by simp [UInt8.toNat_ofNat']; omega
      rw [this]; omega
    · rename_i h
      have ih:=dval_dec (u / 10)
      unfold dval at ih ⊢
      rw [List.foldl_append,ih]
      simp only [List.foldl_cons,List.foldl_nil]
      have:(UInt8.ofNat (48+u % 10)).toNat=48+u % 10:=by simp [UInt8.toNat_ofNat']; omega
      rw [this]; omega
termination_by u=>u
decreasing_by omega
theorem dec_digit:∀ (u:Nat) (b:UInt8),b∈decDigits u→48≤b.toNat∧b.toNat≤57
  | u,b,h=>by
    rw [decDigits] at h
    split at h
    · rename_i hu
      rw [List.mem_singleton] at h
      subst h
      have:(UInt8.ofNat (48+u)).toNat=48+u:=by simp [UInt8.toNat_ofNat']; omega
      omega
    · rename_i hu
      rw [List.mem_append,List.mem_singleton] at h
      rcases h with h | h
      · exact dec_digit (u / 10) b h
      · subst h
        have:(UInt8.ofNat (48+u % 10)).toNat=48+u % 10:=by simp [UInt8.toNat_ofNat']; omega
        omega
termination_by u=>u
decreasing_by omega
theorem dec_inj {u v:Nat} (h:decDigits u=decDigits v):u=v:=by
  rw [← dval_dec u,h,dval_dec]
theorem itoa_inj {a b:Int} (h:itoa a=itoa b):a=b:=by
  unfold itoa at h
  have key:∀ u v:Nat,(45:UInt8)::decDigits u≠decDigits v:=fun u v e=>by
    have:=dec_digit v 45 (by rw [← e]; simp)
    have e45:(45:UInt8).toNat=45:=rfl
    omega
  split at h <;> split at h
  · rw [List.cons.injEq] at h
    have:=dec_inj h.2
    omega
  · exact absurd h (key _ _)
  · exact absurd h.symm (key _ _)
  · have:=dec_inj h
    omega
theorem itoa_blank (a:Int):(32:UInt8) ∉ itoa a:=by
  unfold itoa
  have key:∀ u:Nat,(32:UInt8) ∉ decDigits u:=fun u h=>by
    have:=dec_digit u 32 h
    have e32:(32:UInt8).toNat=32:=rfl
    omega
  split
  · rw [List.mem_cons,not_or]
    exact ⟨by decide,key _⟩
  · exact key _
theorem blank_split:∀ {a b r s:List UInt8},(32:UInt8) ∉ a→(32:UInt8) ∉ b→a++32::r=b++32::s→a=b∧r=s
  | [],[],_,_,_,_,h=>by simpa using h
  | [],y::b,_,_,_,hb,h=>by
    simp only [List.nil_append,List.cons_append,List.cons.injEq] at h
    exact absurd (by rw [h.1]; simp) hb
  | x::a,[],_,_,ha,_,h=>by
    simp only [List.nil_append,List.cons_append,List.cons.injEq] at h
    exact absurd (by rw [← h.1]; simp) ha
  | x::a,y::b,r,s,ha,hb,h=>by
    simp only [List.cons_append,List.cons.injEq] at h
    obtain ⟨e1,e2⟩:=h
    have:=blank_split (a:=a) (b:=b) (fun hm=>ha (List.mem_cons_of_mem _ hm)) (fun hm=>hb (List.mem_cons_of_mem _ hm)) e2
    exact ⟨by rw [e1,this.1],this.2⟩
/-- Two numbers, each with a blank behind it, and bytes. -/
def keyL (a b:Int) (l:List UInt8):List UInt8:=itoa a++32::(itoa b++32::l)
theorem keyL_inj {a b c d:Int} {l m:List UInt8} (h:keyL a b l=keyL c d m):a=c∧b=d∧l=m:=by
  unfold keyL at h
  obtain ⟨h1,h2⟩:=blank_split (itoa_blank a) (itoa_blank c) h
  obtain ⟨h3,h4⟩:=blank_split (itoa_blank b) (itoa_blank d) h2
  exact ⟨itoa_inj h1,itoa_inj h3,h4⟩
end Go.HL
set_option linter.unusedVariables false
set_option linter.unusedSimpArgs false
set_option maxRecDepth 20000
namespace Go.Proofs
open Go Go.HL
def okB (n:Int):Prop:=0≤n∧n≤255
def okZ (n:Int):Prop:=-9223372036854775808≤n∧n≤9223372036854775807
def okQ (q:Q):Prop:=okB q.1∧okB q.2.1∧okB q.2.2.1∧okB q.2.2.2
def okT (t:Q × Int):Prop:=okQ t.1∧okZ t.2
def qi (q:Q):List Int:=[q.1,q.2.1,q.2.2.1,q.2.2.2]
def bs (q:Q):List UInt8:=(qi q).map u8
theorem bs_inj {p q:Q} (hp:okQ p) (hq:okQ q) (h:bs p=bs q):p=q:=by
  simp only [bs,qi,List.map_cons,List.map_nil,List.cons.injEq,and_true] at h
  obtain ⟨a1,a2,a3,a4⟩:=hp
  obtain ⟨b1,b2,b3,b4⟩:=hq
  exact Prod.ext (u8_inj a1 b1 h.1) (Prod.ext (u8_inj a2 b2 h.2.1) (Prod.ext (u8_inj a3 b3 h.2.2.1) (u8_inj a4 b4 h.2.2.2)))
/-- The key of two transport addresses. -/
def keyS (o p:Q × Int):ByteArray:=⟨(keyL o.2 p.2 (bs o.1++bs p.1)).toArray⟩
def itS (n:Int):ByteArray:=⟨(Lib.itoa n).toArray⟩
theorem itS_size {n:Int} (h:okZ n):(itS n).size≤21:=by
  have:=Lib.itoa_length_le n h.1 h.2
  show (Lib.itoa n).toArray.size≤21
  simpa using this
def byS (l:List UInt8):ByteArray:=⟨l.toArray⟩
theorem byS_app (l m:List UInt8):byS l++byS m=byS (l++m):=by
  apply ByteArray.ext
  simp [byS,ByteArray.data_append]
theorem TabR.set {o:Obj} {hp:HP} (h:TabR o hp) {b:Nat} (hb:hp b=.none) (e:Ent):TabR o (hp.set b e):=h.sub (HSub.set_fresh hp e hb)
end Go.Proofs
set_option linter.unusedVariables false
set_option maxRecDepth 20000
namespace Go.Proofs
open Go Go.HL
theorem size_of {P:Program} {t z:Nat} (h:(P.info? t).map (·.size)=some z) (w:World):(Go.sizeOf t).run P w=.ok z w:=run_size h
theorem C180 {b1 o1 n1 c1 b2 o2 n2 c2:Nat} {cs1 cs2:List Value} {sp1 sp2:Nat} {hp:HP} {K:Value→HP→Prop} (h1:hp b1=.cells 54 cs1 sp1) (h2:hp b2=.cells 54 cs2 sp2) (hne:b1≠b2) (hz:cs2≠[])
    (h:K (.bool false) hp):CF Tryz.prog 180 [.slice (some ⟨b1,o1,none⟩) n1 c1,.slice (some ⟨b2,o2,none⟩) n2 c2] hp K:=by
  refine .inr fun F w0 w hf=>⟨.bool false,w,hp,?_,hf,h⟩
  obtain ⟨r1,_,e1⟩:=(h1▸hf.ent b1:(Ent.cells 54 cs1 sp1).ok _)
  obtain ⟨r2,_,e2⟩:=(h2▸hf.ent b2:(Ent.cells 54 cs2 sp2).ok _)
  rw [run_callFunc_extern Tryz.func180 (by kernel_rfl) (by kernel_rfl) (by kernel_rfl) (e:=Extern.SlicesOverlaps.overlaps #[40,40] #[4]) (by kernel_rfl)]
  have hpos:(cs2++r2).toArray.size≠0:=by
    intro hh
    apply hz
    have:(cs2++r2).length=0:=by simpa using hh
    exact List.eq_nil_of_length_eq_zero (by simp at this; simp [this.1])
  have hrun:=Lib.run_overlaps_apart (P:=Tryz.prog) w 40 4 54 (by kernel_rfl) 4 (size_of (by kernel_rfl)) ⟨b1,o1,none⟩ ⟨b2,o2,none⟩ n1 c1 n2 c2 hne 54 54 (cs1++r1).toArray.size (cs2++r2).toArray.size
    (by simp [World.shape?,e1]) (by simp [World.shape?,e2]) hpos (by simp [World.frozen?,e1]) (by simp [World.frozen?,e1])
  rw [hrun]
  rfl
end Go.Proofs
set_option linter.unusedVariables false
set_option maxRecDepth 20000
namespace Go.Proofs
open Go Go.HL
def F170 (x0a:OA) (x0n x0c:Nat) (x1:Int) (x2a:OA) (x2n x2c:Nat) (hp:HP) (K:Kh):Prop:=
  ((0≤(x1:Int))∧((x1:Int)≤(x0n:Nat))∧(x0n≤x0c)∧(ite2 (((x2n:Nat):Int)==0) (K (Value.slice x0a x0n x0c) hp) (ite2 ((x1:Int)==(x0n:Nat)) (opS Tryz.prog (Builtin.append_ #[40,40] 40 ⟨[(Value.slice x0a x0n x0c),(Value.slice x2a x2n x2c)]⟩) hp fun u_1 h_2=>(slcV u_1 fun a_3 n_4 c_5=>(K (Value.slice a_3 n_4 c_5) h_2))) (ite2 (decide (((IntKind.wrap .i64 ((x0n:Nat)+(x2n:Nat))):Int) > (x0c:Nat))) ((0≤(x1:Int))∧((x1:Int)≤(x0c:Nat))∧(opS Tryz.prog (Builtin.append_ #[40,3] 40 ⟨[(Value.slice x0a (Int.toNat x1) x0c),(Value.int .i64 (IntKind.wrap .i64 ((IntKind.wrap .i64 ((x0n:Nat)+(x2n:Nat)))-x1)))]⟩) hp fun u_6 h_7=>(slcV u_6 fun a_8 n_9 c_10=>((0≤(x1:Int))∧((x1:Int)≤(n_9:Nat))∧(n_9≤c_10)∧(opS Tryz.prog (Builtin.copy_ #[40,40] 3 ⟨[(Value.slice (sub0 a_8 c_10 (Int.toNat x1) 4) (n_9-Int.toNat x1) (c_10-Int.toNat x1)),(Value.slice x2a x2n x2c)]⟩) h_7 fun u_11 h_12=>(intV u_11 .i64 fun i_13=>((0≤((IntKind.wrap .i64 (x1+(x2n:Nat))):Int))∧(((IntKind.wrap .i64 (x1+(x2n:Nat))):Int)≤(n_9:Nat))∧(n_9≤c_10)∧((0≤(x1:Int))∧((x1:Int)≤(x0n:Nat))∧(x0n≤x0c)∧(opS Tryz.prog (Builtin.copy_ #[40,40] 3 ⟨[(Value.slice (sub0 a_8 c_10 (Int.toNat (IntKind.wrap .i64 (x1+(x2n:Nat)))) 4) (n_9-Int.toNat (IntKind.wrap .i64 (x1+(x2n:Nat)))) (c_10-Int.toNat (IntKind.wrap .i64 (x1+(x2n:Nat))))),(Value.slice (sub0 x0a x0c (Int.toNat x1) 4) (x0n-Int.toNat x1) (x0c-Int.toNat x1))]⟩) h_12 fun u_14 h_15=>(intV u_14 .i64 fun i_16=>(K (Value.slice a_8 n_9 c_10) h_15))))))))))) ((0≤((IntKind.wrap .i64 ((x0n:Nat)+(x2n:Nat))):Int))∧(((IntKind.wrap .i64 ((x0n:Nat)+(x2n:Nat))):Int)≤(x0c:Nat))∧((0≤((IntKind.wrap .i64 (x1+(x2n:Nat))):Int))∧(((IntKind.wrap .i64 (x1+(x2n:Nat))):Int)≤((Int.toNat (IntKind.wrap .i64 ((x0n:Nat)+(x2n:Nat)))):Nat))∧((Int.toNat (IntKind.wrap .i64 ((x0n:Nat)+(x2n:Nat))))≤x0c)∧(CF Tryz.prog 180 [(Value.slice x2a x2n x2c),(Value.slice (sub0 x0a x0c (Int.toNat (IntKind.wrap .i64 (x1+(x2n:Nat)))) 4) ((Int.toNat (IntKind.wrap .i64 ((x0n:Nat)+(x2n:Nat))))-Int.toNat (IntKind.wrap .i64 (x1+(x2n:Nat)))) (x0c-Int.toNat (IntKind.wrap .i64 (x1+(x2n:Nat)))))] hp fun u_17 h_18=>(boolV u_17 fun q_19=>(ite2 (!q_19) ((0≤((IntKind.wrap .i64 (x1+(x2n:Nat))):Int))∧(((IntKind.wrap .i64 (x1+(x2n:Nat))):Int)≤((Int.toNat (IntKind.wrap .i64 ((x0n:Nat)+(x2n:Nat)))):Nat))∧((Int.toNat (IntKind.wrap .i64 ((x0n:Nat)+(x2n:Nat))))≤x0c)∧((0≤(x1:Int))∧((x1:Int)≤((Int.toNat (IntKind.wrap .i64 ((x0n:Nat)+(x2n:Nat)))):Nat))∧((Int.toNat (IntKind.wrap .i64 ((x0n:Nat)+(x2n:Nat))))≤x0c)∧(opS Tryz.prog (Builtin.copy_ #[40,40] 3 ⟨[(Value.slice (sub0 x0a x0c (Int.toNat (IntKind.wrap .i64 (x1+(x2n:Nat)))) 4) ((Int.toNat (IntKind.wrap .i64 ((x0n:Nat)+(x2n:Nat))))-Int.toNat (IntKind.wrap .i64 (x1+(x2n:Nat)))) (x0c-Int.toNat (IntKind.wrap .i64 (x1+(x2n:Nat))))),(Value.slice (sub0 x0a x0c (Int.toNat x1) 4) ((Int.toNat (IntKind.wrap .i64 ((x0n:Nat)+(x2n:Nat))))-Int.toNat x1) (x0c-Int.toNat x1))]⟩) h_18 fun u_20 h_21=>(intV u_20 .i64 fun i_22=>((0≤(x1:Int))∧((x1:Int)≤((Int.toNat (IntKind.wrap .i64 ((x0n:Nat)+(x2n:Nat)))):Nat))∧((Int.toNat (IntKind.wrap .i64 ((x0n:Nat)+(x2n:Nat))))≤x0c)∧(opS Tryz.prog (Builtin.copy_ #[40,40] 3 ⟨[(Value.slice (sub0 x0a x0c (Int.toNat x1) 4) ((Int.toNat (IntKind.wrap .i64 ((x0n:Nat)+(x2n:Nat))))-Int.toNat x1) (x0c-Int.toNat x1)),(Value.slice x2a x2n x2c)]⟩) h_21 fun u_23 h_24=>(intV u_23 .i64 fun i_25=>(K (Value.slice x0a (Int.toNat (IntKind.wrap .i64 ((x0n:Nat)+(x2n:Nat)))) x0c) h_24)))))))) ((0≤((x0n:Nat):Int))∧(((x0n:Nat):Int)≤((Int.toNat (IntKind.wrap .i64 ((x0n:Nat)+(x2n:Nat)))):Nat))∧((Int.toNat (IntKind.wrap .i64 ((x0n:Nat)+(x2n:Nat))))≤x0c)∧(opS Tryz.prog (Builtin.copy_ #[40,40] 3 ⟨[(Value.slice (sub0 x0a x0c (Int.toNat (x0n:Nat)) 4) ((Int.toNat (IntKind.wrap .i64 ((x0n:Nat)+(x2n:Nat))))-Int.toNat (x0n:Nat)) (x0c-Int.toNat (x0n:Nat))),(Value.slice x2a x2n x2c)]⟩) h_18 fun u_26 h_27=>(intV u_26 .i64 fun i_28=>((0≤(x1:Int))∧((x1:Int)≤((Int.toNat (IntKind.wrap .i64 ((x0n:Nat)+(x2n:Nat)))):Nat))∧((Int.toNat (IntKind.wrap .i64 ((x0n:Nat)+(x2n:Nat))))≤x0c)∧(CF Tryz.prog 181 [(Value.slice (sub0 x0a x0c (Int.toNat x1) 4) ((Int.toNat (IntKind.wrap .i64 ((x0n:Nat)+(x2n:Nat))))-Int.toNat x1) (x0c-Int.toNat x1)),(Value.int .i64 (x2n:Nat))] h_27 fun u_29 h_30=>(K (Value.slice x0a (Int.toNat (IntKind.wrap .i64 ((x0n:Nat)+(x2n:Nat)))) x0c) h_30)))))))))))))))
theorem F170_ok (x0a:OA) (x0n x0c:Nat) (x1:Int) (x2a:OA) (x2n x2c:Nat) (hp:HP) (K:Kh) (h:F170 x0a x0n x0c x1 x2a x2n x2c hp K):CF Tryz.prog 170 [(Value.slice x0a x0n x0c),(Value.int .i64 x1),(Value.slice x2a x2n x2c)] hp K:=
  have L:∀ {Q} n,Snd Tryz.prog 95 (cAt Tryz.f170 (pth n)) Q (CW Tryz.prog 95 [] [] (cAt Tryz.f170 (pth n)) Q):=fun _=>Snd.leaf
  okF h Tryz.func170 (L 1) (by kernel_rfl) (by kernel_rfl) (by kernel_rfl)
def F171 (x0a:OA) (x0n x0c:Nat) (x1 x2:Int) (hp:HP) (K:Kh):Prop:=
  ((0≤(x1:Int))∧((x1:Int)≤(x2:Int))∧((x2:Int)≤((x0n:Nat):Int))∧(((x0n:Nat):Int)≤(x0c:Nat))∧(ite2 ((x1:Int)==x2) (K (Value.slice x0a x0n x0c) hp) ((0≤(x1:Int))∧((x1:Int)≤(x0c:Nat))∧((0≤(x2:Int))∧((x2:Int)≤(x0n:Nat))∧(x0n≤x0c)∧(opS Tryz.prog (Builtin.append_ #[40,40] 40 ⟨[(Value.slice x0a (Int.toNat x1) x0c),(Value.slice (sub0 x0a x0c (Int.toNat x2) 4) (x0n-Int.toNat x2) (x0c-Int.toNat x2))]⟩) hp fun u_1 h_2=>(slcV u_1 fun a_3 n_4 c_5=>((0≤((n_4:Nat):Int))∧(((n_4:Nat):Int)≤((x0n:Nat):Int))∧(((x0n:Nat):Int)≤(c_5:Nat))∧(opS Tryz.prog (Builtin.clear_ #[40] 0 ⟨[(Value.slice (sub0 a_3 c_5 (Int.toNat (n_4:Nat)) 4) (Int.toNat (x0n:Nat)-Int.toNat (n_4:Nat)) (c_5-Int.toNat (n_4:Nat)))]⟩) h_2 fun u_6 h_7=>(K (Value.slice a_3 n_4 c_5) h_7)))))))))
theorem F171_ok (x0a:OA) (x0n x0c:Nat) (x1 x2:Int) (hp:HP) (K:Kh) (h:F171 x0a x0n x0c x1 x2 hp K):CF Tryz.prog 171 [(Value.slice x0a x0n x0c),(Value.int .i64 x1),(Value.int .i64 x2)] hp K:=
  have L:∀ {Q} n,Snd Tryz.prog 33 (cAt Tryz.f171 (pth n)) Q (CW Tryz.prog 33 [] [] (cAt Tryz.f171 (pth n)) Q):=fun _=>Snd.leaf
  okF h Tryz.func171 (L 1) (by kernel_rfl) (by kernel_rfl) (by kernel_rfl)
end Go.Proofs
set_option linter.unusedVariables false
set_option maxRecDepth 20000
namespace Go.Proofs
open Go Go.HL
theorem sub0_at {b c k:Nat} (h:c≠k):sub0 (some ⟨b,0,none⟩) c k 4=some ⟨b,k*4,none⟩:=by
  unfold sub0
  rw [if_neg h,Option.map_some,add_eq,Nat.zero_add]
theorem shows_drop {hp:HP} {b:Nat} {l:List Q} {sp k c:Nat} (hb:hp b=.cells 54 (l.flatMap v4) sp) (hk:k≤l.length) (hc:l.length≤c) :
    Shows hp (sub0 (some ⟨b,0,none⟩) c k 4) (l.length-k) 4 ((l.drop k).flatMap v4):=by
  by_cases h:k=l.length
  · left
    subst h
    simp
  · right
    refine ⟨b,k*4,sub0_at (by omega),?_⟩
    rw [HP.cellN_of hb,cellsN_of (by rw [flat_len v4_len,Nat.sub_mul]; omega),flat_drop v4_len,List.take_of_length_le (by rw [flat_len v4_len]; simp)]
theorem C171 {b c n i sp:Nat} {l:List Q} {hp:HP} {K:Value→HP→Prop} (hb:hp b=.cells 54 (l.flatMap v4) sp) (hl:l.length=n) (hi:i<n) (hc:n≤c) (hn:n≤1000000)
    (h:∀ zs:List Value,zs.length=4→zs.all one=true→K (.slice (some ⟨b,0,none⟩) (n-1) c) (hp.set b (.cells 54 ((l.eraseIdx i).flatMap v4++zs) sp))) :
    CF Tryz.prog 171 [.slice (some ⟨b,0,none⟩) n c,.int .i64 i,.int .i64 ((i:Int)+1)] hp K:=by
  refine F171_ok _ n c i ((i:Int)+1) hp K ?_
  unfold F171
  refine ⟨by omega,by omega,by omega,by omega,?_⟩
  have e:((i:Int)==(i:Int)+1)=false:=by
    rw [beq_eq_false_iff_ne]; omega
  rw [e,ite2_false]
  refine ⟨by omega,by omega,by omega,by omega,hc,?_⟩
  have e1:Int.toNat ((i:Int)+1)=i+1:=by omega
  rw [Int.toNat_natCast,e1]
  subst hl
  refine opS_append_in (e:=54) (size:=4) (bytes:=4) (by kernel_rfl) hb (shows_drop hb (by omega) hc) (all_flat v4_one _) (by omega) (by rw [flat_len v4_len]; omega) ?_
  rw [slcV_slice]
  have hn1:i+(l.length-(i+1))=l.length-1:=by omega
  have hcs:splice (l.flatMap v4) (0+i*4) ((l.drop (i+1)).flatMap v4)=(l.eraseIdx i).flatMap v4++(l.drop (l.length-1)).flatMap v4:=by
    have hyl:((l.drop (i+1)).flatMap v4).length=(l.length-(i+1))*4:=by rw [flat_len v4_len]; simp
    rw [splice_eq _ _ _ (by rw [hyl,flat_len v4_len]; omega),hyl,Nat.zero_add,flat_take v4_len,show i*4+(l.length-(i+1))*4=(l.length-1)*4 by omega,flat_drop v4_len,
      List.eraseIdx_eq_take_drop_succ,List.flatMap_append]
  rw [hcs,hn1]
  refine ⟨by omega,by omega,by omega,?_⟩
  rw [Int.toNat_natCast,Int.toNat_natCast,sub0_at (by omega)]
  have hel:((l.eraseIdx i).flatMap v4).length=(l.length-1)*4:=by rw [flat_len v4_len,List.length_eraseIdx_of_lt hi]
  have hll:((l.drop (l.length-1)).flatMap v4).length=4:=by rw [flat_len v4_len]; simp; omega
  refine opS_clear_in (e:=54) (size:=4) (bytes:=4) (by kernel_rfl) (by kernel_rfl) (HP.set_eq ..) (by rw [List.length_append,hel,hll]; omega) ?_
  intro zs hzs hz1
  have hz4:zs.length=4:=by rw [hzs]; omega
  rw [splice_eq _ _ _ (by rw [List.length_append,hel,hll,hz4]; omega),HP.set_set,← hel,List.take_left,List.drop_append,List.drop_eq_nil_of_le (by omega),List.nil_append,
    List.drop_eq_nil_of_le (by rw [hll,hz4]; omega),List.append_nil]
  exact h zs hz4 hz1
end Go.Proofs
set_option linter.unusedVariables false
set_option maxRecDepth 20000
namespace Go.Proofs
open Go Go.HL
theorem C170 {b b2 c n sp sp2:Nat} {l:List Q} {zs:List Value} {q:Q} {hp:HP} {K:Value→HP→Prop} (hb:hp b=.cells 54 (l.flatMap v4++zs) sp) (hzs:zs.length=4) (hz1:zs.all one=true) (hl:l.length=n) (h0:0<n) (hc:n+1≤c) (hn:n≤1000000)
    (hb2:hp b2=.cells 54 (v4 q) sp2) (hne:b2≠b)
    (h:K (.slice (some ⟨b,0,none⟩) (n+1) c) (hp.set b (.cells 54 ((q::l).flatMap v4) sp))) :
    CF Tryz.prog 170 [.slice (some ⟨b,0,none⟩) n c,.int .i64 0,.slice (some ⟨b2,0,none⟩) 1 1] hp K:=by
  refine F170_ok _ n c 0 _ 1 1 hp K ?_
  unfold F170
  refine ⟨by omega,by omega,by omega,?_⟩
  have e0:(((1:Nat):Int)==0)=false:=by decide
  have e1:((0:Int)==(n:Int))=false:=by rw [beq_eq_false_iff_ne]; omega
  rw [e0,ite2_false,e1,ite2_false]
  rw [w64 (n:=((n:Nat):Int)+((1:Nat):Int)) (by omega) (by omega),w64 (n:=(0:Int)+((1:Nat):Int)) (by omega) (by omega)]
  rw [decide_eq_false (by omega:¬ ((n:Nat):Int)+((1:Nat):Int) > (c:Int)),ite2_false]
  have t1:Int.toNat (((n:Nat):Int)+((1:Nat):Int))=n+1:=by omega
  have t0:Int.toNat ((0:Int)+((1:Nat):Int))=1:=by omega
  have tz:Int.toNat (0:Int)=0:=rfl
  simp only [t1,t0,tz]
  refine ⟨by omega,by omega,by omega,by omega,by omega,?_⟩
  rw [sub0_at (by omega),sub0_at (by omega)]
  refine C180 hb2 hb hne (fun hh=>by have:=congrArg List.length hh; rw [List.length_append,hzs] at this; simp at this) ?_
  rw [boolV_bool]
  simp only [Bool.not_false,ite2_true]
  refine ⟨by omega,by omega,by omega,by omega,by omega,by omega,?_⟩
  have hfl:(l.flatMap v4).length=n*4:=by rw [flat_len v4_len,hl]
  have hsh:Shows hp (some ⟨b,0*4,none⟩) (n+1-0) 4 (l.flatMap v4++zs):=by
    right
    refine ⟨b,0*4,rfl,?_⟩
    rw [HP.cellN_of hb,Nat.zero_mul]
    exact cellsN_all (by rw [List.length_append,hfl,hzs]; omega)
  refine opS_copy_in (e:=54) (size:=4) (bytes:=4) (by kernel_rfl) hb hsh (by rw [List.all_append,all_flat v4_one,hz1]; rfl) (by rw [List.length_append,hfl,hzs]; omega) ?_
  rw [intV_int]
  refine ⟨by omega,by omega,by omega,?_⟩
  have hmin:Nat.min (n+1-0) (n+1-1)=n:=by
    show min _ _=_
    omega
  rw [hmin]
  have hcs:splice (l.flatMap v4++zs) (1*4) ((l.flatMap v4++zs).take (n*4))=(l.flatMap v4++zs).take 4++l.flatMap v4:=by
    have ht:(l.flatMap v4++zs).take (n*4)=l.flatMap v4:=by rw [← hfl]; exact List.take_left
    rw [ht,splice_eq _ _ _ (by rw [List.length_append,hfl,hzs]; omega),List.drop_eq_nil_of_le (by rw [List.length_append,hfl,hzs]; omega),List.append_nil]
  rw [hcs]
  have hs2:Shows (hp.set b (.cells 54 ((l.flatMap v4++zs).take 4++l.flatMap v4) sp)) (some ⟨b2,0,none⟩) 1 4 (v4 q):=by
    right
    refine ⟨b2,0,rfl,?_⟩
    rw [HP.cellN_of (by rw [HP.set_ne _ _ hne]; exact hb2)]
    rfl
  have hl4:((l.flatMap v4++zs).take 4).length=4:=by rw [List.length_take,List.length_append,hfl,hzs]; omega
  refine opS_copy_in (e:=54) (size:=4) (bytes:=4) (by kernel_rfl) (HP.set_eq ..) hs2 (v4_one q) (by rw [List.length_append,hl4,hfl]; omega) ?_
  rw [intV_int]
  have hmin2:Nat.min 1 (n+1-0)=1:=by
    show min _ _=_
    omega
  rw [hmin2,HP.set_set,Nat.zero_mul,splice_eq _ _ _ (by rw [List.length_append,hl4,hfl]; show 0+4≤_; omega)]
  have:List.take 0 ((l.flatMap v4++zs).take 4++l.flatMap v4)++(v4 q).take (1*4)++List.drop (0+((v4 q).take (1*4)).length) ((l.flatMap v4++zs).take 4++l.flatMap v4)=(q::l).flatMap v4:=by
    have hd:List.drop 4 ((l.flatMap v4++zs).take 4++l.flatMap v4)=l.flatMap v4:=by
      have:=List.drop_left (l₁:=(l.flatMap v4++zs).take 4) (l₂:=l.flatMap v4)
      rwa [hl4] at this
    show v4 q++List.drop 4 ((l.flatMap v4++zs).take 4++l.flatMap v4)=_
    rw [hd,List.flatMap_cons]
  rw [this]
  exact h
end Go.Proofs
set_option linter.unusedVariables false
namespace Go.Proofs
open Go Go.HL
def t4k (t:Q × Int):Value:=.agg ⟨t4 t⟩
def vb (b:Bool):Value:=.bool b
theorem enc75:EncK Tryz.prog 56 t4k where
  inj a b h:=by simp only [t4k,Value.agg.injEq,Array.mk.injEq] at h; exact t4_inj.1 h
  law:=(KeyLaw.wide (m:=3) (D:=3) (by kernel_rfl)).weaken fun v ⟨k,hk⟩=>⟨t4 k,hk,t4_shaped k,rfl⟩
theorem u158:Tryz.prog.underlying 170=some (.map 56 4):=by kernel_rfl
theorem zero_of {P:Program} {t:TypeId} {z:Value} (h:(P.info? t).bind (·.zero)=some z) (w:World):(zeroValue t).run P w=.ok z w:=by
  cases hi:P.info? t with
  | none=>rw [hi] at h; cases h
  | some i=>rw [hi] at h; simp only [Option.bind_some] at h; simp [zeroValue,typeInfo,hi,h]
theorem z4:∀ w:World,(zeroValue 4).run Tryz.prog w=.ok (.bool false) w:=zero_of (by kernel_rfl)
/-- A pool: its addresses, its range, what is not free. -/
def PoolR (hp:HP) (p:Nat) (l:List Q) (low high:Int) (held:List ((Q × Int) × Bool)) (m:Nat):Prop:=
  ∃ a c,hp p=.cells 172 [.slice a l.length c,.int .i64 low,.int .i64 high,.map (some m)] 0∧Row hp a l.length c 54 4 (l.flatMap v4)∧MapE t4k vb held (hp m)
theorem PoolR.sub {hp hp':HP} {p l low high held m} (h:PoolR hp p l low high held m) (hs:HSub hp hp'):PoolR hp' p l low high held m:=by
  obtain ⟨a,c,h1,h2,h3⟩:=h
  refine ⟨a,c,hs.cells h1,h2.sub hs,?_⟩
  obtain ⟨es,clock,he,hr⟩:=h3
  exact ⟨es,clock,hs.obj he,hr⟩
theorem PoolR.upd {hp:HP} {p l low high held m held'} (h:PoolR hp p l low high held m) {e:Ent} (he:MapE t4k vb held' e):PoolR (hp.set m e) p l low high held' m:=by
  obtain ⟨a,c,h1,h2,h3⟩:=h
  have hm:∃ o,hp m=.obj o:=by obtain ⟨es,clock,he,_⟩:=h3; exact ⟨_,he⟩
  obtain ⟨o,hm⟩:=hm
  refine ⟨a,c,?_,?_,by rw [HP.set_eq]; exact he⟩
  · rw [HP.set_ne _ _ (fun e=>by rw [e,hm] at h1; cases h1)]; exact h1
  · rcases h2 with h2 | ⟨b,h21,h22,h23,h24⟩
    · exact .inl h2
    · refine .inr ⟨b,h21,h22,h23,?_⟩
      rw [HP.set_ne _ _ (fun e=>by rw [e,hm] at h24; cases h24)]; exact h24
/-- Of which addresses and ports a pool is made. -/
def newOk (l:List Q) (low high:Int):Bool:=
  decide (1≤l.length)&&decide (l.length≤4)&&isPort low&&isPort high&&decide (low≤high)&&decide (high-low<1024)&&decide l.Nodup
theorem nodup_take {l:List Q} {i:Nat} (hi:i<l.length) (h:(l.take i).Nodup) (hn:l[i] ∉ l.take i):(l.take (i+1)).Nodup:=by
  rw [List.take_succ_eq_append_getElem hi]
  refine List.nodup_append.2 ⟨h,by simp,?_⟩
  intro x hx y hy
  simp only [List.mem_singleton] at hy
  subst hy
  exact fun e=>hn (e▸hx)
theorem C47 {a:Option Addr} {n c:Nat} {l:List Q} {low high:Int} {hp:HP} {K:Value→HP→Prop} (hs:Shows hp a n 4 (l.flatMap v4)) (hl:l.length=n) (hnc:n≤c) (hsm:-9223372036854775808≤low∧low≤9223372036854775807) (hsm2:-9223372036854775808≤high∧high≤9223372036854775807)
    (hbad:newOk l low high=false→K (.tuple ⟨[.pointer none,.int .i64 1]⟩) hp)
    (hok:newOk l low high=true→∀ p m hp',HSub hp hp'→hp p=.none→hp m=.none→PoolR hp' p l low high [] m →
      (∀ s c,hp' p=.cells 172 [.slice s l.length c,.int .i64 low,.int .i64 high,.map (some m)] 0→∀ b,s=some ⟨b,0,none⟩→hp b=.none)→K (.tuple ⟨[ptr p 0,.int .i64 0]⟩) hp') :
    CF Tryz.prog 47 [.slice a n c,.int .i64 low,.int .i64 high] hp K:=by
  refine F47_ok a n c low high hp K ?_
  unfold F47
  have bad:newOk l low high=false→F47_j1 a n c low high true hp K:=fun h=>by
    unfold F47_j1; exact hbad h
  by_cases h1:n<1
  · have e:decide (((n:Nat):Int)<1)=true:=decide_eq_true (by omega)
    rw [e]
    exact bad (by unfold newOk; rw [hl]; simp; omega)
  have e:decide (((n:Nat):Int)<1)=false:=decide_eq_false (by omega)
  rw [e,ite2_false]
  by_cases h4:n > 4
  · have e:decide (((n:Nat):Int) > 4)=true:=decide_eq_true (by omega)
    rw [e]
    exact bad (by unfold newOk; rw [hl]; simp; omega)
  have e:decide (((n:Nat):Int) > 4)=false:=decide_eq_false (by omega)
  rw [e,ite2_false]
  refine C91 ?_
  rw [boolV_bool]
  cases hlo:isPort low
  · exact bad (by unfold newOk; rw [hlo]; simp)
  refine C91 ?_
  rw [boolV_bool]
  cases hhi:isPort high
  · exact bad (by unfold newOk; rw [hhi]; simp)
  simp only [Bool.not_true,ite2_false]
  by_cases hlh:high<low
  · have e:decide ((high:Int)<low)=true:=by simpa using hlh
    rw [e]
    exact bad (by unfold newOk; simp; omega)
  have e:decide ((high:Int)<low)=false:=by simpa using hlh
  rw [e,ite2_false]
  have hp1:=hlo; have hp2:=hhi
  unfold isPort at hp1 hp2
  simp only [decide_eq_true_eq] at hp1 hp2
  rw [w64 (by omega) (by omega)]
  by_cases hw:high-low≥1024
  · have e:decide ((high-low:Int)≥1024)=true:=by simpa using hw
    rw [e]
    exact bad (by unfold newOk; simp; omega)
  have e:decide ((high-low:Int)≥1024)=false:=by simpa using hw
  rw [e]
  unfold F47_j1
  rw [ite2_false]
  unfold F47_j3
  have hrest:(decide (1≤l.length)&&decide (l.length≤4)&&isPort low&&isPort high&&decide (low≤high)&&decide (high-low<1024))=true:=by
    rw [hl,hlo,hhi]; simp; omega
  refine LoopP.by (J:=fun k (x:Int) hp'=>hp'=hp∧∃ i:Nat,x=i∧i+k=n∧(l.take i).Nodup) ?_ (n:=n) ⟨rfl,0,rfl,by omega,by simp⟩
  rintro I k x hp' ⟨rfl,i,rfl,hik,hnd⟩ hI
  unfold F47_l4
  by_cases hi:i<n
  · have hlt:decide ((i:Int)<(n:Int))=true:=by simpa using hi
    obtain ⟨b,o,rfl,hc⟩:=hs.get v4_len hl hi
    have hz:splice [(Value.int .u8 0),(Value.int .u8 0),(Value.int .u8 0),(Value.int .u8 0)] 0 (v4 (l[i]'(hl▸hi)))=v4 (l[i]'(hl▸hi)):=splice_all rfl
    simp only [hlt,ite2_true,ldL_some,ptrN_some,Int.toNat_natCast,hc,v4_len,v4_one,if_true,hz,cellsN_all (v4_len _)]
    refine ⟨by omega,by omega,?_⟩
    rw [if_pos (by decide)]
    refine ⟨by omega,by omega,?_⟩
    refine C92 (hs.take v4_len hl (by omega)) (by simp; omega) (by omega) ?_
    rw [boolV_bool]
    by_cases hm:l[i]'(hl▸hi)∈l.take i
    · simp only [hm,decide_true,ite2_true]
      refine hbad ?_
      unfold newOk
      have:¬ l.Nodup:=fun hnd'=>by
        rw [← List.take_append_drop i l] at hnd'
        have:=(List.nodup_append.1 hnd').2.2 _ hm (l[i]'(hl▸hi)) (by rw [List.drop_eq_getElem_cons (hl▸hi)]; exact List.mem_cons_self ..)
        exact this rfl
      simp [this]
    · simp only [hm,decide_false,ite2_false]
      rw [w64 (by omega) (by omega)]
      exact hI (k-1) _ _ (by omega) ⟨rfl,i+1,by omega,by omega,nodup_take (hl▸hi) hnd hm⟩
  · have hlt:decide ((i:Int)<(n:Int))=false:=by simpa using hi
    have hin:i=l.length:=by omega
    subst hin
    rw [List.take_length] at hnd
    rw [hlt,ite2_false]
    have hok':=hok (by unfold newOk; rw [hrest]; simpa using hnd)
    unfold F47_j2
    refine C93 hs hl (by omega) ?_
    intro s2 c2 hp2 hsub hrow hfr
    simp only [slcV_slice]
    intro m hm p hpn
    have hne:p≠m:=fun e=>by rw [e,HP.set_eq] at hpn; cases hpn
    rw [HP.set_ne _ _ hne] at hpn
    have s1:=HSub.set_fresh hp2 (.obj (.map #[] 0)) hm
    have s2':=HSub.set_fresh (hp2.set m (.obj (.map #[] 0))) (b:=p) (.cells 172 [Value.slice s2 n c2,.int .i64 low,.int .i64 high,.map (some m)] 0) (by rw [HP.set_ne _ _ hne]; exact hpn)
    have sub:=(hsub.trans s1).trans s2'
    refine hok' p m _ sub (hsub.none hpn) (hsub.none hm) ⟨s2,c2,?_,?_,?_⟩ ?_
    · rw [HP.set_eq,hl]
    · rw [hl]; exact hrow.sub (s1.trans s2')
    · rw [HP.set_ne _ _ hne.symm,HP.set_eq]; exact MapE.empty _ _
    · intro s c e b hb
      rw [HP.set_eq] at e
      simp only [Ent.cells.injEq,List.cons.injEq,Value.slice.injEq] at e
      exact hfr b (e.2.1.1.1.trans hb)
/-- The addresses, one first. -/
def orderQ (first:Q) (l:List Q):List Q:=if idx first l > 0 then first::l.erase first else l
theorem C154 {p m:Nat} {l:List Q} {low high:Int} {held} {first:Q} {hp:HP} {K:Value→HP→Prop} (hr:PoolR hp p l low high held m) (hlen:l.length≤4) (ho:idx first l≤0)
    (h:∀ s2 c2 hp',HSub hp hp'→Row hp' s2 l.length c2 54 4 ((orderQ first l).flatMap v4)→K (.slice s2 l.length c2) hp') :
    CF Tryz.prog 154 [ptr p 0,.agg ⟨v4 first⟩] hp K:=by
  refine F154_ok _ (v4 first) hp K ?_
  unfold F154
  obtain ⟨a,c,h1,h2,h3⟩:=hr
  rw [ptrN_some,HP.cell_of h1]
  simp only [Nat.zero_add,List.getElem?_cons_zero,ldV_some,slcV_slice]
  refine C93 h2.shows rfl (by omega) ?_
  intro s2 c2 hp2 hsub hrow hfr
  simp only [slcV_slice,cellsN_all (v4_len first),ldL_some]
  refine C132 hrow.shows rfl (by omega) ?_
  simp only [intV_int]
  have:decide (idx first l > 0)=false:=by simpa using ho
  rw [this,ite2_false]
  unfold F154_j1
  have h':=h s2 c2 hp2 hsub
  unfold orderQ at h'
  rw [if_neg (by omega)] at h'
  exact h' hrow
end Go.Proofs
set_option linter.unusedVariables false
set_option maxRecDepth 20000
namespace Go.Proofs
open Go Go.HL
theorem C99w {p m:Nat} {l:List Q} {low high:Int} {held} {first:Q} {hp:HP} {K:Value→HP→Prop} (hr:PoolR hp p l low high held m) (hlen:l.length≤4)
    (h:∀ s2 c2 hp',HSub hp hp'→Row hp' s2 l.length c2 54 4 ((orderQ first l).flatMap v4)→K (.slice s2 l.length c2) hp') :
    CF Tryz.prog 154 [ptr p 0,.agg ⟨v4 first⟩] hp K:=by
  by_cases ho:idx first l≤0
  · exact C154 hr hlen ho h
  refine F154_ok _ (v4 first) hp K ?_
  unfold F154
  obtain ⟨a,c,h1,h2,h3⟩:=hr
  rw [ptrN_some,HP.cell_of h1]
  simp only [Nat.zero_add,List.getElem?_cons_zero,ldV_some,slcV_slice]
  refine C93 h2.shows rfl (by omega) ?_
  intro s2 c2 hp2 hsub hrow hfr
  simp only [slcV_slice,cellsN_all (v4_len first),ldL_some]
  refine C132 hrow.shows rfl (by omega) ?_
  simp only [intV_int]
  have hgt:decide (idx first l > 0)=true:=decide_eq_true (by omega)
  rw [hgt,ite2_true]
  have hm:first∈l:=by
    refine Classical.byContradiction fun hn=>ho ?_
    unfold idx; rw [if_neg hn]; omega
  have hidx:idx first l=(l.idxOf first:Nat):=by unfold idx; rw [if_pos hm]
  have hlt:l.idxOf first<l.length:=List.idxOf_lt_length_of_mem hm
  have hpos:0<l.idxOf first:=by omega
  have her:l.eraseIdx (l.idxOf first)=l.erase first:=(List.erase_eq_eraseIdx_of_idxOf rfl).symm
  have hoq:orderQ first l=first::l.erase first:=by unfold orderQ; rw [if_pos (by omega)]
  rcases hrow with ⟨_,hl0,_,_⟩ | ⟨b,rfl,hnc,hxl,hb⟩
  · omega
  have hel:(l.eraseIdx (l.idxOf first)).length=l.length-1:=List.length_eraseIdx_of_lt hlt
  rw [hidx,w64 (by omega) (by omega)]
  have hbn:hp b=.none:=hfr b rfl
  have up:∀ {h3:HP},HSub hp h3→∀ e,HSub hp (h3.set b e):=fun {h3} hs e x=>by
    by_cases hx:x=b
    · subst hx; exact .inl hbn
    · rw [HP.set_ne _ _ hx]; exact hs x
  have hlen1:l.length-1+1=l.length:=by omega
  have hrowF:∀ h3:HP,h3 b=.cells 54 ((first::l.eraseIdx (l.idxOf first)).flatMap v4) ((c2-l.length)*4)→Row h3 (some ⟨b,0,none⟩) l.length c2 54 4 ((orderQ first l).flatMap v4):=by
    intro h3 hb3
    rw [hoq,← her]
    exact .inr ⟨b,rfl,hnc,by rw [flat_len v4_len,List.length_cons,hel,hlen1],hb3⟩
  refine ⟨?_,?_⟩
  · refine C171 hb rfl hlt hnc (by omega) ?_
    intro zs hz hz1
    rw [slcV_slice]
    refine ifI rfl ?_
    intro b2 hb2
    have hne:b2≠b:=fun e=>by rw [e,HP.set_eq] at hb2; cases hb2
    have hb2':hp b2=.none:=(up hsub _).none hb2
    refine C170 (sp:=(c2-l.length)*4) (by rw [HP.set_ne _ _ hne.symm,HP.set_eq]) hz hz1 hel (by omega) (by omega) (by omega) (HP.set_eq ..) hne ?_
    rw [slcV_slice,hlen1]
    unfold F154_j1
    refine h _ _ _ (up ((up hsub _).trans (HSub.set_fresh _ _ hb2)) _) (hrowF _ (HP.set_eq ..))
  · refine ifI rfl ?_
    intro b2 hb2
    have hne:b2≠b:=fun e=>by rw [e,hb] at hb2; cases hb2
    refine C171 (by rw [HP.set_ne _ _ hne.symm]; exact hb) rfl hlt hnc (by omega) ?_
    intro zs hz hz1
    rw [slcV_slice]
    refine C170 (sp:=(c2-l.length)*4) (HP.set_eq ..) hz hz1 hel (by omega) (by omega) (by omega) (by rw [HP.set_ne _ _ hne,HP.set_eq]; rfl) hne ?_
    rw [slcV_slice,hlen1]
    unfold F154_j1
    refine h _ _ _ (up (up (hsub.trans (HSub.set_fresh _ _ hb2)) _) _) (hrowF _ (HP.set_eq ..))
end Go.Proofs
set_option linter.unusedVariables false
namespace Go.Proofs
open Go Go.HL
def ports:Nat→Int→List Int
  | 0,_=>[]
  | k+1,n=>n::ports k (n+1)
/-- Is a port of an address free, and of the class? -/
def freeAt (held:List ((Q × Int) × Bool)) (x:Int) (plain:Bool) (a:Q) (n:Int):Option (Q × Int):=
  if (getL (a,n) held).isNone&&(plain||cls x n) then some (a,n) else none
def firstIn (low high:Int) (held:List ((Q × Int) × Bool)) (x:Int) (plain:Bool) (a:Q):Option (Q × Int):=
  (ports (high+1-low).toNat low).findSome? (freeAt held x plain a)
def takeQ (l:List Q) (low high:Int) (held:List ((Q × Int) × Bool)) (first:Q) (x:Int) (plain:Bool):Option (Q × Int):=
  (orderQ first l).findSome? (firstIn low high held x plain)
def q0:Q:=(0,0,0,0)
theorem orderQ_len {first:Q} {l:List Q}:(orderQ first l).length=l.length:=by
  unfold orderQ
  split
  · rename_i h
    have hm:first∈l:=by
      unfold idx at h
      split at h
      · assumption
      · omega
    simp only [List.length_cons,List.length_erase_of_mem hm]
    have:0<l.length:=List.length_pos_of_mem hm
    omega
  · rfl
theorem C130 {p m:Nat} {l:List Q} {low high:Int} {held} {first:Q} {x:Int} {plain:Bool} {hp:HP} {K:Value→HP→Prop} (hr:PoolR hp p l low high held m) (hlen:l.length≤4)
    (hb:0≤low∧low≤65535∧0≤high∧high≤65535)
    (harg:isPort x=false→K (.tuple ⟨[.agg ⟨t4 (q0,0)⟩,.int .i64 1]⟩) hp)
    (hfull:isPort x=true→takeQ l low high held first x plain=none→K (.tuple ⟨[.agg ⟨t4 (q0,0)⟩,.int .i64 6]⟩) hp)
    (hgot:isPort x=true→∀ t,takeQ l low high held first x plain=some t→∀ e,MapE t4k vb (putL t false held) e→K (.tuple ⟨[.agg ⟨t4 t⟩,.int .i64 0]⟩) (hp.set m e)) :
    CF Tryz.prog 130 [ptr p 0,.agg ⟨v4 first⟩,.int .i64 x,.bool plain] hp K:=by
  refine CF.drop (F130_ok _ (v4 first) x plain hp _ ?_)
  have hr0:=hr
  obtain ⟨a,c,h1,h2,h3⟩:=hr
  unfold F130
  have hz5:[Value.int .u8 0,.int .u8 0,.int .u8 0,.int .u8 0,.int .i64 0]=t4 (q0,0):=rfl
  have hz4:[Value.int .u8 0,.int .u8 0,.int .u8 0,.int .u8 0]=v4 q0:=rfl
  have h1c:∀ o,hp.cell p o=[Value.slice a l.length c,.int .i64 low,.int .i64 high,.map (some m)][o]?:=fun o=>HP.cell_of h1
  simp only [Option.isNone_some,ite2_false,ptrN_some,h1c,Nat.zero_add,List.getElem?_cons_succ,List.getElem?_cons_zero,ldV_some,mapV_map]
  unfold F130_j1
  rw [ite2_false]
  refine C91 ?_
  rw [boolV_bool]
  cases hx:isPort x
  · simp only [Bool.not_false,ite2_true,hz5,t4_len,t4_one,if_true,splice_all,cellsN_all,ldL_some]
    refine ifI (by omega) ?_
    exact ⟨hp,HSub.refl _,harg hx⟩
  simp only [Bool.not_true,ite2_false,cellsN_all (v4_len first),ldL_some]
  refine C99w hr0 hlen ?_
  intro s2 c2 hp2 hsub hrow
  rw [slcV_slice]
  unfold F130_j3
  have hr2:=hr0.sub hsub
  have h2c:∀ o,hp2.cell p o=[Value.slice a l.length c,.int .i64 low,.int .i64 high,.map (some m)][o]?:=fun o=>HP.cell_of (hsub.cells h1)
  have h3':MapE t4k vb held (hp2 m):=by
    obtain ⟨es,clock,he,hrr⟩:=h3
    exact ⟨es,clock,hsub.obj he,hrr⟩
  have htq:takeQ l low high held first x plain=(orderQ first l).findSome? (firstIn low high held x plain):=rfl
  have hol:=orderQ_len (first:=first) (l:=l)
  generalize hO:orderQ first l=O at *
  refine LoopP.by (J:=fun k (s:Int × List Value) hp'=>hp'=hp2∧s.2=t4 (q0,0)∧∃ i:Nat,s.1=i∧i+k=l.length∧takeQ l low high held first x plain=(O.drop i).findSome? (firstIn low high held x plain)) ?_ (n:=l.length)
    ⟨rfl,hz5,0,rfl,by omega,htq⟩
  rintro I k ⟨x1,k8⟩ hp' ⟨rfl,hk8,i,hxi,hik,hO2⟩ hI
  simp only at hk8 hxi
  subst hk8; subst hxi
  unfold F130_l4
  by_cases hi:i<l.length
  · have hlt:decide ((i:Int)<(l.length:Int))=true:=decide_eq_true (by omega)
    have hiO:i<O.length:=by omega
    obtain ⟨b,o,rfl,hc⟩:=hrow.shows.get v4_len hol hi
    simp only [hlt,ite2_true,ptrN_some,Int.toNat_natCast,hc,ldL_some,v4_len,v4_one,if_true,hz4]
    refine ⟨by omega,by omega,?_⟩
    refine ifI (by omega) ?_
    simp only [h2c,Nat.zero_add,List.getElem?_cons_succ,List.getElem?_cons_zero,ldV_some,intV_int,splice_all (show (v4 O[i]).length=(v4 q0).length from rfl)]
    unfold F130_j6
    have hdrop:O.drop i=O[i]::O.drop (i+1):=List.drop_eq_getElem_cons hiO
    rw [hdrop,List.findSome?_cons] at hO2
    refine LoopP.by (J:=fun k' (s:Int × List Value) hp''=>hp''=hp'∧s.2=t4 (q0,0)∧k'=(high+1-s.1).toNat∧low≤s.1 ∧
      firstIn low high held x plain O[i]=(ports k' s.1).findSome? (freeAt held x plain O[i])) ?_ (n:=(high+1-low).toNat) ⟨rfl,rfl,rfl,Int.le_refl _,rfl⟩
    rintro I' k' ⟨y,k8⟩ hp'' ⟨rfl,hk8,hk',hly,hfi⟩ hI'
    simp only at hk8 hk' hly hfi
    subst hk8
    unfold F130_l7
    simp only [ptrN_some,h2c,Nat.zero_add,List.getElem?_cons_succ,List.getElem?_cons_zero,ldV_some,intV_int]
    by_cases hyh:y≤high
    · have hle:decide (y≤high)=true:=decide_eq_true hyh
      have hset:(splice (t4 (q0,0)) 0 (v4 O[i])).set 4 (.int .i64 y)=t4 (O[i],y):=rfl
      simp only [hle,ite2_true,cellsN_all (v4_len _),ldL_some,v4_len,if_true,hz5,hset,t4_len,t4_one]
      refine ifI (by omega) ?_
      have hsp:splice (t4 (q0,0)) 0 (t4 (O[i],y))=t4 (O[i],y):=splice_all rfl
      simp only [mapV_map,hsp,cellsN_all (t4_len _),ldL_some]
      refine rdS_lookup u158 enc75 z4 h3' (O[i],y) ?_
      simp only [if_true,tup2V_mk]
      have hv:boolV (((getL (O[i],y) held).map vb).getD (.bool false))=fun c=>c ((getL (O[i],y) held).getD false):=by
        funext c; cases getL (O[i],y) held <;> rfl
      rw [hv]
      simp only [boolV_bool]
      obtain ⟨kk,rfl⟩:∃ kk,k'=kk+1:=⟨k' - 1,by omega⟩
      rw [ports,List.findSome?_cons] at hfi
      have next:freeAt held x plain O[i] y=none→F130_j8 (some ⟨p,0,none⟩) x plain y (some ⟨b,o,none⟩) l.length c2 l.length i false (t4 (q0,0)) (v4 O[i]) (t4 (O[i],y)) hp'' I I' (fun v hp'=>∃ hp'',HSub hp'' hp'∧K v hp''):=by
        intro hf
        unfold F130_j8
        rw [ite2_false,w64 (by omega) (by omega)]
        rw [hf] at hfi
        exact hI' kk _ _ (by omega) ⟨rfl,rfl,by simp only; omega,by simp only; omega,hfi⟩
      have found:freeAt held x plain O[i] y=some (O[i],y)→F130_j8 (some ⟨p,0,none⟩) x plain y (some ⟨b,o,none⟩) l.length c2 l.length i true (t4 (q0,0)) (v4 O[i]) (t4 (O[i],y)) hp'' I I' (fun v hp'=>∃ hp'',HSub hp'' hp'∧K v hp''):=by
        intro hf
        unfold F130_j8
        rw [hf] at hfi
        rw [hfi] at hO2
        simp only [ite2_true,ptrN_some,h2c,Nat.zero_add,List.getElem?_cons_succ,List.getElem?_cons_zero,ldV_some,mapV_map,cellsN_all (t4_len _),ldL_some,t4_len,t4_one,if_true,hsp]
        refine opS_mapUpdate u158 enc75 h3' (O[i],y) false (ev:=vb) ?_
        intro e he
        refine ifI (by omega) ?_
        exact ⟨hp.set m e,hsub.set m e,hgot hx _ hO2 e he⟩
      cases hg:(getL (O[i],y) held).isSome
      · have hg':(getL (O[i],y) held).isNone=true:=by cases h:getL (O[i],y) held <;> simp_all
        simp only [Bool.not_false,ite2_true]
        cases plain
        · rw [ite2_false]
          refine C155 ?_
          rw [boolV_bool]
          cases hcl:cls x y
          · exact next (by simp [freeAt,hcl])
          · exact found (by simp [freeAt,hg',hcl])
        · rw [ite2_true]
          exact found (by simp [freeAt,hg'])
      · have hg':(getL (O[i],y) held).isNone=false:=by cases h:getL (O[i],y) held <;> simp_all
        simp only [Bool.not_true,ite2_false]
        exact next (by simp [freeAt,hg'])
    · have hle:decide (y≤high)=false:=decide_eq_false hyh
      rw [hle,ite2_false]
      unfold F130_j5
      have:k'=0:=by omega
      subst this
      rw [ports,List.findSome?_nil] at hfi
      rw [hfi] at hO2
      rw [w64 (by omega) (by omega)]
      exact hI (k-1) _ _ (by omega) ⟨rfl,rfl,i+1,by simp,by omega,hO2⟩
  · have hlt:decide ((i:Int)<(l.length:Int))=false:=decide_eq_false (by omega)
    rw [hlt,ite2_false]
    unfold F130_j2
    rw [List.drop_eq_nil_of_le (by omega),List.findSome?_nil] at hO2
    simp only [hz5,t4_len,t4_one,if_true,splice_all,cellsN_all,ldL_some]
    refine ifI (by omega) ?_
    exact ⟨hp,hsub,hfull hx hO2⟩
end Go.Proofs
set_option linter.unusedVariables false
set_option maxRecDepth 20000
namespace Go.Proofs
open Go Go.HL
def F112 (x0:OA) (x1:List Value) (hp:HP) (K:Kh):Prop:=
  (ldL (cellsN x1 0 5) fun l_1=>(CF Tryz.prog 138 [(Value.pointer x0),(Value.agg ⟨l_1⟩)] hp fun u_2 h_3=>(intV u_2 .i64 fun i_4=>(ite2 ((i_4:Int) != 0) (K (Value.int .i64 i_4) h_3) (ptrN x0 fun b_5 o_6=>(ldV (HP.cell h_3 b_5 (o_6+3)) fun v_7=>(mapV v_7 fun m_8=>(ldL (cellsN x1 0 5) fun l_9=>(rdS Tryz.prog (Instr.lookup 170 (Value.map m_8) (Value.agg ⟨l_9⟩) true) h_3 fun u_10=>(tup2V u_10 fun u_11 u_12=>(boolV u_11 fun q_13=>(boolV u_12 fun q_14=>(ite2 q_13 (K (Value.int .i64 11) h_3) (ite2 (!q_14) (K (Value.int .i64 4) h_3) (ptrN x0 fun b_15 o_16=>(ldV (HP.cell h_3 b_15 (o_16+3)) fun v_17=>(mapV v_17 fun m_18=>(ldL (cellsN x1 0 5) fun l_19=>(opS Tryz.prog (Builtin.delete_ #[170,56] 0 ⟨[(Value.map m_18),(Value.agg ⟨l_19⟩)]⟩) h_3 fun u_20 h_21=>(K (Value.int .i64 0) h_21))))))))))))))))))))
theorem F112_ok (x0:OA) (x1:List Value) (hp:HP) (K:Kh) (h:F112 x0 x1 hp K):CF Tryz.prog 112 [(Value.pointer x0),(Value.agg ⟨x1⟩)] hp K:=
  have L:∀ {Q} n,Snd Tryz.prog 33 (cAt Tryz.f112 (pth n)) Q (CW Tryz.prog 33 [3] [] (cAt Tryz.f112 (pth n)) Q):=fun _=>Snd.leaf
  okF h Tryz.func112 (L 1) (by kernel_rfl) (by kernel_rfl) (by kernel_rfl)
def F100 (x0:OA) (x1:List Value) (hp:HP) (K:Kh):Prop:=
  (ldL (cellsN x1 0 4) fun l_1=>(if List.length l_1=4 then (CF Tryz.prog 138 [(Value.pointer x0),(Value.agg ⟨(splice [(Value.int .u8 0),(Value.int .u8 0),(Value.int .u8 0),(Value.int .u8 0),(Value.int .i64 0)] 0 l_1)⟩)] hp fun u_2 h_3=>(intV u_2 .i64 fun i_4=>(K (Value.bool ((i_4:Int)==0)) h_3))) else False))
theorem F100_ok (x0:OA) (x1:List Value) (hp:HP) (K:Kh) (h:F100 x0 x1 hp K):CF Tryz.prog 100 [(Value.pointer x0),(Value.agg ⟨x1⟩)] hp K:=
  have L:∀ {Q} n,Snd Tryz.prog 10 (cAt Tryz.f100 (pth n)) Q (CW Tryz.prog 10 [3] [] (cAt Tryz.f100 (pth n)) Q):=fun _=>Snd.leaf
  okF h Tryz.func100 (L 1) (by kernel_rfl) (by kernel_rfl) (by kernel_rfl)
def F101 (x0:OA) (x1:List Value) (hp:HP) (K:Kh):Prop:=
  (ldL (cellsN x1 0 5) fun l_1=>(CF Tryz.prog 138 [(Value.pointer x0),(Value.agg ⟨l_1⟩)] hp fun u_2 h_3=>(intV u_2 .i64 fun i_4=>(ite2 ((i_4:Int) != 0) (K (.tuple ⟨[(Value.bool false),(Value.bool false)]⟩) h_3) (ptrN x0 fun b_5 o_6=>(ldV (HP.cell h_3 b_5 (o_6+3)) fun v_7=>(mapV v_7 fun m_8=>(ldL (cellsN x1 0 5) fun l_9=>(rdS Tryz.prog (Instr.lookup 170 (Value.map m_8) (Value.agg ⟨l_9⟩) true) h_3 fun u_10=>(tup2V u_10 fun u_11 u_12=>(boolV u_11 fun q_13=>(boolV u_12 fun q_14=>(ite2 q_14 (K (.tuple ⟨[(Value.bool (!q_13)),(Value.bool q_13)]⟩) h_3) (K (.tuple ⟨[(Value.bool false),(Value.bool q_13)]⟩) h_3))))))))))))))
theorem F101_ok (x0:OA) (x1:List Value) (hp:HP) (K:Kh) (h:F101 x0 x1 hp K):CF Tryz.prog 101 [(Value.pointer x0),(Value.agg ⟨x1⟩)] hp K:=
  have L:∀ {Q} n,Snd Tryz.prog 26 (cAt Tryz.f101 (pth n)) Q (CW Tryz.prog 26 [3] [] (cAt Tryz.f101 (pth n)) Q):=fun _=>Snd.leaf
  okF h Tryz.func101 (L 1) (by kernel_rfl) (by kernel_rfl) (by kernel_rfl)
def F102 (x0:OA) (x1:List Value) (hp:HP) (K:Kh):Prop:=
  (ldL (cellsN x1 0 5) fun l_1=>(CF Tryz.prog 138 [(Value.pointer x0),(Value.agg ⟨l_1⟩)] hp fun u_2 h_3=>(intV u_2 .i64 fun i_4=>(ite2 ((i_4:Int) != 0) (K (Value.int .i64 i_4) h_3) (ptrN x0 fun b_5 o_6=>(ldV (HP.cell h_3 b_5 (o_6+3)) fun v_7=>(mapV v_7 fun m_8=>(ldL (cellsN x1 0 5) fun l_9=>(rdS Tryz.prog (Instr.lookup 170 (Value.map m_8) (Value.agg ⟨l_9⟩) true) h_3 fun u_10=>(tup2V u_10 fun u_11 u_12=>(boolV u_11 fun q_13=>(boolV u_12 fun q_14=>(ite2 q_14 (K (Value.int .i64 5) h_3) (ptrN x0 fun b_15 o_16=>(ldV (HP.cell h_3 b_15 (o_16+3)) fun v_17=>(mapV v_17 fun m_18=>(ldL (cellsN x1 0 5) fun l_19=>(opS Tryz.prog (Instr.mapUpdate 170 (Value.map m_18) (Value.agg ⟨l_19⟩) (Value.bool true)) h_3 fun u_20 h_21=>(K (Value.int .i64 0) h_21)))))))))))))))))))
theorem F102_ok (x0:OA) (x1:List Value) (hp:HP) (K:Kh) (h:F102 x0 x1 hp K):CF Tryz.prog 102 [(Value.pointer x0),(Value.agg ⟨x1⟩)] hp K:=
  have L:∀ {Q} n,Snd Tryz.prog 29 (cAt Tryz.f102 (pth n)) Q (CW Tryz.prog 29 [3] [] (cAt Tryz.f102 (pth n)) Q):=fun _=>Snd.leaf
  okF h Tryz.func102 (L 1) (by kernel_rfl) (by kernel_rfl) (by kernel_rfl)
def F108 (x0:OA) (x1:List Value) (hp:HP) (K:Kh):Prop:=
  (ldL (cellsN x1 0 5) fun l_1=>(CF Tryz.prog 138 [(Value.pointer x0),(Value.agg ⟨l_1⟩)] hp fun u_2 h_3=>(intV u_2 .i64 fun i_4=>(ite2 ((i_4:Int) != 0) (K (Value.int .i64 i_4) h_3) (ptrN x0 fun b_5 o_6=>(ldV (HP.cell h_3 b_5 (o_6+3)) fun v_7=>(mapV v_7 fun m_8=>(ldL (cellsN x1 0 5) fun l_9=>(rdS Tryz.prog (Instr.lookup 170 (Value.map m_8) (Value.agg ⟨l_9⟩) false) h_3 fun u_10=>(boolV u_10 fun q_11=>(ite2 (!q_11) (K (Value.int .i64 4) h_3) (ptrN x0 fun b_12 o_13=>(ldV (HP.cell h_3 b_12 (o_13+3)) fun v_14=>(mapV v_14 fun m_15=>(ldL (cellsN x1 0 5) fun l_16=>(opS Tryz.prog (Builtin.delete_ #[170,56] 0 ⟨[(Value.map m_15),(Value.agg ⟨l_16⟩)]⟩) h_3 fun u_17 h_18=>(K (Value.int .i64 0) h_18)))))))))))))))))
theorem F108_ok (x0:OA) (x1:List Value) (hp:HP) (K:Kh) (h:F108 x0 x1 hp K):CF Tryz.prog 108 [(Value.pointer x0),(Value.agg ⟨x1⟩)] hp K:=
  have L:∀ {Q} n,Snd Tryz.prog 24 (cAt Tryz.f108 (pth n)) Q (CW Tryz.prog 24 [3] [] (cAt Tryz.f108 (pth n)) Q):=fun _=>Snd.leaf
  okF h Tryz.func108 (L 1) (by kernel_rfl) (by kernel_rfl) (by kernel_rfl)
def F115_j2 (x3:Int) (hp:HP) (K:Kh):Prop:=
  (K (Value.int .i64 x3) hp)
def F115_j5 (x0:OA) (x3:Int) (x34:Value) (x54:Bool) (hp:HP) (I4:(Int)→HP→Prop) (K:Kh):Prop:=
  (ite2 x54 (I4 (IntKind.wrap .i64 (x3-1)) hp) (I4 x3 hp))
def F115_l4 (x0:OA) (x34:Value) (K:Kh) (I4:(Int)→HP→Prop) (x3:Int) (hp:HP):Prop:=
  (opS Tryz.prog (Instr.next x34 false 0) hp fun u_15 h_16=>(tupI u_15 0 fun v_17=>(boolV v_17 fun q_18=>(ite2 q_18 (rdS Tryz.prog (Instr.entry x34) h_16 fun u_19=>(tupI u_19 0 fun v_20=>(aggV v_20 fun l_21=>(if List.length l_21=5 then (if List.all l_21 one=true then (if 0+List.length l_21≤List.length [(Value.int .u8 0),(Value.int .u8 0),(Value.int .u8 0),(Value.int .u8 0),(Value.int .i64 0)] then (ldV ((splice [(Value.int .u8 0),(Value.int .u8 0),(Value.int .u8 0),(Value.int .u8 0),(Value.int .i64 0)] 0 l_21))[4]? fun v_22=>(intV v_22 .i64 fun i_23=>(ptrN x0 fun b_24 o_25=>(ldV (HP.cell h_16 b_24 (o_25+1)) fun v_26=>(intV v_26 .i64 fun i_27=>(ite2 (decide ((i_23:Int)≥i_27)) (ldV ((splice [(Value.int .u8 0),(Value.int .u8 0),(Value.int .u8 0),(Value.int .u8 0),(Value.int .i64 0)] 0 l_21))[4]? fun v_28=>(intV v_28 .i64 fun i_29=>(ptrN x0 fun b_30 o_31=>(ldV (HP.cell h_16 b_30 (o_31+2)) fun v_32=>(intV v_32 .i64 fun i_33=>(F115_j5 x0 x3 x34 (decide ((i_29:Int)≤i_33)) h_16 I4 K)))))) (F115_j5 x0 x3 x34 false h_16 I4 K))))))) else False) else False) else False)))) (F115_j2 x3 h_16  K)))))
def F115_j3 (x0:OA) (x3:Int) (x34:Value) (hp:HP) (K:Kh):Prop:=
  (LoopP (σ:=Int) (fun I s hp=>F115_l4 x0 x34  K I s hp) x3 hp)
def F115_j1 (x0:OA) (x13:Bool) (hp:HP) (K:Kh):Prop:=
  (ite2 x13 (K (Value.int .i64 0) hp) (ptrN x0 fun b_1 o_2=>(ldV (HP.cell hp b_1 (o_2+0)) fun v_3=>(slcV v_3 fun a_4 n_5 c_6=>(ptrN x0 fun b_7 o_8=>(ldV (HP.cell hp b_7 (o_8+2)) fun v_9=>(intV v_9 .i64 fun i_10=>(ptrN x0 fun b_11 o_12=>(ldV (HP.cell hp b_11 (o_12+1)) fun v_13=>(intV v_13 .i64 fun i_14=>(ptrN x0 fun b_34 o_35=>(ldV (HP.cell hp b_34 (o_35+3)) fun v_36=>(mapV v_36 fun m_37=>(opS Tryz.prog (Instr.range 170 (Value.map m_37)) hp fun u_38 h_39=>(F115_j3 x0 (IntKind.wrap .i64 ((n_5:Nat)*(IntKind.wrap .i64 ((IntKind.wrap .i64 (i_10-i_14))+1)))) u_38 h_39  K)))))))))))))))
def F115 (x0:OA) (hp:HP) (K:Kh):Prop:=
  (ite2 (Option.isNone x0) (F115_j1 x0 true hp  K) (ptrN x0 fun b_40 o_41=>(ldV (HP.cell hp b_40 (o_41+3)) fun v_42=>(mapV v_42 fun m_43=>(F115_j1 x0 (Option.isNone m_43) hp  K)))))
theorem F115_ok (x0:OA) (hp:HP) (K:Kh) (h:F115 x0 hp K):CF Tryz.prog 115 [(Value.pointer x0)] hp K:=
  have L:∀ {Q} n,Snd Tryz.prog 58 (cAt Tryz.f115 (pth n)) Q (CW Tryz.prog 58 [4,39,47] [] (cAt Tryz.f115 (pth n)) Q):=fun _=>Snd.leaf
  okF h Tryz.func115 (Snd.seq (L 2) (Snd.seq (Snd.jn [(0,.p),(13,.b)] (fun a hp=>F115_j1 a.1 a.2.1 hp  K) (L 9) (L 13) (by rfl) (by kernel_rfl)) (Snd.seq (L 11) (Snd.jn [(3,.i .i64)] (fun a hp=>F115_j2 a.1 hp  K) (Snd.jn [(0,.p),(3,.i .i64),(34,.w)] (fun a hp=>F115_j3 a.1 a.2.1 a.2.2.1 hp  K) (L 39) (Snd.block 0 (Snd.lp (σ:=Int) [(0,.p),(3,.i .i64),(34,.w)] (fun a=>a.2.1) (fun a s=>(a.1,s,a.2.2.1,())) (fun a I s hp=>F115_l4 a.1 a.2.2.1  K I s hp) (fun I4=>(Snd.seq (L 279) (Snd.seq (L 663) (Snd.block 1 (Snd.seq (L 2455) (Snd.jn [(0,.p),(3,.i .i64),(34,.w),(54,.b)] (fun a hp=>F115_j5 a.1 a.2.1 a.2.2.1 a.2.2.2.1 hp (fun s hp=>I4 (a.1,s,a.2.2.1,()) hp) K) (L 5527) (L 7575) (by rfl) (by kernel_rfl))))))) (by rfl) (by kernel_rfl) (by kernel_rfl))) (by rfl) (by kernel_rfl)) (L 31) (by rfl) (by kernel_rfl))))) (by kernel_rfl) (by kernel_rfl) (by kernel_rfl)
def F138_j2 (x15:Bool) (hp:HP) (K:Kh):Prop:=
  (ite2 x15 (K (Value.int .i64 1) hp) (K (Value.int .i64 0) hp))
def F138_j1 (x0:OA) (x5:Bool) (k3:List Value) (hp:HP) (K:Kh):Prop:=
  (ite2 x5 (K (Value.int .i64 2) hp) (ldV (k3)[4]? fun v_1=>(intV v_1 .i64 fun i_2=>(CF Tryz.prog 91 [(Value.int .i64 i_2)] hp fun u_3 h_4=>(boolV u_3 fun q_5=>(ite2 (!q_5) (F138_j2 true h_4  K) (ptrN x0 fun b_6 o_7=>(ldV (HP.cell h_4 b_6 (o_7+0)) fun v_8=>(slcV v_8 fun a_9 n_10 c_11=>(ldL (cellsN k3 0 4) fun l_12=>(CF Tryz.prog 92 [(Value.slice a_9 n_10 c_11),(Value.agg ⟨l_12⟩)] h_4 fun u_13 h_14=>(boolV u_13 fun q_15=>(F138_j2 (!q_15) h_14  K)))))))))))))
def F138 (x0:OA) (x1:List Value) (hp:HP) (K:Kh):Prop:=
  (ite2 (Option.isNone x0) (F138_j1 x0 true x1 hp  K) (ptrN x0 fun b_16 o_17=>(ldV (HP.cell hp b_16 (o_17+3)) fun v_18=>(mapV v_18 fun m_19=>(F138_j1 x0 (Option.isNone m_19) x1 hp  K)))))
theorem F138_ok (x0:OA) (x1:List Value) (hp:HP) (K:Kh) (h:F138 x0 x1 hp K):CF Tryz.prog 138 [(Value.pointer x0),(Value.agg ⟨x1⟩)] hp K:=
  have L:∀ {Q} n,Snd Tryz.prog 30 (cAt Tryz.f138 (pth n)) Q (CW Tryz.prog 30 [3,16,25] [] (cAt Tryz.f138 (pth n)) Q):=fun _=>Snd.leaf
  okF h Tryz.func138 (Snd.seq (L 2) (Snd.seq (Snd.block 0 (Snd.jn [(0,.p),(3,.r 3 0),(5,.b),(3,.c 56)] (fun a hp=>F138_j1 a.1 a.2.1 a.2.2.1 hp  K) (L 17) (Snd.cond 5 (L 41) (Snd.jn [(15,.b)] (fun a hp=>F138_j2 a.1 hp  K) (L 89) (L 121) (by rfl) (by kernel_rfl))) (by rfl) (by kernel_rfl))) (L 7))) (by kernel_rfl) (by kernel_rfl) (by kernel_rfl)
end Go.Proofs
set_option linter.unusedVariables false
set_option maxRecDepth 20000
namespace Go.Proofs
open Go Go.HL
/-- Why nothing can be done with a transport address. -/
def mayQ (l:List Q) (t:Q × Int):Int:=if isPort t.2∧t.1∈l then 0 else 1
theorem C138 {p m:Nat} {l:List Q} {low high:Int} {held} {t:Q × Int} {hp:HP} {K:Value→HP→Prop} (hr:PoolR hp p l low high held m) (hlen:l.length≤4)
    (h:K (.int .i64 (mayQ l t)) hp):CF Tryz.prog 138 [ptr p 0,.agg ⟨t4 t⟩] hp K:=by
  refine F138_ok _ (t4 t) hp K ?_
  unfold F138
  obtain ⟨a,c,h1,h2,h3⟩:=hr
  have h1c:∀ o,hp.cell p o=[Value.slice a l.length c,.int .i64 low,.int .i64 high,.map (some m)][o]?:=fun o=>HP.cell_of h1
  simp only [Option.isNone_some,ite2_false,ptrN_some,h1c,Nat.zero_add,List.getElem?_cons_succ,List.getElem?_cons_zero,ldV_some,mapV_map]
  unfold F138_j1
  rw [ite2_false]
  show ldV (some (.int .i64 t.2)) _
  rw [ldV_some,intV_int]
  refine C91 ?_
  rw [boolV_bool]
  unfold mayQ at h
  cases hx:isPort t.2
  · simp only [hx,Bool.false_eq_true,false_and,if_false] at h
    simp only [Bool.not_false,ite2_true]
    unfold F138_j2
    exact h
  · simp only [Bool.not_true,ite2_false,ptrN_some,h1c,Nat.zero_add,List.getElem?_cons_zero,ldV_some,slcV_slice]
    show ldL (some (v4 t.1)) _
    rw [ldL_some]
    refine C92 h2.shows rfl (by omega) ?_
    rw [boolV_bool]
    unfold F138_j2
    by_cases hm:t.1∈l
    · simp only [hx,hm,and_self,if_true] at h
      simpa [hm] using h
    · simp only [hm,and_false,if_false] at h
      simpa [hm] using h
/-! A nil pool. -/
/-! The document's answer. -/
end Go.Proofs
set_option linter.unusedVariables false
set_option maxRecDepth 20000
namespace Go.Proofs
open Go Go.HL
section
variable {p m:Nat} {l:List Q} {low high:Int} {held:List ((Q × Int) × Bool)} {t:Q × Int} {hp:HP} {K:Value→HP→Prop}
theorem PoolR.cellM (hr:PoolR hp p l low high held m):hp.cell p (0+3)=some (.map (some m)):=by
  obtain ⟨a,c,h1,_,_⟩:=hr
  rw [HP.cell_of h1]; rfl
theorem PoolR.mapM (hr:PoolR hp p l low high held m):MapE t4k vb held (hp m):=by
  obtain ⟨a,c,_,_,h3⟩:=hr
  exact h3
theorem mayQ_cases (l:List Q) (t:Q × Int):mayQ l t=0∨mayQ l t=1:=by
  unfold mayQ; split
  · exact .inl rfl
  · exact .inr rfl
/-- What Is tells. -/
def isQ (l:List Q) (held:List ((Q × Int) × Bool)) (t:Q × Int):Bool × Bool:=
  if mayQ l t≠0 then (false,false) else match getL t held with | none=>(false,false) | some r=>(!r,r)
theorem C101 (hr:PoolR hp p l low high held m) (hlen:l.length≤4)
    (h:K (.tuple ⟨[.bool (isQ l held t).1,.bool (isQ l held t).2]⟩) hp):CF Tryz.prog 101 [ptr p 0,.agg ⟨t4 t⟩] hp K:=by
  refine F101_ok _ (t4 t) hp K ?_
  unfold F101
  rw [cellsN_all (t4_len t),ldL_some]
  refine C138 hr hlen ?_
  rw [intV_int]
  unfold isQ at h
  rcases mayQ_cases l t with hm | hm
  · rw [hm] at h ⊢
    show ite2 false _ _
    rw [ite2_false,ptrN_some,hr.cellM,ldV_some,mapV_map,ldL_some]
    refine rdS_lookup u158 enc75 z4 hr.mapM t ?_
    simp only [if_true,tup2V_mk]
    cases hg:getL t held with
    | none=>simpa [hg] using h
    | some r=>simpa [hg,vb] using h
  · rw [hm] at h ⊢
    exact h
theorem C100 {q:Q} (hr:PoolR hp p l low high held m) (hlen:l.length≤4)
    (h:K (.bool (decide (q∈l))) hp):CF Tryz.prog 100 [ptr p 0,.agg ⟨v4 q⟩] hp K:=by
  refine F100_ok _ (v4 q) hp K ?_
  unfold F100
  rw [cellsN_all (v4_len q),ldL_some]
  refine ifI rfl ?_
  have hz:splice [(Value.int .u8 0),(Value.int .u8 0),(Value.int .u8 0),(Value.int .u8 0),(Value.int .i64 0)] 0 (v4 q)=t4 (q,0):=rfl
  rw [hz]
  refine C138 hr hlen ?_
  rw [intV_int]
  have:(mayQ l (q,0)==0)=decide (q∈l):=by
    unfold mayQ
    have h0:isPort (0:Int)=true:=by decide
    by_cases hq:q∈l <;> simp [h0,hq]
  rw [this]; exact h
/-- What Give, Reserve, Release answer. -/
def giveQ (l:List Q) (held:List ((Q × Int) × Bool)) (t:Q × Int):Int:=
  if mayQ l t≠0 then 1 else match getL t held with | none=>4 | some true=>11 | some false=>0
def reserveQ (l:List Q) (held:List ((Q × Int) × Bool)) (t:Q × Int):Int:=
  if mayQ l t≠0 then 1 else if (getL t held).isSome then 5 else 0
def releaseQ (l:List Q) (held:List ((Q × Int) × Bool)) (t:Q × Int):Int:=
  if mayQ l t≠0 then 1 else match getL t held with | some true=>0 | _=>4
theorem C112 (hr:PoolR hp p l low high held m) (hlen:l.length≤4)
    (hno:giveQ l held t≠0→K (.int .i64 (giveQ l held t)) hp)
    (hyes:giveQ l held t=0→∀ e,MapE t4k vb (delL t held) e→K (.int .i64 0) (hp.set m e)):CF Tryz.prog 112 [ptr p 0,.agg ⟨t4 t⟩] hp K:=by
  refine F112_ok _ (t4 t) hp K ?_
  unfold F112
  rw [cellsN_all (t4_len t),ldL_some]
  refine C138 hr hlen ?_
  rw [intV_int]
  unfold giveQ at hno hyes
  rcases mayQ_cases l t with hm | hm
  · rw [hm] at hno hyes ⊢
    show ite2 false _ _
    rw [ite2_false,ptrN_some,hr.cellM,ldV_some,mapV_map,ldL_some]
    refine rdS_lookup u158 enc75 z4 hr.mapM t ?_
    simp only [if_true,tup2V_mk]
    cases hg:getL t held with
    | none=>simpa [hg] using hno
    | some r=>
      cases r
      · simp only [Option.map_some,Option.getD_some,vb,boolV_bool,ite2_false,Option.isSome_some,Bool.not_true,ptrN_some,hr.cellM,ldV_some,mapV_map,ldL_some]
        refine opS_delete u158 enc75 hr.mapM t ?_
        intro e he
        exact hyes (by simp [hg]) e he
      · simpa [hg,vb] using hno
  · rw [hm] at hno ⊢
    exact hno (by simp)
theorem C102 (hr:PoolR hp p l low high held m) (hlen:l.length≤4)
    (hno:reserveQ l held t≠0→K (.int .i64 (reserveQ l held t)) hp)
    (hyes:reserveQ l held t=0→∀ e,MapE t4k vb (putL t true held) e→K (.int .i64 0) (hp.set m e)):CF Tryz.prog 102 [ptr p 0,.agg ⟨t4 t⟩] hp K:=by
  refine F102_ok _ (t4 t) hp K ?_
  unfold F102
  rw [cellsN_all (t4_len t),ldL_some]
  refine C138 hr hlen ?_
  rw [intV_int]
  unfold reserveQ at hno hyes
  rcases mayQ_cases l t with hm | hm
  · rw [hm] at hno hyes ⊢
    show ite2 false _ _
    rw [ite2_false,ptrN_some,hr.cellM,ldV_some,mapV_map,ldL_some]
    refine rdS_lookup u158 enc75 z4 hr.mapM t ?_
    simp only [if_true,tup2V_mk]
    cases hg:getL t held with
    | none=>
      simp only [Option.map_none,Option.getD_none,boolV_bool,Option.isSome_none,ite2_false,ptrN_some,hr.cellM,ldV_some,mapV_map,ldL_some]
      refine opS_mapUpdate u158 enc75 hr.mapM t true (ev:=vb) ?_
      intro e he
      exact hyes (by simp [hg]) e he
    | some r=>simpa [hg,vb] using hno
  · rw [hm] at hno ⊢
    exact hno (by simp)
theorem C108 (hr:PoolR hp p l low high held m) (hlen:l.length≤4)
    (hno:releaseQ l held t≠0→K (.int .i64 (releaseQ l held t)) hp)
    (hyes:releaseQ l held t=0→∀ e,MapE t4k vb (delL t held) e→K (.int .i64 0) (hp.set m e)):CF Tryz.prog 108 [ptr p 0,.agg ⟨t4 t⟩] hp K:=by
  refine F108_ok _ (t4 t) hp K ?_
  unfold F108
  rw [cellsN_all (t4_len t),ldL_some]
  refine C138 hr hlen ?_
  rw [intV_int]
  unfold releaseQ at hno hyes
  rcases mayQ_cases l t with hm | hm
  · rw [hm] at hno hyes ⊢
    show ite2 false _ _
    rw [ite2_false,ptrN_some,hr.cellM,ldV_some,mapV_map,ldL_some]
    refine rdS_lookup u158 enc75 z4 hr.mapM t ?_
    simp only [Bool.false_eq_true,if_false]
    cases hg:getL t held with
    | none=>simpa [hg] using hno
    | some r=>
      cases r
      · simpa [hg,vb] using hno
      · simp only [Option.map_some,Option.getD_some,vb,boolV_bool,Bool.not_true,ite2_false,ptrN_some,hr.cellM,ldV_some,mapV_map,ldL_some]
        refine opS_delete u158 enc75 hr.mapM t ?_
        intro e he
        exact hyes (by simp [hg]) e he
  · rw [hm] at hno ⊢
    exact hno (by simp)
end
end Go.Proofs
set_option linter.unusedVariables false
namespace Go.Proofs
open Go Go.HL
theorem perm_of_map {α β:Type} {f:α→β} (hf:∀ a b,f a=f b→a=b):∀ {l l':List α},(l.map f).Perm (l'.map f)→l.Perm l'
  | [],l',h=>by
    have:=h.length_eq
    simp at this
    rw [List.eq_nil_of_length_eq_zero this.symm]
  | a::l,l',h=>by
    classical
    have hm:f a∈l'.map f:=h.mem_iff.1 (by simp)
    obtain ⟨a',ha',e⟩:=List.mem_map.1 hm
    have:=hf _ _ e
    subst this
    have hp:=List.perm_cons_erase ha'
    refine List.Perm.trans ?_ hp.symm
    refine List.Perm.cons _ (perm_of_map hf ?_)
    have h2:=h.trans (hp.map f)
    simp only [List.map_cons] at h2
    exact h2.cons_inv
/-- The lesser first, of two numbers. -/
def cmpI (x y:Int):Int:=if x<y then -1 else if x > y then 1 else 0
/-- How many of a range are free. -/
def freeQ (l:List Q) (low high:Int) (held:List ((Q × Int) × Bool)):Int:=
  l.length*(high-low+1)-(held.filter (fun kv=>decide (low≤kv.1.2)&&decide (kv.1.2≤high))).length
end Go.Proofs
set_option linter.unusedVariables false
set_option maxRecDepth 20000
namespace Go.Proofs
open Go Go.HL
section
variable {p m:Nat} {l:List Q} {low high:Int} {held:List ((Q × Int) × Bool)} {hp:HP} {K:Value→HP→Prop}
theorem vb_inj {a b:Bool} (h:vb a=vb b):a=b:=by simpa [vb] using h
theorem C115 (hr:PoolR hp p l low high held m) (hlen:l.length≤4) (hh:held.length≤65535) (hb:0≤low∧low≤65535∧0≤high∧high≤65535) (h:K (.int .i64 (freeQ l low high held)) hp):CF Tryz.prog 115 [ptr p 0] hp K:=by
  refine CF.drop (F115_ok _ hp _ ?_)
  unfold F115
  have hr0:=hr
  obtain ⟨a,c,h1,h2,h3⟩:=hr
  have hc2:∀ o,hp.cell p o=[Value.slice a l.length c,.int .i64 low,.int .i64 high,.map (some m)][o]?:=fun o=>HP.cell_of h1
  simp only [Option.isNone_some,ite2_false,ptrN_some,hc2,Nat.zero_add,List.getElem?_cons_succ,List.getElem?_cons_zero,ldV_some,mapV_map]
  unfold F115_j1
  simp only [ite2_false,ptrN_some,hc2,Nat.zero_add,List.getElem?_cons_succ,List.getElem?_cons_zero,ldV_some,mapV_map,slcV_slice,intV_int]
  refine opS_range u158 h3 fun it e hit hI0=>?_
  have w1:IntKind.wrap .i64 (high-low)=high-low:=w64 (by omega) (by omega)
  have w2:IntKind.wrap .i64 (high-low+1)=high-low+1:=w64 (by omega) (by omega)
  have hmul:((l.length:Nat):Int)*(high-low+1)≤4*65536∧-(4*65536)≤((l.length:Nat):Int)*(high-low+1):=by
    have hl0:l.length=0∨l.length=1∨l.length=2∨l.length=3∨l.length=4:=by omega
    rcases hl0 with e | e | e | e | e <;> rw [e] <;> constructor <;> omega
  have w3:IntKind.wrap .i64 (((l.length:Nat):Int)*(high-low+1))=((l.length:Nat):Int)*(high-low+1):=w64 (by omega) (by omega)
  rw [w1,w2,w3]
  unfold F115_j3
  unfold freeQ at h
  generalize ((l.length:Nat):Int)*(high-low+1)=N at *
  refine LoopP.by (J:=fun k (x:Int) hp'=>∃ done:List ((Q × Int) × Bool),HSub hp hp'∧IterR hp' it m t4k vb held done∧x=N-(done.filter (fun kv=>decide (low≤kv.1.2)&&decide (kv.1.2≤high))).length∧k=held.length-done.length) ?_
    (n:=held.length-0) ⟨[],(HSub.refl hp).up hit e,hI0,by simp,rfl⟩
  rintro I k x hp2 ⟨done,hs,hI,rfl,rfl⟩ hgo
  unfold F115_l4
  have hfl:=List.length_filter_le (fun kv:(Q × Int) × Bool=>decide (low≤kv.1.2)&&decide (kv.1.2≤high)) done
  have hil:=hI.len
  refine opS_next hI ?_ ?_
  · intro hperm
    simp only [tupI]
    show ldV (some (Value.bool false)) _
    rw [ldV_some,boolV_bool,ite2_false]
    unfold F115_j2
    have hpm:done.Perm held:=by
      refine perm_of_map (f:=fun q:(Q × Int) × Bool=>(t4k q.1,vb q.2)) (fun a b e=>?_) hperm
      simp only [Prod.mk.injEq] at e
      exact Prod.ext (enc75.inj _ _ e.1) (vb_inj e.2)
    rw [(hpm.filter _).length_eq]
    exact ⟨hp,hs,h⟩
  · intro kv hkv e2 hI2
    have hlen2:=hI2.step_len
    simp only [tupI]
    show ldV (some (Value.bool true)) _
    rw [ldV_some,boolV_bool,ite2_true]
    refine rdS_entry hI2 ?_
    show ldV (some (t4k kv.1)) _
    rw [ldV_some]
    unfold t4k
    rw [aggV_agg]
    have hz5:[Value.int .u8 0,.int .u8 0,.int .u8 0,.int .u8 0,.int .i64 0]=t4 (q0,0):=rfl
    have s2':HSub hp (hp2.set it e2):=hs.up hit e2
    have hc3:∀ o,(hp2.set it e2).cell p o=[Value.slice a l.length c,.int .i64 low,.int .i64 high,.map (some m)][o]?:=fun o=>HP.cell_of (s2'.cells h1)
    have q2:(t4 kv.1)[4]?=some (.int .i64 kv.1.2):=rfl
    have hsp:splice (t4 (q0,0)) 0 (t4 kv.1)=t4 kv.1:=splice_all rfl
    simp only [t4_len,t4_one,if_true,hz5,hsp,q2,ldV_some,intV_int,ptrN_some,hc3,Nat.zero_add,List.getElem?_cons_succ,List.getElem?_cons_zero]
    refine ifI (by omega) ?_
    have fin:∀ q:Bool,q=(decide (low≤kv.1.2)&&decide (kv.1.2≤high))→F115_j5 (some ⟨p,0,none⟩) (N-(done.filter (fun kv=>decide (low≤kv.1.2)&&decide (kv.1.2≤high))).length) (ptr it 0) q (hp2.set it e2) I (fun v hp'=>∃ hp'',HSub hp'' hp'∧K v hp''):=by
      intro q hq
      unfold F115_j5
      have hf:(done++[kv]).filter (fun kv=>decide (low≤kv.1.2)&&decide (kv.1.2≤high))=done.filter (fun kv=>decide (low≤kv.1.2)&&decide (kv.1.2≤high))++if q then [kv] else []:=by
        rw [List.filter_append,hq,List.filter_cons]
        rfl
      have hgo':=hgo (held.length-(done++[kv]).length) (N-((done++[kv]).filter (fun kv=>decide (low≤kv.1.2)&&decide (kv.1.2≤high))).length) _ (by simp; omega) ⟨done++[kv],s2',hI2,rfl,rfl⟩
      rw [hf] at hgo'
      cases q
      · rw [ite2_false]
        simpa using hgo'
      · rw [ite2_true,w64 (by omega) (by omega)]
        simp only [if_true,List.length_append,List.length_cons,List.length_nil] at hgo'
        have e:N-((List.filter (fun kv:(Q × Int) × Bool=>decide (low≤kv.1.2)&&decide (kv.1.2≤high)) done).length:Int)-1=N-(((List.filter (fun kv:(Q × Int) × Bool=>decide (low≤kv.1.2)&&decide (kv.1.2≤high)) done).length+(0+1):Nat):Int):=by omega
        rw [e]; exact hgo'
    by_cases hlo:kv.1.2≥low
    · rw [decide_eq_true hlo,ite2_true]
      exact fin _ (by rw [decide_eq_true (by omega:low≤kv.1.2),Bool.true_and])
    · rw [decide_eq_false hlo,ite2_false]
      exact fin _ (by rw [decide_eq_false (by omega:¬ low≤kv.1.2),Bool.false_and])
end
end Go.Proofs
set_option linter.unusedVariables false
namespace Go.Proofs
open Go Go.HL
theorem freeAt_some {held:List ((Q × Int) × Bool)} {x:Int} {plain:Bool} {a:Q} {n:Int} {t:Q × Int} (h:freeAt held x plain a n=some t):t=(a,n)∧getL (a,n) held=none∧(plain||cls x n)=true:=by
  unfold freeAt at h
  split at h
  · rename_i hc
    rw [Bool.and_eq_true] at hc
    cases h
    exact ⟨rfl,by simpa using hc.1,hc.2⟩
  · cases h
theorem freeAt_none {held:List ((Q × Int) × Bool)} {x:Int} {plain:Bool} {a:Q} {n:Int} (h:freeAt held x plain a n=none) (hc:(plain||cls x n)=true):(getL (a,n) held).isSome=true:=by
  unfold freeAt at h
  split at h
  · cases h
  · rename_i hn
    rw [hc,Bool.and_true] at hn
    cases hg:getL (a,n) held with
    | none=>rw [hg] at hn; exact absurd rfl hn
    | some v=>rfl
theorem find_ports {held:List ((Q × Int) × Bool)} {x:Int} {plain:Bool} {a:Q} {t:Q × Int}:∀ (k:Nat) (n:Int),(ports k n).findSome? (freeAt held x plain a)=some t →
    t.1=a∧n≤t.2∧t.2<n+k∧freeAt held x plain a t.2=some t∧∀ m,n≤m→m<t.2→freeAt held x plain a m=none
  | 0,n,h=>by simp [ports] at h
  | k+1,n,h=>by
    rw [ports,List.findSome?_cons] at h
    cases hf:freeAt held x plain a n with
    | some u=>
      rw [hf] at h
      simp only [Option.some.injEq] at h
      subst h
      have:=(freeAt_some hf).1
      subst this
      exact ⟨rfl,by simp,by simp; omega,hf,fun m h1 h2=>by simp at h2; omega⟩
    | none=>
      rw [hf] at h
      obtain ⟨h1,h2,h3,h4,h5⟩:=find_ports k (n+1) h
      refine ⟨h1,by omega,by omega,h4,fun m hm hm'=>?_⟩
      by_cases e:m=n
      · rw [e]; exact hf
      · exact h5 m (by omega) hm'
theorem none_ports {held:List ((Q × Int) × Bool)} {x:Int} {plain:Bool} {a:Q}:∀ (k:Nat) (n:Int),(ports k n).findSome? (freeAt held x plain a)=none→∀ m,n≤m→m<n+k→freeAt held x plain a m=none
  | 0,n,h,m,h1,h2=>by omega
  | k+1,n,h,m,h1,h2=>by
    rw [ports,List.findSome?_cons] at h
    cases hf:freeAt held x plain a n with
    | some u=>rw [hf] at h; cases h
    | none=>
      rw [hf] at h
      by_cases e:m=n
      · rw [e]; exact hf
      · exact none_ports k (n+1) h m (by omega) (by omega)
theorem orderQ_mem {first a:Q} {l:List Q} (h:a∈orderQ first l):a∈l:=by
  unfold orderQ at h
  split at h
  · rename_i hi
    have hm:first∈l:=by
      refine Classical.byContradiction fun hn=>?_
      unfold idx at hi; rw [if_neg hn] at hi; omega
    rcases List.mem_cons.1 h with e | h
    · rw [e]; exact hm
    · exact List.mem_of_mem_erase h
  · exact h
theorem orderQ_head {first:Q} {l:List Q} (hm:first∈l):∃ r,orderQ first l=first::r:=by
  unfold orderQ
  split
  · exact ⟨_,rfl⟩
  · rename_i hi
    unfold idx at hi
    rw [if_pos hm] at hi
    cases l with
    | nil=>cases hm
    | cons y l=>
      refine ⟨l,?_⟩
      have:(y::l).idxOf first=0:=by omega
      rw [List.idxOf_cons] at this
      by_cases e:y=first
      · rw [e]
      · have hb:(y==first)=false:=by rw [beq_eq_false_iff_ne]; exact e
        rw [hb] at this
        simp at this
theorem takeQ_some {l:List Q} {low high:Int} {held:List ((Q × Int) × Bool)} {first:Q} {x:Int} {plain:Bool} {t:Q × Int} (h:takeQ l low high held first x plain=some t) :
    t.1∈l∧low≤t.2∧t.2≤high∧getL t held=none∧(plain||cls x t.2)=true ∧
    (∀ n,low≤n→n<t.2→(plain||cls x n)=true→(getL (t.1,n) held).isSome=true) ∧
    (first∈l→t.1≠first→∀ n,low≤n→n≤high→(plain||cls x n)=true→(getL (first,n) held).isSome=true):=by
  unfold takeQ at h
  obtain ⟨l1,a,l2,hl,ha,hbefore⟩:=List.findSome?_eq_some_iff.1 h
  have hmem:a∈orderQ first l:=by rw [hl]; simp
  unfold firstIn at ha
  obtain ⟨h1,h2,h3,h4,h5⟩:=find_ports _ _ ha
  have hf:=freeAt_some h4
  have e:(a,t.2)=t:=hf.1.symm
  refine ⟨by rw [h1]; exact orderQ_mem hmem,h2,by omega,by rw [← e]; exact hf.2.1,hf.2.2,fun n hn hn' hc=>?_,fun hm hne n hn hn' hc=>?_⟩
  · rw [h1]; exact freeAt_none (h5 n hn hn') hc
  · obtain ⟨r,hr⟩:=orderQ_head hm
    rw [hr] at hl
    cases l1 with
    | nil=>
      simp only [List.nil_append,List.cons.injEq] at hl
      exact absurd (h1.trans hl.1.symm) hne
    | cons y l1=>
      simp only [List.cons_append,List.cons.injEq] at hl
      have:=hbefore y (by simp)
      rw [← hl.1] at this
      unfold firstIn at this
      exact freeAt_none (none_ports _ _ this n hn (by omega)) hc
end Go.Proofs
set_option linter.unusedVariables false
set_option maxRecDepth 20000
namespace Go.Proofs
open Go Go.HL
def F88 (x0:OA) (hp:HP) (K:Kh):Prop:=
  (ite2 (Option.isNone x0) (K (Value.bool true) hp) (ptrN x0 fun b_1 o_2=>(ldV (HP.cell hp b_1 (o_2+6)) fun v_3=>(mapV v_3 fun m_4=>(K (Value.bool (Option.isNone m_4)) hp)))))
theorem F88_ok (x0:OA) (hp:HP) (K:Kh) (h:F88 x0 hp K):CF Tryz.prog 88 [(Value.pointer x0)] hp K:=
  have L:∀ {Q} n,Snd Tryz.prog 12 (cAt Tryz.f88 (pth n)) Q (CW Tryz.prog 12 [] [] (cAt Tryz.f88 (pth n)) Q):=fun _=>Snd.leaf
  okF h Tryz.func88 (L 1) (by kernel_rfl) (by kernel_rfl) (by kernel_rfl)
def F98 (x0:Int) (hp:HP) (K:Kh):Prop:=
  (∀ b_1:Nat,hp b_1=.none→(CF Tryz.prog 137 [(Value.slice (some ⟨b_1,0,none⟩) 3 3),(Value.int .i64 x0)] (HP.set hp b_1 (.cells 3 [(Value.int .i64 1),(Value.int .i64 6),(Value.int .i64 17)] 0)) fun u_2 h_3=>(intV u_2 .i64 fun i_4=>(K (Value.int .i64 i_4) h_3))))
theorem F98_ok (x0:Int) (hp:HP) (K:Kh) (h:F98 x0 hp K):CF Tryz.prog 98 [(Value.int .i64 x0)] hp K:=
  have L:∀ {Q} n,Snd Tryz.prog 6 (cAt Tryz.f98 (pth n)) Q (CW Tryz.prog 6 [] [] (cAt Tryz.f98 (pth n)) Q):=fun _=>Snd.leaf
  okF h Tryz.func98 (L 1) (by kernel_rfl) (by kernel_rfl) (by kernel_rfl)
def F99 (x0:Int) (hp:HP) (K:Kh):Prop:=
  (ite2 (decide ((x0:Int)≥0)) (K (Value.bool (decide ((x0:Int)≤65535))) hp) (K (Value.bool false) hp))
theorem F99_ok (x0:Int) (hp:HP) (K:Kh) (h:F99 x0 hp K):CF Tryz.prog 99 [(Value.int .i64 x0)] hp K:=
  have L:∀ {Q} n,Snd Tryz.prog 9 (cAt Tryz.f99 (pth n)) Q (CW Tryz.prog 9 [] [] (cAt Tryz.f99 (pth n)) Q):=fun _=>Snd.leaf
  okF h Tryz.func99 (L 1) (by kernel_rfl) (by kernel_rfl) (by kernel_rfl)
def F89 (x0:OA) (x1:Int) (x2:Bool) (hp:HP) (K:Kh):Prop:=
  (ite2 (!x2) (if List.length [(Value.int .i64 0),(Value.int .i64 0),(Value.int .u8 0),(Value.int .u8 0),(Value.int .u8 0),(Value.int .u8 0),(Value.int .u8 0),(Value.int .u8 0),(Value.int .u8 0),(Value.int .u8 0),(Value.int .u8 0),(Value.int .u8 0),(Value.int .u8 0),(Value.int .u8 0),(Value.int .u8 0),(Value.int .u8 0),(Value.int .u8 0),(Value.int .u8 0),(Value.int .i64 0),(Value.int .u8 0),(Value.int .u8 0),(Value.int .u8 0),(Value.int .u8 0),(Value.int .i64 0),(Value.bool false),(Value.int .i64 0)]=26 then (if List.all [(Value.int .i64 0),(Value.int .i64 0),(Value.int .u8 0),(Value.int .u8 0),(Value.int .u8 0),(Value.int .u8 0),(Value.int .u8 0),(Value.int .u8 0),(Value.int .u8 0),(Value.int .u8 0),(Value.int .u8 0),(Value.int .u8 0),(Value.int .u8 0),(Value.int .u8 0),(Value.int .u8 0),(Value.int .u8 0),(Value.int .u8 0),(Value.int .u8 0),(Value.int .i64 0),(Value.int .u8 0),(Value.int .u8 0),(Value.int .u8 0),(Value.int .u8 0),(Value.int .i64 0),(Value.bool false),(Value.int .i64 0)] one=true then (if 0+List.length [(Value.int .i64 0),(Value.int .i64 0),(Value.int .u8 0),(Value.int .u8 0),(Value.int .u8 0),(Value.int .u8 0),(Value.int .u8 0),(Value.int .u8 0),(Value.int .u8 0),(Value.int .u8 0),(Value.int .u8 0),(Value.int .u8 0),(Value.int .u8 0),(Value.int .u8 0),(Value.int .u8 0),(Value.int .u8 0),(Value.int .u8 0),(Value.int .u8 0),(Value.int .i64 0),(Value.int .u8 0),(Value.int .u8 0),(Value.int .u8 0),(Value.int .u8 0),(Value.int .i64 0),(Value.bool false),(Value.int .i64 0)]≤List.length [(Value.int .i64 0),(Value.int .i64 0),(Value.int .u8 0),(Value.int .u8 0),(Value.int .u8 0),(Value.int .u8 0),(Value.int .u8 0),(Value.int .u8 0),(Value.int .u8 0),(Value.int .u8 0),(Value.int .u8 0),(Value.int .u8 0),(Value.int .u8 0),(Value.int .u8 0),(Value.int .u8 0),(Value.int .u8 0),(Value.int .u8 0),(Value.int .u8 0),(Value.int .i64 0),(Value.int .u8 0),(Value.int .u8 0),(Value.int .u8 0),(Value.int .u8 0),(Value.int .i64 0),(Value.bool false),(Value.int .i64 0)] then (ldL (cellsN (splice [(Value.int .i64 0),(Value.int .i64 0),(Value.int .u8 0),(Value.int .u8 0),(Value.int .u8 0),(Value.int .u8 0),(Value.int .u8 0),(Value.int .u8 0),(Value.int .u8 0),(Value.int .u8 0),(Value.int .u8 0),(Value.int .u8 0),(Value.int .u8 0),(Value.int .u8 0),(Value.int .u8 0),(Value.int .u8 0),(Value.int .u8 0),(Value.int .u8 0),(Value.int .i64 0),(Value.int .u8 0),(Value.int .u8 0),(Value.int .u8 0),(Value.int .u8 0),(Value.int .i64 0),(Value.bool false),(Value.int .i64 0)] 0 [(Value.int .i64 0),(Value.int .i64 0),(Value.int .u8 0),(Value.int .u8 0),(Value.int .u8 0),(Value.int .u8 0),(Value.int .u8 0),(Value.int .u8 0),(Value.int .u8 0),(Value.int .u8 0),(Value.int .u8 0),(Value.int .u8 0),(Value.int .u8 0),(Value.int .u8 0),(Value.int .u8 0),(Value.int .u8 0),(Value.int .u8 0),(Value.int .u8 0),(Value.int .i64 0),(Value.int .u8 0),(Value.int .u8 0),(Value.int .u8 0),(Value.int .u8 0),(Value.int .i64 0),(Value.bool false),(Value.int .i64 0)]) 0 26) fun l_1=>(K (.tuple ⟨[(.agg ⟨l_1⟩),(Value.bool false)]⟩) hp)) else False) else False) else False) (ptrN x0 fun b_2 o_3=>(ldV (HP.cell hp b_2 (o_3+6)) fun v_4=>(mapV v_4 fun m_5=>(rdS Tryz.prog (Instr.lookup 103 (Value.map m_5) (Value.int .i64 x1) false) hp fun u_6=>(ptrV u_6 fun p_7=>(ptrN p_7 fun b_8 o_9=>(ldL (HP.cellN hp b_8 o_9 26) fun l_10=>(if List.length l_10=26 then (if List.all l_10 one=true then (if 0+List.length l_10≤List.length [(Value.int .i64 0),(Value.int .i64 0),(Value.int .u8 0),(Value.int .u8 0),(Value.int .u8 0),(Value.int .u8 0),(Value.int .u8 0),(Value.int .u8 0),(Value.int .u8 0),(Value.int .u8 0),(Value.int .u8 0),(Value.int .u8 0),(Value.int .u8 0),(Value.int .u8 0),(Value.int .u8 0),(Value.int .u8 0),(Value.int .u8 0),(Value.int .u8 0),(Value.int .i64 0),(Value.int .u8 0),(Value.int .u8 0),(Value.int .u8 0),(Value.int .u8 0),(Value.int .i64 0),(Value.bool false),(Value.int .i64 0)] then (ldL (cellsN (splice [(Value.int .i64 0),(Value.int .i64 0),(Value.int .u8 0),(Value.int .u8 0),(Value.int .u8 0),(Value.int .u8 0),(Value.int .u8 0),(Value.int .u8 0),(Value.int .u8 0),(Value.int .u8 0),(Value.int .u8 0),(Value.int .u8 0),(Value.int .u8 0),(Value.int .u8 0),(Value.int .u8 0),(Value.int .u8 0),(Value.int .u8 0),(Value.int .u8 0),(Value.int .i64 0),(Value.int .u8 0),(Value.int .u8 0),(Value.int .u8 0),(Value.int .u8 0),(Value.int .i64 0),(Value.bool false),(Value.int .i64 0)] 0 l_10) 0 26) fun l_11=>(K (.tuple ⟨[(.agg ⟨l_11⟩),(Value.bool true)]⟩) hp)) else False) else False) else False)))))))))
theorem F89_ok (x0:OA) (x1:Int) (x2:Bool) (hp:HP) (K:Kh) (h:F89 x0 x1 x2 hp K):CF Tryz.prog 89 [(Value.pointer x0),(Value.int .i64 x1),(Value.bool x2)] hp K:=
  have L:∀ {Q} n,Snd Tryz.prog 19 (cAt Tryz.f89 (pth n)) Q (CW Tryz.prog 19 [6] [] (cAt Tryz.f89 (pth n)) Q):=fun _=>Snd.leaf
  okF h Tryz.func89 (L 1) (by kernel_rfl) (by kernel_rfl) (by kernel_rfl)
def F90 (x0:Int) (x1:List Value) (hp:HP) (K:Kh):Prop:=
  (∀ b_1:Nat,hp b_1=.none→((CF Tryz.prog 119 [(Value.int .i64 x0)] (HP.set hp b_1 (.cells 56 x1 0)) fun u_2 h_3=>(strV u_2 fun s_4=>((ByteArray.size s_4+ByteArray.size (⟨#[32]⟩:ByteArray)≤9223372036854775807)∧(ptrN (some ⟨b_1,0,none⟩) fun b_5 o_6=>(ldV (HP.cell h_3 b_5 (o_6+4)) fun v_7=>(intV v_7 .i64 fun i_8=>(CF Tryz.prog 119 [(Value.int .i64 i_8)] h_3 fun u_9 h_10=>(strV u_9 fun s_11=>((ByteArray.size (s_4++(⟨#[32]⟩:ByteArray))+ByteArray.size s_11≤9223372036854775807)∧((ByteArray.size ((s_4++(⟨#[32]⟩:ByteArray))++s_11)+ByteArray.size (⟨#[32]⟩:ByteArray)≤9223372036854775807)∧(ptrN (some ⟨b_1,0,none⟩) fun b_12 o_13=>(rdS Tryz.prog (convert 193 9 (Value.slice (some ⟨b_12,(o_13+0),none⟩) 4 4)) h_10 fun u_14=>(strV u_14 fun s_15=>((ByteArray.size (((s_4++(⟨#[32]⟩:ByteArray))++s_11)++(⟨#[32]⟩:ByteArray))+ByteArray.size s_15≤9223372036854775807)∧(K (Value.string ((((s_4++(⟨#[32]⟩:ByteArray))++s_11)++(⟨#[32]⟩:ByteArray))++s_15)) h_10)))))))))))))))∧(CF Tryz.prog 119 [(Value.int .i64 x0)] (HP.set hp b_1 (.cells 56 x1 0)) fun u_16 h_17=>(strV u_16 fun s_18=>((ByteArray.size s_18+ByteArray.size (⟨#[32]⟩:ByteArray)≤9223372036854775807)∧(ptrN (some ⟨b_1,0,none⟩) fun b_19 o_20=>(ldV (HP.cell h_17 b_19 (o_20+4)) fun v_21=>(intV v_21 .i64 fun i_22=>(ptrN (some ⟨b_1,0,none⟩) fun b_23 o_24=>(rdS Tryz.prog (convert 193 9 (Value.slice (some ⟨b_23,(o_24+0),none⟩) 4 4)) h_17 fun u_25=>(strV u_25 fun s_26=>(CF Tryz.prog 119 [(Value.int .i64 i_22)] h_17 fun u_27 h_28=>(strV u_27 fun s_29=>((ByteArray.size (s_18++(⟨#[32]⟩:ByteArray))+ByteArray.size s_29≤9223372036854775807)∧((ByteArray.size ((s_18++(⟨#[32]⟩:ByteArray))++s_29)+ByteArray.size (⟨#[32]⟩:ByteArray)≤9223372036854775807)∧((ByteArray.size (((s_18++(⟨#[32]⟩:ByteArray))++s_29)++(⟨#[32]⟩:ByteArray))+ByteArray.size s_26≤9223372036854775807)∧(K (Value.string ((((s_18++(⟨#[32]⟩:ByteArray))++s_29)++(⟨#[32]⟩:ByteArray))++s_26)) h_28)))))))))))))))∧(ptrN (some ⟨b_1,0,none⟩) fun b_30 o_31=>(ptrN (some ⟨b_1,0,none⟩) fun b_32 o_33=>(rdS Tryz.prog (convert 193 9 (Value.slice (some ⟨b_32,(o_33+0),none⟩) 4 4)) (HP.set hp b_1 (.cells 56 x1 0)) fun u_34=>(strV u_34 fun s_35=>(CF Tryz.prog 119 [(Value.int .i64 x0)] (HP.set hp b_1 (.cells 56 x1 0)) fun u_36 h_37=>(strV u_36 fun s_38=>((ByteArray.size s_38+ByteArray.size (⟨#[32]⟩:ByteArray)≤9223372036854775807)∧(ldV (HP.cell h_37 b_30 (o_31+4)) fun v_39=>(intV v_39 .i64 fun i_40=>(CF Tryz.prog 119 [(Value.int .i64 i_40)] h_37 fun u_41 h_42=>(strV u_41 fun s_43=>((ByteArray.size (s_38++(⟨#[32]⟩:ByteArray))+ByteArray.size s_43≤9223372036854775807)∧((ByteArray.size ((s_38++(⟨#[32]⟩:ByteArray))++s_43)+ByteArray.size (⟨#[32]⟩:ByteArray)≤9223372036854775807)∧((ByteArray.size (((s_38++(⟨#[32]⟩:ByteArray))++s_43)++(⟨#[32]⟩:ByteArray))+ByteArray.size s_35≤9223372036854775807)∧(K (Value.string ((((s_38++(⟨#[32]⟩:ByteArray))++s_43)++(⟨#[32]⟩:ByteArray))++s_35)) h_42)))))))))))))))∧(ptrN (some ⟨b_1,0,none⟩) fun b_44 o_45=>(ldV (HP.cell (HP.set hp b_1 (.cells 56 x1 0)) b_44 (o_45+4)) fun v_46=>(intV v_46 .i64 fun i_47=>(CF Tryz.prog 119 [(Value.int .i64 x0)] (HP.set hp b_1 (.cells 56 x1 0)) fun u_48 h_49=>(strV u_48 fun s_50=>((ByteArray.size s_50+ByteArray.size (⟨#[32]⟩:ByteArray)≤9223372036854775807)∧(CF Tryz.prog 119 [(Value.int .i64 i_47)] h_49 fun u_51 h_52=>(strV u_51 fun s_53=>((ByteArray.size (s_50++(⟨#[32]⟩:ByteArray))+ByteArray.size s_53≤9223372036854775807)∧((ByteArray.size ((s_50++(⟨#[32]⟩:ByteArray))++s_53)+ByteArray.size (⟨#[32]⟩:ByteArray)≤9223372036854775807)∧(ptrN (some ⟨b_1,0,none⟩) fun b_54 o_55=>(rdS Tryz.prog (convert 193 9 (Value.slice (some ⟨b_54,(o_55+0),none⟩) 4 4)) h_52 fun u_56=>(strV u_56 fun s_57=>((ByteArray.size (((s_50++(⟨#[32]⟩:ByteArray))++s_53)++(⟨#[32]⟩:ByteArray))+ByteArray.size s_57≤9223372036854775807)∧(K (Value.string ((((s_50++(⟨#[32]⟩:ByteArray))++s_53)++(⟨#[32]⟩:ByteArray))++s_57)) h_52)))))))))))))))∧(ptrN (some ⟨b_1,0,none⟩) fun b_58 o_59=>(ldV (HP.cell (HP.set hp b_1 (.cells 56 x1 0)) b_58 (o_59+4)) fun v_60=>(intV v_60 .i64 fun i_61=>(CF Tryz.prog 119 [(Value.int .i64 x0)] (HP.set hp b_1 (.cells 56 x1 0)) fun u_62 h_63=>(strV u_62 fun s_64=>((ByteArray.size s_64+ByteArray.size (⟨#[32]⟩:ByteArray)≤9223372036854775807)∧(ptrN (some ⟨b_1,0,none⟩) fun b_65 o_66=>(rdS Tryz.prog (convert 193 9 (Value.slice (some ⟨b_65,(o_66+0),none⟩) 4 4)) h_63 fun u_67=>(strV u_67 fun s_68=>(CF Tryz.prog 119 [(Value.int .i64 i_61)] h_63 fun u_69 h_70=>(strV u_69 fun s_71=>((ByteArray.size (s_64++(⟨#[32]⟩:ByteArray))+ByteArray.size s_71≤9223372036854775807)∧((ByteArray.size ((s_64++(⟨#[32]⟩:ByteArray))++s_71)+ByteArray.size (⟨#[32]⟩:ByteArray)≤9223372036854775807)∧((ByteArray.size (((s_64++(⟨#[32]⟩:ByteArray))++s_71)++(⟨#[32]⟩:ByteArray))+ByteArray.size s_68≤9223372036854775807)∧(K (Value.string ((((s_64++(⟨#[32]⟩:ByteArray))++s_71)++(⟨#[32]⟩:ByteArray))++s_68)) h_70)))))))))))))))∧(ptrN (some ⟨b_1,0,none⟩) fun b_72 o_73=>(ldV (HP.cell (HP.set hp b_1 (.cells 56 x1 0)) b_72 (o_73+4)) fun v_74=>(intV v_74 .i64 fun i_75=>(ptrN (some ⟨b_1,0,none⟩) fun b_76 o_77=>(rdS Tryz.prog (convert 193 9 (Value.slice (some ⟨b_76,(o_77+0),none⟩) 4 4)) (HP.set hp b_1 (.cells 56 x1 0)) fun u_78=>(strV u_78 fun s_79=>(CF Tryz.prog 119 [(Value.int .i64 x0)] (HP.set hp b_1 (.cells 56 x1 0)) fun u_80 h_81=>(strV u_80 fun s_82=>((ByteArray.size s_82+ByteArray.size (⟨#[32]⟩:ByteArray)≤9223372036854775807)∧(CF Tryz.prog 119 [(Value.int .i64 i_75)] h_81 fun u_83 h_84=>(strV u_83 fun s_85=>((ByteArray.size (s_82++(⟨#[32]⟩:ByteArray))+ByteArray.size s_85≤9223372036854775807)∧((ByteArray.size ((s_82++(⟨#[32]⟩:ByteArray))++s_85)+ByteArray.size (⟨#[32]⟩:ByteArray)≤9223372036854775807)∧((ByteArray.size (((s_82++(⟨#[32]⟩:ByteArray))++s_85)++(⟨#[32]⟩:ByteArray))+ByteArray.size s_79≤9223372036854775807)∧(K (Value.string ((((s_82++(⟨#[32]⟩:ByteArray))++s_85)++(⟨#[32]⟩:ByteArray))++s_79)) h_84)))))))))))))))))
theorem F90_ok (x0:Int) (x1:List Value) (hp:HP) (K:Kh) (h:F90 x0 x1 hp K):CF Tryz.prog 90 [(Value.int .i64 x0),(Value.agg ⟨x1⟩)] hp K:=
  have L:∀ {Q} n,Snd Tryz.prog 17 (cAt Tryz.f90 (pth n)) Q (CW Tryz.prog 17 [] [(1,[(1,4),(1,10),(5,10)],[([true,false,true],false,[1,4,5,10,1]),([false,false,true],false,[1,5,10,1]),([true,true,true],true,[0,1,2,3,4,5,6,7,8,9,10,11,12]),([true,true,false],true,[0,1,2,3,4,8,9,10,5,6,7,11,12]),([true,false,false],true,[0,3,8,9,10,1,2,4,5,6,7,11,12]),([false,true,true],true,[0,3,4,1,2,5,6,7,8,9,10,11,12]),([false,true,false],true,[0,3,4,1,2,8,9,10,5,6,7,11,12]),([false,false,false],true,[0,3,4,8,9,10,1,2,5,6,7,11,12])])] (cAt Tryz.f90 (pth n)) Q):=fun _=>Snd.leaf
  okF h Tryz.func90 (L 1) (by kernel_rfl) (by kernel_rfl) (by kernel_rfl)
def F116 (x0:Int) (x1:List Value) (hp:HP) (K:Kh):Prop:=
  (∀ b_1:Nat,hp b_1=.none→((CF Tryz.prog 119 [(Value.int .i64 x0)] (HP.set hp b_1 (.cells 95 x1 0)) fun u_2 h_3=>(strV u_2 fun s_4=>((ByteArray.size s_4+ByteArray.size (⟨#[32]⟩:ByteArray)≤9223372036854775807)∧(ptrN (some ⟨b_1,0,none⟩) fun b_5 o_6=>(ldV (HP.cell h_3 b_5 (o_6+16)) fun v_7=>(intV v_7 .i64 fun i_8=>(CF Tryz.prog 119 [(Value.int .i64 i_8)] h_3 fun u_9 h_10=>(strV u_9 fun s_11=>((ByteArray.size (s_4++(⟨#[32]⟩:ByteArray))+ByteArray.size s_11≤9223372036854775807)∧((ByteArray.size ((s_4++(⟨#[32]⟩:ByteArray))++s_11)+ByteArray.size (⟨#[32]⟩:ByteArray)≤9223372036854775807)∧(ptrN (some ⟨b_1,0,none⟩) fun b_12 o_13=>(rdS Tryz.prog (convert 193 9 (Value.slice (some ⟨b_12,(o_13+0),none⟩) 16 16)) h_10 fun u_14=>(strV u_14 fun s_15=>((ByteArray.size (((s_4++(⟨#[32]⟩:ByteArray))++s_11)++(⟨#[32]⟩:ByteArray))+ByteArray.size s_15≤9223372036854775807)∧(K (Value.string ((((s_4++(⟨#[32]⟩:ByteArray))++s_11)++(⟨#[32]⟩:ByteArray))++s_15)) h_10)))))))))))))))∧(CF Tryz.prog 119 [(Value.int .i64 x0)] (HP.set hp b_1 (.cells 95 x1 0)) fun u_16 h_17=>(strV u_16 fun s_18=>((ByteArray.size s_18+ByteArray.size (⟨#[32]⟩:ByteArray)≤9223372036854775807)∧(ptrN (some ⟨b_1,0,none⟩) fun b_19 o_20=>(ldV (HP.cell h_17 b_19 (o_20+16)) fun v_21=>(intV v_21 .i64 fun i_22=>(ptrN (some ⟨b_1,0,none⟩) fun b_23 o_24=>(rdS Tryz.prog (convert 193 9 (Value.slice (some ⟨b_23,(o_24+0),none⟩) 16 16)) h_17 fun u_25=>(strV u_25 fun s_26=>(CF Tryz.prog 119 [(Value.int .i64 i_22)] h_17 fun u_27 h_28=>(strV u_27 fun s_29=>((ByteArray.size (s_18++(⟨#[32]⟩:ByteArray))+ByteArray.size s_29≤9223372036854775807)∧((ByteArray.size ((s_18++(⟨#[32]⟩:ByteArray))++s_29)+ByteArray.size (⟨#[32]⟩:ByteArray)≤9223372036854775807)∧((ByteArray.size (((s_18++(⟨#[32]⟩:ByteArray))++s_29)++(⟨#[32]⟩:ByteArray))+ByteArray.size s_26≤9223372036854775807)∧(K (Value.string ((((s_18++(⟨#[32]⟩:ByteArray))++s_29)++(⟨#[32]⟩:ByteArray))++s_26)) h_28)))))))))))))))∧(ptrN (some ⟨b_1,0,none⟩) fun b_30 o_31=>(ptrN (some ⟨b_1,0,none⟩) fun b_32 o_33=>(rdS Tryz.prog (convert 193 9 (Value.slice (some ⟨b_32,(o_33+0),none⟩) 16 16)) (HP.set hp b_1 (.cells 95 x1 0)) fun u_34=>(strV u_34 fun s_35=>(CF Tryz.prog 119 [(Value.int .i64 x0)] (HP.set hp b_1 (.cells 95 x1 0)) fun u_36 h_37=>(strV u_36 fun s_38=>((ByteArray.size s_38+ByteArray.size (⟨#[32]⟩:ByteArray)≤9223372036854775807)∧(ldV (HP.cell h_37 b_30 (o_31+16)) fun v_39=>(intV v_39 .i64 fun i_40=>(CF Tryz.prog 119 [(Value.int .i64 i_40)] h_37 fun u_41 h_42=>(strV u_41 fun s_43=>((ByteArray.size (s_38++(⟨#[32]⟩:ByteArray))+ByteArray.size s_43≤9223372036854775807)∧((ByteArray.size ((s_38++(⟨#[32]⟩:ByteArray))++s_43)+ByteArray.size (⟨#[32]⟩:ByteArray)≤9223372036854775807)∧((ByteArray.size (((s_38++(⟨#[32]⟩:ByteArray))++s_43)++(⟨#[32]⟩:ByteArray))+ByteArray.size s_35≤9223372036854775807)∧(K (Value.string ((((s_38++(⟨#[32]⟩:ByteArray))++s_43)++(⟨#[32]⟩:ByteArray))++s_35)) h_42)))))))))))))))∧(ptrN (some ⟨b_1,0,none⟩) fun b_44 o_45=>(ldV (HP.cell (HP.set hp b_1 (.cells 95 x1 0)) b_44 (o_45+16)) fun v_46=>(intV v_46 .i64 fun i_47=>(CF Tryz.prog 119 [(Value.int .i64 x0)] (HP.set hp b_1 (.cells 95 x1 0)) fun u_48 h_49=>(strV u_48 fun s_50=>((ByteArray.size s_50+ByteArray.size (⟨#[32]⟩:ByteArray)≤9223372036854775807)∧(CF Tryz.prog 119 [(Value.int .i64 i_47)] h_49 fun u_51 h_52=>(strV u_51 fun s_53=>((ByteArray.size (s_50++(⟨#[32]⟩:ByteArray))+ByteArray.size s_53≤9223372036854775807)∧((ByteArray.size ((s_50++(⟨#[32]⟩:ByteArray))++s_53)+ByteArray.size (⟨#[32]⟩:ByteArray)≤9223372036854775807)∧(ptrN (some ⟨b_1,0,none⟩) fun b_54 o_55=>(rdS Tryz.prog (convert 193 9 (Value.slice (some ⟨b_54,(o_55+0),none⟩) 16 16)) h_52 fun u_56=>(strV u_56 fun s_57=>((ByteArray.size (((s_50++(⟨#[32]⟩:ByteArray))++s_53)++(⟨#[32]⟩:ByteArray))+ByteArray.size s_57≤9223372036854775807)∧(K (Value.string ((((s_50++(⟨#[32]⟩:ByteArray))++s_53)++(⟨#[32]⟩:ByteArray))++s_57)) h_52)))))))))))))))∧(ptrN (some ⟨b_1,0,none⟩) fun b_58 o_59=>(ldV (HP.cell (HP.set hp b_1 (.cells 95 x1 0)) b_58 (o_59+16)) fun v_60=>(intV v_60 .i64 fun i_61=>(CF Tryz.prog 119 [(Value.int .i64 x0)] (HP.set hp b_1 (.cells 95 x1 0)) fun u_62 h_63=>(strV u_62 fun s_64=>((ByteArray.size s_64+ByteArray.size (⟨#[32]⟩:ByteArray)≤9223372036854775807)∧(ptrN (some ⟨b_1,0,none⟩) fun b_65 o_66=>(rdS Tryz.prog (convert 193 9 (Value.slice (some ⟨b_65,(o_66+0),none⟩) 16 16)) h_63 fun u_67=>(strV u_67 fun s_68=>(CF Tryz.prog 119 [(Value.int .i64 i_61)] h_63 fun u_69 h_70=>(strV u_69 fun s_71=>((ByteArray.size (s_64++(⟨#[32]⟩:ByteArray))+ByteArray.size s_71≤9223372036854775807)∧((ByteArray.size ((s_64++(⟨#[32]⟩:ByteArray))++s_71)+ByteArray.size (⟨#[32]⟩:ByteArray)≤9223372036854775807)∧((ByteArray.size (((s_64++(⟨#[32]⟩:ByteArray))++s_71)++(⟨#[32]⟩:ByteArray))+ByteArray.size s_68≤9223372036854775807)∧(K (Value.string ((((s_64++(⟨#[32]⟩:ByteArray))++s_71)++(⟨#[32]⟩:ByteArray))++s_68)) h_70)))))))))))))))∧(ptrN (some ⟨b_1,0,none⟩) fun b_72 o_73=>(ldV (HP.cell (HP.set hp b_1 (.cells 95 x1 0)) b_72 (o_73+16)) fun v_74=>(intV v_74 .i64 fun i_75=>(ptrN (some ⟨b_1,0,none⟩) fun b_76 o_77=>(rdS Tryz.prog (convert 193 9 (Value.slice (some ⟨b_76,(o_77+0),none⟩) 16 16)) (HP.set hp b_1 (.cells 95 x1 0)) fun u_78=>(strV u_78 fun s_79=>(CF Tryz.prog 119 [(Value.int .i64 x0)] (HP.set hp b_1 (.cells 95 x1 0)) fun u_80 h_81=>(strV u_80 fun s_82=>((ByteArray.size s_82+ByteArray.size (⟨#[32]⟩:ByteArray)≤9223372036854775807)∧(CF Tryz.prog 119 [(Value.int .i64 i_75)] h_81 fun u_83 h_84=>(strV u_83 fun s_85=>((ByteArray.size (s_82++(⟨#[32]⟩:ByteArray))+ByteArray.size s_85≤9223372036854775807)∧((ByteArray.size ((s_82++(⟨#[32]⟩:ByteArray))++s_85)+ByteArray.size (⟨#[32]⟩:ByteArray)≤9223372036854775807)∧((ByteArray.size (((s_82++(⟨#[32]⟩:ByteArray))++s_85)++(⟨#[32]⟩:ByteArray))+ByteArray.size s_79≤9223372036854775807)∧(K (Value.string ((((s_82++(⟨#[32]⟩:ByteArray))++s_85)++(⟨#[32]⟩:ByteArray))++s_79)) h_84)))))))))))))))))
theorem F116_ok (x0:Int) (x1:List Value) (hp:HP) (K:Kh) (h:F116 x0 x1 hp K):CF Tryz.prog 116 [(Value.int .i64 x0),(Value.agg ⟨x1⟩)] hp K:=
  have L:∀ {Q} n,Snd Tryz.prog 17 (cAt Tryz.f116 (pth n)) Q (CW Tryz.prog 17 [] [(1,[(1,4),(1,10),(5,10)],[([true,false,true],false,[1,4,5,10,1]),([false,false,true],false,[1,5,10,1]),([true,true,true],true,[0,1,2,3,4,5,6,7,8,9,10,11,12]),([true,true,false],true,[0,1,2,3,4,8,9,10,5,6,7,11,12]),([true,false,false],true,[0,3,8,9,10,1,2,4,5,6,7,11,12]),([false,true,true],true,[0,3,4,1,2,5,6,7,8,9,10,11,12]),([false,true,false],true,[0,3,4,1,2,8,9,10,5,6,7,11,12]),([false,false,false],true,[0,3,4,8,9,10,1,2,5,6,7,11,12])])] (cAt Tryz.f116 (pth n)) Q):=fun _=>Snd.leaf
  okF h Tryz.func116 (L 1) (by kernel_rfl) (by kernel_rfl) (by kernel_rfl)
def F137_l2 (x0a:OA) (x0n x0c:Nat) (x1 x7:Int) (K:Kh) (I2:(Int)→HP→Prop) (x8:Int) (hp:HP):Prop:=
  (ite2 (decide ((x8:Int)<x7)) ((0≤(x8:Int))∧((x8:Int)<(x0n:Nat))∧(ptrN x0a fun b_1 o_2=>(ldV (HP.cell hp b_1 (o_2+Int.toNat x8*1)) fun v_3=>(intV v_3 .i64 fun i_4=>(ite2 ((x1:Int)==i_4) (K (Value.int .i64 x8) hp) (I2 (IntKind.wrap .i64 (x8+1)) hp)))))) (K (Value.int .i64 (-1)) hp))
def F137_j1 (x0a:OA) (x0n x0c:Nat) (x1 x7 x8:Int) (hp:HP) (K:Kh):Prop:=
  (LoopP (σ:=Int) (fun I s hp=>F137_l2 x0a x0n x0c x1 x7  K I s hp) x8 hp)
def F137 (x0a:OA) (x0n x0c:Nat) (x1:Int) (hp:HP) (K:Kh):Prop:=
  (F137_j1 x0a x0n x0c x1 (x0n:Nat) 0 hp  K)
theorem F137_ok (x0a:OA) (x0n x0c:Nat) (x1:Int) (hp:HP) (K:Kh) (h:F137 x0a x0n x0c x1 hp K):CF Tryz.prog 137 [(Value.slice x0a x0n x0c),(Value.int .i64 x1)] hp K:=
  have L:∀ {Q} n,Snd Tryz.prog 19 (cAt Tryz.f137 (pth n)) Q (CW Tryz.prog 19 [] [] (cAt Tryz.f137 (pth n)) Q):=fun _=>Snd.leaf
  okF h Tryz.func137 (Snd.seq (L 2) (Snd.seq (Snd.jn [(0,.s),(1,.i .i64),(7,.i .i64),(8,.i .i64)] (fun a hp=>F137_j1 a.1 a.2.1 a.2.2.1 a.2.2.2.1 a.2.2.2.2.1 a.2.2.2.2.2.1 hp  K) (L 9) (Snd.block 0 (Snd.lp (σ:=Int) [(0,.s),(1,.i .i64),(7,.i .i64),(8,.i .i64)] (fun a=>a.2.2.2.2.2.1) (fun a s=>(a.1,a.2.1,a.2.2.1,a.2.2.2.1,a.2.2.2.2.1,s,())) (fun a I s hp=>F137_l2 a.1 a.2.1 a.2.2.1 a.2.2.2.1 a.2.2.2.2.1  K I s hp) (fun I2=>(L 37)) (by rfl) (by kernel_rfl) (by kernel_rfl))) (by rfl) (by kernel_rfl)) (L 7))) (by kernel_rfl) (by kernel_rfl) (by kernel_rfl)
def F65 (x0:OA) (x1:Int) (x2:List Value) (hp:HP) (K:Kh):Prop:=
  (CF Tryz.prog 88 [(Value.pointer x0)] hp fun u_1 h_2=>(boolV u_1 fun q_3=>(ite2 q_3 (if List.length [(Value.int .i64 0),(Value.int .i64 0),(Value.int .u8 0),(Value.int .u8 0),(Value.int .u8 0),(Value.int .u8 0),(Value.int .u8 0),(Value.int .u8 0),(Value.int .u8 0),(Value.int .u8 0),(Value.int .u8 0),(Value.int .u8 0),(Value.int .u8 0),(Value.int .u8 0),(Value.int .u8 0),(Value.int .u8 0),(Value.int .u8 0),(Value.int .u8 0),(Value.int .i64 0),(Value.int .u8 0),(Value.int .u8 0),(Value.int .u8 0),(Value.int .u8 0),(Value.int .i64 0),(Value.bool false),(Value.int .i64 0)]=26 then (if List.all [(Value.int .i64 0),(Value.int .i64 0),(Value.int .u8 0),(Value.int .u8 0),(Value.int .u8 0),(Value.int .u8 0),(Value.int .u8 0),(Value.int .u8 0),(Value.int .u8 0),(Value.int .u8 0),(Value.int .u8 0),(Value.int .u8 0),(Value.int .u8 0),(Value.int .u8 0),(Value.int .u8 0),(Value.int .u8 0),(Value.int .u8 0),(Value.int .u8 0),(Value.int .i64 0),(Value.int .u8 0),(Value.int .u8 0),(Value.int .u8 0),(Value.int .u8 0),(Value.int .i64 0),(Value.bool false),(Value.int .i64 0)] one=true then (if 0+List.length [(Value.int .i64 0),(Value.int .i64 0),(Value.int .u8 0),(Value.int .u8 0),(Value.int .u8 0),(Value.int .u8 0),(Value.int .u8 0),(Value.int .u8 0),(Value.int .u8 0),(Value.int .u8 0),(Value.int .u8 0),(Value.int .u8 0),(Value.int .u8 0),(Value.int .u8 0),(Value.int .u8 0),(Value.int .u8 0),(Value.int .u8 0),(Value.int .u8 0),(Value.int .i64 0),(Value.int .u8 0),(Value.int .u8 0),(Value.int .u8 0),(Value.int .u8 0),(Value.int .i64 0),(Value.bool false),(Value.int .i64 0)]≤List.length [(Value.int .i64 0),(Value.int .i64 0),(Value.int .u8 0),(Value.int .u8 0),(Value.int .u8 0),(Value.int .u8 0),(Value.int .u8 0),(Value.int .u8 0),(Value.int .u8 0),(Value.int .u8 0),(Value.int .u8 0),(Value.int .u8 0),(Value.int .u8 0),(Value.int .u8 0),(Value.int .u8 0),(Value.int .u8 0),(Value.int .u8 0),(Value.int .u8 0),(Value.int .i64 0),(Value.int .u8 0),(Value.int .u8 0),(Value.int .u8 0),(Value.int .u8 0),(Value.int .i64 0),(Value.bool false),(Value.int .i64 0)] then (ldL (cellsN (splice [(Value.int .i64 0),(Value.int .i64 0),(Value.int .u8 0),(Value.int .u8 0),(Value.int .u8 0),(Value.int .u8 0),(Value.int .u8 0),(Value.int .u8 0),(Value.int .u8 0),(Value.int .u8 0),(Value.int .u8 0),(Value.int .u8 0),(Value.int .u8 0),(Value.int .u8 0),(Value.int .u8 0),(Value.int .u8 0),(Value.int .u8 0),(Value.int .u8 0),(Value.int .i64 0),(Value.int .u8 0),(Value.int .u8 0),(Value.int .u8 0),(Value.int .u8 0),(Value.int .i64 0),(Value.bool false),(Value.int .i64 0)] 0 [(Value.int .i64 0),(Value.int .i64 0),(Value.int .u8 0),(Value.int .u8 0),(Value.int .u8 0),(Value.int .u8 0),(Value.int .u8 0),(Value.int .u8 0),(Value.int .u8 0),(Value.int .u8 0),(Value.int .u8 0),(Value.int .u8 0),(Value.int .u8 0),(Value.int .u8 0),(Value.int .u8 0),(Value.int .u8 0),(Value.int .u8 0),(Value.int .u8 0),(Value.int .i64 0),(Value.int .u8 0),(Value.int .u8 0),(Value.int .u8 0),(Value.int .u8 0),(Value.int .i64 0),(Value.bool false),(Value.int .i64 0)]) 0 26) fun l_4=>(K (.tuple ⟨[(.agg ⟨l_4⟩),(Value.bool false)]⟩) h_2)) else False) else False) else False) ((ptrN x0 fun b_5 o_6=>(ldV (HP.cell h_2 b_5 (o_6+7)) fun v_7=>(ptrV v_7 fun p_8=>(ldL (cellsN x2 0 17) fun l_9=>(CF Tryz.prog 116 [(Value.int .i64 x1),(Value.agg ⟨l_9⟩)] h_2 fun u_10 h_11=>(strV u_10 fun s_12=>(CF Tryz.prog 74 [(Value.pointer p_8),(Value.string s_12)] h_11 fun u_13 h_14=>(tup2V u_13 fun u_15 u_16=>(intV u_15 .i64 fun i_17=>(boolV u_16 fun q_18=>(CF Tryz.prog 89 [(Value.pointer x0),(Value.int .i64 i_17),(Value.bool q_18)] h_14 fun u_19 h_20=>(tup2V u_19 fun u_21 u_22=>(aggV u_21 fun l_23=>(boolV u_22 fun q_24=>(if List.length l_23=26 then (if List.all l_23 one=true then (if 0+List.length l_23≤List.length [(Value.int .i64 0),(Value.int .i64 0),(Value.int .u8 0),(Value.int .u8 0),(Value.int .u8 0),(Value.int .u8 0),(Value.int .u8 0),(Value.int .u8 0),(Value.int .u8 0),(Value.int .u8 0),(Value.int .u8 0),(Value.int .u8 0),(Value.int .u8 0),(Value.int .u8 0),(Value.int .u8 0),(Value.int .u8 0),(Value.int .u8 0),(Value.int .u8 0),(Value.int .i64 0),(Value.int .u8 0),(Value.int .u8 0),(Value.int .u8 0),(Value.int .u8 0),(Value.int .i64 0),(Value.bool false),(Value.int .i64 0)] then (ldL (cellsN (splice [(Value.int .i64 0),(Value.int .i64 0),(Value.int .u8 0),(Value.int .u8 0),(Value.int .u8 0),(Value.int .u8 0),(Value.int .u8 0),(Value.int .u8 0),(Value.int .u8 0),(Value.int .u8 0),(Value.int .u8 0),(Value.int .u8 0),(Value.int .u8 0),(Value.int .u8 0),(Value.int .u8 0),(Value.int .u8 0),(Value.int .u8 0),(Value.int .u8 0),(Value.int .i64 0),(Value.int .u8 0),(Value.int .u8 0),(Value.int .u8 0),(Value.int .u8 0),(Value.int .i64 0),(Value.bool false),(Value.int .i64 0)] 0 l_23) 0 26) fun l_45=>(K (.tuple ⟨[(.agg ⟨l_45⟩),(Value.bool q_24)]⟩) h_20)) else False) else False) else False)))))))))))))))∧(ptrN x0 fun b_25 o_26=>(ldL (cellsN x2 0 17) fun l_27=>(CF Tryz.prog 116 [(Value.int .i64 x1),(Value.agg ⟨l_27⟩)] h_2 fun u_28 h_29=>(strV u_28 fun s_30=>(ldV (HP.cell h_29 b_25 (o_26+7)) fun v_31=>(ptrV v_31 fun p_32=>(CF Tryz.prog 74 [(Value.pointer p_32),(Value.string s_30)] h_29 fun u_33 h_34=>(tup2V u_33 fun u_35 u_36=>(intV u_35 .i64 fun i_37=>(boolV u_36 fun q_38=>(CF Tryz.prog 89 [(Value.pointer x0),(Value.int .i64 i_37),(Value.bool q_38)] h_34 fun u_39 h_40=>(tup2V u_39 fun u_41 u_42=>(aggV u_41 fun l_43=>(boolV u_42 fun q_44=>(if List.length l_43=26 then (if List.all l_43 one=true then (if 0+List.length l_43≤List.length [(Value.int .i64 0),(Value.int .i64 0),(Value.int .u8 0),(Value.int .u8 0),(Value.int .u8 0),(Value.int .u8 0),(Value.int .u8 0),(Value.int .u8 0),(Value.int .u8 0),(Value.int .u8 0),(Value.int .u8 0),(Value.int .u8 0),(Value.int .u8 0),(Value.int .u8 0),(Value.int .u8 0),(Value.int .u8 0),(Value.int .u8 0),(Value.int .u8 0),(Value.int .i64 0),(Value.int .u8 0),(Value.int .u8 0),(Value.int .u8 0),(Value.int .u8 0),(Value.int .i64 0),(Value.bool false),(Value.int .i64 0)] then (ldL (cellsN (splice [(Value.int .i64 0),(Value.int .i64 0),(Value.int .u8 0),(Value.int .u8 0),(Value.int .u8 0),(Value.int .u8 0),(Value.int .u8 0),(Value.int .u8 0),(Value.int .u8 0),(Value.int .u8 0),(Value.int .u8 0),(Value.int .u8 0),(Value.int .u8 0),(Value.int .u8 0),(Value.int .u8 0),(Value.int .u8 0),(Value.int .u8 0),(Value.int .u8 0),(Value.int .i64 0),(Value.int .u8 0),(Value.int .u8 0),(Value.int .u8 0),(Value.int .u8 0),(Value.int .i64 0),(Value.bool false),(Value.int .i64 0)] 0 l_43) 0 26) fun l_46=>(K (.tuple ⟨[(.agg ⟨l_46⟩),(Value.bool q_44)]⟩) h_40)) else False) else False) else False)))))))))))))))))))
theorem F65_ok (x0:OA) (x1:Int) (x2:List Value) (hp:HP) (K:Kh) (h:F65 x0 x1 x2 hp K):CF Tryz.prog 65 [(Value.pointer x0),(Value.int .i64 x1),(Value.agg ⟨x2⟩)] hp K:=
  have L:∀ {Q} n,Snd Tryz.prog 25 (cAt Tryz.f65 (pth n)) Q (CW Tryz.prog 25 [5,6] [(3,[(4,7)],[([true],true,[0,1,2,3,4,5,6,7,8,9,10,11,12,13,14,15]),([false],true,[0,1,2,3,5,6,7,4,8,9,10,11,12,13,14,15])])] (cAt Tryz.f65 (pth n)) Q):=fun _=>Snd.leaf
  okF h Tryz.func65 (L 1) (by kernel_rfl) (by kernel_rfl) (by kernel_rfl)
def F44 (x0:OA) (x1:Int) (x2:List Value) (hp:HP) (K:Kh):Prop:=
  (CF Tryz.prog 88 [(Value.pointer x0)] hp fun u_1 h_2=>(boolV u_1 fun q_3=>(ite2 q_3 (if List.length [(Value.int .i64 0),(Value.int .i64 0),(Value.int .u8 0),(Value.int .u8 0),(Value.int .u8 0),(Value.int .u8 0),(Value.int .u8 0),(Value.int .u8 0),(Value.int .u8 0),(Value.int .u8 0),(Value.int .u8 0),(Value.int .u8 0),(Value.int .u8 0),(Value.int .u8 0),(Value.int .u8 0),(Value.int .u8 0),(Value.int .u8 0),(Value.int .u8 0),(Value.int .i64 0),(Value.int .u8 0),(Value.int .u8 0),(Value.int .u8 0),(Value.int .u8 0),(Value.int .i64 0),(Value.bool false),(Value.int .i64 0)]=26 then (if List.all [(Value.int .i64 0),(Value.int .i64 0),(Value.int .u8 0),(Value.int .u8 0),(Value.int .u8 0),(Value.int .u8 0),(Value.int .u8 0),(Value.int .u8 0),(Value.int .u8 0),(Value.int .u8 0),(Value.int .u8 0),(Value.int .u8 0),(Value.int .u8 0),(Value.int .u8 0),(Value.int .u8 0),(Value.int .u8 0),(Value.int .u8 0),(Value.int .u8 0),(Value.int .i64 0),(Value.int .u8 0),(Value.int .u8 0),(Value.int .u8 0),(Value.int .u8 0),(Value.int .i64 0),(Value.bool false),(Value.int .i64 0)] one=true then (if 0+List.length [(Value.int .i64 0),(Value.int .i64 0),(Value.int .u8 0),(Value.int .u8 0),(Value.int .u8 0),(Value.int .u8 0),(Value.int .u8 0),(Value.int .u8 0),(Value.int .u8 0),(Value.int .u8 0),(Value.int .u8 0),(Value.int .u8 0),(Value.int .u8 0),(Value.int .u8 0),(Value.int .u8 0),(Value.int .u8 0),(Value.int .u8 0),(Value.int .u8 0),(Value.int .i64 0),(Value.int .u8 0),(Value.int .u8 0),(Value.int .u8 0),(Value.int .u8 0),(Value.int .i64 0),(Value.bool false),(Value.int .i64 0)]≤List.length [(Value.int .i64 0),(Value.int .i64 0),(Value.int .u8 0),(Value.int .u8 0),(Value.int .u8 0),(Value.int .u8 0),(Value.int .u8 0),(Value.int .u8 0),(Value.int .u8 0),(Value.int .u8 0),(Value.int .u8 0),(Value.int .u8 0),(Value.int .u8 0),(Value.int .u8 0),(Value.int .u8 0),(Value.int .u8 0),(Value.int .u8 0),(Value.int .u8 0),(Value.int .i64 0),(Value.int .u8 0),(Value.int .u8 0),(Value.int .u8 0),(Value.int .u8 0),(Value.int .i64 0),(Value.bool false),(Value.int .i64 0)] then (ldL (cellsN (splice [(Value.int .i64 0),(Value.int .i64 0),(Value.int .u8 0),(Value.int .u8 0),(Value.int .u8 0),(Value.int .u8 0),(Value.int .u8 0),(Value.int .u8 0),(Value.int .u8 0),(Value.int .u8 0),(Value.int .u8 0),(Value.int .u8 0),(Value.int .u8 0),(Value.int .u8 0),(Value.int .u8 0),(Value.int .u8 0),(Value.int .u8 0),(Value.int .u8 0),(Value.int .i64 0),(Value.int .u8 0),(Value.int .u8 0),(Value.int .u8 0),(Value.int .u8 0),(Value.int .i64 0),(Value.bool false),(Value.int .i64 0)] 0 [(Value.int .i64 0),(Value.int .i64 0),(Value.int .u8 0),(Value.int .u8 0),(Value.int .u8 0),(Value.int .u8 0),(Value.int .u8 0),(Value.int .u8 0),(Value.int .u8 0),(Value.int .u8 0),(Value.int .u8 0),(Value.int .u8 0),(Value.int .u8 0),(Value.int .u8 0),(Value.int .u8 0),(Value.int .u8 0),(Value.int .u8 0),(Value.int .u8 0),(Value.int .i64 0),(Value.int .u8 0),(Value.int .u8 0),(Value.int .u8 0),(Value.int .u8 0),(Value.int .i64 0),(Value.bool false),(Value.int .i64 0)]) 0 26) fun l_4=>(K (.tuple ⟨[(.agg ⟨l_4⟩),(Value.bool false)]⟩) h_2)) else False) else False) else False) ((ptrN x0 fun b_5 o_6=>(ldV (HP.cell h_2 b_5 (o_6+8)) fun v_7=>(ptrV v_7 fun p_8=>(ldL (cellsN x2 0 5) fun l_9=>(CF Tryz.prog 90 [(Value.int .i64 x1),(Value.agg ⟨l_9⟩)] h_2 fun u_10 h_11=>(strV u_10 fun s_12=>(CF Tryz.prog 74 [(Value.pointer p_8),(Value.string s_12)] h_11 fun u_13 h_14=>(tup2V u_13 fun u_15 u_16=>(intV u_15 .i64 fun i_17=>(boolV u_16 fun q_18=>(CF Tryz.prog 89 [(Value.pointer x0),(Value.int .i64 i_17),(Value.bool q_18)] h_14 fun u_19 h_20=>(tup2V u_19 fun u_21 u_22=>(aggV u_21 fun l_23=>(boolV u_22 fun q_24=>(if List.length l_23=26 then (if List.all l_23 one=true then (if 0+List.length l_23≤List.length [(Value.int .i64 0),(Value.int .i64 0),(Value.int .u8 0),(Value.int .u8 0),(Value.int .u8 0),(Value.int .u8 0),(Value.int .u8 0),(Value.int .u8 0),(Value.int .u8 0),(Value.int .u8 0),(Value.int .u8 0),(Value.int .u8 0),(Value.int .u8 0),(Value.int .u8 0),(Value.int .u8 0),(Value.int .u8 0),(Value.int .u8 0),(Value.int .u8 0),(Value.int .i64 0),(Value.int .u8 0),(Value.int .u8 0),(Value.int .u8 0),(Value.int .u8 0),(Value.int .i64 0),(Value.bool false),(Value.int .i64 0)] then (ldL (cellsN (splice [(Value.int .i64 0),(Value.int .i64 0),(Value.int .u8 0),(Value.int .u8 0),(Value.int .u8 0),(Value.int .u8 0),(Value.int .u8 0),(Value.int .u8 0),(Value.int .u8 0),(Value.int .u8 0),(Value.int .u8 0),(Value.int .u8 0),(Value.int .u8 0),(Value.int .u8 0),(Value.int .u8 0),(Value.int .u8 0),(Value.int .u8 0),(Value.int .u8 0),(Value.int .i64 0),(Value.int .u8 0),(Value.int .u8 0),(Value.int .u8 0),(Value.int .u8 0),(Value.int .i64 0),(Value.bool false),(Value.int .i64 0)] 0 l_23) 0 26) fun l_45=>(K (.tuple ⟨[(.agg ⟨l_45⟩),(Value.bool q_24)]⟩) h_20)) else False) else False) else False)))))))))))))))∧(ptrN x0 fun b_25 o_26=>(ldL (cellsN x2 0 5) fun l_27=>(CF Tryz.prog 90 [(Value.int .i64 x1),(Value.agg ⟨l_27⟩)] h_2 fun u_28 h_29=>(strV u_28 fun s_30=>(ldV (HP.cell h_29 b_25 (o_26+8)) fun v_31=>(ptrV v_31 fun p_32=>(CF Tryz.prog 74 [(Value.pointer p_32),(Value.string s_30)] h_29 fun u_33 h_34=>(tup2V u_33 fun u_35 u_36=>(intV u_35 .i64 fun i_37=>(boolV u_36 fun q_38=>(CF Tryz.prog 89 [(Value.pointer x0),(Value.int .i64 i_37),(Value.bool q_38)] h_34 fun u_39 h_40=>(tup2V u_39 fun u_41 u_42=>(aggV u_41 fun l_43=>(boolV u_42 fun q_44=>(if List.length l_43=26 then (if List.all l_43 one=true then (if 0+List.length l_43≤List.length [(Value.int .i64 0),(Value.int .i64 0),(Value.int .u8 0),(Value.int .u8 0),(Value.int .u8 0),(Value.int .u8 0),(Value.int .u8 0),(Value.int .u8 0),(Value.int .u8 0),(Value.int .u8 0),(Value.int .u8 0),(Value.int .u8 0),(Value.int .u8 0),(Value.int .u8 0),(Value.int .u8 0),(Value.int .u8 0),(Value.int .u8 0),(Value.int .u8 0),(Value.int .i64 0),(Value.int .u8 0),(Value.int .u8 0),(Value.int .u8 0),(Value.int .u8 0),(Value.int .i64 0),(Value.bool false),(Value.int .i64 0)] then (ldL (cellsN (splice [(Value.int .i64 0),(Value.int .i64 0),(Value.int .u8 0),(Value.int .u8 0),(Value.int .u8 0),(Value.int .u8 0),(Value.int .u8 0),(Value.int .u8 0),(Value.int .u8 0),(Value.int .u8 0),(Value.int .u8 0),(Value.int .u8 0),(Value.int .u8 0),(Value.int .u8 0),(Value.int .u8 0),(Value.int .u8 0),(Value.int .u8 0),(Value.int .u8 0),(Value.int .i64 0),(Value.int .u8 0),(Value.int .u8 0),(Value.int .u8 0),(Value.int .u8 0),(Value.int .i64 0),(Value.bool false),(Value.int .i64 0)] 0 l_43) 0 26) fun l_46=>(K (.tuple ⟨[(.agg ⟨l_46⟩),(Value.bool q_44)]⟩) h_40)) else False) else False) else False)))))))))))))))))))
theorem F44_ok (x0:OA) (x1:Int) (x2:List Value) (hp:HP) (K:Kh) (h:F44 x0 x1 x2 hp K):CF Tryz.prog 44 [(Value.pointer x0),(Value.int .i64 x1),(Value.agg ⟨x2⟩)] hp K:=
  have L:∀ {Q} n,Snd Tryz.prog 25 (cAt Tryz.f44 (pth n)) Q (CW Tryz.prog 25 [5,6] [(3,[(4,7)],[([true],true,[0,1,2,3,4,5,6,7,8,9,10,11,12,13,14,15]),([false],true,[0,1,2,3,5,6,7,4,8,9,10,11,12,13,14,15])])] (cAt Tryz.f44 (pth n)) Q):=fun _=>Snd.leaf
  okF h Tryz.func44 (L 1) (by kernel_rfl) (by kernel_rfl) (by kernel_rfl)
def F61 (x0:OA) (x1:Int) (hp:HP) (K:Kh):Prop:=
  (CF Tryz.prog 88 [(Value.pointer x0)] hp fun u_1 h_2=>(boolV u_1 fun q_3=>(ite2 q_3 (if List.length [(Value.int .i64 0),(Value.int .i64 0),(Value.int .u8 0),(Value.int .u8 0),(Value.int .u8 0),(Value.int .u8 0),(Value.int .u8 0),(Value.int .u8 0),(Value.int .u8 0),(Value.int .u8 0),(Value.int .u8 0),(Value.int .u8 0),(Value.int .u8 0),(Value.int .u8 0),(Value.int .u8 0),(Value.int .u8 0),(Value.int .u8 0),(Value.int .u8 0),(Value.int .i64 0),(Value.int .u8 0),(Value.int .u8 0),(Value.int .u8 0),(Value.int .u8 0),(Value.int .i64 0),(Value.bool false),(Value.int .i64 0)]=26 then (if List.all [(Value.int .i64 0),(Value.int .i64 0),(Value.int .u8 0),(Value.int .u8 0),(Value.int .u8 0),(Value.int .u8 0),(Value.int .u8 0),(Value.int .u8 0),(Value.int .u8 0),(Value.int .u8 0),(Value.int .u8 0),(Value.int .u8 0),(Value.int .u8 0),(Value.int .u8 0),(Value.int .u8 0),(Value.int .u8 0),(Value.int .u8 0),(Value.int .u8 0),(Value.int .i64 0),(Value.int .u8 0),(Value.int .u8 0),(Value.int .u8 0),(Value.int .u8 0),(Value.int .i64 0),(Value.bool false),(Value.int .i64 0)] one=true then (if 0+List.length [(Value.int .i64 0),(Value.int .i64 0),(Value.int .u8 0),(Value.int .u8 0),(Value.int .u8 0),(Value.int .u8 0),(Value.int .u8 0),(Value.int .u8 0),(Value.int .u8 0),(Value.int .u8 0),(Value.int .u8 0),(Value.int .u8 0),(Value.int .u8 0),(Value.int .u8 0),(Value.int .u8 0),(Value.int .u8 0),(Value.int .u8 0),(Value.int .u8 0),(Value.int .i64 0),(Value.int .u8 0),(Value.int .u8 0),(Value.int .u8 0),(Value.int .u8 0),(Value.int .i64 0),(Value.bool false),(Value.int .i64 0)]≤List.length [(Value.int .i64 0),(Value.int .i64 0),(Value.int .u8 0),(Value.int .u8 0),(Value.int .u8 0),(Value.int .u8 0),(Value.int .u8 0),(Value.int .u8 0),(Value.int .u8 0),(Value.int .u8 0),(Value.int .u8 0),(Value.int .u8 0),(Value.int .u8 0),(Value.int .u8 0),(Value.int .u8 0),(Value.int .u8 0),(Value.int .u8 0),(Value.int .u8 0),(Value.int .i64 0),(Value.int .u8 0),(Value.int .u8 0),(Value.int .u8 0),(Value.int .u8 0),(Value.int .i64 0),(Value.bool false),(Value.int .i64 0)] then (ldL (cellsN (splice [(Value.int .i64 0),(Value.int .i64 0),(Value.int .u8 0),(Value.int .u8 0),(Value.int .u8 0),(Value.int .u8 0),(Value.int .u8 0),(Value.int .u8 0),(Value.int .u8 0),(Value.int .u8 0),(Value.int .u8 0),(Value.int .u8 0),(Value.int .u8 0),(Value.int .u8 0),(Value.int .u8 0),(Value.int .u8 0),(Value.int .u8 0),(Value.int .u8 0),(Value.int .i64 0),(Value.int .u8 0),(Value.int .u8 0),(Value.int .u8 0),(Value.int .u8 0),(Value.int .i64 0),(Value.bool false),(Value.int .i64 0)] 0 [(Value.int .i64 0),(Value.int .i64 0),(Value.int .u8 0),(Value.int .u8 0),(Value.int .u8 0),(Value.int .u8 0),(Value.int .u8 0),(Value.int .u8 0),(Value.int .u8 0),(Value.int .u8 0),(Value.int .u8 0),(Value.int .u8 0),(Value.int .u8 0),(Value.int .u8 0),(Value.int .u8 0),(Value.int .u8 0),(Value.int .u8 0),(Value.int .u8 0),(Value.int .i64 0),(Value.int .u8 0),(Value.int .u8 0),(Value.int .u8 0),(Value.int .u8 0),(Value.int .i64 0),(Value.bool false),(Value.int .i64 0)]) 0 26) fun l_4=>(K (.tuple ⟨[(.agg ⟨l_4⟩),(Value.bool false)]⟩) h_2)) else False) else False) else False) (ptrN x0 fun b_5 o_6=>(ldV (HP.cell h_2 b_5 (o_6+6)) fun v_7=>(mapV v_7 fun m_8=>(rdS Tryz.prog (Instr.lookup 103 (Value.map m_8) (Value.int .i64 x1) true) h_2 fun u_9=>(tup2V u_9 fun u_10 u_11=>(ptrV u_10 fun p_12=>(boolV u_11 fun q_13=>(CF Tryz.prog 89 [(Value.pointer x0),(Value.int .i64 x1),(Value.bool q_13)] h_2 fun u_14 h_15=>(tup2V u_14 fun u_16 u_17=>(aggV u_16 fun l_18=>(boolV u_17 fun q_19=>(if List.length l_18=26 then (if List.all l_18 one=true then (if 0+List.length l_18≤List.length [(Value.int .i64 0),(Value.int .i64 0),(Value.int .u8 0),(Value.int .u8 0),(Value.int .u8 0),(Value.int .u8 0),(Value.int .u8 0),(Value.int .u8 0),(Value.int .u8 0),(Value.int .u8 0),(Value.int .u8 0),(Value.int .u8 0),(Value.int .u8 0),(Value.int .u8 0),(Value.int .u8 0),(Value.int .u8 0),(Value.int .u8 0),(Value.int .u8 0),(Value.int .i64 0),(Value.int .u8 0),(Value.int .u8 0),(Value.int .u8 0),(Value.int .u8 0),(Value.int .i64 0),(Value.bool false),(Value.int .i64 0)] then (ldL (cellsN (splice [(Value.int .i64 0),(Value.int .i64 0),(Value.int .u8 0),(Value.int .u8 0),(Value.int .u8 0),(Value.int .u8 0),(Value.int .u8 0),(Value.int .u8 0),(Value.int .u8 0),(Value.int .u8 0),(Value.int .u8 0),(Value.int .u8 0),(Value.int .u8 0),(Value.int .u8 0),(Value.int .u8 0),(Value.int .u8 0),(Value.int .u8 0),(Value.int .u8 0),(Value.int .i64 0),(Value.int .u8 0),(Value.int .u8 0),(Value.int .u8 0),(Value.int .u8 0),(Value.int .i64 0),(Value.bool false),(Value.int .i64 0)] 0 l_18) 0 26) fun l_20=>(K (.tuple ⟨[(.agg ⟨l_20⟩),(Value.bool q_19)]⟩) h_15)) else False) else False) else False)))))))))))))))
theorem F61_ok (x0:OA) (x1:Int) (hp:HP) (K:Kh) (h:F61 x0 x1 hp K):CF Tryz.prog 61 [(Value.pointer x0),(Value.int .i64 x1)] hp K:=
  have L:∀ {Q} n,Snd Tryz.prog 26 (cAt Tryz.f61 (pth n)) Q (CW Tryz.prog 26 [4] [] (cAt Tryz.f61 (pth n)) Q):=fun _=>Snd.leaf
  okF h Tryz.func61 (L 1) (by kernel_rfl) (by kernel_rfl) (by kernel_rfl)
end Go.Proofs
set_option linter.unusedVariables false
set_option linter.unusedSimpArgs false
set_option maxRecDepth 20000
namespace Go.Proofs
open Go Go.HL
/-- An inner address: sixteen bytes, by fours. -/
abbrev V6:=Q × Q × Q × Q
theorem pq (p:Nat) (c:Option Addr→Prop):ptrV (ptr p 0) c=c (some ⟨p,0,none⟩):=rfl
theorem t4_all (t:Q × Int):cellsN (t4 t) 0 5=some (t4 t):=rfl
set_option synthInstance.maxSize 2000 in
set_option synthInstance.maxHeartbeats 400000 in
instance instV6:DecidableEq V6:=inferInstance
instance instT6:DecidableEq (V6 × Int):=instDecidableEqProd
def v6 (a:V6):List Value:=v4 a.1++(v4 a.2.1++(v4 a.2.2.1++v4 a.2.2.2))
def t6 (t:V6 × Int):List Value:=v6 t.1++[.int .i64 t.2]
theorem t6_len (t:V6 × Int):(t6 t).length=17:=rfl
theorem t6_cells (t:V6 × Int):cellsN (t6 t) 0 17=some (t6 t):=rfl
theorem t6_addr (t:V6 × Int):cellsN (t6 t) 0 16=some (v6 t.1):=rfl
theorem t6_port (t:V6 × Int):(t6 t)[16]?=some (.int .i64 t.2):=rfl
theorem v6_cells (a:V6):cellsN (v6 a) 0 16=some (v6 a):=rfl
theorem v6_inj {a b:V6}:v6 a=v6 b↔a=b:=by
  constructor
  · intro h
    obtain ⟨⟨a1,a2,a3,a4⟩,⟨a5,a6,a7,a8⟩,⟨a9,a10,a11,a12⟩,⟨a13,a14,a15,a16⟩⟩:=a
    obtain ⟨⟨b1,b2,b3,b4⟩,⟨b5,b6,b7,b8⟩,⟨b9,b10,b11,b12⟩,⟨b13,b14,b15,b16⟩⟩:=b
    simp only [v6,v4,List.cons_append,List.nil_append,List.cons.injEq,Value.int.injEq,true_and,and_true] at h
    obtain ⟨rfl,rfl,rfl,rfl,rfl,rfl,rfl,rfl,rfl,rfl,rfl,rfl,rfl,rfl,rfl,rfl⟩:=h
    rfl
  · rintro rfl; rfl
theorem t6_inj {a b:V6 × Int}:t6 a=t6 b↔a=b:=by
  constructor
  · intro h
    unfold t6 at h
    obtain ⟨h1,h2⟩:=List.append_inj h rfl
    simp only [List.cons.injEq,Value.int.injEq,true_and,and_true] at h2
    exact Prod.ext (v6_inj.1 h1) h2
  · rintro rfl; rfl
theorem v6_shaped (a:V6):shaped Tryz.prog 4 93 (v6 a)=true:=by kernel_rfl
theorem eq30 {a b:V6} {c:Bool→Prop} (h:c (decide (a=b))):eqAgg Tryz.prog 93 (v6 a) (v6 b) c:=
  eqAgg_of (m:=4) (D:=4) (by kernel_rfl) (v6_shaped a) (v6_shaped b) (by simp [v6_inj]) h
def qi6 (a:V6):List Int:=qi a.1++(qi a.2.1++(qi a.2.2.1++qi a.2.2.2))
def bs6 (a:V6):List UInt8:=(qi6 a).map u8
def ok6 (a:V6):Prop:=okQ a.1∧okQ a.2.1∧okQ a.2.2.1∧okQ a.2.2.2
def okT6 (t:V6 × Int):Prop:=ok6 t.1∧okZ t.2
theorem bs6_inj {a b:V6} (ha:ok6 a) (hb:ok6 b) (h:bs6 a=bs6 b):a=b:=by
  simp only [bs6,qi6,List.map_append] at h
  obtain ⟨h1,h⟩:=List.append_inj h rfl
  obtain ⟨h2,h⟩:=List.append_inj h rfl
  obtain ⟨h3,h4⟩:=List.append_inj h rfl
  exact Prod.ext (bs_inj ha.1 hb.1 h1) (Prod.ext (bs_inj ha.2.1 hb.2.1 h2) (Prod.ext (bs_inj ha.2.2.1 hb.2.2.1 h3) (bs_inj ha.2.2.2 hb.2.2.2 h4)))
/-- The keys. -/
def key6 (p:Int) (t:V6 × Int):ByteArray:=⟨(keyL p t.2 (bs6 t.1)).toArray⟩
def key4 (p:Int) (t:Q × Int):ByteArray:=⟨(keyL p t.2 (bs t.1)).toArray⟩
theorem keyA_inj {a b c d:Int} {l m:List UInt8} (h:(⟨(keyL a b l).toArray⟩:ByteArray)=⟨(keyL c d m).toArray⟩):a=c∧b=d∧l=m:=by
  refine keyL_inj ?_
  have:=congrArg ByteArray.data h
  have:=congrArg Array.toList this
  simpa using this
theorem key6_inj {p q:Int} {s t:V6 × Int} (hs:okT6 s) (ht:okT6 t) (h:key6 p s=key6 q t):p=q∧s=t:=by
  obtain ⟨a,b,c⟩:=keyA_inj h
  exact ⟨a,Prod.ext (bs6_inj hs.1 ht.1 c) b⟩
theorem key4_inj {p q:Int} {s t:Q × Int} (hs:okT s) (ht:okT t) (h:key4 p s=key4 q t):p=q∧s=t:=by
  obtain ⟨a,b,c⟩:=keyA_inj h
  exact ⟨a,Prod.ext (bs_inj hs.1 ht.1 c) b⟩
theorem keyA_app (a b:Int) (l:List UInt8):((((itS a++(⟨#[32]⟩:ByteArray))++itS b)++(⟨#[32]⟩:ByteArray))++byS l)=⟨(keyL a b l).toArray⟩:=by
  have e:(⟨#[32]⟩:ByteArray)=byS [32]:=rfl
  have e2:∀ n,itS n=byS (Lib.itoa n):=fun _=>rfl
  have e3:(⟨(keyL a b l).toArray⟩:ByteArray)=byS (keyL a b l):=rfl
  rw [e,e2,e2,e3,byS_app,byS_app,byS_app,byS_app]
  congr 1
  simp [keyL]
set_option maxHeartbeats 2000000 in
theorem C116 {tb:Obj} {p:Int} {o:V6 × Int} {hp:HP} {K:Value→HP→Prop} (ht:TabR tb hp) (hp':okZ p) (ho:okZ o.2) (hK:K (.string (key6 p o)) hp):CF Tryz.prog 116 [.int .i64 p,.agg ⟨t6 o⟩] hp K:=by
  refine CF.drop (F116_ok p (t6 o) hp _ ?_)
  unfold F116
  intro b1 hb1
  have ht2:TabR tb (hp.set b1 (.cells 95 (t6 o) 0)):=ht.set hb1 _
  have hs2:HSub hp (hp.set b1 (.cells 95 (t6 o) 0)):=HSub.set_fresh hp _ hb1
  have x1:(hp.set b1 (.cells 95 (t6 o) 0)) b1=.cells 95 (t6 o) 0:=HP.set_eq ..
  generalize hp.set b1 (.cells 95 (t6 o) 0)=hp2 at *
  have y1:hp2.cell b1 16=some (.int .i64 o.2):=HP.cell_of x1
  have z1:hp2.cellN b1 0 16=some ((qi6 o.1).map (Value.int .u8)):=by rw [HP.cellN_of x1]; rfl
  have i1:=itS_size ho
  have i2:=itS_size hp'
  have b1s:(byS (bs6 o.1)).size=16:=rfl
  have e32:(⟨#[32]⟩:ByteArray).size=1:=rfl
  have c1:∀ {K:Value→HP→Prop},K (.string (itS o.2)) hp2→CF Tryz.prog 119 [.int .i64 o.2] hp2 K:=fun h=>C119 ht2 ho h
  have c2:∀ {K:Value→HP→Prop},K (.string (itS p)) hp2→CF Tryz.prog 119 [.int .i64 p] hp2 K:=fun h=>C119 ht2 hp' h
  have r1:∀ {c:Value→Prop},c (.string (byS (bs6 o.1)))→rdS Tryz.prog (convert 193 9 (.slice (some ⟨b1,0,none⟩) 16 16)) hp2 c:=fun h=>rdS_bytes (e:=5) (by kernel_rfl) (by kernel_rfl) (by kernel_rfl) rfl z1 h
  have fin:∃ hp'',HSub hp'' hp2∧K (.string ((((itS p++(⟨#[32]⟩:ByteArray))++itS o.2)++(⟨#[32]⟩:ByteArray))++byS (bs6 o.1))) hp'':=⟨hp,hs2,by rw [keyA_app]; exact hK⟩
  clear x1 z1 ht2 ht hs2 hb1 hK
  generalize itS o.2=s1 at *
  generalize itS p=s2 at *
  generalize byS (bs6 o.1)=s3 at *
  simp only [ptrN_some,Nat.zero_add,y1,ldV_some,intV_int]
  repeat' apply And.intro
  all_goals repeat (first
    | exact fin
    | (refine c1 ?_; rw [strV_string])
    | (refine c2 ?_; rw [strV_string])
    | (refine r1 ?_; rw [strV_string])
    | (refine ⟨by first | omega | (simp only [str_app]; omega),?_⟩)
    | (simp only [y1,ldV_some,intV_int,ptrN_some,Nat.zero_add])
    | omega
    | (simp only [str_app]; omega))
set_option maxHeartbeats 2000000 in
theorem C90 {tb:Obj} {p:Int} {o:Q × Int} {hp:HP} {K:Value→HP→Prop} (ht:TabR tb hp) (hp':okZ p) (ho:okZ o.2) (hK:K (.string (key4 p o)) hp):CF Tryz.prog 90 [.int .i64 p,.agg ⟨t4 o⟩] hp K:=by
  refine CF.drop (F90_ok p (t4 o) hp _ ?_)
  unfold F90
  intro b1 hb1
  have ht2:TabR tb (hp.set b1 (.cells 56 (t4 o) 0)):=ht.set hb1 _
  have hs2:HSub hp (hp.set b1 (.cells 56 (t4 o) 0)):=HSub.set_fresh hp _ hb1
  have x1:(hp.set b1 (.cells 56 (t4 o) 0)) b1=.cells 56 (t4 o) 0:=HP.set_eq ..
  generalize hp.set b1 (.cells 56 (t4 o) 0)=hp2 at *
  have y1:hp2.cell b1 4=some (.int .i64 o.2):=HP.cell_of x1
  have z1:hp2.cellN b1 0 4=some ((qi o.1).map (Value.int .u8)):=by rw [HP.cellN_of x1]; rfl
  have i1:=itS_size ho
  have i2:=itS_size hp'
  have b1s:(byS (bs o.1)).size=4:=rfl
  have e32:(⟨#[32]⟩:ByteArray).size=1:=rfl
  have c1:∀ {K:Value→HP→Prop},K (.string (itS o.2)) hp2→CF Tryz.prog 119 [.int .i64 o.2] hp2 K:=fun h=>C119 ht2 ho h
  have c2:∀ {K:Value→HP→Prop},K (.string (itS p)) hp2→CF Tryz.prog 119 [.int .i64 p] hp2 K:=fun h=>C119 ht2 hp' h
  have r1:∀ {c:Value→Prop},c (.string (byS (bs o.1)))→rdS Tryz.prog (convert 193 9 (.slice (some ⟨b1,0,none⟩) 4 4)) hp2 c:=fun h=>rdS_bytes (e:=5) (by kernel_rfl) (by kernel_rfl) (by kernel_rfl) rfl z1 h
  have fin:∃ hp'',HSub hp'' hp2∧K (.string ((((itS p++(⟨#[32]⟩:ByteArray))++itS o.2)++(⟨#[32]⟩:ByteArray))++byS (bs o.1))) hp'':=⟨hp,hs2,by rw [keyA_app]; exact hK⟩
  clear x1 z1 ht2 ht hs2 hb1 hK
  generalize itS o.2=s1 at *
  generalize itS p=s2 at *
  generalize byS (bs o.1)=s3 at *
  simp only [ptrN_some,Nat.zero_add,y1,ldV_some,intV_int]
  repeat' apply And.intro
  all_goals repeat (first
    | exact fin
    | (refine c1 ?_; rw [strV_string])
    | (refine c2 ?_; rw [strV_string])
    | (refine r1 ?_; rw [strV_string])
    | (refine ⟨by first | omega | (simp only [str_app]; omega),?_⟩)
    | (simp only [y1,ldV_some,intV_int,ptrN_some,Nat.zero_add])
    | omega
    | (simp only [str_app]; omega))
/-- The pool of a protocol. -/
def kindB (p:Int):Int:=if p=1 then 0 else if p=6 then 1 else if p=17 then 2 else -1
theorem C137 {b:Nat} {x:Int} {hp:HP} {K:Value→HP→Prop} (hb:hp b=.cells 3 [.int .i64 1,.int .i64 6,.int .i64 17] 0) (h:K (.int .i64 (kindB x)) hp):CF Tryz.prog 137 [.slice (some ⟨b,0,none⟩) 3 3,.int .i64 x] hp K:=by
  refine F137_ok _ 3 3 x hp K ?_
  unfold F137 F137_j1
  have hc:∀ t,hp.cell b t=_:=fun t=>HP.cell_of hb
  have hc0:hp.cell b 0=some (.int .i64 1):=hc 0
  have hc1:hp.cell b 1=some (.int .i64 6):=hc 1
  have hc2:hp.cell b 2=some (.int .i64 17):=hc 2
  refine LoopP.by (J:=fun k (i:Int) hp'=>hp'=hp∧((i=0∧k=3)∨(i=1∧k=2∧x≠1)∨(i=2∧k=1∧x≠1∧x≠6)∨(i=3∧k=0∧x≠1∧x≠6∧x≠17))) ?_ (n:=3) ⟨rfl,.inl ⟨rfl,rfl⟩⟩
  rintro I k i hp' ⟨rfl,hcs⟩ hI
  unfold F137_l2
  rcases hcs with ⟨rfl,rfl⟩ | ⟨rfl,rfl,h1⟩ | ⟨rfl,rfl,h1,h2⟩ | ⟨rfl,rfl,h1,h2,h3⟩
  · rw [decide_eq_true (by omega),ite2_true]
    refine ⟨by omega,by omega,?_⟩
    show ldV (hp'.cell b 0) _
    rw [hc0,ldV_some,intV_int]
    by_cases e:x=1
    · rw [show (x==1)=true from by simp [e],ite2_true]
      simpa [kindB,e] using h
    · rw [show (x==1)=false from by simp [e],ite2_false]
      exact hI 2 _ _ (by omega) ⟨rfl,.inr (.inl ⟨rfl,rfl,e⟩)⟩
  · rw [decide_eq_true (by omega),ite2_true]
    refine ⟨by omega,by omega,?_⟩
    show ldV (hp'.cell b 1) _
    rw [hc1,ldV_some,intV_int]
    by_cases e:x=6
    · rw [show (x==6)=true from by simp [e],ite2_true]
      simpa [kindB,e] using h
    · rw [show (x==6)=false from by simp [e],ite2_false]
      exact hI 1 _ _ (by omega) ⟨rfl,.inr (.inr (.inl ⟨rfl,rfl,h1,e⟩))⟩
  · rw [decide_eq_true (by omega),ite2_true]
    refine ⟨by omega,by omega,?_⟩
    show ldV (hp'.cell b 2) _
    rw [hc2,ldV_some,intV_int]
    by_cases e:x=17
    · rw [show (x==17)=true from by simp [e],ite2_true]
      simpa [kindB,e] using h
    · rw [show (x==17)=false from by simp [e],ite2_false]
      exact hI 0 _ _ (by omega) ⟨rfl,.inr (.inr (.inr ⟨rfl,rfl,h1,h2,e⟩))⟩
  · rw [decide_eq_false (by omega),ite2_false]
    simpa [kindB,h1,h2,h3] using h
theorem C98 {x:Int} {hp:HP} {K:Value→HP→Prop} (h:K (.int .i64 (kindB x)) hp):CF Tryz.prog 98 [.int .i64 x] hp K:=by
  refine CF.drop (F98_ok x hp _ ?_)
  unfold F98
  intro b hb
  refine C137 (HP.set_eq ..) ?_
  rw [intV_int]
  exact ⟨hp,HSub.set_fresh hp _ hb,h⟩
theorem C99 {x:Int} {hp:HP} {K:Value→HP→Prop} (h:K (.bool (isPort x)) hp):CF Tryz.prog 99 [.int .i64 x] hp K:=by
  refine F99_ok x hp K ?_
  unfold F99
  unfold isPort at h
  by_cases h0:0≤x
  · simpa [h0] using h
  · simpa [h0] using h
end Go.Proofs
