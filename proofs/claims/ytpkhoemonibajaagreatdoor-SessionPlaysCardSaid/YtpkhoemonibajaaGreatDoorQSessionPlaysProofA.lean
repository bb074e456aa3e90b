/- Parts of the proof of SessionPlaysProof: the logic of what is known of memory, functions' contracts. -/
import Derived.Test.YtpkhoemonibajaaGreatDoorHlCW
import Derived.Test.YtpkhoemonibajaaGreatDoorHlMapL
import Derived.Test.YtpkhoemonibajaaGreatDoorHlUse2
import Derived.Test.YtpkhoemonibajaaGreatDoorHlSort
import Derived.Test.YtpkhoemonibajaaGreatDoorHlLib
import Derived.Sort.LotD3
import Derived.Test.YtpkhoemonibajaaGreatDoorHlCW
import Derived.Test.YtpkhoemonibajaaGreatDoorProg
import Derived.Test.YtpkhoemonibajaaGreatDoorHlRangeS
import Derived.Test.YtpkhoemonibajaaGreatDoorHlMake
import Derived.Test.YtpkhoemonibajaaGreatDoorHlStr
import Derived.Test.YtpkhoemonibajaaGreatDoorHlAbb
import Derived.Sort.LotA
import Derived.Test.YtpkhoemonibajaaGreatDoorHlFrame
import Derived.KernelRfl
import Derived.Test.YtpkhoemonibajaaGreatDoorHlMapE
import Derived.Sort.LotD2
import Derived.Test.YtpkhoemonibajaaGreatDoorHlParts2
import Derived.Shelf.Strconv.Itoa3
import Derived.ChangeKeysEq
import Derived.Lib.ItoaNum
import Derived.Test.YtpkhoemonibajaaGreatDoorHlBytes
import Derived.Lib.ItoaLen
import Derived.Lib.Overlaps
import Derived.Laws.Externs
import Derived.Test.YtpkhoemonibajaaGreatDoorHlMid
import Derived.Test.YtpkhoemonibajaaGreatDoorHlRange
import Derived.Sort.LotB
import Derived.Sort.LotC
set_option linter.unusedVariables false
set_option linter.unusedSimpArgs false
set_option linter.unusedVariables false
namespace Go.HL
open Go
/-- So many places on, counted round. -/
def nx (N a u:Nat):Nat:=if a+u<N then a+u else a+u-N
/-- How many places on another one is. -/
def ds (N a b:Nat):Nat:=if a≤b then b-a else b+N-a
theorem nx_ds {N a b:Nat} (ha:a<N) (hb:b<N):nx N a (ds N a b)=b:=by unfold nx ds; split <;> split <;> omega
theorem ds_nx {N a u:Nat} (ha:a<N) (hu:u<N):ds N a (nx N a u)=u:=by unfold nx ds; split <;> split <;> omega
theorem nx_lt {N a u:Nat} (ha:a<N) (hu:u≤N):nx N a u<N:=by unfold nx; split <;> omega
theorem ds_lt {N a b:Nat} (ha:a<N) (hb:b<N):ds N a b<N:=by unfold ds; split <;> omega
theorem nx_zero {N a:Nat} (ha:a<N):nx N a 0=a:=by unfold nx; split <;> omega
theorem nx_cases (N a u:Nat):(a+u<N∧nx N a u=a+u)∨(N≤a+u∧nx N a u=a+u-N):=by unfold nx; split <;> omega
theorem ds_cases (N a b:Nat):(a≤b∧ds N a b=b-a)∨(b<a∧ds N a b=b+N-a):=by unfold ds; split <;> omega
theorem nx_succ {N a u:Nat} (ha:a<N) (hu:u<N):nx N a (u+1)=if nx N a u+1<N then nx N a u+1 else 0:=by
  rcases nx_cases N a u with ⟨h1,h2⟩ | ⟨h1,h2⟩ <;> rcases nx_cases N a (u+1) with ⟨h3,h4⟩ | ⟨h3,h4⟩ <;> rw [h2,h4] <;> split <;> omega
/-- Where a path meets the place that is t on from i. -/
theorem path1 {N h i p u t:Nat} (hh:h<N) (hi:i<N) (hp:p<N) (ht:t<N) (hu:u<ds N h p) (h1:ds N i (nx N h u)<t) (h2:t≤ds N i p) :
    nx N h (u+(t-ds N i (nx N h u)))=nx N i t∧(nx N i t=p∨u+(t-ds N i (nx N h u))<ds N h p):=by
  rcases ds_cases N h p with ⟨a1,a2⟩ | ⟨a1,a2⟩ <;> rcases nx_cases N h u with ⟨b1,b2⟩ | ⟨b1,b2⟩ <;> rcases ds_cases N i (nx N h u) with ⟨c1,c2⟩ | ⟨c1,c2⟩ <;>
    rcases ds_cases N i p with ⟨d1,d2⟩ | ⟨d1,d2⟩ <;> rcases nx_cases N i t with ⟨e1,e2⟩ | ⟨e1,e2⟩ <;> rcases nx_cases N h (u+(t-ds N i (nx N h u))) with ⟨f1,f2⟩ | ⟨f1,f2⟩ <;> omega
/-- A path that passes the place t on from i, to a place ahead of it, passes all behind it. -/
theorem path2 {N h i p u t z:Nat} (hh:h<N) (hi:i<N) (hp:p<N) (hz:z<N) (htz:t≤z) (hu:u<ds N h p) (h1:nx N h u=nx N i t) (h2:ds N i p<t) :
    nx N h (u+(z-t))=nx N i z∧u+(z-t)<ds N h p:=by
  rcases ds_cases N h p with ⟨a1,a2⟩ | ⟨a1,a2⟩ <;> rcases nx_cases N h u with ⟨b1,b2⟩ | ⟨b1,b2⟩ <;> rcases nx_cases N i t with ⟨c1,c2⟩ | ⟨c1,c2⟩ <;>
    rcases ds_cases N i p with ⟨d1,d2⟩ | ⟨d1,d2⟩ <;> rcases nx_cases N i z with ⟨e1,e2⟩ | ⟨e1,e2⟩ <;> rcases nx_cases N h (u+(z-t)) with ⟨f1,f2⟩ | ⟨f1,f2⟩ <;> omega
section
variable {κ ν:Type} [DecidableEq κ]
/-- A table: at each place something with its key, or nothing. -/
abbrev Tb (κ ν:Type):=Nat→Option (κ × ν)
def tset (T:Tb κ ν) (p:Nat) (x:Option (κ × ν)):Tb κ ν:=fun q=>if q=p then x else T q
omit [DecidableEq κ] in
theorem tset_eq (T:Tb κ ν) (p:Nat) (x:Option (κ × ν)):tset T p x p=x:=by simp [tset]
omit [DecidableEq κ] in
theorem tset_ne (T:Tb κ ν) {p q:Nat} (x:Option (κ × ν)) (h:q≠p):tset T p x q=T q:=by simp [tset,h]
variable {N:Nat} {H:κ→Nat} {T:Tb κ ν} {k:κ} {v:ν} {p:Nat}
/-- From where a key begins to where it lies nothing is free. -/
def Good (N:Nat) (H:κ→Nat) (T:Tb κ ν):Prop:=∀ p,p<N→∀ x,T p=some x→∀ u,u<ds N (H x.1) p→T (nx N (H x.1) u)≠none
def Uniq (N:Nat) (T:Tb κ ν):Prop:=∀ p q,p<N→q<N→∀ x y,T p=some x→T q=some y→x.1=y.1→p=q
/-- What a search for a key comes to. -/
def Fd (N:Nat) (H:κ→Nat) (T:Tb κ ν) (k:κ) (p:Nat):Prop:=p<N∧(∀ u,u<ds N (H k) p→∃ x,T (nx N (H k) u)=some x∧x.1≠k)∧∀ x,T p=some x→x.1=k
/-- The table as a list of pairs. -/
def TM (N:Nat) (T:Tb κ ν) (M:List (κ × ν)):Prop:=(M.map (·.1)).Nodup∧∀ k v,getL k M=some v↔∃ p,p<N∧T p=some (k,v)
theorem Fd.get {M:List (κ × ν)} (hH:H k<N) (hg:Good N H T) (hu:Uniq N T) (hm:TM N T M) (hf:Fd N H T k p):(T p).map (·.2)=getL k M:=by
  obtain ⟨f1,f2,f3⟩:=hf
  cases hp:T p with
  | some x=>
    have:=f3 x hp
    rw [Option.map_some,eq_comm,hm.2]
    exact ⟨p,f1,by rw [hp,← this]⟩
  | none=>
    rw [Option.map_none]
    cases hk:getL k M with
    | none=>rfl
    | some v=>
      exfalso
      obtain ⟨q,hq,hqv⟩:=(hm.2 k v).1 hk
      have h1:=hg q hq _ hqv
      rcases Nat.lt_trichotomy (ds N (H k) p) (ds N (H k) q) with h | h | h
      · have:=h1 _ h
        simp only at this
        rw [nx_ds hH f1] at this
        exact this hp
      · have:p=q:=by rw [← nx_ds hH f1,h,nx_ds hH hq]
        rw [this,hqv] at hp; cases hp
      · obtain ⟨x,hx,hne⟩:=f2 _ h
        rw [nx_ds hH hq,hqv] at hx
        cases hx; exact hne rfl
/-- Something new is put where the search came to. -/
theorem put_table {M:List (κ × ν)} (hH:H k<N) (hg:Good N H T) (hu:Uniq N T) (hm:TM N T M) (hf:Fd N H T k p) (hn:T p=none) :
    Good N H (tset T p (some (k,v)))∧Uniq N (tset T p (some (k,v)))∧TM N (tset T p (some (k,v))) (putL k v M)∧getL k M=none:=by
  have hget:=hf.get hH hg hu hm
  rw [hn,Option.map_none] at hget
  obtain ⟨f1,f2,f3⟩:=hf
  have hno:∀ q,q<N→∀ x,T q=some x→x.1≠k:=fun q hq x hx e=>by
    have:getL k M=some x.2:=(hm.2 k x.2).2 ⟨q,hq,by rw [hx,← e]⟩
    rw [this] at hget; cases hget
  refine ⟨?_,?_,⟨nodup_put hm.1,?_⟩,hget.symm⟩
  · intro q hq x hx u hu'
    by_cases hqp:q=p
    · subst hqp
      rw [tset_eq] at hx
      cases hx
      obtain ⟨y,hy,_⟩:=f2 u hu'
      by_cases he:nx N (H k) u=q
      · simp only [he,tset_eq]; simp
      · simp only; rw [tset_ne _ _ he,hy]; simp
    · rw [tset_ne _ _ hqp] at hx
      have:=hg q hq x hx u hu'
      by_cases he:nx N (H x.1) u=p
      · rw [he,tset_eq]; simp
      · rw [tset_ne _ _ he]; exact this
  · intro a b ha hb x y hx hy he
    by_cases h1:a=p
    · by_cases h2:b=p
      · rw [h1,h2]
      · rw [h1,tset_eq] at hx; cases hx
        rw [tset_ne _ _ h2] at hy
        exact absurd he.symm (hno b hb y hy)
    · rw [tset_ne _ _ h1] at hx
      by_cases h2:b=p
      · rw [h2,tset_eq] at hy; cases hy
        exact absurd he (hno a ha x hx)
      · rw [tset_ne _ _ h2] at hy
        exact hu a b ha hb x y hx hy he
  · intro k' v'
    rw [getL_put]
    by_cases hk:k'=k
    · subst hk
      rw [if_pos rfl]
      constructor
      · intro h; cases h; exact ⟨p,f1,tset_eq ..⟩
      · rintro ⟨q,hq,hx⟩
        by_cases hqp:q=p
        · rw [hqp,tset_eq] at hx; cases hx; rfl
        · rw [tset_ne _ _ hqp] at hx; exact absurd rfl (hno q hq _ hx)
    · rw [if_neg hk,hm.2]
      constructor
      · rintro ⟨q,hq,hx⟩
        refine ⟨q,hq,?_⟩
        rw [tset_ne _ _ (fun e=>by rw [e,hn] at hx; cases hx)]; exact hx
      · rintro ⟨q,hq,hx⟩
        by_cases hqp:q=p
        · rw [hqp,tset_eq] at hx; cases hx; exact absurd rfl hk
        · rw [tset_ne _ _ hqp] at hx; exact ⟨q,hq,hx⟩
/-- While those behind a place that was made free are put anew: t of them are done. -/
structure Mid (N:Nat) (H:κ→Nat) (T:Tb κ ν) (i t:Nat) (M:List (κ × ν)):Prop where
  path:∀ p,p<N→∀ x,T p=some x→∀ u,u<ds N (H x.1) p→T (nx N (H x.1) u)≠none∨(ds N i (nx N (H x.1) u)<t∧t≤ds N i p)
  uniq:Uniq N T
  tm:TM N T M
  room:∃ z,t≤z∧z<N∧T (nx N i z)=none
/-- A place is made free. -/
theorem Mid.start {M:List (κ × ν)} (hN:1<N) (hg:Good N H T) (hu:Uniq N T) (hm:TM N T M) (hp:p<N) (hx:T p=some (k,v)) (hr:∃ z,z<N∧T z=none):Mid N H (tset T p none) p 1 (delL k M):=by
  refine ⟨?_,?_,⟨nodup_del hm.1,?_⟩,?_⟩
  · intro q hq x hqx u hu'
    have hqp:q≠p:=fun e=>by rw [e,tset_eq] at hqx; cases hqx
    rw [tset_ne _ _ hqp] at hqx
    have:=hg q hq x hqx u hu'
    by_cases he:nx N (H x.1) u=p
    · right
      rw [he]
      unfold ds; constructor <;> split <;> omega
    · left; rw [tset_ne _ _ he]; exact this
  · intro a b ha hb x y hax hby he
    have h1:a≠p:=fun e=>by rw [e,tset_eq] at hax; cases hax
    have h2:b≠p:=fun e=>by rw [e,tset_eq] at hby; cases hby
    rw [tset_ne _ _ h1] at hax
    rw [tset_ne _ _ h2] at hby
    exact hu a b ha hb x y hax hby he
  · intro k' v'
    rw [getL_del hm.1]
    by_cases hk:k'=k
    · subst hk
      rw [if_pos rfl]
      constructor
      · intro h; cases h
      · rintro ⟨q,hq,hqx⟩
        have hqp:q≠p:=fun e=>by rw [e,tset_eq] at hqx; cases hqx
        rw [tset_ne _ _ hqp] at hqx
        exact absurd (hu q p hq hp _ _ hqx hx rfl) hqp
    · rw [if_neg hk,hm.2]
      constructor
      · rintro ⟨q,hq,hqx⟩
        refine ⟨q,hq,?_⟩
        rw [tset_ne _ _ (fun e=>by rw [e,hx] at hqx; cases hqx; exact hk rfl)]; exact hqx
      · rintro ⟨q,hq,hqx⟩
        have hqp:q≠p:=fun e=>by rw [e,tset_eq] at hqx; cases hqx
        rw [tset_ne _ _ hqp] at hqx
        exact ⟨q,hq,hqx⟩
  · obtain ⟨z,hz,hzn⟩:=hr
    have hzp:z≠p:=fun e=>by rw [e,hx] at hzn; cases hzn
    refine ⟨ds N p z,?_,ds_lt hp hz,?_⟩
    · unfold ds; split <;> omega
    · rw [nx_ds hp hz,tset_ne _ _ hzp]; exact hzn
/-- The one behind is free: it is done. -/
theorem Mid.done {M:List (κ × ν)} {i t:Nat} (hH:∀ k,H k<N) (hi:i<N) (ht:t<N) (h:Mid N H T i t M) (hn:T (nx N i t)=none):Good N H T:=by
  intro p hp x hx u hu
  rcases h.path p hp x hx u hu with h1 | ⟨h1,h2⟩
  · exact h1
  · exfalso
    have hHx:=hH x.1
    obtain ⟨e,hu1⟩:=path1 hHx hi hp ht hu h1 h2
    rcases hu1 with hu1 | hu1
    · rw [hu1,hx] at hn; cases hn
    · rcases h.path p hp x hx _ hu1 with h3 | ⟨h3,_⟩
      · rw [e] at h3; exact h3 hn
      · rw [e,ds_nx hi ht] at h3
        omega
/-- The one behind is put anew. -/
theorem Mid.step {M:List (κ × ν)} {i t:Nat} {x:κ × ν} {q:Nat} (hH:∀ k,H k<N) (hi:i<N) (ht0:0<t) (ht:t<N) (h:Mid N H T i t M) (hx:T (nx N i t)=some x)
    (hf:Fd N H (tset T (nx N i t) none) x.1 q):tset T (nx N i t) none q=none∧Mid N H (tset (tset T (nx N i t) none) q (some x)) i (t+1) M:=by
  have hjN:nx N i t<N:=nx_lt hi (by omega)
  have hdj:ds N i (nx N i t)=t:=ds_nx hi ht
  generalize hj:nx N i t=j at *
  obtain ⟨f1,f2,f3⟩:=hf
  have hHx:=hH x.1
  have hqn:tset T j none q=none:=by
    cases hq:tset T j none q with
    | none=>rfl
    | some y=>
      have hk:=f3 y hq
      have hqj:q≠j:=fun e=>by rw [e,tset_eq] at hq; cases hq
      rw [tset_ne _ _ hqj] at hq
      exact absurd (h.uniq q j f1 hjN y x hq hx hk) hqj
  have hle:ds N (H x.1) q≤ds N (H x.1) j:=by
    rcases Nat.lt_or_ge (ds N (H x.1) j) (ds N (H x.1) q) with hlt | hge
    · obtain ⟨y,hy,_⟩:=f2 _ hlt
      rw [nx_ds hHx hjN,tset_eq] at hy; cases hy
    · exact hge
  have hnone:∀ a,a≠q→tset (tset T j none) q (some x) a=none→a=j∨T a=none:=fun a haq ha=>by
    rw [tset_ne _ _ haq] at ha
    by_cases haj:a=j
    · exact .inl haj
    · rw [tset_ne _ _ haj] at ha; exact .inr ha
  have hsome:∀ a y,a≠q→tset (tset T j none) q (some x) a=some y→a≠j∧T a=some y:=fun a y haq ha=>by
    rw [tset_ne _ _ haq] at ha
    by_cases haj:a=j
    · rw [haj,tset_eq] at ha; cases ha
    · rw [tset_ne _ _ haj] at ha; exact ⟨haj,ha⟩
  obtain ⟨z,hz1,hz2,hz3⟩:=h.room
  have hzt:z≠t:=fun e=>by rw [e,hj,hx] at hz3; cases hz3
  have hzq:nx N i z≠q:=fun e=>by
    have hzj:nx N i z≠j:=fun e'=>by rw [e',hx] at hz3; cases hz3
    have hlt:ds N (H x.1) q<ds N (H x.1) j:=by
      rcases Nat.lt_or_eq_of_le hle with h1 | h1
      · exact h1
      · exact absurd (by rw [e,← nx_ds hHx f1,h1,nx_ds hHx hjN]) hzj
    rcases h.path j hjN x hx _ hlt with h1 | ⟨h1,_⟩
    · rw [nx_ds hHx f1,← e] at h1; exact h1 hz3
    · rw [nx_ds hHx f1,← e,ds_nx hi hz2] at h1; omega
  refine ⟨hqn,?_,?_,⟨h.tm.1,?_⟩,⟨z,by omega,hz2,?_⟩⟩
  · intro p hp y hy u hu
    by_cases hpq:p=q
    · subst hpq
      rw [tset_eq] at hy; cases hy
      left
      obtain ⟨w,hw,_⟩:=f2 u hu
      by_cases he:nx N (H x.1) u=p
      · rw [he,tset_eq]; simp
      · rw [tset_ne _ _ he,hw]; simp
    · obtain ⟨hpj,hpy⟩:=hsome p y hpq hy
      by_cases hd:tset (tset T j none) q (some x) (nx N (H y.1) u)=none
      · right
        have haq:nx N (H y.1) u≠q:=fun e=>by rw [e,tset_eq] at hd; cases hd
        have hne:ds N i p≠t:=fun e=>hpj (by rw [← nx_ds hi hp,e,hj])
        rcases hnone _ haq hd with e | e
        ·
          rw [e,hdj]
          refine ⟨by omega,?_⟩
          rcases Nat.lt_or_ge (ds N i p) t with hlt | hge
          · exfalso
            have hHy:=hH y.1
            obtain ⟨e2,hu2⟩:=path2 hHy hi hp hz2 hz1 hu (e.trans hj.symm) hlt
            rcases h.path p hp y hpy _ hu2 with h1 | ⟨_,h1⟩
            · rw [e2] at h1; exact h1 hz3
            · omega
          · omega
        · rcases h.path p hp y hpy u hu with h1 | ⟨h1,h2⟩
          · exact absurd e h1
          · exact ⟨by omega,by omega⟩
      · exact .inl hd
  · intro a b ha hb y w hy hw he
    by_cases h1:a=q
    · by_cases h2:b=q
      · rw [h1,h2]
      · rw [h1,tset_eq] at hy; cases hy
        obtain ⟨g1,g2⟩:=hsome b w h2 hw
        exact absurd (h.uniq j b hjN hb x w hx g2 he).symm g1
    · obtain ⟨g1,g2⟩:=hsome a y h1 hy
      by_cases h2:b=q
      · rw [h2,tset_eq] at hw; cases hw
        exact absurd (h.uniq a j ha hjN y x g2 hx he) g1
      · obtain ⟨g3,g4⟩:=hsome b w h2 hw
        exact h.uniq a b ha hb y w g2 g4 he
  · intro k' v'
    rw [h.tm.2]
    constructor
    · rintro ⟨a,ha,hav⟩
      by_cases haj:a=j
      · rw [haj,hx] at hav
        exact ⟨q,f1,by rw [tset_eq]; exact hav⟩
      · refine ⟨a,ha,?_⟩
        have haq:a≠q:=fun e=>by
          rw [e] at haj hav
          rw [tset_ne _ _ haj,hav] at hqn; cases hqn
        rw [tset_ne _ _ haq,tset_ne _ _ haj]; exact hav
    · rintro ⟨a,ha,hav⟩
      by_cases haq:a=q
      · rw [haq,tset_eq] at hav
        exact ⟨j,hjN,by rw [hx]; exact hav⟩
      · exact ⟨a,ha,(hsome a _ haq hav).2⟩
  · cases hc:tset (tset T j none) q (some x) (nx N i z) with
    | none=>rfl
    | some y=>
      have:=(hsome _ y hzq hc).2
      rw [hz3] at this; cases this
/-- Where there is less than places, one is free. -/
theorem room_of {M:List (κ × ν)} (hu:Uniq N T) (hm:TM N T M) (hl:M.length<N):∃ z,z<N∧T z=none:=by
  refine Classical.byContradiction fun hno=>?_
  have hall:∀ z,z<N→∃ x,T z=some x:=fun z hz=>by
    cases h:T z with
    | none=>exact absurd ⟨z,hz,h⟩ hno
    | some x=>exact ⟨x,rfl⟩
  have key:∀ n,n≤N→∃ ks:List κ,ks.length=n∧ks.Nodup∧∀ a∈ks,∃ p,p<n∧∃ v,T p=some (a,v):=by
    intro n
    induction n with
    | zero=>intro _; exact ⟨[],rfl,.nil,fun a h=>by cases h⟩
    | succ n ih=>
      intro hn
      obtain ⟨ks,h1,h2,h3⟩:=ih (by omega)
      obtain ⟨x,hx⟩:=hall n (by omega)
      refine ⟨x.1::ks,by simp [h1],List.nodup_cons.2 ⟨fun hm=>?_,h2⟩,fun a ha=>?_⟩
      · obtain ⟨p,hp,v,hv⟩:=h3 _ hm
        have:=hu p n (by omega) (by omega) _ _ hv hx rfl
        omega
      · rcases List.mem_cons.1 ha with rfl | ha
        · exact ⟨n,by omega,x.2,hx⟩
        · obtain ⟨p,hp,v,hv⟩:=h3 a ha
          exact ⟨p,by omega,v,hv⟩
  obtain ⟨ks,h1,h2,h3⟩:=key N (Nat.le_refl _)
  have hsub:∀ a∈ks,a∈M.map (·.1):=fun a ha=>by
    obtain ⟨p,hp,v,hv⟩:=h3 a ha
    have:=(hm.2 a v).2 ⟨p,hp,hv⟩
    exact List.mem_map.2 ⟨_,getL_some_mem this,rfl⟩
  have:=nodup_len_le h2 hsub
  simp only [List.length_map] at this
  omega
end
end Go.HL
namespace Go.HL
open Go
/-- The comparison that a sort is handed: whatever the row holds. -/
def CmpOk {α:Type} [Inhabited α] (P:Program) (f:FuncId) (ga gb:List Value) (hp0:HP) (b:Nat) (e:TypeId) (sp:Nat) (en:α→List Value) (n:Nat) (cf:α→α→Int):Prop:=
  ∀ (d:Array α) (x y:α) (K:Value→HP→Prop),d.size=n→K (.int .i64 (cf x y)) (HA hp0 b e sp en d)→CF P f (ga++[.agg ⟨en x⟩,.agg ⟨en y⟩]++gb) (HA hp0 b e sp en d) K
def ltC {α:Type} (cf:α→α→Int) (x y:α):Bool:=decide (cf x y<0)
theorem swp_size {α:Type} [Inhabited α] (d:Array α) (i j:Nat):(Sort.swp d i j).size=d.size:=by simp [Sort.swp]
end Go.HL
namespace Go.HL
open Go
theorem wi {x:Int} {i:Nat} (h:x=i) (hb:i≤9223372036854775807):IntKind.wrap .i64 x=i:=by rw [h]; exact w64 (by omega) (by omega)
section
variable {α:Type} {hp0:HP} {b:Nat} {e:TypeId} {sp:Nat} {en:α→List Value} {d:Array α}
theorem HA.set_comm {r:Nat} (hr:r≠b) (x:Ent):(HA hp0 b e sp en d).set r x=HA (hp0.set r x) b e sp en d:=by
  unfold HA; rw [HP.set_comm _ _ _ hr]
theorem HA.ne_of_none {r:Nat} (h:HA hp0 b e sp en d r=.none):r≠b∧hp0 r=.none:=by
  have hb:r≠b:=fun e=>by unfold HA at h; rw [e,HP.set_eq] at h; cases h
  refine ⟨hb,?_⟩
  unfold HA at h
  rwa [HP.set_ne _ _ hb] at h
theorem HA.ne {r:Nat} (h:r≠b):HA hp0 b e sp en d r=hp0 r:=by
  unfold HA; rw [HP.set_ne _ _ h]
end
section
variable {α:Type} [Inhabited α] {P:Program} {f:FuncId} {ga gb:List Value} {hp0:HP} {b:Nat} {e:TypeId} {sp size:Nat} {en:α→List Value} {n:Nat} {cf:α→α→Int} {d:Array α}
theorem cmpP (hc:CmpOk P f ga gb hp0 b e sp en n cf) (he:∀ x,(en x).length=size) {I J:Int} {i j:Nat} {X:Int→HP→Prop} (hs:d.size=n) (hI:I=i) (hJ:J=j) (hi:i<n) (hj:j<n)
    (h:X (cf d[i]! d[j]!) (HA hp0 b e sp en d)) :
    ((0≤I)∧(I<(n:Nat))∧(ptrN (some ⟨b,0,none⟩) fun b1 o2=>(ldL (HP.cellN (HA hp0 b e sp en d) b1 (o2+Int.toNat I*size) size) fun l3=>((0≤J)∧(J<(n:Nat))∧(ptrN (some ⟨b,0,none⟩) fun b4 o5=>(ldL (HP.cellN (HA hp0 b e sp en d) b4 (o5+Int.toNat J*size) size) fun l6=>
      (fnV (.func (.func f) ⟨ga⟩ ⟨gb⟩) fun f7 ga8 gb9=>(CF P f7 (ga8++[(Value.agg ⟨l3⟩),(Value.agg ⟨l6⟩)]++gb9) (HA hp0 b e sp en d) fun u10 h11=>(intV u10 .i64 fun i12=>X i12 h11))))))))):=by
  subst hI hJ
  have g1:=HA.get (hp0:=hp0) (b:=b) (e:=e) (sp:=sp) he (d:=d) (i:=i) (by omega)
  have g2:=HA.get (hp0:=hp0) (b:=b) (e:=e) (sp:=sp) he (d:=d) (i:=j) (by omega)
  simp only [ptrN_some,Int.toNat_natCast,g1,g2,ldL_some,fnV_mk]
  refine ⟨by omega,by omega,by omega,by omega,?_⟩
  refine hc d _ _ _ hs ?_
  rw [intV_int]
  exact h
theorem swapP (he:∀ x,(en x).length=size) (h1:∀ x,(en x).all one=true) {I J:Int} {i j:Nat} {X:HP→Prop} (hs:d.size=n) (hI:I=i) (hJ:J=j) (hi:i<n) (hj:j<n)
    (h:X (HA hp0 b e sp en (Sort.swp d i j))) :
    ((0≤J)∧(J<(n:Nat))∧(ptrN (some ⟨b,0,none⟩) fun b1 o2=>(ldL (HP.cellN (HA hp0 b e sp en d) b1 (o2+Int.toNat J*size) size) fun l3=>((0≤I)∧(I<(n:Nat))∧(ptrN (some ⟨b,0,none⟩) fun b4 o5=>(ldL (HP.cellN (HA hp0 b e sp en d) b4 (o5+Int.toNat I*size) size) fun l6=>
      ((0≤I)∧(I<(n:Nat))∧(ptrN (some ⟨b,0,none⟩) fun b7 o8=>((List.length l3=size)∧(HP.stN (HA hp0 b e sp en d) b7 (o8+Int.toNat I*size) l3 fun h9=>((0≤J)∧(J<(n:Nat))∧(ptrN (some ⟨b,0,none⟩) fun b10 o11=>((List.length l6=size)∧(HP.stN h9 b10 (o11+Int.toNat J*size) l6 fun h12=>X h12)))))))))))))):=by
  subst hI hJ
  have g1:=HA.get (hp0:=hp0) (b:=b) (e:=e) (sp:=sp) he (d:=d) (i:=i) (by omega)
  have g2:=HA.get (hp0:=hp0) (b:=b) (e:=e) (sp:=sp) he (d:=d) (i:=j) (by omega)
  simp only [ptrN_some,Int.toNat_natCast,g1,g2,ldL_some]
  refine ⟨by omega,by omega,by omega,by omega,by omega,by omega,he _,?_⟩
  refine HA.st he h1 (by omega) _ ?_
  refine ⟨by omega,by omega,he _,?_⟩
  refine HA.st he h1 (by rw [Array.size_setIfInBounds]; omega) _ ?_
  exact h
/-- A comparison that holds whatever else is known. -/
def CmpX (P:Program) (f:FuncId) (ga gb:List Value) (hp0:HP) (b:Nat) (e:TypeId) (sp:Nat) (en:α→List Value) (n:Nat) (cf:α→α→Int):Prop:=
  ∀ hp1,HSub hp0 hp1→CmpOk P f ga gb hp1 b e sp en n cf
theorem CmpX.ok (h:CmpX P f ga gb hp0 b e sp en n cf):CmpOk P f ga gb hp0 b e sp en n cf:=h hp0 (HSub.refl _)
end
end Go.HL
set_option linter.unusedVariables false
set_option maxRecDepth 20000
namespace Go.Proofs
open Go Go.HL
def F22_j3 (x0 x4:Int) (hp:HP) (K:Kh):Prop:=
  (opS Tryz.prog (Instr.makeSlice 144 (Value.int .i64 x4) (Value.int .i64 x4)) hp fun u_1 h_2=>(slcV u_1 fun a_3 n_4 c_5=>(∀ b_6:Nat,h_2 b_6=.none→(K (.tuple ⟨[(ptr b_6 0),(Value.int .i64 0)]⟩) (HP.set h_2 b_6 (.cells 146 [(Value.slice a_3 n_4 c_5),(Value.int .i64 x0),(Value.int .i64 0)] 0))))))
def F22_l4 (x0:Int) (K:Kh) (I4:(Int)→HP→Prop) (x4:Int) (hp:HP):Prop:=
  (ite2 (decide ((x4:Int)<(IntKind.wrap .i64 (2*x0)))) (I4 (IntKind.wrap .i64 (x4*2)) hp) (F22_j3 x0 x4 hp  K))
def F22_j2 (x0 x4:Int) (hp:HP) (K:Kh):Prop:=
  (LoopP (σ:=Int) (fun I s hp=>F22_l4 x0  K I s hp) x4 hp)
def F22_j1 (x0:Int) (x10:Bool) (hp:HP) (K:Kh):Prop:=
  (ite2 x10 (K (.tuple ⟨[(Value.pointer none),(Value.int .i64 1)]⟩) hp) (F22_j2 x0 8 hp  K))
def F22 (x0:Int) (hp:HP) (K:Kh):Prop:=
  (ite2 (decide ((x0:Int)<1)) (F22_j1 x0 true hp  K) (F22_j1 x0 (decide ((x0:Int) > 65536)) hp  K))
theorem F22_ok (x0:Int) (hp:HP) (K:Kh) (h:F22 x0 hp K):CF Tryz.prog 22 [(Value.int .i64 x0)] hp K:=
  have L:∀ {Q} n,Snd Tryz.prog 22 (cAt Tryz.f22 (pth n)) Q (CW Tryz.prog 22 [] [] (cAt Tryz.f22 (pth n)) Q):=fun _=>Snd.leaf
  okF h Tryz.func22 (Snd.seq (L 2) (Snd.seq (Snd.jn [(0,.i .i64),(10,.b)] (fun a hp=>F22_j1 a.1 a.2.1 hp  K) (L 9) (L 13) (by rfl) (by kernel_rfl)) (Snd.jn [(0,.i .i64),(4,.i .i64)] (fun a hp=>F22_j2 a.1 a.2.1 hp  K) (L 11) (Snd.jn [(0,.i .i64),(4,.i .i64)] (fun a hp=>F22_j3 a.1 a.2.1 hp  K) (Snd.block 0 (Snd.lp (σ:=Int) [(0,.i .i64),(4,.i .i64)] (fun a=>a.2.1) (fun a s=>(a.1,s,())) (fun a I s hp=>F22_l4 a.1  K I s hp) (fun I4=>(L 71)) (by rfl) (by kernel_rfl) (by kernel_rfl))) (L 31) (by rfl) (by kernel_rfl)) (by rfl) (by kernel_rfl)))) (by kernel_rfl) (by kernel_rfl) (by kernel_rfl)
def F74 (x0:OA) (x1:ByteArray) (hp:HP) (K:Kh):Prop:=
  (CF Tryz.prog 117 [(Value.pointer x0)] hp fun u_1 h_2=>(boolV u_1 fun q_3=>(ite2 q_3 (K (.tuple ⟨[(Value.int .i64 0),(Value.bool false)]⟩) h_2) (CF Tryz.prog 118 [(Value.pointer x0),(Value.string x1)] h_2 fun u_4 h_5=>(tup2V u_4 fun u_6 u_7=>(intV u_6 .i64 fun i_8=>(intV u_7 .i64 fun i_9=>(ptrN x0 fun b_10 o_11=>(ldV (HP.cell h_5 b_10 (o_11+0)) fun v_12=>(slcV v_12 fun a_13 n_14 c_15=>((0≤(i_8:Int))∧((i_8:Int)<(n_14:Nat))∧(ptrN a_13 fun b_16 o_17=>(ldV (HP.cell h_5 b_16 ((o_17+Int.toNat i_8*3)+1)) fun v_18=>(intV v_18 .i64 fun i_19=>(ptrN x0 fun b_20 o_21=>(ldV (HP.cell h_5 b_20 (o_21+0)) fun v_22=>(slcV v_22 fun a_23 n_24 c_25=>((0≤(i_8:Int))∧((i_8:Int)<(n_24:Nat))∧(ptrN a_23 fun b_26 o_27=>(ldV (HP.cell h_5 b_26 ((o_27+Int.toNat i_8*3)+2)) fun v_28=>(boolV v_28 fun q_29=>(K (.tuple ⟨[(Value.int .i64 i_19),(Value.bool q_29)]⟩) h_5))))))))))))))))))))))
theorem F74_ok (x0:OA) (x1:ByteArray) (hp:HP) (K:Kh) (h:F74 x0 x1 hp K):CF Tryz.prog 74 [(Value.pointer x0),(Value.string x1)] hp K:=
  have L:∀ {Q} n,Snd Tryz.prog 33 (cAt Tryz.f74 (pth n)) Q (CW Tryz.prog 33 [] [] (cAt Tryz.f74 (pth n)) Q):=fun _=>Snd.leaf
  okF h Tryz.func74 (L 1) (by kernel_rfl) (by kernel_rfl) (by kernel_rfl)
def F68 (x0:OA) (x1:ByteArray) (x2:Int) (hp:HP) (K:Kh):Prop:=
  (CF Tryz.prog 117 [(Value.pointer x0)] hp fun u_1 h_2=>(boolV u_1 fun q_3=>(ite2 q_3 (K (Value.int .i64 2) h_2) (CF Tryz.prog 118 [(Value.pointer x0),(Value.string x1)] h_2 fun u_4 h_5=>(tup2V u_4 fun u_6 u_7=>(intV u_6 .i64 fun i_8=>(intV u_7 .i64 fun i_9=>(ptrN x0 fun b_10 o_11=>(ldV (HP.cell h_5 b_10 (o_11+0)) fun v_12=>(slcV v_12 fun a_13 n_14 c_15=>((0≤(i_8:Int))∧((i_8:Int)<(n_14:Nat))∧(ptrN a_13 fun b_16 o_17=>(ldV (HP.cell h_5 b_16 ((o_17+Int.toNat i_8*3)+2)) fun v_18=>(boolV v_18 fun q_19=>(ite2 q_19 (K (Value.int .i64 5) h_5) (ptrN x0 fun b_20 o_21=>(ldV (HP.cell h_5 b_20 (o_21+2)) fun v_22=>(intV v_22 .i64 fun i_23=>(ptrN x0 fun b_24 o_25=>(ldV (HP.cell h_5 b_24 (o_25+1)) fun v_26=>(intV v_26 .i64 fun i_27=>(ite2 (decide ((i_23:Int)≥i_27)) (K (Value.int .i64 6) h_5) (ptrN x0 fun b_28 o_29=>(ldV (HP.cell h_5 b_28 (o_29+0)) fun v_30=>(slcV v_30 fun a_31 n_32 c_33=>((0≤(i_8:Int))∧((i_8:Int)<(n_32:Nat))∧(ptrN a_31 fun b_34 o_35=>((List.length [(Value.string x1),(Value.int .i64 x2),(Value.bool true)]=3)∧(HP.stN h_5 b_34 (o_35+Int.toNat i_8*3) [(Value.string x1),(Value.int .i64 x2),(Value.bool true)] fun h_36=>(ptrN x0 fun b_37 o_38=>(ldV (HP.cell h_36 b_37 (o_38+2)) fun v_39=>(intV v_39 .i64 fun i_40=>(ptrN x0 fun b_41 o_42=>(HP.st h_36 b_41 (o_42+2) (Value.int .i64 (IntKind.wrap .i64 (i_40+1))) fun h_43=>(K (Value.int .i64 0) h_43)))))))))))))))))))))))))))))))))))
theorem F68_ok (x0:OA) (x1:ByteArray) (x2:Int) (hp:HP) (K:Kh) (h:F68 x0 x1 x2 hp K):CF Tryz.prog 68 [(Value.pointer x0),(Value.string x1),(Value.int .i64 x2)] hp K:=
  have L:∀ {Q} n,Snd Tryz.prog 52 (cAt Tryz.f68 (pth n)) Q (CW Tryz.prog 52 [] [] (cAt Tryz.f68 (pth n)) Q):=fun _=>Snd.leaf
  okF h Tryz.func68 (L 1) (by kernel_rfl) (by kernel_rfl) (by kernel_rfl)
def F78_l2 (x0:OA) (K:Kh) (I2:(Int)→HP→Prop) (x5:Int) (hp:HP):Prop:=
  (ptrN x0 fun b_36 o_37=>(ldV (HP.cell hp b_36 (o_37+0)) fun v_38=>(slcV v_38 fun a_39 n_40 c_41=>((0≤(x5:Int))∧((x5:Int)<(n_40:Nat))∧(ptrN a_39 fun b_42 o_43=>(ldV (HP.cell hp b_42 ((o_43+Int.toNat x5*3)+2)) fun v_44=>(boolV v_44 fun q_45=>(ite2 q_45 (ptrN x0 fun b_46 o_47=>(ldV (HP.cell hp b_46 (o_47+0)) fun v_48=>(slcV v_48 fun a_49 n_50 c_51=>((0≤(x5:Int))∧((x5:Int)<(n_50:Nat))∧(ptrN a_49 fun b_52 o_53=>(ldL (HP.cellN hp b_52 (o_53+Int.toNat x5*3) 3) fun l_54=>(if List.length l_54=3 then (if List.all l_54 one=true then (if 0+List.length l_54≤List.length [(Value.string ⟨#[]⟩),(Value.int .i64 0),(Value.bool false)] then (ptrN x0 fun b_55 o_56=>(ldV (HP.cell hp b_55 (o_56+0)) fun v_57=>(slcV v_57 fun a_58 n_59 c_60=>((0≤(x5:Int))∧((x5:Int)<(n_59:Nat))∧(ptrN a_58 fun b_61 o_62=>((List.length [(Value.string ⟨#[]⟩),(Value.int .i64 0),(Value.bool false)]=3)∧(HP.stN hp b_61 (o_62+Int.toNat x5*3) [(Value.string ⟨#[]⟩),(Value.int .i64 0),(Value.bool false)] fun h_63=>(ldV ((splice [(Value.string ⟨#[]⟩),(Value.int .i64 0),(Value.bool false)] 0 l_54))[0]? fun v_64=>(strV v_64 fun s_65=>(CF Tryz.prog 118 [(Value.pointer x0),(Value.string s_65)] h_63 fun u_66 h_67=>(tup2V u_66 fun u_68 u_69=>(intV u_68 .i64 fun i_70=>(intV u_69 .i64 fun i_71=>(ptrN x0 fun b_72 o_73=>(ldV (HP.cell h_67 b_72 (o_73+0)) fun v_74=>(slcV v_74 fun a_75 n_76 c_77=>(ldL (cellsN (splice [(Value.string ⟨#[]⟩),(Value.int .i64 0),(Value.bool false)] 0 l_54) 0 3) fun l_78=>((0≤(i_70:Int))∧((i_70:Int)<(n_76:Nat))∧(ptrN a_75 fun b_79 o_80=>((List.length l_78=3)∧(HP.stN h_67 b_79 (o_80+Int.toNat i_70*3) l_78 fun h_81=>(ptrN x0 fun b_82 o_83=>(ldV (HP.cell h_81 b_82 (o_83+0)) fun v_84=>(slcV v_84 fun a_85 n_86 c_87=>(I2 (band .i64 (IntKind.wrap .i64 (x5+1)) (IntKind.wrap .i64 ((n_86:Nat)-1))) h_81))))))))))))))))))))))))) else False) else False) else False))))))) (K (Value.bool true) hp)))))))))
def F78_j1 (x0:OA) (x5:Int) (hp:HP) (K:Kh):Prop:=
  (LoopP (σ:=Int) (fun I s hp=>F78_l2 x0  K I s hp) x5 hp)
def F78 (x0:OA) (x1:ByteArray) (hp:HP) (K:Kh):Prop:=
  (CF Tryz.prog 117 [(Value.pointer x0)] hp fun u_1 h_2=>(boolV u_1 fun q_3=>(ite2 q_3 (K (Value.bool false) h_2) (CF Tryz.prog 118 [(Value.pointer x0),(Value.string x1)] h_2 fun u_4 h_5=>(tup2V u_4 fun u_6 u_7=>(intV u_6 .i64 fun i_8=>(intV u_7 .i64 fun i_9=>(ptrN x0 fun b_10 o_11=>(ldV (HP.cell h_5 b_10 (o_11+0)) fun v_12=>(slcV v_12 fun a_13 n_14 c_15=>((0≤(i_8:Int))∧((i_8:Int)<(n_14:Nat))∧(ptrN a_13 fun b_16 o_17=>(ldV (HP.cell h_5 b_16 ((o_17+Int.toNat i_8*3)+2)) fun v_18=>(boolV v_18 fun q_19=>(ite2 (!q_19) (K (Value.bool false) h_5) (ptrN x0 fun b_20 o_21=>(ldV (HP.cell h_5 b_20 (o_21+0)) fun v_22=>(slcV v_22 fun a_23 n_24 c_25=>((0≤(i_8:Int))∧((i_8:Int)<(n_24:Nat))∧(ptrN a_23 fun b_26 o_27=>((List.length [(Value.string ⟨#[]⟩),(Value.int .i64 0),(Value.bool false)]=3)∧(HP.stN h_5 b_26 (o_27+Int.toNat i_8*3) [(Value.string ⟨#[]⟩),(Value.int .i64 0),(Value.bool false)] fun h_28=>(ptrN x0 fun b_29 o_30=>(ldV (HP.cell h_28 b_29 (o_30+2)) fun v_31=>(intV v_31 .i64 fun i_32=>(ptrN x0 fun b_33 o_34=>(HP.st h_28 b_33 (o_34+2) (Value.int .i64 (IntKind.wrap .i64 (i_32-1))) fun h_35=>(ptrN x0 fun b_88 o_89=>(ldV (HP.cell h_35 b_88 (o_89+0)) fun v_90=>(slcV v_90 fun a_91 n_92 c_93=>(F78_j1 x0 (band .i64 (IntKind.wrap .i64 (i_8+1)) (IntKind.wrap .i64 ((n_92:Nat)-1))) h_35  K)))))))))))))))))))))))))))))))
theorem F78_ok (x0:OA) (x1:ByteArray) (hp:HP) (K:Kh) (h:F78 x0 x1 hp K):CF Tryz.prog 78 [(Value.pointer x0),(Value.string x1)] hp K:=
  have L:∀ {Q} n,Snd Tryz.prog 95 (cAt Tryz.f78 (pth n)) Q (CW Tryz.prog 95 [7,83] [] (cAt Tryz.f78 (pth n)) Q):=fun _=>Snd.leaf
  okF h Tryz.func78 (Snd.seq (L 2) (Snd.seq (L 5) (Snd.seq (L 11) (Snd.seq (L 23) (Snd.seq (L 47) (Snd.seq (L 95) (Snd.seq (Snd.jn [(0,.p),(5,.i .i64)] (fun a hp=>F78_j1 a.1 a.2.1 hp  K) (L 319) (Snd.block 0 (Snd.lp (σ:=Int) [(0,.p),(5,.i .i64)] (fun a=>a.2.1) (fun a s=>(a.1,s,())) (fun a I s hp=>F78_l2 a.1  K I s hp) (fun I2=>(L 1215)) (by rfl) (by kernel_rfl) (by kernel_rfl))) (by rfl) (by kernel_rfl)) (L 255)))))))) (by kernel_rfl) (by kernel_rfl) (by kernel_rfl)
def F117 (x0:OA) (hp:HP) (K:Kh):Prop:=
  (ite2 (Option.isNone x0) (K (Value.bool true) hp) (ptrN x0 fun b_1 o_2=>(ldV (HP.cell hp b_1 (o_2+0)) fun v_3=>(slcV v_3 fun a_4 n_5 c_6=>(K (Value.bool (((n_5:Nat):Int)==0)) hp)))))
theorem F117_ok (x0:OA) (hp:HP) (K:Kh) (h:F117 x0 hp K):CF Tryz.prog 117 [(Value.pointer x0)] hp K:=
  have L:∀ {Q} n,Snd Tryz.prog 13 (cAt Tryz.f117 (pth n)) Q (CW Tryz.prog 13 [] [] (cAt Tryz.f117 (pth n)) Q):=fun _=>Snd.leaf
  okF h Tryz.func117 (L 1) (by kernel_rfl) (by kernel_rfl) (by kernel_rfl)
def F118_j2 (x4 x5:Int) (hp:HP) (K:Kh):Prop:=
  (K (.tuple ⟨[(Value.int .i64 x4),(Value.int .i64 x5)]⟩) hp)
def F118_j5 (x0:OA) (x1:ByteArray) (x4 x5:Int) (x35:Bool) (hp:HP) (I4:(Int × Int)→HP→Prop) (K:Kh):Prop:=
  (ite2 x35 (ptrN x0 fun b_1 o_2=>(ldV (HP.cell hp b_1 (o_2+0)) fun v_3=>(slcV v_3 fun a_4 n_5 c_6=>(I4 ((band .i64 (IntKind.wrap .i64 (x4+1)) (IntKind.wrap .i64 ((n_5:Nat)-1))),(IntKind.wrap .i64 (x5+1))) hp)))) (F118_j2 x4 x5 hp  K))
def F118_l4 (x0:OA) (x1:ByteArray) (K:Kh) (I4:(Int × Int)→HP→Prop) (x4 x5:Int) (hp:HP):Prop:=
  (ptrN x0 fun b_7 o_8=>(ldV (HP.cell hp b_7 (o_8+0)) fun v_9=>(slcV v_9 fun a_10 n_11 c_12=>((0≤(x4:Int))∧((x4:Int)<(n_11:Nat))∧(ptrN a_10 fun b_13 o_14=>(ldV (HP.cell hp b_13 ((o_14+Int.toNat x4*3)+2)) fun v_15=>(boolV v_15 fun q_16=>(ite2 q_16 (ptrN x0 fun b_17 o_18=>(ldV (HP.cell hp b_17 (o_18+0)) fun v_19=>(slcV v_19 fun a_20 n_21 c_22=>((0≤(x4:Int))∧((x4:Int)<(n_21:Nat))∧(ptrN a_20 fun b_23 o_24=>(ldV (HP.cell hp b_23 ((o_24+Int.toNat x4*3)+0)) fun v_25=>(strV v_25 fun s_26=>(F118_j5 x0 x1 x4 x5 (!((ByteArray.toList s_26)==(ByteArray.toList x1))) hp I4 K)))))))) (F118_j5 x0 x1 x4 x5 false hp I4 K)))))))))
def F118_j3 (x0:OA) (x1:ByteArray) (x4 x5:Int) (hp:HP) (K:Kh):Prop:=
  (LoopP (σ:=Int × Int) (fun I s hp=>F118_l4 x0 x1  K I s.1 s.2 hp) (x4,x5) hp)
def F118_j1 (x0:OA) (x1:ByteArray) (x4:Int) (hp:HP) (K:Kh):Prop:=
  (F118_j3 x0 x1 x4 1 hp  K)
def F118 (x0:OA) (x1:ByteArray) (hp:HP) (K:Kh):Prop:=
  ((CF Tryz.prog 140 [(Value.string x1)] hp fun u_27 h_28=>(intV u_27 .u32 fun i_29=>(ptrN x0 fun b_30 o_31=>(ldV (HP.cell h_28 b_30 (o_31+0)) fun v_32=>(slcV v_32 fun a_33 n_34 c_35=>(F118_j1 x0 x1 (band .i64 (IntKind.wrap .i64 (i_29)) (IntKind.wrap .i64 ((n_34:Nat)-1))) h_28  K))))))∧(ptrN x0 fun b_36 o_37=>(ldV (HP.cell hp b_36 (o_37+0)) fun v_38=>(slcV v_38 fun a_39 n_40 c_41=>(CF Tryz.prog 140 [(Value.string x1)] hp fun u_42 h_43=>(intV u_42 .u32 fun i_44=>(F118_j1 x0 x1 (band .i64 (IntKind.wrap .i64 (i_44)) (IntKind.wrap .i64 ((n_40:Nat)-1))) h_43  K)))))))
theorem F118_ok (x0:OA) (x1:ByteArray) (hp:HP) (K:Kh) (h:F118 x0 x1 hp K):CF Tryz.prog 118 [(Value.pointer x0),(Value.string x1)] hp K:=
  have L:∀ {Q} n,Snd Tryz.prog 49 (cAt Tryz.f118 (pth n)) Q (CW Tryz.prog 49 [] [(1,[(1,6)],[([true],true,[0,1,2,3,4,5,6,7,8,9,10]),([false],true,[0,3,4,5,6,1,2,7,8,9,10])])] (cAt Tryz.f118 (pth n)) Q):=fun _=>Snd.leaf
  okF h Tryz.func118 (Snd.seq (L 2) (Snd.jn [(0,.p),(1,.t),(4,.i .i64)] (fun a hp=>F118_j1 a.1 a.2.1 a.2.2.1 hp  K) (L 5) (Snd.jn [(4,.i .i64),(5,.i .i64)] (fun a hp=>F118_j2 a.1 a.2.1 hp  K) (Snd.jn [(0,.p),(1,.t),(4,.i .i64),(5,.i .i64)] (fun a hp=>F118_j3 a.1 a.2.1 a.2.2.1 a.2.2.2.1 hp  K) (L 19) (Snd.block 0 (Snd.lp (σ:=Int × Int) [(0,.p),(1,.t),(4,.i .i64),(5,.i .i64)] (fun a=>(a.2.2.1,a.2.2.2.1)) (fun a s=>(a.1,a.2.1,s.1,s.2,())) (fun a I s hp=>F118_l4 a.1 a.2.1  K I s.1 s.2 hp) (fun I4=>(Snd.seq (Snd.jn [(0,.p),(1,.t),(4,.i .i64),(5,.i .i64),(35,.b)] (fun a hp=>F118_j5 a.1 a.2.1 a.2.2.1 a.2.2.2.1 a.2.2.2.2.1 hp (fun s hp=>I4 (a.1,a.2.1,s.1,s.2,()) hp) K) (L 267) (L 395) (by rfl) (by kernel_rfl)) (L 203))) (by rfl) (by kernel_rfl) (by kernel_rfl))) (by rfl) (by kernel_rfl)) (L 15) (by rfl) (by kernel_rfl)) (by rfl) (by kernel_rfl))) (by kernel_rfl) (by kernel_rfl) (by kernel_rfl)
def F140_j1 (x3:Int) (hp:HP) (K:Kh):Prop:=
  (K (Value.int .u32 x3) hp)
def F140_l3 (x7:Value) (K:Kh) (I3:(Int)→HP→Prop) (x3:Int) (hp:HP):Prop:=
  (opS Tryz.prog (Instr.next x7 true 0) hp fun u_1 h_2=>(tupI u_1 0 fun v_3=>(boolV v_3 fun q_4=>(ite2 q_4 (tupI u_1 2 fun v_5=>(intV v_5 .i32 fun i_6=>(I3 (IntKind.wrap .u32 ((bxor .u32 x3 (IntKind.wrap .u32 (i_6)))*16777619)) h_2))) (F140_j1 x3 h_2  K)))))
def F140_j2 (x3:Int) (x7:Value) (hp:HP) (K:Kh):Prop:=
  (LoopP (σ:=Int) (fun I s hp=>F140_l3 x7  K I s hp) x3 hp)
def F140 (x0:ByteArray) (hp:HP) (K:Kh):Prop:=
  (opS Tryz.prog (Instr.range 9 (Value.string x0)) hp fun u_7 h_8=>(F140_j2 2166136261 u_7 h_8  K))
theorem F140_ok (x0:ByteArray) (hp:HP) (K:Kh) (h:F140 x0 hp K):CF Tryz.prog 140 [(Value.string x0)] hp K:=
  have L:∀ {Q} n,Snd Tryz.prog 17 (cAt Tryz.f140 (pth n)) Q (CW Tryz.prog 17 [] [] (cAt Tryz.f140 (pth n)) Q):=fun _=>Snd.leaf
  okF h Tryz.func140 (Snd.seq (L 2) (Snd.seq (L 5) (Snd.jn [(3,.i .u32)] (fun a hp=>F140_j1 a.1 hp  K) (Snd.jn [(3,.i .u32),(7,.w)] (fun a hp=>F140_j2 a.1 a.2.1 hp  K) (L 19) (Snd.block 0 (Snd.lp (σ:=Int) [(3,.i .u32),(7,.w)] (fun a=>a.1) (fun a s=>(s,a.2.1,())) (fun a I s hp=>F140_l3 a.2.1  K I s hp) (fun I3=>(L 75)) (by rfl) (by kernel_rfl) (by kernel_rfl))) (by rfl) (by kernel_rfl)) (L 15) (by rfl) (by kernel_rfl)))) (by kernel_rfl) (by kernel_rfl) (by kernel_rfl)
end Go.Proofs
set_option linter.unusedVariables false
set_option linter.unusedSimpArgs false
set_option maxRecDepth 20000
namespace Go.Proofs
open Go Go.HL
/-- A slot: a key and what it stands for, or nothing. -/
abbrev Slot:=Option (ByteArray × Int)
def slv:Slot→List Value
  | none=>[.string ⟨#[]⟩,.int .i64 0,.bool false]
  | some (k,v)=>[.string k,.int .i64 v,.bool true]
theorem slv_len (s:Slot):(slv s).length=3:=by cases s <;> rfl
theorem slv_one (s:Slot):(slv s).all one=true:=by cases s <;> rfl
/-- The hash: rounds from a place on. -/
def hashN (s:ByteArray):Nat→Nat→Int→Int
  | 0,_,h=>h
  | n+1,p,h=>if p<s.size then hashN s n (p+(Utf8.decode s p).2) (IntKind.wrap .u32 (bxor .u32 h (IntKind.wrap .u32 ((Utf8.decode s p).1:Int))*16777619)) else h
def hashF (s:ByteArray):Int:=hashN s s.size 0 2166136261
theorem wrap_u32_rng (x:Int):0≤IntKind.wrap .u32 x∧IntKind.wrap .u32 x<4294967296:=by
  have e:IntKind.wrap .u32 x=x % 4294967296:=by simp [IntKind.wrap,IntKind.bits,IntKind.signed]
  rw [e]; omega
theorem hashN_rng (s:ByteArray):∀ (n p:Nat) (h:Int),0≤h∧h<4294967296→0≤hashN s n p h∧hashN s n p h<4294967296
  | 0,_,_,hh=>hh
  | n+1,p,h,hh=>by
    unfold hashN
    split
    · exact hashN_rng s n _ _ (wrap_u32_rng _)
    · exact hh
theorem hashF_rng (s:ByteArray):0≤hashF s∧hashF s<4294967296:=hashN_rng s _ _ _ (by omega)
theorem C140 {s:ByteArray} {hp:HP} {K:Value→HP→Prop} (hK:K (.int .u32 (hashF s)) hp):CF Tryz.prog 140 [.string s] hp K:=by
  refine CF.drop (F140_ok s hp _ ?_)
  unfold F140
  refine opS_rangeS (by kernel_rfl) fun it hit=>?_
  unfold F140_j2
  have s0:=HSub.set_fresh hp (.obj (.stringIter s 0)) hit
  refine LoopP.by (J:=fun k (x:Int) hp'=>∃ p e,hp'=hp.set it (.obj (.stringIter s p))∧hashN s k p x=hashF s∧s.size≤p+k) ?_ (n:=s.size) ⟨0,0,rfl,rfl,by omega⟩
  rintro I k x hp' ⟨p,_,rfl,hh,hk⟩ hI
  unfold F140_l3
  refine opS_nextS (s:=s) (pos:=p) (HP.set_eq ..) (fun hend=>?_) (fun hgo=>?_)
  · have t0:∀ c:Value→Prop,tupI (.tuple #[.bool false]) 0 c=c (.bool false):=fun _=>rfl
    rw [t0,boolV_bool,ite2_false]
    unfold F140_j1
    have:hashN s k p x=x:=by cases k with | zero=>rfl | succ k=>rw [hashN,if_neg hend]
    rw [← hh,this] at hK
    exact ⟨hp,HSub.up (HSub.refl hp) hit _,hK⟩
  · have t0:∀ (a b:Value) (c:Value→Prop),tupI (.tuple #[.bool true,a,b]) 0 c=c (.bool true):=fun _ _ _=>rfl
    have t2:∀ (a b:Value) (c:Value→Prop),tupI (.tuple #[.bool true,a,b]) 2 c=c b:=fun _ _ _=>rfl
    rw [t0,boolV_bool,ite2_true,t2,intV_int]
    have hd:=decode_pos s p
    cases k with
    | zero=>omega
    | succ k=>
      rw [hashN,if_pos hgo] at hh
      rw [HP.set_set]
      exact hI k _ _ (by omega) ⟨_,0,rfl,hh,by omega⟩
/-- The table that slots make. -/
def tbl (A:List Slot):Tb ByteArray Int:=fun p=>(A[p]?).join
theorem tbl_at {A:List Slot} {p:Nat} (h:p<A.length):tbl A p=A[p]:=by unfold tbl; rw [List.getElem?_eq_getElem h]; rfl
theorem tbl_set {A:List Slot} {p:Nat} (h:p<A.length) (s:Slot):tbl (A.set p s)=tset (tbl A) p s:=by
  funext q
  unfold tbl tset
  rw [List.getElem?_set]
  by_cases hq:p=q
  · subst hq; simp [h]
  · rw [if_neg hq,if_neg (fun e=>hq e.symm)]
/-- Where a key begins. -/
def hx (N:Nat) (k:ByteArray):Nat:=(hashF k).toNat % N
/-- An index in memory: x itself, its row of slots. -/
def IdxM (hq:HP) (x b N n c:Nat) (A:List Slot):Prop:=
  hq x=.cells 146 [.slice (some ⟨b,0,none⟩) N N,.int .i64 n,.int .i64 c] 0∧hq b=.cells 191 (A.flatMap slv) 0∧A.length=N
section
variable {hq:HP} {x b N n c:Nat} {A:List Slot} {K:Value→HP→Prop}
theorem IdxM.ne (h:IdxM hq x b N n c A):x≠b:=fun e=>by
  have h1:=h.1; have h2:=h.2.1
  rw [e,h2] at h1; cases h1
theorem IdxM.slot (h:IdxM hq x b N n c A) {i:Nat} (hi:i<N):hq.cellN b (i*3) 3=some (slv (A[i]'(by rw [h.2.2]; exact hi))):=by
  rw [HP.cellN_of h.2.1]
  exact flat_at slv_len _
theorem IdxM.cells (h:IdxM hq x b N n c A) {i:Nat} (hi:i<N) {t:Nat} {v:Value} (hv:(slv (A[i]'(by rw [h.2.2]; exact hi)))[t]?=some v):hq.cell b (i*3+t)=some v:=HP.cell_cellN (h.slot hi) hv
theorem IdxM.setSlot (h:IdxM hq x b N n c A) {i:Nat} (hi:i<N) (s:Slot) {X:HP→Prop} (hX:∀ hq',IdxM hq' x b N n c (A.set i s)→X hq'):hq.stN b (i*3) (slv s) X:=by
  have hA:i<A.length:=by rw [h.2.2]; exact hi
  refine HP.stN_at h.2.1 ?_ (slv_one s) (hX _ ⟨?_,?_,?_⟩)
  · rw [flat_len slv_len,slv_len]; omega
  · rw [HP.set_ne _ _ h.ne]; exact h.1
  · rw [HP.set_eq,flat_splice slv_len s hA]
  · rw [List.length_set]; exact h.2.2
theorem IdxM.setLen (h:IdxM hq x b N n c A) {c':Nat} {v:Int} (hv:v=c') {X:HP→Prop} (hX:∀ hq',IdxM hq' x b N n c' A→X hq'):hq.st x 2 (.int .i64 v) X:=by
  subst hv
  refine HP.st_at h.1 (by simp) (hX _ ⟨?_,?_,h.2.2⟩)
  · rw [HP.set_eq]; rfl
  · rw [HP.set_ne _ _ h.ne.symm]; exact h.2.1
theorem IdxM.c0 (h:IdxM hq x b N n c A):hq.cell x 0=some (.slice (some ⟨b,0,none⟩) N N):=HP.cell_of h.1
theorem IdxM.c1 (h:IdxM hq x b N n c A):hq.cell x 1=some (.int .i64 n):=HP.cell_of h.1
theorem IdxM.c2 (h:IdxM hq x b N n c A):hq.cell x 2=some (.int .i64 c):=HP.cell_of h.1
theorem C117 (h:IdxM hq x b N n c A) (h0:0<N) (hK:K (.bool false) hq):CF Tryz.prog 117 [ptr x 0] hq K:=by
  refine F117_ok _ hq K ?_
  unfold F117
  have e:(((N:Nat):Int)==0)=false:=by
    rw [beq_eq_false_iff_ne]; omega
  simp only [Option.isNone_some,ite2_false,ptrN_some,Nat.zero_add,h.c0,ldV_some,slcV_slice,e]
  exact hK
theorem mask_hash {j:Nat} (hj:j≤40) (k:ByteArray):band .i64 (IntKind.wrap .i64 (hashF k)) (IntKind.wrap .i64 (((2 ^ j:Nat):Int)-1))=((hx (2 ^ j) k:Nat):Int):=by
  have h1:=hashF_rng k
  have h2:(2 ^ j:Nat)≤2 ^ 40:=Nat.pow_le_pow_right (by omega) hj
  have e40:(2 ^ 40:Nat)=1099511627776:=rfl
  have hp:0<(2 ^ j:Nat):=Nat.pos_of_ne_zero (by simp)
  rw [w64 (n:=hashF k) (by omega) (by omega),w64 (n:=((2 ^ j:Nat):Int)-1) (by omega) (by omega)]
  exact band_mask (by omega) (by omega) hj
theorem mask_next {j i:Nat} (hj:j≤40) (hi:i<2 ^ j):band .i64 (IntKind.wrap .i64 ((i:Int)+1)) (IntKind.wrap .i64 (((2 ^ j:Nat):Int)-1))=((if i+1<2 ^ j then i+1 else 0:Nat):Int):=by
  have h2:(2 ^ j:Nat)≤2 ^ 40:=Nat.pow_le_pow_right (by omega) hj
  have e40:(2 ^ 40:Nat)=1099511627776:=rfl
  have hp:0<(2 ^ j:Nat):=Nat.pos_of_ne_zero (by simp)
  rw [w64 (n:=(i:Int)+1) (by omega) (by omega),w64 (n:=((2 ^ j:Nat):Int)-1) (by omega) (by omega),band_mask (by omega) (by omega) hj]
  congr 1
  have e:((i:Int)+1).toNat=i+1:=by omega
  rw [e]
  split
  · exact Nat.mod_eq_of_lt ‹_›
  · have:i+1=2 ^ j:=by omega
    rw [this,Nat.mod_self]
theorem C118 {j:Nat} {key:ByteArray} (h:IdxM hq x b N n c A) (hN:N=2 ^ j) (hj:j≤40) (hr:∃ z,z<N∧tbl A z=none)
    (hK:∀ (p:Nat) (l:Int),p<N→HL.Fd N (hx N) (tbl A) key p→K (.tuple ⟨[.int .i64 p,.int .i64 l]⟩) hq):CF Tryz.prog 118 [ptr x 0,.string key] hq K:=by
  refine F118_ok _ key hq K ?_
  unfold F118
  have hp:0<N:=by subst hN; exact Nat.pos_of_ne_zero (by simp)
  have hH:hx N key<N:=Nat.mod_lt _ hp
  have main:F118_j1 (some ⟨x,0,none⟩) key ((hx N key:Nat):Int) hq K:=by
    unfold F118_j1 F118_j3
    obtain ⟨z,hz,hzn⟩:=hr
    refine LoopP.by (J:=fun k (s:Int × Int) hp=>hp=hq∧∃ u:Nat,s.1=(nx N (hx N key) u:Nat)∧u+k=ds N (hx N key) z∧∀ v,v<u→∃ y,tbl A (nx N (hx N key) v)=some y∧y.1≠key) ?_
      (n:=ds N (hx N key) z) ⟨rfl,0,by rw [nx_zero hH],by omega,fun v hv=>by omega⟩
    rintro I k ⟨i,l⟩ hp' ⟨rfl,u,hi,huk,hall⟩ hI
    simp only at hi
    subst hi
    unfold F118_l4
    have hdz:ds N (hx N key) z<N:=ds_lt hH hz
    have hiN:nx N (hx N key) u<N:=nx_lt hH (by omega)
    have hds:ds N (hx N key) (nx N (hx N key) u)=u:=ds_nx hH (by omega)
    have hA:nx N (hx N key) u<A.length:=by rw [h.2.2]; exact hiN
    have hta:=tbl_at hA
    simp only [ptrN_some,Nat.zero_add,h.c0,ldV_some,slcV_slice,Int.toNat_natCast]
    refine ⟨by omega,by omega,?_⟩
    have stop:(∀ y,tbl A (nx N (hx N key) u)=some y→y.1=key)→K (.tuple ⟨[.int .i64 (nx N (hx N key) u:Nat),.int .i64 l]⟩) hp':=fun hs=>by
      refine hK _ _ hiN ⟨hiN,fun v hv=>?_,hs⟩
      rw [hds] at hv
      exact hall v hv
    cases hs:A[nx N (hx N key) u]'hA with
    | none=>
      have e2:=h.cells hiN (t:=2) (v:=.bool false) (by rw [hs]; rfl)
      simp only [e2,ldV_some,boolV_bool,ite2_false]
      unfold F118_j5 F118_j2
      rw [ite2_false]
      exact stop fun y hy=>by rw [hta,hs] at hy; cases hy
    | some kv=>
      obtain ⟨k',v'⟩:=kv
      have e2:=h.cells hiN (t:=2) (v:=.bool true) (by rw [hs]; rfl)
      have e0:=h.cells hiN (t:=0) (v:=.string k') (by rw [hs]; rfl)
      simp only [e2,ldV_some,boolV_bool,ite2_true]
      refine ⟨by omega,by omega,?_⟩
      simp only [Nat.add_zero] at e0 ⊢
      simp only [e0,ldV_some,strV_string,str_eq]
      unfold F118_j5
      by_cases hk:k'=key
      · rw [decide_eq_true hk,Bool.not_true,ite2_false]
        unfold F118_j2
        exact stop fun y hy=>by rw [hta,hs] at hy; cases hy; exact hk
      · rw [decide_eq_false hk,Bool.not_false,ite2_true]
        simp only [ptrN_some,Nat.zero_add,h.c0,ldV_some,slcV_slice]
        have hne:u≠ds N (hx N key) z:=fun e=>by
          have h1:tbl A (nx N (hx N key) u)=none:=by rw [e,nx_ds hH hz]; exact hzn
          rw [hta,hs] at h1; cases h1
        have hm:=mask_next (i:=nx N (hx N key) u) hj (hN▸hiN)
        rw [← hN] at hm
        rw [hm,← nx_succ hH (by omega)]
        refine hI (k-1) _ _ (by omega) ⟨rfl,u+1,rfl,by omega,fun v hv=>?_⟩
        by_cases hvu:v=u
        · rw [hvu]; exact ⟨_,by rw [hta,hs],hk⟩
        · exact hall v (by omega)
  have hmk:=mask_hash hj key
  rw [← hN] at hmk
  constructor
  · refine C140 ?_
    simp only [intV_int,ptrN_some,Nat.zero_add,h.c0,ldV_some,slcV_slice,hmk]
    exact main
  · simp only [ptrN_some,Nat.zero_add,h.c0,ldV_some,slcV_slice]
    refine C140 ?_
    simp only [intV_int,hmk]
    exact main
end
end Go.Proofs
namespace Go.Exp
open Go.Sort (SWO)
/-- A thing: which, when it is due. -/
abbrev Th:=Int × Int
/-- Is one ahead of another? -/
def tlt (x y:Th):Bool:=decide (x.2<y.2)||(decide (x.2=y.2)&&decide (x.1<y.1))
theorem tlt_iff {x y:Th}:tlt x y=true↔x.2<y.2∨(x.2=y.2∧x.1<y.1):=by simp [tlt]
theorem tlt_false {x y:Th}:tlt x y=false↔¬ (x.2<y.2∨(x.2=y.2∧x.1<y.1)):=by rw [← tlt_iff]; simp
theorem swo_tlt:SWO tlt where
  irrefl x:=by rw [tlt_false]; omega
  trans x y z:=by simp only [tlt_iff]; omega
  ntrans x y z:=by simp only [tlt_false]; omega
theorem tlt_total {x y:Th} (h:tlt x y=false) (k:tlt y x=false):x=y:=by
  rw [tlt_false] at h k
  exact Prod.ext (by omega) (by omega)
/-- Things in their order, each once. -/
def Ord (w:List Th):Prop:=w.Pairwise (fun x y=>tlt x y=true)∧(w.map (·.1)).Nodup
theorem ord_nil:Ord []:=⟨List.Pairwise.nil,List.nodup_nil⟩
/-- One more, where it stands. -/
def insW (x:Th) (w:List Th):List Th:=w.takeWhile (tlt · x)++x::w.dropWhile (tlt · x)
def dropW (id:Int) (w:List Th):List Th:=w.filter (fun t=>t.1 != id)
def setW (id due:Int) (w:List Th):List Th:=insW (id,due) (dropW id w)
theorem insW_perm (x:Th) (w:List Th):(insW x w).Perm (x::w):=by
  unfold insW
  refine List.perm_middle.trans ?_
  rw [List.takeWhile_append_dropWhile]
theorem insW_nil (x:Th):insW x []=[x]:=rfl
theorem insW_cons (x y:Th) (w:List Th):insW x (y::w)=if tlt y x then y::insW x w else x::y::w:=by
  unfold insW
  cases h:tlt y x <;> simp [List.takeWhile_cons,List.dropWhile_cons,h]
theorem insW_sorted {x:Th}:∀ {w:List Th},w.Pairwise (fun x y=>tlt x y=true)→x ∉ w→(insW x w).Pairwise (fun x y=>tlt x y=true)
  | [],_,_=>by simp [insW_nil]
  | y::w,h,hn=>by
    have h':=List.pairwise_cons.1 h
    rw [insW_cons]
    cases hy:tlt y x
    · simp only [Bool.false_eq_true,if_false]
      have hxy:tlt x y=true:=by
        cases hc:tlt x y with
        | true=>rfl
        | false=>exact absurd (tlt_total hc hy) (fun e=>hn (by simp [e]))
      refine List.pairwise_cons.2 ⟨fun z hz=>?_,h⟩
      rcases List.mem_cons.1 hz with rfl | hz
      · exact hxy
      · exact swo_tlt.trans _ _ _ hxy (h'.1 z hz)
    · simp only [if_true]
      refine List.pairwise_cons.2 ⟨fun z hz=>?_,insW_sorted h'.2 (fun hm=>hn (by simp [hm]))⟩
      rcases List.mem_cons.1 ((insW_perm x w).mem_iff.1 hz) with rfl | hz
      · exact hy
      · exact h'.1 z hz
theorem Ord.drop {w:List Th} (h:Ord w) (id:Int):Ord (dropW id w):=
  ⟨h.1.filter _,h.2.sublist ((List.filter_sublist).map _)⟩
theorem not_mem_dropW {id due:Int} {w:List Th}:(id,due) ∉ dropW id w:=by
  unfold dropW; simp
theorem Ord.set {w:List Th} (h:Ord w) (id due:Int):Ord (setW id due w):=by
  have hd:=h.drop id
  refine ⟨insW_sorted hd.1 not_mem_dropW,?_⟩
  have hp:=(insW_perm (id,due) (dropW id w)).map (·.1)
  refine hp.nodup_iff.2 ?_
  rw [List.map_cons,List.nodup_cons]
  refine ⟨?_,hd.2⟩
  unfold dropW
  simp
theorem set_perm {α:Type}:∀ (l:List α) (i:Nat) (x:α),i<l.length→(l.set i x).Perm (x::l.eraseIdx i)
  | [],i,x,h=>by simp at h
  | y::l,0,x,_=>List.Perm.refl _
  | y::l,i+1,x,h=>by
    simp only [List.set_cons_succ,List.eraseIdx_cons_succ]
    exact ((set_perm l i x (by simpa using h)).cons y).trans (List.Perm.swap x y _)
theorem at_perm {α:Type}:∀ (l:List α) (i:Nat) (h:i<l.length),l.Perm (l[i]::l.eraseIdx i)
  | [],i,h=>by simp at h
  | y::l,0,_=>List.Perm.refl _
  | y::l,i+1,h=>by
    simp only [List.getElem_cons_succ,List.eraseIdx_cons_succ]
    exact ((at_perm l i (by simpa using h)).cons y).trans (List.Perm.swap _ y _)
theorem dropW_absent {id:Int} {w:List Th} (h:id ∉ w.map (·.1)):dropW id w=w:=by
  unfold dropW
  refine List.filter_eq_self.2 fun t ht=>?_
  have:t.1≠id:=fun e=>h (List.mem_map.2 ⟨t,ht,e⟩)
  simpa using this
theorem dropW_perm {w v:List Th} (id:Int) (h:v.Perm w):(dropW id v).Perm (dropW id w):=h.filter _
theorem dropW_erase {w v:List Th} {id due:Int} (h:v.Perm ((id,due)::w)) (hn:(v.map (·.1)).Nodup):(dropW id v).Perm w:=by
  refine (dropW_perm id h).trans ?_
  have hn':(((id,due)::w).map (·.1)).Nodup:=(h.map (·.1)).nodup_iff.1 hn
  rw [List.map_cons,List.nodup_cons] at hn'
  have e:dropW id ((id,due)::w)=dropW id w:=by unfold dropW; simp
  rw [e,dropW_absent hn'.1]
end Go.Exp
set_option linter.unusedVariables false
set_option linter.unusedSectionVars false
namespace Go.HL
open Go
open Go.Exp (Th tlt swo_tlt Ord setW dropW insW)
section
variable {α κ ν:Type} [DecidableEq κ]
theorem getL_mapK (g:α→κ) (f:α→ν) (k:κ):∀ L:List α,getL k (L.map fun x=>(g x,f x))=(L.find? fun x=>decide (g x=k)).map f
  | []=>rfl
  | x::L=>by
    simp only [List.map_cons,getL,List.find?_cons]
    by_cases h:k=g x
    · rw [if_pos h,decide_eq_true h.symm]; rfl
    · rw [if_neg h,decide_eq_false (fun e=>h e.symm),getL_mapK g f k L]
theorem delL_mapK (g:α→κ) (f:α→ν) (k:κ):∀ {L:List α},(L.map g).Nodup→delL k (L.map fun x=>(g x,f x))=(L.filter fun x=>decide (g x≠k)).map fun x=>(g x,f x)
  | [],_=>rfl
  | x::L,h=>by
    rw [List.map_cons,List.nodup_cons] at h
    simp only [List.map_cons,delL,List.filter_cons]
    by_cases hk:k=g x
    · have hd:decide (g x≠k)=false:=by simp [hk]
      rw [if_pos hk,hd]
      simp only [Bool.false_eq_true,if_false]
      congr 1
      refine (List.filter_eq_self.2 fun y hy=>?_).symm
      have:g y≠k:=fun e=>h.1 (List.mem_map.2 ⟨y,hy,by rw [e,hk]⟩)
      simpa using this
    · have hd:decide (g x≠k)=true:=by simpa using fun e=>hk e.symm
      rw [if_neg hk,hd,if_pos rfl,List.map_cons,delL_mapK g f k h.2]
theorem len_del_mem {k:κ}:∀ {l:List (κ × ν)},k∈l.map (·.1)→(delL k l).length+1=l.length
  | [],h=>by simp at h
  | p::l,h=>by
    by_cases hk:k=p.1
    · simp [delL,hk]
    · have h':k∈l.map (·.1):=by
        rw [List.map_cons] at h
        rcases List.mem_cons.1 h with e | e
        · exact absurd e hk
        · exact e
      simp only [delL,hk,if_false,List.length_cons]
      rw [len_del_mem h']
theorem find_none {p:α→Bool} {L:List α}:L.find? p=none↔∀ x∈L,p x=false:=by
  rw [List.find?_eq_none]; simp
theorem find_of {g:α→κ} {L:List α} {x:α} (hn:(L.map g).Nodup) (hx:x∈L):(L.find? fun y=>decide (g y=g x))=some x:=by
  induction L with
  | nil=>cases hx
  | cons y L ih=>
    rw [List.map_cons,List.nodup_cons] at hn
    rw [List.find?_cons]
    rcases List.mem_cons.1 hx with rfl | hx
    · simp
    · have:g y≠g x:=fun e=>hn.1 (e▸List.mem_map.2 ⟨x,hx,rfl⟩)
      rw [decide_eq_false this]
      exact ih hn.2 hx
theorem inj_of {g:α→κ} {L:List α} {x y:α} (hn:(L.map g).Nodup) (hx:x∈L) (hy:y∈L) (h:g x=g y):x=y:=by
  have a:=find_of hn hx
  rw [h,find_of hn hy] at a
  exact (Option.some.inj a).symm
theorem find_mem {p:α→Bool} {L:List α} {x:α} (h:L.find? p=some x):x∈L∧p x=true:=⟨List.mem_of_find?_eq_some h,List.find?_some h⟩
theorem filter_congr_key {g:α→κ} {f:α→ν} [DecidableEq ν] {L:List α} {x:α} (hg:(L.map g).Nodup) (hf:(L.map f).Nodup) (hx:x∈L) :
    (L.filter fun y=>decide (g y≠g x))=L.filter fun y=>decide (f y≠f x):=by
  refine List.filter_congr fun y hy=>?_
  by_cases h:y=x
  · subst h; simp
  · have h1:g y≠g x:=fun e=>h (inj_of hg hy hx e)
    have h2:f y≠f x:=fun e=>h (inj_of hf hy hx e)
    simp [h1,h2]
end
section
variable {α:Type} {id due:α→Int}
/-- The queue of a list of things. -/
def QOk (id due:α→Int) (L:List α) (w:List Th):Prop:=w.Perm (L.map fun x=>(id x,due x))∧Ord w
theorem QOk.nil:QOk id due ([]:List α) []:=⟨List.Perm.nil,Exp.ord_nil⟩
theorem QOk.len {L:List α} {w:List Th} (h:QOk id due L w):w.length=L.length:=by rw [h.1.length_eq]; simp
theorem QOk.put {L:List α} {w:List Th} {x:α} (h:QOk id due L w) (hx:id x ∉ L.map id):QOk id due (L++[x]) (setW (id x) (due x) w):=by
  refine ⟨?_,h.2.set _ _⟩
  have hw:dropW (id x) w=w:=Exp.dropW_absent fun hm=>hx (by
    have:=(h.1.map (·.1)).mem_iff.1 hm
    simpa using this)
  unfold setW
  rw [hw]
  refine (Exp.insW_perm _ _).trans ?_
  rw [List.map_append]
  exact (h.1.cons _).trans (List.perm_append_singleton _ _).symm
theorem QOk.cut {L:List α} {w:List Th} {i:Int} (h:QOk id due L w):QOk id due (L.filter fun x=>decide (id x≠i)) (dropW i w):=by
  refine ⟨?_,h.2.drop _⟩
  have:=Exp.dropW_perm i h.1
  refine this.trans (List.Perm.of_eq ?_)
  unfold dropW
  rw [List.filter_map]
  congr 1
  refine List.filter_congr fun y hy=>?_
  simp only [Function.comp,bne_iff_ne,ne_eq]
  by_cases he:id y=i <;> simp [he]
theorem QOk.mem {L:List α} {w:List Th} {t:Th} (h:QOk id due L w) (ht:t∈w):∃ x∈L,(id x,due x)=t:=by
  have:=h.1.mem_iff.1 ht
  simpa using this
theorem QOk.head {L:List α} {w:List Th} {t:Th} (h:QOk id due L (t::w)):∃ x∈L,id x=t.1∧due x=t.2∧∀ y∈L,due x<due y∨(due x=due y∧id x≤id y):=by
  obtain ⟨x,hx,e⟩:=h.mem (t:=t) (by simp)
  subst e
  refine ⟨x,hx,rfl,rfl,fun y hy=>?_⟩
  have hm:(id y,due y)∈(id x,due x)::w:=h.1.mem_iff.2 (List.mem_map.2 ⟨y,hy,rfl⟩)
  rcases List.mem_cons.1 hm with e | hm
  · simp only [Prod.mk.injEq] at e
    right; omega
  · have:=(List.pairwise_cons.1 h.2.1).1 _ hm
    rw [Exp.tlt_iff] at this
    simp only at this
    omega
theorem QOk.tail {L:List α} {w:List Th} {t:Th} (h:QOk id due L (t::w)):dropW t.1 (t::w)=w:=by
  have h1:(t::w).map (·.1)=t.1::w.map (·.1):=rfl
  have hn:=h.2.2
  rw [h1,List.nodup_cons] at hn
  have e:dropW t.1 (t::w)=dropW t.1 w:=by unfold dropW; simp
  rw [e,Exp.dropW_absent hn.1]
/-- Those that are due, by when, then by number. -/
def popsL (id:α→Int) (now:Int) (L:List α) (w:List Th):List α:=(w.takeWhile fun t=>decide (t.2≤now)).filterMap fun t=>L.find? fun x=>decide (id x=t.1)
def restL (due:α→Int) (now:Int) (L:List α):List α:=L.filter fun x=>decide (¬ due x≤now)
/-- The first one is due: it is the first popped. -/
theorem pops_step {L:List α} {w:List Th} {t:Th} {now:Int} {x:α} (hn:(L.map id).Nodup) (h:QOk id due L (t::w)) (ht:t.2≤now) (hx:x∈L) (hid:id x=t.1) :
    popsL id now L (t::w)=x::popsL id now (L.filter fun y=>decide (id y≠t.1)) w∧restL due now (L.filter fun y=>decide (id y≠t.1))=restL due now L:=by
  constructor
  · unfold popsL
    have hf:(L.find? fun y=>decide (id y=t.1))=some x:=hid▸find_of hn hx
    have e1:(t::w).takeWhile (fun t:Th=>decide (t.2≤now))=t::w.takeWhile (fun t:Th=>decide (t.2≤now)):=by rw [List.takeWhile_cons,decide_eq_true ht,if_pos rfl]
    rw [e1,List.filterMap_cons,hf]
    simp only []
    congr 1
    have hn2:=h.2.2
    rw [List.map_cons,List.nodup_cons] at hn2
    have key:∀ u∈w.takeWhile (fun t:Th=>decide (t.2≤now)),(L.find? fun x=>decide (id x=u.1))=(L.filter fun y=>decide (id y≠t.1)).find? fun x=>decide (id x=u.1):=by
      intro u hu
      have hne:u.1≠t.1:=fun e=>hn2.1 (e▸List.mem_map.2 ⟨u,List.takeWhile_subset _ hu,rfl⟩)
      rw [List.find?_filter]
      congr 1
      funext y
      by_cases hy:id y=u.1
      · simp [hy,hne]
      · simp [hy]
    generalize w.takeWhile (fun t:Th=>decide (t.2≤now))=v at key
    induction v with
    | nil=>rfl
    | cons u v ih=>
      rw [List.filterMap_cons,List.filterMap_cons,key u (by simp),ih fun z hz=>key z (List.mem_cons_of_mem _ hz)]
  · unfold restL
    rw [List.filter_filter]
    refine List.filter_congr fun y hy=>?_
    by_cases hy1:id y=t.1
    · have:y=x:=inj_of hn hy hx (by rw [hy1,hid])
      subst this
      have hd:due y=t.2:=by
        obtain ⟨z,hz,h1,h2,_⟩:=h.head
        have:y=z:=inj_of hn hy hz (by rw [hy1,h1])
        rw [this,h2]
      have:due y≤now:=by rw [hd]; exact ht
      simp [this]
    · simp [hy1]
/-- The first one is not due: no one is. -/
theorem pops_stop {L:List α} {w:List Th} {now:Int} (h:QOk id due L w) (ht:∀ t,w.head?=some t→¬ t.2≤now):popsL id now L w=[]∧restL due now L=L:=by
  cases w with
  | nil=>
    have:L=[]:=List.eq_nil_of_length_eq_zero h.len.symm
    subst this
    exact ⟨rfl,rfl⟩
  | cons t w=>
    have ht:=ht t rfl
    constructor
    · unfold popsL
      have e1:(t::w).takeWhile (fun t:Th=>decide (t.2≤now))=[]:=by
        rw [List.takeWhile_cons,decide_eq_false ht]; rfl
      rw [e1]; rfl
    · unfold restL
      refine List.filter_eq_self.2 fun y hy=>?_
      obtain ⟨x,hx,h1,h2,h3⟩:=h.head
      have:=h3 y hy
      simp only [decide_eq_true_eq]
      omega
end
end Go.HL
set_option linter.unusedVariables false
set_option linter.unusedSimpArgs false
set_option maxRecDepth 20000
namespace Go.Proofs
open Go Go.HL
/-- An index x of at most n that holds M. -/
def IdxR (hq:HP) (x n:Nat) (M:List (ByteArray × Int)):Prop:=
  ∃ (b j:Nat) (A:List Slot),IdxM hq x b (2 ^ j) n M.length A∧j≤40∧n+n≤2 ^ j∧8≤2 ^ j∧M.length≤n∧HL.Good (2 ^ j) (hx (2 ^ j)) (tbl A)∧HL.Uniq (2 ^ j) (tbl A)∧HL.TM (2 ^ j) (tbl A) M
section
variable {hq:HP} {x n:Nat} {M:List (ByteArray × Int)} {K:Value→HP→Prop}
theorem IdxR.fd {key:ByteArray} {L:Nat} {A:List Slot} {p:Nat} (hg:HL.Good L (hx L) (tbl A)) (hu:HL.Uniq L (tbl A)) (hm:HL.TM L (tbl A) M) (h0:0<L) (hf:HL.Fd L (hx L) (tbl A) key p):(tbl A p).map (·.2)=getL key M:=
  HL.Fd.get (Nat.mod_lt _ h0) hg hu hm hf
theorem C74 {key:ByteArray} (h:IdxR hq x n M) (hK:K (.tuple ⟨[.int .i64 ((getL key M).getD 0),.bool (getL key M).isSome]⟩) hq):CF Tryz.prog 74 [ptr x 0,.string key] hq K:=by
  obtain ⟨b,j,A,hM,hj,hn2,h8,hl,hg,hu,hm⟩:=h
  refine F74_ok _ key hq K ?_
  unfold F74
  refine C117 hM (by omega) ?_
  rw [boolV_bool,ite2_false]
  refine C118 hM rfl hj (room_of hu hm (by omega)) fun p l hp hf=>?_
  have hA:p<A.length:=by rw [hM.2.2]; exact hp
  have hget:=IdxR.fd hg hu hm (by omega) hf
  rw [tbl_at hA] at hget
  simp only [tup2V_mk,intV_int,ptrN_some,Nat.zero_add,hM.c0,ldV_some,slcV_slice,Int.toNat_natCast]
  refine ⟨by omega,by omega,?_⟩
  cases hs:A[p]'hA with
  | none=>
    have e1:=hM.cells hp (t:=1) (v:=.int .i64 0) (by rw [hs]; rfl)
    have e2:=hM.cells hp (t:=2) (v:=.bool false) (by rw [hs]; rfl)
    simp only [e1,e2,ldV_some,intV_int,boolV_bool]
    refine ⟨by omega,by omega,?_⟩
    rw [hs] at hget
    rw [← hget] at hK
    exact hK
  | some kv=>
    obtain ⟨k',v'⟩:=kv
    have e1:=hM.cells hp (t:=1) (v:=.int .i64 v') (by rw [hs]; rfl)
    have e2:=hM.cells hp (t:=2) (v:=.bool true) (by rw [hs]; rfl)
    simp only [e1,e2,ldV_some,intV_int,boolV_bool]
    refine ⟨by omega,by omega,?_⟩
    rw [hs] at hget
    rw [← hget] at hK
    exact hK
theorem C68 {key:ByteArray} {v:Int} (h:IdxR hq x n M) (hnew:getL key M=none) (hlen:M.length<n) (hn:n≤65536)
    (hK:∀ hq',IdxR hq' x n (M++[(key,v)])→K (.int .i64 0) hq'):CF Tryz.prog 68 [ptr x 0,.string key,.int .i64 v] hq K:=by
  obtain ⟨b,j,A,hM,hj,hn2,h8,hl,hg,hu,hm⟩:=h
  refine F68_ok _ key v hq K ?_
  unfold F68
  refine C117 hM (by omega) ?_
  rw [boolV_bool,ite2_false]
  refine C118 hM rfl hj (room_of hu hm (by omega)) fun p l hp hf=>?_
  have hA:p<A.length:=by rw [hM.2.2]; exact hp
  have hget:=IdxR.fd hg hu hm (by omega) hf
  rw [tbl_at hA,hnew] at hget
  have hs:A[p]'hA=none:=by
    cases hs:A[p]'hA with
    | none=>rfl
    | some kv=>rw [hs] at hget; cases hget
  have e2:=hM.cells hp (t:=2) (v:=.bool false) (by rw [hs]; rfl)
  simp only [tup2V_mk,intV_int,ptrN_some,Nat.zero_add,hM.c0,ldV_some,slcV_slice,Int.toNat_natCast]
  refine ⟨by omega,by omega,?_⟩
  simp only [e2,ldV_some,boolV_bool,ite2_false,hM.c1,hM.c2,intV_int]
  rw [decide_eq_false (by omega),ite2_false]
  refine ⟨by omega,by omega,rfl,?_⟩
  refine hM.setSlot hp (some (key,v)) fun hq1 hM1=>?_
  simp only [hM1.c2,ldV_some,intV_int]
  refine hM1.setLen (c':=M.length+1) (wi (by omega) (by omega)) fun hq2 hM2=>?_
  refine hK hq2 ?_
  have hH:hx (2 ^ j) key<2 ^ j:=Nat.mod_lt _ (by omega)
  have hpn:tbl A p=none:=(tbl_at hA).trans hs
  obtain ⟨t1,t2,t3,t4⟩:=put_table (v:=v) hH hg hu hm hf hpn
  rw [put_new hnew] at t3
  rw [← tbl_set hA] at t1 t2 t3
  exact ⟨b,j,A.set p (some (key,v)),by rw [List.length_append]; exact hM2,hj,hn2,h8,by rw [List.length_append]; simp; omega,t1,t2,t3⟩
theorem C78 {key:ByteArray} {v:Int} (h:IdxR hq x n M) (hin:getL key M=some v) (hn:n≤65536)
    (hK:∀ hq',IdxR hq' x n (delL key M)→K (.bool true) hq'):CF Tryz.prog 78 [ptr x 0,.string key] hq K:=by
  obtain ⟨b,j,A,hM,hj,hn2,h8,hl,hg,hu,hm⟩:=h
  refine F78_ok _ key hq K ?_
  unfold F78
  refine C117 hM (by omega) ?_
  rw [boolV_bool,ite2_false]
  have hroom:=room_of hu hm (by omega)
  refine C118 hM rfl hj hroom fun p l hp hf=>?_
  have hH:∀ k,hx (2 ^ j) k<2 ^ j:=fun k=>Nat.mod_lt _ (by omega)
  have hA:p<A.length:=by rw [hM.2.2]; exact hp
  have hget:=IdxR.fd hg hu hm (by omega) hf
  rw [tbl_at hA,hin] at hget
  obtain ⟨k',hs⟩:∃ k',A[p]'hA=some (k',v):=by
    cases hs:A[p]'hA with
    | none=>rw [hs] at hget; cases hget
    | some kv=>
      rw [hs] at hget
      simp only [Option.map_some,Option.some.injEq] at hget
      exact ⟨kv.1,by rw [← hget]⟩
  have hkk:k'=key:=hf.2.2 _ (by rw [tbl_at hA]; exact hs)
  subst hkk
  have e2:=hM.cells hp (t:=2) (v:=.bool true) (by rw [hs]; rfl)
  simp only [tup2V_mk,intV_int,ptrN_some,Nat.zero_add,hM.c0,ldV_some,slcV_slice,Int.toNat_natCast]
  refine ⟨by omega,by omega,?_⟩
  simp only [e2,ldV_some,boolV_bool,Bool.not_true,ite2_false]
  refine ⟨by omega,by omega,rfl,?_⟩
  have hkm:k'∈M.map (·.1):=getL_isSome.1 (by rw [hin]; rfl)
  have hdl:(delL k' M).length+1=M.length:=by
    exact len_del_mem hkm
  refine hM.setSlot hp none fun hq1 hM1=>?_
  simp only [hM1.c2,ldV_some,intV_int]
  refine hM1.setLen (c':=(delL k' M).length) (wi (by omega) (by omega)) fun hq2 hM2=>?_
  simp only [hM2.c0,ldV_some,slcV_slice]
  have hstart:=Mid.start (N:=2 ^ j) (H:=hx (2 ^ j)) (by omega) hg hu hm hp (by rw [tbl_at hA]; exact hs) hroom
  rw [← tbl_set hA] at hstart
  rw [mask_next hj hp,show (if p+1<2 ^ j then p+1 else 0)=nx (2 ^ j) p 1 from by
    have:=nx_succ (u:=0) hp (by omega)
    rw [nx_zero hp] at this
    exact this.symm]
  clear hM hM1 hg hu hm hf hget e2 hroom hin
  unfold F78_j1
  obtain ⟨z,hz1,hz2,hz3⟩:=hstart.room
  refine LoopP.by (J:=fun k (y:Int) hp'=>∃ (t:Nat) (B:List Slot),y=(nx (2 ^ j) p t:Nat)∧k+t=2 ^ j∧0<t∧t<2 ^ j∧IdxM hp' x b (2 ^ j) n (delL k' M).length B∧Mid (2 ^ j) (hx (2 ^ j)) (tbl B) p t (delL k' M)) ?_
    (n:=2 ^ j-1) ⟨1,A.set p none,rfl,by omega,by omega,by omega,hM2,hstart⟩
  rintro I k y hp' ⟨t,B,rfl,hkt,ht0,ht,hB,hmid⟩ hI
  unfold F78_l2
  have hq:nx (2 ^ j) p t<2 ^ j:=nx_lt hp (by omega)
  have hBl:nx (2 ^ j) p t<B.length:=by rw [hB.2.2]; exact hq
  simp only [ptrN_some,Nat.zero_add,hB.c0,ldV_some,slcV_slice,Int.toNat_natCast]
  refine ⟨by omega,by omega,?_⟩
  cases hs:B[nx (2 ^ j) p t]'hBl with
  | none=>
    have e2:=hB.cells hq (t:=2) (v:=.bool false) (by rw [hs]; rfl)
    simp only [e2,ldV_some,boolV_bool,ite2_false]
    have hgood:=hmid.done hH hp ht (by rw [tbl_at hBl]; exact hs)
    exact hK hp' ⟨b,j,B,hB,hj,hn2,h8,by omega,hgood,hmid.uniq,hmid.tm⟩
  | some kv=>
    obtain ⟨k2,v2⟩:=kv
    have e2:=hB.cells hq (t:=2) (v:=.bool true) (by rw [hs]; rfl)
    have e3:=hB.slot hq
    rw [hs] at e3
    simp only [e2,ldV_some,boolV_bool,ite2_true]
    refine ⟨by omega,by omega,?_⟩
    have e4:splice (slv none) 0 (slv (some (k2,v2)))=slv (some (k2,v2)):=splice_all rfl
    have e5:cellsN (slv (some (k2,v2))) 0 3=some (slv (some (k2,v2))):=rfl
    have e6:([Value.string ⟨#[]⟩,Value.int .i64 0,Value.bool false]:List Value)=slv none:=rfl
    have e7:(slv (some (k2,v2)))[0]?=some (.string k2):=rfl
    simp only [e3,ldL_some,e6,e4,e5,e7,ldV_some,strV_string]
    refine ifI (slv_len _) (ifI (slv_one _) (ifI (by simp [slv_len]) ?_))
    refine ⟨by omega,by omega,slv_len _,?_⟩
    refine hB.setSlot hq none fun hq3 hB3=>?_
    have hTz:=tbl_set hBl (none:Slot)
    obtain ⟨z',g1,g2,g3⟩:=hmid.room
    have hz'n:nx (2 ^ j) p z'≠nx (2 ^ j) p t:=fun e=>by
      rw [e,tbl_at hBl,hs] at g3; cases g3
    have hroom2:∃ z,z<2 ^ j∧tbl (B.set (nx (2 ^ j) p t) none) z=none:=⟨nx (2 ^ j) p t,hq,by rw [hTz,tset_eq]⟩
    refine C118 (key:=k2) hB3 rfl hj hroom2 fun q l2 hq4 hf4=>?_
    rw [hTz] at hf4
    obtain ⟨s1,s2⟩:=hmid.step (x:=(k2,v2)) hH hp ht0 ht (by rw [tbl_at hBl]; exact hs) hf4
    simp only [tup2V_mk,intV_int,ptrN_some,Nat.zero_add,hB3.c0,ldV_some,slcV_slice,Int.toNat_natCast]
    refine ⟨by omega,by omega,slv_len _,?_⟩
    refine hB3.setSlot hq4 (some (k2,v2)) fun hq5 hB5=>?_
    simp only [hB5.c0,ldV_some,slcV_slice]
    rw [mask_next hj hq,← nx_succ hp ht]
    have hBl2:q<(B.set (nx (2 ^ j) p t) none).length:=by rw [List.length_set,hB.2.2]; exact hq4
    have hT5:=tbl_set hBl2 (some (k2,v2))
    rw [hTz] at hT5
    rw [← hT5] at s2
    obtain ⟨z5,r1,r2,r3⟩:=s2.room
    exact hI (k-1) _ _ (by omega) ⟨t+1,_,rfl,by omega,by omega,by omega,hB5,s2⟩
theorem C22 {m:Int} {hp:HP} (hbad:(m<1∨m > 65536)→K (.tuple ⟨[.pointer none,.int .i64 1]⟩) hp)
    (hok:¬ (m<1∨m > 65536)→∀ x hl hp',IdxR hl x m.toNat []→HSub hl hp'→(∀ r,HSub r hp→HSub r hp'∧Disj hl r)→K (.tuple ⟨[ptr x 0,.int .i64 0]⟩) hp'):CF Tryz.prog 22 [.int .i64 m] hp K:=by
  refine F22_ok m hp K ?_
  unfold F22 F22_j1
  by_cases h1:m<1
  · rw [decide_eq_true h1,ite2_true,ite2_true]
    exact hbad (.inl h1)
  rw [decide_eq_false h1,ite2_false]
  by_cases h2:m > 65536
  · rw [decide_eq_true h2,ite2_true]
    exact hbad (.inr h2)
  rw [decide_eq_false h2,ite2_false]
  have hok:=hok (by omega)
  obtain ⟨n,rfl⟩:∃ n:Nat,m=n:=⟨m.toNat,by omega⟩
  unfold F22_j2
  refine LoopP.by (J:=fun k (y:Int) hp'=>hp'=hp∧∃ j:Nat,y=((2 ^ j:Nat):Int)∧3≤j∧j+k=40∧(j=3∨2 ^ j<4*n)) ?_ (n:=37) ⟨rfl,3,rfl,by omega,rfl,.inl rfl⟩
  rintro I k y hp' ⟨rfl,j,rfl,hj3,hjk,hj4⟩ hI
  unfold F22_l4
  have h8:(2:Nat) ^ 3≤2 ^ j:=Nat.pow_le_pow_right (by omega) hj3
  have e3:(2:Nat) ^ 3=8:=rfl
  have hN:2 ^ j≤262144:=by
    rcases hj4 with rfl | h
    · decide
    · omega
  rw [w64 (n:=2*(n:Int)) (by omega) (by omega)]
  by_cases hlt:2 ^ j<2*n
  · rw [decide_eq_true (by omega:((2 ^ j:Nat):Int)<2*(n:Int)),ite2_true]
    have hj18:j<40:=by
      rcases Nat.lt_or_ge j 40 with h | h
      · exact h
      · have:=Nat.pow_le_pow_right (n:=2) (by omega) h
        have e40:(2 ^ 40:Nat)=1099511627776:=rfl
        omega
    refine hI (k-1) _ _ (by omega) ⟨rfl,j+1,?_,by omega,by omega,.inr ?_⟩
    · rw [w64 (by omega) (by omega),Nat.pow_succ]; simp
    · rw [Nat.pow_succ]; omega
  · rw [decide_eq_false (by omega:¬ ((2 ^ j:Nat):Int)<2*(n:Int)),ite2_false]
    unfold F22_j3
    obtain ⟨i,hi,hi1,hi2,hi3⟩:∃ i:TypeInfo,Tryz.prog.info? 191=some i∧i.zero=some (.agg ⟨slv none⟩)∧i.size=3∧i.bytes=32:=by
      have h0:(Tryz.prog.info? 191).map (fun i=>(i.zero,i.size,i.bytes))=some (some (.agg ⟨slv none⟩),3,32):=by kernel_rfl
      cases hi:Tryz.prog.info? 191 with
      | none=>rw [hi] at h0; cases h0
      | some i=>
        rw [hi] at h0
        simp only [Option.map_some,Option.some.injEq,Prod.mk.injEq] at h0
        exact ⟨i,rfl,h0.1,h0.2.1,h0.2.2⟩
    refine opS_make (zs:=slv none) (by kernel_rfl) hi hi1 rfl (by rw [hi2]; rfl) (by omega) (by rw [hi3]; omega) (by omega) fun b hb=>?_
    rw [slcV_slice]
    intro x hx'
    have hxb:x≠b:=fun e=>by rw [e,HP.set_eq] at hx'; cases hx'
    have hxn:hp' x=.none:=by rwa [HP.set_ne _ _ hxb] at hx'
    have efl:∀ N:Nat,(List.replicate N (slv none)).flatten=(List.replicate N (none:Slot)).flatMap slv:=fun N=>by
      rw [List.flatMap_def,List.map_replicate]
    rw [efl]
    have ht:tbl (List.replicate (2 ^ j) (none:Slot))=fun _=>none:=by
      funext p
      unfold tbl
      rw [List.getElem?_replicate]
      split <;> rfl
    refine hok x (HP.set (HP.set (fun _=>.none) b (.cells 191 ((List.replicate (2 ^ j) (none:Slot)).flatMap slv) 0)) x (.cells 146 [.slice (some ⟨b,0,none⟩) (2 ^ j) (2 ^ j),.int .i64 n,.int .i64 0] 0)) _ ?_ ?_ ?_
    · refine ⟨b,j,List.replicate (2 ^ j) none,⟨HP.set_eq ..,?_,by simp⟩,by omega,by rw [Int.toNat_natCast]; omega,by omega,by simp,?_,?_,⟨by simp,?_⟩⟩
      · rw [HP.set_ne _ _ hxb.symm,HP.set_eq]
      · rw [ht]; intro p _ y hy; cases hy
      · rw [ht]; intro p q _ _ y z hy; cases hy
      · rw [ht]; intro k v
        simp [getL]
    · exact HSub.set (HSub.set (fun _=>.inl rfl) _ _) _ _
    · intro r hr
      refine ⟨HSub.up (HSub.up hr (hr.none hb) _) (hr.none hxn) _,fun y=>?_⟩
      by_cases hy:y=x
      · subst hy; exact .inr (hr.none hxn)
      · rw [HP.set_ne _ _ hy]
        by_cases hyb:y=b
        · subst hyb; exact .inr (hr.none hb)
        · rw [HP.set_ne _ _ hyb]; exact .inl rfl
end
end Go.Proofs
namespace Go.Hp
open Go.Sort (swp SWO PermIn)
variable {α:Type} [Inhabited α] {lt:α→α→Bool}
def par (k:Nat):Nat:=(k-1) / 2
theorem par_lt {k:Nat} (h:0<k):par k<k:=by unfold par; omega
/-- None of the first n is ahead of the one above it. -/
def Heap (lt:α→α→Bool) (n:Nat) (d:Array α):Prop:=∀ k,0<k→k<n→lt d[k]! d[par k]! = false
/-- The same but for one, against the one above it. -/
def UpOk (lt:α→α→Bool) (n j:Nat) (d:Array α):Prop:=
  (∀ k,0<k→k<n→k≠j→lt d[k]! d[par k]! = false)∧(∀ k,0<k→k<n→par k=j→0<j→lt d[k]! d[par j]! = false)
/-- The same but for those below one, and the one a walk began at. -/
def DnOk (lt:α→α→Bool) (n i0 i:Nat) (d:Array α):Prop:=
  (∀ k,0<k→k<n→par k≠i→(k≠i0∨i≠i0)→lt d[k]! d[par k]! = false)∧(∀ k,0<k→k<n→par k=i→0<i→lt d[k]! d[par i]! = false)
theorem asym {α:Type} {lt:α→α→Bool} (h:SWO lt) {x y:α} (hxy:lt x y=true):lt y x=false:=by
  cases hc:lt y x with
  | false=>rfl
  | true=>have:=h.trans _ _ _ hxy hc; rw [h.irrefl] at this; cases this
theorem swp_l {d:Array α} {i j:Nat} (hi:i<d.size) (hj:j<d.size):(swp d i j)[i]! = d[j]!:= by
  rw [Go.Sort.swp_get d hi hj]; split <;> simp_all
theorem swp_r {d:Array α} {i j:Nat} (hi:i<d.size) (hj:j<d.size):(swp d i j)[j]! = d[i]!:= by
  rw [Go.Sort.swp_get d hi hj]; simp
theorem swp_o {d:Array α} {i j k:Nat} (hi:i<d.size) (hj:j<d.size) (h1:k≠i) (h2:k≠j):(swp d i j)[k]! = d[k]!:= by
  rw [Go.Sort.swp_get d hi hj]; simp [h1,h2]
theorem UpOk.step (h:SWO lt) {n j:Nat} {d:Array α} (hu:UpOk lt n j d) (hj:0<j) (hjn:j<n) (hn:n≤d.size) (hlt:lt d[j]! d[par j]! = true):UpOk lt n (par j) (swp d (par j) j):=by
  have hp:=par_lt hj
  generalize hi:par j=i at *
  have L:=swp_l (d:=d) (i:=i) (j:=j) (by omega) (by omega)
  have R:=swp_r (d:=d) (i:=i) (j:=j) (by omega) (by omega)
  have O:=fun k (h1:k≠i) (h2:k≠j)=>swp_o (d:=d) (i:=i) (j:=j) (k:=k) (by omega) (by omega) h1 h2
  have hij:=asym h hlt
  refine ⟨fun k hk hkn hki=>?_,fun k hk hkn hpk h0=>?_⟩
  · by_cases hkj:k=j
    · subst hkj; rw [hi,R,L]; exact hij
    · have hok:=hu.1 k hk hkn hkj
      by_cases h1:par k=i
      · rw [h1,O k hki hkj,L]; rw [h1] at hok; exact h.ntrans _ _ _ hok hij
      · by_cases h2:par k=j
        · rw [h2,O k hki hkj,R]; exact hi▸hu.2 k hk hkn h2 hj
        · rw [O k hki hkj,O _ h1 h2]; exact hok
  · have hpi:=par_lt h0
    rw [O (par i) (by omega) (by omega)]
    have hoi:=hu.1 i h0 (by omega) (by omega)
    by_cases hkj:k=j
    · subst hkj; rw [R]; exact hoi
    · have hki:k≠i:=fun e=>by rw [e] at hpk; omega
      have hok:=hu.1 k hk hkn hkj
      rw [hpk] at hok
      rw [O k hki hkj]; exact h.ntrans _ _ _ hok hoi
theorem UpOk.stop {n j:Nat} {d:Array α} (hu:UpOk lt n j d) (hs:j=0∨lt d[j]! d[par j]! = false):Heap lt n d:=by
  intro k hk hkn
  by_cases hkj:k=j
  · rcases hs with hs | hs
    · omega
    · rw [hkj]; exact hs
  · exact hu.1 k hk hkn hkj
theorem DnOk.step (h:SWO lt) {n i0 i j:Nat} {d:Array α} (hd:DnOk lt n i0 i d) (h0:i0≤i) (hj:0<j) (hpj:par j=i) (hjn:j<n) (hn:n≤d.size) (hlt:lt d[j]! d[i]! = true)
    (hmin:∀ k,0<k→k<n→par k=i→lt d[k]! d[j]! = false):DnOk lt n i0 j (swp d i j):=by
  have hp:=par_lt hj
  rw [hpj] at hp
  have L:=swp_l (d:=d) (i:=i) (j:=j) (by omega) (by omega)
  have R:=swp_r (d:=d) (i:=i) (j:=j) (by omega) (by omega)
  have O:=fun k (h1:k≠i) (h2:k≠j)=>swp_o (d:=d) (i:=i) (j:=j) (k:=k) (by omega) (by omega) h1 h2
  have hij:=asym h hlt
  refine ⟨fun k hk hkn hpk _=>?_,fun k hk hkn hpk _=>?_⟩
  · have hpl:=par_lt hk
    by_cases hkj:k=j
    · subst hkj; rw [hpj,R,L]; exact hij
    · by_cases hki:k=i
      · subst hki; rw [L,O (par k) (by omega) (by omega)]; exact hd.2 j hj hjn hpj hk
      · by_cases h1:par k=i
        · rw [h1,O k hki hkj,L]; exact hmin k hk hkn h1
        · rw [O k hki hkj,O _ h1 hpk]
          exact hd.1 k hk hkn h1 (by omega)
  · have hpl:=par_lt hk
    rw [hpj,L,O k (by omega) (by omega)]
    have:=hd.1 k hk hkn (by omega) (by omega)
    rw [hpk] at this; exact this
theorem DnOk.stop {n i0 i:Nat} {d:Array α} (hd:DnOk lt n i0 i d) (h0:i0≤i) (hs:∀ k,0<k→k<n→par k=i→lt d[k]! d[i]! = false) :
    (i0<i→Heap lt n d)∧(i=i0→UpOk lt n i0 d):=by
  refine ⟨fun hi k hk hkn=>?_,fun hi=>?_⟩
  · by_cases hp:par k=i
    · rw [hp]; exact hs k hk hkn hp
    · exact hd.1 k hk hkn hp (by omega)
  · subst hi
    refine ⟨fun k hk hkn hki=>?_,hd.2⟩
    by_cases hp:par k=i
    · rw [hp]; exact hs k hk hkn hp
    · exact hd.1 k hk hkn hp (.inl hki)
/-- One place of a heap gets another value. -/
theorem Heap.dn {n i:Nat} {d d':Array α} (h:SWO lt) (hh:Heap lt n d) (hi:i<n) (he:∀ k,k<n→k≠i→d'[k]! = d[k]!):DnOk lt n i i d':=by
  refine ⟨fun k hk hkn hp hki=>?_,fun k hk hkn hp h0=>?_⟩
  · have:=par_lt hk
    rw [he k hkn (by omega),he _ (by omega) hp]; exact hh k hk hkn
  · have h1:=par_lt hk
    have h2:=par_lt h0
    rw [he k hkn (by omega),he _ (by omega) (by omega)]
    have a:=hh k hk hkn
    rw [hp] at a
    exact h.ntrans _ _ _ a (hh i h0 hi)
theorem Heap.mono {n m:Nat} {d:Array α} (hh:Heap lt n d) (hm:m≤n):Heap lt m d:=fun k hk hkm=>hh k hk (by omega)
theorem Heap.root (h:SWO lt) {n:Nat} {d:Array α} (hh:Heap lt n d):∀ k,k<n→lt d[k]! d[0]! = false:=by
  intro k
  induction k using Nat.strongRecOn with
  | ind k ih=>
    intro hk
    by_cases h0:k=0
    · subst h0; exact h.irrefl _
    · have:=par_lt (k:=k) (by omega)
      exact h.ntrans _ _ _ (hh k (by omega) hk) (ih _ this (by omega))
end Go.Hp
set_option linter.unusedVariables false
set_option maxRecDepth 20000
namespace Go.Proofs
open Go Go.HL
open Go.Exp (Th tlt)
def th (t:Th):List Value:=[.int .i64 t.1,.int .i64 t.2]
theorem th_len (t:Th):(th t).length=2:=rfl
theorem th_one (t:Th):(th t).all one=true:=rfl
def iw (n:Int):Value:=.int .i64 n
theorem enc3:EncK Tryz.prog 3 iw where
  inj a b h:=by simpa [iw] using h
  law:=(KeyLaw.flat (d:=.int .i64) (by kernel_rfl)).weaken fun v ⟨k,hk⟩=>by subst hk; exact (rfl:IntKind.i64=IntKind.i64)
theorem u49:Tryz.prog.underlying 148=some (.map 3 3):=by kernel_rfl
theorem zw3:∀ w:World,(zeroValue 3).run Tryz.prog w=.ok (.int .i64 0) w:=by
  intro w
  have h:(Tryz.prog.info? 3).bind (·.zero)=some (.int .i64 0):=by kernel_rfl
  cases hi:Tryz.prog.info? 3 with
  | none=>rw [hi] at h; cases h
  | some i=>rw [hi] at h; simp only [Option.bind_some] at h; simp [zeroValue,typeInfo,hi,h]
end Go.Proofs
set_option linter.unusedVariables false
set_option maxRecDepth 20000
namespace Go.Proofs
open Go Go.HL
def F23 (hp:HP) (K:Kh):Prop:=
  (∀ b_1:Nat,hp b_1=.none→(∀ b_2:Nat,(HP.set hp b_1 (.obj (.map #[] 0))) b_2=.none→(∀ b_3:Nat,(HP.set (HP.set hp b_1 (.obj (.map #[] 0))) b_2 (.cells 151 [(Value.slice none 0 0),(Value.map (some b_1))] 0)) b_3=.none→(K (ptr b_3 0) (HP.set (HP.set (HP.set hp b_1 (.obj (.map #[] 0))) b_2 (.cells 151 [(Value.slice none 0 0),(Value.map (some b_1))] 0)) b_3 (.cells 153 [(ptr b_2 0)] 0))))))
theorem F23_ok (hp:HP) (K:Kh) (h:F23  hp K):CF Tryz.prog 23 [] hp K:=
  have L:∀ {Q} n,Snd Tryz.prog 6 (cAt Tryz.f23 (pth n)) Q (CW Tryz.prog 6 [] [] (cAt Tryz.f23 (pth n)) Q):=fun _=>Snd.leaf
  okF h Tryz.func23 (L 1) (by kernel_rfl) (by kernel_rfl) (by kernel_rfl)
def F70_j1 (x0:OA) (x1 x2:Int) (x16:Bool) (hp:HP) (K:Kh):Prop:=
  (ite2 x16 (K (Value.int .i64 1) hp) (ptrN x0 fun b_4 o_5=>(ldV (HP.cell hp b_4 (o_5+0)) fun v_6=>(ptrV v_6 fun p_7=>(ptrN p_7 fun b_8 o_9=>(ldV (HP.cell hp b_8 (o_9+1)) fun v_10=>(mapV v_10 fun m_11=>(rdS Tryz.prog (Instr.lookup 148 (Value.map m_11) (Value.int .i64 x1) true) hp fun u_12=>(tup2V u_12 fun u_13 u_14=>(intV u_13 .i64 fun i_15=>(boolV u_14 fun q_16=>(ite2 (!q_16) (ptrN x0 fun b_17 o_18=>(ldV (HP.cell hp b_17 (o_18+0)) fun v_19=>(ptrV v_19 fun p_20=>(CF Tryz.prog 121 [(Value.iface 147 (Value.pointer p_20)),(Value.iface 196 (Value.agg ⟨[(Value.int .i64 x1),(Value.int .i64 x2)]⟩))] hp fun u_21 h_22=>(K (Value.int .i64 0) h_22))))) (ptrN x0 fun b_23 o_24=>(ldV (HP.cell hp b_23 (o_24+0)) fun v_25=>(ptrV v_25 fun p_26=>(ptrN p_26 fun b_27 o_28=>(ldV (HP.cell hp b_27 (o_28+0)) fun v_29=>(slcV v_29 fun a_30 n_31 c_32=>((0≤(i_15:Int))∧((i_15:Int)<(n_31:Nat))∧(ptrN a_30 fun b_33 o_34=>(HP.st hp b_33 ((o_34+Int.toNat i_15*2)+1) (Value.int .i64 x2) fun h_35=>(ptrN x0 fun b_36 o_37=>(ldV (HP.cell h_35 b_36 (o_37+0)) fun v_38=>(ptrV v_38 fun p_39=>(CF Tryz.prog 122 [(Value.iface 147 (Value.pointer p_39)),(Value.int .i64 i_15)] h_35 fun u_40 h_41=>(K (Value.int .i64 0) h_41))))))))))))))))))))))))))
def F70 (x0:OA) (x1 x2:Int) (hp:HP) (K:Kh):Prop:=
  (CF Tryz.prog 120 [(Value.pointer x0)] hp fun u_1 h_2=>(boolV u_1 fun q_3=>(ite2 q_3 (K (Value.int .i64 2) h_2) (ite2 (decide ((x2:Int)<0)) (F70_j1 x0 x1 x2 true h_2  K) (F70_j1 x0 x1 x2 (decide ((x2:Int) > 4611686018427387904)) h_2  K)))))
theorem F70_ok (x0:OA) (x1 x2:Int) (hp:HP) (K:Kh) (h:F70 x0 x1 x2 hp K):CF Tryz.prog 70 [(Value.pointer x0),(Value.int .i64 x1),(Value.int .i64 x2)] hp K:=
  have L:∀ {Q} n,Snd Tryz.prog 59 (cAt Tryz.f70 (pth n)) Q (CW Tryz.prog 59 [] [] (cAt Tryz.f70 (pth n)) Q):=fun _=>Snd.leaf
  okF h Tryz.func70 (Snd.seq (L 2) (Snd.seq (L 5) (Snd.seq (Snd.jn [(0,.p),(1,.i .i64),(2,.i .i64),(16,.b)] (fun a hp=>F70_j1 a.1 a.2.1 a.2.2.1 a.2.2.2.1 hp  K) (L 19) (L 27) (by rfl) (by kernel_rfl)) (L 15)))) (by kernel_rfl) (by kernel_rfl) (by kernel_rfl)
def F73_j1 (x0:OA) (x14:Bool) (hp:HP) (K:Kh):Prop:=
  (ite2 x14 (K (.tuple ⟨[(Value.int .i64 0),(Value.int .i64 0),(Value.bool false)]⟩) hp) (ptrN x0 fun b_1 o_2=>(ldV (HP.cell hp b_1 (o_2+0)) fun v_3=>(ptrV v_3 fun p_4=>(ptrN p_4 fun b_5 o_6=>(ldV (HP.cell hp b_5 (o_6+0)) fun v_7=>(slcV v_7 fun a_8 n_9 c_10=>((0≤(0:Int))∧((0:Int)<(n_9:Nat))∧(ptrN a_8 fun b_11 o_12=>(ldV (HP.cell hp b_11 ((o_12+Int.toNat 0*2)+0)) fun v_13=>(intV v_13 .i64 fun i_14=>(ptrN x0 fun b_15 o_16=>(ldV (HP.cell hp b_15 (o_16+0)) fun v_17=>(ptrV v_17 fun p_18=>(ptrN p_18 fun b_19 o_20=>(ldV (HP.cell hp b_19 (o_20+0)) fun v_21=>(slcV v_21 fun a_22 n_23 c_24=>((0≤(0:Int))∧((0:Int)<(n_23:Nat))∧(ptrN a_22 fun b_25 o_26=>(ldV (HP.cell hp b_25 ((o_26+Int.toNat 0*2)+1)) fun v_27=>(intV v_27 .i64 fun i_28=>(K (.tuple ⟨[(Value.int .i64 i_14),(Value.int .i64 i_28),(Value.bool true)]⟩) hp))))))))))))))))))))))
def F73 (x0:OA) (hp:HP) (K:Kh):Prop:=
  (CF Tryz.prog 120 [(Value.pointer x0)] hp fun u_29 h_30=>(boolV u_29 fun q_31=>(ite2 q_31 (F73_j1 x0 true h_30  K) (ptrN x0 fun b_32 o_33=>(ldV (HP.cell h_30 b_32 (o_33+0)) fun v_34=>(ptrV v_34 fun p_35=>(CF Tryz.prog 124 [(Value.pointer p_35)] h_30 fun u_36 h_37=>(intV u_36 .i64 fun i_38=>(F73_j1 x0 ((i_38:Int)==0) h_37  K)))))))))
theorem F73_ok (x0:OA) (hp:HP) (K:Kh) (h:F73 x0 hp K):CF Tryz.prog 73 [(Value.pointer x0)] hp K:=
  have L:∀ {Q} n,Snd Tryz.prog 35 (cAt Tryz.f73 (pth n)) Q (CW Tryz.prog 35 [] [] (cAt Tryz.f73 (pth n)) Q):=fun _=>Snd.leaf
  okF h Tryz.func73 (Snd.seq (L 2) (Snd.seq (Snd.jn [(0,.p),(14,.b)] (fun a hp=>F73_j1 a.1 a.2.1 hp  K) (L 9) (L 13) (by rfl) (by kernel_rfl)) (L 7))) (by kernel_rfl) (by kernel_rfl) (by kernel_rfl)
def F79_j1 (x6:Bool) (hp:HP) (K:Kh):Prop:=
  (K (Value.bool x6) hp)
def F79 (x0:OA) (x1:Int) (hp:HP) (K:Kh):Prop:=
  (CF Tryz.prog 120 [(Value.pointer x0)] hp fun u_1 h_2=>(boolV u_1 fun q_3=>(ite2 q_3 (K (Value.bool false) h_2) (ptrN x0 fun b_4 o_5=>(ldV (HP.cell h_2 b_4 (o_5+0)) fun v_6=>(ptrV v_6 fun p_7=>(ptrN p_7 fun b_8 o_9=>(ldV (HP.cell h_2 b_8 (o_9+1)) fun v_10=>(mapV v_10 fun m_11=>(rdS Tryz.prog (Instr.lookup 148 (Value.map m_11) (Value.int .i64 x1) true) h_2 fun u_12=>(tup2V u_12 fun u_13 u_14=>(intV u_13 .i64 fun i_15=>(boolV u_14 fun q_16=>(ite2 q_16 (ptrN x0 fun b_17 o_18=>(ldV (HP.cell h_2 b_17 (o_18+0)) fun v_19=>(ptrV v_19 fun p_20=>(CF Tryz.prog 126 [(Value.iface 147 (Value.pointer p_20)),(Value.int .i64 i_15)] h_2 fun u_21 h_22=>(F79_j1 q_16 h_22  K))))) (F79_j1 q_16 h_2  K)))))))))))))))
theorem F79_ok (x0:OA) (x1:Int) (hp:HP) (K:Kh) (h:F79 x0 x1 hp K):CF Tryz.prog 79 [(Value.pointer x0),(Value.int .i64 x1)] hp K:=
  have L:∀ {Q} n,Snd Tryz.prog 30 (cAt Tryz.f79 (pth n)) Q (CW Tryz.prog 30 [] [] (cAt Tryz.f79 (pth n)) Q):=fun _=>Snd.leaf
  okF h Tryz.func79 (Snd.seq (L 2) (Snd.seq (L 5) (Snd.seq (L 11) (Snd.jn [(6,.b)] (fun a hp=>F79_j1 a.1 hp  K) (L 23) (L 31) (by rfl) (by kernel_rfl))))) (by kernel_rfl) (by kernel_rfl) (by kernel_rfl)
def F120 (x0:OA) (hp:HP) (K:Kh):Prop:=
  (ite2 (Option.isNone x0) (K (Value.bool true) hp) (ptrN x0 fun b_1 o_2=>(ldV (HP.cell hp b_1 (o_2+0)) fun v_3=>(ptrV v_3 fun p_4=>(K (Value.bool (Option.isNone p_4)) hp)))))
theorem F120_ok (x0:OA) (hp:HP) (K:Kh) (h:F120 x0 hp K):CF Tryz.prog 120 [(Value.pointer x0)] hp K:=
  have L:∀ {Q} n,Snd Tryz.prog 12 (cAt Tryz.f120 (pth n)) Q (CW Tryz.prog 12 [] [] (cAt Tryz.f120 (pth n)) Q):=fun _=>Snd.leaf
  okF h Tryz.func120 (L 1) (by kernel_rfl) (by kernel_rfl) (by kernel_rfl)
def F121 (x0 x1:Value) (hp:HP) (K:Kh):Prop:=
  (ifaceV x0 fun t_1 v_2 => (mthF Tryz.prog t_1 "Push" fun f_3 => (CF Tryz.prog f_3 (v_2 :: [x1]) hp fun u_4 h_5 => (ifaceV x0 fun t_6 v_7 => (mthF Tryz.prog t_6 "Len" fun f_8 => (CF Tryz.prog f_8 (v_7 :: []) h_5 fun u_9 h_10 => (intV u_9 .i64 fun i_11 => (CF Tryz.prog 142 [x0, (Value.int .i64 (IntKind.wrap .i64 (i_11 - 1)))] h_10 fun u_12 h_13 => (K (.tuple ⟨[]⟩) h_13)))))))))
theorem F121_ok (x0 x1:Value) (hp:HP) (K:Kh) (h:F121 x0 x1 hp K):CF Tryz.prog 121 [x0,x1] hp K:=
  have L:∀ {Q} n,Snd Tryz.prog 12 (cAt Tryz.f121 (pth n)) Q (CW Tryz.prog 12 [] [] (cAt Tryz.f121 (pth n)) Q):=fun _=>Snd.leaf
  okF h Tryz.func121 (L 1) (by kernel_rfl) (by kernel_rfl) (by kernel_rfl)
def F122 (x0:Value) (x1:Int) (hp:HP) (K:Kh):Prop:=
  (ifaceV x0 fun t_1 v_2 => (mthF Tryz.prog t_1 "Len" fun f_3 => (CF Tryz.prog f_3 (v_2 :: []) hp fun u_4 h_5 => (intV u_4 .i64 fun i_6 => (CF Tryz.prog 143 [x0, (Value.int .i64 x1), (Value.int .i64 i_6)] h_5 fun u_7 h_8 => (boolV u_7 fun q_9 => (ite2 (!q_9) (CF Tryz.prog 142 [x0, (Value.int .i64 x1)] h_8 fun u_10 h_11 => (K (.tuple ⟨[]⟩) h_11)) (K (.tuple ⟨[]⟩) h_8))))))))
theorem F122_ok (x0:Value) (x1:Int) (hp:HP) (K:Kh) (h:F122 x0 x1 hp K):CF Tryz.prog 122 [x0,(Value.int .i64 x1)] hp K:=
  have L:∀ {Q} n,Snd Tryz.prog 13 (cAt Tryz.f122 (pth n)) Q (CW Tryz.prog 13 [] [] (cAt Tryz.f122 (pth n)) Q):=fun _=>Snd.leaf
  okF h Tryz.func122 (L 1) (by kernel_rfl) (by kernel_rfl) (by kernel_rfl)
def F124 (x0:OA) (hp:HP) (K:Kh):Prop:=
  (ptrN x0 fun b_1 o_2=>(ldV (HP.cell hp b_1 (o_2+0)) fun v_3=>(slcV v_3 fun a_4 n_5 c_6=>(K (Value.int .i64 (n_5:Nat)) hp))))
theorem F124_ok (x0:OA) (hp:HP) (K:Kh) (h:F124 x0 hp K):CF Tryz.prog 124 [(Value.pointer x0)] hp K:=
  have L:∀ {Q} n,Snd Tryz.prog 8 (cAt Tryz.f124 (pth n)) Q (CW Tryz.prog 8 [] [] (cAt Tryz.f124 (pth n)) Q):=fun _=>Snd.leaf
  okF h Tryz.func124 (L 1) (by kernel_rfl) (by kernel_rfl) (by kernel_rfl)
def F126_j1 (x0:Value) (hp:HP) (K:Kh):Prop:=
  (ifaceV x0 fun t_7 v_8 => (mthF Tryz.prog t_7 "Pop" fun f_9 => (CF Tryz.prog f_9 (v_8 :: []) hp fun u_10 h_11 => (K u_10 h_11))))
def F126 (x0:Value) (x1:Int) (hp:HP) (K:Kh):Prop:=
  (ifaceV x0 fun t_1 v_2 => (mthF Tryz.prog t_1 "Len" fun f_3 => (CF Tryz.prog f_3 (v_2 :: []) hp fun u_4 h_5 => (intV u_4 .i64 fun i_6 => (ite2 (((IntKind.wrap .i64 (i_6 - 1)) : Int) != x1) (ifaceV x0 fun t_12 v_13 => (mthF Tryz.prog t_12 "Swap" fun f_14 => (CF Tryz.prog f_14 (v_13 :: [(Value.int .i64 x1), (Value.int .i64 (IntKind.wrap .i64 (i_6 - 1)))]) h_5 fun u_15 h_16 => (CF Tryz.prog 143 [x0, (Value.int .i64 x1), (Value.int .i64 (IntKind.wrap .i64 (i_6 - 1)))] h_16 fun u_17 h_18 => (boolV u_17 fun q_19 => (ite2 (!q_19) (CF Tryz.prog 142 [x0, (Value.int .i64 x1)] h_18 fun u_20 h_21 => (F126_j1 x0 h_21  K)) (F126_j1 x0 h_18  K))))))) (F126_j1 x0 h_5  K))))))
theorem F126_ok (x0:Value) (x1:Int) (hp:HP) (K:Kh) (h:F126 x0 x1 hp K):CF Tryz.prog 126 [x0,(Value.int .i64 x1)] hp K:=
  have L:∀ {Q} n,Snd Tryz.prog 26 (cAt Tryz.f126 (pth n)) Q (CW Tryz.prog 26 [] [] (cAt Tryz.f126 (pth n)) Q):=fun _=>Snd.leaf
  okF h Tryz.func126 (Snd.seq (L 2) (Snd.seq (L 5) (Snd.jn [(0,.w)] (fun a hp=>F126_j1 a.1 hp  K) (L 11) (L 15) (by rfl) (by kernel_rfl)))) (by kernel_rfl) (by kernel_rfl) (by kernel_rfl)
def F142_j2 (x0:Value) (x1 x4:Int) (x17:Bool) (hp:HP) (I1:(Int)→HP→Prop) (K:Kh):Prop:=
  (ite2 x17 (K (.tuple ⟨[]⟩) hp) (ifaceV x0 fun t_1 v_2 => (mthF Tryz.prog t_1 "Swap" fun f_3 => (CF Tryz.prog f_3 (v_2 :: [(Value.int .i64 x4), (Value.int .i64 x1)]) hp fun u_4 h_5 => (I1 x4 h_5)))))
def F142_l1 (x0:Value) (K:Kh) (I1:(Int)→HP→Prop) (x1:Int) (hp:HP):Prop:=
  (((2 : Int) ≠ 0) ∧ (ite2 (((IntKind.wrap .i64 (Int.tdiv (IntKind.wrap .i64 (x1 - 1)) 2)) : Int) == x1) (F142_j2 x0 x1 (IntKind.wrap .i64 (Int.tdiv (IntKind.wrap .i64 (x1 - 1)) 2)) true hp I1 K) (ifaceV x0 fun t_6 v_7 => (mthF Tryz.prog t_6 "Less" fun f_8 => (CF Tryz.prog f_8 (v_7 :: [(Value.int .i64 x1), (Value.int .i64 (IntKind.wrap .i64 (Int.tdiv (IntKind.wrap .i64 (x1 - 1)) 2)))]) hp fun u_9 h_10 => (boolV u_9 fun q_11 => (F142_j2 x0 x1 (IntKind.wrap .i64 (Int.tdiv (IntKind.wrap .i64 (x1 - 1)) 2)) (!q_11) h_10 I1 K)))))))
def F142 (x0:Value) (x1:Int) (hp:HP) (K:Kh):Prop:=
  (LoopP (σ:=Int) (fun I s hp=>F142_l1 x0  K I s hp) x1 hp)
theorem F142_ok (x0:Value) (x1:Int) (hp:HP) (K:Kh) (h:F142 x0 x1 hp K):CF Tryz.prog 142 [x0,(Value.int .i64 x1)] hp K:=
  have L:∀ {Q} n,Snd Tryz.prog 23 (cAt Tryz.f142 (pth n)) Q (CW Tryz.prog 23 [] [] (cAt Tryz.f142 (pth n)) Q):=fun _=>Snd.leaf
  okF h Tryz.func142 (Snd.block 0 (Snd.lp (σ:=Int) [(0,.w),(1,.i .i64)] (fun a=>a.2.1) (fun a s=>(a.1,s,())) (fun a I s hp=>F142_l1 a.1  K I s hp) (fun I1=>(Snd.block 1 (Snd.seq (L 16) (Snd.seq (Snd.jn [(0,.w),(1,.i .i64),(4,.i .i64),(17,.b)] (fun a hp=>F142_j2 a.1 a.2.1 a.2.2.1 a.2.2.2.1 hp (fun s hp=>I1 (a.1,s,()) hp) K) (L 72) (L 104) (by rfl) (by kernel_rfl)) (L 56))))) (by rfl) (by kernel_rfl) (by kernel_rfl))) (by kernel_rfl) (by kernel_rfl) (by kernel_rfl)
def F143_j2 (x1 x7:Int) (hp:HP) (K:Kh):Prop:=
  (K (Value.bool (decide ((x7:Int) > x1))) hp)
def F143_j5 (x0:Value) (x1 x2 x7 x9:Int) (hp:HP) (I3:(Int)→HP→Prop) (K:Kh):Prop:=
  (ifaceV x0 fun t_1 v_2 => (mthF Tryz.prog t_1 "Less" fun f_3 => (CF Tryz.prog f_3 (v_2 :: [(Value.int .i64 x9), (Value.int .i64 x7)]) hp fun u_4 h_5 => (boolV u_4 fun q_6 => (ite2 (!q_6) (F143_j2 x1 x7 h_5  K) (ifaceV x0 fun t_7 v_8 => (mthF Tryz.prog t_7 "Swap" fun f_9 => (CF Tryz.prog f_9 (v_8 :: [(Value.int .i64 x7), (Value.int .i64 x9)]) h_5 fun u_10 h_11 => (I3 x9 h_11)))))))))
def F143_j6 (x0:Value) (x1 x2 x7 x9 x10:Int) (x33:Bool) (hp:HP) (I3:(Int)→HP→Prop) (K:Kh):Prop:=
  (ite2 x33 (F143_j5 x0 x1 x2 x7 x10 hp I3 K) (F143_j5 x0 x1 x2 x7 x9 hp I3 K))
def F143_j4 (x0:Value) (x1 x2 x7 x8:Int) (x21:Bool) (hp:HP) (I3:(Int)→HP→Prop) (K:Kh):Prop:=
  (ite2 x21 (F143_j2 x1 x7 hp  K) (ite2 (decide (((IntKind.wrap .i64 (x8 + 1)) : Int) < x2)) (ifaceV x0 fun t_12 v_13 => (mthF Tryz.prog t_12 "Less" fun f_14 => (CF Tryz.prog f_14 (v_13 :: [(Value.int .i64 (IntKind.wrap .i64 (x8 + 1))), (Value.int .i64 x8)]) hp fun u_15 h_16 => (boolV u_15 fun q_17 => (F143_j6 x0 x1 x2 x7 x8 (IntKind.wrap .i64 (x8 + 1)) q_17 h_16 I3 K))))) (F143_j6 x0 x1 x2 x7 x8 (IntKind.wrap .i64 (x8 + 1)) false hp I3 K)))
def F143_l3 (x0:Value) (x1 x2:Int) (K:Kh) (I3:(Int)→HP→Prop) (x7:Int) (hp:HP):Prop:=
  (ite2 (decide (((IntKind.wrap .i64 ((IntKind.wrap .i64 (2*x7))+1)):Int)≥x2)) (F143_j4 x0 x1 x2 x7 (IntKind.wrap .i64 ((IntKind.wrap .i64 (2*x7))+1)) true hp I3 K) (F143_j4 x0 x1 x2 x7 (IntKind.wrap .i64 ((IntKind.wrap .i64 (2*x7))+1)) (decide (((IntKind.wrap .i64 ((IntKind.wrap .i64 (2*x7))+1)):Int)<0)) hp I3 K))
def F143_j1 (x0:Value) (x1 x2 x7:Int) (hp:HP) (K:Kh):Prop:=
  (LoopP (σ:=Int) (fun I s hp=>F143_l3 x0 x1 x2  K I s hp) x7 hp)
def F143 (x0:Value) (x1 x2:Int) (hp:HP) (K:Kh):Prop:=
  (F143_j1 x0 x1 x2 x1 hp  K)
theorem F143_ok (x0:Value) (x1 x2:Int) (hp:HP) (K:Kh) (h:F143 x0 x1 x2 hp K):CF Tryz.prog 143 [x0,(Value.int .i64 x1),(Value.int .i64 x2)] hp K:=
  have L:∀ {Q} n,Snd Tryz.prog 48 (cAt Tryz.f143 (pth n)) Q (CW Tryz.prog 48 [] [] (cAt Tryz.f143 (pth n)) Q):=fun _=>Snd.leaf
  okF h Tryz.func143 (Snd.seq (L 2) (Snd.jn [(0,.w),(1,.i .i64),(2,.i .i64),(7,.i .i64)] (fun a hp=>F143_j1 a.1 a.2.1 a.2.2.1 a.2.2.2.1 hp  K) (L 5) (Snd.jn [(1,.i .i64),(7,.i .i64)] (fun a hp=>F143_j2 a.1 a.2.1 hp  K) (Snd.block 0 (Snd.lp (σ:=Int) [(0,.w),(1,.i .i64),(2,.i .i64),(7,.i .i64)] (fun a=>a.2.2.2.1) (fun a s=>(a.1,a.2.1,a.2.2.1,s,())) (fun a I s hp=>F143_l3 a.1 a.2.1 a.2.2.1  K I s hp) (fun I3=>(Snd.block 1 (Snd.seq (L 131) (Snd.seq (Snd.jn [(0,.w),(1,.i .i64),(2,.i .i64),(7,.i .i64),(8,.i .i64),(21,.b)] (fun a hp=>F143_j4 a.1 a.2.1 a.2.2.1 a.2.2.2.1 a.2.2.2.2.1 a.2.2.2.2.2.1 hp (fun s hp=>I3 (a.1,a.2.1,a.2.2.1,s,()) hp) K) (L 579) (L 835) (by rfl) (by kernel_rfl)) (Snd.seq (L 707) (Snd.jn [(0,.w),(1,.i .i64),(2,.i .i64),(7,.i .i64),(9,.i .i64)] (fun a hp=>F143_j5 a.1 a.2.1 a.2.2.1 a.2.2.2.1 a.2.2.2.2.1 hp (fun s hp=>I3 (a.1,a.2.1,a.2.2.1,s,()) hp) K) (Snd.seq (L 2499) (Snd.jn [(0,.w),(1,.i .i64),(2,.i .i64),(7,.i .i64),(9,.i .i64),(10,.i .i64),(33,.b)] (fun a hp=>F143_j6 a.1 a.2.1 a.2.2.1 a.2.2.2.1 a.2.2.2.2.1 a.2.2.2.2.2.1 a.2.2.2.2.2.2.1 hp (fun s hp=>I3 (a.1,a.2.1,a.2.2.1,s,()) hp) K) (L 5571) (L 7619) (by rfl) (by kernel_rfl))) (L 1987) (by rfl) (by kernel_rfl))))))) (by rfl) (by kernel_rfl) (by kernel_rfl))) (L 15) (by rfl) (by kernel_rfl)) (by rfl) (by kernel_rfl))) (by kernel_rfl) (by kernel_rfl) (by kernel_rfl)
def F211 (x0:OA) (x1 x2:Int) (hp:HP) (K:Kh):Prop:=
  (ptrN x0 fun b_1 o_2=>(ldV (HP.cell hp b_1 (o_2+0)) fun v_3=>(slcV v_3 fun a_4 n_5 c_6=>((0≤(x1:Int))∧((x1:Int)<(n_5:Nat))∧(ptrN a_4 fun b_7 o_8=>(ldL (HP.cellN hp b_7 (o_8+Int.toNat x1*2) 2) fun l_9=>(ptrN x0 fun b_10 o_11=>(ldV (HP.cell hp b_10 (o_11+0)) fun v_12=>(slcV v_12 fun a_13 n_14 c_15=>((0≤(x2:Int))∧((x2:Int)<(n_14:Nat))∧(ptrN a_13 fun b_16 o_17=>(ldL (HP.cellN hp b_16 (o_17+Int.toNat x2*2) 2) fun l_18=>(CF Tryz.prog 215 [(Value.agg ⟨l_9⟩),(Value.agg ⟨l_18⟩)] hp fun u_19 h_20=>(boolV u_19 fun q_21=>(K (Value.bool q_21) h_20)))))))))))))))
theorem F211_ok (x0:OA) (x1 x2:Int) (hp:HP) (K:Kh) (h:F211 x0 x1 x2 hp K):CF Tryz.prog 211 [(Value.pointer x0),(Value.int .i64 x1),(Value.int .i64 x2)] hp K:=
  have L:∀ {Q} n,Snd Tryz.prog 22 (cAt Tryz.f211 (pth n)) Q (CW Tryz.prog 22 [] [] (cAt Tryz.f211 (pth n)) Q):=fun _=>Snd.leaf
  okF h Tryz.func211 (L 1) (by kernel_rfl) (by kernel_rfl) (by kernel_rfl)
def F212 (x0:OA) (hp:HP) (K:Kh):Prop:=
  (ptrN x0 fun b_1 o_2=>(ldV (HP.cell hp b_1 (o_2+0)) fun v_3=>(slcV v_3 fun a_4 n_5 c_6=>(ptrN x0 fun b_7 o_8=>(ldV (HP.cell hp b_7 (o_8+0)) fun v_9=>(slcV v_9 fun a_10 n_11 c_12=>((0≤((IntKind.wrap .i64 ((n_5:Nat)-1)):Int))∧(((IntKind.wrap .i64 ((n_5:Nat)-1)):Int)<(n_11:Nat))∧(ptrN a_10 fun b_13 o_14=>(ldL (HP.cellN hp b_13 (o_14+Int.toNat (IntKind.wrap .i64 ((n_5:Nat)-1))*2) 2) fun l_15=>(if List.length l_15=2 then (if List.all l_15 one=true then (if 0+List.length l_15≤List.length [(Value.int .i64 0),(Value.int .i64 0)] then (ptrN x0 fun b_16 o_17=>(ldV (HP.cell hp b_16 (o_17+0)) fun v_18=>(slcV v_18 fun a_19 n_20 c_21=>((0≤((IntKind.wrap .i64 ((n_5:Nat)-1)):Int))∧(((IntKind.wrap .i64 ((n_5:Nat)-1)):Int)≤(c_21:Nat))∧(ptrN x0 fun b_22 o_23=>(HP.st hp b_22 (o_23+0) (Value.slice a_19 (Int.toNat (IntKind.wrap .i64 ((n_5:Nat)-1))) c_21) fun h_24=>(ptrN x0 fun b_25 o_26=>(ldV (HP.cell h_24 b_25 (o_26+1)) fun v_27=>(mapV v_27 fun m_28=>(ldV ((splice [(Value.int .i64 0),(Value.int .i64 0)] 0 l_15))[0]? fun v_29=>(intV v_29 .i64 fun i_30=>(opS Tryz.prog (Builtin.delete_ #[148,3] 0 ⟨[(Value.map m_28),(Value.int .i64 i_30)]⟩) h_24 fun u_31 h_32=>(ldL (cellsN (splice [(Value.int .i64 0),(Value.int .i64 0)] 0 l_15) 0 2) fun l_33=>(K (Value.iface 196 (Value.agg ⟨l_33⟩)) h_32)))))))))))))) else False) else False) else False))))))))))
theorem F212_ok (x0:OA) (hp:HP) (K:Kh) (h:F212 x0 hp K):CF Tryz.prog 212 [(Value.pointer x0)] hp K:=
  have L:∀ {Q} n,Snd Tryz.prog 35 (cAt Tryz.f212 (pth n)) Q (CW Tryz.prog 35 [4,31] [] (cAt Tryz.f212 (pth n)) Q):=fun _=>Snd.leaf
  okF h Tryz.func212 (L 1) (by kernel_rfl) (by kernel_rfl) (by kernel_rfl)
def F213 (x0:OA) (x1:Value) (hp:HP) (K:Kh):Prop:=
  (rdS Tryz.prog (Instr.typeAssert x1 20 196 false) hp fun u_1=>(aggV u_1 fun l_2=>(if List.length l_2=2 then (if List.all l_2 one=true then (if 0+List.length l_2≤List.length [(Value.int .i64 0),(Value.int .i64 0)] then (ptrN x0 fun b_3 o_4=>(ldV (HP.cell hp b_3 (o_4+1)) fun v_5=>(mapV v_5 fun m_6=>(ldV ((splice [(Value.int .i64 0),(Value.int .i64 0)] 0 l_2))[0]? fun v_7=>(intV v_7 .i64 fun i_8=>(ptrN x0 fun b_9 o_10=>(ldV (HP.cell hp b_9 (o_10+0)) fun v_11=>(slcV v_11 fun a_12 n_13 c_14=>(opS Tryz.prog (Instr.mapUpdate 148 (Value.map m_6) (Value.int .i64 i_8) (Value.int .i64 (n_13:Nat))) hp fun u_15 h_16=>((ptrN x0 fun b_17 o_18=>(ldV (HP.cell h_16 b_17 (o_18+0)) fun v_19=>(slcV v_19 fun a_20 n_21 c_22=>(ldL (cellsN (splice [(Value.int .i64 0),(Value.int .i64 0)] 0 l_2) 0 2) fun l_23=>(if List.length l_23=2 then (∀ b_24:Nat,h_16 b_24=.none→(opS Tryz.prog (Builtin.append_ #[149,149] 149 ⟨[(Value.slice a_20 n_21 c_22),(Value.slice (some ⟨b_24,0,none⟩) 1 1)]⟩) (HP.set h_16 b_24 (.cells 196 (splice [(Value.int .i64 0),(Value.int .i64 0)] 0 l_23) 0)) fun u_25 h_26=>(slcV u_25 fun a_27 n_28 c_29=>(ptrN x0 fun b_30 o_31=>(HP.st h_26 b_30 (o_31+0) (Value.slice a_27 n_28 c_29) fun h_32=>(K (.tuple ⟨[]⟩) h_32)))))) else False)))))∧(ptrN x0 fun b_33 o_34=>(ldL (cellsN (splice [(Value.int .i64 0),(Value.int .i64 0)] 0 l_2) 0 2) fun l_35=>(if List.length l_35=2 then (∀ b_36:Nat,h_16 b_36=.none→(ldV (HP.cell (HP.set h_16 b_36 (.cells 196 (splice [(Value.int .i64 0),(Value.int .i64 0)] 0 l_35) 0)) b_33 (o_34+0)) fun v_37=>(slcV v_37 fun a_38 n_39 c_40=>(opS Tryz.prog (Builtin.append_ #[149,149] 149 ⟨[(Value.slice a_38 n_39 c_40),(Value.slice (some ⟨b_36,0,none⟩) 1 1)]⟩) (HP.set h_16 b_36 (.cells 196 (splice [(Value.int .i64 0),(Value.int .i64 0)] 0 l_35) 0)) fun u_41 h_42=>(slcV u_41 fun a_43 n_44 c_45=>(ptrN x0 fun b_46 o_47=>(HP.st h_42 b_46 (o_47+0) (Value.slice a_43 n_44 c_45) fun h_48=>(K (.tuple ⟨[]⟩) h_48)))))))) else False))))))))))))) else False) else False) else False)))
theorem F213_ok (x0:OA) (x1:Value) (hp:HP) (K:Kh) (h:F213 x0 x1 hp K):CF Tryz.prog 213 [(Value.pointer x0),x1] hp K:=
  have L:∀ {Q} n,Snd Tryz.prog 28 (cAt Tryz.f213 (pth n)) Q (CW Tryz.prog 28 [4,11] [(2,[(4,6)],[([true],true,[0,1,2,3,4,5,6,7,8,9,10]),([false],true,[0,1,2,3,5,6,4,7,8,9,10])])] (cAt Tryz.f213 (pth n)) Q):=fun _=>Snd.leaf
  okF h Tryz.func213 (L 1) (by kernel_rfl) (by kernel_rfl) (by kernel_rfl)
def F214 (x0:OA) (x1 x2:Int) (hp:HP) (K:Kh):Prop:=
  (ptrN x0 fun b_1 o_2=>(ldV (HP.cell hp b_1 (o_2+0)) fun v_3=>(slcV v_3 fun a_4 n_5 c_6=>(ptrN x0 fun b_7 o_8=>(ldV (HP.cell hp b_7 (o_8+0)) fun v_9=>(slcV v_9 fun a_10 n_11 c_12=>(ptrN x0 fun b_13 o_14=>(ldV (HP.cell hp b_13 (o_14+0)) fun v_15=>(slcV v_15 fun a_16 n_17 c_18=>((0≤(x2:Int))∧((x2:Int)<(n_17:Nat))∧(ptrN a_16 fun b_19 o_20=>(ldL (HP.cellN hp b_19 (o_20+Int.toNat x2*2) 2) fun l_21=>(ptrN x0 fun b_22 o_23=>(ldV (HP.cell hp b_22 (o_23+0)) fun v_24=>(slcV v_24 fun a_25 n_26 c_27=>((0≤(x1:Int))∧((x1:Int)<(n_26:Nat))∧(ptrN a_25 fun b_28 o_29=>(ldL (HP.cellN hp b_28 (o_29+Int.toNat x1*2) 2) fun l_30=>((0≤(x1:Int))∧((x1:Int)<(n_5:Nat))∧(ptrN a_4 fun b_31 o_32=>((List.length l_21=2)∧(HP.stN hp b_31 (o_32+Int.toNat x1*2) l_21 fun h_33=>((0≤(x2:Int))∧((x2:Int)<(n_11:Nat))∧(ptrN a_10 fun b_34 o_35=>((List.length l_30=2)∧(HP.stN h_33 b_34 (o_35+Int.toNat x2*2) l_30 fun h_36=>(ptrN x0 fun b_37 o_38=>(ldV (HP.cell h_36 b_37 (o_38+1)) fun v_39=>(mapV v_39 fun m_40=>(ptrN x0 fun b_41 o_42=>(ldV (HP.cell h_36 b_41 (o_42+0)) fun v_43=>(slcV v_43 fun a_44 n_45 c_46=>((0≤(x1:Int))∧((x1:Int)<(n_45:Nat))∧(ptrN a_44 fun b_47 o_48=>(ldV (HP.cell h_36 b_47 ((o_48+Int.toNat x1*2)+0)) fun v_49=>(intV v_49 .i64 fun i_50=>(ptrN x0 fun b_51 o_52=>(ldV (HP.cell h_36 b_51 (o_52+1)) fun v_53=>(mapV v_53 fun m_54=>(ptrN x0 fun b_55 o_56=>(ldV (HP.cell h_36 b_55 (o_56+0)) fun v_57=>(slcV v_57 fun a_58 n_59 c_60=>((0≤(x2:Int))∧((x2:Int)<(n_59:Nat))∧(ptrN a_58 fun b_61 o_62=>(ldV (HP.cell h_36 b_61 ((o_62+Int.toNat x2*2)+0)) fun v_63=>(intV v_63 .i64 fun i_64=>(opS Tryz.prog (Instr.mapEntry 148 (Value.map m_40) (Value.int .i64 i_50)) h_36 fun u_65 h_66=>(tupI u_65 1 fun v_67=>(intV v_67 .i64 fun i_68=>(opS Tryz.prog (Instr.entryStore 148 (Value.map m_40) (Value.int .i64 i_68) (Value.int .i64 x1)) h_66 fun u_69 h_70=>(opS Tryz.prog (Instr.mapEntry 148 (Value.map m_54) (Value.int .i64 i_64)) h_70 fun u_71 h_72=>(tupI u_71 1 fun v_73=>(intV v_73 .i64 fun i_74=>(opS Tryz.prog (Instr.entryStore 148 (Value.map m_54) (Value.int .i64 i_74) (Value.int .i64 x2)) h_72 fun u_75 h_76=>(K (.tuple ⟨[]⟩) h_76)))))))))))))))))))))))))))))))))))))))))))))))))))))))
theorem F214_ok (x0:OA) (x1 x2:Int) (hp:HP) (K:Kh) (h:F214 x0 x1 x2 hp K):CF Tryz.prog 214 [(Value.pointer x0),(Value.int .i64 x1),(Value.int .i64 x2)] hp K:=
  have L:∀ {Q} n,Snd Tryz.prog 62 (cAt Tryz.f214 (pth n)) Q (CW Tryz.prog 62 [] [] (cAt Tryz.f214 (pth n)) Q):=fun _=>Snd.leaf
  okF h Tryz.func214 (L 1) (by kernel_rfl) (by kernel_rfl) (by kernel_rfl)
def F215 (x0 x1:List Value) (hp:HP) (K:Kh):Prop:=
  (ldV (x0)[1]? fun v_1=>(intV v_1 .i64 fun i_2=>(ldV (x1)[1]? fun v_3=>(intV v_3 .i64 fun i_4=>(ite2 (decide ((i_2:Int)<i_4)) (K (Value.bool true) hp) (ldV (x0)[1]? fun v_5=>(intV v_5 .i64 fun i_6=>(ldV (x1)[1]? fun v_7=>(intV v_7 .i64 fun i_8=>(ite2 ((i_6:Int)==i_8) (ldV (x0)[0]? fun v_9=>(intV v_9 .i64 fun i_10=>(ldV (x1)[0]? fun v_11=>(intV v_11 .i64 fun i_12=>(K (Value.bool (decide ((i_10:Int)<i_12))) hp))))) (K (Value.bool false) hp)))))))))))
theorem F215_ok (x0 x1:List Value) (hp:HP) (K:Kh) (h:F215 x0 x1 hp K):CF Tryz.prog 215 [(Value.agg ⟨x0⟩),(Value.agg ⟨x1⟩)] hp K:=
  have L:∀ {Q} n,Snd Tryz.prog 24 (cAt Tryz.f215 (pth n)) Q (CW Tryz.prog 24 [2,3,5,7,11,13,17,19] [] (cAt Tryz.f215 (pth n)) Q):=fun _=>Snd.leaf
  okF h Tryz.func215 (L 1) (by kernel_rfl) (by kernel_rfl) (by kernel_rfl)
end Go.Proofs
set_option linter.unusedVariables false
set_option maxRecDepth 20000
namespace Go.Proofs
open Go Go.HL
open Go.Exp (Th tlt)
/-- Where each stands. -/
def AtOk (ent:List (Int × Int)) (d:Array Th):Prop:=∀ (id x:Int),getL id ent=some x↔∃ k:Nat,x=k∧k<d.size∧d[k]!.1=id
theorem AtOk.get {ent:List (Int × Int)} {d:Array Th} (h:AtOk ent d) {i:Nat} (hi:i<d.size):getL d[i]!.1 ent=some (i:Int):=(h _ _).2 ⟨i,rfl,hi,rfl⟩
theorem AtOk.inj {ent:List (Int × Int)} {d:Array Th} (h:AtOk ent d) {i k:Nat} (hi:i<d.size) (hk:k<d.size) (he:d[i]!.1=d[k]!.1):i=k:=by
  have a:=h.get hi
  rw [he,h.get hk] at a
  simp only [Option.some.injEq] at a
  omega
theorem AtOk.swap {ent:List (Int × Int)} {d:Array Th} (h:AtOk ent d) {i k:Nat} (hi:i<d.size) (hk:k<d.size) :
    AtOk (putL (Sort.swp d i k)[k]!.1 (k:Int) (putL (Sort.swp d i k)[i]!.1 (i:Int) ent)) (Sort.swp d i k):=by
  have L:=Hp.swp_l hi hk
  have R:=Hp.swp_r hi hk
  have O:=fun j (h1:j≠i) (h2:j≠k)=>Hp.swp_o (k:=j) hi hk h1 h2
  have hsz:(Sort.swp d i k).size=d.size:=swp_size d i k
  intro id x
  rw [getL_put,getL_put,L,R,hsz]
  by_cases h1:id=d[i]!.1
  · rw [if_pos h1]
    constructor
    · intro e; cases e; exact ⟨k,rfl,hk,by rw [R,h1]⟩
    · rintro ⟨j,rfl,hj,e⟩
      congr 1
      by_cases hjk:j=k
      · rw [hjk]
      · by_cases hji:j=i
        · rw [hji,L,h1] at e
          rw [hji]; exact congrArg _ (h.inj hk hi e)
        · rw [O j hji hjk,h1] at e
          exact absurd (h.inj hj hi e) hji
  · rw [if_neg h1]
    by_cases h2:id=d[k]!.1
    · rw [if_pos h2]
      constructor
      · intro e; cases e; exact ⟨i,rfl,hi,by rw [L,h2]⟩
      · rintro ⟨j,rfl,hj,e⟩
        congr 1
        by_cases hji:j=i
        · rw [hji]
        · by_cases hjk:j=k
          · rw [hjk,R] at e; exact absurd e.symm h1
          · rw [O j hji hjk,h2] at e
            exact absurd (h.inj hj hk e) hjk
    · rw [if_neg h2,h id x]
      constructor
      · rintro ⟨j,rfl,hj,e⟩
        exact ⟨j,rfl,hj,by rw [O j (fun e'=>h1 (by rw [← e,e'])) (fun e'=>h2 (by rw [← e,e']))]; exact e⟩
      · rintro ⟨j,rfl,hj,e⟩
        by_cases hji:j=i
        · rw [hji,L] at e; exact absurd e.symm h2
        · by_cases hjk:j=k
          · rw [hjk,R] at e; exact absurd e.symm h1
          · rw [O j hji hjk] at e; exact ⟨j,rfl,hj,e⟩
theorem push_old {d:Array Th} {t:Th} {k:Nat} (hk:k<d.size):(d.push t)[k]! = d[k]!:= by
  rw [getElem!_pos (d.push t) k (by simp; omega),getElem!_pos d k hk,Array.getElem_push_lt]
theorem push_new {d:Array Th} {t:Th}:(d.push t)[d.size]! = t:=by
  rw [getElem!_pos (d.push t) d.size (by simp),Array.getElem_push_eq]
theorem pop_old {d:Array Th} {k:Nat} (hk:k<d.size-1):d.pop[k]! = d[k]!:= by
  rw [getElem!_pos d.pop k (by simpa using hk),getElem!_pos d k (by omega),Array.getElem_pop]
theorem AtOk.push {ent:List (Int × Int)} {d:Array Th} (h:AtOk ent d) {t:Th} (hn:∀ k,k<d.size→d[k]!.1≠t.1):AtOk (putL t.1 (d.size:Int) ent) (d.push t):=by
  intro id x
  rw [getL_put]
  by_cases h1:id=t.1
  · rw [if_pos h1]
    constructor
    · intro e; cases e; exact ⟨d.size,rfl,by simp,by rw [push_new,h1]⟩
    · rintro ⟨j,rfl,hj,e⟩
      congr 1
      by_cases hjs:j=d.size
      · rw [hjs]
      · have hj':j<d.size:=by simp at hj; omega
        rw [push_old hj',h1] at e
        exact absurd e (hn j hj')
  · rw [if_neg h1,h id x]
    constructor
    · rintro ⟨j,rfl,hj,e⟩
      exact ⟨j,rfl,by simp; omega,by rw [push_old hj]; exact e⟩
    · rintro ⟨j,rfl,hj,e⟩
      by_cases hjs:j=d.size
      · rw [hjs,push_new] at e; exact absurd e.symm h1
      · have hj':j<d.size:=by simp at hj; omega
        rw [push_old hj'] at e; exact ⟨j,rfl,hj',e⟩
theorem AtOk.pop {ent:List (Int × Int)} {d:Array Th} (h:AtOk ent d) (hnd:(ent.map (·.1)).Nodup) (h0:0<d.size):AtOk (delL d[d.size-1]!.1 ent) d.pop:=by
  intro id x
  rw [getL_del hnd]
  by_cases h1:id=d[d.size-1]!.1
  · rw [if_pos h1]
    constructor
    · intro e; cases e
    · rintro ⟨j,rfl,hj,e⟩
      have hj':j<d.size-1:=by simpa using hj
      rw [pop_old hj',h1] at e
      have:=h.inj (by omega) (by omega) e
      omega
  · rw [if_neg h1,h id x]
    constructor
    · rintro ⟨j,rfl,hj,e⟩
      have hjn:j≠d.size-1:=fun e'=>h1 (by rw [← e,e'])
      exact ⟨j,rfl,by simp; omega,by rw [pop_old (by omega)]; exact e⟩
    · rintro ⟨j,rfl,hj,e⟩
      have hj':j<d.size-1:=by simpa using hj
      rw [pop_old hj'] at e
      exact ⟨j,rfl,by omega,e⟩
/-- A queue in memory: q, its order o, the map m of where each stands, the row of things. -/
def QD (hq:HP) (q o m:Nat) (d:Array Th):Prop:=∃ (s:Option Addr) (c:Nat) (ent:List (Int × Int)),
  hq q=.cells 153 [ptr o 0] 0∧hq o=.cells 151 [.slice s d.size c,.map (some m)] 0∧Row hq s d.size c 196 2 (d.toList.flatMap th)∧MapE iw iw ent (hq m)∧(ent.map (·.1)).Nodup∧AtOk ent d
section
variable {hq:HP} {q o m:Nat} {d:Array Th} {K:Value→HP→Prop}
theorem C124 (h:QD hq q o m d) (k:K (.int .i64 (d.size:Nat)) hq):CF Tryz.prog 124 [ptr o 0] hq K:=by
  refine F124_ok _ hq K ?_
  unfold F124
  obtain ⟨s,c,ent,h1,h2,h3,h4,h5,h6⟩:=h
  rw [ptrN_some,HP.cell_of h2]
  exact k
theorem C215 {x y:Th} (k:K (.bool (tlt x y)) hq):CF Tryz.prog 215 [.agg ⟨th x⟩,.agg ⟨th y⟩] hq K:=by
  refine F215_ok (th x) (th y) hq K ?_
  unfold F215
  have q0:∀ t:Th,(th t)[0]?=some (.int .i64 t.1):=fun _=>rfl
  have q1:∀ t:Th,(th t)[1]?=some (.int .i64 t.2):=fun _=>rfl
  simp only [q0,q1,ldV_some,intV_int]
  unfold tlt at k
  by_cases h1:x.2<y.2
  · rw [decide_eq_true h1,Bool.true_or] at k
    rw [decide_eq_true h1,ite2_true]; exact k
  · rw [decide_eq_false h1,Bool.false_or] at k
    rw [decide_eq_false h1,ite2_false]
    by_cases h2:x.2=y.2
    · rw [decide_eq_true h2,Bool.true_and] at k
      have e:(x.2==y.2)=true:=by simpa using h2
      rw [e,ite2_true]; exact k
    · rw [decide_eq_false h2,Bool.false_and] at k
      have e:(x.2==y.2)=false:=by simpa using h2
      rw [e,ite2_false]; exact k
/-- What is known where there is at least one. -/
theorem QD.open_ (h:QD hq q o m d) (h0:0<d.size):∃ (b c:Nat) (ent:List (Int × Int)),hq q=.cells 153 [ptr o 0] 0∧hq o=.cells 151 [.slice (some ⟨b,0,none⟩) d.size c,.map (some m)] 0∧d.size≤c ∧
    hq b=.cells 196 (d.toList.flatMap th) ((c-d.size)*2)∧MapE iw iw ent (hq m)∧(ent.map (·.1)).Nodup∧AtOk ent d∧b≠q∧b≠o∧b≠m∧m≠q∧m≠o∧q≠o∧(∀ i,i<d.size→hq.cellN b (0+i*2) 2=some (th d[i]!)):=by
  obtain ⟨s,c,ent,h1,h2,h3,h4,h5,h6⟩:=h
  rcases h3 with ⟨_,h0',_,_⟩ | ⟨b,rfl,hnc,hxl,hb⟩
  · omega
  obtain ⟨ob,hob⟩:∃ ob,hq m=.obj ob:=by obtain ⟨es,clock,he,_⟩:=h4; exact ⟨_,he⟩
  refine ⟨b,c,ent,h1,h2,hnc,hb,h4,h5,h6,?_,?_,?_,?_,?_,?_,fun i hi=>?_⟩
  · intro e; rw [e,h1] at hb; simp at hb
  · intro e; rw [e,h2] at hb; simp at hb
  · intro e; rw [e,hob] at hb; cases hb
  · intro e; rw [e,h1] at hob; cases hob
  · intro e; rw [e,h2] at hob; cases hob
  · intro e; rw [e,h2] at h1; simp at h1
  · rw [HP.cellN_of hb,Nat.zero_add,flat_at th_len (by simpa using hi),getElem!_pos d i hi]; simp
theorem C211 {i k:Nat} (h:QD hq q o m d) (hi:i<d.size) (hk:k<d.size) (hK:K (.bool (tlt d[i]! d[k]!)) hq):CF Tryz.prog 211 [ptr o 0,.int .i64 i,.int .i64 k] hq K:=by
  obtain ⟨b,c,ent,h1,h2,h3,h4,h5,h6,h7,n1,n2,n3,n4,n5,n6,g⟩:=h.open_ (by omega)
  refine F211_ok _ i k hq K ?_
  unfold F211
  have hco:∀ x,hq.cell o x=[Value.slice (some ⟨b,0,none⟩) d.size c,.map (some m)][x]?:=fun x=>HP.cell_of h2
  simp only [ptrN_some,hco,Nat.zero_add,List.getElem?_cons_zero,ldV_some,slcV_slice,Int.toNat_natCast]
  have gi:=g i hi
  have gk:=g k hk
  rw [Nat.zero_add] at gi gk
  rw [gi,ldL_some,gk,ldL_some]
  refine ⟨by omega,by omega,by omega,by omega,?_⟩
  refine C215 ?_
  rw [boolV_bool]
  exact hK
theorem C214 {i k:Nat} (h:QD hq q o m d) (hi:i<d.size) (hk:k<d.size) (hK:∀ hq',QD hq' q o m (Sort.swp d i k)→K (.tuple ⟨[]⟩) hq'):CF Tryz.prog 214 [ptr o 0,.int .i64 i,.int .i64 k] hq K:=by
  obtain ⟨b,c,ent,h1,h2,h3,h4,h5,h6,h7,n1,n2,n3,n4,n5,n6,g⟩:=h.open_ (by omega)
  refine F214_ok _ i k hq K ?_
  unfold F214
  have hco:∀ x,hq.cell o x=[Value.slice (some ⟨b,0,none⟩) d.size c,.map (some m)][x]?:=fun x=>HP.cell_of h2
  simp only [ptrN_some,hco,Nat.zero_add,List.getElem?_cons_zero,List.getElem?_cons_succ,ldV_some,slcV_slice,mapV_map,Int.toNat_natCast]
  have gi:=g i hi
  have gk:=g k hk
  rw [Nat.zero_add] at gi gk
  simp only [gi,gk,ldL_some]
  refine ⟨by omega,by omega,by omega,by omega,by omega,by omega,th_len _,?_⟩
  have hle:∀ j,j<d.size→j*2+2≤(d.toList.flatMap th).length:=fun j hj=>by rw [flat_len th_len]; simp; omega
  have hle2:∀ (x:Th) j,j<d.size→j*2+2≤((d.setIfInBounds i x).toList.flatMap th).length:=fun x j hj=>by rw [flat_len th_len]; simp; omega
  refine HP.stN_at h4 (by rw [th_len]; exact hle i hi) (th_one _) ?_
  refine ⟨by omega,by omega,th_len _,?_⟩
  have e1:splice (d.toList.flatMap th) (i*2) (th d[k]!)=((d.setIfInBounds i d[k]!).toList).flatMap th:=by
    rw [flat_splice th_len _ (by simpa using hi)]; simp
  rw [e1]
  refine HP.stN_at (HP.set_eq ..) (by rw [th_len]; exact hle2 _ k hk) (th_one _) ?_
  have e2:splice ((d.setIfInBounds i d[k]!).toList.flatMap th) (k*2) (th d[i]!)=(Sort.swp d i k).toList.flatMap th:=by
    rw [flat_splice th_len _ (by simpa using hk)]; simp [Sort.swp]
  rw [e2,HP.set_set]
  have hsz:(Sort.swp d i k).size=d.size:=swp_size d i k
  have hb':(hq.set b (.cells 196 ((Sort.swp d i k).toList.flatMap th) ((c-d.size)*2))) b=.cells 196 ((Sort.swp d i k).toList.flatMap th) ((c-d.size)*2):=HP.set_eq ..
  have ho':(hq.set b (.cells 196 ((Sort.swp d i k).toList.flatMap th) ((c-d.size)*2))) o=.cells 151 [.slice (some ⟨b,0,none⟩) d.size c,.map (some m)] 0:=by rw [HP.set_ne _ _ n2.symm]; exact h2
  have hq':(hq.set b (.cells 196 ((Sort.swp d i k).toList.flatMap th) ((c-d.size)*2))) q=.cells 153 [ptr o 0] 0:=by rw [HP.set_ne _ _ n1.symm]; exact h1
  have hm':MapE iw iw ent ((hq.set b (.cells 196 ((Sort.swp d i k).toList.flatMap th) ((c-d.size)*2))) m):=by rw [HP.set_ne _ _ n3.symm]; exact h5
  generalize hq.set b (.cells 196 ((Sort.swp d i k).toList.flatMap th) ((c-d.size)*2))=hq2 at *
  have hco2:∀ x,hq2.cell o x=[Value.slice (some ⟨b,0,none⟩) d.size c,.map (some m)][x]?:=fun x=>HP.cell_of ho'
  have g2:∀ j,j<d.size→hq2.cell b (j*2+0)=some (.int .i64 (Sort.swp d i k)[j]!.1):=fun j hj=>by
    have:hq2.cellN b (j*2) 2=some (th (Sort.swp d i k)[j]!):=by
      rw [HP.cellN_of hb',flat_at th_len (by simpa [hsz] using hj),getElem!_pos (Sort.swp d i k) j (by rw [hsz]; exact hj)]; simp
    exact HP.cell_cellN this rfl
  have g2i:=g2 i hi
  have g2k:=g2 k hk
  simp only [Nat.add_zero] at g2i g2k
  simp only [ptrN_some,hco2,Nat.zero_add,Nat.add_zero,List.getElem?_cons_zero,List.getElem?_cons_succ,ldV_some,slcV_slice,mapV_map,g2i,g2k,intV_int]
  refine ⟨by omega,by omega,by omega,by omega,?_⟩
  have hat:=h7.swap hi hk
  have hin:∀ j,j<d.size→(getL (Sort.swp d i k)[j]!.1 ent).isSome=true:=fun j hj=>by
    by_cases e:j=i
    · rw [e,Hp.swp_l hi hk,h7.get hk]; rfl
    · by_cases e':j=k
      · rw [e',Hp.swp_r hi hk,h7.get hi]; rfl
      · rw [Hp.swp_o hi hk e e',h7.get hj]; rfl
  refine opS_mono (opS_entrySet u49 enc3 hm' (Sort.swp d i k)[i]!.1 (i:Int) (ev:=iw) (hin i hi) (K:=fun _ h=>opS Tryz.prog (Instr.mapEntry 148 (.map (some m)) (iw (Sort.swp d i k)[k]!.1)) h fun u h1=>tupI u 1 fun x=>intV x .i64 fun i'=>opS Tryz.prog (Instr.entryStore 148 (.map (some m)) (.int .i64 i') (iw (k:Int))) h1 fun _ h=>K (.tuple ⟨[]⟩) h) fun e he=>?_) (fun _ _ x=>x)
  have hm2:MapE iw iw (putL (Sort.swp d i k)[i]!.1 (i:Int) ent) ((hq2.set m e) m):=by rw [HP.set_eq]; exact he
  refine opS_entrySet u49 enc3 hm2 (Sort.swp d i k)[k]!.1 (k:Int) (ev:=iw) ?_ fun e' he'=>?_
  · rw [getL_put]
    split
    · rfl
    · exact hin k hk
  rw [HP.set_set]
  refine hK _ ⟨some ⟨b,0,none⟩,c,_,?_,?_,.inr ⟨b,rfl,by omega,by rw [flat_len th_len]; simp [hsz],?_⟩,by rw [HP.set_eq]; exact he',nodup_put (nodup_put h6),hat⟩
  · rw [HP.set_ne _ _ n4.symm]; exact hq'
  · rw [HP.set_ne _ _ n5.symm,hsz]; exact ho'
  · rw [HP.set_ne _ _ n3,hsz]; exact hb'
theorem C212 (h:QD hq q o m d) (h0:0<d.size) (hn:d.size≤1000000) (hK:∀ hq',QD hq' q o m d.pop→K (.iface 196 (.agg ⟨th d[d.size-1]!⟩)) hq'):CF Tryz.prog 212 [ptr o 0] hq K:=by
  obtain ⟨b,c,ent,h1,h2,h3,h4,h5,h6,h7,n1,n2,n3,n4,n5,n6,g⟩:=h.open_ h0
  refine CF.imp (F212_ok _ hq _ ?_)
  unfold F212
  have hco:∀ x,hq.cell o x=[Value.slice (some ⟨b,0,none⟩) d.size c,.map (some m)][x]?:=fun x=>HP.cell_of h2
  have w:IntKind.wrap .i64 ((d.size:Nat)-1)=((d.size-1:Nat):Int):=wi (by omega) (by omega)
  have gl:=g (d.size-1) (by omega)
  rw [Nat.zero_add] at gl
  have hz:[Value.int .i64 0,.int .i64 0]=th (0,0):=rfl
  have hsp:splice (th (0,0)) 0 (th d[d.size-1]!)=th d[d.size-1]! := splice_all rfl
  have q0:(th d[d.size-1]!)[0]?=some (.int .i64 d[d.size-1]!.1):=rfl
  have qa:cellsN (th d[d.size-1]!) 0 2=some (th d[d.size-1]!):=rfl
  simp only [ptrN_some,hco,Nat.zero_add,List.getElem?_cons_zero,List.getElem?_cons_succ,ldV_some,slcV_slice,w,Int.toNat_natCast,gl,ldL_some,th_len,th_one,if_true,hz,hsp]
  refine ⟨by omega,by omega,?_⟩
  refine ifI (by decide) ?_
  refine ⟨by omega,by omega,?_⟩
  refine HP.st_at h2 (by simp) ?_
  simp only [List.set_cons_zero]
  have ho':(hq.set o (.cells 151 [Value.slice (some ⟨b,0,none⟩) (d.size-1) c,.map (some m)] 0)) o=.cells 151 [Value.slice (some ⟨b,0,none⟩) (d.size-1) c,.map (some m)] 0:=HP.set_eq ..
  have hb':(hq.set o (.cells 151 [Value.slice (some ⟨b,0,none⟩) (d.size-1) c,.map (some m)] 0)) b=.cells 196 (d.toList.flatMap th) ((c-d.size)*2):=by rw [HP.set_ne _ _ n2]; exact h4
  have hq':(hq.set o (.cells 151 [Value.slice (some ⟨b,0,none⟩) (d.size-1) c,.map (some m)] 0)) q=.cells 153 [ptr o 0] 0:=by rw [HP.set_ne _ _ n6]; exact h1
  have hm':MapE iw iw ent ((hq.set o (.cells 151 [Value.slice (some ⟨b,0,none⟩) (d.size-1) c,.map (some m)] 0)) m):=by rw [HP.set_ne _ _ n5]; exact h5
  generalize hq.set o (.cells 151 [Value.slice (some ⟨b,0,none⟩) (d.size-1) c,.map (some m)] 0)=hq2 at *
  have hco2:∀ x,hq2.cell o x=[Value.slice (some ⟨b,0,none⟩) (d.size-1) c,.map (some m)][x]?:=fun x=>HP.cell_of ho'
  simp only [hco2,List.getElem?_cons_zero,List.getElem?_cons_succ,ldV_some,mapV_map,q0,intV_int,qa,ldL_some]
  refine opS_delete u49 enc3 hm' d[d.size-1]!.1 fun e he=>?_
  have hl:d.toList.flatMap th=d.pop.toList.flatMap th++th d[d.size-1]!:= by
    have:d.toList=d.pop.toList++[d[d.size-1]!]:=by
      rw [getElem!_pos d (d.size-1) (by omega)]
      apply List.ext_getElem
      · simp; omega
      · intro i h1 h2
        rw [List.getElem_append]
        split
        · simp
        · rename_i hc
          simp at hc h1
          have:i=d.size-1:=by omega
          subst this
          simp
    rw [this,List.flatMap_append]; simp
  have hb2:(hq2.set m e) b=.cells 196 (d.pop.toList.flatMap th++th d[d.size-1]!) ((c-d.size)*2):=by rw [HP.set_ne _ _ n3,hb',hl]
  refine ⟨_,HImp.shrink hb2,hK _ ⟨some ⟨b,0,none⟩,c,_,?_,?_,.inr ⟨b,rfl,by simp; omega,by rw [flat_len th_len]; simp,?_⟩,?_,nodup_del h6,h7.pop h6 h0⟩⟩
  · rw [HP.set_ne _ _ n1.symm,HP.set_ne _ _ n4.symm]; exact hq'
  · rw [HP.set_ne _ _ n2.symm,HP.set_ne _ _ n5.symm,ho']; simp
  · rw [HP.set_eq,th_len]
    congr 1
    simp
    omega
  · rw [HP.set_ne _ _ n3.symm,HP.set_eq]; exact he
end
end Go.Proofs
set_option linter.unusedVariables false
set_option maxRecDepth 20000
namespace Go.Proofs
open Go Go.HL
open Go.Exp (Th tlt swo_tlt)
open Go.Sort (PermIn swp)
theorem m_less {c : FuncId → Prop} : mthF Tryz.prog 147 "Less" c = c 211 := by kernel_rfl
theorem m_swap {c : FuncId → Prop} : mthF Tryz.prog 147 "Swap" c = c 214 := by kernel_rfl
theorem m_len {c : FuncId → Prop} : mthF Tryz.prog 147 "Len" c = c 124 := by kernel_rfl
theorem m_push {c : FuncId → Prop} : mthF Tryz.prog 147 "Push" c = c 213 := by kernel_rfl
theorem m_pop {c : FuncId → Prop} : mthF Tryz.prog 147 "Pop" c = c 212 := by kernel_rfl
section
variable {hq:HP} {q o m:Nat} {d:Array Th} {K:Value→HP→Prop}
theorem app_push {d:Array Th} {t:Th}:(d.push t).toList.flatMap th=d.toList.flatMap th++th t:=by
  rw [Array.toList_push,List.flatMap_append]; simp
theorem C213 {t:Th} (h:QD hq q o m d) (hn:d.size≤1000000) (hnew:∀ k,k<d.size→d[k]!.1≠t.1) (hK:∀ hq',QD hq' q o m (d.push t)→K (.tuple ⟨[]⟩) hq'):CF Tryz.prog 213 [ptr o 0,.iface 196 (.agg ⟨th t⟩)] hq K:=by
  obtain ⟨s,c,ent,h1,h2,h3,h4,h5,h6⟩:=h
  refine CF.drop (F213_ok _ _ hq _ ?_)
  unfold F213
  refine rdS_assert (by kernel_rfl) ?_
  have hco:∀ x,hq.cell o x=[Value.slice s d.size c,.map (some m)][x]?:=fun x=>HP.cell_of h2
  have hz:[Value.int .i64 0,.int .i64 0]=th (0,0):=rfl
  have hsp:splice (th (0,0)) 0 (th t)=th t:=splice_all rfl
  have q0:(th t)[0]?=some (.int .i64 t.1):=rfl
  have qa:cellsN (th t) 0 2=some (th t):=rfl
  simp only [aggV_agg,th_len,th_one,if_true,hz,hsp,ptrN_some,hco,Nat.zero_add,List.getElem?_cons_zero,List.getElem?_cons_succ,ldV_some,mapV_map,slcV_slice,q0,intV_int]
  refine ifI (by decide) ?_
  refine opS_mapUpdate u49 enc3 h4 t.1 (d.size:Int) (ev:=iw) fun e he=>?_
  obtain ⟨ob,hob⟩:∃ ob,hq m=.obj ob:=by obtain ⟨es,clock,he',_⟩:=h4; exact ⟨_,he'⟩
  have nmq:m≠q:=fun e=>by rw [e,h1] at hob; cases hob
  have nmo:m≠o:=fun e=>by rw [e,h2] at hob; cases hob
  have nqo:q≠o:=fun e=>by rw [e,h2] at h1; simp at h1
  have h1':(hq.set m e) q=.cells 153 [ptr o 0] 0:=by rw [HP.set_ne _ _ nmq.symm]; exact h1
  have h2':(hq.set m e) o=.cells 151 [.slice s d.size c,.map (some m)] 0:=by rw [HP.set_ne _ _ nmo.symm]; exact h2
  have h3':Row (hq.set m e) s d.size c 196 2 (d.toList.flatMap th):=h3.set_obj hob e
  have h4':MapE iw iw (putL t.1 (d.size:Int) ent) ((hq.set m e) m):=by rw [HP.set_eq]; exact he
  have hob':∃ ob,(hq.set m e) m=.obj ob:=by obtain ⟨es,clock,he',_⟩:=h4'; exact ⟨_,he'⟩
  obtain ⟨ob',hob'⟩:=hob'
  have hat:=h6.push hnew
  have hnd:=nodup_put (k:=t.1) (v:=(d.size:Int)) h5
  generalize hq.set m e=hq2 at *
  have hco2:∀ (x y:Nat) (E:Ent),y≠o→(hq2.set y E).cell o x=[Value.slice s d.size c,.map (some m)][x]?:=fun x y E hy=>HP.cell_of (by rw [HP.set_ne _ _ hy.symm]; exact h2')
  have hco1:∀ x,hq2.cell o x=[Value.slice s d.size c,.map (some m)][x]?:=fun x=>HP.cell_of h2'
  have fin:∀ b24,hq2 b24=.none→opS Tryz.prog (Builtin.append_ #[149,149] 149 ⟨[(Value.slice s d.size c),(Value.slice (some ⟨b24,0,none⟩) 1 1)]⟩) (hq2.set b24 (.cells 196 (th t) 0)) fun u_25 h_26=>slcV u_25 fun a_27 n_28 c_29=>HP.st h_26 o 0 (Value.slice a_27 n_28 c_29) fun h_32=>∃ hp'',HSub hp'' h_32∧K (.tuple ⟨[]⟩) hp'':=by
    intro b24 hb24
    have s24:=HSub.set_fresh hq2 (.cells 196 (th t) 0) hb24
    have sh:Shows (hq2.set b24 (.cells 196 (th t) 0)) (some ⟨b24,0,none⟩) 1 2 (th t):=.inr ⟨b24,0,rfl,by rw [HP.cellN_of (HP.set_eq ..)]; exact cellsN_all rfl⟩
    refine opS_app (e:=196) (size:=2) (bytes:=16) (by kernel_rfl) (h3'.sub s24) sh (th_one _) (by omega) (by omega) ?_
    intro s4 c4 hp4 hrow4 hup
    rw [slcV_slice]
    have key:hp4 q=.cells 153 [ptr o 0] 0∧hp4 o=.cells 151 [.slice s d.size c,.map (some m)] 0∧hp4 m=hq2 m:=by
      have nb:∀ {x:Nat} {E:Ent},hq2 x=E→E≠.none→x≠b24:=fun hx hE e=>hE (by rw [← hx,e,hb24])
      have k1:=s24.cells h1'
      have k2:=s24.cells h2'
      have k3:=s24.obj hob'
      rcases hup with ⟨rfl,rfl⟩ | ⟨b,e',rfl,hb,rfl⟩
      · exact ⟨k1,k2,by rw [k3,hob']⟩
      · have hbn:∀ {x:Nat} {E:Ent},(hq2.set b24 (.cells 196 (th t) 0)) x=E→E≠.none→(∀ cs sp,E≠.cells 196 cs sp)→x≠b:=by
          intro x E hx hE hE2 e
          subst e
          rcases hb with hb | hb
          · exact hE (by rw [← hx,hb])
          · rcases h3'.sub s24 with ⟨r1,_⟩ | ⟨b',r1,r2,r3,r4⟩
            · rw [r1] at hb; cases hb
            · rw [r1] at hb; cases hb; exact hE2 _ _ (by rw [← hx,r4])
        refine ⟨?_,?_,?_⟩
        · rw [HP.set_ne _ _ (hbn k1 (by simp) (by simp))]; exact k1
        · rw [HP.set_ne _ _ (hbn k2 (by simp) (by simp))]; exact k2
        · rw [HP.set_ne _ _ (hbn k3 (by simp) (by simp)),k3,hob']
    refine HP.st_at key.2.1 (by simp) ?_
    simp only [List.set_cons_zero]
    refine ⟨_,HSub.refl _,hK _ ⟨s4,c4,_,?_,?_,?_,?_,hnd,hat⟩⟩
    · rw [HP.set_ne _ _ nqo]; exact key.1
    · rw [HP.set_eq]; simp
    · rw [app_push]
      have hsz:(d.push t).size=d.size+1:=by simp
      rw [hsz]
      rcases hrow4 with ⟨r1,r2,r3,r4⟩ | ⟨b',r1,r2,r3,r4⟩
      · omega
      · exact .inr ⟨b',r1,r2,r3,by rw [HP.set_ne _ _ (fun e'=>by rw [e',key.2.1] at r4; simp at r4)]; exact r4⟩
    · rw [HP.set_ne _ _ nmo,key.2.2]; exact h4'
  refine ⟨?_,?_⟩
  · simp only [hco1,List.getElem?_cons_zero,ldV_some,slcV_slice,qa,ldL_some]
    refine ifI (th_len t) ?_
    intro b24 hb24
    simp only [hsp]
    exact fin b24 hb24
  · simp only [qa,ldL_some]
    refine ifI (th_len t) ?_
    intro b24 hb24
    have hbo:b24≠o:=fun e=>by rw [e,h2'] at hb24; cases hb24
    simp only [hco2 _ _ _ hbo,List.getElem?_cons_zero,ldV_some,slcV_slice,hsp]
    exact fin b24 hb24
theorem C142 {n j:Nat} (hu:Hp.UpOk tlt n j d) (hj:j<n) (hn:n≤d.size) (hsz:d.size≤1000000) (h:QD hq q o m d)
    (hK:∀ hq' d',QD hq' q o m d'→PermIn 0 n d d'→Hp.Heap tlt n d'→K (.tuple ⟨[]⟩) hq'):CF Tryz.prog 142 [.iface 147 (ptr o 0),.int .i64 j] hq K:=by
  refine F142_ok _ j hq K ?_
  unfold F142
  refine LoopP.by (J:=fun k (x:Int) hp=>∃ d',x=(k:Int)∧QD hp q o m d'∧PermIn 0 n d d'∧Hp.UpOk tlt n k d'∧k<n) ?_ (n:=j) ⟨d,rfl,h,Sort.permIn_refl d 0 n,hu,hj⟩
  rintro I k x hp ⟨d',rfl,hQ,hP,hU,hk⟩ hI
  have hs:d'.size=d.size:=hP.1
  unfold F142_l1
  refine ⟨by omega,?_⟩
  cases k with
  | zero=>
    have e:(IntKind.wrap .i64 (Int.tdiv (IntKind.wrap .i64 (((0:Nat):Int)-1)) 2))=0:=by
      rw [w64 (n:=((0:Nat):Int)-1) (by omega) (by omega)]; rfl
    rw [e]
    show ite2 true _ _
    rw [ite2_true]
    unfold F142_j2
    rw [ite2_true]
    exact hK _ d' hQ hP (hU.stop (.inl rfl))
  | succ k=>
    have e:(IntKind.wrap .i64 (Int.tdiv (IntKind.wrap .i64 (((k+1:Nat):Int)-1)) 2))=((Hp.par (k+1):Nat):Int):=by
      rw [w64 (n:=((k+1:Nat):Int)-1) (by omega) (by omega)]
      have:((k+1:Nat):Int)-1=(k:Int):=by omega
      rw [this]
      have h2:Int.tdiv (k:Int) 2=((k / 2:Nat):Int):=rfl
      rw [h2]
      unfold Hp.par
      rw [Nat.add_sub_cancel]
      exact wi rfl (by omega)
    rw [e]
    have hpl:=Hp.par_lt (k:=k+1) (by omega)
    have hb:(((Hp.par (k+1):Nat):Int)==((k+1:Nat):Int))=false:=by rw [beq_eq_false_iff_ne]; omega
    rw [hb,ite2_false,ifaceV_mk,m_less]
    refine C211 hQ (by omega) (by omega) ?_
    rw [boolV_bool]
    unfold F142_j2
    cases hl:tlt d'[k+1]! d'[Hp.par (k+1)]!
    · rw [Bool.not_false,ite2_true]
      exact hK _ d' hQ hP (hU.stop (.inr hl))
    · rw [Bool.not_true,ite2_false,ifaceV_mk,m_swap]
      refine C214 hQ (by omega) (by omega) fun hq' hQ'=>?_
      exact hI (Hp.par (k+1)) _ _ (by omega) ⟨_,rfl,hQ',Sort.permIn_trans _ _ _ _ _ hP (Sort.swp_permIn d' 0 n _ _ (by omega) (by omega) (by omega) (by omega) (by omega)),hU.step swo_tlt (by omega) hk (by omega) hl,by omega⟩
theorem C143 {n i0:Nat} (hd:Hp.DnOk tlt n i0 i0 d) (hi0:i0≤n) (hn:n≤d.size) (hsz:d.size≤1000000) (h:QD hq q o m d)
    (hK:∀ (r:Bool) hq' d',QD hq' q o m d'→PermIn 0 n d d'→(r=true→Hp.Heap tlt n d')→(r=false→Hp.UpOk tlt n i0 d')→K (.bool r) hq'):CF Tryz.prog 143 [.iface 147 (ptr o 0),.int .i64 i0,.int .i64 n] hq K:=by
  refine F143_ok _ i0 n hq K ?_
  unfold F143 F143_j1
  refine LoopP.by (J:=fun k (x:Int) hp=>∃ (i:Nat) (d':Array Th),x=(i:Int)∧QD hp q o m d'∧PermIn 0 n d d'∧Hp.DnOk tlt n i0 i d'∧i0≤i∧i≤n∧k=n-i) ?_ (n:=n-i0) ⟨i0,d,rfl,h,Sort.permIn_refl d 0 n,hd,Nat.le_refl _,hi0,rfl⟩
  rintro I k x hp ⟨i,d',rfl,hQ,hP,hD,hii,hin,rfl⟩ hI
  have hs:d'.size=d.size:=hP.1
  have stop:(∀ k,0<k→k<n→Hp.par k=i→tlt d'[k]! d'[i]! = false)→∀ hp',QD hp' q o m d'→F143_j2 i0 i hp' K:=by
    intro hs' hp' hQ'
    unfold F143_j2
    have hst:=hD.stop hii hs'
    by_cases hlt:i0<i
    · rw [decide_eq_true (by omega:(i:Int) > (i0:Int))]
      exact hK true _ d' hQ' hP (fun _=>hst.1 hlt) (fun e=>by cases e)
    · rw [decide_eq_false (by omega:¬ (i:Int) > (i0:Int))]
      exact hK false _ d' hQ' hP (fun e=>by cases e) (fun _=>hst.2 (by omega))
  have w1:IntKind.wrap .i64 (2*(i:Int))=((2*i:Nat):Int):=wi (by omega) (by omega)
  have w2:IntKind.wrap .i64 (((2*i:Nat):Int)+1)=((2*i+1:Nat):Int):=wi (by omega) (by omega)
  have w3:IntKind.wrap .i64 (((2*i+1:Nat):Int)+1)=((2*i+2:Nat):Int):=wi (by omega) (by omega)
  have chld:∀ k,0<k→Hp.par k=i→k=2*i+1∨k=2*i+2:=fun k hk hp=>by unfold Hp.par at hp; omega
  unfold F143_l3
  simp only [w1,w2]
  by_cases h1:2*i+1≥n
  · rw [decide_eq_true (by omega:((2*i+1:Nat):Int)≥(n:Int)),ite2_true]
    unfold F143_j4
    rw [ite2_true]
    exact stop (fun k hk hkn hp=>by rcases chld k hk hp with e | e <;> omega) hp hQ
  rw [decide_eq_false (by omega:¬ ((2*i+1:Nat):Int)≥(n:Int)),ite2_false,decide_eq_false (by omega:¬ ((2*i+1:Nat):Int)<0)]
  unfold F143_j4
  rw [ite2_false,w3]
  have five:∀ j:Nat,j<n→0<j→Hp.par j=i→(∀ k,0<k→k<n→Hp.par k=i→tlt d'[k]! d'[j]! = false)→∀ hp',QD hp' q o m d'→F143_j5 (.iface 147 (ptr o 0)) i0 n i j hp' I K:=by
    intro j hjn hj0 hpj hmin hp' hQ'
    have hpl:=Hp.par_lt hj0
    unfold F143_j5
    rw [ifaceV_mk,m_less]
    refine C211 hQ' (by omega) (by omega) ?_
    rw [boolV_bool]
    cases hl:tlt d'[j]! d'[i]!
    · rw [Bool.not_false,ite2_true]
      refine stop (fun k hk hkn hp=>?_) hp' hQ'
      exact swo_tlt.ntrans _ _ _ (hmin k hk hkn hp) hl
    · rw [Bool.not_true,ite2_false,ifaceV_mk,m_swap]
      refine C214 hQ' (by omega) (by omega) fun hq' hQ2=>?_
      exact hI (n-j) _ _ (by omega) ⟨j,_,rfl,hQ2,Sort.permIn_trans _ _ _ _ _ hP (Sort.swp_permIn d' 0 n _ _ (by omega) (by omega) (by omega) (by omega) (by omega)),hD.step swo_tlt hii hj0 hpj hjn (by omega) hl hmin,by omega,by omega,rfl⟩
  have p1:Hp.par (2*i+1)=i:=by unfold Hp.par; omega
  have p2:Hp.par (2*i+2)=i:=by unfold Hp.par; omega
  by_cases h2:2*i+2<n
  · rw [decide_eq_true (by omega:((2*i+2:Nat):Int)<(n:Int)),ite2_true,ifaceV_mk,m_less]
    refine C211 hQ (by omega) (by omega) ?_
    rw [boolV_bool]
    unfold F143_j6
    cases hl:tlt d'[2*i+2]! d'[2*i+1]!
    · rw [ite2_false]
      refine five (2*i+1) (by omega) (by omega) p1 (fun k hk hkn hp=>?_) _ hQ
      rcases chld k hk hp with e | e
      · rw [e]; exact swo_tlt.irrefl _
      · rw [e]; exact hl
    · rw [ite2_true]
      refine five (2*i+2) (by omega) (by omega) p2 (fun k hk hkn hp=>?_) _ hQ
      rcases chld k hk hp with e | e
      · rw [e]; exact Hp.asym swo_tlt hl
      · rw [e]; exact swo_tlt.irrefl _
  · rw [decide_eq_false (by omega:¬ ((2*i+2:Nat):Int)<(n:Int)),ite2_false]
    unfold F143_j6
    rw [ite2_false]
    refine five (2*i+1) (by omega) (by omega) p1 (fun k hk hkn hp=>?_) _ hQ
    rcases chld k hk hp with e | e
    · rw [e]; exact swo_tlt.irrefl _
    · omega
theorem permIn_list {n:Nat} {d d':Array Th} (h:PermIn 0 n d d') (hn:n≤d.size):d'.toList.Perm d.toList:=by
  have h2:=(Sort.permIn_mono d d' 0 n 0 d.size (Nat.le_refl _) hn (Nat.le_refl _) h).2.2
  have e1:d'.extract 0 d.size=d':=by rw [← h.1]; simp
  have e2:d.extract 0 d.size=d:=by simp
  rw [e1,e2] at h2
  exact h2
theorem C121 {t:Th} (h:QD hq q o m d) (hsz:d.size+1≤1000000) (hH:Hp.Heap tlt d.size d) (hnew:∀ k,k<d.size→d[k]!.1≠t.1)
    (hK:∀ hq' d',QD hq' q o m d'→d'.toList.Perm (t::d.toList)→Hp.Heap tlt d'.size d'→K (.tuple ⟨[]⟩) hq'):CF Tryz.prog 121 [.iface 147 (ptr o 0),.iface 196 (.agg ⟨th t⟩)] hq K:=by
  refine F121_ok _ _ hq K ?_
  unfold F121
  rw [ifaceV_mk,m_push]
  refine C213 h (by omega) hnew fun hq' hQ=>?_
  rw [ifaceV_mk,m_len]
  refine C124 hQ ?_
  rw [intV_int]
  have hps:(d.push t).size=d.size+1:=by simp
  have w:IntKind.wrap .i64 (((d.push t).size:Nat)-1)=((d.size:Nat):Int):=by rw [hps]; exact wi (by omega) (by omega)
  rw [w]
  refine C142 (n:=d.size+1) ⟨fun k hk hkn hkj=>?_,fun k hk hkn hp h0=>?_⟩ (by omega) (by omega) (by omega) hQ fun hq2 d2 hQ2 hP hH2=>?_
  · have:=Hp.par_lt hk
    rw [push_old (by omega),push_old (by omega)]; exact hH k hk (by omega)
  · have:=Hp.par_lt hk; omega
  · have hs2:d2.size=d.size+1:=by rw [hP.1,hps]
    refine hK _ d2 hQ2 ?_ (by rw [hs2]; exact hH2)
    refine (permIn_list hP (by omega)).trans ?_
    rw [Array.toList_push]
    exact List.perm_append_singleton t d.toList
theorem C122 {i:Nat} (h:QD hq q o m d) (hi:i<d.size) (hsz:d.size≤1000000) (hD:Hp.DnOk tlt d.size i i d)
    (hK:∀ hq' d',QD hq' q o m d'→d'.toList.Perm d.toList→Hp.Heap tlt d'.size d'→K (.tuple ⟨[]⟩) hq'):CF Tryz.prog 122 [.iface 147 (ptr o 0),.int .i64 i] hq K:=by
  refine F122_ok _ i hq K ?_
  unfold F122
  rw [ifaceV_mk,m_len]
  refine C124 h ?_
  rw [intV_int]
  refine C143 hD (by omega) (Nat.le_refl _) hsz h fun r hq' d' hQ hP ht hf=>?_
  have hs:d'.size=d.size:=hP.1
  rw [boolV_bool]
  cases r
  · rw [Bool.not_false,ite2_true]
    refine C142 (hf rfl) hi (by omega) (by omega) hQ fun hq2 d2 hQ2 hP2 hH2=>?_
    have hs2:d2.size=d.size:=by rw [hP2.1,hs]
    exact hK _ d2 hQ2 ((permIn_list hP2 (by omega)).trans (permIn_list hP (Nat.le_refl _))) (by rw [hs2]; exact hH2)
  · rw [Bool.not_true,ite2_false]
    exact hK _ d' hQ (permIn_list hP (Nat.le_refl _)) (by rw [hs]; exact ht rfl)
theorem pop_list {d:Array Th} (h0:0<d.size):d.toList=d.pop.toList++[d[d.size-1]!]:=by
  rw [getElem!_pos d (d.size-1) (by omega)]
  apply List.ext_getElem
  · simp; omega
  · intro i h1 h2
    rw [List.getElem_append]
    split
    · simp
    · rename_i hc
      simp at hc h1
      have:i=d.size-1:=by omega
      subst this
      simp
theorem heap_pop {d:Array Th} (hH:Hp.Heap tlt (d.size-1) d):Hp.Heap tlt d.pop.size d.pop:=by
  intro k hk hkn
  have hkn':k<d.size-1:=by simpa using hkn
  have:=Hp.par_lt hk
  rw [pop_old hkn',pop_old (by omega)]
  exact hH k hk hkn'
/-- The last one goes. -/
theorem cut_last (h:QD hq q o m d) (h0:0<d.size) (hsz:d.size≤1000000) (hH:Hp.Heap tlt (d.size-1) d) {d0:Array Th} {t:Th} (hp:d.toList.Perm d0.toList) (ht:d[d.size-1]! = t)
    (hK:∀ hq' d',QD hq' q o m d'→(t::d'.toList).Perm d0.toList→Hp.Heap tlt d'.size d'→K (.iface 196 (.agg ⟨th t⟩)) hq'):CF Tryz.prog 212 [ptr o 0] hq K:=by
  refine C212 h h0 hsz fun hq' hQ=>?_
  rw [ht]
  refine hK _ d.pop hQ ?_ (heap_pop hH)
  refine List.Perm.trans ?_ hp
  rw [pop_list h0,ht]
  exact (List.perm_append_singleton t d.pop.toList).symm
theorem C126 {i:Nat} (h:QD hq q o m d) (hi:i<d.size) (hsz:d.size≤1000000) (hH:Hp.Heap tlt d.size d)
    (hK:∀ hq' d',QD hq' q o m d'→(d[i]! :: d'.toList).Perm d.toList→Hp.Heap tlt d'.size d'→K (.iface 196 (.agg ⟨th d[i]!⟩)) hq'):CF Tryz.prog 126 [.iface 147 (ptr o 0),.int .i64 i] hq K:=by
  refine F126_ok _ i hq K ?_
  unfold F126
  rw [ifaceV_mk,m_len]
  refine C124 h ?_
  have w:IntKind.wrap .i64 ((d.size:Nat)-1)=((d.size-1:Nat):Int):=wi (by omega) (by omega)
  rw [intV_int,w]
  by_cases hil:d.size-1=i
  · have e:(((d.size-1:Nat):Int) != (i:Int))=false:=by
      rw [hil]; simp
    rw [e,ite2_false]
    unfold F126_j1
    rw [ifaceV_mk,m_pop]
    exact cut_last h (by omega) hsz (hH.mono (by omega)) (List.Perm.refl _) (by rw [hil]) hK
  have e:(((d.size-1:Nat):Int) != (i:Int))=true:=by
    rw [bne_iff_ne]; omega
  rw [e,ite2_true,ifaceV_mk,m_swap]
  refine C214 h hi (by omega) fun hq1 hQ1=>?_
  have hs1:(swp d i (d.size-1)).size=d.size:=swp_size ..
  have dn:Hp.DnOk tlt (d.size-1) i i (swp d i (d.size-1)):=
    Hp.Heap.dn swo_tlt (hH.mono (by omega)) (by omega) fun k hk hk0=>Hp.swp_o hi (by omega) hk0 (by omega)
  have hlast:(swp d i (d.size-1))[d.size-1]! = d[i]! := Hp.swp_r hi (by omega)
  have hperm1:(swp d i (d.size-1)).toList.Perm d.toList:=permIn_list (Sort.swp_permIn d 0 d.size i (d.size-1) (by omega) hi (by omega) (by omega) (Nat.le_refl _)) (Nat.le_refl _)
  refine C143 dn (by omega) (by omega) (by omega) hQ1 fun r hq2 d2 hQ2 hP ht hf=>?_
  have hs2:d2.size=d.size:=by rw [hP.1,hs1]
  have hl2:d2[d.size-1]! = d[i]! := by rw [hP.2.1 _ (.inr (Nat.le_refl _)),hlast]
  rw [boolV_bool]
  cases r
  · rw [Bool.not_false,ite2_true]
    refine C142 (hf rfl) (by omega) (by omega) (by omega) hQ2 fun hq3 d3 hQ3 hP3 hH3=>?_
    have hs3:d3.size=d.size:=by rw [hP3.1,hs2]
    unfold F126_j1
    rw [ifaceV_mk,m_pop]
    exact cut_last hQ3 (by omega) (by omega) (by rw [hs3]; exact hH3) (((permIn_list hP3 (by omega)).trans (permIn_list hP (by omega))).trans hperm1) (by rw [hs3,hP3.2.1 _ (.inr (Nat.le_refl _)),hl2]) hK
  · rw [Bool.not_true,ite2_false]
    unfold F126_j1
    rw [ifaceV_mk,m_pop]
    exact cut_last hQ2 (by omega) (by omega) (by rw [hs2]; exact ht rfl) ((permIn_list hP (by omega)).trans hperm1) (by rw [hs2,hl2]) hK
end
end Go.Proofs
set_option linter.unusedVariables false
set_option maxRecDepth 20000
namespace Go.Proofs
open Go Go.HL
open Go.Exp (Th tlt swo_tlt Ord setW dropW insW)
/-- A queue that has these things, in their order. -/
def QW (hq:HP) (q:Nat) (w:List Th):Prop:=∃ o m d,QD hq q o m d∧Hp.Heap tlt d.size d∧d.toList.Perm w∧Ord w
section
variable {hq:HP} {q o m:Nat} {d:Array Th} {w:List Th} {K:Value→HP→Prop}
theorem C120 (h:QD hq q o m d) (hK:K (.bool false) hq):CF Tryz.prog 120 [ptr q 0] hq K:=by
  refine F120_ok _ hq K ?_
  unfold F120
  obtain ⟨s,c,ent,h1,h2,h3,h4,h5,h6⟩:=h
  have hc:∀ x,hq.cell q x=[ptr o 0][x]?:=fun x=>HP.cell_of h1
  have pp:∀ (p:Nat) (c:Option Addr→Prop),ptrV (ptr p 0) c=c (some ⟨p,0,none⟩):=fun _ _=>rfl
  simp only [Option.isNone_some,ite2_false,ptrN_some,hc,Nat.add_zero,List.getElem?_cons_zero,ldV_some,pp]
  exact hK
theorem C23 (hK:∀ q hq',hq q=.none→HSub hq hq'→QW hq' q []→K (ptr q 0) hq'):CF Tryz.prog 23 [] hq K:=by
  refine F23_ok hq K ?_
  unfold F23
  intro b1 hb1 b2 hb2 b3 hb3
  have s1:=HSub.set_fresh hq (.obj (.map #[] 0)) hb1
  have s2:=HSub.set_fresh _ (.cells 151 [(Value.slice none 0 0),(Value.map (some b1))] 0) hb2
  have s3:=HSub.set_fresh _ (.cells 153 [(ptr b2 0)] 0) hb3
  refine hK b3 _ (s1.none (s2.none hb3)) ((s1.trans s2).trans s3) ⟨b2,b1,#[],⟨none,0,[],HP.set_eq ..,?_,.inl ⟨rfl,rfl,rfl,rfl⟩,?_,by simp,fun id x=>?_⟩,fun k hk hkn=>by simp at hkn,List.Perm.refl _,Exp.ord_nil⟩
  · exact s3.cells (HP.set_eq ..)
  · have:=s3.obj (s2.obj (b:=b1) (HP.set_eq ..))
    rw [this]; exact MapE.empty _ _
  · simp [getL]
theorem mem_at {d:Array Th} {k:Nat} (hk:k<d.size):d[k]! ∈ d.toList:=by
  rw [getElem!_pos d k hk]; simp
/-- What is found of one. -/
theorem at_getL {ent:List (Int × Int)} (ha:AtOk ent d) (hp:d.toList.Perm w) (ho:Ord w) (id:Int) :
    (getL id ent=none∧getL id w=none)∨∃ k:Nat,k<d.size∧d[k]!.1=id∧getL id ent=some (k:Int)∧getL id w=some d[k]!.2:=by
  cases hg:getL id ent with
  | none=>
    left
    refine ⟨rfl,getL_none.2 fun hm=>?_⟩
    obtain ⟨t,ht,e⟩:=List.mem_map.1 hm
    have ht':=hp.mem_iff.2 ht
    obtain ⟨k,hk,e'⟩:=List.getElem_of_mem ht'
    have hk':k<d.size:=by simpa using hk
    have:getL id ent=some (k:Int):=(ha id k).2 ⟨k,rfl,hk',by rw [getElem!_pos d k hk',← e,← e']; simp⟩
    rw [hg] at this; cases this
  | some x=>
    right
    obtain ⟨k,rfl,hk,e⟩:=(ha id x).1 hg
    refine ⟨k,hk,e,rfl,getL_of_mem ho.2 ?_⟩
    rw [← e]
    exact hp.mem_iff.1 (mem_at hk)
theorem C73 (h:QW hq q w) (hK:K (.tuple ⟨[.int .i64 ((w.head?.map (·.1)).getD 0),.int .i64 ((w.head?.map (·.2)).getD 0),.bool w.head?.isSome]⟩) hq):CF Tryz.prog 73 [ptr q 0] hq K:=by
  obtain ⟨o,m,d,hQ,hH,hp,ho⟩:=h
  refine F73_ok _ hq K ?_
  unfold F73
  refine C120 hQ ?_
  rw [boolV_bool,ite2_false]
  have hQ0:=hQ
  obtain ⟨s,c,ent,h1,h2,h3,h4,h5,h6⟩:=hQ
  have hc:∀ x,hq.cell q x=[ptr o 0][x]?:=fun x=>HP.cell_of h1
  have pp:∀ (p:Nat) (c:Option Addr→Prop),ptrV (ptr p 0) c=c (some ⟨p,0,none⟩):=fun _ _=>rfl
  simp only [ptrN_some,hc,Nat.add_zero,List.getElem?_cons_zero,ldV_some,pp]
  refine C124 hQ0 ?_
  rw [intV_int]
  have hl:d.size=w.length:=by simpa using hp.length_eq
  cases w with
  | nil=>
    have e:((d.size:Nat):Int)==0:=by rw [hl]; rfl
    rw [e]
    unfold F73_j1
    rw [ite2_true]
    exact hK
  | cons t w=>
    have h0:0<d.size:=by rw [hl]; simp
    have e:(((d.size:Nat):Int)==0)=false:=by rw [beq_eq_false_iff_ne]; omega
    rw [e]
    have hroot:d[0]! = t:=by
      have hm:d[0]! ∈ t::w:=hp.mem_iff.1 (mem_at h0)
      rcases List.mem_cons.1 hm with e | hm
      · exact e
      · have h1:=(List.pairwise_cons.1 ho.1).1 _ hm
        have ht:t∈d.toList:=hp.mem_iff.2 (by simp)
        obtain ⟨k,hk,e'⟩:=List.getElem_of_mem ht
        have hk':k<d.size:=by simpa using hk
        have:=hH.root swo_tlt k hk'
        rw [getElem!_pos d k hk'] at this
        have e2:d[k]=t:=by rw [← e']; simp
        rw [e2,h1] at this
        cases this
    obtain ⟨b,c',ent',g1,g2,g3,g4,g5,g6,g7,n1,n2,n3,n4,n5,n6,g⟩:=hQ0.open_ h0
    have hco:∀ x,hq.cell o x=[Value.slice (some ⟨b,0,none⟩) d.size c',.map (some m)][x]?:=fun x=>HP.cell_of g2
    have gg:=g 0 h0
    have ga:hq.cell b ((0+0*2)+0)=some (.int .i64 d[0]!.1):=HP.cell_cellN gg rfl
    have gb:hq.cell b ((0+0*2)+1)=some (.int .i64 d[0]!.2):=HP.cell_cellN gg rfl
    unfold F73_j1
    rw [ite2_false]
    have t0:Int.toNat 0=0:=rfl
    simp only [ptrN_some,hc,hco,Nat.add_zero,List.getElem?_cons_zero,ldV_some,pp,slcV_slice,t0]
    simp only [Nat.add_zero] at ga gb
    rw [ga]
    simp only [ldV_some,intV_int,gb]
    refine ⟨by omega,by omega,by omega,by omega,?_⟩
    rw [hroot]
    exact hK
theorem C70 {id due:Int} (h:QW hq q w) (hsz:w.length+1≤1000000)
    (hbad:(due<0∨due > 4611686018427387904)→K (.int .i64 1) hq)
    (hok:¬ (due<0∨due > 4611686018427387904)→∀ hq',QW hq' q (setW id due w)→K (.int .i64 0) hq'):CF Tryz.prog 70 [ptr q 0,.int .i64 id,.int .i64 due] hq K:=by
  obtain ⟨o,m,d,hQ,hH,hp,ho⟩:=h
  refine F70_ok _ id due hq K ?_
  unfold F70
  refine C120 hQ ?_
  rw [boolV_bool,ite2_false]
  by_cases hneg:due<0
  · rw [decide_eq_true hneg,ite2_true]
    unfold F70_j1
    rw [ite2_true]
    exact hbad (.inl hneg)
  rw [decide_eq_false hneg,ite2_false]
  unfold F70_j1
  by_cases hbig:due > 4611686018427387904
  · rw [decide_eq_true hbig,ite2_true]
    exact hbad (.inr hbig)
  rw [decide_eq_false hbig,ite2_false]
  have hok:=hok (by omega)
  have hl:d.size=w.length:=by simpa using hp.length_eq
  have hQ0:=hQ
  obtain ⟨s,c,ent,h1,h2,h3,h4,h5,h6⟩:=hQ
  have hc:∀ x,hq.cell q x=[ptr o 0][x]?:=fun x=>HP.cell_of h1
  have hco:∀ x,hq.cell o x=[Value.slice s d.size c,.map (some m)][x]?:=fun x=>HP.cell_of h2
  have pp:∀ (p:Nat) (c:Option Addr→Prop),ptrV (ptr p 0) c=c (some ⟨p,0,none⟩):=fun _ _=>rfl
  simp only [ptrN_some,hc,hco,Nat.zero_add,Nat.add_zero,List.getElem?_cons_zero,List.getElem?_cons_succ,ldV_some,pp,mapV_map]
  refine rdS_lookup u49 enc3 zw3 h4 id ?_
  simp only [if_true,tup2V_mk]
  have hset:=ho.set id due
  rcases at_getL h6 hp ho id with ⟨e1,e2⟩ | ⟨k,hk,e0,e1,e2⟩
  · rw [e1]
    simp only [Option.map_none,Option.getD_none,intV_int,Option.isSome_none,boolV_bool,Bool.not_false,ite2_true]
    have hth:[(Value.int .i64 id),(Value.int .i64 due)]=th (id,due):=rfl
    rw [hth]
    have hnw:id ∉ w.map (·.1):=getL_none.1 e2
    refine C121 hQ0 (by omega) hH (fun k hk e=>hnw ?_) fun hq' d' hQ' hP hH'=>?_
    · have e':d[k]!.1=id:=e
      rw [← e']; exact List.mem_map.2 ⟨_,hp.mem_iff.1 (mem_at hk),rfl⟩
    · refine hok hq' ⟨o,m,d',hQ',hH',?_,hset⟩
      refine hP.trans (((hp.cons (id,due)).trans ?_).trans (Exp.insW_perm (id,due) (dropW id w)).symm)
      rw [Exp.dropW_absent hnw]
  · rw [e1]
    obtain ⟨b,c',ent',g1,g2,g3,g4,g5,g6,g7,n1,n2,n3,n4,n5,n6,g⟩:=hQ0.open_ (by omega)
    have e9:=h2.symm.trans g2
    simp only [Ent.cells.injEq,List.cons.injEq,Value.slice.injEq,and_true,true_and] at e9
    obtain ⟨rfl,rfl⟩:=e9
    have hiw:iw (k:Int)=.int .i64 (k:Int):=rfl
    simp only [Option.map_some,Option.getD_some,hiw,intV_int,Option.isSome_some,boolV_bool,Bool.not_true,ite2_false,ptrN_some,hc,hco,Nat.zero_add,Nat.add_zero,List.getElem?_cons_zero,ldV_some,pp,slcV_slice,Int.toNat_natCast]
    refine ⟨by omega,by omega,?_⟩
    have hfl:(d.toList.flatMap th).length=d.size*2:=by rw [flat_len th_len]; simp
    refine HP.st_at g4 (by rw [hfl]; omega) ?_
    have hcell:(d.toList.flatMap th).set (k*2+1) (.int .i64 due)=(d.setIfInBounds k (id,due)).toList.flatMap th:=by
      have e:(d.setIfInBounds k (id,due)).toList=d.toList.set k (id,due):=by simp
      rw [e,← flat_splice th_len (id,due) (by simpa using hk)]
      rw [splice_eq _ _ _ (by rw [th_len,hfl]; omega),th_len]
      have hat:(d.toList.flatMap th)[k*2]?=some (.int .i64 id):=by
        have:=HP.cell_cellN (j:=0) (g k hk) (v:=.int .i64 d[k]!.1) rfl
        rw [HP.cell_of g4] at this
        rw [← e0]; simpa using this
      apply List.ext_getElem?
      intro x
      rw [List.append_assoc]
      by_cases hx:x<k*2
      · rw [List.getElem?_set_ne (by omega),List.getElem?_append_left (by rw [List.length_take,hfl]; omega),List.getElem?_take_of_lt hx]
      · have hlt:((d.toList.flatMap th).take (k*2)).length=k*2:=by rw [List.length_take,hfl]; omega
        rw [List.getElem?_append_right (by rw [hlt]; omega),hlt]
        by_cases hx0:x=k*2
        · rw [hx0,List.getElem?_set_ne (by omega),hat,Nat.sub_self]; rfl
        · by_cases hx1:x=k*2+1
          · rw [hx1,List.getElem?_set_self (by rw [hfl]; omega)]
            have:k*2+1-k*2=1:=by omega
            rw [this]; rfl
          · rw [List.getElem?_set_ne (by omega),List.getElem?_append_right (by rw [th_len]; omega),th_len,List.getElem?_drop]
            congr 1; omega
    rw [hcell]
    have hs1:(d.setIfInBounds k (id,due)).size=d.size:=by simp
    have old:∀ j,j≠k→(d.setIfInBounds k (id,due))[j]! = d[j]! := fun j hj=>by
      simp only [getElem!_def,Array.getElem?_setIfInBounds,if_neg hj.symm]
    have new:(d.setIfInBounds k (id,due))[k]! = (id,due):=by
      rw [getElem!_pos _ k (by rw [hs1]; exact hk)]; simp
    have hQ1:QD (hq.set b (.cells 196 ((d.setIfInBounds k (id,due)).toList.flatMap th) ((c-d.size)*2))) q o m (d.setIfInBounds k (id,due)):=by
      refine ⟨some ⟨b,0,none⟩,c,ent',?_,?_,.inr ⟨b,rfl,by omega,by rw [flat_len th_len]; simp,by rw [HP.set_eq,hs1]⟩,?_,g6,fun id' x=>?_⟩
      · rw [HP.set_ne _ _ n1.symm]; exact g1
      · rw [HP.set_ne _ _ n2.symm,hs1]; exact g2
      · rw [HP.set_ne _ _ n3.symm]; exact g5
      · rw [g7 id' x,hs1]
        constructor
        · rintro ⟨j,rfl,hj,e⟩
          refine ⟨j,rfl,hj,?_⟩
          by_cases hjk:j=k
          · rw [hjk,new]; rw [hjk,e0] at e; exact e
          · rw [old j hjk]; exact e
        · rintro ⟨j,rfl,hj,e⟩
          refine ⟨j,rfl,hj,?_⟩
          by_cases hjk:j=k
          · rw [hjk,new] at e; rw [hjk,e0]; exact e
          · rw [old j hjk] at e; exact e
    have hc1:∀ x,(hq.set b (.cells 196 ((d.setIfInBounds k (id,due)).toList.flatMap th) ((c-d.size)*2))).cell q x=[ptr o 0][x]?:=fun x=>HP.cell_of (by rw [HP.set_ne _ _ n1.symm]; exact g1)
    simp only [hc1,Nat.add_zero,List.getElem?_cons_zero,ldV_some,pp]
    refine C122 hQ1 (by rw [hs1]; exact hk) (by omega) ?_ fun hq' d' hQ' hP hH'=>?_
    · rw [hs1]; exact hH.dn swo_tlt hk fun j hj hjk=>old j hjk
    · refine hok hq' ⟨o,m,d',hQ',hH',?_,hset⟩
      have e:(d.setIfInBounds k (id,due)).toList=d.toList.set k (id,due):=by simp
      rw [e] at hP
      have hkl:k<d.toList.length:=by simpa using hk
      have p1:=hP.trans (Exp.set_perm d.toList k (id,due) hkl)
      have p2:=Exp.at_perm d.toList k hkl
      have e2:d.toList[k]=(id,d[k]!.2):=by rw [getElem!_pos d k hk] at e0 ⊢; rw [← e0]; simp
      rw [e2] at p2
      have p3:=Exp.dropW_erase (hp.symm.trans p2) ho.2
      exact (p1.trans (p3.symm.cons _)).trans (Exp.insW_perm (id,due) (dropW id w)).symm
theorem C79 {id:Int} (h:QW hq q w) (hsz:w.length≤1000000)
    (hK:∀ hq',QW hq' q (dropW id w)→K (.bool (getL id w).isSome) hq'):CF Tryz.prog 79 [ptr q 0,.int .i64 id] hq K:=by
  obtain ⟨o,m,d,hQ,hH,hp,ho⟩:=h
  refine F79_ok _ id hq K ?_
  unfold F79
  refine C120 hQ ?_
  rw [boolV_bool,ite2_false]
  have hl:d.size=w.length:=by simpa using hp.length_eq
  have hQ0:=hQ
  obtain ⟨s,c,ent,h1,h2,h3,h4,h5,h6⟩:=hQ
  have hc:∀ x,hq.cell q x=[ptr o 0][x]?:=fun x=>HP.cell_of h1
  have hco:∀ x,hq.cell o x=[Value.slice s d.size c,.map (some m)][x]?:=fun x=>HP.cell_of h2
  have pp:∀ (p:Nat) (c:Option Addr→Prop),ptrV (ptr p 0) c=c (some ⟨p,0,none⟩):=fun _ _=>rfl
  simp only [ptrN_some,hc,hco,Nat.zero_add,Nat.add_zero,List.getElem?_cons_zero,List.getElem?_cons_succ,ldV_some,pp,mapV_map]
  refine rdS_lookup u49 enc3 zw3 h4 id ?_
  simp only [if_true,tup2V_mk]
  rcases at_getL h6 hp ho id with ⟨e1,e2⟩ | ⟨k,hk,e0,e1,e2⟩
  · rw [e1]
    rw [e2] at hK
    simp only [Option.map_none,Option.getD_none,intV_int,Option.isSome_none,boolV_bool,ite2_false]
    unfold F79_j1
    refine hK hq ⟨o,m,d,hQ0,hH,?_,ho.drop id⟩
    rw [Exp.dropW_absent (getL_none.1 e2)]; exact hp
  · rw [e1]
    rw [e2] at hK
    have hiw:iw (k:Int)=.int .i64 (k:Int):=rfl
    simp only [Option.map_some,Option.getD_some,hiw,intV_int,Option.isSome_some,boolV_bool,ite2_true]
    refine C126 hQ0 hk (by omega) hH fun hq' d' hQ' hP hH'=>?_
    unfold F79_j1
    refine hK hq' ⟨o,m,d',hQ',hH',?_,ho.drop id⟩
    have e3:d[k]! = (id,d[k]!.2):=by rw [← e0]
    rw [e3] at hP
    exact (Exp.dropW_erase (hp.symm.trans hP.symm) ho.2).symm
end
end Go.Proofs
set_option linter.unusedVariables false
set_option maxRecDepth 20000
namespace Go.Proofs
open Go Go.HL
open Go.Exp (Th tlt Ord setW dropW insW)
section
variable {hp hq:HP} {ps:Nat→HP} {x n q:Nat} {M:List (ByteArray × Int)} {w:List Th} {K:Value→HP→Prop}
theorem IdxR.sub (h:IdxR hq x n M) (hs:HSub hq hp):IdxR hp x n M:=by
  obtain ⟨b,j,A,⟨h1,h2,h3⟩,r⟩:=h
  exact ⟨b,j,A,⟨hs.cells h1,hs.cells h2,h3⟩,r⟩
theorem QD.sub {o m:Nat} {d:Array Th} (h:QD hq q o m d) (hs:HSub hq hp):QD hp q o m d:=by
  obtain ⟨s,c,ent,h1,h2,h3,h4,h5,h6⟩:=h
  refine ⟨s,c,ent,hs.cells h1,hs.cells h2,h3.sub hs,?_,h5,h6⟩
  obtain ⟨es,clock,he,hr⟩:=h4
  exact ⟨es,clock,hs.obj he,hr⟩
theorem QW.sub (h:QW hq q w) (hs:HSub hq hp):QW hp q w:=by
  obtain ⟨o,m,d,hQ,hH,hp,ho⟩:=h
  exact ⟨o,m,d,hQ.sub hs,hH,hp,ho⟩
theorem N68 {key:ByteArray} {v:Int} (hP:Parts hp ps) (i:Nat) (h:IdxR (ps i) x n M) (hnew:getL key M=none) (hlen:M.length<n) (hn:n≤65536)
    (hK:∀ l hp',IdxR l x n (M++[(key,v)])→Parts hp' (pu ps i l)→K (.int .i64 0) hp'):CF Tryz.prog 68 [ptr x 0,.string key,.int .i64 v] hp K:=by
  refine CF.part hP i (C68 (v:=v) (K:=fun u l=>u=.int .i64 0∧IdxR l x n (M++[(key,v)])) h hnew hlen hn fun l hl=>⟨rfl,hl⟩) ?_
  rintro u l hp' ⟨rfl,hl⟩ hP'
  exact hK l hp' hl hP'
theorem N78 {key:ByteArray} {v:Int} (hP:Parts hp ps) (i:Nat) (h:IdxR (ps i) x n M) (hin:getL key M=some v) (hn:n≤65536)
    (hK:∀ l hp',IdxR l x n (delL key M)→Parts hp' (pu ps i l)→K (.bool true) hp'):CF Tryz.prog 78 [ptr x 0,.string key] hp K:=by
  refine CF.part hP i (C78 (K:=fun u l=>u=.bool true∧IdxR l x n (delL key M)) h hin hn fun l hl=>⟨rfl,hl⟩) ?_
  rintro u l hp' ⟨rfl,hl⟩ hP'
  exact hK l hp' hl hP'
theorem N22 {m:Int} (hP:Parts hp ps) (i:Nat) (hi:∀ b,ps i b=.none) (hbad:(m<1∨m > 65536)→K (.tuple ⟨[.pointer none,.int .i64 1]⟩) hp)
    (hok:¬ (m<1∨m > 65536)→∀ x l hp',IdxR l x m.toNat []→Parts hp' (pu ps i l)→HSub hp hp'→K (.tuple ⟨[ptr x 0,.int .i64 0]⟩) hp'):CF Tryz.prog 22 [.int .i64 m] hp K:=
  C22 hbad fun hm x l hp' hl hs hf=>hok hm x l hp' hl (hP.add i hi hs hf) (hf hp (HSub.refl _)).1
theorem N23 (hP:Parts hp ps) (i:Nat) (hi:∀ b,ps i b=.none) (hK:∀ q l hp',QW l q []→Parts hp' (pu ps i l)→HSub hp hp'→K (ptr q 0) hp'):CF Tryz.prog 23 [] hp K:=by
  refine CF.loc (hq:=fun _=>.none) (fun x=>.inl rfl) (C23 (K:=fun v h'=>∃ q,v=ptr q 0∧QW h' q []) fun q hq' _ _ h=>⟨q,rfl,h⟩) ?_
  rintro v l hp' ⟨q,rfl,h⟩ hs hf
  exact hK q l hp' h (hP.add i hi hs fun r hr=>hf r hr fun x=>.inl rfl) (hf hp (HSub.refl _) (fun x=>.inl rfl)).1
theorem N70 {id due:Int} (hP:Parts hp ps) (i:Nat) (h:QW (ps i) q w) (hsz:w.length+1≤1000000) (hd:¬ (due<0∨due > 4611686018427387904))
    (hK:∀ l hp',QW l q (setW id due w)→Parts hp' (pu ps i l)→K (.int .i64 0) hp'):CF Tryz.prog 70 [ptr q 0,.int .i64 id,.int .i64 due] hp K:=by
  refine CF.part hP i (C70 (K:=fun u l=>u=.int .i64 0∧QW l q (setW id due w)) h hsz (fun hb=>absurd hb hd) fun _ l hl=>⟨rfl,hl⟩) ?_
  rintro u l hp' ⟨rfl,hl⟩ hP'
  exact hK l hp' hl hP'
theorem N79 {id:Int} (hP:Parts hp ps) (i:Nat) (h:QW (ps i) q w) (hsz:w.length≤1000000)
    (hK:∀ l hp',QW l q (dropW id w)→Parts hp' (pu ps i l)→K (.bool (getL id w).isSome) hp'):CF Tryz.prog 79 [ptr q 0,.int .i64 id] hp K:=by
  refine CF.part hP i (C79 (K:=fun u l=>u=.bool (getL id w).isSome∧QW l q (dropW id w)) h hsz fun l hl=>⟨rfl,hl⟩) ?_
  rintro u l hp' ⟨rfl,hl⟩ hP'
  exact hK l hp' hl hP'
end
end Go.Proofs
set_option linter.unusedVariables false
set_option maxRecDepth 20000
namespace Go.Proofs
open Go Go.HL Go.Shelf
def itoaRen:Ren where
  f:=fun | 129=>153 | 171=>119 | 243=>141 | 246=>164 | 283=>175 | 284=>176 | 285=>177 | 286=>178 | 317=>183 | 318=>184 | 319=>185 | 320=>186 | 337=>188 | 338=>189 | n=>n
  t:=fun | 0=>0 | 2=>2 | 3=>3 | 4=>4 | 5=>5 | 9=>9 | 20=>20 | 37=>193 | 46=>202 | 51=>210 | 53=>227 | 171=>245 | 173=>247 | 212=>255 | 213=>256 | 232=>258 | 233=>259 | n=>n
  g:=fun | 17=>0 | 18=>1 | 19=>2 | n=>n
theorem itoa_zero {P:Program} {t:TypeId} {z:Value} (h:(P.info? t).bind (·.zero)=some z) (w:World):(zeroValue t).run P w=.ok z w:=by
  cases hi:P.info? t with
  | none=>rw [hi] at h; cases h
  | some i=>
    rw [hi] at h
    have hz:i.zero=some z:=h
    simp [zeroValue,typeInfo,hi,hz]
theorem itoa_size {P:Program} {t:TypeId} {n:Nat} (h:(P.info? t).map (·.size)=some n) (w:World):(Go.sizeOf t).run P w=.ok n w:=by
  cases hi:P.info? t with
  | none=>rw [hi] at h; cases h
  | some i=>
    rw [hi] at h
    have hz:i.size=n:=by simpa using h
    simp [Go.sizeOf,typeInfo,hi,hz]
theorem itoa_agg {P:Program} {t:TypeId} {n e} (h:P.underlying t=some (.array n e)) (w:World):(isAgg t).run P w=.ok true w:=by
  simp [isAgg,run_underlying h]
theorem itoaLays0:Lays.n171 Tryz.prog itoaRen where
  mixed:=by kernel_rfl
  f129:=by kernel_rfl
  f171:=by kernel_rfl
  f243:=by kernel_rfl
  f246:=by kernel_rfl
  f283:=by kernel_rfl
  f284:=by kernel_rfl
  f285:=by kernel_rfl
  f286:=by kernel_rfl
  f317:=by kernel_rfl
  f318:=by kernel_rfl
  f319:=by kernel_rfl
  f320:=by kernel_rfl
  f337:=by kernel_rfl
  f338:=by kernel_rfl
  t0:=by kernel_rfl
  a0:=run_isAgg_plain (t:=itoaRen.t 0) (d:=(TypeDesc.tuple #[])) (by kernel_rfl) rfl
  z0:=itoa_size (by kernel_rfl)
  v0:=itoa_zero (by kernel_rfl)
  t2:=by kernel_rfl
  a2:=run_isAgg_plain (t:=itoaRen.t 2) (d:=(TypeDesc.int IntKind.i64)) (by kernel_rfl) rfl
  z2:=itoa_size (by kernel_rfl)
  v2:=itoa_zero (by kernel_rfl)
  t3:=by kernel_rfl
  a3:=run_isAgg_plain (t:=itoaRen.t 3) (d:=(TypeDesc.int IntKind.i64)) (by kernel_rfl) rfl
  z3:=itoa_size (by kernel_rfl)
  v3:=itoa_zero (by kernel_rfl)
  t4:=by kernel_rfl
  a4:=run_isAgg_plain (t:=itoaRen.t 4) (d:=(TypeDesc.bool)) (by kernel_rfl) rfl
  z4:=itoa_size (by kernel_rfl)
  v4:=itoa_zero (by kernel_rfl)
  t5:=by kernel_rfl
  a5:=run_isAgg_plain (t:=itoaRen.t 5) (d:=(TypeDesc.int IntKind.u8)) (by kernel_rfl) rfl
  z5:=itoa_size (by kernel_rfl)
  v5:=itoa_zero (by kernel_rfl)
  t9:=by kernel_rfl
  a9:=run_isAgg_plain (t:=itoaRen.t 9) (d:=(TypeDesc.string)) (by kernel_rfl) rfl
  z9:=itoa_size (by kernel_rfl)
  v9:=itoa_zero (by kernel_rfl)
  t20:=by kernel_rfl
  a20:=run_isAgg_plain (t:=itoaRen.t 20) (d:=(TypeDesc.interface #[])) (by kernel_rfl) rfl
  z20:=itoa_size (by kernel_rfl)
  v20:=itoa_zero (by kernel_rfl)
  t37:=by kernel_rfl
  a37:=run_isAgg_plain (t:=itoaRen.t 37) (d:=(TypeDesc.slice (itoaRen.t 5))) (by kernel_rfl) rfl
  z37:=itoa_size (by kernel_rfl)
  v37:=itoa_zero (by kernel_rfl)
  t46:=by kernel_rfl
  a46:=run_isAgg_plain (t:=itoaRen.t 46) (d:=(TypeDesc.int IntKind.u64)) (by kernel_rfl) rfl
  z46:=itoa_size (by kernel_rfl)
  v46:=itoa_zero (by kernel_rfl)
  t51:=by kernel_rfl
  a51:=run_isAgg_plain (t:=itoaRen.t 51) (d:=(TypeDesc.int IntKind.u32)) (by kernel_rfl) rfl
  z51:=itoa_size (by kernel_rfl)
  v51:=itoa_zero (by kernel_rfl)
  t53:=by kernel_rfl
  a53:=run_isAgg_plain (t:=itoaRen.t 53) (d:=(TypeDesc.int IntKind.u64)) (by kernel_rfl) rfl
  z53:=itoa_size (by kernel_rfl)
  v53:=itoa_zero (by kernel_rfl)
  t171:=by kernel_rfl
  a171:=itoa_agg (t:=itoaRen.t 171) (n:=24) (e:=(itoaRen.t 5)) (by kernel_rfl)
  z171:=itoa_size (by kernel_rfl)
  v171:=itoa_zero (by kernel_rfl)
  t173:=by kernel_rfl
  a173:=run_isAgg_plain (t:=itoaRen.t 173) (d:=(TypeDesc.tuple #[itoaRen.t 37,itoaRen.t 9])) (by kernel_rfl) rfl
  z173:=itoa_size (by kernel_rfl)
  v173:=itoa_zero (by kernel_rfl)
  t212:=by kernel_rfl
  a212:=itoa_agg (t:=itoaRen.t 212) (n:=20) (e:=(itoaRen.t 53)) (by kernel_rfl)
  z212:=itoa_size (by kernel_rfl)
  v212:=itoa_zero (by kernel_rfl)
  t213:=by kernel_rfl
  a213:=itoa_agg (t:=itoaRen.t 213) (n:=65) (e:=(itoaRen.t 5)) (by kernel_rfl)
  z213:=itoa_size (by kernel_rfl)
  t232:=by kernel_rfl
  a232:=itoa_agg (t:=itoaRen.t 232) (n:=32) (e:=(itoaRen.t 5)) (by kernel_rfl)
  z232:=itoa_size (by kernel_rfl)
  v232:=itoa_zero (by kernel_rfl)
  t233:=by kernel_rfl
  a233:=itoa_agg (t:=itoaRen.t 233) (n:=64) (e:=(itoaRen.t 5)) (by kernel_rfl)
  z233:=itoa_size (by kernel_rfl)
  v233:=itoa_zero (by kernel_rfl)
  g17:=by kernel_rfl
  g18:=by kernel_rfl
  g19:=by kernel_rfl
theorem itoaLays:LaysM.n171 Tryz.prog itoaRen:={ itoaLays0 with
  i0:=by kernel_rfl
  i2:=by kernel_rfl
  i3:=by kernel_rfl
  i4:=by kernel_rfl
  i5:=by kernel_rfl
  i9:=by kernel_rfl
  i20:=by kernel_rfl
  i37:=by kernel_rfl
  i46:=by kernel_rfl
  i51:=by kernel_rfl
  i53:=by kernel_rfl
  i171:=by kernel_rfl
  i173:=by kernel_rfl
  i212:=by kernel_rfl
  i232:=by kernel_rfl
  i233:=by kernel_rfl
  m17:=by kernel_rfl
  m18:=by kernel_rfl
  m19:=by kernel_rfl }
theorem fits_below {F:Nat→Prop} {w0 w w':World} {hp:HP} (h:Fits F w0 hp w) (b:RowKit.Below w.heap.size w w'):Fits F w0 hp w':=by
  refine ⟨fun k=>?_,fun k hk=>?_,b.os.trans h.os,b.tape.trans h.tape,b.output.trans h.output,Nat.le_trans h.size b.size⟩
  · have hk:=h.ent k
    by_cases hlt:k<w.heap.size
    · rw [b.block k hlt]; exact hk
    · have hn:w.heap[k]?=none:=by simp; omega
      rw [hn] at hk
      cases e:hp k with
      | none=>trivial
      | cells t cs sp=>rw [e] at hk; obtain ⟨_,_,hk⟩:=hk; cases hk
      | obj o=>rw [e] at hk; cases hk
  · obtain ⟨h1,h2,h3⟩:=h.fr k hk
    exact ⟨h1,Nat.lt_of_lt_of_le h2 b.size,(b.block k h2).trans h3⟩
/-- The table of the powers of ten, as it lies in memory. -/
def TabO (o:Obj):Prop:=∃ t z,o=.cells (Lib.pow10Tab.map fun z=>Value.int .u64 z).toArray t z
/-- It is what is known of the first block. -/
def TabR (o:Obj) (hp:HP):Prop:=hp 0=.obj o∧TabO o
theorem TabR.sub {o:Obj} {hp hp':HP} (h:TabR o hp) (hs:HSub hp hp'):TabR o hp':=⟨hs.obj h.1,h.2⟩
theorem TabR.tab {o : Obj} {hp : HP} (h : TabR o hp) {F w0 w} (hf : Fits F w0 hp w) : Lib.TabIs Tryz.prog w "internal/strconv.uint64pow10" .u64 Lib.pow10Tab := by
  obtain ⟨h,t,z,rfl⟩:=h
  have hb:w.heap[0]?=_:=h▸hf.ent 0
  have hg : Tryz.prog.globalNamed "internal/strconv.uint64pow10" = some 0 := by kernel_rfl
  unfold Lib.TabIs World.var?
  rw [hg]
  simp [hb]
theorem tabO_of {W : World} (h : Lib.TabIs Tryz.prog W "internal/strconv.uint64pow10" .u64 Lib.pow10Tab) : ∃ o, W.heap[0]? = some o ∧ TabO o := by
  have hg : Tryz.prog.globalNamed "internal/strconv.uint64pow10" = some 0 := by kernel_rfl
  unfold Lib.TabIs World.var? at h
  rw [hg] at h
  simp only [Option.bind_some] at h
  split at h
  · rename_i cs t z e
    cases h
    exact ⟨_,e,t,z,rfl⟩
  · cases h
theorem C119 {o:Obj} {n:Int} {hp:HP} {K:Value→HP→Prop} (ht:TabR o hp) (h0:-9223372036854775808≤n∧n≤9223372036854775807) (h:K (.string ⟨(Lib.itoa n).toArray⟩) hp):CF Tryz.prog 119 [.int .i64 n] hp K:=
  .inl ⟨by kernel_rfl,fun F w hf=>(Any.strconv_Itoa itoaLays n h0.1 h0.2 w (ht.tab hf)).mono fun e w' ⟨he,k,os,hw⟩=>⟨_,hp,he,fits_below hf (by subst hw; exact ⟨rfl,rfl,rfl,by simp [Sort.grow,World.drewN],fun k hk=>by simp [Sort.grow,World.drewN,Array.getElem?_append,hk]⟩),h⟩⟩
end Go.Proofs
set_option linter.unusedVariables false
namespace Go.Proofs
open Go Go.HL
/-- An address: four bytes. -/
abbrev Q:=Int × Int × Int × Int
def v4 (q:Q):List Value:=[.int .u8 q.1,.int .u8 q.2.1,.int .u8 q.2.2.1,.int .u8 q.2.2.2]
def t4 (t:Q × Int):List Value:=[.int .u8 t.1.1,.int .u8 t.1.2.1,.int .u8 t.1.2.2.1,.int .u8 t.1.2.2.2,.int .i64 t.2]
theorem v4_inj {p q:Q}:v4 p=v4 q↔p=q:=by
  simp only [v4,List.cons.injEq,Value.int.injEq,true_and,and_true]
  constructor
  · rintro ⟨a,b,c,d⟩; exact Prod.ext a (Prod.ext b (Prod.ext c d))
  · rintro rfl; exact ⟨rfl,rfl,rfl,rfl⟩
theorem t4_inj {p q:Q × Int}:t4 p=t4 q↔p=q:=by
  simp only [t4,List.cons.injEq,Value.int.injEq,true_and,and_true]
  constructor
  · rintro ⟨a,b,c,d,e⟩; exact Prod.ext (Prod.ext a (Prod.ext b (Prod.ext c d))) e
  · rintro rfl; exact ⟨rfl,rfl,rfl,rfl,rfl⟩
theorem v4_shaped (q:Q):shaped Tryz.prog 3 54 (v4 q)=true:=by kernel_rfl
theorem t4_shaped (q:Q × Int):shaped Tryz.prog 3 56 (t4 q)=true:=by kernel_rfl
theorem eq73 {p q:Q} {c:Bool→Prop} (h:c (decide (p=q))):eqAgg Tryz.prog 54 (v4 p) (v4 q) c:=
  eqAgg_of (m:=3) (D:=3) (by kernel_rfl) (v4_shaped p) (v4_shaped q) (by simp [v4_inj]) h
theorem eq75 {p q:Q × Int} {c:Bool→Prop} (h:c (decide (p=q))):eqAgg Tryz.prog 56 (t4 p) (t4 q) c:=
  eqAgg_of (m:=3) (D:=3) (by kernel_rfl) (t4_shaped p) (t4_shaped q) (by simp [t4_inj]) h
/-! Class, the two addresses. -/
/-- Where an address is in a list, or -1. -/
def idx (q:Q) (l:List Q):Int:=if q∈l then (l.idxOf q:Int) else -1
end Go.Proofs
namespace Go.HL
open Go Go.Lib
/-- The number that digits read as. -/
def dval (l:List UInt8):Nat:=l.foldl (fun a b=>a*10+(b.toNat-48)) 0
theorem dval_dec:∀ u:Nat,dval (decDigits u)=u
  | u=>by
    rw [decDigits]
    split
    · rename_i h
      simp only [dval,List.foldl_cons,List.foldl_nil]
      have:(UInt8.ofNat (48+u)).toNat=48+u:=by simp [UInt8.toNat_ofNat']; omega
      rw [this]; omega
    · rename_i h
      have ih:=dval_dec (u / 10)
      unfold dval at ih ⊢
      rw [List.foldl_append,ih]
      simp only [List.foldl_cons,List.foldl_nil]
      have:(UInt8.ofNat (48+u % 10)).toNat=48+u % 10:=by simp [UInt8.toNat_ofNat']; omega
      rw [this]; omega
termination_by u=>u
decreasing_by omega
theorem dec_digit:∀ (u:Nat) (b:UInt8),b∈decDigits u→48≤b.toNat∧b.toNat≤57
  | u,b,h=>by
    rw [decDigits] at h
    split at h
    · rename_i hu
      rw [List.mem_singleton] at h
      subst h
      have:(UInt8.ofNat (48+u)).toNat=48+u:=by simp [UInt8.toNat_ofNat']; omega
      omega
    · rename_i hu
      rw [List.mem_append,List.mem_singleton] at h
      rcases h with h | h
      · exact dec_digit (u / 10) b h
      · subst h
        have:(UInt8.ofNat (48+u % 10)).toNat=48+u % 10:=by simp [UInt8.toNat_ofNat']; omega
        omega
termination_by u=>u
decreasing_by omega
theorem dec_inj {u v:Nat} (h:decDigits u=decDigits v):u=v:=by
  rw [← dval_dec u,h,dval_dec]
theorem itoa_inj {a b:Int} (h:itoa a=itoa b):a=b:=by
  unfold itoa at h
  have key:∀ u v:Nat,(45:UInt8)::decDigits u≠decDigits v:=fun u v e=>by
    have:=dec_digit v 45 (by rw [← e]; simp)
    have e45:(45:UInt8).toNat=45:=rfl
    omega
  split at h <;> split at h
  · rw [List.cons.injEq] at h
    have:=dec_inj h.2
    omega
  · exact absurd h (key _ _)
  · exact absurd h.symm (key _ _)
  · have:=dec_inj h
    omega
theorem itoa_blank (a:Int):(32:UInt8) ∉ itoa a:=by
  unfold itoa
  have key:∀ u:Nat,(32:UInt8) ∉ decDigits u:=fun u h=>by
    have:=dec_digit u 32 h
    have e32:(32:UInt8).toNat=32:=rfl
    omega
  split
  · rw [List.mem_cons,not_or]
    exact ⟨by decide,key _⟩
  · exact key _
theorem blank_split:∀ {a b r s:List UInt8},(32:UInt8) ∉ a→(32:UInt8) ∉ b→a++32::r=b++32::s→a=b∧r=s
  | [],[],_,_,_,_,h=>by simpa using h
  | [],y::b,_,_,_,hb,h=>by
    simp only [List.nil_append,List.cons_append,List.cons.injEq] at h
    exact absurd (by rw [h.1]; simp) hb
  | x::a,[],_,_,ha,_,h=>by
    simp only [List.nil_append,List.cons_append,List.cons.injEq] at h
    exact absurd (by rw [← h.1]; simp) ha
  | x::a,y::b,r,s,ha,hb,h=>by
    simp only [List.cons_append,List.cons.injEq] at h
    obtain ⟨e1,e2⟩:=h
    have:=blank_split (a:=a) (b:=b) (fun hm=>ha (List.mem_cons_of_mem _ hm)) (fun hm=>hb (List.mem_cons_of_mem _ hm)) e2
    exact ⟨by rw [e1,this.1],this.2⟩
/-- Two numbers, each with a blank behind it, and bytes. -/
def keyL (a b:Int) (l:List UInt8):List UInt8:=itoa a++32::(itoa b++32::l)
theorem keyL_inj {a b c d:Int} {l m:List UInt8} (h:keyL a b l=keyL c d m):a=c∧b=d∧l=m:=by
  unfold keyL at h
  obtain ⟨h1,h2⟩:=blank_split (itoa_blank a) (itoa_blank c) h
  obtain ⟨h3,h4⟩:=blank_split (itoa_blank b) (itoa_blank d) h2
  exact ⟨itoa_inj h1,itoa_inj h3,h4⟩
end Go.HL
set_option linter.unusedVariables false
set_option linter.unusedSimpArgs false
set_option maxRecDepth 20000
namespace Go.Proofs
open Go Go.HL
def okB (n:Int):Prop:=0≤n∧n≤255
def okZ (n:Int):Prop:=-9223372036854775808≤n∧n≤9223372036854775807
def okQ (q:Q):Prop:=okB q.1∧okB q.2.1∧okB q.2.2.1∧okB q.2.2.2
def okT (t:Q × Int):Prop:=okQ t.1∧okZ t.2
def qi (q:Q):List Int:=[q.1,q.2.1,q.2.2.1,q.2.2.2]
def bs (q:Q):List UInt8:=(qi q).map u8
theorem bs_inj {p q:Q} (hp:okQ p) (hq:okQ q) (h:bs p=bs q):p=q:=by
  simp only [bs,qi,List.map_cons,List.map_nil,List.cons.injEq,and_true] at h
  obtain ⟨a1,a2,a3,a4⟩:=hp
  obtain ⟨b1,b2,b3,b4⟩:=hq
  exact Prod.ext (u8_inj a1 b1 h.1) (Prod.ext (u8_inj a2 b2 h.2.1) (Prod.ext (u8_inj a3 b3 h.2.2.1) (u8_inj a4 b4 h.2.2.2)))
/-- The key of two transport addresses. -/
def keyS (o p:Q × Int):ByteArray:=⟨(keyL o.2 p.2 (bs o.1++bs p.1)).toArray⟩
def itS (n:Int):ByteArray:=⟨(Lib.itoa n).toArray⟩
theorem itS_size {n:Int} (h:okZ n):(itS n).size≤21:=by
  have:=Lib.itoa_length_le n h.1 h.2
  show (Lib.itoa n).toArray.size≤21
  simpa using this
def byS (l:List UInt8):ByteArray:=⟨l.toArray⟩
theorem byS_app (l m:List UInt8):byS l++byS m=byS (l++m):=by
  apply ByteArray.ext
  simp [byS,ByteArray.data_append]
theorem TabR.set {o:Obj} {hp:HP} (h:TabR o hp) {b:Nat} (hb:hp b=.none) (e:Ent):TabR o (hp.set b e):=h.sub (HSub.set_fresh hp e hb)
end Go.Proofs
set_option linter.unusedVariables false
set_option maxRecDepth 20000
namespace Go.Proofs
open Go Go.HL
end Go.Proofs
set_option linter.unusedVariables false
set_option maxRecDepth 20000
namespace Go.Proofs
open Go Go.HL
end Go.Proofs
set_option linter.unusedVariables false
set_option maxRecDepth 20000
namespace Go.Proofs
open Go Go.HL
end Go.Proofs
set_option linter.unusedVariables false
namespace Go.Proofs
open Go Go.HL
def vb (b:Bool):Value:=.bool b
theorem zero_of {P:Program} {t:TypeId} {z:Value} (h:(P.info? t).bind (·.zero)=some z) (w:World):(zeroValue t).run P w=.ok z w:=by
  cases hi:P.info? t with
  | none=>rw [hi] at h; cases h
  | some i=>rw [hi] at h; simp only [Option.bind_some] at h; simp [zeroValue,typeInfo,hi,h]
theorem z4:∀ w:World,(zeroValue 4).run Tryz.prog w=.ok (.bool false) w:=zero_of (by kernel_rfl)
end Go.Proofs
set_option linter.unusedVariables false
set_option maxRecDepth 20000
namespace Go.Proofs
open Go Go.HL
end Go.Proofs
set_option linter.unusedVariables false
namespace Go.Proofs
open Go Go.HL
def ports:Nat→Int→List Int
  | 0,_=>[]
  | k+1,n=>n::ports k (n+1)
def q0:Q:=(0,0,0,0)
end Go.Proofs
set_option linter.unusedVariables false
set_option maxRecDepth 20000
namespace Go.Proofs
open Go Go.HL
/-! A nil pool. -/
/-! The document's answer. -/
end Go.Proofs
set_option linter.unusedVariables false
set_option maxRecDepth 20000
namespace Go.Proofs
open Go Go.HL
section
variable {p m:Nat} {l:List Q} {low high:Int} {held:List ((Q × Int) × Bool)} {t:Q × Int} {hp:HP} {K:Value→HP→Prop}
end
end Go.Proofs
set_option linter.unusedVariables false
namespace Go.Proofs
open Go Go.HL
/-- The lesser first, of two numbers. -/
def cmpI (x y:Int):Int:=if x<y then -1 else if x > y then 1 else 0
end Go.Proofs
set_option linter.unusedVariables false
set_option maxRecDepth 20000
namespace Go.Proofs
open Go Go.HL
section
variable {p m:Nat} {l:List Q} {low high:Int} {held:List ((Q × Int) × Bool)} {hp:HP} {K:Value→HP→Prop}
end
end Go.Proofs
set_option linter.unusedVariables false
namespace Go.Proofs
open Go Go.HL
end Go.Proofs
set_option linter.unusedVariables false
set_option linter.unusedSimpArgs false
set_option maxRecDepth 20000
namespace Go.Proofs
open Go Go.HL
/-- An inner address: sixteen bytes, by fours. -/
abbrev V6:=Q × Q × Q × Q
theorem pq (p:Nat) (c:Option Addr→Prop):ptrV (ptr p 0) c=c (some ⟨p,0,none⟩):=rfl
set_option synthInstance.maxSize 2000 in
set_option synthInstance.maxHeartbeats 400000 in
instance instV6:DecidableEq V6:=inferInstance
instance instT6:DecidableEq (V6 × Int):=instDecidableEqProd
def key4 (p:Int) (t:Q × Int):ByteArray:=⟨(keyL p t.2 (bs t.1)).toArray⟩
theorem keyA_inj {a b c d:Int} {l m:List UInt8} (h:(⟨(keyL a b l).toArray⟩:ByteArray)=⟨(keyL c d m).toArray⟩):a=c∧b=d∧l=m:=by
  refine keyL_inj ?_
  have:=congrArg ByteArray.data h
  have:=congrArg Array.toList this
  simpa using this
theorem key4_inj {p q:Int} {s t:Q × Int} (hs:okT s) (ht:okT t) (h:key4 p s=key4 q t):p=q∧s=t:=by
  obtain ⟨a,b,c⟩:=keyA_inj h
  exact ⟨a,Prod.ext (bs_inj hs.1 ht.1 c) b⟩
theorem keyA_app (a b:Int) (l:List UInt8):((((itS a++(⟨#[32]⟩:ByteArray))++itS b)++(⟨#[32]⟩:ByteArray))++byS l)=⟨(keyL a b l).toArray⟩:=by
  have e:(⟨#[32]⟩:ByteArray)=byS [32]:=rfl
  have e2:∀ n,itS n=byS (Lib.itoa n):=fun _=>rfl
  have e3:(⟨(keyL a b l).toArray⟩:ByteArray)=byS (keyL a b l):=rfl
  rw [e,e2,e2,e3,byS_app,byS_app,byS_app,byS_app]
  congr 1
  simp [keyL]
end Go.Proofs
set_option linter.unusedVariables false
set_option linter.unusedSimpArgs false
set_option maxRecDepth 20000
namespace Go.Proofs
open Go Go.HL
open Go.Exp (Th tlt Ord setW dropW insW)
/-- A stored one. -/
structure Sy where
  id:Int
  out:Q × Int
  peer:Q × Int
  due:Int
  text:ByteArray
deriving DecidableEq
def zT:Q × Int:=((0,0,0,0),0)
def sy0:Sy:=⟨0,zT,zT,0,⟨#[]⟩⟩
instance:Inhabited Sy:=⟨sy0⟩
def Sy.key (x:Sy):ByteArray:=keyS x.out x.peer
theorem t4_cells (t:Q × Int):cellsN (t4 t) 0 5=some (t4 t):=rfl
theorem pp (p:Nat) (c:Option Addr→Prop):ptrV (ptr p 0) c=c (some ⟨p,0,none⟩):=rfl
section
variable {tb:Obj} {hq:HP} {s mx last:Nat} {L:List Sy} {w:List Th} {K:Value→HP→Prop}
end
end Go.Proofs
set_option linter.unusedVariables false
set_option linter.unusedSimpArgs false
set_option maxRecDepth 20000
namespace Go.Proofs
open Go Go.HL
open Go.Exp (Th tlt Ord setW dropW insW)
section
variable {tb:Obj} {hq:HP} {s mx last:Nat} {L:List Sy} {w:List Th} {K:Value→HP→Prop}
end
end Go.Proofs
set_option linter.unusedVariables false
set_option linter.unusedSimpArgs false
set_option maxRecDepth 20000
namespace Go.Proofs
open Go Go.HL
open Go.Exp (Th tlt Ord setW dropW insW)
section
variable {tb:Obj} {hq:HP} {s mx last:Nat} {L:List Sy} {w:List Th} {K:Value→HP→Prop}
end
end Go.Proofs
set_option linter.unusedVariables false
set_option linter.unusedSimpArgs false
set_option maxRecDepth 20000
namespace Go.Proofs
open Go Go.HL
open Go.Exp (Th tlt Ord setW dropW insW)
section
variable {tb:Obj} {hp:HP} {ps:Nat→HP} {s mx last:Nat} {L:List Sy} {w:List Th} {K:Value→HP→Prop}
theorem ppn (c:Option Addr→Prop):ptrV (.pointer none) c=c none:=rfl
theorem TabR.set_other {tb:Obj} {hp:HP} (h:TabR tb hp) {b:Nat} (hb:b≠0) (e:Ent):TabR tb (hp.set b e):=⟨by rw [HP.set_ne _ _ (fun e'=>hb e'.symm)]; exact h.1,h.2⟩
/-- What is known, but for the table; the table. -/
def startP (hp:HP) (tb:Obj):Nat→HP:=pu (pu (fun _ _=>.none) 1 (HP.onlyF 0 (.obj tb))) 0 (hp.set 0 .none)
theorem startP_ok (ht:TabR tb hp):Parts hp (startP hp tb):=by
  refine Parts.of_two ?_ (HSub.onlyF ht.1) fun x=>?_
  · intro x
    by_cases hx:x=0
    · subst hx; exact .inl (HP.set_eq ..)
    · exact .inr (HP.set_ne _ _ hx)
  · by_cases hx:x=0
    · subst hx; exact .inl (HP.set_eq ..)
    · exact .inr (HP.onlyF_ne _ hx)
theorem startP_0:startP hp tb 0=hp.set 0 .none:=pu_eq ..
theorem startP_1 (ht:TabR tb hp):TabR tb (startP hp tb 1):=⟨by unfold startP; rw [pu_ne _ _ (by omega),pu_eq]; exact HP.onlyF_eq ..,ht.2⟩
theorem finish {hp':HP} (ht:TabR tb hp) (hP:Parts hp' ps) (h0:ps 0=hp.set 0 .none) (ht':TabR tb hp'):HSub hp hp':=fun x=>by
  by_cases hx:x=0
  · subst hx; right; rw [ht.1,ht'.1]
  · have:=hP.sub 0 x
    rw [h0,HP.set_ne _ _ hx] at this
    exact this
theorem okBc {n:Int} (h:decide (0≤n∧n≤255)=true):okB n:=@of_decide_eq_true (0≤n∧n≤255) _ h
theorem okZc {n:Int} (h:decide (-9223372036854775808≤n∧n≤9223372036854775807)=true):okZ n:=@of_decide_eq_true (-9223372036854775808≤n∧n≤9223372036854775807) _ h
end
end Go.Proofs
set_option linter.unusedVariables false
set_option maxRecDepth 20000
namespace Go.Proofs
open Go Go.HL
def F38 (x0:OA) (hp:HP) (K:Kh):Prop:=
  (ite2 (Option.isNone x0) (K (Value.bool true) hp) (ptrN x0 fun b_1 o_2=>(ldV (HP.cell hp b_1 (o_2+2)) fun v_3=>(mapV v_3 fun m_4=>(K (Value.bool (Option.isNone m_4)) hp)))))
theorem F38_ok (x0:OA) (hp:HP) (K:Kh) (h:F38 x0 hp K):CF Tryz.prog 38 [(Value.pointer x0)] hp K:=
  have L:∀ {Q} n,Snd Tryz.prog 12 (cAt Tryz.f38 (pth n)) Q (CW Tryz.prog 12 [] [] (cAt Tryz.f38 (pth n)) Q):=fun _=>Snd.leaf
  okF h Tryz.func38 (L 1) (by kernel_rfl) (by kernel_rfl) (by kernel_rfl)
def F69 (x0:Int) (x1:List Value) (hp:HP) (K:Kh):Prop:=
  (∀ b_1:Nat,hp b_1=.none→((CF Tryz.prog 119 [(Value.int .i64 x0)] (HP.set hp b_1 (.cells 56 x1 0)) fun u_2 h_3=>(strV u_2 fun s_4=>((ByteArray.size s_4+ByteArray.size (⟨#[32]⟩:ByteArray)≤9223372036854775807)∧(ptrN (some ⟨b_1,0,none⟩) fun b_5 o_6=>(ldV (HP.cell h_3 b_5 (o_6+4)) fun v_7=>(intV v_7 .i64 fun i_8=>(CF Tryz.prog 119 [(Value.int .i64 i_8)] h_3 fun u_9 h_10=>(strV u_9 fun s_11=>((ByteArray.size (s_4++(⟨#[32]⟩:ByteArray))+ByteArray.size s_11≤9223372036854775807)∧((ByteArray.size ((s_4++(⟨#[32]⟩:ByteArray))++s_11)+ByteArray.size (⟨#[32]⟩:ByteArray)≤9223372036854775807)∧(ptrN (some ⟨b_1,0,none⟩) fun b_12 o_13=>(rdS Tryz.prog (convert 193 9 (Value.slice (some ⟨b_12,(o_13+0),none⟩) 4 4)) h_10 fun u_14=>(strV u_14 fun s_15=>((ByteArray.size (((s_4++(⟨#[32]⟩:ByteArray))++s_11)++(⟨#[32]⟩:ByteArray))+ByteArray.size s_15≤9223372036854775807)∧(K (Value.string ((((s_4++(⟨#[32]⟩:ByteArray))++s_11)++(⟨#[32]⟩:ByteArray))++s_15)) h_10)))))))))))))))∧(CF Tryz.prog 119 [(Value.int .i64 x0)] (HP.set hp b_1 (.cells 56 x1 0)) fun u_16 h_17=>(strV u_16 fun s_18=>((ByteArray.size s_18+ByteArray.size (⟨#[32]⟩:ByteArray)≤9223372036854775807)∧(ptrN (some ⟨b_1,0,none⟩) fun b_19 o_20=>(ldV (HP.cell h_17 b_19 (o_20+4)) fun v_21=>(intV v_21 .i64 fun i_22=>(ptrN (some ⟨b_1,0,none⟩) fun b_23 o_24=>(rdS Tryz.prog (convert 193 9 (Value.slice (some ⟨b_23,(o_24+0),none⟩) 4 4)) h_17 fun u_25=>(strV u_25 fun s_26=>(CF Tryz.prog 119 [(Value.int .i64 i_22)] h_17 fun u_27 h_28=>(strV u_27 fun s_29=>((ByteArray.size (s_18++(⟨#[32]⟩:ByteArray))+ByteArray.size s_29≤9223372036854775807)∧((ByteArray.size ((s_18++(⟨#[32]⟩:ByteArray))++s_29)+ByteArray.size (⟨#[32]⟩:ByteArray)≤9223372036854775807)∧((ByteArray.size (((s_18++(⟨#[32]⟩:ByteArray))++s_29)++(⟨#[32]⟩:ByteArray))+ByteArray.size s_26≤9223372036854775807)∧(K (Value.string ((((s_18++(⟨#[32]⟩:ByteArray))++s_29)++(⟨#[32]⟩:ByteArray))++s_26)) h_28)))))))))))))))∧(ptrN (some ⟨b_1,0,none⟩) fun b_30 o_31=>(ptrN (some ⟨b_1,0,none⟩) fun b_32 o_33=>(rdS Tryz.prog (convert 193 9 (Value.slice (some ⟨b_32,(o_33+0),none⟩) 4 4)) (HP.set hp b_1 (.cells 56 x1 0)) fun u_34=>(strV u_34 fun s_35=>(CF Tryz.prog 119 [(Value.int .i64 x0)] (HP.set hp b_1 (.cells 56 x1 0)) fun u_36 h_37=>(strV u_36 fun s_38=>((ByteArray.size s_38+ByteArray.size (⟨#[32]⟩:ByteArray)≤9223372036854775807)∧(ldV (HP.cell h_37 b_30 (o_31+4)) fun v_39=>(intV v_39 .i64 fun i_40=>(CF Tryz.prog 119 [(Value.int .i64 i_40)] h_37 fun u_41 h_42=>(strV u_41 fun s_43=>((ByteArray.size (s_38++(⟨#[32]⟩:ByteArray))+ByteArray.size s_43≤9223372036854775807)∧((ByteArray.size ((s_38++(⟨#[32]⟩:ByteArray))++s_43)+ByteArray.size (⟨#[32]⟩:ByteArray)≤9223372036854775807)∧((ByteArray.size (((s_38++(⟨#[32]⟩:ByteArray))++s_43)++(⟨#[32]⟩:ByteArray))+ByteArray.size s_35≤9223372036854775807)∧(K (Value.string ((((s_38++(⟨#[32]⟩:ByteArray))++s_43)++(⟨#[32]⟩:ByteArray))++s_35)) h_42)))))))))))))))∧(ptrN (some ⟨b_1,0,none⟩) fun b_44 o_45=>(ldV (HP.cell (HP.set hp b_1 (.cells 56 x1 0)) b_44 (o_45+4)) fun v_46=>(intV v_46 .i64 fun i_47=>(CF Tryz.prog 119 [(Value.int .i64 x0)] (HP.set hp b_1 (.cells 56 x1 0)) fun u_48 h_49=>(strV u_48 fun s_50=>((ByteArray.size s_50+ByteArray.size (⟨#[32]⟩:ByteArray)≤9223372036854775807)∧(CF Tryz.prog 119 [(Value.int .i64 i_47)] h_49 fun u_51 h_52=>(strV u_51 fun s_53=>((ByteArray.size (s_50++(⟨#[32]⟩:ByteArray))+ByteArray.size s_53≤9223372036854775807)∧((ByteArray.size ((s_50++(⟨#[32]⟩:ByteArray))++s_53)+ByteArray.size (⟨#[32]⟩:ByteArray)≤9223372036854775807)∧(ptrN (some ⟨b_1,0,none⟩) fun b_54 o_55=>(rdS Tryz.prog (convert 193 9 (Value.slice (some ⟨b_54,(o_55+0),none⟩) 4 4)) h_52 fun u_56=>(strV u_56 fun s_57=>((ByteArray.size (((s_50++(⟨#[32]⟩:ByteArray))++s_53)++(⟨#[32]⟩:ByteArray))+ByteArray.size s_57≤9223372036854775807)∧(K (Value.string ((((s_50++(⟨#[32]⟩:ByteArray))++s_53)++(⟨#[32]⟩:ByteArray))++s_57)) h_52)))))))))))))))∧(ptrN (some ⟨b_1,0,none⟩) fun b_58 o_59=>(ldV (HP.cell (HP.set hp b_1 (.cells 56 x1 0)) b_58 (o_59+4)) fun v_60=>(intV v_60 .i64 fun i_61=>(CF Tryz.prog 119 [(Value.int .i64 x0)] (HP.set hp b_1 (.cells 56 x1 0)) fun u_62 h_63=>(strV u_62 fun s_64=>((ByteArray.size s_64+ByteArray.size (⟨#[32]⟩:ByteArray)≤9223372036854775807)∧(ptrN (some ⟨b_1,0,none⟩) fun b_65 o_66=>(rdS Tryz.prog (convert 193 9 (Value.slice (some ⟨b_65,(o_66+0),none⟩) 4 4)) h_63 fun u_67=>(strV u_67 fun s_68=>(CF Tryz.prog 119 [(Value.int .i64 i_61)] h_63 fun u_69 h_70=>(strV u_69 fun s_71=>((ByteArray.size (s_64++(⟨#[32]⟩:ByteArray))+ByteArray.size s_71≤9223372036854775807)∧((ByteArray.size ((s_64++(⟨#[32]⟩:ByteArray))++s_71)+ByteArray.size (⟨#[32]⟩:ByteArray)≤9223372036854775807)∧((ByteArray.size (((s_64++(⟨#[32]⟩:ByteArray))++s_71)++(⟨#[32]⟩:ByteArray))+ByteArray.size s_68≤9223372036854775807)∧(K (Value.string ((((s_64++(⟨#[32]⟩:ByteArray))++s_71)++(⟨#[32]⟩:ByteArray))++s_68)) h_70)))))))))))))))∧(ptrN (some ⟨b_1,0,none⟩) fun b_72 o_73=>(ldV (HP.cell (HP.set hp b_1 (.cells 56 x1 0)) b_72 (o_73+4)) fun v_74=>(intV v_74 .i64 fun i_75=>(ptrN (some ⟨b_1,0,none⟩) fun b_76 o_77=>(rdS Tryz.prog (convert 193 9 (Value.slice (some ⟨b_76,(o_77+0),none⟩) 4 4)) (HP.set hp b_1 (.cells 56 x1 0)) fun u_78=>(strV u_78 fun s_79=>(CF Tryz.prog 119 [(Value.int .i64 x0)] (HP.set hp b_1 (.cells 56 x1 0)) fun u_80 h_81=>(strV u_80 fun s_82=>((ByteArray.size s_82+ByteArray.size (⟨#[32]⟩:ByteArray)≤9223372036854775807)∧(CF Tryz.prog 119 [(Value.int .i64 i_75)] h_81 fun u_83 h_84=>(strV u_83 fun s_85=>((ByteArray.size (s_82++(⟨#[32]⟩:ByteArray))+ByteArray.size s_85≤9223372036854775807)∧((ByteArray.size ((s_82++(⟨#[32]⟩:ByteArray))++s_85)+ByteArray.size (⟨#[32]⟩:ByteArray)≤9223372036854775807)∧((ByteArray.size (((s_82++(⟨#[32]⟩:ByteArray))++s_85)++(⟨#[32]⟩:ByteArray))+ByteArray.size s_79≤9223372036854775807)∧(K (Value.string ((((s_82++(⟨#[32]⟩:ByteArray))++s_85)++(⟨#[32]⟩:ByteArray))++s_79)) h_84)))))))))))))))))
theorem F69_ok (x0:Int) (x1:List Value) (hp:HP) (K:Kh) (h:F69 x0 x1 hp K):CF Tryz.prog 69 [(Value.int .i64 x0),(Value.agg ⟨x1⟩)] hp K:=
  have L:∀ {Q} n,Snd Tryz.prog 17 (cAt Tryz.f69 (pth n)) Q (CW Tryz.prog 17 [] [(1,[(1,4),(1,10),(5,10)],[([true,false,true],false,[1,4,5,10,1]),([false,false,true],false,[1,5,10,1]),([true,true,true],true,[0,1,2,3,4,5,6,7,8,9,10,11,12]),([true,true,false],true,[0,1,2,3,4,8,9,10,5,6,7,11,12]),([true,false,false],true,[0,3,8,9,10,1,2,4,5,6,7,11,12]),([false,true,true],true,[0,3,4,1,2,5,6,7,8,9,10,11,12]),([false,true,false],true,[0,3,4,1,2,8,9,10,5,6,7,11,12]),([false,false,false],true,[0,3,4,8,9,10,1,2,5,6,7,11,12])])] (cAt Tryz.f69 (pth n)) Q):=fun _=>Snd.leaf
  okF h Tryz.func69 (L 1) (by kernel_rfl) (by kernel_rfl) (by kernel_rfl)
def F24_j2 (x32:Bool) (hp:HP) (K:Kh):Prop:=
  (ite2 x32 (K (Value.int .i64 6) hp) (K (Value.int .i64 0) hp))
def F24_j1 (x0:OA) (x8:Bool) (hp:HP) (K:Kh):Prop:=
  (ite2 x8 (K (Value.int .i64 5) hp) ((ptrN x0 fun b_4 o_5=>(ldV (HP.cell hp b_4 (o_5+2)) fun v_6=>(mapV v_6 fun m_7=>(rdS Tryz.prog (Builtin.len_ #[67] 3 #[.map m_7]) hp fun u_8=>(intV u_8 .i64 fun i_9=>(ptrN x0 fun b_10 o_11=>(ldV (HP.cell hp b_10 (o_11+0)) fun v_12=>(intV v_12 .i64 fun i_13=>(F24_j2 (decide ((i_9:Int)≥i_13)) hp  K)))))))))∧(ptrN x0 fun b_14 o_15=>(ldV (HP.cell hp b_14 (o_15+2)) fun v_16=>(mapV v_16 fun m_17=>(ptrN x0 fun b_18 o_19=>(ldV (HP.cell hp b_18 (o_19+0)) fun v_20=>(intV v_20 .i64 fun i_21=>(rdS Tryz.prog (Builtin.len_ #[67] 3 #[.map m_17]) hp fun u_22=>(intV u_22 .i64 fun i_23=>(F24_j2 (decide ((i_23:Int)≥i_21)) hp  K)))))))))))
def F24 (x0:OA) (x1:Int) (x2:List Value) (hp:HP) (K:Kh):Prop:=
  (CF Tryz.prog 38 [(Value.pointer x0)] hp fun u_1 h_2=>(boolV u_1 fun q_3=>(ite2 q_3 (K (Value.int .i64 2) h_2) ((ptrN x0 fun b_24 o_25=>(ldV (HP.cell h_2 b_24 (o_25+3)) fun v_26=>(ptrV v_26 fun p_27=>(ldL (cellsN x2 0 5) fun l_28=>(CF Tryz.prog 69 [(Value.int .i64 x1),(Value.agg ⟨l_28⟩)] h_2 fun u_29 h_30=>(strV u_29 fun s_31=>(CF Tryz.prog 74 [(Value.pointer p_27),(Value.string s_31)] h_30 fun u_32 h_33=>(tup2V u_32 fun u_34 u_35=>(intV u_34 .i64 fun i_36=>(boolV u_35 fun q_37=>(F24_j1 x0 q_37 h_33  K)))))))))))∧(ptrN x0 fun b_38 o_39=>(ldL (cellsN x2 0 5) fun l_40=>(CF Tryz.prog 69 [(Value.int .i64 x1),(Value.agg ⟨l_40⟩)] h_2 fun u_41 h_42=>(strV u_41 fun s_43=>(ldV (HP.cell h_42 b_38 (o_39+3)) fun v_44=>(ptrV v_44 fun p_45=>(CF Tryz.prog 74 [(Value.pointer p_45),(Value.string s_43)] h_42 fun u_46 h_47=>(tup2V u_46 fun u_48 u_49=>(intV u_48 .i64 fun i_50=>(boolV u_49 fun q_51=>(F24_j1 x0 q_51 h_47  K)))))))))))))))
theorem F24_ok (x0:OA) (x1:Int) (x2:List Value) (hp:HP) (K:Kh) (h:F24 x0 x1 x2 hp K):CF Tryz.prog 24 [(Value.pointer x0),(Value.int .i64 x1),(Value.agg ⟨x2⟩)] hp K:=
  have L:∀ {Q} n,Snd Tryz.prog 33 (cAt Tryz.f24 (pth n)) Q (CW Tryz.prog 33 [5] [(3,[(3,6)],[([true],true,[0,1,2,3,4,5,6,7,8,9,10,11,12]),([false],true,[0,1,2,4,5,6,3,7,8,9,10,11,12])]),(6,[(4,8)],[([true],true,[0,1,2,3,4,5,6,7,8,9]),([false],true,[0,1,2,3,5,6,7,8,4,9])])] (cAt Tryz.f24 (pth n)) Q):=fun _=>Snd.leaf
  okF h Tryz.func24 (Snd.seq (L 2) (Snd.seq (L 5) (Snd.seq (Snd.jn [(0,.p),(8,.b)] (fun a hp=>F24_j1 a.1 a.2.1 hp  K) (L 19) (L 27) (by rfl) (by kernel_rfl)) (Snd.seq (Snd.jn [(32,.b)] (fun a hp=>F24_j2 a.1 hp  K) (L 39) (L 55) (by rfl) (by kernel_rfl)) (L 31))))) (by kernel_rfl) (by kernel_rfl) (by kernel_rfl)
def F10 (x0:OA) (hp:HP) (K:Kh):Prop:=
  (CF Tryz.prog 38 [(Value.pointer x0)] hp fun u_1 h_2=>(boolV u_1 fun q_3=>(ite2 q_3 (K (Value.int .i64 0) h_2) (ptrN x0 fun b_4 o_5=>(ldV (HP.cell h_2 b_4 (o_5+2)) fun v_6=>(mapV v_6 fun m_7=>(rdS Tryz.prog (Builtin.len_ #[67] 3 #[.map m_7]) h_2 fun u_8=>(intV u_8 .i64 fun i_9=>(K (Value.int .i64 i_9) h_2)))))))))
theorem F10_ok (x0:OA) (hp:HP) (K:Kh) (h:F10 x0 hp K):CF Tryz.prog 10 [(Value.pointer x0)] hp K:=
  have L:∀ {Q} n,Snd Tryz.prog 10 (cAt Tryz.f10 (pth n)) Q (CW Tryz.prog 10 [] [] (cAt Tryz.f10 (pth n)) Q):=fun _=>Snd.leaf
  okF h Tryz.func10 (L 1) (by kernel_rfl) (by kernel_rfl) (by kernel_rfl)
def F29_j1 (x0:OA) (x8:Int) (x9:Bool) (k6:List Value) (hp:HP) (K:Kh):Prop:=
  (ite2 (!x9) (if List.length [(Value.int .i64 0),(Value.int .i64 0),(Value.int .u8 0),(Value.int .u8 0),(Value.int .u8 0),(Value.int .u8 0),(Value.int .i64 0),(Value.int .i64 0),(Value.int .i64 0)]=9 then (if List.all [(Value.int .i64 0),(Value.int .i64 0),(Value.int .u8 0),(Value.int .u8 0),(Value.int .u8 0),(Value.int .u8 0),(Value.int .i64 0),(Value.int .i64 0),(Value.int .i64 0)] one=true then (if 0+List.length [(Value.int .i64 0),(Value.int .i64 0),(Value.int .u8 0),(Value.int .u8 0),(Value.int .u8 0),(Value.int .u8 0),(Value.int .i64 0),(Value.int .i64 0),(Value.int .i64 0)]≤List.length k6 then (ldL (cellsN (splice k6 0 [(Value.int .i64 0),(Value.int .i64 0),(Value.int .u8 0),(Value.int .u8 0),(Value.int .u8 0),(Value.int .u8 0),(Value.int .i64 0),(Value.int .i64 0),(Value.int .i64 0)]) 0 9) fun l_5=>(K (.tuple ⟨[(.agg ⟨l_5⟩),(Value.bool false)]⟩) hp)) else False) else False) else False) (ptrN x0 fun b_6 o_7=>(ldV (HP.cell hp b_6 (o_7+2)) fun v_8=>(mapV v_8 fun m_9=>(rdS Tryz.prog (Instr.lookup 67 (Value.map m_9) (Value.int .i64 x8) false) hp fun u_10=>(ptrV u_10 fun p_11=>(ptrN p_11 fun b_12 o_13=>(ldL (HP.cellN hp b_12 o_13 9) fun l_14=>(if List.length l_14=9 then (if List.all l_14 one=true then (if 0+List.length l_14≤List.length k6 then (ldL (cellsN (splice k6 0 l_14) 0 9) fun l_15=>(K (.tuple ⟨[(.agg ⟨l_15⟩),(Value.bool true)]⟩) hp)) else False) else False) else False)))))))))
def F29 (x0:OA) (x1:Int) (x2:List Value) (hp:HP) (K:Kh):Prop:=
  (CF Tryz.prog 38 [(Value.pointer x0)] hp fun u_1 h_2=>(boolV u_1 fun q_3=>(ite2 q_3 (if List.length [(Value.int .i64 0),(Value.int .i64 0),(Value.int .u8 0),(Value.int .u8 0),(Value.int .u8 0),(Value.int .u8 0),(Value.int .i64 0),(Value.int .i64 0),(Value.int .i64 0)]=9 then (if List.all [(Value.int .i64 0),(Value.int .i64 0),(Value.int .u8 0),(Value.int .u8 0),(Value.int .u8 0),(Value.int .u8 0),(Value.int .i64 0),(Value.int .i64 0),(Value.int .i64 0)] one=true then (if 0+List.length [(Value.int .i64 0),(Value.int .i64 0),(Value.int .u8 0),(Value.int .u8 0),(Value.int .u8 0),(Value.int .u8 0),(Value.int .i64 0),(Value.int .i64 0),(Value.int .i64 0)]≤List.length [(Value.int .i64 0),(Value.int .i64 0),(Value.int .u8 0),(Value.int .u8 0),(Value.int .u8 0),(Value.int .u8 0),(Value.int .i64 0),(Value.int .i64 0),(Value.int .i64 0)] then (ldL (cellsN (splice [(Value.int .i64 0),(Value.int .i64 0),(Value.int .u8 0),(Value.int .u8 0),(Value.int .u8 0),(Value.int .u8 0),(Value.int .i64 0),(Value.int .i64 0),(Value.int .i64 0)] 0 [(Value.int .i64 0),(Value.int .i64 0),(Value.int .u8 0),(Value.int .u8 0),(Value.int .u8 0),(Value.int .u8 0),(Value.int .i64 0),(Value.int .i64 0),(Value.int .i64 0)]) 0 9) fun l_4=>(K (.tuple ⟨[(.agg ⟨l_4⟩),(Value.bool false)]⟩) h_2)) else False) else False) else False) ((ptrN x0 fun b_16 o_17=>(ldV (HP.cell h_2 b_16 (o_17+3)) fun v_18=>(ptrV v_18 fun p_19=>(ldL (cellsN x2 0 5) fun l_20=>(CF Tryz.prog 69 [(Value.int .i64 x1),(Value.agg ⟨l_20⟩)] h_2 fun u_21 h_22=>(strV u_21 fun s_23=>(CF Tryz.prog 74 [(Value.pointer p_19),(Value.string s_23)] h_22 fun u_24 h_25=>(tup2V u_24 fun u_26 u_27=>(intV u_26 .i64 fun i_28=>(boolV u_27 fun q_29=>(F29_j1 x0 i_28 q_29 [(Value.int .i64 0),(Value.int .i64 0),(Value.int .u8 0),(Value.int .u8 0),(Value.int .u8 0),(Value.int .u8 0),(Value.int .i64 0),(Value.int .i64 0),(Value.int .i64 0)] h_25  K)))))))))))∧(ptrN x0 fun b_30 o_31=>(ldL (cellsN x2 0 5) fun l_32=>(CF Tryz.prog 69 [(Value.int .i64 x1),(Value.agg ⟨l_32⟩)] h_2 fun u_33 h_34=>(strV u_33 fun s_35=>(ldV (HP.cell h_34 b_30 (o_31+3)) fun v_36=>(ptrV v_36 fun p_37=>(CF Tryz.prog 74 [(Value.pointer p_37),(Value.string s_35)] h_34 fun u_38 h_39=>(tup2V u_38 fun u_40 u_41=>(intV u_40 .i64 fun i_42=>(boolV u_41 fun q_43=>(F29_j1 x0 i_42 q_43 [(Value.int .i64 0),(Value.int .i64 0),(Value.int .u8 0),(Value.int .u8 0),(Value.int .u8 0),(Value.int .u8 0),(Value.int .i64 0),(Value.int .i64 0),(Value.int .i64 0)] h_39  K)))))))))))))))
theorem F29_ok (x0:OA) (x1:Int) (x2:List Value) (hp:HP) (K:Kh) (h:F29 x0 x1 x2 hp K):CF Tryz.prog 29 [(Value.pointer x0),(Value.int .i64 x1),(Value.agg ⟨x2⟩)] hp K:=
  have L:∀ {Q} n,Snd Tryz.prog 35 (cAt Tryz.f29 (pth n)) Q (CW Tryz.prog 35 [5,6] [(3,[(3,6)],[([true],true,[0,1,2,3,4,5,6,7,8,9,10,11,12]),([false],true,[0,1,2,4,5,6,3,7,8,9,10,11,12])])] (cAt Tryz.f29 (pth n)) Q):=fun _=>Snd.leaf
  okF h Tryz.func29 (Snd.seq (L 2) (Snd.seq (L 5) (Snd.jn [(0,.p),(6,.r 6 0),(8,.i .i64),(9,.b),(6,.c 58)] (fun a hp=>F29_j1 a.1 a.2.1 a.2.2.1 a.2.2.2.1 hp  K) (L 11) (L 15) (by rfl) (by kernel_rfl)))) (by kernel_rfl) (by kernel_rfl) (by kernel_rfl)
def F6 (x0:Int) (hp:HP) (K:Kh):Prop:=
  (CF Tryz.prog 22 [(Value.int .i64 x0)] hp fun u_1 h_2=>(tup2V u_1 fun u_3 u_4=>(ptrV u_3 fun p_5=>(intV u_4 .i64 fun i_6=>(ite2 ((i_6:Int) != 0) (K (.tuple ⟨[(Value.pointer none),(Value.int .i64 i_6)]⟩) h_2) (∀ b_7:Nat,h_2 b_7=.none→(CF Tryz.prog 23 [] (HP.set h_2 b_7 (.obj (.map #[] 0))) fun u_8 h_9=>(ptrV u_8 fun p_10=>(∀ b_11:Nat,h_9 b_11=.none→(∀ b_12:Nat,(HP.set h_9 b_11 (.obj (.map #[] 0))) b_12=.none→(K (.tuple ⟨[(ptr b_12 0),(Value.int .i64 0)]⟩) (HP.set (HP.set h_9 b_11 (.obj (.map #[] 0))) b_12 (.cells 72 [(Value.int .i64 x0),(Value.int .i64 0),(Value.map (some b_7)),(Value.pointer p_5),(Value.pointer p_10),(Value.map (some b_11))] 0)))))))))))))
theorem F6_ok (x0:Int) (hp:HP) (K:Kh) (h:F6 x0 hp K):CF Tryz.prog 6 [(Value.int .i64 x0)] hp K:=
  have L:∀ {Q} n,Snd Tryz.prog 21 (cAt Tryz.f6 (pth n)) Q (CW Tryz.prog 21 [] [] (cAt Tryz.f6 (pth n)) Q):=fun _=>Snd.leaf
  okF h Tryz.func6 (L 1) (by kernel_rfl) (by kernel_rfl) (by kernel_rfl)
end Go.Proofs
set_option linter.unusedVariables false
set_option linter.unusedSimpArgs false
set_option maxRecDepth 20000
namespace Go.Proofs
open Go Go.HL
open Go.Exp (Th tlt Ord setW dropW insW)
/-- A session. -/
structure Ss where
  id:Int
  bnd:Int
  peer:Q × Int
  state:Int
  due:Int
deriving DecidableEq
def ss0:Ss:=⟨0,0,((0,0,0,0),0),0,0⟩
instance:Inhabited Ss:=⟨ss0⟩
def ssc (x:Ss):List Value:=.int .i64 x.id::.int .i64 x.bnd::(t4 x.peer++[.int .i64 x.state,.int .i64 x.due])
theorem ssc_len (x:Ss):(ssc x).length=9:=rfl
theorem ssc_one (x:Ss):(ssc x).all one=true:=rfl
theorem ssc_id (x:Ss):(ssc x)[0]?=some (.int .i64 x.id):=rfl
theorem ssc_bnd (x:Ss):(ssc x)[1]?=some (.int .i64 x.bnd):=rfl
theorem ssc_peer (x:Ss):cellsN (ssc x) 2 5=some (t4 x.peer):=rfl
theorem ssc_addr (x:Ss):cellsN (ssc x) 2 4=some (v4 x.peer.1):=rfl
theorem ssc_state (x:Ss):(ssc x)[7]?=some (.int .i64 x.state):=rfl
theorem ssc_due (x:Ss):(ssc x)[8]?=some (.int .i64 x.due):=rfl
theorem ssc_cells (x:Ss):cellsN (ssc x) 0 9=some (ssc x):=rfl
theorem ss_spl {zs:List Value} {y:Ss} (h:zs.length=9):splice zs 0 (ssc y)=ssc y:=splice_all h.symm
theorem ssz:([(Value.int .i64 0),(Value.int .i64 0),(Value.int .u8 0),(Value.int .u8 0),(Value.int .u8 0),(Value.int .u8 0),(Value.int .i64 0),(Value.int .i64 0),(Value.int .i64 0)]:List Value)=ssc ss0:=rfl
theorem ssc_inj {x y:Ss}:ssc x=ssc y↔x=y:=by
  constructor
  · intro h
    obtain ⟨i,b,p,s,d⟩:=x
    obtain ⟨i',b',p',s',d'⟩:=y
    unfold ssc at h
    simp only [List.cons.injEq,Value.int.injEq,true_and] at h
    obtain ⟨rfl,rfl,h⟩:=h
    obtain ⟨h1,h⟩:=List.append_inj h rfl
    simp only [List.cons.injEq,Value.int.injEq,true_and,and_true] at h
    obtain ⟨rfl,rfl⟩:=h
    rw [t4_inj.1 h1]
  · rintro rfl; rfl
theorem ssc_shaped (x:Ss):shaped Tryz.prog 5 58 (ssc x)=true:=by kernel_rfl
theorem eq79 {x y:Ss} {c:Bool→Prop} (h:c (decide (x=y))):eqAgg Tryz.prog 58 (ssc x) (ssc y) c:=
  eqAgg_of (m:=5) (D:=5) (by kernel_rfl) (ssc_shaped x) (ssc_shaped y) (by simp [ssc_inj]) h
theorem u154:Tryz.prog.underlying 67=some (.map 3 91):=by kernel_rfl
theorem u155:Tryz.prog.underlying 70=some (.map 3 139):=by kernel_rfl
theorem u160:Tryz.prog.underlying 139=some (.map 3 4):=by kernel_rfl
theorem zw158:∀ w:World,(zeroValue 91).run Tryz.prog w=.ok (.pointer none) w:=fun w=>itoa_zero (by kernel_rfl) w
theorem zw160:∀ w:World,(zeroValue 139).run Tryz.prog w=.ok (.map none) w:=fun w=>itoa_zero (by kernel_rfl) w
def Ss.key (x:Ss):ByteArray:=key4 x.bnd x.peer
/-- What always holds of a list of sessions. -/
structure InvE (mx last:Nat) (L:List Ss):Prop where
  asc:(L.map (·.id)).Pairwise (· < ·)
  rng:∀ x∈L,1≤x.id∧x.id≤last
  keys:(L.map fun x=>(x.bnd,x.peer)).Nodup
  ok:∀ x∈L,okZ x.bnd∧okT x.peer∧0≤x.due∧x.due≤4611686018427387904
  len:L.length≤mx
  mx:mx≤65536
  last:last≤500000
section
variable {mx last:Nat} {L:List Ss}
theorem InvE.ids (h:InvE mx last L):(L.map (·.id)).Nodup:=h.asc.imp fun h e=>by omega
theorem InvE.keyNd (h:InvE mx last L):(L.map Ss.key).Nodup:=by
  have h1:=h.keys
  unfold List.Nodup at h1 ⊢
  rw [List.pairwise_map] at h1 ⊢
  refine h1.imp_of_mem fun {a b} ha hb hab e=>hab ?_
  obtain ⟨e1,e2⟩:=key4_inj (h.ok a ha).2.1 (h.ok b hb).2.1 e
  rw [e1,e2]
theorem InvE.filter (h:InvE mx last L) (p:Ss→Bool):InvE mx last (L.filter p) where
  asc:=h.asc.sublist (List.filter_sublist.map _)
  rng x hx:=h.rng x (List.mem_filter.1 hx).1
  keys:=h.keys.sublist (List.filter_sublist.map _)
  ok x hx:=h.ok x (List.mem_filter.1 hx).1
  len:=Nat.le_trans (List.length_filter_le _ _) h.len
  mx:=h.mx
  last:=h.last
theorem InvE.nil (h:mx≤65536):InvE mx 0 []:=⟨List.Pairwise.nil,fun x hx=>absurd hx (by simp),List.nodup_nil,fun x hx=>absurd hx (by simp),Nat.zero_le _,h,by omega⟩
/-- The one of a binding and a peer; the one of a number. -/
def findK (b:Int) (p:Q × Int) (L:List Ss):Option Ss:=L.find? fun x=>decide (x.bnd=b∧x.peer=p)
def findN (i:Int) (L:List Ss):Option Ss:=L.find? fun x=>decide (x.id=i)
theorem findK_key (h:InvE mx last L) {b:Int} {p:Q × Int} (hp:okT p):(L.find? fun x=>decide (x.key=key4 b p))=findK b p L:=by
  unfold findK
  have:∀ x∈L,decide (x.key=key4 b p)=decide (x.bnd=b∧x.peer=p):=fun x hx=>by
    refine decide_eq_decide.2 ⟨fun e=>key4_inj (h.ok x hx).2.1 hp e,fun ⟨e1,e2⟩=>?_⟩
    unfold Ss.key; rw [e1,e2]
  clear h
  induction L with
  | nil=>rfl
  | cons x L ih=>rw [List.find?_cons,List.find?_cons,this x (by simp),ih fun y hy=>this y (by simp [hy])]
theorem findK_mem {b:Int} {p:Q × Int} {x:Ss} (h:findK b p L=some x):x∈L∧x.bnd=b∧x.peer=p:=by
  obtain ⟨h1,h2⟩:=find_mem h
  exact ⟨h1,of_decide_eq_true h2⟩
theorem findN_of (h:InvE mx last L) {x:Ss} (hx:x∈L):findN x.id L=some x:=find_of (g:=Ss.id) h.ids hx
theorem InvE.put (h:InvE mx last L) {b:Int} {p:Q × Int} {state due:Int} (hb:okZ b) (hp:okT p) (hd:0≤due∧due≤4611686018427387904) (hf:findK b p L=none) (hl:L.length<mx) (hlast:last<500000) :
    InvE mx (last+1) (L++[⟨(last+1:Nat),b,p,state,due⟩]) where
  asc:=by
    rw [List.map_append]
    refine List.pairwise_append.2 ⟨h.asc,by simp,fun a ha b hb=>?_⟩
    obtain ⟨x,hx,rfl⟩:=List.mem_map.1 ha
    have:=(h.rng x hx).2
    simp only [List.map_cons,List.map_nil,List.mem_singleton] at hb
    subst hb; omega
  rng x hx:=by
    rcases List.mem_append.1 hx with hx | hx
    · have:=h.rng x hx; omega
    · rw [List.mem_singleton.1 hx]
      simp only
      omega
  keys:=by
    rw [List.map_append]
    refine List.nodup_append.2 ⟨h.keys,by simp,fun a ha b hb e=>?_⟩
    obtain ⟨x,hx,rfl⟩:=List.mem_map.1 ha
    simp only [List.map_cons,List.map_nil,List.mem_singleton] at hb
    subst hb
    have:=(find_none.1 hf) x hx
    simp only [decide_eq_false_iff_not] at this
    simp only [Prod.mk.injEq] at e
    exact this e
  ok x hx:=by
    rcases List.mem_append.1 hx with hx | hx
    · exact h.ok x hx
    · rw [List.mem_singleton.1 hx]; exact ⟨hb,hp,hd⟩
  len:=by rw [List.length_append]; simp; omega
  mx:=h.mx
  last:=by omega
/-- One's state and due are changed. -/
def setE1 (i s d:Int) (x:Ss):Ss:=if x.id=i then { x with state:=s,due:=d } else x
def updS (i s d:Int) (L:List Ss):List Ss:=L.map (setE1 i s d)
theorem setE1_id (i s d:Int) (x:Ss):(setE1 i s d x).id=x.id:=by unfold setE1; split <;> rfl
theorem setE1_bnd (i s d:Int) (x:Ss):(setE1 i s d x).bnd=x.bnd:=by unfold setE1; split <;> rfl
theorem setE1_peer (i s d:Int) (x:Ss):(setE1 i s d x).peer=x.peer:=by unfold setE1; split <;> rfl
theorem updS_map {β:Type} (f:Ss→β) (i s d:Int) (hf:∀ x,f (setE1 i s d x)=f x):(updS i s d L).map f=L.map f:=by
  unfold updS
  rw [List.map_map]
  exact List.map_congr_left fun x _=>hf x
theorem InvE.upd (h:InvE mx last L) {i s d:Int} (hd:0≤d∧d≤4611686018427387904):InvE mx last (updS i s d L) where
  asc:=by rw [updS_map (·.id) i s d (setE1_id i s d)]; exact h.asc
  rng y hy:=by
    obtain ⟨x,hx,rfl⟩:=List.mem_map.1 hy
    rw [setE1_id]; exact h.rng x hx
  keys:=by rw [updS_map _ i s d fun x=>by rw [setE1_bnd,setE1_peer]]; exact h.keys
  ok y hy:=by
    obtain ⟨x,hx,rfl⟩:=List.mem_map.1 hy
    obtain ⟨a,b,c⟩:=h.ok x hx
    rw [setE1_bnd,setE1_peer]
    refine ⟨a,b,?_⟩
    unfold setE1
    split
    · exact hd
    · exact c
  len:=by unfold updS; rw [List.length_map]; exact h.len
  mx:=h.mx
  last:=h.last
theorem upd_perm {i s d:Int}:∀ {L:List Ss} {x:Ss},(L.map (·.id)).Nodup→x∈L→x.id=i→((L.filter fun y=>decide (y.id≠i))++[setE1 i s d x]).Perm (updS i s d L)
  | [],x,_,hx,_=>absurd hx (by simp)
  | y::L,x,hn,hx,hi=>by
    rw [List.map_cons,List.nodup_cons] at hn
    rcases List.mem_cons.1 hx with e | hx
    · subst e
      have h1:∀ z∈L,z.id≠i:=fun z hz e=>hn.1 (List.mem_map.2 ⟨z,hz,by rw [e,hi]⟩)
      have e1:((x::L).filter fun y=>decide (y.id≠i))=L:=by
        rw [List.filter_cons,if_neg (by simp [hi])]
        exact List.filter_eq_self.2 fun z hz=>decide_eq_true (h1 z hz)
      have e2:updS i s d (x::L)=setE1 i s d x::L:=by
        unfold updS
        rw [List.map_cons]
        congr 1
        conv=>rhs; rw [← List.map_id L]
        exact List.map_congr_left fun z hz=>if_neg (h1 z hz)
      rw [e1,e2]
      exact List.perm_append_singleton _ _
    · have hy:y.id≠i:=fun e=>hn.1 (List.mem_map.2 ⟨x,hx,by rw [hi,e]⟩)
      have e1:((y::L).filter fun y=>decide (y.id≠i))=y::L.filter fun y=>decide (y.id≠i):=by
        rw [List.filter_cons,if_pos (decide_eq_true hy)]
      have e2:updS i s d (y::L)=y::updS i s d L:=by
        unfold updS
        rw [List.map_cons]
        congr 1
        exact if_neg hy
      rw [e1,e2,List.cons_append]
      exact (upd_perm hn.2 hx hi).cons _
theorem QOk.upd {w:List Th} {i s d:Int} (h:QOk Ss.id Ss.due L w) (hn:(L.map (·.id)).Nodup) {x:Ss} (hx:x∈L) (hi:x.id=i):QOk Ss.id Ss.due (updS i s d L) (setW i d w):=by
  have h1:=h.cut (i:=i)
  have hid:(setE1 i s d x).id=i:=by rw [setE1_id]; exact hi
  have hdue:(setE1 i s d x).due=d:=by unfold setE1; rw [if_pos hi]
  have h2:=h1.put (x:=setE1 i s d x) (by
    rw [hid]
    intro hm
    obtain ⟨y,hy,e⟩:=List.mem_map.1 hm
    exact of_decide_eq_true (List.mem_filter.1 hy).2 e)
  rw [hid,hdue] at h2
  have e:setW i d (dropW i w)=setW i d w:=by
    unfold setW
    congr 1
    unfold dropW
    rw [List.filter_filter]
    refine List.filter_congr fun t _=>?_
    cases t.1 != i <;> rfl
  rw [e] at h2
  exact ⟨h2.1.trans ((upd_perm hn hx hi).map _),h2.2⟩
end
/-! The sessions' numbers of each binding: a map of maps. -/
def mv (k:Nat):Value:=.map (some k)
/-- The numbers of a binding, as a map has them. -/
def innB (B:List (Int × Int)) (b:Int):List (Int × Bool):=(B.filter fun p=>decide (p.1=b)).map fun p=>(p.2,true)
structure OfO (A:HP) (f:Nat) (O:List (Int × Nat)) (B:List (Int × Int)):Prop where
  map:MapE iw mv O (A f)
  k1:(O.map (·.1)).Nodup
  k2:(O.map (·.2)).Nodup
  nf:∀ e∈O,e.2≠f
  cov:∀ b,b∈O.map (·.1)↔∃ p∈B,p.1=b
  inn:∀ e∈O,MapE iw vb (innB B e.1) (A e.2)
section
variable {A:HP} {f:Nat} {O:List (Int × Nat)} {B:List (Int × Int)}
theorem getL_some_mem {α β:Type} [DecidableEq α] {k:α} {v:β}:∀ {l:List (α × β)},getL k l=some v→(k,v)∈l
  | [],h=>by cases h
  | p::l,h=>by
    simp only [getL] at h
    by_cases hk:k=p.1
    · rw [if_pos hk] at h
      have:p=(k,v):=by rw [hk]; exact Prod.ext rfl (Option.some.inj h)
      rw [this]; simp
    · rw [if_neg hk] at h
      exact List.mem_cons_of_mem _ (getL_some_mem h)
theorem getL_none_mem {α β:Type} [DecidableEq α] {k:α}:∀ {l:List (α × β)},getL k l=none↔k ∉ l.map (·.1)
  | []=>by simp [getL]
  | p::l=>by
    simp only [getL,List.map_cons,List.mem_cons,not_or]
    by_cases hk:k=p.1
    · rw [if_pos hk]; simp [hk]
    · rw [if_neg hk,getL_none_mem]; simp [hk]
theorem OfO.none (h:OfO A f O B) {b:Int} (hg:getL b O=none):∀ p∈B,p.1≠b:=fun p hp e=>getL_none_mem.1 hg ((h.cov b).2 ⟨p,hp,e⟩)
theorem OfO.inner (h:OfO A f O B) {b:Int} {k:Nat} (hg:getL b O=some k):MapE iw vb (innB B b) (A k)∧k≠f:=⟨h.inn _ (getL_some_mem hg),h.nf _ (getL_some_mem hg)⟩
theorem OfO.nil {A:HP} {f:Nat} (h:A f=.obj (.map #[] 0)):OfO A f [] [] where
  map:=by rw [h]; exact MapE.empty _ _
  k1:=List.nodup_nil
  k2:=List.nodup_nil
  nf e he:=absurd he (by simp)
  cov b:=by simp
  inn e he:=absurd he (by simp)
theorem inn_snoc (B:List (Int × Int)) (b i b':Int):innB (B++[(b,i)]) b'=if b=b' then innB B b'++[(i,true)] else innB B b':=by
  unfold innB
  rw [List.filter_append,List.map_append]
  by_cases h:b=b'
  · rw [if_pos h]; simp [h]
  · rw [if_neg h]; simp [h]
theorem inn_ids {B:List (Int × Int)} {b i:Int} (h:i ∉ B.map (·.2)):getL i (innB B b)=none:=by
  rw [getL_none_mem]
  intro hm
  obtain ⟨p,hp,e⟩:=List.mem_map.1 hm
  obtain ⟨q,hq,rfl⟩:=List.mem_map.1 hp
  exact h (List.mem_map.2 ⟨q,(List.mem_filter.1 hq).1,e⟩)
theorem OfO.add_old (h:OfO A f O B) {b i:Int} {k:Nat} (hg:getL b O=some k) (hi:i ∉ B.map (·.2)) {e:Ent} (he:MapE iw vb (putL i true (innB B b)) e):OfO (A.set k e) f O (B++[(b,i)]) where
  map:=by rw [HP.set_ne _ _ (h.inner hg).2.symm]; exact h.map
  k1:=h.k1
  k2:=h.k2
  nf:=h.nf
  cov b':=by
    rw [h.cov b']
    constructor
    · rintro ⟨p,hp,e⟩; exact ⟨p,by simp [hp],e⟩
    · rintro ⟨p,hp,e⟩
      rcases List.mem_append.1 hp with hp | hp
      · exact ⟨p,hp,e⟩
      · rw [List.mem_singleton.1 hp] at e
        simp only at e
        subst e
        exact (h.cov b).1 (List.mem_map.2 ⟨_,getL_some_mem hg,rfl⟩)
  inn z hz:=by
    rw [inn_snoc]
    by_cases hb:b=z.1
    · have hzk:z.2=k:=by
        have:=inj_of (g:=fun e:Int × Nat=>e.1) h.k1 hz (getL_some_mem hg) hb.symm
        rw [this]
      rw [if_pos hb,hzk,HP.set_eq,← hb]
      rw [put_new (inn_ids hi)] at he
      exact he
    · have hne:z.2≠k:=fun e'=>hb (by
        have:=inj_of (g:=fun e:Int × Nat=>e.2) h.k2 hz (getL_some_mem hg) e'
        rw [this])
      rw [if_neg hb,HP.set_ne _ _ hne]
      exact h.inn z hz
theorem OfO.add_new (h:OfO A f O B) {b i:Int} {k:Nat} (hg:getL b O=Option.none) (hk:A k=.none) {e e2:Ent} (he:MapE iw mv (putL b k O) e) (he2:MapE iw vb [(i,true)] e2) :
    OfO (((A.set k (.obj (.map #[] 0))).set f e).set k e2) f (O++[(b,k)]) (B++[(b,i)]):=by
  have hkf:k≠f:=fun e'=>h.map.ne (by rw [← e',hk])
  have hkO:∀ z∈O,z.2≠k:=fun z hz e'=>(h.inn z hz).ne (by rw [e',hk])
  have hno:=h.none hg
  rw [put_new hg] at he
  refine ⟨?_,?_,?_,?_,fun b'=>?_,fun z hz=>?_⟩
  · rw [HP.set_ne _ _ hkf.symm,HP.set_eq]; exact he
  · rw [List.map_append]
    refine List.nodup_append.2 ⟨h.k1,by simp,fun x hx y hy e'=>?_⟩
    simp only [List.map_cons,List.map_nil,List.mem_singleton] at hy
    exact getL_none_mem.1 hg (by rw [← hy,← e']; exact hx)
  · rw [List.map_append]
    refine List.nodup_append.2 ⟨h.k2,by simp,fun x hx y hy e'=>?_⟩
    simp only [List.map_cons,List.map_nil,List.mem_singleton] at hy
    obtain ⟨z,hz,e2⟩:=List.mem_map.1 hx
    exact hkO z hz (by rw [e2,e',hy])
  · intro z hz
    rcases List.mem_append.1 hz with hz | hz
    · exact h.nf z hz
    · rw [List.mem_singleton.1 hz]; exact hkf
  · rw [List.map_append,List.mem_append,h.cov b']
    constructor
    · rintro (⟨p,hp,e⟩ | hm)
      · exact ⟨p,by simp [hp],e⟩
      · simp only [List.map_cons,List.map_nil,List.mem_singleton] at hm
        exact ⟨(b,i),by simp,hm.symm⟩
    · rintro ⟨p,hp,e⟩
      rcases List.mem_append.1 hp with hp | hp
      · exact .inl ⟨p,hp,e⟩
      · rw [List.mem_singleton.1 hp] at e
        exact .inr (by simp [← e])
  · rcases List.mem_append.1 hz with hz | hz
    · have hb:b≠z.1:=fun e'=>getL_none_mem.1 hg (by rw [e']; exact List.mem_map.2 ⟨z,hz,rfl⟩)
      rw [inn_snoc,if_neg hb,HP.set_ne _ _ (hkO z hz),HP.set_ne _ _ (h.nf z hz),HP.set_ne _ _ (hkO z hz)]
      exact h.inn z hz
    · rw [List.mem_singleton.1 hz,inn_snoc,if_pos rfl,HP.set_eq]
      have:innB B b=[]:=by
        unfold innB
        rw [List.map_eq_nil_iff,List.filter_eq_nil_iff]
        intro p hp
        simpa using hno p hp
      rw [this]; exact he2
theorem inn_del {B:List (Int × Int)} (hn:(B.map (·.2)).Nodup) (b i:Int):delL i (innB B b)=innB (B.filter fun p=>decide (p.2≠i)) b:=by
  unfold innB
  rw [delL_mapK (fun p:Int × Int=>p.2) (fun _=>true) i (hn.sublist (List.filter_sublist.map _)),List.filter_filter,List.filter_filter]
  congr 1
  exact List.filter_congr fun p _=>Bool.and_comm _ _
theorem OfO.cut (h:OfO A f O B) (hn:(B.map (·.2)).Nodup) {b i:Int} (hm:(b,i)∈B) {k:Nat} (hg:getL b O=some k) {e:Ent} (he:MapE iw vb (delL i (innB B b)) e) :
    (∀ z∈O,MapE iw vb (innB (B.filter fun p=>decide (p.2≠i)) z.1) ((A.set k e) z.2))∧∀ b',b'≠b→((∃ p∈B,p.1=b')↔∃ p∈B.filter fun p=>decide (p.2≠i),p.1=b'):=by
  have hu:∀ p∈B,p.2=i→p=(b,i):=fun p hp e'=>inj_of (g:=fun p:Int × Int=>p.2) hn hp hm e'
  constructor
  · intro z hz
    by_cases hb:z.1=b
    · have hzk:z.2=k:=by
        have:=inj_of (g:=fun e:Int × Nat=>e.1) h.k1 hz (getL_some_mem hg) hb
        rw [this]
      rw [hzk,HP.set_eq,hb,← inn_del hn]
      exact he
    · have hne:z.2≠k:=fun e'=>hb (by
        have:=inj_of (g:=fun e:Int × Nat=>e.2) h.k2 hz (getL_some_mem hg) e'
        rw [this])
      rw [HP.set_ne _ _ hne]
      have:innB (B.filter fun p=>decide (p.2≠i)) z.1=innB B z.1:=by
        unfold innB
        rw [List.filter_filter]
        congr 1
        refine List.filter_congr fun p hp=>?_
        by_cases h1:p.1=z.1
        · have:p.2≠i:=fun e'=>hb (by rw [← h1,hu p hp e'])
          simp [h1,this]
        · simp [h1]
      rw [this]; exact h.inn z hz
  · intro b' hb'
    constructor
    · rintro ⟨p,hp,e'⟩
      refine ⟨p,List.mem_filter.2 ⟨hp,decide_eq_true fun e2=>hb' ?_⟩,e'⟩
      rw [← e',hu p hp e2]
    · rintro ⟨p,hp,e'⟩
      exact ⟨p,(List.mem_filter.1 hp).1,e'⟩
theorem OfO.del_some (h:OfO A f O B) (hn:(B.map (·.2)).Nodup) {b i:Int} (hm:(b,i)∈B) {k:Nat} (hg:getL b O=some k) {e:Ent} (he:MapE iw vb (delL i (innB B b)) e)
    (hs:∃ p∈B.filter fun p=>decide (p.2≠i),p.1=b):OfO (A.set k e) f O (B.filter fun p=>decide (p.2≠i)) where
  map:=by rw [HP.set_ne _ _ (h.inner hg).2.symm]; exact h.map
  k1:=h.k1
  k2:=h.k2
  nf:=h.nf
  cov b':=by
    by_cases hb:b'=b
    · subst hb
      exact ⟨fun _=>hs,fun _=>List.mem_map.2 ⟨_,getL_some_mem hg,rfl⟩⟩
    · rw [h.cov b']; exact (h.cut hn hm hg he).2 b' hb
  inn:=(h.cut hn hm hg he).1
theorem OfO.del_last (h:OfO A f O B) (hn:(B.map (·.2)).Nodup) {b i:Int} (hm:(b,i)∈B) {k:Nat} (hg:getL b O=some k) {e e2:Ent} (he:MapE iw vb (delL i (innB B b)) e) (he2:MapE iw mv (delL b O) e2)
    (hs:¬ ∃ p∈B.filter fun p=>decide (p.2≠i),p.1=b):OfO ((A.set k e).set f e2) f (O.filter fun z=>decide (z.1≠b)) (B.filter fun p=>decide (p.2≠i)) where
  map:=by
    rw [HP.set_eq]
    have:=delL_mapK (fun z:Int × Nat=>z.1) (fun z=>z.2) b (L:=O) h.k1
    have h4:((O.filter fun z=>decide (z.1≠b)).map fun x:Int × Nat=>((x.1,x.2):Int × Nat))=O.filter fun z=>decide (z.1≠b):=List.map_id _
    have h5:(O.map fun x:Int × Nat=>((x.1,x.2):Int × Nat))=O:=List.map_id _
    rw [h4,h5] at this
    rw [this] at he2
    exact he2
  k1:=h.k1.sublist (List.filter_sublist.map _)
  k2:=h.k2.sublist (List.filter_sublist.map _)
  nf z hz:=h.nf z (List.mem_filter.1 hz).1
  cov b':=by
    by_cases hb:b'=b
    · subst hb
      refine ⟨fun hm=>?_,fun hm=>absurd hm hs⟩
      obtain ⟨z,hz,e'⟩:=List.mem_map.1 hm
      exact absurd e' (of_decide_eq_true (List.mem_filter.1 hz).2)
    · rw [← (h.cut hn hm hg he).2 b' hb,← h.cov b']
      constructor
      · intro hm
        obtain ⟨z,hz,e'⟩:=List.mem_map.1 hm
        exact List.mem_map.2 ⟨z,(List.mem_filter.1 hz).1,e'⟩
      · intro hm
        obtain ⟨z,hz,e'⟩:=List.mem_map.1 hm
        exact List.mem_map.2 ⟨z,List.mem_filter.2 ⟨hz,decide_eq_true (by rw [e']; exact hb)⟩,e'⟩
  inn z hz:=by
    have hz:=(List.mem_filter.1 hz).1
    rw [HP.set_ne _ _ (h.nf z hz)]
    exact (h.cut hn hm hg he).1 z hz
end
end Go.Proofs
set_option linter.unusedVariables false
set_option linter.unusedSimpArgs false
set_option maxRecDepth 20000
namespace Go.Proofs
open Go Go.HL
/-- A binding. -/
structure Bd where
  id:Int
  proto:Int
  inn:V6 × Int
  out:Q × Int
  st:Bool
  ses:Int
deriving DecidableEq
def zq4:Q:=(0,0,0,0)
def bd0:Bd:=⟨0,0,((zq4,zq4,zq4,zq4),0),(zq4,0),false,0⟩
instance:Inhabited Bd:=⟨bd0⟩
section
variable {l:List Q} {low high:Int} {mx last n:Nat} {L:List Bd}
def findI (i:Int) (L:List Bd):Option Bd:=L.find? fun x=>decide (x.id=i)
end
section
variable {tb:Obj} {hq:HP} {t:Nat} {l:List Q} {low high:Int} {mx last n:Nat} {L:List Bd} {E:List (Bd × Nat)} {ps:Nat→HP} {m x o:Nat} {pl pm:Nat→Nat} {H:Nat→List ((Q × Int) × Bool)} {K:Value→HP→Prop}
theorem findE (i:Int):∀ E:List (Bd × Nat),(E.find? fun e=>decide (e.1.id=i)).map (·.1)=findI i (E.map (·.1))
  | []=>rfl
  | e::E=>by
    unfold findI
    rw [List.map_cons,List.find?_cons,List.find?_cons]
    by_cases h:e.1.id=i
    · rw [decide_eq_true h]; rfl
    · rw [decide_eq_false h]; exact findE i E
end
end Go.Proofs
set_option linter.unusedVariables false
set_option linter.unusedSimpArgs false
namespace Go.Proofs
open Go Go.HL
section
variable {l:List Q} {low high:Int} {mx last n:Nat} {L:List Bd}
end
end Go.Proofs
set_option linter.unusedVariables false
set_option linter.unusedSimpArgs false
set_option maxRecDepth 20000
namespace Go.Proofs
open Go Go.HL
section
variable {tb:Obj} {hq:HP} {t:Nat} {l:List Q} {low high:Int} {mx last n:Nat} {L:List Bd} {E:List (Bd × Nat)} {ps:Nat→HP} {m x o:Nat} {pl pm:Nat→Nat} {H:Nat→List ((Q × Int) × Bool)} {K:Value→HP→Prop}
theorem pu_pu (ps:Nat→HP) (i:Nat) (a b:HP):pu (pu ps i a) i b=pu ps i b:=funext fun j=>by
  by_cases h:j=i
  · rw [h,pu_eq,pu_eq]
  · rw [pu_ne _ _ h,pu_ne _ _ h,pu_ne _ _ h]
end
end Go.Proofs
set_option linter.unusedVariables false
set_option linter.unusedSimpArgs false
set_option maxRecDepth 20000
namespace Go.Proofs
open Go Go.HL
section
variable {tb:Obj} {hq:HP} {t:Nat} {l:List Q} {low high:Int} {mx last n:Nat} {L:List Bd} {E:List (Bd × Nat)} {ps:Nat→HP} {m x o:Nat} {pl pm:Nat→Nat} {H:Nat→List ((Q × Int) × Bool)} {K:Value→HP→Prop}
theorem v4_cells (q:Q):cellsN (v4 q) 0 4=some (v4 q):=rfl
end
end Go.Proofs
set_option linter.unusedVariables false
set_option linter.unusedSimpArgs false
set_option maxRecDepth 20000
namespace Go.Proofs
open Go Go.HL
section
variable {tb:Obj} {hq:HP} {t:Nat} {l:List Q} {low high:Int} {mx last n:Nat} {L:List Bd} {E:List (Bd × Nat)} {ps:Nat→HP} {m x o:Nat} {pl pm:Nat→Nat} {H:Nat→List ((Q × Int) × Bool)} {K:Value→HP→Prop}
end
end Go.Proofs
set_option linter.unusedVariables false
set_option linter.unusedSimpArgs false
set_option maxRecDepth 20000
namespace Go.Proofs
open Go Go.HL
section
variable {tb:Obj} {hq:HP} {t:Nat} {l:List Q} {low high:Int} {mx last n:Nat} {L:List Bd} {E:List (Bd × Nat)} {ps:Nat→HP} {m x o:Nat} {pl pm:Nat→Nat} {H:Nat→List ((Q × Int) × Bool)} {K:Value→HP→Prop}
end
end Go.Proofs
set_option linter.unusedVariables false
set_option linter.unusedSimpArgs false
set_option maxRecDepth 20000
namespace Go.Proofs
open Go Go.HL
section
variable {tb:Obj} {hq:HP} {t:Nat} {l:List Q} {low high:Int} {mx last n:Nat} {L:List Bd} {E:List (Bd × Nat)} {ps:Nat→HP} {m x o:Nat} {pl pm:Nat→Nat} {H:Nat→List ((Q × Int) × Bool)} {K:Value→HP→Prop}
end
end Go.Proofs
set_option linter.unusedVariables false
set_option linter.unusedSimpArgs false
set_option maxRecDepth 20000
namespace Go.Proofs
open Go Go.HL
section
variable {tb:Obj} {hq:HP} {t:Nat} {l:List Q} {low high:Int} {mx last n:Nat} {L:List Bd} {E:List (Bd × Nat)} {ps:Nat→HP} {m x o:Nat} {pl pm:Nat→Nat} {H:Nat→List ((Q × Int) × Bool)} {K:Value→HP→Prop}
end
end Go.Proofs
set_option linter.unusedVariables false
set_option linter.unusedSimpArgs false
set_option maxRecDepth 20000
namespace Go.Proofs
open Go Go.HL
section
variable {tb:Obj} {hp:HP} {ps:Nat→HP} {K:Value→HP→Prop}
end
end Go.Proofs
set_option linter.unusedVariables false
set_option maxRecDepth 20000
namespace Go.Proofs
open Go Go.HL
section
variable {f:FuncId} {ga gb:List Value} {hp0:HP} {b sp n c:Nat} {cf:Bd→Bd→Int}
end
end Go.Proofs
set_option linter.unusedVariables false
set_option maxRecDepth 20000
namespace Go.Proofs
open Go Go.HL
section
variable {f:FuncId} {ga gb:List Value} {hp0:HP} {b sp n c:Nat} {cf:Bd→Bd→Int}
end
end Go.Proofs
set_option linter.unusedVariables false
set_option maxRecDepth 20000
namespace Go.Proofs
open Go Go.HL
section
variable {f:FuncId} {ga gb:List Value} {hp0:HP} {b sp n c:Nat} {cf:Bd→Bd→Int}
end
end Go.Proofs
set_option linter.unusedVariables false
set_option maxRecDepth 20000
namespace Go.Proofs
open Go Go.HL
section
variable {f:FuncId} {ga gb:List Value} {hp0:HP} {b sp n c:Nat} {cf:Bd→Bd→Int}
end
end Go.Proofs
set_option linter.unusedVariables false
set_option maxRecDepth 20000
namespace Go.Proofs
open Go Go.HL
def F128 (x0:Int) (hp:HP) (K:Kh):Prop:=
  (CF Tryz.prog 153 [(Value.int .u64 x0)] hp fun u_1 h_2=>(intV u_1 .i64 fun i_3=>(K (Value.int .i64 i_3) h_2)))
theorem F128_ok (x0:Int) (hp:HP) (K:Kh) (h:F128 x0 hp K):CF Tryz.prog 128 [(Value.int .u64 x0)] hp K:=
  have L:∀ {Q} n,Snd Tryz.prog 8 (cAt Tryz.f128 (pth n)) Q (CW Tryz.prog 8 [] [] (cAt Tryz.f128 (pth n)) Q):=fun _=>Snd.leaf
  okF h Tryz.func128 (L 1) (by kernel_rfl) (by kernel_rfl) (by kernel_rfl)
def F153_j3 (x0 x2:Int) (hp:HP) (K:Kh):Prop:=
  ((0≤((IntKind.wrap .u8 (x0)):Int))∧(((IntKind.wrap .u8 (x0)):Int)<(ByteArray.size (⟨#[0,1,2,2,3,3,3,3,4,4,4,4,4,4,4,4,5,5,5,5,5,5,5,5,5,5,5,5,5,5,5,5,6,6,6,6,6,6,6,6,6,6,6,6,6,6,6,6,6,6,6,6,6,6,6,6,6,6,6,6,6,6,6,6,7,7,7,7,7,7,7,7,7,7,7,7,7,7,7,7,7,7,7,7,7,7,7,7,7,7,7,7,7,7,7,7,7,7,7,7,7,7,7,7,7,7,7,7,7,7,7,7,7,7,7,7,7,7,7,7,7,7,7,7,7,7,7,7,8,8,8,8,8,8,8,8,8,8,8,8,8,8,8,8,8,8,8,8,8,8,8,8,8,8,8,8,8,8,8,8,8,8,8,8,8,8,8,8,8,8,8,8,8,8,8,8,8,8,8,8,8,8,8,8,8,8,8,8,8,8,8,8,8,8,8,8,8,8,8,8,8,8,8,8,8,8,8,8,8,8,8,8,8,8,8,8,8,8,8,8,8,8,8,8,8,8,8,8,8,8,8,8,8,8,8,8,8,8,8,8,8,8,8,8,8,8,8,8,8,8,8,8,8,8,8,8]⟩:ByteArray):Nat))∧(K (Value.int .i64 (IntKind.wrap .i64 (x2+(IntKind.wrap .i64 ((bt (⟨#[0,1,2,2,3,3,3,3,4,4,4,4,4,4,4,4,5,5,5,5,5,5,5,5,5,5,5,5,5,5,5,5,6,6,6,6,6,6,6,6,6,6,6,6,6,6,6,6,6,6,6,6,6,6,6,6,6,6,6,6,6,6,6,6,7,7,7,7,7,7,7,7,7,7,7,7,7,7,7,7,7,7,7,7,7,7,7,7,7,7,7,7,7,7,7,7,7,7,7,7,7,7,7,7,7,7,7,7,7,7,7,7,7,7,7,7,7,7,7,7,7,7,7,7,7,7,7,7,8,8,8,8,8,8,8,8,8,8,8,8,8,8,8,8,8,8,8,8,8,8,8,8,8,8,8,8,8,8,8,8,8,8,8,8,8,8,8,8,8,8,8,8,8,8,8,8,8,8,8,8,8,8,8,8,8,8,8,8,8,8,8,8,8,8,8,8,8,8,8,8,8,8,8,8,8,8,8,8,8,8,8,8,8,8,8,8,8,8,8,8,8,8,8,8,8,8,8,8,8,8,8,8,8,8,8,8,8,8,8,8,8,8,8,8,8,8,8,8,8,8,8,8,8,8,8,8]⟩:ByteArray) (IntKind.wrap .u8 (x0)))))))) hp))
def F153_j2 (x0 x2:Int) (hp:HP) (K:Kh):Prop:=
  (ite2 (decide ((x0:Int)≥256)) ((0≤(8:Int))∧(F153_j3 (Int.fdiv x0 (2 ^ (min (Int.toNat 8) (IntKind.bits .u64)))) (IntKind.wrap .i64 (x2+8)) hp  K)) (F153_j3 x0 x2 hp  K))
def F153_j1 (x0 x2:Int) (hp:HP) (K:Kh):Prop:=
  (ite2 (decide ((x0:Int)≥65536)) ((0≤(16:Int))∧(F153_j2 (Int.fdiv x0 (2 ^ (min (Int.toNat 16) (IntKind.bits .u64)))) (IntKind.wrap .i64 (x2+16)) hp  K)) (F153_j2 x0 x2 hp  K))
def F153 (x0:Int) (hp:HP) (K:Kh):Prop:=
  (ite2 (decide ((x0:Int)≥4294967296)) ((0≤(32:Int))∧(F153_j1 (Int.fdiv x0 (2 ^ (min (Int.toNat 32) (IntKind.bits .u64)))) 32 hp  K)) (F153_j1 x0 0 hp  K))
theorem F153_ok (x0:Int) (hp:HP) (K:Kh) (h:F153 x0 hp K):CF Tryz.prog 153 [(Value.int .u64 x0)] hp K:=
  have L:∀ {Q} n,Snd Tryz.prog 25 (cAt Tryz.f153 (pth n)) Q (CW Tryz.prog 25 [] [] (cAt Tryz.f153 (pth n)) Q):=fun _=>Snd.leaf
  okF h Tryz.func153 (Snd.seq (L 2) (Snd.jn [(0,.i .u64),(2,.i .i64)] (fun a hp=>F153_j1 a.1 a.2.1 hp  K) (L 5) (Snd.jn [(0,.i .u64),(2,.i .i64)] (fun a hp=>F153_j2 a.1 a.2.1 hp  K) (L 11) (Snd.jn [(0,.i .u64),(2,.i .i64)] (fun a hp=>F153_j3 a.1 a.2.1 hp  K) (L 23) (L 31) (by rfl) (by kernel_rfl)) (by rfl) (by kernel_rfl)) (by rfl) (by kernel_rfl))) (by kernel_rfl) (by kernel_rfl) (by kernel_rfl)
def F166 (x0:Int) (hp:HP) (K:Kh):Prop:=
  (CF Tryz.prog 128 [(Value.int .u64 (IntKind.wrap .u64 (x0)))] hp fun u_1 h_2=>(intV u_1 .i64 fun i_3=>((0≤(i_3:Int))∧(K (Value.int .u64 (IntKind.wrap .u64 (1*2 ^ (min (Int.toNat i_3) (IntKind.bits .u64))))) h_2))))
theorem F166_ok (x0:Int) (hp:HP) (K:Kh) (h:F166 x0 hp K):CF Tryz.prog 166 [(Value.int .i64 x0)] hp K:=
  have L:∀ {Q} n,Snd Tryz.prog 7 (cAt Tryz.f166 (pth n)) Q (CW Tryz.prog 7 [] [] (cAt Tryz.f166 (pth n)) Q):=fun _=>Snd.leaf
  okF h Tryz.func166 (L 1) (by kernel_rfl) (by kernel_rfl) (by kernel_rfl)
def F167 (x0:OA) (hp:HP) (K:Kh):Prop:=
  (ptrN x0 fun b_1 o_2=>(ldV (HP.cell hp b_1 o_2) fun v_3=>(intV v_3 .u64 fun i_4=>(ptrN x0 fun b_5 o_6=>(ldV (HP.cell hp b_5 o_6) fun v_7=>(intV v_7 .u64 fun i_8=>((0≤(13:Int))∧(ptrN x0 fun b_9 o_10=>(HP.st hp b_9 o_10 (Value.int .u64 (bxor .u64 i_4 (IntKind.wrap .u64 (i_8*2 ^ (min (Int.toNat 13) (IntKind.bits .u64)))))) fun h_11=>(ptrN x0 fun b_12 o_13=>(ldV (HP.cell h_11 b_12 o_13) fun v_14=>(intV v_14 .u64 fun i_15=>(ptrN x0 fun b_16 o_17=>(ldV (HP.cell h_11 b_16 o_17) fun v_18=>(intV v_18 .u64 fun i_19=>((0≤(7:Int))∧(ptrN x0 fun b_20 o_21=>(HP.st h_11 b_20 o_21 (Value.int .u64 (bxor .u64 i_15 (Int.fdiv i_19 (2 ^ (min (Int.toNat 7) (IntKind.bits .u64)))))) fun h_22=>(ptrN x0 fun b_23 o_24=>(ldV (HP.cell h_22 b_23 o_24) fun v_25=>(intV v_25 .u64 fun i_26=>(ptrN x0 fun b_27 o_28=>(ldV (HP.cell h_22 b_27 o_28) fun v_29=>(intV v_29 .u64 fun i_30=>((0≤(17:Int))∧(ptrN x0 fun b_31 o_32=>(HP.st h_22 b_31 o_32 (Value.int .u64 (bxor .u64 i_26 (IntKind.wrap .u64 (i_30*2 ^ (min (Int.toNat 17) (IntKind.bits .u64)))))) fun h_33=>(ptrN x0 fun b_34 o_35=>(ldV (HP.cell h_33 b_34 o_35) fun v_36=>(intV v_36 .u64 fun i_37=>(K (Value.int .u64 i_37) h_33)))))))))))))))))))))))))))))))
theorem F167_ok (x0:OA) (hp:HP) (K:Kh) (h:F167 x0 hp K):CF Tryz.prog 167 [(Value.pointer x0)] hp K:=
  have L:∀ {Q} n,Snd Tryz.prog 33 (cAt Tryz.f167 (pth n)) Q (CW Tryz.prog 33 [] [] (cAt Tryz.f167 (pth n)) Q):=fun _=>Snd.leaf
  okF h Tryz.func167 (L 1) (by kernel_rfl) (by kernel_rfl) (by kernel_rfl)
end Go.Proofs
