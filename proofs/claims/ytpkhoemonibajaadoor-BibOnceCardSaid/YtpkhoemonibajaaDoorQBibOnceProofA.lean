/- Parts of the proof of BibOnceProof: the logic of what is known of memory, functions' contracts. -/
import Derived.Test.YtpkhoemonibajaaDoorHlAbb
import Derived.Test.YtpkhoemonibajaaDoorHlMapL
import Derived.Test.YtpkhoemonibajaaDoorHlUse2
import Derived.Test.YtpkhoemonibajaaDoorHlSort
import Derived.Test.YtpkhoemonibajaaDoorHlLib
import Derived.Sort.LotD3
import Derived.Test.YtpkhoemonibajaaDoorHlAbb
import Derived.Test.YtpkhoemonibajaaDoorProg
import Derived.Test.YtpkhoemonibajaaDoorHlRangeS
import Derived.Test.YtpkhoemonibajaaDoorHlMake
import Derived.Test.YtpkhoemonibajaaDoorHlStr
import Derived.Sort.LotA
import Derived.Test.YtpkhoemonibajaaDoorHlFrame
import Derived.KernelRfl
import Derived.Test.YtpkhoemonibajaaDoorHlMapE
import Derived.Sort.LotD2
import Derived.Test.YtpkhoemonibajaaDoorHlParts2
import Derived.Shelf.Strconv.Itoa3
import Derived.ChangeKeysEq
import Derived.Lib.ItoaNum
import Derived.Test.YtpkhoemonibajaaDoorHlBytes
import Derived.Lib.ItoaLen
import Derived.Lib.Overlaps
import Derived.Laws.Externs
import Derived.Test.YtpkhoemonibajaaDoorHlMid
set_option linter.unusedVariables false
set_option linter.unusedSimpArgs false
set_option linter.unusedVariables false
namespace Go.HL
open Go
/-- So many places on, counted round. -/
def nx (N a u:Nat):Nat:=if a+u<N then a+u else a+u-N
/-- How many places on another one is. -/
def ds (N a b:Nat):Nat:=if a≤b then b-a else b+N-a
theorem nx_ds {N a b:Nat} (ha:a<N) (hb:b<N):nx N a (ds N a b)=b:=by unfold nx ds; split <;> split <;> omega
theorem ds_nx {N a u:Nat} (ha:a<N) (hu:u<N):ds N a (nx N a u)=u:=by unfold nx ds; split <;> split <;> omega
theorem nx_lt {N a u:Nat} (ha:a<N) (hu:u≤N):nx N a u<N:=by unfold nx; split <;> omega
theorem ds_lt {N a b:Nat} (ha:a<N) (hb:b<N):ds N a b<N:=by unfold ds; split <;> omega
theorem nx_zero {N a:Nat} (ha:a<N):nx N a 0=a:=by unfold nx; split <;> omega
theorem nx_cases (N a u:Nat):(a+u<N∧nx N a u=a+u)∨(N≤a+u∧nx N a u=a+u-N):=by unfold nx; split <;> omega
theorem ds_cases (N a b:Nat):(a≤b∧ds N a b=b-a)∨(b<a∧ds N a b=b+N-a):=by unfold ds; split <;> omega
theorem nx_succ {N a u:Nat} (ha:a<N) (hu:u<N):nx N a (u+1)=if nx N a u+1<N then nx N a u+1 else 0:=by
  rcases nx_cases N a u with ⟨h1,h2⟩ | ⟨h1,h2⟩ <;> rcases nx_cases N a (u+1) with ⟨h3,h4⟩ | ⟨h3,h4⟩ <;> rw [h2,h4] <;> split <;> omega
/-- Where a path meets the place that is t on from i. -/
theorem path1 {N h i p u t:Nat} (hh:h<N) (hi:i<N) (hp:p<N) (ht:t<N) (hu:u<ds N h p) (h1:ds N i (nx N h u)<t) (h2:t≤ds N i p) :
    nx N h (u+(t-ds N i (nx N h u)))=nx N i t∧(nx N i t=p∨u+(t-ds N i (nx N h u))<ds N h p):=by
  rcases ds_cases N h p with ⟨a1,a2⟩ | ⟨a1,a2⟩ <;> rcases nx_cases N h u with ⟨b1,b2⟩ | ⟨b1,b2⟩ <;> rcases ds_cases N i (nx N h u) with ⟨c1,c2⟩ | ⟨c1,c2⟩ <;>
    rcases ds_cases N i p with ⟨d1,d2⟩ | ⟨d1,d2⟩ <;> rcases nx_cases N i t with ⟨e1,e2⟩ | ⟨e1,e2⟩ <;> rcases nx_cases N h (u+(t-ds N i (nx N h u))) with ⟨f1,f2⟩ | ⟨f1,f2⟩ <;> omega
/-- A path that passes the place t on from i, to a place ahead of it, passes all behind it. -/
theorem path2 {N h i p u t z:Nat} (hh:h<N) (hi:i<N) (hp:p<N) (hz:z<N) (htz:t≤z) (hu:u<ds N h p) (h1:nx N h u=nx N i t) (h2:ds N i p<t) :
    nx N h (u+(z-t))=nx N i z∧u+(z-t)<ds N h p:=by
  rcases ds_cases N h p with ⟨a1,a2⟩ | ⟨a1,a2⟩ <;> rcases nx_cases N h u with ⟨b1,b2⟩ | ⟨b1,b2⟩ <;> rcases nx_cases N i t with ⟨c1,c2⟩ | ⟨c1,c2⟩ <;>
    rcases ds_cases N i p with ⟨d1,d2⟩ | ⟨d1,d2⟩ <;> rcases nx_cases N i z with ⟨e1,e2⟩ | ⟨e1,e2⟩ <;> rcases nx_cases N h (u+(z-t)) with ⟨f1,f2⟩ | ⟨f1,f2⟩ <;> omega
section
variable {κ ν:Type} [DecidableEq κ]
/-- A table: at each place something with its key, or nothing. -/
abbrev Tb (κ ν:Type):=Nat→Option (κ × ν)
def tset (T:Tb κ ν) (p:Nat) (x:Option (κ × ν)):Tb κ ν:=fun q=>if q=p then x else T q
omit [DecidableEq κ] in
theorem tset_eq (T:Tb κ ν) (p:Nat) (x:Option (κ × ν)):tset T p x p=x:=by simp [tset]
omit [DecidableEq κ] in
theorem tset_ne (T:Tb κ ν) {p q:Nat} (x:Option (κ × ν)) (h:q≠p):tset T p x q=T q:=by simp [tset,h]
variable {N:Nat} {H:κ→Nat} {T:Tb κ ν} {k:κ} {v:ν} {p:Nat}
/-- From where a key begins to where it lies nothing is free. -/
def Good (N:Nat) (H:κ→Nat) (T:Tb κ ν):Prop:=∀ p,p<N→∀ x,T p=some x→∀ u,u<ds N (H x.1) p→T (nx N (H x.1) u)≠none
def Uniq (N:Nat) (T:Tb κ ν):Prop:=∀ p q,p<N→q<N→∀ x y,T p=some x→T q=some y→x.1=y.1→p=q
/-- What a search for a key comes to. -/
def Fd (N:Nat) (H:κ→Nat) (T:Tb κ ν) (k:κ) (p:Nat):Prop:=p<N∧(∀ u,u<ds N (H k) p→∃ x,T (nx N (H k) u)=some x∧x.1≠k)∧∀ x,T p=some x→x.1=k
/-- The table as a list of pairs. -/
def TM (N:Nat) (T:Tb κ ν) (M:List (κ × ν)):Prop:=(M.map (·.1)).Nodup∧∀ k v,getL k M=some v↔∃ p,p<N∧T p=some (k,v)
theorem Fd.get {M:List (κ × ν)} (hH:H k<N) (hg:Good N H T) (hu:Uniq N T) (hm:TM N T M) (hf:Fd N H T k p):(T p).map (·.2)=getL k M:=by
  obtain ⟨f1,f2,f3⟩:=hf
  cases hp:T p with
  | some x=>
    have:=f3 x hp
    rw [Option.map_some,eq_comm,hm.2]
    exact ⟨p,f1,by rw [hp,← this]⟩
  | none=>
    rw [Option.map_none]
    cases hk:getL k M with
    | none=>rfl
    | some v=>
      exfalso
      obtain ⟨q,hq,hqv⟩:=(hm.2 k v).1 hk
      have h1:=hg q hq _ hqv
      rcases Nat.lt_trichotomy (ds N (H k) p) (ds N (H k) q) with h | h | h
      · have:=h1 _ h
        simp only at this
        rw [nx_ds hH f1] at this
        exact this hp
      · have:p=q:=by rw [← nx_ds hH f1,h,nx_ds hH hq]
        rw [this,hqv] at hp; cases hp
      · obtain ⟨x,hx,hne⟩:=f2 _ h
        rw [nx_ds hH hq,hqv] at hx
        cases hx; exact hne rfl
/-- Something new is put where the search came to. -/
theorem put_table {M:List (κ × ν)} (hH:H k<N) (hg:Good N H T) (hu:Uniq N T) (hm:TM N T M) (hf:Fd N H T k p) (hn:T p=none) :
    Good N H (tset T p (some (k,v)))∧Uniq N (tset T p (some (k,v)))∧TM N (tset T p (some (k,v))) (putL k v M)∧getL k M=none:=by
  have hget:=hf.get hH hg hu hm
  rw [hn,Option.map_none] at hget
  obtain ⟨f1,f2,f3⟩:=hf
  have hno:∀ q,q<N→∀ x,T q=some x→x.1≠k:=fun q hq x hx e=>by
    have:getL k M=some x.2:=(hm.2 k x.2).2 ⟨q,hq,by rw [hx,← e]⟩
    rw [this] at hget; cases hget
  refine ⟨?_,?_,⟨nodup_put hm.1,?_⟩,hget.symm⟩
  · intro q hq x hx u hu'
    by_cases hqp:q=p
    · subst hqp
      rw [tset_eq] at hx
      cases hx
      obtain ⟨y,hy,_⟩:=f2 u hu'
      by_cases he:nx N (H k) u=q
      · simp only [he,tset_eq]; simp
      · simp only; rw [tset_ne _ _ he,hy]; simp
    · rw [tset_ne _ _ hqp] at hx
      have:=hg q hq x hx u hu'
      by_cases he:nx N (H x.1) u=p
      · rw [he,tset_eq]; simp
      · rw [tset_ne _ _ he]; exact this
  · intro a b ha hb x y hx hy he
    by_cases h1:a=p
    · by_cases h2:b=p
      · rw [h1,h2]
      · rw [h1,tset_eq] at hx; cases hx
        rw [tset_ne _ _ h2] at hy
        exact absurd he.symm (hno b hb y hy)
    · rw [tset_ne _ _ h1] at hx
      by_cases h2:b=p
      · rw [h2,tset_eq] at hy; cases hy
        exact absurd he (hno a ha x hx)
      · rw [tset_ne _ _ h2] at hy
        exact hu a b ha hb x y hx hy he
  · intro k' v'
    rw [getL_put]
    by_cases hk:k'=k
    · subst hk
      rw [if_pos rfl]
      constructor
      · intro h; cases h; exact ⟨p,f1,tset_eq ..⟩
      · rintro ⟨q,hq,hx⟩
        by_cases hqp:q=p
        · rw [hqp,tset_eq] at hx; cases hx; rfl
        · rw [tset_ne _ _ hqp] at hx; exact absurd rfl (hno q hq _ hx)
    · rw [if_neg hk,hm.2]
      constructor
      · rintro ⟨q,hq,hx⟩
        refine ⟨q,hq,?_⟩
        rw [tset_ne _ _ (fun e=>by rw [e,hn] at hx; cases hx)]; exact hx
      · rintro ⟨q,hq,hx⟩
        by_cases hqp:q=p
        · rw [hqp,tset_eq] at hx; cases hx; exact absurd rfl hk
        · rw [tset_ne _ _ hqp] at hx; exact ⟨q,hq,hx⟩
/-- While those behind a place that was made free are put anew: t of them are done. -/
structure Mid (N:Nat) (H:κ→Nat) (T:Tb κ ν) (i t:Nat) (M:List (κ × ν)):Prop where
  path:∀ p,p<N→∀ x,T p=some x→∀ u,u<ds N (H x.1) p→T (nx N (H x.1) u)≠none∨(ds N i (nx N (H x.1) u)<t∧t≤ds N i p)
  uniq:Uniq N T
  tm:TM N T M
  room:∃ z,t≤z∧z<N∧T (nx N i z)=none
/-- A place is made free. -/
theorem Mid.start {M:List (κ × ν)} (hN:1<N) (hg:Good N H T) (hu:Uniq N T) (hm:TM N T M) (hp:p<N) (hx:T p=some (k,v)) (hr:∃ z,z<N∧T z=none):Mid N H (tset T p none) p 1 (delL k M):=by
  refine ⟨?_,?_,⟨nodup_del hm.1,?_⟩,?_⟩
  · intro q hq x hqx u hu'
    have hqp:q≠p:=fun e=>by rw [e,tset_eq] at hqx; cases hqx
    rw [tset_ne _ _ hqp] at hqx
    have:=hg q hq x hqx u hu'
    by_cases he:nx N (H x.1) u=p
    · right
      rw [he]
      unfold ds; constructor <;> split <;> omega
    · left; rw [tset_ne _ _ he]; exact this
  · intro a b ha hb x y hax hby he
    have h1:a≠p:=fun e=>by rw [e,tset_eq] at hax; cases hax
    have h2:b≠p:=fun e=>by rw [e,tset_eq] at hby; cases hby
    rw [tset_ne _ _ h1] at hax
    rw [tset_ne _ _ h2] at hby
    exact hu a b ha hb x y hax hby he
  · intro k' v'
    rw [getL_del hm.1]
    by_cases hk:k'=k
    · subst hk
      rw [if_pos rfl]
      constructor
      · intro h; cases h
      · rintro ⟨q,hq,hqx⟩
        have hqp:q≠p:=fun e=>by rw [e,tset_eq] at hqx; cases hqx
        rw [tset_ne _ _ hqp] at hqx
        exact absurd (hu q p hq hp _ _ hqx hx rfl) hqp
    · rw [if_neg hk,hm.2]
      constructor
      · rintro ⟨q,hq,hqx⟩
        refine ⟨q,hq,?_⟩
        rw [tset_ne _ _ (fun e=>by rw [e,hx] at hqx; cases hqx; exact hk rfl)]; exact hqx
      · rintro ⟨q,hq,hqx⟩
        have hqp:q≠p:=fun e=>by rw [e,tset_eq] at hqx; cases hqx
        rw [tset_ne _ _ hqp] at hqx
        exact ⟨q,hq,hqx⟩
  · obtain ⟨z,hz,hzn⟩:=hr
    have hzp:z≠p:=fun e=>by rw [e,hx] at hzn; cases hzn
    refine ⟨ds N p z,?_,ds_lt hp hz,?_⟩
    · unfold ds; split <;> omega
    · rw [nx_ds hp hz,tset_ne _ _ hzp]; exact hzn
/-- The one behind is free: it is done. -/
theorem Mid.done {M:List (κ × ν)} {i t:Nat} (hH:∀ k,H k<N) (hi:i<N) (ht:t<N) (h:Mid N H T i t M) (hn:T (nx N i t)=none):Good N H T:=by
  intro p hp x hx u hu
  rcases h.path p hp x hx u hu with h1 | ⟨h1,h2⟩
  · exact h1
  · exfalso
    have hHx:=hH x.1
    obtain ⟨e,hu1⟩:=path1 hHx hi hp ht hu h1 h2
    rcases hu1 with hu1 | hu1
    · rw [hu1,hx] at hn; cases hn
    · rcases h.path p hp x hx _ hu1 with h3 | ⟨h3,_⟩
      · rw [e] at h3; exact h3 hn
      · rw [e,ds_nx hi ht] at h3
        omega
/-- The one behind is put anew. -/
theorem Mid.step {M:List (κ × ν)} {i t:Nat} {x:κ × ν} {q:Nat} (hH:∀ k,H k<N) (hi:i<N) (ht0:0<t) (ht:t<N) (h:Mid N H T i t M) (hx:T (nx N i t)=some x)
    (hf:Fd N H (tset T (nx N i t) none) x.1 q):tset T (nx N i t) none q=none∧Mid N H (tset (tset T (nx N i t) none) q (some x)) i (t+1) M:=by
  have hjN:nx N i t<N:=nx_lt hi (by omega)
  have hdj:ds N i (nx N i t)=t:=ds_nx hi ht
  generalize hj:nx N i t=j at *
  obtain ⟨f1,f2,f3⟩:=hf
  have hHx:=hH x.1
  have hqn:tset T j none q=none:=by
    cases hq:tset T j none q with
    | none=>rfl
    | some y=>
      have hk:=f3 y hq
      have hqj:q≠j:=fun e=>by rw [e,tset_eq] at hq; cases hq
      rw [tset_ne _ _ hqj] at hq
      exact absurd (h.uniq q j f1 hjN y x hq hx hk) hqj
  have hle:ds N (H x.1) q≤ds N (H x.1) j:=by
    rcases Nat.lt_or_ge (ds N (H x.1) j) (ds N (H x.1) q) with hlt | hge
    · obtain ⟨y,hy,_⟩:=f2 _ hlt
      rw [nx_ds hHx hjN,tset_eq] at hy; cases hy
    · exact hge
  have hnone:∀ a,a≠q→tset (tset T j none) q (some x) a=none→a=j∨T a=none:=fun a haq ha=>by
    rw [tset_ne _ _ haq] at ha
    by_cases haj:a=j
    · exact .inl haj
    · rw [tset_ne _ _ haj] at ha; exact .inr ha
  have hsome:∀ a y,a≠q→tset (tset T j none) q (some x) a=some y→a≠j∧T a=some y:=fun a y haq ha=>by
    rw [tset_ne _ _ haq] at ha
    by_cases haj:a=j
    · rw [haj,tset_eq] at ha; cases ha
    · rw [tset_ne _ _ haj] at ha; exact ⟨haj,ha⟩
  obtain ⟨z,hz1,hz2,hz3⟩:=h.room
  have hzt:z≠t:=fun e=>by rw [e,hj,hx] at hz3; cases hz3
  have hzq:nx N i z≠q:=fun e=>by
    have hzj:nx N i z≠j:=fun e'=>by rw [e',hx] at hz3; cases hz3
    have hlt:ds N (H x.1) q<ds N (H x.1) j:=by
      rcases Nat.lt_or_eq_of_le hle with h1 | h1
      · exact h1
      · exact absurd (by rw [e,← nx_ds hHx f1,h1,nx_ds hHx hjN]) hzj
    rcases h.path j hjN x hx _ hlt with h1 | ⟨h1,_⟩
    · rw [nx_ds hHx f1,← e] at h1; exact h1 hz3
    · rw [nx_ds hHx f1,← e,ds_nx hi hz2] at h1; omega
  refine ⟨hqn,?_,?_,⟨h.tm.1,?_⟩,⟨z,by omega,hz2,?_⟩⟩
  · intro p hp y hy u hu
    by_cases hpq:p=q
    · subst hpq
      rw [tset_eq] at hy; cases hy
      left
      obtain ⟨w,hw,_⟩:=f2 u hu
      by_cases he:nx N (H x.1) u=p
      · rw [he,tset_eq]; simp
      · rw [tset_ne _ _ he,hw]; simp
    · obtain ⟨hpj,hpy⟩:=hsome p y hpq hy
      by_cases hd:tset (tset T j none) q (some x) (nx N (H y.1) u)=none
      · right
        have haq:nx N (H y.1) u≠q:=fun e=>by rw [e,tset_eq] at hd; cases hd
        have hne:ds N i p≠t:=fun e=>hpj (by rw [← nx_ds hi hp,e,hj])
        rcases hnone _ haq hd with e | e
        ·
          rw [e,hdj]
          refine ⟨by omega,?_⟩
          rcases Nat.lt_or_ge (ds N i p) t with hlt | hge
          · exfalso
            have hHy:=hH y.1
            obtain ⟨e2,hu2⟩:=path2 hHy hi hp hz2 hz1 hu (e.trans hj.symm) hlt
            rcases h.path p hp y hpy _ hu2 with h1 | ⟨_,h1⟩
            · rw [e2] at h1; exact h1 hz3
            · omega
          · omega
        · rcases h.path p hp y hpy u hu with h1 | ⟨h1,h2⟩
          · exact absurd e h1
          · exact ⟨by omega,by omega⟩
      · exact .inl hd
  · intro a b ha hb y w hy hw he
    by_cases h1:a=q
    · by_cases h2:b=q
      · rw [h1,h2]
      · rw [h1,tset_eq] at hy; cases hy
        obtain ⟨g1,g2⟩:=hsome b w h2 hw
        exact absurd (h.uniq j b hjN hb x w hx g2 he).symm g1
    · obtain ⟨g1,g2⟩:=hsome a y h1 hy
      by_cases h2:b=q
      · rw [h2,tset_eq] at hw; cases hw
        exact absurd (h.uniq a j ha hjN y x g2 hx he) g1
      · obtain ⟨g3,g4⟩:=hsome b w h2 hw
        exact h.uniq a b ha hb y w g2 g4 he
  · intro k' v'
    rw [h.tm.2]
    constructor
    · rintro ⟨a,ha,hav⟩
      by_cases haj:a=j
      · rw [haj,hx] at hav
        exact ⟨q,f1,by rw [tset_eq]; exact hav⟩
      · refine ⟨a,ha,?_⟩
        have haq:a≠q:=fun e=>by
          rw [e] at haj hav
          rw [tset_ne _ _ haj,hav] at hqn; cases hqn
        rw [tset_ne _ _ haq,tset_ne _ _ haj]; exact hav
    · rintro ⟨a,ha,hav⟩
      by_cases haq:a=q
      · rw [haq,tset_eq] at hav
        exact ⟨j,hjN,by rw [hx]; exact hav⟩
      · exact ⟨a,ha,(hsome a _ haq hav).2⟩
  · cases hc:tset (tset T j none) q (some x) (nx N i z) with
    | none=>rfl
    | some y=>
      have:=(hsome _ y hzq hc).2
      rw [hz3] at this; cases this
/-- Where there is less than places, one is free. -/
theorem room_of {M:List (κ × ν)} (hu:Uniq N T) (hm:TM N T M) (hl:M.length<N):∃ z,z<N∧T z=none:=by
  refine Classical.byContradiction fun hno=>?_
  have hall:∀ z,z<N→∃ x,T z=some x:=fun z hz=>by
    cases h:T z with
    | none=>exact absurd ⟨z,hz,h⟩ hno
    | some x=>exact ⟨x,rfl⟩
  have key:∀ n,n≤N→∃ ks:List κ,ks.length=n∧ks.Nodup∧∀ a∈ks,∃ p,p<n∧∃ v,T p=some (a,v):=by
    intro n
    induction n with
    | zero=>intro _; exact ⟨[],rfl,.nil,fun a h=>by cases h⟩
    | succ n ih=>
      intro hn
      obtain ⟨ks,h1,h2,h3⟩:=ih (by omega)
      obtain ⟨x,hx⟩:=hall n (by omega)
      refine ⟨x.1::ks,by simp [h1],List.nodup_cons.2 ⟨fun hm=>?_,h2⟩,fun a ha=>?_⟩
      · obtain ⟨p,hp,v,hv⟩:=h3 _ hm
        have:=hu p n (by omega) (by omega) _ _ hv hx rfl
        omega
      · rcases List.mem_cons.1 ha with rfl | ha
        · exact ⟨n,by omega,x.2,hx⟩
        · obtain ⟨p,hp,v,hv⟩:=h3 a ha
          exact ⟨p,by omega,v,hv⟩
  obtain ⟨ks,h1,h2,h3⟩:=key N (Nat.le_refl _)
  have hsub:∀ a∈ks,a∈M.map (·.1):=fun a ha=>by
    obtain ⟨p,hp,v,hv⟩:=h3 a ha
    have:=(hm.2 a v).2 ⟨p,hp,hv⟩
    exact List.mem_map.2 ⟨_,getL_some_mem this,rfl⟩
  have:=nodup_len_le h2 hsub
  simp only [List.length_map] at this
  omega
end
end Go.HL
namespace Go.HL
open Go
/-- The comparison that a sort is handed: whatever the row holds. -/
def CmpOk {α:Type} [Inhabited α] (P:Program) (f:FuncId) (ga gb:List Value) (hp0:HP) (b:Nat) (e:TypeId) (sp:Nat) (en:α→List Value) (n:Nat) (cf:α→α→Int):Prop:=
  ∀ (d:Array α) (x y:α) (K:Value→HP→Prop),d.size=n→K (.int .i64 (cf x y)) (HA hp0 b e sp en d)→CF P f (ga++[.agg ⟨en x⟩,.agg ⟨en y⟩]++gb) (HA hp0 b e sp en d) K
def ltC {α:Type} (cf:α→α→Int) (x y:α):Bool:=decide (cf x y<0)
theorem swp_size {α:Type} [Inhabited α] (d:Array α) (i j:Nat):(Sort.swp d i j).size=d.size:=by simp [Sort.swp]
end Go.HL
namespace Go.HL
open Go
theorem wi {x:Int} {i:Nat} (h:x=i) (hb:i≤9223372036854775807):IntKind.wrap .i64 x=i:=by rw [h]; exact w64 (by omega) (by omega)
section
variable {α:Type} {hp0:HP} {b:Nat} {e:TypeId} {sp:Nat} {en:α→List Value} {d:Array α}
theorem HA.set_comm {r:Nat} (hr:r≠b) (x:Ent):(HA hp0 b e sp en d).set r x=HA (hp0.set r x) b e sp en d:=by
  unfold HA; rw [HP.set_comm _ _ _ hr]
theorem HA.ne_of_none {r:Nat} (h:HA hp0 b e sp en d r=.none):r≠b∧hp0 r=.none:=by
  have hb:r≠b:=fun e=>by unfold HA at h; rw [e,HP.set_eq] at h; cases h
  refine ⟨hb,?_⟩
  unfold HA at h
  rwa [HP.set_ne _ _ hb] at h
theorem HA.ne {r:Nat} (h:r≠b):HA hp0 b e sp en d r=hp0 r:=by
  unfold HA; rw [HP.set_ne _ _ h]
end
section
variable {α:Type} [Inhabited α] {P:Program} {f:FuncId} {ga gb:List Value} {hp0:HP} {b:Nat} {e:TypeId} {sp size:Nat} {en:α→List Value} {n:Nat} {cf:α→α→Int} {d:Array α}
theorem cmpP (hc:CmpOk P f ga gb hp0 b e sp en n cf) (he:∀ x,(en x).length=size) {I J:Int} {i j:Nat} {X:Int→HP→Prop} (hs:d.size=n) (hI:I=i) (hJ:J=j) (hi:i<n) (hj:j<n)
    (h:X (cf d[i]! d[j]!) (HA hp0 b e sp en d)) :
    ((0≤I)∧(I<(n:Nat))∧(ptrN (some ⟨b,0,none⟩) fun b1 o2=>(ldL (HP.cellN (HA hp0 b e sp en d) b1 (o2+Int.toNat I*size) size) fun l3=>((0≤J)∧(J<(n:Nat))∧(ptrN (some ⟨b,0,none⟩) fun b4 o5=>(ldL (HP.cellN (HA hp0 b e sp en d) b4 (o5+Int.toNat J*size) size) fun l6=>
      (fnV (.func (.func f) ⟨ga⟩ ⟨gb⟩) fun f7 ga8 gb9=>(CF P f7 (ga8++[(Value.agg ⟨l3⟩),(Value.agg ⟨l6⟩)]++gb9) (HA hp0 b e sp en d) fun u10 h11=>(intV u10 .i64 fun i12=>X i12 h11))))))))):=by
  subst hI hJ
  have g1:=HA.get (hp0:=hp0) (b:=b) (e:=e) (sp:=sp) he (d:=d) (i:=i) (by omega)
  have g2:=HA.get (hp0:=hp0) (b:=b) (e:=e) (sp:=sp) he (d:=d) (i:=j) (by omega)
  simp only [ptrN_some,Int.toNat_natCast,g1,g2,ldL_some,fnV_mk]
  refine ⟨by omega,by omega,by omega,by omega,?_⟩
  refine hc d _ _ _ hs ?_
  rw [intV_int]
  exact h
theorem swapP (he:∀ x,(en x).length=size) (h1:∀ x,(en x).all one=true) {I J:Int} {i j:Nat} {X:HP→Prop} (hs:d.size=n) (hI:I=i) (hJ:J=j) (hi:i<n) (hj:j<n)
    (h:X (HA hp0 b e sp en (Sort.swp d i j))) :
    ((0≤J)∧(J<(n:Nat))∧(ptrN (some ⟨b,0,none⟩) fun b1 o2=>(ldL (HP.cellN (HA hp0 b e sp en d) b1 (o2+Int.toNat J*size) size) fun l3=>((0≤I)∧(I<(n:Nat))∧(ptrN (some ⟨b,0,none⟩) fun b4 o5=>(ldL (HP.cellN (HA hp0 b e sp en d) b4 (o5+Int.toNat I*size) size) fun l6=>
      ((0≤I)∧(I<(n:Nat))∧(ptrN (some ⟨b,0,none⟩) fun b7 o8=>((List.length l3=size)∧(HP.stN (HA hp0 b e sp en d) b7 (o8+Int.toNat I*size) l3 fun h9=>((0≤J)∧(J<(n:Nat))∧(ptrN (some ⟨b,0,none⟩) fun b10 o11=>((List.length l6=size)∧(HP.stN h9 b10 (o11+Int.toNat J*size) l6 fun h12=>X h12)))))))))))))):=by
  subst hI hJ
  have g1:=HA.get (hp0:=hp0) (b:=b) (e:=e) (sp:=sp) he (d:=d) (i:=i) (by omega)
  have g2:=HA.get (hp0:=hp0) (b:=b) (e:=e) (sp:=sp) he (d:=d) (i:=j) (by omega)
  simp only [ptrN_some,Int.toNat_natCast,g1,g2,ldL_some]
  refine ⟨by omega,by omega,by omega,by omega,by omega,by omega,he _,?_⟩
  refine HA.st he h1 (by omega) _ ?_
  refine ⟨by omega,by omega,he _,?_⟩
  refine HA.st he h1 (by rw [Array.size_setIfInBounds]; omega) _ ?_
  exact h
/-- A comparison that holds whatever else is known. -/
def CmpX (P:Program) (f:FuncId) (ga gb:List Value) (hp0:HP) (b:Nat) (e:TypeId) (sp:Nat) (en:α→List Value) (n:Nat) (cf:α→α→Int):Prop:=
  ∀ hp1,HSub hp0 hp1→CmpOk P f ga gb hp1 b e sp en n cf
theorem CmpX.ok (h:CmpX P f ga gb hp0 b e sp en n cf):CmpOk P f ga gb hp0 b e sp en n cf:=h hp0 (HSub.refl _)
end
end Go.HL
set_option linter.unusedVariables false
set_option maxRecDepth 20000
namespace Go.Proofs
open Go Go.HL
section
variable {e:Env} {x0 x4:Int} {hp:HP} {K:Env→PV→HP→Prop}
abbrev R66 (p n:Nat):=RW Tryd.prog 22 [] (opsAt Tryd.f66 (pth p)) (List.range n)
theorem F66_r0:R66 2 2 e V0 hp K=
 K (w2 e 2 (sP none) 3 (sI 0)) V0 hp:= by kernel_rfl
theorem F66_r1:R66 37 2 e V0 hp K=
 K (w2 e 2 (sP none) 3 (sI 1)) V0 hp:= by kernel_rfl
theorem F66_r2:R66 47 7 (w2 e 4 (sI x4) 0 (sI x0)) V0 hp K=
 opS Tryd.prog (Instr.makeSlice 177 (.int .i64 x4) (.int .i64 x4)) hp fun u1 h2=>(slcV u1 fun a3 n4 c5=>∀ b6:Nat,h2 b6=.none→(K (upd (w8 e 4 (sI x4) 0 (sI x0) 17 (sI x4) 18 (sS a3 n4 c5) 19 (sI x0) 20 (sV (.agg ⟨[(.slice a3 n4 c5),(.int .i64 x0),.int .i64 0]⟩)) 21 (sQ b6 0) 2 (sQ b6 0)) 3 (sI 0)) V0 (HP.set h2 b6 (.cells 179 [(.slice a3 n4 c5),(.int .i64 x0),.int .i64 0] 0)))):= by kernel_rfl
def F66_j3 (x0 x4:Int) (hp:HP) (K:Kh):Prop:=
  (opS Tryd.prog (Instr.makeSlice 177 (.int .i64 x4) (.int .i64 x4)) hp fun u1 h2=>slcV u1 fun a3 n4 c5=>∀ b6:Nat,h2 b6=.none→(K (.tuple ⟨[(ptr b6 0),.int .i64 0]⟩) (HP.set h2 b6 (.cells 179 [(.slice a3 n4 c5),(.int .i64 x0),.int .i64 0] 0))))
theorem F66_r3:R66 263 4 (w2 e 4 (sI x4) 0 (sI x0)) V0 hp K=
 K (w6 e 4 (sI x4) 0 (sI x0) 11 (sI x4) 12 (sI x0) 13 (sI ((wr (2*x0)))) 14 (sB ((decide (x4<(wr (2*x0))))))) V0 hp:= by kernel_rfl
theorem F66_r4:R66 327 3 (upd e 4 (sI x4)) V0 hp K=
 K (w4 e 4 (sI x4) 15 (sI x4) 16 (sI ((wr (x4*2)))) 4 (sI ((wr (x4*2))))) V0 hp:= by kernel_rfl
def F66_l4 (x0:Int) (K:Kh) (I4:(Int)→HP→Prop) (x4:Int) (hp:HP):Prop:=
  (ite2 (decide (x4<(IntKind.wrap .i64 (2*x0)))) (I4 (IntKind.wrap .i64 (x4*2)) hp) (F66_j3 x0 x4 hp  K))
def F66_j2 (x0 x4:Int) (hp:HP) (K:Kh):Prop:=
  (LoopP (σ:=Int) (fun I s hp=>F66_l4 x0  K I s hp) x4 hp)
theorem F66_r5:R66 11 1 e V0 hp K=
 K (upd e 4 (sI 8)) V0 hp:= by kernel_rfl
def F66_j1 (x0:Int) (x10:Bool) (hp:HP) (K:Kh):Prop:=
  (ite2 x10 (K (.tuple ⟨[(.pointer none),(.int .i64 1)]⟩) hp) (F66_j2 x0 8 hp  K))
theorem F66_r6:R66 9 6 (upd e 0 (sI x0)) V0 hp K=
 ite2 (decide (x0<1)) (K (w7 e 0 (sI x0) 5 (sI x0) 6 (sB (decide (x0<1))) 7 (sB true) 8 sU 9 sU 10 (sB true)) V0 hp) (K (w7 e 0 (sI x0) 5 (sI x0) 6 (sB (decide (x0<1))) 7 (sB false) 8 (sI x0) 9 (sB (decide (x0 > 65536))) 10 (sB (decide (x0 > 65536)))) V0 hp):= by kernel_rfl
def F66 (x0:Int) (hp:HP) (K:Kh):Prop:=
  (ite2 (decide (x0<1)) (F66_j1 x0 true hp  K) (F66_j1 x0 (decide (x0 > 65536)) hp  K))
noncomputable abbrev o66 (k n:Nat):Code:=.region k (opsAt Tryd.f66 (pth n)) false
noncomputable def F66_code:Code:=(.seq (o66 0 2) (.seq (.seq (o66 1 9) (.cond (.tmp 10) (.seq (o66 2 37) .ret) .skip)) (.seq (o66 3 11) (.seq (.block 0 (.loop (.seq (.seq (o66 4 263) (.cond (.tmp 14) .skip (.exit 0))) (.block 1 (o66 5 327))))) (.seq (o66 6 47) .ret)))))
theorem F66_body:Tryd.f66.body=some F66_code:=by kernel_rfl
theorem F66_ok (x0:Int) (hp:HP) (K:Kh) (h:F66 x0 hp K):CF Tryd.prog 66 [(.int .i64 x0)] hp K:=by
 refine .inl ⟨by kernel_rfl,AC.intro (N:=22) Tryd.func66 F66_body rfl (Nat.le_of_ble_eq_true rfl) ?_⟩
 unfold F66 at h
 refine Ar F66_r0 ?_ (r1 0 Rn) (z1 Sn) Sn
 refine Aq (As (fun env pv hp=>∃ x0 x10,Sub (w2 E0 10 (sB x10) 0 (sI x0)) env∧Sub V0 pv∧F66_j1 x0 x10 hp  K) ?_ ?_)
 ·refine Ag F66_r6 ?_ (r1 0 Rn) (z1 Sn) Sn
  refine mt h (fun h=>?_) (fun h=>?_)
  ·exact ⟨_,_,(z2 Sn),Sn,h⟩
  ·exact ⟨_,_,(z2 Sn),Sn,h⟩
 ·rintro env pv hp ⟨x0,x10,he,hv,h⟩
  refine Ae ?_ (r2 0 10 Rn) he hv
  unfold F66_j1 at h
  refine Ac h rfl (fun h=>?_) (fun h=>?_)
  ·refine Ar F66_r1 ?_ Rn Sn Sn
   refine AWP.ret ?_
   exact h
  ·refine AWP.skip (As (fun env pv hp=>∃ x0 x4,Sub (w2 E0 4 (sI x4) 0 (sI x0)) env∧Sub V0 pv∧F66_j2 x0 x4 hp  K) ?_ ?_)
   ·refine Ag F66_r5 ?_ (r1 0 Rn) (z1 Sn) Sn
    exact ⟨_,_,(z2 Sn),Sn,h⟩
   ·rintro env pv hp ⟨x0,x4,he,hv,h⟩
    refine Ae ?_ (r2 0 4 Rn) he hv
    unfold F66_j2 at h
    refine As (fun env pv hp=>∃ x0 x4,Sub (w2 E0 4 (sI x4) 0 (sI x0)) env∧Sub V0 pv∧F66_j3 x0 x4 hp  K) ?_ ?_
    ·refine AWP.block (AWP.loop (σ:=Int) _ (fun s=>w2 E0 4 (sI s) 0 (sI x0)) (fun s=>V0) x4 h (fun s=>r2 0 4 Rn) (z2 Sn) Sn ?_)
     intro I4 x4 hp h
     replace h:F66_l4 x0  K I4 x4 hp:=h
     unfold F66_l4 at h
     refine Aq (Ar F66_r3 ?_ (r2 0 4 Rn) (z2 Sn) Sn)
     refine Ac h rfl (fun h=>?_) (fun h=>?_)
     ·refine AWP.skip (AWP.block (Ag F66_r4 ?_ (r2 4 0 Rn) (z2 Sn) Sn))
      exact ⟨_,(z2 Sn),Sn,h⟩
     ·refine AWP.exit ?_
      exact ⟨_,_,(z2 Sn),Sn,h⟩
    ·rintro env pv hp ⟨x0,x4,he,hv,h⟩
     refine Ae ?_ (r2 0 4 Rn) he hv
     unfold F66_j3 at h
     refine Ar F66_r2 ?_ (r2 0 4 Rn) (z2 Sn) Sn
     refine mO h fun u1 h2 h=>mS h fun a3 n4 c5 h=>?_
     refine fun b6 hb_b_6=>?_
     replace h:=h b6 hb_b_6
     refine AWP.ret ?_
     exact h
end
section
variable {e:Env} {x0:OA} {x1:ByteArray} {x4 x6:Int} {hp:HP} {K:Env→PV→HP→Prop}
abbrev R84 (p n:Nat):=RW Tryd.prog 33 [] (opsAt Tryd.f84 (pth p)) (List.range n)
theorem F84_r0:R84 2 2 e V0 hp K=
 K (w2 e 4 (sI 0) 5 (sB false)) V0 hp:= by kernel_rfl
theorem F84_r1:R84 9 2 (upd e 0 (sP x0)) V0 hp K=
 CF Tryd.prog 114 [(.pointer x0)] hp fun u1 h2=>(boolV u1 fun q3=>K (w3 e 0 (sP x0) 8 (sP x0) 9 (sB q3)) V0 h2):= by kernel_rfl
theorem F84_r2:R84 37 3 (upd e 4 (sI x4)) V0 hp K=
 K (w4 e 4 (sI x4) 10 (sI x4) 4 (sI x4) 5 (sB false)) V0 hp:= by kernel_rfl
theorem F84_r3:R84 11 8 (w2 e 1 (sT x1) 0 (sP x0)) V0 hp K=
 CF Tryd.prog 115 [(.pointer x0),(.string x1)] hp fun u1 h2=>(tup2V u1 fun u3 u4=>intV u3 .i64 fun i5=>intV u4 .i64 fun i6=>K (w2 (w8 e 1 (sT x1) 0 (sP x0) 12 (sP x0) 13 (sT x1) 14 (sV (.tuple ⟨[(.int .i64 i5),(.int .i64 i6)]⟩)) 11 (sV (.tuple ⟨[(.int .i64 i5),(.int .i64 i6)]⟩)) 15 (sI i5) 16 (sI i6)) 6 (sI i5) 7 (sI i6)) V0 h2):= by kernel_rfl
theorem F84_r4:R84 23 18 (w2 e 6 (sI x6) 0 (sP x0)) V0 hp K=
    (ptrN x0 fun b1 o2=>ldV (HP.cell hp b1 (o2+0)) fun v3=>slcV v3 fun a4 n5 c6=>(0≤x6)∧(x6<n5)∧(ptrN a4 fun b7 o8=>ldV (HP.cell hp b7 ((o8+Int.toNat x6*3)+1)) fun v9=>intV v9 .i64 fun i10=>ptrN x0 fun b11 o12=>ldV (HP.cell hp b11 (o12+0)) fun v13=>slcV v13 fun a14 n15 c16=>(0≤x6)∧(x6<n15)∧(ptrN a14 fun b17 o18=>ldV (HP.cell hp b17 ((o18+Int.toNat x6*3)+2)) fun v19=>boolV v19 fun q20=>K (w4 (w8 (w8 e 6 (sI x6) 0 (sP x0) 17 (sP x0) 18 (sQ b1 o2) 19 (sQ b1 (o2+0)) 20 (sS a4 n5 c6) 21 (sI x6) 22 (sQ b7 (o8+Int.toNat x6*3))) 23 (sQ b7 ((o8+Int.toNat x6*3)+1)) 24 (sI i10) 25 (sP x0) 26 (sQ b11 o12) 27 (sQ b11 (o12+0)) 28 (sS a14 n15 c16) 29 (sI x6) 30 (sQ b17 (o18+Int.toNat x6*3))) 31 (sQ b17 ((o18+Int.toNat x6*3)+2)) 32 (sB q20) 4 (sI i10) 5 (sB q20)) V0 hp))):=by kernel_rfl
def F84 (x0:OA) (x1:ByteArray) (hp:HP) (K:Kh):Prop:=
  (CF Tryd.prog 114 [(.pointer x0)] hp fun u1 h2=>boolV u1 fun q3=>ite2 q3 (K (.tuple ⟨[.int .i64 0,.bool false]⟩) h2) (CF Tryd.prog 115 [(.pointer x0),(.string x1)] h2 fun u4 h5=>tup2V u4 fun u6 u7=>intV u6 .i64 fun i8=>intV u7 .i64 fun i9=>ptrN x0 fun b10 o11=>ldV (HP.cell h5 b10 (o11+0)) fun v12=>slcV v12 fun a13 n14 c15=>(0≤i8)∧(i8<n14)∧(ptrN a13 fun b16 o17=>ldV (HP.cell h5 b16 ((o17+Int.toNat i8*3)+1)) fun v18=>intV v18 .i64 fun i19=>ptrN x0 fun b20 o21=>ldV (HP.cell h5 b20 (o21+0)) fun v22=>slcV v22 fun a23 n24 c25=>(0≤i8)∧(i8<n24)∧(ptrN a23 fun b26 o27=>ldV (HP.cell h5 b26 ((o27+Int.toNat i8*3)+2)) fun v28=>boolV v28 fun q29=>K (.tuple ⟨[(.int .i64 i19),(.bool q29)]⟩) h5))))
noncomputable def F84_code:Code:=(.seq (.region 0 (opsAt Tryd.f84 (pth 2)) false) (.seq (.seq (.region 1 (opsAt Tryd.f84 (pth 9)) false) (.cond (.tmp 9) (.seq (.region 2 (opsAt Tryd.f84 (pth 37)) false) .ret) .skip)) (.seq (.region 3 (opsAt Tryd.f84 (pth 11)) false) (.seq (.region 4 (opsAt Tryd.f84 (pth 23)) true) .ret))))
theorem F84_body:Tryd.f84.body=some F84_code:=by kernel_rfl
theorem F84_ok (x0:OA) (x1:ByteArray) (hp:HP) (K:Kh) (h:F84 x0 x1 hp K):CF Tryd.prog 84 [(.pointer x0),(.string x1)] hp K:=by
 refine .inl ⟨by kernel_rfl,AC.intro (N:=33) Tryd.func84 F84_body rfl (Nat.le_of_ble_eq_true rfl) ?_⟩
 unfold F84 at h
 refine Ar F84_r0 ?_ (r2 0 1 Rn) (z2 Sn) Sn
 refine Aq (Ar F84_r1 ?_ (r3 0 1 4 Rn) (z3 Sn) Sn)
 refine mC h fun u1 h2 h=>mB h fun q3 h=>?_
 refine Ac h rfl (fun h=>?_) (fun h=>?_)
 ·refine Ar F84_r2 ?_ (r1 4 Rn) (z1 Sn) Sn
  refine AWP.ret ?_
  exact h
 ·refine AWP.skip (Ar F84_r3 ?_ (r2 0 1 Rn) (z2 Sn) Sn)
  refine mC h fun u4 h5 h=>mT h fun u6 u7 h=>mI h fun i8 h=>mI h fun i9 h=>?_
  refine Aq (AWP.rgnD (by kernel_rfl) (by kernel_rfl) F84_r4 ?_ (r2 0 6 Rn) (z2 Sn) Sn)
  refine mN h (fun b10 o11 h=>mV h (fun v12 h=>mS h (fun a13 n14 c15 h=>⟨h.1,h.2.1,mN h.2.2 (fun b16 o17 h=>mV h (fun v18 h=>mI h (fun i19 h=>mN h (fun b20 o21 h=>mV h (fun v22 h=>mS h (fun a23 n24 c25 h=>⟨h.1,h.2.1,mN h.2.2 fun b26 o27 h=>mV h fun v28 h=>mB h fun q29 h=>?_⟩))))))⟩)))
  refine AWP.ret ?_
  exact h
end
section
variable {e E:Env} {x0:OA} {x1:ByteArray} {x2 x7:Int} {hp:HP} {K:Env→PV→HP→Prop}
abbrev R86 (p n:Nat):=RW Tryd.prog 52 [] (opsAt Tryd.f86 (pth p)) (List.range n)
theorem F86_r0:R86 2 1 e V0 hp K=
 K (upd e 6 (sI 0)) V0 hp:= by kernel_rfl
theorem F86_r1:R86 9 2 (upd e 0 (sP x0)) V0 hp K=
 CF Tryd.prog 114 [(.pointer x0)] hp fun u1 h2=>(boolV u1 fun q3=>K (w3 e 0 (sP x0) 9 (sP x0) 10 (sB q3)) V0 h2):= by kernel_rfl
theorem F86_r2:R86 37 1 e V0 hp K=
 K (upd e 6 (sI 2)) V0 hp:= by kernel_rfl
theorem F86_r3:R86 11 8 (w2 e 1 (sT x1) 0 (sP x0)) V0 hp K=
 CF Tryd.prog 115 [(.pointer x0),(.string x1)] hp fun u1 h2=>(tup2V u1 fun u3 u4=>intV u3 .i64 fun i5=>intV u4 .i64 fun i6=>K (w2 (w8 e 1 (sT x1) 0 (sP x0) 12 (sP x0) 13 (sT x1) 14 (sV (.tuple ⟨[(.int .i64 i5),(.int .i64 i6)]⟩)) 11 (sV (.tuple ⟨[(.int .i64 i5),(.int .i64 i6)]⟩)) 15 (sI i5) 16 (sI i6)) 7 (sI i5) 8 (sI i6)) V0 h2):= by kernel_rfl
theorem F86_r4:R86 71 9 (w2 e 7 (sI x7) 0 (sP x0)) V0 hp K=
    (ptrN x0 fun b1 o2=>ldV (HP.cell hp b1 (o2+0)) fun v3=>slcV v3 fun a4 n5 c6=>(0≤x7)∧(x7<n5)∧(ptrN a4 fun b7 o8=>ldV (HP.cell hp b7 ((o8+Int.toNat x7*3)+2)) fun v9=>boolV v9 fun q10=>K (w3 (w8 e 7 (sI x7) 0 (sP x0) 18 (sP x0) 19 (sQ b1 o2) 20 (sQ b1 (o2+0)) 21 (sS a4 n5 c6) 22 (sI x7) 23 (sQ b7 (o8+Int.toNat x7*3))) 24 (sQ b7 ((o8+Int.toNat x7*3)+2)) 25 (sB q10) 17 (sB q10)) V0 hp)):=by kernel_rfl
theorem F86_r5:R86 295 1 e V0 hp K=
 K (upd e 6 (sI 5)) V0 hp:= by kernel_rfl
theorem F86_r6:R86 359 10 (upd e 0 (sP x0)) V0 hp K=
 ptrN x0 fun b1 o2=>(ldV (HP.cell hp b1 (o2+2)) fun v3=>intV v3 .i64 fun i4=>ptrN x0 fun b5 o6=>ldV (HP.cell hp b5 (o6+1)) fun v7=>intV v7 .i64 fun i8=>K (w3 (w8 e 0 (sP x0) 27 (sP x0) 28 (sQ b1 o2) 29 (sQ b1 (o2+2)) 30 (sI i4) 31 (sP x0) 32 (sQ b5 o6) 33 (sQ b5 (o6+1))) 34 (sI i8) 35 (sB (decide (i4≥i8))) 26 (sB (decide (i4≥i8)))) V0 hp):= by kernel_rfl
theorem F86_r7:R86 1255 1 e V0 hp K=
 K (upd e 6 (sI 6)) V0 hp:= by kernel_rfl
theorem F86_r8 (h:E=upd (w3 e 7 (sI x7) 2 (sI x2) 1 (sT x1)) 0 (sP x0)):R86 47 10 E V0 hp K=
    (ptrN x0 fun b1 o2=>ldV (HP.cell hp b1 (o2+0)) fun v3=>slcV v3 fun a4 n5 c6=>(0≤x7)∧(x7<n5)∧(ptrN a4 fun b7 o8=>(List.length [(Value.string x1),(.int .i64 x2),(.bool true)]=3)∧(HP.stN hp b7 (o8+Int.toNat x7*3) [(.string x1),(.int .i64 x2),(.bool true)] fun h9=>K (upd (w8 E 36 (sP x0) 37 (sQ b1 o2) 38 (sQ b1 (o2+0)) 39 (sS a4 n5 c6) 40 (sI x7) 41 (sT x1) 42 (sI x2) 43 (sV (.agg ⟨[(.string x1),(.int .i64 x2),(.bool true)]⟩))) 44 (sQ b7 (o8+Int.toNat x7*3))) V0 h9))):=by subst h; kernel_rfl
theorem F86_r9:R86 95 8 (upd e 0 (sP x0)) V0 hp K=
 ptrN x0 fun b1 o2=>(ldV (HP.cell hp b1 (o2+2)) fun v3=>intV v3 .i64 fun i4=>ptrN x0 fun b5 o6=>HP.st hp b5 (o6+2) (.int .i64 (wr (i4+1))) fun h7=>K (w8 e 0 (sP x0) 45 (sP x0) 46 (sQ b1 o2) 47 (sQ b1 (o2+2)) 48 (sI i4) 49 (sI ((wr (i4+1)))) 50 (sQ b5 o6) 51 (sQ b5 (o6+2))) V0 h7):= by kernel_rfl
theorem F86_r10:R86 191 1 e V0 hp K=
 K (upd e 6 (sI 0)) V0 hp:= by kernel_rfl
def F86 (x0:OA) (x1:ByteArray) (x2:Int) (hp:HP) (K:Kh):Prop:=
  (CF Tryd.prog 114 [(.pointer x0)] hp fun u1 h2=>boolV u1 fun q3=>ite2 q3 (K (.int .i64 2) h2) (CF Tryd.prog 115 [(.pointer x0),(.string x1)] h2 fun u4 h5=>tup2V u4 fun u6 u7=>intV u6 .i64 fun i8=>intV u7 .i64 fun i9=>ptrN x0 fun b10 o11=>ldV (HP.cell h5 b10 (o11+0)) fun v12=>slcV v12 fun a13 n14 c15=>(0≤i8)∧(i8<n14)∧(ptrN a13 fun b16 o17=>ldV (HP.cell h5 b16 ((o17+Int.toNat i8*3)+2)) fun v18=>boolV v18 fun q19=>ite2 q19 (K (.int .i64 5) h5) (ptrN x0 fun b20 o21=>ldV (HP.cell h5 b20 (o21+2)) fun v22=>intV v22 .i64 fun i23=>ptrN x0 fun b24 o25=>ldV (HP.cell h5 b24 (o25+1)) fun v26=>intV v26 .i64 fun i27=>ite2 (decide (i23≥i27)) (K (.int .i64 6) h5) (ptrN x0 fun b28 o29=>ldV (HP.cell h5 b28 (o29+0)) fun v30=>slcV v30 fun a31 n32 c33=>(0≤i8)∧(i8<n32)∧(ptrN a31 fun b34 o35=>(List.length [(Value.string x1),(.int .i64 x2),(.bool true)]=3)∧(HP.stN h5 b34 (o35+Int.toNat i8*3) [(.string x1),(.int .i64 x2),(.bool true)] fun h36=>ptrN x0 fun b37 o38=>ldV (HP.cell h36 b37 (o38+2)) fun v39=>intV v39 .i64 fun i40=>ptrN x0 fun b41 o42=>HP.st h36 b41 (o42+2) (.int .i64 (IntKind.wrap .i64 (i40+1))) fun h43=>K (.int .i64 0) h43)))))))
noncomputable abbrev o86 (k n:Nat):Code:=.region k (opsAt Tryd.f86 (pth n)) false
noncomputable def F86_code:Code:=(.seq (o86 0 2) (.seq (.seq (o86 1 9) (.cond (.tmp 10) (.seq (o86 2 37) .ret) .skip)) (.seq (o86 3 11) (.seq (.block 0 (.seq (o86 4 71) (.cond (.tmp 17) (.seq (o86 5 295) .ret) (.seq (.region 6 (opsAt Tryd.f86 (pth 359)) true) (.cond (.tmp 26) (.seq (o86 7 1255) .ret) .skip))))) (.seq (o86 8 47) (.seq (o86 9 95) (.seq (o86 10 191) .ret)))))))
theorem F86_body:Tryd.f86.body=some F86_code:=by kernel_rfl
theorem F86_ok (x0:OA) (x1:ByteArray) (x2:Int) (hp:HP) (K:Kh) (h:F86 x0 x1 x2 hp K):CF Tryd.prog 86 [(.pointer x0),(.string x1),(.int .i64 x2)] hp K:=by
 refine .inl ⟨by kernel_rfl,AC.intro (N:=52) Tryd.func86 F86_body rfl (Nat.le_of_ble_eq_true rfl) ?_⟩
 unfold F86 at h
 refine Ar F86_r0 ?_ (r3 0 1 2 Rn) (z3 Sn) Sn
 refine Aq (Ar F86_r1 ?_ (r3 0 1 2 Rn) (z3 Sn) Sn)
 refine mC h fun u1 h2 h=>mB h fun q3 h=>?_
 refine Ac h rfl (fun h=>?_) (fun h=>?_)
 ·refine Ar F86_r2 ?_ Rn Sn Sn
  refine AWP.ret ?_
  exact h
 ·refine AWP.skip (Ar F86_r3 ?_ (r3 0 1 2 Rn) (z3 Sn) Sn)
  refine mC h fun u4 h5 h=>mT h fun u6 u7 h=>mI h fun i8 h=>mI h fun i9 h=>?_
  refine Aq (AWP.block (Ar F86_r4 ?_ (r4 0 7 1 2 Rn) (z4 Sn) Sn))
  refine mN h (fun b10 o11 h=>mV h (fun v12 h=>mS h (fun a13 n14 c15 h=>⟨h.1,h.2.1,mN h.2.2 fun b16 o17 h=>mV h fun v18 h=>mB h fun q19 h=>?_⟩)))
  refine Ac h rfl (fun h=>?_) (fun h=>?_)
  ·refine Ar F86_r5 ?_ Rn Sn Sn
   refine AWP.ret ?_
   exact h
  ·refine Aq (AWP.rgnD (by kernel_rfl) (by kernel_rfl) F86_r6 ?_ (r4 0 1 2 7 Rn) (z4 Sn) Sn)
   refine mN h fun b20 o21 h=>mV h fun v22 h=>mI h fun i23 h=>mN h fun b24 o25 h=>mV h fun v26 h=>mI h fun i27 h=>?_
   refine Ac h rfl (fun h=>?_) (fun h=>?_)
   ·refine Ar F86_r7 ?_ Rn Sn Sn
    refine AWP.ret ?_
    exact h
   ·refine AWP.skip (Ar (F86_r8 rfl) ?_ (r4 0 1 2 7 Rn) (z4 Sn) Sn)
    refine mN h (fun b28 o29 h=>mV h (fun v30 h=>mS h (fun a31 n32 c33 h=>⟨h.1,h.2.1,mN h.2.2 (fun b34 o35 h=>⟨h.1,mW h.2 fun h36 h=>?_⟩)⟩)))
    refine Ar F86_r9 ?_ (r1 0 Rn) (z1 Sn) Sn
    refine mN h fun b37 o38 h=>mV h fun v39 h=>mI h fun i40 h=>mN h fun b41 o42 h=>mw h fun h43 h=>?_
    refine Ar F86_r10 ?_ Rn Sn Sn
    refine AWP.ret ?_
    exact h
end
section
variable {e E:Env} {x0:OA} {x1:ByteArray} {x5 x8:Int} {k7:List Value} {hp:HP} {K:Env→PV→HP→Prop}
abbrev R92 (p n:Nat):=RW Tryd.prog 95 [7,83] (opsAt Tryd.f92 (pth p)) (List.range n)
theorem F92_r0:R92 2 1 e V0 hp K=
 K (upd e 4 (sB false)) V0 hp:= by kernel_rfl
theorem F92_r1:R92 9 2 (upd e 0 (sP x0)) V0 hp K=
 CF Tryd.prog 114 [(.pointer x0)] hp fun u1 h2=>(boolV u1 fun q3=>K (w3 e 0 (sP x0) 10 (sP x0) 11 (sB q3)) V0 h2):= by kernel_rfl
theorem F92_r2:R92 37 1 e V0 hp K=
 K (upd e 4 (sB false)) V0 hp:= by kernel_rfl
theorem F92_r3:R92 11 8 (w2 e 1 (sT x1) 0 (sP x0)) V0 hp K=
 CF Tryd.prog 115 [(.pointer x0),(.string x1)] hp fun u1 h2=>(tup2V u1 fun u3 u4=>intV u3 .i64 fun i5=>intV u4 .i64 fun i6=>K (w2 (w8 e 1 (sT x1) 0 (sP x0) 13 (sP x0) 14 (sT x1) 15 (sV (.tuple ⟨[(.int .i64 i5),(.int .i64 i6)]⟩)) 12 (sV (.tuple ⟨[(.int .i64 i5),(.int .i64 i6)]⟩)) 16 (sI i5) 17 (sI i6)) 5 (sI i5) 6 (sI i6)) V0 h2):= by kernel_rfl
theorem F92_r4:R92 39 9 (w2 e 5 (sI x5) 0 (sP x0)) V0 hp K=
    (ptrN x0 fun b1 o2=>ldV (HP.cell hp b1 (o2+0)) fun v3=>slcV v3 fun a4 n5 c6=>(0≤x5)∧(x5<n5)∧(ptrN a4 fun b7 o8=>ldV (HP.cell hp b7 ((o8+Int.toNat x5*3)+2)) fun v9=>boolV v9 fun q10=>K (w3 (w8 e 5 (sI x5) 0 (sP x0) 18 (sP x0) 19 (sQ b1 o2) 20 (sQ b1 (o2+0)) 21 (sS a4 n5 c6) 22 (sI x5) 23 (sQ b7 (o8+Int.toNat x5*3))) 24 (sQ b7 ((o8+Int.toNat x5*3)+2)) 25 (sB q10) 26 (sB ((!q10)))) V0 hp)):=by kernel_rfl
theorem F92_r5:R92 151 1 e V0 hp K=
 K (upd e 4 (sB false)) V0 hp:= by kernel_rfl
theorem F92_r6:R92 47 8 (w2 e 5 (sI x5) 0 (sP x0)) V0 hp K=
    (ptrN x0 fun b1 o2=>ldV (HP.cell hp b1 (o2+0)) fun v3=>slcV v3 fun a4 n5 c6=>(0≤x5)∧(x5<n5)∧(ptrN a4 fun b7 o8=>(List.length [(Value.string ⟨#[]⟩),.int .i64 0,.bool false]=3)∧(HP.stN hp b7 (o8+Int.toNat x5*3) [.string ⟨#[]⟩,.int .i64 0,.bool false] fun h9=>K (upd (w8 e 5 (sI x5) 0 (sP x0) 27 (sP x0) 28 (sQ b1 o2) 29 (sQ b1 (o2+0)) 30 (sS a4 n5 c6) 31 (sI x5) 32 (sV (.agg ⟨[.string ⟨#[]⟩,.int .i64 0,.bool false]⟩))) 33 (sQ b7 (o8+Int.toNat x5*3))) V0 h9))):=by kernel_rfl
theorem F92_r7:R92 95 8 (upd e 0 (sP x0)) V0 hp K=
 ptrN x0 fun b1 o2=>(ldV (HP.cell hp b1 (o2+2)) fun v3=>intV v3 .i64 fun i4=>ptrN x0 fun b5 o6=>HP.st hp b5 (o6+2) (.int .i64 (wr (i4-1))) fun h7=>K (w8 e 0 (sP x0) 34 (sP x0) 35 (sQ b1 o2) 36 (sQ b1 (o2+2)) 37 (sI i4) 38 (sI ((wr (i4-1)))) 39 (sQ b5 o6) 40 (sQ b5 (o6+2))) V0 h7):= by kernel_rfl
theorem F92_r8:R92 4287 8 (w2 e 5 (sI x5) 0 (sP x0)) V0 hp K=
    (ptrN x0 fun b1 o2=>ldV (HP.cell hp b1 (o2+0)) fun v3=>slcV v3 fun a4 n5 c6=>(0≤x5)∧(x5<n5)∧(ptrN a4 fun b7 o8=>ldV (HP.cell hp b7 ((o8+Int.toNat x5*3)+2)) fun v9=>boolV v9 fun q10=>K (w2 (w8 e 5 (sI x5) 0 (sP x0) 50 (sP x0) 51 (sQ b1 o2) 52 (sQ b1 (o2+0)) 53 (sS a4 n5 c6) 54 (sI x5) 55 (sQ b7 (o8+Int.toNat x5*3))) 56 (sQ b7 ((o8+Int.toNat x5*3)+2)) 57 (sB q10)) V0 hp)):=by kernel_rfl
theorem F92_r9:R92 17599 9 (w2 e 5 (sI x5) 0 (sP x0)) V0 hp K=
    (ptrN x0 fun b1 o2=>ldV (HP.cell hp b1 (o2+0)) fun v3=>slcV v3 fun a4 n5 c6=>(0≤x5)∧(x5<n5)∧(ptrN a4 fun b7 o8=>ldL (HP.cellN hp b7 (o8+Int.toNat x5*3) 3) fun l9=>if List.length l9=3 then (if List.all l9 one=true then (if 0+List.length l9≤List.length [(Value.string ⟨#[]⟩),.int .i64 0,.bool false] then (K (w2 (w8 e 5 (sI x5) 0 (sP x0) 67 (sP x0) 68 (sQ b1 o2) 69 (sQ b1 (o2+0)) 70 (sS a4 n5 c6) 71 (sI x5) 72 (sQ b7 (o8+Int.toNat x5*3))) 73 (sA l9) 7 (sR 7 0)) (w2 V0 7 (197,[.string ⟨#[]⟩,.int .i64 0,.bool false]) 7 (197,(splice [.string ⟨#[]⟩,.int .i64 0,.bool false] 0 l9))) hp) else False) else False) else False)):=by kernel_rfl
theorem F92_r10:R92 42175 8 (w2 e 5 (sI x5) 0 (sP x0)) (upd V0 7 (197,k7)) hp K=
    (ptrN x0 fun b1 o2=>ldV (HP.cell hp b1 (o2+0)) fun v3=>slcV v3 fun a4 n5 c6=>(0≤x5)∧(x5<n5)∧(ptrN a4 fun b7 o8=>(List.length [(Value.string ⟨#[]⟩),.int .i64 0,.bool false]=3)∧(HP.stN hp b7 (o8+Int.toNat x5*3) [.string ⟨#[]⟩,.int .i64 0,.bool false] fun h9=>K (upd (w8 e 5 (sI x5) 0 (sP x0) 74 (sP x0) 75 (sQ b1 o2) 76 (sQ b1 (o2+0)) 77 (sS a4 n5 c6) 78 (sI x5) 79 (sV (.agg ⟨[.string ⟨#[]⟩,.int .i64 0,.bool false]⟩))) 80 (sQ b7 (o8+Int.toNat x5*3))) (upd V0 7 (197,k7)) h9))):=by kernel_rfl
theorem F92_r11:R92 91327 9 (w2 e 7 (sR 7 0) 0 (sP x0)) (upd V0 7 (197,k7)) hp K=
 ldV (k7)[0]? fun v1=>(strV v1 fun s2=>CF Tryd.prog 115 [(.pointer x0),(.string s2)] hp fun u3 h4=>tup2V u3 fun u5 u6=>intV u5 .i64 fun i7=>intV u6 .i64 fun i8=>K (w3 (w8 e 7 (sR 7 0) 0 (sP x0) 82 (sP x0) 83 (sR 7 0) 84 (sT s2) 85 (sV (.tuple ⟨[(.int .i64 i7),(.int .i64 i8)]⟩)) 81 (sV (.tuple ⟨[(.int .i64 i7),(.int .i64 i8)]⟩)) 86 (sI i7)) 87 (sI i8) 8 (sI i7) 9 (sI i8)) (upd V0 7 (197,k7)) h4):= by kernel_rfl
theorem F92_r12 (h:E=upd (w2 e 8 (sI x8) 7 (sR 7 0)) 0 (sP x0)):R92 124095 8 E (upd V0 7 (197,k7)) hp K=
    (ptrN x0 fun b1 o2=>ldV (HP.cell hp b1 (o2+0)) fun v3=>slcV v3 fun a4 n5 c6=>ldL (cellsN k7 0 3) fun l7=>(0≤x8)∧(x8<n5)∧(ptrN a4 fun b8 o9=>(List.length l7=3)∧(HP.stN hp b8 (o9+Int.toNat x8*3) l7 fun h10=>K (w7 E 88 (sP x0) 89 (sQ b1 o2) 90 (sQ b1 (o2+0)) 91 (sS a4 n5 c6) 92 (sI x8) 93 (sA l7) 94 (sQ b8 (o9+Int.toNat x8*3))) (upd V0 7 (197,k7)) h10))):=by subst h; kernel_rfl
theorem F92_r13:R92 7359 10 (w2 e 5 (sI x5) 0 (sP x0)) V0 hp K=
 ptrN x0 fun b1 o2=>(ldV (HP.cell hp b1 (o2+0)) fun v3=>slcV v3 fun a4 n5 c6=>K (w4 (w8 e 5 (sI x5) 0 (sP x0) 58 (sI x5) 59 (sI ((wr (x5+1)))) 60 (sP x0) 61 (sQ b1 o2) 62 (sQ b1 (o2+0)) 63 (sS a4 n5 c6)) 64 (sI ((n5:Nat))) 65 (sI ((wr ((n5:Nat)-1)))) 66 (sI ((band .i64 (wr (x5+1)) (wr ((n5:Nat)-1))))) 5 (sI ((band .i64 (wr (x5+1)) (wr ((n5:Nat)-1)))))) V0 hp):= by kernel_rfl
theorem F92_r14:R92 383 1 e V0 hp K=
 K (upd e 4 (sB true)) V0 hp:= by kernel_rfl
def F92_l2 (x0:OA) (K:Kh) (I2:(Int)→HP→Prop) (x5:Int) (hp:HP):Prop:=
  (ptrN x0 fun b36 o37=>ldV (HP.cell hp b36 (o37+0)) fun v38=>slcV v38 fun a39 n40 c41=>(0≤x5)∧(x5<n40)∧(ptrN a39 fun b42 o43=>ldV (HP.cell hp b42 ((o43+Int.toNat x5*3)+2)) fun v44=>boolV v44 fun q45=>ite2 q45 (ptrN x0 fun b46 o47=>ldV (HP.cell hp b46 (o47+0)) fun v48=>slcV v48 fun a49 n50 c51=>(0≤x5)∧(x5<n50)∧(ptrN a49 fun b52 o53=>ldL (HP.cellN hp b52 (o53+Int.toNat x5*3) 3) fun l54=>if List.length l54=3 then (if List.all l54 one=true then (if 0+List.length l54≤List.length [(Value.string ⟨#[]⟩),.int .i64 0,.bool false] then (ptrN x0 fun b55 o56=>ldV (HP.cell hp b55 (o56+0)) fun v57=>slcV v57 fun a58 n59 c60=>(0≤x5)∧(x5<n59)∧(ptrN a58 fun b61 o62=>(List.length [(Value.string ⟨#[]⟩),.int .i64 0,.bool false]=3)∧(HP.stN hp b61 (o62+Int.toNat x5*3) [.string ⟨#[]⟩,.int .i64 0,.bool false] fun h63=>ldV ((splice [.string ⟨#[]⟩,.int .i64 0,.bool false] 0 l54))[0]? fun v64=>strV v64 fun s65=>CF Tryd.prog 115 [(.pointer x0),(.string s65)] h63 fun u66 h67=>tup2V u66 fun u68 u69=>intV u68 .i64 fun i70=>intV u69 .i64 fun i71=>ptrN x0 fun b72 o73=>ldV (HP.cell h67 b72 (o73+0)) fun v74=>slcV v74 fun a75 n76 c77=>ldL (cellsN (splice [.string ⟨#[]⟩,.int .i64 0,.bool false] 0 l54) 0 3) fun l78=>(0≤i70)∧(i70<n76)∧(ptrN a75 fun b79 o80=>(List.length l78=3)∧(HP.stN h67 b79 (o80+Int.toNat i70*3) l78 fun h81=>ptrN x0 fun b82 o83=>ldV (HP.cell h81 b82 (o83+0)) fun v84=>slcV v84 fun a85 n86 c87=>I2 (band .i64 (IntKind.wrap .i64 (x5+1)) (IntKind.wrap .i64 ((n86:Nat)-1))) h81))))) else False) else False) else False)) (K (.bool true) hp)))
def F92_j1 (x0:OA) (x5:Int) (hp:HP) (K:Kh):Prop:=
  (LoopP (σ:=Int) (fun I s hp=>F92_l2 x0  K I s hp) x5 hp)
theorem F92_r15:R92 319 10 (w2 e 5 (sI x5) 0 (sP x0)) V0 hp K=
 ptrN x0 fun b1 o2=>(ldV (HP.cell hp b1 (o2+0)) fun v3=>slcV v3 fun a4 n5 c6=>K (w4 (w8 e 5 (sI x5) 0 (sP x0) 41 (sI x5) 42 (sI ((wr (x5+1)))) 43 (sP x0) 44 (sQ b1 o2) 45 (sQ b1 (o2+0)) 46 (sS a4 n5 c6)) 47 (sI ((n5:Nat))) 48 (sI ((wr ((n5:Nat)-1)))) 49 (sI ((band .i64 (wr (x5+1)) (wr ((n5:Nat)-1))))) 5 (sI ((band .i64 (wr (x5+1)) (wr ((n5:Nat)-1)))))) V0 hp):= by kernel_rfl
def F92 (x0:OA) (x1:ByteArray) (hp:HP) (K:Kh):Prop:=
  (CF Tryd.prog 114 [(.pointer x0)] hp fun u1 h2=>boolV u1 fun q3=>ite2 q3 (K (.bool false) h2) (CF Tryd.prog 115 [(.pointer x0),(.string x1)] h2 fun u4 h5=>tup2V u4 fun u6 u7=>intV u6 .i64 fun i8=>intV u7 .i64 fun i9=>ptrN x0 fun b10 o11=>ldV (HP.cell h5 b10 (o11+0)) fun v12=>slcV v12 fun a13 n14 c15=>(0≤i8)∧(i8<n14)∧(ptrN a13 fun b16 o17=>ldV (HP.cell h5 b16 ((o17+Int.toNat i8*3)+2)) fun v18=>boolV v18 fun q19=>ite2 (!q19) (K (.bool false) h5) (ptrN x0 fun b20 o21=>ldV (HP.cell h5 b20 (o21+0)) fun v22=>slcV v22 fun a23 n24 c25=>(0≤i8)∧(i8<n24)∧(ptrN a23 fun b26 o27=>(List.length [(Value.string ⟨#[]⟩),.int .i64 0,.bool false]=3)∧(HP.stN h5 b26 (o27+Int.toNat i8*3) [.string ⟨#[]⟩,.int .i64 0,.bool false] fun h28=>ptrN x0 fun b29 o30=>ldV (HP.cell h28 b29 (o30+2)) fun v31=>intV v31 .i64 fun i32=>ptrN x0 fun b33 o34=>HP.st h28 b33 (o34+2) (.int .i64 (IntKind.wrap .i64 (i32-1))) fun h35=>ptrN x0 fun b88 o89=>ldV (HP.cell h35 b88 (o89+0)) fun v90=>slcV v90 fun a91 n92 c93=>F92_j1 x0 (band .i64 (IntKind.wrap .i64 (i8+1)) (IntKind.wrap .i64 ((n92:Nat)-1))) h35  K))))))
noncomputable abbrev o92 (k n:Nat):Code:=.region k (opsAt Tryd.f92 (pth n)) false
noncomputable def F92_code:Code:=(.seq (o92 0 2) (.seq (.seq (o92 1 9) (.cond (.tmp 11) (.seq (o92 2 37) .ret) .skip)) (.seq (o92 3 11) (.seq (.seq (o92 4 39) (.cond (.tmp 26) (.seq (o92 5 151) .ret) .skip)) (.seq (o92 6 47) (.seq (o92 7 95) (.seq (.seq (o92 8 319) (.block 0 (.loop (.seq (.seq (o92 9 4287) (.cond (.tmp 57) .skip (.exit 0))) (.seq (.block 1 (.seq (o92 11 17599) (.seq (o92 12 42175) (.seq (o92 13 91327) (.region 14 (opsAt Tryd.f92 (pth 124095)) true))))) (o92 10 7359)))))) (.seq (o92 15 383) .ret))))))))
theorem F92_body:Tryd.f92.body=some F92_code:=by kernel_rfl
theorem F92_ok (x0:OA) (x1:ByteArray) (hp:HP) (K:Kh) (h:F92 x0 x1 hp K):CF Tryd.prog 92 [(.pointer x0),(.string x1)] hp K:=by
 refine .inl ⟨by kernel_rfl,AC.intro (N:=95) Tryd.func92 F92_body rfl (Nat.le_of_ble_eq_true rfl) ?_⟩
 unfold F92 at h
 refine Ar F92_r0 ?_ (r2 0 1 Rn) (z2 Sn) Sn
 refine Aq (Ar F92_r1 ?_ (r2 0 1 Rn) (z2 Sn) Sn)
 refine mC h fun u1 h2 h=>mB h fun q3 h=>?_
 refine Ac h rfl (fun h=>?_) (fun h=>?_)
 ·refine Ar F92_r2 ?_ Rn Sn Sn
  refine AWP.ret ?_
  exact h
 ·refine AWP.skip (Ar F92_r3 ?_ (r2 0 1 Rn) (z2 Sn) Sn)
  refine mC h fun u4 h5 h=>mT h fun u6 u7 h=>mI h fun i8 h=>mI h fun i9 h=>?_
  refine Aq (Ar F92_r4 ?_ (r2 0 5 Rn) (z2 Sn) Sn)
  refine mN h (fun b10 o11 h=>mV h (fun v12 h=>mS h (fun a13 n14 c15 h=>⟨h.1,h.2.1,mN h.2.2 fun b16 o17 h=>mV h fun v18 h=>mB h fun q19 h=>?_⟩)))
  refine Ac h rfl (fun h=>?_) (fun h=>?_)
  ·refine Ar F92_r5 ?_ Rn Sn Sn
   refine AWP.ret ?_
   exact h
  ·refine AWP.skip (Ar F92_r6 ?_ (r2 0 5 Rn) (z2 Sn) Sn)
   refine mN h (fun b20 o21 h=>mV h (fun v22 h=>mS h (fun a23 n24 c25 h=>⟨h.1,h.2.1,mN h.2.2 (fun b26 o27 h=>⟨h.1,mW h.2 fun h28 h=>?_⟩)⟩)))
   refine Ar F92_r7 ?_ (r2 0 5 Rn) (z2 Sn) Sn
   refine mN h fun b29 o30 h=>mV h fun v31 h=>mI h fun i32 h=>mN h fun b33 o34 h=>mw h fun h35 h=>?_
   refine Aq (As (fun env pv hp=>∃ x0 x5,Sub (w2 E0 5 (sI x5) 0 (sP x0)) env∧Sub V0 pv∧F92_j1 x0 x5 hp  K) ?_ ?_)
   ·refine Ag F92_r15 ?_ (r2 0 5 Rn) (z2 Sn) Sn
    refine mN h fun b88 o89 h=>mV h fun v90 h=>mS h fun a91 n92 c93 h=>?_
    exact ⟨_,_,(z2 Sn),Sn,h⟩
   ·rintro env pv hp ⟨x0,x5,he,hv,h⟩
    refine Ae ?_ (r2 0 5 Rn) he hv
    unfold F92_j1 at h
    refine AWP.block (AWP.loop (σ:=Int) _ (fun s=>w2 E0 5 (sI s) 0 (sP x0)) (fun s=>V0) x5 h (fun s=>r2 0 5 Rn) (z2 Sn) Sn ?_)
    intro I2 x5 hp h
    replace h:F92_l2 x0  K I2 x5 hp:=h
    unfold F92_l2 at h
    refine Aq (Ar F92_r8 ?_ (r2 0 5 Rn) (z2 Sn) Sn)
    refine mN h (fun b36 o37 h=>mV h (fun v38 h=>mS h (fun a39 n40 c41 h=>⟨h.1,h.2.1,mN h.2.2 fun b42 o43 h=>mV h fun v44 h=>mB h fun q45 h=>?_⟩)))
    refine Ac h rfl (fun h=>?_) (fun h=>?_)
    ·refine AWP.skip (Aq (AWP.block (Ar F92_r9 ?_ (r2 0 5 Rn) (z2 Sn) Sn)))
     refine mN h (fun b46 o47 h=>mV h (fun v48 h=>mS h (fun a49 n50 c51 h=>⟨h.1,h.2.1,mN h.2.2 fun b52 o53 h=>mL h fun l54 h=>mf h fun h=>mf h fun h=>mf h fun h=>?_⟩)))
     refine Ar F92_r10 ?_ (r2 0 5 (rp 7 7 0 Rn)) (z3 Sn) (z1 Sn)
     refine mN h (fun b55 o56 h=>mV h (fun v57 h=>mS h (fun a58 n59 c60 h=>⟨h.1,h.2.1,mN h.2.2 (fun b61 o62 h=>⟨h.1,mW h.2 fun h63 h=>?_⟩)⟩)))
     refine Ar F92_r11 ?_ (r1 0 (rp 7 7 0 (r1 5 Rn))) (z3 Sn) (z1 Sn)
     refine mV h fun v64 h=>ms h fun s65 h=>mC h fun u66 h67 h=>mT h fun u68 u69 h=>mI h fun i70 h=>mI h fun i71 h=>?_
     refine AWP.rgnD (by kernel_rfl) (by kernel_rfl) (F92_r12 rfl) ?_ (r1 0 (rp 7 7 0 (r2 8 5 Rn))) (z4 Sn) (z1 Sn)
     refine mN h (fun b72 o73 h=>mV h (fun v74 h=>mS h (fun a75 n76 c77 h=>mL h (fun l78 h=>⟨h.1,h.2.1,mN h.2.2 (fun b79 o80 h=>⟨h.1,mW h.2 fun h81 h=>?_⟩)⟩))))
     refine Ag F92_r13 ?_ (r2 0 5 Rn) (z2 Sn) Sn
     refine mN h fun b82 o83 h=>mV h fun v84 h=>mS h fun a85 n86 c87 h=>?_
     exact ⟨_,(z2 Sn),Sn,h⟩
    ·refine AWP.exit ?_
     refine Ar F92_r14 ?_ Rn Sn Sn
     refine AWP.ret ?_
     exact h
end
section
variable {e:Env} {x0:OA} {hp:HP} {K:Env→PV→HP→Prop}
abbrev R114 (p n:Nat):=RW Tryd.prog 13 [] (opsAt Tryd.f114 (pth p)) (List.range n)
theorem F114_r0:R114 2 1 e V0 hp K=
 K (upd e 2 (sB false)) V0 hp:= by kernel_rfl
theorem F114_r1:R114 5 11 (upd e 0 (sP x0)) V0 hp K=
 ite2 (Option.isNone x0) (K (w4 (w8 e 0 (sP x0) 3 (sP x0) 4 (sB ((Option.isNone x0))) 5 (sB true) 6 sU 7 sU 8 sU 9 sU) 10 sU 11 sU 12 (sB true) 2 (sB true)) V0 hp) (ptrN x0 fun b1 o2=>ldV (HP.cell hp b1 (o2+0)) fun v3=>slcV v3 fun a4 n5 c6=>K (w4 (w8 e 0 (sP x0) 3 (sP x0) 4 (sB ((Option.isNone x0))) 5 (sB false) 6 (sP x0) 7 (sQ b1 o2) 8 (sQ b1 (o2+0)) 9 (sS a4 n5 c6)) 10 (sI ((n5:Nat))) 11 (sB ((((n5:Nat):Int)==0))) 12 (sB ((((n5:Nat):Int)==0))) 2 (sB ((((n5:Nat):Int)==0)))) V0 hp):= by kernel_rfl
def F114 (x0:OA) (hp:HP) (K:Kh):Prop:=
  (ite2 (Option.isNone x0) (K (.bool true) hp) (ptrN x0 fun b1 o2=>ldV (HP.cell hp b1 (o2+0)) fun v3=>slcV v3 fun a4 n5 c6=>K (.bool (((n5:Nat):Int)==0)) hp))
noncomputable def F114_code:Code:=(.seq (.region 0 (opsAt Tryd.f114 (pth 2)) false) (.seq (.region 1 (opsAt Tryd.f114 (pth 5)) false) .ret))
theorem F114_body:Tryd.f114.body=some F114_code:=by kernel_rfl
theorem F114_ok (x0:OA) (hp:HP) (K:Kh) (h:F114 x0 hp K):CF Tryd.prog 114 [(.pointer x0)] hp K:=by
 refine .inl ⟨by kernel_rfl,AC.intro (N:=13) Tryd.func114 F114_body rfl (Nat.le_of_ble_eq_true rfl) ?_⟩
 unfold F114 at h
 refine Ar F114_r0 ?_ (r1 0 Rn) (z1 Sn) Sn
 refine Ar F114_r1 ?_ (r1 0 Rn) (z1 Sn) Sn
 refine mt h (fun h=>?_) (fun h=>?_)
 ·refine AWP.ret ?_
  exact h
 ·refine mN h fun b1 o2 h=>mV h fun v3 h=>mS h fun a4 n5 c6 h=>?_
  refine AWP.ret ?_
  exact h
end
section
variable {e E:Env} {x0:OA} {x1:ByteArray} {x4 x5:Int} {hp:HP} {K:Env→PV→HP→Prop}
abbrev R115 (p n:Nat):=RW Tryd.prog 49 [] (opsAt Tryd.f115 (pth p)) (List.range n)
theorem F115_r0:R115 2 2 e V0 hp K=
 K (w2 e 4 (sI 0) 5 (sI 0)) V0 hp:= by kernel_rfl
theorem F115_r1:R115 23 4 (w2 e 5 (sI x5) 4 (sI x4)) V0 hp K=
 K (w6 e 5 (sI x5) 4 (sI x4) 47 (sI x4) 48 (sI x5) 4 (sI x4) 5 (sI x5)) V0 hp:= by kernel_rfl
def F115_j2 (x4 x5:Int) (hp:HP) (K:Kh):Prop:=
  (K (.tuple ⟨[(.int .i64 x4),(.int .i64 x5)]⟩) hp)
theorem F115_r2:R115 587 10 (w2 e 4 (sI x4) 0 (sP x0)) V0 hp K=
 ptrN x0 fun b1 o2=>(ldV (HP.cell hp b1 (o2+0)) fun v3=>slcV v3 fun a4 n5 c6=>K (w4 (w8 e 4 (sI x4) 0 (sP x0) 38 (sI x4) 39 (sI ((wr (x4+1)))) 40 (sP x0) 41 (sQ b1 o2) 42 (sQ b1 (o2+0)) 43 (sS a4 n5 c6)) 44 (sI ((n5:Nat))) 45 (sI ((wr ((n5:Nat)-1)))) 46 (sI ((band .i64 (wr (x4+1)) (wr ((n5:Nat)-1))))) 4 (sI ((band .i64 (wr (x4+1)) (wr ((n5:Nat)-1)))))) V0 hp):= by kernel_rfl
theorem F115_r3:R115 459 3 (upd e 5 (sI x5)) V0 hp K=
 K (w4 e 5 (sI x5) 36 (sI x5) 37 (sI ((wr (x5+1)))) 5 (sI ((wr (x5+1))))) V0 hp:= by kernel_rfl
def F115_j5 (x0:OA) (x1:ByteArray) (x4 x5:Int) (x35:Bool) (hp:HP) (I4:(Int × Int)→HP→Prop) (K:Kh):Prop:=
  (ite2 x35 (ptrN x0 fun b1 o2=>ldV (HP.cell hp b1 (o2+0)) fun v3=>slcV v3 fun a4 n5 c6=>I4 ((band .i64 (IntKind.wrap .i64 (x4+1)) (IntKind.wrap .i64 ((n5:Nat)-1))),(IntKind.wrap .i64 (x5+1))) hp) (F115_j2 x4 x5 hp  K))
theorem F115_r4 (h:E=upd (w2 e 4 (sI x4) 1 (sT x1)) 0 (sP x0)):R115 267 20 E V0 hp K=
    (ptrN x0 fun b1 o2=>ldV (HP.cell hp b1 (o2+0)) fun v3=>slcV v3 fun a4 n5 c6=>(0≤x4)∧(x4<n5)∧(ptrN a4 fun b7 o8=>ldV (HP.cell hp b7 ((o8+Int.toNat x4*3)+2)) fun v9=>boolV v9 fun q10=>ite2 q10 (ptrN x0 fun b11 o12=>ldV (HP.cell hp b11 (o12+0)) fun v13=>slcV v13 fun a14 n15 c16=>(0≤x4)∧(x4<n15)∧(ptrN a14 fun b17 o18=>ldV (HP.cell hp b17 ((o18+Int.toNat x4*3)+0)) fun v19=>strV v19 fun s20=>K (w4 (w8 (w8 E 16 (sP x0) 17 (sQ b1 o2) 18 (sQ b1 (o2+0)) 19 (sS a4 n5 c6) 20 (sI x4) 21 (sQ b7 (o8+Int.toNat x4*3)) 22 (sQ b7 ((o8+Int.toNat x4*3)+2)) 23 (sB q10)) 24 (sB true) 25 (sP x0) 26 (sQ b11 o12) 27 (sQ b11 (o12+0)) 28 (sS a14 n15 c16) 29 (sI x4) 30 (sQ b17 (o18+Int.toNat x4*3)) 31 (sQ b17 ((o18+Int.toNat x4*3)+0))) 32 (sT s20) 33 (sT x1) 34 (sB ((!((ByteArray.toList s20)==(ByteArray.toList x1))))) 35 (sB ((!((ByteArray.toList s20)==(ByteArray.toList x1)))))) V0 hp)) (K (w4 (w8 (w8 E 16 (sP x0) 17 (sQ b1 o2) 18 (sQ b1 (o2+0)) 19 (sS a4 n5 c6) 20 (sI x4) 21 (sQ b7 (o8+Int.toNat x4*3)) 22 (sQ b7 ((o8+Int.toNat x4*3)+2)) 23 (sB q10)) 24 (sB false) 25 sU 26 sU 27 sU 28 sU 29 sU 30 sU 31 sU) 32 sU 33 sU 34 sU 35 (sB false)) V0 hp))):=by subst h; kernel_rfl
def F115_l4 (x0:OA) (x1:ByteArray) (K:Kh) (I4:(Int × Int)→HP→Prop) (x4 x5:Int) (hp:HP):Prop:=
  (ptrN x0 fun b7 o8=>ldV (HP.cell hp b7 (o8+0)) fun v9=>slcV v9 fun a10 n11 c12=>(0≤x4)∧(x4<n11)∧(ptrN a10 fun b13 o14=>ldV (HP.cell hp b13 ((o14+Int.toNat x4*3)+2)) fun v15=>boolV v15 fun q16=>ite2 q16 (ptrN x0 fun b17 o18=>ldV (HP.cell hp b17 (o18+0)) fun v19=>slcV v19 fun a20 n21 c22=>(0≤x4)∧(x4<n21)∧(ptrN a20 fun b23 o24=>ldV (HP.cell hp b23 ((o24+Int.toNat x4*3)+0)) fun v25=>strV v25 fun s26=>F115_j5 x0 x1 x4 x5 (!((ByteArray.toList s26)==(ByteArray.toList x1))) hp I4 K)) (F115_j5 x0 x1 x4 x5 false hp I4 K)))
def F115_j3 (x0:OA) (x1:ByteArray) (x4 x5:Int) (hp:HP) (K:Kh):Prop:=
  (LoopP (σ:=Int × Int) (fun I s hp=>F115_l4 x0 x1  K I s.1 s.2 hp) (x4,x5) hp)
theorem F115_r5:R115 19 1 e V0 hp K=
 K (upd e 5 (sI 1)) V0 hp:= by kernel_rfl
def F115_j1 (x0:OA) (x1:ByteArray) (x4:Int) (hp:HP) (K:Kh):Prop:=
  (F115_j3 x0 x1 x4 1 hp  K)
theorem F115_r6 {e:Env} {x0:OA} {x1:ByteArray} {hp:HP} {K:Env→PV→HP→Prop}:RW Tryd.prog 49 [] (opsAt Tryd.f115 (pth 5)) [0,1,2,3,4,5,6,7,8,9,10] (w2 e 1 (sT x1) 0 (sP x0)) V0 hp K=
 CF Tryd.prog 134 [(.string x1)] hp fun u1 h2=>(intV u1 .u32 fun i3=>ptrN x0 fun b4 o5=>ldV (HP.cell h2 b4 (o5+0)) fun v6=>slcV v6 fun a7 n8 c9=>K (w5 (w8 e 1 (sT x1) 0 (sP x0) 6 (sT x1) 7 (sV (.int .u32 i3)) 8 (sI ((wr (i3)))) 9 (sP x0) 10 (sQ b4 o5) 11 (sQ b4 (o5+0))) 12 (sS a7 n8 c9) 13 (sI ((n8:Nat))) 14 (sI ((wr ((n8:Nat)-1)))) 15 (sI ((band .i64 (wr (i3)) (wr ((n8:Nat)-1))))) 4 (sI ((band .i64 (wr (i3)) (wr ((n8:Nat)-1)))))) V0 h2):= by kernel_rfl
theorem F115_r7 {e:Env} {x0:OA} {x1:ByteArray} {hp:HP} {K:Env→PV→HP→Prop}:RW Tryd.prog 49 [] (opsAt Tryd.f115 (pth 5)) [0,3,4,5,6,1,2,7,8,9,10] (w2 e 1 (sT x1) 0 (sP x0)) V0 hp K=
 ptrN x0 fun b1 o2=>(ldV (HP.cell hp b1 (o2+0)) fun v3=>slcV v3 fun a4 n5 c6=>CF Tryd.prog 134 [(.string x1)] hp fun u7 h8=>intV u7 .u32 fun i9=>K (w5 (w8 e 1 (sT x1) 0 (sP x0) 6 (sT x1) 9 (sP x0) 10 (sQ b1 o2) 11 (sQ b1 (o2+0)) 12 (sS a4 n5 c6) 7 (sV (.int .u32 i9))) 8 (sI ((wr (i9)))) 13 (sI ((n5:Nat))) 14 (sI ((wr ((n5:Nat)-1)))) 15 (sI ((band .i64 (wr (i9)) (wr ((n5:Nat)-1))))) 4 (sI ((band .i64 (wr (i9)) (wr ((n5:Nat)-1)))))) V0 h8):= by kernel_rfl
def F115 (x0:OA) (x1:ByteArray) (hp:HP) (K:Kh):Prop:=
  ((CF Tryd.prog 134 [(.string x1)] hp fun u27 h28=>intV u27 .u32 fun i29=>ptrN x0 fun b30 o31=>ldV (HP.cell h28 b30 (o31+0)) fun v32=>slcV v32 fun a33 n34 c35=>F115_j1 x0 x1 (band .i64 (IntKind.wrap .i64 (i29)) (IntKind.wrap .i64 ((n34:Nat)-1))) h28  K)∧(ptrN x0 fun b36 o37=>ldV (HP.cell hp b36 (o37+0)) fun v38=>slcV v38 fun a39 n40 c41=>CF Tryd.prog 134 [(.string x1)] hp fun u42 h43=>intV u42 .u32 fun i44=>F115_j1 x0 x1 (band .i64 (IntKind.wrap .i64 (i44)) (IntKind.wrap .i64 ((n40:Nat)-1))) h43  K))
noncomputable abbrev o115 (k n:Nat):Code:=.region k (opsAt Tryd.f115 (pth n)) false
noncomputable def F115_code:Code:=(.seq (o115 0 2) (.seq (.region 1 (opsAt Tryd.f115 (pth 5)) true) (.seq (.seq (o115 2 19) (.block 0 (.loop (.seq (.seq (o115 3 267) (.cond (.tmp 35) .skip (.exit 0))) (.seq (.block 1 (o115 5 587)) (o115 4 459)))))) (.seq (o115 6 23) .ret))))
theorem F115_body:Tryd.f115.body=some F115_code:=by kernel_rfl
theorem F115_ok (x0:OA) (x1:ByteArray) (hp:HP) (K:Kh) (h:F115 x0 x1 hp K):CF Tryd.prog 115 [(.pointer x0),(.string x1)] hp K:=by
 refine .inl ⟨by kernel_rfl,AC.intro (N:=49) Tryd.func115 F115_body rfl (Nat.le_of_ble_eq_true rfl) ?_⟩
 unfold F115 at h
 refine Ar F115_r0 ?_ (r2 0 1 Rn) (z2 Sn) Sn
 refine As (fun env pv hp=>∃ x0 x1 x4,Sub (w3 E0 4 (sI x4) 1 (sT x1) 0 (sP x0)) env∧Sub V0 pv∧F115_j1 x0 x1 x4 hp  K) ?_ ?_
 ·refine AWP.rgnC (cf:=[(1,6)]) (c:=[([true],true,[0,1,2,3,4,5,6,7,8,9,10]),([false],true,[0,3,4,5,6,1,2,7,8,9,10])]) (by kernel_rfl) (by kernel_rfl) (by kernel_rfl) (by kernel_rfl) (allO_t (Eq.mpr F115_r6 ?_) (allO_t (Eq.mpr F115_r7 ?_) trivial)) (r2 0 1 Rn) (z2 Sn) Sn
  ·replace h:=h.1
   refine mC h fun u27 h28 h=>mI h fun i29 h=>mN h fun b30 o31 h=>mV h fun v32 h=>mS h fun a33 n34 c35 h=>?_
   exact ⟨_,_,_,(z3 Sn),Sn,h⟩
  ·replace h:=h.2
   refine mN h fun b36 o37 h=>mV h fun v38 h=>mS h fun a39 n40 c41 h=>mC h fun u42 h43 h=>mI h fun i44 h=>?_
   exact ⟨_,_,_,(z3 Sn),Sn,h⟩
 ·rintro env pv hp ⟨x0,x1,x4,he,hv,h⟩
  refine Ae ?_ (r3 0 1 4 Rn) he hv
  unfold F115_j1 at h
  refine As (fun env pv hp=>∃ x4 x5,Sub (w2 E0 5 (sI x5) 4 (sI x4)) env∧Sub V0 pv∧F115_j2 x4 x5 hp  K) ?_ ?_
  ·refine As (fun env pv hp=>∃ x0 x1 x4 x5,Sub (w4 E0 5 (sI x5) 4 (sI x4) 1 (sT x1) 0 (sP x0)) env∧Sub V0 pv∧F115_j3 x0 x1 x4 x5 hp  K) ?_ ?_
   ·refine Ag F115_r5 ?_ (r3 0 1 4 Rn) (z3 Sn) Sn
    exact ⟨_,_,_,_,(z4 Sn),Sn,h⟩
   ·rintro env pv hp ⟨x0,x1,x4,x5,he,hv,h⟩
    refine Ae ?_ (r4 0 1 4 5 Rn) he hv
    unfold F115_j3 at h
    refine AWP.block (AWP.loop (σ:=Int × Int) _ (fun s=>w4 E0 5 (sI (s.2)) 4 (sI (s.1)) 1 (sT x1) 0 (sP x0)) (fun s=>V0) (x4,x5) h (fun s=>r4 0 1 4 5 Rn) (z4 Sn) Sn ?_)
    intro I4 s hp h
    obtain ⟨x4,x5⟩:=s
    replace h:F115_l4 x0 x1  K I4 x4 x5 hp:=h
    unfold F115_l4 at h
    refine Aq (As (fun env pv hp=>∃ x4 x5 x35,Sub (w5 E0 35 (sB x35) 5 (sI x5) 4 (sI x4) 1 (sT x1) 0 (sP x0)) env∧Sub V0 pv∧F115_j5 x0 x1 x4 x5 x35 hp I4 K) ?_ ?_)
    ·refine Ag (F115_r4 rfl) ?_ (r4 0 1 4 5 Rn) (z4 Sn) Sn
     refine mN h (fun b7 o8 h=>mV h (fun v9 h=>mS h (fun a10 n11 c12 h=>⟨h.1,h.2.1,mN h.2.2 fun b13 o14 h=>mV h fun v15 h=>mB h fun q16 h=>?_⟩)))
     refine mt h (fun h=>?_) (fun h=>?_)
     ·refine mN h (fun b17 o18 h=>mV h (fun v19 h=>mS h (fun a20 n21 c22 h=>⟨h.1,h.2.1,mN h.2.2 fun b23 o24 h=>mV h fun v25 h=>ms h fun s26 h=>?_⟩)))
      exact ⟨_,_,_,(z5 Sn),Sn,h⟩
     ·exact ⟨_,_,_,(z5 Sn),Sn,h⟩
    ·rintro env pv hp ⟨x4,x5,x35,he,hv,h⟩
     refine Ae ?_ (r5 0 1 4 5 35 Rn) he hv
     unfold F115_j5 at h
     refine Ac h rfl (fun h=>?_) (fun h=>?_)
     ·refine AWP.skip (Aq (AWP.block (Ag F115_r2 ?_ (r4 0 4 1 5 Rn) (z4 Sn) Sn)))
      refine mN h fun b1 o2 h=>mV h fun v3 h=>mS h fun a4 n5 c6 h=>?_
      refine Ag F115_r3 ?_ (r4 5 0 1 4 Rn) (z4 Sn) Sn
      exact ⟨_,(z4 Sn),Sn,h⟩
     ·refine AWP.exit ?_
      exact ⟨_,_,(z2 Sn),Sn,h⟩
  ·rintro env pv hp ⟨x4,x5,he,hv,h⟩
   refine Ae ?_ (r2 4 5 Rn) he hv
   unfold F115_j2 at h
   refine Ar F115_r1 ?_ (r2 4 5 Rn) (z2 Sn) Sn
   refine AWP.ret ?_
   exact h
end
section
variable {e E:Env} {x0:ByteArray} {x3 x5:Int} {x7 x8:Value} {hp:HP} {K:Env→PV→HP→Prop}
abbrev R134 (p n:Nat):=RW Tryd.prog 17 [] (opsAt Tryd.f134 (pth p)) (List.range n)
theorem F134_r0:R134 2 1 e V0 hp K=
 K (upd e 2 (sV (.int .u32 0))) V0 hp:= by kernel_rfl
theorem F134_r1:R134 5 1 e V0 hp K=
 K (upd e 3 (sV (.int .u32 2166136261))) V0 hp:= by kernel_rfl
theorem F134_r2:R134 23 2 (upd e 3 (sV (.int .u32 x3))) V0 hp K=
 K (w3 e 3 (sV (.int .u32 x3)) 16 (sV (.int .u32 x3)) 2 (sV (.int .u32 x3))) V0 hp:= by kernel_rfl
def F134_j1 (x3:Int) (hp:HP) (K:Kh):Prop:=
  (K (.int .u32 x3) hp)
theorem F134_r3:R134 139 2 (upd e 7 (sV x7)) V0 hp K=
 opS Tryd.prog (Instr.next x7 true 0) hp fun u1 h2=>(tupI u1 0 fun v3=>boolV v3 fun q4=>K (w3 e 7 (sV x7) 8 (sV u1) 9 (sB q4)) V0 h2):= by kernel_rfl
theorem F134_r4:R134 1227 2 (upd e 8 (sV x8)) V0 hp K=
    (tupI x8 2 fun v1=>intV v1 .i32 fun i2=>K (w3 e 8 (sV x8) 10 (sV (.int .i32 i2)) 5 (sV (.int .i32 i2))) V0 hp):=by kernel_rfl
theorem F134_r5 (h:E=upd (upd e 5 (sV (.int .i32 x5))) 3 (sV (.int .u32 x3))):R134 1739 6 E V0 hp K=
 K (w6 E 11 (sV (.int .u32 x3)) 12 (sV (.int .i32 x5)) 13 (sV (.int .u32 (IntKind.wrap .u32 (x5)))) 14 (sV (.int .u32 (bxor .u32 x3 (IntKind.wrap .u32 (x5))))) 15 (sV (.int .u32 (IntKind.wrap .u32 ((bxor .u32 x3 (IntKind.wrap .u32 (x5)))*16777619)))) 3 (sV (.int .u32 (IntKind.wrap .u32 ((bxor .u32 x3 (IntKind.wrap .u32 (x5)))*16777619))))) V0 hp:= by subst h; kernel_rfl
def F134_l3 (x7:Value) (K:Kh) (I3:(Int)→HP→Prop) (x3:Int) (hp:HP):Prop:=
  (opS Tryd.prog (Instr.next x7 true 0) hp fun u1 h2=>tupI u1 0 fun v3=>boolV v3 fun q4=>ite2 q4 (tupI u1 2 fun v5=>intV v5 .i32 fun i6=>I3 (IntKind.wrap .u32 ((bxor .u32 x3 (IntKind.wrap .u32 (i6)))*16777619)) h2) (F134_j1 x3 h2  K))
def F134_j2 (x3:Int) (x7:Value) (hp:HP) (K:Kh):Prop:=
  (LoopP (σ:=Int) (fun I s hp=>F134_l3 x7  K I s hp) x3 hp)
theorem F134_r6:R134 19 2 (upd e 0 (sT x0)) V0 hp K=
 opS Tryd.prog (Instr.range 9 (.string x0)) hp fun u1 h2=>(K (w3 e 0 (sT x0) 6 (sT x0) 7 (sV u1)) V0 h2):= by kernel_rfl
def F134 (x0:ByteArray) (hp:HP) (K:Kh):Prop:=
  (opS Tryd.prog (Instr.range 9 (.string x0)) hp fun u7 h8=>F134_j2 2166136261 u7 h8  K)
noncomputable abbrev o134 (k n:Nat):Code:=.region k (opsAt Tryd.f134 (pth n)) false
noncomputable def F134_code:Code:=(.seq (o134 0 2) (.seq (o134 1 5) (.seq (.seq (o134 2 19) (.block 0 (.loop (.seq (o134 3 139) (.seq (.cond (.tmp 9) .skip (.exit 0)) (.block 1 (.seq (o134 4 1227) (o134 5 1739)))))))) (.seq (o134 6 23) .ret))))
theorem F134_body:Tryd.f134.body=some F134_code:=by kernel_rfl
theorem F134_ok (x0:ByteArray) (hp:HP) (K:Kh) (h:F134 x0 hp K):CF Tryd.prog 134 [(.string x0)] hp K:=by
 refine .inl ⟨by kernel_rfl,AC.intro (N:=17) Tryd.func134 F134_body rfl (Nat.le_of_ble_eq_true rfl) ?_⟩
 unfold F134 at h
 refine Ar F134_r0 ?_ (r1 0 Rn) (z1 Sn) Sn
 refine Ar F134_r1 ?_ (r1 0 Rn) (z1 Sn) Sn
 refine As (fun env pv hp=>∃ x3,Sub (upd E0 3 (sV (.int .u32 x3))) env∧Sub V0 pv∧F134_j1 x3 hp  K) ?_ ?_
 ·refine As (fun env pv hp=>∃ x3 x7,Sub (w2 E0 7 (sV x7) 3 (sV (.int .u32 x3))) env∧Sub V0 pv∧F134_j2 x3 x7 hp  K) ?_ ?_
  ·refine Ag F134_r6 ?_ (r2 0 3 Rn) (z2 Sn) Sn
   refine mO h fun u7 h8 h=>?_
   exact ⟨_,_,(z2 Sn),Sn,h⟩
  ·rintro env pv hp ⟨x3,x7,he,hv,h⟩
   refine Ae ?_ (r2 3 7 Rn) he hv
   unfold F134_j2 at h
   refine AWP.block (AWP.loop (σ:=Int) _ (fun s=>w2 E0 7 (sV x7) 3 (sV (.int .u32 s))) (fun s=>V0) x3 h (fun s=>r2 3 7 Rn) (z2 Sn) Sn ?_)
   intro I3 x3 hp h
   replace h:F134_l3 x7  K I3 x3 hp:=h
   unfold F134_l3 at h
   refine Ar F134_r3 ?_ (r2 7 3 Rn) (z2 Sn) Sn
   refine mO h fun u1 h2 h=>tupI_mono h fun v3 h=>mB h fun q4 h=>?_
   refine Aq (Ac h rfl (fun h=>?_) (fun h=>?_))
   ·refine AWP.skip (AWP.block (Ar F134_r4 ?_ (r3 8 3 7 Rn) (z3 Sn) Sn))
    refine tupI_mono h fun v5 h=>mI h fun i6 h=>?_
    refine Ag (F134_r5 rfl) ?_ (r3 3 5 7 Rn) (z3 Sn) Sn
    exact ⟨_,(z2 Sn),Sn,h⟩
   ·refine AWP.exit ?_
    exact ⟨_,(z1 Sn),Sn,h⟩
 ·rintro env pv hp ⟨x3,he,hv,h⟩
  refine Ae ?_ (r1 3 Rn) he hv
  unfold F134_j1 at h
  refine Ar F134_r2 ?_ (r1 3 Rn) (z1 Sn) Sn
  refine AWP.ret ?_
  exact h
end
end Go.Proofs
set_option linter.unusedVariables false
set_option linter.unusedSimpArgs false
set_option maxRecDepth 20000
namespace Go.Proofs
open Go Go.HL
/-- A slot: a key and what it stands for, or nothing. -/
abbrev Slot:=Option (ByteArray × Int)
def slv:Slot→List Value
  | none=>[.string ⟨#[]⟩,.int .i64 0,.bool false]
  | some (k,v)=>[.string k,.int .i64 v,.bool true]
theorem slv_len (s:Slot):(slv s).length=3:=by cases s <;> rfl
theorem slv_one (s:Slot):(slv s).all one=true:=by cases s <;> rfl
/-- The hash: rounds from a place on. -/
def hashN (s:ByteArray):Nat→Nat→Int→Int
  | 0,_,h=>h
  | n+1,p,h=>if p<s.size then hashN s n (p+(Utf8.decode s p).2) (IntKind.wrap .u32 (bxor .u32 h (IntKind.wrap .u32 ((Utf8.decode s p).1:Int))*16777619)) else h
def hashF (s:ByteArray):Int:=hashN s s.size 0 2166136261
theorem wrap_u32_rng (x:Int):0≤IntKind.wrap .u32 x∧IntKind.wrap .u32 x<4294967296:=by
  have e:IntKind.wrap .u32 x=x % 4294967296:=by simp [IntKind.wrap,IntKind.bits,IntKind.signed]
  rw [e]; omega
theorem hashN_rng (s:ByteArray):∀ (n p:Nat) (h:Int),0≤h∧h<4294967296→0≤hashN s n p h∧hashN s n p h<4294967296
  | 0,_,_,hh=>hh
  | n+1,p,h,hh=>by
    unfold hashN
    split
    · exact hashN_rng s n _ _ (wrap_u32_rng _)
    · exact hh
theorem hashF_rng (s:ByteArray):0≤hashF s∧hashF s<4294967296:=hashN_rng s _ _ _ (by omega)
theorem C134 {s:ByteArray} {hp:HP} {K:Value→HP→Prop} (hK:K (.int .u32 (hashF s)) hp):CF Tryd.prog 134 [.string s] hp K:=by
  refine CF.drop (F134_ok s hp _ ?_)
  unfold F134
  refine opS_rangeS (by kernel_rfl) fun it hit=>?_
  unfold F134_j2
  have s0:=HSub.set_fresh hp (.obj (.stringIter s 0)) hit
  refine LoopP.by (J:=fun k (x:Int) hp'=>∃ p e,hp'=hp.set it (.obj (.stringIter s p))∧hashN s k p x=hashF s∧s.size≤p+k) ?_ (n:=s.size) ⟨0,0,rfl,rfl,by omega⟩
  rintro I k x hp' ⟨p,_,rfl,hh,hk⟩ hI
  unfold F134_l3
  refine opS_nextS (s:=s) (pos:=p) (HP.set_eq ..) (fun hend=>?_) (fun hgo=>?_)
  · have t0:∀ c:Value→Prop,tupI (.tuple #[.bool false]) 0 c=c (.bool false):=fun _=>rfl
    rw [t0,boolV_bool,ite2_false]
    unfold F134_j1
    have:hashN s k p x=x:=by cases k with | zero=>rfl | succ k=>rw [hashN,if_neg hend]
    rw [← hh,this] at hK
    exact ⟨hp,HSub.up (HSub.refl hp) hit _,hK⟩
  · have t0:∀ (a b:Value) (c:Value→Prop),tupI (.tuple #[.bool true,a,b]) 0 c=c (.bool true):=fun _ _ _=>rfl
    have t2:∀ (a b:Value) (c:Value→Prop),tupI (.tuple #[.bool true,a,b]) 2 c=c b:=fun _ _ _=>rfl
    rw [t0,boolV_bool,ite2_true,t2,intV_int]
    have hd:=decode_pos s p
    cases k with
    | zero=>omega
    | succ k=>
      rw [hashN,if_pos hgo] at hh
      rw [HP.set_set]
      exact hI k _ _ (by omega) ⟨_,0,rfl,hh,by omega⟩
/-- The table that slots make. -/
def tbl (A:List Slot):Tb ByteArray Int:=fun p=>(A[p]?).join
theorem tbl_at {A:List Slot} {p:Nat} (h:p<A.length):tbl A p=A[p]:=by unfold tbl; rw [List.getElem?_eq_getElem h]; rfl
theorem tbl_set {A:List Slot} {p:Nat} (h:p<A.length) (s:Slot):tbl (A.set p s)=tset (tbl A) p s:=by
  funext q
  unfold tbl tset
  rw [List.getElem?_set]
  by_cases hq:p=q
  · subst hq; simp [h]
  · rw [if_neg hq,if_neg (fun e=>hq e.symm)]
/-- Where a key begins. -/
def hx (N:Nat) (k:ByteArray):Nat:=(hashF k).toNat % N
/-- An index in memory: x itself, its row of slots. -/
def IdxM (hq:HP) (x b N n c:Nat) (A:List Slot):Prop:=
  hq x=.cells 179 [.slice (some ⟨b,0,none⟩) N N,.int .i64 n,.int .i64 c] 0∧hq b=.cells 197 (A.flatMap slv) 0∧A.length=N
section
variable {hq:HP} {x b N n c:Nat} {A:List Slot} {K:Value→HP→Prop}
theorem IdxM.ne (h:IdxM hq x b N n c A):x≠b:=fun e=>by
  have h1:=h.1; have h2:=h.2.1
  rw [e,h2] at h1; cases h1
theorem IdxM.slot (h:IdxM hq x b N n c A) {i:Nat} (hi:i<N):hq.cellN b (i*3) 3=some (slv (A[i]'(by rw [h.2.2]; exact hi))):=by
  rw [HP.cellN_of h.2.1]
  exact flat_at slv_len _
theorem IdxM.cells (h:IdxM hq x b N n c A) {i:Nat} (hi:i<N) {t:Nat} {v:Value} (hv:(slv (A[i]'(by rw [h.2.2]; exact hi)))[t]?=some v):hq.cell b (i*3+t)=some v:=HP.cell_cellN (h.slot hi) hv
theorem IdxM.setSlot (h:IdxM hq x b N n c A) {i:Nat} (hi:i<N) (s:Slot) {X:HP→Prop} (hX:∀ hq',IdxM hq' x b N n c (A.set i s)→X hq'):hq.stN b (i*3) (slv s) X:=by
  have hA:i<A.length:=by rw [h.2.2]; exact hi
  refine HP.stN_at h.2.1 ?_ (slv_one s) (hX _ ⟨?_,?_,?_⟩)
  · rw [flat_len slv_len,slv_len]; omega
  · rw [HP.set_ne _ _ h.ne]; exact h.1
  · rw [HP.set_eq,flat_splice slv_len s hA]
  · rw [List.length_set]; exact h.2.2
theorem IdxM.setLen (h:IdxM hq x b N n c A) {c':Nat} {v:Int} (hv:v=c') {X:HP→Prop} (hX:∀ hq',IdxM hq' x b N n c' A→X hq'):hq.st x 2 (.int .i64 v) X:=by
  subst hv
  refine HP.st_at h.1 (by simp) (hX _ ⟨?_,?_,h.2.2⟩)
  · rw [HP.set_eq]; rfl
  · rw [HP.set_ne _ _ h.ne.symm]; exact h.2.1
theorem IdxM.c0 (h:IdxM hq x b N n c A):hq.cell x 0=some (.slice (some ⟨b,0,none⟩) N N):=HP.cell_of h.1
theorem IdxM.c1 (h:IdxM hq x b N n c A):hq.cell x 1=some (.int .i64 n):=HP.cell_of h.1
theorem IdxM.c2 (h:IdxM hq x b N n c A):hq.cell x 2=some (.int .i64 c):=HP.cell_of h.1
theorem C114 (h:IdxM hq x b N n c A) (h0:0<N) (hK:K (.bool false) hq):CF Tryd.prog 114 [ptr x 0] hq K:=by
  refine F114_ok _ hq K ?_
  unfold F114
  have e:(((N:Nat):Int)==0)=false:=by
    rw [beq_eq_false_iff_ne]; omega
  simp only [Option.isNone_some,ite2_false,ptrN_some,Nat.zero_add,h.c0,ldV_some,slcV_slice,e]
  exact hK
theorem mask_hash {j:Nat} (hj:j≤40) (k:ByteArray):band .i64 (IntKind.wrap .i64 (hashF k)) (IntKind.wrap .i64 (((2 ^ j:Nat):Int)-1))=((hx (2 ^ j) k:Nat):Int):=by
  have h1:=hashF_rng k
  have h2:(2 ^ j:Nat)≤2 ^ 40:=Nat.pow_le_pow_right (by omega) hj
  have e40:(2 ^ 40:Nat)=1099511627776:=rfl
  have hp:0<(2 ^ j:Nat):=Nat.pos_of_ne_zero (by simp)
  rw [w64 (n:=hashF k) (by omega) (by omega),w64 (n:=((2 ^ j:Nat):Int)-1) (by omega) (by omega)]
  exact band_mask (by omega) (by omega) hj
theorem mask_next {j i:Nat} (hj:j≤40) (hi:i<2 ^ j):band .i64 (IntKind.wrap .i64 ((i:Int)+1)) (IntKind.wrap .i64 (((2 ^ j:Nat):Int)-1))=((if i+1<2 ^ j then i+1 else 0:Nat):Int):=by
  have h2:(2 ^ j:Nat)≤2 ^ 40:=Nat.pow_le_pow_right (by omega) hj
  have e40:(2 ^ 40:Nat)=1099511627776:=rfl
  have hp:0<(2 ^ j:Nat):=Nat.pos_of_ne_zero (by simp)
  rw [w64 (n:=(i:Int)+1) (by omega) (by omega),w64 (n:=((2 ^ j:Nat):Int)-1) (by omega) (by omega),band_mask (by omega) (by omega) hj]
  congr 1
  have e:((i:Int)+1).toNat=i+1:=by omega
  rw [e]
  split
  · exact Nat.mod_eq_of_lt ‹_›
  · have:i+1=2 ^ j:=by omega
    rw [this,Nat.mod_self]
theorem C115 {j:Nat} {key:ByteArray} (h:IdxM hq x b N n c A) (hN:N=2 ^ j) (hj:j≤40) (hr:∃ z,z<N∧tbl A z=none)
    (hK:∀ (p:Nat) (l:Int),p<N→HL.Fd N (hx N) (tbl A) key p→K (.tuple ⟨[.int .i64 p,.int .i64 l]⟩) hq):CF Tryd.prog 115 [ptr x 0,.string key] hq K:=by
  refine F115_ok _ key hq K ?_
  unfold F115
  have hp:0<N:=by subst hN; exact Nat.pos_of_ne_zero (by simp)
  have hH:hx N key<N:=Nat.mod_lt _ hp
  have main:F115_j1 (some ⟨x,0,none⟩) key ((hx N key:Nat):Int) hq K:=by
    unfold F115_j1 F115_j3
    obtain ⟨z,hz,hzn⟩:=hr
    refine LoopP.by (J:=fun k (s:Int × Int) hp=>hp=hq∧∃ u:Nat,s.1=(nx N (hx N key) u:Nat)∧u+k=ds N (hx N key) z∧∀ v,v<u→∃ y,tbl A (nx N (hx N key) v)=some y∧y.1≠key) ?_
      (n:=ds N (hx N key) z) ⟨rfl,0,by rw [nx_zero hH],by omega,fun v hv=>by omega⟩
    rintro I k ⟨i,l⟩ hp' ⟨rfl,u,hi,huk,hall⟩ hI
    simp only at hi
    subst hi
    unfold F115_l4
    have hdz:ds N (hx N key) z<N:=ds_lt hH hz
    have hiN:nx N (hx N key) u<N:=nx_lt hH (by omega)
    have hds:ds N (hx N key) (nx N (hx N key) u)=u:=ds_nx hH (by omega)
    have hA:nx N (hx N key) u<A.length:=by rw [h.2.2]; exact hiN
    have hta:=tbl_at hA
    simp only [ptrN_some,Nat.zero_add,h.c0,ldV_some,slcV_slice,Int.toNat_natCast]
    refine ⟨by omega,by omega,?_⟩
    have stop:(∀ y,tbl A (nx N (hx N key) u)=some y→y.1=key)→K (.tuple ⟨[.int .i64 (nx N (hx N key) u:Nat),.int .i64 l]⟩) hp':=fun hs=>by
      refine hK _ _ hiN ⟨hiN,fun v hv=>?_,hs⟩
      rw [hds] at hv
      exact hall v hv
    cases hs:A[nx N (hx N key) u]'hA with
    | none=>
      have e2:=h.cells hiN (t:=2) (v:=.bool false) (by rw [hs]; rfl)
      simp only [e2,ldV_some,boolV_bool,ite2_false]
      unfold F115_j5 F115_j2
      rw [ite2_false]
      exact stop fun y hy=>by rw [hta,hs] at hy; cases hy
    | some kv=>
      obtain ⟨k',v'⟩:=kv
      have e2:=h.cells hiN (t:=2) (v:=.bool true) (by rw [hs]; rfl)
      have e0:=h.cells hiN (t:=0) (v:=.string k') (by rw [hs]; rfl)
      simp only [e2,ldV_some,boolV_bool,ite2_true]
      refine ⟨by omega,by omega,?_⟩
      simp only [Nat.add_zero] at e0 ⊢
      simp only [e0,ldV_some,strV_string,str_eq]
      unfold F115_j5
      by_cases hk:k'=key
      · rw [decide_eq_true hk,Bool.not_true,ite2_false]
        unfold F115_j2
        exact stop fun y hy=>by rw [hta,hs] at hy; cases hy; exact hk
      · rw [decide_eq_false hk,Bool.not_false,ite2_true]
        simp only [ptrN_some,Nat.zero_add,h.c0,ldV_some,slcV_slice]
        have hne:u≠ds N (hx N key) z:=fun e=>by
          have h1:tbl A (nx N (hx N key) u)=none:=by rw [e,nx_ds hH hz]; exact hzn
          rw [hta,hs] at h1; cases h1
        have hm:=mask_next (i:=nx N (hx N key) u) hj (hN▸hiN)
        rw [← hN] at hm
        rw [hm,← nx_succ hH (by omega)]
        refine hI (k-1) _ _ (by omega) ⟨rfl,u+1,rfl,by omega,fun v hv=>?_⟩
        by_cases hvu:v=u
        · rw [hvu]; exact ⟨_,by rw [hta,hs],hk⟩
        · exact hall v (by omega)
  have hmk:=mask_hash hj key
  rw [← hN] at hmk
  constructor
  · refine C134 ?_
    simp only [intV_int,ptrN_some,Nat.zero_add,h.c0,ldV_some,slcV_slice,hmk]
    exact main
  · simp only [ptrN_some,Nat.zero_add,h.c0,ldV_some,slcV_slice]
    refine C134 ?_
    simp only [intV_int,hmk]
    exact main
end
end Go.Proofs
namespace Go.Exp
open Go.Sort (SWO)
/-- A thing: which, when it is due. -/
abbrev Th:=Int × Int
/-- Is one ahead of another? -/
def tlt (x y:Th):Bool:=decide (x.2<y.2)||(decide (x.2=y.2)&&decide (x.1<y.1))
theorem tlt_iff {x y:Th}:tlt x y=true↔x.2<y.2∨(x.2=y.2∧x.1<y.1):=by simp [tlt]
theorem tlt_false {x y:Th}:tlt x y=false↔¬ (x.2<y.2∨(x.2=y.2∧x.1<y.1)):=by rw [← tlt_iff]; simp
theorem swo_tlt:SWO tlt where
  irrefl x:=by rw [tlt_false]; omega
  trans x y z:=by simp only [tlt_iff]; omega
  ntrans x y z:=by simp only [tlt_false]; omega
/-- Things in their order, each once. -/
def Ord (w:List Th):Prop:=w.Pairwise (fun x y=>tlt x y=true)∧(w.map (·.1)).Nodup
/-- One more, where it stands. -/
def insW (x:Th) (w:List Th):List Th:=w.takeWhile (tlt · x)++x::w.dropWhile (tlt · x)
def dropW (id:Int) (w:List Th):List Th:=w.filter (fun t=>t.1 != id)
def setW (id due:Int) (w:List Th):List Th:=insW (id,due) (dropW id w)
end Go.Exp
set_option linter.unusedVariables false
set_option linter.unusedSectionVars false
namespace Go.HL
open Go
open Go.Exp (Th tlt swo_tlt Ord setW dropW insW)
section
variable {α κ ν:Type} [DecidableEq κ]
theorem getL_mapK (g:α→κ) (f:α→ν) (k:κ):∀ L:List α,getL k (L.map fun x=>(g x,f x))=(L.find? fun x=>decide (g x=k)).map f
  | []=>rfl
  | x::L=>by
    simp only [List.map_cons,getL,List.find?_cons]
    by_cases h:k=g x
    · rw [if_pos h,decide_eq_true h.symm]; rfl
    · rw [if_neg h,decide_eq_false (fun e=>h e.symm),getL_mapK g f k L]
theorem delL_mapK (g:α→κ) (f:α→ν) (k:κ):∀ {L:List α},(L.map g).Nodup→delL k (L.map fun x=>(g x,f x))=(L.filter fun x=>decide (g x≠k)).map fun x=>(g x,f x)
  | [],_=>rfl
  | x::L,h=>by
    rw [List.map_cons,List.nodup_cons] at h
    simp only [List.map_cons,delL,List.filter_cons]
    by_cases hk:k=g x
    · have hd:decide (g x≠k)=false:=by simp [hk]
      rw [if_pos hk,hd]
      simp only [Bool.false_eq_true,if_false]
      congr 1
      refine (List.filter_eq_self.2 fun y hy=>?_).symm
      have:g y≠k:=fun e=>h.1 (List.mem_map.2 ⟨y,hy,by rw [e,hk]⟩)
      simpa using this
    · have hd:decide (g x≠k)=true:=by simpa using fun e=>hk e.symm
      rw [if_neg hk,hd,if_pos rfl,List.map_cons,delL_mapK g f k h.2]
theorem len_del_mem {k:κ}:∀ {l:List (κ × ν)},k∈l.map (·.1)→(delL k l).length+1=l.length
  | [],h=>by simp at h
  | p::l,h=>by
    by_cases hk:k=p.1
    · simp [delL,hk]
    · have h':k∈l.map (·.1):=by
        rw [List.map_cons] at h
        rcases List.mem_cons.1 h with e | e
        · exact absurd e hk
        · exact e
      simp only [delL,hk,if_false,List.length_cons]
      rw [len_del_mem h']
theorem find_none {p:α→Bool} {L:List α}:L.find? p=none↔∀ x∈L,p x=false:=by
  rw [List.find?_eq_none]; simp
theorem find_of {g:α→κ} {L:List α} {x:α} (hn:(L.map g).Nodup) (hx:x∈L):(L.find? fun y=>decide (g y=g x))=some x:=by
  induction L with
  | nil=>cases hx
  | cons y L ih=>
    rw [List.map_cons,List.nodup_cons] at hn
    rw [List.find?_cons]
    rcases List.mem_cons.1 hx with rfl | hx
    · simp
    · have:g y≠g x:=fun e=>hn.1 (e▸List.mem_map.2 ⟨x,hx,rfl⟩)
      rw [decide_eq_false this]
      exact ih hn.2 hx
theorem inj_of {g:α→κ} {L:List α} {x y:α} (hn:(L.map g).Nodup) (hx:x∈L) (hy:y∈L) (h:g x=g y):x=y:=by
  have a:=find_of hn hx
  rw [h,find_of hn hy] at a
  exact (Option.some.inj a).symm
theorem find_mem {p:α→Bool} {L:List α} {x:α} (h:L.find? p=some x):x∈L∧p x=true:=⟨List.mem_of_find?_eq_some h,List.find?_some h⟩
theorem filter_congr_key {g:α→κ} {f:α→ν} [DecidableEq ν] {L:List α} {x:α} (hg:(L.map g).Nodup) (hf:(L.map f).Nodup) (hx:x∈L) :
    (L.filter fun y=>decide (g y≠g x))=L.filter fun y=>decide (f y≠f x):=by
  refine List.filter_congr fun y hy=>?_
  by_cases h:y=x
  · subst h; simp
  · have h1:g y≠g x:=fun e=>h (inj_of hg hy hx e)
    have h2:f y≠f x:=fun e=>h (inj_of hf hy hx e)
    simp [h1,h2]
end
section
variable {α:Type} {id due:α→Int}
end
end Go.HL
set_option linter.unusedVariables false
set_option linter.unusedSimpArgs false
set_option maxRecDepth 20000
namespace Go.Proofs
open Go Go.HL
/-- An index x of at most n that holds M. -/
def IdxR (hq:HP) (x n:Nat) (M:List (ByteArray × Int)):Prop:=
  ∃ (b j:Nat) (A:List Slot),IdxM hq x b (2 ^ j) n M.length A∧j≤40∧n+n≤2 ^ j∧8≤2 ^ j∧M.length≤n∧HL.Good (2 ^ j) (hx (2 ^ j)) (tbl A)∧HL.Uniq (2 ^ j) (tbl A)∧HL.TM (2 ^ j) (tbl A) M
section
variable {hq:HP} {x n:Nat} {M:List (ByteArray × Int)} {K:Value→HP→Prop}
theorem IdxR.fd {key:ByteArray} {L:Nat} {A:List Slot} {p:Nat} (hg:HL.Good L (hx L) (tbl A)) (hu:HL.Uniq L (tbl A)) (hm:HL.TM L (tbl A) M) (h0:0<L) (hf:HL.Fd L (hx L) (tbl A) key p):(tbl A p).map (·.2)=getL key M:=
  HL.Fd.get (Nat.mod_lt _ h0) hg hu hm hf
theorem C84 {key:ByteArray} (h:IdxR hq x n M) (hK:K (.tuple ⟨[.int .i64 ((getL key M).getD 0),.bool (getL key M).isSome]⟩) hq):CF Tryd.prog 84 [ptr x 0,.string key] hq K:=by
  obtain ⟨b,j,A,hM,hj,hn2,h8,hl,hg,hu,hm⟩:=h
  refine F84_ok _ key hq K ?_
  unfold F84
  refine C114 hM (by omega) ?_
  rw [boolV_bool,ite2_false]
  refine C115 hM rfl hj (room_of hu hm (by omega)) fun p l hp hf=>?_
  have hA:p<A.length:=by rw [hM.2.2]; exact hp
  have hget:=IdxR.fd hg hu hm (by omega) hf
  rw [tbl_at hA] at hget
  simp only [tup2V_mk,intV_int,ptrN_some,Nat.zero_add,hM.c0,ldV_some,slcV_slice,Int.toNat_natCast]
  refine ⟨by omega,by omega,?_⟩
  cases hs:A[p]'hA with
  | none=>
    have e1:=hM.cells hp (t:=1) (v:=.int .i64 0) (by rw [hs]; rfl)
    have e2:=hM.cells hp (t:=2) (v:=.bool false) (by rw [hs]; rfl)
    simp only [e1,e2,ldV_some,intV_int,boolV_bool]
    refine ⟨by omega,by omega,?_⟩
    rw [hs] at hget
    rw [← hget] at hK
    exact hK
  | some kv=>
    obtain ⟨k',v'⟩:=kv
    have e1:=hM.cells hp (t:=1) (v:=.int .i64 v') (by rw [hs]; rfl)
    have e2:=hM.cells hp (t:=2) (v:=.bool true) (by rw [hs]; rfl)
    simp only [e1,e2,ldV_some,intV_int,boolV_bool]
    refine ⟨by omega,by omega,?_⟩
    rw [hs] at hget
    rw [← hget] at hK
    exact hK
theorem C86 {key:ByteArray} {v:Int} (h:IdxR hq x n M) (hnew:getL key M=none) (hlen:M.length<n) (hn:n≤65536)
    (hK:∀ hq',IdxR hq' x n (M++[(key,v)])→K (.int .i64 0) hq'):CF Tryd.prog 86 [ptr x 0,.string key,.int .i64 v] hq K:=by
  obtain ⟨b,j,A,hM,hj,hn2,h8,hl,hg,hu,hm⟩:=h
  refine F86_ok _ key v hq K ?_
  unfold F86
  refine C114 hM (by omega) ?_
  rw [boolV_bool,ite2_false]
  refine C115 hM rfl hj (room_of hu hm (by omega)) fun p l hp hf=>?_
  have hA:p<A.length:=by rw [hM.2.2]; exact hp
  have hget:=IdxR.fd hg hu hm (by omega) hf
  rw [tbl_at hA,hnew] at hget
  have hs:A[p]'hA=none:=by
    cases hs:A[p]'hA with
    | none=>rfl
    | some kv=>rw [hs] at hget; cases hget
  have e2:=hM.cells hp (t:=2) (v:=.bool false) (by rw [hs]; rfl)
  simp only [tup2V_mk,intV_int,ptrN_some,Nat.zero_add,hM.c0,ldV_some,slcV_slice,Int.toNat_natCast]
  refine ⟨by omega,by omega,?_⟩
  simp only [e2,ldV_some,boolV_bool,ite2_false,hM.c1,hM.c2,intV_int]
  rw [decide_eq_false (by omega),ite2_false]
  refine ⟨by omega,by omega,rfl,?_⟩
  refine hM.setSlot hp (some (key,v)) fun hq1 hM1=>?_
  simp only [hM1.c2,ldV_some,intV_int]
  refine hM1.setLen (c':=M.length+1) (wi (by omega) (by omega)) fun hq2 hM2=>?_
  refine hK hq2 ?_
  have hH:hx (2 ^ j) key<2 ^ j:=Nat.mod_lt _ (by omega)
  have hpn:tbl A p=none:=(tbl_at hA).trans hs
  obtain ⟨t1,t2,t3,t4⟩:=put_table (v:=v) hH hg hu hm hf hpn
  rw [put_new hnew] at t3
  rw [← tbl_set hA] at t1 t2 t3
  exact ⟨b,j,A.set p (some (key,v)),by rw [List.length_append]; exact hM2,hj,hn2,h8,by rw [List.length_append]; simp; omega,t1,t2,t3⟩
theorem C92 {key:ByteArray} {v:Int} (h:IdxR hq x n M) (hin:getL key M=some v) (hn:n≤65536)
    (hK:∀ hq',IdxR hq' x n (delL key M)→K (.bool true) hq'):CF Tryd.prog 92 [ptr x 0,.string key] hq K:=by
  obtain ⟨b,j,A,hM,hj,hn2,h8,hl,hg,hu,hm⟩:=h
  refine F92_ok _ key hq K ?_
  unfold F92
  refine C114 hM (by omega) ?_
  rw [boolV_bool,ite2_false]
  have hroom:=room_of hu hm (by omega)
  refine C115 hM rfl hj hroom fun p l hp hf=>?_
  have hH:∀ k,hx (2 ^ j) k<2 ^ j:=fun k=>Nat.mod_lt _ (by omega)
  have hA:p<A.length:=by rw [hM.2.2]; exact hp
  have hget:=IdxR.fd hg hu hm (by omega) hf
  rw [tbl_at hA,hin] at hget
  obtain ⟨k',hs⟩:∃ k',A[p]'hA=some (k',v):=by
    cases hs:A[p]'hA with
    | none=>rw [hs] at hget; cases hget
    | some kv=>
      rw [hs] at hget
      simp only [Option.map_some,Option.some.injEq] at hget
      exact ⟨kv.1,by rw [← hget]⟩
  have hkk:k'=key:=hf.2.2 _ (by rw [tbl_at hA]; exact hs)
  subst hkk
  have e2:=hM.cells hp (t:=2) (v:=.bool true) (by rw [hs]; rfl)
  simp only [tup2V_mk,intV_int,ptrN_some,Nat.zero_add,hM.c0,ldV_some,slcV_slice,Int.toNat_natCast]
  refine ⟨by omega,by omega,?_⟩
  simp only [e2,ldV_some,boolV_bool,Bool.not_true,ite2_false]
  refine ⟨by omega,by omega,rfl,?_⟩
  have hkm:k'∈M.map (·.1):=getL_isSome.1 (by rw [hin]; rfl)
  have hdl:(delL k' M).length+1=M.length:=by
    exact len_del_mem hkm
  refine hM.setSlot hp none fun hq1 hM1=>?_
  simp only [hM1.c2,ldV_some,intV_int]
  refine hM1.setLen (c':=(delL k' M).length) (wi (by omega) (by omega)) fun hq2 hM2=>?_
  simp only [hM2.c0,ldV_some,slcV_slice]
  have hstart:=Mid.start (N:=2 ^ j) (H:=hx (2 ^ j)) (by omega) hg hu hm hp (by rw [tbl_at hA]; exact hs) hroom
  rw [← tbl_set hA] at hstart
  rw [mask_next hj hp,show (if p+1<2 ^ j then p+1 else 0)=nx (2 ^ j) p 1 from by
    have:=nx_succ (u:=0) hp (by omega)
    rw [nx_zero hp] at this
    exact this.symm]
  clear hM hM1 hg hu hm hf hget e2 hroom hin
  unfold F92_j1
  obtain ⟨z,hz1,hz2,hz3⟩:=hstart.room
  refine LoopP.by (J:=fun k (y:Int) hp'=>∃ (t:Nat) (B:List Slot),y=(nx (2 ^ j) p t:Nat)∧k+t=2 ^ j∧0<t∧t<2 ^ j∧IdxM hp' x b (2 ^ j) n (delL k' M).length B∧Mid (2 ^ j) (hx (2 ^ j)) (tbl B) p t (delL k' M)) ?_
    (n:=2 ^ j-1) ⟨1,A.set p none,rfl,by omega,by omega,by omega,hM2,hstart⟩
  rintro I k y hp' ⟨t,B,rfl,hkt,ht0,ht,hB,hmid⟩ hI
  unfold F92_l2
  have hq:nx (2 ^ j) p t<2 ^ j:=nx_lt hp (by omega)
  have hBl:nx (2 ^ j) p t<B.length:=by rw [hB.2.2]; exact hq
  simp only [ptrN_some,Nat.zero_add,hB.c0,ldV_some,slcV_slice,Int.toNat_natCast]
  refine ⟨by omega,by omega,?_⟩
  cases hs:B[nx (2 ^ j) p t]'hBl with
  | none=>
    have e2:=hB.cells hq (t:=2) (v:=.bool false) (by rw [hs]; rfl)
    simp only [e2,ldV_some,boolV_bool,ite2_false]
    have hgood:=hmid.done hH hp ht (by rw [tbl_at hBl]; exact hs)
    exact hK hp' ⟨b,j,B,hB,hj,hn2,h8,by omega,hgood,hmid.uniq,hmid.tm⟩
  | some kv=>
    obtain ⟨k2,v2⟩:=kv
    have e2:=hB.cells hq (t:=2) (v:=.bool true) (by rw [hs]; rfl)
    have e3:=hB.slot hq
    rw [hs] at e3
    simp only [e2,ldV_some,boolV_bool,ite2_true]
    refine ⟨by omega,by omega,?_⟩
    have e4:splice (slv none) 0 (slv (some (k2,v2)))=slv (some (k2,v2)):=splice_all rfl
    have e5:cellsN (slv (some (k2,v2))) 0 3=some (slv (some (k2,v2))):=rfl
    have e6:([Value.string ⟨#[]⟩,Value.int .i64 0,Value.bool false]:List Value)=slv none:=rfl
    have e7:(slv (some (k2,v2)))[0]?=some (.string k2):=rfl
    simp only [e3,ldL_some,e6,e4,e5,e7,ldV_some,strV_string]
    refine ifI (slv_len _) (ifI (slv_one _) (ifI (by simp [slv_len]) ?_))
    refine ⟨by omega,by omega,slv_len _,?_⟩
    refine hB.setSlot hq none fun hq3 hB3=>?_
    have hTz:=tbl_set hBl (none:Slot)
    obtain ⟨z',g1,g2,g3⟩:=hmid.room
    have hz'n:nx (2 ^ j) p z'≠nx (2 ^ j) p t:=fun e=>by
      rw [e,tbl_at hBl,hs] at g3; cases g3
    have hroom2:∃ z,z<2 ^ j∧tbl (B.set (nx (2 ^ j) p t) none) z=none:=⟨nx (2 ^ j) p t,hq,by rw [hTz,tset_eq]⟩
    refine C115 (key:=k2) hB3 rfl hj hroom2 fun q l2 hq4 hf4=>?_
    rw [hTz] at hf4
    obtain ⟨s1,s2⟩:=hmid.step (x:=(k2,v2)) hH hp ht0 ht (by rw [tbl_at hBl]; exact hs) hf4
    simp only [tup2V_mk,intV_int,ptrN_some,Nat.zero_add,hB3.c0,ldV_some,slcV_slice,Int.toNat_natCast]
    refine ⟨by omega,by omega,slv_len _,?_⟩
    refine hB3.setSlot hq4 (some (k2,v2)) fun hq5 hB5=>?_
    simp only [hB5.c0,ldV_some,slcV_slice]
    rw [mask_next hj hq,← nx_succ hp ht]
    have hBl2:q<(B.set (nx (2 ^ j) p t) none).length:=by rw [List.length_set,hB.2.2]; exact hq4
    have hT5:=tbl_set hBl2 (some (k2,v2))
    rw [hTz] at hT5
    rw [← hT5] at s2
    obtain ⟨z5,r1,r2,r3⟩:=s2.room
    exact hI (k-1) _ _ (by omega) ⟨t+1,_,rfl,by omega,by omega,by omega,hB5,s2⟩
theorem C66 {m:Int} {hp:HP} (hbad:(m<1∨m > 65536)→K (.tuple ⟨[.pointer none,.int .i64 1]⟩) hp)
    (hok:¬ (m<1∨m > 65536)→∀ x hl hp',IdxR hl x m.toNat []→HSub hl hp'→(∀ r,HSub r hp→HSub r hp'∧Disj hl r)→K (.tuple ⟨[ptr x 0,.int .i64 0]⟩) hp'):CF Tryd.prog 66 [.int .i64 m] hp K:=by
  refine F66_ok m hp K ?_
  unfold F66 F66_j1
  by_cases h1:m<1
  · rw [decide_eq_true h1,ite2_true,ite2_true]
    exact hbad (.inl h1)
  rw [decide_eq_false h1,ite2_false]
  by_cases h2:m > 65536
  · rw [decide_eq_true h2,ite2_true]
    exact hbad (.inr h2)
  rw [decide_eq_false h2,ite2_false]
  have hok:=hok (by omega)
  obtain ⟨n,rfl⟩:∃ n:Nat,m=n:=⟨m.toNat,by omega⟩
  unfold F66_j2
  refine LoopP.by (J:=fun k (y:Int) hp'=>hp'=hp∧∃ j:Nat,y=((2 ^ j:Nat):Int)∧3≤j∧j+k=40∧(j=3∨2 ^ j<4*n)) ?_ (n:=37) ⟨rfl,3,rfl,by omega,rfl,.inl rfl⟩
  rintro I k y hp' ⟨rfl,j,rfl,hj3,hjk,hj4⟩ hI
  unfold F66_l4
  have h8:(2:Nat) ^ 3≤2 ^ j:=Nat.pow_le_pow_right (by omega) hj3
  have e3:(2:Nat) ^ 3=8:=rfl
  have hN:2 ^ j≤262144:=by
    rcases hj4 with rfl | h
    · decide
    · omega
  rw [w64 (n:=2*(n:Int)) (by omega) (by omega)]
  by_cases hlt:2 ^ j<2*n
  · rw [decide_eq_true (by omega:((2 ^ j:Nat):Int)<2*(n:Int)),ite2_true]
    have hj18:j<40:=by
      rcases Nat.lt_or_ge j 40 with h | h
      · exact h
      · have:=Nat.pow_le_pow_right (n:=2) (by omega) h
        have e40:(2 ^ 40:Nat)=1099511627776:=rfl
        omega
    refine hI (k-1) _ _ (by omega) ⟨rfl,j+1,?_,by omega,by omega,.inr ?_⟩
    · rw [w64 (by omega) (by omega),Nat.pow_succ]; simp
    · rw [Nat.pow_succ]; omega
  · rw [decide_eq_false (by omega:¬ ((2 ^ j:Nat):Int)<2*(n:Int)),ite2_false]
    unfold F66_j3
    obtain ⟨i,hi,hi1,hi2,hi3⟩:∃ i:TypeInfo,Tryd.prog.info? 197=some i∧i.zero=some (.agg ⟨slv none⟩)∧i.size=3∧i.bytes=32:=by
      have h0:(Tryd.prog.info? 197).map (fun i=>(i.zero,i.size,i.bytes))=some (some (.agg ⟨slv none⟩),3,32):=by kernel_rfl
      cases hi:Tryd.prog.info? 197 with
      | none=>rw [hi] at h0; cases h0
      | some i=>
        rw [hi] at h0
        simp only [Option.map_some,Option.some.injEq,Prod.mk.injEq] at h0
        exact ⟨i,rfl,h0.1,h0.2.1,h0.2.2⟩
    refine opS_make (zs:=slv none) (by kernel_rfl) hi hi1 rfl (by rw [hi2]; rfl) (by omega) (by rw [hi3]; omega) (by omega) fun b hb=>?_
    rw [slcV_slice]
    intro x hx'
    have hxb:x≠b:=fun e=>by rw [e,HP.set_eq] at hx'; cases hx'
    have hxn:hp' x=.none:=by rwa [HP.set_ne _ _ hxb] at hx'
    have efl:∀ N:Nat,(List.replicate N (slv none)).flatten=(List.replicate N (none:Slot)).flatMap slv:=fun N=>by
      rw [List.flatMap_def,List.map_replicate]
    rw [efl]
    have ht:tbl (List.replicate (2 ^ j) (none:Slot))=fun _=>none:=by
      funext p
      unfold tbl
      rw [List.getElem?_replicate]
      split <;> rfl
    refine hok x (HP.set (HP.set (fun _=>.none) b (.cells 197 ((List.replicate (2 ^ j) (none:Slot)).flatMap slv) 0)) x (.cells 179 [.slice (some ⟨b,0,none⟩) (2 ^ j) (2 ^ j),.int .i64 n,.int .i64 0] 0)) _ ?_ ?_ ?_
    · refine ⟨b,j,List.replicate (2 ^ j) none,⟨HP.set_eq ..,?_,by simp⟩,by omega,by rw [Int.toNat_natCast]; omega,by omega,by simp,?_,?_,⟨by simp,?_⟩⟩
      · rw [HP.set_ne _ _ hxb.symm,HP.set_eq]
      · rw [ht]; intro p _ y hy; cases hy
      · rw [ht]; intro p q _ _ y z hy; cases hy
      · rw [ht]; intro k v
        simp [getL]
    · exact HSub.set (HSub.set (fun _=>.inl rfl) _ _) _ _
    · intro r hr
      refine ⟨HSub.up (HSub.up hr (hr.none hb) _) (hr.none hxn) _,fun y=>?_⟩
      by_cases hy:y=x
      · subst hy; exact .inr (hr.none hxn)
      · rw [HP.set_ne _ _ hy]
        by_cases hyb:y=b
        · subst hyb; exact .inr (hr.none hb)
        · rw [HP.set_ne _ _ hyb]; exact .inl rfl
end
end Go.Proofs
namespace Go.Hp
open Go.Sort (swp SWO PermIn)
variable {α:Type} [Inhabited α] {lt:α→α→Bool}
end Go.Hp
set_option linter.unusedVariables false
set_option maxRecDepth 20000
namespace Go.Proofs
open Go Go.HL
open Go.Exp (Th tlt)
def iw (n:Int):Value:=.int .i64 n
theorem enc3:EncK Tryd.prog 3 iw where
  inj a b h:=by simpa [iw] using h
  law:=(KeyLaw.flat (d:=.int .i64) (by kernel_rfl)).weaken fun v ⟨k,hk⟩=>by subst hk; exact (rfl:IntKind.i64=IntKind.i64)
end Go.Proofs
set_option linter.unusedVariables false
set_option maxRecDepth 20000
namespace Go.Proofs
open Go Go.HL
open Go.Exp (Th tlt)
section
variable {hq:HP} {q o m:Nat} {d:Array Th} {K:Value→HP→Prop}
end
end Go.Proofs
set_option linter.unusedVariables false
set_option maxRecDepth 20000
namespace Go.Proofs
open Go Go.HL
open Go.Exp (Th tlt swo_tlt)
open Go.Sort (PermIn swp)
section
variable {hq:HP} {q o m:Nat} {d:Array Th} {K:Value→HP→Prop}
end
end Go.Proofs
set_option linter.unusedVariables false
set_option maxRecDepth 20000
namespace Go.Proofs
open Go Go.HL
open Go.Exp (Th tlt swo_tlt Ord setW dropW insW)
section
variable {hq:HP} {q o m:Nat} {d:Array Th} {w:List Th} {K:Value→HP→Prop}
end
end Go.Proofs
set_option linter.unusedVariables false
set_option maxRecDepth 20000
namespace Go.Proofs
open Go Go.HL
open Go.Exp (Th tlt Ord setW dropW insW)
section
variable {hp hq:HP} {ps:Nat→HP} {x n q:Nat} {M:List (ByteArray × Int)} {w:List Th} {K:Value→HP→Prop}
theorem IdxR.sub (h:IdxR hq x n M) (hs:HSub hq hp):IdxR hp x n M:=by
  obtain ⟨b,j,A,⟨h1,h2,h3⟩,r⟩:=h
  exact ⟨b,j,A,⟨hs.cells h1,hs.cells h2,h3⟩,r⟩
theorem N86 {key:ByteArray} {v:Int} (hP:Parts hp ps) (i:Nat) (h:IdxR (ps i) x n M) (hnew:getL key M=none) (hlen:M.length<n) (hn:n≤65536)
    (hK:∀ l hp',IdxR l x n (M++[(key,v)])→Parts hp' (pu ps i l)→K (.int .i64 0) hp'):CF Tryd.prog 86 [ptr x 0,.string key,.int .i64 v] hp K:=by
  refine CF.part hP i (C86 (v:=v) (K:=fun u l=>u=.int .i64 0∧IdxR l x n (M++[(key,v)])) h hnew hlen hn fun l hl=>⟨rfl,hl⟩) ?_
  rintro u l hp' ⟨rfl,hl⟩ hP'
  exact hK l hp' hl hP'
theorem N92 {key:ByteArray} {v:Int} (hP:Parts hp ps) (i:Nat) (h:IdxR (ps i) x n M) (hin:getL key M=some v) (hn:n≤65536)
    (hK:∀ l hp',IdxR l x n (delL key M)→Parts hp' (pu ps i l)→K (.bool true) hp'):CF Tryd.prog 92 [ptr x 0,.string key] hp K:=by
  refine CF.part hP i (C92 (K:=fun u l=>u=.bool true∧IdxR l x n (delL key M)) h hin hn fun l hl=>⟨rfl,hl⟩) ?_
  rintro u l hp' ⟨rfl,hl⟩ hP'
  exact hK l hp' hl hP'
theorem N66 {m:Int} (hP:Parts hp ps) (i:Nat) (hi:∀ b,ps i b=.none) (hbad:(m<1∨m > 65536)→K (.tuple ⟨[.pointer none,.int .i64 1]⟩) hp)
    (hok:¬ (m<1∨m > 65536)→∀ x l hp',IdxR l x m.toNat []→Parts hp' (pu ps i l)→HSub hp hp'→K (.tuple ⟨[ptr x 0,.int .i64 0]⟩) hp'):CF Tryd.prog 66 [.int .i64 m] hp K:=
  C66 hbad fun hm x l hp' hl hs hf=>hok hm x l hp' hl (hP.add i hi hs hf) (hf hp (HSub.refl _)).1
end
end Go.Proofs
set_option linter.unusedVariables false
set_option maxRecDepth 20000
namespace Go.Proofs
open Go Go.HL Go.Shelf
def itoaRen:Ren where
  f:=fun | 129=>148 | 171=>116 | 243=>135 | 246=>159 | 283=>178 | 284=>179 | 285=>180 | 286=>181 | 317=>188 | 318=>189 | 319=>190 | 320=>191 | 337=>194 | 338=>195 | n=>n
  t:=fun | 0=>0 | 2=>2 | 3=>3 | 4=>4 | 5=>5 | 9=>9 | 20=>20 | 37=>199 | 46=>211 | 51=>215 | 53=>233 | 171=>257 | 173=>259 | 212=>267 | 213=>268 | 232=>271 | 233=>272 | n=>n
  g:=fun | 17=>0 | 18=>1 | 19=>2 | n=>n
theorem itoa_zero {P:Program} {t:TypeId} {z:Value} (h:(P.info? t).bind (·.zero)=some z) (w:World):(zeroValue t).run P w=.ok z w:=by
  cases hi:P.info? t with
  | none=>rw [hi] at h; cases h
  | some i=>
    rw [hi] at h
    have hz:i.zero=some z:=h
    simp [zeroValue,typeInfo,hi,hz]
theorem itoa_size {P:Program} {t:TypeId} {n:Nat} (h:(P.info? t).map (·.size)=some n) (w:World):(Go.sizeOf t).run P w=.ok n w:=by
  cases hi:P.info? t with
  | none=>rw [hi] at h; cases h
  | some i=>
    rw [hi] at h
    have hz:i.size=n:=by simpa using h
    simp [Go.sizeOf,typeInfo,hi,hz]
theorem itoa_agg {P:Program} {t:TypeId} {n e} (h:P.underlying t=some (.array n e)) (w:World):(isAgg t).run P w=.ok true w:=by
  simp [isAgg,run_underlying h]
theorem itoaLays0:Lays.n171 Tryd.prog itoaRen where
  mixed:=by kernel_rfl
  f129:=by kernel_rfl
  f171:=by kernel_rfl
  f243:=by kernel_rfl
  f246:=by kernel_rfl
  f283:=by kernel_rfl
  f284:=by kernel_rfl
  f285:=by kernel_rfl
  f286:=by kernel_rfl
  f317:=by kernel_rfl
  f318:=by kernel_rfl
  f319:=by kernel_rfl
  f320:=by kernel_rfl
  f337:=by kernel_rfl
  f338:=by kernel_rfl
  t0:=by kernel_rfl
  a0:=run_isAgg_plain (t:=itoaRen.t 0) (d:=(TypeDesc.tuple #[])) (by kernel_rfl) rfl
  z0:=itoa_size (by kernel_rfl)
  v0:=itoa_zero (by kernel_rfl)
  t2:=by kernel_rfl
  a2:=run_isAgg_plain (t:=itoaRen.t 2) (d:=(TypeDesc.int IntKind.i64)) (by kernel_rfl) rfl
  z2:=itoa_size (by kernel_rfl)
  v2:=itoa_zero (by kernel_rfl)
  t3:=by kernel_rfl
  a3:=run_isAgg_plain (t:=itoaRen.t 3) (d:=(TypeDesc.int IntKind.i64)) (by kernel_rfl) rfl
  z3:=itoa_size (by kernel_rfl)
  v3:=itoa_zero (by kernel_rfl)
  t4:=by kernel_rfl
  a4:=run_isAgg_plain (t:=itoaRen.t 4) (d:=(TypeDesc.bool)) (by kernel_rfl) rfl
  z4:=itoa_size (by kernel_rfl)
  v4:=itoa_zero (by kernel_rfl)
  t5:=by kernel_rfl
  a5:=run_isAgg_plain (t:=itoaRen.t 5) (d:=(TypeDesc.int IntKind.u8)) (by kernel_rfl) rfl
  z5:=itoa_size (by kernel_rfl)
  v5:=itoa_zero (by kernel_rfl)
  t9:=by kernel_rfl
  a9:=run_isAgg_plain (t:=itoaRen.t 9) (d:=(TypeDesc.string)) (by kernel_rfl) rfl
  z9:=itoa_size (by kernel_rfl)
  v9:=itoa_zero (by kernel_rfl)
  t20:=by kernel_rfl
  a20:=run_isAgg_plain (t:=itoaRen.t 20) (d:=(TypeDesc.interface #[])) (by kernel_rfl) rfl
  z20:=itoa_size (by kernel_rfl)
  v20:=itoa_zero (by kernel_rfl)
  t37:=by kernel_rfl
  a37:=run_isAgg_plain (t:=itoaRen.t 37) (d:=(TypeDesc.slice (itoaRen.t 5))) (by kernel_rfl) rfl
  z37:=itoa_size (by kernel_rfl)
  v37:=itoa_zero (by kernel_rfl)
  t46:=by kernel_rfl
  a46:=run_isAgg_plain (t:=itoaRen.t 46) (d:=(TypeDesc.int IntKind.u64)) (by kernel_rfl) rfl
  z46:=itoa_size (by kernel_rfl)
  v46:=itoa_zero (by kernel_rfl)
  t51:=by kernel_rfl
  a51:=run_isAgg_plain (t:=itoaRen.t 51) (d:=(TypeDesc.int IntKind.u32)) (by kernel_rfl) rfl
  z51:=itoa_size (by kernel_rfl)
  v51:=itoa_zero (by kernel_rfl)
  t53:=by kernel_rfl
  a53:=run_isAgg_plain (t:=itoaRen.t 53) (d:=(TypeDesc.int IntKind.u64)) (by kernel_rfl) rfl
  z53:=itoa_size (by kernel_rfl)
  v53:=itoa_zero (by kernel_rfl)
  t171:=by kernel_rfl
  a171:=itoa_agg (t:=itoaRen.t 171) (n:=24) (e:=(itoaRen.t 5)) (by kernel_rfl)
  z171:=itoa_size (by kernel_rfl)
  v171:=itoa_zero (by kernel_rfl)
  t173:=by kernel_rfl
  a173:=run_isAgg_plain (t:=itoaRen.t 173) (d:=(TypeDesc.tuple #[itoaRen.t 37,itoaRen.t 9])) (by kernel_rfl) rfl
  z173:=itoa_size (by kernel_rfl)
  v173:=itoa_zero (by kernel_rfl)
  t212:=by kernel_rfl
  a212:=itoa_agg (t:=itoaRen.t 212) (n:=20) (e:=(itoaRen.t 53)) (by kernel_rfl)
  z212:=itoa_size (by kernel_rfl)
  v212:=itoa_zero (by kernel_rfl)
  t213:=by kernel_rfl
  a213:=itoa_agg (t:=itoaRen.t 213) (n:=65) (e:=(itoaRen.t 5)) (by kernel_rfl)
  z213:=itoa_size (by kernel_rfl)
  t232:=by kernel_rfl
  a232:=itoa_agg (t:=itoaRen.t 232) (n:=32) (e:=(itoaRen.t 5)) (by kernel_rfl)
  z232:=itoa_size (by kernel_rfl)
  v232:=itoa_zero (by kernel_rfl)
  t233:=by kernel_rfl
  a233:=itoa_agg (t:=itoaRen.t 233) (n:=64) (e:=(itoaRen.t 5)) (by kernel_rfl)
  z233:=itoa_size (by kernel_rfl)
  v233:=itoa_zero (by kernel_rfl)
  g17:=by kernel_rfl
  g18:=by kernel_rfl
  g19:=by kernel_rfl
theorem itoaLays:LaysM.n171 Tryd.prog itoaRen:={ itoaLays0 with
  i0:=by kernel_rfl
  i2:=by kernel_rfl
  i3:=by kernel_rfl
  i4:=by kernel_rfl
  i5:=by kernel_rfl
  i9:=by kernel_rfl
  i20:=by kernel_rfl
  i37:=by kernel_rfl
  i46:=by kernel_rfl
  i51:=by kernel_rfl
  i53:=by kernel_rfl
  i171:=by kernel_rfl
  i173:=by kernel_rfl
  i212:=by kernel_rfl
  i232:=by kernel_rfl
  i233:=by kernel_rfl
  m17:=by kernel_rfl
  m18:=by kernel_rfl
  m19:=by kernel_rfl }
theorem fits_below {F:Nat→Prop} {w0 w w':World} {hp:HP} (h:Fits F w0 hp w) (b:RowKit.Below w.heap.size w w'):Fits F w0 hp w':=by
  refine ⟨fun k=>?_,fun k hk=>?_,b.os.trans h.os,b.tape.trans h.tape,b.output.trans h.output,Nat.le_trans h.size b.size⟩
  · have hk:=h.ent k
    by_cases hlt:k<w.heap.size
    · rw [b.block k hlt]; exact hk
    · have hn:w.heap[k]?=none:=by simp; omega
      rw [hn] at hk
      cases e:hp k with
      | none=>trivial
      | cells t cs sp=>rw [e] at hk; obtain ⟨_,_,hk⟩:=hk; cases hk
      | obj o=>rw [e] at hk; cases hk
  · obtain ⟨h1,h2,h3⟩:=h.fr k hk
    exact ⟨h1,Nat.lt_of_lt_of_le h2 b.size,(b.block k h2).trans h3⟩
/-- The table of the powers of ten, as it lies in memory. -/
def TabO (o:Obj):Prop:=∃ t z,o=.cells (Lib.pow10Tab.map fun z=>Value.int .u64 z).toArray t z
/-- It is what is known of the first block. -/
def TabR (o:Obj) (hp:HP):Prop:=hp 0=.obj o∧TabO o
theorem TabR.sub {o:Obj} {hp hp':HP} (h:TabR o hp) (hs:HSub hp hp'):TabR o hp':=⟨hs.obj h.1,h.2⟩
theorem TabR.tab {o : Obj} {hp : HP} (h : TabR o hp) {F w0 w} (hf : Fits F w0 hp w) : Lib.TabIs Tryd.prog w "internal/strconv.uint64pow10" .u64 Lib.pow10Tab := by
  obtain ⟨h,t,z,rfl⟩:=h
  have hb:w.heap[0]?=_:=h▸hf.ent 0
  have hg : Tryd.prog.globalNamed "internal/strconv.uint64pow10" = some 0 := by kernel_rfl
  unfold Lib.TabIs World.var?
  rw [hg]
  simp [hb]
theorem tabO_of {W : World} (h : Lib.TabIs Tryd.prog W "internal/strconv.uint64pow10" .u64 Lib.pow10Tab) : ∃ o, W.heap[0]? = some o ∧ TabO o := by
  have hg : Tryd.prog.globalNamed "internal/strconv.uint64pow10" = some 0 := by kernel_rfl
  unfold Lib.TabIs World.var? at h
  rw [hg] at h
  simp only [Option.bind_some] at h
  split at h
  · rename_i cs t z e
    cases h
    exact ⟨_,e,t,z,rfl⟩
  · cases h
theorem C116 {o:Obj} {n:Int} {hp:HP} {K:Value→HP→Prop} (ht:TabR o hp) (h0:-9223372036854775808≤n∧n≤9223372036854775807) (h:K (.string ⟨(Lib.itoa n).toArray⟩) hp):CF Tryd.prog 116 [.int .i64 n] hp K:=
  .inl ⟨by kernel_rfl,fun F w hf=>(Any.strconv_Itoa itoaLays n h0.1 h0.2 w (ht.tab hf)).mono fun e w' ⟨he,k,os,hw⟩=>⟨_,hp,he,fits_below hf (by subst hw; exact ⟨rfl,rfl,rfl,by simp [Sort.grow,World.drewN],fun k hk=>by simp [Sort.grow,World.drewN,Array.getElem?_append,hk]⟩),h⟩⟩
end Go.Proofs
set_option linter.unusedVariables false
set_option maxRecDepth 20000
namespace Go.Proofs
open Go Go.HL
section
variable {e E:Env} {x0 x1:Int} {hp:HP} {K:Env→PV→HP→Prop}
abbrev R64 (p n:Nat):=RW Tryd.prog 25 [] (opsAt Tryd.f64 (pth p)) (List.range n)
theorem F64_r0:R64 2 1 e V0 hp K=
 K (upd e 4 (sB false)) V0 hp:= by kernel_rfl
theorem F64_r1 (h:E=upd (upd e 1 (sI x1)) 0 (sI x0)):R64 5 21 E V0 hp K=
    (CF Tryd.prog 106 [(.int .i64 x0)] hp fun u1 h2=>boolV u1 fun q3=>ite2 q3 (CF Tryd.prog 106 [(.int .i64 x1)] h2 fun u4 h5=>boolV u4 fun q6=>ite2 q6 (ite2 ((decide (x0<1024))==(decide (x1<1024))) (((2:Int)≠0)∧(((2:Int)≠0)∧(K (w5 (w8 (w8 E 5 (sI x0) 6 (sB q3) 7 (sB true) 8 (sI x1) 9 (sB q6) 10 (sB q6) 11 (sB true) 12 (sI x0)) 13 (sB (decide (x0<1024))) 14 (sI x1) 15 (sB (decide (x1<1024))) 16 (sB (((decide (x0<1024))==(decide (x1<1024))))) 17 (sB (((decide (x0<1024))==(decide (x1<1024))))) 18 (sB true) 19 (sI x0) 20 (sI ((Int.tmod x0 2)))) 21 (sI x1) 22 (sI ((Int.tmod x1 2))) 23 (sB ((((Int.tmod x0 2):Int)==(Int.tmod x1 2)))) 24 (sB ((((Int.tmod x0 2):Int)==(Int.tmod x1 2)))) 4 (sB ((((Int.tmod x0 2):Int)==(Int.tmod x1 2))))) V0 h5))) (K (w5 (w8 (w8 E 5 (sI x0) 6 (sB q3) 7 (sB true) 8 (sI x1) 9 (sB q6) 10 (sB q6) 11 (sB true) 12 (sI x0)) 13 (sB (decide (x0<1024))) 14 (sI x1) 15 (sB (decide (x1<1024))) 16 (sB (((decide (x0<1024))==(decide (x1<1024))))) 17 (sB (((decide (x0<1024))==(decide (x1<1024))))) 18 (sB false) 19 sU 20 sU) 21 sU 22 sU 23 sU 24 (sB false) 4 (sB false)) V0 h5)) (K (w5 (w8 (w8 E 5 (sI x0) 6 (sB q3) 7 (sB true) 8 (sI x1) 9 (sB q6) 10 (sB q6) 11 (sB false) 12 sU) 13 sU 14 sU 15 sU 16 sU 17 (sB false) 18 (sB false) 19 sU 20 sU) 21 sU 22 sU 23 sU 24 (sB false) 4 (sB false)) V0 h5)) (K (w5 (w8 (w8 E 5 (sI x0) 6 (sB q3) 7 (sB false) 8 sU 9 sU 10 (sB false) 11 (sB false) 12 sU) 13 sU 14 sU 15 sU 16 sU 17 (sB false) 18 (sB false) 19 sU 20 sU) 21 sU 22 sU 23 sU 24 (sB false) 4 (sB false)) V0 h2)):=by subst h; kernel_rfl
def F64 (x0 x1:Int) (hp:HP) (K:Kh):Prop:=
  (CF Tryd.prog 106 [(.int .i64 x0)] hp fun u1 h2=>boolV u1 fun q3=>ite2 q3 (CF Tryd.prog 106 [(.int .i64 x1)] h2 fun u4 h5=>boolV u4 fun q6=>ite2 q6 (ite2 ((decide (x0<1024))==(decide (x1<1024))) (((2:Int)≠0)∧(((2:Int)≠0)∧(K (.bool (((Int.tmod x0 2):Int)==(Int.tmod x1 2))) h5))) (K (.bool false) h5)) (K (.bool false) h5)) (K (.bool false) h2))
noncomputable def F64_code:Code:=(.seq (.region 0 (opsAt Tryd.f64 (pth 2)) false) (.seq (.region 1 (opsAt Tryd.f64 (pth 5)) false) .ret))
theorem F64_body:Tryd.f64.body=some F64_code:=by kernel_rfl
theorem F64_ok (x0 x1:Int) (hp:HP) (K:Kh) (h:F64 x0 x1 hp K):CF Tryd.prog 64 [(.int .i64 x0),(.int .i64 x1)] hp K:=by
 refine .inl ⟨by kernel_rfl,AC.intro (N:=25) Tryd.func64 F64_body rfl (Nat.le_of_ble_eq_true rfl) ?_⟩
 unfold F64 at h
 refine Ar F64_r0 ?_ (r2 0 1 Rn) (z2 Sn) Sn
 refine Ar (F64_r1 rfl) ?_ (r2 0 1 Rn) (z2 Sn) Sn
 refine mC h fun u1 h2 h=>mB h fun q3 h=>?_
 refine mt h (fun h=>?_) (fun h=>?_)
 ·refine mC h fun u4 h5 h=>mB h fun q6 h=>?_
  refine mt h (fun h=>?_) (fun h=>?_)
  ·refine mt h (fun h=>?_) (fun h=>?_)
   ·refine ⟨h.1,?_⟩
    replace h:=h.2
    refine ⟨h.1,?_⟩
    replace h:=h.2
    refine AWP.ret ?_
    exact h
   ·refine AWP.ret ?_
    exact h
  ·refine AWP.ret ?_
   exact h
 ·refine AWP.ret ?_
  exact h
end
section
variable {e E:Env} {x0a:OA} {x0n x0c:Nat} {x1 x2 x8:Int} {x39a:OA} {x39n x39c:Nat} {x40 x41:Int} {k9:List Value} {hp:HP} {K:Env→PV→HP→Prop}
abbrev R67 (p n:Nat):=RW Tryd.prog 59 [9] (opsAt Tryd.f67 (pth p)) (List.range n)
theorem F67_r0:R67 2 2 e V0 hp K=
 K (w2 e 6 (sP none) 7 (sI 0)) V0 hp:= by kernel_rfl
theorem F67_r1:R67 37 2 e V0 hp K=
 K (w2 e 6 (sP none) 7 (sI 1)) V0 hp:= by kernel_rfl
theorem F67_r2 (h:E=upd (w2 e 2 (sI x2) 1 (sI x1)) 0 (sS x0a x0n x0c)):R67 23 9 E V0 hp K=
 CF Tryd.prog 109 [(.slice x0a x0n x0c)] hp fun u1 h2=>(slcV u1 fun a3 n4 c5=>∀ b6:Nat,h2 b6=.none→(∀ b7:Nat,(HP.set h2 b6 (.obj (.map #[] 0))) b7=.none→(K (upd (w8 E 52 (sS x0a x0n x0c) 53 (sS a3 n4 c5) 54 (sI x1) 55 (sI x2) 56 (sV (.map (some b6))) 57 (sV (.agg ⟨[(.slice a3 n4 c5),(.int .i64 x1),(.int .i64 x2),(.map (some b6))]⟩)) 58 (sQ b7 0) 6 (sQ b7 0)) 7 (sI 0)) V0 (HP.set (HP.set h2 b6 (.obj (.map #[] 0))) b7 (.cells 184 [(.slice a3 n4 c5),(.int .i64 x1),(.int .i64 x2),(.map (some b6))] 0))))):= by subst h; kernel_rfl
def F67_j2 (x0a:OA) (x0n x0c:Nat) (x1 x2:Int) (hp:HP) (K:Kh):Prop:=
  (CF Tryd.prog 109 [(.slice x0a x0n x0c)] hp fun u1 h2=>slcV u1 fun a3 n4 c5=>∀ b6:Nat,h2 b6=.none→(∀ b7:Nat,(HP.set h2 b6 (.obj (.map #[] 0))) b7=.none→(K (.tuple ⟨[(ptr b7 0),.int .i64 0]⟩) (HP.set (HP.set h2 b6 (.obj (.map #[] 0))) b7 (.cells 184 [(.slice a3 n4 c5),(.int .i64 x1),(.int .i64 x2),(.map (some b6))] 0)))))
theorem F67_r3:R67 139 1 (w2 e 41 (sI x41) 40 (sI x40)) V0 hp K=
 K (w3 e 41 (sI x41) 40 (sI x40) 42 (sB (decide (x41<x40)))) V0 hp:= by kernel_rfl
theorem F67_r4 (h:E=upd (upd e 41 (sI x41)) 39 (sS x39a x39n x39c)):R67 2251 6 E V0 hp K=
    ((0≤x41)∧(x41<x39n)∧(ptrN x39a fun b1 o2=>ldL (HP.cellN hp b1 (o2+Int.toNat x41*4) 4) fun l3=>if List.length l3=4 then (if List.all l3 one=true then (if 0+List.length l3≤List.length [(Value.int .u8 0),.int .u8 0,.int .u8 0,.int .u8 0] then (K (w5 E 43 (sI x41) 44 (sQ b1 (o2+Int.toNat x41*4)) 45 (sA l3) 9 (sR 9 0) 8 (sI x41)) (w2 V0 9 (27,[.int .u8 0,.int .u8 0,.int .u8 0,.int .u8 0]) 9 (27,(splice [.int .u8 0,.int .u8 0,.int .u8 0,.int .u8 0] 0 l3))) hp) else False) else False) else False)):=by subst h; kernel_rfl
theorem F67_r5 (h:E=upd (w2 e 9 (sR 9 0) 8 (sI x8)) 0 (sS x0a x0n x0c)):R67 5323 5 E (upd V0 9 (27,k9)) hp K=
    ((0≤x8)∧(x8≤(x0c:Nat))∧(ldL (cellsN k9 0 4) fun l1=>CF Tryd.prog 108 [(.slice x0a (Int.toNat x8) x0c),(.agg ⟨l1⟩)] hp fun u2 h3=>boolV u2 fun q4=>K (w5 E 46 (sS x0a x0n x0c) 47 (sI x8) 48 (sV (.slice x0a (Int.toNat x8) x0c)) 49 (sA l1) 50 (sB q4)) (upd V0 9 (27,k9)) h3)):=by subst h; kernel_rfl
theorem F67_r6:R67 19659 2 e V0 hp K=
 K (w2 e 6 (sP none) 7 (sI 1)) V0 hp:= by kernel_rfl
theorem F67_r7:R67 971 2 (upd e 41 (sI x41)) V0 hp K=
 K (w3 e 41 (sI x41) 51 (sI ((wr (x41+1)))) 41 (sI ((wr (x41+1))))) V0 hp:= by kernel_rfl
def F67_l4 (x0a:OA) (x0n x0c:Nat) (x1 x2:Int) (x39a:OA) (x39n x39c:Nat) (x40:Int) (K:Kh) (I4:(Int)→HP→Prop) (x41:Int) (hp:HP):Prop:=
  (ite2 (decide (x41<x40)) ((0≤x41)∧(x41<x39n)∧(ptrN x39a fun b8 o9=>ldL (HP.cellN hp b8 (o9+Int.toNat x41*4) 4) fun l10=>if List.length l10=4 then (if List.all l10 one=true then (if 0+List.length l10≤List.length [(Value.int .u8 0),.int .u8 0,.int .u8 0,.int .u8 0] then ((0≤x41)∧(x41≤(x0c:Nat))∧(ldL (cellsN (splice [.int .u8 0,.int .u8 0,.int .u8 0,.int .u8 0] 0 l10) 0 4) fun l11=>CF Tryd.prog 108 [(.slice x0a (Int.toNat x41) x0c),(.agg ⟨l11⟩)] hp fun u12 h13=>boolV u12 fun q14=>ite2 q14 (K (.tuple ⟨[(.pointer none),(.int .i64 1)]⟩) h13) (I4 (IntKind.wrap .i64 (x41+1)) h13))) else False) else False) else False)) (F67_j2 x0a x0n x0c x1 x2 hp  K))
def F67_j3 (x0a:OA) (x0n x0c:Nat) (x1 x2:Int) (x39a:OA) (x39n x39c:Nat) (x40 x41:Int) (hp:HP) (K:Kh):Prop:=
  (LoopP (σ:=Int) (fun I s hp=>F67_l4 x0a x0n x0c x1 x2 x39a x39n x39c x40  K I s hp) x41 hp)
theorem F67_r8:R67 19 3 (upd e 0 (sS x0a x0n x0c)) V0 hp K=
 K (w4 e 0 (sS x0a x0n x0c) 39 (sS x0a x0n x0c) 40 (sI ((x0n:Nat))) 41 (sI 0)) V0 hp:= by kernel_rfl
def F67_j1 (x0a:OA) (x0n x0c:Nat) (x1 x2:Int) (x38:Bool) (hp:HP) (K:Kh):Prop:=
  (ite2 x38 (K (.tuple ⟨[(.pointer none),(.int .i64 1)]⟩) hp) (F67_j3 x0a x0n x0c x1 x2 x0a x0n x0c (x0n:Nat) 0 hp  K))
theorem F67_r9 (h:E=upd (w2 e 2 (sI x2) 1 (sI x1)) 0 (sS x0a x0n x0c)):R67 9 29 E V0 hp K=
 ite2 (decide (((x0n:Nat):Int)<1)) (K (w5 (w8 (w8 (w8 E 10 (sS x0a x0n x0c) 11 (sI ((x0n:Nat))) 12 (sB ((decide (((x0n:Nat):Int)<1)))) 13 (sB true) 14 sU 15 sU 16 sU 17 (sB true)) 18 (sB true) 19 sU 20 sU 21 sU 22 (sB true) 23 (sB true) 24 sU 25 sU) 26 sU 27 (sB true) 28 (sB true) 29 sU 30 sU 31 sU 32 (sB true) 33 (sB true)) 34 sU 35 sU 36 sU 37 sU 38 (sB true)) V0 hp) (ite2 (decide (((x0n:Nat):Int) > 4)) (K (w5 (w8 (w8 (w8 E 10 (sS x0a x0n x0c) 11 (sI ((x0n:Nat))) 12 (sB ((decide (((x0n:Nat):Int)<1)))) 13 (sB false) 14 (sS x0a x0n x0c) 15 (sI ((x0n:Nat))) 16 (sB ((decide (((x0n:Nat):Int) > 4)))) 17 (sB ((decide (((x0n:Nat):Int) > 4))))) 18 (sB true) 19 sU 20 sU 21 sU 22 (sB true) 23 (sB true) 24 sU 25 sU) 26 sU 27 (sB true) 28 (sB true) 29 sU 30 sU 31 sU 32 (sB true) 33 (sB true)) 34 sU 35 sU 36 sU 37 sU 38 (sB true)) V0 hp) (CF Tryd.prog 106 [(.int .i64 x1)] hp fun u1 h2=>boolV u1 fun q3=>ite2 (!q3) (K (w5 (w8 (w8 (w8 E 10 (sS x0a x0n x0c) 11 (sI ((x0n:Nat))) 12 (sB ((decide (((x0n:Nat):Int)<1)))) 13 (sB false) 14 (sS x0a x0n x0c) 15 (sI ((x0n:Nat))) 16 (sB ((decide (((x0n:Nat):Int) > 4)))) 17 (sB ((decide (((x0n:Nat):Int) > 4))))) 18 (sB false) 19 (sI x1) 20 (sB q3) 21 (sB ((!q3))) 22 (sB ((!q3))) 23 (sB true) 24 sU 25 sU) 26 sU 27 (sB true) 28 (sB true) 29 sU 30 sU 31 sU 32 (sB true) 33 (sB true)) 34 sU 35 sU 36 sU 37 sU 38 (sB true)) V0 h2) (CF Tryd.prog 106 [(.int .i64 x2)] h2 fun u4 h5=>boolV u4 fun q6=>ite2 (!q6) (K (w5 (w8 (w8 (w8 E 10 (sS x0a x0n x0c) 11 (sI ((x0n:Nat))) 12 (sB ((decide (((x0n:Nat):Int)<1)))) 13 (sB false) 14 (sS x0a x0n x0c) 15 (sI ((x0n:Nat))) 16 (sB ((decide (((x0n:Nat):Int) > 4)))) 17 (sB ((decide (((x0n:Nat):Int) > 4))))) 18 (sB false) 19 (sI x1) 20 (sB q3) 21 (sB ((!q3))) 22 (sB ((!q3))) 23 (sB false) 24 (sI x2) 25 (sB q6)) 26 (sB ((!q6))) 27 (sB ((!q6))) 28 (sB true) 29 sU 30 sU 31 sU 32 (sB true) 33 (sB true)) 34 sU 35 sU 36 sU 37 sU 38 (sB true)) V0 h5) (ite2 (decide (x2<x1)) (K (w5 (w8 (w8 (w8 E 10 (sS x0a x0n x0c) 11 (sI ((x0n:Nat))) 12 (sB ((decide (((x0n:Nat):Int)<1)))) 13 (sB false) 14 (sS x0a x0n x0c) 15 (sI ((x0n:Nat))) 16 (sB ((decide (((x0n:Nat):Int) > 4)))) 17 (sB ((decide (((x0n:Nat):Int) > 4))))) 18 (sB false) 19 (sI x1) 20 (sB q3) 21 (sB ((!q3))) 22 (sB ((!q3))) 23 (sB false) 24 (sI x2) 25 (sB q6)) 26 (sB ((!q6))) 27 (sB ((!q6))) 28 (sB false) 29 (sI x2) 30 (sI x1) 31 (sB (decide (x2<x1))) 32 (sB (decide (x2<x1))) 33 (sB true)) 34 sU 35 sU 36 sU 37 sU 38 (sB true)) V0 h5) (K (w5 (w8 (w8 (w8 E 10 (sS x0a x0n x0c) 11 (sI ((x0n:Nat))) 12 (sB ((decide (((x0n:Nat):Int)<1)))) 13 (sB false) 14 (sS x0a x0n x0c) 15 (sI ((x0n:Nat))) 16 (sB ((decide (((x0n:Nat):Int) > 4)))) 17 (sB ((decide (((x0n:Nat):Int) > 4))))) 18 (sB false) 19 (sI x1) 20 (sB q3) 21 (sB ((!q3))) 22 (sB ((!q3))) 23 (sB false) 24 (sI x2) 25 (sB q6)) 26 (sB ((!q6))) 27 (sB ((!q6))) 28 (sB false) 29 (sI x2) 30 (sI x1) 31 (sB (decide (x2<x1))) 32 (sB (decide (x2<x1))) 33 (sB false)) 34 (sI x2) 35 (sI x1) 36 (sI ((wr (x2-x1)))) 37 (sB ((decide (((wr (x2-x1)):Int)≥1024)))) 38 (sB ((decide (((wr (x2-x1)):Int)≥1024))))) V0 h5))))):= by subst h; kernel_rfl
def F67 (x0a:OA) (x0n x0c:Nat) (x1 x2:Int) (hp:HP) (K:Kh):Prop:=
  (ite2 (decide (((x0n:Nat):Int)<1)) (F67_j1 x0a x0n x0c x1 x2 true hp  K) (ite2 (decide (((x0n:Nat):Int) > 4)) (F67_j1 x0a x0n x0c x1 x2 true hp  K) (CF Tryd.prog 106 [(.int .i64 x1)] hp fun u15 h16=>boolV u15 fun q17=>ite2 (!q17) (F67_j1 x0a x0n x0c x1 x2 true h16  K) (CF Tryd.prog 106 [(.int .i64 x2)] h16 fun u18 h19=>boolV u18 fun q20=>ite2 (!q20) (F67_j1 x0a x0n x0c x1 x2 true h19  K) (ite2 (decide (x2<x1)) (F67_j1 x0a x0n x0c x1 x2 true h19  K) (F67_j1 x0a x0n x0c x1 x2 (decide (((IntKind.wrap .i64 (x2-x1)):Int)≥1024)) h19  K))))))
noncomputable abbrev o67 (k n:Nat):Code:=.region k (opsAt Tryd.f67 (pth n)) false
noncomputable def F67_code:Code:=(.seq (o67 0 2) (.seq (.seq (o67 1 9) (.cond (.tmp 38) (.seq (o67 2 37) .ret) .skip)) (.seq (.seq (o67 3 19) (.block 0 (.loop (.seq (o67 4 139) (.seq (.cond (.tmp 42) .skip (.exit 0)) (.seq (.block 1 (.seq (o67 5 2251) (.seq (.region 6 (opsAt Tryd.f67 (pth 5323)) true) (.cond (.tmp 50) (.seq (o67 7 19659) .ret) .skip)))) (o67 8 971))))))) (.seq (o67 9 23) .ret))))
theorem F67_body:Tryd.f67.body=some F67_code:=by kernel_rfl
theorem F67_ok (x0a:OA) (x0n x0c:Nat) (x1 x2:Int) (hp:HP) (K:Kh) (h:F67 x0a x0n x0c x1 x2 hp K):CF Tryd.prog 67 [(.slice x0a x0n x0c),(.int .i64 x1),(.int .i64 x2)] hp K:=by
 refine .inl ⟨by kernel_rfl,AC.intro (N:=59) Tryd.func67 F67_body rfl (Nat.le_of_ble_eq_true rfl) ?_⟩
 unfold F67 at h
 refine Ar F67_r0 ?_ (r3 0 1 2 Rn) (z3 Sn) Sn
 refine Aq (As (fun env pv hp=>∃ x0a x0n x0c x1 x2 x38,Sub (w4 E0 38 (sB x38) 2 (sI x2) 1 (sI x1) 0 (sS x0a x0n x0c)) env∧Sub V0 pv∧F67_j1 x0a x0n x0c x1 x2 x38 hp  K) ?_ ?_)
 ·refine Ag (F67_r9 rfl) ?_ (r3 0 1 2 Rn) (z3 Sn) Sn
  refine mt h (fun h=>?_) (fun h=>?_)
  ·exact ⟨_,_,_,_,_,_,(z4 Sn),Sn,h⟩
  ·refine mt h (fun h=>?_) (fun h=>?_)
   ·exact ⟨_,_,_,_,_,_,(z4 Sn),Sn,h⟩
   ·refine mC h fun u15 h16 h=>mB h fun q17 h=>?_
    refine mt h (fun h=>?_) (fun h=>?_)
    ·exact ⟨_,_,_,_,_,_,(z4 Sn),Sn,h⟩
    ·refine mC h fun u18 h19 h=>mB h fun q20 h=>?_
     refine mt h (fun h=>?_) (fun h=>?_)
     ·exact ⟨_,_,_,_,_,_,(z4 Sn),Sn,h⟩
     ·refine mt h (fun h=>?_) (fun h=>?_)
      ·exact ⟨_,_,_,_,_,_,(z4 Sn),Sn,h⟩
      ·exact ⟨_,_,_,_,_,_,(z4 Sn),Sn,h⟩
 ·rintro env pv hp ⟨x0a,x0n,x0c,x1,x2,x38,he,hv,h⟩
  refine Ae ?_ (r4 0 1 2 38 Rn) he hv
  unfold F67_j1 at h
  refine Ac h rfl (fun h=>?_) (fun h=>?_)
  ·refine Ar F67_r1 ?_ Rn Sn Sn
   refine AWP.ret ?_
   exact h
  ·refine AWP.skip (As (fun env pv hp=>∃ x0a x0n x0c x1 x2,Sub (w3 E0 2 (sI x2) 1 (sI x1) 0 (sS x0a x0n x0c)) env∧Sub V0 pv∧F67_j2 x0a x0n x0c x1 x2 hp  K) ?_ ?_)
   ·refine As (fun env pv hp=>∃ x0a x0n x0c x1 x2 x39a x39n x39c x40 x41,Sub (w6 E0 41 (sI x41) 40 (sI x40) 39 (sS x39a x39n x39c) 2 (sI x2) 1 (sI x1) 0 (sS x0a x0n x0c)) env∧Sub V0 pv∧F67_j3 x0a x0n x0c x1 x2 x39a x39n x39c x40 x41 hp  K) ?_ ?_
    ·refine Ag F67_r8 ?_ (r3 0 1 2 Rn) (z3 Sn) Sn
     exact ⟨_,_,_,_,_,_,_,_,_,_,(z6 Sn),Sn,h⟩
    ·rintro env pv hp ⟨x0a,x0n,x0c,x1,x2,x39a,x39n,x39c,x40,x41,he,hv,h⟩
     refine Ae ?_ (r6 0 1 2 39 40 41 Rn) he hv
     unfold F67_j3 at h
     refine AWP.block (AWP.loop (σ:=Int) _ (fun s=>w6 E0 41 (sI s) 40 (sI x40) 39 (sS x39a x39n x39c) 2 (sI x2) 1 (sI x1) 0 (sS x0a x0n x0c)) (fun s=>V0) x41 h (fun s=>r6 0 1 2 39 40 41 Rn) (z6 Sn) Sn ?_)
     intro I4 x41 hp h
     replace h:F67_l4 x0a x0n x0c x1 x2 x39a x39n x39c x40  K I4 x41 hp:=h
     unfold F67_l4 at h
     refine Ar F67_r3 ?_ (r6 40 41 0 1 2 39 Rn) (z6 Sn) Sn
     refine Aq (Ac h rfl (fun h=>?_) (fun h=>?_))
     ·refine AWP.skip (Aq (AWP.block (Ar (F67_r4 rfl) ?_ (r6 39 41 0 1 2 40 Rn) (z6 Sn) Sn)))
      refine ⟨h.1,h.2.1,mN h.2.2 fun b8 o9 h=>mL h fun l10 h=>mf h fun h=>mf h fun h=>mf h fun h=>?_⟩
      refine Aq (AWP.rgnD (by kernel_rfl) (by kernel_rfl) (F67_r5 rfl) ?_ (r2 0 8 (rp 9 9 0 (r5 1 2 39 40 41 Rn))) (z8 Sn) (z1 Sn))
      refine ⟨h.1,h.2.1,mL h.2.2 fun l11 h=>mC h fun u12 h13 h=>mB h fun q14 h=>?_⟩
      refine Ac h rfl (fun h=>?_) (fun h=>?_)
      ·refine Ar F67_r6 ?_ Rn Sn Sn
       refine AWP.ret ?_
       exact h
      ·refine AWP.skip (Ag F67_r7 ?_ (r6 41 0 1 2 39 40 Rn) (z6 Sn) Sn)
       exact ⟨_,(z6 Sn),Sn,h⟩
     ·refine AWP.exit ?_
      exact ⟨_,_,_,_,_,(z3 Sn),Sn,h⟩
   ·rintro env pv hp ⟨x0a,x0n,x0c,x1,x2,he,hv,h⟩
    refine Ae ?_ (r3 0 1 2 Rn) he hv
    unfold F67_j2 at h
    refine Ar (F67_r2 rfl) ?_ (r3 0 1 2 Rn) (z3 Sn) Sn
    refine mC h fun u1 h2 h=>mS h fun a3 n4 c5 h=>?_
    refine fun b6 hb_b_6=>?_
    replace h:=h b6 hb_b_6
    refine fun b7 hb_b_7=>?_
    replace h:=h b7 hb_b_7
    refine AWP.ret ?_
    exact h
end
section
variable {e:Env} {x0:Int} {hp:HP} {K:Env→PV→HP→Prop}
abbrev R106 (p n:Nat):=RW Tryd.prog 9 [] (opsAt Tryd.f106 (pth p)) (List.range n)
theorem F106_r0:R106 2 1 e V0 hp K=
 K (upd e 2 (sB false)) V0 hp:= by kernel_rfl
theorem F106_r1:R106 5 7 (upd e 0 (sI x0)) V0 hp K=
 ite2 (decide (x0≥0)) (K (w8 e 0 (sI x0) 3 (sI x0) 4 (sB (decide (x0≥0))) 5 (sB true) 6 (sI x0) 7 (sB (decide (x0≤65535))) 8 (sB (decide (x0≤65535))) 2 (sB (decide (x0≤65535)))) V0 hp) (K (w8 e 0 (sI x0) 3 (sI x0) 4 (sB (decide (x0≥0))) 5 (sB false) 6 sU 7 sU 8 (sB false) 2 (sB false)) V0 hp):= by kernel_rfl
def F106 (x0:Int) (hp:HP) (K:Kh):Prop:=
  (ite2 (decide (x0≥0)) (K (.bool (decide (x0≤65535))) hp) (K (.bool false) hp))
noncomputable def F106_code:Code:=(.seq (.region 0 (opsAt Tryd.f106 (pth 2)) false) (.seq (.region 1 (opsAt Tryd.f106 (pth 5)) false) .ret))
theorem F106_body:Tryd.f106.body=some F106_code:=by kernel_rfl
theorem F106_ok (x0:Int) (hp:HP) (K:Kh) (h:F106 x0 hp K):CF Tryd.prog 106 [(.int .i64 x0)] hp K:=by
 refine .inl ⟨by kernel_rfl,AC.intro (N:=9) Tryd.func106 F106_body rfl (Nat.le_of_ble_eq_true rfl) ?_⟩
 unfold F106 at h
 refine Ar F106_r0 ?_ (r1 0 Rn) (z1 Sn) Sn
 refine Ar F106_r1 ?_ (r1 0 Rn) (z1 Sn) Sn
 refine mt h (fun h=>?_) (fun h=>?_)
 ·refine AWP.ret ?_
  exact h
 ·refine AWP.ret ?_
  exact h
end
section
variable {e:Env} {x0a:OA} {x0n x0c:Nat} {x1 k3:List Value} {hp:HP} {K:Env→PV→HP→Prop}
abbrev R108 (p n:Nat):=RW Tryd.prog 9 [3] (opsAt Tryd.f108 (pth p)) (List.range n)
theorem F108_r0:R108 2 2 (upd e 1 (sA x1)) V0 hp K=
 K (w3 e 1 (sA x1) 3 (sR 3 0) 4 (sB false)) (upd V0 3 (27,x1)) hp:= by kernel_rfl
theorem F108_r1:R108 5 5 (w2 e 3 (sR 3 0) 0 (sS x0a x0n x0c)) (upd V0 3 (27,k3)) hp K=
 ldL (cellsN k3 0 4) fun l1=>(CF Tryd.prog 132 [(.slice x0a x0n x0c),(.agg ⟨l1⟩)] hp fun u2 h3=>intV u2 .i64 fun i4=>K (w7 e 3 (sR 3 0) 0 (sS x0a x0n x0c) 5 (sS x0a x0n x0c) 6 (sA l1) 7 (sI i4) 8 (sB (decide (i4≥0))) 4 (sB (decide (i4≥0)))) (upd V0 3 (27,k3)) h3):= by kernel_rfl
def F108 (x0a:OA) (x0n x0c:Nat) (x1:List Value) (hp:HP) (K:Kh):Prop:=
  (ldL (cellsN x1 0 4) fun l1=>CF Tryd.prog 132 [(.slice x0a x0n x0c),(.agg ⟨l1⟩)] hp fun u2 h3=>intV u2 .i64 fun i4=>K (.bool (decide (i4≥0))) h3)
noncomputable def F108_code:Code:=(.seq (.region 0 (opsAt Tryd.f108 (pth 2)) false) (.seq (.region 1 (opsAt Tryd.f108 (pth 5)) false) .ret))
theorem F108_body:Tryd.f108.body=some F108_code:=by kernel_rfl
theorem F108_ok (x0a:OA) (x0n x0c:Nat) (x1:List Value) (hp:HP) (K:Kh) (h:F108 x0a x0n x0c x1 hp K):CF Tryd.prog 108 [(.slice x0a x0n x0c),(.agg ⟨x1⟩)] hp K:=by
 refine .inl ⟨by kernel_rfl,AC.intro (N:=9) Tryd.func108 F108_body rfl (Nat.le_of_ble_eq_true rfl) ?_⟩
 unfold F108 at h
 refine Ar F108_r0 ?_ (r2 1 0 Rn) (z2 Sn) Sn
 refine Ar F108_r1 ?_ (r1 0 (rp 3 3 0 Rn)) (z2 Sn) (z1 Sn)
 refine mL h fun l1 h=>mC h fun u2 h3 h=>mI h fun i4 h=>?_
 refine AWP.ret ?_
 exact h
end
section
variable {e:Env} {x0a:OA} {x0n x0c:Nat} {hp:HP} {K:Env→PV→HP→Prop}
abbrev R109 (p n:Nat):=RW Tryd.prog 8 [] (opsAt Tryd.f109 (pth p)) (List.range n)
theorem F109_r0:R109 2 1 e V0 hp K=
 K (upd e 2 (sS none 0 0)) V0 hp:= by kernel_rfl
theorem F109_r1:R109 9 2 (upd e 0 (sS x0a x0n x0c)) V0 hp K=
 K (w3 e 0 (sS x0a x0n x0c) 3 (sS x0a x0n x0c) 4 (sB ((Option.isNone x0a)))) V0 hp:= by kernel_rfl
theorem F109_r2:R109 37 1 e V0 hp K=
 K (upd e 2 (sS none 0 0)) V0 hp:= by kernel_rfl
theorem F109_r3:R109 11 4 (upd e 0 (sS x0a x0n x0c)) V0 hp K=
    (∀ b1:Nat,hp b1=.none→(opS Tryd.prog (Builtin.append_ #[28,28] 28 ⟨[(.slice (some ⟨b1,0,none⟩) 0 0),(.slice x0a x0n x0c)]⟩) (HP.set hp b1 (.cells 27 [] 0)) fun u2 h3=>slcV u2 fun a4 n5 c6=>K (w5 e 0 (sS x0a x0n x0c) 5 (sV (.slice (some ⟨b1,0,none⟩) 0 0)) 6 (sS x0a x0n x0c) 7 (sS a4 n5 c6) 2 (sS a4 n5 c6)) V0 h3)):=by kernel_rfl
def F109 (x0a:OA) (x0n x0c:Nat) (hp:HP) (K:Kh):Prop:=
  (ite2 (Option.isNone x0a) (K (.slice none 0 0) hp) (∀ b1:Nat,hp b1=.none→(opS Tryd.prog (Builtin.append_ #[28,28] 28 ⟨[(.slice (some ⟨b1,0,none⟩) 0 0),(.slice x0a x0n x0c)]⟩) (HP.set hp b1 (.cells 27 [] 0)) fun u2 h3=>slcV u2 fun a4 n5 c6=>K (.slice a4 n5 c6) h3)))
noncomputable def F109_code:Code:=(.seq (.region 0 (opsAt Tryd.f109 (pth 2)) false) (.seq (.seq (.region 1 (opsAt Tryd.f109 (pth 9)) false) (.cond (.tmp 4) (.seq (.region 2 (opsAt Tryd.f109 (pth 37)) false) .ret) .skip)) (.seq (.region 3 (opsAt Tryd.f109 (pth 11)) false) .ret)))
theorem F109_body:Tryd.f109.body=some F109_code:=by kernel_rfl
theorem F109_ok (x0a:OA) (x0n x0c:Nat) (hp:HP) (K:Kh) (h:F109 x0a x0n x0c hp K):CF Tryd.prog 109 [(.slice x0a x0n x0c)] hp K:=by
 refine .inl ⟨by kernel_rfl,AC.intro (N:=8) Tryd.func109 F109_body rfl (Nat.le_of_ble_eq_true rfl) ?_⟩
 unfold F109 at h
 refine Ar F109_r0 ?_ (r1 0 Rn) (z1 Sn) Sn
 refine Aq (Ar F109_r1 ?_ (r1 0 Rn) (z1 Sn) Sn)
 refine Ac h rfl (fun h=>?_) (fun h=>?_)
 ·refine Ar F109_r2 ?_ Rn Sn Sn
  refine AWP.ret ?_
  exact h
 ·refine AWP.skip (Ar F109_r3 ?_ (r1 0 Rn) (z1 Sn) Sn)
  refine fun b1 hb_b_1=>?_
  replace h:=h b1 hb_b_1
  refine mO h fun u2 h3 h=>mS h fun a4 n5 c6 h=>?_
  refine AWP.ret ?_
  exact h
end
section
variable {e E:Env} {x0:OA} {x1:List Value} {x2:Int} {x3:Bool} {x12:Int} {x15:Bool} {x32a:OA} {x32n x32c:Nat} {x33 x34:Int} {k5 k8 k11 k13:List Value} {hp:HP} {K:Env→PV→HP→Prop}
abbrev R110 (p n:Nat):=RW Tryd.prog 80 [5,8,11,13] (opsAt Tryd.f110 (pth p)) (List.range n)
theorem F110_r0:R110 2 3 (upd e 1 (sA x1)) V0 hp K=
 K (w4 e 1 (sA x1) 5 (sR 5 0) 8 (sR 8 0) 9 (sI 0)) (w2 V0 5 (27,x1) 8 (34,[.int .u8 0,.int .u8 0,.int .u8 0,.int .u8 0,.int .i64 0])) hp:= by kernel_rfl
theorem F110_r1:R110 37 3 (upd e 8 (sR 8 0)) (upd V0 8 (34,k8)) hp K=
    (if List.length [(Value.int .u8 0),.int .u8 0,.int .u8 0,.int .u8 0,.int .i64 0]=5 then (if List.all [(Value.int .u8 0),.int .u8 0,.int .u8 0,.int .u8 0,.int .i64 0] one=true then (if 0+List.length [(Value.int .u8 0),.int .u8 0,.int .u8 0,.int .u8 0,.int .i64 0]≤List.length k8 then (K (w3 e 8 (sR 8 0) 25 (sV (.agg ⟨[.int .u8 0,.int .u8 0,.int .u8 0,.int .u8 0,.int .i64 0]⟩)) 9 (sI 2)) (w2 V0 8 (34,k8) 8 (34,(splice k8 0 [.int .u8 0,.int .u8 0,.int .u8 0,.int .u8 0,.int .i64 0]))) hp) else False) else False) else False):=by kernel_rfl
theorem F110_r2:R110 19 3 (upd e 2 (sI x2)) (w2 V0 8 (34,k8) 5 (27,k5)) hp K=
 CF Tryd.prog 106 [(.int .i64 x2)] hp fun u1 h2=>(boolV u1 fun q3=>K (w4 e 2 (sI x2) 26 (sI x2) 27 (sB q3) 28 (sB ((!q3)))) (w2 V0 8 (34,k8) 5 (27,k5)) h2):= by kernel_rfl
theorem F110_r3:R110 75 3 (upd e 8 (sR 8 0)) (upd V0 8 (34,k8)) hp K=
    (if List.length [(Value.int .u8 0),.int .u8 0,.int .u8 0,.int .u8 0,.int .i64 0]=5 then (if List.all [(Value.int .u8 0),.int .u8 0,.int .u8 0,.int .u8 0,.int .i64 0] one=true then (if 0+List.length [(Value.int .u8 0),.int .u8 0,.int .u8 0,.int .u8 0,.int .i64 0]≤List.length k8 then (K (w3 e 8 (sR 8 0) 29 (sV (.agg ⟨[.int .u8 0,.int .u8 0,.int .u8 0,.int .u8 0,.int .i64 0]⟩)) 9 (sI 1)) (w2 V0 8 (34,k8) 8 (34,(splice k8 0 [.int .u8 0,.int .u8 0,.int .u8 0,.int .u8 0,.int .i64 0]))) hp) else False) else False) else False):=by kernel_rfl
theorem F110_r4:R110 47 3 (upd e 8 (sR 8 0)) (upd V0 8 (34,k8)) hp K=
    (if List.length [(Value.int .u8 0),.int .u8 0,.int .u8 0,.int .u8 0,.int .i64 0]=5 then (if List.all [(Value.int .u8 0),.int .u8 0,.int .u8 0,.int .u8 0,.int .i64 0] one=true then (if 0+List.length [(Value.int .u8 0),.int .u8 0,.int .u8 0,.int .u8 0,.int .i64 0]≤List.length k8 then (K (w3 e 8 (sR 8 0) 79 (sV (.agg ⟨[.int .u8 0,.int .u8 0,.int .u8 0,.int .u8 0,.int .i64 0]⟩)) 9 (sI 6)) (w2 V0 8 (34,k8) 8 (34,(splice k8 0 [.int .u8 0,.int .u8 0,.int .u8 0,.int .u8 0,.int .i64 0]))) hp) else False) else False) else False):=by kernel_rfl
def F110_j2 (k8:List Value) (hp:HP) (K:Kh):Prop:=
  (if List.length [(Value.int .u8 0),.int .u8 0,.int .u8 0,.int .u8 0,.int .i64 0]=5 then (if List.all [(Value.int .u8 0),.int .u8 0,.int .u8 0,.int .u8 0,.int .i64 0] one=true then (if 0+List.length [(Value.int .u8 0),.int .u8 0,.int .u8 0,.int .u8 0,.int .i64 0]≤List.length k8 then (ldL (cellsN (splice k8 0 [.int .u8 0,.int .u8 0,.int .u8 0,.int .u8 0,.int .i64 0]) 0 5) fun l6=>K (.tuple ⟨[(.agg ⟨l6⟩),(.int .i64 6)]⟩) hp) else False) else False) else False)
theorem F110_r5:R110 279 1 (w2 e 34 (sI x34) 33 (sI x33)) (upd V0 8 (34,k8)) hp K=
 K (w3 e 34 (sI x34) 33 (sI x33) 35 (sB (decide (x34<x33)))) (upd V0 8 (34,k8)) hp:= by kernel_rfl
theorem F110_r6:R110 1943 2 (upd e 34 (sI x34)) (upd V0 8 (34,k8)) hp K=
 K (w3 e 34 (sI x34) 78 (sI ((wr (x34+1)))) 34 (sI ((wr (x34+1))))) (upd V0 8 (34,k8)) hp:= by kernel_rfl
def F110_j5 (x0:OA) (x2:Int) (x3:Bool) (x32a:OA) (x32n x32c:Nat) (x33 x34:Int) (k8:List Value) (hp:HP) (I4:(Int × (List Value))→HP→Prop) (K:Kh):Prop:=
  (I4 ((IntKind.wrap .i64 (x34+1)),k8) hp)
theorem F110_r7 (h:E=upd (upd e 34 (sI x34)) 32 (sS x32a x32n x32c)):R110 4503 4 E (upd V0 8 (34,k8)) hp K=
    ((0≤x34)∧(x34<x32n)∧(ptrN x32a fun b1 o2=>ldL (HP.cellN hp b1 (o2+Int.toNat x34*4) 4) fun l3=>if List.length l3=4 then (if List.all l3 one=true then (if 0+List.length l3≤List.length [(Value.int .u8 0),.int .u8 0,.int .u8 0,.int .u8 0] then (K (w3 E 36 (sQ b1 (o2+Int.toNat x34*4)) 37 (sA l3) 11 (sR 11 0)) (w3 V0 8 (34,k8) 11 (27,[.int .u8 0,.int .u8 0,.int .u8 0,.int .u8 0]) 11 (27,(splice [.int .u8 0,.int .u8 0,.int .u8 0,.int .u8 0] 0 l3))) hp) else False) else False) else False)):=by subst h; kernel_rfl
theorem F110_r8:R110 137623 6 (w2 e 12 (sI x12) 0 (sP x0)) (w2 V0 11 (27,k11) 8 (34,k8)) hp K=
 ptrN x0 fun b1 o2=>(ldV (HP.cell hp b1 (o2+2)) fun v3=>intV v3 .i64 fun i4=>K (w8 e 12 (sI x12) 0 (sP x0) 42 (sI x12) 43 (sP x0) 44 (sQ b1 o2) 45 (sQ b1 (o2+2)) 46 (sI i4) 47 (sB (decide (x12≤i4)))) (w2 V0 11 (27,k11) 8 (34,k8)) hp):= by kernel_rfl
theorem F110_r9:R110 563607 5 (w2 e 12 (sI x12) 11 (sR 11 0)) (w2 V0 11 (27,k11) 8 (34,k8)) hp K=
 ldL (cellsN k11 0 4) fun l1=>(if List.length l1=4 then (if List.length (List.set (splice [.int .u8 0,.int .u8 0,.int .u8 0,.int .u8 0,.int .i64 0] 0 l1) 4 (.int .i64 x12))=5 then (if List.all (List.set (splice [.int .u8 0,.int .u8 0,.int .u8 0,.int .u8 0,.int .i64 0] 0 l1) 4 (.int .i64 x12)) one=true then (if 0+List.length (List.set (splice [.int .u8 0,.int .u8 0,.int .u8 0,.int .u8 0,.int .i64 0] 0 l1) 4 (.int .i64 x12))≤List.length [(Value.int .u8 0),.int .u8 0,.int .u8 0,.int .u8 0,.int .i64 0] then (K (w6 e 12 (sI x12) 11 (sR 11 0) 50 (sA l1) 51 (sI x12) 52 (sV (.agg ⟨(List.set (splice [.int .u8 0,.int .u8 0,.int .u8 0,.int .u8 0,.int .i64 0] 0 l1) 4 (.int .i64 x12))⟩)) 13 (sR 13 0)) (w4 V0 11 (27,k11) 8 (34,k8) 13 (34,[.int .u8 0,.int .u8 0,.int .u8 0,.int .u8 0,.int .i64 0]) 13 (34,(splice [.int .u8 0,.int .u8 0,.int .u8 0,.int .u8 0,.int .i64 0] 0 (List.set (splice [.int .u8 0,.int .u8 0,.int .u8 0,.int .u8 0,.int .i64 0] 0 l1) 4 (.int .i64 x12))))) hp) else False) else False) else False) else False):= by kernel_rfl
theorem F110_r10:R110 1350039 11 (w2 e 13 (sR 13 0) 0 (sP x0)) (w3 V0 13 (34,k13) 11 (27,k11) 8 (34,k8)) hp K=
 ptrN x0 fun b1 o2=>(ldV (HP.cell hp b1 (o2+3)) fun v3=>mapV v3 fun m4=>ldL (cellsN k13 0 5) fun l5=>rdS Tryd.prog (Instr.lookup 182 (.map m4) (.agg ⟨l5⟩) true) hp fun u6=>tup2V u6 fun u7 u8=>boolV u7 fun q9=>boolV u8 fun q10=>K (w5 (w8 e 13 (sR 13 0) 0 (sP x0) 54 (sP x0) 55 (sQ b1 o2) 56 (sQ b1 (o2+3)) 57 (sV (.map m4)) 58 (sA l5) 59 (sV (.tuple ⟨[(.bool q9),(.bool q10)]⟩))) 53 (sV (.tuple ⟨[(.bool q9),(.bool q10)]⟩)) 60 (sB q9) 61 (sB q10) 14 (sB q9) 15 (sB q10)) (w3 V0 13 (34,k13) 11 (27,k11) 8 (34,k8)) hp):= by kernel_rfl
theorem F110_r11:R110 10262935 6 (w2 e 13 (sR 13 0) 0 (sP x0)) (w2 V0 13 (34,k13) 8 (34,k8)) hp K=
 ptrN x0 fun b1 o2=>(ldV (HP.cell hp b1 (o2+3)) fun v3=>mapV v3 fun m4=>ldL (cellsN k13 0 5) fun l5=>opS Tryd.prog (Instr.mapUpdate 182 (.map m4) (.agg ⟨l5⟩) (.bool false)) hp fun u6 h7=>K (w7 e 13 (sR 13 0) 0 (sP x0) 72 (sP x0) 73 (sQ b1 o2) 74 (sQ b1 (o2+3)) 75 (sV (.map m4)) 76 (sA l5)) (w2 V0 13 (34,k13) 8 (34,k8)) h7):= by kernel_rfl
theorem F110_r12:R110 22845847 3 (w2 e 13 (sR 13 0) 8 (sR 8 0)) (w2 V0 13 (34,k13) 8 (34,k8)) hp K=
 ldL (cellsN k13 0 5) fun l1=>(if List.length l1=5 then (if List.all l1 one=true then (if 0+List.length l1≤List.length k8 then (K (w4 e 13 (sR 13 0) 8 (sR 8 0) 77 (sA l1) 9 (sI 0)) (w3 V0 13 (34,k13) 8 (34,k8) 8 (34,(splice k8 0 l1))) hp) else False) else False) else False):= by kernel_rfl
theorem F110_r13:R110 235927 3 (upd e 12 (sI x12)) (w2 V0 11 (27,k11) 8 (34,k8)) hp K=
 K (w4 e 12 (sI x12) 48 (sI x12) 49 (sI ((wr (x12+1)))) 12 (sI ((wr (x12+1))))) (w2 V0 11 (27,k11) 8 (34,k8)) hp:= by kernel_rfl
def F110_j8 (x0:OA) (x2:Int) (x3:Bool) (x12:Int) (x32a:OA) (x32n x32c:Nat) (x33 x34:Int) (x71:Bool) (k8 k11 k13:List Value) (hp:HP) (I4 I7:(Int × (List Value))→HP→Prop) (K:Kh):Prop:=
  (ite2 x71 (ptrN x0 fun b25 o26=>ldV (HP.cell hp b25 (o26+3)) fun v27=>mapV v27 fun m28=>ldL (cellsN k13 0 5) fun l29=>opS Tryd.prog (Instr.mapUpdate 182 (.map m28) (.agg ⟨l29⟩) (.bool false)) hp fun u30 h31=>ldL (cellsN k13 0 5) fun l32=>if List.length l32=5 then (if List.all l32 one=true then (if 0+List.length l32≤List.length k8 then (ldL (cellsN (splice k8 0 l32) 0 5) fun l33=>K (.tuple ⟨[(.agg ⟨l33⟩),.int .i64 0]⟩) h31) else False) else False) else False) (I7 ((IntKind.wrap .i64 (x12+1)),k8) hp))
theorem F110_r14 (h:E=upd (w3 e 15 (sB x15) 12 (sI x12) 3 (sB x3)) 2 (sI x2)):R110 2922903 10 E (w3 V0 13 (34,k13) 11 (27,k11) 8 (34,k8)) hp K=
 ite2 (!x15) (ite2 x3 (K (w2 (w8 E 62 (sB x15) 63 (sB ((!x15))) 64 (sB true) 65 (sB x3) 66 (sB true) 67 sU 68 sU 69 sU) 70 (sB true) 71 (sB true)) (w3 V0 13 (34,k13) 11 (27,k11) 8 (34,k8)) hp) (CF Tryd.prog 64 [(.int .i64 x2),(.int .i64 x12)] hp fun u1 h2=>boolV u1 fun q3=>K (w2 (w8 E 62 (sB x15) 63 (sB ((!x15))) 64 (sB true) 65 (sB x3) 66 (sB false) 67 (sI x2) 68 (sI x12) 69 (sB q3)) 70 (sB q3) 71 (sB q3)) (w3 V0 13 (34,k13) 11 (27,k11) 8 (34,k8)) h2)) (K (w2 (w8 E 62 (sB x15) 63 (sB ((!x15))) 64 (sB false) 65 sU 66 sU 67 sU 68 sU 69 sU) 70 sU 71 (sB false)) (w3 V0 13 (34,k13) 11 (27,k11) 8 (34,k8)) hp):= by subst h; kernel_rfl
def F110_l7 (x0:OA) (x2:Int) (x3:Bool) (x32a:OA) (x32n x32c:Nat) (x33 x34:Int) (k11:List Value) (I4:(Int × (List Value))→HP→Prop) (K:Kh) (I7:(Int × (List Value))→HP→Prop) (x12:Int) (k8:List Value) (hp:HP):Prop:=
  (ptrN x0 fun b10 o11=>ldV (HP.cell hp b10 (o11+2)) fun v12=>intV v12 .i64 fun i13=>ite2 (decide (x12≤i13)) (ldL (cellsN k11 0 4) fun l14=>if List.length l14=4 then (if List.length (List.set (splice [.int .u8 0,.int .u8 0,.int .u8 0,.int .u8 0,.int .i64 0] 0 l14) 4 (.int .i64 x12))=5 then (if List.all (List.set (splice [.int .u8 0,.int .u8 0,.int .u8 0,.int .u8 0,.int .i64 0] 0 l14) 4 (.int .i64 x12)) one=true then (if 0+List.length (List.set (splice [.int .u8 0,.int .u8 0,.int .u8 0,.int .u8 0,.int .i64 0] 0 l14) 4 (.int .i64 x12))≤List.length [(Value.int .u8 0),.int .u8 0,.int .u8 0,.int .u8 0,.int .i64 0] then (ptrN x0 fun b15 o16=>ldV (HP.cell hp b15 (o16+3)) fun v17=>mapV v17 fun m18=>ldL (cellsN (splice [.int .u8 0,.int .u8 0,.int .u8 0,.int .u8 0,.int .i64 0] 0 (List.set (splice [.int .u8 0,.int .u8 0,.int .u8 0,.int .u8 0,.int .i64 0] 0 l14) 4 (.int .i64 x12))) 0 5) fun l19=>rdS Tryd.prog (Instr.lookup 182 (.map m18) (.agg ⟨l19⟩) true) hp fun u20=>tup2V u20 fun u21 u22=>boolV u21 fun q23=>boolV u22 fun q24=>ite2 (!q24) (ite2 x3 (F110_j8 x0 x2 x3 x12 x32a x32n x32c x33 x34 true k8 k11 (splice [.int .u8 0,.int .u8 0,.int .u8 0,.int .u8 0,.int .i64 0] 0 (List.set (splice [.int .u8 0,.int .u8 0,.int .u8 0,.int .u8 0,.int .i64 0] 0 l14) 4 (.int .i64 x12))) hp I4 I7 K) (CF Tryd.prog 64 [(.int .i64 x2),(.int .i64 x12)] hp fun u34 h35=>boolV u34 fun q36=>F110_j8 x0 x2 x3 x12 x32a x32n x32c x33 x34 q36 k8 k11 (splice [.int .u8 0,.int .u8 0,.int .u8 0,.int .u8 0,.int .i64 0] 0 (List.set (splice [.int .u8 0,.int .u8 0,.int .u8 0,.int .u8 0,.int .i64 0] 0 l14) 4 (.int .i64 x12))) h35 I4 I7 K)) (F110_j8 x0 x2 x3 x12 x32a x32n x32c x33 x34 false k8 k11 (splice [.int .u8 0,.int .u8 0,.int .u8 0,.int .u8 0,.int .i64 0] 0 (List.set (splice [.int .u8 0,.int .u8 0,.int .u8 0,.int .u8 0,.int .i64 0] 0 l14) 4 (.int .i64 x12))) hp I4 I7 K)) else False) else False) else False) else False) (F110_j5 x0 x2 x3 x32a x32n x32c x33 x34 k8 hp I4 K))
def F110_j6 (x0:OA) (x2:Int) (x3:Bool) (x12:Int) (x32a:OA) (x32n x32c:Nat) (x33 x34:Int) (k8 k11:List Value) (hp:HP) (I4:(Int × (List Value))→HP→Prop) (K:Kh):Prop:=
  (LoopP (σ:=Int × (List Value)) (fun I s hp=>F110_l7 x0 x2 x3 x32a x32n x32c x33 x34 k11 I4 K I s.1 s.2 hp) (x12,k8) hp)
theorem F110_r15:R110 10647 5 (upd e 0 (sP x0)) (w2 V0 11 (27,k11) 8 (34,k8)) hp K=
 ptrN x0 fun b1 o2=>(ldV (HP.cell hp b1 (o2+1)) fun v3=>intV v3 .i64 fun i4=>K (w6 e 0 (sP x0) 38 (sP x0) 39 (sQ b1 o2) 40 (sQ b1 (o2+1)) 41 (sI i4) 12 (sI i4)) (w2 V0 11 (27,k11) 8 (34,k8)) hp):= by kernel_rfl
def F110_l4 (x0:OA) (x2:Int) (x3:Bool) (x32a:OA) (x32n x32c:Nat) (x33:Int) (K:Kh) (I4:(Int × (List Value))→HP→Prop) (x34:Int) (k8:List Value) (hp:HP):Prop:=
  (ite2 (decide (x34<x33)) ((0≤x34)∧(x34<x32n)∧(ptrN x32a fun b7 o8=>ldL (HP.cellN hp b7 (o8+Int.toNat x34*4) 4) fun l9=>if List.length l9=4 then (if List.all l9 one=true then (if 0+List.length l9≤List.length [(Value.int .u8 0),.int .u8 0,.int .u8 0,.int .u8 0] then (ptrN x0 fun b37 o38=>ldV (HP.cell hp b37 (o38+1)) fun v39=>intV v39 .i64 fun i40=>F110_j6 x0 x2 x3 i40 x32a x32n x32c x33 x34 k8 (splice [.int .u8 0,.int .u8 0,.int .u8 0,.int .u8 0] 0 l9) hp I4 K) else False) else False) else False)) (F110_j2 k8 hp  K))
def F110_j3 (x0:OA) (x2:Int) (x3:Bool) (x32a:OA) (x32n x32c:Nat) (x33 x34:Int) (k8:List Value) (hp:HP) (K:Kh):Prop:=
  (LoopP (σ:=Int × (List Value)) (fun I s hp=>F110_l4 x0 x2 x3 x32a x32n x32c x33  K I s.1 s.2 hp) (x34,k8) hp)
theorem F110_r16:R110 39 5 (w2 e 5 (sR 5 0) 0 (sP x0)) (w2 V0 8 (34,k8) 5 (27,k5)) hp K=
 ldL (cellsN k5 0 4) fun l1=>(CF Tryd.prog 133 [(.pointer x0),(.agg ⟨l1⟩)] hp fun u2 h3=>slcV u2 fun a4 n5 c6=>K (w7 e 5 (sR 5 0) 0 (sP x0) 30 (sP x0) 31 (sA l1) 32 (sS a4 n5 c6) 33 (sI ((n5:Nat))) 34 (sI 0)) (w2 V0 8 (34,k8) 5 (27,k5)) h3):= by kernel_rfl
def F110_j1 (x0:OA) (x2:Int) (x3 x24:Bool) (k5 k8:List Value) (hp:HP) (K:Kh):Prop:=
  (ite2 x24 (if List.length [(Value.int .u8 0),.int .u8 0,.int .u8 0,.int .u8 0,.int .i64 0]=5 then (if List.all [(Value.int .u8 0),.int .u8 0,.int .u8 0,.int .u8 0,.int .i64 0] one=true then (if 0+List.length [(Value.int .u8 0),.int .u8 0,.int .u8 0,.int .u8 0,.int .i64 0]≤List.length k8 then (ldL (cellsN (splice k8 0 [.int .u8 0,.int .u8 0,.int .u8 0,.int .u8 0,.int .i64 0]) 0 5) fun l1=>K (.tuple ⟨[(.agg ⟨l1⟩),(.int .i64 2)]⟩) hp) else False) else False) else False) (CF Tryd.prog 106 [(.int .i64 x2)] hp fun u2 h3=>boolV u2 fun q4=>ite2 (!q4) (if List.length [(Value.int .u8 0),.int .u8 0,.int .u8 0,.int .u8 0,.int .i64 0]=5 then (if List.all [(Value.int .u8 0),.int .u8 0,.int .u8 0,.int .u8 0,.int .i64 0] one=true then (if 0+List.length [(Value.int .u8 0),.int .u8 0,.int .u8 0,.int .u8 0,.int .i64 0]≤List.length k8 then (ldL (cellsN (splice k8 0 [.int .u8 0,.int .u8 0,.int .u8 0,.int .u8 0,.int .i64 0]) 0 5) fun l5=>K (.tuple ⟨[(.agg ⟨l5⟩),(.int .i64 1)]⟩) h3) else False) else False) else False) (ldL (cellsN k5 0 4) fun l41=>CF Tryd.prog 133 [(.pointer x0),(.agg ⟨l41⟩)] h3 fun u42 h43=>slcV u42 fun a44 n45 c46=>F110_j3 x0 x2 x3 a44 n45 c46 (n45:Nat) 0 k8 h43  K)))
theorem F110_r17:R110 9 9 (upd e 0 (sP x0)) (w2 V0 8 (34,k8) 5 (27,k5)) hp K=
 ite2 (Option.isNone x0) (K (w2 (w8 e 0 (sP x0) 16 (sP x0) 17 (sB ((Option.isNone x0))) 18 (sB true) 19 sU 20 sU 21 sU 22 sU) 23 sU 24 (sB true)) (w2 V0 8 (34,k8) 5 (27,k5)) hp) (ptrN x0 fun b1 o2=>ldV (HP.cell hp b1 (o2+3)) fun v3=>mapV v3 fun m4=>K (w2 (w8 e 0 (sP x0) 16 (sP x0) 17 (sB ((Option.isNone x0))) 18 (sB false) 19 (sP x0) 20 (sQ b1 o2) 21 (sQ b1 (o2+3)) 22 (sV (.map m4))) 23 (sB ((Option.isNone m4))) 24 (sB ((Option.isNone m4)))) (w2 V0 8 (34,k8) 5 (27,k5)) hp):= by kernel_rfl
def F110 (x0:OA) (x1:List Value) (x2:Int) (x3:Bool) (hp:HP) (K:Kh):Prop:=
  (ite2 (Option.isNone x0) (F110_j1 x0 x2 x3 true x1 [.int .u8 0,.int .u8 0,.int .u8 0,.int .u8 0,.int .i64 0] hp  K) (ptrN x0 fun b47 o48=>ldV (HP.cell hp b47 (o48+3)) fun v49=>mapV v49 fun m50=>F110_j1 x0 x2 x3 (Option.isNone m50) x1 [.int .u8 0,.int .u8 0,.int .u8 0,.int .u8 0,.int .i64 0] hp  K))
noncomputable abbrev o110 (k n:Nat):Code:=.region k (opsAt Tryd.f110 (pth n)) false
noncomputable def F110_code:Code:=(.seq (o110 0 2) (.seq (.seq (o110 1 9) (.cond (.tmp 24) (.seq (o110 2 37) .ret) .skip)) (.seq (.seq (o110 3 19) (.cond (.tmp 28) (.seq (o110 4 75) .ret) .skip)) (.seq (.seq (o110 5 39) (.block 0 (.loop (.seq (o110 6 279) (.seq (.cond (.tmp 35) .skip (.exit 0)) (.seq (.block 1 (.seq (o110 7 4503) (.seq (o110 8 10647) (.block 2 (.loop (.seq (.seq (o110 9 137623) (.cond (.tmp 47) .skip (.exit 2))) (.seq (.block 3 (.seq (o110 11 563607) (.seq (.region 12 (opsAt Tryd.f110 (pth 1350039)) true) (.seq (o110 13 2922903) (.cond (.tmp 71) (.seq (.region 14 (opsAt Tryd.f110 (pth 10262935)) true) (.seq (o110 15 22845847) .ret)) .skip))))) (o110 10 235927)))))))) (o110 16 1943))))))) (.seq (o110 17 47) .ret)))))
theorem F110_body:Tryd.f110.body=some F110_code:=by kernel_rfl
theorem F110_ok (x0:OA) (x1:List Value) (x2:Int) (x3:Bool) (hp:HP) (K:Kh) (h:F110 x0 x1 x2 x3 hp K):CF Tryd.prog 110 [(.pointer x0),(.agg ⟨x1⟩),(.int .i64 x2),(.bool x3)] hp K:=by
 refine .inl ⟨by kernel_rfl,AC.intro (N:=80) Tryd.func110 F110_body rfl (Nat.le_of_ble_eq_true rfl) ?_⟩
 unfold F110 at h
 refine Ar F110_r0 ?_ (r4 1 0 2 3 Rn) (z4 Sn) Sn
 refine Aq (As (fun env pv hp=>∃ x0 x2 x3 x24 k5 k8,Sub (w6 E0 24 (sB x24) 8 (sR 8 0) 5 (sR 5 0) 3 (sB x3) 2 (sI x2) 0 (sP x0)) env∧Sub (w2 V0 8 (34,k8) 5 (27,k5)) pv∧(F110_j1 x0 x2 x3 x24 k5 k8 hp  K)) ?_ ?_)
 ·refine Ag F110_r17 ?_ (r3 0 2 3 (rp 5 5 0 (rp 8 8 0 Rn))) (z5 Sn) (z2 Sn)
  refine mt h (fun h=>?_) (fun h=>?_)
  ·exact ⟨_,_,_,_,_,_,(z6 Sn),(z2 Sn),h⟩
  ·refine mN h fun b47 o48 h=>mV h fun v49 h=>mM h fun m50 h=>?_
   exact ⟨_,_,_,_,_,_,(z6 Sn),(z2 Sn),h⟩
 ·rintro env pv hp ⟨x0,x2,x3,x24,k5,k8,he,hv,h⟩
  refine Ae ?_ (r3 0 2 3 (rp 5 5 0 (rp 8 8 0 (r1 24 Rn)))) he hv
  unfold F110_j1 at h
  refine Ac h rfl (fun h=>?_) (fun h=>?_)
  ·refine Ar F110_r1 ?_ (rp 8 8 0 Rn) (z1 Sn) (z1 Sn)
   refine mf h fun h=>mf h fun h=>mf h fun h=>?_
   refine AWP.ret ?_
   exact h
  ·refine AWP.skip (Aq (Ar F110_r2 ?_ (r3 2 0 3 (rp 5 5 0 (rp 8 8 0 Rn))) (z5 Sn) (z2 Sn)))
   refine mC h fun u2 h3 h=>mB h fun q4 h=>?_
   refine Ac h rfl (fun h=>?_) (fun h=>?_)
   ·refine Ar F110_r3 ?_ (rp 8 8 0 Rn) (z1 Sn) (z1 Sn)
    refine mf h fun h=>mf h fun h=>mf h fun h=>?_
    refine AWP.ret ?_
    exact h
   ·refine AWP.skip (As (fun env pv hp=>∃ k8,Sub (upd E0 8 (sR 8 0)) env∧Sub (upd V0 8 (34,k8)) pv∧(F110_j2 k8 hp  K)) ?_ ?_)
    ·refine As (fun env pv hp=>∃ x0 x2 x3 x32a x32n x32c x33 x34 k8,Sub (w7 E0 34 (sI x34) 33 (sI x33) 32 (sS x32a x32n x32c) 8 (sR 8 0) 3 (sB x3) 2 (sI x2) 0 (sP x0)) env∧Sub (upd V0 8 (34,k8)) pv∧(F110_j3 x0 x2 x3 x32a x32n x32c x33 x34 k8 hp  K)) ?_ ?_
     ·refine Ag F110_r16 ?_ (r1 0 (rp 5 5 0 (r2 2 3 (rp 8 8 0 Rn)))) (z5 Sn) (z2 Sn)
      refine mL h fun l41 h=>mC h fun u42 h43 h=>mS h fun a44 n45 c46 h=>?_
      exact ⟨_,_,_,_,_,_,_,_,_,(z7 Sn),(z1 Sn),h⟩
     ·rintro env pv hp ⟨x0,x2,x3,x32a,x32n,x32c,x33,x34,k8,he,hv,h⟩
      refine Ae ?_ (r3 0 2 3 (rp 8 8 0 (r3 32 33 34 Rn))) he hv
      unfold F110_j3 at h
      refine AWP.block (AWP.loop (σ:=Int × (List Value)) _ (fun s=>w7 E0 34 (sI (s.1)) 33 (sI x33) 32 (sS x32a x32n x32c) 8 (sR 8 0) 3 (sB x3) 2 (sI x2) 0 (sP x0)) (fun s=>upd V0 8 (34,s.2)) (x34,k8) h (fun s=>r3 0 2 3 (rp 8 8 0 (r3 32 33 34 Rn))) (z7 Sn) (z1 Sn) ?_)
      intro I4 s hp h
      obtain ⟨x34,k8⟩:=s
      replace h:F110_l4 x0 x2 x3 x32a x32n x32c x33  K I4 x34 k8 hp:=h
      unfold F110_l4 at h
      refine Ar F110_r5 ?_ (r5 33 34 0 2 3 (rp 8 8 0 (r1 32 Rn))) (z7 Sn) (z1 Sn)
      refine Aq (Ac h rfl (fun h=>?_) (fun h=>?_))
      ·refine AWP.skip (As (fun env pv hp=>∃ x34 k8,Sub (w7 E0 34 (sI x34) 33 (sI x33) 32 (sS x32a x32n x32c) 8 (sR 8 0) 3 (sB x3) 2 (sI x2) 0 (sP x0)) env∧Sub (upd V0 8 (34,k8)) pv∧(F110_j5 x0 x2 x3 x32a x32n x32c x33 x34 k8 hp I4 K)) ?_ ?_)
       ·refine AWP.block (Ar (F110_r7 rfl) ?_ (r5 32 34 0 2 3 (rp 8 8 0 (r1 33 Rn))) (z7 Sn) (z1 Sn))
        refine ⟨h.1,h.2.1,mN h.2.2 fun b7 o8 h=>mL h fun l9 h=>mf h fun h=>mf h fun h=>mf h fun h=>?_⟩
        refine As (fun env pv hp=>∃ x12 x34 k8 k11,Sub (upd (w8 E0 34 (sI x34) 33 (sI x33) 32 (sS x32a x32n x32c) 12 (sI x12) 11 (sR 11 0) 8 (sR 8 0) 3 (sB x3) 2 (sI x2)) 0 (sP x0)) env∧Sub (w2 V0 11 (27,k11) 8 (34,k8)) pv∧(F110_j6 x0 x2 x3 x12 x32a x32n x32c x33 x34 k8 k11 hp I4 K)) ?_ ?_
        ·refine Ag F110_r15 ?_ (r3 0 2 3 (rp 8 8 0 (rp 11 11 0 (r3 32 33 34 Rn)))) (z8 Sn) (z2 Sn)
         refine mN h fun b37 o38 h=>mV h fun v39 h=>mI h fun i40 h=>?_
         exact ⟨_,_,_,_,(z1 (z8 Sn)),(z2 Sn),h⟩
        ·rintro env pv hp ⟨x12,x34,k8,k11,he,hv,h⟩
         refine Ae ?_ (r3 0 2 3 (rp 8 8 0 (rp 11 11 0 (r4 12 32 33 34 Rn)))) he hv
         unfold F110_j6 at h
         refine AWP.block (AWP.loop (σ:=Int × (List Value)) _ (fun s=>upd (w8 E0 34 (sI x34) 33 (sI x33) 32 (sS x32a x32n x32c) 12 (sI (s.1)) 11 (sR 11 0) 8 (sR 8 0) 3 (sB x3) 2 (sI x2)) 0 (sP x0)) (fun s=>w2 V0 11 (27,k11) 8 (34,s.2)) (x12,k8) h (fun s=>r3 0 2 3 (rp 8 8 0 (rp 11 11 0 (r4 12 32 33 34 Rn)))) (z1 (z8 Sn)) (z2 Sn) ?_)
         intro I7 s hp h
         obtain ⟨x12,k8⟩:=s
         replace h:F110_l7 x0 x2 x3 x32a x32n x32c x33 x34 k11 I4 K I7 x12 k8 hp:=h
         unfold F110_l7 at h
         refine Aq (Ar F110_r8 ?_ (r4 0 12 2 3 (rp 8 8 0 (rp 11 11 0 (r3 32 33 34 Rn)))) (z1 (z8 Sn)) (z2 Sn))
         refine mN h fun b10 o11 h=>mV h fun v12 h=>mI h fun i13 h=>?_
         refine Ac h rfl (fun h=>?_) (fun h=>?_)
         ·refine AWP.skip (Aq (AWP.block (Ar F110_r9 ?_ (rp 11 11 0 (r4 12 0 2 3 (rp 8 8 0 (r3 32 33 34 Rn)))) (z1 (z8 Sn)) (z2 Sn))))
          refine mL h fun l14 h=>mf h fun h=>mf h fun h=>mf h fun h=>mf h fun h=>?_
          refine Aq (AWP.rgnD (by kernel_rfl) (by kernel_rfl) F110_r10 ?_ (r1 0 (rp 13 13 0 (r2 2 3 (rp 8 8 0 (rp 11 11 0 (r4 12 32 33 34 Rn)))))) (z2 (z8 Sn)) (z3 Sn))
          refine mN h fun b15 o16 h=>mV h fun v17 h=>mM h fun m18 h=>mL h fun l19 h=>mR h fun u20 h=>mT h fun u21 u22 h=>mB h fun q23 h=>mB h fun q24 h=>?_
          refine As (fun env pv hp=>∃ x12 x71 k8 k13,Sub (w3 (w8 E0 71 (sB x71) 34 (sI x34) 33 (sI x33) 32 (sS x32a x32n x32c) 13 (sR 13 0) 12 (sI x12) 11 (sR 11 0) 8 (sR 8 0)) 3 (sB x3) 2 (sI x2) 0 (sP x0)) env∧Sub (w3 V0 13 (34,k13) 11 (27,k11) 8 (34,k8)) pv∧(F110_j8 x0 x2 x3 x12 x32a x32n x32c x33 x34 x71 k8 k11 k13 hp I4 I7 K)) ?_ ?_
          ·refine Ag (F110_r14 rfl) ?_ (r5 2 3 12 15 0 (rp 8 8 0 (rp 11 11 0 (rp 13 13 0 (r3 32 33 34 Rn))))) (z3 (z8 Sn)) (z3 Sn)
           refine mt h (fun h=>?_) (fun h=>?_)
           ·refine mt h (fun h=>?_) (fun h=>?_)
            ·exact ⟨_,_,_,_,(z3 (z8 Sn)),(z3 Sn),h⟩
            ·refine mC h fun u34 h35 h=>mB h fun q36 h=>?_
             exact ⟨_,_,_,_,(z3 (z8 Sn)),(z3 Sn),h⟩
           ·exact ⟨_,_,_,_,(z3 (z8 Sn)),(z3 Sn),h⟩
          ·rintro env pv hp ⟨x12,x71,k8,k13,he,hv,h⟩
           refine Ae ?_ (r3 0 2 3 (rp 8 8 0 (rp 11 11 0 (r1 12 (rp 13 13 0 (r4 32 33 34 71 Rn)))))) he hv
           unfold F110_j8 at h
           refine Ac h rfl (fun h=>?_) (fun h=>?_)
           ·refine Aq (AWP.rgnD (by kernel_rfl) (by kernel_rfl) F110_r11 ?_ (r1 0 (rp 13 13 0 (rp 8 8 0 Rn))) (z3 Sn) (z2 Sn))
            refine mN h fun b25 o26 h=>mV h fun v27 h=>mM h fun m28 h=>mL h fun l29 h=>mO h fun u30 h31 h=>?_
            refine Ar F110_r12 ?_ (rp 8 8 0 (rp 13 13 0 Rn)) (z2 Sn) (z2 Sn)
            refine mL h fun l32 h=>mf h fun h=>mf h fun h=>mf h fun h=>?_
            refine AWP.ret ?_
            exact h
           ·refine AWP.skip (Ag F110_r13 ?_ (r4 12 0 2 3 (rp 8 8 0 (rp 11 11 0 (r3 32 33 34 Rn)))) (z1 (z8 Sn)) (z2 Sn))
            exact ⟨_,(z1 (z8 Sn)),(z2 Sn),h⟩
         ·refine AWP.exit ?_
          exact ⟨_,_,(z7 Sn),(z1 Sn),h⟩
       ·rintro env pv hp ⟨x34,k8,he,hv,h⟩
        refine Ae ?_ (r3 0 2 3 (rp 8 8 0 (r3 32 33 34 Rn))) he hv
        unfold F110_j5 at h
        refine Ag F110_r6 ?_ (r4 34 0 2 3 (rp 8 8 0 (r2 32 33 Rn))) (z7 Sn) (z1 Sn)
        exact ⟨_,(z7 Sn),(z1 Sn),h⟩
      ·refine AWP.exit ?_
       exact ⟨_,(z1 Sn),(z1 Sn),h⟩
    ·rintro env pv hp ⟨k8,he,hv,h⟩
     refine Ae ?_ (rp 8 8 0 Rn) he hv
     unfold F110_j2 at h
     refine Ar F110_r4 ?_ (rp 8 8 0 Rn) (z1 Sn) (z1 Sn)
     refine mf h fun h=>mf h fun h=>mf h fun h=>?_
     refine AWP.ret ?_
     exact h
end
section
variable {e E:Env} {x0a:OA} {x0n x0c:Nat} {x1:List Value} {x5 x7 x8:Int} {k3:List Value} {hp:HP} {K:Env→PV→HP→Prop}
abbrev R132 (p n:Nat):=RW Tryd.prog 19 [3] (opsAt Tryd.f132 (pth p)) (List.range n)
theorem F132_r0:R132 2 2 (upd e 1 (sA x1)) V0 hp K=
 K (w3 e 1 (sA x1) 3 (sR 3 0) 4 (sI 0)) (upd V0 3 (27,x1)) hp:= by kernel_rfl
theorem F132_r1:R132 69 1 (w2 e 8 (sI x8) 7 (sI x7)) (upd V0 3 (27,k3)) hp K=
 K (w3 e 8 (sI x8) 7 (sI x7) 9 (sB (decide (x8<x7)))) (upd V0 3 (27,k3)) hp:= by kernel_rfl
theorem F132_r2:R132 1125 2 (upd e 8 (sI x8)) (upd V0 3 (27,k3)) hp K=
 K (w3 e 8 (sI x8) 10 (sI x8) 5 (sI x8)) (upd V0 3 (27,k3)) hp:= by kernel_rfl
theorem F132_r3 (h:E=upd (w2 e 5 (sI x5) 3 (sR 3 0)) 0 (sS x0a x0n x0c)):R132 2661 6 E (upd V0 3 (27,k3)) hp K=
    (ldL (cellsN k3 0 4) fun l1=>(0≤x5)∧(x5<x0n)∧(ptrN x0a fun b2 o3=>ldL (HP.cellN hp b2 (o3+Int.toNat x5*4) 4) fun l4=>eqAgg Tryd.prog 27 l1 l4 fun q5=>K (w6 E 11 (sA l1) 12 (sS x0a x0n x0c) 13 (sI x5) 14 (sQ b2 (o3+Int.toNat x5*4)) 15 (sA l4) 16 (sB q5)) (upd V0 3 (27,k3)) hp)):=by subst h; kernel_rfl
theorem F132_r4:R132 9829 2 (upd e 5 (sI x5)) V0 hp K=
 K (w3 e 5 (sI x5) 17 (sI x5) 4 (sI x5)) V0 hp:= by kernel_rfl
theorem F132_r5:R132 485 2 (upd e 8 (sI x8)) (upd V0 3 (27,k3)) hp K=
 K (w3 e 8 (sI x8) 18 (sI ((wr (x8+1)))) 8 (sI ((wr (x8+1))))) (upd V0 3 (27,k3)) hp:= by kernel_rfl
theorem F132_r6:R132 11 1 e V0 hp K=
 K (upd e 4 (sI ((-1)))) V0 hp:= by kernel_rfl
def F132_l2 (x0a:OA) (x0n x0c:Nat) (x7:Int) (k3:List Value) (K:Kh) (I2:(Int)→HP→Prop) (x8:Int) (hp:HP):Prop:=
  (ite2 (decide (x8<x7)) (ldL (cellsN k3 0 4) fun l1=>(0≤x8)∧(x8<x0n)∧(ptrN x0a fun b2 o3=>ldL (HP.cellN hp b2 (o3+Int.toNat x8*4) 4) fun l4=>eqAgg Tryd.prog 27 l1 l4 fun q5=>ite2 q5 (K (.int .i64 x8) hp) (I2 (IntKind.wrap .i64 (x8+1)) hp))) (K (.int .i64 (-1)) hp))
def F132_j1 (x0a:OA) (x0n x0c:Nat) (x7 x8:Int) (k3:List Value) (hp:HP) (K:Kh):Prop:=
  (LoopP (σ:=Int) (fun I s hp=>F132_l2 x0a x0n x0c x7 k3  K I s hp) x8 hp)
theorem F132_r7:R132 9 3 (upd e 0 (sS x0a x0n x0c)) (upd V0 3 (27,k3)) hp K=
 K (w4 e 0 (sS x0a x0n x0c) 6 (sS x0a x0n x0c) 7 (sI ((x0n:Nat))) 8 (sI 0)) (upd V0 3 (27,k3)) hp:= by kernel_rfl
def F132 (x0a:OA) (x0n x0c:Nat) (x1:List Value) (hp:HP) (K:Kh):Prop:=
  (F132_j1 x0a x0n x0c (x0n:Nat) 0 x1 hp  K)
noncomputable abbrev o132 (k n:Nat):Code:=.region k (opsAt Tryd.f132 (pth n)) false
noncomputable def F132_code:Code:=(.seq (o132 0 2) (.seq (.seq (o132 1 9) (.block 0 (.loop (.seq (o132 2 69) (.seq (.cond (.tmp 9) .skip (.exit 0)) (.seq (.block 1 (.seq (o132 3 1125) (.seq (.region 4 (opsAt Tryd.f132 (pth 2661)) true) (.cond (.tmp 16) (.seq (o132 5 9829) .ret) .skip)))) (o132 6 485))))))) (.seq (o132 7 11) .ret)))
theorem F132_body:Tryd.f132.body=some F132_code:=by kernel_rfl
theorem F132_ok (x0a:OA) (x0n x0c:Nat) (x1:List Value) (hp:HP) (K:Kh) (h:F132 x0a x0n x0c x1 hp K):CF Tryd.prog 132 [(.slice x0a x0n x0c),(.agg ⟨x1⟩)] hp K:=by
 refine .inl ⟨by kernel_rfl,AC.intro (N:=19) Tryd.func132 F132_body rfl (Nat.le_of_ble_eq_true rfl) ?_⟩
 unfold F132 at h
 refine Ar F132_r0 ?_ (r2 1 0 Rn) (z2 Sn) Sn
 refine Aq (As (fun env pv hp=>∃ x0a x0n x0c x7 x8 k3,Sub (w4 E0 8 (sI x8) 7 (sI x7) 3 (sR 3 0) 0 (sS x0a x0n x0c)) env∧Sub (upd V0 3 (27,k3)) pv∧(F132_j1 x0a x0n x0c x7 x8 k3 hp  K)) ?_ ?_)
 ·refine Ag F132_r7 ?_ (r1 0 (rp 3 3 0 Rn)) (z2 Sn) (z1 Sn)
  exact ⟨_,_,_,_,_,_,(z4 Sn),(z1 Sn),h⟩
 ·rintro env pv hp ⟨x0a,x0n,x0c,x7,x8,k3,he,hv,h⟩
  refine Ae ?_ (r1 0 (rp 3 3 0 (r2 7 8 Rn))) he hv
  unfold F132_j1 at h
  refine AWP.block (AWP.loop (σ:=Int) _ (fun s=>w4 E0 8 (sI s) 7 (sI x7) 3 (sR 3 0) 0 (sS x0a x0n x0c)) (fun s=>upd V0 3 (27,k3)) x8 h (fun s=>r1 0 (rp 3 3 0 (r2 7 8 Rn))) (z4 Sn) (z1 Sn) ?_)
  intro I2 x8 hp h
  replace h:F132_l2 x0a x0n x0c x7 k3  K I2 x8 hp:=h
  unfold F132_l2 at h
  refine Ar F132_r1 ?_ (r3 7 8 0 (rp 3 3 0 Rn)) (z4 Sn) (z1 Sn)
  refine Aq (Ac h rfl (fun h=>?_) (fun h=>?_))
  ·refine AWP.skip (Aq (AWP.block (Ar F132_r2 ?_ (r2 8 0 (rp 3 3 0 (r1 7 Rn))) (z4 Sn) (z1 Sn))))
   refine Aq (AWP.rgnD (by kernel_rfl) (by kernel_rfl) (F132_r3 rfl) ?_ (r1 0 (rp 3 3 0 (r3 5 7 8 Rn))) (z5 Sn) (z1 Sn))
   refine mL h (fun l1 h=>⟨h.1,h.2.1,mN h.2.2 fun b2 o3 h=>mL h fun l4 h=>mE h fun q5 h=>?_⟩)
   refine Ac h rfl (fun h=>?_) (fun h=>?_)
   ·refine Ar F132_r4 ?_ (r1 5 Rn) (z1 Sn) Sn
    refine AWP.ret ?_
    exact h
   ·refine AWP.skip (Ag F132_r5 ?_ (r2 8 0 (rp 3 3 0 (r1 7 Rn))) (z4 Sn) (z1 Sn))
    exact ⟨_,(z4 Sn),(z1 Sn),h⟩
  ·refine AWP.exit ?_
   refine Ar F132_r6 ?_ Rn Sn Sn
   refine AWP.ret ?_
   exact h
end
section
variable {e:Env} {x0:OA} {x1:List Value} {x5a:OA} {x5n x5c:Nat} {x6:Int} {k3:List Value} {hp:HP} {K:Env→PV→HP→Prop}
abbrev R133 (p n:Nat):=RW Tryd.prog 26 [3] (opsAt Tryd.f133 (pth p)) (List.range n)
theorem F133_r0:R133 2 2 (upd e 1 (sA x1)) V0 hp K=
 K (w3 e 1 (sA x1) 3 (sR 3 0) 4 (sS none 0 0)) (upd V0 3 (27,x1)) hp:= by kernel_rfl
theorem F133_r1:R133 5 6 (upd e 0 (sP x0)) (upd V0 3 (27,k3)) hp K=
 ptrN x0 fun b1 o2=>(ldV (HP.cell hp b1 (o2+0)) fun v3=>slcV v3 fun a4 n5 c6=>CF Tryd.prog 109 [(.slice a4 n5 c6)] hp fun u7 h8=>slcV u7 fun a9 n10 c11=>K (w7 e 0 (sP x0) 7 (sP x0) 8 (sQ b1 o2) 9 (sQ b1 (o2+0)) 10 (sS a4 n5 c6) 11 (sS a9 n10 c11) 5 (sS a9 n10 c11)) (upd V0 3 (27,k3)) h8):= by kernel_rfl
theorem F133_r2:R133 23 2 (upd e 5 (sS x5a x5n x5c)) V0 hp K=
 K (w3 e 5 (sS x5a x5n x5c) 25 (sS x5a x5n x5c) 4 (sS x5a x5n x5c)) V0 hp:= by kernel_rfl
def F133_j1 (x5a:OA) (x5n x5c:Nat) (hp:HP) (K:Kh):Prop:=
  (K (.slice x5a x5n x5c) hp)
theorem F133_r3:R133 19 4 (w2 e 5 (sS x5a x5n x5c) 3 (sR 3 0)) (upd V0 3 (27,k3)) hp K=
 ldL (cellsN k3 0 4) fun l1=>(CF Tryd.prog 132 [(.slice x5a x5n x5c),(.agg ⟨l1⟩)] hp fun u2 h3=>intV u2 .i64 fun i4=>K (w6 e 5 (sS x5a x5n x5c) 3 (sR 3 0) 12 (sS x5a x5n x5c) 13 (sA l1) 14 (sI i4) 6 (sI i4)) (upd V0 3 (27,k3)) h3):= by kernel_rfl
theorem F133_r4:R133 43 2 (upd e 6 (sI x6)) (upd V0 3 (27,k3)) hp K=
 K (w3 e 6 (sI x6) 15 (sI x6) 16 (sB (decide (x6 > 0)))) (upd V0 3 (27,k3)) hp:= by kernel_rfl
theorem F133_r5 {e:Env} {x5a:OA} {x5n:Nat} {x5c:Nat} {x6:Int} {k3:List Value} {hp:HP} {K:Env→PV→HP→Prop}:RW Tryd.prog 26 [3] (opsAt Tryd.f133 (pth 91)) [0,1,2,3,4,5,6,7,8] (w3 e 6 (sI x6) 5 (sS x5a x5n x5c) 3 (sR 3 0)) (upd V0 3 (27,k3)) hp K=
 CF Tryd.prog 158 [(.slice x5a x5n x5c),(.int .i64 x6),(.int .i64 (wr (x6+1)))] hp fun u1 h2=>(slcV u1 fun a3 n4 c5=>ldL (cellsN k3 0 4) fun l6=>if List.length l6=4 then (∀ b7:Nat,h2 b7=.none→(CF Tryd.prog 157 [(.slice a3 n4 c5),.int .i64 0,(.slice (some ⟨b7,0,none⟩) 1 1)] (HP.set h2 b7 (.cells 27 (splice [.int .u8 0,.int .u8 0,.int .u8 0,.int .u8 0] 0 l6) 0)) fun u8 h9=>slcV u8 fun a10 n11 c12=>K (w4 (w8 e 6 (sI x6) 5 (sS x5a x5n x5c) 3 (sR 3 0) 17 (sS x5a x5n x5c) 18 (sI x6) 19 (sI x6) 20 (sI ((wr (x6+1)))) 21 (sS a3 n4 c5)) 22 (sA l6) 23 (sV (.slice (some ⟨b7,0,none⟩) 1 1)) 24 (sS a10 n11 c12) 5 (sS a10 n11 c12)) (upd V0 3 (27,k3)) h9)) else False):= by kernel_rfl
theorem F133_r6 {e:Env} {x5a:OA} {x5n:Nat} {x5c:Nat} {x6:Int} {k3:List Value} {hp:HP} {K:Env→PV→HP→Prop}:RW Tryd.prog 26 [3] (opsAt Tryd.f133 (pth 91)) [0,1,2,3,5,6,4,7,8] (w3 e 6 (sI x6) 5 (sS x5a x5n x5c) 3 (sR 3 0)) (upd V0 3 (27,k3)) hp K=
 ldL (cellsN k3 0 4) fun l1=>(if List.length l1=4 then (∀ b2:Nat,hp b2=.none→(CF Tryd.prog 158 [(.slice x5a x5n x5c),(.int .i64 x6),(.int .i64 (wr (x6+1)))] (HP.set hp b2 (.cells 27 (splice [.int .u8 0,.int .u8 0,.int .u8 0,.int .u8 0] 0 l1) 0)) fun u3 h4=>slcV u3 fun a5 n6 c7=>CF Tryd.prog 157 [(.slice a5 n6 c7),.int .i64 0,(.slice (some ⟨b2,0,none⟩) 1 1)] h4 fun u8 h9=>slcV u8 fun a10 n11 c12=>K (w4 (w8 e 6 (sI x6) 5 (sS x5a x5n x5c) 3 (sR 3 0) 17 (sS x5a x5n x5c) 18 (sI x6) 19 (sI x6) 20 (sI ((wr (x6+1)))) 22 (sA l1)) 23 (sV (.slice (some ⟨b2,0,none⟩) 1 1)) 21 (sS a5 n6 c7) 24 (sS a10 n11 c12) 5 (sS a10 n11 c12)) (upd V0 3 (27,k3)) h9)) else False):= by kernel_rfl
def F133 (x0:OA) (x1:List Value) (hp:HP) (K:Kh):Prop:=
  (ptrN x0 fun b1 o2=>ldV (HP.cell hp b1 (o2+0)) fun v3=>slcV v3 fun a4 n5 c6=>CF Tryd.prog 109 [(.slice a4 n5 c6)] hp fun u7 h8=>slcV u7 fun a9 n10 c11=>ldL (cellsN x1 0 4) fun l12=>CF Tryd.prog 132 [(.slice a9 n10 c11),(.agg ⟨l12⟩)] h8 fun u13 h14=>intV u13 .i64 fun i15=>ite2 (decide (i15 > 0)) ((CF Tryd.prog 158 [(.slice a9 n10 c11),(.int .i64 i15),(.int .i64 (IntKind.wrap .i64 (i15+1)))] h14 fun u16 h17=>slcV u16 fun a18 n19 c20=>ldL (cellsN x1 0 4) fun l21=>if List.length l21=4 then (∀ b22:Nat,h17 b22=.none→(CF Tryd.prog 157 [(.slice a18 n19 c20),.int .i64 0,(.slice (some ⟨b22,0,none⟩) 1 1)] (HP.set h17 b22 (.cells 27 (splice [.int .u8 0,.int .u8 0,.int .u8 0,.int .u8 0] 0 l21) 0)) fun u23 h24=>slcV u23 fun a25 n26 c27=>F133_j1 a25 n26 c27 h24  K)) else False)∧(ldL (cellsN x1 0 4) fun l28=>if List.length l28=4 then (∀ b29:Nat,h14 b29=.none→(CF Tryd.prog 158 [(.slice a9 n10 c11),(.int .i64 i15),(.int .i64 (IntKind.wrap .i64 (i15+1)))] (HP.set h14 b29 (.cells 27 (splice [.int .u8 0,.int .u8 0,.int .u8 0,.int .u8 0] 0 l28) 0)) fun u30 h31=>slcV u30 fun a32 n33 c34=>CF Tryd.prog 157 [(.slice a32 n33 c34),.int .i64 0,(.slice (some ⟨b29,0,none⟩) 1 1)] h31 fun u35 h36=>slcV u35 fun a37 n38 c39=>F133_j1 a37 n38 c39 h36  K)) else False)) (F133_j1 a9 n10 c11 h14  K))
noncomputable abbrev o133 (k n:Nat):Code:=.region k (opsAt Tryd.f133 (pth n)) false
noncomputable def F133_code:Code:=(.seq (o133 0 2) (.seq (o133 1 5) (.seq (.seq (o133 2 19) (.seq (o133 3 43) (.cond (.tmp 16) (.region 4 (opsAt Tryd.f133 (pth 91)) true) .skip))) (.seq (o133 5 23) .ret))))
theorem F133_body:Tryd.f133.body=some F133_code:=by kernel_rfl
theorem F133_ok (x0:OA) (x1:List Value) (hp:HP) (K:Kh) (h:F133 x0 x1 hp K):CF Tryd.prog 133 [(.pointer x0),(.agg ⟨x1⟩)] hp K:=by
 refine .inl ⟨by kernel_rfl,AC.intro (N:=26) Tryd.func133 F133_body rfl (Nat.le_of_ble_eq_true rfl) ?_⟩
 unfold F133 at h
 refine Ar F133_r0 ?_ (r2 1 0 Rn) (z2 Sn) Sn
 refine Ar F133_r1 ?_ (r1 0 (rp 3 3 0 Rn)) (z2 Sn) (z1 Sn)
 refine mN h fun b1 o2 h=>mV h fun v3 h=>mS h fun a4 n5 c6 h=>mC h fun u7 h8 h=>mS h fun a9 n10 c11 h=>?_
 refine As (fun env pv hp=>∃ x5a x5n x5c,Sub (upd E0 5 (sS x5a x5n x5c)) env∧Sub V0 pv∧F133_j1 x5a x5n x5c hp  K) ?_ ?_
 ·refine Ar F133_r3 ?_ (rp 3 3 0 (r1 5 Rn)) (z2 Sn) (z1 Sn)
  refine mL h fun l12 h=>mC h fun u13 h14 h=>mI h fun i15 h=>?_
  refine Ar F133_r4 ?_ (r1 6 (rp 3 3 0 (r1 5 Rn))) (z3 Sn) (z1 Sn)
  refine Ac h rfl (fun h=>?_) (fun h=>?_)
  ·refine AWP.rgnC (cf:=[(4,6)]) (c:=[([true],true,[0,1,2,3,4,5,6,7,8]),([false],true,[0,1,2,3,5,6,4,7,8])]) (by kernel_rfl) (by kernel_rfl) (by kernel_rfl) (by kernel_rfl) (allO_t (Eq.mpr F133_r5 ?_) (allO_t (Eq.mpr F133_r6 ?_) trivial)) (rp 3 3 0 (r2 5 6 Rn)) (z3 Sn) (z1 Sn)
   ·replace h:=h.1
    refine mC h fun u16 h17 h=>mS h fun a18 n19 c20 h=>mL h fun l21 h=>mf h fun h=>?_
    refine fun b22 hb_b_22=>?_
    replace h:=h b22 hb_b_22
    refine mC h fun u23 h24 h=>mS h fun a25 n26 c27 h=>?_
    exact ⟨_,_,_,(z1 Sn),Sn,h⟩
   ·replace h:=h.2
    refine mL h fun l28 h=>mf h fun h=>?_
    refine fun b29 hb_b_29=>?_
    replace h:=h b29 hb_b_29
    refine mC h fun u30 h31 h=>mS h fun a32 n33 c34 h=>mC h fun u35 h36 h=>mS h fun a37 n38 c39 h=>?_
    exact ⟨_,_,_,(z1 Sn),Sn,h⟩
  ·refine AWP.skip ?_
   exact ⟨_,_,_,(z1 Sn),Sn,h⟩
 ·rintro env pv hp ⟨x5a,x5n,x5c,he,hv,h⟩
  refine Ae ?_ (r1 5 Rn) he hv
  unfold F133_j1 at h
  refine Ar F133_r2 ?_ (r1 5 Rn) (z1 Sn) Sn
  refine AWP.ret ?_
  exact h
end
end Go.Proofs
set_option linter.unusedVariables false
namespace Go.Proofs
open Go Go.HL
/-- An address: four bytes. -/
abbrev Q:=Int × Int × Int × Int
def v4 (q:Q):List Value:=[.int .u8 q.1,.int .u8 q.2.1,.int .u8 q.2.2.1,.int .u8 q.2.2.2]
def t4 (t:Q × Int):List Value:=[.int .u8 t.1.1,.int .u8 t.1.2.1,.int .u8 t.1.2.2.1,.int .u8 t.1.2.2.2,.int .i64 t.2]
theorem v4_len (q:Q):(v4 q).length=4:=rfl
theorem t4_len (q:Q × Int):(t4 q).length=5:=rfl
theorem v4_one (q:Q):(v4 q).all one=true:=rfl
theorem t4_one (q:Q × Int):(t4 q).all one=true:=rfl
theorem v4_inj {p q:Q}:v4 p=v4 q↔p=q:=by
  simp only [v4,List.cons.injEq,Value.int.injEq,true_and,and_true]
  constructor
  · rintro ⟨a,b,c,d⟩; exact Prod.ext a (Prod.ext b (Prod.ext c d))
  · rintro rfl; exact ⟨rfl,rfl,rfl,rfl⟩
theorem t4_inj {p q:Q × Int}:t4 p=t4 q↔p=q:=by
  simp only [t4,List.cons.injEq,Value.int.injEq,true_and,and_true]
  constructor
  · rintro ⟨a,b,c,d,e⟩; exact Prod.ext (Prod.ext a (Prod.ext b (Prod.ext c d))) e
  · rintro rfl; exact ⟨rfl,rfl,rfl,rfl,rfl⟩
theorem v4_shaped (q:Q):shaped Tryd.prog 3 27 (v4 q)=true:=by kernel_rfl
theorem t4_shaped (q:Q × Int):shaped Tryd.prog 3 34 (t4 q)=true:=by kernel_rfl
theorem eq73 {p q:Q} {c:Bool→Prop} (h:c (decide (p=q))):eqAgg Tryd.prog 27 (v4 p) (v4 q) c:=
  eqAgg_of (m:=3) (D:=3) (by kernel_rfl) (v4_shaped p) (v4_shaped q) (by simp [v4_inj]) h
theorem eq75 {p q:Q × Int} {c:Bool→Prop} (h:c (decide (p=q))):eqAgg Tryd.prog 34 (t4 p) (t4 q) c:=
  eqAgg_of (m:=3) (D:=3) (by kernel_rfl) (t4_shaped p) (t4_shaped q) (by simp [t4_inj]) h
/-! Class, the two addresses. -/
def isPort (x:Int):Bool:=decide (0≤x∧x≤65535)
def cls (x y:Int):Bool:=isPort x&&isPort y&&(decide (x<1024)==decide (y<1024))&&(x.tmod 2==y.tmod 2)
theorem C106 {x:Int} {hp:HP} {K:Value→HP→Prop} (h:K (.bool (isPort x)) hp):CF Tryd.prog 106 [.int .i64 x] hp K:=by
  refine F106_ok x hp K ?_
  unfold F106
  unfold isPort at h
  by_cases h0:0≤x
  · simpa [h0] using h
  · simpa [h0] using h
theorem C64 {x y:Int} {hp:HP} {K:Value→HP→Prop} (h:K (.bool (cls x y)) hp):CF Tryd.prog 64 [.int .i64 x,.int .i64 y] hp K:=by
  refine F64_ok x y hp K ?_
  unfold F64
  unfold cls at h
  refine C106 ?_
  simp only [boolV_bool]
  cases hx:isPort x
  · simpa [hx] using h
  · refine C106 ?_
    simp only [boolV_bool,ite2_true]
    cases hy:isPort y
    · simpa [hx,hy] using h
    · simp only [hx,hy,Bool.true_and] at h
      simp only [ite2_true]
      cases hz:(decide (x<1024)==decide (y<1024))
      · simpa [hz] using h
      · simpa [hz] using h
/-- Where an address is in a list, or -1. -/
def idx (q:Q) (l:List Q):Int:=if q∈l then (l.idxOf q:Int) else -1
theorem idx_none {q:Q} {l:List Q} (h:∀ j:Nat,l[j]?≠some q):idx q l=-1:=by
  have:q ∉ l:=fun hm=>by obtain ⟨j,hj⟩:=List.mem_iff_getElem?.1 hm; exact h j hj
  simp [idx,this]
theorem idx_at {q:Q} {l:List Q} {i:Nat} (h:l[i]?=some q) (hn:∀ j:Nat,j<i→l[j]?≠some q):idx q l=i:=by
  have hm:q∈l:=List.mem_iff_getElem?.2 ⟨i,h⟩
  have hlt:l.idxOf q<l.length:=List.idxOf_lt_length_of_mem hm
  have h1:l[l.idxOf q]?=some q:=by rw [List.getElem?_eq_getElem hlt]; simp
  have h2:¬ l.idxOf q<i:=fun h'=>hn _ h' h1
  have h3:¬ i<l.idxOf q:=fun h'=>by
    have:=List.not_of_lt_findIdx (xs:=l) (p:=(·==q)) (i:=i) h'
    have hi:i<l.length:=by omega
    rw [List.getElem?_eq_getElem hi] at h
    simp at this h
    exact this h
  simp only [idx,hm,if_true]
  omega
theorem C132 {a:Option Addr} {n c:Nat} {l:List Q} {q:Q} {hp:HP} {K:Value→HP→Prop} (hs:Shows hp a n 4 (l.flatMap v4)) (hl:l.length=n) (hn:n≤9223372036854775806)
    (h:K (.int .i64 (idx q l)) hp):CF Tryd.prog 132 [.slice a n c,.agg ⟨v4 q⟩] hp K:=by
  refine F132_ok a n c (v4 q) hp K ?_
  unfold F132 F132_j1
  refine LoopP.by (J:=fun k (x:Int) hp'=>hp'=hp∧∃ i:Nat,x=i∧i+k=n∧∀ j:Nat,j<i→l[j]?≠some q) ?_ (n:=n) ⟨rfl,0,rfl,by omega,fun j hj=>by omega⟩
  rintro I k x hp' ⟨rfl,i,rfl,hik,hnone⟩ hI
  unfold F132_l2
  by_cases hi:i<n
  · have hlt:decide ((i:Int)<(n:Int))=true:=by simpa using hi
    obtain ⟨b,o,rfl,hc⟩:=hs.get v4_len hl hi
    simp only [hlt,ite2_true,cellsN_all (v4_len q),ldL_some,ptrN_some,Int.toNat_natCast,hc]
    refine ⟨by omega,by omega,eq73 ?_⟩
    by_cases he:q=l[i]'(hl▸hi)
    · have:l[i]?=some q:=by rw [List.getElem?_eq_getElem (hl▸hi),he]
      rw [idx_at this hnone] at h
      simpa [he] using h
    · simp only [he,decide_false,ite2_false]
      rw [w64 (by omega) (by omega)]
      refine hI (k-1) _ _ (by omega) ⟨rfl,i+1,by omega,by omega,fun j hj=>?_⟩
      by_cases hji:j=i
      · subst hji
        rw [List.getElem?_eq_getElem (hl▸hi)]
        intro hh
        exact he (Option.some.inj hh).symm
      · exact hnone j (by omega)
  · have hlt:decide ((i:Int)<(n:Int))=false:=by simpa using hi
    simp only [hlt,ite2_false]
    rw [idx_none] at h
    · exact h
    · intro j
      by_cases hj:j<i
      · exact hnone j hj
      · rw [List.getElem?_eq_none (by omega)]; simp
theorem C108 {a:Option Addr} {n c:Nat} {l:List Q} {q:Q} {hp:HP} {K:Value→HP→Prop} (hs:Shows hp a n 4 (l.flatMap v4)) (hl:l.length=n) (hn:n≤9223372036854775806)
    (h:K (.bool (decide (q∈l))) hp):CF Tryd.prog 108 [.slice a n c,.agg ⟨v4 q⟩] hp K:=by
  refine F108_ok a n c (v4 q) hp K ?_
  unfold F108
  simp only [cellsN_all (v4_len q),ldL_some]
  refine C132 hs hl hn ?_
  simp only [intV_int]
  have:decide (idx q l≥0)=decide (q∈l):=by
    unfold idx
    by_cases hm:q∈l <;> simp [hm]
  rw [this]; exact h
/-- Clone: a new row. -/
theorem C109 {a:Option Addr} {n c:Nat} {l:List Q} {hp:HP} {K:Value→HP→Prop} (hs:Shows hp a n 4 (l.flatMap v4)) (hl:l.length=n) (hn:n≤10000000000)
    (h:∀ s2 c2 hp',HSub hp hp'→Row hp' s2 n c2 27 4 (l.flatMap v4)→(∀ b,s2=some ⟨b,0,none⟩→hp b=.none)→K (.slice s2 n c2) hp'):CF Tryd.prog 109 [.slice a n c] hp K:=by
  refine F109_ok a n c hp K ?_
  unfold F109
  cases a with
  | none=>
    have hn0:n=0:=by
      rcases hs with h | ⟨b,o,h,_⟩
      · exact h.1
      · cases h
    subst hn0
    have:l=[]:=List.eq_nil_of_length_eq_zero hl
    subst this
    simp only [Option.isNone_none,ite2_true]
    exact h none 0 hp (HSub.refl _) (.inl ⟨rfl,rfl,rfl,rfl⟩) (fun b hb=>by cases hb)
  | some a=>
    simp only [Option.isNone_some,ite2_false]
    intro b hb
    have hsub:=HSub.set_fresh hp (.cells 27 [] 0) hb
    refine opS_app (e:=27) (size:=4) (bytes:=4) (xs:=[]) (by kernel_rfl) (.inr ⟨b,rfl,Nat.le_refl _,by simp,by simp [HP.set_eq]⟩) (hs.sub hsub) (all_flat v4_one l) (by omega) (by omega) ?_
    intro s2 c2 hp' hrow hupd
    simp only [Nat.zero_add,List.nil_append,slcV_slice] at hrow ⊢
    have hsub':HSub hp hp'∧∀ b',s2=some ⟨b',0,none⟩→hp b'=.none:=by
      rcases hupd with ⟨rfl,rfl⟩ | ⟨b',e',rfl,hb',rfl⟩
      · exact ⟨hsub,fun b' e=>by cases e; exact hb⟩
      · have hn':hp b'=.none:=by
          rcases hb' with hb' | hb'
          · exact hsub.none hb'
          · cases hb'; exact hb
        refine ⟨fun x=>?_,fun b'' e=>by cases e; exact hn'⟩
        by_cases hx:x=b'
        · subst hx; exact .inl hn'
        · rw [HP.set_ne _ _ hx]; exact hsub x
    exact h s2 c2 hp' hsub'.1 hrow hsub'.2
end Go.Proofs
namespace Go.HL
open Go Go.Lib
/-- The number that digits read as. -/
def dval (l:List UInt8):Nat:=l.foldl (fun a b=>a*10+(b.toNat-48)) 0
theorem dval_dec:∀ u:Nat,dval (decDigits u)=u
  | u=>by
    rw [decDigits]
    split
    · rename_i h
      simp only [dval,List.foldl_cons,List.foldl_nil]
      have:(UInt8.ofNat (48+u)).toNat=48+u:=by simp [UInt8.toNat_ofNat']; omega
      rw [this]; omega
    · rename_i h
      have ih:=dval_dec (u / 10)
      unfold dval at ih ⊢
      rw [List.foldl_append,ih]
      simp only [List.foldl_cons,List.foldl_nil]
      have:(UInt8.ofNat (48+u % 10)).toNat=48+u % 10:=by simp [UInt8.toNat_ofNat']; omega
      rw [this]; omega
termination_by u=>u
decreasing_by omega
theorem dec_digit:∀ (u:Nat) (b:UInt8),b∈decDigits u→48≤b.toNat∧b.toNat≤57
  | u,b,h=>by
    rw [decDigits] at h
    split at h
    · rename_i hu
      rw [List.mem_singleton] at h
      subst h
      have:(UInt8.ofNat (48+u)).toNat=48+u:=by simp [UInt8.toNat_ofNat']; omega
      omega
    · rename_i hu
      rw [List.mem_append,List.mem_singleton] at h
      rcases h with h | h
      · exact dec_digit (u / 10) b h
      · subst h
        have:(UInt8.ofNat (48+u % 10)).toNat=48+u % 10:=by simp [UInt8.toNat_ofNat']; omega
        omega
termination_by u=>u
decreasing_by omega
theorem dec_inj {u v:Nat} (h:decDigits u=decDigits v):u=v:=by
  rw [← dval_dec u,h,dval_dec]
theorem itoa_inj {a b:Int} (h:itoa a=itoa b):a=b:=by
  unfold itoa at h
  have key:∀ u v:Nat,(45:UInt8)::decDigits u≠decDigits v:=fun u v e=>by
    have:=dec_digit v 45 (by rw [← e]; simp)
    have e45:(45:UInt8).toNat=45:=rfl
    omega
  split at h <;> split at h
  · rw [List.cons.injEq] at h
    have:=dec_inj h.2
    omega
  · exact absurd h (key _ _)
  · exact absurd h.symm (key _ _)
  · have:=dec_inj h
    omega
theorem itoa_blank (a:Int):(32:UInt8) ∉ itoa a:=by
  unfold itoa
  have key:∀ u:Nat,(32:UInt8) ∉ decDigits u:=fun u h=>by
    have:=dec_digit u 32 h
    have e32:(32:UInt8).toNat=32:=rfl
    omega
  split
  · rw [List.mem_cons,not_or]
    exact ⟨by decide,key _⟩
  · exact key _
theorem blank_split:∀ {a b r s:List UInt8},(32:UInt8) ∉ a→(32:UInt8) ∉ b→a++32::r=b++32::s→a=b∧r=s
  | [],[],_,_,_,_,h=>by simpa using h
  | [],y::b,_,_,_,hb,h=>by
    simp only [List.nil_append,List.cons_append,List.cons.injEq] at h
    exact absurd (by rw [h.1]; simp) hb
  | x::a,[],_,_,ha,_,h=>by
    simp only [List.nil_append,List.cons_append,List.cons.injEq] at h
    exact absurd (by rw [← h.1]; simp) ha
  | x::a,y::b,r,s,ha,hb,h=>by
    simp only [List.cons_append,List.cons.injEq] at h
    obtain ⟨e1,e2⟩:=h
    have:=blank_split (a:=a) (b:=b) (fun hm=>ha (List.mem_cons_of_mem _ hm)) (fun hm=>hb (List.mem_cons_of_mem _ hm)) e2
    exact ⟨by rw [e1,this.1],this.2⟩
/-- Two numbers, each with a blank behind it, and bytes. -/
def keyL (a b:Int) (l:List UInt8):List UInt8:=itoa a++32::(itoa b++32::l)
theorem keyL_inj {a b c d:Int} {l m:List UInt8} (h:keyL a b l=keyL c d m):a=c∧b=d∧l=m:=by
  unfold keyL at h
  obtain ⟨h1,h2⟩:=blank_split (itoa_blank a) (itoa_blank c) h
  obtain ⟨h3,h4⟩:=blank_split (itoa_blank b) (itoa_blank d) h2
  exact ⟨itoa_inj h1,itoa_inj h3,h4⟩
end Go.HL
set_option linter.unusedVariables false
set_option linter.unusedSimpArgs false
set_option maxRecDepth 20000
namespace Go.Proofs
open Go Go.HL
def okB (n:Int):Prop:=0≤n∧n≤255
def okZ (n:Int):Prop:=-9223372036854775808≤n∧n≤9223372036854775807
def okQ (q:Q):Prop:=okB q.1∧okB q.2.1∧okB q.2.2.1∧okB q.2.2.2
def okT (t:Q × Int):Prop:=okQ t.1∧okZ t.2
def qi (q:Q):List Int:=[q.1,q.2.1,q.2.2.1,q.2.2.2]
def bs (q:Q):List UInt8:=(qi q).map u8
theorem bs_inj {p q:Q} (hp:okQ p) (hq:okQ q) (h:bs p=bs q):p=q:=by
  simp only [bs,qi,List.map_cons,List.map_nil,List.cons.injEq,and_true] at h
  obtain ⟨a1,a2,a3,a4⟩:=hp
  obtain ⟨b1,b2,b3,b4⟩:=hq
  exact Prod.ext (u8_inj a1 b1 h.1) (Prod.ext (u8_inj a2 b2 h.2.1) (Prod.ext (u8_inj a3 b3 h.2.2.1) (u8_inj a4 b4 h.2.2.2)))
def itS (n:Int):ByteArray:=⟨(Lib.itoa n).toArray⟩
theorem itS_size {n:Int} (h:okZ n):(itS n).size≤21:=by
  have:=Lib.itoa_length_le n h.1 h.2
  show (Lib.itoa n).toArray.size≤21
  simpa using this
def byS (l:List UInt8):ByteArray:=⟨l.toArray⟩
theorem byS_app (l m:List UInt8):byS l++byS m=byS (l++m):=by
  apply ByteArray.ext
  simp [byS,ByteArray.data_append]
theorem TabR.set {o:Obj} {hp:HP} (h:TabR o hp) {b:Nat} (hb:hp b=.none) (e:Ent):TabR o (hp.set b e):=h.sub (HSub.set_fresh hp e hb)
end Go.Proofs
set_option linter.unusedVariables false
set_option maxRecDepth 20000
namespace Go.Proofs
open Go Go.HL
theorem size_of {P:Program} {t z:Nat} (h:(P.info? t).map (·.size)=some z) (w:World):(Go.sizeOf t).run P w=.ok z w:=run_size h
theorem C176 {b1 o1 n1 c1 b2 o2 n2 c2:Nat} {cs1 cs2:List Value} {sp1 sp2:Nat} {hp:HP} {K:Value→HP→Prop} (h1:hp b1=.cells 27 cs1 sp1) (h2:hp b2=.cells 27 cs2 sp2) (hne:b1≠b2) (hz:cs2≠[])
    (h:K (.bool false) hp):CF Tryd.prog 176 [.slice (some ⟨b1,o1,none⟩) n1 c1,.slice (some ⟨b2,o2,none⟩) n2 c2] hp K:=by
  refine .inr fun F w0 w hf=>⟨.bool false,w,hp,?_,hf,h⟩
  obtain ⟨r1,_,e1⟩:=(h1▸hf.ent b1:(Ent.cells 27 cs1 sp1).ok _)
  obtain ⟨r2,_,e2⟩:=(h2▸hf.ent b2:(Ent.cells 27 cs2 sp2).ok _)
  rw [run_callFunc_extern Tryd.func176 (by kernel_rfl) (by kernel_rfl) (by kernel_rfl) (e:=Extern.SlicesOverlaps.overlaps #[28,28] #[4]) (by kernel_rfl)]
  have hpos:(cs2++r2).toArray.size≠0:=by
    intro hh
    apply hz
    have:(cs2++r2).length=0:=by simpa using hh
    exact List.eq_nil_of_length_eq_zero (by simp at this; simp [this.1])
  have hrun:=Lib.run_overlaps_apart (P:=Tryd.prog) w 28 4 27 (by kernel_rfl) 4 (size_of (by kernel_rfl)) ⟨b1,o1,none⟩ ⟨b2,o2,none⟩ n1 c1 n2 c2 hne 27 27 (cs1++r1).toArray.size (cs2++r2).toArray.size
    (by simp [World.shape?,e1]) (by simp [World.shape?,e2]) hpos (by simp [World.frozen?,e1]) (by simp [World.frozen?,e1])
  rw [hrun]
  rfl
end Go.Proofs
set_option linter.unusedVariables false
set_option maxRecDepth 20000
namespace Go.Proofs
open Go Go.HL
section
variable {e E:Env} {x0a:OA} {x0n x0c:Nat} {x1:Int} {x2a:OA} {x2n x2c:Nat} {x7 x8:Int} {x9a:OA} {x9n x9c:Nat} {hp:HP} {K:Env→PV→HP→Prop}
abbrev R157 (p n:Nat):=RW Tryd.prog 95 [] (opsAt Tryd.f157 (pth p)) (List.range n)
theorem F157_r0:R157 2 1 e V0 hp K=
 K (upd e 6 (sS none 0 0)) V0 hp:= by kernel_rfl
theorem F157_r1:R157 5 3 (w2 e 1 (sI x1) 0 (sS x0a x0n x0c)) V0 hp K=
    ((0≤x1)∧(x1≤x0n)∧(x0n≤x0c)∧(K (w5 e 1 (sI x1) 0 (sS x0a x0n x0c) 10 (sS x0a x0n x0c) 11 (sI x1) 12 (sV (.slice (sub0 x0a x0c (Int.toNat x1) 4) (x0n-Int.toNat x1) (x0c-Int.toNat x1)))) V0 hp)):=by kernel_rfl
theorem F157_r2:R157 11 3 (upd e 2 (sS x2a x2n x2c)) V0 hp K=
 K (w4 e 2 (sS x2a x2n x2c) 13 (sS x2a x2n x2c) 14 (sI ((x2n:Nat))) 7 (sI ((x2n:Nat)))) V0 hp:= by kernel_rfl
theorem F157_r3:R157 39 2 (upd e 7 (sI x7)) V0 hp K=
 K (w3 e 7 (sI x7) 15 (sI x7) 16 (sB ((x7==0)))) V0 hp:= by kernel_rfl
theorem F157_r4:R157 151 2 (upd e 0 (sS x0a x0n x0c)) V0 hp K=
 K (w3 e 0 (sS x0a x0n x0c) 17 (sS x0a x0n x0c) 6 (sS x0a x0n x0c)) V0 hp:= by kernel_rfl
theorem F157_r5:R157 47 3 (upd e 0 (sS x0a x0n x0c)) V0 hp K=
 K (w4 e 0 (sS x0a x0n x0c) 18 (sS x0a x0n x0c) 19 (sI ((x0n:Nat))) 8 (sI ((x0n:Nat)))) V0 hp:= by kernel_rfl
theorem F157_r6:R157 159 3 (w2 e 8 (sI x8) 1 (sI x1)) V0 hp K=
 K (w5 e 8 (sI x8) 1 (sI x1) 20 (sI x1) 21 (sI x8) 22 (sB ((x1==x8)))) V0 hp:= by kernel_rfl
theorem F157_r7 (h:E=upd (upd e 2 (sS x2a x2n x2c)) 0 (sS x0a x0n x0c)):R157 607 4 E V0 hp K=
 opS Tryd.prog (Builtin.append_ #[28,28] 28 ⟨[(.slice x0a x0n x0c),(.slice x2a x2n x2c)]⟩) hp fun u1 h2=>(slcV u1 fun a3 n4 c5=>K (w4 E 23 (sS x0a x0n x0c) 24 (sS x2a x2n x2c) 25 (sS a3 n4 c5) 6 (sS a3 n4 c5)) V0 h2):= by subst h; kernel_rfl
theorem F157_r8 (h:E=upd (w2 e 8 (sI x8) 7 (sI x7)) 0 (sS x0a x0n x0c)):R157 319 6 E V0 hp K=
 K (w6 E 26 (sI x8) 27 (sI x7) 28 (sI ((wr (x8+x7)))) 29 (sS x0a x0n x0c) 30 (sI ((x0c:Nat))) 31 (sB ((decide (((wr (x8+x7)):Int) > (x0c:Nat)))))) V0 hp:= by subst h; kernel_rfl
theorem F157_r9 (h:E=upd (w3 e 8 (sI x8) 7 (sI x7) 1 (sI x1)) 0 (sS x0a x0n x0c)):R157 1215 10 E V0 hp K=
    ((0≤x1)∧(x1≤(x0c:Nat))∧(opS Tryd.prog (Builtin.append_ #[28,3] 28 ⟨[(.slice x0a (Int.toNat x1) x0c),(.int .i64 (wr ((wr (x8+x7))-x1)))]⟩) hp fun u1 h2=>slcV u1 fun a3 n4 c5=>K (w2 (w8 E 32 (sS x0a x0n x0c) 33 (sI x1) 34 (sV (.slice x0a (Int.toNat x1) x0c)) 35 (sI x8) 36 (sI x7) 37 (sI ((wr (x8+x7)))) 38 (sI x1) 39 (sI ((wr ((wr (x8+x7))-x1))))) 40 (sS a3 n4 c5) 9 (sS a3 n4 c5)) V0 h2)):=by subst h; kernel_rfl
theorem F157_r10 (h:E=upd (w2 e 9 (sS x9a x9n x9c) 2 (sS x2a x2n x2c)) 1 (sI x1)):R157 2751 5 E V0 hp K=
    ((0≤x1)∧(x1≤x9n)∧(x9n≤x9c)∧(opS Tryd.prog (Builtin.copy_ #[28,28] 3 ⟨[(.slice (sub0 x9a x9c (Int.toNat x1) 4) (x9n-Int.toNat x1) (x9c-Int.toNat x1)),(.slice x2a x2n x2c)]⟩) hp fun u1 h2=>intV u1 .i64 fun i3=>K (w5 E 41 (sS x9a x9n x9c) 42 (sI x1) 43 (sV (.slice (sub0 x9a x9c (Int.toNat x1) 4) (x9n-Int.toNat x1) (x9c-Int.toNat x1))) 44 (sS x2a x2n x2c) 45 (sI i3)) V0 h2)):=by subst h; kernel_rfl
theorem F157_r11 (h:E=upd (w3 e 9 (sS x9a x9n x9c) 7 (sI x7) 1 (sI x1)) 0 (sS x0a x0n x0c)):R157 5823 9 E V0 hp K=
    ((0≤((wr (x1+x7)):Int))∧(((wr (x1+x7)):Int)≤x9n)∧(x9n≤x9c)∧((0≤x1)∧(x1≤x0n)∧(x0n≤x0c)∧(opS Tryd.prog (Builtin.copy_ #[28,28] 3 ⟨[(.slice (sub0 x9a x9c (Int.toNat (wr (x1+x7))) 4) (x9n-Int.toNat (wr (x1+x7))) (x9c-Int.toNat (wr (x1+x7)))),(.slice (sub0 x0a x0c (Int.toNat x1) 4) (x0n-Int.toNat x1) (x0c-Int.toNat x1))]⟩) hp fun u1 h2=>intV u1 .i64 fun i3=>K (upd (w8 E 46 (sS x9a x9n x9c) 47 (sI x1) 48 (sI x7) 49 (sI ((wr (x1+x7)))) 50 (sV (.slice (sub0 x9a x9c (Int.toNat (wr (x1+x7))) 4) (x9n-Int.toNat (wr (x1+x7))) (x9c-Int.toNat (wr (x1+x7))))) 51 (sS x0a x0n x0c) 52 (sI x1) 53 (sV (.slice (sub0 x0a x0c (Int.toNat x1) 4) (x0n-Int.toNat x1) (x0c-Int.toNat x1)))) 54 (sI i3)) V0 h2))):=by subst h; kernel_rfl
theorem F157_r12:R157 11967 2 (upd e 9 (sS x9a x9n x9c)) V0 hp K=
 K (w3 e 9 (sS x9a x9n x9c) 55 (sS x9a x9n x9c) 6 (sS x9a x9n x9c)) V0 hp:= by kernel_rfl
theorem F157_r13 (h:E=upd (w2 e 8 (sI x8) 7 (sI x7)) 0 (sS x0a x0n x0c)):R157 383 6 E V0 hp K=
    ((0≤((wr (x8+x7)):Int))∧(((wr (x8+x7)):Int)≤(x0c:Nat))∧(K (w6 E 56 (sS x0a x0n x0c) 57 (sI x8) 58 (sI x7) 59 (sI ((wr (x8+x7)))) 60 (sV (.slice x0a (Int.toNat (wr (x8+x7))) x0c)) 0 (sV (.slice x0a (Int.toNat (wr (x8+x7))) x0c))) V0 hp)):=by subst h; kernel_rfl
theorem F157_r14 (h:E=upd (w3 e 7 (sI x7) 2 (sS x2a x2n x2c) 1 (sI x1)) 0 (sS x0a x0n x0c)):R157 1279 8 E V0 hp K=
    ((0≤((wr (x1+x7)):Int))∧(((wr (x1+x7)):Int)≤x0n)∧(x0n≤x0c)∧(CF Tryd.prog 176 [(.slice x2a x2n x2c),(.slice (sub0 x0a x0c (Int.toNat (wr (x1+x7))) 4) (x0n-Int.toNat (wr (x1+x7))) (x0c-Int.toNat (wr (x1+x7))))] hp fun u1 h2=>boolV u1 fun q3=>K (w8 E 61 (sS x2a x2n x2c) 62 (sS x0a x0n x0c) 63 (sI x1) 64 (sI x7) 65 (sI ((wr (x1+x7)))) 66 (sV (.slice (sub0 x0a x0c (Int.toNat (wr (x1+x7))) 4) (x0n-Int.toNat (wr (x1+x7))) (x0c-Int.toNat (wr (x1+x7))))) 67 (sB q3) 68 (sB ((!q3)))) V0 h2)):=by subst h; kernel_rfl
theorem F157_r15 (h:E=upd (w2 e 7 (sI x7) 1 (sI x1)) 0 (sS x0a x0n x0c)):R157 4863 9 E V0 hp K=
    ((0≤((wr (x1+x7)):Int))∧(((wr (x1+x7)):Int)≤x0n)∧(x0n≤x0c)∧((0≤x1)∧(x1≤x0n)∧(x0n≤x0c)∧(opS Tryd.prog (Builtin.copy_ #[28,28] 3 ⟨[(.slice (sub0 x0a x0c (Int.toNat (wr (x1+x7))) 4) (x0n-Int.toNat (wr (x1+x7))) (x0c-Int.toNat (wr (x1+x7)))),(.slice (sub0 x0a x0c (Int.toNat x1) 4) (x0n-Int.toNat x1) (x0c-Int.toNat x1))]⟩) hp fun u1 h2=>intV u1 .i64 fun i3=>K (upd (w8 E 69 (sS x0a x0n x0c) 70 (sI x1) 71 (sI x7) 72 (sI ((wr (x1+x7)))) 73 (sV (.slice (sub0 x0a x0c (Int.toNat (wr (x1+x7))) 4) (x0n-Int.toNat (wr (x1+x7))) (x0c-Int.toNat (wr (x1+x7))))) 74 (sS x0a x0n x0c) 75 (sI x1) 76 (sV (.slice (sub0 x0a x0c (Int.toNat x1) 4) (x0n-Int.toNat x1) (x0c-Int.toNat x1)))) 77 (sI i3)) V0 h2))):=by subst h; kernel_rfl
theorem F157_r16 (h:E=upd (w2 e 2 (sS x2a x2n x2c) 1 (sI x1)) 0 (sS x0a x0n x0c)):R157 11007 5 E V0 hp K=
    ((0≤x1)∧(x1≤x0n)∧(x0n≤x0c)∧(opS Tryd.prog (Builtin.copy_ #[28,28] 3 ⟨[(.slice (sub0 x0a x0c (Int.toNat x1) 4) (x0n-Int.toNat x1) (x0c-Int.toNat x1)),(.slice x2a x2n x2c)]⟩) hp fun u1 h2=>intV u1 .i64 fun i3=>K (w5 E 78 (sS x0a x0n x0c) 79 (sI x1) 80 (sV (.slice (sub0 x0a x0c (Int.toNat x1) 4) (x0n-Int.toNat x1) (x0c-Int.toNat x1))) 81 (sS x2a x2n x2c) 82 (sI i3)) V0 h2)):=by subst h; kernel_rfl
theorem F157_r17:R157 23295 2 (upd e 0 (sS x0a x0n x0c)) V0 hp K=
 K (w3 e 0 (sS x0a x0n x0c) 83 (sS x0a x0n x0c) 6 (sS x0a x0n x0c)) V0 hp:= by kernel_rfl
theorem F157_r18 (h:E=upd (w2 e 8 (sI x8) 2 (sS x2a x2n x2c)) 0 (sS x0a x0n x0c)):R157 1535 5 E V0 hp K=
    ((0≤x8)∧(x8≤x0n)∧(x0n≤x0c)∧(opS Tryd.prog (Builtin.copy_ #[28,28] 3 ⟨[(.slice (sub0 x0a x0c (Int.toNat x8) 4) (x0n-Int.toNat x8) (x0c-Int.toNat x8)),(.slice x2a x2n x2c)]⟩) hp fun u1 h2=>intV u1 .i64 fun i3=>K (w5 E 84 (sS x0a x0n x0c) 85 (sI x8) 86 (sV (.slice (sub0 x0a x0c (Int.toNat x8) 4) (x0n-Int.toNat x8) (x0c-Int.toNat x8))) 87 (sS x2a x2n x2c) 88 (sI i3)) V0 h2)):=by subst h; kernel_rfl
theorem F157_r19 (h:E=upd (w2 e 7 (sI x7) 1 (sI x1)) 0 (sS x0a x0n x0c)):R157 3071 5 E V0 hp K=
    ((0≤x1)∧(x1≤x0n)∧(x0n≤x0c)∧(CF Tryd.prog 177 [(.slice (sub0 x0a x0c (Int.toNat x1) 4) (x0n-Int.toNat x1) (x0c-Int.toNat x1)),(.int .i64 x7)] hp fun u1 h2=>K (w5 E 89 (sS x0a x0n x0c) 90 (sI x1) 91 (sV (.slice (sub0 x0a x0c (Int.toNat x1) 4) (x0n-Int.toNat x1) (x0c-Int.toNat x1))) 92 (sI x7) 93 (sV u1)) V0 h2)):=by subst h; kernel_rfl
theorem F157_r20:R157 6143 2 (upd e 0 (sS x0a x0n x0c)) V0 hp K=
 K (w3 e 0 (sS x0a x0n x0c) 94 (sS x0a x0n x0c) 6 (sS x0a x0n x0c)) V0 hp:= by kernel_rfl
def F157 (x0a:OA) (x0n x0c:Nat) (x1:Int) (x2a:OA) (x2n x2c:Nat) (hp:HP) (K:Kh):Prop:=
  ((0≤x1)∧(x1≤x0n)∧(x0n≤x0c)∧(ite2 (((x2n:Nat):Int)==0) (K (.slice x0a x0n x0c) hp) (ite2 (x1==x0n) (opS Tryd.prog (Builtin.append_ #[28,28] 28 ⟨[(.slice x0a x0n x0c),(.slice x2a x2n x2c)]⟩) hp fun u1 h2=>slcV u1 fun a3 n4 c5=>K (.slice a3 n4 c5) h2) (ite2 (decide (((IntKind.wrap .i64 ((x0n:Nat)+(x2n:Nat))):Int) > (x0c:Nat))) ((0≤x1)∧(x1≤(x0c:Nat))∧(opS Tryd.prog (Builtin.append_ #[28,3] 28 ⟨[(.slice x0a (Int.toNat x1) x0c),(.int .i64 (IntKind.wrap .i64 ((IntKind.wrap .i64 ((x0n:Nat)+(x2n:Nat)))-x1)))]⟩) hp fun u6 h7=>slcV u6 fun a8 n9 c10=>(0≤x1)∧(x1≤n9)∧(n9≤c10)∧(opS Tryd.prog (Builtin.copy_ #[28,28] 3 ⟨[(.slice (sub0 a8 c10 (Int.toNat x1) 4) (n9-Int.toNat x1) (c10-Int.toNat x1)),(.slice x2a x2n x2c)]⟩) h7 fun u11 h12=>intV u11 .i64 fun i13=>(0≤((IntKind.wrap .i64 (x1+(x2n:Nat))):Int))∧(((IntKind.wrap .i64 (x1+(x2n:Nat))):Int)≤n9)∧(n9≤c10)∧((0≤x1)∧(x1≤x0n)∧(x0n≤x0c)∧(opS Tryd.prog (Builtin.copy_ #[28,28] 3 ⟨[(.slice (sub0 a8 c10 (Int.toNat (IntKind.wrap .i64 (x1+(x2n:Nat)))) 4) (n9-Int.toNat (IntKind.wrap .i64 (x1+(x2n:Nat)))) (c10-Int.toNat (IntKind.wrap .i64 (x1+(x2n:Nat))))),(.slice (sub0 x0a x0c (Int.toNat x1) 4) (x0n-Int.toNat x1) (x0c-Int.toNat x1))]⟩) h12 fun u14 h15=>intV u14 .i64 fun i16=>K (.slice a8 n9 c10) h15))))) ((0≤((IntKind.wrap .i64 ((x0n:Nat)+(x2n:Nat))):Int))∧(((IntKind.wrap .i64 ((x0n:Nat)+(x2n:Nat))):Int)≤(x0c:Nat))∧((0≤((IntKind.wrap .i64 (x1+(x2n:Nat))):Int))∧(((IntKind.wrap .i64 (x1+(x2n:Nat))):Int)≤((Int.toNat (IntKind.wrap .i64 ((x0n:Nat)+(x2n:Nat)))):Nat))∧((Int.toNat (IntKind.wrap .i64 ((x0n:Nat)+(x2n:Nat))))≤x0c)∧(CF Tryd.prog 176 [(.slice x2a x2n x2c),(.slice (sub0 x0a x0c (Int.toNat (IntKind.wrap .i64 (x1+(x2n:Nat)))) 4) ((Int.toNat (IntKind.wrap .i64 ((x0n:Nat)+(x2n:Nat))))-Int.toNat (IntKind.wrap .i64 (x1+(x2n:Nat)))) (x0c-Int.toNat (IntKind.wrap .i64 (x1+(x2n:Nat)))))] hp fun u17 h18=>boolV u17 fun q19=>ite2 (!q19) ((0≤((IntKind.wrap .i64 (x1+(x2n:Nat))):Int))∧(((IntKind.wrap .i64 (x1+(x2n:Nat))):Int)≤((Int.toNat (IntKind.wrap .i64 ((x0n:Nat)+(x2n:Nat)))):Nat))∧((Int.toNat (IntKind.wrap .i64 ((x0n:Nat)+(x2n:Nat))))≤x0c)∧((0≤x1)∧(x1≤((Int.toNat (IntKind.wrap .i64 ((x0n:Nat)+(x2n:Nat)))):Nat))∧((Int.toNat (IntKind.wrap .i64 ((x0n:Nat)+(x2n:Nat))))≤x0c)∧(opS Tryd.prog (Builtin.copy_ #[28,28] 3 ⟨[(.slice (sub0 x0a x0c (Int.toNat (IntKind.wrap .i64 (x1+(x2n:Nat)))) 4) ((Int.toNat (IntKind.wrap .i64 ((x0n:Nat)+(x2n:Nat))))-Int.toNat (IntKind.wrap .i64 (x1+(x2n:Nat)))) (x0c-Int.toNat (IntKind.wrap .i64 (x1+(x2n:Nat))))),(.slice (sub0 x0a x0c (Int.toNat x1) 4) ((Int.toNat (IntKind.wrap .i64 ((x0n:Nat)+(x2n:Nat))))-Int.toNat x1) (x0c-Int.toNat x1))]⟩) h18 fun u20 h21=>intV u20 .i64 fun i22=>(0≤x1)∧(x1≤((Int.toNat (IntKind.wrap .i64 ((x0n:Nat)+(x2n:Nat)))):Nat))∧((Int.toNat (IntKind.wrap .i64 ((x0n:Nat)+(x2n:Nat))))≤x0c)∧(opS Tryd.prog (Builtin.copy_ #[28,28] 3 ⟨[(.slice (sub0 x0a x0c (Int.toNat x1) 4) ((Int.toNat (IntKind.wrap .i64 ((x0n:Nat)+(x2n:Nat))))-Int.toNat x1) (x0c-Int.toNat x1)),(.slice x2a x2n x2c)]⟩) h21 fun u23 h24=>intV u23 .i64 fun i25=>K (.slice x0a (Int.toNat (IntKind.wrap .i64 ((x0n:Nat)+(x2n:Nat)))) x0c) h24)))) ((0≤((x0n:Nat):Int))∧(((x0n:Nat):Int)≤((Int.toNat (IntKind.wrap .i64 ((x0n:Nat)+(x2n:Nat)))):Nat))∧((Int.toNat (IntKind.wrap .i64 ((x0n:Nat)+(x2n:Nat))))≤x0c)∧(opS Tryd.prog (Builtin.copy_ #[28,28] 3 ⟨[(.slice (sub0 x0a x0c (Int.toNat (x0n:Nat)) 4) ((Int.toNat (IntKind.wrap .i64 ((x0n:Nat)+(x2n:Nat))))-Int.toNat (x0n:Nat)) (x0c-Int.toNat (x0n:Nat))),(.slice x2a x2n x2c)]⟩) h18 fun u26 h27=>intV u26 .i64 fun i28=>(0≤x1)∧(x1≤((Int.toNat (IntKind.wrap .i64 ((x0n:Nat)+(x2n:Nat)))):Nat))∧((Int.toNat (IntKind.wrap .i64 ((x0n:Nat)+(x2n:Nat))))≤x0c)∧(CF Tryd.prog 177 [(.slice (sub0 x0a x0c (Int.toNat x1) 4) ((Int.toNat (IntKind.wrap .i64 ((x0n:Nat)+(x2n:Nat))))-Int.toNat x1) (x0c-Int.toNat x1)),(.int .i64 (x2n:Nat))] h27 fun u29 h30=>K (.slice x0a (Int.toNat (IntKind.wrap .i64 ((x0n:Nat)+(x2n:Nat)))) x0c) h30))))))))))
noncomputable abbrev o157 (k n:Nat):Code:=.region k (opsAt Tryd.f157 (pth n)) false
noncomputable def F157_code:Code:=(.seq (o157 0 2) (.seq (o157 1 5) (.seq (o157 2 11) (.seq (.seq (o157 3 39) (.cond (.tmp 16) (.seq (o157 4 151) .ret) .skip)) (.seq (o157 5 47) (.seq (.seq (o157 6 159) (.cond (.tmp 22) (.seq (o157 7 607) .ret) .skip)) (.seq (.seq (o157 8 319) (.cond (.tmp 31) (.seq (o157 9 1215) (.seq (o157 10 2751) (.seq (.region 11 (opsAt Tryd.f157 (pth 5823)) true) (.seq (o157 12 11967) .ret)))) .skip)) (.seq (o157 13 383) (.seq (.seq (o157 14 1279) (.cond (.tmp 68) (.seq (.region 15 (opsAt Tryd.f157 (pth 4863)) true) (.seq (o157 16 11007) (.seq (o157 17 23295) .ret))) .skip)) (.seq (o157 18 1535) (.seq (o157 19 3071) (.seq (o157 20 6143) .ret))))))))))))
theorem F157_body:Tryd.f157.body=some F157_code:=by kernel_rfl
theorem F157_ok (x0a:OA) (x0n x0c:Nat) (x1:Int) (x2a:OA) (x2n x2c:Nat) (hp:HP) (K:Kh) (h:F157 x0a x0n x0c x1 x2a x2n x2c hp K):CF Tryd.prog 157 [(.slice x0a x0n x0c),(.int .i64 x1),(.slice x2a x2n x2c)] hp K:=by
 refine .inl ⟨by kernel_rfl,AC.intro (N:=95) Tryd.func157 F157_body rfl (Nat.le_of_ble_eq_true rfl) ?_⟩
 unfold F157 at h
 refine Ar F157_r0 ?_ (r3 0 1 2 Rn) (z3 Sn) Sn
 refine Ar F157_r1 ?_ (r3 0 1 2 Rn) (z3 Sn) Sn
 refine ⟨h.1,h.2.1,h.2.2.1,?_⟩
 replace h:=h.2.2.2
 refine Ar F157_r2 ?_ (r3 2 0 1 Rn) (z3 Sn) Sn
 refine Aq (Ar F157_r3 ?_ (r4 7 0 1 2 Rn) (z4 Sn) Sn)
 refine Ac h rfl (fun h=>?_) (fun h=>?_)
 ·refine Ar F157_r4 ?_ (r1 0 Rn) (z1 Sn) Sn
  refine AWP.ret ?_
  exact h
 ·refine AWP.skip (Ar F157_r5 ?_ (r4 0 1 2 7 Rn) (z4 Sn) Sn)
  refine Aq (Ar F157_r6 ?_ (r5 1 8 0 2 7 Rn) (z5 Sn) Sn)
  refine Ac h rfl (fun h=>?_) (fun h=>?_)
  ·refine Ar (F157_r7 rfl) ?_ (r2 0 2 Rn) (z2 Sn) Sn
   refine mO h fun u1 h2 h=>mS h fun a3 n4 c5 h=>?_
   refine AWP.ret ?_
   exact h
  ·refine AWP.skip (Aq (Ar (F157_r8 rfl) ?_ (r5 0 7 8 1 2 Rn) (z5 Sn) Sn))
   refine Ac h rfl (fun h=>?_) (fun h=>?_)
   ·refine Ar (F157_r9 rfl) ?_ (r5 0 1 7 8 2 Rn) (z5 Sn) Sn
    refine ⟨h.1,h.2.1,mO h.2.2 fun u6 h7 h=>mS h fun a8 n9 c10 h=>?_⟩
    refine Ar (F157_r10 rfl) ?_ (r5 1 2 9 0 7 Rn) (z5 Sn) Sn
    refine ⟨h.1,h.2.1,h.2.2.1,?_⟩
    replace h:=h.2.2.2
    refine mO h fun u11 h12 h=>mI h fun i13 h=>?_
    refine Aq (AWP.rgnD (by kernel_rfl) (by kernel_rfl) (F157_r11 rfl) ?_ (r4 0 1 7 9 Rn) (z4 Sn) Sn)
    refine ⟨h.1,h.2.1,h.2.2.1,?_⟩
    replace h:=h.2.2.2
    refine ⟨h.1,h.2.1,h.2.2.1,?_⟩
    replace h:=h.2.2.2
    refine mO h fun u14 h15 h=>mI h fun i16 h=>?_
    refine Ar F157_r12 ?_ (r1 9 Rn) (z1 Sn) Sn
    refine AWP.ret ?_
    exact h
   ·refine AWP.skip (Ar (F157_r13 rfl) ?_ (r5 0 7 8 1 2 Rn) (z5 Sn) Sn)
    refine ⟨h.1,h.2.1,?_⟩
    replace h:=h.2.2
    refine Aq (Ar (F157_r14 rfl) ?_ (r5 0 1 2 7 8 Rn) (z5 Sn) Sn)
    refine ⟨h.1,h.2.1,h.2.2.1,?_⟩
    replace h:=h.2.2.2
    refine mC h fun u17 h18 h=>mB h fun q19 h=>?_
    refine Ac h rfl (fun h=>?_) (fun h=>?_)
    ·refine Aq (AWP.rgnD (by kernel_rfl) (by kernel_rfl) (F157_r15 rfl) ?_ (r4 0 1 7 2 Rn) (z4 Sn) Sn)
     refine ⟨h.1,h.2.1,h.2.2.1,?_⟩
     replace h:=h.2.2.2
     refine ⟨h.1,h.2.1,h.2.2.1,?_⟩
     replace h:=h.2.2.2
     refine mO h fun u20 h21 h=>mI h fun i22 h=>?_
     refine Ar (F157_r16 rfl) ?_ (r3 0 1 2 Rn) (z3 Sn) Sn
     refine ⟨h.1,h.2.1,h.2.2.1,?_⟩
     replace h:=h.2.2.2
     refine mO h fun u23 h24 h=>mI h fun i25 h=>?_
     refine Ar F157_r17 ?_ (r1 0 Rn) (z1 Sn) Sn
     refine AWP.ret ?_
     exact h
    ·refine AWP.skip (Ar (F157_r18 rfl) ?_ (r5 0 2 8 1 7 Rn) (z5 Sn) Sn)
     refine ⟨h.1,h.2.1,h.2.2.1,?_⟩
     replace h:=h.2.2.2
     refine mO h fun u26 h27 h=>mI h fun i28 h=>?_
     refine Ar (F157_r19 rfl) ?_ (r3 0 1 7 Rn) (z3 Sn) Sn
     refine ⟨h.1,h.2.1,h.2.2.1,?_⟩
     replace h:=h.2.2.2
     refine mC h fun u29 h30 h=>?_
     refine Ar F157_r20 ?_ (r1 0 Rn) (z1 Sn) Sn
     refine AWP.ret ?_
     exact h
end
section
variable {e E:Env} {x0a:OA} {x0n x0c:Nat} {x1 x2 x7:Int} {hp:HP} {K:Env→PV→HP→Prop}
abbrev R158 (p n:Nat):=RW Tryd.prog 33 [] (opsAt Tryd.f158 (pth p)) (List.range n)
theorem F158_r0:R158 2 1 e V0 hp K=
 K (upd e 6 (sS none 0 0)) V0 hp:= by kernel_rfl
theorem F158_r1 (h:E=upd (w2 e 2 (sI x2) 1 (sI x1)) 0 (sS x0a x0n x0c)):R158 5 6 E V0 hp K=
    ((0≤x1)∧(x1≤x2)∧(x2≤((x0n:Nat):Int))∧(((x0n:Nat):Int)≤(x0c:Nat))∧(K (w6 E 8 (sS x0a x0n x0c) 9 (sI x1) 10 (sI x2) 11 (sS x0a x0n x0c) 12 (sI ((x0n:Nat))) 13 (sV (.slice (sub0 x0a (Int.toNat (x0n:Nat)) (Int.toNat x1) 4) (Int.toNat x2-Int.toNat x1) (Int.toNat (x0n:Nat)-Int.toNat x1)))) V0 hp)):=by subst h; kernel_rfl
theorem F158_r2:R158 19 3 (w2 e 2 (sI x2) 1 (sI x1)) V0 hp K=
 K (w5 e 2 (sI x2) 1 (sI x1) 14 (sI x1) 15 (sI x2) 16 (sB ((x1==x2)))) V0 hp:= by kernel_rfl
theorem F158_r3:R158 75 2 (upd e 0 (sS x0a x0n x0c)) V0 hp K=
 K (w3 e 0 (sS x0a x0n x0c) 17 (sS x0a x0n x0c) 6 (sS x0a x0n x0c)) V0 hp:= by kernel_rfl
theorem F158_r4:R158 23 3 (upd e 0 (sS x0a x0n x0c)) V0 hp K=
 K (w4 e 0 (sS x0a x0n x0c) 18 (sS x0a x0n x0c) 19 (sI ((x0n:Nat))) 7 (sI ((x0n:Nat)))) V0 hp:= by kernel_rfl
theorem F158_r5 (h:E=upd (w2 e 2 (sI x2) 1 (sI x1)) 0 (sS x0a x0n x0c)):R158 47 8 E V0 hp K=
    ((0≤x1)∧(x1≤(x0c:Nat))∧((0≤x2)∧(x2≤x0n)∧(x0n≤x0c)∧(opS Tryd.prog (Builtin.append_ #[28,28] 28 ⟨[(.slice x0a (Int.toNat x1) x0c),(.slice (sub0 x0a x0c (Int.toNat x2) 4) (x0n-Int.toNat x2) (x0c-Int.toNat x2))]⟩) hp fun u1 h2=>slcV u1 fun a3 n4 c5=>K (w8 E 20 (sS x0a x0n x0c) 21 (sI x1) 22 (sV (.slice x0a (Int.toNat x1) x0c)) 23 (sS x0a x0n x0c) 24 (sI x2) 25 (sV (.slice (sub0 x0a x0c (Int.toNat x2) 4) (x0n-Int.toNat x2) (x0c-Int.toNat x2))) 26 (sS a3 n4 c5) 0 (sS a3 n4 c5)) V0 h2))):=by subst h; kernel_rfl
theorem F158_r6:R158 95 6 (w2 e 7 (sI x7) 0 (sS x0a x0n x0c)) V0 hp K=
    ((0≤((x0n:Nat):Int))∧(((x0n:Nat):Int)≤x7)∧(x7≤(x0c:Nat))∧(opS Tryd.prog (Builtin.clear_ #[28] 0 ⟨[(.slice (sub0 x0a x0c (Int.toNat (x0n:Nat)) 4) (Int.toNat x7-Int.toNat (x0n:Nat)) (x0c-Int.toNat (x0n:Nat)))]⟩) hp fun u1 h2=>K (w7 e 7 (sI x7) 0 (sS x0a x0n x0c) 27 (sS x0a x0n x0c) 28 (sS x0a x0n x0c) 29 (sI ((x0n:Nat))) 30 (sI x7) 31 (sV (.slice (sub0 x0a x0c (Int.toNat (x0n:Nat)) 4) (Int.toNat x7-Int.toNat (x0n:Nat)) (x0c-Int.toNat (x0n:Nat))))) V0 h2)):=by kernel_rfl
theorem F158_r7:R158 191 2 (upd e 0 (sS x0a x0n x0c)) V0 hp K=
 K (w3 e 0 (sS x0a x0n x0c) 32 (sS x0a x0n x0c) 6 (sS x0a x0n x0c)) V0 hp:= by kernel_rfl
def F158 (x0a:OA) (x0n x0c:Nat) (x1 x2:Int) (hp:HP) (K:Kh):Prop:=
  ((0≤x1)∧(x1≤x2)∧(x2≤((x0n:Nat):Int))∧(((x0n:Nat):Int)≤(x0c:Nat))∧(ite2 (x1==x2) (K (.slice x0a x0n x0c) hp) ((0≤x1)∧(x1≤(x0c:Nat))∧((0≤x2)∧(x2≤x0n)∧(x0n≤x0c)∧(opS Tryd.prog (Builtin.append_ #[28,28] 28 ⟨[(.slice x0a (Int.toNat x1) x0c),(.slice (sub0 x0a x0c (Int.toNat x2) 4) (x0n-Int.toNat x2) (x0c-Int.toNat x2))]⟩) hp fun u1 h2=>slcV u1 fun a3 n4 c5=>(0≤((n4:Nat):Int))∧(((n4:Nat):Int)≤((x0n:Nat):Int))∧(((x0n:Nat):Int)≤(c5:Nat))∧(opS Tryd.prog (Builtin.clear_ #[28] 0 ⟨[(.slice (sub0 a3 c5 (Int.toNat (n4:Nat)) 4) (Int.toNat (x0n:Nat)-Int.toNat (n4:Nat)) (c5-Int.toNat (n4:Nat)))]⟩) h2 fun u6 h7=>K (.slice a3 n4 c5) h7))))))
noncomputable abbrev o158 (k n:Nat):Code:=.region k (opsAt Tryd.f158 (pth n)) false
noncomputable def F158_code:Code:=(.seq (o158 0 2) (.seq (o158 1 5) (.seq (.seq (o158 2 19) (.cond (.tmp 16) (.seq (o158 3 75) .ret) .skip)) (.seq (o158 4 23) (.seq (.region 5 (opsAt Tryd.f158 (pth 47)) true) (.seq (o158 6 95) (.seq (o158 7 191) .ret)))))))
theorem F158_body:Tryd.f158.body=some F158_code:=by kernel_rfl
theorem F158_ok (x0a:OA) (x0n x0c:Nat) (x1 x2:Int) (hp:HP) (K:Kh) (h:F158 x0a x0n x0c x1 x2 hp K):CF Tryd.prog 158 [(.slice x0a x0n x0c),(.int .i64 x1),(.int .i64 x2)] hp K:=by
 refine .inl ⟨by kernel_rfl,AC.intro (N:=33) Tryd.func158 F158_body rfl (Nat.le_of_ble_eq_true rfl) ?_⟩
 unfold F158 at h
 refine Ar F158_r0 ?_ (r3 0 1 2 Rn) (z3 Sn) Sn
 refine Ar (F158_r1 rfl) ?_ (r3 0 1 2 Rn) (z3 Sn) Sn
 refine ⟨h.1,h.2.1,h.2.2.1,h.2.2.2.1,?_⟩
 replace h:=h.2.2.2.2
 refine Aq (Ar F158_r2 ?_ (r3 1 2 0 Rn) (z3 Sn) Sn)
 refine Ac h rfl (fun h=>?_) (fun h=>?_)
 ·refine Ar F158_r3 ?_ (r1 0 Rn) (z1 Sn) Sn
  refine AWP.ret ?_
  exact h
 ·refine AWP.skip (Ar F158_r4 ?_ (r3 0 1 2 Rn) (z3 Sn) Sn)
  refine Aq (AWP.rgnD (by kernel_rfl) (by kernel_rfl) (F158_r5 rfl) ?_ (r4 0 1 2 7 Rn) (z4 Sn) Sn)
  refine ⟨h.1,h.2.1,?_⟩
  replace h:=h.2.2
  refine ⟨h.1,h.2.1,h.2.2.1,?_⟩
  replace h:=h.2.2.2
  refine mO h fun u1 h2 h=>mS h fun a3 n4 c5 h=>?_
  refine Ar F158_r6 ?_ (r2 0 7 Rn) (z2 Sn) Sn
  refine ⟨h.1,h.2.1,h.2.2.1,?_⟩
  replace h:=h.2.2.2
  refine mO h fun u6 h7 h=>?_
  refine Ar F158_r7 ?_ (r1 0 Rn) (z1 Sn) Sn
  refine AWP.ret ?_
  exact h
end
end Go.Proofs
set_option linter.unusedVariables false
set_option maxRecDepth 20000
namespace Go.Proofs
open Go Go.HL
theorem sub0_at {b c k:Nat} (h:c≠k):sub0 (some ⟨b,0,none⟩) c k 4=some ⟨b,k*4,none⟩:=by
  unfold sub0
  rw [if_neg h,Option.map_some,add_eq,Nat.zero_add]
theorem shows_drop {hp:HP} {b:Nat} {l:List Q} {sp k c:Nat} (hb:hp b=.cells 27 (l.flatMap v4) sp) (hk:k≤l.length) (hc:l.length≤c) :
    Shows hp (sub0 (some ⟨b,0,none⟩) c k 4) (l.length-k) 4 ((l.drop k).flatMap v4):=by
  by_cases h:k=l.length
  · left
    subst h
    simp
  · right
    refine ⟨b,k*4,sub0_at (by omega),?_⟩
    rw [HP.cellN_of hb,cellsN_of (by rw [flat_len v4_len,Nat.sub_mul]; omega),flat_drop v4_len,List.take_of_length_le (by rw [flat_len v4_len]; simp)]
theorem C158 {b c n i sp:Nat} {l:List Q} {hp:HP} {K:Value→HP→Prop} (hb:hp b=.cells 27 (l.flatMap v4) sp) (hl:l.length=n) (hi:i<n) (hc:n≤c) (hn:n≤1000000)
    (h:∀ zs:List Value,zs.length=4→zs.all one=true→K (.slice (some ⟨b,0,none⟩) (n-1) c) (hp.set b (.cells 27 ((l.eraseIdx i).flatMap v4++zs) sp))) :
    CF Tryd.prog 158 [.slice (some ⟨b,0,none⟩) n c,.int .i64 i,.int .i64 ((i:Int)+1)] hp K:=by
  refine F158_ok _ n c i ((i:Int)+1) hp K ?_
  unfold F158
  refine ⟨by omega,by omega,by omega,by omega,?_⟩
  have e:((i:Int)==(i:Int)+1)=false:=by
    rw [beq_eq_false_iff_ne]; omega
  rw [e,ite2_false]
  refine ⟨by omega,by omega,by omega,by omega,hc,?_⟩
  have e1:Int.toNat ((i:Int)+1)=i+1:=by omega
  rw [Int.toNat_natCast,e1]
  subst hl
  refine opS_append_in (e:=27) (size:=4) (bytes:=4) (by kernel_rfl) hb (shows_drop hb (by omega) hc) (all_flat v4_one _) (by omega) (by rw [flat_len v4_len]; omega) ?_
  rw [slcV_slice]
  have hn1:i+(l.length-(i+1))=l.length-1:=by omega
  have hcs:splice (l.flatMap v4) (0+i*4) ((l.drop (i+1)).flatMap v4)=(l.eraseIdx i).flatMap v4++(l.drop (l.length-1)).flatMap v4:=by
    have hyl:((l.drop (i+1)).flatMap v4).length=(l.length-(i+1))*4:=by rw [flat_len v4_len]; simp
    rw [splice_eq _ _ _ (by rw [hyl,flat_len v4_len]; omega),hyl,Nat.zero_add,flat_take v4_len,show i*4+(l.length-(i+1))*4=(l.length-1)*4 by omega,flat_drop v4_len,
      List.eraseIdx_eq_take_drop_succ,List.flatMap_append]
  rw [hcs,hn1]
  refine ⟨by omega,by omega,by omega,?_⟩
  rw [Int.toNat_natCast,Int.toNat_natCast,sub0_at (by omega)]
  have hel:((l.eraseIdx i).flatMap v4).length=(l.length-1)*4:=by rw [flat_len v4_len,List.length_eraseIdx_of_lt hi]
  have hll:((l.drop (l.length-1)).flatMap v4).length=4:=by rw [flat_len v4_len]; simp; omega
  refine opS_clear_in (e:=27) (size:=4) (bytes:=4) (by kernel_rfl) (by kernel_rfl) (HP.set_eq ..) (by rw [List.length_append,hel,hll]; omega) ?_
  intro zs hzs hz1
  have hz4:zs.length=4:=by rw [hzs]; omega
  rw [splice_eq _ _ _ (by rw [List.length_append,hel,hll,hz4]; omega),HP.set_set,← hel,List.take_left,List.drop_append,List.drop_eq_nil_of_le (by omega),List.nil_append,
    List.drop_eq_nil_of_le (by rw [hll,hz4]; omega),List.append_nil]
  exact h zs hz4 hz1
end Go.Proofs
set_option linter.unusedVariables false
set_option maxRecDepth 20000
namespace Go.Proofs
open Go Go.HL
theorem C157 {b b2 c n sp sp2:Nat} {l:List Q} {zs:List Value} {q:Q} {hp:HP} {K:Value→HP→Prop} (hb:hp b=.cells 27 (l.flatMap v4++zs) sp) (hzs:zs.length=4) (hz1:zs.all one=true) (hl:l.length=n) (h0:0<n) (hc:n+1≤c) (hn:n≤1000000)
    (hb2:hp b2=.cells 27 (v4 q) sp2) (hne:b2≠b)
    (h:K (.slice (some ⟨b,0,none⟩) (n+1) c) (hp.set b (.cells 27 ((q::l).flatMap v4) sp))) :
    CF Tryd.prog 157 [.slice (some ⟨b,0,none⟩) n c,.int .i64 0,.slice (some ⟨b2,0,none⟩) 1 1] hp K:=by
  refine F157_ok _ n c 0 _ 1 1 hp K ?_
  unfold F157
  refine ⟨by omega,by omega,by omega,?_⟩
  have e0:(((1:Nat):Int)==0)=false:=by decide
  have e1:((0:Int)==(n:Int))=false:=by rw [beq_eq_false_iff_ne]; omega
  rw [e0,ite2_false,e1,ite2_false]
  rw [w64 (n:=((n:Nat):Int)+((1:Nat):Int)) (by omega) (by omega),w64 (n:=(0:Int)+((1:Nat):Int)) (by omega) (by omega)]
  rw [decide_eq_false (by omega:¬ ((n:Nat):Int)+((1:Nat):Int) > (c:Int)),ite2_false]
  have t1:Int.toNat (((n:Nat):Int)+((1:Nat):Int))=n+1:=by omega
  have t0:Int.toNat ((0:Int)+((1:Nat):Int))=1:=by omega
  have tz:Int.toNat (0:Int)=0:=rfl
  simp only [t1,t0,tz]
  refine ⟨by omega,by omega,by omega,by omega,by omega,?_⟩
  rw [sub0_at (by omega),sub0_at (by omega)]
  refine C176 hb2 hb hne (fun hh=>by have:=congrArg List.length hh; rw [List.length_append,hzs] at this; simp at this) ?_
  rw [boolV_bool]
  simp only [Bool.not_false,ite2_true]
  refine ⟨by omega,by omega,by omega,by omega,by omega,by omega,?_⟩
  have hfl:(l.flatMap v4).length=n*4:=by rw [flat_len v4_len,hl]
  have hsh:Shows hp (some ⟨b,0*4,none⟩) (n+1-0) 4 (l.flatMap v4++zs):=by
    right
    refine ⟨b,0*4,rfl,?_⟩
    rw [HP.cellN_of hb,Nat.zero_mul]
    exact cellsN_all (by rw [List.length_append,hfl,hzs]; omega)
  refine opS_copy_in (e:=27) (size:=4) (bytes:=4) (by kernel_rfl) hb hsh (by rw [List.all_append,all_flat v4_one,hz1]; rfl) (by rw [List.length_append,hfl,hzs]; omega) ?_
  rw [intV_int]
  refine ⟨by omega,by omega,by omega,?_⟩
  have hmin:Nat.min (n+1-0) (n+1-1)=n:=by
    show min _ _=_
    omega
  rw [hmin]
  have hcs:splice (l.flatMap v4++zs) (1*4) ((l.flatMap v4++zs).take (n*4))=(l.flatMap v4++zs).take 4++l.flatMap v4:=by
    have ht:(l.flatMap v4++zs).take (n*4)=l.flatMap v4:=by rw [← hfl]; exact List.take_left
    rw [ht,splice_eq _ _ _ (by rw [List.length_append,hfl,hzs]; omega),List.drop_eq_nil_of_le (by rw [List.length_append,hfl,hzs]; omega),List.append_nil]
  rw [hcs]
  have hs2:Shows (hp.set b (.cells 27 ((l.flatMap v4++zs).take 4++l.flatMap v4) sp)) (some ⟨b2,0,none⟩) 1 4 (v4 q):=by
    right
    refine ⟨b2,0,rfl,?_⟩
    rw [HP.cellN_of (by rw [HP.set_ne _ _ hne]; exact hb2)]
    rfl
  have hl4:((l.flatMap v4++zs).take 4).length=4:=by rw [List.length_take,List.length_append,hfl,hzs]; omega
  refine opS_copy_in (e:=27) (size:=4) (bytes:=4) (by kernel_rfl) (HP.set_eq ..) hs2 (v4_one q) (by rw [List.length_append,hl4,hfl]; omega) ?_
  rw [intV_int]
  have hmin2:Nat.min 1 (n+1-0)=1:=by
    show min _ _=_
    omega
  rw [hmin2,HP.set_set,Nat.zero_mul,splice_eq _ _ _ (by rw [List.length_append,hl4,hfl]; show 0+4≤_; omega)]
  have:List.take 0 ((l.flatMap v4++zs).take 4++l.flatMap v4)++(v4 q).take (1*4)++List.drop (0+((v4 q).take (1*4)).length) ((l.flatMap v4++zs).take 4++l.flatMap v4)=(q::l).flatMap v4:=by
    have hd:List.drop 4 ((l.flatMap v4++zs).take 4++l.flatMap v4)=l.flatMap v4:=by
      have:=List.drop_left (l₁:=(l.flatMap v4++zs).take 4) (l₂:=l.flatMap v4)
      rwa [hl4] at this
    show v4 q++List.drop 4 ((l.flatMap v4++zs).take 4++l.flatMap v4)=_
    rw [hd,List.flatMap_cons]
  rw [this]
  exact h
end Go.Proofs
set_option linter.unusedVariables false
namespace Go.Proofs
open Go Go.HL
def t4k (t:Q × Int):Value:=.agg ⟨t4 t⟩
def vb (b:Bool):Value:=.bool b
theorem enc75:EncK Tryd.prog 34 t4k where
  inj a b h:=by simp only [t4k,Value.agg.injEq,Array.mk.injEq] at h; exact t4_inj.1 h
  law:=(KeyLaw.wide (m:=3) (D:=3) (by kernel_rfl)).weaken fun v ⟨k,hk⟩=>⟨t4 k,hk,t4_shaped k,rfl⟩
theorem u158:Tryd.prog.underlying 182=some (.map 34 4):=by kernel_rfl
theorem zero_of {P:Program} {t:TypeId} {z:Value} (h:(P.info? t).bind (·.zero)=some z) (w:World):(zeroValue t).run P w=.ok z w:=by
  cases hi:P.info? t with
  | none=>rw [hi] at h; cases h
  | some i=>rw [hi] at h; simp only [Option.bind_some] at h; simp [zeroValue,typeInfo,hi,h]
theorem zwb4:∀ w:World,(zeroValue 4).run Tryd.prog w=.ok (.bool false) w:=zero_of (by kernel_rfl)
/-- A pool: its addresses, its range, what is not free. -/
def PoolR (hp:HP) (p:Nat) (l:List Q) (low high:Int) (held:List ((Q × Int) × Bool)) (m:Nat):Prop:=
  ∃ a c,hp p=.cells 184 [.slice a l.length c,.int .i64 low,.int .i64 high,.map (some m)] 0∧Row hp a l.length c 27 4 (l.flatMap v4)∧MapE t4k vb held (hp m)
theorem PoolR.sub {hp hp':HP} {p l low high held m} (h:PoolR hp p l low high held m) (hs:HSub hp hp'):PoolR hp' p l low high held m:=by
  obtain ⟨a,c,h1,h2,h3⟩:=h
  refine ⟨a,c,hs.cells h1,h2.sub hs,?_⟩
  obtain ⟨es,clock,he,hr⟩:=h3
  exact ⟨es,clock,hs.obj he,hr⟩
theorem PoolR.upd {hp:HP} {p l low high held m held'} (h:PoolR hp p l low high held m) {e:Ent} (he:MapE t4k vb held' e):PoolR (hp.set m e) p l low high held' m:=by
  obtain ⟨a,c,h1,h2,h3⟩:=h
  have hm:∃ o,hp m=.obj o:=by obtain ⟨es,clock,he,_⟩:=h3; exact ⟨_,he⟩
  obtain ⟨o,hm⟩:=hm
  refine ⟨a,c,?_,?_,by rw [HP.set_eq]; exact he⟩
  · rw [HP.set_ne _ _ (fun e=>by rw [e,hm] at h1; cases h1)]; exact h1
  · rcases h2 with h2 | ⟨b,h21,h22,h23,h24⟩
    · exact .inl h2
    · refine .inr ⟨b,h21,h22,h23,?_⟩
      rw [HP.set_ne _ _ (fun e=>by rw [e,hm] at h24; cases h24)]; exact h24
/-- Of which addresses and ports a pool is made. -/
def newOk (l:List Q) (low high:Int):Bool:=
  decide (1≤l.length)&&decide (l.length≤4)&&isPort low&&isPort high&&decide (low≤high)&&decide (high-low<1024)&&decide l.Nodup
theorem nodup_take {l:List Q} {i:Nat} (hi:i<l.length) (h:(l.take i).Nodup) (hn:l[i] ∉ l.take i):(l.take (i+1)).Nodup:=by
  rw [List.take_succ_eq_append_getElem hi]
  refine List.nodup_append.2 ⟨h,by simp,?_⟩
  intro x hx y hy
  simp only [List.mem_singleton] at hy
  subst hy
  exact fun e=>hn (e▸hx)
theorem C67 {a:Option Addr} {n c:Nat} {l:List Q} {low high:Int} {hp:HP} {K:Value→HP→Prop} (hs:Shows hp a n 4 (l.flatMap v4)) (hl:l.length=n) (hnc:n≤c) (hsm:-9223372036854775808≤low∧low≤9223372036854775807) (hsm2:-9223372036854775808≤high∧high≤9223372036854775807)
    (hbad:newOk l low high=false→K (.tuple ⟨[.pointer none,.int .i64 1]⟩) hp)
    (hok:newOk l low high=true→∀ p m hp',HSub hp hp'→hp p=.none→hp m=.none→PoolR hp' p l low high [] m →
      (∀ s c,hp' p=.cells 184 [.slice s l.length c,.int .i64 low,.int .i64 high,.map (some m)] 0→∀ b,s=some ⟨b,0,none⟩→hp b=.none)→K (.tuple ⟨[ptr p 0,.int .i64 0]⟩) hp') :
    CF Tryd.prog 67 [.slice a n c,.int .i64 low,.int .i64 high] hp K:=by
  refine F67_ok a n c low high hp K ?_
  unfold F67
  have bad:newOk l low high=false→F67_j1 a n c low high true hp K:=fun h=>by
    unfold F67_j1; exact hbad h
  by_cases h1:n<1
  · have e:decide (((n:Nat):Int)<1)=true:=decide_eq_true (by omega)
    rw [e]
    exact bad (by unfold newOk; rw [hl]; simp; omega)
  have e:decide (((n:Nat):Int)<1)=false:=decide_eq_false (by omega)
  rw [e,ite2_false]
  by_cases h4:n > 4
  · have e:decide (((n:Nat):Int) > 4)=true:=decide_eq_true (by omega)
    rw [e]
    exact bad (by unfold newOk; rw [hl]; simp; omega)
  have e:decide (((n:Nat):Int) > 4)=false:=decide_eq_false (by omega)
  rw [e,ite2_false]
  refine C106 ?_
  rw [boolV_bool]
  cases hlo:isPort low
  · exact bad (by unfold newOk; rw [hlo]; simp)
  refine C106 ?_
  rw [boolV_bool]
  cases hhi:isPort high
  · exact bad (by unfold newOk; rw [hhi]; simp)
  simp only [Bool.not_true,ite2_false]
  by_cases hlh:high<low
  · have e:decide ((high:Int)<low)=true:=by simpa using hlh
    rw [e]
    exact bad (by unfold newOk; simp; omega)
  have e:decide ((high:Int)<low)=false:=by simpa using hlh
  rw [e,ite2_false]
  have hp1:=hlo; have hp2:=hhi
  unfold isPort at hp1 hp2
  simp only [decide_eq_true_eq] at hp1 hp2
  rw [w64 (by omega) (by omega)]
  by_cases hw:high-low≥1024
  · have e:decide ((high-low:Int)≥1024)=true:=by simpa using hw
    rw [e]
    exact bad (by unfold newOk; simp; omega)
  have e:decide ((high-low:Int)≥1024)=false:=by simpa using hw
  rw [e]
  unfold F67_j1
  rw [ite2_false]
  unfold F67_j3
  have hrest:(decide (1≤l.length)&&decide (l.length≤4)&&isPort low&&isPort high&&decide (low≤high)&&decide (high-low<1024))=true:=by
    rw [hl,hlo,hhi]; simp; omega
  refine LoopP.by (J:=fun k (x:Int) hp'=>hp'=hp∧∃ i:Nat,x=i∧i+k=n∧(l.take i).Nodup) ?_ (n:=n) ⟨rfl,0,rfl,by omega,by simp⟩
  rintro I k x hp' ⟨rfl,i,rfl,hik,hnd⟩ hI
  unfold F67_l4
  by_cases hi:i<n
  · have hlt:decide ((i:Int)<(n:Int))=true:=by simpa using hi
    obtain ⟨b,o,rfl,hc⟩:=hs.get v4_len hl hi
    have hz:splice [(Value.int .u8 0),(Value.int .u8 0),(Value.int .u8 0),(Value.int .u8 0)] 0 (v4 (l[i]'(hl▸hi)))=v4 (l[i]'(hl▸hi)):=splice_all rfl
    simp only [hlt,ite2_true,ldL_some,ptrN_some,Int.toNat_natCast,hc,v4_len,v4_one,if_true,hz,cellsN_all (v4_len _)]
    refine ⟨by omega,by omega,?_⟩
    rw [if_pos (by decide)]
    refine ⟨by omega,by omega,?_⟩
    refine C108 (hs.take v4_len hl (by omega)) (by simp; omega) (by omega) ?_
    rw [boolV_bool]
    by_cases hm:l[i]'(hl▸hi)∈l.take i
    · simp only [hm,decide_true,ite2_true]
      refine hbad ?_
      unfold newOk
      have:¬ l.Nodup:=fun hnd'=>by
        rw [← List.take_append_drop i l] at hnd'
        have:=(List.nodup_append.1 hnd').2.2 _ hm (l[i]'(hl▸hi)) (by rw [List.drop_eq_getElem_cons (hl▸hi)]; exact List.mem_cons_self ..)
        exact this rfl
      simp [this]
    · simp only [hm,decide_false,ite2_false]
      rw [w64 (by omega) (by omega)]
      exact hI (k-1) _ _ (by omega) ⟨rfl,i+1,by omega,by omega,nodup_take (hl▸hi) hnd hm⟩
  · have hlt:decide ((i:Int)<(n:Int))=false:=by simpa using hi
    have hin:i=l.length:=by omega
    subst hin
    rw [List.take_length] at hnd
    rw [hlt,ite2_false]
    have hok':=hok (by unfold newOk; rw [hrest]; simpa using hnd)
    unfold F67_j2
    refine C109 hs hl (by omega) ?_
    intro s2 c2 hp2 hsub hrow hfr
    simp only [slcV_slice]
    intro m hm p hpn
    have hne:p≠m:=fun e=>by rw [e,HP.set_eq] at hpn; cases hpn
    rw [HP.set_ne _ _ hne] at hpn
    have s1:=HSub.set_fresh hp2 (.obj (.map #[] 0)) hm
    have s2':=HSub.set_fresh (hp2.set m (.obj (.map #[] 0))) (b:=p) (.cells 184 [Value.slice s2 n c2,.int .i64 low,.int .i64 high,.map (some m)] 0) (by rw [HP.set_ne _ _ hne]; exact hpn)
    have sub:=(hsub.trans s1).trans s2'
    refine hok' p m _ sub (hsub.none hpn) (hsub.none hm) ⟨s2,c2,?_,?_,?_⟩ ?_
    · rw [HP.set_eq,hl]
    · rw [hl]; exact hrow.sub (s1.trans s2')
    · rw [HP.set_ne _ _ hne.symm,HP.set_eq]; exact MapE.empty _ _
    · intro s c e b hb
      rw [HP.set_eq] at e
      simp only [Ent.cells.injEq,List.cons.injEq,Value.slice.injEq] at e
      exact hfr b (e.2.1.1.1.trans hb)
/-- The addresses, one first. -/
def orderQ (first:Q) (l:List Q):List Q:=if idx first l > 0 then first::l.erase first else l
theorem C133 {p m:Nat} {l:List Q} {low high:Int} {held} {first:Q} {hp:HP} {K:Value→HP→Prop} (hr:PoolR hp p l low high held m) (hlen:l.length≤4) (ho:idx first l≤0)
    (h:∀ s2 c2 hp',HSub hp hp'→Row hp' s2 l.length c2 27 4 ((orderQ first l).flatMap v4)→K (.slice s2 l.length c2) hp') :
    CF Tryd.prog 133 [ptr p 0,.agg ⟨v4 first⟩] hp K:=by
  refine F133_ok _ (v4 first) hp K ?_
  unfold F133
  obtain ⟨a,c,h1,h2,h3⟩:=hr
  rw [ptrN_some,HP.cell_of h1]
  simp only [Nat.zero_add,List.getElem?_cons_zero,ldV_some,slcV_slice]
  refine C109 h2.shows rfl (by omega) ?_
  intro s2 c2 hp2 hsub hrow hfr
  simp only [slcV_slice,cellsN_all (v4_len first),ldL_some]
  refine C132 hrow.shows rfl (by omega) ?_
  simp only [intV_int]
  have:decide (idx first l > 0)=false:=by simpa using ho
  rw [this,ite2_false]
  unfold F133_j1
  have h':=h s2 c2 hp2 hsub
  unfold orderQ at h'
  rw [if_neg (by omega)] at h'
  exact h' hrow
end Go.Proofs
set_option linter.unusedVariables false
set_option maxRecDepth 20000
namespace Go.Proofs
open Go Go.HL
theorem C99w {p m:Nat} {l:List Q} {low high:Int} {held} {first:Q} {hp:HP} {K:Value→HP→Prop} (hr:PoolR hp p l low high held m) (hlen:l.length≤4)
    (h:∀ s2 c2 hp',HSub hp hp'→Row hp' s2 l.length c2 27 4 ((orderQ first l).flatMap v4)→K (.slice s2 l.length c2) hp') :
    CF Tryd.prog 133 [ptr p 0,.agg ⟨v4 first⟩] hp K:=by
  by_cases ho:idx first l≤0
  · exact C133 hr hlen ho h
  refine F133_ok _ (v4 first) hp K ?_
  unfold F133
  obtain ⟨a,c,h1,h2,h3⟩:=hr
  rw [ptrN_some,HP.cell_of h1]
  simp only [Nat.zero_add,List.getElem?_cons_zero,ldV_some,slcV_slice]
  refine C109 h2.shows rfl (by omega) ?_
  intro s2 c2 hp2 hsub hrow hfr
  simp only [slcV_slice,cellsN_all (v4_len first),ldL_some]
  refine C132 hrow.shows rfl (by omega) ?_
  simp only [intV_int]
  have hgt:decide (idx first l > 0)=true:=decide_eq_true (by omega)
  rw [hgt,ite2_true]
  have hm:first∈l:=by
    refine Classical.byContradiction fun hn=>ho ?_
    unfold idx; rw [if_neg hn]; omega
  have hidx:idx first l=(l.idxOf first:Nat):=by unfold idx; rw [if_pos hm]
  have hlt:l.idxOf first<l.length:=List.idxOf_lt_length_of_mem hm
  have hpos:0<l.idxOf first:=by omega
  have her:l.eraseIdx (l.idxOf first)=l.erase first:=(List.erase_eq_eraseIdx_of_idxOf rfl).symm
  have hoq:orderQ first l=first::l.erase first:=by unfold orderQ; rw [if_pos (by omega)]
  rcases hrow with ⟨_,hl0,_,_⟩ | ⟨b,rfl,hnc,hxl,hb⟩
  · omega
  have hel:(l.eraseIdx (l.idxOf first)).length=l.length-1:=List.length_eraseIdx_of_lt hlt
  rw [hidx,w64 (by omega) (by omega)]
  have hbn:hp b=.none:=hfr b rfl
  have up:∀ {h3:HP},HSub hp h3→∀ e,HSub hp (h3.set b e):=fun {h3} hs e x=>by
    by_cases hx:x=b
    · subst hx; exact .inl hbn
    · rw [HP.set_ne _ _ hx]; exact hs x
  have hlen1:l.length-1+1=l.length:=by omega
  have hrowF:∀ h3:HP,h3 b=.cells 27 ((first::l.eraseIdx (l.idxOf first)).flatMap v4) ((c2-l.length)*4)→Row h3 (some ⟨b,0,none⟩) l.length c2 27 4 ((orderQ first l).flatMap v4):=by
    intro h3 hb3
    rw [hoq,← her]
    exact .inr ⟨b,rfl,hnc,by rw [flat_len v4_len,List.length_cons,hel,hlen1],hb3⟩
  refine ⟨?_,?_⟩
  · refine C158 hb rfl hlt hnc (by omega) ?_
    intro zs hz hz1
    rw [slcV_slice]
    refine ifI rfl ?_
    intro b2 hb2
    have hne:b2≠b:=fun e=>by rw [e,HP.set_eq] at hb2; cases hb2
    have hb2':hp b2=.none:=(up hsub _).none hb2
    refine C157 (sp:=(c2-l.length)*4) (by rw [HP.set_ne _ _ hne.symm,HP.set_eq]) hz hz1 hel (by omega) (by omega) (by omega) (HP.set_eq ..) hne ?_
    rw [slcV_slice,hlen1]
    unfold F133_j1
    refine h _ _ _ (up ((up hsub _).trans (HSub.set_fresh _ _ hb2)) _) (hrowF _ (HP.set_eq ..))
  · refine ifI rfl ?_
    intro b2 hb2
    have hne:b2≠b:=fun e=>by rw [e,hb] at hb2; cases hb2
    refine C158 (by rw [HP.set_ne _ _ hne.symm]; exact hb) rfl hlt hnc (by omega) ?_
    intro zs hz hz1
    rw [slcV_slice]
    refine C157 (sp:=(c2-l.length)*4) (HP.set_eq ..) hz hz1 hel (by omega) (by omega) (by omega) (by rw [HP.set_ne _ _ hne,HP.set_eq]; rfl) hne ?_
    rw [slcV_slice,hlen1]
    unfold F133_j1
    refine h _ _ _ (up (up (hsub.trans (HSub.set_fresh _ _ hb2)) _) _) (hrowF _ (HP.set_eq ..))
end Go.Proofs
set_option linter.unusedVariables false
namespace Go.Proofs
open Go Go.HL
def ports:Nat→Int→List Int
  | 0,_=>[]
  | k+1,n=>n::ports k (n+1)
/-- Is a port of an address free, and of the class? -/
def freeAt (held:List ((Q × Int) × Bool)) (x:Int) (plain:Bool) (a:Q) (n:Int):Option (Q × Int):=
  if (getL (a,n) held).isNone&&(plain||cls x n) then some (a,n) else none
def firstIn (low high:Int) (held:List ((Q × Int) × Bool)) (x:Int) (plain:Bool) (a:Q):Option (Q × Int):=
  (ports (high+1-low).toNat low).findSome? (freeAt held x plain a)
def takeQ (l:List Q) (low high:Int) (held:List ((Q × Int) × Bool)) (first:Q) (x:Int) (plain:Bool):Option (Q × Int):=
  (orderQ first l).findSome? (firstIn low high held x plain)
def q0:Q:=(0,0,0,0)
theorem orderQ_len {first:Q} {l:List Q}:(orderQ first l).length=l.length:=by
  unfold orderQ
  split
  · rename_i h
    have hm:first∈l:=by
      unfold idx at h
      split at h
      · assumption
      · omega
    simp only [List.length_cons,List.length_erase_of_mem hm]
    have:0<l.length:=List.length_pos_of_mem hm
    omega
  · rfl
theorem C110 {p m:Nat} {l:List Q} {low high:Int} {held} {first:Q} {x:Int} {plain:Bool} {hp:HP} {K:Value→HP→Prop} (hr:PoolR hp p l low high held m) (hlen:l.length≤4)
    (hb:0≤low∧low≤65535∧0≤high∧high≤65535)
    (harg:isPort x=false→K (.tuple ⟨[.agg ⟨t4 (q0,0)⟩,.int .i64 1]⟩) hp)
    (hfull:isPort x=true→takeQ l low high held first x plain=none→K (.tuple ⟨[.agg ⟨t4 (q0,0)⟩,.int .i64 6]⟩) hp)
    (hgot:isPort x=true→∀ t,takeQ l low high held first x plain=some t→∀ e,MapE t4k vb (putL t false held) e→K (.tuple ⟨[.agg ⟨t4 t⟩,.int .i64 0]⟩) (hp.set m e)) :
    CF Tryd.prog 110 [ptr p 0,.agg ⟨v4 first⟩,.int .i64 x,.bool plain] hp K:=by
  refine CF.drop (F110_ok _ (v4 first) x plain hp _ ?_)
  have hr0:=hr
  obtain ⟨a,c,h1,h2,h3⟩:=hr
  unfold F110
  have hz5:[Value.int .u8 0,.int .u8 0,.int .u8 0,.int .u8 0,.int .i64 0]=t4 (q0,0):=rfl
  have hz4:[Value.int .u8 0,.int .u8 0,.int .u8 0,.int .u8 0]=v4 q0:=rfl
  have h1c:∀ o,hp.cell p o=[Value.slice a l.length c,.int .i64 low,.int .i64 high,.map (some m)][o]?:=fun o=>HP.cell_of h1
  simp only [Option.isNone_some,ite2_false,ptrN_some,h1c,Nat.zero_add,List.getElem?_cons_succ,List.getElem?_cons_zero,ldV_some,mapV_map]
  unfold F110_j1
  rw [ite2_false]
  refine C106 ?_
  rw [boolV_bool]
  cases hx:isPort x
  · simp only [Bool.not_false,ite2_true,hz5,t4_len,t4_one,if_true,splice_all,cellsN_all,ldL_some]
    refine ifI (by omega) ?_
    exact ⟨hp,HSub.refl _,harg hx⟩
  simp only [Bool.not_true,ite2_false,cellsN_all (v4_len first),ldL_some]
  refine C99w hr0 hlen ?_
  intro s2 c2 hp2 hsub hrow
  rw [slcV_slice]
  unfold F110_j3
  have hr2:=hr0.sub hsub
  have h2c:∀ o,hp2.cell p o=[Value.slice a l.length c,.int .i64 low,.int .i64 high,.map (some m)][o]?:=fun o=>HP.cell_of (hsub.cells h1)
  have h3':MapE t4k vb held (hp2 m):=by
    obtain ⟨es,clock,he,hrr⟩:=h3
    exact ⟨es,clock,hsub.obj he,hrr⟩
  have htq:takeQ l low high held first x plain=(orderQ first l).findSome? (firstIn low high held x plain):=rfl
  have hol:=orderQ_len (first:=first) (l:=l)
  generalize hO:orderQ first l=O at *
  refine LoopP.by (J:=fun k (s:Int × List Value) hp'=>hp'=hp2∧s.2=t4 (q0,0)∧∃ i:Nat,s.1=i∧i+k=l.length∧takeQ l low high held first x plain=(O.drop i).findSome? (firstIn low high held x plain)) ?_ (n:=l.length)
    ⟨rfl,hz5,0,rfl,by omega,htq⟩
  rintro I k ⟨x1,k8⟩ hp' ⟨rfl,hk8,i,hxi,hik,hO2⟩ hI
  simp only at hk8 hxi
  subst hk8; subst hxi
  unfold F110_l4
  by_cases hi:i<l.length
  · have hlt:decide ((i:Int)<(l.length:Int))=true:=decide_eq_true (by omega)
    have hiO:i<O.length:=by omega
    obtain ⟨b,o,rfl,hc⟩:=hrow.shows.get v4_len hol hi
    simp only [hlt,ite2_true,ptrN_some,Int.toNat_natCast,hc,ldL_some,v4_len,v4_one,if_true,hz4]
    refine ⟨by omega,by omega,?_⟩
    refine ifI (by omega) ?_
    simp only [h2c,Nat.zero_add,List.getElem?_cons_succ,List.getElem?_cons_zero,ldV_some,intV_int,splice_all (show (v4 O[i]).length=(v4 q0).length from rfl)]
    unfold F110_j6
    have hdrop:O.drop i=O[i]::O.drop (i+1):=List.drop_eq_getElem_cons hiO
    rw [hdrop,List.findSome?_cons] at hO2
    refine LoopP.by (J:=fun k' (s:Int × List Value) hp''=>hp''=hp'∧s.2=t4 (q0,0)∧k'=(high+1-s.1).toNat∧low≤s.1 ∧
      firstIn low high held x plain O[i]=(ports k' s.1).findSome? (freeAt held x plain O[i])) ?_ (n:=(high+1-low).toNat) ⟨rfl,rfl,rfl,Int.le_refl _,rfl⟩
    rintro I' k' ⟨y,k8⟩ hp'' ⟨rfl,hk8,hk',hly,hfi⟩ hI'
    simp only at hk8 hk' hly hfi
    subst hk8
    unfold F110_l7
    simp only [ptrN_some,h2c,Nat.zero_add,List.getElem?_cons_succ,List.getElem?_cons_zero,ldV_some,intV_int]
    by_cases hyh:y≤high
    · have hle:decide (y≤high)=true:=decide_eq_true hyh
      have hset:(splice (t4 (q0,0)) 0 (v4 O[i])).set 4 (.int .i64 y)=t4 (O[i],y):=rfl
      simp only [hle,ite2_true,cellsN_all (v4_len _),ldL_some,v4_len,if_true,hz5,hset,t4_len,t4_one]
      refine ifI (by omega) ?_
      have hsp:splice (t4 (q0,0)) 0 (t4 (O[i],y))=t4 (O[i],y):=splice_all rfl
      simp only [mapV_map,hsp,cellsN_all (t4_len _),ldL_some]
      refine rdS_lookup u158 enc75 zwb4 h3' (O[i],y) ?_
      simp only [if_true,tup2V_mk]
      have hv:boolV (((getL (O[i],y) held).map vb).getD (.bool false))=fun c=>c ((getL (O[i],y) held).getD false):=by
        funext c; cases getL (O[i],y) held <;> rfl
      rw [hv]
      simp only [boolV_bool]
      obtain ⟨kk,rfl⟩:∃ kk,k'=kk+1:=⟨k' - 1,by omega⟩
      rw [ports,List.findSome?_cons] at hfi
      have next:freeAt held x plain O[i] y=none→F110_j8 (some ⟨p,0,none⟩) x plain y (some ⟨b,o,none⟩) l.length c2 l.length i false (t4 (q0,0)) (v4 O[i]) (t4 (O[i],y)) hp'' I I' (fun v hp'=>∃ hp'',HSub hp'' hp'∧K v hp''):=by
        intro hf
        unfold F110_j8
        rw [ite2_false,w64 (by omega) (by omega)]
        rw [hf] at hfi
        exact hI' kk _ _ (by omega) ⟨rfl,rfl,by simp only; omega,by simp only; omega,hfi⟩
      have found:freeAt held x plain O[i] y=some (O[i],y)→F110_j8 (some ⟨p,0,none⟩) x plain y (some ⟨b,o,none⟩) l.length c2 l.length i true (t4 (q0,0)) (v4 O[i]) (t4 (O[i],y)) hp'' I I' (fun v hp'=>∃ hp'',HSub hp'' hp'∧K v hp''):=by
        intro hf
        unfold F110_j8
        rw [hf] at hfi
        rw [hfi] at hO2
        simp only [ite2_true,ptrN_some,h2c,Nat.zero_add,List.getElem?_cons_succ,List.getElem?_cons_zero,ldV_some,mapV_map,cellsN_all (t4_len _),ldL_some,t4_len,t4_one,if_true,hsp]
        refine opS_mapUpdate u158 enc75 h3' (O[i],y) false (ev:=vb) ?_
        intro e he
        refine ifI (by omega) ?_
        exact ⟨hp.set m e,hsub.set m e,hgot hx _ hO2 e he⟩
      cases hg:(getL (O[i],y) held).isSome
      · have hg':(getL (O[i],y) held).isNone=true:=by cases h:getL (O[i],y) held <;> simp_all
        simp only [Bool.not_false,ite2_true]
        cases plain
        · rw [ite2_false]
          refine C64 ?_
          rw [boolV_bool]
          cases hcl:cls x y
          · exact next (by simp [freeAt,hcl])
          · exact found (by simp [freeAt,hg',hcl])
        · rw [ite2_true]
          exact found (by simp [freeAt,hg'])
      · have hg':(getL (O[i],y) held).isNone=false:=by cases h:getL (O[i],y) held <;> simp_all
        simp only [Bool.not_true,ite2_false]
        exact next (by simp [freeAt,hg'])
    · have hle:decide (y≤high)=false:=decide_eq_false hyh
      rw [hle,ite2_false]
      unfold F110_j5
      have:k'=0:=by omega
      subst this
      rw [ports,List.findSome?_nil] at hfi
      rw [hfi] at hO2
      rw [w64 (by omega) (by omega)]
      exact hI (k-1) _ _ (by omega) ⟨rfl,rfl,i+1,by simp,by omega,hO2⟩
  · have hlt:decide ((i:Int)<(l.length:Int))=false:=decide_eq_false (by omega)
    rw [hlt,ite2_false]
    unfold F110_j2
    rw [List.drop_eq_nil_of_le (by omega),List.findSome?_nil] at hO2
    simp only [hz5,t4_len,t4_one,if_true,splice_all,cellsN_all,ldL_some]
    refine ifI (by omega) ?_
    exact ⟨hp,hsub,hfull hx hO2⟩
end Go.Proofs
