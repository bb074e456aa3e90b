/- Parts of the proof of BibPairsProof: the logic of what is known of memory, functions' contracts. -/
import Derived.Test.YtpkhoemonibajaaDoorQBibPairsProofE
import Derived.Test.YtpkhoemonibajaaDoorRows
import Derived.Test.YtpkhoemonibajaaDoorHlLaid
import Derived.Test.YtpkhoemonibajaaDoorHlArg
import Derived.ProofKit
import Derived.LaidLaws
set_option linter.unusedVariables false
set_option linter.unusedSimpArgs false
set_option linter.unusedVariables false
set_option linter.unusedSimpArgs false
set_option maxRecDepth 20000
namespace Go.Proofs
open Go Go.HL
theorem cellsN_part {cs ys:List Value} {o n j k:Nat} (h:cellsN cs o n=some ys) (hjk:j+k≤n):cellsN cs (o+j) k=cellsN ys j k:=by
  unfold cellsN at h
  split at h
  · rename_i hl
    have:=Option.some.inj h
    subst this
    unfold cellsN
    rw [if_pos (by omega),if_pos (by simp; omega),List.drop_take,List.drop_drop,List.take_take,Nat.min_eq_left (by omega)]
  · cases h
theorem cellN_part {hp:HP} {b o n j k:Nat} {ys:List Value} (h:hp.cellN b o n=some ys) (hjk:j+k≤n):hp.cellN b (o+j) k=cellsN ys j k:=by
  unfold HP.cellN at h ⊢
  split at h
  · exact cellsN_part h hjk
  · exact cellsN_part h hjk
  · cases h
/-- The address of the first of some bindings that are of an inner address. -/
def fstB (a:V6) (M:List Bd):Q:=((M.find? fun b=>decide (b.inn.1=a)).map (·.out.1)).getD zq4
theorem fstB_cons (a:V6) (b:Bd) (M:List Bd):fstB a (b::M)=if b.inn.1=a then b.out.1 else fstB a M:=by
  unfold fstB
  rw [List.find?_cons]
  by_cases h:b.inn.1=a
  · rw [decide_eq_true h,if_pos h]; rfl
  · rw [decide_eq_false h,if_neg h]
/-- Is a port free for it? -/
def elig (L:List Bd) (p x:Int) (f:Q) (k:Int):Prop:=find4 p (f,k) L=none∧(decide (p=1)||cls x k)=true
section
variable {tb:Obj} {hp0 hp:HP} {t:Nat} {l:List Q} {low high:Int} {mx last n:Nat} {L:List Bd} {K:Value→HP→Prop}
/-- The table, and the least port that was found down to k. -/
def LS (tb:Obj) (hp0 hp:HP) (t:Nat) (l:List Q) (low high:Int) (mx last n:Nat) (L:List Bd) (p x:Int) (f:Q) (s:Option Addr) (k:Int):Prop:=
  ∃ ps:Nat→HP,Parts hp ps∧ps 0=hp0.set 0 .none∧BdW tb (ps 1) t l low high mx last n L ∧
    ((s=none∧∀ j,k<j→j≤high→¬ elig L p x f j)∨∃ b n0,s=some ⟨b,0,none⟩∧ps 2 b=.cells 34 (t4 (f,n0)) 0∧k<n0∧n0≤high∧elig L p x f n0∧∀ j,k<j→j<n0→¬ elig L p x f j)
theorem LS.w {p x:Int} {f:Q} {s:Option Addr} {k:Int} (h:LS tb hp0 hp t l low high mx last n L p x f s k):BdW tb hp t l low high mx last n L:=by
  obtain ⟨ps,P,h0,h1,_⟩:=h
  exact h1.sub (P.sub 1)
theorem LS.skip {p x:Int} {f:Q} {s:Option Addr} {k:Int} (h:LS tb hp0 hp t l low high mx last n L p x f s k) (hne:¬ elig L p x f k):LS tb hp0 hp t l low high mx last n L p x f s (k-1):=by
  obtain ⟨ps,P,h0,h1,h2⟩:=h
  refine ⟨ps,P,h0,h1,?_⟩
  rcases h2 with ⟨h2,h3⟩ | ⟨b,n0,h2,h3,h4,h5,h6,h7⟩
  · refine .inl ⟨h2,fun j hj hj'=>?_⟩
    by_cases e:j=k
    · rw [e]; exact hne
    · exact h3 j (by omega) hj'
  · refine .inr ⟨b,n0,h2,h3,by omega,h5,h6,fun j hj hj'=>?_⟩
    by_cases e:j=k
    · rw [e]; exact hne
    · exact h7 j (by omega) hj'
theorem LS.new {p x:Int} {f:Q} {s:Option Addr} {k:Int} (h:LS tb hp0 hp t l low high mx last n L p x f s k) (he:elig L p x f k) (hk:k≤high) {b:Nat} (hb:hp b=.none) :
    LS tb hp0 (hp.set b (.cells 34 (t4 (f,k)) 0)) t l low high mx last n L p x f (some ⟨b,0,none⟩) (k-1):=by
  obtain ⟨ps,P,h0,h1,h2⟩:=h
  refine ⟨_,P.new 2 hb _,by rw [pu_ne _ _ (by omega)]; exact h0,by rw [pu_ne _ _ (by omega)]; exact h1,.inr ⟨b,k,rfl,by rw [pu_eq,HP.set_eq],by omega,hk,he,fun j hj hj'=>by omega⟩⟩
set_option maxHeartbeats 2000000 in
/-- Behind the ports: what is added. -/
theorem pairsJ {x4a:Option Addr} {x4n x4c:Nat} {x13:Int} {I3:Int→HP→Prop} {A:A21} {f:Q} {s:Option Addr} (hA:okA21 A) (hn:n<1000000)
    (h:LS tb hp0 hp t l low high mx last n L A.proto A.x f s (low-1)) (hf:f≠zq4→∃ b,(L.find? fun b=>decide (b.inn.1=(inT A.a A.x).1))=some b∧f=b.out.1)
    (hI:∀ hp' last' n' L',BdS tb hp0 hp' t l low high mx last' n' L'→n'≤n+1→L'.length≤L.length+1→I3 (IntKind.wrap .i64 (x13+1)) hp') :
    F14_j6 low high x4a x4n x4c (some ⟨t,0,none⟩) x13 (roomB l low high mx L A.proto (inT A.a A.x)) s (a21 A) (v4 f) hp I3 K:=by
  obtain ⟨oa,ob,op,ox,ot,on⟩:=hA
  have o1:okT6 (inT A.a A.x):=inT_ok oa ox
  obtain ⟨ps,P,h0,h1,h2⟩:=h
  have hinv:=h1.inv
  have fin:∀ hp,(∃ last' n' L',BdS tb hp0 hp t l low high mx last' n' L'∧n'≤n+1∧L'.length≤L.length+1)→F14_j9 low high x4a x4n x4c (some ⟨t,0,none⟩) x13 false hp I3 K:=by
    rintro hp ⟨last',n',L',hB,g1,g2⟩
    unfold F14_j9
    rw [ite2_false]
    unfold F14_j4
    exact hI hp _ _ _ hB g1 g2
  have no:∀ (y:Bd) (e:Int) (hp:HP),e≠0→BdS tb hp0 hp t l low high mx last n L→F14_j8 low high x4a x4n x4c (some ⟨t,0,none⟩) x13 e false (a21 A) (bdc y) hp I3 K:=by
    intro y e hp he hB
    unfold F14_j8
    rw [ite2_false,show (e==0)=false by simp [he],ite2_false]
    exact fin hp ⟨_,_,_,hB,by omega,by omega⟩
  have seven:∀ (hp:HP) (K':Prop),(roomB l low high mx L A.proto (inT A.a A.x)≠0→∀ hp',BdS tb hp0 hp' t l low high mx last n L→True)→True:=fun _ _ _=>trivial
  clear seven
  have bad7:∀ hp',roomB l low high mx L A.proto (inT A.a A.x)≠0→BdS tb hp0 hp' t l low high mx last n L→F14_j7 low high x4a x4n x4c (some ⟨t,0,none⟩) x13 (roomB l low high mx L A.proto (inT A.a A.x)) s (roomB l low high mx L A.proto (inT A.a A.x)) (a21 A) (v4 f) (bdc bd0) hp' I3 K:=by
    intro hp' he hB
    unfold F14_j7
    rw [show (roomB l low high mx L A.proto (inT A.a A.x) != roomB l low high mx L A.proto (inT A.a A.x))=false by simp,ite2_false,show (roomB l low high mx L A.proto (inT A.a A.x)==0)=false by simp [he],ite2_false]
    exact no bd0 _ hp' he hB
  have good7:∀ (u:Q × Int) (r hp':HP),roomB l low high mx L A.proto (inT A.a A.x)=0→tkB l low high L A.proto (inT A.a A.x)=some u→BdW tb r t l low high mx (last+1) (n+1) (L++[⟨((last+1:Nat):Int),A.proto,inT A.a A.x,u,false,0⟩])→Parts hp' (pu ps 1 r) →
      F14_j7 low high x4a x4n x4c (some ⟨t,0,none⟩) x13 (roomB l low high mx L A.proto (inT A.a A.x)) s 0 (a21 A) (v4 f) (bdc ⟨((last+1:Nat):Int),A.proto,inT A.a A.x,u,false,0⟩) hp' I3 K:=by
    intro u r hp' he hu hr P'
    have hk:0≤kindB A.proto:=(hr.inv.ok _ (List.mem_append.2 (.inr (List.mem_singleton.2 rfl)))).1
    have hB:BdS tb hp0 hp' t l low high mx (last+1) (n+1) (L++[⟨((last+1:Nat):Int),A.proto,inT A.a A.x,u,false,0⟩]):=BdS.pu P' h0 hr
    have eight:F14_j8 low high x4a x4n x4c (some ⟨t,0,none⟩) x13 0 false (a21 A) (bdc ⟨((last+1:Nat):Int),A.proto,inT A.a A.x,u,false,0⟩) hp' I3 K:=by
      unfold F14_j8
      rw [ite2_false,show ((0:Int)==0)=true from rfl,ite2_true,bdc_st,ldV_some,boolV_bool]
      show ite2 false _ _
      rw [ite2_false,bdc_ses,ldV_some,intV_int]
      show ite2 false _ _
      rw [ite2_false,a21_3,ldV_some,intV_int]
      by_cases hp1:A.proto=1
      · rw [show (A.proto != 1)=false by simp [hp1],ite2_false]
        exact fin hp' ⟨_,_,_,hB,by omega,by simp⟩
      · rw [show (A.proto != 1)=true by simp [hp1],ite2_true,a21_4,ldV_some,intV_int]
        rw [show (bdc (⟨((last+1:Nat):Int),A.proto,inT A.a A.x,u,false,0⟩:Bd))[23]?=some (.int .i64 u.2) from rfl,ldV_some,intV_int]
        refine C64 ?_
        have hc:cls A.x u.2=true:=take_class hu hp1
        rw [boolV_bool,hc]
        exact fin hp' ⟨_,_,_,hB,by omega,by simp⟩
    unfold F14_j7
    rw [he,show ((0:Int) != 0)=false from rfl,ite2_false,show ((0:Int)==0)=true from rfl,ite2_true,v4_cells,ldL_some]
    show eqAgg Tryd.prog 27 (v4 f) (v4 zq4) _
    refine eq73 ?_
    by_cases hz:f=zq4
    · rw [decide_eq_true hz]
      show ite2 false _ _
      rw [ite2_false]
      exact eight
    rw [decide_eq_false hz]
    show ite2 true _ _
    rw [ite2_true]
    rcases h2 with ⟨rfl,_⟩ | ⟨b,n0,rfl,hb,k1,k2,k3,k4⟩
    · show ite2 false _ _
      rw [ite2_false]
      exact eight
    · show ite2 true _ _
      rw [ite2_true,bdc_out,ldL_some,ptrN_some]
      have hb':hp' b=.cells 34 (t4 (f,n0)) 0:=(P'.at 2 (by rw [pu_ne _ _ (by omega)])).cells hb
      rw [HP.cellN_of hb',t4_all,ldL_some]
      refine eq34 ?_
      obtain ⟨z,hz1,hz2⟩:=hf hz
      have hu2:u=(f,n0):=by
        rw [hz2]
        refine pairs_law hinv hk hu hz1 (n0:=n0) ⟨by omega,k2,?_,k3.2,fun j hj hj' hel=>?_⟩
        · rw [← hz2]; exact k3.1
        · exact k4 j (by omega) hj' ⟨by rw [hz2]; exact hel.1,hel.2⟩
      rw [decide_eq_true hu2]
      exact eight
  have add:∀ {K':Value→HP→Prop},(∀ hp',roomB l low high mx L A.proto (inT A.a A.x)≠0→BdS tb hp0 hp' t l low high mx last n L→K' (.tuple ⟨[.agg ⟨bdc bd0⟩,.int .i64 (roomB l low high mx L A.proto (inT A.a A.x))]⟩) hp') →
      (∀ (u:Q × Int) (r hp':HP),roomB l low high mx L A.proto (inT A.a A.x)=0→tkB l low high L A.proto (inT A.a A.x)=some u→BdW tb r t l low high mx (last+1) (n+1) (L++[⟨((last+1:Nat):Int),A.proto,inT A.a A.x,u,false,0⟩])→Parts hp' (pu ps 1 r) →
        K' (.tuple ⟨[.agg ⟨bdc ⟨((last+1:Nat):Int),A.proto,inT A.a A.x,u,false,0⟩⟩,.int .i64 0]⟩) hp') →
      CF Tryd.prog 18 [ptr t 0,.int .i64 A.proto,.agg ⟨t6 (inT A.a A.x)⟩] hp K':=fun f1 f2=>
    N18 P 1 h1 op o1 hn (fun e r hp' hr P'=>f1 hp' e (BdS.pu P' h0 hr)) fun e u hu r hp' hr P'=>f2 u r hp' e hu hr P'
  have d1:∀ {K:Value→HP→Prop},K (.agg ⟨t6 (inT A.a A.x)⟩) hp→CF Tryd.prog 19 [.int .u8 A.a,.int .i64 A.x] hp K:=fun h=>C19 h
  unfold F14_j6
  clear h2 no fin hI hf
  repeat' apply And.intro
  all_goals
    repeat (first
      | (rw [a21_3,ldV_some,intV_int])
      | (rw [a21_1,ldV_some,intV_int])
      | (rw [a21_4,ldV_some,intV_int])
      | (refine d1 ?_; rw [aggV_agg]))
    refine add (fun hp' he hB=>?_) fun u r hp' he hu hr P'=>?_
    · rw [tup2V_mk,aggV_agg,intV_int,if_pos (bdc_len _),if_pos (bdc_one _),if_pos (by simp [bdc_len]),bd_spl rfl]
      exact bad7 hp' he hB
    · rw [tup2V_mk,aggV_agg,intV_int,if_pos (bdc_len _),if_pos (bdc_one _),if_pos (by simp [bdc_len]),bd_spl rfl]
      exact good7 u r hp' he hu hr P'
set_option maxHeartbeats 4000000 in
theorem C14 {x0a x4a:Option Addr} {x0n x0c x4n x4c:Nat} {l:List Q} {low high mx:Int} {acts:List A21} (ht:TabR tb hp0) (hs:Shows hp0 x0a x0n 4 (l.flatMap v4)) (hl:l.length=x0n) (hnc:x0n≤x0c) (hq:∀ q∈l,okQ q) (h1:okZ low) (h2:okZ high) (hm:okZ mx)
    (hs4:Shows hp0 x4a x4n 7 (acts.flatMap a21)) (hl4:acts.length=x4n) (hok:∀ y∈acts,okA21 y)
    (hK:K (.bool true) hp0):CF Tryd.prog 14 [.slice x0a x0n x0c,.int .i64 low,.int .i64 high,.int .i64 mx,.slice x4a x4n x4c] hp0 K:=by
  refine CF.drop (F14_ok x0a x0n x0c low high mx x4a x4n x4c hp0 _ ?_)
  unfold F14
  have wk:∀ hp',HSub hp0 hp'→TabR tb hp'→CF Tryd.prog 27 [] hp' fun u h=>boolV u fun q=>∃ hp'',HSub hp'' h∧K (.bool q) hp'':=by
    intro hp' hs ht'
    refine C27 ht' fun hp2 h2=>?_
    rw [boolV_bool]
    exact ⟨hp0,hs.trans h2,hK⟩
  refine C28 h1 h2 fun g hg=>?_
  rw [boolV_bool]
  cases g with
  | true=>rw [ite2_true]; exact wk hp0 (HSub.refl _) ht
  | false=>
  obtain ⟨hg1,hg2,hg3⟩:=hg rfl
  rw [ite2_false]
  refine S17 ht hs hl hnc h1 h2 hq (fun _=>?_) fun hnb t hp1 hB=>?_
  · rw [tup2V_mk,ptrV_pointer,intV_int,show ((1:Int) != 0)=true from rfl,ite2_true]
    show ite2 true _ _
    rw [ite2_true]
    exact wk hp0 (HSub.refl _) ht
  rw [tup2V_mk,pq,intV_int,show ((0:Int) != 0)=false from rfl,ite2_false]
  unfold F14_j2
  refine LoopP.by (J:=fun k (z:Int) hp'=>∃ (i last n:Nat) (L:List Bd),z=i∧i+k=x4n∧BdS tb hp0 hp' t l low high mx.toNat last n L∧n≤i∧L.length≤i) ?_ (n:=x4n) ⟨0,0,0,[],rfl,by omega,hB,Nat.le_refl _,Nat.le_refl _⟩
  clear hB
  rintro I k z hp ⟨i,last,n,L,rfl,hik,hB,hni,hLi⟩ hI
  unfold F14_l3
  by_cases hi:i<x4n
  rotate_left
  · rw [decide_eq_false (by omega:¬ (i:Int)<(x4n:Int)),ite2_false]
    unfold F14_j1
    exact wk hp (hB.fin ht) hB.w.tab
  rw [decide_eq_true (by omega:(i:Int)<(x4n:Int)),ite2_true]
  obtain ⟨b,o,rfl,hc⟩:=(hs4.sub (hB.fin ht)).get a21_len hl4 hi
  have hact:=hok _ (List.getElem_mem (hl4▸hi))
  generalize acts[i]'(hl4▸hi)=A at hc hact
  have w1:IntKind.wrap .i64 ((i:Int)+1)=((i+1:Nat):Int):=wi (by omega) (by omega)
  have hnext:∀ hp' last' n' L',BdS tb hp0 hp' t l low high mx.toNat last' n' L'→n'≤n+1→L'.length≤L.length+1→I (IntKind.wrap .i64 ((i:Int)+1)) hp':=by
    intro hp' last' n' L' hB' g1 g2
    rw [w1]
    exact hI (k-1) _ _ (by omega) ⟨i+1,last',n',L',rfl,by omega,hB',by omega,by omega⟩
  refine ⟨by omega,by omega,?_⟩
  rw [ptrN_some,Int.toNat_natCast,hc,ldL_some,if_pos (a21_len A),if_pos (a21_one A),if_pos (by simp [a21_len]),a21_spl rfl,a21_0,ldV_some,intV_int]
  by_cases hw:A.what=0
  rotate_left
  · rw [show (A.what != 0)=true by simp [hw],ite2_true,a21_cells,ldL_some]
    refine C60 hB (by omega) (by omega) hact fun hp' last' n' L' hB' g1 g2=>?_
    unfold F14_j4
    exact hnext hp' last' n' L' hB' g1 g2
  rw [show (A.what != 0)=false by simp [hw],ite2_false]
  refine ifI rfl (ifI rfl (ifI (Nat.le_refl 4) ?_))
  refine S61 hB (by omega) fun hp2 am cm hB2 hrow=>?_
  rw [slcV_slice]
  show F14_j14 low high _ _ _ _ _ _ _ _ _ (a21 A) (v4 zq4) _ _ _
  have obt:=hact
  obtain ⟨oa,ob,op,ox,ot,on⟩:=hact
  unfold F14_j14
  refine LoopP.by (J:=fun k (st:Int × List Value) hp'=>∃ j:Nat,st=((j:Int)-1,v4 (fstB (inT A.a A.x).1 (L.drop j)))∧k=j∧j≤L.length∧hp'=hp2) ?_ (n:=L.length) ⟨L.length,?_,rfl,Nat.le_refl _,rfl⟩
  rotate_left
  · rw [w64 (by omega) (by omega),List.drop_length]; rfl
  rintro I2 k2 st hp' ⟨j,rfl,hkj,hj,rfl⟩ hI2
  simp only
  unfold F14_l15
  by_cases hj0:j=0
  rotate_left
  · rw [decide_eq_true (by omega),ite2_true]
    obtain ⟨bm,om,rfl,hcn,hcc⟩:=row_bd hrow (show j-1<L.length by omega)
    have hj1:((j:Int)-1)=((j-1:Nat):Int):=by omega
    rw [hj1]
    have rd:hp'.cellN bm (om+(j-1)*26+2+0) 16=some (v6 L[j-1].inn.1):=(cellN_part hcn (j:=2) (k:=16) (by omega)).trans rfl
    have rd2:hp'.cellN bm (om+(j-1)*26+19+0) 4=some (v4 L[j-1].out.1):=(cellN_part hcn (j:=19) (k:=4) (by omega)).trans rfl
    have hdrop:L.drop (j-1)=L[j-1]::L.drop j:=by
      rw [List.drop_eq_getElem_cons (show j-1<L.length by omega)]
      congr 2; omega
    have w2:IntKind.wrap .i64 (((j-1:Nat):Int)-1)=((j-1:Nat):Int)-1:=w64 (by omega) (by omega)
    have main:F14_j17 low high (some ⟨b,o,none⟩) x4n x4c (some ⟨t,0,none⟩) i (some ⟨bm,om,none⟩) L.length cm ((j-1:Nat):Int) (decide (L[j-1].inn.1=(inT A.a 0).1)) (a21 A) (v4 (fstB (inT A.a A.x).1 (L.drop j))) hp' I I2 fun v hp'=>∃ hp'',HSub hp'' hp'∧K v hp'':=by
      have hin:(inT A.a 0).1=(inT A.a A.x).1:=rfl
      rw [hin]
      unfold F14_j17
      by_cases he:L[j-1].inn.1=(inT A.a A.x).1
      · rw [decide_eq_true he,ite2_true]
        refine ⟨by omega,by omega,?_⟩
        rw [ptrN_some,Int.toNat_natCast,rd2,ldL_some,if_pos (v4_len _),if_pos (v4_one _),if_pos (by simp [v4_len]),v4_spl (v4_len _)]
        unfold F14_j16
        rw [w2]
        refine hI2 (j-1) _ _ (by omega) ⟨j-1,?_,rfl,by omega,rfl⟩
        rw [hdrop,fstB_cons,if_pos he]
      · rw [decide_eq_false he,ite2_false]
        unfold F14_j16
        rw [w2]
        refine hI2 (j-1) _ _ (by omega) ⟨j-1,?_,rfl,by omega,rfl⟩
        rw [hdrop,fstB_cons,if_neg he]
    refine ⟨⟨by omega,by omega,?_⟩,by omega,by omega,?_⟩
    · rw [ptrN_some,Int.toNat_natCast,rd,ldL_some,a21_1,ldV_some,intV_int]
      refine C19 ?_
      rw [aggV_agg,t6_addr,ldL_some]
      exact eq30 main
    · rw [ptrN_some,a21_1,ldV_some,intV_int]
      refine C19 ?_
      rw [aggV_agg,Int.toNat_natCast,rd,ldL_some,t6_addr,ldL_some]
      exact eq30 main
  subst hj0
  rw [decide_eq_false (by omega),ite2_false,List.drop_zero]
  clear hI2
  have hf:fstB (inT A.a A.x).1 L≠zq4→∃ b,(L.find? fun b=>decide (b.inn.1=(inT A.a A.x).1))=some b∧fstB (inT A.a A.x).1 L=b.out.1:=by
    unfold fstB
    cases L.find? fun b=>decide (b.inn.1=(inT A.a A.x).1) with
    | none=>intro hne; exact absurd rfl hne
    | some b=>intro _; exact ⟨b,rfl,rfl⟩
  have hfok:okQ (fstB (inT A.a A.x).1 L):=by
    by_cases hz:fstB (inT A.a A.x).1 L=zq4
    · rw [hz]; exact ⟨okBc rfl,okBc rfl,okBc rfl,okBc rfl⟩
    · obtain ⟨z,hz1,hz2⟩:=hf hz
      obtain ⟨hzm,_⟩:=find_mem hz1
      rw [hz2]
      exact hB2.w.inv.okl _ (hB2.w.inv.pool z hzm).1
  generalize fstB (inT A.a A.x).1 L=f at hf hfok
  unfold F14_j5
  rw [a21_3,ldV_some,intV_int,a21_1,ldV_some,intV_int,a21_4,ldV_some,intV_int]
  refine C19 ?_
  rw [aggV_agg]
  refine S62 hB2 op (inT_ok oa ox) fun hp3 hB3=>?_
  rw [intV_int]
  refine S61 hB3 (by omega) fun hp4 am2 cm2 hB4 hrow2=>?_
  rw [slcV_slice,show (((L.length:Nat):Int) != ((L.length:Nat):Int))=false by simp,ite2_false]
  unfold F14_j10
  have hports:=hB4.w.inv.ports
  have hls:LS tb hp0 hp4 t l low high mx.toNat last n L A.proto A.x f none high:=by
    obtain ⟨ps,P,g0,g1,_⟩:=hB4
    exact ⟨ps,P,g0,g1,.inl ⟨rfl,fun j hj hj'=>by omega⟩⟩
  refine LoopP.by (J:=fun k (st:Option Addr × Int) hp'=>LS tb hp0 hp' t l low high mx.toNat last n L A.proto A.x f st.1 st.2∧low-1≤st.2∧st.2≤high∧k=(st.2+1-low).toNat) ?_ (n:=(high+1-low).toNat) ⟨hls,?_,Int.le_refl _,rfl⟩
  rotate_left
  · have:=hnb.1
    simp only [newOk,Bool.and_eq_true,decide_eq_true_eq] at this
    simp only
    omega
  clear hls
  rintro I2 k2 ⟨s,z⟩ hp5 ⟨hls,hz1,hz2,rfl⟩ hI2
  simp only at hls hz1 hz2
  unfold F14_l11
  by_cases hz:z≥low
  rotate_left
  · rw [decide_eq_false hz,ite2_false]
    have ez:z=low-1:=by omega
    subst ez
    exact pairsJ obt (by omega) hls hf hnext
  rw [decide_eq_true hz,ite2_true,a21_3,ldV_some,intV_int,v4_cells,ldL_some,if_pos (v4_len _)]
  have e5:∀ z:Int,List.set (splice [(Value.int .u8 0),(Value.int .u8 0),(Value.int .u8 0),(Value.int .u8 0),(Value.int .i64 0)] 0 (v4 f)) 4 (.int .i64 z)=t4 (f,z):=fun _=>rfl
  rw [e5]
  refine W63 hls.w op ⟨hfok,by unfold okZ; omega⟩ ?_
  unfold toldV
  rw [tup2V_mk,aggV_agg,boolV_bool,if_pos (bdc_len _),if_pos (bdc_one _),if_pos (by simp [bdc_len])]
  have w3:IntKind.wrap .i64 (z-1)=z-1:=w64 (by omega) (by omega)
  have skip:¬ elig L A.proto A.x f z→F14_j13 low high (some ⟨b,o,none⟩) x4n x4c (some ⟨t,0,none⟩) i (roomB l low high mx.toNat L A.proto (inT A.a A.x)) s z false (a21 A) (v4 f) hp5 I I2 fun v hp'=>∃ hp'',HSub hp'' hp'∧K v hp'':=by
    intro hne
    unfold F14_j13
    rw [ite2_false]
    unfold F14_j12
    rw [w3]
    exact hI2 (z-1+1-low).toNat _ _ (by omega) ⟨hls.skip hne,by simp only; omega,by simp only; omega,rfl⟩
  have takes:elig L A.proto A.x f z→F14_j13 low high (some ⟨b,o,none⟩) x4n x4c (some ⟨t,0,none⟩) i (roomB l low high mx.toNat L A.proto (inT A.a A.x)) s z true (a21 A) (v4 f) hp5 I I2 fun v hp'=>∃ hp'',HSub hp'' hp'∧K v hp'':=by
    intro he
    unfold F14_j13
    rw [ite2_true,v4_cells,ldL_some,if_pos (v4_len _)]
    refine fun (b2:Nat) (hb2:hp5 b2=Ent.none)=>?_
    rw [e5]
    unfold F14_j12
    rw [w3]
    exact hI2 (z-1+1-low).toNat _ _ (by omega) ⟨hls.new he hz2 hb2,by simp only; omega,by simp only; omega,rfl⟩
  cases hfd:find4 A.proto (f,z) L with
  | some y=>
    show ite2 false _ _
    rw [ite2_false]
    exact skip fun he=>by rw [he.1] at hfd; cases hfd
  | none=>
    show ite2 true _ _
    rw [ite2_true,ldV_some,intV_int]
    by_cases hp1:A.proto=1
    · rw [show (A.proto==1)=true by simp [hp1],ite2_true]
      exact takes ⟨hfd,by rw [decide_eq_true hp1]; rfl⟩
    · rw [show (A.proto==1)=false by simp [hp1],ite2_false,a21_4,ldV_some,intV_int]
      refine C64 ?_
      rw [boolV_bool]
      cases hcl:cls A.x z with
      | true=>exact takes ⟨hfd,by rw [hcl,Bool.or_true]⟩
      | false=>exact skip fun he=>absurd he.2 (by rw [hcl,decide_eq_false hp1]; decide)
end
end Go.Proofs
namespace Go.Proofs.YtpkhoemonibajaaDoor
open Go Go.HL Go.Proofs
def theLaid : List (String × DataW Unit) := [("math/bits.deBruijn32tab", Rows.laid_math_bits_deBruijn32tab), ("math/bits.deBruijn64tab", Rows.laid_math_bits_deBruijn64tab), ("internal/strconv.uint64pow10", Rows.laid_internal_strconv_uint64pow10)]
theorem tabOf {W:World} (h:laidMetH Tryd.prog theLaid W):∃ o,hpAll W 0=.obj o∧TabO o:=by
  have h':laidMet Tryd.prog theLaid W:=h
  obtain ⟨ps,hv,_⟩:=h'
  obtain ⟨q1,h1⟩:=laidVars_tail hv
  obtain ⟨q2,h2⟩:=laidVars_tail h1
  have ht : Lib.TabIs Tryd.prog W "internal/strconv.uint64pow10" .u64 Lib.pow10Tab :=
    tabIs_of_vars (rest:=[]) (g:=0) (t:=267) (e:=233) (n:=20) (by kernel_rfl) (by kernel_rfl) (by kernel_rfl) (by kernel_rfl) (by kernel_rfl) (by kernel_rfl) h2
  obtain ⟨o,ho,hO⟩:=tabO_of ht
  exact ⟨o,by unfold hpAll; rw [ho],hO⟩
/-- What a table's cells are. -/
def cellsLaid:DataW Unit→Array Value
  | .agg ps=>(ps.map fun d=>match d with | .lit (.int k n)=>Value.int k n | _=>.int .i64 0).toArray
  | _=>#[]
def layAt (b:Nat) (d:DataW Unit) (h:Array Obj):Array Obj:=h.modify b fun | .cells _ t fz=>.cells (cellsLaid d) t fz | o=>o
noncomputable def laidWorld (os:Os) (I:Input):World:=
  { World.holding Tryd.prog os I with heap:=layAt 0 Rows.laid_internal_strconv_uint64pow10 (layAt 1 Rows.laid_math_bits_deBruijn32tab (layAt 2 Rows.laid_math_bits_deBruijn64tab (World.holding Tryd.prog os I).heap)) }
end Go.Proofs.YtpkhoemonibajaaDoor
