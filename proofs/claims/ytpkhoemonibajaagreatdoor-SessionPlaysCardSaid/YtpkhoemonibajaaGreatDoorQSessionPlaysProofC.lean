/- Parts of the proof of SessionPlaysProof: the logic of what is known of memory, functions' contracts. -/
import Derived.Test.YtpkhoemonibajaaGreatDoorQSessionPlaysProofB
import Derived.Sort.LotD3
import Derived.Test.YtpkhoemonibajaaGreatDoorHlCW
import Derived.Test.YtpkhoemonibajaaGreatDoorProg
import Derived.Test.YtpkhoemonibajaaGreatDoorHlArg
import Derived.DataShut
import Derived.Test.YtpkhoemonibajaaGreatDoorHlDec
import Derived.Test.YtpkhoemonibajaaGreatDoorRows
import Derived.Test.YtpkhoemonibajaaGreatDoorHlLaid
import Derived.ProofKit
import Derived.LaidLaws
set_option linter.unusedVariables false
set_option linter.unusedSimpArgs false
set_option linter.unusedVariables false
set_option maxRecDepth 20000
namespace Go.Proofs
open Go Go.HL
section
variable {f:FuncId} {ga gb:List Value} {hp0:HP} {b sp n c:Nat} {cf:Ss→Ss→Int}
theorem S144 (hc:CmpOk Tryz.prog f ga gb hp0 b 58 sp ssc n cf) {d:Array Ss} {lo hi:Nat} {K:Value→HP→Prop} (hs:d.size=n) (hlo:lo≤hi) (hhi:hi≤n) (hn:n≤1000000000)
    (h:K (.tuple ⟨[]⟩) (HA hp0 b 58 sp ssc (Sort.insertionSort (ltC cf) d lo hi))) :
    CF Tryz.prog 144 [.slice (some ⟨b,0,none⟩) n c,.int .i64 lo,.int .i64 hi,.func (.func f) ⟨ga⟩ ⟨gb⟩] (HA hp0 b 58 sp ssc d) K:=by
  refine F144_ok _ n c lo hi _ _ K ?_
  unfold F144 F144_j1
  rw [w64 (by omega) (by omega)]
  refine LoopP.by (J:=fun k (x:Int) hp=>∃ (i:Nat) (d':Array Ss),x=i∧hp=HA hp0 b 58 sp ssc d'∧d'.size=n∧lo<i∧k=hi-i∧Sort.insOuter (ltC cf) lo hi i d'=Sort.insertionSort (ltC cf) d lo hi) ?_
    (n:=hi-(lo+1)) ⟨lo+1,d,by omega,rfl,hs,by omega,rfl,rfl⟩
  rintro I k x hp ⟨i,d',rfl,rfl,hs',hli,rfl,he⟩ hI
  unfold F144_l2
  rw [Sort.insOuter] at he
  by_cases hi':i<hi
  · rw [decide_eq_true (by omega:(i:Int)<(hi:Int)),ite2_true]
    rw [if_pos hi'] at he
    unfold F144_j4
    refine LoopP.by (J:=fun k (y:Int) hp=>∃ (j:Nat) (d2:Array Ss),y=j∧hp=HA hp0 b 58 sp ssc d2∧d2.size=n∧j<n∧k=j∧Sort.insInner (ltC cf) lo j d2=Sort.insInner (ltC cf) lo i d') ?_
      (n:=i) ⟨i,d',rfl,rfl,hs',by omega,rfl,rfl⟩
    rintro I2 k2 y hp2 ⟨j,d2,rfl,rfl,hs2,hj,hk2,he2⟩ hI2
    unfold F144_l5
    have out:Sort.insInner (ltC cf) lo i d'=d2→F144_j6 (some ⟨b,0,none⟩) n c lo hi (.func (.func f) ⟨ga⟩ ⟨gb⟩) i j false (HA hp0 b 58 sp ssc d2) I I2 K:=by
      intro heq
      unfold F144_j6 F144_j3
      rw [ite2_false,w64 (by omega) (by omega)]
      exact hI (hi-(i+1)) _ _ (by omega) ⟨i+1,d2,by omega,rfl,hs2,by omega,rfl,by rw [← heq]; exact he⟩
    by_cases hjl:lo<j
    · rw [decide_eq_true (by omega:(j:Int) > (lo:Int)),ite2_true]
      obtain ⟨j',rfl⟩:∃ j',j=j'+1:=⟨j-1,by omega⟩
      have w1:IntKind.wrap .i64 (((j'+1:Nat):Int)-1)=(j':Int):=by rw [w64 (by omega) (by omega)]; omega
      have g1:=HA.get (hp0:=hp0) (b:=b) (e:=58) (sp:=sp) ssc_len (d:=d2) (i:=j'+1) (by omega)
      have g0:=HA.get (hp0:=hp0) (b:=b) (e:=58) (sp:=sp) ssc_len (d:=d2) (i:=j') (by omega)
      simp only [w1,ptrN_some,Int.toNat_natCast,g1,g0,ldL_some,fnV_mk]
      refine ⟨by omega,by omega,by omega,by omega,?_⟩
      refine hc d2 _ _ _ hs2 ?_
      rw [intV_int]
      rw [Sort.insInner] at he2
      have hgt:decide (j'+1 > lo)=true:=decide_eq_true (by omega)
      cases hlt:decide (cf d2[j'+1]! d2[j']!<0)
      · have:ltC cf d2[j'+1]! d2[j']! = false:=hlt
        rw [hgt,this] at he2
        exact out (by simpa using he2.symm)
      · have:ltC cf d2[j'+1]! d2[j']! = true:=hlt
        rw [hgt,this] at he2
        simp only [Bool.and_self,if_true] at he2
        unfold F144_j6
        simp only [ite2_true,w1,ptrN_some,Int.toNat_natCast,g0,g1,ldL_some]
        refine ⟨by omega,by omega,by omega,by omega,by omega,by omega,rfl,?_⟩
        refine HA.st ssc_len ssc_one (by omega) _ ?_
        refine ⟨by omega,by omega,rfl,?_⟩
        refine HA.st ssc_len ssc_one (by rw [Array.size_setIfInBounds]; omega) _ ?_
        exact hI2 j' _ _ (by omega) ⟨j',_,rfl,rfl,by rw [Array.size_setIfInBounds,Array.size_setIfInBounds]; exact hs2,by omega,rfl,he2⟩
    · rw [decide_eq_false (by omega:¬ (j:Int) > (lo:Int)),ite2_false]
      refine out ?_
      cases j with
      | zero=>rw [Sort.insInner] at he2; exact he2.symm
      | succ j=>
        rw [Sort.insInner] at he2
        have hgt:decide (j+1 > lo)=false:=decide_eq_false (by omega)
        rw [hgt] at he2
        simpa using he2.symm
  · rw [decide_eq_false (by omega:¬ (i:Int)<(hi:Int)),ite2_false]
    rw [if_neg hi'] at he
    rw [he]
    exact h
end
end Go.Proofs
set_option linter.unusedVariables false
set_option maxRecDepth 20000
namespace Go.Proofs
open Go Go.HL
section
variable {f:FuncId} {ga gb:List Value} {hp0:HP} {b sp n c:Nat} {cf:Ss→Ss→Int}
theorem S127 (hx:CmpX Tryz.prog f ga gb hp0 b 58 sp ssc n cf) (hS:Sort.SWO (ltC cf)) (hn:n≤65535):∀ (m:Nat) {d:Array Ss} {lo hi limit:Nat} {K:Value→HP→Prop},d.size=n→lo≤hi→hi≤n→limit≤64→hi-lo≤m→Sort.Below (ltC cf) lo hi d →
    (∀ d',Sort.PermIn lo hi d d'→Sort.SortedIn (ltC cf) lo hi d'→K (.tuple ⟨[]⟩) (HA hp0 b 58 sp ssc d')) →
    CF Tryz.prog 127 [.slice (some ⟨b,0,none⟩) n c,.int .i64 lo,.int .i64 hi,.int .i64 limit,.func (.func f) ⟨ga⟩ ⟨gb⟩] (HA hp0 b 58 sp ssc d) K:=by
  intro m
  induction m using Nat.strongRecOn with
  | ind m ih=>
  intro d lo hi limit K hs hlo hhi hl hm hB h
  have hc:=hx.ok
  refine F127_ok _ n c lo hi limit _ _ K ?_
  unfold F127 F127_j1
  refine LoopP.by (J:=fun k (s:Int × Int × Int × Bool × Bool) hp=>∃ (a e lim:Nat) (wb wp:Bool) (d':Array Ss),s=((a:Int),(e:Int),(lim:Int),wb,wp)∧hp=HA hp0 b 58 sp ssc d'∧d'.size=n∧a≤e∧e≤n∧lim≤64∧e-a≤hi-lo∧k=e-a∧Sort.Below (ltC cf) a e d' ∧
      (∀ R,Sort.PermIn a e d' R→Sort.SortedIn (ltC cf) a e R→K (.tuple ⟨[]⟩) (HA hp0 b 58 sp ssc R))) ?_
    (n:=hi-lo) ⟨lo,hi,limit,true,true,d,rfl,rfl,hs,hlo,hhi,hl,Nat.le_refl _,rfl,hB,h⟩
  clear hs hlo hhi hl hB h
  rintro I k x hp ⟨a,e,lim,wb,wp,d,rfl,rfl,hs,hae,hen,hl,hle,rfl,hB,h⟩ hI
  unfold F127_l2
  simp only []
  have w1:IntKind.wrap .i64 ((e:Int)-(a:Int))=((e-a:Nat):Int):=wi (by omega) (by omega)
  rw [w1]
  by_cases h12:e-a≤12
  · rw [decide_eq_true (by omega:((e-a:Nat):Int)≤12),ite2_true]
    refine S144 hc hs hae hen (by omega) ?_
    have hi:=Sort.insertionSort_holds hS d a e hae (by omega)
    exact h _ hi.1 hi.2
  rw [decide_eq_false (by omega:¬ ((e-a:Nat):Int)≤12),ite2_false]
  by_cases h0:lim=0
  · subst h0
    have hb:(((0:Nat):Int)==0)=true:=rfl
    rw [hb,ite2_true]
    refine S145 hc hs hae hen (by omega) ?_
    have hi:=Sort.heapSort_holds hS d a e hae (by omega)
    exact h _ hi.1 hi.2
  have hb:((lim:Int)==0)=false:=by rw [beq_eq_false_iff_ne]; omega
  rw [hb,ite2_false]
  have last:∀ (lim':Nat) (d3:Array Ss) (p:Nat) (wb wp:Bool),lim'≤64→Sort.PermIn a e d d3→a≤p→p<e →
      F127_j5 (some ⟨b,0,none⟩) n c a e lim' (.func (.func f) ⟨ga⟩ ⟨gb⟩) wb wp ((e-a:Nat):Int) p (HA hp0 b 58 sp ssc d3) I K:=by
    intro lim' d3 p wb wp hl' hp3 hpa hpe
    have hs3:d3.size=n:=by rw [hp3.1]; exact hs
    have B3:Sort.Below (ltC cf) a e d3:=hB.perm (by omega) hp3
    have two:F127_j6 (some ⟨b,0,none⟩) n c a e lim' (.func (.func f) ⟨ga⟩ ⟨gb⟩) wb wp ((e-a:Nat):Int) p false (HA hp0 b 58 sp ssc d3) I K:=by
      unfold F127_j6
      rw [ite2_false]
      refine S151 hc hs3 (by omega) hen (by omega) (by omega) ?_
      rcases hR:Sort.partition (ltC cf) d3 a e p with ⟨mid,ap,d4⟩
      obtain ⟨q1,q2,q3,q4,q5,q6,q7⟩:=Sort.round_part hS (Sort.partition_holds _) hpa hpe (by omega) B3 hR
      simp only [tup2V_mk,intV_int,boolV_bool]
      refine ⟨by omega,?_⟩
      have v1:IntKind.wrap .i64 ((mid:Int)-(a:Int))=((mid-a:Nat):Int):=wi (by omega) (by omega)
      have v2:IntKind.wrap .i64 ((e:Int)-(mid:Int))=((e-mid:Nat):Int):=wi (by omega) (by omega)
      have v3:IntKind.wrap .i64 ((mid:Int)+1)=((mid+1:Nat):Int):=wi (by omega) (by omega)
      rw [v1,v2,v3]
      by_cases hlt:mid-a<e-mid
      · rw [decide_eq_true (by omega:((mid-a:Nat):Int)<((e-mid:Nat):Int)),ite2_true]
        refine ih (mid-a) (by omega) (by omega) q1 (by omega) hl' (Nat.le_refl _) q4 ?_
        intro L hL hsL
        obtain ⟨z1,z2⟩:=q6 L hL hsL
        exact hI (e-(mid+1)) _ _ (by omega) ⟨mid+1,e,lim',_,ap,L,rfl,rfl,by rw [hL.1]; omega,by omega,hen,hl',by omega,rfl,z1,fun R hR hsR=>h R (Sort.permIn_trans _ _ _ _ _ hp3 (z2 R hR hsR).1) (z2 R hR hsR).2⟩
      · rw [decide_eq_false (by omega:¬ ((mid-a:Nat):Int)<((e-mid:Nat):Int)),ite2_false]
        refine ih (e-(mid+1)) (by omega) (by omega) (by omega) hen hl' (Nat.le_refl _) q5 ?_
        intro L hL hsL
        obtain ⟨z1,z2⟩:=q7 L hL hsL
        exact hI (mid-a) _ _ (by omega) ⟨a,mid,lim',_,ap,L,rfl,rfl,by rw [hL.1]; omega,q1,by omega,hl',by omega,rfl,z1,fun R hR hsR=>h R (Sort.permIn_trans _ _ _ _ _ hp3 (z2 R hR hsR).1) (z2 R hR hsR).2⟩
    unfold F127_j5
    by_cases ha:a > 0
    · rw [decide_eq_true (by omega:(a:Int) > 0),ite2_true]
      have v1:IntKind.wrap .i64 ((a:Int)-1)=((a-1:Nat):Int):=wi (by omega) (by omega)
      rw [v1]
      refine cmpP hc ssc_len hs3 (i:=a-1) (j:=p) rfl rfl (by omega) (by omega) ?_
      have hlq:decide (cf d3[a-1]! d3[p]!<0)=ltC cf d3[a-1]! d3[p]! := rfl
      rw [hlq]
      cases hlt:ltC cf d3[a-1]! d3[p]!
      · unfold F127_j6
        simp only [Bool.not_false,ite2_true]
        refine S150 hc hs3 (by omega) hen (by omega) (by omega) ?_
        rcases hR:Sort.partitionEqual (ltC cf) d3 a e p with ⟨mid,d4⟩
        obtain ⟨q1,q2,q3,q4,q5⟩:=Sort.round_eq hS (Sort.partitionEqual_holds _) ha hpa hpe (by omega) B3 hlt hR
        rw [intV_int]
        exact hI (e-mid) _ _ (by omega) ⟨mid,e,lim',wb,wp,d4,rfl,rfl,by omega,q2,hen,hl',by omega,rfl,q4,fun R hR hsR=>h R (Sort.permIn_trans _ _ _ _ _ hp3 (q5 R hR hsR).1) (q5 R hR hsR).2⟩
      · simp only [Bool.not_true]
        exact two
    · rw [decide_eq_false (by omega:¬ (a:Int) > 0),ite2_false]
      exact two
  have part:∀ (lim':Nat) (d2:Array Ss) (p:Nat) (w:Int),lim'≤64→Sort.PermIn a e d d2→a≤p→p<e →
      F127_j4 (some ⟨b,0,none⟩) n c a e lim' (.func (.func f) ⟨ga⟩ ⟨gb⟩) wb wp ((e-a:Nat):Int) p w (HA hp0 b 58 sp ssc d2) I K:=by
    intro lim' d2 p w hl' hp2 hpa hpe
    have hs2:d2.size=n:=by rw [hp2.1]; exact hs
    have B2:Sort.Below (ltC cf) a e d2:=hB.perm (by omega) hp2
    have seven:∀ q:Bool,F127_j7 (some ⟨b,0,none⟩) n c a e lim' (.func (.func f) ⟨ga⟩ ⟨gb⟩) wb wp ((e-a:Nat):Int) p q (HA hp0 b 58 sp ssc d2) I K:=by
      intro q
      unfold F127_j7
      cases q
      · rw [ite2_false]; exact last lim' d2 p wb wp hl' hp2 hpa hpe
      · rw [ite2_true]
        refine S149 hc hs2 (by omega) hen (by omega) ?_
        obtain ⟨r1,r2⟩:=Sort.partialInsertionSort_holds hS d2 a e (by omega) (by omega) B2
        rw [boolV_bool]
        cases hq:(Sort.partialInsertionSort (ltC cf) d2 a e).2
        · rw [ite2_false]
          exact last lim' _ p wb wp hl' (Sort.permIn_trans _ _ _ _ _ hp2 r1) hpa hpe
        · rw [ite2_true]
          exact h _ (Sort.permIn_trans _ _ _ _ _ hp2 r1) (r2 hq)
    unfold F127_j4
    cases wb
    · rw [ite2_false]; exact seven _
    · rw [ite2_true]
      cases wp
      · rw [ite2_false]; exact seven _
      · rw [ite2_true]; exact seven _
  have piv:∀ (lim':Nat) (d1:Array Ss),lim'≤64→Sort.PermIn a e d d1→F127_j3 (some ⟨b,0,none⟩) n c a e lim' (.func (.func f) ⟨ga⟩ ⟨gb⟩) wb wp ((e-a:Nat):Int) (HA hp0 b 58 sp ssc d1) I K:=by
    intro lim' d1 hl' hp1
    have hs1:d1.size=n:=by rw [hp1.1]; exact hs
    unfold F127_j3
    refine S147 hx hs1 (by omega) hen hn fun p w hpa hpe=>?_
    simp only [tup2V_mk,intV_int]
    cases (w==2)
    · rw [ite2_false]; exact part lim' d1 p w hl' hp1 hpa hpe
    · rw [ite2_true]
      refine S148 hs1 (by omega) hen (by omega) ?_
      have v1:IntKind.wrap .i64 ((e:Int)-1)=((e-1:Nat):Int):=wi (by omega) (by omega)
      have v2:IntKind.wrap .i64 ((p:Int)-(a:Int))=((p-a:Nat):Int):=wi (by omega) (by omega)
      have v3:IntKind.wrap .i64 (((e-1:Nat):Int)-((p-a:Nat):Int))=((e-1-(p-a):Nat):Int):=wi (by omega) (by omega)
      rw [v1,v2,v3]
      exact part lim' _ _ 1 hl' (Sort.permIn_trans _ _ _ _ _ hp1 (Sort.reverseRange_holds d1 a e hae (by omega))) (by omega) (by omega)
  cases wb
  · simp only [Bool.not_false,ite2_true]
    refine S146 hs hae hen hn fun d1 hp1=>?_
    have v1:IntKind.wrap .i64 ((lim:Int)-1)=((lim-1:Nat):Int):=wi (by omega) (by omega)
    rw [v1]
    exact piv (lim-1) d1 (by omega) hp1
  · simp only [Bool.not_true,ite2_false]
    exact piv lim d hl (Sort.permIn_refl d a e)
end
/-- SortFunc of a row: the same things, in their order. -/
theorem S80 {f:FuncId} {ga gb:List Value} {cf:Ss→Ss→Int} (hS:Sort.SWO (ltC cf)) {hp:HP} {s:Option Addr} {n c:Nat} {ts:List Ss} (hr:Row hp s n c 58 9 (ts.flatMap ssc)) (hl:ts.length=n) (hn:n≤65535)
    (hx:∀ b,s=some ⟨b,0,none⟩→CmpX Tryz.prog f ga gb hp b 58 ((c-n)*9) ssc n cf) {K:Value→HP→Prop}
    (h:∀ (ts':List Ss) (hp':HP),ts'.Perm ts→ts'.Pairwise (fun x y=>ltC cf y x=false)→Row hp' s n c 58 9 (ts'.flatMap ssc)→(hp'=hp∨∃ b e,s=some ⟨b,0,none⟩∧hp'=hp.set b e)→K (.tuple ⟨[]⟩) hp') :
    CF Tryz.prog 80 [.slice s n c,.func (.func f) ⟨ga⟩ ⟨gb⟩] hp K:=by
  refine F80_ok s n c _ hp K ?_
  unfold F80
  rw [wu64 (by omega) (by omega)]
  refine C128 hn fun L hL _ _=>?_
  rw [intV_int]
  have z0:(Value.int .i64 0)=Value.int .i64 ((0:Nat):Int):=rfl
  rcases hr with ⟨rfl,rfl,rfl,hnil⟩ | ⟨b,rfl,hnc,hxl,hb⟩
  · have ht:ts=[]:=List.eq_nil_of_length_eq_zero hl
    subst ht
    rw [z0]
    refine F127_ok none 0 0 ((0:Nat):Int) ((0:Nat):Int) L _ hp _ ?_
    unfold F127 F127_j1
    refine LoopP.by (J:=fun k (s:Int × Int × Int × Bool × Bool) hp'=>s.1=0∧s.2.1=0∧hp'=hp) ?_ (n:=0) ⟨rfl,rfl,rfl⟩
    rintro I k ⟨a,e,lim,wb,wp⟩ hp' ⟨h1,h2,rfl⟩ hI
    simp only at h1 h2
    subst h1 h2
    unfold F127_l2
    simp only []
    have w0:IntKind.wrap .i64 ((0:Int)-0)=0:=by rw [w64 (by omega) (by omega)]; omega
    rw [w0,decide_eq_true (by omega:(0:Int)≤12),ite2_true]
    refine F144_ok none 0 0 0 0 _ hp' _ ?_
    unfold F144 F144_j1
    have w1:IntKind.wrap .i64 ((0:Int)+1)=1:=by rw [w64 (by omega) (by omega)]; omega
    rw [w1]
    refine LoopP.by (J:=fun k (x:Int) hp2=>x=1∧hp2=hp') ?_ (n:=0) ⟨rfl,rfl⟩
    rintro I2 k2 x hp2 ⟨rfl,rfl⟩ hI2
    unfold F144_l2
    rw [decide_eq_false (by omega:¬ (1:Int)<0),ite2_false]
    exact h [] _ (List.Perm.refl _) List.Pairwise.nil (.inl ⟨rfl,rfl,rfl,rfl⟩) (.inl rfl)
  · have hha:HA hp b 58 ((c-n)*9) ssc ts.toArray=hp:=HP.set_self _ _ _ hb
    rw [z0]
    have key:=S127 (c:=c) (hx b rfl) hS hn n (d:=ts.toArray) (lo:=0) (hi:=n) (limit:=L) (K:=fun u_4 h_5=>K (.tuple ⟨[]⟩) h_5) (by simpa using hl) (Nat.zero_le _) (Nat.le_refl _) (by omega) (by omega) (.inl rfl) ?_
    · rw [hha] at key; exact key
    intro d' hpm hst
    have hsz:d'.size=n:=by rw [hpm.1]; simpa using hl
    have hpl:d'.toList.Perm ts:=by
      have h3:=hpm.2.2
      have e1:d'.extract 0 n=d':=by rw [← hsz]; simp
      have e2:ts.toArray.extract 0 n=ts.toArray:=by rw [← hl]; simp
      rw [e1,e2] at h3
      exact h3
    refine h d'.toList _ hpl ?_ (.inr ⟨b,rfl,hnc,by rw [flat_len ssc_len]; simp [hsz],by unfold HA; rw [HP.set_eq]⟩) (.inr ⟨b,_,rfl,rfl⟩)
    rw [List.pairwise_iff_getElem]
    intro i j hi hj hij
    have:=hst i j (Nat.zero_le _) hij (by simpa [hsz] using hj)
    rw [getElem!_pos d' j (by simpa using hj),getElem!_pos d' i (by simpa using hi)] at this
    simpa using this
end Go.Proofs
set_option linter.unusedVariables false
set_option maxRecDepth 20000
namespace Go.Proofs
open Go Go.HL
def F20 (x0:OA) (x1:Int) (x2:List Value) (hp:HP) (K:Kh):Prop:=
  (∀ b_1:Nat,hp b_1=.none→(CF Tryz.prog 27 [(Value.pointer x0),(Value.int .i64 x1)] (HP.set hp b_1 (.cells 54 x2 0)) fun u_2 h_3=>(slcV u_2 fun a_4 n_5 c_6=>(CF Tryz.prog 71 [(Value.slice a_4 n_5 c_6),(Value.func (.func 72) ⟨[]⟩ ⟨[(Value.pointer (some ⟨b_1,0,none⟩))]⟩)] h_3 fun u_7 h_8=>(boolV u_7 fun q_9=>(K (Value.bool q_9) h_8))))))
theorem F20_ok (x0:OA) (x1:Int) (x2:List Value) (hp:HP) (K:Kh) (h:F20 x0 x1 x2 hp K):CF Tryz.prog 20 [(Value.pointer x0),(Value.int .i64 x1),(Value.agg ⟨x2⟩)] hp K:=
  have L:∀ {Q} n,Snd Tryz.prog 12 (cAt Tryz.f20 (pth n)) Q (CW Tryz.prog 12 [] [] (cAt Tryz.f20 (pth n)) Q):=fun _=>Snd.leaf
  okF h Tryz.func20 (L 1) (by kernel_rfl) (by kernel_rfl) (by kernel_rfl)
def F71 (x0a:OA) (x0n x0c:Nat) (x1:Value) (hp:HP) (K:Kh):Prop:=
  (CF Tryz.prog 123 [(Value.slice x0a x0n x0c),x1] hp fun u_1 h_2=>(intV u_1 .i64 fun i_3=>(K (Value.bool (decide ((i_3:Int)≥0))) h_2)))
theorem F71_ok (x0a:OA) (x0n x0c:Nat) (x1:Value) (hp:HP) (K:Kh) (h:F71 x0a x0n x0c x1 hp K):CF Tryz.prog 71 [(Value.slice x0a x0n x0c),x1] hp K:=
  have L:∀ {Q} n,Snd Tryz.prog 9 (cAt Tryz.f71 (pth n)) Q (CW Tryz.prog 9 [] [] (cAt Tryz.f71 (pth n)) Q):=fun _=>Snd.leaf
  okF h Tryz.func71 (L 1) (by kernel_rfl) (by kernel_rfl) (by kernel_rfl)
def F72 (x0:List Value) (x1:OA) (hp:HP) (K:Kh):Prop:=
  (ldL (cellsN x0 2 4) fun l_1=>(ptrN x1 fun b_2 o_3=>(ldL (HP.cellN hp b_2 o_3 4) fun l_4=>(eqAgg Tryz.prog 54 l_1 l_4 fun q_5=>(K (Value.bool q_5) hp)))))
theorem F72_ok (x0:List Value) (x1:OA) (hp:HP) (K:Kh) (h:F72 x0 x1 hp K):CF Tryz.prog 72 [(Value.agg ⟨x0⟩),(Value.pointer x1)] hp K:=
  have L:∀ {Q} n,Snd Tryz.prog 9 (cAt Tryz.f72 (pth n)) Q (CW Tryz.prog 9 [2,4,5] [] (cAt Tryz.f72 (pth n)) Q):=fun _=>Snd.leaf
  okF h Tryz.func72 (L 1) (by kernel_rfl) (by kernel_rfl) (by kernel_rfl)
def F123_l2 (x0a:OA) (x0n x0c:Nat) (x1:Value) (x7:Int) (K:Kh) (I2:(Int)→HP→Prop) (x8:Int) (hp:HP):Prop:=
  (ite2 (decide ((x8:Int)<x7)) ((0≤(x8:Int))∧((x8:Int)<(x0n:Nat))∧(ptrN x0a fun b_1 o_2=>(ldL (HP.cellN hp b_1 (o_2+Int.toNat x8*9) 9) fun l_3=>(fnV x1 fun f_4 ga_5 gb_6=>(CF Tryz.prog f_4 (ga_5++[(Value.agg ⟨l_3⟩)]++gb_6) hp fun u_7 h_8=>(boolV u_7 fun q_9=>(ite2 q_9 (K (Value.int .i64 x8) h_8) (I2 (IntKind.wrap .i64 (x8+1)) h_8)))))))) (K (Value.int .i64 (-1)) hp))
def F123_j1 (x0a:OA) (x0n x0c:Nat) (x1:Value) (x7 x8:Int) (hp:HP) (K:Kh):Prop:=
  (LoopP (σ:=Int) (fun I s hp=>F123_l2 x0a x0n x0c x1 x7  K I s hp) x8 hp)
def F123 (x0a:OA) (x0n x0c:Nat) (x1:Value) (hp:HP) (K:Kh):Prop:=
  (F123_j1 x0a x0n x0c x1 (x0n:Nat) 0 hp  K)
theorem F123_ok (x0a:OA) (x0n x0c:Nat) (x1:Value) (hp:HP) (K:Kh) (h:F123 x0a x0n x0c x1 hp K):CF Tryz.prog 123 [(Value.slice x0a x0n x0c),x1] hp K:=
  have L:∀ {Q} n,Snd Tryz.prog 19 (cAt Tryz.f123 (pth n)) Q (CW Tryz.prog 19 [] [] (cAt Tryz.f123 (pth n)) Q):=fun _=>Snd.leaf
  okF h Tryz.func123 (Snd.seq (L 2) (Snd.seq (Snd.jn [(0,.s),(1,.w),(7,.i .i64),(8,.i .i64)] (fun a hp=>F123_j1 a.1 a.2.1 a.2.2.1 a.2.2.2.1 a.2.2.2.2.1 a.2.2.2.2.2.1 hp  K) (L 9) (Snd.block 0 (Snd.lp (σ:=Int) [(0,.s),(1,.w),(7,.i .i64),(8,.i .i64)] (fun a=>a.2.2.2.2.2.1) (fun a s=>(a.1,a.2.1,a.2.2.1,a.2.2.2.1,a.2.2.2.2.1,s,())) (fun a I s hp=>F123_l2 a.1 a.2.1 a.2.2.1 a.2.2.2.1 a.2.2.2.2.1  K I s hp) (fun I2=>(L 37)) (by rfl) (by kernel_rfl) (by kernel_rfl))) (by rfl) (by kernel_rfl)) (L 7))) (by kernel_rfl) (by kernel_rfl) (by kernel_rfl)
def F19 (x0 x1:Int) (hp:HP) (K:Kh):Prop:=
  (if List.length [(Value.int .u8 9),(Value.int .u8 0),(Value.int .u8 0),(Value.int .u8 x0)]=4 then (if List.length (List.set (splice [(Value.int .u8 0),(Value.int .u8 0),(Value.int .u8 0),(Value.int .u8 0),(Value.int .i64 0)] 0 [(Value.int .u8 9),(Value.int .u8 0),(Value.int .u8 0),(Value.int .u8 x0)]) 4 (Value.int .i64 x1))=5 then (if List.all (List.set (splice [(Value.int .u8 0),(Value.int .u8 0),(Value.int .u8 0),(Value.int .u8 0),(Value.int .i64 0)] 0 [(Value.int .u8 9),(Value.int .u8 0),(Value.int .u8 0),(Value.int .u8 x0)]) 4 (Value.int .i64 x1)) one=true then (if 0+List.length (List.set (splice [(Value.int .u8 0),(Value.int .u8 0),(Value.int .u8 0),(Value.int .u8 0),(Value.int .i64 0)] 0 [(Value.int .u8 9),(Value.int .u8 0),(Value.int .u8 0),(Value.int .u8 x0)]) 4 (Value.int .i64 x1))≤List.length [(Value.int .u8 0),(Value.int .u8 0),(Value.int .u8 0),(Value.int .u8 0),(Value.int .i64 0)] then (ldL (cellsN (splice [(Value.int .u8 0),(Value.int .u8 0),(Value.int .u8 0),(Value.int .u8 0),(Value.int .i64 0)] 0 (List.set (splice [(Value.int .u8 0),(Value.int .u8 0),(Value.int .u8 0),(Value.int .u8 0),(Value.int .i64 0)] 0 [(Value.int .u8 9),(Value.int .u8 0),(Value.int .u8 0),(Value.int .u8 x0)]) 4 (Value.int .i64 x1))) 0 5) fun l_1=>(K (.agg ⟨l_1⟩) hp)) else False) else False) else False) else False)
theorem F19_ok (x0 x1:Int) (hp:HP) (K:Kh) (h:F19 x0 x1 hp K):CF Tryz.prog 19 [(Value.int .u8 x0),(Value.int .i64 x1)] hp K:=
  have L:∀ {Q} n,Snd Tryz.prog 9 (cAt Tryz.f19 (pth n)) Q (CW Tryz.prog 9 [4] [] (cAt Tryz.f19 (pth n)) Q):=fun _=>Snd.leaf
  okF h Tryz.func19 (L 1) (by kernel_rfl) (by kernel_rfl) (by kernel_rfl)
end Go.Proofs
set_option linter.unusedVariables false
set_option linter.unusedSimpArgs false
set_option maxRecDepth 20000
namespace Go.Proofs
open Go Go.HL
open Go.Exp (Th tlt Ord setW dropW insW)
theorem C81 {x y:Ss} {hp:HP} {K:Value→HP→Prop} (h:K (.int .i64 (cmpI x.id y.id)) hp):CF Tryz.prog 81 [.agg ⟨ssc x⟩,.agg ⟨ssc y⟩] hp K:=by
  refine F81_ok (ssc x) (ssc y) hp K ?_
  unfold F81
  rw [ssc_id,ldV_some,intV_int,ssc_id,ldV_some,intV_int]
  refine C82 ?_
  rw [intV_int]
  exact h
section
variable {tb:Obj} {hq:HP} {s mx last:Nat} {L:List Ss} {E:List (Ss × Nat)} {ps:Nat→HP} {m x q f:Nat} {O:List (Int × Nat)} {w:List Th} {K:Value→HP→Prop}
set_option maxHeartbeats 2000000 in
/-- The sessions of numbers, by their numbers. -/
theorem W39 {a:Option Addr} {n c:Nat} {ss:List Int} {M:List Ss} (h:SeW tb hq s mx last L w) (hs:Shows hq a n 1 (ss.map iw)) (hn:ss.length=n) (hsm:n≤65535) (hML:∀ y∈M,y∈L) (hM:ss.Perm (M.map (·.id))) (hasc:(M.map (·.id)).Pairwise (· < ·))
    (hK:∀ ps hp' a c,Parts hp' ps→ps 0=hq→Row (ps 1) a M.length c 58 9 (M.flatMap ssc)→K (.slice a M.length c) hp'):CF Tryz.prog 39 [ptr s 0,.slice a n c] hq K:=by
  refine F39_ok _ a n c hq K ?_
  unfold F39 F39_j2
  have hinv:=h.inv
  have hlook:∀ i∈ss,∃ y∈M,y.id=i∧findN i L=some y:=fun i hi=>by
    have:=hM.mem_iff.1 hi
    obtain ⟨y,hy,e⟩:=List.mem_map.1 this
    exact ⟨y,hy,e,by rw [← e]; exact findN_of hinv (hML y hy)⟩
  have hnM:M.length=n:=by
    have:=hM.length_eq
    rw [List.length_map] at this
    omega
  refine LoopP.by (J:=fun k (st:Option Addr × Nat × Nat × Int) hp=>∃ (ps:Nat→HP) (i:Nat),Parts hp ps∧ps 0=hq∧Row (ps 1) st.1 st.2.1 st.2.2.1 58 9 (((ss.take i).map fun i=>(findN i L).getD ss0).flatMap ssc)∧st.2.1=i∧st.2.2.2=i∧i+k=n) ?_
    (n:=n) ⟨pu (fun _ _=>.none) 0 hq,0,Parts.one (HSub.refl hq),pu_eq ..,.inl ⟨rfl,rfl,rfl,by simp⟩,rfl,rfl,by omega⟩
  rintro I k ⟨a1,n1,c1,z⟩ hp ⟨ps,i,hP,h0,hrow,hn1,hz,hik⟩ hI
  simp only at hrow hn1 hz
  subst hn1
  subst hz
  unfold F39_l3
  by_cases hi:n1<n
  · rw [decide_eq_true (by omega:((n1:Nat):Int)<(n:Nat)),ite2_true]
    have hiss:n1<ss.length:=by omega
    obtain ⟨b,o,rfl,hc⟩:=((hs.sub (hP.at 0 h0)):Shows hp a n 1 (ss.map iw)) |> fun hh=>(show ∃ b o,a=some ⟨b,o,none⟩∧hp.cell b (o+n1*1)=some (iw ss[n1]) by
      rcases hh with ⟨e1,e2⟩ | ⟨b,o,e,hcn⟩
      · omega
      · refine ⟨b,o,e,HP.cell_cellN hcn ?_⟩
        rw [Nat.mul_one,List.getElem?_map,List.getElem?_eq_getElem hiss]; rfl)
    obtain ⟨y,hyM,hyid,hfy⟩:=hlook ss[n1] (List.getElem_mem hiss)
    refine ⟨by show (0:Int)≤(n1:Int); omega,by show (n1:Int)<(n:Nat); omega,?_⟩
    rw [ptrN_some,Int.toNat_natCast,hc,ldV_some]
    show intV (.int .i64 ss[n1]) .i64 _
    rw [intV_int]
    obtain ⟨E,qs,m,x,q,f,O,eL,hS⟩:=h.sub (hP.at 0 h0)
    subst eL
    obtain ⟨_,_,_,r2,_⟩:=hS.rd
    obtain ⟨e,he,rfl,_,hfe⟩:=findEs_some hfy
    simp only [ptrN_some,Nat.zero_add,r2,ldV_some,mapV_map]
    refine rdS_lookup (l:=E.map fun e=>(e.1.id,e.2)) u154 enc3 zw158 hS.mapq ss[n1] (ev:=fun k:Nat=>ptr k 0) (cm:=false) ?_
    rw [hS.get,hfe]
    show ptrV (ptr e.2 0) _
    rw [pq,ptrN_some,HP.cellN_of ((hS.parts.sub 0).cells (hS.main.blk e he)),ssc_cells,ldL_some]
    refine ifI (ssc_len e.1) ?_
    refine fun (b3:Nat) (hb3:hp b3=Ent.none)=>?_
    rw [ss_spl rfl]
    have P2:Parts (hp.set b3 (.cells 58 (ssc e.1) 0)) ps:=hP.weak (HSub.set_fresh _ _ hb3)
    refine opS_appP (e:=58) (size:=9) (bytes:=48) (by kernel_rfl) P2 1 (s:=a1) (n:=n1) (c:=c1) hrow
      (ys:=ssc e.1) (.inr ⟨b3,0,rfl,by rw [HP.cellN_of (HP.set_eq ..)]; exact cellsN_all rfl⟩) (ssc_one e.1) (by simp [ssc]) (by omega) (by omega) ?_
    intro a2 c2 hp2 r hr P3
    have w1:IntKind.wrap .i64 ((n1:Int)+1)=((n1+1:Nat):Int):=wi (by omega) (by omega)
    rw [slcV_slice,w1]
    refine hI (k-1) _ _ (by omega) ⟨_,n1+1,P3,by rw [pu_ne _ _ (by omega)]; exact h0,?_,rfl,rfl,by omega⟩
    rw [pu_eq]
    show Row r a2 (n1+1) c2 58 9 _
    rw [List.take_succ_eq_append_getElem hiss,List.map_append,List.flatMap_append]
    have:[ss[n1]].map (fun i=>(findN i (E.map (·.1))).getD ss0)=[e.1]:=by
      rw [List.map_cons,List.map_nil,hfy]; rfl
    rw [this]
    simpa using hr
  · rw [decide_eq_false (by omega:¬ ((n1:Nat):Int)<(n:Nat)),ite2_false]
    have hin:n1=n:=by omega
    subst hin
    rw [List.take_of_length_le (by omega)] at hrow
    unfold F39_j1
    have hpm:(ss.map fun i=>(findN i L).getD ss0).Perm M:=by
      have h1:=hM.map (fun i=>(findN i L).getD ss0)
      rw [List.map_map] at h1
      have:M.map ((fun i=>(findN i L).getD ss0) ∘ fun y:Ss=>y.id)=M:=by
        conv=>rhs; rw [← List.map_id M]
        refine List.map_congr_left fun y hy=>?_
        show (findN y.id L).getD ss0=y
        rw [findN_of hinv (hML y hy)]; rfl
      rw [this] at h1
      exact h1
    rw [← hnM] at hrow ⊢
    refine S80 (swo_cmpI Ss.id) (hrow.sub (hP.sub 1)) (by rw [hpm.length_eq]) (by omega) ?_ ?_
    · intro b hb hp3 h3 d x y K' hsz hk
      exact C81 hk
    · intro ts' hp' hp1' hpw hrow' hh'
      have e:=order_eq (f:=Ss.id) hpw hasc (hp1'.trans hpm)
      subst e
      rcases hh' with rfl | ⟨b,e',hb,rfl⟩
      · refine hK ps hp' a1 c1 hP h0 ?_
        rcases hrow with ⟨r1,r2,r3,r4⟩ | ⟨b,r1,r2,r3,r4⟩
        · rcases hrow' with h | ⟨b,r1',_⟩
          · exact .inl h
          · rw [r1] at r1'; cases r1'
        · rcases hrow' with ⟨r1',_⟩ | ⟨b',r1',r2',r3',r4'⟩
          · rw [r1] at r1'; cases r1'
          · rw [r1] at r1'; cases r1'
            refine .inr ⟨b,r1,r2',r3',?_⟩
            rw [← (hP.sub 1).some rfl (by rw [r4]; simp)]; exact r4'
      · have hne:ps 1 b≠.none:=by
          rcases hrow with ⟨r1,_⟩ | ⟨b0,r1,_,_,r4⟩
          · rw [r1] at hb; cases hb
          · rw [r1] at hb; cases hb
            rw [r4]; simp
        refine hK _ _ a1 c1 (hP.put 1 hne e') (by rw [pu_ne _ _ (by omega)]; exact h0) ?_
        rw [pu_eq]
        rcases hrow' with ⟨r1',_⟩ | ⟨b',r1',r2',r3',r4'⟩
        · rw [hb] at r1'; cases r1'
        · rw [hb] at r1'; cases r1'
          rw [HP.set_eq] at r4'
          exact .inr ⟨b,hb,r2',r3',by rw [HP.set_eq]; exact r4'⟩
/-- A binding's sessions. -/
def ofE (b:Int) (L:List Ss):List Ss:=L.filter fun y=>decide (y.bnd=b)
theorem inn_of (b:Int) (L:List Ss):innB (L.map bi) b=(ofE b L).map fun y=>(y.id,true):=by
  unfold innB ofE
  rw [List.filter_map,List.map_map]; rfl
/-- What stands behind a call that hands out sessions. -/
abbrev Gives (hq:HP) (M:List Ss) (K:Value→HP→Prop):Prop:=∀ ps hp' a c,Parts hp' ps→HSub hq (ps 0)→Row (ps 1) a M.length c 58 9 (M.flatMap ssc)→K (.slice a M.length c) hp'
/-- Behind Collect: the list. -/
theorem listC {hp:HP} {ss:List Int} {M:List Ss} (h:SeW tb hq s mx last L w) (hs:HSub hq hp) (hsm:L.length≤65535) (hML:M.Sublist L) (hM:ss.Perm (M.map (·.id)))
    (hK:Gives hq M K):Coll hp ss fun u h_13=>slcV u fun a_14 n_15 c_16=>CF Tryz.prog 39 [ptr s 0,.slice a_14 n_15 c_16] h_13 fun u_17 h_18=>slcV u_17 fun a_19 n_20 c_21=>K (.slice a_19 n_20 c_21) h_18:=by
  have hinv:=h.inv
  have hasc:(M.map (·.id)).Pairwise (· < ·):=hinv.asc.sublist (hML.map _)
  have hlen:ss.length≤65535:=by
    have h1:=hM.length_eq
    rw [List.length_map] at h1
    have h2:=hML.length_le
    omega
  constructor
  · rintro rfl
    rw [slcV_slice]
    refine W39 (h.sub hs) (.inl ⟨rfl,rfl⟩) rfl (by omega) (fun y hy=>hML.subset hy) hM hasc fun ps hp' a c P h0 hr=>?_
    rw [slcV_slice]
    exact hK ps hp' a c P (by rw [h0]; exact hs) hr
  · intro hne b c hb hc
    have hs2:HSub hq (hp.set b (.cells 3 (ss.map iw) (c-ss.length))):=hs.up (hs.none hb) _
    rw [slcV_slice]
    refine W39 (h.sub hs2) (.inr ⟨b,0,rfl,?_⟩) rfl hlen (fun y hy=>hML.subset hy) hM hasc fun ps hp' a c P h0 hr=>?_
    · rw [HP.cellN_of (HP.set_eq ..)]
      exact cellsN_all (by simp)
    · rw [slcV_slice]
      exact hK ps hp' a c P (by rw [h0]; exact hs2) hr
theorem okZ_id (h:InvE mx last L) {y:Ss} (hy:y∈L):okZ y.id:=by
  have:=h.rng y hy
  have:=h.last
  unfold okZ; omega
theorem W27 (h:SeW tb hq s mx last L w) (hsm:L.length≤65535) {b:Int} (hK:Gives hq (ofE b L) K):CF Tryz.prog 27 [ptr s 0,.int .i64 b] hq K:=by
  have h0:=h
  have hinv:=h.inv
  obtain ⟨E,ps,m,x,q,f,O,rfl,h⟩:=h
  refine F27_ok _ b hq K ?_
  unfold F27
  refine C38p h ?_
  obtain ⟨_,_,_,_,_,_,r5⟩:=h.rd
  simp only [boolV_bool,ite2_false,ptrN_some,Nat.zero_add,r5,ldV_some,mapV_map]
  refine lookV (h.of.map.sub (h.parts.sub 3)) ?_
  rw [mapV_map]
  refine F75_ok _ hq _ ?_
  unfold F75
  refine fun (b1:Nat) (hb1:hq b1=Ent.none)=>?_
  have hs1:HSub hq (hq.set b1 (.cells 139 [.map (getL b O)] 0)):=HSub.set_fresh _ _ hb1
  cases hg:getL b O with
  | none=>
    rw [hg] at hs1
    refine C40n (HP.set_eq ..) ?_
    have hem:ofE b (E.map (·.1))=[]:=by
      unfold ofE
      rw [List.filter_eq_nil_iff]
      intro y hy
      have:=h.of.none hg (bi y) (List.mem_map.2 ⟨y,hy,rfl⟩)
      simpa [bi] using this
    have:=(listC (ss:=[]) h0 hs1 hsm (M:=ofE b (E.map (·.1))) (show (ofE b (E.map (·.1))).Sublist (E.map (·.1)) from List.filter_sublist) (by rw [hem]; exact List.Perm.nil) hK).1 rfl
    exact this
  | some k=>
    rw [hg] at hs1
    obtain ⟨hin,_⟩:=h.of.inner hg
    rw [inn_of] at hin
    have hsub:(ofE b (E.map (·.1))).Sublist (E.map (·.1)):=List.filter_sublist
    refine C40 (l:=(ofE b (E.map (·.1))).map fun y=>(y.id,true)) (HP.set_eq ..) ((hin.sub (h.parts.sub 3)).sub hs1) ?_ ?_ ?_ fun ss hss=>?_
    · rw [List.map_map]; exact hinv.ids.sublist (hsub.map _)
    · intro p hp
      obtain ⟨y,hy,rfl⟩:=List.mem_map.1 hp
      exact okZ_id hinv (hsub.subset hy)
    · rw [List.length_map]; have:=hsub.length_le; omega
    · rw [List.map_map] at hss
      exact listC h0 hs1 hsm hsub hss hK
theorem W9 (h:SeW tb hq s mx last L w) (hsm:L.length≤65535) (hK:Gives hq L K):CF Tryz.prog 9 [ptr s 0] hq K:=by
  have h0:=h
  have hinv:=h.inv
  obtain ⟨E,ps,m,x,q,f,O,rfl,h⟩:=h
  refine F9_ok _ hq K ?_
  unfold F9
  refine C38p h ?_
  obtain ⟨_,_,_,r2,_⟩:=h.rd
  simp only [boolV_bool,ite2_false,ptrN_some,Nat.zero_add,r2,ldV_some,mapV_map]
  refine F41_ok _ hq _ ?_
  unfold F41
  refine fun (b1:Nat) (hb1:hq b1=Ent.none)=>?_
  have hs1:HSub hq (hq.set b1 (.cells 67 [.map (some m)] 0)):=HSub.set_fresh _ _ hb1
  refine C40b (l:=E.map fun e=>(e.1.id,e.2)) (HP.set_eq ..) (h.mapq.sub hs1) ?_ ?_ ?_ fun ss hss=>?_
  · rw [List.map_map]; exact h.ids
  · intro p hp
    obtain ⟨e,he,rfl⟩:=List.mem_map.1 hp
    exact okZ_id hinv (List.mem_map.2 ⟨e,he,rfl⟩)
  · rw [List.length_map]; rw [List.length_map] at hsm; omega
  · rw [List.map_map] at hss
    refine listC h0 hs1 hsm (List.Sublist.refl _) ?_ hK
    rw [List.map_map]; exact hss
theorem N9 {hp:HP} {ps:Nat→HP} {i j:Nat} (hP:Parts hp ps) (hij:j≠i) (hj:∀ b,ps j b=.none) (h:SeW tb (ps i) s mx last L w) (hsm:L.length≤65535)
    (hK:∀ r hp' a c,Row r a L.length c 58 9 (L.flatMap ssc)→Parts hp' (pu ps j r)→K (.slice a L.length c) hp'):CF Tryz.prog 9 [ptr s 0] hp K:=by
  refine CF.part hP i (W9 (K:=fun u q=>∃ qs a c,u=.slice a L.length c∧Parts q qs∧HSub (ps i) (qs 0)∧Row (qs 1) a L.length c 58 9 (L.flatMap ssc)) h hsm
    fun qs hq' a c h1 h2 h3=>⟨qs,a,c,rfl,h1,h2,h3⟩) ?_
  rintro u q hp'' ⟨qs,a,c,rfl,h1,h2,h3⟩ hP'
  refine hK (qs 1) hp'' a c h3 ?_
  have:=hP'.split (i:=i) (j:=j) hij (fun b=>by rw [pu_ne _ _ hij]; exact hj b) (l:=ps i) (r:=qs 1) (by rw [pu_eq]; exact h2.trans (h1.sub 0)) (by rw [pu_eq]; exact h1.sub 1) ((h1.dis 0 1 (by omega)).sub h2)
  have e:pu (pu (pu ps i q) i (ps i)) j (qs 1)=pu ps j (qs 1):=by
    funext k
    by_cases h1:k=j
    · subst h1; rw [pu_eq,pu_eq]
    · rw [pu_ne _ _ h1,pu_ne _ _ h1]
      by_cases h4:k=i
      · subst h4; rw [pu_eq]
      · rw [pu_ne _ _ h4,pu_ne _ _ h4]
  rw [e] at this
  exact this
theorem N27 {hp:HP} {ps:Nat→HP} {i j:Nat} {b:Int} (hP:Parts hp ps) (hij:j≠i) (hj:∀ b,ps j b=.none) (h:SeW tb (ps i) s mx last L w) (hsm:L.length≤65535)
    (hK:∀ r hp' a c,Row r a (ofE b L).length c 58 9 ((ofE b L).flatMap ssc)→Parts hp' (pu ps j r)→K (.slice a (ofE b L).length c) hp'):CF Tryz.prog 27 [ptr s 0,.int .i64 b] hp K:=by
  refine CF.part hP i (W27 (K:=fun u q=>∃ qs a c,u=.slice a (ofE b L).length c∧Parts q qs∧HSub (ps i) (qs 0)∧Row (qs 1) a (ofE b L).length c 58 9 ((ofE b L).flatMap ssc)) h hsm
    fun qs hq' a c h1 h2 h3=>⟨qs,a,c,rfl,h1,h2,h3⟩) ?_
  rintro u q hp'' ⟨qs,a,c,rfl,h1,h2,h3⟩ hP'
  refine hK (qs 1) hp'' a c h3 ?_
  have:=hP'.split (i:=i) (j:=j) hij (fun b=>by rw [pu_ne _ _ hij]; exact hj b) (l:=ps i) (r:=qs 1) (by rw [pu_eq]; exact h2.trans (h1.sub 0)) (by rw [pu_eq]; exact h1.sub 1) ((h1.dis 0 1 (by omega)).sub h2)
  have e:pu (pu (pu ps i q) i (ps i)) j (qs 1)=pu ps j (qs 1):=by
    funext k
    by_cases h1:k=j
    · subst h1; rw [pu_eq,pu_eq]
    · rw [pu_ne _ _ h1,pu_ne _ _ h1]
      by_cases h4:k=i
      · subst h4; rw [pu_eq]
      · rw [pu_ne _ _ h4,pu_ne _ _ h4]
  rw [e] at this
  exact this
/-- Has a binding a session with an address? -/
def knowsE (b:Int) (ad:Q) (L:List Ss):Bool:=(ofE b L).any fun y=>decide (y.peer.1=ad)
theorem C72 {y:Ss} {ad:Q} {B:Nat} {hp:HP} (hB:hp B=.cells 54 (v4 ad) 0) (hK:K (.bool (decide (y.peer.1=ad))) hp):CF Tryz.prog 72 [.agg ⟨ssc y⟩,ptr B 0] hp K:=by
  refine F72_ok (ssc y) _ hp K ?_
  unfold F72
  rw [ssc_addr,ldL_some,ptrN_some,HP.cellN_of hB,v4_cells,ldL_some]
  exact eq73 hK
theorem C71 {a:Option Addr} {n c:Nat} {M:List Ss} {ad:Q} {B:Nat} {hp:HP} (hs:Shows hp a n 9 (M.flatMap ssc)) (hn:M.length=n) (hsm:n≤1000000) (hB:hp B=.cells 54 (v4 ad) 0)
    (hK:K (.bool (M.any fun y=>decide (y.peer.1=ad))) hp):CF Tryz.prog 71 [.slice a n c,.func (.func 72) ⟨[]⟩ ⟨[ptr B 0]⟩] hp K:=by
  refine F71_ok a n c _ hp K ?_
  unfold F71
  refine F123_ok a n c _ hp _ ?_
  unfold F123 F123_j1
  refine LoopP.by (J:=fun k (z:Int) hp'=>hp'=hp∧∃ i:Nat,z=i∧i+k=n∧∀ y∈M.take i,y.peer.1≠ad) ?_ (n:=n) ⟨rfl,0,rfl,by omega,fun y hy=>by simp at hy⟩
  rintro I k z hp' ⟨rfl,i,rfl,hik,hno⟩ hI
  unfold F123_l2
  by_cases hi:i<n
  · rw [decide_eq_true (by omega:(i:Int)<(n:Nat)),ite2_true]
    have him:i<M.length:=by omega
    obtain ⟨b,o,rfl,hc⟩:=hs.get ssc_len hn hi
    refine ⟨by omega,by omega,?_⟩
    rw [ptrN_some,Int.toNat_natCast,hc,ldL_some,fnV_mk]
    refine C72 hB ?_
    rw [boolV_bool]
    by_cases he:M[i].peer.1=ad
    · rw [decide_eq_true he,ite2_true]
      dsimp only
      rw [intV_int]
      have:(M.any fun y=>decide (y.peer.1=ad))=true:=List.any_eq_true.2 ⟨M[i],List.getElem_mem him,decide_eq_true he⟩
      rw [this] at hK
      rw [decide_eq_true (by omega:(i:Int)≥0)]
      exact hK
    · have w1:IntKind.wrap .i64 ((i:Int)+1)=((i+1:Nat):Int):=wi (by omega) (by omega)
      rw [decide_eq_false he,ite2_false,w1]
      refine hI (k-1) _ _ (by omega) ⟨rfl,i+1,rfl,by omega,fun y hy=>?_⟩
      rw [List.take_succ_eq_append_getElem him] at hy
      rcases List.mem_append.1 hy with hy | hy
      · exact hno y hy
      · rw [List.mem_singleton.1 hy]; exact he
  · rw [decide_eq_false (by omega:¬ (i:Int)<(n:Nat)),ite2_false]
    dsimp only
    rw [intV_int]
    rw [List.take_of_length_le (by omega)] at hno
    have:(M.any fun y=>decide (y.peer.1=ad))=false:=by
      rw [List.any_eq_false]
      intro y hy
      simpa using hno y hy
    rw [this] at hK
    exact hK
theorem W20 (h:SeW tb hq s mx last L w) (hsm:L.length≤65535) {b:Int} {ad:Q} (hK:K (.bool (knowsE b ad L)) hq):CF Tryz.prog 20 [ptr s 0,.int .i64 b,.agg ⟨v4 ad⟩] hq K:=by
  refine CF.drop (F20_ok _ b (v4 ad) hq _ ?_)
  unfold F20
  refine fun (b1:Nat) (hb1:hq b1=Ent.none)=>?_
  have hs1:HSub hq (hq.set b1 (.cells 54 (v4 ad) 0)):=HSub.set_fresh _ _ hb1
  refine W27 (h.sub hs1) hsm fun ps hp' a c P hs hr=>?_
  rw [slcV_slice]
  have hB:hp' b1=.cells 54 (v4 ad) 0:=(hs.trans (P.sub 0)).cells (HP.set_eq ..)
  have hlen:(ofE b L).length≤L.length:=List.length_filter_le _ _
  refine C71 (hr.sub (P.sub 1)).shows rfl (by omega) hB ?_
  rw [boolV_bool]
  exact ⟨hq,hs1.trans (hs.trans (P.sub 0)),hK⟩
end
end Go.Proofs
set_option linter.unusedVariables false
set_option maxRecDepth 20000
namespace Go.Proofs
open Go Go.HL
def F5_j1 (x1:OA) (x16:Bool) (hp:HP) (K:Kh):Prop:=
  (ite2 x16 (K (Value.bool false) hp) (CF Tryz.prog 19 [(Value.int .u8 1),(Value.int .i64 80)] hp fun u_7 h_8=>(aggV u_7 fun l_9=>(CF Tryz.prog 18 [(Value.pointer x1),(Value.int .i64 1),(Value.agg ⟨l_9⟩),(Value.int .i64 0),(Value.int .i64 9)] h_8 fun u_10 h_11=>(tup2V u_10 fun u_12 u_13=>(aggV u_12 fun l_14=>(intV u_13 .i64 fun i_15=>(if List.length l_14=9 then (if List.all l_14 one=true then (if 0+List.length l_14≤List.length [(Value.int .i64 0),(Value.int .i64 0),(Value.int .u8 0),(Value.int .u8 0),(Value.int .u8 0),(Value.int .u8 0),(Value.int .i64 0),(Value.int .i64 0),(Value.int .i64 0)] then (CF Tryz.prog 19 [(Value.int .u8 1),(Value.int .i64 80)] h_11 fun u_16 h_17=>(aggV u_16 fun l_18=>(CF Tryz.prog 18 [(Value.pointer x1),(Value.int .i64 1),(Value.agg ⟨l_18⟩),(Value.int .i64 0),(Value.int .i64 9)] h_17 fun u_19 h_20=>(tup2V u_19 fun u_21 u_22=>(aggV u_21 fun l_23=>(intV u_22 .i64 fun i_24=>(if List.length l_23=9 then (if List.all l_23 one=true then (if 0+List.length l_23≤List.length [(Value.int .i64 0),(Value.int .i64 0),(Value.int .u8 0),(Value.int .u8 0),(Value.int .u8 0),(Value.int .u8 0),(Value.int .i64 0),(Value.int .i64 0),(Value.int .i64 0)] then (ite2 ((i_15:Int)==0) (ite2 ((i_24:Int)==5) (ldV ((splice [(Value.int .i64 0),(Value.int .i64 0),(Value.int .u8 0),(Value.int .u8 0),(Value.int .u8 0),(Value.int .u8 0),(Value.int .i64 0),(Value.int .i64 0),(Value.int .i64 0)] 0 l_14))[0]? fun v_25=>(intV v_25 .i64 fun i_26=>(ite2 ((i_26:Int)==1) (CF Tryz.prog 19 [(Value.int .u8 1),(Value.int .i64 0)] h_20 fun u_27 h_28=>(aggV u_27 fun l_29=>(ldL (cellsN l_29 0 4) fun l_31=>(CF Tryz.prog 20 [(Value.pointer x1),(Value.int .i64 1),(Value.agg ⟨l_31⟩)] h_28 fun u_32 h_33=>(boolV u_32 fun q_34=>(ite2 q_34 (CF Tryz.prog 19 [(Value.int .u8 1),(Value.int .i64 0)] h_33 fun u_35 h_36=>(aggV u_35 fun l_37=>(ldL (cellsN l_37 0 4) fun l_39=>(CF Tryz.prog 20 [(Value.pointer x1),(Value.int .i64 2),(Value.agg ⟨l_39⟩)] h_36 fun u_40 h_41=>(boolV u_40 fun q_42=>(ite2 (!q_42) (CF Tryz.prog 21 [(Value.pointer x1),(Value.int .i64 9)] h_41 fun u_43 h_44=>(slcV u_43 fun a_45 n_46 c_47=>(K (Value.bool (((n_46:Nat):Int)==1)) h_44))) (K (Value.bool false) h_41))))))) (K (Value.bool false) h_33))))))) (K (Value.bool false) h_20)))) (K (Value.bool false) h_20)) (K (Value.bool false) h_20)) else False) else False) else False))))))) else False) else False) else False))))))))
def F5 (hp:HP) (K:Kh):Prop:=
  (CF Tryz.prog 6 [(Value.int .i64 3)] hp fun u_1 h_2=>(tup2V u_1 fun u_3 u_4=>(ptrV u_3 fun p_5=>(intV u_4 .i64 fun i_6=>(ite2 ((i_6:Int) != 0) (F5_j1 p_5 true h_2  K) (F5_j1 p_5 (Option.isNone p_5) h_2  K))))))
theorem F5_ok (hp:HP) (K:Kh) (h:F5  hp K):CF Tryz.prog 5 [] hp K:=
  have L:∀ {Q} n,Snd Tryz.prog 59 (cAt Tryz.f5 (pth n)) Q (CW Tryz.prog 59 [3,5,36] [] (cAt Tryz.f5 (pth n)) Q):=fun _=>Snd.leaf
  okF h Tryz.func5 (Snd.seq (L 2) (Snd.seq (L 5) (Snd.seq (Snd.jn [(1,.p),(16,.b)] (fun a hp=>F5_j1 a.1 a.2.1 hp  K) (L 19) (L 27) (by rfl) (by kernel_rfl)) (L 15)))) (by kernel_rfl) (by kernel_rfl) (by kernel_rfl)
end Go.Proofs
set_option linter.unusedVariables false
set_option linter.unusedSimpArgs false
set_option maxRecDepth 20000
namespace Go.Proofs
open Go Go.HL
open Go.Exp (Th tlt Ord setW dropW insW)
/-- A table of sessions beside what was known at first. -/
def SeS (tb:Obj) (hp0 hp:HP) (s mx last:Nat) (L:List Ss) (w:List Th):Prop:=
  ∃ ps:Nat→HP,Parts hp ps∧ps 0=hp0.set 0 .none∧SeW tb (ps 1) s mx last L w∧∀ i,2≤i→∀ b,ps i b=.none
section
variable {tb:Obj} {hp0 hp:HP} {ps:Nat→HP} {s mx last:Nat} {L:List Ss} {w:List Th} {K:Value→HP→Prop}
theorem SeS.of (hP:Parts hp ps) (h0:ps 0=hp0.set 0 .none) (h1:SeW tb (ps 1) s mx last L w):SeS tb hp0 hp s mx last L w:=
  ⟨_,hP.cut 2,by simpa using h0,by simpa using h1,fun i hi b=>by simp only [show ¬ i<2 by omega,if_false]⟩
theorem SeS.pu {r:HP} (hP:Parts hp (pu ps 1 r)) (h0:ps 0=hp0.set 0 .none) (h1:SeW tb r s mx last L w):SeS tb hp0 hp s mx last L w:=
  SeS.of hP (by rw [pu_ne _ _ (by omega)]; exact h0) (by rw [pu_eq]; exact h1)
theorem SeS.wt (h:SeS tb hp0 hp s mx last L w):SeW tb hp s mx last L w:=by
  obtain ⟨ps,P,h0,h1,_⟩:=h
  exact h1.sub (P.sub 1)
theorem SeS.fin (h:SeS tb hp0 hp s mx last L w) (ht:TabR tb hp0):HSub hp0 hp:=by
  have hw:=h.wt
  obtain ⟨ps,P,h0,h1,_⟩:=h
  exact finish ht P h0 hw.tab
theorem X6 {n:Int} (ht:TabR tb hp) (hbad:(n<1∨n > 65536)→K (.tuple ⟨[.pointer none,.int .i64 1]⟩) hp)
    (hok:¬ (n<1∨n > 65536)→∀ s hp',SeS tb hp hp' s n.toNat 0 [] []→K (.tuple ⟨[ptr s 0,.int .i64 0]⟩) hp'):CF Tryz.prog 6 [.int .i64 n] hp K:=by
  by_cases hn:n<1∨n > 65536
  · exact W6 ht (fun _=>hbad hn) fun h=>absurd hn h
  refine CF.part (startP_ok ht) 1 (W6 (K:=fun u q=>∃ s,u=.tuple ⟨[ptr s 0,.int .i64 0]⟩∧SeW tb q s n.toNat 0 [] []) (startP_1 ht) (fun h=>absurd h hn) fun _ s q hq=>⟨s,rfl,hq⟩) ?_
  rintro u q hp' ⟨s,rfl,hq⟩ P'
  exact hok hn s hp' (SeS.pu P' startP_0 hq)
theorem X18 (h:SeS tb hp0 hp s mx last L w) {b st due:Int} {p:Q × Int} (hb:okZ b) (hp':okT p) (hlast:last<500000)
    (hno:addE mx b p due L≠0→∀ hp',SeS tb hp0 hp' s mx last L w→K (.tuple ⟨[.agg ⟨ssc ss0⟩,.int .i64 (addE mx b p due L)]⟩) hp')
    (hyes:addE mx b p due L=0→∀ hp',SeS tb hp0 hp' s mx (last+1) (L++[⟨((last+1:Nat):Int),b,p,st,due⟩]) (setW ((last+1:Nat):Int) due w)→K (.tuple ⟨[.agg ⟨ssc ⟨((last+1:Nat):Int),b,p,st,due⟩⟩,.int .i64 0]⟩) hp') :
    CF Tryz.prog 18 [ptr s 0,.int .i64 b,.agg ⟨t4 p⟩,.int .i64 st,.int .i64 due] hp K:=by
  obtain ⟨ps,P,h0,h1,_⟩:=h
  refine CF.part P 1 (W18 (K:=fun u q=>(addE mx b p due L≠0∧u=.tuple ⟨[.agg ⟨ssc ss0⟩,.int .i64 (addE mx b p due L)]⟩∧SeW tb q s mx last L w) ∨
    (addE mx b p due L=0∧u=.tuple ⟨[.agg ⟨ssc ⟨((last+1:Nat):Int),b,p,st,due⟩⟩,.int .i64 0]⟩∧SeW tb q s mx (last+1) (L++[⟨((last+1:Nat):Int),b,p,st,due⟩]) (setW ((last+1:Nat):Int) due w)))
    h1 hb hp' hlast (fun e=>.inl ⟨e,rfl,h1⟩) fun e q hq=>.inr ⟨e,rfl,hq⟩) ?_
  rintro u q hp'' (⟨e,rfl,hq⟩ | ⟨e,rfl,hq⟩) P'
  · exact hno e hp'' (SeS.pu P' h0 hq)
  · exact hyes e hp'' (SeS.pu P' h0 hq)
/-- Pop beside other things: j becomes the row. -/
theorem N21 {now:Int} {i j:Nat} (hP:Parts hp ps) (hij:j≠i) (hj:∀ b,ps j b=.none) (h:SeW tb (ps i) s mx last L w)
    (hK:∀ l r hp' a c w',SeW tb l s mx last (restL Ss.due now L) w'→Row r a (popsL Ss.id now L w).length c 58 9 ((popsL Ss.id now L w).flatMap ssc)→Parts hp' (pu (pu ps i l) j r)→K (.slice a (popsL Ss.id now L w).length c) hp') :
    CF Tryz.prog 21 [ptr s 0,.int .i64 now] hp K:=by
  refine CF.part hP i (W21 (K:=fun u q=>∃ qs a c w',u=.slice a (popsL Ss.id now L w).length c∧Parts q qs∧SeW tb (qs 0) s mx last (restL Ss.due now L) w'∧Row (qs 1) a (popsL Ss.id now L w).length c 58 9 ((popsL Ss.id now L w).flatMap ssc)) h
    fun qs hq' a c w' h1 h2 h3 _=>⟨qs,a,c,w',rfl,h1,h2,h3⟩) ?_
  rintro u q hp'' ⟨qs,a,c,w',rfl,h1,h2,h3⟩ hP'
  refine hK (qs 0) (qs 1) hp'' a c w' h2 h3 ?_
  have:=hP'.split (i:=i) (j:=j) hij (fun b=>by rw [pu_ne _ _ hij]; exact hj b) (l:=qs 0) (r:=qs 1) (by rw [pu_eq]; exact h1.sub 0) (by rw [pu_eq]; exact h1.sub 1) (h1.dis 0 1 (by omega))
  have e:HL.pu (HL.pu (HL.pu ps i q) i (qs 0)) j (qs 1)=HL.pu (HL.pu ps i (qs 0)) j (qs 1):=by
    funext k
    by_cases h1:k=j
    · subst h1; rw [pu_eq,pu_eq]
    · rw [pu_ne _ _ h1,pu_ne _ _ h1]
      by_cases h2:k=i
      · subst h2; rw [pu_eq,pu_eq]
      · rw [pu_ne _ _ h2,pu_ne _ _ h2,pu_ne _ _ h2]
  rw [e] at this
  exact this
theorem X21 {now:Int} (h:SeS tb hp0 hp s mx last L w)
    (hK:∀ hp' a c w',SeS tb hp0 hp' s mx last (restL Ss.due now L) w'→Row hp' a (popsL Ss.id now L w).length c 58 9 ((popsL Ss.id now L w).flatMap ssc)→K (.slice a (popsL Ss.id now L w).length c) hp') :
    CF Tryz.prog 21 [ptr s 0,.int .i64 now] hp K:=by
  obtain ⟨ps,P,h0,h1,hf⟩:=h
  refine N21 P (i:=1) (j:=2) (by omega) (hf 2 (by omega)) h1 fun l r hp' a c w' hl hr P'=>hK hp' a c w' (SeS.of P' (by rw [pu_ne _ _ (by omega),pu_ne _ _ (by omega)]; exact h0) (by rw [pu_ne _ _ (by omega),pu_eq]; exact hl)) (hr.sub (P'.at 2 (pu_eq ..)))
/-- A peer of few. -/
def peerT (a port:Int):Q × Int:=((9,0,0,a),port)
theorem peerT_ok {a port:Int} (ha:okB a) (hz:okZ port):okT (peerT a port):=⟨⟨okBc rfl,okBc rfl,okBc rfl,ha⟩,hz⟩
theorem C19 {a port:Int} (h:K (.agg ⟨t4 (peerT a port)⟩) hp):CF Tryz.prog 19 [.int .u8 a,.int .i64 port] hp K:=by
  refine F19_ok a port hp K ?_
  unfold F19
  exact ifI rfl (ifI rfl (ifI rfl (ifI (Nat.le_refl 5) h)))
theorem t4_adrS (u:Q × Int):cellsN (t4 u) 0 4=some (v4 u.1):=rfl
set_option maxHeartbeats 1000000 in
theorem C5 (ht:TabR tb hp) (hK:∀ hp',HSub hp hp'→K (.bool true) hp'):CF Tryz.prog 5 [] hp K:=by
  refine F5_ok hp K ?_
  unfold F5
  refine X6 ht (fun h=>absurd h (by decide)) fun _ s hp1 h1=>?_
  rw [tup2V_mk,pq,intV_int,show ((0:Int) != 0)=false from rfl,ite2_false]
  show F5_j1 (some ⟨s,0,none⟩) false hp1 K
  unfold F5_j1
  rw [ite2_false]
  have o1:okT (peerT 1 80):=peerT_ok (okBc rfl) (okZc rfl)
  refine C19 ?_
  rw [aggV_agg]
  refine X18 h1 (okZc rfl) o1 (by decide) (fun e=>absurd (by kernel_rfl) e) fun _ hp2 h2=>?_
  rw [tup2V_mk,aggV_agg,intV_int,if_pos (ssc_len _),if_pos (ssc_one _),if_pos (by simp [ssc_len])]
  refine C19 ?_
  rw [aggV_agg]
  refine X18 h2 (okZc rfl) o1 (by decide) (fun _ hp3 h3=>?_) fun e=>absurd e (by decide +kernel)
  rw [tup2V_mk,aggV_agg,intV_int,if_pos (ssc_len _),if_pos (ssc_one _),if_pos (by simp [ssc_len])]
  rw [ss_spl rfl,show ((0:Int)==0)=true from rfl,ite2_true,show (addE (3:Int).toNat 1 (peerT 1 80) 9 ([]++[(⟨((0+1:Nat):Int),1,peerT 1 80,0,9⟩:Ss)])==5)=true by kernel_rfl,ite2_true,ssc_id,ldV_some,intV_int]
  show ite2 true _ _
  rw [ite2_true]
  refine C19 ?_
  rw [aggV_agg,t4_adrS,ldL_some]
  refine W20 h3.wt (by decide) ?_
  rw [boolV_bool,show knowsE 1 (peerT 1 0).1 ([]++[(⟨((0+1:Nat):Int),1,peerT 1 80,0,9⟩:Ss)])=true by kernel_rfl,ite2_true]
  refine C19 ?_
  rw [aggV_agg,t4_adrS,ldL_some]
  refine W20 h3.wt (by decide) ?_
  rw [boolV_bool,show knowsE 2 (peerT 1 0).1 ([]++[(⟨((0+1:Nat):Int),1,peerT 1 80,0,9⟩:Ss)])=false by kernel_rfl]
  show ite2 true _ _
  rw [ite2_true]
  refine X21 h3 fun hp4 a c w' h4 hr=>?_
  rw [slcV_slice,show (((popsL Ss.id 9 ([]++[(⟨((0+1:Nat):Int),1,peerT 1 80,0,9⟩:Ss)]) (setW ((0+1:Nat):Int) 9 [])).length:Nat):Int)=1 by kernel_rfl]
  exact hK hp4 (h4.fin ht)
end
end Go.Proofs
set_option linter.unusedVariables false
set_option maxRecDepth 20000
namespace Go.Proofs
open Go Go.HL
theorem dec5 {D:Nat} {cs:List Value} (h:wellS Tryz.prog D 5 cs=true):∃ n:Int,(0≤n∧n≤255)∧cs=[.int .u8 n]:=by
  cases D with
  | zero=>cases h
  | succ D=>
    unfold wellS at h
    rw [show Tryz.prog.underlying 5=some (.int .u8) by kernel_rfl] at h
    simp only at h
    split at h
    · rename_i q n
      simp only [Bool.and_eq_true,decide_eq_true_eq] at h
      obtain ⟨rfl,hw⟩:=h
      exact ⟨n,(Go.Lit.wf_int_iff _ _).1 hw,rfl⟩
    · cases h
theorem dec3 {D:Nat} {cs:List Value} (h:wellS Tryz.prog D 3 cs=true):∃ n:Int,(-9223372036854775808≤n∧n≤9223372036854775807)∧cs=[.int .i64 n]:=by
  cases D with
  | zero=>cases h
  | succ D=>
    unfold wellS at h
    rw [show Tryz.prog.underlying 3=some (.int .i64) by kernel_rfl] at h
    simp only at h
    split at h
    · rename_i q n
      simp only [Bool.and_eq_true,decide_eq_true_eq] at h
      obtain ⟨rfl,hw⟩:=h
      exact ⟨n,(Go.Lit.wf_int_iff _ _).1 hw,rfl⟩
    · cases h
end Go.Proofs
set_option linter.unusedVariables false
set_option linter.unusedSimpArgs false
set_option maxRecDepth 20000
namespace Go.Proofs
open Go Go.HL
open Go.Exp (Th tlt Ord setW dropW insW)
/-- An act. -/
structure A22 where
  what:Int
  a:Int
  b:Int
  port:Int
  n:Int
  st:Int
  due:Int
def a22 (y:A22):List Value:=[.int .u8 y.what,.int .u8 y.a,.int .i64 y.b,.int .i64 y.port,.int .i64 y.n,.int .i64 y.st,.int .i64 y.due]
theorem a22_len (y:A22):(a22 y).length=7:=rfl
def okA22 (y:A22):Prop:=okB y.a∧okZ y.b∧okZ y.port∧okZ y.n∧okZ y.st∧okZ y.due
theorem a22_0 (y:A22):(a22 y)[0]?=some (.int .u8 y.what):=rfl
theorem a22_1 (y:A22):(a22 y)[1]?=some (.int .u8 y.a):=rfl
theorem a22_2 (y:A22):(a22 y)[2]?=some (.int .i64 y.b):=rfl
theorem a22_3 (y:A22):(a22 y)[3]?=some (.int .i64 y.port):=rfl
theorem a22_4 (y:A22):(a22 y)[4]?=some (.int .i64 y.n):=rfl
theorem a22_5 (y:A22):(a22 y)[5]?=some (.int .i64 y.st):=rfl
theorem a22_6 (y:A22):(a22 y)[6]?=some (.int .i64 y.due):=rfl
theorem dec77:∀ (D:Nat) (cs:List Value),wellS Tryz.prog D 34 cs=true→∃ a:A22,okA22 a∧cs=a22 a:=by
  intro D cs h
  cases D with
  | zero=>cases h
  | succ D=>
    obtain ⟨hl,hf⟩:=wellS_struct (fs0:=[(5,0),(5,1),(3,2),(3,3),(3,4),(3,5),(3,6)]) (by kernel_rfl) (by simp) h
    rw [show Tryz.prog.cellsOf 34=7 by kernel_rfl] at hl
    have f0:=hf (5,0) (by simp)
    have f1:=hf (5,1) (by simp)
    have f2:=hf (3,2) (by simp)
    have f3:=hf (3,3) (by simp)
    have f4:=hf (3,4) (by simp)
    have f5:=hf (3,5) (by simp)
    have f6:=hf (3,6) (by simp)
    simp only [show Tryz.prog.cellsOf 5=1 by kernel_rfl,show Tryz.prog.cellsOf 3=1 by kernel_rfl] at f0 f1 f2 f3 f4 f5 f6
    obtain ⟨n0,h0,e0⟩:=dec5 f0
    obtain ⟨n1,h1,e1⟩:=dec5 f1
    obtain ⟨n2,h2,e2⟩:=dec3 f2
    obtain ⟨n3,h3,e3⟩:=dec3 f3
    obtain ⟨n4,h4,e4⟩:=dec3 f4
    obtain ⟨n5,h5,e5⟩:=dec3 f5
    obtain ⟨n6,h6,e6⟩:=dec3 f6
    match cs,hl with
    | [c0,c1,c2,c3,c4,c5,c6],_=>
      simp only [List.drop_zero,List.drop_succ_cons,List.take_succ_cons,List.take_zero,List.cons.injEq,and_true] at e0 e1 e2 e3 e4 e5 e6
      subst e0; subst e1; subst e2; subst e3; subst e4; subst e5; subst e6
      exact ⟨⟨n0,n1,n2,n3,n4,n5,n6⟩,⟨h1,h2,h3,h4,h5,h6⟩,rfl⟩
section
variable {tb:Obj} {hp0 hp:HP} {s mx last:Nat} {L:List Ss} {w:List Th} {K:Value→HP→Prop}
end
end Go.Proofs
set_option linter.unusedVariables false
set_option maxRecDepth 20000
namespace Go.Proofs
open Go Go.HL
def F25 (x0:OA) (x1:Int) (x2:List Value) (hp:HP) (K:Kh):Prop:=
  (ldL (cellsN x2 0 5) fun l_1=>(CF Tryz.prog 30 [(Value.pointer x0),(Value.int .i64 x1),(Value.agg ⟨l_1⟩)] hp fun u_2 h_3=>(intV u_2 .i64 fun i_4=>(ite2 (decide ((i_4:Int)≥0)) (K (Value.int .i64 5) h_3) (ptrN x0 fun b_5 o_6=>(ldV (HP.cell h_3 b_5 (o_6+2)) fun v_7=>(slcV v_7 fun a_8 n_9 c_10=>(ptrN x0 fun b_11 o_12=>(ldV (HP.cell h_3 b_11 (o_12+0)) fun v_13=>(intV v_13 .i64 fun i_14=>(ite2 (decide (((n_9:Nat):Int)≥i_14)) (K (Value.int .i64 6) h_3) (K (Value.int .i64 0) h_3))))))))))))
theorem F25_ok (x0:OA) (x1:Int) (x2:List Value) (hp:HP) (K:Kh) (h:F25 x0 x1 x2 hp K):CF Tryz.prog 25 [(Value.pointer x0),(Value.int .i64 x1),(Value.agg ⟨x2⟩)] hp K:=
  have L:∀ {Q} n,Snd Tryz.prog 22 (cAt Tryz.f25 (pth n)) Q (CW Tryz.prog 22 [5] [] (cAt Tryz.f25 (pth n)) Q):=fun _=>Snd.leaf
  okF h Tryz.func25 (L 1) (by kernel_rfl) (by kernel_rfl) (by kernel_rfl)
def F26_j3 (x0:OA) (x1 x7:Int) (x39:Bool) (k5:List Value) (hp:HP) (I2:(Int)→HP→Prop) (K:Kh):Prop:=
  (ite2 x39 (K (Value.bool true) hp) (I2 (IntKind.wrap .i64 (x7+1)) hp))
def F26_l2 (x0:OA) (x1:Int) (k5:List Value) (K:Kh) (I2:(Int)→HP→Prop) (x7:Int) (hp:HP):Prop:=
  (ptrN x0 fun b_1 o_2=>(ldV (HP.cell hp b_1 (o_2+2)) fun v_3=>(slcV v_3 fun a_4 n_5 c_6=>(ite2 (decide ((x7:Int)<(n_5:Nat))) (ptrN x0 fun b_7 o_8=>(ldV (HP.cell hp b_7 (o_8+2)) fun v_9=>(slcV v_9 fun a_10 n_11 c_12=>((0≤(x7:Int))∧((x7:Int)<(n_11:Nat))∧(ptrN a_10 fun b_13 o_14=>(ldV (HP.cell hp b_13 ((o_14+Int.toNat x7*9)+1)) fun v_15=>(intV v_15 .i64 fun i_16=>(ite2 ((i_16:Int)==x1) (ptrN x0 fun b_17 o_18=>(ldV (HP.cell hp b_17 (o_18+2)) fun v_19=>(slcV v_19 fun a_20 n_21 c_22=>((0≤(x7:Int))∧((x7:Int)<(n_21:Nat))∧(ptrN a_20 fun b_23 o_24=>(ldL (HP.cellN hp b_23 (((o_24+Int.toNat x7*9)+2)+0) 4) fun l_25=>(ldL (cellsN k5 0 4) fun l_26=>(eqAgg Tryz.prog 54 l_25 l_26 fun q_27=>(F26_j3 x0 x1 x7 q_27 k5 hp I2 K))))))))) (F26_j3 x0 x1 x7 false k5 hp I2 K))))))))) (K (Value.bool false) hp)))))
def F26_j1 (x0:OA) (x1 x7:Int) (k5:List Value) (hp:HP) (K:Kh):Prop:=
  (LoopP (σ:=Int) (fun I s hp=>F26_l2 x0 x1 k5  K I s hp) x7 hp)
def F26 (x0:OA) (x1:Int) (x2:List Value) (hp:HP) (K:Kh):Prop:=
  (F26_j1 x0 x1 0 x2 hp  K)
theorem F26_ok (x0:OA) (x1:Int) (x2:List Value) (hp:HP) (K:Kh) (h:F26 x0 x1 x2 hp K):CF Tryz.prog 26 [(Value.pointer x0),(Value.int .i64 x1),(Value.agg ⟨x2⟩)] hp K:=
  have L:∀ {Q} n,Snd Tryz.prog 40 (cAt Tryz.f26 (pth n)) Q (CW Tryz.prog 40 [5] [] (cAt Tryz.f26 (pth n)) Q):=fun _=>Snd.leaf
  okF h Tryz.func26 (Snd.seq (L 2) (Snd.seq (Snd.jn [(0,.p),(1,.i .i64),(5,.r 5 0),(7,.i .i64),(5,.c 54)] (fun a hp=>F26_j1 a.1 a.2.1 a.2.2.1 a.2.2.2.1 hp  K) (L 9) (Snd.block 0 (Snd.lp (σ:=Int) [(0,.p),(1,.i .i64),(5,.r 5 0),(7,.i .i64),(5,.c 54)] (fun a=>a.2.2.1) (fun a s=>(a.1,a.2.1,s,a.2.2.2.1,())) (fun a I s hp=>F26_l2 a.1 a.2.1 a.2.2.2.1  K I s hp) (fun I2=>(Snd.seq (L 69) (Snd.seq (Snd.block 1 (Snd.jn [(0,.p),(1,.i .i64),(5,.r 5 0),(7,.i .i64),(39,.b),(5,.c 54)] (fun a hp=>F26_j3 a.1 a.2.1 a.2.2.1 a.2.2.2.1 a.2.2.2.2.1 hp (fun s hp=>I2 (a.1,a.2.1,s,a.2.2.2.2.1,()) hp) K) (L 549) (L 805) (by rfl) (by kernel_rfl))) (L 229)))) (by rfl) (by kernel_rfl) (by kernel_rfl))) (by rfl) (by kernel_rfl)) (L 7))) (by kernel_rfl) (by kernel_rfl) (by kernel_rfl)
def F30_j3 (x0:OA) (x1 x7:Int) (x38:Bool) (k5:List Value) (hp:HP) (I2:(Int)→HP→Prop) (K:Kh):Prop:=
  (ite2 x38 (K (Value.int .i64 x7) hp) (I2 (IntKind.wrap .i64 (x7+1)) hp))
def F30_l2 (x0:OA) (x1:Int) (k5:List Value) (K:Kh) (I2:(Int)→HP→Prop) (x7:Int) (hp:HP):Prop:=
  (ptrN x0 fun b_1 o_2=>(ldV (HP.cell hp b_1 (o_2+2)) fun v_3=>(slcV v_3 fun a_4 n_5 c_6=>(ite2 (decide ((x7:Int)<(n_5:Nat))) (ptrN x0 fun b_7 o_8=>(ldV (HP.cell hp b_7 (o_8+2)) fun v_9=>(slcV v_9 fun a_10 n_11 c_12=>((0≤(x7:Int))∧((x7:Int)<(n_11:Nat))∧(ptrN a_10 fun b_13 o_14=>(ldV (HP.cell hp b_13 ((o_14+Int.toNat x7*9)+1)) fun v_15=>(intV v_15 .i64 fun i_16=>(ite2 ((i_16:Int)==x1) (ptrN x0 fun b_17 o_18=>(ldV (HP.cell hp b_17 (o_18+2)) fun v_19=>(slcV v_19 fun a_20 n_21 c_22=>((0≤(x7:Int))∧((x7:Int)<(n_21:Nat))∧(ptrN a_20 fun b_23 o_24=>(ldL (HP.cellN hp b_23 ((o_24+Int.toNat x7*9)+2) 5) fun l_25=>(ldL (cellsN k5 0 5) fun l_26=>(eqAgg Tryz.prog 56 l_25 l_26 fun q_27=>(F30_j3 x0 x1 x7 q_27 k5 hp I2 K))))))))) (F30_j3 x0 x1 x7 false k5 hp I2 K))))))))) (K (Value.int .i64 (-1)) hp)))))
def F30_j1 (x0:OA) (x1 x7:Int) (k5:List Value) (hp:HP) (K:Kh):Prop:=
  (LoopP (σ:=Int) (fun I s hp=>F30_l2 x0 x1 k5  K I s hp) x7 hp)
def F30 (x0:OA) (x1:Int) (x2:List Value) (hp:HP) (K:Kh):Prop:=
  (F30_j1 x0 x1 0 x2 hp  K)
theorem F30_ok (x0:OA) (x1:Int) (x2:List Value) (hp:HP) (K:Kh) (h:F30 x0 x1 x2 hp K):CF Tryz.prog 30 [(Value.pointer x0),(Value.int .i64 x1),(Value.agg ⟨x2⟩)] hp K:=
  have L:∀ {Q} n,Snd Tryz.prog 40 (cAt Tryz.f30 (pth n)) Q (CW Tryz.prog 40 [5] [] (cAt Tryz.f30 (pth n)) Q):=fun _=>Snd.leaf
  okF h Tryz.func30 (Snd.seq (L 2) (Snd.seq (Snd.jn [(0,.p),(1,.i .i64),(5,.r 5 0),(7,.i .i64),(5,.c 56)] (fun a hp=>F30_j1 a.1 a.2.1 a.2.2.1 a.2.2.2.1 hp  K) (L 9) (Snd.block 0 (Snd.lp (σ:=Int) [(0,.p),(1,.i .i64),(5,.r 5 0),(7,.i .i64),(5,.c 56)] (fun a=>a.2.2.1) (fun a s=>(a.1,a.2.1,s,a.2.2.2.1,())) (fun a I s hp=>F30_l2 a.1 a.2.1 a.2.2.2.1  K I s hp) (fun I2=>(Snd.seq (L 69) (Snd.seq (Snd.block 1 (Snd.jn [(0,.p),(1,.i .i64),(5,.r 5 0),(7,.i .i64),(38,.b),(5,.c 56)] (fun a hp=>F30_j3 a.1 a.2.1 a.2.2.1 a.2.2.2.1 a.2.2.2.2.1 hp (fun s hp=>I2 (a.1,a.2.1,s,a.2.2.2.2.1,()) hp) K) (L 549) (L 805) (by rfl) (by kernel_rfl))) (L 229)))) (by rfl) (by kernel_rfl) (by kernel_rfl))) (by rfl) (by kernel_rfl)) (L 7))) (by kernel_rfl) (by kernel_rfl) (by kernel_rfl)
def F31 (x0 x1:List Value) (hp:HP) (K:Kh):Prop:=
  (ldV (x0)[0]? fun v_1=>(intV v_1 .i64 fun i_2=>(ldV (x1)[0]? fun v_3=>(intV v_3 .i64 fun i_4=>(ite2 ((i_2:Int)==i_4) (ldV (x0)[1]? fun v_5=>(intV v_5 .i64 fun i_6=>(ldV (x1)[1]? fun v_7=>(intV v_7 .i64 fun i_8=>(ite2 ((i_6:Int)==i_8) (ldL (cellsN x0 2 5) fun l_9=>(ldL (cellsN x1 2 5) fun l_10=>(eqAgg Tryz.prog 56 l_9 l_10 fun q_11=>(ite2 q_11 (ldV (x0)[7]? fun v_12=>(intV v_12 .i64 fun i_13=>(ldV (x1)[7]? fun v_14=>(intV v_14 .i64 fun i_15=>(ite2 ((i_13:Int)==i_15) (ldV (x0)[8]? fun v_16=>(intV v_16 .i64 fun i_17=>(ldV (x1)[8]? fun v_18=>(intV v_18 .i64 fun i_19=>(K (Value.bool ((i_17:Int)==i_19)) hp))))) (K (Value.bool false) hp)))))) (K (Value.bool false) hp))))) (K (Value.bool false) hp)))))) (K (Value.bool false) hp))))))
theorem F31_ok (x0 x1:List Value) (hp:HP) (K:Kh) (h:F31 x0 x1 hp K):CF Tryz.prog 31 [(Value.agg ⟨x0⟩),(Value.agg ⟨x1⟩)] hp K:=
  have L:∀ {Q} n,Snd Tryz.prog 38 (cAt Tryz.f31 (pth n)) Q (CW Tryz.prog 38 [2,3,5,7,11,13,18,20,25,27,32,34] [] (cAt Tryz.f31 (pth n)) Q):=fun _=>Snd.leaf
  okF h Tryz.func31 (L 1) (by kernel_rfl) (by kernel_rfl) (by kernel_rfl)
def F76 (x0:Int) (hp:HP) (K:Kh):Prop:=
  (ite2 (decide ((x0:Int)≥0)) (K (Value.bool (decide ((x0:Int)≤4611686018427387904))) hp) (K (Value.bool false) hp))
theorem F76_ok (x0:Int) (hp:HP) (K:Kh) (h:F76 x0 hp K):CF Tryz.prog 76 [(Value.int .i64 x0)] hp K:=
  have L:∀ {Q} n,Snd Tryz.prog 9 (cAt Tryz.f76 (pth n)) Q (CW Tryz.prog 9 [] [] (cAt Tryz.f76 (pth n)) Q):=fun _=>Snd.leaf
  okF h Tryz.func76 (L 1) (by kernel_rfl) (by kernel_rfl) (by kernel_rfl)
def F77_l2 (x0:OA) (x1:Int) (K:Kh) (I2:(Int)→HP→Prop) (x5:Int) (hp:HP):Prop:=
  (ptrN x0 fun b_1 o_2=>(ldV (HP.cell hp b_1 (o_2+2)) fun v_3=>(slcV v_3 fun a_4 n_5 c_6=>(ite2 (decide ((x5:Int)<(n_5:Nat))) (ptrN x0 fun b_7 o_8=>(ldV (HP.cell hp b_7 (o_8+2)) fun v_9=>(slcV v_9 fun a_10 n_11 c_12=>((0≤(x5:Int))∧((x5:Int)<(n_11:Nat))∧(ptrN a_10 fun b_13 o_14=>(ldV (HP.cell hp b_13 ((o_14+Int.toNat x5*9)+0)) fun v_15=>(intV v_15 .i64 fun i_16=>(ite2 ((i_16:Int)==x1) (K (Value.int .i64 x5) hp) (I2 (IntKind.wrap .i64 (x5+1)) hp))))))))) (K (Value.int .i64 (-1)) hp)))))
def F77_j1 (x0:OA) (x1 x5:Int) (hp:HP) (K:Kh):Prop:=
  (LoopP (σ:=Int) (fun I s hp=>F77_l2 x0 x1  K I s hp) x5 hp)
def F77 (x0:OA) (x1:Int) (hp:HP) (K:Kh):Prop:=
  (F77_j1 x0 x1 0 hp  K)
theorem F77_ok (x0:OA) (x1:Int) (hp:HP) (K:Kh) (h:F77 x0 x1 hp K):CF Tryz.prog 77 [(Value.pointer x0),(Value.int .i64 x1)] hp K:=
  have L:∀ {Q} n,Snd Tryz.prog 26 (cAt Tryz.f77 (pth n)) Q (CW Tryz.prog 26 [] [] (cAt Tryz.f77 (pth n)) Q):=fun _=>Snd.leaf
  okF h Tryz.func77 (Snd.seq (L 2) (Snd.seq (Snd.jn [(0,.p),(1,.i .i64),(5,.i .i64)] (fun a hp=>F77_j1 a.1 a.2.1 a.2.2.1 hp  K) (L 9) (Snd.block 0 (Snd.lp (σ:=Int) [(0,.p),(1,.i .i64),(5,.i .i64)] (fun a=>a.2.2.1) (fun a s=>(a.1,a.2.1,s,())) (fun a I s hp=>F77_l2 a.1 a.2.1  K I s hp) (fun I2=>(L 37)) (by rfl) (by kernel_rfl) (by kernel_rfl))) (by rfl) (by kernel_rfl)) (L 7))) (by kernel_rfl) (by kernel_rfl) (by kernel_rfl)
end Go.Proofs
set_option linter.unusedVariables false
set_option linter.unusedSimpArgs false
set_option maxRecDepth 20000
namespace Go.Proofs
open Go Go.HL
open Go.Exp (Th tlt Ord setW dropW insW)
/-- Where the first one stands; below 0: there is none. -/
def ixE (p:Ss→Bool) (L:List Ss):Int:=match L.findIdx? p with | some k=>(k:Int) | none=>-1
theorem ixE_at {p:Ss→Bool} {L:List Ss} {n:Nat} (h:n<L.length) (hp:p L[n]=true) (hno:∀ j (hj:j<L.length),j<n→p L[j]=false):ixE p L=n:=by
  unfold ixE
  have:L.findIdx? p=some n:=List.findIdx?_eq_some_iff_getElem.2 ⟨h,hp,fun j hj=>by rw [hno j (by omega) hj]; decide⟩
  rw [this]
theorem ixE_none {p:Ss→Bool} {L:List Ss} (hno:∀ j (hj:j<L.length),p L[j]=false):ixE p L=-1:=by
  unfold ixE
  have:L.findIdx? p=none:=List.findIdx?_eq_none_iff.2 fun x hx=>by
    obtain ⟨j,hj,e⟩:=List.getElem_of_mem hx
    rw [← e]; exact hno j hj
  rw [this]
theorem cellsN_in {cs ys:List Value} {o n j k:Nat} (h:cellsN cs o n=some ys) (hjk:j+k≤n):cellsN cs (o+j) k=cellsN ys j k:=by
  unfold cellsN at h
  split at h
  · rename_i hl
    have:=Option.some.inj h
    subst this
    unfold cellsN
    rw [if_pos (by omega),if_pos (by simp; omega),List.drop_take,List.drop_drop,List.take_take,Nat.min_eq_left (by omega)]
  · cases h
/-- The document's table, and its list. -/
def RefL (hp:HP) (r:Nat) (mx last:Nat) (a:Option Addr) (c:Nat) (L:List Ss):Prop:=
  hp.cell r 0=some (.int .i64 mx)∧hp.cell r 1=some (.int .i64 last)∧hp.cell r 2=some (.slice a L.length c)∧Shows hp a L.length 9 (L.flatMap ssc)
section
variable {hp:HP} {r mx last c:Nat} {a:Option Addr} {L:List Ss} {K:Value→HP→Prop}
theorem RefL.at (h:RefL hp r mx last a c L) {i:Nat} (hi:i<L.length) :
    ∃ b o,a=some ⟨b,o,none⟩∧hp.cellN b (o+i*9) 9=some (ssc L[i])∧∀ j v,(ssc L[i])[j]?=some v→hp.cell b (o+i*9+j)=some v:=by
  obtain ⟨b,o,e,hc⟩:=h.2.2.2.get ssc_len rfl hi
  exact ⟨b,o,e,hc,fun t v hv=>HP.cell_cellN hc hv⟩
theorem R76 {due:Int} (hK:K (.bool (decide (¬ (due<0∨due > 4611686018427387904)))) hp):CF Tryz.prog 76 [.int .i64 due] hp K:=by
  refine F76_ok due hp K ?_
  unfold F76
  by_cases h1:due<0
  · rw [decide_eq_false (by omega),ite2_false]
    rwa [decide_eq_false (by omega)] at hK
  · rw [decide_eq_true (by omega),ite2_true]
    by_cases h2:due > 4611686018427387904
    · rw [decide_eq_false (by omega)]
      rwa [decide_eq_false (by omega)] at hK
    · rw [decide_eq_true (by omega)]
      rwa [decide_eq_true (by omega)] at hK
theorem R77 {i:Int} (h:RefL hp r mx last a c L) (hsm:L.length≤100000) (hK:K (.int .i64 (ixE (fun y=>decide (y.id=i)) L)) hp):CF Tryz.prog 77 [ptr r 0,.int .i64 i] hp K:=by
  refine F77_ok _ i hp K ?_
  unfold F77 F77_j1
  refine LoopP.by (J:=fun k (z:Int) hp'=>hp'=hp∧∃ n:Nat,z=n∧n+k=L.length∧∀ j (hj:j<L.length),j<n→L[j].id≠i) ?_ (n:=L.length) ⟨rfl,0,rfl,by omega,fun j _ hj=>by omega⟩
  rintro I k z hp' ⟨rfl,n,rfl,hnk,hno⟩ hI
  unfold F77_l2
  obtain ⟨_,_,r2,_⟩:=h
  have h:RefL hp' r mx last a c L:=⟨‹_›,‹_›,r2,‹_›⟩
  simp only [ptrN_some,Nat.zero_add,r2,ldV_some,slcV_slice]
  by_cases hn:n<L.length
  · obtain ⟨b,o,rfl,g,gd⟩:=h.at hn
    have gd0:=gd 0 _ (ssc_id _)
    rw [decide_eq_true (by omega:(n:Int)<(L.length:Nat)),ite2_true]
    refine ⟨by omega,by omega,?_⟩
    simp only [ptrN_some,Int.toNat_natCast,gd0,ldV_some,intV_int]
    by_cases he:L[n].id=i
    · rw [show (L[n].id==i)=true by simp [he],ite2_true]
      rwa [ixE_at hn (decide_eq_true he) fun j hj hjn=>decide_eq_false (hno j hj hjn)] at hK
    · rw [show (L[n].id==i)=false by simp [he],ite2_false,show IntKind.wrap .i64 ((n:Int)+1)=((n+1:Nat):Int) from wi (by omega) (by omega)]
      refine hI (k-1) _ _ (by omega) ⟨rfl,n+1,rfl,by omega,fun j hj hjn=>?_⟩
      by_cases e:j=n
      · subst e; exact he
      · exact hno j hj (by omega)
  · rw [decide_eq_false (by omega:¬ (n:Int)<(L.length:Nat)),ite2_false]
    rwa [ixE_none fun j hj=>decide_eq_false (hno j hj (by omega))] at hK
theorem RefL.peer (h:RefL hp r mx last a c L) {i:Nat} (hi:i<L.length) {b o:Nat} (e:a=some ⟨b,o,none⟩):hp.cellN b (o+i*9+2) 5=some (t4 L[i].peer)∧hp.cellN b (o+i*9+2+0) 4=some (v4 L[i].peer.1):=by
  obtain ⟨b',o',e',g,_⟩:=h.at hi
  rw [e] at e'; cases e'
  unfold HP.cellN at g ⊢
  split at g
  · exact ⟨(cellsN_in g (j:=2) (k:=5) (by omega)).trans rfl,(cellsN_in g (j:=2) (k:=4) (by omega)).trans rfl⟩
  · exact ⟨(cellsN_in g (j:=2) (k:=5) (by omega)).trans rfl,(cellsN_in g (j:=2) (k:=4) (by omega)).trans rfl⟩
  · cases g
set_option maxHeartbeats 1000000 in
theorem R30 {bn:Int} {p:Q × Int} (h:RefL hp r mx last a c L) (hsm:L.length≤100000) (hK:K (.int .i64 (ixE (fun y=>decide (y.bnd=bn∧y.peer=p)) L)) hp):CF Tryz.prog 30 [ptr r 0,.int .i64 bn,.agg ⟨t4 p⟩] hp K:=by
  refine F30_ok _ bn (t4 p) hp K ?_
  unfold F30 F30_j1
  refine LoopP.by (J:=fun k (z:Int) hp'=>hp'=hp∧∃ n:Nat,z=n∧n+k=L.length∧∀ j (hj:j<L.length),j<n→¬ (L[j].bnd=bn∧L[j].peer=p)) ?_ (n:=L.length) ⟨rfl,0,rfl,by omega,fun j _ hj=>by omega⟩
  rintro I k z hp' ⟨rfl,n,rfl,hnk,hno⟩ hI
  unfold F30_l2
  have r2:=h.2.2.1
  simp only [ptrN_some,Nat.zero_add,r2,ldV_some,slcV_slice]
  by_cases hn:n<L.length
  · obtain ⟨b,o,rfl,g,gd⟩:=h.at hn
    have gd1:=gd 1 _ (ssc_bnd _)
    obtain ⟨gp,_⟩:=h.peer hn rfl
    rw [decide_eq_true (by omega:(n:Int)<(L.length:Nat)),ite2_true]
    refine ⟨by omega,by omega,?_⟩
    have no:¬ (L[n].bnd=bn∧L[n].peer=p)→F30_j3 (some ⟨r,0,none⟩) bn n false (t4 p) hp' I K:=by
      intro he
      unfold F30_j3
      rw [ite2_false,show IntKind.wrap .i64 ((n:Int)+1)=((n+1:Nat):Int) from wi (by omega) (by omega)]
      refine hI (k-1) _ _ (by omega) ⟨rfl,n+1,rfl,by omega,fun j hj hjn=>?_⟩
      by_cases e:j=n
      · subst e; exact he
      · exact hno j hj (by omega)
    simp only [ptrN_some,Int.toNat_natCast,gd1,ldV_some,intV_int]
    by_cases he:L[n].bnd=bn
    · rw [show (L[n].bnd==bn)=true by simp [he],ite2_true]
      refine ⟨by omega,by omega,?_⟩
      rw [gp,ldL_some,t4_cells,ldL_some]
      refine eq75 ?_
      by_cases hp2:L[n].peer=p
      · rw [decide_eq_true hp2]
        unfold F30_j3
        rw [ite2_true]
        rwa [ixE_at hn (decide_eq_true ⟨he,hp2⟩) fun j hj hjn=>decide_eq_false (hno j hj hjn)] at hK
      · rw [decide_eq_false hp2]
        exact no fun hh=>hp2 hh.2
    · rw [show (L[n].bnd==bn)=false by simp [he],ite2_false]
      exact no fun hh=>he hh.1
  · rw [decide_eq_false (by omega:¬ (n:Int)<(L.length:Nat)),ite2_false]
    rwa [ixE_none fun j hj=>decide_eq_false (hno j hj (by omega))] at hK
/-- What the document's Room answers. -/
theorem R25 {bn:Int} {p:Q × Int} (h:RefL hp r mx last a c L) (hsm:L.length≤100000) (hK:K (.int .i64 (if ixE (fun y=>decide (y.bnd=bn∧y.peer=p)) L≥0 then 5 else if L.length≥mx then 6 else 0)) hp):CF Tryz.prog 25 [ptr r 0,.int .i64 bn,.agg ⟨t4 p⟩] hp K:=by
  refine F25_ok _ bn (t4 p) hp K ?_
  unfold F25
  rw [t4_cells,ldL_some]
  refine R30 h hsm ?_
  rw [intV_int]
  by_cases h1:ixE (fun y=>decide (y.bnd=bn∧y.peer=p)) L≥0
  · rw [decide_eq_true h1,ite2_true]
    rwa [if_pos h1] at hK
  rw [decide_eq_false h1,ite2_false]
  rw [if_neg h1] at hK
  simp only [ptrN_some,Nat.zero_add,h.1,h.2.2.1,ldV_some,slcV_slice,intV_int]
  by_cases h2:L.length≥mx
  · rw [decide_eq_true (by omega),ite2_true]
    rwa [if_pos h2] at hK
  · rw [decide_eq_false (by omega),ite2_false]
    rwa [if_neg h2] at hK
set_option maxHeartbeats 1000000 in
theorem R26 {bn:Int} {ad:Q} (h:RefL hp r mx last a c L) (hsm:L.length≤100000) (hK:K (.bool (L.any fun y=>decide (y.bnd=bn∧y.peer.1=ad))) hp):CF Tryz.prog 26 [ptr r 0,.int .i64 bn,.agg ⟨v4 ad⟩] hp K:=by
  refine F26_ok _ bn (v4 ad) hp K ?_
  unfold F26 F26_j1
  refine LoopP.by (J:=fun k (z:Int) hp'=>hp'=hp∧∃ n:Nat,z=n∧n+k=L.length∧∀ j (hj:j<L.length),j<n→¬ (L[j].bnd=bn∧L[j].peer.1=ad)) ?_ (n:=L.length) ⟨rfl,0,rfl,by omega,fun j _ hj=>by omega⟩
  rintro I k z hp' ⟨rfl,n,rfl,hnk,hno⟩ hI
  unfold F26_l2
  have r2:=h.2.2.1
  simp only [ptrN_some,Nat.zero_add,r2,ldV_some,slcV_slice]
  by_cases hn:n<L.length
  · obtain ⟨b,o,rfl,g,gd⟩:=h.at hn
    have gd1:=gd 1 _ (ssc_bnd _)
    obtain ⟨_,gp⟩:=h.peer hn rfl
    rw [decide_eq_true (by omega:(n:Int)<(L.length:Nat)),ite2_true]
    refine ⟨by omega,by omega,?_⟩
    have no:¬ (L[n].bnd=bn∧L[n].peer.1=ad)→F26_j3 (some ⟨r,0,none⟩) bn n false (v4 ad) hp' I K:=by
      intro he
      unfold F26_j3
      rw [ite2_false,show IntKind.wrap .i64 ((n:Int)+1)=((n+1:Nat):Int) from wi (by omega) (by omega)]
      refine hI (k-1) _ _ (by omega) ⟨rfl,n+1,rfl,by omega,fun j hj hjn=>?_⟩
      by_cases e:j=n
      · subst e; exact he
      · exact hno j hj (by omega)
    simp only [ptrN_some,Int.toNat_natCast,gd1,ldV_some,intV_int]
    by_cases he:L[n].bnd=bn
    · rw [show (L[n].bnd==bn)=true by simp [he],ite2_true]
      refine ⟨by omega,by omega,?_⟩
      rw [gp,ldL_some,v4_cells,ldL_some]
      refine eq73 ?_
      by_cases hp2:L[n].peer.1=ad
      · rw [decide_eq_true hp2]
        unfold F26_j3
        rw [ite2_true]
        rwa [List.any_eq_true.2 ⟨L[n],List.getElem_mem hn,decide_eq_true ⟨he,hp2⟩⟩] at hK
      · rw [decide_eq_false hp2]
        exact no fun hh=>hp2 hh.2
    · rw [show (L[n].bnd==bn)=false by simp [he],ite2_false]
      exact no fun hh=>he hh.1
  · rw [decide_eq_false (by omega:¬ (n:Int)<(L.length:Nat)),ite2_false]
    have:(L.any fun y=>decide (y.bnd=bn∧y.peer.1=ad))=false:=by
      rw [List.any_eq_false]
      intro y hy
      obtain ⟨j,hj,e⟩:=List.getElem_of_mem hy
      rw [← e]
      simpa using hno j hj (by omega)
    rwa [this] at hK
end
end Go.Proofs
set_option linter.unusedVariables false
set_option maxRecDepth 20000
namespace Go.Proofs
open Go Go.HL
def F28_j1 (x5a:OA) (x5n x5c:Nat) (hp:HP) (K:Kh):Prop:=
  (K (Value.slice x5a x5n x5c) hp)
def F28_j4 (x0:OA) (x1:Int) (x5a:OA) (x5n x5c:Nat) (x6:Int) (hp:HP) (I3:((Option Addr) × Nat × Nat × Int)→HP→Prop) (K:Value→HP→Prop):Prop:=
  (I3 (x5a,x5n,x5c,(IntKind.wrap .i64 (x6+1))) hp)
def F28_l3 (x0:OA) (x1:Int) (K:Kh) (I3:((Option Addr) × Nat × Nat × Int)→HP→Prop) (x5a:Option Addr) (x5n:Nat) (x5c:Nat) (x6:Int) (hp:HP):Prop:=
  (ptrN x0 fun b_1 o_2=>(ldV (HP.cell hp b_1 (o_2+2)) fun v_3=>(slcV v_3 fun a_4 n_5 c_6=>(ite2 (decide ((x6:Int)<(n_5:Nat))) (ptrN x0 fun b_7 o_8=>(ldV (HP.cell hp b_7 (o_8+2)) fun v_9=>(slcV v_9 fun a_10 n_11 c_12=>((0≤(x6:Int))∧((x6:Int)<(n_11:Nat))∧(ptrN a_10 fun b_13 o_14=>(ldV (HP.cell hp b_13 ((o_14+Int.toNat x6*9)+1)) fun v_15=>(intV v_15 .i64 fun i_16=>(ite2 ((i_16:Int)==x1) (ptrN x0 fun b_17 o_18=>(ldV (HP.cell hp b_17 (o_18+2)) fun v_19=>(slcV v_19 fun a_20 n_21 c_22=>((0≤(x6:Int))∧((x6:Int)<(n_21:Nat))∧(ptrN a_20 fun b_23 o_24=>(ldL (HP.cellN hp b_23 (o_24+Int.toNat x6*9) 9) fun l_25=>(if List.length l_25=9 then (∀ b_26:Nat,hp b_26=.none→(opS Tryz.prog (Builtin.append_ #[29,29] 29 ⟨[(Value.slice x5a x5n x5c),(Value.slice (some ⟨b_26,0,none⟩) 1 1)]⟩) (HP.set hp b_26 (.cells 73 (splice [(Value.int .i64 0),(Value.int .i64 0),(Value.int .u8 0),(Value.int .u8 0),(Value.int .u8 0),(Value.int .u8 0),(Value.int .i64 0),(Value.int .i64 0),(Value.int .i64 0)] 0 l_25) 0)) fun u_27 h_28=>(slcV u_27 fun a_29 n_30 c_31=>(F28_j4 x0 x1 a_29 n_30 c_31 x6 h_28 I3 K)))) else False))))))) (F28_j4 x0 x1 x5a x5n x5c x6 hp I3 K))))))))) (F28_j1 x5a x5n x5c hp  K)))))
def F28_j2 (x0:OA) (x1:Int) (x5a:OA) (x5n x5c:Nat) (x6:Int) (hp:HP) (K:Kh):Prop:=
  (LoopP (σ:=(Option Addr) × Nat × Nat × Int) (fun I s hp=>F28_l3 x0 x1  K I s.1 s.2.1 s.2.2.1 s.2.2.2 hp) (x5a,x5n,x5c,x6) hp)
def F28 (x0:OA) (x1:Int) (hp:HP) (K:Kh):Prop:=
  (F28_j2 x0 x1 none 0 0 0 hp  K)
theorem F28_ok (x0:OA) (x1:Int) (hp:HP) (K:Kh) (h:F28 x0 x1 hp K):CF Tryz.prog 28 [(Value.pointer x0),(Value.int .i64 x1)] hp K:=
  have L:∀ {Q} n,Snd Tryz.prog 37 (cAt Tryz.f28 (pth n)) Q (CW Tryz.prog 37 [] [] (cAt Tryz.f28 (pth n)) Q):=fun _=>Snd.leaf
  okF h Tryz.func28 (Snd.seq (L 2) (Snd.seq (L 5) (Snd.jn [(5,.s)] (fun a hp=>F28_j1 a.1 a.2.1 a.2.2.1 hp  K) (Snd.jn [(0,.p),(1,.i .i64),(5,.s),(6,.i .i64)] (fun a hp=>F28_j2 a.1 a.2.1 a.2.2.1 a.2.2.2.1 a.2.2.2.2.1 a.2.2.2.2.2.1 hp  K) (L 19) (Snd.block 0 (Snd.lp (σ:=(Option Addr) × Nat × Nat × Int) [(0,.p),(1,.i .i64),(5,.s),(6,.i .i64)] (fun a=>(a.2.2.1,a.2.2.2.1,a.2.2.2.2.1,a.2.2.2.2.2.1)) (fun a s=>(a.1,a.2.1,s.1,s.2.1,s.2.2.1,s.2.2.2,())) (fun a I s hp=>F28_l3 a.1 a.2.1  K I s.1 s.2.1 s.2.2.1 s.2.2.2 hp) (fun I3=>(Snd.seq (L 139) (Snd.jn [(0,.p),(1,.i .i64),(5,.s),(6,.i .i64)] (fun a hp=>F28_j4 a.1 a.2.1 a.2.2.1 a.2.2.2.1 a.2.2.2.2.1 a.2.2.2.2.2.1 hp (fun s hp=>I3 (a.1,a.2.1,s.1,s.2.1,s.2.2.1,s.2.2.2,()) hp) K) (L 331) (L 459) (by rfl) (by kernel_rfl)))) (by rfl) (by kernel_rfl) (by kernel_rfl))) (by rfl) (by kernel_rfl)) (L 15) (by rfl) (by kernel_rfl)))) (by kernel_rfl) (by kernel_rfl) (by kernel_rfl)
def F8_l2 (x0a:OA) (x0n x0c:Nat) (x1a:OA) (x1n x1c:Nat) (K:Kh) (I2:(Int)→HP→Prop) (x5:Int) (hp:HP):Prop:=
  (ite2 (decide ((x5:Int)<(x0n:Nat))) ((0≤(x5:Int))∧((x5:Int)<(x0n:Nat))∧(ptrN x0a fun b_1 o_2=>(ldL (HP.cellN hp b_1 (o_2+Int.toNat x5*9) 9) fun l_3=>((0≤(x5:Int))∧((x5:Int)<(x1n:Nat))∧(ptrN x1a fun b_4 o_5=>(ldL (HP.cellN hp b_4 (o_5+Int.toNat x5*9) 9) fun l_6=>(CF Tryz.prog 31 [(Value.agg ⟨l_3⟩),(Value.agg ⟨l_6⟩)] hp fun u_7 h_8=>(boolV u_7 fun q_9=>(ite2 (!q_9) (K (Value.bool false) h_8) (I2 (IntKind.wrap .i64 (x5+1)) h_8)))))))))) (K (Value.bool true) hp))
def F8_j1 (x0a:OA) (x0n x0c:Nat) (x1a:OA) (x1n x1c:Nat) (x5:Int) (hp:HP) (K:Kh):Prop:=
  (LoopP (σ:=Int) (fun I s hp=>F8_l2 x0a x0n x0c x1a x1n x1c  K I s hp) x5 hp)
def F8 (x0a:OA) (x0n x0c:Nat) (x1a:OA) (x1n x1c:Nat) (hp:HP) (K:Kh):Prop:=
  (ite2 (((x0n:Nat):Int) != (x1n:Nat)) (K (Value.bool false) hp) (F8_j1 x0a x0n x0c x1a x1n x1c 0 hp  K))
theorem F8_ok (x0a:OA) (x0n x0c:Nat) (x1a:OA) (x1n x1c:Nat) (hp:HP) (K:Kh) (h:F8 x0a x0n x0c x1a x1n x1c hp K):CF Tryz.prog 8 [(Value.slice x0a x0n x0c),(Value.slice x1a x1n x1c)] hp K:=
  have L:∀ {Q} n,Snd Tryz.prog 27 (cAt Tryz.f8 (pth n)) Q (CW Tryz.prog 27 [] [] (cAt Tryz.f8 (pth n)) Q):=fun _=>Snd.leaf
  okF h Tryz.func8 (Snd.seq (L 2) (Snd.seq (L 5) (Snd.seq (Snd.jn [(0,.s),(1,.s),(5,.i .i64)] (fun a hp=>F8_j1 a.1 a.2.1 a.2.2.1 a.2.2.2.1 a.2.2.2.2.1 a.2.2.2.2.2.1 a.2.2.2.2.2.2.1 hp  K) (L 19) (Snd.block 0 (Snd.lp (σ:=Int) [(0,.s),(1,.s),(5,.i .i64)] (fun a=>a.2.2.2.2.2.2.1) (fun a s=>(a.1,a.2.1,a.2.2.1,a.2.2.2.1,a.2.2.2.2.1,a.2.2.2.2.2.1,s,())) (fun a I s hp=>F8_l2 a.1 a.2.1 a.2.2.1 a.2.2.2.1 a.2.2.2.2.1 a.2.2.2.2.2.1  K I s hp) (fun I2=>(L 75)) (by rfl) (by kernel_rfl) (by kernel_rfl))) (by rfl) (by kernel_rfl)) (L 15)))) (by kernel_rfl) (by kernel_rfl) (by kernel_rfl)
def F34 (x0:OA) (x1 x2 x3:Int) (hp:HP) (K:Kh):Prop:=
  (CF Tryz.prog 76 [(Value.int .i64 x3)] hp fun u_1 h_2=>(boolV u_1 fun q_3=>(ite2 (!q_3) (K (Value.int .i64 1) h_2) (CF Tryz.prog 77 [(Value.pointer x0),(Value.int .i64 x1)] h_2 fun u_4 h_5=>(intV u_4 .i64 fun i_6=>(ite2 (decide ((i_6:Int)<0)) (K (Value.int .i64 4) h_5) (ptrN x0 fun b_7 o_8=>(ldV (HP.cell h_5 b_7 (o_8+2)) fun v_9=>(slcV v_9 fun a_10 n_11 c_12=>((0≤(i_6:Int))∧((i_6:Int)<(n_11:Nat))∧(ptrN a_10 fun b_13 o_14=>(HP.st h_5 b_13 ((o_14+Int.toNat i_6*9)+7) (Value.int .i64 x2) fun h_15=>(ptrN x0 fun b_16 o_17=>(ldV (HP.cell h_15 b_16 (o_17+2)) fun v_18=>(slcV v_18 fun a_19 n_20 c_21=>((0≤(i_6:Int))∧((i_6:Int)<(n_20:Nat))∧(ptrN a_19 fun b_22 o_23=>(HP.st h_15 b_22 ((o_23+Int.toNat i_6*9)+8) (Value.int .i64 x3) fun h_24=>(K (Value.int .i64 0) h_24)))))))))))))))))))
theorem F34_ok (x0:OA) (x1 x2 x3:Int) (hp:HP) (K:Kh) (h:F34 x0 x1 x2 x3 hp K):CF Tryz.prog 34 [(Value.pointer x0),(Value.int .i64 x1),(Value.int .i64 x2),(Value.int .i64 x3)] hp K:=
  have L:∀ {Q} n,Snd Tryz.prog 34 (cAt Tryz.f34 (pth n)) Q (CW Tryz.prog 34 [] [] (cAt Tryz.f34 (pth n)) Q):=fun _=>Snd.leaf
  okF h Tryz.func34 (L 1) (by kernel_rfl) (by kernel_rfl) (by kernel_rfl)
def F36_j1 (k4 k7:List Value) (hp:HP) (K:Kh):Prop:=
  (ldL (cellsN k7 0 9) fun l_14=>(if List.length l_14=9 then (if List.all l_14 one=true then (if 0+List.length l_14≤List.length k4 then (ldL (cellsN (splice k4 0 l_14) 0 9) fun l_15=>(K (.tuple ⟨[(.agg ⟨l_15⟩),(Value.int .i64 0)]⟩) hp)) else False) else False) else False))
def F36 (x0:OA) (x1:Int) (hp:HP) (K:Kh):Prop:=
  (CF Tryz.prog 77 [(Value.pointer x0),(Value.int .i64 x1)] hp fun u_1 h_2=>(intV u_1 .i64 fun i_3=>(ite2 (decide ((i_3:Int)<0)) (if List.length [(Value.int .i64 0),(Value.int .i64 0),(Value.int .u8 0),(Value.int .u8 0),(Value.int .u8 0),(Value.int .u8 0),(Value.int .i64 0),(Value.int .i64 0),(Value.int .i64 0)]=9 then (if List.all [(Value.int .i64 0),(Value.int .i64 0),(Value.int .u8 0),(Value.int .u8 0),(Value.int .u8 0),(Value.int .u8 0),(Value.int .i64 0),(Value.int .i64 0),(Value.int .i64 0)] one=true then (if 0+List.length [(Value.int .i64 0),(Value.int .i64 0),(Value.int .u8 0),(Value.int .u8 0),(Value.int .u8 0),(Value.int .u8 0),(Value.int .i64 0),(Value.int .i64 0),(Value.int .i64 0)]≤List.length [(Value.int .i64 0),(Value.int .i64 0),(Value.int .u8 0),(Value.int .u8 0),(Value.int .u8 0),(Value.int .u8 0),(Value.int .i64 0),(Value.int .i64 0),(Value.int .i64 0)] then (ldL (cellsN (splice [(Value.int .i64 0),(Value.int .i64 0),(Value.int .u8 0),(Value.int .u8 0),(Value.int .u8 0),(Value.int .u8 0),(Value.int .i64 0),(Value.int .i64 0),(Value.int .i64 0)] 0 [(Value.int .i64 0),(Value.int .i64 0),(Value.int .u8 0),(Value.int .u8 0),(Value.int .u8 0),(Value.int .u8 0),(Value.int .i64 0),(Value.int .i64 0),(Value.int .i64 0)]) 0 9) fun l_4=>(K (.tuple ⟨[(.agg ⟨l_4⟩),(Value.int .i64 4)]⟩) h_2)) else False) else False) else False) (ptrN x0 fun b_5 o_6=>(ldV (HP.cell h_2 b_5 (o_6+2)) fun v_7=>(slcV v_7 fun a_8 n_9 c_10=>((0≤(i_3:Int))∧((i_3:Int)<(n_9:Nat))∧(ptrN a_8 fun b_11 o_12=>(ldL (HP.cellN h_2 b_11 (o_12+Int.toNat i_3*9) 9) fun l_13=>(if List.length l_13=9 then (if List.all l_13 one=true then (if 0+List.length l_13≤List.length [(Value.int .i64 0),(Value.int .i64 0),(Value.int .u8 0),(Value.int .u8 0),(Value.int .u8 0),(Value.int .u8 0),(Value.int .i64 0),(Value.int .i64 0),(Value.int .i64 0)] then ((∀ b_16:Nat,h_2 b_16=.none→(ptrN x0 fun b_17 o_18=>(ldV (HP.cell (HP.set h_2 b_16 (.cells 73 [] 0)) b_17 (o_18+2)) fun v_19=>(slcV v_19 fun a_20 n_21 c_22=>((0≤(i_3:Int))∧((i_3:Int)≤(c_22:Nat))∧(opS Tryz.prog (Builtin.append_ #[29,29] 29 ⟨[(Value.slice (some ⟨b_16,0,none⟩) 0 0),(Value.slice a_20 (Int.toNat i_3) c_22)]⟩) (HP.set h_2 b_16 (.cells 73 [] 0)) fun u_23 h_24=>(slcV u_23 fun a_25 n_26 c_27=>(ptrN x0 fun b_28 o_29=>(ldV (HP.cell h_24 b_28 (o_29+2)) fun v_30=>(slcV v_30 fun a_31 n_32 c_33=>((0≤((IntKind.wrap .i64 (i_3+1)):Int))∧(((IntKind.wrap .i64 (i_3+1)):Int)≤(n_32:Nat))∧(n_32≤c_33)∧(opS Tryz.prog (Builtin.append_ #[29,29] 29 ⟨[(Value.slice a_25 n_26 c_27),(Value.slice (sub0 a_31 c_33 (Int.toNat (IntKind.wrap .i64 (i_3+1))) 9) (n_32-Int.toNat (IntKind.wrap .i64 (i_3+1))) (c_33-Int.toNat (IntKind.wrap .i64 (i_3+1))))]⟩) h_24 fun u_34 h_35=>(slcV u_34 fun a_36 n_37 c_38=>(ptrN x0 fun b_39 o_40=>(HP.st h_35 b_39 (o_40+2) (Value.slice a_36 n_37 c_38) fun h_41=>(F36_j1 [(Value.int .i64 0),(Value.int .i64 0),(Value.int .u8 0),(Value.int .u8 0),(Value.int .u8 0),(Value.int .u8 0),(Value.int .i64 0),(Value.int .i64 0),(Value.int .i64 0)] (splice [(Value.int .i64 0),(Value.int .i64 0),(Value.int .u8 0),(Value.int .u8 0),(Value.int .u8 0),(Value.int .u8 0),(Value.int .i64 0),(Value.int .i64 0),(Value.int .i64 0)] 0 l_13) h_41  K))))))))))))))))∧(∀ b_42:Nat,h_2 b_42=.none→(ptrN x0 fun b_43 o_44=>(ldV (HP.cell (HP.set h_2 b_42 (.cells 73 [] 0)) b_43 (o_44+2)) fun v_45=>(slcV v_45 fun a_46 n_47 c_48=>((0≤(i_3:Int))∧((i_3:Int)≤(c_48:Nat))∧(ptrN x0 fun b_49 o_50=>(ldV (HP.cell (HP.set h_2 b_42 (.cells 73 [] 0)) b_49 (o_50+2)) fun v_51=>(slcV v_51 fun a_52 n_53 c_54=>(opS Tryz.prog (Builtin.append_ #[29,29] 29 ⟨[(Value.slice (some ⟨b_42,0,none⟩) 0 0),(Value.slice a_46 (Int.toNat i_3) c_48)]⟩) (HP.set h_2 b_42 (.cells 73 [] 0)) fun u_55 h_56=>(slcV u_55 fun a_57 n_58 c_59=>((0≤((IntKind.wrap .i64 (i_3+1)):Int))∧(((IntKind.wrap .i64 (i_3+1)):Int)≤(n_53:Nat))∧(n_53≤c_54)∧(opS Tryz.prog (Builtin.append_ #[29,29] 29 ⟨[(Value.slice a_57 n_58 c_59),(Value.slice (sub0 a_52 c_54 (Int.toNat (IntKind.wrap .i64 (i_3+1))) 9) (n_53-Int.toNat (IntKind.wrap .i64 (i_3+1))) (c_54-Int.toNat (IntKind.wrap .i64 (i_3+1))))]⟩) h_56 fun u_60 h_61=>(slcV u_60 fun a_62 n_63 c_64=>(ptrN x0 fun b_65 o_66=>(HP.st h_61 b_65 (o_66+2) (Value.slice a_62 n_63 c_64) fun h_67=>(F36_j1 [(Value.int .i64 0),(Value.int .i64 0),(Value.int .u8 0),(Value.int .u8 0),(Value.int .u8 0),(Value.int .u8 0),(Value.int .i64 0),(Value.int .i64 0),(Value.int .i64 0)] (splice [(Value.int .i64 0),(Value.int .i64 0),(Value.int .u8 0),(Value.int .u8 0),(Value.int .u8 0),(Value.int .u8 0),(Value.int .i64 0),(Value.int .i64 0),(Value.int .i64 0)] 0 l_13) h_67  K))))))))))))))))∧(ptrN x0 fun b_68 o_69=>(ptrN x0 fun b_70 o_71=>(ldV (HP.cell h_2 b_70 (o_71+2)) fun v_72=>(slcV v_72 fun a_73 n_74 c_75=>(∀ b_76:Nat,h_2 b_76=.none→(ldV (HP.cell (HP.set h_2 b_76 (.cells 73 [] 0)) b_68 (o_69+2)) fun v_77=>(slcV v_77 fun a_78 n_79 c_80=>((0≤(i_3:Int))∧((i_3:Int)≤(c_80:Nat))∧(opS Tryz.prog (Builtin.append_ #[29,29] 29 ⟨[(Value.slice (some ⟨b_76,0,none⟩) 0 0),(Value.slice a_78 (Int.toNat i_3) c_80)]⟩) (HP.set h_2 b_76 (.cells 73 [] 0)) fun u_81 h_82=>(slcV u_81 fun a_83 n_84 c_85=>((0≤((IntKind.wrap .i64 (i_3+1)):Int))∧(((IntKind.wrap .i64 (i_3+1)):Int)≤(n_74:Nat))∧(n_74≤c_75)∧(opS Tryz.prog (Builtin.append_ #[29,29] 29 ⟨[(Value.slice a_83 n_84 c_85),(Value.slice (sub0 a_73 c_75 (Int.toNat (IntKind.wrap .i64 (i_3+1))) 9) (n_74-Int.toNat (IntKind.wrap .i64 (i_3+1))) (c_75-Int.toNat (IntKind.wrap .i64 (i_3+1))))]⟩) h_82 fun u_86 h_87=>(slcV u_86 fun a_88 n_89 c_90=>(ptrN x0 fun b_91 o_92=>(HP.st h_87 b_91 (o_92+2) (Value.slice a_88 n_89 c_90) fun h_93=>(F36_j1 [(Value.int .i64 0),(Value.int .i64 0),(Value.int .u8 0),(Value.int .u8 0),(Value.int .u8 0),(Value.int .u8 0),(Value.int .i64 0),(Value.int .i64 0),(Value.int .i64 0)] (splice [(Value.int .i64 0),(Value.int .i64 0),(Value.int .u8 0),(Value.int .u8 0),(Value.int .u8 0),(Value.int .u8 0),(Value.int .i64 0),(Value.int .i64 0),(Value.int .i64 0)] 0 l_13) h_93  K))))))))))))))))∧(ptrN x0 fun b_94 o_95=>(ldV (HP.cell h_2 b_94 (o_95+2)) fun v_96=>(slcV v_96 fun a_97 n_98 c_99=>(∀ b_100:Nat,h_2 b_100=.none→((0≤(i_3:Int))∧((i_3:Int)≤(c_99:Nat))∧(opS Tryz.prog (Builtin.append_ #[29,29] 29 ⟨[(Value.slice (some ⟨b_100,0,none⟩) 0 0),(Value.slice a_97 (Int.toNat i_3) c_99)]⟩) (HP.set h_2 b_100 (.cells 73 [] 0)) fun u_101 h_102=>(slcV u_101 fun a_103 n_104 c_105=>(ptrN x0 fun b_106 o_107=>(ldV (HP.cell h_102 b_106 (o_107+2)) fun v_108=>(slcV v_108 fun a_109 n_110 c_111=>((0≤((IntKind.wrap .i64 (i_3+1)):Int))∧(((IntKind.wrap .i64 (i_3+1)):Int)≤(n_110:Nat))∧(n_110≤c_111)∧(opS Tryz.prog (Builtin.append_ #[29,29] 29 ⟨[(Value.slice a_103 n_104 c_105),(Value.slice (sub0 a_109 c_111 (Int.toNat (IntKind.wrap .i64 (i_3+1))) 9) (n_110-Int.toNat (IntKind.wrap .i64 (i_3+1))) (c_111-Int.toNat (IntKind.wrap .i64 (i_3+1))))]⟩) h_102 fun u_112 h_113=>(slcV u_112 fun a_114 n_115 c_116=>(ptrN x0 fun b_117 o_118=>(HP.st h_113 b_117 (o_118+2) (Value.slice a_114 n_115 c_116) fun h_119=>(F36_j1 [(Value.int .i64 0),(Value.int .i64 0),(Value.int .u8 0),(Value.int .u8 0),(Value.int .u8 0),(Value.int .u8 0),(Value.int .i64 0),(Value.int .i64 0),(Value.int .i64 0)] (splice [(Value.int .i64 0),(Value.int .i64 0),(Value.int .u8 0),(Value.int .u8 0),(Value.int .u8 0),(Value.int .u8 0),(Value.int .i64 0),(Value.int .i64 0),(Value.int .i64 0)] 0 l_13) h_119  K))))))))))))))))∧(ptrN x0 fun b_120 o_121=>(ldV (HP.cell h_2 b_120 (o_121+2)) fun v_122=>(slcV v_122 fun a_123 n_124 c_125=>(∀ b_126:Nat,h_2 b_126=.none→((0≤(i_3:Int))∧((i_3:Int)≤(c_125:Nat))∧(ptrN x0 fun b_127 o_128=>(ldV (HP.cell (HP.set h_2 b_126 (.cells 73 [] 0)) b_127 (o_128+2)) fun v_129=>(slcV v_129 fun a_130 n_131 c_132=>(opS Tryz.prog (Builtin.append_ #[29,29] 29 ⟨[(Value.slice (some ⟨b_126,0,none⟩) 0 0),(Value.slice a_123 (Int.toNat i_3) c_125)]⟩) (HP.set h_2 b_126 (.cells 73 [] 0)) fun u_133 h_134=>(slcV u_133 fun a_135 n_136 c_137=>((0≤((IntKind.wrap .i64 (i_3+1)):Int))∧(((IntKind.wrap .i64 (i_3+1)):Int)≤(n_131:Nat))∧(n_131≤c_132)∧(opS Tryz.prog (Builtin.append_ #[29,29] 29 ⟨[(Value.slice a_135 n_136 c_137),(Value.slice (sub0 a_130 c_132 (Int.toNat (IntKind.wrap .i64 (i_3+1))) 9) (n_131-Int.toNat (IntKind.wrap .i64 (i_3+1))) (c_132-Int.toNat (IntKind.wrap .i64 (i_3+1))))]⟩) h_134 fun u_138 h_139=>(slcV u_138 fun a_140 n_141 c_142=>(ptrN x0 fun b_143 o_144=>(HP.st h_139 b_143 (o_144+2) (Value.slice a_140 n_141 c_142) fun h_145=>(F36_j1 [(Value.int .i64 0),(Value.int .i64 0),(Value.int .u8 0),(Value.int .u8 0),(Value.int .u8 0),(Value.int .u8 0),(Value.int .i64 0),(Value.int .i64 0),(Value.int .i64 0)] (splice [(Value.int .i64 0),(Value.int .i64 0),(Value.int .u8 0),(Value.int .u8 0),(Value.int .u8 0),(Value.int .u8 0),(Value.int .i64 0),(Value.int .i64 0),(Value.int .i64 0)] 0 l_13) h_145  K))))))))))))))))∧(ptrN x0 fun b_146 o_147=>(ldV (HP.cell h_2 b_146 (o_147+2)) fun v_148=>(slcV v_148 fun a_149 n_150 c_151=>((0≤(i_3:Int))∧((i_3:Int)≤(c_151:Nat))∧(ptrN x0 fun b_152 o_153=>(ldV (HP.cell h_2 b_152 (o_153+2)) fun v_154=>(slcV v_154 fun a_155 n_156 c_157=>(∀ b_158:Nat,h_2 b_158=.none→(opS Tryz.prog (Builtin.append_ #[29,29] 29 ⟨[(Value.slice (some ⟨b_158,0,none⟩) 0 0),(Value.slice a_149 (Int.toNat i_3) c_151)]⟩) (HP.set h_2 b_158 (.cells 73 [] 0)) fun u_159 h_160=>(slcV u_159 fun a_161 n_162 c_163=>((0≤((IntKind.wrap .i64 (i_3+1)):Int))∧(((IntKind.wrap .i64 (i_3+1)):Int)≤(n_156:Nat))∧(n_156≤c_157)∧(opS Tryz.prog (Builtin.append_ #[29,29] 29 ⟨[(Value.slice a_161 n_162 c_163),(Value.slice (sub0 a_155 c_157 (Int.toNat (IntKind.wrap .i64 (i_3+1))) 9) (n_156-Int.toNat (IntKind.wrap .i64 (i_3+1))) (c_157-Int.toNat (IntKind.wrap .i64 (i_3+1))))]⟩) h_160 fun u_164 h_165=>(slcV u_164 fun a_166 n_167 c_168=>(ptrN x0 fun b_169 o_170=>(HP.st h_165 b_169 (o_170+2) (Value.slice a_166 n_167 c_168) fun h_171=>(F36_j1 [(Value.int .i64 0),(Value.int .i64 0),(Value.int .u8 0),(Value.int .u8 0),(Value.int .u8 0),(Value.int .u8 0),(Value.int .i64 0),(Value.int .i64 0),(Value.int .i64 0)] (splice [(Value.int .i64 0),(Value.int .i64 0),(Value.int .u8 0),(Value.int .u8 0),(Value.int .u8 0),(Value.int .u8 0),(Value.int .i64 0),(Value.int .i64 0),(Value.int .i64 0)] 0 l_13) h_171  K))))))))))))))))) else False) else False) else False))))))))))
theorem F36_ok (x0:OA) (x1:Int) (hp:HP) (K:Kh) (h:F36 x0 x1 hp K):CF Tryz.prog 36 [(Value.pointer x0),(Value.int .i64 x1)] hp K:=
  have L:∀ {Q} n,Snd Tryz.prog 41 (cAt Tryz.f36 (pth n)) Q (CW Tryz.prog 41 [4,7] [(5,[(1,5),(1,12),(8,12)],[([true,false,true],false,[1,8,12,1]),([false,false,true],false,[1,8,12,1]),([true,true,true],true,[0,1,2,3,4,5,6,7,8,9,10,11,12,13,14,15,16,17,18,19]),([true,true,false],true,[0,1,2,3,4,5,6,7,9,10,11,12,8,13,14,15,16,17,18,19]),([true,false,false],true,[0,2,3,4,6,9,10,11,12,1,5,7,8,13,14,15,16,17,18,19]),([false,true,true],true,[0,2,3,4,5,1,6,7,8,9,10,11,12,13,14,15,16,17,18,19]),([false,true,false],true,[0,2,3,4,5,1,6,7,9,10,11,12,8,13,14,15,16,17,18,19]),([false,false,false],true,[0,2,3,4,5,6,7,9,10,11,12,1,8,13,14,15,16,17,18,19])])] (cAt Tryz.f36 (pth n)) Q):=fun _=>Snd.leaf
  okF h Tryz.func36 (Snd.seq (L 2) (Snd.seq (L 5) (Snd.seq (L 11) (Snd.seq (L 23) (Snd.jn [(4,.r 4 0),(7,.r 7 0),(4,.c 73),(7,.c 73)] (fun a hp=>F36_j1 a.1 a.2.1 hp  K) (L 47) (L 63) (by rfl) (by kernel_rfl)))))) (by kernel_rfl) (by kernel_rfl) (by kernel_rfl)
end Go.Proofs
set_option linter.unusedVariables false
set_option linter.unusedSimpArgs false
set_option maxRecDepth 20000
namespace Go.Proofs
open Go Go.HL
open Go.Exp (Th tlt Ord setW dropW insW)
section
variable {hp:HP} {K:Value→HP→Prop}
theorem R31 {y:Ss} (hK:K (.bool true) hp):CF Tryz.prog 31 [.agg ⟨ssc y⟩,.agg ⟨ssc y⟩] hp K:=by
  refine F31_ok (ssc y) (ssc y) hp K ?_
  unfold F31
  simp only [ssc_id,ssc_bnd,ssc_peer,ssc_state,ssc_due,ldV_some,ldL_some,intV_int,show ∀ z:Int,(z==z)=true from fun z=>by simp,ite2_true]
  refine eq75 ?_
  rw [decide_eq_true rfl,ite2_true]
  exact hK
theorem R8 {a1 a2:Option Addr} {c1 c2:Nat} {L:List Ss} (h1:Shows hp a1 L.length 9 (L.flatMap ssc)) (h2:Shows hp a2 L.length 9 (L.flatMap ssc)) (hsm:L.length≤100000) (hK:K (.bool true) hp) :
    CF Tryz.prog 8 [.slice a1 L.length c1,.slice a2 L.length c2] hp K:=by
  refine F8_ok a1 L.length c1 a2 L.length c2 hp K ?_
  unfold F8
  rw [show (((L.length:Nat):Int) != ((L.length:Nat):Int))=false by simp,ite2_false]
  unfold F8_j1
  refine LoopP.by (J:=fun k (z:Int) hp'=>hp'=hp∧∃ n:Nat,z=n∧n+k=L.length) ?_ (n:=L.length) ⟨rfl,0,rfl,by omega⟩
  rintro I k z hp' ⟨rfl,n,rfl,hnk⟩ hI
  unfold F8_l2
  by_cases hn:n<L.length
  · obtain ⟨b,o,rfl,g⟩:=h1.get ssc_len rfl hn
    obtain ⟨b2,o2,rfl,g2⟩:=h2.get ssc_len rfl hn
    rw [decide_eq_true (by omega:(n:Int)<(L.length:Nat)),ite2_true]
    refine ⟨by omega,by omega,?_⟩
    rw [ptrN_some,Int.toNat_natCast,g,ldL_some]
    refine ⟨by omega,by omega,?_⟩
    rw [ptrN_some,g2,ldL_some]
    refine R31 ?_
    rw [boolV_bool,Bool.not_true,ite2_false,show IntKind.wrap .i64 ((n:Int)+1)=((n+1:Nat):Int) from wi (by omega) (by omega)]
    exact hI (k-1) _ _ (by omega) ⟨rfl,n+1,rfl,by omega⟩
  · rw [decide_eq_false (by omega:¬ (n:Int)<(L.length:Nat)),ite2_false]
    exact hK
end
end Go.Proofs
set_option linter.unusedVariables false
set_option linter.unusedSimpArgs false
set_option maxRecDepth 20000
namespace Go.Proofs
open Go Go.HL
open Go.Exp (Th tlt Ord setW dropW insW)
section
variable {hp:HP} {ps:Nat→HP} {r mx last c:Nat} {a:Option Addr} {L:List Ss} {K:Value→HP→Prop}
theorem cell_sub {hq:HP} (hs:HSub hq hp) {b o:Nat} {v:Value} (h:hq.cell b o=some v):hp.cell b o=some v:=by
  unfold HP.cell at h ⊢
  rcases hs b with e | e
  · rw [e] at h; cases h
  · rw [← e]; exact h
theorem RefL.sub {hq:HP} (h:RefL hq r mx last a c L) (hs:HSub hq hp):RefL hp r mx last a c L:=
  ⟨cell_sub hs h.1,cell_sub hs h.2.1,cell_sub hs h.2.2.1,h.2.2.2.sub hs⟩
set_option maxHeartbeats 2000000 in
theorem R28 {i j:Nat} {bn:Int} (hP:Parts hp ps) (hij:j≠i) (hj:∀ b,ps j b=.none) (h:RefL (ps i) r mx last a c L) (hsm:L.length≤65535)
    (hK:∀ rr hp' a' c',Row rr a' (ofE bn L).length c' 73 9 ((ofE bn L).flatMap ssc)→Parts hp' (pu ps j rr)→K (.slice a' (ofE bn L).length c') hp'):CF Tryz.prog 28 [ptr r 0,.int .i64 bn] hp K:=by
  refine F28_ok _ bn hp K ?_
  unfold F28 F28_j2
  refine LoopP.by (J:=fun k (st:Option Addr × Nat × Nat × Int) hp'=>∃ (n:Nat) (rr:HP),st.2.2.2=n∧n+k=L.length∧Parts hp' (pu ps j rr)∧Row rr st.1 st.2.1 st.2.2.1 73 9 ((ofE bn (L.take n)).flatMap ssc)∧st.2.1=(ofE bn (L.take n)).length) ?_ (n:=L.length) ⟨0,ps j,rfl,by omega,?_,.inl ⟨rfl,rfl,rfl,rfl⟩,rfl⟩
  rotate_left
  · have e:pu ps j (ps j)=ps:=by
      funext k
      by_cases h:k=j
      · subst h; rw [pu_eq]
      · rw [pu_ne _ _ h]
    rw [e]; exact hP
  rintro I k ⟨a1,n1,c1,z⟩ hp' ⟨n,rr,hz,hnk,P,hrow,hlen⟩ hI
  simp only at hz hrow hlen
  subst hz
  subst hlen
  unfold F28_l3
  have h':RefL hp' r mx last a c L:=h.sub (P.at i (by rw [pu_ne _ _ hij.symm]))
  have r2:=h'.2.2.1
  simp only [ptrN_some,Nat.zero_add,r2,ldV_some,slcV_slice]
  by_cases hn:n<L.length
  · obtain ⟨b,o,rfl,g,gd⟩:=h'.at hn
    have gd1:=gd 1 _ (ssc_bnd _)
    have hof:ofE bn (L.take (n+1))=ofE bn (L.take n)++ofE bn [L[n]]:=by
      rw [List.take_succ_eq_append_getElem hn]
      unfold ofE
      rw [List.filter_append]
    have hle:(ofE bn (L.take n)).length≤n:=by
      have h1:(ofE bn (L.take n)).length≤(L.take n).length:=List.length_filter_le _ _
      rw [List.length_take] at h1; omega
    have w1:IntKind.wrap .i64 ((n:Int)+1)=((n+1:Nat):Int):=wi (by omega) (by omega)
    rw [decide_eq_true (by omega:(n:Int)<(L.length:Nat)),ite2_true]
    refine ⟨by omega,by omega,?_⟩
    simp only [ptrN_some,Int.toNat_natCast,gd1,ldV_some,intV_int]
    by_cases he:L[n].bnd=bn
    · rw [show (L[n].bnd==bn)=true by simp [he],ite2_true]
      have hone:ofE bn [L[n]]=[L[n]]:=by unfold ofE; rw [List.filter_cons,decide_eq_true he]; rfl
      refine ⟨by omega,by omega,?_⟩
      rw [g,ldL_some]
      refine ifI (ssc_len _) ?_
      refine fun (b3:Nat) (hb3:hp' b3=Ent.none)=>?_
      rw [ss_spl rfl]
      have P2:Parts (hp'.set b3 (.cells 73 (ssc L[n]) 0)) (pu ps j rr):=P.weak (HSub.set_fresh _ _ hb3)
      refine opS_appP (e:=73) (size:=9) (bytes:=48) (by kernel_rfl) P2 j (s:=a1) (n:=(ofE bn (L.take n)).length) (c:=c1) (by rw [pu_eq]; exact hrow)
        (ys:=ssc L[n]) (.inr ⟨b3,0,rfl,by rw [HP.cellN_of (HP.set_eq ..)]; exact cellsN_all rfl⟩) (ssc_one _) (by simp [ssc]) (by omega) (by omega) ?_
      intro a2 c2 hp2 rr2 hr P3
      rw [pu_pu] at P3
      rw [slcV_slice]
      unfold F28_j4
      rw [w1]
      refine hI (k-1) _ _ (by omega) ⟨n+1,rr2,rfl,by omega,P3,?_,?_⟩
      · rw [hof,hone,List.flatMap_append]
        simpa using hr
      · rw [hof,hone,List.length_append]; rfl
    · rw [show (L[n].bnd==bn)=false by simp [he],ite2_false]
      have hone:ofE bn [L[n]]=[]:=by unfold ofE; rw [List.filter_cons,decide_eq_false he]; rfl
      unfold F28_j4
      rw [w1]
      refine hI (k-1) _ _ (by omega) ⟨n+1,rr,rfl,by omega,P,?_,?_⟩
      · rw [hof,hone,List.append_nil]; exact hrow
      · rw [hof,hone,List.append_nil]
  · rw [decide_eq_false (by omega:¬ (n:Int)<(L.length:Nat)),ite2_false]
    unfold F28_j1
    rw [List.take_of_length_le (by omega)] at hrow ⊢
    exact hK rr hp' a1 c1 hrow P
end
end Go.Proofs
set_option linter.unusedVariables false
set_option linter.unusedSimpArgs false
namespace Go.Proofs
open Go Go.HL
theorem ixE_find (p:Ss→Bool) (L:List Ss):(ixE p L=-1∧L.find? p=none)∨∃ (n:Nat) (h:n<L.length),ixE p L=n∧L.find? p=some L[n]:=by
  unfold ixE
  cases hf:L.findIdx? p with
  | none=>
    refine .inl ⟨rfl,?_⟩
    rw [List.find?_eq_none]
    intro x hx
    rw [List.findIdx?_eq_none_iff.1 hf x hx]; decide
  | some n=>
    obtain ⟨h,hp,hno⟩:=List.findIdx?_eq_some_iff_getElem.1 hf
    refine .inr ⟨n,h,rfl,?_⟩
    rw [List.find?_eq_some_iff_getElem]
    exact ⟨hp,n,h,rfl,fun j hj=>by simpa using hno j hj⟩
theorem ixE_ge (p:Ss→Bool) (L:List Ss):ixE p L≥0↔(L.find? p).isSome=true:=by
  rcases ixE_find p L with ⟨h1,h2⟩ | ⟨n,h,h1,h2⟩
  · rw [h1,h2]; simp
  · rw [h1,h2]; simp
/-- The document's Room is Room. -/
theorem room_same (mx:Nat) (bn:Int) (p:Q × Int) (L:List Ss):(if ixE (fun y=>decide (y.bnd=bn∧y.peer=p)) L≥0 then (5:Int) else if L.length≥mx then 6 else 0)=roomE mx bn p L:=by
  unfold roomE findK
  by_cases h:(L.find? fun y=>decide (y.bnd=bn∧y.peer=p)).isSome=true
  · rw [if_pos ((ixE_ge _ _).2 h),if_pos h]
  · rw [if_neg fun e=>h ((ixE_ge _ _).1 e),if_neg h]
/-- The document's Knows is Knows. -/
theorem knows_same (bn:Int) (ad:Q) (L:List Ss):(L.any fun y=>decide (y.bnd=bn∧y.peer.1=ad))=knowsE bn ad L:=by
  unfold knowsE ofE
  rw [List.any_filter]
  congr 1
  funext y
  by_cases h1:y.bnd=bn <;> by_cases h2:y.peer.1=ad <;> simp [h1,h2]
end Go.Proofs
set_option linter.unusedVariables false
set_option linter.unusedSimpArgs false
set_option maxRecDepth 20000
namespace Go.Proofs
open Go Go.HL
open Go.Exp (Th tlt Ord setW dropW insW)
/-- The document's table, of a list of sessions. -/
def RefR (hq:HP) (r mx last:Nat) (L:List Ss):Prop:=
  ∃ (a:Option Addr) (c:Nat),hq r=.cells 31 [.int .i64 mx,.int .i64 last,.slice a L.length c] 0∧Row hq a L.length c 73 9 (L.flatMap ssc)
theorem fm_len:∀ L:List Ss,(L.flatMap ssc).length=L.length*9
  | []=>rfl
  | x::L=>by rw [List.flatMap_cons,List.length_append,fm_len L,ssc_len,List.length_cons]; omega
/-- One cell of one of a list's. -/
theorem fm_set:∀ (L:List Ss) {i k:Nat} {v:Value} {y:Ss} (hi:i<L.length),k<9→(ssc L[i]).set k v=ssc y→(L.flatMap ssc).set (i*9+k) v=(L.set i y).flatMap ssc
  | x::L,0,k,v,y,hi,hk,h=>by
    rw [List.flatMap_cons,List.set_cons_zero,List.flatMap_cons,Nat.zero_mul,Nat.zero_add,List.set_append_left _ _ (by rw [ssc_len]; exact hk)]
    rw [show (ssc x).set k v=ssc y from h]
  | x::L,i+1,k,v,y,hi,hk,h=>by
    rw [List.flatMap_cons,List.set_cons_succ,List.flatMap_cons,List.set_append_right _ _ (by rw [ssc_len]; omega),ssc_len,show (i+1)*9+k-9=i*9+k by omega]
    rw [fm_set L (by simpa using hi) hk (by simpa using h)]
theorem upd_set:∀ {L:List Ss} {n:Nat} {i st due:Int} (hn:n<L.length),(L.map (·.id)).Nodup→L[n].id=i→updS i st due L=L.set n { L[n] with state:=st,due:=due }
  | x::L,0,i,st,due,hn,hd,h=>by
    have hx:x.id=i:=h
    have h2:x.id ∉ L.map (·.id):=(List.nodup_cons.1 (show (x.id::L.map (·.id)).Nodup from hd)).1
    unfold updS
    rw [List.map_cons,List.set_cons_zero]
    congr 1
    · unfold setE1; rw [if_pos hx]; rfl
    · conv=>rhs; rw [← List.map_id L]
      refine List.map_congr_left fun y hy=>?_
      unfold setE1
      rw [if_neg fun e=>h2 (by rw [hx,← e]; exact List.mem_map.2 ⟨y,hy,rfl⟩)]; rfl
  | x::L,n+1,i,st,due,hn,hd,h=>by
    have hn':n<L.length:=by simpa using hn
    have hi:L[n].id=i:=by simpa using h
    have hd2:=List.nodup_cons.1 (show (x.id::L.map (·.id)).Nodup from hd)
    have hx:x.id≠i:=fun e=>hd2.1 (by rw [e,← hi]; exact List.mem_map.2 ⟨L[n],List.getElem_mem _,rfl⟩)
    unfold updS
    rw [List.map_cons,List.set_cons_succ]
    congr 1
    · unfold setE1; rw [if_neg hx]
    · exact upd_set hn' hd2.2 hi
theorem cut_filterE {L:List Ss} (hn:(L.map (·.id)).Nodup) {b:Nat} (hb:b<L.length):L.take b++L.drop (b+1)=L.filter fun z=>decide (z.id≠L[b].id):=by
  have e:L=L.take b++L[b]::L.drop (b+1):=by rw [← List.drop_eq_getElem_cons hb,List.take_append_drop]
  have key:∀ (y:Ss) (A B:List Ss),((A++y::B).map (·.id)).Nodup→A++B=(A++y::B).filter fun z=>decide (z.id≠y.id):=by
    intro y A B h
    rw [List.map_append,List.map_cons] at h
    have h2:=List.nodup_append.1 h
    have h3:=List.nodup_cons.1 h2.2.1
    rw [List.filter_append,List.filter_cons]
    have:decide (y.id≠y.id)=false:=by simp
    rw [this]
    simp only [Bool.false_eq_true,if_false]
    congr 1
    · refine (List.filter_eq_self.2 fun z hz=>?_).symm
      have:=h2.2.2 _ (List.mem_map.2 ⟨z,hz,rfl⟩) y.id (by simp)
      simpa using this
    · refine (List.filter_eq_self.2 fun z hz=>?_).symm
      have:z.id≠y.id:=fun e'=>h3.1 (e'▸List.mem_map.2 ⟨z,hz,rfl⟩)
      simpa using this
  have:=key L[b] (L.take b) (L.drop (b+1)) (by rw [← e]; exact hn)
  rw [← e] at this
  exact this
section
variable {hq hp:HP} {r mx last:Nat} {L:List Ss} {K:Value→HP→Prop}
theorem RefR.sub (h:RefR hq r mx last L) (hs:HSub hq hp):RefR hp r mx last L:=by
  obtain ⟨a,c,h1,h2⟩:=h
  exact ⟨a,c,hs.cells h1,h2.sub hs⟩
theorem RefR.lst (h:RefR hq r mx last L):∃ a c,RefL hq r mx last a c L:=by
  obtain ⟨a,c,h1,h2⟩:=h
  exact ⟨a,c,HP.cell_of h1,HP.cell_of h1,HP.cell_of h1,h2.shows⟩
theorem R34 {i st due:Int} (h:RefR hq r mx last L) (hn:(L.map (·.id)).Nodup) (hsm:L.length≤65535) (hno:setE i due L≠0→K (.int .i64 (setE i due L)) hq)
    (hyes:setE i due L=0→∀ hq',RefR hq' r mx last (updS i st due L)→K (.int .i64 0) hq'):CF Tryz.prog 34 [ptr r 0,.int .i64 i,.int .i64 st,.int .i64 due] hq K:=by
  refine F34_ok _ i st due hq K ?_
  unfold F34
  refine R76 ?_
  rw [boolV_bool]
  by_cases hd:due<0∨due > 4611686018427387904
  · have e:setE i due L=1:=by unfold setE; rw [if_pos hd]
    rw [decide_eq_false (fun h=>h hd),Bool.not_false,ite2_true]
    rw [e] at hno
    exact hno (by decide)
  rw [decide_eq_true hd,Bool.not_true,ite2_false]
  obtain ⟨a,c,hl⟩:=h.lst
  refine R77 hl (by omega) ?_
  rw [intV_int]
  rcases ixE_find (fun y=>decide (y.id=i)) L with ⟨h1,h2⟩ | ⟨n,hnl,h1,h2⟩
  · have e:setE i due L=4:=by
      unfold setE findN; rw [if_neg hd,h2]; rfl
    rw [h1,decide_eq_true (by omega),ite2_true]
    rw [e] at hno
    exact hno (by decide)
  have e0:setE i due L=0:=by
    unfold setE findN; rw [if_neg hd,h2]; rfl
  have hid:L[n].id=i:=by simpa using List.find?_some h2
  rw [h1,decide_eq_false (by omega),ite2_false]
  obtain ⟨a',c',g1,g2⟩:=h
  have gc:hq.cell r 2=some (.slice a' L.length c'):=HP.cell_of g1
  rcases g2 with ⟨_,e,_⟩ | ⟨b,rfl,hc,hlen,gb⟩
  · omega
  have hbr:b≠r:=fun e=>by rw [e,g1] at gb; cases gb
  simp only [ptrN_some,Nat.zero_add,gc,ldV_some,slcV_slice,Int.toNat_natCast]
  refine ⟨by omega,by omega,HP.st_at gb (by omega) ?_⟩
  rw [fm_set L (y:={ L[n] with state:=st }) hnl (by omega) rfl]
  have gr:(hq.set b (.cells 73 ((L.set n { L[n] with state:=st }).flatMap ssc) ((c' - L.length)*9))).cell r 2=some (.slice (some ⟨b,0,none⟩) L.length c'):=HP.cell_of ((HP.set_ne _ _ hbr.symm).trans g1)
  rw [gr]
  simp only [ldV_some,slcV_slice]
  refine ⟨by omega,by omega,HP.st_at (HP.set_eq ..) (by rw [fm_len,List.length_set]; omega) ?_⟩
  rw [Nat.zero_add]
  rw [fm_set _ (y:={ L[n] with state:=st,due:=due }) (by simpa using hnl) (by omega) (by simp; rfl),List.set_set]
  refine hyes e0 _ ⟨some ⟨b,0,none⟩,c',?_,?_⟩
  · rw [HP.set_ne _ _ hbr.symm,HP.set_ne _ _ hbr.symm]
    rw [show (updS i st due L).length=L.length by unfold updS; simp]; exact g1
  · rw [upd_set hnl hn hid]
    exact .inr ⟨b,rfl,by simpa using hc,fm_len _,by rw [HP.set_eq,List.length_set]⟩
set_option maxHeartbeats 4000000 in
theorem R36 {i:Int} (h:RefR hq r mx last L) (hl:L.length≤65535) (hn:(L.map (·.id)).Nodup) (hno:findN i L=none→K (.tuple ⟨[.agg ⟨ssc ss0⟩,.int .i64 4]⟩) hq)
    (hyes:∀ y,findN i L=some y→∀ hq',RefR hq' r mx last (L.filter fun z=>decide (z.id≠i))→K (.tuple ⟨[.agg ⟨ssc y⟩,.int .i64 0]⟩) hq'):CF Tryz.prog 36 [ptr r 0,.int .i64 i] hq K:=by
  refine F36_ok _ i hq K ?_
  unfold F36
  obtain ⟨aa,cc,hll⟩:=h.lst
  refine R77 hll (by omega) ?_
  rw [intV_int,ssz]
  rcases ixE_find (fun y=>decide (y.id=i)) L with ⟨h1,h2⟩ | ⟨n,hi,h1,h2⟩
  · rw [h1,decide_eq_true (by omega),ite2_true]
    refine ifI (ssc_len _) (ifI (ssc_one _) (ifI (by simp [ssc_len]) ?_))
    rw [ss_spl rfl,ssc_cells,ldL_some]
    exact hno h2
  rw [h1,decide_eq_false (by omega),ite2_false]
  have hid:L[n].id=i:=by simpa using List.find?_some h2
  have hyes:=hyes L[n] h2
  rw [← hid,← cut_filterE hn hi] at hyes
  clear hno h1 h2 hll hid
  obtain ⟨a,c,h1,h2⟩:=h
  have hc2:∀ {hp:HP},HSub hq hp→hp.cell r 2=some (.slice a L.length c):=fun hs=>HP.cell_of (hs.cells h1)
  have hc20:=hc2 (HSub.refl hq)
  have hcn:L.length≤c:=by
    rcases h2 with ⟨_,h0,h3,_⟩ | ⟨_,_,h3,_,_⟩
    · omega
    · exact h3
  obtain ⟨b,off,hab,g⟩:=h2.shows.get ssc_len rfl hi
  have wi1:IntKind.wrap .i64 ((n:Int)+1)=((n+1:Nat):Int):=wi (by omega) (by omega)
  simp only [ptrN_some,Nat.zero_add,hc20,ldV_some,slcV_slice,wi1,Int.toNat_natCast]
  refine ⟨by omega,by omega,?_⟩
  rw [hab]
  simp only [ptrN_some,Int.toNat_natCast,g,ldL_some,ss_spl (ssc_len _)]
  rw [← hab]
  refine ifI (ssc_len _) (ifI (ssc_one _) (ifI (by simp [ssc_len]) ?_))
  have fin:∀ hp2 a2 c2,HSub hq hp2→(∀ b',a2=some ⟨b',0,none⟩→hq b'=.none)→Row hp2 a2 (L.take n++L.drop (n+1)).length c2 73 9 ((L.take n++L.drop (n+1)).flatMap ssc) →
      HP.st hp2 r 2 (.slice a2 (L.take n++L.drop (n+1)).length c2) fun h=>F36_j1 (ssc ss0) (ssc L[n]) h K:=by
    intro hp2 a2 c2 hs hf hrow
    refine HP.st_at (hs.cells h1) (by simp) ?_
    unfold F36_j1
    rw [ssc_cells,ldL_some]
    refine ifI (ssc_len _) (ifI (ssc_one _) (ifI (by simp [ssc_len]) ?_))
    rw [ss_spl (ssc_len _),ssc_cells,ldL_some]
    refine hyes _ ⟨a2,c2,by rw [HP.set_eq]; rfl,?_⟩
    rcases hrow with h | ⟨b,r1,r2,r3,r4⟩
    · exact .inl h
    · exact .inr ⟨b,r1,r2,r3,by rw [HP.set_ne _ _ (fun e=>by have:=hf b r1; rw [e,h1] at this; cases this)]; exact r4⟩
  have hlen:(L.take n++L.drop (n+1)).length=n+(L.length-(n+1)):=by simp; omega
  have app:∀ (b0:Nat) {X:Value→HP→Prop},hq b0=.none→(∀ hp2 a2 c2,HSub hq hp2→(∀ b',a2=some ⟨b',0,none⟩→hq b'=.none)→Row hp2 a2 n c2 73 9 ((L.take n).flatMap ssc)→X (.slice a2 (0+n) c2) hp2) →
      opS Tryz.prog (Builtin.append_ #[29,29] 29 ⟨[.slice (some ⟨b0,0,none⟩) 0 0,.slice a n c]⟩) (hq.set b0 (.cells 73 [] 0)) X:=by
    intro b0 X hb0 hX
    have s0:=HSub.set_fresh hq (.cells 73 [] 0) hb0
    have hr0:Row (hq.set b0 (.cells 73 [] 0)) (some ⟨b0,0,none⟩) 0 0 73 9 []:=.inr ⟨b0,rfl,Nat.le_refl _,rfl,by rw [HP.set_eq]⟩
    have hsh:=(h2.sub s0).shows.take ssc_len rfl (Nat.le_of_lt hi)
    refine opS_appF (e:=73) (size:=9) (bytes:=48) (by kernel_rfl) hr0 hsh (all_flat ssc_one _) (by omega) (by omega) ?_
    intro s2 c2 hp2 hrow2 hf2
    obtain ⟨k1,k2⟩:=hf2 hq s0 (fun b' e=>by cases e; exact hb0)
    exact hX hp2 s2 c2 k1 k2 (by rw [Nat.zero_add] at hrow2; simpa using hrow2)
  have app2:∀ (hp2:HP) (a2:Option Addr) (c2:Nat) {X:Value→HP→Prop},HSub hq hp2→(∀ b',a2=some ⟨b',0,none⟩→hq b'=.none)→Row hp2 a2 n c2 73 9 ((L.take n).flatMap ssc) →
      (∀ hp3 a3 c3,HSub hq hp3→(∀ b',a3=some ⟨b',0,none⟩→hq b'=.none)→Row hp3 a3 (L.take n++L.drop (n+1)).length c3 73 9 ((L.take n++L.drop (n+1)).flatMap ssc)→X (.slice a3 (L.take n++L.drop (n+1)).length c3) hp3) →
      opS Tryz.prog (Builtin.append_ #[29,29] 29 ⟨[.slice a2 n c2,.slice (sub0 a c (n+1) 9) (L.length-(n+1)) (c-(n+1))]⟩) hp2 X:=by
    intro hp2 a2 c2 X hs hf hrow hX
    have hsh:=Shows.subF (enc:=ssc) (i:=n+1) (h2.sub hs).shows ssc_len rfl hcn (by omega)
    refine opS_appF (e:=73) (size:=9) (bytes:=48) (by kernel_rfl) hrow hsh (all_flat ssc_one _) (by omega) (by omega) ?_
    intro s3 c3 hp3 hrow3 hf3
    obtain ⟨k1,k2⟩:=hf3 hq hs hf
    rw [← List.flatMap_append,← hlen] at hrow3
    rw [← hlen]
    exact hX hp3 s3 c3 k1 k2 hrow3
  repeat' apply And.intro
  all_goals try omega
  all_goals
    try simp only [ptrN_some,Nat.zero_add,hc20,ldV_some,slcV_slice]
    refine fun (b0:Nat) (hb0:hq b0=Ent.none)=>?_
    have s0:=HSub.set_fresh hq (.cells 73 [] 0) hb0
    have hc21:=hc2 s0
    try simp only [ptrN_some,Nat.zero_add,hc21,ldV_some,slcV_slice]
    first
      | refine ⟨by omega,by omega,?_⟩
      | skip
    try simp only [ptrN_some,Nat.zero_add,hc21,ldV_some,slcV_slice]
    refine app b0 hb0 fun hp2 a2 c2 hs2 hf2 hrow2=>?_
    have hc22:=hc2 hs2
    rw [Nat.zero_add]
    simp only [ptrN_some,Nat.zero_add,hc22,ldV_some,slcV_slice]
    refine ⟨by omega,by omega,hcn,?_⟩
    refine app2 hp2 a2 c2 hs2 hf2 hrow2 fun hp3 a3 c3 hs3 hf3 hrow3=>?_
    simp only [slcV_slice,ptrN_some,Nat.zero_add]
    exact fin hp3 a3 c3 hs3 hf3 hrow3
end
end Go.Proofs
set_option linter.unusedVariables false
set_option maxRecDepth 20000
namespace Go.Proofs
open Go Go.HL
def F32_j2 (k10 k13:List Value) (hp:HP) (K:Kh):Prop:=
  (ldL (cellsN k13 0 9) fun l_17=>(if List.length l_17=9 then (if List.all l_17 one=true then (if 0+List.length l_17≤List.length k10 then (ldL (cellsN (splice k10 0 l_17) 0 9) fun l_18=>(K (.tuple ⟨[(.agg ⟨l_18⟩),(Value.int .i64 0)]⟩) hp)) else False) else False) else False))
def F32_j1 (x0:OA) (k10 k13:List Value) (hp:HP) (K:Kh):Prop:=
  ((∀ b_19:Nat,hp b_19=.none→(ptrN x0 fun b_20 o_21=>(ldV (HP.cell (HP.set hp b_19 (.cells 73 [] 0)) b_20 (o_21+2)) fun v_22=>(slcV v_22 fun a_23 n_24 c_25=>(opS Tryz.prog (Builtin.append_ #[29,29] 29 ⟨[(Value.slice (some ⟨b_19,0,none⟩) 0 0),(Value.slice a_23 n_24 c_25)]⟩) (HP.set hp b_19 (.cells 73 [] 0)) fun u_26 h_27=>(slcV u_26 fun a_28 n_29 c_30=>(ldL (cellsN k13 0 9) fun l_31=>(if List.length l_31=9 then (∀ b_32:Nat,h_27 b_32=.none→(opS Tryz.prog (Builtin.append_ #[29,29] 29 ⟨[(Value.slice a_28 n_29 c_30),(Value.slice (some ⟨b_32,0,none⟩) 1 1)]⟩) (HP.set h_27 b_32 (.cells 73 (splice [(Value.int .i64 0),(Value.int .i64 0),(Value.int .u8 0),(Value.int .u8 0),(Value.int .u8 0),(Value.int .u8 0),(Value.int .i64 0),(Value.int .i64 0),(Value.int .i64 0)] 0 l_31) 0)) fun u_33 h_34=>(slcV u_33 fun a_35 n_36 c_37=>(ptrN x0 fun b_38 o_39=>(HP.st h_34 b_38 (o_39+2) (Value.slice a_35 n_36 c_37) fun h_40=>(F32_j2 k10 k13 h_40  K)))))) else False))))))))∧(∀ b_41:Nat,hp b_41=.none→(ptrN x0 fun b_42 o_43=>(ldV (HP.cell (HP.set hp b_41 (.cells 73 [] 0)) b_42 (o_43+2)) fun v_44=>(slcV v_44 fun a_45 n_46 c_47=>(ldL (cellsN k13 0 9) fun l_48=>(if List.length l_48=9 then (∀ b_49:Nat,(HP.set hp b_41 (.cells 73 [] 0)) b_49=.none→(opS Tryz.prog (Builtin.append_ #[29,29] 29 ⟨[(Value.slice (some ⟨b_41,0,none⟩) 0 0),(Value.slice a_45 n_46 c_47)]⟩) (HP.set (HP.set hp b_41 (.cells 73 [] 0)) b_49 (.cells 73 (splice [(Value.int .i64 0),(Value.int .i64 0),(Value.int .u8 0),(Value.int .u8 0),(Value.int .u8 0),(Value.int .u8 0),(Value.int .i64 0),(Value.int .i64 0),(Value.int .i64 0)] 0 l_48) 0)) fun u_50 h_51=>(slcV u_50 fun a_52 n_53 c_54=>(opS Tryz.prog (Builtin.append_ #[29,29] 29 ⟨[(Value.slice a_52 n_53 c_54),(Value.slice (some ⟨b_49,0,none⟩) 1 1)]⟩) h_51 fun u_55 h_56=>(slcV u_55 fun a_57 n_58 c_59=>(ptrN x0 fun b_60 o_61=>(HP.st h_56 b_60 (o_61+2) (Value.slice a_57 n_58 c_59) fun h_62=>(F32_j2 k10 k13 h_62  K)))))))) else False))))))∧(∀ b_63:Nat,hp b_63=.none→(ptrN x0 fun b_64 o_65=>(ldL (cellsN k13 0 9) fun l_66=>(if List.length l_66=9 then (∀ b_67:Nat,(HP.set hp b_63 (.cells 73 [] 0)) b_67=.none→(ldV (HP.cell (HP.set (HP.set hp b_63 (.cells 73 [] 0)) b_67 (.cells 73 (splice [(Value.int .i64 0),(Value.int .i64 0),(Value.int .u8 0),(Value.int .u8 0),(Value.int .u8 0),(Value.int .u8 0),(Value.int .i64 0),(Value.int .i64 0),(Value.int .i64 0)] 0 l_66) 0)) b_64 (o_65+2)) fun v_68=>(slcV v_68 fun a_69 n_70 c_71=>(opS Tryz.prog (Builtin.append_ #[29,29] 29 ⟨[(Value.slice (some ⟨b_63,0,none⟩) 0 0),(Value.slice a_69 n_70 c_71)]⟩) (HP.set (HP.set hp b_63 (.cells 73 [] 0)) b_67 (.cells 73 (splice [(Value.int .i64 0),(Value.int .i64 0),(Value.int .u8 0),(Value.int .u8 0),(Value.int .u8 0),(Value.int .u8 0),(Value.int .i64 0),(Value.int .i64 0),(Value.int .i64 0)] 0 l_66) 0)) fun u_72 h_73=>(slcV u_72 fun a_74 n_75 c_76=>(opS Tryz.prog (Builtin.append_ #[29,29] 29 ⟨[(Value.slice a_74 n_75 c_76),(Value.slice (some ⟨b_67,0,none⟩) 1 1)]⟩) h_73 fun u_77 h_78=>(slcV u_77 fun a_79 n_80 c_81=>(ptrN x0 fun b_82 o_83=>(HP.st h_78 b_82 (o_83+2) (Value.slice a_79 n_80 c_81) fun h_84=>(F32_j2 k10 k13 h_84  K)))))))))) else False))))∧(ptrN x0 fun b_85 o_86=>(ldL (cellsN k13 0 9) fun l_87=>(if List.length l_87=9 then (∀ b_88:Nat,hp b_88=.none→(∀ b_89:Nat,(HP.set hp b_88 (.cells 73 (splice [(Value.int .i64 0),(Value.int .i64 0),(Value.int .u8 0),(Value.int .u8 0),(Value.int .u8 0),(Value.int .u8 0),(Value.int .i64 0),(Value.int .i64 0),(Value.int .i64 0)] 0 l_87) 0)) b_89=.none→(ldV (HP.cell (HP.set (HP.set hp b_88 (.cells 73 (splice [(Value.int .i64 0),(Value.int .i64 0),(Value.int .u8 0),(Value.int .u8 0),(Value.int .u8 0),(Value.int .u8 0),(Value.int .i64 0),(Value.int .i64 0),(Value.int .i64 0)] 0 l_87) 0)) b_89 (.cells 73 [] 0)) b_85 (o_86+2)) fun v_90=>(slcV v_90 fun a_91 n_92 c_93=>(opS Tryz.prog (Builtin.append_ #[29,29] 29 ⟨[(Value.slice (some ⟨b_89,0,none⟩) 0 0),(Value.slice a_91 n_92 c_93)]⟩) (HP.set (HP.set hp b_88 (.cells 73 (splice [(Value.int .i64 0),(Value.int .i64 0),(Value.int .u8 0),(Value.int .u8 0),(Value.int .u8 0),(Value.int .u8 0),(Value.int .i64 0),(Value.int .i64 0),(Value.int .i64 0)] 0 l_87) 0)) b_89 (.cells 73 [] 0)) fun u_94 h_95=>(slcV u_94 fun a_96 n_97 c_98=>(opS Tryz.prog (Builtin.append_ #[29,29] 29 ⟨[(Value.slice a_96 n_97 c_98),(Value.slice (some ⟨b_88,0,none⟩) 1 1)]⟩) h_95 fun u_99 h_100=>(slcV u_99 fun a_101 n_102 c_103=>(ptrN x0 fun b_104 o_105=>(HP.st h_100 b_104 (o_105+2) (Value.slice a_101 n_102 c_103) fun h_106=>(F32_j2 k10 k13 h_106  K))))))))))) else False)))∧(ptrN x0 fun b_107 o_108=>(ldV (HP.cell hp b_107 (o_108+2)) fun v_109=>(slcV v_109 fun a_110 n_111 c_112=>(∀ b_113:Nat,hp b_113=.none→(opS Tryz.prog (Builtin.append_ #[29,29] 29 ⟨[(Value.slice (some ⟨b_113,0,none⟩) 0 0),(Value.slice a_110 n_111 c_112)]⟩) (HP.set hp b_113 (.cells 73 [] 0)) fun u_114 h_115=>(slcV u_114 fun a_116 n_117 c_118=>(ldL (cellsN k13 0 9) fun l_119=>(if List.length l_119=9 then (∀ b_120:Nat,h_115 b_120=.none→(opS Tryz.prog (Builtin.append_ #[29,29] 29 ⟨[(Value.slice a_116 n_117 c_118),(Value.slice (some ⟨b_120,0,none⟩) 1 1)]⟩) (HP.set h_115 b_120 (.cells 73 (splice [(Value.int .i64 0),(Value.int .i64 0),(Value.int .u8 0),(Value.int .u8 0),(Value.int .u8 0),(Value.int .u8 0),(Value.int .i64 0),(Value.int .i64 0),(Value.int .i64 0)] 0 l_119) 0)) fun u_121 h_122=>(slcV u_121 fun a_123 n_124 c_125=>(ptrN x0 fun b_126 o_127=>(HP.st h_122 b_126 (o_127+2) (Value.slice a_123 n_124 c_125) fun h_128=>(F32_j2 k10 k13 h_128  K)))))) else False))))))))∧(ptrN x0 fun b_129 o_130=>(ldV (HP.cell hp b_129 (o_130+2)) fun v_131=>(slcV v_131 fun a_132 n_133 c_134=>(∀ b_135:Nat,hp b_135=.none→(ldL (cellsN k13 0 9) fun l_136=>(if List.length l_136=9 then (∀ b_137:Nat,(HP.set hp b_135 (.cells 73 [] 0)) b_137=.none→(opS Tryz.prog (Builtin.append_ #[29,29] 29 ⟨[(Value.slice (some ⟨b_135,0,none⟩) 0 0),(Value.slice a_132 n_133 c_134)]⟩) (HP.set (HP.set hp b_135 (.cells 73 [] 0)) b_137 (.cells 73 (splice [(Value.int .i64 0),(Value.int .i64 0),(Value.int .u8 0),(Value.int .u8 0),(Value.int .u8 0),(Value.int .u8 0),(Value.int .i64 0),(Value.int .i64 0),(Value.int .i64 0)] 0 l_136) 0)) fun u_138 h_139=>(slcV u_138 fun a_140 n_141 c_142=>(opS Tryz.prog (Builtin.append_ #[29,29] 29 ⟨[(Value.slice a_140 n_141 c_142),(Value.slice (some ⟨b_137,0,none⟩) 1 1)]⟩) h_139 fun u_143 h_144=>(slcV u_143 fun a_145 n_146 c_147=>(ptrN x0 fun b_148 o_149=>(HP.st h_144 b_148 (o_149+2) (Value.slice a_145 n_146 c_147) fun h_150=>(F32_j2 k10 k13 h_150  K)))))))) else False))))))∧(ptrN x0 fun b_151 o_152=>(ldV (HP.cell hp b_151 (o_152+2)) fun v_153=>(slcV v_153 fun a_154 n_155 c_156=>(ldL (cellsN k13 0 9) fun l_157=>(if List.length l_157=9 then (∀ b_158:Nat,hp b_158=.none→(∀ b_159:Nat,(HP.set hp b_158 (.cells 73 (splice [(Value.int .i64 0),(Value.int .i64 0),(Value.int .u8 0),(Value.int .u8 0),(Value.int .u8 0),(Value.int .u8 0),(Value.int .i64 0),(Value.int .i64 0),(Value.int .i64 0)] 0 l_157) 0)) b_159=.none→(opS Tryz.prog (Builtin.append_ #[29,29] 29 ⟨[(Value.slice (some ⟨b_159,0,none⟩) 0 0),(Value.slice a_154 n_155 c_156)]⟩) (HP.set (HP.set hp b_158 (.cells 73 (splice [(Value.int .i64 0),(Value.int .i64 0),(Value.int .u8 0),(Value.int .u8 0),(Value.int .u8 0),(Value.int .u8 0),(Value.int .i64 0),(Value.int .i64 0),(Value.int .i64 0)] 0 l_157) 0)) b_159 (.cells 73 [] 0)) fun u_160 h_161=>(slcV u_160 fun a_162 n_163 c_164=>(opS Tryz.prog (Builtin.append_ #[29,29] 29 ⟨[(Value.slice a_162 n_163 c_164),(Value.slice (some ⟨b_158,0,none⟩) 1 1)]⟩) h_161 fun u_165 h_166=>(slcV u_165 fun a_167 n_168 c_169=>(ptrN x0 fun b_170 o_171=>(HP.st h_166 b_170 (o_171+2) (Value.slice a_167 n_168 c_169) fun h_172=>(F32_j2 k10 k13 h_172  K))))))))) else False)))))∧(ptrN x0 fun b_173 o_174=>(ldL (cellsN k13 0 9) fun l_175=>(if List.length l_175=9 then (∀ b_176:Nat,hp b_176=.none→(ldV (HP.cell (HP.set hp b_176 (.cells 73 (splice [(Value.int .i64 0),(Value.int .i64 0),(Value.int .u8 0),(Value.int .u8 0),(Value.int .u8 0),(Value.int .u8 0),(Value.int .i64 0),(Value.int .i64 0),(Value.int .i64 0)] 0 l_175) 0)) b_173 (o_174+2)) fun v_177=>(slcV v_177 fun a_178 n_179 c_180=>(∀ b_181:Nat,(HP.set hp b_176 (.cells 73 (splice [(Value.int .i64 0),(Value.int .i64 0),(Value.int .u8 0),(Value.int .u8 0),(Value.int .u8 0),(Value.int .u8 0),(Value.int .i64 0),(Value.int .i64 0),(Value.int .i64 0)] 0 l_175) 0)) b_181=.none→(opS Tryz.prog (Builtin.append_ #[29,29] 29 ⟨[(Value.slice (some ⟨b_181,0,none⟩) 0 0),(Value.slice a_178 n_179 c_180)]⟩) (HP.set (HP.set hp b_176 (.cells 73 (splice [(Value.int .i64 0),(Value.int .i64 0),(Value.int .u8 0),(Value.int .u8 0),(Value.int .u8 0),(Value.int .u8 0),(Value.int .i64 0),(Value.int .i64 0),(Value.int .i64 0)] 0 l_175) 0)) b_181 (.cells 73 [] 0)) fun u_182 h_183=>(slcV u_182 fun a_184 n_185 c_186=>(opS Tryz.prog (Builtin.append_ #[29,29] 29 ⟨[(Value.slice a_184 n_185 c_186),(Value.slice (some ⟨b_176,0,none⟩) 1 1)]⟩) h_183 fun u_187 h_188=>(slcV u_187 fun a_189 n_190 c_191=>(ptrN x0 fun b_192 o_193=>(HP.st h_188 b_192 (o_193+2) (Value.slice a_189 n_190 c_191) fun h_194=>(F32_j2 k10 k13 h_194  K))))))))))) else False))))
def F32 (x0:OA) (x1:Int) (x2:List Value) (x3 x4:Int) (hp:HP) (K:Kh):Prop:=
  (CF Tryz.prog 76 [(Value.int .i64 x4)] hp fun u_1 h_2=>(boolV u_1 fun q_3=>(ite2 (!q_3) (if List.length [(Value.int .i64 0),(Value.int .i64 0),(Value.int .u8 0),(Value.int .u8 0),(Value.int .u8 0),(Value.int .u8 0),(Value.int .i64 0),(Value.int .i64 0),(Value.int .i64 0)]=9 then (if List.all [(Value.int .i64 0),(Value.int .i64 0),(Value.int .u8 0),(Value.int .u8 0),(Value.int .u8 0),(Value.int .u8 0),(Value.int .i64 0),(Value.int .i64 0),(Value.int .i64 0)] one=true then (if 0+List.length [(Value.int .i64 0),(Value.int .i64 0),(Value.int .u8 0),(Value.int .u8 0),(Value.int .u8 0),(Value.int .u8 0),(Value.int .i64 0),(Value.int .i64 0),(Value.int .i64 0)]≤List.length [(Value.int .i64 0),(Value.int .i64 0),(Value.int .u8 0),(Value.int .u8 0),(Value.int .u8 0),(Value.int .u8 0),(Value.int .i64 0),(Value.int .i64 0),(Value.int .i64 0)] then (ldL (cellsN (splice [(Value.int .i64 0),(Value.int .i64 0),(Value.int .u8 0),(Value.int .u8 0),(Value.int .u8 0),(Value.int .u8 0),(Value.int .i64 0),(Value.int .i64 0),(Value.int .i64 0)] 0 [(Value.int .i64 0),(Value.int .i64 0),(Value.int .u8 0),(Value.int .u8 0),(Value.int .u8 0),(Value.int .u8 0),(Value.int .i64 0),(Value.int .i64 0),(Value.int .i64 0)]) 0 9) fun l_4=>(K (.tuple ⟨[(.agg ⟨l_4⟩),(Value.int .i64 1)]⟩) h_2)) else False) else False) else False) (ldL (cellsN x2 0 5) fun l_5=>(CF Tryz.prog 25 [(Value.pointer x0),(Value.int .i64 x1),(Value.agg ⟨l_5⟩)] h_2 fun u_6 h_7=>(intV u_6 .i64 fun i_8=>(ite2 ((i_8:Int) != 0) (if List.length [(Value.int .i64 0),(Value.int .i64 0),(Value.int .u8 0),(Value.int .u8 0),(Value.int .u8 0),(Value.int .u8 0),(Value.int .i64 0),(Value.int .i64 0),(Value.int .i64 0)]=9 then (if List.all [(Value.int .i64 0),(Value.int .i64 0),(Value.int .u8 0),(Value.int .u8 0),(Value.int .u8 0),(Value.int .u8 0),(Value.int .i64 0),(Value.int .i64 0),(Value.int .i64 0)] one=true then (if 0+List.length [(Value.int .i64 0),(Value.int .i64 0),(Value.int .u8 0),(Value.int .u8 0),(Value.int .u8 0),(Value.int .u8 0),(Value.int .i64 0),(Value.int .i64 0),(Value.int .i64 0)]≤List.length [(Value.int .i64 0),(Value.int .i64 0),(Value.int .u8 0),(Value.int .u8 0),(Value.int .u8 0),(Value.int .u8 0),(Value.int .i64 0),(Value.int .i64 0),(Value.int .i64 0)] then (ldL (cellsN (splice [(Value.int .i64 0),(Value.int .i64 0),(Value.int .u8 0),(Value.int .u8 0),(Value.int .u8 0),(Value.int .u8 0),(Value.int .i64 0),(Value.int .i64 0),(Value.int .i64 0)] 0 [(Value.int .i64 0),(Value.int .i64 0),(Value.int .u8 0),(Value.int .u8 0),(Value.int .u8 0),(Value.int .u8 0),(Value.int .i64 0),(Value.int .i64 0),(Value.int .i64 0)]) 0 9) fun l_9=>(K (.tuple ⟨[(.agg ⟨l_9⟩),(Value.int .i64 i_8)]⟩) h_7)) else False) else False) else False) (ptrN x0 fun b_10 o_11=>(ldV (HP.cell h_7 b_10 (o_11+1)) fun v_12=>(intV v_12 .i64 fun i_13=>(ptrN x0 fun b_14 o_15=>(HP.st h_7 b_14 (o_15+1) (Value.int .i64 (IntKind.wrap .i64 (i_13+1))) fun h_16=>((ptrN x0 fun b_195 o_196=>(ldV (HP.cell h_16 b_195 (o_196+1)) fun v_197=>(intV v_197 .i64 fun i_198=>(ldL (cellsN x2 0 5) fun l_199=>(if List.length l_199=5 then (if List.length (List.set (List.set (splice [(Value.int .i64 i_198),(Value.int .i64 x1),(Value.int .u8 0),(Value.int .u8 0),(Value.int .u8 0),(Value.int .u8 0),(Value.int .i64 0),(Value.int .i64 0),(Value.int .i64 0)] 2 l_199) 7 (Value.int .i64 x3)) 8 (Value.int .i64 x4))=9 then (if List.all (List.set (List.set (splice [(Value.int .i64 i_198),(Value.int .i64 x1),(Value.int .u8 0),(Value.int .u8 0),(Value.int .u8 0),(Value.int .u8 0),(Value.int .i64 0),(Value.int .i64 0),(Value.int .i64 0)] 2 l_199) 7 (Value.int .i64 x3)) 8 (Value.int .i64 x4)) one=true then (if 0+List.length (List.set (List.set (splice [(Value.int .i64 i_198),(Value.int .i64 x1),(Value.int .u8 0),(Value.int .u8 0),(Value.int .u8 0),(Value.int .u8 0),(Value.int .i64 0),(Value.int .i64 0),(Value.int .i64 0)] 2 l_199) 7 (Value.int .i64 x3)) 8 (Value.int .i64 x4))≤List.length [(Value.int .i64 0),(Value.int .i64 0),(Value.int .u8 0),(Value.int .u8 0),(Value.int .u8 0),(Value.int .u8 0),(Value.int .i64 0),(Value.int .i64 0),(Value.int .i64 0)] then (F32_j1 x0 [(Value.int .i64 0),(Value.int .i64 0),(Value.int .u8 0),(Value.int .u8 0),(Value.int .u8 0),(Value.int .u8 0),(Value.int .i64 0),(Value.int .i64 0),(Value.int .i64 0)] (splice [(Value.int .i64 0),(Value.int .i64 0),(Value.int .u8 0),(Value.int .u8 0),(Value.int .u8 0),(Value.int .u8 0),(Value.int .i64 0),(Value.int .i64 0),(Value.int .i64 0)] 0 (List.set (List.set (splice [(Value.int .i64 i_198),(Value.int .i64 x1),(Value.int .u8 0),(Value.int .u8 0),(Value.int .u8 0),(Value.int .u8 0),(Value.int .i64 0),(Value.int .i64 0),(Value.int .i64 0)] 2 l_199) 7 (Value.int .i64 x3)) 8 (Value.int .i64 x4))) h_16  K) else False) else False) else False) else False)))))∧(ptrN x0 fun b_200 o_201=>(ldV (HP.cell h_16 b_200 (o_201+1)) fun v_202=>(intV v_202 .i64 fun i_203=>(ldL (cellsN x2 0 5) fun l_204=>(if List.length l_204=5 then (if List.length (List.set (List.set (splice [(Value.int .i64 i_203),(Value.int .i64 x1),(Value.int .u8 0),(Value.int .u8 0),(Value.int .u8 0),(Value.int .u8 0),(Value.int .i64 0),(Value.int .i64 0),(Value.int .i64 0)] 2 l_204) 7 (Value.int .i64 x3)) 8 (Value.int .i64 x4))=9 then (if List.all (List.set (List.set (splice [(Value.int .i64 i_203),(Value.int .i64 x1),(Value.int .u8 0),(Value.int .u8 0),(Value.int .u8 0),(Value.int .u8 0),(Value.int .i64 0),(Value.int .i64 0),(Value.int .i64 0)] 2 l_204) 7 (Value.int .i64 x3)) 8 (Value.int .i64 x4)) one=true then (if 0+List.length (List.set (List.set (splice [(Value.int .i64 i_203),(Value.int .i64 x1),(Value.int .u8 0),(Value.int .u8 0),(Value.int .u8 0),(Value.int .u8 0),(Value.int .i64 0),(Value.int .i64 0),(Value.int .i64 0)] 2 l_204) 7 (Value.int .i64 x3)) 8 (Value.int .i64 x4))≤List.length [(Value.int .i64 0),(Value.int .i64 0),(Value.int .u8 0),(Value.int .u8 0),(Value.int .u8 0),(Value.int .u8 0),(Value.int .i64 0),(Value.int .i64 0),(Value.int .i64 0)] then (F32_j1 x0 [(Value.int .i64 0),(Value.int .i64 0),(Value.int .u8 0),(Value.int .u8 0),(Value.int .u8 0),(Value.int .u8 0),(Value.int .i64 0),(Value.int .i64 0),(Value.int .i64 0)] (splice [(Value.int .i64 0),(Value.int .i64 0),(Value.int .u8 0),(Value.int .u8 0),(Value.int .u8 0),(Value.int .u8 0),(Value.int .i64 0),(Value.int .i64 0),(Value.int .i64 0)] 0 (List.set (List.set (splice [(Value.int .i64 i_203),(Value.int .i64 x1),(Value.int .u8 0),(Value.int .u8 0),(Value.int .u8 0),(Value.int .u8 0),(Value.int .i64 0),(Value.int .i64 0),(Value.int .i64 0)] 2 l_204) 7 (Value.int .i64 x3)) 8 (Value.int .i64 x4))) h_16  K) else False) else False) else False) else False))))))))))))))))))
theorem F32_ok (x0:OA) (x1:Int) (x2:List Value) (x3 x4:Int) (hp:HP) (K:Kh) (h:F32 x0 x1 x2 x3 x4 hp K):CF Tryz.prog 32 [(Value.pointer x0),(Value.int .i64 x1),(Value.agg ⟨x2⟩),(Value.int .i64 x3),(Value.int .i64 x4)] hp K:=
  have L:∀ {Q} n,Snd Tryz.prog 56 (cAt Tryz.f32 (pth n)) Q (CW Tryz.prog 56 [7,10,13] [(7,[(5,9)],[([true],true,[0,1,2,3,4,5,6,7,8,9,10]),([false],true,[0,1,2,3,4,6,7,9,5,8,10])]),(8,[(1,5),(1,8),(5,8),(6,8)],[([true,true,false,true],false,[5,6,8,5]),([true,false,true,true],false,[1,5,8,1]),([true,false,true,false],false,[1,5,8,1]),([true,false,false,true],false,[1,6,8,1]),([false,true,false,true],false,[1,8,5,1]),([false,true,false,false],false,[1,8,5,1]),([false,false,true,true],false,[1,6,8,1]),([false,false,false,true],false,[1,6,8,5,1]),([true,true,true,true],true,[0,1,2,3,4,5,6,7,8,9,10,11,12]),([true,true,true,false],true,[0,1,2,3,4,5,7,8,6,9,10,11,12]),([true,true,false,false],true,[0,1,2,3,4,7,8,5,6,9,10,11,12]),([true,false,false,false],true,[0,2,3,4,7,8,1,5,6,9,10,11,12]),([false,true,true,true],true,[0,2,3,4,5,1,6,7,8,9,10,11,12]),([false,true,true,false],true,[0,2,3,4,5,1,7,8,6,9,10,11,12]),([false,false,true,false],true,[0,2,3,4,5,7,8,1,6,9,10,11,12]),([false,false,false,false],true,[0,2,3,4,7,8,5,1,6,9,10,11,12])])] (cAt Tryz.f32 (pth n)) Q):=fun _=>Snd.leaf
  okF h Tryz.func32 (Snd.seq (L 2) (Snd.seq (L 5) (Snd.seq (L 11) (Snd.seq (L 23) (Snd.seq (L 47) (Snd.jn [(0,.p),(10,.r 10 0),(13,.r 13 0),(10,.c 73),(13,.c 73)] (fun a hp=>F32_j1 a.1 a.2.1 a.2.2.1 hp  K) (L 95) (Snd.jn [(10,.r 10 0),(13,.r 13 0),(10,.c 73),(13,.c 73)] (fun a hp=>F32_j2 a.1 a.2.1 hp  K) (L 191) (L 255) (by rfl) (by kernel_rfl)) (by rfl) (by kernel_rfl))))))) (by kernel_rfl) (by kernel_rfl) (by kernel_rfl)
def F37_j3 (x0:OA) (x1:Int) (x5a:OA) (x5n x5c:Nat) (x6:Int) (hp:HP) (I2:((Option Addr) × Nat × Nat)→HP→Prop) (K:Value→HP→Prop):Prop:=
  (ite2 (decide ((x6:Int)<0)) (K (Value.slice x5a x5n x5c) hp) (ptrN x0 fun b_1 o_2=>(ldV (HP.cell hp b_1 (o_2+2)) fun v_3=>(slcV v_3 fun a_4 n_5 c_6=>((0≤(x6:Int))∧((x6:Int)<(n_5:Nat))∧(ptrN a_4 fun b_7 o_8=>(ldV (HP.cell hp b_7 ((o_8+Int.toNat x6*9)+0)) fun v_9=>(intV v_9 .i64 fun i_10=>(CF Tryz.prog 36 [(Value.pointer x0),(Value.int .i64 i_10)] hp fun u_11 h_12=>(tup2V u_11 fun u_13 u_14=>(aggV u_13 fun l_15=>(intV u_14 .i64 fun i_16=>(if List.length l_15=9 then (if List.all l_15 one=true then (if 0+List.length l_15≤List.length [(Value.int .i64 0),(Value.int .i64 0),(Value.int .u8 0),(Value.int .u8 0),(Value.int .u8 0),(Value.int .u8 0),(Value.int .i64 0),(Value.int .i64 0),(Value.int .i64 0)] then (ldL (cellsN (splice [(Value.int .i64 0),(Value.int .i64 0),(Value.int .u8 0),(Value.int .u8 0),(Value.int .u8 0),(Value.int .u8 0),(Value.int .i64 0),(Value.int .i64 0),(Value.int .i64 0)] 0 l_15) 0 9) fun l_17=>(if List.length l_17=9 then (∀ b_18:Nat,h_12 b_18=.none→(opS Tryz.prog (Builtin.append_ #[29,29] 29 ⟨[(Value.slice x5a x5n x5c),(Value.slice (some ⟨b_18,0,none⟩) 1 1)]⟩) (HP.set h_12 b_18 (.cells 73 (splice [(Value.int .i64 0),(Value.int .i64 0),(Value.int .u8 0),(Value.int .u8 0),(Value.int .u8 0),(Value.int .u8 0),(Value.int .i64 0),(Value.int .i64 0),(Value.int .i64 0)] 0 l_17) 0)) fun u_19 h_20=>(slcV u_19 fun a_21 n_22 c_23=>(I2 (a_21,n_22,c_23) h_20)))) else False)) else False) else False) else False)))))))))))))
def F37_j6 (x0:OA) (x1:Int) (x5a:OA) (x5n x5c:Nat) (x6 x7:Int) (hp:HP) (I2:((Option Addr) × Nat × Nat)→HP→Prop) (I5:(Int × Int)→HP→Prop) (K:Value→HP→Prop):Prop:=
  (I5 (x6,(IntKind.wrap .i64 (x7+1))) hp)
def F37_j7 (x0:OA) (x1:Int) (x5a:OA) (x5n x5c:Nat) (x6 x7:Int) (x51:Bool) (hp:HP) (I2:((Option Addr) × Nat × Nat)→HP→Prop) (I5:(Int × Int)→HP→Prop) (K:Value→HP→Prop):Prop:=
  (ite2 x51 (F37_j6 x0 x1 x5a x5n x5c x7 x7 hp I2 I5 K) (F37_j6 x0 x1 x5a x5n x5c x6 x7 hp I2 I5 K))
def F37_l5 (x0:OA) (x1:Int) (x5a:OA) (x5n x5c:Nat) (I2:((Option Addr) × Nat × Nat)→HP→Prop) (K:Value→HP→Prop) (I5:(Int × Int)→HP→Prop) (x6:Int) (x7:Int) (hp:HP):Prop:=
  (ptrN x0 fun b_24 o_25=>(ldV (HP.cell hp b_24 (o_25+2)) fun v_26=>(slcV v_26 fun a_27 n_28 c_29=>(ite2 (decide ((x7:Int)<(n_28:Nat))) (ptrN x0 fun b_30 o_31=>(ldV (HP.cell hp b_30 (o_31+2)) fun v_32=>(slcV v_32 fun a_33 n_34 c_35=>((0≤(x7:Int))∧((x7:Int)<(n_34:Nat))∧(ptrN a_33 fun b_36 o_37=>(ldV (HP.cell hp b_36 ((o_37+Int.toNat x7*9)+8)) fun v_38=>(intV v_38 .i64 fun i_39=>(ite2 (decide ((i_39:Int)≤x1)) (ite2 (decide ((x6:Int)<0)) (F37_j7 x0 x1 x5a x5n x5c x6 x7 true hp I2 I5 K) (ptrN x0 fun b_40 o_41=>(ldV (HP.cell hp b_40 (o_41+2)) fun v_42=>(slcV v_42 fun a_43 n_44 c_45=>((0≤(x7:Int))∧((x7:Int)<(n_44:Nat))∧(ptrN a_43 fun b_46 o_47=>(ldV (HP.cell hp b_46 ((o_47+Int.toNat x7*9)+8)) fun v_48=>(intV v_48 .i64 fun i_49=>(ptrN x0 fun b_50 o_51=>(ldV (HP.cell hp b_50 (o_51+2)) fun v_52=>(slcV v_52 fun a_53 n_54 c_55=>((0≤(x6:Int))∧((x6:Int)<(n_54:Nat))∧(ptrN a_53 fun b_56 o_57=>(ldV (HP.cell hp b_56 ((o_57+Int.toNat x6*9)+8)) fun v_58=>(intV v_58 .i64 fun i_59=>(F37_j7 x0 x1 x5a x5n x5c x6 x7 (decide ((i_49:Int)<i_59)) hp I2 I5 K)))))))))))))))) (F37_j7 x0 x1 x5a x5n x5c x6 x7 false hp I2 I5 K))))))))) (F37_j3 x0 x1 x5a x5n x5c x6 hp I2 K)))))
def F37_j4 (x0:OA) (x1:Int) (x5a:OA) (x5n x5c:Nat) (x6 x7:Int) (hp:HP) (I2:((Option Addr) × Nat × Nat)→HP→Prop) (K:Value→HP→Prop):Prop:=
  (LoopP (σ:=Int × Int) (fun I s hp=>F37_l5 x0 x1 x5a x5n x5c I2 K I s.1 s.2 hp) (x6,x7) hp)
def F37_l2 (x0:OA) (x1:Int) (K:Kh) (I2:((Option Addr) × Nat × Nat)→HP→Prop) (x5a:Option Addr) (x5n:Nat) (x5c:Nat) (hp:HP):Prop:=
  (F37_j4 x0 x1 x5a x5n x5c (-1) 0 hp I2 K)
def F37_j1 (x0:OA) (x1:Int) (x5a:OA) (x5n x5c:Nat) (hp:HP) (K:Kh):Prop:=
  (LoopP (σ:=(Option Addr) × Nat × Nat) (fun I s hp=>F37_l2 x0 x1  K I s.1 s.2.1 s.2.2 hp) (x5a,x5n,x5c) hp)
def F37 (x0:OA) (x1:Int) (hp:HP) (K:Kh):Prop:=
  (F37_j1 x0 x1 none 0 0 hp  K)
theorem F37_ok (x0:OA) (x1:Int) (hp:HP) (K:Kh) (h:F37 x0 x1 hp K):CF Tryz.prog 37 [(Value.pointer x0),(Value.int .i64 x1)] hp K:=
  have L:∀ {Q} n,Snd Tryz.prog 73 (cAt Tryz.f37 (pth n)) Q (CW Tryz.prog 73 [8] [] (cAt Tryz.f37 (pth n)) Q):=fun _=>Snd.leaf
  okF h Tryz.func37 (Snd.seq (L 2) (Snd.jn [(0,.p),(1,.i .i64),(5,.s)] (fun a hp=>F37_j1 a.1 a.2.1 a.2.2.1 a.2.2.2.1 a.2.2.2.2.1 hp  K) (L 5) (Snd.block 0 (Snd.lp (σ:=(Option Addr) × Nat × Nat) [(0,.p),(1,.i .i64),(5,.s)] (fun a=>(a.2.2.1,a.2.2.2.1,a.2.2.2.2.1)) (fun a s=>(a.1,a.2.1,s.1,s.2.1,s.2.2,())) (fun a I s hp=>F37_l2 a.1 a.2.1  K I s.1 s.2.1 s.2.2 hp) (fun I2=>(Snd.block 1 (Snd.seq (L 67) (Snd.jn [(0,.p),(1,.i .i64),(5,.s),(6,.i .i64)] (fun a hp=>F37_j3 a.1 a.2.1 a.2.2.1 a.2.2.2.1 a.2.2.2.2.1 a.2.2.2.2.2.1 hp (fun s hp=>I2 (a.1,a.2.1,s.1,s.2.1,s.2.2,()) hp) K) (Snd.jn [(0,.p),(1,.i .i64),(5,.s),(6,.i .i64),(7,.i .i64)] (fun a hp=>F37_j4 a.1 a.2.1 a.2.2.1 a.2.2.2.1 a.2.2.2.2.1 a.2.2.2.2.2.1 a.2.2.2.2.2.2.1 hp (fun s hp=>I2 (a.1,a.2.1,s.1,s.2.1,s.2.2,()) hp) K) (L 291) (Snd.block 2 (Snd.lp (σ:=Int × Int) [(0,.p),(1,.i .i64),(5,.s),(6,.i .i64),(7,.i .i64)] (fun a=>(a.2.2.2.2.2.1,a.2.2.2.2.2.2.1)) (fun a s=>(a.1,a.2.1,a.2.2.1,a.2.2.2.1,a.2.2.2.2.1,s.1,s.2,())) (fun a I s hp=>F37_l5 a.1 a.2.1 a.2.2.1 a.2.2.2.1 a.2.2.2.2.1 (fun s hp=>I2 (a.1,a.2.1,s.1,s.2.1,s.2.2,()) hp) K I s.1 s.2 hp) (fun I5=>(Snd.seq (L 2211) (Snd.jn [(0,.p),(1,.i .i64),(5,.s),(6,.i .i64),(7,.i .i64)] (fun a hp=>F37_j6 a.1 a.2.1 a.2.2.1 a.2.2.2.1 a.2.2.2.2.1 a.2.2.2.2.2.1 a.2.2.2.2.2.2.1 hp (fun s hp=>I2 (a.1,a.2.1,s.1,s.2.1,s.2.2,()) hp) (fun s hp=>I5 (a.1,a.2.1,a.2.2.1,a.2.2.2.1,a.2.2.2.2.1,s.1,s.2,()) hp) K) (Snd.block 3 (Snd.jn [(0,.p),(1,.i .i64),(5,.s),(6,.i .i64),(7,.i .i64),(51,.b)] (fun a hp=>F37_j7 a.1 a.2.1 a.2.2.1 a.2.2.2.1 a.2.2.2.2.1 a.2.2.2.2.2.1 a.2.2.2.2.2.2.1 a.2.2.2.2.2.2.2.1 hp (fun s hp=>I2 (a.1,a.2.1,s.1,s.2.1,s.2.2,()) hp) (fun s hp=>I5 (a.1,a.2.1,a.2.2.1,a.2.2.2.1,a.2.2.2.2.1,s.1,s.2,()) hp) K) (L 17571) (L 25763) (by rfl) (by kernel_rfl))) (L 7331) (by rfl) (by kernel_rfl)))) (by rfl) (by kernel_rfl) (by kernel_rfl))) (by rfl) (by kernel_rfl)) (L 227) (by rfl) (by kernel_rfl))))) (by rfl) (by kernel_rfl) (by kernel_rfl))) (by rfl) (by kernel_rfl))) (by kernel_rfl) (by kernel_rfl) (by kernel_rfl)
end Go.Proofs
set_option linter.unusedVariables false
set_option linter.unusedSimpArgs false
set_option maxRecDepth 20000
namespace Go.Proofs
open Go Go.HL
open Go.Exp (Th tlt Ord setW dropW insW)
section
variable {hq hp:HP} {r mx last:Nat} {L:List Ss} {K:Value→HP→Prop}
set_option maxHeartbeats 4000000 in
theorem R32 {bn st due:Int} {p:Q × Int} (h:RefR hq r mx last L) (hlast:last<500000) (hl:L.length≤65535)
    (hno:addE mx bn p due L≠0→K (.tuple ⟨[.agg ⟨ssc ss0⟩,.int .i64 (addE mx bn p due L)]⟩) hq)
    (hyes:addE mx bn p due L=0→∀ hq',RefR hq' r mx (last+1) (L++[⟨((last+1:Nat):Int),bn,p,st,due⟩])→K (.tuple ⟨[.agg ⟨ssc ⟨((last+1:Nat):Int),bn,p,st,due⟩⟩,.int .i64 0]⟩) hq') :
    CF Tryz.prog 32 [ptr r 0,.int .i64 bn,.agg ⟨t4 p⟩,.int .i64 st,.int .i64 due] hq K:=by
  refine F32_ok _ bn (t4 p) st due hq K ?_
  unfold F32
  refine R76 ?_
  rw [boolV_bool]
  simp only [ssz]
  by_cases hd:due<0∨due > 4611686018427387904
  · have e:addE mx bn p due L=1:=by unfold addE; rw [if_pos hd]
    rw [decide_eq_false (fun h=>h hd),Bool.not_false,ite2_true]
    refine ifI (ssc_len _) (ifI (ssc_one _) (ifI (by simp [ssc_len]) ?_))
    rw [ss_spl (ssc_len _),ssc_cells,ldL_some]
    rw [e] at hno
    exact hno (by decide)
  rw [decide_eq_true hd,Bool.not_true,ite2_false]
  obtain ⟨aa,cc,hll⟩:=h.lst
  rw [t4_cells,ldL_some]
  refine R25 hll (by omega) ?_
  rw [intV_int,room_same]
  have ea:addE mx bn p due L=roomE mx bn p L:=by unfold addE; rw [if_neg hd]
  by_cases he:roomE mx bn p L=0
  rotate_left
  · rw [show (roomE mx bn p L != 0)=true by simpa using he,ite2_true]
    refine ifI (ssc_len _) (ifI (ssc_one _) (ifI (by simp [ssc_len]) ?_))
    rw [ss_spl (ssc_len _),ssc_cells,ldL_some]
    rw [ea] at hno
    exact hno he
  rw [show (roomE mx bn p L != 0)=false by simpa using he,ite2_false]
  have hyes:=hyes (ea.trans he)
  clear hno ea he hll
  obtain ⟨a,c,h1,h2⟩:=h
  have hc1:hq.cell r 1=some (.int .i64 last):=HP.cell_of h1
  simp only [ptrN_some,Nat.zero_add,hc1,ldV_some,intV_int]
  have w1:IntKind.wrap .i64 ((last:Int)+1)=((last+1:Nat):Int):=wi (by omega) (by omega)
  rw [w1]
  refine HP.st_at h1 (by simp) ?_
  have hset:([Value.int .i64 (mx:Nat),.int .i64 (last:Nat),.slice a L.length c].set 1 (.int .i64 ((last+1:Nat):Int)))=[.int .i64 (mx:Nat),.int .i64 ((last+1:Nat):Int),.slice a L.length c]:=rfl
  rw [hset]
  have g1:(hq.set r (.cells 31 [.int .i64 (mx:Nat),.int .i64 ((last+1:Nat):Int),.slice a L.length c] 0)) r=.cells 31 [.int .i64 (mx:Nat),.int .i64 ((last+1:Nat):Int),.slice a L.length c] 0:=HP.set_eq ..
  have g2:Row (hq.set r (.cells 31 [.int .i64 (mx:Nat),.int .i64 ((last+1:Nat):Int),.slice a L.length c] 0)) a L.length c 73 9 (L.flatMap ssc):=by
    rcases h2 with h | ⟨b,r1,r2,r3,r4⟩
    · exact .inl h
    · exact .inr ⟨b,r1,r2,r3,by rw [HP.set_ne _ _ (fun e=>by rw [e,h1] at r4; cases r4)]; exact r4⟩
  generalize hq.set r (.cells 31 [.int .i64 (mx:Nat),.int .i64 ((last+1:Nat):Int),.slice a L.length c] 0)=hq1 at *
  clear h1 h2 hc1 hset w1
  have k1:∀ {hp:HP},HSub hq1 hp→hp.cell r 1=some (.int .i64 ((last+1:Nat):Int)):=fun hs=>HP.cell_of (hs.cells g1)
  have k2:∀ {hp:HP},HSub hq1 hp→hp.cell r 2=some (.slice a L.length c):=fun hs=>HP.cell_of (hs.cells g1)
  have x1:=k1 (HSub.refl hq1)
  have x2:=k2 (HSub.refl hq1)
  have hz:∀ i:Int,(List.set (List.set (splice [(Value.int .i64 i),(Value.int .i64 bn),(Value.int .u8 0),(Value.int .u8 0),(Value.int .u8 0),(Value.int .u8 0),(Value.int .i64 0),(Value.int .i64 0),(Value.int .i64 0)] 2 (t4 p)) 7 (Value.int .i64 st)) 8 (Value.int .i64 due))=ssc ⟨i,bn,p,st,due⟩:=fun _=>rfl
  have fin:∀ hp2 a2 c2,HSub hq1 hp2→(∀ b',a2=some ⟨b',0,none⟩→hq1 b'=.none)→Row hp2 a2 (L.length+1) c2 73 9 (L.flatMap ssc++ssc ⟨((last+1:Nat):Int),bn,p,st,due⟩) →
      HP.st hp2 r 2 (.slice a2 (L.length+1) c2) fun h=>F32_j2 (ssc ss0) (ssc ⟨((last+1:Nat):Int),bn,p,st,due⟩) h K:=by
    intro hp2 a2 c2 hs hf hrow
    refine HP.st_at (hs.cells g1) (by simp) ?_
    unfold F32_j2
    rw [ssc_cells,ldL_some]
    refine ifI (ssc_len _) (ifI (ssc_one _) (ifI (by simp [ssc_len]) ?_))
    rw [ss_spl (ssc_len _),ssc_cells,ldL_some]
    refine hyes _ ⟨a2,c2,by rw [HP.set_eq,List.length_append]; rfl,?_⟩
    rw [List.length_append,List.flatMap_append]
    have e1:([(⟨((last+1:Nat):Int),bn,p,st,due⟩:Ss)]).flatMap ssc=ssc ⟨((last+1:Nat):Int),bn,p,st,due⟩:=by simp
    rw [e1]
    rcases hrow with h | ⟨b,r1,r2,r3,r4⟩
    · exact .inl h
    · exact .inr ⟨b,r1,r2,r3,by rw [HP.set_ne _ _ (fun e=>by have:=hf b r1; rw [e,g1] at this; cases this)]; exact r4⟩
  have app1:∀ (b0:Nat) (h0 hp:HP) {X:Value→HP→Prop},HSub hq1 h0→HSub h0 hp→h0 b0=.none→hp b0=.cells 73 [] 0→(∀ hp2 a2 c2,HSub h0 hp2→(∀ b',a2=some ⟨b',0,none⟩→h0 b'=.none)→Row hp2 a2 L.length c2 73 9 (L.flatMap ssc)→X (.slice a2 (0+L.length) c2) hp2) →
      opS Tryz.prog (Builtin.append_ #[29,29] 29 ⟨[.slice (some ⟨b0,0,none⟩) 0 0,.slice a L.length c]⟩) hp X:=by
    intro b0 h0 hp X hs0 hs hb0 hb hX
    have hr0:Row hp (some ⟨b0,0,none⟩) 0 0 73 9 []:=.inr ⟨b0,rfl,Nat.le_refl _,rfl,hb⟩
    refine opS_appF (e:=73) (size:=9) (bytes:=48) (by kernel_rfl) hr0 (g2.sub (hs0.trans hs)).shows (all_flat ssc_one _) (by omega) (by omega) ?_
    intro s2 c2 hp2 hrow2 hf2
    obtain ⟨k1,k2⟩:=hf2 h0 hs (fun b' e=>by cases e; exact hb0)
    exact hX hp2 s2 c2 k1 k2 (by rw [Nat.zero_add] at hrow2; simpa using hrow2)
  have app2:∀ (hp2:HP) (a2:Option Addr) (c2 b2:Nat) {X:Value→HP→Prop},HSub hq1 hp2→(∀ b',a2=some ⟨b',0,none⟩→hq1 b'=.none)→Row hp2 a2 L.length c2 73 9 (L.flatMap ssc)→hp2 b2=.cells 73 (ssc ⟨((last+1:Nat):Int),bn,p,st,due⟩) 0 →
      (∀ hp3 a3 c3,HSub hq1 hp3→(∀ b',a3=some ⟨b',0,none⟩→hq1 b'=.none)→Row hp3 a3 (L.length+1) c3 73 9 (L.flatMap ssc++ssc ⟨((last+1:Nat):Int),bn,p,st,due⟩)→X (.slice a3 (L.length+1) c3) hp3) →
      opS Tryz.prog (Builtin.append_ #[29,29] 29 ⟨[.slice a2 L.length c2,.slice (some ⟨b2,0,none⟩) 1 1]⟩) hp2 X:=by
    intro hp2 a2 c2 b2 X hs hf hrow hb2 hX
    refine opS_appF (e:=73) (size:=9) (bytes:=48) (by kernel_rfl) hrow (.inr ⟨b2,0,rfl,by rw [HP.cellN_of hb2]; exact cellsN_all rfl⟩) (ssc_one _) (by omega) (by omega) ?_
    intro s3 c3 hp3 hrow3 hf3
    obtain ⟨k1,k2⟩:=hf3 hq1 hs hf
    exact hX hp3 s3 c3 k1 k2 hrow3
  suffices hj:F32_j1 (some ⟨r,0,none⟩) (ssc ss0) (ssc ⟨((last+1:Nat):Int),bn,p,st,due⟩) hq1 K by
    apply And.intro
    all_goals
      rw [x1]
      simp only [ldV_some,intV_int,t4_cells,ldL_some,hz]
      refine ifI rfl (ifI (ssc_len _) (ifI (ssc_one _) (ifI (by simp [ssc_len]) ?_)))
      rw [ss_spl (ssc_len _)]
      exact hj
  unfold F32_j1
  simp only [ssc_cells,ldL_some,ss_spl (ssc_len _),ptrN_some,Nat.zero_add,ssz]
  repeat' apply And.intro
  all_goals
    have y2:=x2
    try simp only [y2,ldV_some,slcV_slice,ldL_some,ss_spl (ssc_len _)]
    first
      | (refine ifI (ssc_len _) ?_
         refine fun (b2:Nat) (hb2':hq1 b2=Ent.none)=>?_
         have s2:=HSub.set_fresh hq1 (.cells 73 (ssc ⟨((last+1:Nat):Int),bn,p,st,due⟩) 0) hb2'
         have y2:=k2 s2
         try simp only [y2,ldV_some,slcV_slice]
         refine fun (b0:Nat) (hb0:(hq1.set b2 (.cells 73 (ssc ⟨((last+1:Nat):Int),bn,p,st,due⟩) 0)) b0=Ent.none)=>?_
         have hne:b2≠b0:=fun e=>by rw [e,HP.set_eq] at hb0; cases hb0
         have s1:=s2.trans (HSub.set_fresh _ (.cells 73 [] 0) hb0)
         have y2:=k2 s1
         try simp only [y2,ldV_some,slcV_slice]
         refine app1 b0 (hq1.set b2 (.cells 73 (ssc ⟨((last+1:Nat):Int),bn,p,st,due⟩) 0)) _ (HSub.set_fresh _ _ hb2') (HSub.set_fresh _ _ hb0) hb0 (HP.set_eq ..) fun hp2 a2 c2 hs2 hf2 hrow2=>?_
         rw [Nat.zero_add]
         have s2:=(HSub.set_fresh hq1 (.cells 73 (ssc ⟨((last+1:Nat):Int),bn,p,st,due⟩) 0) hb2').trans hs2
         simp only [slcV_slice]
         refine app2 hp2 a2 c2 b2 s2 (fun b' e=>by
           have:=hf2 b' e
           by_cases hb:b'=b2
           · rw [hb]; exact hb2'
           · rwa [HP.set_ne _ _ hb] at this) hrow2 (hs2.cells (HP.set_eq ..)) fun hp3 a3 c3 hs3 hf3 hrow3=>?_
         simp only [slcV_slice]
         exact fin hp3 a3 c3 hs3 hf3 hrow3)
      | (refine fun (b0:Nat) (hb0:hq1 b0=Ent.none)=>?_
         have s0:=HSub.set_fresh hq1 (.cells 73 [] 0) hb0
         have y2:=k2 s0
         try simp only [y2,ldV_some,slcV_slice,ldL_some,ss_spl (ssc_len _)]
         first
           | (refine ifI (ssc_len _) ?_
              refine fun (b2:Nat) (hb2:(hq1.set b0 (.cells 73 [] 0)) b2=Ent.none)=>?_
              have hne:b2≠b0:=fun e=>by rw [e,HP.set_eq] at hb2; cases hb2
              have hb2':hq1 b2=.none:=by rwa [HP.set_ne _ _ hne] at hb2
              have s1:=s0.trans (HSub.set_fresh _ (.cells 73 (ssc ⟨((last+1:Nat):Int),bn,p,st,due⟩) 0) hb2)
              have y2:=k2 s1
              try simp only [y2,ldV_some,slcV_slice]
              refine app1 b0 (hq1.set b2 (.cells 73 (ssc ⟨((last+1:Nat):Int),bn,p,st,due⟩) 0)) _ (HSub.set_fresh _ _ hb2') (s0.set b2 _) (by rw [HP.set_ne _ _ hne.symm]; exact hb0) (by rw [HP.set_ne _ _ hne.symm,HP.set_eq]) fun hp2 a2 c2 hs2 hf2 hrow2=>?_
              rw [Nat.zero_add]
              have s2:=(HSub.set_fresh hq1 (.cells 73 (ssc ⟨((last+1:Nat):Int),bn,p,st,due⟩) 0) hb2').trans hs2
              simp only [slcV_slice]
              refine app2 hp2 a2 c2 b2 s2 (fun b' e=>by
                have:=hf2 b' e
                by_cases hb:b'=b2
                · rw [hb]; exact hb2'
                · rwa [HP.set_ne _ _ hb] at this) hrow2 (hs2.cells (HP.set_eq ..)) fun hp3 a3 c3 hs3 hf3 hrow3=>?_
              simp only [slcV_slice]
              exact fin hp3 a3 c3 hs3 hf3 hrow3)
           | (refine app1 b0 hq1 _ (HSub.refl hq1) s0 hb0 (HP.set_eq ..) fun hp2 a2 c2 hs2 hf2 hrow2=>?_
              rw [Nat.zero_add]
              simp only [slcV_slice,ldL_some]
              refine ifI (ssc_len _) ?_
              refine fun (b2:Nat) (hb2:hp2 b2=Ent.none)=>?_
              have s2:=HSub.set_fresh hp2 (.cells 73 (ssc ⟨((last+1:Nat):Int),bn,p,st,due⟩) 0) hb2
              refine app2 _ a2 c2 b2 (hs2.trans s2) hf2 (hrow2.sub s2) (HP.set_eq ..) fun hp3 a3 c3 hs3 hf3 hrow3=>?_
              simp only [slcV_slice]
              exact fin hp3 a3 c3 hs3 hf3 hrow3))
end
end Go.Proofs
set_option linter.unusedVariables false
set_option linter.unusedSimpArgs false
set_option maxRecDepth 20000
namespace Go.Proofs
open Go Go.HL
open Go.Exp (Th tlt Ord setW dropW insW)
/-- Where the first of those that are due first stands, of so many. -/
def bestE (now:Int) (L:List Ss) (i:Nat) (v:Int):Prop:=
  (v=-1∧∀ j (hj:j<L.length),j<i→¬ L[j].due≤now) ∨
  ∃ (b:Nat) (hb:b<L.length),b<i∧v=b∧L[b].due≤now∧∀ j (hj:j<L.length),j<i→L[j].due≤now→L[b].due<L[j].due∨(L[b].due=L[j].due∧b≤j)
section
variable {hq hp:HP} {r mx last:Nat} {L:List Ss} {K:Value→HP→Prop}
theorem N36 {ps:Nat→HP} {j:Nat} {i:Int} {y:Ss} (hP:Parts hp ps) (h:RefR (ps j) r mx last L) (hl:L.length≤65535) (hn:(L.map (·.id)).Nodup) (hy:findN i L=some y)
    (hK:∀ l hp',RefR l r mx last (L.filter fun z=>decide (z.id≠i))→Parts hp' (pu ps j l)→K (.tuple ⟨[.agg ⟨ssc y⟩,.int .i64 0]⟩) hp'):CF Tryz.prog 36 [ptr r 0,.int .i64 i] hp K:=by
  refine CF.part hP j (R36 (K:=fun u l=>u=.tuple ⟨[.agg ⟨ssc y⟩,.int .i64 0]⟩∧RefR l r mx last (L.filter fun z=>decide (z.id≠i))) h hl hn (fun e=>by rw [e] at hy; cases hy) fun y' e l hl=>by
    rw [hy] at e; cases e; exact ⟨rfl,hl⟩) ?_
  rintro u l hp' ⟨rfl,hl⟩ hP'
  exact hK l hp' hl hP'
set_option maxHeartbeats 4000000 in
theorem R37 {now:Int} {w:List Th} (h:RefR hq r mx last L) (hl:L.length≤65535) (hasc:(L.map (·.id)).Pairwise (· < ·)) (hQ:QOk Ss.id Ss.due L w)
    (hK:∀ ps hp' a c,Parts hp' ps→RefR (ps 0) r mx last (restL Ss.due now L)→Row (ps 1) a (popsL Ss.id now L w).length c 73 9 ((popsL Ss.id now L w).flatMap ssc)→K (.slice a (popsL Ss.id now L w).length c) hp'):CF Tryz.prog 37 [ptr r 0,.int .i64 now] hq K:=by
  refine F37_ok _ now hq K ?_
  unfold F37 F37_j1
  refine LoopP.by (J:=fun k (st:Option Addr × Nat × Nat) hp=>∃ (ps:Nat→HP) (L':List Ss) (w':List Th) (out:List Ss),k=w'.length∧Parts hp ps∧RefR (ps 0) r mx last L' ∧
      st.2.1=out.length∧Row (ps 1) st.1 st.2.1 st.2.2 73 9 (out.flatMap ssc)∧QOk Ss.id Ss.due L' w'∧(L'.map (·.id)).Pairwise (· < ·)∧L'.length≤65535 ∧
      out++popsL Ss.id now L' w'=popsL Ss.id now L w∧restL Ss.due now L'=restL Ss.due now L) ?_
    (n:=w.length) ⟨pu (fun _ _=>.none) 0 hq,L,w,[],rfl,Parts.one (HSub.refl hq),by rw [pu_eq]; exact h,rfl,.inl ⟨rfl,rfl,rfl,rfl⟩,hQ,hasc,hl,rfl,rfl⟩
  rintro I k ⟨a,n,c⟩ hp ⟨ps,L',w',out,hk,hP,hS,hn,hrow,hQ',hasc',hl',hout,hrest⟩ hI
  simp only at hn hrow
  subst hn
  unfold F37_l2 F37_j4
  have hS':=hS.sub (hP.sub 0)
  obtain ⟨a0,c0,g1,g2⟩:=hS'
  have hc2:hp.cell r 2=some (.slice a0 L'.length c0):=HP.cell_of g1
  have hat:∀ {i:Nat} (hi:i<L'.length),∃ b o,a0=some ⟨b,o,none⟩∧∀ j v,(ssc L'[i])[j]?=some v→hp.cell b (o+i*9+j)=some v:=by
    intro i hi
    obtain ⟨b,o,e,hc⟩:=g2.shows.get ssc_len rfl hi
    exact ⟨b,o,e,fun t v hv=>HP.cell_cellN hc hv⟩
  have hids:(L'.map (·.id)).Nodup:=hasc'.imp fun h e=>by omega
  have three:∀ v,bestE now L' L'.length v→F37_j3 (some ⟨r,0,none⟩) now a out.length c v hp I K:=by
    intro v hv
    unfold F37_j3
    rcases hv with ⟨rfl,hno⟩ | ⟨b,hb,_,rfl,hbn,hmin⟩
    · rw [decide_eq_true (by omega),ite2_true]
      have hst:∀ t,w'.head?=some t→¬ t.2≤now:=by
        intro t ht hle
        cases hw:w' with
        | nil=>rw [hw] at ht; cases ht
        | cons t' w2=>
          rw [hw] at ht hQ'
          cases ht
          obtain ⟨x,hx,_,hx2,_⟩:=hQ'.head
          obtain ⟨j,hj,rfl⟩:=List.getElem_of_mem hx
          exact hno j hj hj (by omega)
      obtain ⟨e1,e2⟩:=pops_stop hQ' hst
      rw [e1,List.append_nil] at hout
      rw [e2] at hrest
      subst hout
      exact hK ps hp a c hP (hrest▸hS) hrow
    · rw [decide_eq_false (by omega),ite2_false]
      cases hw:w' with
      | nil=>
        rw [hw] at hQ'
        have:=hQ'.len
        simp at this
        omega
      | cons t w2=>
        subst hw
        obtain ⟨x,hx,hx1,hx2,hx3⟩:=hQ'.head
        obtain ⟨j,hj,rfl⟩:=List.getElem_of_mem hx
        have hmono:∀ i j (hi:i<L'.length) (hj:j<L'.length),i<j→L'[i].id<L'[j].id:=fun i j hi hj hij=>by
          have:=List.pairwise_iff_getElem.1 hasc' i j (by simpa using hi) (by simpa using hj) hij
          simpa using this
        have hd:=hx3 L'[b] (List.getElem_mem hb)
        have hm:=hmin j hj hj (by omega)
        have hbj:b=j:=by
          rcases Nat.lt_trichotomy b j with h | h | h
          · have:=hmono b j hb hj h; omega
          · exact h
          · omega
        subst hbj
        have hle:t.2≤now:=by omega
        obtain ⟨e1,e2⟩:=pops_step (x:=L'[b]) hids hQ' hle (List.getElem_mem hb) hx1
        obtain ⟨b3,o3,e3,gd⟩:=hat hb
        have gd0:=gd 0 _ (ssc_id _)
        simp only [ptrN_some,Nat.zero_add,hc2,ldV_some,slcV_slice,e3,Int.toNat_natCast,gd0,intV_int]
        refine ⟨by omega,by omega,?_⟩
        have hf:findN L'[b].id L'=some L'[b]:=find_of (g:=Ss.id) hids (List.getElem_mem hb)
        refine N36 (j:=0) hP hS hl' hids hf fun l hp1 hl1 P1=>?_
        simp only [tup2V_mk,aggV_agg,intV_int]
        rw [ssz]
        refine ifI (ssc_len _) (ifI (ssc_one _) (ifI (by simp [ssc_len]) ?_))
        rw [ss_spl (ssc_len _),ssc_cells,ldL_some]
        refine ifI (ssc_len _) ?_
        intro b4 hb4
        rw [ss_spl (ssc_len _)]
        have P2:Parts (hp1.set b4 (.cells 73 (ssc L'[b]) 0)) (pu ps 0 l):=P1.weak (HSub.set_fresh _ _ hb4)
        have hlen:out.length+1≤100000:=by
          have h1:=congrArg List.length hout
          rw [e1] at h1
          simp only [List.length_append,List.length_cons] at h1
          have h2:(popsL Ss.id now L w).length≤w.length:=by
            unfold popsL
            exact Nat.le_trans (List.length_filterMap_le _ _) ((List.takeWhile_sublist _).length_le)
          have h3:=hQ.len
          omega
        refine opS_appP (e:=73) (size:=9) (bytes:=48) (by kernel_rfl) P2 1 (s:=a) (n:=out.length) (c:=c) (xs:=out.flatMap ssc) (by rw [pu_ne _ _ (by omega)]; exact hrow)
          (ys:=ssc L'[b]) (.inr ⟨b4,0,rfl,by rw [HP.cellN_of (HP.set_eq ..)]; exact cellsN_all rfl⟩) (ssc_one _) (by simp [ssc]) (by omega) (by omega) ?_
        intro a2 c2 hp2 rr hr P3
        rw [slcV_slice]
        rw [hx1] at hl1
        have hQ2:=hQ'.cut (i:=t.1)
        rw [hQ'.tail] at hQ2
        refine hI w2.length _ _ (by rw [hk]; simp) ⟨_,_,w2,out++[L'[b]],rfl,P3,?_,?_,?_,hQ2,?_,?_,?_,?_⟩
        · rw [pu_ne _ _ (by omega),pu_eq]; exact hl1
        · simp
        · rw [pu_eq]
          show Row rr a2 (out.length+1) c2 73 9 _
          rw [List.flatMap_append]
          simpa using hr
        · exact hasc'.sublist (List.filter_sublist.map _)
        · exact Nat.le_trans (List.length_filter_le _ _) hl'
        · rw [← hout,e1,List.append_assoc]; rfl
        · rw [e2]; exact hrest
  refine LoopP.by (J:=fun k2 (st:Int × Int) hp'=>hp'=hp∧∃ i:Nat,st.2=i∧i+k2=L'.length∧bestE now L' i st.1) ?_ (n:=L'.length) ⟨rfl,0,rfl,by omega,.inl ⟨rfl,fun j _ hj=>by omega⟩⟩
  rintro I5 k2 ⟨v,x⟩ hp' ⟨rfl,i,hx,hik,hb⟩ hI5
  simp only at hx hb
  subst hx
  unfold F37_l5
  simp only [ptrN_some,Nat.zero_add,hc2,ldV_some,slcV_slice]
  by_cases hi:i<L'.length
  · rw [decide_eq_true (by omega:(i:Int)<(L'.length:Nat)),ite2_true]
    obtain ⟨b',off,e0,gd⟩:=hat hi
    have gd8:=gd 8 _ (ssc_due _)
    simp only [e0,ptrN_some,Int.toNat_natCast,gd8,ldV_some,intV_int]
    refine ⟨by omega,by omega,?_⟩
    have w1:IntKind.wrap .i64 ((i:Int)+1)=((i+1:Nat):Int):=wi (by omega) (by omega)
    have yes:(∀ j (hj:j<L'.length),j<i→L'[j].due≤now→L'[i].due<L'[j].due)→L'[i].due≤now→F37_j7 (some ⟨r,0,none⟩) now a out.length c v i true hp' I I5 K:=by
      intro hlt hn
      unfold F37_j7 F37_j6
      rw [ite2_true,w1]
      refine hI5 (k2-1) _ _ (by omega) ⟨rfl,i+1,rfl,by omega,.inr ⟨i,hi,by omega,rfl,hn,fun j hj hji hjn=>?_⟩⟩
      by_cases e:j=i
      · subst e; exact .inr ⟨rfl,Nat.le_refl _⟩
      · exact .inl (hlt j hj (by omega) hjn)
    have no:bestE now L' (i+1) v→F37_j7 (some ⟨r,0,none⟩) now a out.length c v i false hp' I I5 K:=by
      intro hb'
      unfold F37_j7 F37_j6
      rw [ite2_false,w1]
      exact hI5 (k2-1) _ _ (by omega) ⟨rfl,i+1,rfl,by omega,hb'⟩
    by_cases hd:L'[i].due≤now
    · rw [decide_eq_true hd,ite2_true]
      rcases hb with ⟨rfl,hno⟩ | ⟨b,hb,hbi,rfl,hbn,hmin⟩
      · rw [decide_eq_true (by omega),ite2_true]
        exact yes (fun j hj hji hjn=>absurd hjn (hno j hj hji)) hd
      · rw [decide_eq_false (by omega),ite2_false]
        refine ⟨by omega,by omega,by omega,by omega,?_⟩
        obtain ⟨b2,off2,e2,gd'⟩:=hat hb
        rw [e0] at e2
        cases e2
        have gd9:=gd' 8 _ (ssc_due _)
        simp only [Int.toNat_natCast,gd9,ldV_some,intV_int]
        by_cases hlt:L'[i].due<L'[b].due
        · rw [decide_eq_true hlt]
          refine yes (fun j hj hji hjn=>?_) hd
          have:=hmin j hj hji hjn
          omega
        · rw [decide_eq_false hlt]
          refine no (.inr ⟨b,hb,by omega,rfl,hbn,fun j hj hji hjn=>?_⟩)
          by_cases e:j=i
          · subst e
            rcases Nat.lt_or_ge b j with h | h
            · by_cases he:L'[b].due=L'[j].due
              · exact .inr ⟨he,by omega⟩
              · left; omega
            · omega
          · exact hmin j hj (by omega) hjn
    · rw [decide_eq_false hd,ite2_false]
      refine no ?_
      rcases hb with ⟨rfl,hno⟩ | ⟨b,hb,hbi,rfl,hbn,hmin⟩
      · refine .inl ⟨rfl,fun j hj hji=>?_⟩
        by_cases e:j=i
        · subst e; exact hd
        · exact hno j hj (by omega)
      · refine .inr ⟨b,hb,by omega,rfl,hbn,fun j hj hji hjn=>?_⟩
        by_cases e:j=i
        · subst e; exact absurd hjn hd
        · exact hmin j hj (by omega) hjn
  · rw [decide_eq_false (by omega:¬ (i:Int)<(L'.length:Nat)),ite2_false]
    have:i=L'.length:=by omega
    subst this
    exact three v hb
end
end Go.Proofs
set_option linter.unusedVariables false
set_option maxRecDepth 20000
namespace Go.Proofs
open Go Go.HL
def F7_j5 (x0 x1:OA) (x7 x144:Int) (x197:Bool) (k5:List Value) (hp:HP) (K:Kh):Prop:=
  (ite2 x197 (CF Tryz.prog 35 [(Value.pointer x0),(Value.int .i64 x7)] hp fun u_72 h_73=>(tup2V u_72 fun u_74 u_75=>(aggV u_74 fun l_76=>(intV u_75 .i64 fun i_77=>(if List.length l_76=9 then (if List.all l_76 one=true then (if 0+List.length l_76≤List.length [(Value.int .i64 0),(Value.int .i64 0),(Value.int .u8 0),(Value.int .u8 0),(Value.int .u8 0),(Value.int .u8 0),(Value.int .i64 0),(Value.int .i64 0),(Value.int .i64 0)] then (CF Tryz.prog 36 [(Value.pointer x1),(Value.int .i64 x7)] h_73 fun u_78 h_79=>(tup2V u_78 fun u_80 u_81=>(aggV u_80 fun l_82=>(intV u_81 .i64 fun i_83=>(if List.length l_82=9 then (if List.all l_82 one=true then (if 0+List.length l_82≤List.length [(Value.int .i64 0),(Value.int .i64 0),(Value.int .u8 0),(Value.int .u8 0),(Value.int .u8 0),(Value.int .u8 0),(Value.int .i64 0),(Value.int .i64 0),(Value.int .i64 0)] then (ldL (cellsN (splice [(Value.int .i64 0),(Value.int .i64 0),(Value.int .u8 0),(Value.int .u8 0),(Value.int .u8 0),(Value.int .u8 0),(Value.int .i64 0),(Value.int .i64 0),(Value.int .i64 0)] 0 l_76) 0 9) fun l_84=>(ldL (cellsN (splice [(Value.int .i64 0),(Value.int .i64 0),(Value.int .u8 0),(Value.int .u8 0),(Value.int .u8 0),(Value.int .u8 0),(Value.int .i64 0),(Value.int .i64 0),(Value.int .i64 0)] 0 l_82) 0 9) fun l_85=>(CF Tryz.prog 31 [(Value.agg ⟨l_84⟩),(Value.agg ⟨l_85⟩)] h_79 fun u_86 h_87=>(boolV u_86 fun q_88=>(ite2 q_88 (K (Value.bool ((i_77:Int)==i_83)) h_87) (K (Value.bool false) h_87)))))) else False) else False) else False))))) else False) else False) else False))))) (ite2 ((x144:Int)==3) (ldV (k5)[6]? fun v_89=>(intV v_89 .i64 fun i_90=>(CF Tryz.prog 21 [(Value.pointer x0),(Value.int .i64 i_90)] hp fun u_91 h_92=>(slcV u_91 fun a_93 n_94 c_95=>(ldV (k5)[6]? fun v_96=>(intV v_96 .i64 fun i_97=>(CF Tryz.prog 37 [(Value.pointer x1),(Value.int .i64 i_97)] h_92 fun u_98 h_99=>(slcV u_98 fun a_100 n_101 c_102=>(CF Tryz.prog 8 [(Value.slice a_93 n_94 c_95),(Value.slice a_100 n_101 c_102)] h_99 fun u_103 h_104=>(boolV u_103 fun q_105=>(K (Value.bool q_105) h_104))))))))))) (K (Value.bool true) hp)))
def F7_j4 (x0 x1:OA) (x7 x144:Int) (x179:Bool) (k5:List Value) (hp:HP) (K:Kh):Prop:=
  (ite2 x179 (ldV (k5)[5]? fun v_58=>(intV v_58 .i64 fun i_59=>(ldV (k5)[6]? fun v_60=>(intV v_60 .i64 fun i_61=>(CF Tryz.prog 33 [(Value.pointer x0),(Value.int .i64 x7),(Value.int .i64 i_59),(Value.int .i64 i_61)] hp fun u_62 h_63=>(intV u_62 .i64 fun i_64=>(ldV (k5)[5]? fun v_65=>(intV v_65 .i64 fun i_66=>(ldV (k5)[6]? fun v_67=>(intV v_67 .i64 fun i_68=>(CF Tryz.prog 34 [(Value.pointer x1),(Value.int .i64 x7),(Value.int .i64 i_66),(Value.int .i64 i_68)] h_63 fun u_69 h_70=>(intV u_69 .i64 fun i_71=>(K (Value.bool ((i_64:Int)==i_71)) h_70))))))))))))) (ite2 ((x144:Int)==2) (F7_j5 x0 x1 x7 x144 ((x144:Int)==2) k5 hp  K) (F7_j5 x0 x1 x7 x144 ((x144:Int)==5) k5 hp  K)))
def F7_j3 (x0 x1:OA) (x7:Int) (x142:Bool) (k5 k9:List Value) (hp:HP) (K:Kh):Prop:=
  (ite2 x142 (K (Value.bool false) hp) (ldV (k5)[0]? fun v_25=>(intV v_25 .u8 fun i_26=>(ite2 ((i_26:Int)==0) (ldV (k5)[2]? fun v_27=>(intV v_27 .i64 fun i_28=>(ldL (cellsN k9 0 5) fun l_29=>(ldV (k5)[5]? fun v_30=>(intV v_30 .i64 fun i_31=>(ldV (k5)[6]? fun v_32=>(intV v_32 .i64 fun i_33=>(CF Tryz.prog 18 [(Value.pointer x0),(Value.int .i64 i_28),(Value.agg ⟨l_29⟩),(Value.int .i64 i_31),(Value.int .i64 i_33)] hp fun u_34 h_35=>(tup2V u_34 fun u_36 u_37=>(aggV u_36 fun l_38=>(intV u_37 .i64 fun i_39=>(if List.length l_38=9 then (if List.all l_38 one=true then (if 0+List.length l_38≤List.length [(Value.int .i64 0),(Value.int .i64 0),(Value.int .u8 0),(Value.int .u8 0),(Value.int .u8 0),(Value.int .u8 0),(Value.int .i64 0),(Value.int .i64 0),(Value.int .i64 0)] then (ldV (k5)[2]? fun v_40=>(intV v_40 .i64 fun i_41=>(ldL (cellsN k9 0 5) fun l_42=>(ldV (k5)[5]? fun v_43=>(intV v_43 .i64 fun i_44=>(ldV (k5)[6]? fun v_45=>(intV v_45 .i64 fun i_46=>(CF Tryz.prog 32 [(Value.pointer x1),(Value.int .i64 i_41),(Value.agg ⟨l_42⟩),(Value.int .i64 i_44),(Value.int .i64 i_46)] h_35 fun u_47 h_48=>(tup2V u_47 fun u_49 u_50=>(aggV u_49 fun l_51=>(intV u_50 .i64 fun i_52=>(if List.length l_51=9 then (if List.all l_51 one=true then (if 0+List.length l_51≤List.length [(Value.int .i64 0),(Value.int .i64 0),(Value.int .u8 0),(Value.int .u8 0),(Value.int .u8 0),(Value.int .u8 0),(Value.int .i64 0),(Value.int .i64 0),(Value.int .i64 0)] then (ldL (cellsN (splice [(Value.int .i64 0),(Value.int .i64 0),(Value.int .u8 0),(Value.int .u8 0),(Value.int .u8 0),(Value.int .u8 0),(Value.int .i64 0),(Value.int .i64 0),(Value.int .i64 0)] 0 l_38) 0 9) fun l_53=>(ldL (cellsN (splice [(Value.int .i64 0),(Value.int .i64 0),(Value.int .u8 0),(Value.int .u8 0),(Value.int .u8 0),(Value.int .u8 0),(Value.int .i64 0),(Value.int .i64 0),(Value.int .i64 0)] 0 l_51) 0 9) fun l_54=>(CF Tryz.prog 31 [(Value.agg ⟨l_53⟩),(Value.agg ⟨l_54⟩)] h_48 fun u_55 h_56=>(boolV u_55 fun q_57=>(ite2 q_57 (K (Value.bool ((i_39:Int)==i_52)) h_56) (K (Value.bool false) h_56)))))) else False) else False) else False)))))))))))) else False) else False) else False)))))))))))) (ite2 ((i_26:Int)==1) (F7_j4 x0 x1 x7 i_26 ((i_26:Int)==1) k5 hp  K) (F7_j4 x0 x1 x7 i_26 ((i_26:Int)==4) k5 hp  K))))))
def F7_j2 (x0 x1:OA) (x7:Int) (x101:Bool) (k5 k9:List Value) (hp:HP) (K:Kh):Prop:=
  (ite2 x101 (K (Value.bool false) hp) (ldV (k5)[2]? fun v_10=>(intV v_10 .i64 fun i_11=>(ldL (cellsN k9 0 5) fun l_12=>(CF Tryz.prog 29 [(Value.pointer x0),(Value.int .i64 i_11),(Value.agg ⟨l_12⟩)] hp fun u_13 h_14=>(tup2V u_13 fun u_15 u_16=>(aggV u_15 fun l_17=>(boolV u_16 fun q_18=>(if List.length l_17=9 then (if List.all l_17 one=true then (if 0+List.length l_17≤List.length [(Value.int .i64 0),(Value.int .i64 0),(Value.int .u8 0),(Value.int .u8 0),(Value.int .u8 0),(Value.int .u8 0),(Value.int .i64 0),(Value.int .i64 0),(Value.int .i64 0)] then (ldV (k5)[2]? fun v_19=>(intV v_19 .i64 fun i_20=>(ldL (cellsN k9 0 5) fun l_21=>(CF Tryz.prog 30 [(Value.pointer x1),(Value.int .i64 i_20),(Value.agg ⟨l_21⟩)] h_14 fun u_22 h_23=>(intV u_22 .i64 fun i_24=>(ite2 (!(q_18==(decide ((i_24:Int)≥0)))) (F7_j3 x0 x1 x7 true k5 k9 h_23  K) (ite2 q_18 (ldL (cellsN (splice [(Value.int .i64 0),(Value.int .i64 0),(Value.int .u8 0),(Value.int .u8 0),(Value.int .u8 0),(Value.int .u8 0),(Value.int .i64 0),(Value.int .i64 0),(Value.int .i64 0)] 0 l_17) 0 9) fun l_106=>(ptrN x1 fun b_107 o_108=>(ldV (HP.cell h_23 b_107 (o_108+2)) fun v_109=>(slcV v_109 fun a_110 n_111 c_112=>((0≤(i_24:Int))∧((i_24:Int)<(n_111:Nat))∧(ptrN a_110 fun b_113 o_114=>(ldL (HP.cellN h_23 b_113 (o_114+Int.toNat i_24*9) 9) fun l_115=>(CF Tryz.prog 31 [(Value.agg ⟨l_106⟩),(Value.agg ⟨l_115⟩)] h_23 fun u_116 h_117=>(boolV u_116 fun q_118=>(ite2 (!q_118) (F7_j3 x0 x1 x7 true k5 k9 h_117  K) (ite2 (!q_18) (ldL (cellsN (splice [(Value.int .i64 0),(Value.int .i64 0),(Value.int .u8 0),(Value.int .u8 0),(Value.int .u8 0),(Value.int .u8 0),(Value.int .i64 0),(Value.int .i64 0),(Value.int .i64 0)] 0 l_17) 0 9) fun l_119=>(eqAgg Tryz.prog 58 l_119 [(Value.int .i64 0),(Value.int .i64 0),(Value.int .u8 0),(Value.int .u8 0),(Value.int .u8 0),(Value.int .u8 0),(Value.int .i64 0),(Value.int .i64 0),(Value.int .i64 0)] fun q_120=>(F7_j3 x0 x1 x7 (!q_120) k5 k9 h_117  K))) (F7_j3 x0 x1 x7 false k5 k9 h_117  K)))))))))))) (ite2 (!q_18) (ldL (cellsN (splice [(Value.int .i64 0),(Value.int .i64 0),(Value.int .u8 0),(Value.int .u8 0),(Value.int .u8 0),(Value.int .u8 0),(Value.int .i64 0),(Value.int .i64 0),(Value.int .i64 0)] 0 l_17) 0 9) fun l_121=>(eqAgg Tryz.prog 58 l_121 [(Value.int .i64 0),(Value.int .i64 0),(Value.int .u8 0),(Value.int .u8 0),(Value.int .u8 0),(Value.int .u8 0),(Value.int .i64 0),(Value.int .i64 0),(Value.int .i64 0)] fun q_122=>(F7_j3 x0 x1 x7 (!q_122) k5 k9 h_23  K))) (F7_j3 x0 x1 x7 false k5 k9 h_23  K))))))))) else False) else False) else False)))))))))
def F7_j1 (x0 x1:OA) (x7:Int) (k5:List Value) (hp:HP) (K:Kh):Prop:=
  (ldV (k5)[1]? fun v_3=>(intV v_3 .u8 fun i_4=>(ldV (k5)[3]? fun v_5=>(intV v_5 .i64 fun i_6=>(CF Tryz.prog 19 [(Value.int .u8 i_4),(Value.int .i64 i_6)] hp fun u_7 h_8=>(aggV u_7 fun l_9=>(if List.length l_9=5 then (if List.all l_9 one=true then (if 0+List.length l_9≤List.length [(Value.int .u8 0),(Value.int .u8 0),(Value.int .u8 0),(Value.int .u8 0),(Value.int .i64 0)] then (ldV (k5)[2]? fun v_123=>(intV v_123 .i64 fun i_124=>(ldL (cellsN (splice [(Value.int .u8 0),(Value.int .u8 0),(Value.int .u8 0),(Value.int .u8 0),(Value.int .i64 0)] 0 l_9) 0 5) fun l_125=>(CF Tryz.prog 24 [(Value.pointer x0),(Value.int .i64 i_124),(Value.agg ⟨l_125⟩)] h_8 fun u_126 h_127=>(intV u_126 .i64 fun i_128=>(ldV (k5)[2]? fun v_129=>(intV v_129 .i64 fun i_130=>(ldL (cellsN (splice [(Value.int .u8 0),(Value.int .u8 0),(Value.int .u8 0),(Value.int .u8 0),(Value.int .i64 0)] 0 l_9) 0 5) fun l_131=>(CF Tryz.prog 25 [(Value.pointer x1),(Value.int .i64 i_130),(Value.agg ⟨l_131⟩)] h_127 fun u_132 h_133=>(intV u_132 .i64 fun i_134=>(ite2 ((i_128:Int) != i_134) (F7_j2 x0 x1 x7 true k5 (splice [(Value.int .u8 0),(Value.int .u8 0),(Value.int .u8 0),(Value.int .u8 0),(Value.int .i64 0)] 0 l_9) h_133  K) (ldV (k5)[2]? fun v_135=>(intV v_135 .i64 fun i_136=>(ldL (cellsN (splice [(Value.int .u8 0),(Value.int .u8 0),(Value.int .u8 0),(Value.int .u8 0),(Value.int .i64 0)] 0 l_9) 0 4) fun l_137=>(CF Tryz.prog 20 [(Value.pointer x0),(Value.int .i64 i_136),(Value.agg ⟨l_137⟩)] h_133 fun u_138 h_139=>(boolV u_138 fun q_140=>(ldV (k5)[2]? fun v_141=>(intV v_141 .i64 fun i_142=>(ldL (cellsN (splice [(Value.int .u8 0),(Value.int .u8 0),(Value.int .u8 0),(Value.int .u8 0),(Value.int .i64 0)] 0 l_9) 0 4) fun l_143=>(CF Tryz.prog 26 [(Value.pointer x1),(Value.int .i64 i_142),(Value.agg ⟨l_143⟩)] h_139 fun u_144 h_145=>(boolV u_144 fun q_146=>(ite2 (!(q_140==q_146)) (F7_j2 x0 x1 x7 true k5 (splice [(Value.int .u8 0),(Value.int .u8 0),(Value.int .u8 0),(Value.int .u8 0),(Value.int .i64 0)] 0 l_9) h_145  K) (ldV (k5)[2]? fun v_147=>(intV v_147 .i64 fun i_148=>(CF Tryz.prog 27 [(Value.pointer x0),(Value.int .i64 i_148)] h_145 fun u_149 h_150=>(slcV u_149 fun a_151 n_152 c_153=>(ldV (k5)[2]? fun v_154=>(intV v_154 .i64 fun i_155=>(CF Tryz.prog 28 [(Value.pointer x1),(Value.int .i64 i_155)] h_150 fun u_156 h_157=>(slcV u_156 fun a_158 n_159 c_160=>(CF Tryz.prog 8 [(Value.slice a_151 n_152 c_153),(Value.slice a_158 n_159 c_160)] h_157 fun u_161 h_162=>(boolV u_161 fun q_163=>(F7_j2 x0 x1 x7 (!q_163) k5 (splice [(Value.int .u8 0),(Value.int .u8 0),(Value.int .u8 0),(Value.int .u8 0),(Value.int .i64 0)] 0 l_9) h_162  K))))))))))))))))))))))))))))))))) else False) else False) else False)))))))
def F7_j7 (x0 x1:OA) (x8:Int) (k5:List Value) (hp:HP) (K:Kh):Prop:=
  (ptrN x1 fun b_172 o_173=>(ldV (HP.cell hp b_172 (o_173+2)) fun v_174=>(slcV v_174 fun a_175 n_176 c_177=>((0≤(x8:Int))∧((x8:Int)<(n_176:Nat))∧(ptrN a_175 fun b_178 o_179=>(ldV (HP.cell hp b_178 ((o_179+Int.toNat x8*9)+0)) fun v_180=>(intV v_180 .i64 fun i_181=>(F7_j1 x0 x1 i_181 k5 hp  K))))))))
def F7_j6 (x0 x1:OA) (x7:Int) (x33:Bool) (k5:List Value) (hp:HP) (K:Kh):Prop:=
  (ite2 x33 (ldV (k5)[4]? fun v_164=>(intV v_164 .i64 fun i_165=>(ptrN x1 fun b_166 o_167=>(ldV (HP.cell hp b_166 (o_167+2)) fun v_168=>(slcV v_168 fun a_169 n_170 c_171=>((((n_170:Nat):Int)≠0)∧(ite2 (decide (((Int.tmod i_165 (n_170:Nat)):Int)<0)) (ptrN x1 fun b_182 o_183=>(ldV (HP.cell hp b_182 (o_183+2)) fun v_184=>(slcV v_184 fun a_185 n_186 c_187=>(F7_j7 x0 x1 (IntKind.wrap .i64 ((Int.tmod i_165 (n_170:Nat))+(n_186:Nat))) k5 hp  K)))) (F7_j7 x0 x1 (Int.tmod i_165 (n_170:Nat)) k5 hp  K)))))))) (F7_j1 x0 x1 x7 k5 hp  K))
def F7 (x0 x1:OA) (x2:List Value) (hp:HP) (K:Kh):Prop:=
  (ldV (x2)[4]? fun v_1=>(intV v_1 .i64 fun i_2=>(ptrN x1 fun b_188 o_189=>(ldV (HP.cell hp b_188 (o_189+2)) fun v_190=>(slcV v_190 fun a_191 n_192 c_193=>(ite2 (decide (((n_192:Nat):Int) > 0)) (ldV (x2)[0]? fun v_194=>(intV v_194 .u8 fun i_195=>(F7_j6 x0 x1 i_2 (decide ((i_195:Int)<4)) x2 hp  K))) (F7_j6 x0 x1 i_2 false x2 hp  K)))))))
theorem F7_ok (x0 x1:OA) (x2:List Value) (hp:HP) (K:Kh) (h:F7 x0 x1 x2 hp K):CF Tryz.prog 7 [(Value.pointer x0),(Value.pointer x1),(Value.agg ⟨x2⟩)] hp K:=
  have L:∀ {Q} n,Snd Tryz.prog 231 (cAt Tryz.f7 (pth n)) Q (CW Tryz.prog 231 [5,9,10,13,15,17,19,21,30,34,59,61,65,70,77,79,83,85,92,96,104,111,143,149,152,154,161,164,166,184,186,191,193,223,227] [] (cAt Tryz.f7 (pth n)) Q):=fun _=>Snd.leaf
  okF h Tryz.func7 (Snd.seq (L 2) (Snd.seq (L 5) (Snd.jn [(0,.p),(1,.p),(5,.r 5 0),(7,.i .i64),(5,.c 34)] (fun a hp=>F7_j1 a.1 a.2.1 a.2.2.1 a.2.2.2.1 hp  K) (Snd.jn [(0,.p),(1,.p),(5,.r 5 0),(7,.i .i64),(33,.b),(5,.c 34)] (fun a hp=>F7_j6 a.1 a.2.1 a.2.2.1 a.2.2.2.1 a.2.2.2.2.1 hp  K) (L 19) (Snd.cond 33 (Snd.seq (L 75) (Snd.jn [(0,.p),(1,.p),(5,.r 5 0),(8,.i .i64),(5,.c 34)] (fun a hp=>F7_j7 a.1 a.2.1 a.2.2.1 a.2.2.2.1 hp  K) (L 171) (L 235) (by rfl) (by kernel_rfl))) (L 59)) (by rfl) (by kernel_rfl)) (Snd.seq (L 23) (Snd.seq (Snd.jn [(0,.p),(1,.p),(5,.r 5 0),(7,.i .i64),(9,.r 9 0),(101,.b),(5,.c 34),(9,.c 56)] (fun a hp=>F7_j2 a.1 a.2.1 a.2.2.1 a.2.2.2.1 a.2.2.2.2.1 a.2.2.2.2.2.1 hp  K) (L 79) (L 111) (by rfl) (by kernel_rfl)) (Snd.seq (L 95) (Snd.seq (L 191) (Snd.seq (Snd.jn [(0,.p),(1,.p),(5,.r 5 0),(7,.i .i64),(9,.r 9 0),(142,.b),(5,.c 34),(9,.c 56)] (fun a hp=>F7_j3 a.1 a.2.1 a.2.2.1 a.2.2.2.1 a.2.2.2.2.1 a.2.2.2.2.2.1 hp  K) (L 639) (L 895) (by rfl) (by kernel_rfl)) (Snd.seq (Snd.seq (L 1279) (Snd.block 0 (Snd.seq (L 4863) (Snd.cond 145 (L 11007) (Snd.jn [(0,.p),(1,.p),(5,.r 5 0),(7,.i .i64),(144,.i .u8),(179,.b),(5,.c 34)] (fun a hp=>F7_j4 a.1 a.2.1 a.2.2.1 a.2.2.2.1 a.2.2.2.2.1 a.2.2.2.2.2.1 hp  K) (L 23295) (Snd.cond 179 (L 47871) (Snd.jn [(0,.p),(1,.p),(5,.r 5 0),(7,.i .i64),(144,.i .u8),(197,.b),(5,.c 34)] (fun a hp=>F7_j5 a.1 a.2.1 a.2.2.1 a.2.2.2.1 a.2.2.2.2.1 a.2.2.2.2.2.1 hp  K) (L 97023) (L 129791) (by rfl) (by kernel_rfl))) (by rfl) (by kernel_rfl)))))) (L 1023))))))) (by rfl) (by kernel_rfl)))) (by kernel_rfl) (by kernel_rfl) (by kernel_rfl)
end Go.Proofs
set_option linter.unusedVariables false
set_option linter.unusedSimpArgs false
set_option maxRecDepth 20000
namespace Go.Proofs
open Go Go.HL
open Go.Exp (Th tlt Ord setW dropW insW)
section
variable {tb:Obj} {hp0 hp:HP} {K:Value→HP→Prop} {s r mx la lb:Nat} {L M:List Ss} {w:List Th}
/-- A table of sessions and a document's, beside what was known at first. -/
def StE (tb:Obj) (hp0 hp:HP) (s r mx la:Nat) (L:List Ss) (w:List Th) (lb:Nat) (M:List Ss):Prop:=
  ∃ ps:Nat→HP,Parts hp ps∧ps 0=hp0.set 0 .none∧SeW tb (ps 1) s mx la L w∧RefR (ps 2) r mx lb M∧∀ i,3≤i→∀ b,ps i b=.none
theorem StE.of {ps:Nat→HP} (hP:Parts hp ps) (h0:ps 0=hp0.set 0 .none) (h1:SeW tb (ps 1) s mx la L w) (h2:RefR (ps 2) r mx lb M):StE tb hp0 hp s r mx la L w lb M:=
  ⟨_,hP.cut 3,by simpa using h0,by simpa using h1,by simpa using h2,fun i hi b=>by simp only [show ¬ i<3 by omega,if_false]⟩
theorem StE.wt (h:StE tb hp0 hp s r mx la L w lb M):SeW tb hp s mx la L w:=by
  obtain ⟨ps,P,h0,h1,h2,_⟩:=h
  exact h1.sub (P.sub 1)
theorem StE.rf (h:StE tb hp0 hp s r mx la L w lb M):RefR hp r mx lb M:=by
  obtain ⟨ps,P,h0,h1,h2,_⟩:=h
  exact h2.sub (P.sub 2)
theorem StE.fin (h:StE tb hp0 hp s r mx la L w lb M) (ht:TabR tb hp0):HSub hp0 hp:=by
  have hw:=h.wt
  obtain ⟨ps,P,h0,_⟩:=h
  exact finish ht P h0 hw.tab
theorem Y18 (h:StE tb hp0 hp s r mx la L w lb M) {b st due:Int} {p:Q × Int} (hb:okZ b) (hp':okT p) (hlast:la<500000)
    (hno:addE mx b p due L≠0→K (.tuple ⟨[.agg ⟨ssc ss0⟩,.int .i64 (addE mx b p due L)]⟩) hp)
    (hyes:addE mx b p due L=0→∀ hp',StE tb hp0 hp' s r mx (la+1) (L++[⟨((la+1:Nat):Int),b,p,st,due⟩]) (setW ((la+1:Nat):Int) due w) lb M→K (.tuple ⟨[.agg ⟨ssc ⟨((la+1:Nat):Int),b,p,st,due⟩⟩,.int .i64 0]⟩) hp') :
    CF Tryz.prog 18 [ptr s 0,.int .i64 b,.agg ⟨t4 p⟩,.int .i64 st,.int .i64 due] hp K:=by
  by_cases he:addE mx b p due L=0
  rotate_left
  · exact W18 h.wt hb hp' hlast hno fun e=>absurd e he
  obtain ⟨ps,P,h0,h1,h2,_⟩:=h
  refine CF.part P 1 (W18 (K:=fun u q=>u=.tuple ⟨[.agg ⟨ssc ⟨((la+1:Nat):Int),b,p,st,due⟩⟩,.int .i64 0]⟩∧SeW tb q s mx (la+1) (L++[⟨((la+1:Nat):Int),b,p,st,due⟩]) (setW ((la+1:Nat):Int) due w))
    h1 hb hp' hlast (fun e=>absurd he e) fun e q hq=>⟨rfl,hq⟩) ?_
  rintro u q hp'' ⟨rfl,hq⟩ P'
  exact hyes he hp'' (StE.of P' (by rw [pu_ne _ _ (by omega)]; exact h0) (by rw [pu_eq]; exact hq) (by rw [pu_ne _ _ (by omega)]; exact h2))
theorem Y32 (h:StE tb hp0 hp s r mx la L w lb M) {b st due:Int} {p:Q × Int} (hlast:lb<500000) (hl:M.length≤65535)
    (hno:addE mx b p due M≠0→K (.tuple ⟨[.agg ⟨ssc ss0⟩,.int .i64 (addE mx b p due M)]⟩) hp)
    (hyes:addE mx b p due M=0→∀ hp',StE tb hp0 hp' s r mx la L w (lb+1) (M++[⟨((lb+1:Nat):Int),b,p,st,due⟩])→K (.tuple ⟨[.agg ⟨ssc ⟨((lb+1:Nat):Int),b,p,st,due⟩⟩,.int .i64 0]⟩) hp') :
    CF Tryz.prog 32 [ptr r 0,.int .i64 b,.agg ⟨t4 p⟩,.int .i64 st,.int .i64 due] hp K:=by
  by_cases he:addE mx b p due M=0
  rotate_left
  · exact R32 h.rf hlast hl hno fun e=>absurd e he
  obtain ⟨ps,P,h0,h1,h2,_⟩:=h
  refine CF.part P 2 (R32 (K:=fun u q=>u=.tuple ⟨[.agg ⟨ssc ⟨((lb+1:Nat):Int),b,p,st,due⟩⟩,.int .i64 0]⟩∧RefR q r mx (lb+1) (M++[⟨((lb+1:Nat):Int),b,p,st,due⟩]))
    h2 hlast hl (fun e=>absurd he e) fun e q hq=>⟨rfl,hq⟩) ?_
  rintro u q hp'' ⟨rfl,hq⟩ P'
  exact hyes he hp'' (StE.of P' (by rw [pu_ne _ _ (by omega)]; exact h0) (by rw [pu_ne _ _ (by omega)]; exact h1) (by rw [pu_eq]; exact hq))
theorem Y35 (h:StE tb hp0 hp s r mx la L w lb M) {i:Int} (hno:findN i L=none→K (.tuple ⟨[.agg ⟨ssc ss0⟩,.int .i64 4]⟩) hp)
    (hyes:∀ y,findN i L=some y→∀ hp',StE tb hp0 hp' s r mx la (L.filter fun z=>decide (z.id≠i)) (dropW i w) lb M→K (.tuple ⟨[.agg ⟨ssc y⟩,.int .i64 0]⟩) hp'):CF Tryz.prog 35 [ptr s 0,.int .i64 i] hp K:=by
  cases hf:findN i L with
  | none=>exact W35 h.wt hno fun y hy=>by rw [hf] at hy; cases hy
  | some y=>
    obtain ⟨ps,P,h0,h1,h2,_⟩:=h
    exact N35 P 1 h1 hf fun l hp' hl P'=>hyes y hf hp' (StE.of P' (by rw [pu_ne _ _ (by omega)]; exact h0) (by rw [pu_eq]; exact hl) (by rw [pu_ne _ _ (by omega)]; exact h2))
theorem Y36 (h:StE tb hp0 hp s r mx la L w lb M) {i:Int} (hl:M.length≤65535) (hn:(M.map (·.id)).Nodup) (hno:findN i M=none→K (.tuple ⟨[.agg ⟨ssc ss0⟩,.int .i64 4]⟩) hp)
    (hyes:∀ y,findN i M=some y→∀ hp',StE tb hp0 hp' s r mx la L w lb (M.filter fun z=>decide (z.id≠i))→K (.tuple ⟨[.agg ⟨ssc y⟩,.int .i64 0]⟩) hp'):CF Tryz.prog 36 [ptr r 0,.int .i64 i] hp K:=by
  cases hf:findN i M with
  | none=>exact R36 h.rf hl hn hno fun y hy=>by rw [hf] at hy; cases hy
  | some y=>
    obtain ⟨ps,P,h0,h1,h2,_⟩:=h
    exact N36 P h2 hl hn hf fun l hp' hl P'=>hyes y hf hp' (StE.of P' (by rw [pu_ne _ _ (by omega)]; exact h0) (by rw [pu_ne _ _ (by omega)]; exact h1) (by rw [pu_eq]; exact hl))
theorem Y33 (h:StE tb hp0 hp s r mx la L w lb M) {i st due:Int} (hno:setE i due L≠0→K (.int .i64 (setE i due L)) hp)
    (hyes:setE i due L=0→∀ hp',StE tb hp0 hp' s r mx la (updS i st due L) (setW i due w) lb M→K (.int .i64 0) hp'):CF Tryz.prog 33 [ptr s 0,.int .i64 i,.int .i64 st,.int .i64 due] hp K:=by
  by_cases he:setE i due L=0
  rotate_left
  · exact W33 h.wt hno fun e=>absurd e he
  obtain ⟨ps,P,h0,h1,h2,_⟩:=h
  refine CF.part P 1 (W33 (K:=fun u q=>u=.int .i64 0∧SeW tb q s mx la (updS i st due L) (setW i due w)) h1 (fun e=>absurd he e) fun e q hq=>⟨rfl,hq⟩) ?_
  rintro u q hp'' ⟨rfl,hq⟩ P'
  exact hyes he hp'' (StE.of P' (by rw [pu_ne _ _ (by omega)]; exact h0) (by rw [pu_eq]; exact hq) (by rw [pu_ne _ _ (by omega)]; exact h2))
theorem Y34 (h:StE tb hp0 hp s r mx la L w lb M) {i st due:Int} (hn:(M.map (·.id)).Nodup) (hl:M.length≤65535) (hno:setE i due M≠0→K (.int .i64 (setE i due M)) hp)
    (hyes:setE i due M=0→∀ hp',StE tb hp0 hp' s r mx la L w lb (updS i st due M)→K (.int .i64 0) hp'):CF Tryz.prog 34 [ptr r 0,.int .i64 i,.int .i64 st,.int .i64 due] hp K:=by
  by_cases he:setE i due M=0
  rotate_left
  · exact R34 h.rf hn hl hno fun e=>absurd e he
  obtain ⟨ps,P,h0,h1,h2,_⟩:=h
  refine CF.part P 2 (R34 (K:=fun u q=>u=.int .i64 0∧RefR q r mx lb (updS i st due M)) h2 hn hl (fun e=>absurd he e) fun e q hq=>⟨rfl,hq⟩) ?_
  rintro u q hp'' ⟨rfl,hq⟩ P'
  exact hyes he hp'' (StE.of P' (by rw [pu_ne _ _ (by omega)]; exact h0) (by rw [pu_ne _ _ (by omega)]; exact h1) (by rw [pu_eq]; exact hq))
/-- Pop of both: the same lists. -/
theorem N37 {ps:Nat→HP} {now:Int} {i j:Nat} (hP:Parts hp ps) (hij:j≠i) (hj:∀ b,ps j b=.none) (h:RefR (ps i) r mx lb L) (hl:L.length≤65535) (hasc:(L.map (·.id)).Pairwise (· < ·)) (hQ:QOk Ss.id Ss.due L w)
    (hK:∀ l q hp' a c,RefR l r mx lb (restL Ss.due now L)→Row q a (popsL Ss.id now L w).length c 73 9 ((popsL Ss.id now L w).flatMap ssc)→Parts hp' (pu (pu ps i l) j q)→K (.slice a (popsL Ss.id now L w).length c) hp'):CF Tryz.prog 37 [ptr r 0,.int .i64 now] hp K:=by
  refine CF.part hP i (R37 (K:=fun u q=>∃ qs a c,u=.slice a (popsL Ss.id now L w).length c∧Parts q qs∧RefR (qs 0) r mx lb (restL Ss.due now L)∧Row (qs 1) a (popsL Ss.id now L w).length c 73 9 ((popsL Ss.id now L w).flatMap ssc)) h hl hasc hQ
    fun qs hq' a c h1 h2 h3=>⟨qs,a,c,rfl,h1,h2,h3⟩) ?_
  rintro u q hp'' ⟨qs,a,c,rfl,h1,h2,h3⟩ hP'
  refine hK (qs 0) (qs 1) hp'' a c h2 h3 ?_
  have:=hP'.split (i:=i) (j:=j) hij (fun b=>by rw [pu_ne _ _ hij]; exact hj b) (l:=qs 0) (r:=qs 1) (by rw [pu_eq]; exact h1.sub 0) (by rw [pu_eq]; exact h1.sub 1) (h1.dis 0 1 (by omega))
  have e:pu (pu (pu ps i q) i (qs 0)) j (qs 1)=pu (pu ps i (qs 0)) j (qs 1):=by
    funext k
    by_cases h1:k=j
    · subst h1; rw [pu_eq,pu_eq]
    · rw [pu_ne _ _ h1,pu_ne _ _ h1]
      by_cases h2:k=i
      · subst h2; rw [pu_eq,pu_eq]
      · rw [pu_ne _ _ h2,pu_ne _ _ h2,pu_ne _ _ h2]
  rw [e] at this
  exact this
set_option maxHeartbeats 1000000 in
theorem C7three {A:A22} {n:Int} (h:StE tb hp0 hp s r mx la L w la L) (hla:la≤60000) (hsm:L.length≤60000) (hA:okA22 A)
    (hK:∀ hp' la' L' w',StE tb hp0 hp' s r mx la' L' w' la' L'→la'≤la+1→L'.length≤L.length+1→K (.bool true) hp'):F7_j3 (some ⟨s,0,none⟩) (some ⟨r,0,none⟩) n false (a22 A) (t4 (peerT A.a A.port)) hp K:=by
  obtain ⟨ha,hb,hpt,hn,hst,hdue⟩:=hA
  have oq:okT (peerT A.a A.port):=peerT_ok ha hpt
  have hinv:=h.wt.inv
  unfold F7_j3
  rw [ite2_false]
  simp only [a22_0,ldV_some,intV_int]
  by_cases d0:A.what=0
  · rw [show (A.what==0)=true by simp [d0],ite2_true]
    simp only [a22_2,a22_5,a22_6,t4_cells,ldL_some,ldV_some,intV_int]
    refine Y18 h hb oq (by omega) (fun he=>?_) fun he hp2 h2=>?_
    · simp only [tup2V_mk,aggV_agg,intV_int,ssz]
      refine ifI (ssc_len _) (ifI (ssc_one _) (ifI (by simp [ssc_len]) ?_))
      refine Y32 h (by omega) (by omega) (fun _=>?_) fun e=>absurd e he
      simp only [tup2V_mk,aggV_agg,intV_int]
      refine ifI (ssc_len _) (ifI (ssc_one _) (ifI (by simp [ssc_len]) ?_))
      rw [ss_spl (ssc_len _),ssc_cells,ldL_some]
      rw [ldL_some]
      refine R31 ?_
      rw [boolV_bool,ite2_true,show (addE mx A.b (peerT A.a A.port) A.due L==addE mx A.b (peerT A.a A.port) A.due L)=true by simp]
      exact hK hp la L w h (by omega) (by omega)
    · simp only [tup2V_mk,aggV_agg,intV_int,ssz]
      refine ifI (ssc_len _) (ifI (ssc_one _) (ifI (by simp [ssc_len]) ?_))
      refine Y32 h2 (by omega) (by omega) (fun e=>absurd he e) fun _ hp3 h3=>?_
      simp only [tup2V_mk,aggV_agg,intV_int]
      refine ifI (ssc_len _) (ifI (ssc_one _) (ifI (by simp [ssc_len]) ?_))
      rw [ss_spl (ssc_len _),ssc_cells,ldL_some]
      rw [ldL_some]
      refine R31 ?_
      rw [boolV_bool,ite2_true,show ((0:Int)==0)=true from rfl]
      exact hK hp3 (la+1) _ _ h3 (by omega) (by simp)
  rw [show (A.what==0)=false by simp [d0],ite2_false]
  have set:F7_j4 (some ⟨s,0,none⟩) (some ⟨r,0,none⟩) n A.what true (a22 A) hp K:=by
    unfold F7_j4
    rw [ite2_true]
    simp only [a22_5,a22_6,ldV_some,intV_int]
    refine Y33 h (fun he=>?_) fun he hp2 h2=>?_
    · rw [intV_int]
      refine Y34 h hinv.ids (by omega) (fun _=>?_) fun e=>absurd e he
      rw [intV_int,show (setE n A.due L==setE n A.due L)=true by simp]
      exact hK hp la L w h (by omega) (by omega)
    · rw [intV_int]
      refine Y34 h2 hinv.ids (by omega) (fun e=>absurd he e) fun _ hp3 h3=>?_
      rw [intV_int,show ((0:Int)==0)=true from rfl]
      exact hK hp3 la _ _ h3 (by omega) (by unfold updS; simp)
  have drop:F7_j5 (some ⟨s,0,none⟩) (some ⟨r,0,none⟩) n A.what true (a22 A) hp K:=by
    unfold F7_j5
    rw [ite2_true,ssz]
    have hlen:=List.length_filter_le (fun z:Ss=>decide (z.id≠n)) L
    refine Y35 h (fun he=>?_) fun y hy hp2 h2=>?_
    · simp only [tup2V_mk,aggV_agg,intV_int]
      refine ifI (ssc_len _) (ifI (ssc_one _) (ifI (by simp [ssc_len]) ?_))
      refine Y36 h (by omega) hinv.ids (fun _=>?_) fun y hy=>by rw [he] at hy; cases hy
      simp only [tup2V_mk,aggV_agg,intV_int]
      refine ifI (ssc_len _) (ifI (ssc_one _) (ifI (by simp [ssc_len]) ?_))
      rw [ss_spl (ssc_len _),ssc_cells,ldL_some,ldL_some]
      refine R31 ?_
      rw [boolV_bool,ite2_true,show ((4:Int)==4)=true from rfl]
      exact hK hp la L w h (by omega) (by omega)
    · simp only [tup2V_mk,aggV_agg,intV_int]
      refine ifI (ssc_len _) (ifI (ssc_one _) (ifI (by simp [ssc_len]) ?_))
      refine Y36 h2 (by omega) hinv.ids (fun e=>by rw [e] at hy; cases hy) fun y' hy' hp3 h3=>?_
      obtain rfl:y=y':=by rw [hy] at hy'; exact Option.some.inj hy'
      simp only [tup2V_mk,aggV_agg,intV_int]
      refine ifI (ssc_len _) (ifI (ssc_one _) (ifI (by simp [ssc_len]) ?_))
      rw [ss_spl (ssc_len _),ssc_cells,ldL_some,ldL_some]
      refine R31 ?_
      rw [boolV_bool,ite2_true,show ((0:Int)==0)=true from rfl]
      exact hK hp3 la _ _ h3 (by omega) (by omega)
  by_cases d1:A.what=1
  · rw [show (A.what==1)=true by simp [d1],ite2_true]
    exact set
  rw [show (A.what==1)=false by simp [d1],ite2_false]
  by_cases d4:A.what=4
  · rw [show (A.what==4)=true by simp [d4]]
    exact set
  rw [show (A.what==4)=false by simp [d4]]
  unfold F7_j4
  rw [ite2_false]
  by_cases d2:A.what=2
  · rw [show (A.what==2)=true by simp [d2],ite2_true]
    exact drop
  rw [show (A.what==2)=false by simp [d2],ite2_false]
  by_cases d5:A.what=5
  · rw [show (A.what==5)=true by simp [d5]]
    exact drop
  rw [show (A.what==5)=false by simp [d5]]
  unfold F7_j5
  rw [ite2_false]
  by_cases d3:A.what=3
  · rw [show (A.what==3)=true by simp [d3],ite2_true]
    simp only [a22_6,ldV_some,intV_int]
    obtain ⟨ps,P,h0,h1,h2,hf⟩:=h
    refine N21 P (i:=1) (j:=3) (by omega) (hf 3 (by omega)) h1 fun l2 rr hp2 a c w' hl2 hr2 P2=>?_
    rw [slcV_slice]
    refine N37 (i:=2) (j:=4) P2 (by omega) (fun b=>by rw [pu_ne _ _ (by omega),pu_ne _ _ (by omega)]; exact hf 4 (by omega) b) (by rw [pu_ne _ _ (by omega),pu_ne _ _ (by omega)]; exact h2) (by omega) hinv.asc h1.qok fun l3 q3 hp3 a3 c3 hl3 hr3 P3=>?_
    rw [slcV_slice]
    have hpl:(popsL Ss.id A.due L w).length≤100000:=by
      have h2:(popsL Ss.id A.due L w).length≤w.length:=by
        unfold popsL
        exact Nat.le_trans (List.length_filterMap_le _ _) ((List.takeWhile_sublist _).length_le)
      have h3:=h1.qok.len
      omega
    refine R8 (hr2.sub (P3.at 3 (by rw [pu_ne _ _ (by omega),pu_ne _ _ (by omega),pu_eq]))).shows (hr3.sub (P3.at 4 (pu_eq ..))).shows hpl ?_
    rw [boolV_bool]
    refine hK hp3 la _ _ (StE.of P3 (w:=w') (by rw [pu_ne _ _ (by omega),pu_ne _ _ (by omega),pu_ne _ _ (by omega),pu_ne _ _ (by omega)]; exact h0) (by rw [pu_ne _ _ (by omega),pu_ne _ _ (by omega),pu_ne _ _ (by omega),pu_eq]; exact hl2) (by rw [pu_ne _ _ (by omega),pu_eq]; exact hl3)) (by omega) ?_
    have:=List.length_filter_le (fun x:Ss=>decide (¬ x.due≤A.due)) L
    unfold restL
    omega
  rw [show (A.what==3)=false by simp [d3],ite2_false]
  exact hK hp la L w h (by omega) (by omega)
set_option maxHeartbeats 1000000 in
theorem C7two {A:A22} {n:Int} (h:StE tb hp0 hp s r mx la L w la L) (hla:la≤60000) (hsm:L.length≤60000) (hA:okA22 A)
    (three:F7_j3 (some ⟨s,0,none⟩) (some ⟨r,0,none⟩) n false (a22 A) (t4 (peerT A.a A.port)) hp K):F7_j2 (some ⟨s,0,none⟩) (some ⟨r,0,none⟩) n false (a22 A) (t4 (peerT A.a A.port)) hp K:=by
  obtain ⟨ha,hb,hpt,hn,hst,hdue⟩:=hA
  have oq:okT (peerT A.a A.port):=peerT_ok ha hpt
  unfold F7_j2
  rw [ite2_false]
  simp only [a22_2,t4_cells,ldL_some,ldV_some,intV_int]
  refine W29 h.wt hb oq ?_
  simp only [tup2V_mk,aggV_agg,boolV_bool,ssz]
  refine ifI (ssc_len _) (ifI (ssc_one _) (ifI (by simp [ssc_len]) ?_))
  obtain ⟨a,c,hl⟩:=h.rf.lst
  refine R30 hl (by omega) ?_
  rw [intV_int,ss_spl (ssc_len _),ssc_cells]
  unfold findK
  rcases ixE_find (fun y=>decide (y.bnd=A.b∧y.peer=peerT A.a A.port)) L with ⟨e1,e2⟩ | ⟨k,hk,e1,e2⟩
  · rw [e1,e2]
    show ite2 (!(false==decide ((-1:Int)≥0))) _ _
    rw [show (!(false==decide ((-1:Int)≥0)))=false from rfl,ite2_false]
    show ite2 false _ (ite2 true _ _)
    rw [ite2_false,ite2_true,ldL_some]
    refine eq79 ?_
    rw [Option.getD_none,decide_eq_true rfl]
    exact three
  · rw [e1,e2,decide_eq_true (by omega:(k:Int)≥0)]
    show ite2 false _ (ite2 true _ _)
    rw [ite2_false,ite2_true,ldL_some]
    obtain ⟨b,o,eab,g,_⟩:=hl.at hk
    simp only [ptrN_some,Nat.zero_add,hl.2.2.1,ldV_some,slcV_slice,eab,Int.toNat_natCast,g,ldL_some,Option.getD_some]
    refine ⟨by omega,by omega,?_⟩
    refine R31 ?_
    rw [boolV_bool]
    show ite2 false _ (ite2 false _ _)
    rw [ite2_false,ite2_false]
    exact three
set_option maxHeartbeats 1000000 in
theorem C7one {A:A22} {n:Int} (h:StE tb hp0 hp s r mx la L w la L) (hla:la≤60000) (hsm:L.length≤60000) (hA:okA22 A)
    (two:∀ hp,StE tb hp0 hp s r mx la L w la L→F7_j2 (some ⟨s,0,none⟩) (some ⟨r,0,none⟩) n false (a22 A) (t4 (peerT A.a A.port)) hp K):F7_j1 (some ⟨s,0,none⟩) (some ⟨r,0,none⟩) n (a22 A) hp K:=by
  obtain ⟨ha,hb,hpt,hn,hst,hdue⟩:=hA
  have oq:okT (peerT A.a A.port):=peerT_ok ha hpt
  have sq:∀ q:Q × Int,splice [(Value.int .u8 0),(Value.int .u8 0),(Value.int .u8 0),(Value.int .u8 0),(Value.int .i64 0)] 0 (t4 q)=t4 q:=fun q=>splice_all rfl
  unfold F7_j1
  simp only [a22_1,a22_3,ldV_some,intV_int]
  refine C19 ?_
  rw [aggV_agg]
  refine ifI rfl (ifI rfl (ifI (Nat.le_refl 5) ?_))
  simp only [sq,a22_2,t4_cells,t4_adrS,ldL_some,ldV_some,intV_int]
  refine W24 h.wt hb oq ?_
  rw [intV_int]
  obtain ⟨a,c,hl⟩:=h.rf.lst
  refine R25 hl (by omega) ?_
  rw [intV_int,room_same,show (roomE mx A.b (peerT A.a A.port) L != roomE mx A.b (peerT A.a A.port) L)=false by simp,ite2_false]
  refine W20 h.wt (by omega) ?_
  rw [boolV_bool]
  refine R26 hl (by omega) ?_
  rw [boolV_bool,knows_same,show (!(knowsE A.b (peerT A.a A.port).1 L==knowsE A.b (peerT A.a A.port).1 L))=false by simp,ite2_false]
  obtain ⟨ps,P,h0,h1,h2,hf⟩:=h
  have hol:(ofE A.b L).length≤L.length:=List.length_filter_le _ _
  refine N27 P (i:=1) (j:=3) (by omega) (hf 3 (by omega)) h1 (by omega) fun rr hp2 a2 c2 hr2 P2=>?_
  rw [slcV_slice]
  obtain ⟨a4,c4,hl4⟩:=h2.lst
  refine R28 (i:=2) (j:=4) P2 (by omega) (fun b=>by rw [pu_ne _ _ (by omega)]; exact hf 4 (by omega) b) (by rw [pu_ne _ _ (by omega)]; exact hl4) (by omega) fun rr3 hp3 a3 c3 hr3 P3=>?_
  rw [slcV_slice]
  refine R8 (hr2.sub (P3.at 3 (by rw [pu_ne _ _ (by omega),pu_eq]))).shows (hr3.sub (P3.at 4 (pu_eq ..))).shows (by omega) ?_
  rw [boolV_bool]
  show F7_j2 _ _ n false _ _ hp3 K
  exact two hp3 (StE.of P3 (by rw [pu_ne _ _ (by omega),pu_ne _ _ (by omega)]; exact h0) (by rw [pu_ne _ _ (by omega),pu_ne _ _ (by omega)]; exact h1) (by rw [pu_ne _ _ (by omega),pu_ne _ _ (by omega)]; exact h2))
set_option maxHeartbeats 1000000 in
theorem C7 {A:A22} (h:StE tb hp0 hp s r mx la L w la L) (hla:la≤60000) (hsm:L.length≤60000) (hA:okA22 A)
    (hK:∀ hp' la' L' w',StE tb hp0 hp' s r mx la' L' w' la' L'→la'≤la+1→L'.length≤L.length+1→K (.bool true) hp'):CF Tryz.prog 7 [ptr s 0,ptr r 0,.agg ⟨a22 A⟩] hp K:=by
  refine F7_ok _ _ (a22 A) hp K ?_
  have one:∀ n:Int,F7_j1 (some ⟨s,0,none⟩) (some ⟨r,0,none⟩) n (a22 A) hp K:=fun n=>C7one h hla hsm hA fun hp h=>C7two h hla hsm hA (C7three h hla hsm hA hK)
  unfold F7
  obtain ⟨a,c,hl⟩:=h.rf.lst
  have hc2:=hl.2.2.1
  simp only [a22_0,a22_4,ldV_some,intV_int,ptrN_some,Nat.zero_add,hc2,slcV_slice]
  by_cases hL:L.length > 0
  rotate_left
  · rw [decide_eq_false (by omega:¬ ((L.length:Nat):Int) > 0),ite2_false]
    unfold F7_j6
    rw [ite2_false]
    exact one _
  rw [decide_eq_true (by omega:((L.length:Nat):Int) > 0),ite2_true]
  unfold F7_j6
  by_cases h4:A.what<4
  rotate_left
  · rw [decide_eq_false h4,ite2_false]
    exact one _
  rw [decide_eq_true h4,ite2_true]
  simp only [a22_4,ldV_some,intV_int,ptrN_some,Nat.zero_add,hc2,slcV_slice]
  refine ⟨by omega,?_⟩
  have seven:∀ k:Int,0≤k→k<(L.length:Nat)→F7_j7 (some ⟨s,0,none⟩) (some ⟨r,0,none⟩) k (a22 A) hp K:=by
    intro k k0 k1
    obtain ⟨m,rfl⟩:∃ m:Nat,k=m:=⟨k.toNat,by omega⟩
    unfold F7_j7
    obtain ⟨b,o,rfl,_,gd⟩:=hl.at (i:=m) (by omega)
    have gd0:=gd 0 _ (ssc_id _)
    simp only [ptrN_some,Nat.zero_add,hc2,ldV_some,slcV_slice]
    refine ⟨k0,k1,?_⟩
    rw [Int.toNat_natCast,gd0,ldV_some,intV_int]
    exact one _
  have t1:=Int.tmod_lt_of_pos A.n (show (0:Int)<(L.length:Nat) by omega)
  have t2:-((L.length:Nat):Int)<Int.tmod A.n (L.length:Nat):=by
    have:=Int.lt_tmod_of_pos A.n (show (0:Int)<(L.length:Nat) by omega)
    omega
  by_cases hk:Int.tmod A.n (L.length:Nat)<0
  · rw [decide_eq_true hk,ite2_true,w64 (by omega) (by omega)]
    exact seven _ (by omega) (by omega)
  · rw [decide_eq_false hk,ite2_false]
    exact seven _ (by omega) (by omega)
end
end Go.Proofs
set_option linter.unusedVariables false
set_option maxRecDepth 20000
namespace Go.Proofs
open Go Go.HL
def F3_j3 (hp:HP) (K:Kh):Prop:=
  (CF Tryz.prog 5 [] hp fun u_14 h_15=>(boolV u_14 fun q_16=>(K (Value.bool q_16) h_15)))
def F3_j6 (x1a:OA) (x1n x1c:Nat) (x5 x7:OA) (x8:Int) (x75:Bool) (hp:HP) (I5:(Int)→HP→Prop) (K:Kh):Prop:=
  (ite2 x75 (K (Value.bool false) hp) (I5 (IntKind.wrap .i64 (x8+1)) hp))
def F3_l5 (x1a:OA) (x1n x1c:Nat) (x5 x7:OA) (K:Kh) (I5:(Int)→HP→Prop) (x8:Int) (hp:HP):Prop:=
  (ite2 (decide ((x8:Int)<(x1n:Nat))) (((0≤(x8:Int))∧((x8:Int)<(x1n:Nat))∧(ptrN x1a fun b_17 o_18=>(ldL (HP.cellN hp b_17 (o_18+Int.toNat x8*7) 7) fun l_19=>(CF Tryz.prog 7 [(Value.pointer x5),(Value.pointer x7),(Value.agg ⟨l_19⟩)] hp fun u_20 h_21=>(boolV u_20 fun q_22=>(ite2 (!q_22) (F3_j6 x1a x1n x1c x5 x7 x8 true h_21 I5 K) (CF Tryz.prog 9 [(Value.pointer x5)] h_21 fun u_23 h_24=>(slcV u_23 fun a_25 n_26 c_27=>(ptrN x7 fun b_28 o_29=>(ldV (HP.cell h_24 b_28 (o_29+2)) fun v_30=>(slcV v_30 fun a_31 n_32 c_33=>(CF Tryz.prog 8 [(Value.slice a_25 n_26 c_27),(Value.slice a_31 n_32 c_33)] h_24 fun u_34 h_35=>(boolV u_34 fun q_36=>(ite2 (!q_36) (F3_j6 x1a x1n x1c x5 x7 x8 true h_35 I5 K) (CF Tryz.prog 10 [(Value.pointer x5)] h_35 fun u_37 h_38=>(intV u_37 .i64 fun i_39=>(ptrN x7 fun b_40 o_41=>(ldV (HP.cell h_38 b_40 (o_41+2)) fun v_42=>(slcV v_42 fun a_43 n_44 c_45=>(F3_j6 x1a x1n x1c x5 x7 x8 ((i_39:Int) != (n_44:Nat)) h_38 I5 K))))))))))))))))))))∧((0≤(x8:Int))∧((x8:Int)<(x1n:Nat))∧(ptrN x1a fun b_46 o_47=>(ldL (HP.cellN hp b_46 (o_47+Int.toNat x8*7) 7) fun l_48=>(CF Tryz.prog 7 [(Value.pointer x5),(Value.pointer x7),(Value.agg ⟨l_48⟩)] hp fun u_49 h_50=>(boolV u_49 fun q_51=>(ite2 (!q_51) (F3_j6 x1a x1n x1c x5 x7 x8 true h_50 I5 K) (CF Tryz.prog 9 [(Value.pointer x5)] h_50 fun u_52 h_53=>(slcV u_52 fun a_54 n_55 c_56=>(ptrN x7 fun b_57 o_58=>(ldV (HP.cell h_53 b_57 (o_58+2)) fun v_59=>(slcV v_59 fun a_60 n_61 c_62=>(CF Tryz.prog 8 [(Value.slice a_54 n_55 c_56),(Value.slice a_60 n_61 c_62)] h_53 fun u_63 h_64=>(boolV u_63 fun q_65=>(ite2 (!q_65) (F3_j6 x1a x1n x1c x5 x7 x8 true h_64 I5 K) (ptrN x7 fun b_66 o_67=>(ldV (HP.cell h_64 b_66 (o_67+2)) fun v_68=>(slcV v_68 fun a_69 n_70 c_71=>(CF Tryz.prog 10 [(Value.pointer x5)] h_64 fun u_72 h_73=>(intV u_72 .i64 fun i_74=>(F3_j6 x1a x1n x1c x5 x7 x8 ((i_74:Int) != (n_70:Nat)) h_73 I5 K))))))))))))))))))))∧((0≤(x8:Int))∧((x8:Int)<(x1n:Nat))∧(ptrN x1a fun b_75 o_76=>(ldL (HP.cellN hp b_75 (o_76+Int.toNat x8*7) 7) fun l_77=>(CF Tryz.prog 7 [(Value.pointer x5),(Value.pointer x7),(Value.agg ⟨l_77⟩)] hp fun u_78 h_79=>(boolV u_78 fun q_80=>(ite2 (!q_80) (F3_j6 x1a x1n x1c x5 x7 x8 true h_79 I5 K) (ptrN x7 fun b_81 o_82=>(ldV (HP.cell h_79 b_81 (o_82+2)) fun v_83=>(slcV v_83 fun a_84 n_85 c_86=>(CF Tryz.prog 9 [(Value.pointer x5)] h_79 fun u_87 h_88=>(slcV u_87 fun a_89 n_90 c_91=>(CF Tryz.prog 8 [(Value.slice a_89 n_90 c_91),(Value.slice a_84 n_85 c_86)] h_88 fun u_92 h_93=>(boolV u_92 fun q_94=>(ite2 (!q_94) (F3_j6 x1a x1n x1c x5 x7 x8 true h_93 I5 K) (CF Tryz.prog 10 [(Value.pointer x5)] h_93 fun u_95 h_96=>(intV u_95 .i64 fun i_97=>(ptrN x7 fun b_98 o_99=>(ldV (HP.cell h_96 b_98 (o_99+2)) fun v_100=>(slcV v_100 fun a_101 n_102 c_103=>(F3_j6 x1a x1n x1c x5 x7 x8 ((i_97:Int) != (n_102:Nat)) h_96 I5 K))))))))))))))))))))∧((0≤(x8:Int))∧((x8:Int)<(x1n:Nat))∧(ptrN x1a fun b_104 o_105=>(ldL (HP.cellN hp b_104 (o_105+Int.toNat x8*7) 7) fun l_106=>(CF Tryz.prog 7 [(Value.pointer x5),(Value.pointer x7),(Value.agg ⟨l_106⟩)] hp fun u_107 h_108=>(boolV u_107 fun q_109=>(ite2 (!q_109) (F3_j6 x1a x1n x1c x5 x7 x8 true h_108 I5 K) (ptrN x7 fun b_110 o_111=>(ldV (HP.cell h_108 b_110 (o_111+2)) fun v_112=>(slcV v_112 fun a_113 n_114 c_115=>(CF Tryz.prog 9 [(Value.pointer x5)] h_108 fun u_116 h_117=>(slcV u_116 fun a_118 n_119 c_120=>(CF Tryz.prog 8 [(Value.slice a_118 n_119 c_120),(Value.slice a_113 n_114 c_115)] h_117 fun u_121 h_122=>(boolV u_121 fun q_123=>(ite2 (!q_123) (F3_j6 x1a x1n x1c x5 x7 x8 true h_122 I5 K) (ptrN x7 fun b_124 o_125=>(ldV (HP.cell h_122 b_124 (o_125+2)) fun v_126=>(slcV v_126 fun a_127 n_128 c_129=>(CF Tryz.prog 10 [(Value.pointer x5)] h_122 fun u_130 h_131=>(intV u_130 .i64 fun i_132=>(F3_j6 x1a x1n x1c x5 x7 x8 ((i_132:Int) != (n_128:Nat)) h_131 I5 K))))))))))))))))))))) (F3_j3  hp  K))
def F3_j4 (x1a:OA) (x1n x1c:Nat) (x5 x7:OA) (x8:Int) (hp:HP) (K:Kh):Prop:=
  (LoopP (σ:=Int) (fun I s hp=>F3_l5 x1a x1n x1c x5 x7  K I s hp) x8 hp)
def F3_j2 (x0:Int) (x1a:OA) (x1n x1c:Nat) (x5:OA) (x38:Bool) (hp:HP) (K:Kh):Prop:=
  (ite2 x38 (K (Value.bool false) hp) (∀ b_13:Nat,hp b_13=.none→(F3_j4 x1a x1n x1c x5 (some ⟨b_13,0,none⟩) 0 (HP.set hp b_13 (.cells 31 [(Value.int .i64 x0),(Value.int .i64 0),(Value.slice none 0 0)] 0))  K)))
def F3_j1 (x0:Int) (x1a:OA) (x1n x1c:Nat) (x5:OA) (x6:Int) (x23:Bool) (hp:HP) (K:Kh):Prop:=
  (ite2 x23 (ite2 (Option.isNone x5) (ite2 ((x6:Int)==1) (CF Tryz.prog 5 [] hp fun u_10 h_11=>(boolV u_10 fun q_12=>(K (Value.bool q_12) h_11))) (K (Value.bool false) hp)) (K (Value.bool false) hp)) (ite2 ((x6:Int) != 0) (F3_j2 x0 x1a x1n x1c x5 true hp  K) (F3_j2 x0 x1a x1n x1c x5 (Option.isNone x5) hp  K)))
def F3 (x0:Int) (x1a:OA) (x1n x1c:Nat) (hp:HP) (K:Kh):Prop:=
  (ite2 (decide (((x1n:Nat):Int) > 150)) (CF Tryz.prog 5 [] hp fun u_1 h_2=>(boolV u_1 fun q_3=>(K (Value.bool q_3) h_2))) (CF Tryz.prog 6 [(Value.int .i64 x0)] hp fun u_4 h_5=>(tup2V u_4 fun u_6 u_7=>(ptrV u_6 fun p_8=>(intV u_7 .i64 fun i_9=>(ite2 (decide ((x0:Int)<1)) (F3_j1 x0 x1a x1n x1c p_8 i_9 true h_5  K) (F3_j1 x0 x1a x1n x1c p_8 i_9 (decide ((x0:Int) > 65536)) h_5  K)))))))
theorem F3_ok (x0:Int) (x1a:OA) (x1n x1c:Nat) (hp:HP) (K:Kh) (h:F3 x0 x1a x1n x1c hp K):CF Tryz.prog 3 [(Value.int .i64 x0),(Value.slice x1a x1n x1c)] hp K:=
  have L:∀ {Q} n,Snd Tryz.prog 77 (cAt Tryz.f3 (pth n)) Q (CW Tryz.prog 77 [] [(12,[(10,14),(20,24)],[([true,true],true,[0,1,2,3,4,5,6,7,8,9,10,11,12,13,14,15,16,17,18,19,20,21,22,23,24,25,26,27]),([true,false],true,[0,1,2,3,4,5,6,7,8,9,10,11,12,13,14,15,16,17,18,19,21,22,23,24,20,25,26,27]),([false,true],true,[0,1,2,3,4,5,6,7,8,9,11,12,13,14,10,15,16,17,18,19,20,21,22,23,24,25,26,27]),([false,false],true,[0,1,2,3,4,5,6,7,8,9,11,12,13,14,10,15,16,17,18,19,21,22,23,24,20,25,26,27])])] (cAt Tryz.f3 (pth n)) Q):=fun _=>Snd.leaf
  okF h Tryz.func3 (Snd.seq (L 2) (Snd.seq (L 5) (Snd.seq (L 11) (Snd.seq (Snd.jn [(0,.i .i64),(1,.s),(5,.p),(6,.i .i64),(23,.b)] (fun a hp=>F3_j1 a.1 a.2.1 a.2.2.1 a.2.2.2.1 a.2.2.2.2.1 a.2.2.2.2.2.1 a.2.2.2.2.2.2.1 hp  K) (L 39) (L 55) (by rfl) (by kernel_rfl)) (Snd.seq (Snd.jn [(0,.i .i64),(1,.s),(5,.p),(38,.b)] (fun a hp=>F3_j2 a.1 a.2.1 a.2.2.1 a.2.2.2.1 a.2.2.2.2.1 a.2.2.2.2.2.1 hp  K) (L 79) (L 111) (by rfl) (by kernel_rfl)) (Snd.seq (L 95) (Snd.jn [] (fun a hp=>F3_j3  hp  K) (Snd.jn [(1,.s),(5,.p),(7,.p),(8,.i .i64)] (fun a hp=>F3_j4 a.1 a.2.1 a.2.2.1 a.2.2.2.1 a.2.2.2.2.1 a.2.2.2.2.2.1 hp  K) (L 319) (Snd.block 0 (Snd.lp (σ:=Int) [(1,.s),(5,.p),(7,.p),(8,.i .i64)] (fun a=>a.2.2.2.2.2.1) (fun a s=>(a.1,a.2.1,a.2.2.1,a.2.2.2.1,a.2.2.2.2.1,s,())) (fun a I s hp=>F3_l5 a.1 a.2.1 a.2.2.1 a.2.2.2.1 a.2.2.2.2.1  K I s hp) (fun I5=>(Snd.seq (L 2239) (Snd.seq (Snd.block 1 (Snd.jn [(1,.s),(5,.p),(7,.p),(8,.i .i64),(75,.b)] (fun a hp=>F3_j6 a.1 a.2.1 a.2.2.1 a.2.2.2.1 a.2.2.2.2.1 a.2.2.2.2.2.1 a.2.2.2.2.2.2.1 hp (fun s hp=>I5 (a.1,a.2.1,a.2.2.1,a.2.2.2.1,a.2.2.2.2.1,s,()) hp) K) (L 17599) (L 25791) (by rfl) (by kernel_rfl))) (L 7359)))) (by rfl) (by kernel_rfl) (by kernel_rfl))) (by rfl) (by kernel_rfl)) (L 255) (by rfl) (by kernel_rfl)))))))) (by kernel_rfl) (by kernel_rfl) (by kernel_rfl)
end Go.Proofs
set_option linter.unusedVariables false
set_option linter.unusedSimpArgs false
set_option maxRecDepth 20000
namespace Go.Proofs
open Go Go.HL
open Go.Exp (Th tlt Ord setW dropW insW)
section
variable {tb:Obj} {hp0 hp:HP} {K:Value→HP→Prop}
set_option maxHeartbeats 4000000 in
theorem C3 {x:Int} {a0:Option Addr} {n0 c0:Nat} {acts:List A22} (ht:TabR tb hp0) (hs0:Shows hp0 a0 n0 7 (acts.flatMap a22)) (hl0:acts.length=n0) (hok:∀ y∈acts,okA22 y)
    (h:K (.bool true) hp0):CF Tryz.prog 3 [.int .i64 x,.slice a0 n0 c0] hp0 K:=by
  refine CF.drop (F3_ok x a0 n0 c0 hp0 _ ?_)
  unfold F3
  have wk:∀ hp',HSub hp0 hp'→TabR tb hp'→CF Tryz.prog 5 [] hp' fun u h=>boolV u fun q=>∃ hp'',HSub hp'' h∧K (.bool q) hp'':=by
    intro hp' hs ht'
    refine C5 ht' fun hp2 h2=>?_
    rw [boolV_bool]
    exact ⟨hp0,hs.trans h2,h⟩
  by_cases hn:n0 > 150
  · rw [decide_eq_true (by omega:((n0:Nat):Int) > 150),ite2_true]
    exact wk hp0 (HSub.refl _) ht
  rw [decide_eq_false (by omega:¬ ((n0:Nat):Int) > 150),ite2_false]
  refine X6 ht (fun hm=>?_) fun hm s hp1 h1=>?_
  · simp only [tup2V_mk,ppn,intV_int]
    have e:F3_j1 x a0 n0 c0 none 1 true hp0 fun v hp'=>∃ hp'',HSub hp'' hp'∧K v hp'':=by
      unfold F3_j1
      show ite2 true (ite2 true (ite2 true _ _) _) _
      simp only [ite2_true]
      exact wk hp0 (HSub.refl _) ht
    by_cases h1:x<1
    · rw [decide_eq_true h1,ite2_true]; exact e
    · rw [decide_eq_false h1,ite2_false,decide_eq_true (by omega:x > 65536)]; exact e
  simp only [tup2V_mk,pp,intV_int]
  rw [decide_eq_false (by omega),ite2_false,decide_eq_false (by omega)]
  unfold F3_j1
  show ite2 false _ (ite2 false _ _)
  simp only [ite2_false]
  unfold F3_j2
  show ite2 false _ _
  rw [ite2_false]
  intro r hr
  obtain ⟨ps,P,g0,g1,gf⟩:=h1
  have P2:=P.new 2 hr (.cells 31 [(Value.int .i64 x),(Value.int .i64 0),(Value.slice none 0 0)] 0)
  obtain ⟨mx,rfl⟩:∃ mx:Nat,x=mx:=⟨x.toNat,by omega⟩
  rw [Int.toNat_natCast] at g1
  have st0:StE tb hp0 (hp1.set r (.cells 31 [(Value.int .i64 (mx:Nat)),(Value.int .i64 0),(Value.slice none 0 0)] 0)) s r mx 0 [] [] 0 []:=by
    refine StE.of P2 (by rw [pu_ne _ _ (by omega)]; exact g0) (by rw [pu_ne _ _ (by omega)]; exact g1) ?_
    rw [pu_eq]
    exact ⟨none,0,HP.set_eq ..,.inl ⟨rfl,rfl,rfl,rfl⟩⟩
  clear P P2 g0 g1 gf
  unfold F3_j4
  refine LoopP.by (J:=fun k (y:Int) hp=>∃ (i la:Nat) (L:List Ss) (w:List Th),y=i∧i+k=n0∧StE tb hp0 hp s r mx la L w la L∧la≤i∧L.length≤i) ?_ (n:=n0) ⟨0,0,[],[],rfl,by omega,st0,Nat.le_refl _,Nat.le_refl _⟩
  clear st0
  rintro I k y hp ⟨i,la,L,w,rfl,hik,hst,hla,hLi⟩ hI
  unfold F3_l5
  have hsp:=hst.fin ht
  by_cases hi:i<n0
  rotate_left
  · rw [decide_eq_false (by omega:¬ (i:Int)<(n0:Int)),ite2_false]
    unfold F3_j3
    exact wk hp hsp hst.wt.tab
  rw [decide_eq_true (by omega:(i:Int)<(n0:Int)),ite2_true]
  obtain ⟨b,o,hab,hc⟩:=(hs0.sub hsp).get a22_len hl0 hi
  have hact:=hok _ (List.getElem_mem (hl0▸hi))
  generalize acts[i]'(hl0▸hi)=A at hc hact
  have w1:IntKind.wrap .i64 ((i:Int)+1)=((i+1:Nat):Int):=wi (by omega) (by omega)
  refine ⟨?_,?_,?_,?_⟩
  all_goals
    refine ⟨by omega,by omega,?_⟩
    rw [hab,ptrN_some,Int.toNat_natCast,hc,ldL_some]
    refine C7 hst (by omega) (by omega) hact fun hp2 la' L' w' h2 hla' hL'=>?_
    rw [boolV_bool,Bool.not_true,ite2_false]
    obtain ⟨ps,P,g0,g1,g2,gf⟩:=h2
    have g2':=g2
    obtain ⟨ar,cr,q1,q2⟩:=g2
    have c20:hp2.cell r 2=some (.slice ar L'.length cr):=HP.cell_of ((P.at 2 rfl).cells q1)
    try simp only [ptrN_some,Nat.zero_add,c20,ldV_some,slcV_slice]
    refine N9 P (i:=1) (j:=3) (by omega) (gf 3 (by omega)) g1 (by omega) fun rr hp3 a c hrow P3=>?_
    have c21:hp3.cell r 2=some (.slice ar L'.length cr):=HP.cell_of ((P3.at 2 (by rw [pu_ne _ _ (by omega)])).cells q1)
    simp only [slcV_slice,ptrN_some,Nat.zero_add,c21,ldV_some]
    refine R8 (hrow.sub (P3.at 3 (pu_eq ..))).shows (q2.sub (P3.at 2 (by rw [pu_ne _ _ (by omega)]))).shows (by omega) ?_
    rw [boolV_bool,Bool.not_true,ite2_false]
    try simp only [slcV_slice,ptrN_some,Nat.zero_add,c21,ldV_some]
    refine W10 (g1.sub (P3.at 1 (by rw [pu_ne _ _ (by omega)]))) ?_
    simp only [intV_int,slcV_slice,ptrN_some,Nat.zero_add,c21,ldV_some]
    unfold F3_j6
    rw [show (((L'.length:Nat):Int) != ((L'.length:Nat):Int))=false by simp,ite2_false,w1]
    refine hI (k-1) _ _ (by omega) ⟨i+1,la',L',w',rfl,by omega,?_,by omega,by omega⟩
    exact StE.of P3 (by rw [pu_ne _ _ (by omega)]; exact g0) (by rw [pu_ne _ _ (by omega)]; exact g1) (by rw [pu_ne _ _ (by omega)]; exact g2')
end
end Go.Proofs
namespace Go.Proofs.YtpkhoemonibajaaGreatDoor
open Go Go.HL Go.Proofs
def theLaid : List (String × DataW Unit) := [("math/bits.deBruijn32tab", Rows.laid_math_bits_deBruijn32tab), ("math/bits.deBruijn64tab", Rows.laid_math_bits_deBruijn64tab), ("internal/strconv.uint64pow10", Rows.laid_internal_strconv_uint64pow10)]
theorem tabOf {W:World} (h:laidMetH Tryz.prog theLaid W):∃ o,hpAll W 0=.obj o∧TabO o:=by
  have h':laidMet Tryz.prog theLaid W:=h
  obtain ⟨ps,hv,_⟩:=h'
  obtain ⟨q1,h1⟩:=laidVars_tail hv
  obtain ⟨q2,h2⟩:=laidVars_tail h1
  have ht : Lib.TabIs Tryz.prog W "internal/strconv.uint64pow10" .u64 Lib.pow10Tab :=
    tabIs_of_vars (rest:=[]) (g:=0) (t:=255) (e:=227) (n:=20) (by kernel_rfl) (by kernel_rfl) (by kernel_rfl) (by kernel_rfl) (by kernel_rfl) (by kernel_rfl) h2
  obtain ⟨o,ho,hO⟩:=tabO_of ht
  exact ⟨o,by unfold hpAll; rw [ho],hO⟩
/-- What a table's cells are. -/
def cellsLaid:DataW Unit→Array Value
  | .agg ps=>(ps.map fun d=>match d with | .lit (.int k n)=>Value.int k n | _=>.int .i64 0).toArray
  | _=>#[]
def layAt (b:Nat) (d:DataW Unit) (h:Array Obj):Array Obj:=h.modify b fun | .cells _ t fz=>.cells (cellsLaid d) t fz | o=>o
noncomputable def laidWorld (os:Os) (I:Input):World:=
  { World.holding Tryz.prog os I with heap:=layAt 0 Rows.laid_internal_strconv_uint64pow10 (layAt 1 Rows.laid_math_bits_deBruijn32tab (layAt 2 Rows.laid_math_bits_deBruijn64tab (World.holding Tryz.prog os I).heap)) }
end Go.Proofs.YtpkhoemonibajaaGreatDoor
