/- Parts of the proof of SessionPartsProof: the logic of what is known of memory, functions' contracts. -/
import Derived.Test.YtpkhoemonibajaaDoorQSessionPartsProofC
import Derived.Sort.LotD3
import Derived.Test.YtpkhoemonibajaaDoorHlAbb
import Derived.Test.YtpkhoemonibajaaDoorProg
import Derived.Test.YtpkhoemonibajaaDoorHlOrd2
import Derived.Test.YtpkhoemonibajaaDoorHlArg
import Derived.DataShut
import Derived.Test.YtpkhoemonibajaaDoorHlDec
import Derived.Test.YtpkhoemonibajaaDoorRows
import Derived.Test.YtpkhoemonibajaaDoorHlLaid
import Derived.ProofKit
import Derived.LaidLaws
set_option linter.unusedVariables false
set_option linter.unusedSimpArgs false
set_option linter.unusedVariables false
set_option maxRecDepth 20000
namespace Go.Proofs
open Go Go.HL
section
variable {f:FuncId} {ga gb:List Value} {hp0:HP} {b sp n c:Nat} {cf:Ss→Ss→Int}
theorem S138 (hx:CmpX Tryd.prog f ga gb hp0 b 79 sp ssc n cf) (hS:Sort.SWO (ltC cf)) (hn:n≤65535):∀ (m:Nat) {d:Array Ss} {lo hi limit:Nat} {K:Value→HP→Prop},d.size=n→lo≤hi→hi≤n→limit≤64→hi-lo≤m→Sort.Below (ltC cf) lo hi d →
    (∀ d',Sort.PermIn lo hi d d'→Sort.SortedIn (ltC cf) lo hi d'→K (.tuple ⟨[]⟩) (HA hp0 b 79 sp ssc d')) →
    CF Tryd.prog 138 [.slice (some ⟨b,0,none⟩) n c,.int .i64 lo,.int .i64 hi,.int .i64 limit,.func (.func f) ⟨ga⟩ ⟨gb⟩] (HA hp0 b 79 sp ssc d) K:=by
  intro m
  induction m using Nat.strongRecOn with
  | ind m ih=>
  intro d lo hi limit K hs hlo hhi hl hm hB h
  have hc:=hx.ok
  refine F138_ok _ n c lo hi limit _ _ K ?_
  unfold F138 F138_j1
  refine LoopP.by (J:=fun k (s:Int × Int × Int × Bool × Bool) hp=>∃ (a e lim:Nat) (wb wp:Bool) (d':Array Ss),s=((a:Int),(e:Int),(lim:Int),wb,wp)∧hp=HA hp0 b 79 sp ssc d'∧d'.size=n∧a≤e∧e≤n∧lim≤64∧e-a≤hi-lo∧k=e-a∧Sort.Below (ltC cf) a e d' ∧
      (∀ R,Sort.PermIn a e d' R→Sort.SortedIn (ltC cf) a e R→K (.tuple ⟨[]⟩) (HA hp0 b 79 sp ssc R))) ?_
    (n:=hi-lo) ⟨lo,hi,limit,true,true,d,rfl,rfl,hs,hlo,hhi,hl,Nat.le_refl _,rfl,hB,h⟩
  clear hs hlo hhi hl hB h
  rintro I k x hp ⟨a,e,lim,wb,wp,d,rfl,rfl,hs,hae,hen,hl,hle,rfl,hB,h⟩ hI
  unfold F138_l2
  simp only []
  have w1:IntKind.wrap .i64 ((e:Int)-(a:Int))=((e-a:Nat):Int):=wi (by omega) (by omega)
  rw [w1]
  by_cases h12:e-a≤12
  · rw [decide_eq_true (by omega:((e-a:Nat):Int)≤12),ite2_true]
    refine S160 hc hs hae hen (by omega) ?_
    have hi:=Sort.insertionSort_holds hS d a e hae (by omega)
    exact h _ hi.1 hi.2
  rw [decide_eq_false (by omega:¬ ((e-a:Nat):Int)≤12),ite2_false]
  by_cases h0:lim=0
  · subst h0
    have hb:(((0:Nat):Int)==0)=true:=rfl
    rw [hb,ite2_true]
    refine S161 hc hs hae hen (by omega) ?_
    have hi:=Sort.heapSort_holds hS d a e hae (by omega)
    exact h _ hi.1 hi.2
  have hb:((lim:Int)==0)=false:=by rw [beq_eq_false_iff_ne]; omega
  rw [hb,ite2_false]
  have last:∀ (lim':Nat) (d3:Array Ss) (p:Nat) (wb wp:Bool),lim'≤64→Sort.PermIn a e d d3→a≤p→p<e →
      F138_j5 (some ⟨b,0,none⟩) n c a e lim' (.func (.func f) ⟨ga⟩ ⟨gb⟩) wb wp ((e-a:Nat):Int) p (HA hp0 b 79 sp ssc d3) I K:=by
    intro lim' d3 p wb wp hl' hp3 hpa hpe
    have hs3:d3.size=n:=by rw [hp3.1]; exact hs
    have B3:Sort.Below (ltC cf) a e d3:=hB.perm (by omega) hp3
    have two:F138_j6 (some ⟨b,0,none⟩) n c a e lim' (.func (.func f) ⟨ga⟩ ⟨gb⟩) wb wp ((e-a:Nat):Int) p false (HA hp0 b 79 sp ssc d3) I K:=by
      unfold F138_j6
      rw [ite2_false]
      refine S167 hc hs3 (by omega) hen (by omega) (by omega) ?_
      rcases hR:Sort.partition (ltC cf) d3 a e p with ⟨mid,ap,d4⟩
      obtain ⟨q1,q2,q3,q4,q5,q6,q7⟩:=Sort.round_part hS (Sort.partition_holds _) hpa hpe (by omega) B3 hR
      simp only [tup2V_mk,intV_int,boolV_bool]
      refine ⟨by omega,?_⟩
      have v1:IntKind.wrap .i64 ((mid:Int)-(a:Int))=((mid-a:Nat):Int):=wi (by omega) (by omega)
      have v2:IntKind.wrap .i64 ((e:Int)-(mid:Int))=((e-mid:Nat):Int):=wi (by omega) (by omega)
      have v3:IntKind.wrap .i64 ((mid:Int)+1)=((mid+1:Nat):Int):=wi (by omega) (by omega)
      rw [v1,v2,v3]
      by_cases hlt:mid-a<e-mid
      · rw [decide_eq_true (by omega:((mid-a:Nat):Int)<((e-mid:Nat):Int)),ite2_true]
        refine ih (mid-a) (by omega) (by omega) q1 (by omega) hl' (Nat.le_refl _) q4 ?_
        intro L hL hsL
        obtain ⟨z1,z2⟩:=q6 L hL hsL
        exact hI (e-(mid+1)) _ _ (by omega) ⟨mid+1,e,lim',_,ap,L,rfl,rfl,by rw [hL.1]; omega,by omega,hen,hl',by omega,rfl,z1,fun R hR hsR=>h R (Sort.permIn_trans _ _ _ _ _ hp3 (z2 R hR hsR).1) (z2 R hR hsR).2⟩
      · rw [decide_eq_false (by omega:¬ ((mid-a:Nat):Int)<((e-mid:Nat):Int)),ite2_false]
        refine ih (e-(mid+1)) (by omega) (by omega) (by omega) hen hl' (Nat.le_refl _) q5 ?_
        intro L hL hsL
        obtain ⟨z1,z2⟩:=q7 L hL hsL
        exact hI (mid-a) _ _ (by omega) ⟨a,mid,lim',_,ap,L,rfl,rfl,by rw [hL.1]; omega,q1,by omega,hl',by omega,rfl,z1,fun R hR hsR=>h R (Sort.permIn_trans _ _ _ _ _ hp3 (z2 R hR hsR).1) (z2 R hR hsR).2⟩
    unfold F138_j5
    by_cases ha:a > 0
    · rw [decide_eq_true (by omega:(a:Int) > 0),ite2_true]
      have v1:IntKind.wrap .i64 ((a:Int)-1)=((a-1:Nat):Int):=wi (by omega) (by omega)
      rw [v1]
      refine cmpP hc ssc_len hs3 (i:=a-1) (j:=p) rfl rfl (by omega) (by omega) ?_
      have hlq:decide (cf d3[a-1]! d3[p]!<0)=ltC cf d3[a-1]! d3[p]! := rfl
      rw [hlq]
      cases hlt:ltC cf d3[a-1]! d3[p]!
      · unfold F138_j6
        simp only [Bool.not_false,ite2_true]
        refine S166 hc hs3 (by omega) hen (by omega) (by omega) ?_
        rcases hR:Sort.partitionEqual (ltC cf) d3 a e p with ⟨mid,d4⟩
        obtain ⟨q1,q2,q3,q4,q5⟩:=Sort.round_eq hS (Sort.partitionEqual_holds _) ha hpa hpe (by omega) B3 hlt hR
        rw [intV_int]
        exact hI (e-mid) _ _ (by omega) ⟨mid,e,lim',wb,wp,d4,rfl,rfl,by omega,q2,hen,hl',by omega,rfl,q4,fun R hR hsR=>h R (Sort.permIn_trans _ _ _ _ _ hp3 (q5 R hR hsR).1) (q5 R hR hsR).2⟩
      · simp only [Bool.not_true]
        exact two
    · rw [decide_eq_false (by omega:¬ (a:Int) > 0),ite2_false]
      exact two
  have part:∀ (lim':Nat) (d2:Array Ss) (p:Nat) (w:Int),lim'≤64→Sort.PermIn a e d d2→a≤p→p<e →
      F138_j4 (some ⟨b,0,none⟩) n c a e lim' (.func (.func f) ⟨ga⟩ ⟨gb⟩) wb wp ((e-a:Nat):Int) p w (HA hp0 b 79 sp ssc d2) I K:=by
    intro lim' d2 p w hl' hp2 hpa hpe
    have hs2:d2.size=n:=by rw [hp2.1]; exact hs
    have B2:Sort.Below (ltC cf) a e d2:=hB.perm (by omega) hp2
    have seven:∀ q:Bool,F138_j7 (some ⟨b,0,none⟩) n c a e lim' (.func (.func f) ⟨ga⟩ ⟨gb⟩) wb wp ((e-a:Nat):Int) p q (HA hp0 b 79 sp ssc d2) I K:=by
      intro q
      unfold F138_j7
      cases q
      · rw [ite2_false]; exact last lim' d2 p wb wp hl' hp2 hpa hpe
      · rw [ite2_true]
        refine S165 hc hs2 (by omega) hen (by omega) ?_
        obtain ⟨r1,r2⟩:=Sort.partialInsertionSort_holds hS d2 a e (by omega) (by omega) B2
        rw [boolV_bool]
        cases hq:(Sort.partialInsertionSort (ltC cf) d2 a e).2
        · rw [ite2_false]
          exact last lim' _ p wb wp hl' (Sort.permIn_trans _ _ _ _ _ hp2 r1) hpa hpe
        · rw [ite2_true]
          exact h _ (Sort.permIn_trans _ _ _ _ _ hp2 r1) (r2 hq)
    unfold F138_j4
    cases wb
    · rw [ite2_false]; exact seven _
    · rw [ite2_true]
      cases wp
      · rw [ite2_false]; exact seven _
      · rw [ite2_true]; exact seven _
  have piv:∀ (lim':Nat) (d1:Array Ss),lim'≤64→Sort.PermIn a e d d1→F138_j3 (some ⟨b,0,none⟩) n c a e lim' (.func (.func f) ⟨ga⟩ ⟨gb⟩) wb wp ((e-a:Nat):Int) (HA hp0 b 79 sp ssc d1) I K:=by
    intro lim' d1 hl' hp1
    have hs1:d1.size=n:=by rw [hp1.1]; exact hs
    unfold F138_j3
    refine S163 hx hs1 (by omega) hen hn fun p w hpa hpe=>?_
    simp only [tup2V_mk,intV_int]
    cases (w==2)
    · rw [ite2_false]; exact part lim' d1 p w hl' hp1 hpa hpe
    · rw [ite2_true]
      refine S164 hs1 (by omega) hen (by omega) ?_
      have v1:IntKind.wrap .i64 ((e:Int)-1)=((e-1:Nat):Int):=wi (by omega) (by omega)
      have v2:IntKind.wrap .i64 ((p:Int)-(a:Int))=((p-a:Nat):Int):=wi (by omega) (by omega)
      have v3:IntKind.wrap .i64 (((e-1:Nat):Int)-((p-a:Nat):Int))=((e-1-(p-a):Nat):Int):=wi (by omega) (by omega)
      rw [v1,v2,v3]
      exact part lim' _ _ 1 hl' (Sort.permIn_trans _ _ _ _ _ hp1 (Sort.reverseRange_holds d1 a e hae (by omega))) (by omega) (by omega)
  cases wb
  · simp only [Bool.not_false,ite2_true]
    refine S162 hs hae hen hn fun d1 hp1=>?_
    have v1:IntKind.wrap .i64 ((lim:Int)-1)=((lim-1:Nat):Int):=wi (by omega) (by omega)
    rw [v1]
    exact piv (lim-1) d1 (by omega) hp1
  · simp only [Bool.not_true,ite2_false]
    exact piv lim d hl (Sort.permIn_refl d a e)
end
/-- SortFunc of a row: the same things, in their order. -/
theorem S122 {f:FuncId} {ga gb:List Value} {cf:Ss→Ss→Int} (hS:Sort.SWO (ltC cf)) {hp:HP} {s:Option Addr} {n c:Nat} {ts:List Ss} (hr:Row hp s n c 79 9 (ts.flatMap ssc)) (hl:ts.length=n) (hn:n≤65535)
    (hx:∀ b,s=some ⟨b,0,none⟩→CmpX Tryd.prog f ga gb hp b 79 ((c-n)*9) ssc n cf) {K:Value→HP→Prop}
    (h:∀ (ts':List Ss) (hp':HP),ts'.Perm ts→ts'.Pairwise (fun x y=>ltC cf y x=false)→Row hp' s n c 79 9 (ts'.flatMap ssc)→(hp'=hp∨∃ b e,s=some ⟨b,0,none⟩∧hp'=hp.set b e)→K (.tuple ⟨[]⟩) hp') :
    CF Tryd.prog 122 [.slice s n c,.func (.func f) ⟨ga⟩ ⟨gb⟩] hp K:=by
  refine F122_ok s n c _ hp K ?_
  unfold F122
  rw [wu64 (by omega) (by omega)]
  refine C128 hn fun L hL _ _=>?_
  rw [intV_int]
  have z0:(Value.int .i64 0)=Value.int .i64 ((0:Nat):Int):=rfl
  rcases hr with ⟨rfl,rfl,rfl,hnil⟩ | ⟨b,rfl,hnc,hxl,hb⟩
  · have ht:ts=[]:=List.eq_nil_of_length_eq_zero hl
    subst ht
    rw [z0]
    refine F138_ok none 0 0 ((0:Nat):Int) ((0:Nat):Int) L _ hp _ ?_
    unfold F138 F138_j1
    refine LoopP.by (J:=fun k (s:Int × Int × Int × Bool × Bool) hp'=>s.1=0∧s.2.1=0∧hp'=hp) ?_ (n:=0) ⟨rfl,rfl,rfl⟩
    rintro I k ⟨a,e,lim,wb,wp⟩ hp' ⟨h1,h2,rfl⟩ hI
    simp only at h1 h2
    subst h1 h2
    unfold F138_l2
    simp only []
    have w0:IntKind.wrap .i64 ((0:Int)-0)=0:=by rw [w64 (by omega) (by omega)]; omega
    rw [w0,decide_eq_true (by omega:(0:Int)≤12),ite2_true]
    refine F160_ok none 0 0 0 0 _ hp' _ ?_
    unfold F160 F160_j1
    have w1:IntKind.wrap .i64 ((0:Int)+1)=1:=by rw [w64 (by omega) (by omega)]; omega
    rw [w1]
    refine LoopP.by (J:=fun k (x:Int) hp2=>x=1∧hp2=hp') ?_ (n:=0) ⟨rfl,rfl⟩
    rintro I2 k2 x hp2 ⟨rfl,rfl⟩ hI2
    unfold F160_l2
    rw [decide_eq_false (by omega:¬ (1:Int)<0),ite2_false]
    exact h [] _ (List.Perm.refl _) List.Pairwise.nil (.inl ⟨rfl,rfl,rfl,rfl⟩) (.inl rfl)
  · have hha:HA hp b 79 ((c-n)*9) ssc ts.toArray=hp:=HP.set_self _ _ _ hb
    rw [z0]
    have key:=S138 (c:=c) (hx b rfl) hS hn n (d:=ts.toArray) (lo:=0) (hi:=n) (limit:=L) (K:=fun u_4 h_5=>K (.tuple ⟨[]⟩) h_5) (by simpa using hl) (Nat.zero_le _) (Nat.le_refl _) (by omega) (by omega) (.inl rfl) ?_
    · rw [hha] at key; exact key
    intro d' hpm hst
    have hsz:d'.size=n:=by rw [hpm.1]; simpa using hl
    have hpl:d'.toList.Perm ts:=by
      have h3:=hpm.2.2
      have e1:d'.extract 0 n=d':=by rw [← hsz]; simp
      have e2:ts.toArray.extract 0 n=ts.toArray:=by rw [← hl]; simp
      rw [e1,e2] at h3
      exact h3
    refine h d'.toList _ hpl ?_ (.inr ⟨b,rfl,hnc,by rw [flat_len ssc_len]; simp [hsz],by unfold HA; rw [HP.set_eq]⟩) (.inr ⟨b,_,rfl,rfl⟩)
    rw [List.pairwise_iff_getElem]
    intro i j hi hj hij
    have:=hst i j (Nat.zero_le _) hij (by simpa [hsz] using hj)
    rw [getElem!_pos d' j (by simpa using hj),getElem!_pos d' i (by simpa using hi)] at this
    simpa using this
end Go.Proofs
set_option linter.unusedVariables false
set_option maxRecDepth 20000
namespace Go.Proofs
open Go Go.HL
section
variable {e E:Env} {x0:OA} {x1:Int} {x2:List Value} {x5:OA} {hp:HP} {K:Env→PV→HP→Prop}
abbrev R47 (p n:Nat):=RW Tryd.prog 12 [] (opsAt Tryd.f47 (pth p)) (List.range n)
theorem F47_r0:R47 2 2 (upd e 2 (sA x2)) V0 hp K=
    (∀ b1:Nat,hp b1=.none→(K (w3 e 2 (sA x2) 5 (sQ b1 0) 6 (sB false)) V0 (HP.set hp b1 (.cells 27 x2 0)))):=by kernel_rfl
theorem F47_r1 (h:E=upd (w2 e 5 (sP x5) 1 (sI x1)) 0 (sP x0)):R47 5 6 E V0 hp K=
 CF Tryd.prog 46 [(.pointer x0),(.int .i64 x1)] hp fun u1 h2=>(slcV u1 fun a3 n4 c5=>CF Tryd.prog 97 [(.slice a3 n4 c5),(.func (.func 98) ⟨[]⟩ ⟨[(.pointer x5)]⟩)] h2 fun u6 h7=>boolV u6 fun q8=>K (w6 E 7 (sP x0) 8 (sI x1) 9 (sS a3 n4 c5) 10 (sV (.func (.func 98) ⟨[]⟩ ⟨[(.pointer x5)]⟩)) 11 (sB q8) 6 (sB q8)) V0 h7):= by subst h; kernel_rfl
def F47 (x0:OA) (x1:Int) (x2:List Value) (hp:HP) (K:Kh):Prop:=
  (∀ b1:Nat,hp b1=.none→(CF Tryd.prog 46 [(.pointer x0),(.int .i64 x1)] (HP.set hp b1 (.cells 27 x2 0)) fun u2 h3=>slcV u2 fun a4 n5 c6=>CF Tryd.prog 97 [(.slice a4 n5 c6),(.func (.func 98) ⟨[]⟩ ⟨[(.pointer (some ⟨b1,0,none⟩))]⟩)] h3 fun u7 h8=>boolV u7 fun q9=>K (.bool q9) h8))
noncomputable def F47_code:Code:=(.seq (.region 0 (opsAt Tryd.f47 (pth 2)) false) (.seq (.region 1 (opsAt Tryd.f47 (pth 5)) false) .ret))
theorem F47_body:Tryd.f47.body=some F47_code:=by kernel_rfl
theorem F47_ok (x0:OA) (x1:Int) (x2:List Value) (hp:HP) (K:Kh) (h:F47 x0 x1 x2 hp K):CF Tryd.prog 47 [(.pointer x0),(.int .i64 x1),(.agg ⟨x2⟩)] hp K:=by
 refine .inl ⟨by kernel_rfl,AC.intro (N:=12) Tryd.func47 F47_body rfl (Nat.le_of_ble_eq_true rfl) ?_⟩
 unfold F47 at h
 refine Ar F47_r0 ?_ (r3 2 0 1 Rn) (z3 Sn) Sn
 refine fun b1 hb_b_1=>?_
 replace h:=h b1 hb_b_1
 refine Ar (F47_r1 rfl) ?_ (r3 0 1 5 Rn) (z3 Sn) Sn
 refine mC h fun u2 h3 h=>mS h fun a4 n5 c6 h=>mC h fun u7 h8 h=>mB h fun q9 h=>?_
 refine AWP.ret ?_
 exact h
end
section
variable {e:Env} {x0a:OA} {x0n x0c:Nat} {x1:Value} {hp:HP} {K:Env→PV→HP→Prop}
abbrev R97 (p n:Nat):=RW Tryd.prog 9 [] (opsAt Tryd.f97 (pth p)) (List.range n)
theorem F97_r0:R97 2 1 e V0 hp K=
 K (upd e 4 (sB false)) V0 hp:= by kernel_rfl
theorem F97_r1:R97 5 5 (w2 e 1 (sV x1) 0 (sS x0a x0n x0c)) V0 hp K=
 CF Tryd.prog 126 [(.slice x0a x0n x0c),x1] hp fun u1 h2=>(intV u1 .i64 fun i3=>K (w7 e 1 (sV x1) 0 (sS x0a x0n x0c) 5 (sS x0a x0n x0c) 6 (sV x1) 7 (sI i3) 8 (sB (decide (i3≥0))) 4 (sB (decide (i3≥0)))) V0 h2):= by kernel_rfl
def F97 (x0a:OA) (x0n x0c:Nat) (x1:Value) (hp:HP) (K:Kh):Prop:=
  (CF Tryd.prog 126 [(.slice x0a x0n x0c),x1] hp fun u1 h2=>intV u1 .i64 fun i3=>K (.bool (decide (i3≥0))) h2)
noncomputable def F97_code:Code:=(.seq (.region 0 (opsAt Tryd.f97 (pth 2)) false) (.seq (.region 1 (opsAt Tryd.f97 (pth 5)) false) .ret))
theorem F97_body:Tryd.f97.body=some F97_code:=by kernel_rfl
theorem F97_ok (x0a:OA) (x0n x0c:Nat) (x1:Value) (hp:HP) (K:Kh) (h:F97 x0a x0n x0c x1 hp K):CF Tryd.prog 97 [(.slice x0a x0n x0c),x1] hp K:=by
 refine .inl ⟨by kernel_rfl,AC.intro (N:=9) Tryd.func97 F97_body rfl (Nat.le_of_ble_eq_true rfl) ?_⟩
 unfold F97 at h
 refine Ar F97_r0 ?_ (r2 0 1 Rn) (z2 Sn) Sn
 refine Ar F97_r1 ?_ (r2 0 1 Rn) (z2 Sn) Sn
 refine mC h fun u1 h2 h=>mI h fun i3 h=>?_
 refine AWP.ret ?_
 exact h
end
section
variable {e:Env} {x0:List Value} {x1:OA} {k2:List Value} {hp:HP} {K:Env→PV→HP→Prop}
abbrev R98 (p n:Nat):=RW Tryd.prog 9 [2,4,5] (opsAt Tryd.f98 (pth p)) (List.range n)
theorem F98_r0:R98 2 2 (upd e 0 (sA x0)) V0 hp K=
 K (w3 e 0 (sA x0) 2 (sR 2 0) 3 (sB false)) (upd V0 2 (79,x0)) hp:= by kernel_rfl
theorem F98_r1:R98 5 6 (w2 e 2 (sR 2 0) 1 (sP x1)) (upd V0 2 (79,k2)) hp K=
 ldL (cellsN k2 2 4) fun l1=>(ptrN x1 fun b2 o3=>ldL (HP.cellN hp b2 o3 4) fun l4=>eqAgg Tryd.prog 27 l1 l4 fun q5=>K (w8 e 2 (sR 2 0) 1 (sP x1) 4 (sR 2 2) 5 (sR 2 2) 6 (sA l1) 7 (sA l4) 8 (sB q5) 3 (sB q5)) (upd V0 2 (79,k2)) hp):= by kernel_rfl
def F98 (x0:List Value) (x1:OA) (hp:HP) (K:Kh):Prop:=
  (ldL (cellsN x0 2 4) fun l1=>ptrN x1 fun b2 o3=>ldL (HP.cellN hp b2 o3 4) fun l4=>eqAgg Tryd.prog 27 l1 l4 fun q5=>K (.bool q5) hp)
noncomputable def F98_code:Code:=(.seq (.region 0 (opsAt Tryd.f98 (pth 2)) false) (.seq (.region 1 (opsAt Tryd.f98 (pth 5)) false) .ret))
theorem F98_body:Tryd.f98.body=some F98_code:=by kernel_rfl
theorem F98_ok (x0:List Value) (x1:OA) (hp:HP) (K:Kh) (h:F98 x0 x1 hp K):CF Tryd.prog 98 [(.agg ⟨x0⟩),(.pointer x1)] hp K:=by
 refine .inl ⟨by kernel_rfl,AC.intro (N:=9) Tryd.func98 F98_body rfl (Nat.le_of_ble_eq_true rfl) ?_⟩
 unfold F98 at h
 refine Ar F98_r0 ?_ (r2 0 1 Rn) (z2 Sn) Sn
 refine Ar F98_r1 ?_ (r1 1 (rp 2 2 0 Rn)) (z2 Sn) (z1 Sn)
 refine mL h fun l1 h=>mN h fun b2 o3 h=>mL h fun l4 h=>mE h fun q5 h=>?_
 refine AWP.ret ?_
 exact h
end
section
variable {e E:Env} {x0a:OA} {x0n x0c:Nat} {x1:Value} {x5 x7 x8:Int} {hp:HP} {K:Env→PV→HP→Prop}
abbrev R126 (p n:Nat):=RW Tryd.prog 19 [] (opsAt Tryd.f126 (pth p)) (List.range n)
theorem F126_r0:R126 2 1 e V0 hp K=
 K (upd e 4 (sI 0)) V0 hp:= by kernel_rfl
theorem F126_r1:R126 69 1 (w2 e 8 (sI x8) 7 (sI x7)) V0 hp K=
 K (w3 e 8 (sI x8) 7 (sI x7) 9 (sB (decide (x8<x7)))) V0 hp:= by kernel_rfl
theorem F126_r2:R126 1125 2 (upd e 8 (sI x8)) V0 hp K=
 K (w3 e 8 (sI x8) 10 (sI x8) 5 (sI x8)) V0 hp:= by kernel_rfl
theorem F126_r3 (h:E=upd (w2 e 5 (sI x5) 1 (sV x1)) 0 (sS x0a x0n x0c)):R126 2661 6 E V0 hp K=
    ((0≤x5)∧(x5<x0n)∧(ptrN x0a fun b1 o2=>ldL (HP.cellN hp b1 (o2+Int.toNat x5*9) 9) fun l3=>fnV x1 fun f4 ga5 gb6=>CF Tryd.prog f4 (ga5++[(Value.agg ⟨l3⟩)]++gb6) hp fun u7 h8=>boolV u7 fun q9=>K (w6 E 11 (sV x1) 12 (sS x0a x0n x0c) 13 (sI x5) 14 (sQ b1 (o2+Int.toNat x5*9)) 15 (sA l3) 16 (sB q9)) V0 h8)):=by subst h; kernel_rfl
theorem F126_r4:R126 9829 2 (upd e 5 (sI x5)) V0 hp K=
 K (w3 e 5 (sI x5) 17 (sI x5) 4 (sI x5)) V0 hp:= by kernel_rfl
theorem F126_r5:R126 485 2 (upd e 8 (sI x8)) V0 hp K=
 K (w3 e 8 (sI x8) 18 (sI ((wr (x8+1)))) 8 (sI ((wr (x8+1))))) V0 hp:= by kernel_rfl
theorem F126_r6:R126 11 1 e V0 hp K=
 K (upd e 4 (sI ((-1)))) V0 hp:= by kernel_rfl
def F126_l2 (x0a:OA) (x0n x0c:Nat) (x1:Value) (x7:Int) (K:Kh) (I2:(Int)→HP→Prop) (x8:Int) (hp:HP):Prop:=
  (ite2 (decide (x8<x7)) ((0≤x8)∧(x8<x0n)∧(ptrN x0a fun b1 o2=>ldL (HP.cellN hp b1 (o2+Int.toNat x8*9) 9) fun l3=>fnV x1 fun f4 ga_5 gb_6=>CF Tryd.prog f4 (ga_5++[(Value.agg ⟨l3⟩)]++gb_6) hp fun u7 h8=>boolV u7 fun q9=>ite2 q9 (K (.int .i64 x8) h8) (I2 (IntKind.wrap .i64 (x8+1)) h8))) (K (.int .i64 (-1)) hp))
def F126_j1 (x0a:OA) (x0n x0c:Nat) (x1:Value) (x7 x8:Int) (hp:HP) (K:Kh):Prop:=
  (LoopP (σ:=Int) (fun I s hp=>F126_l2 x0a x0n x0c x1 x7  K I s hp) x8 hp)
theorem F126_r7:R126 9 3 (upd e 0 (sS x0a x0n x0c)) V0 hp K=
 K (w4 e 0 (sS x0a x0n x0c) 6 (sS x0a x0n x0c) 7 (sI ((x0n:Nat))) 8 (sI 0)) V0 hp:= by kernel_rfl
def F126 (x0a:OA) (x0n x0c:Nat) (x1:Value) (hp:HP) (K:Kh):Prop:=
  (F126_j1 x0a x0n x0c x1 (x0n:Nat) 0 hp  K)
noncomputable abbrev o126 (k n:Nat):Code:=.region k (opsAt Tryd.f126 (pth n)) false
noncomputable def F126_code:Code:=(.seq (o126 0 2) (.seq (.seq (o126 1 9) (.block 0 (.loop (.seq (o126 2 69) (.seq (.cond (.tmp 9) .skip (.exit 0)) (.seq (.block 1 (.seq (o126 3 1125) (.seq (o126 4 2661) (.cond (.tmp 16) (.seq (o126 5 9829) .ret) .skip)))) (o126 6 485))))))) (.seq (o126 7 11) .ret)))
theorem F126_body:Tryd.f126.body=some F126_code:=by kernel_rfl
theorem F126_ok (x0a:OA) (x0n x0c:Nat) (x1:Value) (hp:HP) (K:Kh) (h:F126 x0a x0n x0c x1 hp K):CF Tryd.prog 126 [(.slice x0a x0n x0c),x1] hp K:=by
 refine .inl ⟨by kernel_rfl,AC.intro (N:=19) Tryd.func126 F126_body rfl (Nat.le_of_ble_eq_true rfl) ?_⟩
 unfold F126 at h
 refine Ar F126_r0 ?_ (r2 0 1 Rn) (z2 Sn) Sn
 refine Aq (As (fun env pv hp=>∃ x0a x0n x0c x1 x7 x8,Sub (w4 E0 8 (sI x8) 7 (sI x7) 1 (sV x1) 0 (sS x0a x0n x0c)) env∧Sub V0 pv∧F126_j1 x0a x0n x0c x1 x7 x8 hp  K) ?_ ?_)
 ·refine Ag F126_r7 ?_ (r2 0 1 Rn) (z2 Sn) Sn
  exact ⟨_,_,_,_,_,_,(z4 Sn),Sn,h⟩
 ·rintro env pv hp ⟨x0a,x0n,x0c,x1,x7,x8,he,hv,h⟩
  refine Ae ?_ (r4 0 1 7 8 Rn) he hv
  unfold F126_j1 at h
  refine AWP.block (AWP.loop (σ:=Int) _ (fun s=>w4 E0 8 (sI s) 7 (sI x7) 1 (sV x1) 0 (sS x0a x0n x0c)) (fun s=>V0) x8 h (fun s=>r4 0 1 7 8 Rn) (z4 Sn) Sn ?_)
  intro I2 x8 hp h
  replace h:F126_l2 x0a x0n x0c x1 x7  K I2 x8 hp:=h
  unfold F126_l2 at h
  refine Ar F126_r1 ?_ (r4 7 8 0 1 Rn) (z4 Sn) Sn
  refine Aq (Ac h rfl (fun h=>?_) (fun h=>?_))
  ·refine AWP.skip (Aq (AWP.block (Ar F126_r2 ?_ (r4 8 0 1 7 Rn) (z4 Sn) Sn)))
   refine Ar (F126_r3 rfl) ?_ (r5 0 1 5 7 8 Rn) (z5 Sn) Sn
   refine ⟨h.1,h.2.1,mN h.2.2 fun b1 o2 h=>mL h fun l3 h=>mF h fun f4 ga_5 gb_6 h=>mC h fun u7 h8 h=>mB h fun q9 h=>?_⟩
   refine Ac h rfl (fun h=>?_) (fun h=>?_)
   ·refine Ar F126_r4 ?_ (r1 5 Rn) (z1 Sn) Sn
    refine AWP.ret ?_
    exact h
   ·refine AWP.skip (Ag F126_r5 ?_ (r4 8 0 1 7 Rn) (z4 Sn) Sn)
    exact ⟨_,(z4 Sn),Sn,h⟩
  ·refine AWP.exit ?_
   refine Ar F126_r6 ?_ Rn Sn Sn
   refine AWP.ret ?_
   exact h
end
section
variable {e E:Env} {x0 x1:Int} {k4:List Value} {hp:HP} {K:Env→PV→HP→Prop}
abbrev R43 (p n:Nat):=RW Tryd.prog 9 [4] (opsAt Tryd.f43 (pth p)) (List.range n)
theorem F43_r0:R43 2 1 e V0 hp K=
 K (upd e 4 (sR 4 0)) (upd V0 4 (34,[.int .u8 0,.int .u8 0,.int .u8 0,.int .u8 0,.int .i64 0])) hp:= by kernel_rfl
theorem F43_r1 (h:E=upd (w2 e 4 (sR 4 0) 1 (sI x1)) 0 (sV (.int .u8 x0))):R43 5 5 E (upd V0 4 (34,k4)) hp K=
    (if List.length [(Value.int .u8 9),.int .u8 0,.int .u8 0,(.int .u8 x0)]=4 then (if List.length (List.set (splice [.int .u8 0,.int .u8 0,.int .u8 0,.int .u8 0,.int .i64 0] 0 [(.int .u8 9),.int .u8 0,.int .u8 0,(.int .u8 x0)]) 4 (.int .i64 x1))=5 then (if List.all (List.set (splice [.int .u8 0,.int .u8 0,.int .u8 0,.int .u8 0,.int .i64 0] 0 [(.int .u8 9),.int .u8 0,.int .u8 0,(.int .u8 x0)]) 4 (.int .i64 x1)) one=true then (if 0+List.length (List.set (splice [.int .u8 0,.int .u8 0,.int .u8 0,.int .u8 0,.int .i64 0] 0 [(.int .u8 9),.int .u8 0,.int .u8 0,(.int .u8 x0)]) 4 (.int .i64 x1))≤List.length k4 then (K (w4 E 5 (sV (.int .u8 x0)) 6 (sV (.agg ⟨[(.int .u8 9),.int .u8 0,.int .u8 0,(.int .u8 x0)]⟩)) 7 (sI x1) 8 (sV (.agg ⟨(List.set (splice [.int .u8 0,.int .u8 0,.int .u8 0,.int .u8 0,.int .i64 0] 0 [(.int .u8 9),.int .u8 0,.int .u8 0,(.int .u8 x0)]) 4 (.int .i64 x1))⟩))) (w2 V0 4 (34,k4) 4 (34,(splice k4 0 (List.set (splice [.int .u8 0,.int .u8 0,.int .u8 0,.int .u8 0,.int .i64 0] 0 [(.int .u8 9),.int .u8 0,.int .u8 0,(.int .u8 x0)]) 4 (.int .i64 x1))))) hp) else False) else False) else False) else False):=by subst h; kernel_rfl
def F43 (x0 x1:Int) (hp:HP) (K:Kh):Prop:=
  (if List.length [(Value.int .u8 9),.int .u8 0,.int .u8 0,(.int .u8 x0)]=4 then (if List.length (List.set (splice [.int .u8 0,.int .u8 0,.int .u8 0,.int .u8 0,.int .i64 0] 0 [(.int .u8 9),.int .u8 0,.int .u8 0,(.int .u8 x0)]) 4 (.int .i64 x1))=5 then (if List.all (List.set (splice [.int .u8 0,.int .u8 0,.int .u8 0,.int .u8 0,.int .i64 0] 0 [(.int .u8 9),.int .u8 0,.int .u8 0,(.int .u8 x0)]) 4 (.int .i64 x1)) one=true then (if 0+List.length (List.set (splice [.int .u8 0,.int .u8 0,.int .u8 0,.int .u8 0,.int .i64 0] 0 [(.int .u8 9),.int .u8 0,.int .u8 0,(.int .u8 x0)]) 4 (.int .i64 x1))≤List.length [(Value.int .u8 0),.int .u8 0,.int .u8 0,.int .u8 0,.int .i64 0] then (ldL (cellsN (splice [.int .u8 0,.int .u8 0,.int .u8 0,.int .u8 0,.int .i64 0] 0 (List.set (splice [.int .u8 0,.int .u8 0,.int .u8 0,.int .u8 0,.int .i64 0] 0 [(.int .u8 9),.int .u8 0,.int .u8 0,(.int .u8 x0)]) 4 (.int .i64 x1))) 0 5) fun l1=>K (.agg ⟨l1⟩) hp) else False) else False) else False) else False)
noncomputable def F43_code:Code:=(.seq (.region 0 (opsAt Tryd.f43 (pth 2)) false) (.seq (.region 1 (opsAt Tryd.f43 (pth 5)) false) .ret))
theorem F43_body:Tryd.f43.body=some F43_code:=by kernel_rfl
theorem F43_ok (x0 x1:Int) (hp:HP) (K:Kh) (h:F43 x0 x1 hp K):CF Tryd.prog 43 [(.int .u8 x0),(.int .i64 x1)] hp K:=by
 refine .inl ⟨by kernel_rfl,AC.intro (N:=9) Tryd.func43 F43_body rfl (Nat.le_of_ble_eq_true rfl) ?_⟩
 unfold F43 at h
 refine Ar F43_r0 ?_ (r2 0 1 Rn) (z2 Sn) Sn
 refine Ar (F43_r1 rfl) ?_ (r2 0 1 (rp 4 4 0 Rn)) (z3 Sn) (z1 Sn)
 refine mf h fun h=>mf h fun h=>mf h fun h=>mf h fun h=>?_
 refine AWP.ret ?_
 exact h
end
end Go.Proofs
set_option linter.unusedVariables false
set_option linter.unusedSimpArgs false
set_option maxRecDepth 20000
namespace Go.Proofs
open Go Go.HL
open Go.Exp (Th tlt Ord setW dropW insW)
theorem C123 {x y:Ss} {hp:HP} {K:Value→HP→Prop} (h:K (.int .i64 (cmpI x.id y.id)) hp):CF Tryd.prog 123 [.agg ⟨ssc x⟩,.agg ⟨ssc y⟩] hp K:=by
  refine F123_ok (ssc x) (ssc y) hp K ?_
  unfold F123
  rw [ssc_id,ldV_some,intV_int,ssc_id,ldV_some,intV_int]
  refine C101 ?_
  rw [intV_int]
  exact h
section
variable {tb:Obj} {hq:HP} {s mx last:Nat} {L:List Ss} {E:List (Ss × Nat)} {ps:Nat→HP} {m x q f:Nat} {O:List (Int × Nat)} {w:List Th} {K:Value→HP→Prop}
set_option maxHeartbeats 2000000 in
/-- The sessions of numbers, by their numbers. -/
theorem W94 {a:Option Addr} {n c:Nat} {ss:List Int} {M:List Ss} (h:SeW tb hq s mx last L w) (hs:Shows hq a n 1 (ss.map iw)) (hn:ss.length=n) (hsm:n≤65535) (hML:∀ y∈M,y∈L) (hM:ss.Perm (M.map (·.id))) (hasc:(M.map (·.id)).Pairwise (· < ·))
    (hK:∀ ps hp' a c,Parts hp' ps→ps 0=hq→Row (ps 1) a M.length c 79 9 (M.flatMap ssc)→K (.slice a M.length c) hp'):CF Tryd.prog 94 [ptr s 0,.slice a n c] hq K:=by
  refine F94_ok _ a n c hq K ?_
  unfold F94 F94_j2
  have hinv:=h.inv
  have hlook:∀ i∈ss,∃ y∈M,y.id=i∧findN i L=some y:=fun i hi=>by
    have:=hM.mem_iff.1 hi
    obtain ⟨y,hy,e⟩:=List.mem_map.1 this
    exact ⟨y,hy,e,by rw [← e]; exact findN_of hinv (hML y hy)⟩
  have hnM:M.length=n:=by
    have:=hM.length_eq
    rw [List.length_map] at this
    omega
  refine LoopP.by (J:=fun k (st:Option Addr × Nat × Nat × Int) hp=>∃ (ps:Nat→HP) (i:Nat),Parts hp ps∧ps 0=hq∧Row (ps 1) st.1 st.2.1 st.2.2.1 79 9 (((ss.take i).map fun i=>(findN i L).getD ss0).flatMap ssc)∧st.2.1=i∧st.2.2.2=i∧i+k=n) ?_
    (n:=n) ⟨pu (fun _ _=>.none) 0 hq,0,Parts.one (HSub.refl hq),pu_eq ..,.inl ⟨rfl,rfl,rfl,by simp⟩,rfl,rfl,by omega⟩
  rintro I k ⟨a1,n1,c1,z⟩ hp ⟨ps,i,hP,h0,hrow,hn1,hz,hik⟩ hI
  simp only at hrow hn1 hz
  subst hn1
  subst hz
  unfold F94_l3
  by_cases hi:n1<n
  · rw [decide_eq_true (by omega:((n1:Nat):Int)<(n:Nat)),ite2_true]
    have hiss:n1<ss.length:=by omega
    obtain ⟨b,o,rfl,hc⟩:=((hs.sub (hP.at 0 h0)):Shows hp a n 1 (ss.map iw)) |> fun hh=>(show ∃ b o,a=some ⟨b,o,none⟩∧hp.cell b (o+n1*1)=some (iw ss[n1]) by
      rcases hh with ⟨e1,e2⟩ | ⟨b,o,e,hcn⟩
      · omega
      · refine ⟨b,o,e,HP.cell_cellN hcn ?_⟩
        rw [Nat.mul_one,List.getElem?_map,List.getElem?_eq_getElem hiss]; rfl)
    obtain ⟨y,hyM,hyid,hfy⟩:=hlook ss[n1] (List.getElem_mem hiss)
    refine ⟨by show (0:Int)≤(n1:Int); omega,by show (n1:Int)<(n:Nat); omega,?_⟩
    rw [ptrN_some,Int.toNat_natCast,hc,ldV_some]
    show intV (.int .i64 ss[n1]) .i64 _
    rw [intV_int]
    obtain ⟨E,qs,m,x,q,f,O,eL,hS⟩:=h.sub (hP.at 0 h0)
    subst eL
    obtain ⟨_,_,_,r2,_⟩:=hS.rd
    obtain ⟨e,he,rfl,_,hfe⟩:=findEs_some hfy
    simp only [ptrN_some,Nat.zero_add,r2,ldV_some,mapV_map]
    refine rdS_lookup (l:=E.map fun e=>(e.1.id,e.2)) u154 enc3 zw158 hS.mapq ss[n1] (ev:=fun k:Nat=>ptr k 0) (cm:=false) ?_
    rw [hS.get,hfe]
    show ptrV (ptr e.2 0) _
    rw [pq,ptrN_some,HP.cellN_of ((hS.parts.sub 0).cells (hS.main.blk e he)),ssc_cells,ldL_some]
    refine ifI (ssc_len e.1) ?_
    refine fun (b3:Nat) (hb3:hp b3=Ent.none)=>?_
    rw [ss_spl rfl]
    have P2:Parts (hp.set b3 (.cells 79 (ssc e.1) 0)) ps:=hP.weak (HSub.set_fresh _ _ hb3)
    refine opS_appP (e:=79) (size:=9) (bytes:=48) (by kernel_rfl) P2 1 (s:=a1) (n:=n1) (c:=c1) hrow
      (ys:=ssc e.1) (.inr ⟨b3,0,rfl,by rw [HP.cellN_of (HP.set_eq ..)]; exact cellsN_all rfl⟩) (ssc_one e.1) (by simp [ssc]) (by omega) (by omega) ?_
    intro a2 c2 hp2 r hr P3
    have w1:IntKind.wrap .i64 ((n1:Int)+1)=((n1+1:Nat):Int):=wi (by omega) (by omega)
    rw [slcV_slice,w1]
    refine hI (k-1) _ _ (by omega) ⟨_,n1+1,P3,by rw [pu_ne _ _ (by omega)]; exact h0,?_,rfl,rfl,by omega⟩
    rw [pu_eq]
    show Row r a2 (n1+1) c2 79 9 _
    rw [List.take_succ_eq_append_getElem hiss,List.map_append,List.flatMap_append]
    have:[ss[n1]].map (fun i=>(findN i (E.map (·.1))).getD ss0)=[e.1]:=by
      rw [List.map_cons,List.map_nil,hfy]; rfl
    rw [this]
    simpa using hr
  · rw [decide_eq_false (by omega:¬ ((n1:Nat):Int)<(n:Nat)),ite2_false]
    have hin:n1=n:=by omega
    subst hin
    rw [List.take_of_length_le (by omega)] at hrow
    unfold F94_j1
    have hpm:(ss.map fun i=>(findN i L).getD ss0).Perm M:=by
      have h1:=hM.map (fun i=>(findN i L).getD ss0)
      rw [List.map_map] at h1
      have:M.map ((fun i=>(findN i L).getD ss0) ∘ fun y:Ss=>y.id)=M:=by
        conv=>rhs; rw [← List.map_id M]
        refine List.map_congr_left fun y hy=>?_
        show (findN y.id L).getD ss0=y
        rw [findN_of hinv (hML y hy)]; rfl
      rw [this] at h1
      exact h1
    rw [← hnM] at hrow ⊢
    refine S122 (swo_cmpI Ss.id) (hrow.sub (hP.sub 1)) (by rw [hpm.length_eq]) (by omega) ?_ ?_
    · intro b hb hp3 h3 d x y K' hsz hk
      exact C123 hk
    · intro ts' hp' hp1' hpw hrow' hh'
      have e:=order_eq (f:=Ss.id) hpw hasc (hp1'.trans hpm)
      subst e
      rcases hh' with rfl | ⟨b,e',hb,rfl⟩
      · refine hK ps hp' a1 c1 hP h0 ?_
        rcases hrow with ⟨r1,r2,r3,r4⟩ | ⟨b,r1,r2,r3,r4⟩
        · rcases hrow' with h | ⟨b,r1',_⟩
          · exact .inl h
          · rw [r1] at r1'; cases r1'
        · rcases hrow' with ⟨r1',_⟩ | ⟨b',r1',r2',r3',r4'⟩
          · rw [r1] at r1'; cases r1'
          · rw [r1] at r1'; cases r1'
            refine .inr ⟨b,r1,r2',r3',?_⟩
            rw [← (hP.sub 1).some rfl (by rw [r4]; simp)]; exact r4'
      · have hne:ps 1 b≠.none:=by
          rcases hrow with ⟨r1,_⟩ | ⟨b0,r1,_,_,r4⟩
          · rw [r1] at hb; cases hb
          · rw [r1] at hb; cases hb
            rw [r4]; simp
        refine hK _ _ a1 c1 (hP.put 1 hne e') (by rw [pu_ne _ _ (by omega)]; exact h0) ?_
        rw [pu_eq]
        rcases hrow' with ⟨r1',_⟩ | ⟨b',r1',r2',r3',r4'⟩
        · rw [hb] at r1'; cases r1'
        · rw [hb] at r1'; cases r1'
          rw [HP.set_eq] at r4'
          exact .inr ⟨b,hb,r2',r3',by rw [HP.set_eq]; exact r4'⟩
/-- A binding's sessions. -/
def ofE (b:Int) (L:List Ss):List Ss:=L.filter fun y=>decide (y.bnd=b)
theorem inn_of (b:Int) (L:List Ss):innB (L.map bi) b=(ofE b L).map fun y=>(y.id,true):=by
  unfold innB ofE
  rw [List.filter_map,List.map_map]; rfl
/-- What stands behind a call that hands out sessions. -/
abbrev Gives (hq:HP) (M:List Ss) (K:Value→HP→Prop):Prop:=∀ ps hp' a c,Parts hp' ps→HSub hq (ps 0)→Row (ps 1) a M.length c 79 9 (M.flatMap ssc)→K (.slice a M.length c) hp'
/-- Behind Collect: the list. -/
theorem listC {hp:HP} {ss:List Int} {M:List Ss} (h:SeW tb hq s mx last L w) (hs:HSub hq hp) (hsm:L.length≤65535) (hML:M.Sublist L) (hM:ss.Perm (M.map (·.id)))
    (hK:Gives hq M K):Coll hp ss fun u h_13=>slcV u fun a_14 n_15 c_16=>CF Tryd.prog 94 [ptr s 0,.slice a_14 n_15 c_16] h_13 fun u_17 h_18=>slcV u_17 fun a_19 n_20 c_21=>K (.slice a_19 n_20 c_21) h_18:=by
  have hinv:=h.inv
  have hasc:(M.map (·.id)).Pairwise (· < ·):=hinv.asc.sublist (hML.map _)
  have hlen:ss.length≤65535:=by
    have h1:=hM.length_eq
    rw [List.length_map] at h1
    have h2:=hML.length_le
    omega
  constructor
  · rintro rfl
    rw [slcV_slice]
    refine W94 (h.sub hs) (.inl ⟨rfl,rfl⟩) rfl (by omega) (fun y hy=>hML.subset hy) hM hasc fun ps hp' a c P h0 hr=>?_
    rw [slcV_slice]
    exact hK ps hp' a c P (by rw [h0]; exact hs) hr
  · intro hne b c hb hc
    have hs2:HSub hq (hp.set b (.cells 3 (ss.map iw) (c-ss.length))):=hs.up (hs.none hb) _
    rw [slcV_slice]
    refine W94 (h.sub hs2) (.inr ⟨b,0,rfl,?_⟩) rfl hlen (fun y hy=>hML.subset hy) hM hasc fun ps hp' a c P h0 hr=>?_
    · rw [HP.cellN_of (HP.set_eq ..)]
      exact cellsN_all (by simp)
    · rw [slcV_slice]
      exact hK ps hp' a c P (by rw [h0]; exact hs2) hr
theorem okZ_id (h:InvE mx last L) {y:Ss} (hy:y∈L):okZ y.id:=by
  have:=h.rng y hy
  have:=h.last
  unfold okZ; omega
theorem W46 (h:SeW tb hq s mx last L w) (hsm:L.length≤65535) {b:Int} (hK:Gives hq (ofE b L) K):CF Tryd.prog 46 [ptr s 0,.int .i64 b] hq K:=by
  have h0:=h
  have hinv:=h.inv
  obtain ⟨E,ps,m,x,q,f,O,rfl,h⟩:=h
  refine F46_ok _ b hq K ?_
  unfold F46
  refine C90p h ?_
  obtain ⟨_,_,_,_,_,_,r5⟩:=h.rd
  simp only [boolV_bool,ite2_false,ptrN_some,Nat.zero_add,r5,ldV_some,mapV_map]
  refine lookV (h.of.map.sub (h.parts.sub 3)) ?_
  rw [mapV_map]
  refine F96_ok _ hq _ ?_
  unfold F96
  refine fun (b1:Nat) (hb1:hq b1=Ent.none)=>?_
  have hs1:HSub hq (hq.set b1 (.cells 160 [.map (getL b O)] 0)):=HSub.set_fresh _ _ hb1
  cases hg:getL b O with
  | none=>
    rw [hg] at hs1
    refine C95n (HP.set_eq ..) ?_
    have hem:ofE b (E.map (·.1))=[]:=by
      unfold ofE
      rw [List.filter_eq_nil_iff]
      intro y hy
      have:=h.of.none hg (bi y) (List.mem_map.2 ⟨y,hy,rfl⟩)
      simpa [bi] using this
    have:=(listC (ss:=[]) h0 hs1 hsm (M:=ofE b (E.map (·.1))) (show (ofE b (E.map (·.1))).Sublist (E.map (·.1)) from List.filter_sublist) (by rw [hem]; exact List.Perm.nil) hK).1 rfl
    exact this
  | some k=>
    rw [hg] at hs1
    obtain ⟨hin,_⟩:=h.of.inner hg
    rw [inn_of] at hin
    have hsub:(ofE b (E.map (·.1))).Sublist (E.map (·.1)):=List.filter_sublist
    refine C95 (l:=(ofE b (E.map (·.1))).map fun y=>(y.id,true)) (HP.set_eq ..) ((hin.sub (h.parts.sub 3)).sub hs1) ?_ ?_ ?_ fun ss hss=>?_
    · rw [List.map_map]; exact hinv.ids.sublist (hsub.map _)
    · intro p hp
      obtain ⟨y,hy,rfl⟩:=List.mem_map.1 hp
      exact okZ_id hinv (hsub.subset hy)
    · rw [List.length_map]; have:=hsub.length_le; omega
    · rw [List.map_map] at hss
      exact listC h0 hs1 hsm hsub hss hK
theorem N46 {hp:HP} {ps:Nat→HP} {i j:Nat} {b:Int} (hP:Parts hp ps) (hij:j≠i) (hj:∀ b,ps j b=.none) (h:SeW tb (ps i) s mx last L w) (hsm:L.length≤65535)
    (hK:∀ r hp' a c,Row r a (ofE b L).length c 79 9 ((ofE b L).flatMap ssc)→Parts hp' (pu ps j r)→K (.slice a (ofE b L).length c) hp'):CF Tryd.prog 46 [ptr s 0,.int .i64 b] hp K:=by
  refine CF.part hP i (W46 (K:=fun u q=>∃ qs a c,u=.slice a (ofE b L).length c∧Parts q qs∧HSub (ps i) (qs 0)∧Row (qs 1) a (ofE b L).length c 79 9 ((ofE b L).flatMap ssc)) h hsm
    fun qs hq' a c h1 h2 h3=>⟨qs,a,c,rfl,h1,h2,h3⟩) ?_
  rintro u q hp'' ⟨qs,a,c,rfl,h1,h2,h3⟩ hP'
  refine hK (qs 1) hp'' a c h3 ?_
  have:=hP'.split (i:=i) (j:=j) hij (fun b=>by rw [pu_ne _ _ hij]; exact hj b) (l:=ps i) (r:=qs 1) (by rw [pu_eq]; exact h2.trans (h1.sub 0)) (by rw [pu_eq]; exact h1.sub 1) ((h1.dis 0 1 (by omega)).sub h2)
  have e:pu (pu (pu ps i q) i (ps i)) j (qs 1)=pu ps j (qs 1):=by
    funext k
    by_cases h1:k=j
    · subst h1; rw [pu_eq,pu_eq]
    · rw [pu_ne _ _ h1,pu_ne _ _ h1]
      by_cases h4:k=i
      · subst h4; rw [pu_eq]
      · rw [pu_ne _ _ h4,pu_ne _ _ h4]
  rw [e] at this
  exact this
/-- Has a binding a session with an address? -/
def knowsE (b:Int) (ad:Q) (L:List Ss):Bool:=(ofE b L).any fun y=>decide (y.peer.1=ad)
theorem C98 {y:Ss} {ad:Q} {B:Nat} {hp:HP} (hB:hp B=.cells 27 (v4 ad) 0) (hK:K (.bool (decide (y.peer.1=ad))) hp):CF Tryd.prog 98 [.agg ⟨ssc y⟩,ptr B 0] hp K:=by
  refine F98_ok (ssc y) _ hp K ?_
  unfold F98
  rw [ssc_addr,ldL_some,ptrN_some,HP.cellN_of hB,v4_cells,ldL_some]
  exact eq73 hK
theorem C97 {a:Option Addr} {n c:Nat} {M:List Ss} {ad:Q} {B:Nat} {hp:HP} (hs:Shows hp a n 9 (M.flatMap ssc)) (hn:M.length=n) (hsm:n≤1000000) (hB:hp B=.cells 27 (v4 ad) 0)
    (hK:K (.bool (M.any fun y=>decide (y.peer.1=ad))) hp):CF Tryd.prog 97 [.slice a n c,.func (.func 98) ⟨[]⟩ ⟨[ptr B 0]⟩] hp K:=by
  refine F97_ok a n c _ hp K ?_
  unfold F97
  refine F126_ok a n c _ hp _ ?_
  unfold F126 F126_j1
  refine LoopP.by (J:=fun k (z:Int) hp'=>hp'=hp∧∃ i:Nat,z=i∧i+k=n∧∀ y∈M.take i,y.peer.1≠ad) ?_ (n:=n) ⟨rfl,0,rfl,by omega,fun y hy=>by simp at hy⟩
  rintro I k z hp' ⟨rfl,i,rfl,hik,hno⟩ hI
  unfold F126_l2
  by_cases hi:i<n
  · rw [decide_eq_true (by omega:(i:Int)<(n:Nat)),ite2_true]
    have him:i<M.length:=by omega
    obtain ⟨b,o,rfl,hc⟩:=hs.get ssc_len hn hi
    refine ⟨by omega,by omega,?_⟩
    rw [ptrN_some,Int.toNat_natCast,hc,ldL_some,fnV_mk]
    refine C98 hB ?_
    rw [boolV_bool]
    by_cases he:M[i].peer.1=ad
    · rw [decide_eq_true he,ite2_true]
      dsimp only
      rw [intV_int]
      have:(M.any fun y=>decide (y.peer.1=ad))=true:=List.any_eq_true.2 ⟨M[i],List.getElem_mem him,decide_eq_true he⟩
      rw [this] at hK
      rw [decide_eq_true (by omega:(i:Int)≥0)]
      exact hK
    · have w1:IntKind.wrap .i64 ((i:Int)+1)=((i+1:Nat):Int):=wi (by omega) (by omega)
      rw [decide_eq_false he,ite2_false,w1]
      refine hI (k-1) _ _ (by omega) ⟨rfl,i+1,rfl,by omega,fun y hy=>?_⟩
      rw [List.take_succ_eq_append_getElem him] at hy
      rcases List.mem_append.1 hy with hy | hy
      · exact hno y hy
      · rw [List.mem_singleton.1 hy]; exact he
  · rw [decide_eq_false (by omega:¬ (i:Int)<(n:Nat)),ite2_false]
    dsimp only
    rw [intV_int]
    rw [List.take_of_length_le (by omega)] at hno
    have:(M.any fun y=>decide (y.peer.1=ad))=false:=by
      rw [List.any_eq_false]
      intro y hy
      simpa using hno y hy
    rw [this] at hK
    exact hK
theorem W47 (h:SeW tb hq s mx last L w) (hsm:L.length≤65535) {b:Int} {ad:Q} (hK:K (.bool (knowsE b ad L)) hq):CF Tryd.prog 47 [ptr s 0,.int .i64 b,.agg ⟨v4 ad⟩] hq K:=by
  refine CF.drop (F47_ok _ b (v4 ad) hq _ ?_)
  unfold F47
  refine fun (b1:Nat) (hb1:hq b1=Ent.none)=>?_
  have hs1:HSub hq (hq.set b1 (.cells 27 (v4 ad) 0)):=HSub.set_fresh _ _ hb1
  refine W46 (h.sub hs1) hsm fun ps hp' a c P hs hr=>?_
  rw [slcV_slice]
  have hB:hp' b1=.cells 27 (v4 ad) 0:=(hs.trans (P.sub 0)).cells (HP.set_eq ..)
  have hlen:(ofE b L).length≤L.length:=List.length_filter_le _ _
  refine C97 (hr.sub (P.sub 1)).shows rfl (by omega) hB ?_
  rw [boolV_bool]
  exact ⟨hq,hs1.trans (hs.trans (P.sub 0)),hK⟩
end
end Go.Proofs
set_option linter.unusedVariables false
set_option maxRecDepth 20000
namespace Go.Proofs
open Go Go.HL
section
variable {e E:Env} {x1:OA} {x2 x4 x6:Int} {k3:List Value} {hp:HP} {K:Env→PV→HP→Prop}
abbrev R40 (p n:Nat):=RW Tryd.prog 59 [3,5,36] (opsAt Tryd.f40 (pth p)) (List.range n)
theorem F40_r0:R40 2 1 e V0 hp K=
 K (upd e 0 (sB false)) V0 hp:= by kernel_rfl
theorem F40_r1:R40 5 6 e V0 hp K=
 CF Tryd.prog 41 [(.int .i64 3)] hp fun u1 h2=>(tup2V u1 fun u3 u4=>ptrV u3 fun p5=>intV u4 .i64 fun i6=>K (w6 e 8 (sV (.tuple ⟨[(.pointer p5),(.int .i64 i6)]⟩)) 7 (sV (.tuple ⟨[(.pointer p5),(.int .i64 i6)]⟩)) 9 (sP p5) 10 (sI i6) 1 (sP p5) 2 (sI i6)) V0 h2):= by kernel_rfl
theorem F40_r2:R40 75 1 e V0 hp K=
 K (upd e 0 (sB false)) V0 hp:= by kernel_rfl
theorem F40_r3:R40 23 9 (upd e 1 (sP x1)) V0 hp K=
 CF Tryd.prog 43 [(.int .u8 1),(.int .i64 80)] hp fun u1 h2=>(aggV u1 fun l3=>CF Tryd.prog 42 [(.pointer x1),(.int .i64 1),(.agg ⟨l3⟩),.int .i64 0,(.int .i64 9)] h2 fun u4 h5=>tup2V u4 fun u6 u7=>aggV u6 fun l8=>intV u7 .i64 fun i9=>if List.length l8=9 then (if List.all l8 one=true then (if 0+List.length l8≤List.length [(Value.int .i64 0),.int .i64 0,.int .u8 0,.int .u8 0,.int .u8 0,.int .u8 0,.int .i64 0,.int .i64 0,.int .i64 0] then (K (upd (w8 e 1 (sP x1) 18 (sP x1) 19 (sA l3) 20 (sV (.tuple ⟨[(.agg ⟨l8⟩),(.int .i64 i9)]⟩)) 17 (sV (.tuple ⟨[(.agg ⟨l8⟩),(.int .i64 i9)]⟩)) 21 (sA l8) 22 (sI i9) 3 (sR 3 0)) 4 (sI i9)) (w2 V0 3 (79,[.int .i64 0,.int .i64 0,.int .u8 0,.int .u8 0,.int .u8 0,.int .u8 0,.int .i64 0,.int .i64 0,.int .i64 0]) 3 (79,(splice [.int .i64 0,.int .i64 0,.int .u8 0,.int .u8 0,.int .u8 0,.int .u8 0,.int .i64 0,.int .i64 0,.int .i64 0] 0 l8))) h5) else False) else False) else False):= by kernel_rfl
theorem F40_r4:R40 47 9 (upd e 1 (sP x1)) (upd V0 3 (79,k3)) hp K=
 CF Tryd.prog 43 [(.int .u8 1),(.int .i64 80)] hp fun u1 h2=>(aggV u1 fun l3=>CF Tryd.prog 42 [(.pointer x1),(.int .i64 1),(.agg ⟨l3⟩),.int .i64 0,(.int .i64 9)] h2 fun u4 h5=>tup2V u4 fun u6 u7=>aggV u6 fun l8=>intV u7 .i64 fun i9=>if List.length l8=9 then (if List.all l8 one=true then (if 0+List.length l8≤List.length [(Value.int .i64 0),.int .i64 0,.int .u8 0,.int .u8 0,.int .u8 0,.int .u8 0,.int .i64 0,.int .i64 0,.int .i64 0] then (K (upd (w8 e 1 (sP x1) 24 (sP x1) 25 (sA l3) 26 (sV (.tuple ⟨[(.agg ⟨l8⟩),(.int .i64 i9)]⟩)) 23 (sV (.tuple ⟨[(.agg ⟨l8⟩),(.int .i64 i9)]⟩)) 27 (sA l8) 28 (sI i9) 5 (sR 5 0)) 6 (sI i9)) (w3 V0 3 (79,k3) 5 (79,[.int .i64 0,.int .i64 0,.int .u8 0,.int .u8 0,.int .u8 0,.int .u8 0,.int .i64 0,.int .i64 0,.int .i64 0]) 5 (79,(splice [.int .i64 0,.int .i64 0,.int .u8 0,.int .u8 0,.int .u8 0,.int .u8 0,.int .i64 0,.int .i64 0,.int .i64 0] 0 l8))) h5) else False) else False) else False):= by kernel_rfl
theorem F40_r5 (h:E=upd (w3 e 6 (sI x6) 4 (sI x4) 3 (sR 3 0)) 1 (sP x1)):R40 95 31 E (upd V0 3 (79,k3)) hp K=
 ite2 (x4==0) (ite2 (x6==5) (ldV (k3)[0]? fun v1=>intV v1 .i64 fun i2=>ite2 (i2==1) (CF Tryd.prog 43 [(.int .u8 1),.int .i64 0] hp fun u3 h4=>aggV u3 fun l5=>ldL (cellsN l5 0 4) fun l7=>CF Tryd.prog 47 [(.pointer x1),(.int .i64 1),(.agg ⟨l7⟩)] h4 fun u8 h9=>boolV u8 fun q10=>ite2 q10 (CF Tryd.prog 43 [(.int .u8 1),.int .i64 0] h9 fun u11 h12=>aggV u11 fun l13=>ldL (cellsN l13 0 4) fun l15=>CF Tryd.prog 47 [(.pointer x1),(.int .i64 2),(.agg ⟨l15⟩)] h12 fun u16 h17=>boolV u16 fun q18=>ite2 (!q18) (CF Tryd.prog 45 [(.pointer x1),(.int .i64 9)] h17 fun u19 h20=>slcV u19 fun a21 n22 c23=>K (w7 (w8 (w8 (w8 E 29 (sI x4) 30 (sB ((x4==0))) 31 (sB true) 32 (sI x6) 33 (sB ((x6==5))) 34 (sB ((x6==5))) 35 (sB true) 36 (sR 3 0)) 37 (sI i2) 38 (sB ((i2==1))) 39 (sB ((i2==1))) 40 (sB true) 41 (sP x1) 42 (sA l5) 43 (sA l7) 44 (sB q10)) 45 (sB q10) 46 (sB true) 47 (sP x1) 48 (sA l13) 49 (sA l15) 50 (sB q18) 51 (sB ((!q18))) 52 (sB ((!q18)))) 53 (sB true) 54 (sP x1) 55 (sS a21 n22 c23) 56 (sI ((n22:Nat))) 57 (sB ((((n22:Nat):Int)==1))) 58 (sB ((((n22:Nat):Int)==1))) 0 (sB ((((n22:Nat):Int)==1)))) (upd V0 3 (79,k3)) h20) (K (w7 (w8 (w8 (w8 E 29 (sI x4) 30 (sB ((x4==0))) 31 (sB true) 32 (sI x6) 33 (sB ((x6==5))) 34 (sB ((x6==5))) 35 (sB true) 36 (sR 3 0)) 37 (sI i2) 38 (sB ((i2==1))) 39 (sB ((i2==1))) 40 (sB true) 41 (sP x1) 42 (sA l5) 43 (sA l7) 44 (sB q10)) 45 (sB q10) 46 (sB true) 47 (sP x1) 48 (sA l13) 49 (sA l15) 50 (sB q18) 51 (sB ((!q18))) 52 (sB ((!q18)))) 53 (sB false) 54 sU 55 sU 56 sU 57 sU 58 (sB false) 0 (sB false)) (upd V0 3 (79,k3)) h17)) (K (w7 (w8 (w8 (w8 E 29 (sI x4) 30 (sB ((x4==0))) 31 (sB true) 32 (sI x6) 33 (sB ((x6==5))) 34 (sB ((x6==5))) 35 (sB true) 36 (sR 3 0)) 37 (sI i2) 38 (sB ((i2==1))) 39 (sB ((i2==1))) 40 (sB true) 41 (sP x1) 42 (sA l5) 43 (sA l7) 44 (sB q10)) 45 (sB q10) 46 (sB false) 47 sU 48 sU 49 sU 50 sU 51 sU 52 (sB false)) 53 (sB false) 54 sU 55 sU 56 sU 57 sU 58 (sB false) 0 (sB false)) (upd V0 3 (79,k3)) h9)) (K (w7 (w8 (w8 (w8 E 29 (sI x4) 30 (sB ((x4==0))) 31 (sB true) 32 (sI x6) 33 (sB ((x6==5))) 34 (sB ((x6==5))) 35 (sB true) 36 (sR 3 0)) 37 (sI i2) 38 (sB ((i2==1))) 39 (sB ((i2==1))) 40 (sB false) 41 sU 42 sU 43 sU 44 sU) 45 (sB false) 46 (sB false) 47 sU 48 sU 49 sU 50 sU 51 sU 52 (sB false)) 53 (sB false) 54 sU 55 sU 56 sU 57 sU 58 (sB false) 0 (sB false)) (upd V0 3 (79,k3)) hp)) (K (w7 (w8 (w8 (w8 E 29 (sI x4) 30 (sB ((x4==0))) 31 (sB true) 32 (sI x6) 33 (sB ((x6==5))) 34 (sB ((x6==5))) 35 (sB false) 36 sU) 37 sU 38 sU 39 (sB false) 40 (sB false) 41 sU 42 sU 43 sU 44 sU) 45 (sB false) 46 (sB false) 47 sU 48 sU 49 sU 50 sU 51 sU 52 (sB false)) 53 (sB false) 54 sU 55 sU 56 sU 57 sU 58 (sB false) 0 (sB false)) (upd V0 3 (79,k3)) hp)) (K (w7 (w8 (w8 (w8 E 29 (sI x4) 30 (sB ((x4==0))) 31 (sB false) 32 sU 33 sU 34 (sB false) 35 (sB false) 36 sU) 37 sU 38 sU 39 (sB false) 40 (sB false) 41 sU 42 sU 43 sU 44 sU) 45 (sB false) 46 (sB false) 47 sU 48 sU 49 sU 50 sU 51 sU 52 (sB false)) 53 (sB false) 54 sU 55 sU 56 sU 57 sU 58 (sB false) 0 (sB false)) (upd V0 3 (79,k3)) hp):= by subst h; kernel_rfl
def F40_j1 (x1:OA) (x16:Bool) (hp:HP) (K:Kh):Prop:=
  (ite2 x16 (K (.bool false) hp) (CF Tryd.prog 43 [(.int .u8 1),(.int .i64 80)] hp fun u7 h8=>aggV u7 fun l9=>CF Tryd.prog 42 [(.pointer x1),(.int .i64 1),(.agg ⟨l9⟩),.int .i64 0,(.int .i64 9)] h8 fun u10 h11=>tup2V u10 fun u12 u13=>aggV u12 fun l14=>intV u13 .i64 fun i15=>if List.length l14=9 then (if List.all l14 one=true then (if 0+List.length l14≤List.length [(Value.int .i64 0),.int .i64 0,.int .u8 0,.int .u8 0,.int .u8 0,.int .u8 0,.int .i64 0,.int .i64 0,.int .i64 0] then (CF Tryd.prog 43 [(.int .u8 1),(.int .i64 80)] h11 fun u16 h17=>aggV u16 fun l18=>CF Tryd.prog 42 [(.pointer x1),(.int .i64 1),(.agg ⟨l18⟩),.int .i64 0,(.int .i64 9)] h17 fun u19 h20=>tup2V u19 fun u21 u22=>aggV u21 fun l23=>intV u22 .i64 fun i24=>if List.length l23=9 then (if List.all l23 one=true then (if 0+List.length l23≤List.length [(Value.int .i64 0),.int .i64 0,.int .u8 0,.int .u8 0,.int .u8 0,.int .u8 0,.int .i64 0,.int .i64 0,.int .i64 0] then (ite2 (i15==0) (ite2 (i24==5) (ldV ((splice [.int .i64 0,.int .i64 0,.int .u8 0,.int .u8 0,.int .u8 0,.int .u8 0,.int .i64 0,.int .i64 0,.int .i64 0] 0 l14))[0]? fun v25=>intV v25 .i64 fun i26=>ite2 (i26==1) (CF Tryd.prog 43 [(.int .u8 1),.int .i64 0] h20 fun u27 h28=>aggV u27 fun l29=>ldL (cellsN l29 0 4) fun l31=>CF Tryd.prog 47 [(.pointer x1),(.int .i64 1),(.agg ⟨l31⟩)] h28 fun u32 h33=>boolV u32 fun q34=>ite2 q34 (CF Tryd.prog 43 [(.int .u8 1),.int .i64 0] h33 fun u35 h36=>aggV u35 fun l37=>ldL (cellsN l37 0 4) fun l39=>CF Tryd.prog 47 [(.pointer x1),(.int .i64 2),(.agg ⟨l39⟩)] h36 fun u40 h41=>boolV u40 fun q42=>ite2 (!q42) (CF Tryd.prog 45 [(.pointer x1),(.int .i64 9)] h41 fun u43 h44=>slcV u43 fun a45 n46 c47=>K (.bool (((n46:Nat):Int)==1)) h44) (K (.bool false) h41)) (K (.bool false) h33)) (K (.bool false) h20)) (K (.bool false) h20)) (K (.bool false) h20)) else False) else False) else False) else False) else False) else False))
theorem F40_r6 (h:E=upd (upd e 2 (sI x2)) 1 (sP x1)):R40 19 6 E V0 hp K=
 ite2 (x2 != 0) (K (w6 E 11 (sI x2) 12 (sB ((x2 != 0))) 13 (sB true) 14 sU 15 sU 16 (sB true)) V0 hp) (K (w6 E 11 (sI x2) 12 (sB ((x2 != 0))) 13 (sB false) 14 (sP x1) 15 (sB ((Option.isNone x1))) 16 (sB ((Option.isNone x1)))) V0 hp):= by subst h; kernel_rfl
def F40 (hp:HP) (K:Kh):Prop:=
  (CF Tryd.prog 41 [(.int .i64 3)] hp fun u1 h2=>tup2V u1 fun u3 u4=>ptrV u3 fun p5=>intV u4 .i64 fun i6=>ite2 (i6 != 0) (F40_j1 p5 true h2  K) (F40_j1 p5 (Option.isNone p5) h2  K))
noncomputable abbrev o40 (k n:Nat):Code:=.region k (opsAt Tryd.f40 (pth n)) false
noncomputable def F40_code:Code:=(.seq (o40 0 2) (.seq (o40 1 5) (.seq (.seq (o40 2 19) (.cond (.tmp 16) (.seq (o40 3 75) .ret) .skip)) (.seq (o40 4 23) (.seq (o40 5 47) (.seq (o40 6 95) .ret))))))
theorem F40_body:Tryd.f40.body=some F40_code:=by kernel_rfl
theorem F40_ok (hp:HP) (K:Kh) (h:F40  hp K):CF Tryd.prog 40 [] hp K:=by
 refine .inl ⟨by kernel_rfl,AC.intro (N:=59) Tryd.func40 F40_body rfl (Nat.le_of_ble_eq_true rfl) ?_⟩
 unfold F40 at h
 refine Ar F40_r0 ?_ Rn Sn Sn
 refine Ar F40_r1 ?_ Rn Sn Sn
 refine mC h fun u1 h2 h=>mT h fun u3 u4 h=>mP h fun p5 h=>mI h fun i6 h=>?_
 refine Aq (As (fun env pv hp=>∃ x1 x16,Sub (w2 E0 16 (sB x16) 1 (sP x1)) env∧Sub V0 pv∧F40_j1 x1 x16 hp  K) ?_ ?_)
 ·refine Ag (F40_r6 rfl) ?_ (r2 1 2 Rn) (z2 Sn) Sn
  refine mt h (fun h=>?_) (fun h=>?_)
  ·exact ⟨_,_,(z2 Sn),Sn,h⟩
  ·exact ⟨_,_,(z2 Sn),Sn,h⟩
 ·rintro env pv hp ⟨x1,x16,he,hv,h⟩
  refine Ae ?_ (r2 1 16 Rn) he hv
  unfold F40_j1 at h
  refine Ac h rfl (fun h=>?_) (fun h=>?_)
  ·refine Ar F40_r2 ?_ Rn Sn Sn
   refine AWP.ret ?_
   exact h
  ·refine AWP.skip (Ar F40_r3 ?_ (r1 1 Rn) (z1 Sn) Sn)
   refine mC h fun u7 h8 h=>mA h fun l9 h=>mC h fun u10 h11 h=>mT h fun u12 u13 h=>mA h fun l14 h=>mI h fun i15 h=>mf h fun h=>mf h fun h=>mf h fun h=>?_
   refine Ar F40_r4 ?_ (r1 1 (rp 3 3 0 (r1 4 Rn))) (z3 Sn) (z1 Sn)
   refine mC h fun u16 h17 h=>mA h fun l18 h=>mC h fun u19 h20 h=>mT h fun u21 u22 h=>mA h fun l23 h=>mI h fun i24 h=>mf h fun h=>mf h fun h=>mf h fun h=>?_
   refine Ar (F40_r5 rfl) ?_ (r1 1 (rp 3 3 0 (r2 4 6 Rn))) (z4 Sn) (z1 Sn)
   refine mt h (fun h=>?_) (fun h=>?_)
   ·refine mt h (fun h=>?_) (fun h=>?_)
    ·refine mV h fun v25 h=>mI h fun i26 h=>?_
     refine mt h (fun h=>?_) (fun h=>?_)
     ·refine mC h fun u27 h28 h=>mA h fun l29 h=>mL h fun l31 h=>mC h fun u32 h33 h=>mB h fun q34 h=>?_
      refine mt h (fun h=>?_) (fun h=>?_)
      ·refine mC h fun u35 h36 h=>mA h fun l37 h=>mL h fun l39 h=>mC h fun u40 h41 h=>mB h fun q42 h=>?_
       refine mt h (fun h=>?_) (fun h=>?_)
       ·refine mC h fun u43 h44 h=>mS h fun a45 n46 c47 h=>?_
        refine AWP.ret ?_
        exact h
       ·refine AWP.ret ?_
        exact h
      ·refine AWP.ret ?_
       exact h
     ·refine AWP.ret ?_
      exact h
    ·refine AWP.ret ?_
     exact h
   ·refine AWP.ret ?_
    exact h
end
end Go.Proofs
set_option linter.unusedVariables false
set_option linter.unusedSimpArgs false
set_option maxRecDepth 20000
namespace Go.Proofs
open Go Go.HL
open Go.Exp (Th tlt Ord setW dropW insW)
/-- A table of sessions beside what was known at first. -/
def SeS (tb:Obj) (hp0 hp:HP) (s mx last:Nat) (L:List Ss) (w:List Th):Prop:=
  ∃ ps:Nat→HP,Parts hp ps∧ps 0=hp0.set 0 .none∧SeW tb (ps 1) s mx last L w∧∀ i,2≤i→∀ b,ps i b=.none
section
variable {tb:Obj} {hp0 hp:HP} {ps:Nat→HP} {s mx last:Nat} {L:List Ss} {w:List Th} {K:Value→HP→Prop}
theorem SeS.of (hP:Parts hp ps) (h0:ps 0=hp0.set 0 .none) (h1:SeW tb (ps 1) s mx last L w):SeS tb hp0 hp s mx last L w:=
  ⟨_,hP.cut 2,by simpa using h0,by simpa using h1,fun i hi b=>by simp only [show ¬ i<2 by omega,if_false]⟩
theorem SeS.pu {r:HP} (hP:Parts hp (pu ps 1 r)) (h0:ps 0=hp0.set 0 .none) (h1:SeW tb r s mx last L w):SeS tb hp0 hp s mx last L w:=
  SeS.of hP (by rw [pu_ne _ _ (by omega)]; exact h0) (by rw [pu_eq]; exact h1)
theorem SeS.wt (h:SeS tb hp0 hp s mx last L w):SeW tb hp s mx last L w:=by
  obtain ⟨ps,P,h0,h1,_⟩:=h
  exact h1.sub (P.sub 1)
theorem SeS.fin (h:SeS tb hp0 hp s mx last L w) (ht:TabR tb hp0):HSub hp0 hp:=by
  have hw:=h.wt
  obtain ⟨ps,P,h0,h1,_⟩:=h
  exact finish ht P h0 hw.tab
theorem X41 {n:Int} (ht:TabR tb hp) (hbad:(n<1∨n > 65536)→K (.tuple ⟨[.pointer none,.int .i64 1]⟩) hp)
    (hok:¬ (n<1∨n > 65536)→∀ s hp',SeS tb hp hp' s n.toNat 0 [] []→K (.tuple ⟨[ptr s 0,.int .i64 0]⟩) hp'):CF Tryd.prog 41 [.int .i64 n] hp K:=by
  by_cases hn:n<1∨n > 65536
  · exact W41 ht (fun _=>hbad hn) fun h=>absurd hn h
  refine CF.part (startP_ok ht) 1 (W41 (K:=fun u q=>∃ s,u=.tuple ⟨[ptr s 0,.int .i64 0]⟩∧SeW tb q s n.toNat 0 [] []) (startP_1 ht) (fun h=>absurd h hn) fun _ s q hq=>⟨s,rfl,hq⟩) ?_
  rintro u q hp' ⟨s,rfl,hq⟩ P'
  exact hok hn s hp' (SeS.pu P' startP_0 hq)
theorem X42 (h:SeS tb hp0 hp s mx last L w) {b st due:Int} {p:Q × Int} (hb:okZ b) (hp':okT p) (hlast:last<500000)
    (hno:addE mx b p due L≠0→∀ hp',SeS tb hp0 hp' s mx last L w→K (.tuple ⟨[.agg ⟨ssc ss0⟩,.int .i64 (addE mx b p due L)]⟩) hp')
    (hyes:addE mx b p due L=0→∀ hp',SeS tb hp0 hp' s mx (last+1) (L++[⟨((last+1:Nat):Int),b,p,st,due⟩]) (setW ((last+1:Nat):Int) due w)→K (.tuple ⟨[.agg ⟨ssc ⟨((last+1:Nat):Int),b,p,st,due⟩⟩,.int .i64 0]⟩) hp') :
    CF Tryd.prog 42 [ptr s 0,.int .i64 b,.agg ⟨t4 p⟩,.int .i64 st,.int .i64 due] hp K:=by
  obtain ⟨ps,P,h0,h1,_⟩:=h
  refine CF.part P 1 (W42 (K:=fun u q=>(addE mx b p due L≠0∧u=.tuple ⟨[.agg ⟨ssc ss0⟩,.int .i64 (addE mx b p due L)]⟩∧SeW tb q s mx last L w) ∨
    (addE mx b p due L=0∧u=.tuple ⟨[.agg ⟨ssc ⟨((last+1:Nat):Int),b,p,st,due⟩⟩,.int .i64 0]⟩∧SeW tb q s mx (last+1) (L++[⟨((last+1:Nat):Int),b,p,st,due⟩]) (setW ((last+1:Nat):Int) due w)))
    h1 hb hp' hlast (fun e=>.inl ⟨e,rfl,h1⟩) fun e q hq=>.inr ⟨e,rfl,hq⟩) ?_
  rintro u q hp'' (⟨e,rfl,hq⟩ | ⟨e,rfl,hq⟩) P'
  · exact hno e hp'' (SeS.pu P' h0 hq)
  · exact hyes e hp'' (SeS.pu P' h0 hq)
theorem X44 (h:SeS tb hp0 hp s mx last L w) {i:Int} (hno:findN i L=none→∀ hp',SeS tb hp0 hp' s mx last L w→K (.tuple ⟨[.agg ⟨ssc ss0⟩,.int .i64 4]⟩) hp')
    (hyes:∀ y,findN i L=some y→∀ hp',SeS tb hp0 hp' s mx last (L.filter fun z=>decide (z.id≠i)) (dropW i w)→K (.tuple ⟨[.agg ⟨ssc y⟩,.int .i64 0]⟩) hp'):CF Tryd.prog 44 [ptr s 0,.int .i64 i] hp K:=by
  obtain ⟨ps,P,h0,h1,_⟩:=h
  refine CF.part P 1 (W44 (K:=fun u q=>(findN i L=none∧u=.tuple ⟨[.agg ⟨ssc ss0⟩,.int .i64 4]⟩∧SeW tb q s mx last L w)∨(∃ y,findN i L=some y∧u=.tuple ⟨[.agg ⟨ssc y⟩,.int .i64 0]⟩∧SeW tb q s mx last (L.filter fun z=>decide (z.id≠i)) (dropW i w)))
    h1 (fun e=>.inl ⟨e,rfl,h1⟩) fun y hy q hq=>.inr ⟨y,hy,rfl,hq⟩) ?_
  rintro u q hp'' (⟨e,rfl,hq⟩ | ⟨y,hy,rfl,hq⟩) P'
  · exact hno e hp'' (SeS.pu P' h0 hq)
  · exact hyes y hy hp'' (SeS.pu P' h0 hq)
/-- Pop beside other things: j becomes the row. -/
theorem N45 {now:Int} {i j:Nat} (hP:Parts hp ps) (hij:j≠i) (hj:∀ b,ps j b=.none) (h:SeW tb (ps i) s mx last L w)
    (hK:∀ l r hp' a c w',SeW tb l s mx last (restL Ss.due now L) w'→Row r a (popsL Ss.id now L w).length c 79 9 ((popsL Ss.id now L w).flatMap ssc)→Parts hp' (pu (pu ps i l) j r)→K (.slice a (popsL Ss.id now L w).length c) hp') :
    CF Tryd.prog 45 [ptr s 0,.int .i64 now] hp K:=by
  refine CF.part hP i (W45 (K:=fun u q=>∃ qs a c w',u=.slice a (popsL Ss.id now L w).length c∧Parts q qs∧SeW tb (qs 0) s mx last (restL Ss.due now L) w'∧Row (qs 1) a (popsL Ss.id now L w).length c 79 9 ((popsL Ss.id now L w).flatMap ssc)) h
    fun qs hq' a c w' h1 h2 h3 _=>⟨qs,a,c,w',rfl,h1,h2,h3⟩) ?_
  rintro u q hp'' ⟨qs,a,c,w',rfl,h1,h2,h3⟩ hP'
  refine hK (qs 0) (qs 1) hp'' a c w' h2 h3 ?_
  have:=hP'.split (i:=i) (j:=j) hij (fun b=>by rw [pu_ne _ _ hij]; exact hj b) (l:=qs 0) (r:=qs 1) (by rw [pu_eq]; exact h1.sub 0) (by rw [pu_eq]; exact h1.sub 1) (h1.dis 0 1 (by omega))
  have e:HL.pu (HL.pu (HL.pu ps i q) i (qs 0)) j (qs 1)=HL.pu (HL.pu ps i (qs 0)) j (qs 1):=by
    funext k
    by_cases h1:k=j
    · subst h1; rw [pu_eq,pu_eq]
    · rw [pu_ne _ _ h1,pu_ne _ _ h1]
      by_cases h2:k=i
      · subst h2; rw [pu_eq,pu_eq]
      · rw [pu_ne _ _ h2,pu_ne _ _ h2,pu_ne _ _ h2]
  rw [e] at this
  exact this
theorem X45 {now:Int} (h:SeS tb hp0 hp s mx last L w)
    (hK:∀ hp' a c w',SeS tb hp0 hp' s mx last (restL Ss.due now L) w'→Row hp' a (popsL Ss.id now L w).length c 79 9 ((popsL Ss.id now L w).flatMap ssc)→K (.slice a (popsL Ss.id now L w).length c) hp') :
    CF Tryd.prog 45 [ptr s 0,.int .i64 now] hp K:=by
  obtain ⟨ps,P,h0,h1,hf⟩:=h
  refine N45 P (i:=1) (j:=2) (by omega) (hf 2 (by omega)) h1 fun l r hp' a c w' hl hr P'=>hK hp' a c w' (SeS.of P' (by rw [pu_ne _ _ (by omega),pu_ne _ _ (by omega)]; exact h0) (by rw [pu_ne _ _ (by omega),pu_eq]; exact hl)) (hr.sub (P'.at 2 (pu_eq ..)))
theorem X46 (h:SeS tb hp0 hp s mx last L w) (hsm:L.length≤65535) {b:Int}
    (hK:∀ hp' a c,SeS tb hp0 hp' s mx last L w→Row hp' a (ofE b L).length c 79 9 ((ofE b L).flatMap ssc)→K (.slice a (ofE b L).length c) hp'):CF Tryd.prog 46 [ptr s 0,.int .i64 b] hp K:=by
  obtain ⟨ps,P,h0,h1,hf⟩:=h
  exact N46 P (i:=1) (j:=2) (by omega) (hf 2 (by omega)) h1 hsm fun r hp' a c hr P'=>hK hp' a c (SeS.of P' (by rw [pu_ne _ _ (by omega)]; exact h0) (by rw [pu_ne _ _ (by omega)]; exact h1)) (hr.sub (P'.at 2 (pu_eq ..)))
/-- A peer of few. -/
def peerT (a port:Int):Q × Int:=((9,0,0,a),port)
theorem peerT_ok {a port:Int} (ha:okB a) (hz:okZ port):okT (peerT a port):=⟨⟨okBc rfl,okBc rfl,okBc rfl,ha⟩,hz⟩
theorem C43 {a port:Int} (h:K (.agg ⟨t4 (peerT a port)⟩) hp):CF Tryd.prog 43 [.int .u8 a,.int .i64 port] hp K:=by
  refine F43_ok a port hp K ?_
  unfold F43
  exact ifI rfl (ifI rfl (ifI rfl (ifI (Nat.le_refl 5) h)))
theorem t4_adrS (u:Q × Int):cellsN (t4 u) 0 4=some (v4 u.1):=rfl
set_option maxHeartbeats 1000000 in
theorem C40 (ht:TabR tb hp) (hK:∀ hp',HSub hp hp'→K (.bool true) hp'):CF Tryd.prog 40 [] hp K:=by
  refine F40_ok hp K ?_
  unfold F40
  refine X41 ht (fun h=>absurd h (by decide)) fun _ s hp1 h1=>?_
  rw [tup2V_mk,pq,intV_int,show ((0:Int) != 0)=false from rfl,ite2_false]
  show F40_j1 (some ⟨s,0,none⟩) false hp1 K
  unfold F40_j1
  rw [ite2_false]
  have o1:okT (peerT 1 80):=peerT_ok (okBc rfl) (okZc rfl)
  refine C43 ?_
  rw [aggV_agg]
  refine X42 h1 (okZc rfl) o1 (by decide) (fun e=>absurd (by kernel_rfl) e) fun _ hp2 h2=>?_
  rw [tup2V_mk,aggV_agg,intV_int,if_pos (ssc_len _),if_pos (ssc_one _),if_pos (by simp [ssc_len])]
  refine C43 ?_
  rw [aggV_agg]
  refine X42 h2 (okZc rfl) o1 (by decide) (fun _ hp3 h3=>?_) fun e=>absurd e (by decide +kernel)
  rw [tup2V_mk,aggV_agg,intV_int,if_pos (ssc_len _),if_pos (ssc_one _),if_pos (by simp [ssc_len])]
  rw [ss_spl rfl,show ((0:Int)==0)=true from rfl,ite2_true,show (addE (3:Int).toNat 1 (peerT 1 80) 9 ([]++[(⟨((0+1:Nat):Int),1,peerT 1 80,0,9⟩:Ss)])==5)=true by kernel_rfl,ite2_true,ssc_id,ldV_some,intV_int]
  show ite2 true _ _
  rw [ite2_true]
  refine C43 ?_
  rw [aggV_agg,t4_adrS,ldL_some]
  refine W47 h3.wt (by decide) ?_
  rw [boolV_bool,show knowsE 1 (peerT 1 0).1 ([]++[(⟨((0+1:Nat):Int),1,peerT 1 80,0,9⟩:Ss)])=true by kernel_rfl,ite2_true]
  refine C43 ?_
  rw [aggV_agg,t4_adrS,ldL_some]
  refine W47 h3.wt (by decide) ?_
  rw [boolV_bool,show knowsE 2 (peerT 1 0).1 ([]++[(⟨((0+1:Nat):Int),1,peerT 1 80,0,9⟩:Ss)])=false by kernel_rfl]
  show ite2 true _ _
  rw [ite2_true]
  refine X45 h3 fun hp4 a c w' h4 hr=>?_
  rw [slcV_slice,show (((popsL Ss.id 9 ([]++[(⟨((0+1:Nat):Int),1,peerT 1 80,0,9⟩:Ss)]) (setW ((0+1:Nat):Int) 9 [])).length:Nat):Int)=1 by kernel_rfl]
  exact hK hp4 (h4.fin ht)
end
end Go.Proofs
set_option linter.unusedVariables false
set_option maxRecDepth 20000
namespace Go.Proofs
open Go Go.HL
theorem dec5 {D:Nat} {cs:List Value} (h:wellS Tryd.prog D 5 cs=true):∃ n:Int,(0≤n∧n≤255)∧cs=[.int .u8 n]:=by
  cases D with
  | zero=>cases h
  | succ D=>
    unfold wellS at h
    rw [show Tryd.prog.underlying 5=some (.int .u8) by kernel_rfl] at h
    simp only at h
    split at h
    · rename_i q n
      simp only [Bool.and_eq_true,decide_eq_true_eq] at h
      obtain ⟨rfl,hw⟩:=h
      exact ⟨n,(Go.Lit.wf_int_iff _ _).1 hw,rfl⟩
    · cases h
theorem dec3 {D:Nat} {cs:List Value} (h:wellS Tryd.prog D 3 cs=true):∃ n:Int,(-9223372036854775808≤n∧n≤9223372036854775807)∧cs=[.int .i64 n]:=by
  cases D with
  | zero=>cases h
  | succ D=>
    unfold wellS at h
    rw [show Tryd.prog.underlying 3=some (.int .i64) by kernel_rfl] at h
    simp only at h
    split at h
    · rename_i q n
      simp only [Bool.and_eq_true,decide_eq_true_eq] at h
      obtain ⟨rfl,hw⟩:=h
      exact ⟨n,(Go.Lit.wf_int_iff _ _).1 hw,rfl⟩
    · cases h
end Go.Proofs
set_option linter.unusedVariables false
set_option linter.unusedSimpArgs false
set_option maxRecDepth 20000
namespace Go.Proofs
open Go Go.HL
open Go.Exp (Th tlt Ord setW dropW insW)
/-- An act. -/
structure A22 where
  what:Int
  a:Int
  b:Int
  port:Int
  n:Int
  st:Int
  due:Int
def a22 (y:A22):List Value:=[.int .u8 y.what,.int .u8 y.a,.int .i64 y.b,.int .i64 y.port,.int .i64 y.n,.int .i64 y.st,.int .i64 y.due]
theorem a22_len (y:A22):(a22 y).length=7:=rfl
theorem a22_one (y:A22):(a22 y).all one=true:=rfl
def okA22 (y:A22):Prop:=okB y.a∧okZ y.b∧okZ y.port∧okZ y.n∧okZ y.st∧okZ y.due
theorem a22_spl {zs:List Value} {y:A22} (h:zs.length=7):splice zs 0 (a22 y)=a22 y:=splice_all h.symm
theorem a22_0 (y:A22):(a22 y)[0]?=some (.int .u8 y.what):=rfl
theorem a22_1 (y:A22):(a22 y)[1]?=some (.int .u8 y.a):=rfl
theorem a22_2 (y:A22):(a22 y)[2]?=some (.int .i64 y.b):=rfl
theorem a22_3 (y:A22):(a22 y)[3]?=some (.int .i64 y.port):=rfl
theorem a22_4 (y:A22):(a22 y)[4]?=some (.int .i64 y.n):=rfl
theorem a22_5 (y:A22):(a22 y)[5]?=some (.int .i64 y.st):=rfl
theorem a22_6 (y:A22):(a22 y)[6]?=some (.int .i64 y.due):=rfl
theorem dec77:∀ (D:Nat) (cs:List Value),wellS Tryd.prog D 77 cs=true→∃ a:A22,okA22 a∧cs=a22 a:=by
  intro D cs h
  cases D with
  | zero=>cases h
  | succ D=>
    obtain ⟨hl,hf⟩:=wellS_struct (fs0:=[(5,0),(5,1),(3,2),(3,3),(3,4),(3,5),(3,6)]) (by kernel_rfl) (by simp) h
    rw [show Tryd.prog.cellsOf 77=7 by kernel_rfl] at hl
    have f0:=hf (5,0) (by simp)
    have f1:=hf (5,1) (by simp)
    have f2:=hf (3,2) (by simp)
    have f3:=hf (3,3) (by simp)
    have f4:=hf (3,4) (by simp)
    have f5:=hf (3,5) (by simp)
    have f6:=hf (3,6) (by simp)
    simp only [show Tryd.prog.cellsOf 5=1 by kernel_rfl,show Tryd.prog.cellsOf 3=1 by kernel_rfl] at f0 f1 f2 f3 f4 f5 f6
    obtain ⟨n0,h0,e0⟩:=dec5 f0
    obtain ⟨n1,h1,e1⟩:=dec5 f1
    obtain ⟨n2,h2,e2⟩:=dec3 f2
    obtain ⟨n3,h3,e3⟩:=dec3 f3
    obtain ⟨n4,h4,e4⟩:=dec3 f4
    obtain ⟨n5,h5,e5⟩:=dec3 f5
    obtain ⟨n6,h6,e6⟩:=dec3 f6
    match cs,hl with
    | [c0,c1,c2,c3,c4,c5,c6],_=>
      simp only [List.drop_zero,List.drop_succ_cons,List.take_succ_cons,List.take_zero,List.cons.injEq,and_true] at e0 e1 e2 e3 e4 e5 e6
      subst e0; subst e1; subst e2; subst e3; subst e4; subst e5; subst e6
      exact ⟨⟨n0,n1,n2,n3,n4,n5,n6⟩,⟨h1,h2,h3,h4,h5,h6⟩,rfl⟩
/-- The binding of an act. -/
def bndA (b:Int):Int:=if Int.tmod b 4<0 then 0-Int.tmod b 4 else Int.tmod b 4
theorem bndA_rng (b:Int):0≤bndA b∧bndA b<4:=by
  unfold bndA
  have h1:=Int.tmod_lt_of_pos b (show (0:Int)<4 by decide)
  have h2:-4<Int.tmod b 4:=by
    have:=Int.lt_tmod_of_pos b (show (0:Int)<4 by decide)
    omega
  split <;> omega
theorem bndA_ok (b:Int):okZ (bndA b):=by
  have:=bndA_rng b
  unfold okZ; omega
theorem tmod_w (b:Int):IntKind.wrap .i64 (0-Int.tmod b 4)=0-Int.tmod b 4:=by
  have h1:=Int.tmod_lt_of_pos b (show (0:Int)<4 by decide)
  have h2:-4<Int.tmod b 4:=by
    have:=Int.lt_tmod_of_pos b (show (0:Int)<4 by decide)
    omega
  exact w64 (by omega) (by omega)
section
variable {tb:Obj} {hp0 hp:HP} {s mx last:Nat} {L:List Ss} {w:List Th} {K:Value→HP→Prop}
theorem row_ss {hp:HP} {a:Option Addr} {c:Nat} {L:List Ss} {i:Nat} (h:Row hp a L.length c 79 9 (L.flatMap ssc)) (hi:i<L.length) :
    ∃ b o,a=some ⟨b,o,none⟩∧hp.cellN b (o+i*9) 9=some (ssc L[i])∧∀ j v,(ssc L[i])[j]?=some v→hp.cell b (o+i*9+j)=some v:=by
  obtain ⟨b,o,e,hc⟩:=h.shows.get ssc_len rfl hi
  exact ⟨b,o,e,hc,fun t v hv=>HP.cell_cellN hc hv⟩
end
end Go.Proofs
set_option linter.unusedVariables false
set_option linter.unusedSimpArgs false
namespace Go.Proofs
open Go Go.HL
section
variable {l:List Q} {low high:Int} {mx last n:Nat} {L:List Bd}
end
end Go.Proofs
namespace Go.Proofs
open Go Go.HL
abbrev zb36:List Value:=[(Value.int .i64 0),(Value.int .i64 0),(Value.int .u8 0),(Value.int .u8 0),(Value.int .u8 0),(Value.int .u8 0),(Value.int .u8 0),(Value.int .u8 0),(Value.int .u8 0),(Value.int .u8 0),(Value.int .u8 0),(Value.int .u8 0),(Value.int .u8 0),(Value.int .u8 0),(Value.int .u8 0),(Value.int .u8 0),(Value.int .u8 0),(Value.int .u8 0),(Value.int .i64 0),(Value.int .u8 0),(Value.int .u8 0),(Value.int .u8 0),(Value.int .u8 0),(Value.int .i64 0),(Value.bool false),(Value.int .i64 0)]
@[simp] theorem zb36_len:zb36.length=26:=rfl
end Go.Proofs
set_option linter.unusedVariables false
set_option linter.unusedSimpArgs false
set_option maxRecDepth 20000
namespace Go.Proofs
open Go Go.HL
open Go.Exp (Th tlt Ord setW dropW insW)
section
variable {tb:Obj} {hp:HP} {K:Value→HP→Prop}
end
end Go.Proofs
set_option linter.unusedVariables false
set_option linter.unusedSimpArgs false
set_option maxRecDepth 20000
namespace Go.Proofs
open Go Go.HL
open Go.Exp (Th tlt Ord setW dropW insW)
section
variable {hq hp:HP} {r:Nat} {mx:Int} {last:Nat} {L:List Sy} {K:Value→HP→Prop}
end
end Go.Proofs
set_option linter.unusedVariables false
set_option linter.unusedSimpArgs false
set_option maxRecDepth 20000
namespace Go.Proofs
open Go Go.HL
section
variable {tb:Obj} {hp:HP} {K:Value→HP→Prop}
end
end Go.Proofs
set_option linter.unusedVariables false
set_option linter.unusedSimpArgs false
set_option maxRecDepth 20000
namespace Go.Proofs
open Go Go.HL
/-- An act. -/
structure A21 where
  what:Int
  a:Int
  b:Int
  proto:Int
  x:Int
  t:Int
  n:Int
def a21 (y:A21):List Value:=[.int .u8 y.what,.int .u8 y.a,.int .u8 y.b,.int .i64 y.proto,.int .i64 y.x,.int .i64 y.t,.int .i64 y.n]
section
variable {tb:Obj} {hp0 hp:HP} {t:Nat} {l:List Q} {low high:Int} {mx last n:Nat} {L:List Bd} {K:Value→HP→Prop}
end
end Go.Proofs
set_option linter.unusedVariables false
set_option linter.unusedSimpArgs false
set_option maxRecDepth 20000
namespace Go.Proofs
open Go Go.HL
theorem cellsN_part {cs ys:List Value} {o n j k:Nat} (h:cellsN cs o n=some ys) (hjk:j+k≤n):cellsN cs (o+j) k=cellsN ys j k:=by
  unfold cellsN at h
  split at h
  · rename_i hl
    have:=Option.some.inj h
    subst this
    unfold cellsN
    rw [if_pos (by omega),if_pos (by simp; omega),List.drop_take,List.drop_drop,List.take_take,Nat.min_eq_left (by omega)]
  · cases h
theorem cellN_part {hp:HP} {b o n j k:Nat} {ys:List Value} (h:hp.cellN b o n=some ys) (hjk:j+k≤n):hp.cellN b (o+j) k=cellsN ys j k:=by
  unfold HP.cellN at h ⊢
  split at h
  · exact cellsN_part h hjk
  · exact cellsN_part h hjk
  · cases h
section
variable {tb:Obj} {hp0 hp:HP} {t:Nat} {l:List Q} {low high:Int} {mx last n:Nat} {L:List Bd} {K:Value→HP→Prop}
end
end Go.Proofs
set_option linter.unusedVariables false
set_option maxRecDepth 20000
namespace Go.Proofs
open Go Go.HL
section
variable {e E:Env} {x0:Int} {x1a:OA} {x1n x1c:Nat} {x5:OA} {x6 x7 x9 x10 x11:Int} {x12a:OA} {x12n x12c:Nat} {x13:Bool} {x14 x52:Int} {k8:List Value} {hp:HP} {K:Env→PV→HP→Prop}
abbrev R8 (p n:Nat):=RW Tryd.prog 132 [8,44,51,57,59,62,64,71,77,112,120] (opsAt Tryd.f8 (pth p)) (List.range n)
theorem F8_r0:R8 2 1 e V0 hp K=
 K (upd e 4 (sB false)) V0 hp:= by kernel_rfl
theorem F8_r1:R8 37 2 e V0 hp K=
 CF Tryd.prog 40 [] hp fun u1 h2=>(boolV u1 fun q3=>K (w2 e 26 (sB q3) 4 (sB q3)) V0 h2):= by kernel_rfl
theorem F8_r2:R8 11 7 (upd e 0 (sI x0)) V0 hp K=
 CF Tryd.prog 41 [(.int .i64 x0)] hp fun u1 h2=>(tup2V u1 fun u3 u4=>ptrV u3 fun p5=>intV u4 .i64 fun i6=>K (w8 e 0 (sI x0) 28 (sI x0) 29 (sV (.tuple ⟨[(.pointer p5),(.int .i64 i6)]⟩)) 27 (sV (.tuple ⟨[(.pointer p5),(.int .i64 i6)]⟩)) 30 (sP p5) 31 (sI i6) 5 (sP p5) 6 (sI i6)) V0 h2):= by kernel_rfl
theorem F8_r3:R8 39 2 (upd e 6 (sI x6)) V0 hp K=
 K (w3 e 6 (sI x6) 32 (sI x6) 33 (sB ((x6 != 0)))) V0 hp:= by kernel_rfl
theorem F8_r4:R8 151 1 e V0 hp K=
 K (upd e 4 (sB false)) V0 hp:= by kernel_rfl
theorem F8_r5:R8 95 2 e V0 hp K=
 CF Tryd.prog 40 [] hp fun u1 h2=>(boolV u1 fun q3=>K (w2 e 131 (sB q3) 4 (sB q3)) V0 h2):= by kernel_rfl
def F8_j2 (hp:HP) (K:Kh):Prop:=
  (CF Tryd.prog 40 [] hp fun u10 h11=>boolV u10 fun q12=>K (.bool q12) h11)
theorem F8_r6:R8 1071 4 (w2 e 7 (sI x7) 1 (sS x1a x1n x1c)) V0 hp K=
 K (w6 e 7 (sI x7) 1 (sS x1a x1n x1c) 34 (sI x7) 35 (sS x1a x1n x1c) 36 (sI ((x1n:Nat))) 37 (sB ((decide (x7<x1n))))) V0 hp:= by kernel_rfl
theorem F8_r7:R8 1839 3 (upd e 7 (sI x7)) V0 hp K=
 K (w4 e 7 (sI x7) 38 (sI x7) 39 (sI ((wr (x7+1)))) 7 (sI ((wr (x7+1))))) V0 hp:= by kernel_rfl
def F8_j5 (x1a:OA) (x1n x1c:Nat) (x5:OA) (x7:Int) (hp:HP) (I4:(Int)→HP→Prop) (K:Kh):Prop:=
  (I4 (IntKind.wrap .i64 (x7+1)) hp)
theorem F8_r8:R8 4399 6 (w2 e 7 (sI x7) 1 (sS x1a x1n x1c)) V0 hp K=
    ((0≤x7)∧(x7<x1n)∧(ptrN x1a fun b1 o2=>ldL (HP.cellN hp b1 (o2+Int.toNat x7*7) 7) fun l3=>if List.length l3=7 then (if List.all l3 one=true then (if 0+List.length l3≤List.length [(Value.int .u8 0),.int .u8 0,.int .i64 0,.int .i64 0,.int .i64 0,.int .i64 0,.int .i64 0] then (K (w7 e 7 (sI x7) 1 (sS x1a x1n x1c) 40 (sS x1a x1n x1c) 41 (sI x7) 42 (sQ b1 (o2+Int.toNat x7*7)) 43 (sA l3) 8 (sR 8 0)) (w2 V0 8 (77,[.int .u8 0,.int .u8 0,.int .i64 0,.int .i64 0,.int .i64 0,.int .i64 0,.int .i64 0]) 8 (77,(splice [.int .u8 0,.int .u8 0,.int .i64 0,.int .i64 0,.int .i64 0,.int .i64 0,.int .i64 0] 0 l3))) hp) else False) else False) else False)):=by kernel_rfl
theorem F8_r9:R8 10543 4 (upd e 8 (sR 8 0)) (upd V0 8 (77,k8)) hp K=
    (ldV (k8)[2]? fun v1=>intV v1 .i64 fun i2=>((4:Int)≠0)∧(K (w5 e 8 (sR 8 0) 44 (sR 8 2) 45 (sI i2) 46 (sI ((Int.tmod i2 4))) 9 (sI ((Int.tmod i2 4)))) (upd V0 8 (77,k8)) hp)):=by kernel_rfl
theorem F8_r10:R8 96559 1 e (upd V0 8 (77,k8)) hp K=
 K (upd e 10 (sI 0)) (upd V0 8 (77,k8)) hp:= by kernel_rfl
theorem F8_r11:R8 391471 4 (w2 e 10 (sI x10) 5 (sP x5)) V0 hp K=
 CF Tryd.prog 48 [(.pointer x5)] hp fun u1 h2=>(intV u1 .i64 fun i3=>K (w6 e 10 (sI x10) 5 (sP x5) 127 (sI x10) 128 (sP x5) 129 (sI i3) 130 (sB ((x10 != i3)))) V0 h2):= by kernel_rfl
theorem F8_r12:R8 1308975 1 e V0 hp K=
 K (upd e 4 (sB false)) V0 hp:= by kernel_rfl
def F8_j8 (x1a:OA) (x1n x1c:Nat) (x5:OA) (x7 x10:Int) (hp:HP) (I4:(Int)→HP→Prop) (K:Kh):Prop:=
  (CF Tryd.prog 48 [(.pointer x5)] hp fun u18 h19=>intV u18 .i64 fun i20=>ite2 (x10 != i20) (K (.bool false) h19) (F8_j5 x1a x1n x1c x5 x7 h19 I4 K))
theorem F8_r13:R8 4389167 2 (upd e 11 (sI x11)) (upd V0 8 (77,k8)) hp K=
 K (w3 e 11 (sI x11) 80 (sI x11) 81 (sB (decide (x11<4)))) (upd V0 8 (77,k8)) hp:= by kernel_rfl
theorem F8_r14:R8 7534895 3 (upd e 11 (sI x11)) (upd V0 8 (77,k8)) hp K=
 K (w4 e 11 (sI x11) 82 (sI x11) 83 (sI ((wr (x11+1)))) 11 (sI ((wr (x11+1))))) (upd V0 8 (77,k8)) hp:= by kernel_rfl
def F8_j11 (x1a:OA) (x1n x1c:Nat) (x5:OA) (x7 x10 x11:Int) (k8:List Value) (hp:HP) (I4:(Int)→HP→Prop) (I10:(Int × Int)→HP→Prop) (K:Kh):Prop:=
  (I10 (x10,(IntKind.wrap .i64 (x11+1))) hp)
theorem F8_r15:R8 18020655 4 (w2 e 11 (sI x11) 5 (sP x5)) (upd V0 8 (77,k8)) hp K=
 CF Tryd.prog 46 [(.pointer x5),(.int .i64 x11)] hp fun u1 h2=>(slcV u1 fun a3 n4 c5=>K (w6 e 11 (sI x11) 5 (sP x5) 84 (sP x5) 85 (sI x11) 86 (sS a3 n4 c5) 12 (sS a3 n4 c5)) (upd V0 8 (77,k8)) h2):= by kernel_rfl
theorem F8_r16 (h:E=upd (upd e 12 (sS x12a x12n x12c)) 10 (sI x10)):R8 43186479 5 E (upd V0 8 (77,k8)) hp K=
 K (w5 E 87 (sI x10) 88 (sS x12a x12n x12c) 89 (sI ((x12n:Nat))) 90 (sI ((wr (x10+(x12n:Nat))))) 10 (sI ((wr (x10+(x12n:Nat)))))) (upd V0 8 (77,k8)) hp:= by subst h; kernel_rfl
theorem F8_r17:R8 93518127 1 e (upd V0 8 (77,k8)) hp K=
 K (upd e 13 (sB false)) (upd V0 8 (77,k8)) hp:= by kernel_rfl
theorem F8_r18 (h:E=upd (w3 e 13 (sB x13) 11 (sI x11) 8 (sR 8 0)) 5 (sP x5)):R8 395508015 9 E (upd V0 8 (77,k8)) hp K=
 ldV (k8)[1]? fun v1=>(intV v1 .u8 fun i2=>CF Tryd.prog 43 [(.int .u8 i2),.int .i64 0] hp fun u3 h4=>aggV u3 fun l5=>ldL (cellsN l5 0 4) fun l7=>CF Tryd.prog 47 [(.pointer x5),(.int .i64 x11),(.agg ⟨l7⟩)] h4 fun u8 h9=>boolV u8 fun q10=>K (upd (w8 E 118 (sP x5) 119 (sI x11) 120 (sR 8 1) 121 (sV (.int .u8 i2)) 122 (sA l5) 123 (sA l7) 124 (sB q10) 125 (sB x13)) 126 (sB ((!(q10==x13))))) (upd V0 8 (77,k8)) h9):= by subst h; kernel_rfl
theorem F8_r19:R8 1335032111 1 e V0 hp K=
 K (upd e 4 (sB false)) V0 hp:= by kernel_rfl
def F8_j12 (x1a:OA) (x1n x1c:Nat) (x5:OA) (x7 x10 x11:Int) (x13:Bool) (k8:List Value) (hp:HP) (I4:(Int)→HP→Prop) (I10:(Int × Int)→HP→Prop) (K:Kh):Prop:=
  (ldV (k8)[1]? fun v26=>intV v26 .u8 fun i27=>CF Tryd.prog 43 [(.int .u8 i27),.int .i64 0] hp fun u28 h29=>aggV u28 fun l30=>ldL (cellsN l30 0 4) fun l32=>CF Tryd.prog 47 [(.pointer x5),(.int .i64 x11),(.agg ⟨l32⟩)] h29 fun u33 h34=>boolV u33 fun q35=>ite2 (!(q35==x13)) (K (.bool false) h34) (F8_j11 x1a x1n x1c x5 x7 x10 x11 k8 h34 I4 I10 K))
theorem F8_r20 (h:E=upd (upd e 14 (sI x14)) 12 (sS x12a x12n x12c)):R8 4489148719 4 E (upd V0 8 (77,k8)) hp K=
 K (w4 E 91 (sI x14) 92 (sS x12a x12n x12c) 93 (sI ((x12n:Nat))) 94 (sB ((decide (x14<x12n))))) (upd V0 8 (77,k8)) hp:= by subst h; kernel_rfl
theorem F8_r21:R8 7710374191 3 (upd e 14 (sI x14)) (upd V0 8 (77,k8)) hp K=
 K (w4 e 14 (sI x14) 95 (sI x14) 96 (sI ((wr (x14+1)))) 14 (sI ((wr (x14+1))))) (upd V0 8 (77,k8)) hp:= by kernel_rfl
def F8_j15 (x1a:OA) (x1n x1c:Nat) (x5:OA) (x7 x10 x11:Int) (x12a:OA) (x12n x12c:Nat) (x13:Bool) (x14:Int) (k8:List Value) (hp:HP) (I4:(Int)→HP→Prop) (I10:(Int × Int)→HP→Prop) (I14:(Bool × Int)→HP→Prop) (K:Kh):Prop:=
  (I14 (x13,(IntKind.wrap .i64 (x14+1))) hp)
theorem F8_r22 (h:E=upd (w2 e 14 (sI x14) 12 (sS x12a x12n x12c)) 11 (sI x11)):R8 35627661615 7 E (upd V0 8 (77,k8)) hp K=
    ((0≤x14)∧(x14<x12n)∧(ptrN x12a fun b1 o2=>ldV (HP.cell hp b1 ((o2+Int.toNat x14*9)+1)) fun v3=>intV v3 .i64 fun i4=>K (w7 E 97 (sS x12a x12n x12c) 98 (sI x14) 99 (sQ b1 (o2+Int.toNat x14*9)) 100 (sQ b1 ((o2+Int.toNat x14*9)+1)) 101 (sI i4) 102 (sI x11) 103 (sB ((i4 != x11)))) (upd V0 8 (77,k8)) hp)):=by subst h; kernel_rfl
theorem F8_r23:R8 155886745903 1 e V0 hp K=
 K (upd e 4 (sB false)) V0 hp:= by kernel_rfl
theorem F8_r24 {e:Env} {x12a:OA} {x12n:Nat} {x12c:Nat} {x13:Bool} {x14:Int} {k8:List Value} {hp:HP} {K:Env→PV→HP→Prop}:RW Tryd.prog 132 [8,44,51,57,59,62,64,71,77,112,120] (opsAt Tryd.f8 (pth 27037727023)) [0,1,2,3,4,5,6,7,8,9,10,11,12,13,14] (w4 e 14 (sI x14) 13 (sB x13) 12 (sS x12a x12n x12c) 8 (sR 8 0)) (upd V0 8 (77,k8)) hp K=
    (ite2 x13 (K (w3 (w8 (w8 e 14 (sI x14) 13 (sB x13) 12 (sS x12a x12n x12c) 8 (sR 8 0) 104 (sB x13) 105 (sB true) 106 sU 107 sU) 108 sU 109 sU 110 sU 111 sU 112 sU 113 sU 114 sU 115 sU) 116 sU 117 (sB true) 13 (sB true)) (upd V0 8 (77,k8)) hp) ((0≤x14)∧(x14<x12n)∧(ptrN x12a fun b1 o2=>ldL (HP.cellN hp b1 (((o2+Int.toNat x14*9)+2)+0) 4) fun l3=>ldV (k8)[1]? fun v4=>intV v4 .u8 fun i5=>CF Tryd.prog 43 [(.int .u8 i5),.int .i64 0] hp fun u6 h7=>aggV u6 fun l8=>ldL (cellsN l8 0 4) fun l10=>eqAgg Tryd.prog 27 l3 l10 fun q11=>K (w3 (w8 (w8 e 14 (sI x14) 13 (sB x13) 12 (sS x12a x12n x12c) 8 (sR 8 0) 104 (sB x13) 105 (sB false) 106 (sS x12a x12n x12c) 107 (sI x14)) 108 (sQ b1 (o2+Int.toNat x14*9)) 109 (sQ b1 ((o2+Int.toNat x14*9)+2)) 110 (sV (ptr b1 (((o2+Int.toNat x14*9)+2)+0))) 111 (sA l3) 112 (sR 8 1) 113 (sV (.int .u8 i5)) 114 (sA l8) 115 (sA l10)) 116 (sB q11) 117 (sB q11) 13 (sB q11)) (upd V0 8 (77,k8)) h7))):=by kernel_rfl
theorem F8_r25 {e:Env} {x12a:OA} {x12n:Nat} {x12c:Nat} {x13:Bool} {x14:Int} {k8:List Value} {hp:HP} {K:Env→PV→HP→Prop}:RW Tryd.prog 132 [8,44,51,57,59,62,64,71,77,112,120] (opsAt Tryd.f8 (pth 27037727023)) [0,1,2,3,4,5,6,8,9,10,7,11,12,13,14] (w4 e 14 (sI x14) 13 (sB x13) 12 (sS x12a x12n x12c) 8 (sR 8 0)) (upd V0 8 (77,k8)) hp K=
    (ite2 x13 (K (w3 (w8 (w8 e 14 (sI x14) 13 (sB x13) 12 (sS x12a x12n x12c) 8 (sR 8 0) 104 (sB x13) 105 (sB true) 106 sU 107 sU) 108 sU 109 sU 110 sU 112 sU 113 sU 114 sU 111 sU 115 sU) 116 sU 117 (sB true) 13 (sB true)) (upd V0 8 (77,k8)) hp) ((0≤x14)∧(x14<x12n)∧(ptrN x12a fun b1 o2=>ldV (k8)[1]? fun v3=>intV v3 .u8 fun i4=>CF Tryd.prog 43 [(.int .u8 i4),.int .i64 0] hp fun u5 h6=>aggV u5 fun l7=>ldL (HP.cellN h6 b1 (((o2+Int.toNat x14*9)+2)+0) 4) fun l8=>ldL (cellsN l7 0 4) fun l10=>eqAgg Tryd.prog 27 l8 l10 fun q11=>K (w3 (w8 (w8 e 14 (sI x14) 13 (sB x13) 12 (sS x12a x12n x12c) 8 (sR 8 0) 104 (sB x13) 105 (sB false) 106 (sS x12a x12n x12c) 107 (sI x14)) 108 (sQ b1 (o2+Int.toNat x14*9)) 109 (sQ b1 ((o2+Int.toNat x14*9)+2)) 110 (sV (ptr b1 (((o2+Int.toNat x14*9)+2)+0))) 112 (sR 8 1) 113 (sV (.int .u8 i4)) 114 (sA l7) 111 (sA l8) 115 (sA l10)) 116 (sB q11) 117 (sB q11) 13 (sB q11)) (upd V0 8 (77,k8)) h6))):=by kernel_rfl
def F8_l14 (x1a:OA) (x1n x1c:Nat) (x5:OA) (x7 x10 x11:Int) (x12a:OA) (x12n x12c:Nat) (k8:List Value) (I4:(Int)→HP→Prop) (I10:(Int × Int)→HP→Prop) (K:Kh) (I14:(Bool × Int)→HP→Prop) (x13:Bool) (x14:Int) (hp:HP):Prop:=
  (ite2 (decide (x14<x12n)) ((0≤x14)∧(x14<x12n)∧(ptrN x12a fun b36 o37=>ldV (HP.cell hp b36 ((o37+Int.toNat x14*9)+1)) fun v38=>intV v38 .i64 fun i39=>ite2 (i39 != x11) (K (.bool false) hp) ((ite2 x13 (F8_j15 x1a x1n x1c x5 x7 x10 x11 x12a x12n x12c true x14 k8 hp I4 I10 I14 K) ((0≤x14)∧(x14<x12n)∧(ptrN x12a fun b40 o41=>ldL (HP.cellN hp b40 (((o41+Int.toNat x14*9)+2)+0) 4) fun l42=>ldV (k8)[1]? fun v43=>intV v43 .u8 fun i44=>CF Tryd.prog 43 [(.int .u8 i44),.int .i64 0] hp fun u45 h46=>aggV u45 fun l47=>ldL (cellsN l47 0 4) fun l49=>eqAgg Tryd.prog 27 l42 l49 fun q50=>F8_j15 x1a x1n x1c x5 x7 x10 x11 x12a x12n x12c q50 x14 k8 h46 I4 I10 I14 K)))∧(ite2 x13 (F8_j15 x1a x1n x1c x5 x7 x10 x11 x12a x12n x12c true x14 k8 hp I4 I10 I14 K) ((0≤x14)∧(x14<x12n)∧(ptrN x12a fun b51 o52=>ldV (k8)[1]? fun v53=>intV v53 .u8 fun i54=>CF Tryd.prog 43 [(.int .u8 i54),.int .i64 0] hp fun u55 h56=>aggV u55 fun l57=>ldL (HP.cellN h56 b51 (((o52+Int.toNat x14*9)+2)+0) 4) fun l58=>ldL (cellsN l57 0 4) fun l60=>eqAgg Tryd.prog 27 l58 l60 fun q61=>F8_j15 x1a x1n x1c x5 x7 x10 x11 x12a x12n x12c q61 x14 k8 h56 I4 I10 I14 K)))))) (F8_j12 x1a x1n x1c x5 x7 x10 x11 x13 k8 hp I4 I10 K))
def F8_j13 (x1a:OA) (x1n x1c:Nat) (x5:OA) (x7 x10 x11:Int) (x12a:OA) (x12n x12c:Nat) (x13:Bool) (x14:Int) (k8:List Value) (hp:HP) (I4:(Int)→HP→Prop) (I10:(Int × Int)→HP→Prop) (K:Kh):Prop:=
  (LoopP (σ:=Bool × Int) (fun I s hp=>F8_l14 x1a x1n x1c x5 x7 x10 x11 x12a x12n x12c k8 I4 I10 K I s.1 s.2 hp) (x13,x14) hp)
theorem F8_r26:R8 328399151 1 e (upd V0 8 (77,k8)) hp K=
 K (upd e 14 (sI 0)) (upd V0 8 (77,k8)) hp:= by kernel_rfl
def F8_l10 (x1a:OA) (x1n x1c:Nat) (x5:OA) (x7:Int) (k8:List Value) (I4:(Int)→HP→Prop) (K:Kh) (I10:(Int × Int)→HP→Prop) (x10 x11:Int) (hp:HP):Prop:=
  (ite2 (decide (x11<4)) (CF Tryd.prog 46 [(.pointer x5),(.int .i64 x11)] hp fun u21 h22=>slcV u21 fun a23 n24 c25=>F8_j13 x1a x1n x1c x5 x7 (IntKind.wrap .i64 (x10+(n24:Nat))) x11 a23 n24 c25 false 0 k8 h22 I4 I10 K) (F8_j8 x1a x1n x1c x5 x7 x10 hp I4 K))
def F8_j9 (x1a:OA) (x1n x1c:Nat) (x5:OA) (x7 x10 x11:Int) (k8:List Value) (hp:HP) (I4:(Int)→HP→Prop) (K:Kh):Prop:=
  (LoopP (σ:=Int × Int) (fun I s hp=>F8_l10 x1a x1n x1c x5 x7 k8 I4 K I s.1 s.2 hp) (x10,x11) hp)
theorem F8_r27:R8 325935 1 e (upd V0 8 (77,k8)) hp K=
 K (upd e 11 (sI 0)) (upd V0 8 (77,k8)) hp:= by kernel_rfl
def F8_j7 (x1a:OA) (x1n x1c:Nat) (x5:OA) (x7:Int) (k8:List Value) (hp:HP) (I4:(Int)→HP→Prop) (K:Kh):Prop:=
  (F8_j9 x1a x1n x1c x5 x7 0 0 k8 hp I4 K)
theorem F8_r28:R8 80175 2 (upd e 8 (sR 8 0)) (upd V0 8 (77,k8)) hp K=
 ldV (k8)[0]? fun v1=>(intV v1 .u8 fun i2=>K (w3 e 8 (sR 8 0) 51 (sR 8 0) 52 (sV (.int .u8 i2))) (upd V0 8 (77,k8)) hp):= by kernel_rfl
theorem F8_r29:R8 309551 2 (upd e 52 (sV (.int .u8 x52))) (upd V0 8 (77,k8)) hp K=
 K (w3 e 52 (sV (.int .u8 x52)) 54 (sB ((x52==0))) 53 (sB ((x52==0)))) (upd V0 8 (77,k8)) hp:= by kernel_rfl
theorem F8_r30 (h:E=upd (w2 e 9 (sI x9) 8 (sR 8 0)) 5 (sP x5)):R8 702767 12 E (upd V0 8 (77,k8)) hp K=
 ldV (k8)[1]? fun v1=>(intV v1 .u8 fun i2=>ldV (k8)[3]? fun v3=>intV v3 .i64 fun i4=>CF Tryd.prog 43 [(.int .u8 i2),(.int .i64 i4)] hp fun u5 h6=>aggV u5 fun l7=>ldV (k8)[5]? fun v8=>intV v8 .i64 fun i9=>ldV (k8)[6]? fun v10=>intV v10 .i64 fun i11=>CF Tryd.prog 42 [(.pointer x5),(.int .i64 x9),(.agg ⟨l7⟩),(.int .i64 i9),(.int .i64 i11)] h6 fun u12 h13=>tup2V u12 fun u14 u15=>aggV u14 fun l16=>intV u15 .i64 fun i17=>K (w4 (w8 E 55 (sP x5) 56 (sI x9) 57 (sR 8 1) 58 (sV (.int .u8 i2)) 59 (sR 8 3) 60 (sI i4) 61 (sA l7) 62 (sR 8 5)) 63 (sI i9) 64 (sR 8 6) 65 (sI i11) 66 (sV (.tuple ⟨[(.agg ⟨l16⟩),(.int .i64 i17)]⟩))) (upd V0 8 (77,k8)) h13):= by subst h; kernel_rfl
theorem F8_r31:R8 3062063 4 (w2 e 8 (sR 8 0) 5 (sP x5)) (upd V0 8 (77,k8)) hp K=
 ldV (k8)[4]? fun v1=>(intV v1 .i64 fun i2=>CF Tryd.prog 44 [(.pointer x5),(.int .i64 i2)] hp fun u3 h4=>tup2V u3 fun u5 u6=>aggV u5 fun l7=>intV u6 .i64 fun i8=>K (w6 e 8 (sR 8 0) 5 (sP x5) 70 (sP x5) 71 (sR 8 4) 72 (sI i2) 73 (sV (.tuple ⟨[(.agg ⟨l7⟩),(.int .i64 i8)]⟩))) (upd V0 8 (77,k8)) h4):= by kernel_rfl
theorem F8_r32:R8 6207791 2 (upd e 52 (sV (.int .u8 x52))) (upd V0 8 (77,k8)) hp K=
 K (w3 e 52 (sV (.int .u8 x52)) 75 (sB ((x52==3))) 74 (sB ((x52==3)))) (upd V0 8 (77,k8)) hp:= by kernel_rfl
theorem F8_r33:R8 12499247 4 (w2 e 8 (sR 8 0) 5 (sP x5)) (upd V0 8 (77,k8)) hp K=
 ldV (k8)[6]? fun v1=>(intV v1 .i64 fun i2=>CF Tryd.prog 45 [(.pointer x5),(.int .i64 i2)] hp fun u3 h4=>slcV u3 fun a5 n6 c7=>K (w6 e 8 (sR 8 0) 5 (sP x5) 76 (sP x5) 77 (sR 8 6) 78 (sI i2) 79 (sS a5 n6 c7)) (upd V0 8 (77,k8)) h4):= by kernel_rfl
def F8_j16 (x1a:OA) (x1n x1c:Nat) (x5:OA) (x7 x52:Int) (x67:Bool) (k8:List Value) (hp:HP) (I4:(Int)→HP→Prop) (K:Kh):Prop:=
  (ite2 x67 (ldV (k8)[4]? fun v81=>intV v81 .i64 fun i82=>CF Tryd.prog 44 [(.pointer x5),(.int .i64 i82)] hp fun u83 h84=>tup2V u83 fun u85 u86=>aggV u85 fun l87=>intV u86 .i64 fun i88=>F8_j7 x1a x1n x1c x5 x7 k8 h84 I4 K) (ite2 (x52==3) (ldV (k8)[6]? fun v89=>intV v89 .i64 fun i90=>CF Tryd.prog 45 [(.pointer x5),(.int .i64 i90)] hp fun u91 h92=>slcV u91 fun a93 n94 c95=>F8_j7 x1a x1n x1c x5 x7 k8 h92 I4 K) (F8_j7 x1a x1n x1c x5 x7 k8 hp I4 K)))
theorem F8_r34:R8 2537775 2 (upd e 52 (sV (.int .u8 x52))) (upd V0 8 (77,k8)) hp K=
 K (w3 e 52 (sV (.int .u8 x52)) 68 (sB ((x52==2))) 67 (sB ((x52==2)))) (upd V0 8 (77,k8)) hp:= by kernel_rfl
theorem F8_r35:R8 7780655 2 (upd e 52 (sV (.int .u8 x52))) (upd V0 8 (77,k8)) hp K=
 K (w3 e 52 (sV (.int .u8 x52)) 69 (sB ((x52==5))) 67 (sB ((x52==5)))) (upd V0 8 (77,k8)) hp:= by kernel_rfl
def F8_j6 (x1a:OA) (x1n x1c:Nat) (x5:OA) (x7 x9:Int) (k8:List Value) (hp:HP) (I4:(Int)→HP→Prop) (K:Kh):Prop:=
  (ldV (k8)[0]? fun v62=>intV v62 .u8 fun i63=>ite2 (i63==0) (ldV (k8)[1]? fun v64=>intV v64 .u8 fun i65=>ldV (k8)[3]? fun v66=>intV v66 .i64 fun i67=>CF Tryd.prog 43 [(.int .u8 i65),(.int .i64 i67)] hp fun u68 h69=>aggV u68 fun l70=>ldV (k8)[5]? fun v71=>intV v71 .i64 fun i72=>ldV (k8)[6]? fun v73=>intV v73 .i64 fun i74=>CF Tryd.prog 42 [(.pointer x5),(.int .i64 x9),(.agg ⟨l70⟩),(.int .i64 i72),(.int .i64 i74)] h69 fun u75 h76=>tup2V u75 fun u77 u78=>aggV u77 fun l79=>intV u78 .i64 fun i80=>F8_j7 x1a x1n x1c x5 x7 k8 h76 I4 K) (ite2 (i63==2) (F8_j16 x1a x1n x1c x5 x7 i63 (i63==2) k8 hp I4 K) (F8_j16 x1a x1n x1c x5 x7 i63 (i63==5) k8 hp I4 K)))
theorem F8_r36:R8 39215 2 (upd e 9 (sI x9)) (upd V0 8 (77,k8)) hp K=
 K (w3 e 9 (sI x9) 47 (sI x9) 48 (sB (decide (x9<0)))) (upd V0 8 (77,k8)) hp:= by kernel_rfl
theorem F8_r37:R8 88367 3 (upd e 9 (sI x9)) (upd V0 8 (77,k8)) hp K=
 K (w4 e 9 (sI x9) 49 (sI x9) 50 (sI ((wr (0-x9)))) 9 (sI ((wr (0-x9))))) (upd V0 8 (77,k8)) hp:= by kernel_rfl
def F8_l4 (x1a:OA) (x1n x1c:Nat) (x5:OA) (K:Kh) (I4:(Int)→HP→Prop) (x7:Int) (hp:HP):Prop:=
  (ite2 (decide (x7<x1n)) ((0≤x7)∧(x7<x1n)∧(ptrN x1a fun b13 o14=>ldL (HP.cellN hp b13 (o14+Int.toNat x7*7) 7) fun l15=>if List.length l15=7 then (if List.all l15 one=true then (if 0+List.length l15≤List.length [(Value.int .u8 0),.int .u8 0,.int .i64 0,.int .i64 0,.int .i64 0,.int .i64 0,.int .i64 0] then (ldV ((splice [.int .u8 0,.int .u8 0,.int .i64 0,.int .i64 0,.int .i64 0,.int .i64 0,.int .i64 0] 0 l15))[2]? fun v16=>intV v16 .i64 fun i17=>((4:Int)≠0)∧(ite2 (decide (((Int.tmod i17 4):Int)<0)) (F8_j6 x1a x1n x1c x5 x7 (IntKind.wrap .i64 (0-(Int.tmod i17 4))) (splice [.int .u8 0,.int .u8 0,.int .i64 0,.int .i64 0,.int .i64 0,.int .i64 0,.int .i64 0] 0 l15) hp I4 K) (F8_j6 x1a x1n x1c x5 x7 (Int.tmod i17 4) (splice [.int .u8 0,.int .u8 0,.int .i64 0,.int .i64 0,.int .i64 0,.int .i64 0,.int .i64 0] 0 l15) hp I4 K))) else False) else False) else False)) (F8_j2  hp  K))
def F8_j3 (x1a:OA) (x1n x1c:Nat) (x5:OA) (x7:Int) (hp:HP) (K:Kh):Prop:=
  (LoopP (σ:=Int) (fun I s hp=>F8_l4 x1a x1n x1c x5  K I s hp) x7 hp)
theorem F8_r38:R8 79 1 e V0 hp K=
 K (upd e 7 (sI 0)) V0 hp:= by kernel_rfl
def F8_j1 (x0:Int) (x1a:OA) (x1n x1c:Nat) (x25:Bool) (hp:HP) (K:Kh):Prop:=
  (ite2 x25 (CF Tryd.prog 40 [] hp fun u1 h2=>boolV u1 fun q3=>K (.bool q3) h2) (CF Tryd.prog 41 [(.int .i64 x0)] hp fun u4 h5=>tup2V u4 fun u6 u7=>ptrV u6 fun p8=>intV u7 .i64 fun i9=>ite2 (i9 != 0) (K (.bool false) h5) (F8_j3 x1a x1n x1c p8 0 h5  K)))
theorem F8_r39 (h:E=upd (upd e 1 (sS x1a x1n x1c)) 0 (sI x0)):R8 9 11 E V0 hp K=
 ite2 (decide (x0<1)) (K (w3 (w8 E 15 (sI x0) 16 (sB (decide (x0<1))) 17 (sB true) 18 sU 19 sU 20 (sB true) 21 (sB true) 22 sU) 23 sU 24 sU 25 (sB true)) V0 hp) (ite2 (decide (x0 > 100)) (K (w3 (w8 E 15 (sI x0) 16 (sB (decide (x0<1))) 17 (sB false) 18 (sI x0) 19 (sB (decide (x0 > 100))) 20 (sB (decide (x0 > 100))) 21 (sB true) 22 sU) 23 sU 24 sU 25 (sB true)) V0 hp) (K (w3 (w8 E 15 (sI x0) 16 (sB (decide (x0<1))) 17 (sB false) 18 (sI x0) 19 (sB (decide (x0 > 100))) 20 (sB (decide (x0 > 100))) 21 (sB false) 22 (sS x1a x1n x1c)) 23 (sI ((x1n:Nat))) 24 (sB ((decide (((x1n:Nat):Int) > 150)))) 25 (sB ((decide (((x1n:Nat):Int) > 150))))) V0 hp)):= by subst h; kernel_rfl
def F8 (x0:Int) (x1a:OA) (x1n x1c:Nat) (hp:HP) (K:Kh):Prop:=
  (ite2 (decide (x0<1)) (F8_j1 x0 x1a x1n x1c true hp  K) (ite2 (decide (x0 > 100)) (F8_j1 x0 x1a x1n x1c true hp  K) (F8_j1 x0 x1a x1n x1c (decide (((x1n:Nat):Int) > 150)) hp  K)))
noncomputable abbrev o8 (k n:Nat):Code:=.region k (opsAt Tryd.f8 (pth n)) false
noncomputable def F8_code:Code:=(.seq (o8 0 2) (.seq (.seq (o8 1 9) (.cond (.tmp 25) (.seq (o8 2 37) .ret) .skip)) (.seq (o8 3 11) (.seq (.seq (o8 4 39) (.cond (.tmp 33) (.seq (o8 5 151) .ret) .skip)) (.seq (.seq (o8 6 79) (.block 0 (.loop (.seq (.seq (o8 7 1071) (.cond (.tmp 37) .skip (.exit 0))) (.seq (.block 1 (.seq (o8 9 4399) (.seq (o8 10 10543) (.seq (.seq (o8 11 39215) (.cond (.tmp 48) (o8 12 88367) .skip)) (.seq (.seq (o8 13 80175) (.block 2 (.seq (o8 14 309551) (.cond (.tmp 53) (.region 15 (opsAt Tryd.f8 (pth 702767)) true) (.seq (.seq (o8 16 2537775) (.cond (.tmp 67) .skip (o8 17 7780655))) (.cond (.tmp 67) (o8 18 3062063) (.seq (o8 19 6207791) (.cond (.tmp 74) (o8 20 12499247) .skip)))))))) (.seq (o8 21 96559) (.seq (.seq (o8 22 325935) (.block 3 (.loop (.seq (.seq (o8 23 4389167) (.cond (.tmp 81) .skip (.exit 3))) (.seq (.block 4 (.seq (o8 25 18020655) (.seq (o8 26 43186479) (.seq (o8 27 93518127) (.seq (.seq (o8 28 328399151) (.block 5 (.loop (.seq (.seq (o8 29 4489148719) (.cond (.tmp 94) .skip (.exit 5))) (.seq (.block 6 (.seq (.seq (o8 31 35627661615) (.cond (.tmp 103) (.seq (o8 32 155886745903) .ret) .skip)) (.region 33 (opsAt Tryd.f8 (pth 27037727023)) true))) (o8 30 7710374191)))))) (.seq (o8 34 395508015) (.cond (.tmp 126) (.seq (o8 35 1335032111) .ret) .skip))))))) (o8 24 7534895)))))) (.seq (o8 36 391471) (.cond (.tmp 130) (.seq (o8 37 1308975) .ret) .skip))))))))) (o8 8 1839)))))) (.seq (o8 38 95) .ret))))))
theorem F8_body:Tryd.f8.body=some F8_code:=by kernel_rfl
theorem F8_ok (x0:Int) (x1a:OA) (x1n x1c:Nat) (hp:HP) (K:Kh) (h:F8 x0 x1a x1n x1c hp K):CF Tryd.prog 8 [(.int .i64 x0),(.slice x1a x1n x1c)] hp K:=by
 refine .inl ⟨by kernel_rfl,AC.intro (N:=132) Tryd.func8 F8_body rfl (Nat.le_of_ble_eq_true rfl) ?_⟩
 unfold F8 at h
 refine Ar F8_r0 ?_ (r2 0 1 Rn) (z2 Sn) Sn
 refine Aq (As (fun env pv hp=>∃ x0 x1a x1n x1c x25,Sub (w3 E0 25 (sB x25) 1 (sS x1a x1n x1c) 0 (sI x0)) env∧Sub V0 pv∧F8_j1 x0 x1a x1n x1c x25 hp  K) ?_ ?_)
 ·refine Ag (F8_r39 rfl) ?_ (r2 0 1 Rn) (z2 Sn) Sn
  refine mt h (fun h=>?_) (fun h=>?_)
  ·exact ⟨_,_,_,_,_,(z3 Sn),Sn,h⟩
  ·refine mt h (fun h=>?_) (fun h=>?_)
   ·exact ⟨_,_,_,_,_,(z3 Sn),Sn,h⟩
   ·exact ⟨_,_,_,_,_,(z3 Sn),Sn,h⟩
 ·rintro env pv hp ⟨x0,x1a,x1n,x1c,x25,he,hv,h⟩
  refine Ae ?_ (r3 0 1 25 Rn) he hv
  unfold F8_j1 at h
  refine Ac h rfl (fun h=>?_) (fun h=>?_)
  ·refine Ar F8_r1 ?_ Rn Sn Sn
   refine mC h fun u1 h2 h=>mB h fun q3 h=>?_
   refine AWP.ret ?_
   exact h
  ·refine AWP.skip (Ar F8_r2 ?_ (r2 0 1 Rn) (z2 Sn) Sn)
   refine mC h fun u4 h5 h=>mT h fun u6 u7 h=>mP h fun p8 h=>mI h fun i9 h=>?_
   refine Aq (Ar F8_r3 ?_ (r3 6 1 5 Rn) (z3 Sn) Sn)
   refine Ac h rfl (fun h=>?_) (fun h=>?_)
   ·refine Ar F8_r4 ?_ Rn Sn Sn
    refine AWP.ret ?_
    exact h
   ·refine AWP.skip (As (fun env pv hp=>Sub E0 env∧Sub V0 pv∧F8_j2  hp  K) ?_ ?_)
    ·refine As (fun env pv hp=>∃ x1a x1n x1c x5 x7,Sub (w3 E0 7 (sI x7) 5 (sP x5) 1 (sS x1a x1n x1c)) env∧Sub V0 pv∧F8_j3 x1a x1n x1c x5 x7 hp  K) ?_ ?_
     ·refine Ag F8_r38 ?_ (r2 1 5 Rn) (z2 Sn) Sn
      exact ⟨_,_,_,_,_,(z3 Sn),Sn,h⟩
     ·rintro env pv hp ⟨x1a,x1n,x1c,x5,x7,he,hv,h⟩
      refine Ae ?_ (r3 1 5 7 Rn) he hv
      unfold F8_j3 at h
      refine AWP.block (AWP.loop (σ:=Int) _ (fun s=>w3 E0 7 (sI s) 5 (sP x5) 1 (sS x1a x1n x1c)) (fun s=>V0) x7 h (fun s=>r3 1 5 7 Rn) (z3 Sn) Sn ?_)
      intro I4 x7 hp h
      replace h:F8_l4 x1a x1n x1c x5  K I4 x7 hp:=h
      unfold F8_l4 at h
      refine Aq (Ar F8_r6 ?_ (r3 1 7 5 Rn) (z3 Sn) Sn)
      refine Ac h rfl (fun h=>?_) (fun h=>?_)
      ·refine AWP.skip (As (fun env pv hp=>∃ x7,Sub (w3 E0 7 (sI x7) 5 (sP x5) 1 (sS x1a x1n x1c)) env∧Sub V0 pv∧F8_j5 x1a x1n x1c x5 x7 hp I4 K) ?_ ?_)
       ·refine AWP.block (Ar F8_r8 ?_ (r3 1 7 5 Rn) (z3 Sn) Sn)
        refine ⟨h.1,h.2.1,mN h.2.2 fun b13 o14 h=>mL h fun l15 h=>mf h fun h=>mf h fun h=>mf h fun h=>?_⟩
        refine Ar F8_r9 ?_ (rp 8 8 0 (r3 1 5 7 Rn)) (z4 Sn) (z1 Sn)
        refine mV h (fun v16 h=>mI h (fun i17 h=>⟨h.1,?_⟩))
        replace h:=h.2
        refine As (fun env pv hp=>∃ x7 x9 k8,Sub (w5 E0 9 (sI x9) 8 (sR 8 0) 7 (sI x7) 5 (sP x5) 1 (sS x1a x1n x1c)) env∧Sub (upd V0 8 (77,k8)) pv∧(F8_j6 x1a x1n x1c x5 x7 x9 k8 hp I4 K)) ?_ ?_
        ·refine Ar F8_r36 ?_ (r4 9 1 5 7 (rp 8 8 0 Rn)) (z5 Sn) (z1 Sn)
         refine Ac h rfl (fun h=>?_) (fun h=>?_)
         ·refine Ag F8_r37 ?_ (r4 9 1 5 7 (rp 8 8 0 Rn)) (z5 Sn) (z1 Sn)
          exact ⟨_,_,_,(z5 Sn),(z1 Sn),h⟩
         ·refine AWP.skip ?_
          exact ⟨_,_,_,(z5 Sn),(z1 Sn),h⟩
        ·rintro env pv hp ⟨x7,x9,k8,he,hv,h⟩
         refine Ae ?_ (r3 1 5 7 (rp 8 8 0 (r1 9 Rn))) he hv
         unfold F8_j6 at h
         refine As (fun env pv hp=>∃ x7 k8,Sub (w4 E0 8 (sR 8 0) 7 (sI x7) 5 (sP x5) 1 (sS x1a x1n x1c)) env∧Sub (upd V0 8 (77,k8)) pv∧(F8_j7 x1a x1n x1c x5 x7 k8 hp I4 K)) ?_ ?_
         ·refine Ar F8_r28 ?_ (rp 8 8 0 (r4 1 5 7 9 Rn)) (z5 Sn) (z1 Sn)
          refine mV h fun v62 h=>mI h fun i63 h=>?_
          refine AWP.block (Ar F8_r29 ?_ (r4 52 1 5 7 (rp 8 8 0 (r1 9 Rn))) (z6 Sn) (z1 Sn))
          refine Ac h rfl (fun h=>?_) (fun h=>?_)
          ·refine AWP.rgnE (by kernel_rfl) (by kernel_rfl) (F8_r30 rfl) ?_ (r1 5 (rp 8 8 0 (r3 9 1 7 Rn))) (z5 Sn) (z1 Sn)
           refine mV h fun v64 h=>mI h fun i65 h=>mV h fun v66 h=>mI h fun i67 h=>mC h fun u68 h69 h=>mA h fun l70 h=>mV h fun v71 h=>mI h fun i72 h=>mV h fun v73 h=>mI h fun i74 h=>mC h fun u75 h76 h=>mT h fun u77 u78 h=>mA h fun l79 h=>mI h fun i80 h=>?_
           exact ⟨_,_,(z4 Sn),(z1 Sn),h⟩
          ·refine As (fun env pv hp=>∃ x7 x52 x67 k8,Sub (w6 E0 67 (sB x67) 52 (sV (.int .u8 x52)) 8 (sR 8 0) 7 (sI x7) 5 (sP x5) 1 (sS x1a x1n x1c)) env∧Sub (upd V0 8 (77,k8)) pv∧(F8_j16 x1a x1n x1c x5 x7 x52 x67 k8 hp I4 K)) ?_ ?_
           ·refine Ar F8_r34 ?_ (r4 52 1 5 7 (rp 8 8 0 Rn)) (z5 Sn) (z1 Sn)
            refine Ac h rfl (fun h=>?_) (fun h=>?_)
            ·refine AWP.skip ?_
             exact ⟨_,_,_,_,(z6 Sn),(z1 Sn),h⟩
            ·refine Ag F8_r35 ?_ (r4 52 1 5 7 (rp 8 8 0 Rn)) (z5 Sn) (z1 Sn)
             exact ⟨_,_,_,_,(z6 Sn),(z1 Sn),h⟩
           ·rintro env pv hp ⟨x7,x52,x67,k8,he,hv,h⟩
            refine Ae ?_ (r3 1 5 7 (rp 8 8 0 (r2 52 67 Rn))) he hv
            unfold F8_j16 at h
            refine Ac h rfl (fun h=>?_) (fun h=>?_)
            ·refine Ag F8_r31 ?_ (r1 5 (rp 8 8 0 (r2 1 7 Rn))) (z4 Sn) (z1 Sn)
             refine mV h fun v81 h=>mI h fun i82 h=>mC h fun u83 h84 h=>mT h fun u85 u86 h=>mA h fun l87 h=>mI h fun i88 h=>?_
             exact ⟨_,_,(z4 Sn),(z1 Sn),h⟩
            ·refine Ar F8_r32 ?_ (r4 52 1 5 7 (rp 8 8 0 Rn)) (z5 Sn) (z1 Sn)
             refine Ac h rfl (fun h=>?_) (fun h=>?_)
             ·refine Ag F8_r33 ?_ (r1 5 (rp 8 8 0 (r2 1 7 Rn))) (z4 Sn) (z1 Sn)
              refine mV h fun v89 h=>mI h fun i90 h=>mC h fun u91 h92 h=>mS h fun a93 n94 c95 h=>?_
              exact ⟨_,_,(z4 Sn),(z1 Sn),h⟩
             ·refine AWP.skip ?_
              exact ⟨_,_,(z4 Sn),(z1 Sn),h⟩
         ·rintro env pv hp ⟨x7,k8,he,hv,h⟩
          refine Ae ?_ (r3 1 5 7 (rp 8 8 0 Rn)) he hv
          unfold F8_j7 at h
          refine Ar F8_r10 ?_ (r3 1 5 7 (rp 8 8 0 Rn)) (z4 Sn) (z1 Sn)
          refine As (fun env pv hp=>∃ x7 x10,Sub (w4 E0 10 (sI x10) 7 (sI x7) 5 (sP x5) 1 (sS x1a x1n x1c)) env∧Sub V0 pv∧F8_j8 x1a x1n x1c x5 x7 x10 hp I4 K) ?_ ?_
          ·refine As (fun env pv hp=>∃ x7 x10 x11 k8,Sub (w6 E0 11 (sI x11) 10 (sI x10) 8 (sR 8 0) 7 (sI x7) 5 (sP x5) 1 (sS x1a x1n x1c)) env∧Sub (upd V0 8 (77,k8)) pv∧(F8_j9 x1a x1n x1c x5 x7 x10 x11 k8 hp I4 K)) ?_ ?_
           ·refine Ag F8_r27 ?_ (r3 1 5 7 (rp 8 8 0 (r1 10 Rn))) (z5 Sn) (z1 Sn)
            exact ⟨_,_,_,_,(z6 Sn),(z1 Sn),h⟩
           ·rintro env pv hp ⟨x7,x10,x11,k8,he,hv,h⟩
            refine Ae ?_ (r3 1 5 7 (rp 8 8 0 (r2 10 11 Rn))) he hv
            unfold F8_j9 at h
            refine AWP.block (AWP.loop (σ:=Int × Int) _ (fun s=>w6 E0 11 (sI (s.2)) 10 (sI (s.1)) 8 (sR 8 0) 7 (sI x7) 5 (sP x5) 1 (sS x1a x1n x1c)) (fun s=>upd V0 8 (77,k8)) (x10,x11) h (fun s=>r3 1 5 7 (rp 8 8 0 (r2 10 11 Rn))) (z6 Sn) (z1 Sn) ?_)
            intro I10 s hp h
            obtain ⟨x10,x11⟩:=s
            replace h:F8_l10 x1a x1n x1c x5 x7 k8 I4 K I10 x10 x11 hp:=h
            unfold F8_l10 at h
            refine Aq (Ar F8_r13 ?_ (r4 11 1 5 7 (rp 8 8 0 (r1 10 Rn))) (z6 Sn) (z1 Sn))
            refine Ac h rfl (fun h=>?_) (fun h=>?_)
            ·refine AWP.skip (As (fun env pv hp=>∃ x10 x11,Sub (w6 E0 11 (sI x11) 10 (sI x10) 8 (sR 8 0) 7 (sI x7) 5 (sP x5) 1 (sS x1a x1n x1c)) env∧Sub (upd V0 8 (77,k8)) pv∧(F8_j11 x1a x1n x1c x5 x7 x10 x11 k8 hp I4 I10 K)) ?_ ?_)
             ·refine AWP.block (Ar F8_r15 ?_ (r4 5 11 1 7 (rp 8 8 0 (r1 10 Rn))) (z6 Sn) (z1 Sn))
              refine mC h fun u21 h22 h=>mS h fun a23 n24 c25 h=>?_
              refine Ar (F8_r16 rfl) ?_ (r5 10 12 1 5 7 (rp 8 8 0 (r1 11 Rn))) (z7 Sn) (z1 Sn)
              refine Ar F8_r17 ?_ (r3 1 5 7 (rp 8 8 0 (r3 10 11 12 Rn))) (z7 Sn) (z1 Sn)
              refine As (fun env pv hp=>∃ x10 x11 x13,Sub (w7 E0 13 (sB x13) 11 (sI x11) 10 (sI x10) 8 (sR 8 0) 7 (sI x7) 5 (sP x5) 1 (sS x1a x1n x1c)) env∧Sub (upd V0 8 (77,k8)) pv∧(F8_j12 x1a x1n x1c x5 x7 x10 x11 x13 k8 hp I4 I10 K)) ?_ ?_
              ·refine As (fun env pv hp=>∃ x10 x11 x12a x12n x12c x13 x14,Sub (upd (w8 E0 14 (sI x14) 13 (sB x13) 12 (sS x12a x12n x12c) 11 (sI x11) 10 (sI x10) 8 (sR 8 0) 7 (sI x7) 5 (sP x5)) 1 (sS x1a x1n x1c)) env∧Sub (upd V0 8 (77,k8)) pv∧(F8_j13 x1a x1n x1c x5 x7 x10 x11 x12a x12n x12c x13 x14 k8 hp I4 I10 K)) ?_ ?_
               ·refine Ag F8_r26 ?_ (r3 1 5 7 (rp 8 8 0 (r4 10 11 12 13 Rn))) (z8 Sn) (z1 Sn)
                exact ⟨_,_,_,_,_,_,_,(z1 (z8 Sn)),(z1 Sn),h⟩
               ·rintro env pv hp ⟨x10,x11,x12a,x12n,x12c,x13,x14,he,hv,h⟩
                refine Ae ?_ (r3 1 5 7 (rp 8 8 0 (r5 10 11 12 13 14 Rn))) he hv
                unfold F8_j13 at h
                refine AWP.block (AWP.loop (σ:=Bool × Int) _ (fun s=>upd (w8 E0 14 (sI (s.2)) 13 (sB (s.1)) 12 (sS x12a x12n x12c) 11 (sI x11) 10 (sI x10) 8 (sR 8 0) 7 (sI x7) 5 (sP x5)) 1 (sS x1a x1n x1c)) (fun s=>upd V0 8 (77,k8)) (x13,x14) h (fun s=>r3 1 5 7 (rp 8 8 0 (r5 10 11 12 13 14 Rn))) (z1 (z8 Sn)) (z1 Sn) ?_)
                intro I14 s hp h
                obtain ⟨x13,x14⟩:=s
                replace h:F8_l14 x1a x1n x1c x5 x7 x10 x11 x12a x12n x12c k8 I4 I10 K I14 x13 x14 hp:=h
                unfold F8_l14 at h
                refine Aq (Ar (F8_r20 rfl) ?_ (r5 12 14 1 5 7 (rp 8 8 0 (r3 10 11 13 Rn))) (z1 (z8 Sn)) (z1 Sn))
                refine Ac h rfl (fun h=>?_) (fun h=>?_)
                ·refine AWP.skip (As (fun env pv hp=>∃ x13 x14,Sub (upd (w8 E0 14 (sI x14) 13 (sB x13) 12 (sS x12a x12n x12c) 11 (sI x11) 10 (sI x10) 8 (sR 8 0) 7 (sI x7) 5 (sP x5)) 1 (sS x1a x1n x1c)) env∧Sub (upd V0 8 (77,k8)) pv∧(F8_j15 x1a x1n x1c x5 x7 x10 x11 x12a x12n x12c x13 x14 k8 hp I4 I10 I14 K)) ?_ ?_)
                 ·refine AWP.block (Aq (Ar (F8_r22 rfl) ?_ (r6 11 12 14 1 5 7 (rp 8 8 0 (r2 10 13 Rn))) (z1 (z8 Sn)) (z1 Sn)))
                  refine ⟨h.1,h.2.1,mN h.2.2 fun b36 o37 h=>mV h fun v38 h=>mI h fun i39 h=>?_⟩
                  refine Ac h rfl (fun h=>?_) (fun h=>?_)
                  ·refine Ar F8_r23 ?_ Rn Sn Sn
                   refine AWP.ret ?_
                   exact h
                  ·refine AWP.skip (AWP.rgnC (cf:=[(7,10)]) (c:=[([true],true,[0,1,2,3,4,5,6,7,8,9,10,11,12,13,14]),([false],true,[0,1,2,3,4,5,6,8,9,10,7,11,12,13,14])]) (by kernel_rfl) (by kernel_rfl) (by kernel_rfl) (by kernel_rfl) (allO_t (Eq.mpr F8_r24 ?_) (allO_t (Eq.mpr F8_r25 ?_) trivial)) (rp 8 8 0 (r8 12 13 14 1 5 7 10 11 Rn)) (z1 (z8 Sn)) (z1 Sn))
                   ·replace h:=h.1
                    refine mt h (fun h=>?_) (fun h=>?_)
                    ·exact ⟨_,_,(z1 (z8 Sn)),(z1 Sn),h⟩
                    ·refine ⟨h.1,h.2.1,mN h.2.2 fun b40 o41 h=>mL h fun l42 h=>mV h fun v43 h=>mI h fun i44 h=>mC h fun u45 h46 h=>mA h fun l47 h=>mL h fun l49 h=>mE h fun q50 h=>?_⟩
                     exact ⟨_,_,(z1 (z8 Sn)),(z1 Sn),h⟩
                   ·replace h:=h.2
                    refine mt h (fun h=>?_) (fun h=>?_)
                    ·exact ⟨_,_,(z1 (z8 Sn)),(z1 Sn),h⟩
                    ·refine ⟨h.1,h.2.1,mN h.2.2 fun b51 o52 h=>mV h fun v53 h=>mI h fun i54 h=>mC h fun u55 h56 h=>mA h fun l57 h=>mL h fun l58 h=>mL h fun l60 h=>mE h fun q61 h=>?_⟩
                     exact ⟨_,_,(z1 (z8 Sn)),(z1 Sn),h⟩
                 ·rintro env pv hp ⟨x13,x14,he,hv,h⟩
                  refine Ae ?_ (r3 1 5 7 (rp 8 8 0 (r5 10 11 12 13 14 Rn))) he hv
                  unfold F8_j15 at h
                  refine Ag F8_r21 ?_ (r4 14 1 5 7 (rp 8 8 0 (r4 10 11 12 13 Rn))) (z1 (z8 Sn)) (z1 Sn)
                  exact ⟨_,(z1 (z8 Sn)),(z1 Sn),h⟩
                ·refine AWP.exit ?_
                 exact ⟨_,_,_,(z7 Sn),(z1 Sn),h⟩
              ·rintro env pv hp ⟨x10,x11,x13,he,hv,h⟩
               refine Ae ?_ (r3 1 5 7 (rp 8 8 0 (r3 10 11 13 Rn))) he hv
               unfold F8_j12 at h
               refine Ar (F8_r18 rfl) ?_ (r1 5 (rp 8 8 0 (r5 11 13 1 7 10 Rn))) (z7 Sn) (z1 Sn)
               refine mV h fun v26 h=>mI h fun i27 h=>mC h fun u28 h29 h=>mA h fun l30 h=>mL h fun l32 h=>mC h fun u33 h34 h=>mB h fun q35 h=>?_
               refine Ac h rfl (fun h=>?_) (fun h=>?_)
               ·refine Ar F8_r19 ?_ Rn Sn Sn
                refine AWP.ret ?_
                exact h
               ·refine AWP.skip ?_
                exact ⟨_,_,(z6 Sn),(z1 Sn),h⟩
             ·rintro env pv hp ⟨x10,x11,he,hv,h⟩
              refine Ae ?_ (r3 1 5 7 (rp 8 8 0 (r2 10 11 Rn))) he hv
              unfold F8_j11 at h
              refine Ag F8_r14 ?_ (r4 11 1 5 7 (rp 8 8 0 (r1 10 Rn))) (z6 Sn) (z1 Sn)
              exact ⟨_,(z6 Sn),(z1 Sn),h⟩
            ·refine AWP.exit ?_
             exact ⟨_,_,(z4 Sn),Sn,h⟩
          ·rintro env pv hp ⟨x7,x10,he,hv,h⟩
           refine Ae ?_ (r4 1 5 7 10 Rn) he hv
           unfold F8_j8 at h
           refine Ar F8_r11 ?_ (r4 5 10 1 7 Rn) (z4 Sn) Sn
           refine mC h fun u18 h19 h=>mI h fun i20 h=>?_
           refine Ac h rfl (fun h=>?_) (fun h=>?_)
           ·refine Ar F8_r12 ?_ Rn Sn Sn
            refine AWP.ret ?_
            exact h
           ·refine AWP.skip ?_
            exact ⟨_,(z3 Sn),Sn,h⟩
       ·rintro env pv hp ⟨x7,he,hv,h⟩
        refine Ae ?_ (r3 1 5 7 Rn) he hv
        unfold F8_j5 at h
        refine Ag F8_r7 ?_ (r3 7 1 5 Rn) (z3 Sn) Sn
        exact ⟨_,(z3 Sn),Sn,h⟩
      ·refine AWP.exit ?_
       exact ⟨Sn,Sn,h⟩
    ·rintro env pv hp ⟨he,hv,h⟩
     refine Ae ?_ Rn he hv
     unfold F8_j2 at h
     refine Ar F8_r5 ?_ Rn Sn Sn
     refine mC h fun u10 h11 h=>mB h fun q12 h=>?_
     refine AWP.ret ?_
     exact h
end
end Go.Proofs
set_option linter.unusedVariables false
set_option linter.unusedSimpArgs false
set_option maxRecDepth 20000
namespace Go.Proofs
open Go Go.HL
open Go.Exp (Th tlt Ord setW dropW insW)
/-- How many sessions are of a binding below. -/
def below (k:Int) (L:List Ss):Nat:=(L.filter fun y=>decide (y.bnd<k)).length
theorem below_step (k:Int):∀ L:List Ss,below (k+1) L=below k L+(ofE k L).length
  | []=>rfl
  | y::L=>by
    have ih:=below_step k L
    unfold below ofE at *
    rw [List.filter_cons,List.filter_cons,List.filter_cons]
    by_cases h1:y.bnd<k
    · rw [decide_eq_true h1,decide_eq_true (by omega:y.bnd<k+1),decide_eq_false (by omega:¬ y.bnd=k)]
      simp only [if_true,Bool.false_eq_true,if_false,List.length_cons]
      omega
    · by_cases h2:y.bnd=k
      · rw [decide_eq_false h1,decide_eq_true (by omega:y.bnd<k+1),decide_eq_true h2]
        simp only [if_true,Bool.false_eq_true,if_false,List.length_cons]
        omega
      · rw [decide_eq_false h1,decide_eq_false (by omega:¬ y.bnd<k+1),decide_eq_false h2]
        simp only [Bool.false_eq_true,if_false]
        omega
theorem below_all {k:Int} {L:List Ss} (h:∀ y∈L,y.bnd<k):below k L=L.length:=by
  unfold below
  rw [List.filter_eq_self.2 fun y hy=>decide_eq_true (h y hy)]
theorem below_none {k:Int} {L:List Ss} (h:∀ y∈L,k≤y.bnd):below k L=0:=by
  unfold below
  rw [List.length_eq_zero_iff,List.filter_eq_nil_iff]
  intro y hy e
  have:=h y hy
  have:=of_decide_eq_true e
  omega
theorem below_le (k:Int) (L:List Ss):below k L≤L.length:=List.length_filter_le _ _
/-- All sessions are of the four bindings. -/
def Four (L:List Ss):Prop:=∀ y∈L,0≤y.bnd∧y.bnd<4
section
variable {tb:Obj} {hp0 hp:HP} {s mx last:Nat} {L:List Ss} {w:List Th} {K:Value→HP→Prop}
set_option maxHeartbeats 2000000 in
/-- Behind an act: the bindings' parts. -/
theorem parts7 {x1a:Option Addr} {x1n x1c:Nat} {x7:Int} {A:A22} {I4:Int→HP→Prop} (hA:okA22 A) (h:SeS tb hp0 hp s mx last L w) (h4:Four L) (hsm:L.length≤65535)
    (hI:∀ hp',SeS tb hp0 hp' s mx last L w→I4 (IntKind.wrap .i64 (x7+1)) hp'):F8_j7 x1a x1n x1c (some ⟨s,0,none⟩) x7 (a22 A) hp I4 K:=by
  obtain ⟨oa,ob,op,on,os,od⟩:=hA
  unfold F8_j7 F8_j9
  refine LoopP.by (J:=fun k (st:Int × Int) hp'=>∃ b:Nat,st=(((below (b:Int) L:Nat):Int),(b:Int))∧b+k=4∧SeS tb hp0 hp' s mx last L w) ?_ (n:=4) ⟨0,by rw [show ((0:Nat):Int)=0 from rfl,below_none fun y hy=>(h4 y hy).1]; rfl,rfl,h⟩
  clear h
  rintro I k st hp ⟨b,rfl,hbk,h⟩ hI2
  simp only
  unfold F8_l10
  by_cases hb:b<4
  rotate_left
  · rw [decide_eq_false (by omega:¬ (b:Int)<4),ite2_false]
    unfold F8_j8
    refine W48 h.wt ?_
    have:b=4:=by omega
    subst this
    rw [intV_int,show ((4:Nat):Int)=4 from rfl,below_all fun y hy=>(h4 y hy).2,show (((L.length:Nat):Int) != ((L.length:Nat):Int))=false by simp,ite2_false]
    unfold F8_j5
    exact hI hp h
  rw [decide_eq_true (by omega:(b:Int)<4),ite2_true]
  refine X46 h hsm fun hp2 a c h2 hr=>?_
  rw [slcV_slice]
  have w1:IntKind.wrap .i64 (((below (b:Int) L:Nat):Int)+(((ofE (b:Int) L).length:Nat):Int))=((below ((b+1:Nat):Int) L:Nat):Int):=by
    have e1:=below_step (b:Int) L
    have e2:=below_le ((b:Int)+1) L
    rw [w64 (by omega) (by omega),show ((b+1:Nat):Int)=(b:Int)+1 by omega,e1]
    omega
  have hlen:(ofE (b:Int) L).length≤L.length:=List.length_filter_le _ _
  have hbnd:∀ y∈ofE (b:Int) L,y.bnd=b:=fun y hy=>of_decide_eq_true (List.mem_filter.1 hy).2
  have hkn:knowsE (b:Int) (peerT A.a 0).1 L=(ofE (b:Int) L).any fun y=>decide (y.peer.1=(peerT A.a 0).1):=rfl
  unfold F8_j13
  rw [w1]
  have hnext:∀ hp',hp'=hp2→I (((below ((b+1:Nat):Int) L:Nat):Int),IntKind.wrap .i64 ((b:Int)+1)) hp':=by
    intro hp' e
    subst e
    rw [show IntKind.wrap .i64 ((b:Int)+1)=((b+1:Nat):Int) from wi (by omega) (by omega)]
    exact hI2 (k-1) _ _ (by omega) ⟨b+1,by push_cast; rfl,by omega,h2⟩
  generalize hM:ofE (b:Int) L=M at *
  refine LoopP.by (J:=fun k (st:Bool × Int) hp'=>∃ i:Nat,st=((M.take i).any (fun y=>decide (y.peer.1=(peerT A.a 0).1)),(i:Int))∧i+k=M.length∧hp'=hp2) ?_ (n:=M.length) ⟨0,rfl,by omega,rfl⟩
  rintro I3 k3 st hp' ⟨i,rfl,hik,rfl⟩ hI3
  simp only
  unfold F8_l14
  by_cases hi:i<M.length
  rotate_left
  · rw [decide_eq_false (by omega:¬ (i:Int)<(M.length:Nat)),ite2_false]
    unfold F8_j12
    rw [a22_1,ldV_some,intV_int]
    refine C43 ?_
    rw [aggV_agg,t4_adrS,ldL_some]
    refine W47 h2.wt hsm ?_
    rw [boolV_bool,hkn,List.take_of_length_le (by omega),show (!((M.any fun y=>decide (y.peer.1=(peerT A.a 0).1))==M.any fun y=>decide (y.peer.1=(peerT A.a 0).1)))=false by simp,ite2_false]
    unfold F8_j11
    exact hnext hp' rfl
  rw [decide_eq_true (by omega:(i:Int)<(M.length:Nat)),ite2_true]
  obtain ⟨bm,om,rfl,hcn,hcc⟩:=row_ss hr hi
  have rd:hp'.cellN bm (om+i*9+2+0) 4=some (v4 M[i].peer.1):=(cellN_part hcn (j:=2) (k:=4) (by omega)).trans rfl
  have rd1:hp'.cell bm (om+i*9+1)=some (.int .i64 M[i].bnd):=hcc 1 _ rfl
  have hb1:M[i].bnd=b:=hbnd _ (List.getElem_mem hi)
  have main:∀ q,q=((M.take (i+1)).any fun y=>decide (y.peer.1=(peerT A.a 0).1))→F8_j15 x1a x1n x1c (some ⟨s,0,none⟩) x7 ((below ((b+1:Nat):Int) L:Nat):Int) b (some ⟨bm,om,none⟩) M.length c q i (a22 A) hp' I4 I I3 K:=by
    intro q hq
    unfold F8_j15
    rw [show IntKind.wrap .i64 ((i:Int)+1)=((i+1:Nat):Int) from wi (by omega) (by omega)]
    exact hI3 (k3-1) _ _ (by omega) ⟨i+1,by rw [hq],by omega,rfl⟩
  refine ⟨by omega,by omega,?_⟩
  rw [ptrN_some,Int.toNat_natCast,rd1,ldV_some,intV_int,hb1,show ((b:Int) != (b:Int))=false by simp,ite2_false]
  have hany:((M.take (i+1)).any fun y=>decide (y.peer.1=(peerT A.a 0).1))=(((M.take i).any fun y=>decide (y.peer.1=(peerT A.a 0).1))||decide (M[i].peer.1=(peerT A.a 0).1)):=by
    rw [List.take_succ_eq_append_getElem hi,List.any_append]
    simp
  cases hq:(M.take i).any fun y=>decide (y.peer.1=(peerT A.a 0).1) with
  | true=>
    rw [hq,Bool.true_or] at hany
    rw [ite2_true]
    exact ⟨main _ hany.symm,main _ hany.symm⟩
  | false=>
    rw [hq,Bool.false_or] at hany
    rw [ite2_false]
    refine ⟨⟨by omega,by omega,?_⟩,by omega,by omega,?_⟩
    · rw [ptrN_some,rd,ldL_some,a22_1,ldV_some,intV_int]
      refine C43 ?_
      rw [aggV_agg,t4_adrS,ldL_some]
      exact eq73 (main _ hany.symm)
    · rw [ptrN_some,a22_1,ldV_some,intV_int]
      refine C43 ?_
      rw [aggV_agg,rd,ldL_some,t4_adrS,ldL_some]
      exact eq73 (main _ hany.symm)
theorem Four.sub {L M:List Ss} (h:Four L) (hs:M.Sublist L):Four M:=fun y hy=>h y (hs.subset hy)
set_option maxHeartbeats 2000000 in
theorem C8 {mx:Int} {x1a:Option Addr} {x1n x1c:Nat} {acts:List A22} (ht:TabR tb hp0) (hs4:Shows hp0 x1a x1n 7 (acts.flatMap a22)) (hl4:acts.length=x1n) (hok:∀ y∈acts,okA22 y)
    (hK:K (.bool true) hp0):CF Tryd.prog 8 [.int .i64 mx,.slice x1a x1n x1c] hp0 K:=by
  refine CF.drop (F8_ok mx x1a x1n x1c hp0 _ ?_)
  unfold F8
  have wk:∀ hp',HSub hp0 hp'→TabR tb hp'→CF Tryd.prog 40 [] hp' fun u h=>boolV u fun q=>∃ hp'',HSub hp'' h∧K (.bool q) hp'':=by
    intro hp' hs ht'
    refine C40 ht' fun hp2 h2=>?_
    rw [boolV_bool]
    exact ⟨hp0,hs.trans h2,hK⟩
  have bad:∀ {K':Prop},True:=trivial
  have b1:F8_j1 mx x1a x1n x1c true hp0 (fun v hp'=>∃ hp'',HSub hp'' hp'∧K v hp''):=by
    unfold F8_j1
    rw [ite2_true]
    exact wk hp0 (HSub.refl _) ht
  by_cases c1:mx<1
  · rw [decide_eq_true c1,ite2_true]; exact b1
  rw [decide_eq_false c1,ite2_false]
  by_cases c2:mx > 100
  · rw [decide_eq_true c2,ite2_true]; exact b1
  rw [decide_eq_false c2,ite2_false]
  by_cases c3:((x1n:Nat):Int) > 150
  · rw [decide_eq_true c3]; exact b1
  rw [decide_eq_false c3]
  clear b1 bad
  unfold F8_j1
  rw [ite2_false]
  refine X41 ht (fun hb=>absurd hb (by omega)) fun _ s hp1 hB=>?_
  rw [tup2V_mk,pq,intV_int,show ((0:Int) != 0)=false from rfl,ite2_false]
  unfold F8_j3
  refine LoopP.by (J:=fun k (z:Int) hp'=>∃ (i last:Nat) (L:List Ss) (w:List Th),z=i∧i+k=x1n∧SeS tb hp0 hp' s mx.toNat last L w∧last≤i∧L.length≤i∧Four L) ?_ (n:=x1n) ⟨0,0,[],[],rfl,by omega,hB,Nat.le_refl _,Nat.le_refl _,fun y hy=>by simp at hy⟩
  clear hB
  rintro I k z hp ⟨i,last,L,w,rfl,hik,hB,hni,hLi,hF⟩ hI
  unfold F8_l4
  by_cases hi:i<x1n
  rotate_left
  · rw [decide_eq_false (by omega:¬ (i:Int)<(x1n:Int)),ite2_false]
    unfold F8_j2
    exact wk hp (hB.fin ht) hB.wt.tab
  rw [decide_eq_true (by omega:(i:Int)<(x1n:Int)),ite2_true]
  obtain ⟨b,o,rfl,hc⟩:=(hs4.sub (hB.fin ht)).get a22_len hl4 hi
  have hact:=hok _ (List.getElem_mem (hl4▸hi))
  generalize acts[i]'(hl4▸hi)=A at hc hact
  have w1:IntKind.wrap .i64 ((i:Int)+1)=((i+1:Nat):Int):=wi (by omega) (by omega)
  have next:∀ hp' last' L' w',SeS tb hp0 hp' s mx.toNat last' L' w'→last'≤last+1→L'.length≤L.length+1→Four L'→F8_j7 (some ⟨b,o,none⟩) x1n x1c (some ⟨s,0,none⟩) i (a22 A) hp' I fun v hp'=>∃ hp'',HSub hp'' hp'∧K v hp'':=by
    intro hp' last' L' w' hB' g1 g2 g3
    refine parts7 hact hB' g3 (by omega) fun hp2 h2=>?_
    rw [w1]
    exact hI (k-1) _ _ (by omega) ⟨i+1,last',L',w',rfl,by omega,h2,by omega,by omega,g3⟩
  refine ⟨by omega,by omega,?_⟩
  rw [ptrN_some,Int.toNat_natCast,hc,ldL_some,if_pos (a22_len A),if_pos (a22_one A),if_pos (by simp [a22_len]),a22_spl rfl,a22_2,ldV_some,intV_int]
  refine ⟨by decide,?_⟩
  have main:F8_j6 (some ⟨b,o,none⟩) x1n x1c (some ⟨s,0,none⟩) i (bndA A.b) (a22 A) hp I fun v hp'=>∃ hp'',HSub hp'' hp'∧K v hp'':=by
    have obt:=hact
    obtain ⟨oa,ob,op,on,os,od⟩:=hact
    have j16:∀ q,F8_j16 (some ⟨b,o,none⟩) x1n x1c (some ⟨s,0,none⟩) i A.what q (a22 A) hp I fun v hp'=>∃ hp'',HSub hp'' hp'∧K v hp'':=by
      intro q
      unfold F8_j16
      cases q with
      | true=>
        rw [ite2_true,a22_4,ldV_some,intV_int]
        refine X44 hB (fun _ hp' h'=>?_) fun y _ hp' h'=>?_
        · rw [tup2V_mk,aggV_agg,intV_int]; exact next hp' _ _ _ h' (by omega) (by omega) hF
        · rw [tup2V_mk,aggV_agg,intV_int]
          have hsub:(L.filter fun z=>decide (z.id≠A.n)).Sublist L:=List.filter_sublist
          exact next hp' _ _ _ h' (by omega) (by have:=hsub.length_le; omega) (hF.sub hsub)
      | false=>
        rw [ite2_false]
        cases (A.what==3) with
        | true=>
          rw [ite2_true,a22_6,ldV_some,intV_int]
          refine X45 hB fun hp' a' c' w' h' _=>?_
          rw [slcV_slice]
          have hsub:(restL Ss.due A.due L).Sublist L:=List.filter_sublist
          exact next hp' _ _ _ h' (by omega) (by have:=hsub.length_le; omega) (hF.sub hsub)
        | false=>
          rw [ite2_false]
          exact next hp _ _ _ hB (by omega) (by omega) hF
    unfold F8_j6
    rw [a22_0,ldV_some,intV_int]
    cases (A.what==0) with
    | true=>
      rw [ite2_true,a22_1,ldV_some,intV_int,a22_3,ldV_some,intV_int]
      refine C43 ?_
      rw [aggV_agg,a22_5,ldV_some,intV_int,a22_6,ldV_some,intV_int]
      refine X42 hB (bndA_ok _) (peerT_ok oa op) (by omega) (fun _ hp' h'=>?_) fun _ hp' h'=>?_
      · rw [tup2V_mk,aggV_agg,intV_int]; exact next hp' _ _ _ h' (by omega) (by omega) hF
      · rw [tup2V_mk,aggV_agg,intV_int]
        refine next hp' _ _ _ h' (Nat.le_refl _) (by simp) fun y hy=>?_
        rcases List.mem_append.1 hy with hy | hy
        · exact hF y hy
        · rw [List.mem_singleton.1 hy]; exact bndA_rng A.b
    | false=>
      rw [ite2_false]
      cases (A.what==2) with
      | true=>rw [ite2_true]; exact j16 _
      | false=>rw [ite2_false]; exact j16 _
  by_cases hneg:Int.tmod A.b 4<0
  · rw [decide_eq_true hneg,ite2_true,tmod_w]
    rw [show bndA A.b=0-Int.tmod A.b 4 from if_pos hneg] at main
    exact main
  · rw [decide_eq_false hneg,ite2_false]
    rw [show bndA A.b=Int.tmod A.b 4 from if_neg hneg] at main
    exact main
end
end Go.Proofs
namespace Go.Proofs.YtpkhoemonibajaaDoor
open Go Go.HL Go.Proofs
def theLaid : List (String × DataW Unit) := [("math/bits.deBruijn32tab", Rows.laid_math_bits_deBruijn32tab), ("math/bits.deBruijn64tab", Rows.laid_math_bits_deBruijn64tab), ("internal/strconv.uint64pow10", Rows.laid_internal_strconv_uint64pow10)]
theorem tabOf {W:World} (h:laidMetH Tryd.prog theLaid W):∃ o,hpAll W 0=.obj o∧TabO o:=by
  have h':laidMet Tryd.prog theLaid W:=h
  obtain ⟨ps,hv,_⟩:=h'
  obtain ⟨q1,h1⟩:=laidVars_tail hv
  obtain ⟨q2,h2⟩:=laidVars_tail h1
  have ht : Lib.TabIs Tryd.prog W "internal/strconv.uint64pow10" .u64 Lib.pow10Tab :=
    tabIs_of_vars (rest:=[]) (g:=0) (t:=267) (e:=233) (n:=20) (by kernel_rfl) (by kernel_rfl) (by kernel_rfl) (by kernel_rfl) (by kernel_rfl) (by kernel_rfl) h2
  obtain ⟨o,ho,hO⟩:=tabO_of ht
  exact ⟨o,by unfold hpAll; rw [ho],hO⟩
/-- What a table's cells are. -/
def cellsLaid:DataW Unit→Array Value
  | .agg ps=>(ps.map fun d=>match d with | .lit (.int k n)=>Value.int k n | _=>.int .i64 0).toArray
  | _=>#[]
def layAt (b:Nat) (d:DataW Unit) (h:Array Obj):Array Obj:=h.modify b fun | .cells _ t fz=>.cells (cellsLaid d) t fz | o=>o
noncomputable def laidWorld (os:Os) (I:Input):World:=
  { World.holding Tryd.prog os I with heap:=layAt 0 Rows.laid_internal_strconv_uint64pow10 (layAt 1 Rows.laid_math_bits_deBruijn32tab (layAt 2 Rows.laid_math_bits_deBruijn64tab (World.holding Tryd.prog os I).heap)) }
end Go.Proofs.YtpkhoemonibajaaDoor
