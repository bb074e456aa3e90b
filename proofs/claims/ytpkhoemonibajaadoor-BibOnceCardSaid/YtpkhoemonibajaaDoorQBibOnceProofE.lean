/- Parts of the proof of BibOnceProof: the logic of what is known of memory, functions' contracts. -/
import Derived.Test.YtpkhoemonibajaaDoorQBibOnceProofD
import Derived.Test.YtpkhoemonibajaaDoorHlAbb
import Derived.Test.YtpkhoemonibajaaDoorProg
import Derived.Sort.LotD3
import Derived.Sort.LotB
import Derived.Sort.LotC
import Derived.Sort.LotA
import Derived.Sort.LotD1
import Derived.Test.YtpkhoemonibajaaDoorHlUse2
import Derived.Test.YtpkhoemonibajaaDoorHlArg
import Derived.DataShut
import Derived.Test.YtpkhoemonibajaaDoorHlDec
import Derived.Test.YtpkhoemonibajaaDoorRows
import Derived.Test.YtpkhoemonibajaaDoorHlLaid
import Derived.ProofKit
import Derived.LaidLaws
set_option linter.unusedVariables false
set_option linter.unusedSimpArgs false
set_option linter.unusedVariables false
set_option maxRecDepth 20000
namespace Go.Proofs
open Go Go.HL
section
variable {e E:Env} {x0a:OA} {x0n x0c:Nat} {x1 x2:Int} {x3:Value} {x8 x9:Int} {hp:HP} {K:Env→PV→HP→Prop}
abbrev R149 (p n:Nat):=RW Tryd.prog 53 [] (opsAt Tryd.f149 (pth p)) (List.range n)
theorem F149_r0:R149 33 3 (w2 e 8 (sI x8) 2 (sI x2)) V0 hp K=
 K (w5 e 8 (sI x8) 2 (sI x2) 12 (sI x8) 13 (sI x2) 14 (sB (decide (x8<x2)))) V0 hp:= by kernel_rfl
theorem F149_r1:R149 57 3 (upd e 8 (sI x8)) V0 hp K=
 K (w4 e 8 (sI x8) 15 (sI x8) 16 (sI ((wr (x8+1)))) 8 (sI ((wr (x8+1))))) V0 hp:= by kernel_rfl
def F149_j3 (x0a:OA) (x0n x0c:Nat) (x1 x2:Int) (x3:Value) (x8:Int) (hp:HP) (I2:(Int)→HP→Prop) (K:Kh):Prop:=
  (I2 (IntKind.wrap .i64 (x8+1)) hp)
theorem F149_r2:R149 4681 18 (w2 e 9 (sI x9) 0 (sS x0a x0n x0c)) V0 hp K=
    ((0≤((wr (x9-1)):Int))∧(((wr (x9-1)):Int)<x0n)∧(ptrN x0a fun b1 o2=>ldL (HP.cellN hp b1 (o2+Int.toNat (wr (x9-1))*26) 26) fun l3=>(0≤x9)∧(x9<x0n)∧(ptrN x0a fun b4 o5=>ldL (HP.cellN hp b4 (o5+Int.toNat x9*26) 26) fun l6=>(0≤x9)∧(x9<x0n)∧(ptrN x0a fun b7 o8=>(List.length l3=26)∧(HP.stN hp b7 (o8+Int.toNat x9*26) l3 fun h9=>(0≤((wr (x9-1)):Int))∧(((wr (x9-1)):Int)<x0n)∧(ptrN x0a fun b10 o11=>(List.length l6=26)∧(HP.stN h9 b10 (o11+Int.toNat (wr (x9-1))*26) l6 fun h12=>K (w2 (w8 (w8 e 9 (sI x9) 0 (sS x0a x0n x0c) 37 (sS x0a x0n x0c) 38 (sI x9) 39 (sS x0a x0n x0c) 40 (sI x9) 41 (sI ((wr (x9-1)))) 42 (sS x0a x0n x0c)) 43 (sI x9) 44 (sI ((wr (x9-1)))) 45 (sV (ptr b1 (o2+Int.toNat (wr (x9-1))*26))) 46 (sA l3) 47 (sS x0a x0n x0c) 48 (sI x9) 49 (sQ b4 (o5+Int.toNat x9*26)) 50 (sA l6)) 51 (sQ b7 (o8+Int.toNat x9*26)) 52 (sV (ptr b10 (o11+Int.toNat (wr (x9-1))*26)))) V0 h12))))))):=by kernel_rfl
theorem F149_r3:R149 3657 3 (upd e 9 (sI x9)) V0 hp K=
 K (w4 e 9 (sI x9) 35 (sI x9) 36 (sI ((wr (x9-1)))) 9 (sI ((wr (x9-1))))) V0 hp:= by kernel_rfl
def F149_j6 (x0a:OA) (x0n x0c:Nat) (x1 x2:Int) (x3:Value) (x8 x9:Int) (x34:Bool) (hp:HP) (I2 I5:(Int)→HP→Prop) (K:Kh):Prop:=
  (ite2 x34 ((0≤((IntKind.wrap .i64 (x9-1)):Int))∧(((IntKind.wrap .i64 (x9-1)):Int)<x0n)∧(ptrN x0a fun b1 o2=>ldL (HP.cellN hp b1 (o2+Int.toNat (IntKind.wrap .i64 (x9-1))*26) 26) fun l3=>(0≤x9)∧(x9<x0n)∧(ptrN x0a fun b4 o5=>ldL (HP.cellN hp b4 (o5+Int.toNat x9*26) 26) fun l6=>(0≤x9)∧(x9<x0n)∧(ptrN x0a fun b7 o8=>(List.length l3=26)∧(HP.stN hp b7 (o8+Int.toNat x9*26) l3 fun h9=>(0≤((IntKind.wrap .i64 (x9-1)):Int))∧(((IntKind.wrap .i64 (x9-1)):Int)<x0n)∧(ptrN x0a fun b10 o11=>(List.length l6=26)∧(HP.stN h9 b10 (o11+Int.toNat (IntKind.wrap .i64 (x9-1))*26) l6 fun h12=>I5 (IntKind.wrap .i64 (x9-1)) h12))))))) (F149_j3 x0a x0n x0c x1 x2 x3 x8 hp I2 K))
theorem F149_r4 (h:E=upd (w3 e 9 (sI x9) 3 (sV x3) 1 (sI x1)) 0 (sS x0a x0n x0c)):R149 2121 17 E V0 hp K=
    (ite2 (decide (x9 > x1)) ((0≤x9)∧(x9<x0n)∧(ptrN x0a fun b1 o2=>ldL (HP.cellN hp b1 (o2+Int.toNat x9*26) 26) fun l3=>(0≤((wr (x9-1)):Int))∧(((wr (x9-1)):Int)<x0n)∧(ptrN x0a fun b4 o5=>ldL (HP.cellN hp b4 (o5+Int.toNat (wr (x9-1))*26) 26) fun l6=>fnV x3 fun f7 ga8 gb9=>CF Tryd.prog f7 (ga8++[(Value.agg ⟨l3⟩),(.agg ⟨l6⟩)]++gb9) hp fun u10 h11=>intV u10 .i64 fun i12=>K (upd (w8 (w8 E 18 (sI x9) 19 (sI x1) 20 (sB (decide (x9 > x1))) 21 (sB true) 22 (sV x3) 23 (sS x0a x0n x0c) 24 (sI x9) 25 (sQ b1 (o2+Int.toNat x9*26))) 26 (sA l3) 27 (sS x0a x0n x0c) 28 (sI x9) 29 (sI ((wr (x9-1)))) 30 (sV (ptr b4 (o5+Int.toNat (wr (x9-1))*26))) 31 (sA l6) 32 (sI i12) 33 (sB (decide (i12<0)))) 34 (sB (decide (i12<0)))) V0 h11))) (K (upd (w8 (w8 E 18 (sI x9) 19 (sI x1) 20 (sB (decide (x9 > x1))) 21 (sB false) 22 sU 23 sU 24 sU 25 sU) 26 sU 27 sU 28 sU 29 sU 30 sU 31 sU 32 sU 33 sU) 34 (sB false)) V0 hp)):=by subst h; kernel_rfl
def F149_l5 (x0a:OA) (x0n x0c:Nat) (x1 x2:Int) (x3:Value) (x8:Int) (I2:(Int)→HP→Prop) (K:Kh) (I5:(Int)→HP→Prop) (x9:Int) (hp:HP):Prop:=
  (ite2 (decide (x9 > x1)) ((0≤x9)∧(x9<x0n)∧(ptrN x0a fun b13 o14=>ldL (HP.cellN hp b13 (o14+Int.toNat x9*26) 26) fun l15=>(0≤((IntKind.wrap .i64 (x9-1)):Int))∧(((IntKind.wrap .i64 (x9-1)):Int)<x0n)∧(ptrN x0a fun b16 o17=>ldL (HP.cellN hp b16 (o17+Int.toNat (IntKind.wrap .i64 (x9-1))*26) 26) fun l18=>fnV x3 fun f19 ga_20 gb_21=>CF Tryd.prog f19 (ga_20++[(Value.agg ⟨l15⟩),(.agg ⟨l18⟩)]++gb_21) hp fun u22 h23=>intV u22 .i64 fun i24=>F149_j6 x0a x0n x0c x1 x2 x3 x8 x9 (decide (i24<0)) h23 I2 I5 K))) (F149_j6 x0a x0n x0c x1 x2 x3 x8 x9 false hp I2 I5 K))
def F149_j4 (x0a:OA) (x0n x0c:Nat) (x1 x2:Int) (x3:Value) (x8 x9:Int) (hp:HP) (I2:(Int)→HP→Prop) (K:Kh):Prop:=
  (LoopP (σ:=Int) (fun I s hp=>F149_l5 x0a x0n x0c x1 x2 x3 x8 I2 K I s hp) x9 hp)
theorem F149_r5:R149 137 2 (upd e 8 (sI x8)) V0 hp K=
 K (w3 e 8 (sI x8) 17 (sI x8) 9 (sI x8)) V0 hp:= by kernel_rfl
def F149_l2 (x0a:OA) (x0n x0c:Nat) (x1 x2:Int) (x3:Value) (K:Kh) (I2:(Int)→HP→Prop) (x8:Int) (hp:HP):Prop:=
  (ite2 (decide (x8<x2)) (F149_j4 x0a x0n x0c x1 x2 x3 x8 x8 hp I2 K) (K (.tuple ⟨[]⟩) hp))
def F149_j1 (x0a:OA) (x0n x0c:Nat) (x1 x2:Int) (x3:Value) (x8:Int) (hp:HP) (K:Kh):Prop:=
  (LoopP (σ:=Int) (fun I s hp=>F149_l2 x0a x0n x0c x1 x2 x3  K I s hp) x8 hp)
theorem F149_r6:R149 2 3 (upd e 1 (sI x1)) V0 hp K=
 K (w4 e 1 (sI x1) 10 (sI x1) 11 (sI ((wr (x1+1)))) 8 (sI ((wr (x1+1))))) V0 hp:= by kernel_rfl
def F149 (x0a:OA) (x0n x0c:Nat) (x1 x2:Int) (x3:Value) (hp:HP) (K:Kh):Prop:=
  (F149_j1 x0a x0n x0c x1 x2 x3 (IntKind.wrap .i64 (x1+1)) hp  K)
noncomputable abbrev o149 (k n:Nat):Code:=.region k (opsAt Tryd.f149 (pth n)) false
noncomputable def F149_code:Code:=(.seq (o149 0 2) (.block 0 (.loop (.seq (.seq (o149 1 33) (.cond (.tmp 14) .skip (.exit 0))) (.seq (.block 1 (.seq (o149 3 137) (.block 2 (.loop (.seq (.seq (.region 4 (opsAt Tryd.f149 (pth 2121)) true) (.cond (.tmp 34) .skip (.exit 2))) (.seq (.block 3 (.region 6 (opsAt Tryd.f149 (pth 4681)) true)) (o149 5 3657))))))) (o149 2 57))))))
theorem F149_body:Tryd.f149.body=some F149_code:=by kernel_rfl
theorem F149_ok (x0a:OA) (x0n x0c:Nat) (x1 x2:Int) (x3:Value) (hp:HP) (K:Kh) (h:F149 x0a x0n x0c x1 x2 x3 hp K):CF Tryd.prog 149 [(.slice x0a x0n x0c),(.int .i64 x1),(.int .i64 x2),x3] hp K:=by
 refine .inl ⟨by kernel_rfl,AC.intro (N:=53) Tryd.func149 F149_body rfl (Nat.le_of_ble_eq_true rfl) ?_⟩
 unfold F149 at h
 refine As (fun env pv hp=>∃ x0a x0n x0c x1 x2 x3 x8,Sub (w5 E0 8 (sI x8) 3 (sV x3) 2 (sI x2) 1 (sI x1) 0 (sS x0a x0n x0c)) env∧Sub V0 pv∧F149_j1 x0a x0n x0c x1 x2 x3 x8 hp  K) ?_ ?_
 ·refine Ag F149_r6 ?_ (r4 1 0 2 3 Rn) (z4 Sn) Sn
  exact ⟨_,_,_,_,_,_,_,(z5 Sn),Sn,h⟩
 ·rintro env pv hp ⟨x0a,x0n,x0c,x1,x2,x3,x8,he,hv,h⟩
  refine Ae ?_ (r5 0 1 2 3 8 Rn) he hv
  unfold F149_j1 at h
  refine AWP.block (AWP.loop (σ:=Int) _ (fun s=>w5 E0 8 (sI s) 3 (sV x3) 2 (sI x2) 1 (sI x1) 0 (sS x0a x0n x0c)) (fun s=>V0) x8 h (fun s=>r5 0 1 2 3 8 Rn) (z5 Sn) Sn ?_)
  intro I2 x8 hp h
  replace h:F149_l2 x0a x0n x0c x1 x2 x3  K I2 x8 hp:=h
  unfold F149_l2 at h
  refine Aq (Ar F149_r0 ?_ (r5 2 8 0 1 3 Rn) (z5 Sn) Sn)
  refine Ac h rfl (fun h=>?_) (fun h=>?_)
  ·refine AWP.skip (As (fun env pv hp=>∃ x8,Sub (w5 E0 8 (sI x8) 3 (sV x3) 2 (sI x2) 1 (sI x1) 0 (sS x0a x0n x0c)) env∧Sub V0 pv∧F149_j3 x0a x0n x0c x1 x2 x3 x8 hp I2 K) ?_ ?_)
   ·refine AWP.block (As (fun env pv hp=>∃ x8 x9,Sub (w6 E0 9 (sI x9) 8 (sI x8) 3 (sV x3) 2 (sI x2) 1 (sI x1) 0 (sS x0a x0n x0c)) env∧Sub V0 pv∧F149_j4 x0a x0n x0c x1 x2 x3 x8 x9 hp I2 K) ?_ ?_)
    ·refine Ag F149_r5 ?_ (r5 8 0 1 2 3 Rn) (z5 Sn) Sn
     exact ⟨_,_,(z6 Sn),Sn,h⟩
    ·rintro env pv hp ⟨x8,x9,he,hv,h⟩
     refine Ae ?_ (r6 0 1 2 3 8 9 Rn) he hv
     unfold F149_j4 at h
     refine AWP.block (AWP.loop (σ:=Int) _ (fun s=>w6 E0 9 (sI s) 8 (sI x8) 3 (sV x3) 2 (sI x2) 1 (sI x1) 0 (sS x0a x0n x0c)) (fun s=>V0) x9 h (fun s=>r6 0 1 2 3 8 9 Rn) (z6 Sn) Sn ?_)
     intro I5 x9 hp h
     replace h:F149_l5 x0a x0n x0c x1 x2 x3 x8 I2 K I5 x9 hp:=h
     unfold F149_l5 at h
     refine Aq (As (fun env pv hp=>∃ x9 x34,Sub (w7 E0 34 (sB x34) 9 (sI x9) 8 (sI x8) 3 (sV x3) 2 (sI x2) 1 (sI x1) 0 (sS x0a x0n x0c)) env∧Sub V0 pv∧F149_j6 x0a x0n x0c x1 x2 x3 x8 x9 x34 hp I2 I5 K) ?_ ?_)
     ·refine AWP.rgnD (by kernel_rfl) (by kernel_rfl) (F149_r4 rfl) ?_ (r6 0 1 3 9 2 8 Rn) (z6 Sn) Sn
      refine mt h (fun h=>?_) (fun h=>?_)
      ·refine ⟨h.1,h.2.1,mN h.2.2 (fun b13 o14 h=>mL h (fun l15 h=>⟨h.1,h.2.1,mN h.2.2 fun b16 o17 h=>mL h fun l18 h=>mF h fun f19 ga_20 gb_21 h=>mC h fun u22 h23 h=>mI h fun i24 h=>?_⟩))⟩
       exact ⟨_,_,(z7 Sn),Sn,h⟩
      ·exact ⟨_,_,(z7 Sn),Sn,h⟩
     ·rintro env pv hp ⟨x9,x34,he,hv,h⟩
      refine Ae ?_ (r7 0 1 2 3 8 9 34 Rn) he hv
      unfold F149_j6 at h
      refine Ac h rfl (fun h=>?_) (fun h=>?_)
      ·refine AWP.skip (Aq (AWP.block (AWP.rgnD (by kernel_rfl) (by kernel_rfl) F149_r2 ?_ (r6 0 9 1 2 3 8 Rn) (z6 Sn) Sn)))
       refine ⟨h.1,h.2.1,mN h.2.2 (fun b1 o2 h=>mL h (fun l3 h=>⟨h.1,h.2.1,mN h.2.2 (fun b4 o5 h=>mL h (fun l6 h=>⟨h.1,h.2.1,mN h.2.2 (fun b7 o8 h=>⟨h.1,mW h.2 (fun h9 h=>⟨h.1,h.2.1,mN h.2.2 (fun b10 o11 h=>⟨h.1,mW h.2 fun h12 h=>?_⟩)⟩)⟩)⟩))⟩))⟩
       refine Ag F149_r3 ?_ (r6 9 0 1 2 3 8 Rn) (z6 Sn) Sn
       exact ⟨_,(z6 Sn),Sn,h⟩
      ·refine AWP.exit ?_
       exact ⟨_,(z5 Sn),Sn,h⟩
   ·rintro env pv hp ⟨x8,he,hv,h⟩
    refine Ae ?_ (r5 0 1 2 3 8 Rn) he hv
    unfold F149_j3 at h
    refine Ag F149_r1 ?_ (r5 8 0 1 2 3 Rn) (z5 Sn) Sn
    exact ⟨_,(z5 Sn),Sn,h⟩
  ·refine AWP.exit ?_
   exact h
end
end Go.Proofs
set_option linter.unusedVariables false
set_option maxRecDepth 20000
namespace Go.Proofs
open Go Go.HL
section
variable {f:FuncId} {ga gb:List Value} {hp0:HP} {b sp n c:Nat} {cf:Bd→Bd→Int}
theorem S149 (hc:CmpOk Tryd.prog f ga gb hp0 b 36 sp bdc n cf) {d:Array Bd} {lo hi:Nat} {K:Value→HP→Prop} (hs:d.size=n) (hlo:lo≤hi) (hhi:hi≤n) (hn:n≤1000000000)
    (h:K (.tuple ⟨[]⟩) (HA hp0 b 36 sp bdc (Sort.insertionSort (ltC cf) d lo hi))) :
    CF Tryd.prog 149 [.slice (some ⟨b,0,none⟩) n c,.int .i64 lo,.int .i64 hi,.func (.func f) ⟨ga⟩ ⟨gb⟩] (HA hp0 b 36 sp bdc d) K:=by
  refine F149_ok _ n c lo hi _ _ K ?_
  unfold F149 F149_j1
  rw [w64 (by omega) (by omega)]
  refine LoopP.by (J:=fun k (x:Int) hp=>∃ (i:Nat) (d':Array Bd),x=i∧hp=HA hp0 b 36 sp bdc d'∧d'.size=n∧lo<i∧k=hi-i∧Sort.insOuter (ltC cf) lo hi i d'=Sort.insertionSort (ltC cf) d lo hi) ?_
    (n:=hi-(lo+1)) ⟨lo+1,d,by omega,rfl,hs,by omega,rfl,rfl⟩
  rintro I k x hp ⟨i,d',rfl,rfl,hs',hli,rfl,he⟩ hI
  unfold F149_l2
  rw [Sort.insOuter] at he
  by_cases hi':i<hi
  · rw [decide_eq_true (by omega:(i:Int)<(hi:Int)),ite2_true]
    rw [if_pos hi'] at he
    unfold F149_j4
    refine LoopP.by (J:=fun k (y:Int) hp=>∃ (j:Nat) (d2:Array Bd),y=j∧hp=HA hp0 b 36 sp bdc d2∧d2.size=n∧j<n∧k=j∧Sort.insInner (ltC cf) lo j d2=Sort.insInner (ltC cf) lo i d') ?_
      (n:=i) ⟨i,d',rfl,rfl,hs',by omega,rfl,rfl⟩
    rintro I2 k2 y hp2 ⟨j,d2,rfl,rfl,hs2,hj,hk2,he2⟩ hI2
    unfold F149_l5
    have out:Sort.insInner (ltC cf) lo i d'=d2→F149_j6 (some ⟨b,0,none⟩) n c lo hi (.func (.func f) ⟨ga⟩ ⟨gb⟩) i j false (HA hp0 b 36 sp bdc d2) I I2 K:=by
      intro heq
      unfold F149_j6 F149_j3
      rw [ite2_false,w64 (by omega) (by omega)]
      exact hI (hi-(i+1)) _ _ (by omega) ⟨i+1,d2,by omega,rfl,hs2,by omega,rfl,by rw [← heq]; exact he⟩
    by_cases hjl:lo<j
    · rw [decide_eq_true (by omega:(j:Int) > (lo:Int)),ite2_true]
      obtain ⟨j',rfl⟩:∃ j',j=j'+1:=⟨j-1,by omega⟩
      have w1:IntKind.wrap .i64 (((j'+1:Nat):Int)-1)=(j':Int):=by rw [w64 (by omega) (by omega)]; omega
      have g1:=HA.get (hp0:=hp0) (b:=b) (e:=36) (sp:=sp) bdc_len (d:=d2) (i:=j'+1) (by omega)
      have g0:=HA.get (hp0:=hp0) (b:=b) (e:=36) (sp:=sp) bdc_len (d:=d2) (i:=j') (by omega)
      simp only [w1,ptrN_some,Int.toNat_natCast,g1,g0,ldL_some,fnV_mk]
      refine ⟨by omega,by omega,by omega,by omega,?_⟩
      refine hc d2 _ _ _ hs2 ?_
      rw [intV_int]
      rw [Sort.insInner] at he2
      have hgt:decide (j'+1 > lo)=true:=decide_eq_true (by omega)
      cases hlt:decide (cf d2[j'+1]! d2[j']!<0)
      · have:ltC cf d2[j'+1]! d2[j']! = false:=hlt
        rw [hgt,this] at he2
        exact out (by simpa using he2.symm)
      · have:ltC cf d2[j'+1]! d2[j']! = true:=hlt
        rw [hgt,this] at he2
        simp only [Bool.and_self,if_true] at he2
        unfold F149_j6
        simp only [ite2_true,w1,ptrN_some,Int.toNat_natCast,g0,g1,ldL_some]
        refine ⟨by omega,by omega,by omega,by omega,by omega,by omega,rfl,?_⟩
        refine HA.st bdc_len bdc_one (by omega) _ ?_
        refine ⟨by omega,by omega,rfl,?_⟩
        refine HA.st bdc_len bdc_one (by rw [Array.size_setIfInBounds]; omega) _ ?_
        exact hI2 j' _ _ (by omega) ⟨j',_,rfl,rfl,by rw [Array.size_setIfInBounds,Array.size_setIfInBounds]; exact hs2,by omega,rfl,he2⟩
    · rw [decide_eq_false (by omega:¬ (j:Int) > (lo:Int)),ite2_false]
      refine out ?_
      cases j with
      | zero=>rw [Sort.insInner] at he2; exact he2.symm
      | succ j=>
        rw [Sort.insInner] at he2
        have hgt:decide (j+1 > lo)=false:=decide_eq_false (by omega)
        rw [hgt] at he2
        simpa using he2.symm
  · rw [decide_eq_false (by omega:¬ (i:Int)<(hi:Int)),ite2_false]
    rw [if_neg hi'] at he
    rw [he]
    exact h
end
end Go.Proofs
set_option linter.unusedVariables false
set_option maxRecDepth 20000
namespace Go.Proofs
open Go Go.HL
section
variable {f:FuncId} {ga gb:List Value} {hp0:HP} {b sp n c:Nat} {cf:Bd→Bd→Int}
theorem S131 (hx:CmpX Tryd.prog f ga gb hp0 b 36 sp bdc n cf) (hS:Sort.SWO (ltC cf)) (hn:n≤65535):∀ (m:Nat) {d:Array Bd} {lo hi limit:Nat} {K:Value→HP→Prop},d.size=n→lo≤hi→hi≤n→limit≤64→hi-lo≤m→Sort.Below (ltC cf) lo hi d →
    (∀ d',Sort.PermIn lo hi d d'→Sort.SortedIn (ltC cf) lo hi d'→K (.tuple ⟨[]⟩) (HA hp0 b 36 sp bdc d')) →
    CF Tryd.prog 131 [.slice (some ⟨b,0,none⟩) n c,.int .i64 lo,.int .i64 hi,.int .i64 limit,.func (.func f) ⟨ga⟩ ⟨gb⟩] (HA hp0 b 36 sp bdc d) K:=by
  intro m
  induction m using Nat.strongRecOn with
  | ind m ih=>
  intro d lo hi limit K hs hlo hhi hl hm hB h
  have hc:=hx.ok
  refine F131_ok _ n c lo hi limit _ _ K ?_
  unfold F131 F131_j1
  refine LoopP.by (J:=fun k (s:Int × Int × Int × Bool × Bool) hp=>∃ (a e lim:Nat) (wb wp:Bool) (d':Array Bd),s=((a:Int),(e:Int),(lim:Int),wb,wp)∧hp=HA hp0 b 36 sp bdc d'∧d'.size=n∧a≤e∧e≤n∧lim≤64∧e-a≤hi-lo∧k=e-a∧Sort.Below (ltC cf) a e d' ∧
      (∀ R,Sort.PermIn a e d' R→Sort.SortedIn (ltC cf) a e R→K (.tuple ⟨[]⟩) (HA hp0 b 36 sp bdc R))) ?_
    (n:=hi-lo) ⟨lo,hi,limit,true,true,d,rfl,rfl,hs,hlo,hhi,hl,Nat.le_refl _,rfl,hB,h⟩
  clear hs hlo hhi hl hB h
  rintro I k x hp ⟨a,e,lim,wb,wp,d,rfl,rfl,hs,hae,hen,hl,hle,rfl,hB,h⟩ hI
  unfold F131_l2
  simp only []
  have w1:IntKind.wrap .i64 ((e:Int)-(a:Int))=((e-a:Nat):Int):=wi (by omega) (by omega)
  rw [w1]
  by_cases h12:e-a≤12
  · rw [decide_eq_true (by omega:((e-a:Nat):Int)≤12),ite2_true]
    refine S149 hc hs hae hen (by omega) ?_
    have hi:=Sort.insertionSort_holds hS d a e hae (by omega)
    exact h _ hi.1 hi.2
  rw [decide_eq_false (by omega:¬ ((e-a:Nat):Int)≤12),ite2_false]
  by_cases h0:lim=0
  · subst h0
    have hb:(((0:Nat):Int)==0)=true:=rfl
    rw [hb,ite2_true]
    refine S150 hc hs hae hen (by omega) ?_
    have hi:=Sort.heapSort_holds hS d a e hae (by omega)
    exact h _ hi.1 hi.2
  have hb:((lim:Int)==0)=false:=by rw [beq_eq_false_iff_ne]; omega
  rw [hb,ite2_false]
  have last:∀ (lim':Nat) (d3:Array Bd) (p:Nat) (wb wp:Bool),lim'≤64→Sort.PermIn a e d d3→a≤p→p<e →
      F131_j5 (some ⟨b,0,none⟩) n c a e lim' (.func (.func f) ⟨ga⟩ ⟨gb⟩) wb wp ((e-a:Nat):Int) p (HA hp0 b 36 sp bdc d3) I K:=by
    intro lim' d3 p wb wp hl' hp3 hpa hpe
    have hs3:d3.size=n:=by rw [hp3.1]; exact hs
    have B3:Sort.Below (ltC cf) a e d3:=hB.perm (by omega) hp3
    have two:F131_j6 (some ⟨b,0,none⟩) n c a e lim' (.func (.func f) ⟨ga⟩ ⟨gb⟩) wb wp ((e-a:Nat):Int) p false (HA hp0 b 36 sp bdc d3) I K:=by
      unfold F131_j6
      rw [ite2_false]
      refine S156 hc hs3 (by omega) hen (by omega) (by omega) ?_
      rcases hR:Sort.partition (ltC cf) d3 a e p with ⟨mid,ap,d4⟩
      obtain ⟨q1,q2,q3,q4,q5,q6,q7⟩:=Sort.round_part hS (Sort.partition_holds _) hpa hpe (by omega) B3 hR
      simp only [tup2V_mk,intV_int,boolV_bool]
      refine ⟨by omega,?_⟩
      have v1:IntKind.wrap .i64 ((mid:Int)-(a:Int))=((mid-a:Nat):Int):=wi (by omega) (by omega)
      have v2:IntKind.wrap .i64 ((e:Int)-(mid:Int))=((e-mid:Nat):Int):=wi (by omega) (by omega)
      have v3:IntKind.wrap .i64 ((mid:Int)+1)=((mid+1:Nat):Int):=wi (by omega) (by omega)
      rw [v1,v2,v3]
      by_cases hlt:mid-a<e-mid
      · rw [decide_eq_true (by omega:((mid-a:Nat):Int)<((e-mid:Nat):Int)),ite2_true]
        refine ih (mid-a) (by omega) (by omega) q1 (by omega) hl' (Nat.le_refl _) q4 ?_
        intro L hL hsL
        obtain ⟨z1,z2⟩:=q6 L hL hsL
        exact hI (e-(mid+1)) _ _ (by omega) ⟨mid+1,e,lim',_,ap,L,rfl,rfl,by rw [hL.1]; omega,by omega,hen,hl',by omega,rfl,z1,fun R hR hsR=>h R (Sort.permIn_trans _ _ _ _ _ hp3 (z2 R hR hsR).1) (z2 R hR hsR).2⟩
      · rw [decide_eq_false (by omega:¬ ((mid-a:Nat):Int)<((e-mid:Nat):Int)),ite2_false]
        refine ih (e-(mid+1)) (by omega) (by omega) (by omega) hen hl' (Nat.le_refl _) q5 ?_
        intro L hL hsL
        obtain ⟨z1,z2⟩:=q7 L hL hsL
        exact hI (mid-a) _ _ (by omega) ⟨a,mid,lim',_,ap,L,rfl,rfl,by rw [hL.1]; omega,q1,by omega,hl',by omega,rfl,z1,fun R hR hsR=>h R (Sort.permIn_trans _ _ _ _ _ hp3 (z2 R hR hsR).1) (z2 R hR hsR).2⟩
    unfold F131_j5
    by_cases ha:a > 0
    · rw [decide_eq_true (by omega:(a:Int) > 0),ite2_true]
      have v1:IntKind.wrap .i64 ((a:Int)-1)=((a-1:Nat):Int):=wi (by omega) (by omega)
      rw [v1]
      refine cmpP hc bdc_len hs3 (i:=a-1) (j:=p) rfl rfl (by omega) (by omega) ?_
      have hlq:decide (cf d3[a-1]! d3[p]!<0)=ltC cf d3[a-1]! d3[p]! := rfl
      rw [hlq]
      cases hlt:ltC cf d3[a-1]! d3[p]!
      · unfold F131_j6
        simp only [Bool.not_false,ite2_true]
        refine S155 hc hs3 (by omega) hen (by omega) (by omega) ?_
        rcases hR:Sort.partitionEqual (ltC cf) d3 a e p with ⟨mid,d4⟩
        obtain ⟨q1,q2,q3,q4,q5⟩:=Sort.round_eq hS (Sort.partitionEqual_holds _) ha hpa hpe (by omega) B3 hlt hR
        rw [intV_int]
        exact hI (e-mid) _ _ (by omega) ⟨mid,e,lim',wb,wp,d4,rfl,rfl,by omega,q2,hen,hl',by omega,rfl,q4,fun R hR hsR=>h R (Sort.permIn_trans _ _ _ _ _ hp3 (q5 R hR hsR).1) (q5 R hR hsR).2⟩
      · simp only [Bool.not_true]
        exact two
    · rw [decide_eq_false (by omega:¬ (a:Int) > 0),ite2_false]
      exact two
  have part:∀ (lim':Nat) (d2:Array Bd) (p:Nat) (w:Int),lim'≤64→Sort.PermIn a e d d2→a≤p→p<e →
      F131_j4 (some ⟨b,0,none⟩) n c a e lim' (.func (.func f) ⟨ga⟩ ⟨gb⟩) wb wp ((e-a:Nat):Int) p w (HA hp0 b 36 sp bdc d2) I K:=by
    intro lim' d2 p w hl' hp2 hpa hpe
    have hs2:d2.size=n:=by rw [hp2.1]; exact hs
    have B2:Sort.Below (ltC cf) a e d2:=hB.perm (by omega) hp2
    have seven:∀ q:Bool,F131_j7 (some ⟨b,0,none⟩) n c a e lim' (.func (.func f) ⟨ga⟩ ⟨gb⟩) wb wp ((e-a:Nat):Int) p q (HA hp0 b 36 sp bdc d2) I K:=by
      intro q
      unfold F131_j7
      cases q
      · rw [ite2_false]; exact last lim' d2 p wb wp hl' hp2 hpa hpe
      · rw [ite2_true]
        refine S154 hc hs2 (by omega) hen (by omega) ?_
        obtain ⟨r1,r2⟩:=Sort.partialInsertionSort_holds hS d2 a e (by omega) (by omega) B2
        rw [boolV_bool]
        cases hq:(Sort.partialInsertionSort (ltC cf) d2 a e).2
        · rw [ite2_false]
          exact last lim' _ p wb wp hl' (Sort.permIn_trans _ _ _ _ _ hp2 r1) hpa hpe
        · rw [ite2_true]
          exact h _ (Sort.permIn_trans _ _ _ _ _ hp2 r1) (r2 hq)
    unfold F131_j4
    cases wb
    · rw [ite2_false]; exact seven _
    · rw [ite2_true]
      cases wp
      · rw [ite2_false]; exact seven _
      · rw [ite2_true]; exact seven _
  have piv:∀ (lim':Nat) (d1:Array Bd),lim'≤64→Sort.PermIn a e d d1→F131_j3 (some ⟨b,0,none⟩) n c a e lim' (.func (.func f) ⟨ga⟩ ⟨gb⟩) wb wp ((e-a:Nat):Int) (HA hp0 b 36 sp bdc d1) I K:=by
    intro lim' d1 hl' hp1
    have hs1:d1.size=n:=by rw [hp1.1]; exact hs
    unfold F131_j3
    refine S152 hx hs1 (by omega) hen hn fun p w hpa hpe=>?_
    simp only [tup2V_mk,intV_int]
    cases (w==2)
    · rw [ite2_false]; exact part lim' d1 p w hl' hp1 hpa hpe
    · rw [ite2_true]
      refine S153 hs1 (by omega) hen (by omega) ?_
      have v1:IntKind.wrap .i64 ((e:Int)-1)=((e-1:Nat):Int):=wi (by omega) (by omega)
      have v2:IntKind.wrap .i64 ((p:Int)-(a:Int))=((p-a:Nat):Int):=wi (by omega) (by omega)
      have v3:IntKind.wrap .i64 (((e-1:Nat):Int)-((p-a:Nat):Int))=((e-1-(p-a):Nat):Int):=wi (by omega) (by omega)
      rw [v1,v2,v3]
      exact part lim' _ _ 1 hl' (Sort.permIn_trans _ _ _ _ _ hp1 (Sort.reverseRange_holds d1 a e hae (by omega))) (by omega) (by omega)
  cases wb
  · simp only [Bool.not_false,ite2_true]
    refine S151 hs hae hen hn fun d1 hp1=>?_
    have v1:IntKind.wrap .i64 ((lim:Int)-1)=((lim-1:Nat):Int):=wi (by omega) (by omega)
    rw [v1]
    exact piv (lim-1) d1 (by omega) hp1
  · simp only [Bool.not_true,ite2_false]
    exact piv lim d hl (Sort.permIn_refl d a e)
end
/-- SortFunc of a row: the same things, in their order. -/
theorem S103 {f:FuncId} {ga gb:List Value} {cf:Bd→Bd→Int} (hS:Sort.SWO (ltC cf)) {hp:HP} {s:Option Addr} {n c:Nat} {ts:List Bd} (hr:Row hp s n c 36 26 (ts.flatMap bdc)) (hl:ts.length=n) (hn:n≤65535)
    (hx:∀ b,s=some ⟨b,0,none⟩→CmpX Tryd.prog f ga gb hp b 36 ((c-n)*26) bdc n cf) {K:Value→HP→Prop}
    (h:∀ (ts':List Bd) (hp':HP),ts'.Perm ts→ts'.Pairwise (fun x y=>ltC cf y x=false)→Row hp' s n c 36 26 (ts'.flatMap bdc)→(hp'=hp∨∃ b e,s=some ⟨b,0,none⟩∧hp'=hp.set b e)→K (.tuple ⟨[]⟩) hp') :
    CF Tryd.prog 103 [.slice s n c,.func (.func f) ⟨ga⟩ ⟨gb⟩] hp K:=by
  refine F103_ok s n c _ hp K ?_
  unfold F103
  rw [wu64 (by omega) (by omega)]
  refine C128 hn fun L hL _ _=>?_
  rw [intV_int]
  have z0:(Value.int .i64 0)=Value.int .i64 ((0:Nat):Int):=rfl
  rcases hr with ⟨rfl,rfl,rfl,hnil⟩ | ⟨b,rfl,hnc,hxl,hb⟩
  · have ht:ts=[]:=List.eq_nil_of_length_eq_zero hl
    subst ht
    rw [z0]
    refine F131_ok none 0 0 ((0:Nat):Int) ((0:Nat):Int) L _ hp _ ?_
    unfold F131 F131_j1
    refine LoopP.by (J:=fun k (s:Int × Int × Int × Bool × Bool) hp'=>s.1=0∧s.2.1=0∧hp'=hp) ?_ (n:=0) ⟨rfl,rfl,rfl⟩
    rintro I k ⟨a,e,lim,wb,wp⟩ hp' ⟨h1,h2,rfl⟩ hI
    simp only at h1 h2
    subst h1 h2
    unfold F131_l2
    simp only []
    have w0:IntKind.wrap .i64 ((0:Int)-0)=0:=by rw [w64 (by omega) (by omega)]; omega
    rw [w0,decide_eq_true (by omega:(0:Int)≤12),ite2_true]
    refine F149_ok none 0 0 0 0 _ hp' _ ?_
    unfold F149 F149_j1
    have w1:IntKind.wrap .i64 ((0:Int)+1)=1:=by rw [w64 (by omega) (by omega)]; omega
    rw [w1]
    refine LoopP.by (J:=fun k (x:Int) hp2=>x=1∧hp2=hp') ?_ (n:=0) ⟨rfl,rfl⟩
    rintro I2 k2 x hp2 ⟨rfl,rfl⟩ hI2
    unfold F149_l2
    rw [decide_eq_false (by omega:¬ (1:Int)<0),ite2_false]
    exact h [] _ (List.Perm.refl _) List.Pairwise.nil (.inl ⟨rfl,rfl,rfl,rfl⟩) (.inl rfl)
  · have hha:HA hp b 36 ((c-n)*26) bdc ts.toArray=hp:=HP.set_self _ _ _ hb
    rw [z0]
    have key:=S131 (c:=c) (hx b rfl) hS hn n (d:=ts.toArray) (lo:=0) (hi:=n) (limit:=L) (K:=fun u_4 h_5=>K (.tuple ⟨[]⟩) h_5) (by simpa using hl) (Nat.zero_le _) (Nat.le_refl _) (by omega) (by omega) (.inl rfl) ?_
    · rw [hha] at key; exact key
    intro d' hpm hst
    have hsz:d'.size=n:=by rw [hpm.1]; simpa using hl
    have hpl:d'.toList.Perm ts:=by
      have h3:=hpm.2.2
      have e1:d'.extract 0 n=d':=by rw [← hsz]; simp
      have e2:ts.toArray.extract 0 n=ts.toArray:=by rw [← hl]; simp
      rw [e1,e2] at h3
      exact h3
    refine h d'.toList _ hpl ?_ (.inr ⟨b,rfl,hnc,by rw [flat_len bdc_len]; simp [hsz],by unfold HA; rw [HP.set_eq]⟩) (.inr ⟨b,_,rfl,rfl⟩)
    rw [List.pairwise_iff_getElem]
    intro i j hi hj hij
    have:=hst i j (Nat.zero_le _) hij (by simpa [hsz] using hj)
    rw [getElem!_pos d' j (by simpa using hj),getElem!_pos d' i (by simpa using hi)] at this
    simpa using this
end Go.Proofs
set_option linter.unusedVariables false
set_option linter.unusedSimpArgs false
set_option maxRecDepth 20000
namespace Go.Proofs
open Go Go.HL
open Go.Exp (Th tlt Ord setW dropW insW)
/-- A stored one. -/
structure Sy where
  id:Int
  out:Q × Int
  peer:Q × Int
  due:Int
  text:ByteArray
deriving DecidableEq
def zT:Q × Int:=((0,0,0,0),0)
def sy0:Sy:=⟨0,zT,zT,0,⟨#[]⟩⟩
instance:Inhabited Sy:=⟨sy0⟩
/-- What always holds of a list of stored ones. -/
structure InvS (mx last:Nat) (L:List Sy):Prop where
  asc:(L.map (·.id)).Pairwise (· < ·)
  rng:∀ x∈L,1≤x.id∧x.id≤last
  keys:(L.map fun x=>(x.out,x.peer)).Nodup
  ok:∀ x∈L,okT x.out∧okT x.peer∧0≤x.due∧x.due≤4611686018427387904
  len:L.length≤mx
  mx:mx≤65536
  last:last≤500000
section
variable {tb:Obj} {hq:HP} {s mx last:Nat} {L:List Sy} {w:List Th} {K:Value→HP→Prop}
end
end Go.Proofs
set_option linter.unusedVariables false
set_option linter.unusedSimpArgs false
set_option maxRecDepth 20000
namespace Go.Proofs
open Go Go.HL
open Go.Exp (Th tlt Ord setW dropW insW)
section
variable {tb:Obj} {hq:HP} {s mx last:Nat} {L:List Sy} {w:List Th} {K:Value→HP→Prop}
end
end Go.Proofs
set_option linter.unusedVariables false
set_option linter.unusedSimpArgs false
set_option maxRecDepth 20000
namespace Go.Proofs
open Go Go.HL
open Go.Exp (Th tlt Ord setW dropW insW)
section
variable {tb:Obj} {hq:HP} {s mx last:Nat} {L:List Sy} {w:List Th} {K:Value→HP→Prop}
end
end Go.Proofs
set_option linter.unusedVariables false
set_option linter.unusedSimpArgs false
set_option maxRecDepth 20000
namespace Go.Proofs
open Go Go.HL
open Go.Exp (Th tlt Ord setW dropW insW)
section
variable {tb:Obj} {hp:HP} {ps:Nat→HP} {s mx last:Nat} {L:List Sy} {w:List Th} {K:Value→HP→Prop}
/-- What is known, but for the table; the table. -/
def startP (hp:HP) (tb:Obj):Nat→HP:=pu (pu (fun _ _=>.none) 1 (HP.onlyF 0 (.obj tb))) 0 (hp.set 0 .none)
theorem startP_ok (ht:TabR tb hp):Parts hp (startP hp tb):=by
  refine Parts.of_two ?_ (HSub.onlyF ht.1) fun x=>?_
  · intro x
    by_cases hx:x=0
    · subst hx; exact .inl (HP.set_eq ..)
    · exact .inr (HP.set_ne _ _ hx)
  · by_cases hx:x=0
    · subst hx; exact .inl (HP.set_eq ..)
    · exact .inr (HP.onlyF_ne _ hx)
theorem startP_0:startP hp tb 0=hp.set 0 .none:=pu_eq ..
theorem startP_1 (ht:TabR tb hp):TabR tb (startP hp tb 1):=⟨by unfold startP; rw [pu_ne _ _ (by omega),pu_eq]; exact HP.onlyF_eq ..,ht.2⟩
theorem finish {hp':HP} (ht:TabR tb hp) (hP:Parts hp' ps) (h0:ps 0=hp.set 0 .none) (ht':TabR tb hp'):HSub hp hp':=fun x=>by
  by_cases hx:x=0
  · subst hx; right; rw [ht.1,ht'.1]
  · have:=hP.sub 0 x
    rw [h0,HP.set_ne _ _ hx] at this
    exact this
def ta (a port:Int):Q × Int:=((1,0,0,a),port)
theorem ta_ok {a port:Int} (ha:okB a) (hz:okZ port):okT (ta a port):=⟨⟨(by decide:(0:Int)≤1∧(1:Int)≤255),(by decide:(0:Int)≤0∧(0:Int)≤255),(by decide:(0:Int)≤0∧(0:Int)≤255),ha⟩,hz⟩
theorem okBc {n:Int} (h:decide (0≤n∧n≤255)=true):okB n:=@of_decide_eq_true (0≤n∧n≤255) _ h
theorem okZc {n:Int} (h:decide (-9223372036854775808≤n∧n≤9223372036854775807)=true):okZ n:=@of_decide_eq_true (-9223372036854775808≤n∧n≤9223372036854775807) _ h
end
end Go.Proofs
set_option linter.unusedVariables false
set_option maxRecDepth 20000
namespace Go.Proofs
open Go Go.HL
end Go.Proofs
set_option linter.unusedVariables false
set_option maxRecDepth 20000
namespace Go.Proofs
open Go Go.HL
section
variable {e:Env} {x0 x1:Int} {x5 x6:Bool} {hp:HP} {K:Env→PV→HP→Prop}
abbrev R101 (p n:Nat):=RW Tryd.prog 20 [] (opsAt Tryd.f101 (pth p)) (List.range n)
theorem F101_r0:R101 2 1 e V0 hp K=
 K (upd e 4 (sI 0)) V0 hp:= by kernel_rfl
theorem F101_r1:R101 5 3 (upd e 0 (sI x0)) V0 hp K=
 CF Tryd.prog 129 [(.int .i64 x0)] hp fun u1 h2=>(boolV u1 fun q3=>K (w4 e 0 (sI x0) 7 (sI x0) 8 (sB q3) 5 (sB q3)) V0 h2):= by kernel_rfl
theorem F101_r2:R101 11 3 (upd e 1 (sI x1)) V0 hp K=
 CF Tryd.prog 129 [(.int .i64 x1)] hp fun u1 h2=>(boolV u1 fun q3=>K (w4 e 1 (sI x1) 9 (sI x1) 10 (sB q3) 6 (sB q3)) V0 h2):= by kernel_rfl
theorem F101_r3:R101 39 1 (upd e 5 (sB x5)) V0 hp K=
 K (w2 e 5 (sB x5) 11 (sB x5)) V0 hp:= by kernel_rfl
theorem F101_r4:R101 279 1 (upd e 6 (sB x6)) V0 hp K=
 K (w2 e 6 (sB x6) 12 (sB x6)) V0 hp:= by kernel_rfl
theorem F101_r5:R101 1175 1 e V0 hp K=
 K (upd e 4 (sI 0)) V0 hp:= by kernel_rfl
theorem F101_r6:R101 343 1 e V0 hp K=
 K (upd e 4 (sI ((-1)))) V0 hp:= by kernel_rfl
theorem F101_r7:R101 79 1 (upd e 6 (sB x6)) V0 hp K=
 K (w2 e 6 (sB x6) 13 (sB x6)) V0 hp:= by kernel_rfl
theorem F101_r8:R101 303 1 e V0 hp K=
 K (upd e 4 (sI 1)) V0 hp:= by kernel_rfl
theorem F101_r9:R101 159 3 (w2 e 1 (sI x1) 0 (sI x0)) V0 hp K=
 K (w5 e 1 (sI x1) 0 (sI x0) 14 (sI x0) 15 (sI x1) 16 (sB (decide (x0<x1)))) V0 hp:= by kernel_rfl
theorem F101_r10:R101 607 1 e V0 hp K=
 K (upd e 4 (sI ((-1)))) V0 hp:= by kernel_rfl
theorem F101_r11:R101 319 3 (w2 e 1 (sI x1) 0 (sI x0)) V0 hp K=
 K (w5 e 1 (sI x1) 0 (sI x0) 17 (sI x0) 18 (sI x1) 19 (sB (decide (x0 > x1)))) V0 hp:= by kernel_rfl
theorem F101_r12:R101 1215 1 e V0 hp K=
 K (upd e 4 (sI 1)) V0 hp:= by kernel_rfl
theorem F101_r13:R101 383 1 e V0 hp K=
 K (upd e 4 (sI 0)) V0 hp:= by kernel_rfl
def F101 (x0 x1:Int) (hp:HP) (K:Kh):Prop:=
  (CF Tryd.prog 129 [(.int .i64 x0)] hp fun u1 h2=>boolV u1 fun q3=>CF Tryd.prog 129 [(.int .i64 x1)] h2 fun u4 h5=>boolV u4 fun q6=>ite2 q3 (ite2 q6 (K (.int .i64 0) h5) (K (.int .i64 (-1)) h5)) (ite2 q6 (K (.int .i64 1) h5) (ite2 (decide (x0<x1)) (K (.int .i64 (-1)) h5) (ite2 (decide (x0 > x1)) (K (.int .i64 1) h5) (K (.int .i64 0) h5)))))
noncomputable abbrev o101 (k n:Nat):Code:=.region k (opsAt Tryd.f101 (pth n)) false
noncomputable def F101_code:Code:=(.seq (o101 0 2) (.seq (o101 1 5) (.seq (o101 2 11) (.seq (.seq (o101 3 39) (.cond (.tmp 11) (.seq (.seq (o101 4 279) (.cond (.tmp 12) (.seq (o101 5 1175) .ret) .skip)) (.seq (o101 6 343) .ret)) .skip)) (.seq (.seq (o101 7 79) (.cond (.tmp 13) (.seq (o101 8 303) .ret) .skip)) (.seq (.seq (o101 9 159) (.cond (.tmp 16) (.seq (o101 10 607) .ret) .skip)) (.seq (.seq (o101 11 319) (.cond (.tmp 19) (.seq (o101 12 1215) .ret) .skip)) (.seq (o101 13 383) .ret))))))))
theorem F101_body:Tryd.f101.body=some F101_code:=by kernel_rfl
theorem F101_ok (x0 x1:Int) (hp:HP) (K:Kh) (h:F101 x0 x1 hp K):CF Tryd.prog 101 [(.int .i64 x0),(.int .i64 x1)] hp K:=by
 refine .inl ⟨by kernel_rfl,AC.intro (N:=20) Tryd.func101 F101_body rfl (Nat.le_of_ble_eq_true rfl) ?_⟩
 unfold F101 at h
 refine Ar F101_r0 ?_ (r2 0 1 Rn) (z2 Sn) Sn
 refine Ar F101_r1 ?_ (r2 0 1 Rn) (z2 Sn) Sn
 refine mC h fun u1 h2 h=>mB h fun q3 h=>?_
 refine Ar F101_r2 ?_ (r3 1 0 5 Rn) (z3 Sn) Sn
 refine mC h fun u4 h5 h=>mB h fun q6 h=>?_
 refine Aq (Ar F101_r3 ?_ (r4 5 0 1 6 Rn) (z4 Sn) Sn)
 refine Ac h rfl (fun h=>?_) (fun h=>?_)
 ·refine Aq (Ar F101_r4 ?_ (r1 6 Rn) (z1 Sn) Sn)
  refine Ac h rfl (fun h=>?_) (fun h=>?_)
  ·refine Ar F101_r5 ?_ Rn Sn Sn
   refine AWP.ret ?_
   exact h
  ·refine AWP.skip (Ar F101_r6 ?_ Rn Sn Sn)
   refine AWP.ret ?_
   exact h
 ·refine AWP.skip (Aq (Ar F101_r7 ?_ (r3 6 0 1 Rn) (z3 Sn) Sn))
  refine Ac h rfl (fun h=>?_) (fun h=>?_)
  ·refine Ar F101_r8 ?_ Rn Sn Sn
   refine AWP.ret ?_
   exact h
  ·refine AWP.skip (Aq (Ar F101_r9 ?_ (r2 0 1 Rn) (z2 Sn) Sn))
   refine Ac h rfl (fun h=>?_) (fun h=>?_)
   ·refine Ar F101_r10 ?_ Rn Sn Sn
    refine AWP.ret ?_
    exact h
   ·refine AWP.skip (Aq (Ar F101_r11 ?_ (r2 0 1 Rn) (z2 Sn) Sn))
    refine Ac h rfl (fun h=>?_) (fun h=>?_)
    ·refine Ar F101_r12 ?_ Rn Sn Sn
     refine AWP.ret ?_
     exact h
    ·refine AWP.skip (Ar F101_r13 ?_ Rn Sn Sn)
     refine AWP.ret ?_
     exact h
end
section
variable {e:Env} {x0:Int} {hp:HP} {K:Env→PV→HP→Prop}
abbrev R129 (p n:Nat):=RW Tryd.prog 6 [] (opsAt Tryd.f129 (pth p)) (List.range n)
theorem F129_r0:R129 2 1 e V0 hp K=
 K (upd e 2 (sB false)) V0 hp:= by kernel_rfl
theorem F129_r1:R129 5 4 (upd e 0 (sI x0)) V0 hp K=
 K (w5 e 0 (sI x0) 3 (sI x0) 4 (sI x0) 5 (sB ((x0 != x0))) 2 (sB ((x0 != x0)))) V0 hp:= by kernel_rfl
def F129 (x0:Int) (hp:HP) (K:Kh):Prop:=
  (K (.bool (x0 != x0)) hp)
noncomputable def F129_code:Code:=(.seq (.region 0 (opsAt Tryd.f129 (pth 2)) false) (.seq (.region 1 (opsAt Tryd.f129 (pth 5)) false) .ret))
theorem F129_body:Tryd.f129.body=some F129_code:=by kernel_rfl
theorem F129_ok (x0:Int) (hp:HP) (K:Kh) (h:F129 x0 hp K):CF Tryd.prog 129 [(.int .i64 x0)] hp K:=by
 refine .inl ⟨by kernel_rfl,AC.intro (N:=6) Tryd.func129 F129_body rfl (Nat.le_of_ble_eq_true rfl) ?_⟩
 unfold F129 at h
 refine Ar F129_r0 ?_ (r1 0 Rn) (z1 Sn) Sn
 refine Ar F129_r1 ?_ (r1 0 Rn) (z1 Sn) Sn
 refine AWP.ret ?_
 exact h
end
end Go.Proofs
set_option linter.unusedVariables false
set_option maxRecDepth 20000
namespace Go.Proofs
open Go Go.HL
section
variable {f:FuncId} {ga gb:List Value} {hp0:HP} {b sp n c:Nat} {cf:Sy→Sy→Int}
end
end Go.Proofs
set_option linter.unusedVariables false
set_option maxRecDepth 20000
namespace Go.Proofs
open Go Go.HL
section
variable {f:FuncId} {ga gb:List Value} {hp0:HP} {b sp n c:Nat} {cf:Sy→Sy→Int}
end
end Go.Proofs
set_option linter.unusedVariables false
set_option maxRecDepth 20000
namespace Go.Proofs
open Go Go.HL
section
variable {f:FuncId} {ga gb:List Value} {hp0:HP} {b sp n c:Nat} {cf:Sy→Sy→Int}
end
end Go.Proofs
set_option linter.unusedVariables false
set_option maxRecDepth 20000
namespace Go.Proofs
open Go Go.HL
section
variable {f:FuncId} {ga gb:List Value} {hp0:HP} {b sp n c:Nat} {cf:Sy→Sy→Int}
end
end Go.Proofs
set_option linter.unusedVariables false
set_option maxRecDepth 20000
namespace Go.Proofs
open Go Go.HL
section
variable {f:FuncId} {ga gb:List Value} {hp0:HP} {b sp n c:Nat} {cf:Sy→Sy→Int}
end
end Go.Proofs
set_option linter.unusedVariables false
set_option maxRecDepth 20000
namespace Go.Proofs
open Go Go.HL
section
variable {f:FuncId} {ga gb:List Value} {hp0:HP} {b sp n c:Nat} {cf:Sy→Sy→Int}
end
end Go.Proofs
set_option linter.unusedVariables false
set_option maxRecDepth 20000
namespace Go.Proofs
open Go Go.HL
section
variable {f:FuncId} {ga gb:List Value} {hp0:HP} {b sp n c:Nat} {cf:Sy→Sy→Int}
end
end Go.Proofs
set_option linter.unusedVariables false
namespace Go.HL
open Go
/-- What is mapped alike is alike. -/
theorem perm_of_mapI {α β:Type} {f:α→β} (hf:∀ a b,f a=f b→a=b):∀ {l l':List α},(l.map f).Perm (l'.map f)→l.Perm l'
  | [],l',h=>by
    have:=h.length_eq
    simp at this
    rw [List.eq_nil_of_length_eq_zero this.symm]
  | a::l,l',h=>by
    classical
    have hm:f a∈l'.map f:=h.mem_iff.1 (by simp)
    obtain ⟨a',ha',e⟩:=List.mem_map.1 hm
    have:=hf _ _ e
    subst this
    have hp:=List.perm_cons_erase ha'
    refine List.Perm.trans ?_ hp.symm
    refine List.Perm.cons _ (perm_of_mapI hf ?_)
    have h2:=h.trans (hp.map f)
    simp only [List.map_cons] at h2
    exact h2.cons_inv
/-- The lesser first, of two numbers. -/
def cmpI (x y:Int):Int:=if x<y then -1 else if x > y then 1 else 0
theorem cmpI_lt {x y:Int}:decide (cmpI x y<0)=true↔x<y:=by
  unfold cmpI
  rw [decide_eq_true_iff]
  repeat' split
  all_goals omega
theorem cmpI_neg {x y:Int}:cmpI x y<0↔x<y:=by
  unfold cmpI
  repeat' split
  all_goals omega
theorem ltC_f {α:Type} (f:α→Int) (a b:α):(ltC (fun a b=>cmpI (f a) (f b)) a b=false)↔¬ (f a<f b):=by
  unfold ltC
  rw [decide_eq_false_iff_not]
  exact not_congr cmpI_neg
theorem swo_cmpI {α:Type} (f:α→Int):Sort.SWO (ltC fun a b=>cmpI (f a) (f b)) where
  irrefl x:=by
    have:¬ (ltC (fun a b=>cmpI (f a) (f b)) x x=true):=by unfold ltC; rw [cmpI_lt]; omega
    simpa using this
  trans x y z:=by unfold ltC; simp only [cmpI_lt]; omega
  ntrans x y z:=by
    have k:=ltC_f f
    rw [k,k,k]; omega
/-- In order by rising numbers: there is one way. -/
theorem order_eq {α:Type} {f:α→Int} {a b:List α} (ha:a.Pairwise (fun x y=>ltC (fun a b=>cmpI (f a) (f b)) y x=false)) (hb:(b.map f).Pairwise (· < ·)) (hp:a.Perm b):a=b:=by
  rw [List.pairwise_map] at hb
  have k:=ltC_f f
  have inj:∀ x∈b,∀ y∈b,f x=f y→x=y:=fun x hx y hy e=>by
    have hn:(b.map f).Nodup:=by
      unfold List.Nodup
      rw [List.pairwise_map]
      exact hb.imp fun h e=>by omega
    clear hb hp ha
    induction b with
    | nil=>cases hx
    | cons z b ih=>
      rw [List.map_cons,List.nodup_cons] at hn
      rcases List.mem_cons.1 hx with hx1 | hx1
      · rcases List.mem_cons.1 hy with hy1 | hy1
        · rw [hx1,hy1]
        · subst hx1; exact absurd (e▸List.mem_map.2 ⟨y,hy1,rfl⟩) hn.1
      · rcases List.mem_cons.1 hy with hy1 | hy1
        · subst hy1; exact absurd (e▸List.mem_map.2 ⟨x,hx1,rfl⟩) hn.1
        · exact ih hx1 hy1 hn.2
  refine List.Perm.eq_of_pairwise (le:=fun x y=>f x≤f y) (fun x y hx hy h1 h2=>inj x (hp.mem_iff.1 hx) y hy (by omega)) ?_ ?_ hp
  · refine ha.imp fun h=>?_
    rw [k] at h; omega
  · exact hb.imp fun h=>by omega
end Go.HL
set_option linter.unusedVariables false
set_option linter.unusedSimpArgs false
set_option maxRecDepth 20000
namespace Go.Proofs
open Go Go.HL
open Go.Exp (Th tlt Ord setW dropW insW)
theorem C129 {x:Int} {hp:HP} {K:Value→HP→Prop} (h:K (.bool false) hp):CF Tryd.prog 129 [.int .i64 x] hp K:=by
  refine F129_ok x hp K ?_
  unfold F129
  simpa using h
theorem C101 {x y:Int} {hp:HP} {K:Value→HP→Prop} (h:K (.int .i64 (cmpI x y)) hp):CF Tryd.prog 101 [.int .i64 x,.int .i64 y] hp K:=by
  refine F101_ok x y hp K ?_
  unfold F101
  refine C129 ?_
  rw [boolV_bool]
  refine C129 ?_
  rw [boolV_bool,ite2_false,ite2_false]
  unfold cmpI at h
  by_cases h1:x<y
  · rw [if_pos h1] at h
    rw [decide_eq_true h1,ite2_true]; exact h
  rw [if_neg h1] at h
  rw [decide_eq_false h1,ite2_false]
  by_cases h2:x > y
  · rw [if_pos h2] at h
    rw [decide_eq_true h2,ite2_true]; exact h
  · rw [if_neg h2] at h
    rw [decide_eq_false h2,ite2_false]; exact h
section
variable {tb:Obj} {hq:HP} {s mx last:Nat} {L:List Sy} {w:List Th} {K:Value→HP→Prop}
theorem same_at {hp hp' h:HP} {b:Nat} (h1:HSub h hp) (h2:HSub h hp') (hb:h b≠.none):hp' b=hp b:=by
  rw [h1.some rfl hb,h2.some rfl hb]
end
end Go.Proofs
set_option linter.unusedVariables false
set_option linter.unusedSimpArgs false
set_option maxRecDepth 20000
namespace Go.Proofs
open Go Go.HL
theorem C104 {x y:Bd} {hp:HP} {K:Value→HP→Prop} (h:K (.int .i64 (cmpI x.id y.id)) hp):CF Tryd.prog 104 [.agg ⟨bdc x⟩,.agg ⟨bdc y⟩] hp K:=by
  refine F104_ok (bdc x) (bdc y) hp K ?_
  unfold F104
  rw [bdc_id,ldV_some,intV_int,bdc_id,ldV_some,intV_int]
  refine C101 ?_
  rw [intV_int]
  exact h
section
variable {tb:Obj} {hq:HP} {t:Nat} {l:List Q} {low high:Int} {mx last n:Nat} {L:List Bd} {E:List (Bd × Nat)} {ps:Nat→HP} {m x o:Nat} {pl pm:Nat→Nat} {H:Nat→List ((Q × Int) × Bool)} {K:Value→HP→Prop}
set_option maxHeartbeats 2000000 in
theorem W61 (h:BdW tb hq t l low high mx last n L) (hsm:L.length≤10000)
    (hK:∀ ps hp' a c,Parts hp' ps→ps 0=hq→Row (ps 1) a L.length c 36 26 (L.flatMap bdc)→K (.slice a L.length c) hp'):CF Tryd.prog 61 [ptr t 0] hq K:=by
  refine F61_ok _ hq K ?_
  unfold F61
  have hinv:=h.inv
  obtain ⟨E,qs,m,x,o,pl,pm,rfl,h⟩:=h
  refine C71 h ?_
  simp only [boolV_bool,ite2_false,ptrN_some,Nat.reduceAdd,h.c6,ldV_some,mapV_map]
  have hM:=h.mapq
  have hEl:(E.map (·.1)).length=E.length:=List.length_map ..
  rw [hEl] at hsm hK
  refine opS_range u123 hM fun it e hit hI0=>?_
  unfold F61_j2
  have hme:hq m≠.none:=hM.ne
  have hmit:m≠it:=fun e'=>hme (by rw [e']; exact hit)
  refine LoopP.by (J:=fun k (st:Option Addr × Nat × Nat) hp=>∃ (ps:Nat→HP) (D:List (Bd × Nat)),Parts hp ps∧ps 0=hq∧ps 2 it≠.none∧(∀ e∈D,e∈E)∧IterR hp it m iw (fun k:Nat=>ptr k 0) (E.map fun e=>(e.1.id,e.2)) (D.map fun e=>(e.1.id,e.2)) ∧
      Row (ps 1) st.1 st.2.1 st.2.2 36 26 ((D.map (·.1)).flatMap bdc)∧st.2.1=D.length∧k=E.length-D.length) ?_
    (n:=E.length) ⟨pu (pu (fun _ _=>.none) 0 hq) 2 (HP.set (fun _=>.none) it e),[],?_,by rw [pu_ne _ _ (by omega),pu_eq],?_,fun e he=>absurd he (by simp),hI0,?_,rfl,by simp⟩
  rotate_left
  · have P0:=(Parts.one (HSub.refl hq)).new 2 hit e
    rwa [pu_ne _ _ (by omega)] at P0
  · rw [pu_eq,HP.set_eq]
    obtain ⟨o,ho⟩:=hI0.obj.1
    rw [HP.set_eq] at ho
    rw [ho]; simp
  · exact .inl ⟨rfl,rfl,rfl,rfl⟩
  rintro I k ⟨a,n,c⟩ hp ⟨ps,D,hP,h0,hit2,hD,hI,hrow,hn,rfl⟩ hgo
  simp only at hrow hn
  subst hn
  unfold F61_l3
  have hlenI:=hI.len
  rw [List.length_map,List.length_map] at hlenI
  refine opS_next hI ?_ ?_
  · intro hperm
    rw [tupJ_end,boolV_bool,ite2_false]
    unfold F61_j1
    have hpm:(D.map (·.1)).Perm (E.map (·.1)):=by
      have h1:(D.map fun e=>(e.1.id,e.2)).Perm (E.map fun e=>(e.1.id,e.2)):=by
        refine perm_of_mapI (f:=fun p:Int × Nat=>(iw p.1,ptr p.2 0)) (fun a b e=>?_) hperm
        simp only [Prod.mk.injEq,iw,ptr,Value.int.injEq,true_and,Value.pointer.injEq,Option.some.injEq,Addr.mk.injEq,and_true] at e
        exact Prod.ext e.1 e.2
      have h2:=h1.map (fun p:Int × Nat=>(findI p.1 (E.map (·.1))).getD bd0)
      rw [List.map_map,List.map_map] at h2
      have e1:∀ M:List (Bd × Nat),(∀ e∈M,e∈E)→M.map ((fun p:Int × Nat=>(findI p.1 (E.map (·.1))).getD bd0) ∘ fun e:Bd × Nat=>(e.1.id,e.2))=M.map (·.1):=fun M hM=>by
        refine List.map_congr_left fun e he=>?_
        show (findI e.1.id (E.map (·.1))).getD bd0=e.1
        rw [findI_of hinv.ids (List.mem_map.2 ⟨e,hM e he,rfl⟩)]; rfl
      rw [e1 D hD,e1 E fun _ h=>h] at h2
      exact h2
    have hdl:(D.map (·.1)).length=(E.map (·.1)).length:=hpm.length_eq
    have hdl':D.length=E.length:=by simpa using hdl
    refine S103 (swo_cmpI Bd.id) (hrow.sub (hP.sub 1)) (by simp) (by omega) ?_ ?_
    · intro b hb hp3 h3 d x y K' hsz hk
      exact C104 hk
    · intro ts' hp' hp1' hpw hrow' hh'
      have e:=order_eq (f:=Bd.id) hpw hinv.asc (hp1'.trans hpm)
      subst e
      rw [hdl'] at hrow' ⊢
      rcases hh' with rfl | ⟨b,e',hb,rfl⟩
      · refine hK ps hp' a c hP h0 ?_
        rcases hrow with ⟨r1,r2,r3,r4⟩ | ⟨b,r1,r2,r3,r4⟩
        · rcases hrow' with h | ⟨b,r1',_⟩
          · exact .inl h
          · rw [r1] at r1'; cases r1'
        · rcases hrow' with ⟨r1',_⟩ | ⟨b',r1',r2',r3',r4'⟩
          · rw [r1] at r1'; cases r1'
          · rw [r1] at r1'; cases r1'
            refine .inr ⟨b,r1,r2',r3',?_⟩
            rw [← (hP.sub 1).some rfl (by rw [r4]; simp)]; exact r4'
      · have hne:ps 1 b≠.none:=by
          rcases hrow with ⟨r1,_⟩ | ⟨b0,r1,_,_,r4⟩
          · rw [r1] at hb; cases hb
          · rw [r1] at hb; cases hb
            rw [r4]; simp
        refine hK _ _ a c (hP.put 1 hne e') (by rw [pu_ne _ _ (by omega)]; exact h0) ?_
        rw [pu_eq]
        rcases hrow' with ⟨r1',_⟩ | ⟨b',r1',r2',r3',r4'⟩
        · rw [hb] at r1'; cases r1'
        · rw [hb] at r1'; cases r1'
          rw [HP.set_eq] at r4'
          exact .inr ⟨b,hb,r2',r3',by rw [HP.set_eq]; exact r4'⟩
  · intro kv hkv e2 hI2
    have hlen2:=hI2.step_len
    rw [List.length_map,List.length_map] at hlen2
    obtain ⟨y,hy,rfl⟩:=List.mem_map.1 hkv
    rw [tupJ_go,boolV_bool,ite2_true]
    refine rdS_entry hI2 ?_
    rw [tupJ_snd]
    show ptrV (ptr y.2 0) _
    have P1:=hP.put 2 hit2 e2
    have hcell:(hp.set it e2).cellN y.2 0 26=some (bdc y.1):=by
      have hs:HSub hq (hp.set it e2):=P1.at 0 (by rw [pu_ne _ _ (by omega)]; exact h0)
      rw [HP.cellN_of (hs.cells (h.blkq hy))]; rfl
    rw [pq,ptrN_some,hcell,ldL_some]
    refine ifI (bdc_len y.1) ?_
    refine fun (b3:Nat) (hb3:(hp.set it e2) b3=Ent.none)=>?_
    rw [bd_spl rfl]
    have P2:Parts ((hp.set it e2).set b3 (.cells 36 (bdc y.1) 0)) _:=P1.weak (HSub.set_fresh _ _ hb3)
    refine opS_appP (e:=36) (size:=26) (bytes:=72) (by kernel_rfl) P2 1 (s:=a) (n:=D.length) (c:=c) (xs:=(D.map (·.1)).flatMap bdc) (by rw [pu_ne _ _ (by omega)]; exact hrow)
      (ys:=bdc y.1) (.inr ⟨b3,0,rfl,by rw [HP.cellN_of (HP.set_eq ..)]; exact cellsN_all rfl⟩) (bdc_one y.1) (by simp [bdc]) (by omega) (by omega) ?_
    intro a2 c2 hp2 r hr P3
    rw [slcV_slice]
    have hit3:(pu ps 2 ((ps 2).set it e2)) 2 it≠.none:=by
      rw [pu_eq,HP.set_eq]
      obtain ⟨o,ho⟩:=hI2.obj.1
      rw [HP.set_eq] at ho
      rw [ho]; simp
    have k1:hp2 it=(hp.set it e2) it:=same_at (P1.sub 2) (P3.at 2 (by rw [pu_ne _ _ (by omega)])) hit3
    have k2:hp2 m=(hp.set it e2) m:=same_at (P1.at 0 (by rw [pu_ne _ _ (by omega)]; exact h0)) (P3.at 0 (by rw [pu_ne _ _ (by omega),pu_ne _ _ (by omega)]; exact h0)) hme
    refine hgo (E.length-(D.length+1)) _ _ (by omega) ⟨_,D++[y],P3,by rw [pu_ne _ _ (by omega),pu_ne _ _ (by omega)]; exact h0,by rw [pu_ne _ _ (by omega)]; exact hit3,fun e he=>?_,?_,?_,by simp,by simp⟩
    · rcases List.mem_append.1 he with he | he
      · exact hD e he
      · rw [List.mem_singleton.1 he]; exact hy
    · rw [List.map_append]; exact hI2.keep k1 k2
    · rw [pu_eq]
      show Row r a2 (D.length+1) c2 36 26 _
      rw [List.map_append,List.flatMap_append]
      simpa using hr
theorem N61 {ps:Nat→HP} {hp:HP} {i j:Nat} (hP:Parts hp ps) (hij:j≠i) (hj:∀ b,ps j b=.none) (h:BdW tb (ps i) t l low high mx last n L) (hsm:L.length≤10000)
    (hK:∀ r hp' a c,Row r a L.length c 36 26 (L.flatMap bdc)→Parts hp' (pu ps j r)→K (.slice a L.length c) hp'):CF Tryd.prog 61 [ptr t 0] hp K:=by
  refine CF.part hP i (W61 (K:=fun u q=>∃ qs a c,u=.slice a L.length c∧Parts q qs∧qs 0=ps i∧Row (qs 1) a L.length c 36 26 (L.flatMap bdc)) h hsm
    fun qs hq' a c h1 h2 h3=>⟨qs,a,c,rfl,h1,h2,h3⟩) ?_
  rintro u q hp'' ⟨qs,a,c,rfl,h1,h2,h3⟩ hP'
  refine hK (qs 1) hp'' a c h3 ?_
  have:=hP'.split (i:=i) (j:=j) hij (fun b=>by rw [pu_ne _ _ hij]; exact hj b) (l:=qs 0) (r:=qs 1) (by rw [pu_eq]; exact h1.sub 0) (by rw [pu_eq]; exact h1.sub 1) (h1.dis 0 1 (by omega))
  have e:pu (pu (pu ps i q) i (qs 0)) j (qs 1)=pu ps j (qs 1):=by
    funext k
    by_cases h1:k=j
    · subst h1; rw [pu_eq,pu_eq]
    · rw [pu_ne _ _ h1,pu_ne _ _ h1]
      by_cases h4:k=i
      · subst h4; rw [pu_eq]; exact h2
      · rw [pu_ne _ _ h4,pu_ne _ _ h4]
  rw [e] at this
  exact this
end
end Go.Proofs
set_option linter.unusedVariables false
set_option linter.unusedSimpArgs false
set_option maxRecDepth 20000
namespace Go.Proofs
open Go Go.HL
section
variable {tb:Obj} {hp:HP} {ps:Nat→HP} {t:Nat} {l:List Q} {low high:Int} {mx last n:Nat} {L:List Bd} {K:Value→HP→Prop}
theorem N18 (hP:Parts hp ps) (i:Nat) (h:BdW tb (ps i) t l low high mx last n L) {p:Int} {a:V6 × Int} (hp':okZ p) (ha:okT6 a) (hn:n<1000000)
    (hno:roomB l low high mx L p a≠0→∀ r hp',BdW tb r t l low high mx last n L→Parts hp' (pu ps i r)→K (.tuple ⟨[.agg ⟨bdc bd0⟩,.int .i64 (roomB l low high mx L p a)]⟩) hp')
    (hyes:roomB l low high mx L p a=0→∀ u,tkB l low high L p a=some u→∀ r hp',BdW tb r t l low high mx (last+1) (n+1) (L++[⟨((last+1:Nat):Int),p,a,u,false,0⟩])→Parts hp' (pu ps i r)→K (.tuple ⟨[.agg ⟨bdc ⟨((last+1:Nat):Int),p,a,u,false,0⟩⟩,.int .i64 0]⟩) hp') :
    CF Tryd.prog 18 [ptr t 0,.int .i64 p,.agg ⟨t6 a⟩] hp K:=by
  refine CF.part hP i (P18 (K:=fun v q=>(roomB l low high mx L p a≠0∧v=.tuple ⟨[.agg ⟨bdc bd0⟩,.int .i64 (roomB l low high mx L p a)]⟩∧BdW tb q t l low high mx last n L) ∨
    (roomB l low high mx L p a=0∧∃ u,tkB l low high L p a=some u∧v=.tuple ⟨[.agg ⟨bdc ⟨((last+1:Nat):Int),p,a,u,false,0⟩⟩,.int .i64 0]⟩∧BdW tb q t l low high mx (last+1) (n+1) (L++[⟨((last+1:Nat):Int),p,a,u,false,0⟩])))
    h hp' ha hn (fun e=>.inl ⟨e,rfl,h⟩) fun e u hu q hq=>.inr ⟨e,u,hu,rfl,hq⟩) ?_
  rintro v q hp' (⟨e,rfl,hq⟩ | ⟨e,u,hu,rfl,hq⟩) hP'
  · exact hno e q hp' hq hP'
  · exact hyes e u hu q hp' hq hP'
theorem N24 (hP:Parts hp ps) (i:Nat) (h:BdW tb (ps i) t l low high mx last n L) {p:Int} {a:V6 × Int} {u:Q × Int} (hp':okZ p) (ha:okT6 a) (hu:okT u) (hn:n<1000000)
    (hno:bindB l mx L p a u≠0→∀ r hp',BdW tb r t l low high mx last n L→Parts hp' (pu ps i r)→K (.tuple ⟨[.agg ⟨bdc bd0⟩,.int .i64 (bindB l mx L p a u)]⟩) hp')
    (hyes:bindB l mx L p a u=0→∀ r hp',BdW tb r t l low high mx (last+1) (n+1) (L++[⟨((last+1:Nat):Int),p,a,u,true,0⟩])→Parts hp' (pu ps i r)→K (.tuple ⟨[.agg ⟨bdc ⟨((last+1:Nat):Int),p,a,u,true,0⟩⟩,.int .i64 0]⟩) hp') :
    CF Tryd.prog 24 [ptr t 0,.int .i64 p,.agg ⟨t6 a⟩,.agg ⟨t4 u⟩] hp K:=by
  refine CF.part hP i (W24 (K:=fun v q=>(bindB l mx L p a u≠0∧v=.tuple ⟨[.agg ⟨bdc bd0⟩,.int .i64 (bindB l mx L p a u)]⟩∧BdW tb q t l low high mx last n L) ∨
    (bindB l mx L p a u=0∧v=.tuple ⟨[.agg ⟨bdc ⟨((last+1:Nat):Int),p,a,u,true,0⟩⟩,.int .i64 0]⟩∧BdW tb q t l low high mx (last+1) (n+1) (L++[⟨((last+1:Nat):Int),p,a,u,true,0⟩])))
    h hp' ha hu hn (fun e=>.inl ⟨e,rfl,h⟩) fun e q hq=>.inr ⟨e,rfl,hq⟩) ?_
  rintro v q hp' (⟨e,rfl,hq⟩ | ⟨e,rfl,hq⟩) hP'
  · exact hno e q hp' hq hP'
  · exact hyes e q hp' hq hP'
theorem N25 (hP:Parts hp ps) (i:Nat) (h:BdW tb (ps i) t l low high mx last n L) {p:Int} {a:V6 × Int} (hp':okZ p) (ha:okT6 a)
    (hno:unbB L p a≠0→∀ r hp',BdW tb r t l low high mx last n L→Parts hp' (pu ps i r)→K (.tuple ⟨[.agg ⟨bdc bd0⟩,.int .i64 (unbB L p a)]⟩) hp')
    (hyes:∀ b,find6 p a L=some b→unbB L p a=0→b.st=true→∀ r hp',BdW tb r t l low high mx last n (L.filter fun z=>decide (z.id≠b.id))→Parts hp' (pu ps i r)→K (.tuple ⟨[.agg ⟨bdc b⟩,.int .i64 0]⟩) hp') :
    CF Tryd.prog 25 [ptr t 0,.int .i64 p,.agg ⟨t6 a⟩] hp K:=by
  refine CF.part hP i (W25 (K:=fun v q=>(unbB L p a≠0∧v=.tuple ⟨[.agg ⟨bdc bd0⟩,.int .i64 (unbB L p a)]⟩∧BdW tb q t l low high mx last n L) ∨
    (unbB L p a=0∧∃ b,find6 p a L=some b∧b.st=true∧v=.tuple ⟨[.agg ⟨bdc b⟩,.int .i64 0]⟩∧BdW tb q t l low high mx last n (L.filter fun z=>decide (z.id≠b.id))))
    h hp' ha (fun e=>.inl ⟨e,rfl,h⟩) fun b hb e hs q hq=>.inr ⟨e,b,hb,hs,rfl,hq⟩) ?_
  rintro v q hp' (⟨e,rfl,hq⟩ | ⟨e,b,hb,hs,rfl,hq⟩) hP'
  · exact hno e q hp' hq hP'
  · exact hyes b hb e hs q hp' hq hP'
theorem N21 (hP:Parts hp ps) (i:Nat) (h:BdW tb (ps i) t l low high mx last n L) {k:Int} (hn:n<1000000)
    (hno:findI k L=none→∀ r hp',BdW tb r t l low high mx last n L→Parts hp' (pu ps i r)→K (.int .i64 4) hp')
    (hyes:∀ b,findI k L=some b→∀ r hp',BdW tb r t l low high mx last (n+1) (updB k (b.ses+1) L)→Parts hp' (pu ps i r)→K (.int .i64 0) hp'):CF Tryd.prog 21 [ptr t 0,.int .i64 k] hp K:=by
  refine CF.part hP i (W21 (K:=fun v q=>(findI k L=none∧v=.int .i64 4∧BdW tb q t l low high mx last n L)∨(∃ b,findI k L=some b∧v=.int .i64 0∧BdW tb q t l low high mx last (n+1) (updB k (b.ses+1) L)))
    h hn (fun e=>.inl ⟨e,rfl,h⟩) fun b hb q hq=>.inr ⟨b,hb,rfl,hq⟩) ?_
  rintro v q hp' (⟨e,rfl,hq⟩ | ⟨b,hb,rfl,hq⟩) hP'
  · exact hno e q hp' hq hP'
  · exact hyes b hb q hp' hq hP'
theorem N22 (hP:Parts hp ps) (i:Nat) (h:BdW tb (ps i) t l low high mx last n L) {k:Int}
    (hno:findI k L=none→∀ r hp',BdW tb r t l low high mx last n L→Parts hp' (pu ps i r)→K (.tuple ⟨[.bool false,.int .i64 4]⟩) hp')
    (hz:∀ b,findI k L=some b→b.ses=0→∀ r hp',BdW tb r t l low high mx last n L→Parts hp' (pu ps i r)→K (.tuple ⟨[.bool false,.int .i64 11]⟩) hp')
    (hyes:∀ b,findI k L=some b→1≤b.ses→∀ r hp',BdW tb r t l low high mx last n (dropB b L)→Parts hp' (pu ps i r)→K (.tuple ⟨[.bool (!(b.st||decide (1<b.ses))),.int .i64 0]⟩) hp'):CF Tryd.prog 22 [ptr t 0,.int .i64 k] hp K:=by
  refine CF.part hP i (W22 (K:=fun v q=>(findI k L=none∧v=.tuple ⟨[.bool false,.int .i64 4]⟩∧BdW tb q t l low high mx last n L)∨(∃ b,findI k L=some b∧b.ses=0∧v=.tuple ⟨[.bool false,.int .i64 11]⟩∧BdW tb q t l low high mx last n L) ∨
    (∃ b,findI k L=some b∧1≤b.ses∧v=.tuple ⟨[.bool (!(b.st||decide (1<b.ses))),.int .i64 0]⟩∧BdW tb q t l low high mx last n (dropB b L)))
    h (fun e=>.inl ⟨e,rfl,h⟩) (fun b hb e=>.inr (.inl ⟨b,hb,e,rfl,h⟩)) fun b hb e q hq=>.inr (.inr ⟨b,hb,e,rfl,hq⟩)) ?_
  rintro v q hp' (⟨e,rfl,hq⟩ | ⟨b,hb,e,rfl,hq⟩ | ⟨b,hb,e,rfl,hq⟩) hP'
  · exact hno e q hp' hq hP'
  · exact hz b hb e q hp' hq hP'
  · exact hyes b hb e q hp' hq hP'
/-- The same number of sessions or one less. -/
theorem drop_len (b:Bd) (L:List Bd):(dropB b L).length≤L.length:=by
  unfold dropB
  split
  · unfold updB; rw [List.length_map]; exact Nat.le_refl _
  · exact List.length_filter_le _ _
theorem upd_len (k s:Int) (L:List Bd):(updB k s L).length=L.length:=by unfold updB; rw [List.length_map]
/-- A row of addresses does not lie in the table's block. -/
theorem shows_off {a:Option Addr} {n:Nat} {l:List Q} (ht:TabR tb hp) (hs:Shows hp a n 4 (l.flatMap v4)) (hl:l.length=n):Shows (hp.set 0 .none) a n 4 (l.flatMap v4):=by
  have hs0:=hs
  rcases hs with h | ⟨b,o,e,hc⟩
  · exact .inl h
  by_cases hn:n=0
  · subst hn
    have:l=[]:=List.eq_nil_of_length_eq_zero hl
    subst this
    exact .inl ⟨rfl,rfl⟩
  have hb:b≠0:=by
    rintro rfl
    obtain ⟨h0,ty,z,rfl⟩:=ht
    obtain ⟨b',o',e',hc'⟩:=hs0.get v4_len hl (show 0<n by omega)
    rw [e] at e'
    cases e'
    have hcell:=HP.cell_cellN hc' (j:=0) (v:=.int .u8 (l[0]'(by omega)).1) rfl
    unfold HP.cell at hcell
    rw [h0] at hcell
    simp only at hcell
    have hm:=List.mem_of_getElem? hcell
    simp at hm
  refine .inr ⟨b,o,e,?_⟩
  unfold HP.cellN at hc ⊢
  rw [HP.set_ne _ _ hb]
  exact hc
/-- A table beside what was known at first. -/
def BdS (tb:Obj) (hp0 hp:HP) (t:Nat) (l:List Q) (low high:Int) (mx last n:Nat) (L:List Bd):Prop:=
  ∃ ps:Nat→HP,Parts hp ps∧ps 0=hp0.set 0 .none∧BdW tb (ps 1) t l low high mx last n L∧∀ i,2≤i→∀ b,ps i b=.none
end
section
variable {tb:Obj} {hp0 hp:HP} {ps:Nat→HP} {t:Nat} {l:List Q} {low high:Int} {mx last n:Nat} {L:List Bd} {K:Value→HP→Prop}
theorem BdS.of (hP:Parts hp ps) (h0:ps 0=hp0.set 0 .none) (h1:BdW tb (ps 1) t l low high mx last n L):BdS tb hp0 hp t l low high mx last n L:=
  ⟨_,hP.cut 2,by simpa using h0,by simpa using h1,fun i hi b=>by simp only [show ¬ i<2 by omega,if_false]⟩
theorem BdS.pu {r:HP} (hP:Parts hp (pu ps 1 r)) (h0:ps 0=hp0.set 0 .none) (h1:BdW tb r t l low high mx last n L):BdS tb hp0 hp t l low high mx last n L:=
  BdS.of hP (by rw [pu_ne _ _ (by omega)]; exact h0) (by rw [pu_eq]; exact h1)
theorem BdS.w (h:BdS tb hp0 hp t l low high mx last n L):BdW tb hp t l low high mx last n L:=by
  obtain ⟨ps,P,h0,h1,_⟩:=h
  exact h1.sub (P.sub 1)
theorem BdS.fin (h:BdS tb hp0 hp t l low high mx last n L) (ht:TabR tb hp0):HSub hp0 hp:=by
  have hw:=h.w
  obtain ⟨ps,P,h0,h1,_⟩:=h
  exact finish ht P h0 hw.tab
theorem S17 {a:Option Addr} {n c:Nat} {l:List Q} {low high mx:Int} (ht:TabR tb hp) (hs:Shows hp a n 4 (l.flatMap v4)) (hl:l.length=n) (hnc:n≤c) (h1:okZ low) (h2:okZ high) (hq:∀ q∈l,okQ q)
    (hbad:¬ newBOk l low high mx→K (.tuple ⟨[.pointer none,.int .i64 1]⟩) hp)
    (hok:newBOk l low high mx→∀ t hp',BdS tb hp hp' t l low high mx.toNat 0 0 []→K (.tuple ⟨[ptr t 0,.int .i64 0]⟩) hp') :
    CF Tryd.prog 17 [.slice a n c,.int .i64 low,.int .i64 high,.int .i64 mx] hp K:=
  N17 (startP_ok ht) (by rw [startP_0]; exact shows_off ht hs hl) (startP_1 ht) hl hnc h1 h2 hq hbad fun hn t r hp' hr P=>hok hn t hp' (BdS.pu P startP_0 hr)
theorem S18 (h:BdS tb hp0 hp t l low high mx last n L) {p:Int} {a:V6 × Int} (hp':okZ p) (ha:okT6 a) (hn:n<1000000)
    (hno:roomB l low high mx L p a≠0→∀ hp',BdS tb hp0 hp' t l low high mx last n L→K (.tuple ⟨[.agg ⟨bdc bd0⟩,.int .i64 (roomB l low high mx L p a)]⟩) hp')
    (hyes:roomB l low high mx L p a=0→∀ u,tkB l low high L p a=some u→∀ hp',BdS tb hp0 hp' t l low high mx (last+1) (n+1) (L++[⟨((last+1:Nat):Int),p,a,u,false,0⟩])→K (.tuple ⟨[.agg ⟨bdc ⟨((last+1:Nat):Int),p,a,u,false,0⟩⟩,.int .i64 0]⟩) hp') :
    CF Tryd.prog 18 [ptr t 0,.int .i64 p,.agg ⟨t6 a⟩] hp K:=by
  obtain ⟨ps,P,h0,h1,_⟩:=h
  exact N18 P 1 h1 hp' ha hn (fun e r hp' hr P'=>hno e hp' (BdS.pu P' h0 hr)) fun e u hu r hp' hr P'=>hyes e u hu hp' (BdS.pu P' h0 hr)
theorem S24 (h:BdS tb hp0 hp t l low high mx last n L) {p:Int} {a:V6 × Int} {u:Q × Int} (hp':okZ p) (ha:okT6 a) (hu:okT u) (hn:n<1000000)
    (hno:bindB l mx L p a u≠0→∀ hp',BdS tb hp0 hp' t l low high mx last n L→K (.tuple ⟨[.agg ⟨bdc bd0⟩,.int .i64 (bindB l mx L p a u)]⟩) hp')
    (hyes:bindB l mx L p a u=0→∀ hp',BdS tb hp0 hp' t l low high mx (last+1) (n+1) (L++[⟨((last+1:Nat):Int),p,a,u,true,0⟩])→K (.tuple ⟨[.agg ⟨bdc ⟨((last+1:Nat):Int),p,a,u,true,0⟩⟩,.int .i64 0]⟩) hp') :
    CF Tryd.prog 24 [ptr t 0,.int .i64 p,.agg ⟨t6 a⟩,.agg ⟨t4 u⟩] hp K:=by
  obtain ⟨ps,P,h0,h1,_⟩:=h
  exact N24 P 1 h1 hp' ha hu hn (fun e r hp' hr P'=>hno e hp' (BdS.pu P' h0 hr)) fun e r hp' hr P'=>hyes e hp' (BdS.pu P' h0 hr)
theorem S25 (h:BdS tb hp0 hp t l low high mx last n L) {p:Int} {a:V6 × Int} (hp':okZ p) (ha:okT6 a)
    (hno:unbB L p a≠0→∀ hp',BdS tb hp0 hp' t l low high mx last n L→K (.tuple ⟨[.agg ⟨bdc bd0⟩,.int .i64 (unbB L p a)]⟩) hp')
    (hyes:∀ b,find6 p a L=some b→unbB L p a=0→b.st=true→∀ hp',BdS tb hp0 hp' t l low high mx last n (L.filter fun z=>decide (z.id≠b.id))→K (.tuple ⟨[.agg ⟨bdc b⟩,.int .i64 0]⟩) hp') :
    CF Tryd.prog 25 [ptr t 0,.int .i64 p,.agg ⟨t6 a⟩] hp K:=by
  obtain ⟨ps,P,h0,h1,_⟩:=h
  exact N25 P 1 h1 hp' ha (fun e r hp' hr P'=>hno e hp' (BdS.pu P' h0 hr)) fun b hb e hs r hp' hr P'=>hyes b hb e hs hp' (BdS.pu P' h0 hr)
theorem S21 (h:BdS tb hp0 hp t l low high mx last n L) {k:Int} (hn:n<1000000)
    (hno:findI k L=none→∀ hp',BdS tb hp0 hp' t l low high mx last n L→K (.int .i64 4) hp')
    (hyes:∀ b,findI k L=some b→∀ hp',BdS tb hp0 hp' t l low high mx last (n+1) (updB k (b.ses+1) L)→K (.int .i64 0) hp'):CF Tryd.prog 21 [ptr t 0,.int .i64 k] hp K:=by
  obtain ⟨ps,P,h0,h1,_⟩:=h
  exact N21 P 1 h1 hn (fun e r hp' hr P'=>hno e hp' (BdS.pu P' h0 hr)) fun b hb r hp' hr P'=>hyes b hb hp' (BdS.pu P' h0 hr)
theorem S22 (h:BdS tb hp0 hp t l low high mx last n L) {k:Int}
    (hno:findI k L=none→∀ hp',BdS tb hp0 hp' t l low high mx last n L→K (.tuple ⟨[.bool false,.int .i64 4]⟩) hp')
    (hz:∀ b,findI k L=some b→b.ses=0→∀ hp',BdS tb hp0 hp' t l low high mx last n L→K (.tuple ⟨[.bool false,.int .i64 11]⟩) hp')
    (hyes:∀ b,findI k L=some b→1≤b.ses→∀ hp',BdS tb hp0 hp' t l low high mx last n (dropB b L)→K (.tuple ⟨[.bool (!(b.st||decide (1<b.ses))),.int .i64 0]⟩) hp'):CF Tryd.prog 22 [ptr t 0,.int .i64 k] hp K:=by
  obtain ⟨ps,P,h0,h1,_⟩:=h
  exact N22 P 1 h1 (fun e r hp' hr P'=>hno e hp' (BdS.pu P' h0 hr)) (fun b hb e r hp' hr P'=>hz b hb e hp' (BdS.pu P' h0 hr)) fun b hb e r hp' hr P'=>hyes b hb e hp' (BdS.pu P' h0 hr)
/-- All, forgotten but for its length. -/
theorem S61 (h:BdS tb hp0 hp t l low high mx last n L) (hsm:L.length≤10000)
    (hK:∀ hp' a c,BdS tb hp0 hp' t l low high mx last n L→Row hp' a L.length c 36 26 (L.flatMap bdc)→K (.slice a L.length c) hp'):CF Tryd.prog 61 [ptr t 0] hp K:=by
  obtain ⟨ps,P,h0,h1,hf⟩:=h
  exact N61 P (i:=1) (j:=2) (by omega) (hf 2 (by omega)) h1 hsm fun r hp' a c hr P'=>hK hp' a c (BdS.of P' (by rw [pu_ne _ _ (by omega)]; exact h0) (by rw [pu_ne _ _ (by omega)]; exact h1)) (hr.sub (P'.at 2 (pu_eq ..)))
end
end Go.Proofs
set_option linter.unusedVariables false
set_option linter.unusedSimpArgs false
namespace Go.Proofs
open Go Go.HL
section
variable {l:List Q} {low high:Int} {mx last n:Nat} {L:List Bd}
/-- How many of a protocol's bindings have a port of the range. -/
def usedB (low high:Int) (L:List Bd) (p:Int):Nat:=(L.filter fun b=>decide (b.proto=p)&&(decide (low≤b.out.2)&&decide (b.out.2≤high))).length
theorem free_used (h:InvB l low high mx last n L) {p:Int} (hk:0≤kindB p):freeB l low high L p+usedB low high L p=l.length*(high-low+1):=by
  unfold freeB freeQ usedB heldB
  rw [if_neg (by omega),List.filter_map,List.length_map,List.filter_filter]
  have:(L.filter fun b=>((fun kv:(Q × Int) × Bool=>decide (low≤kv.1.2)&&decide (kv.1.2≤high)) ∘ fun b:Bd=>(b.out,b.st)) b&&decide (kindB b.proto=kindB p))=L.filter fun b=>decide (b.proto=p)&&(decide (low≤b.out.2)&&decide (b.out.2≤high)):=by
    refine List.filter_congr fun b hb=>?_
    have:decide (kindB b.proto=kindB p)=decide (b.proto=p):=decide_eq_decide.2 ⟨fun e=>kind_inj (h.ok b hb).1 e,fun e=>by rw [e]⟩
    rw [this,Bool.and_comm]; rfl
  rw [this]
  omega
end
end Go.Proofs
set_option linter.unusedVariables false
set_option maxRecDepth 20000
namespace Go.Proofs
open Go Go.HL
section
variable {e E:Env} {x0 x1:Int} {k4:List Value} {hp:HP} {K:Env→PV→HP→Prop}
abbrev R19 (p n:Nat):=RW Tryd.prog 9 [4] (opsAt Tryd.f19 (pth p)) (List.range n)
theorem F19_r0:R19 2 1 e V0 hp K=
 K (upd e 4 (sR 4 0)) (upd V0 4 (32,[.int .u8 0,.int .u8 0,.int .u8 0,.int .u8 0,.int .u8 0,.int .u8 0,.int .u8 0,.int .u8 0,.int .u8 0,.int .u8 0,.int .u8 0,.int .u8 0,.int .u8 0,.int .u8 0,.int .u8 0,.int .u8 0,.int .i64 0])) hp:= by kernel_rfl
theorem F19_r1 (h:E=upd (w2 e 4 (sR 4 0) 1 (sI x1)) 0 (sV (.int .u8 x0))):R19 5 5 E (upd V0 4 (32,k4)) hp K=
    (if List.length [(Value.int .u8 32),(.int .u8 1),.int .u8 0,.int .u8 0,.int .u8 0,.int .u8 0,.int .u8 0,.int .u8 0,.int .u8 0,.int .u8 0,.int .u8 0,.int .u8 0,.int .u8 0,.int .u8 0,.int .u8 0,(.int .u8 x0)]=16 then (if List.length (List.set (splice [.int .u8 0,.int .u8 0,.int .u8 0,.int .u8 0,.int .u8 0,.int .u8 0,.int .u8 0,.int .u8 0,.int .u8 0,.int .u8 0,.int .u8 0,.int .u8 0,.int .u8 0,.int .u8 0,.int .u8 0,.int .u8 0,.int .i64 0] 0 [(.int .u8 32),(.int .u8 1),.int .u8 0,.int .u8 0,.int .u8 0,.int .u8 0,.int .u8 0,.int .u8 0,.int .u8 0,.int .u8 0,.int .u8 0,.int .u8 0,.int .u8 0,.int .u8 0,.int .u8 0,(.int .u8 x0)]) 16 (.int .i64 x1))=17 then (if List.all (List.set (splice [.int .u8 0,.int .u8 0,.int .u8 0,.int .u8 0,.int .u8 0,.int .u8 0,.int .u8 0,.int .u8 0,.int .u8 0,.int .u8 0,.int .u8 0,.int .u8 0,.int .u8 0,.int .u8 0,.int .u8 0,.int .u8 0,.int .i64 0] 0 [(.int .u8 32),(.int .u8 1),.int .u8 0,.int .u8 0,.int .u8 0,.int .u8 0,.int .u8 0,.int .u8 0,.int .u8 0,.int .u8 0,.int .u8 0,.int .u8 0,.int .u8 0,.int .u8 0,.int .u8 0,(.int .u8 x0)]) 16 (.int .i64 x1)) one=true then (if 0+List.length (List.set (splice [.int .u8 0,.int .u8 0,.int .u8 0,.int .u8 0,.int .u8 0,.int .u8 0,.int .u8 0,.int .u8 0,.int .u8 0,.int .u8 0,.int .u8 0,.int .u8 0,.int .u8 0,.int .u8 0,.int .u8 0,.int .u8 0,.int .i64 0] 0 [(.int .u8 32),(.int .u8 1),.int .u8 0,.int .u8 0,.int .u8 0,.int .u8 0,.int .u8 0,.int .u8 0,.int .u8 0,.int .u8 0,.int .u8 0,.int .u8 0,.int .u8 0,.int .u8 0,.int .u8 0,(.int .u8 x0)]) 16 (.int .i64 x1))≤List.length k4 then (K (w4 E 5 (sV (.int .u8 x0)) 6 (sV (.agg ⟨[(.int .u8 32),(.int .u8 1),.int .u8 0,.int .u8 0,.int .u8 0,.int .u8 0,.int .u8 0,.int .u8 0,.int .u8 0,.int .u8 0,.int .u8 0,.int .u8 0,.int .u8 0,.int .u8 0,.int .u8 0,(.int .u8 x0)]⟩)) 7 (sI x1) 8 (sV (.agg ⟨(List.set (splice [.int .u8 0,.int .u8 0,.int .u8 0,.int .u8 0,.int .u8 0,.int .u8 0,.int .u8 0,.int .u8 0,.int .u8 0,.int .u8 0,.int .u8 0,.int .u8 0,.int .u8 0,.int .u8 0,.int .u8 0,.int .u8 0,.int .i64 0] 0 [(.int .u8 32),(.int .u8 1),.int .u8 0,.int .u8 0,.int .u8 0,.int .u8 0,.int .u8 0,.int .u8 0,.int .u8 0,.int .u8 0,.int .u8 0,.int .u8 0,.int .u8 0,.int .u8 0,.int .u8 0,(.int .u8 x0)]) 16 (.int .i64 x1))⟩))) (w2 V0 4 (32,k4) 4 (32,(splice k4 0 (List.set (splice [.int .u8 0,.int .u8 0,.int .u8 0,.int .u8 0,.int .u8 0,.int .u8 0,.int .u8 0,.int .u8 0,.int .u8 0,.int .u8 0,.int .u8 0,.int .u8 0,.int .u8 0,.int .u8 0,.int .u8 0,.int .u8 0,.int .i64 0] 0 [(.int .u8 32),(.int .u8 1),.int .u8 0,.int .u8 0,.int .u8 0,.int .u8 0,.int .u8 0,.int .u8 0,.int .u8 0,.int .u8 0,.int .u8 0,.int .u8 0,.int .u8 0,.int .u8 0,.int .u8 0,(.int .u8 x0)]) 16 (.int .i64 x1))))) hp) else False) else False) else False) else False):=by subst h; kernel_rfl
def F19 (x0 x1:Int) (hp:HP) (K:Kh):Prop:=
  (if List.length [(Value.int .u8 32),(.int .u8 1),.int .u8 0,.int .u8 0,.int .u8 0,.int .u8 0,.int .u8 0,.int .u8 0,.int .u8 0,.int .u8 0,.int .u8 0,.int .u8 0,.int .u8 0,.int .u8 0,.int .u8 0,(.int .u8 x0)]=16 then (if List.length (List.set (splice [.int .u8 0,.int .u8 0,.int .u8 0,.int .u8 0,.int .u8 0,.int .u8 0,.int .u8 0,.int .u8 0,.int .u8 0,.int .u8 0,.int .u8 0,.int .u8 0,.int .u8 0,.int .u8 0,.int .u8 0,.int .u8 0,.int .i64 0] 0 [(.int .u8 32),(.int .u8 1),.int .u8 0,.int .u8 0,.int .u8 0,.int .u8 0,.int .u8 0,.int .u8 0,.int .u8 0,.int .u8 0,.int .u8 0,.int .u8 0,.int .u8 0,.int .u8 0,.int .u8 0,(.int .u8 x0)]) 16 (.int .i64 x1))=17 then (if List.all (List.set (splice [.int .u8 0,.int .u8 0,.int .u8 0,.int .u8 0,.int .u8 0,.int .u8 0,.int .u8 0,.int .u8 0,.int .u8 0,.int .u8 0,.int .u8 0,.int .u8 0,.int .u8 0,.int .u8 0,.int .u8 0,.int .u8 0,.int .i64 0] 0 [(.int .u8 32),(.int .u8 1),.int .u8 0,.int .u8 0,.int .u8 0,.int .u8 0,.int .u8 0,.int .u8 0,.int .u8 0,.int .u8 0,.int .u8 0,.int .u8 0,.int .u8 0,.int .u8 0,.int .u8 0,(.int .u8 x0)]) 16 (.int .i64 x1)) one=true then (if 0+List.length (List.set (splice [.int .u8 0,.int .u8 0,.int .u8 0,.int .u8 0,.int .u8 0,.int .u8 0,.int .u8 0,.int .u8 0,.int .u8 0,.int .u8 0,.int .u8 0,.int .u8 0,.int .u8 0,.int .u8 0,.int .u8 0,.int .u8 0,.int .i64 0] 0 [(.int .u8 32),(.int .u8 1),.int .u8 0,.int .u8 0,.int .u8 0,.int .u8 0,.int .u8 0,.int .u8 0,.int .u8 0,.int .u8 0,.int .u8 0,.int .u8 0,.int .u8 0,.int .u8 0,.int .u8 0,(.int .u8 x0)]) 16 (.int .i64 x1))≤List.length [(Value.int .u8 0),.int .u8 0,.int .u8 0,.int .u8 0,.int .u8 0,.int .u8 0,.int .u8 0,.int .u8 0,.int .u8 0,.int .u8 0,.int .u8 0,.int .u8 0,.int .u8 0,.int .u8 0,.int .u8 0,.int .u8 0,.int .i64 0] then (ldL (cellsN (splice [.int .u8 0,.int .u8 0,.int .u8 0,.int .u8 0,.int .u8 0,.int .u8 0,.int .u8 0,.int .u8 0,.int .u8 0,.int .u8 0,.int .u8 0,.int .u8 0,.int .u8 0,.int .u8 0,.int .u8 0,.int .u8 0,.int .i64 0] 0 (List.set (splice [.int .u8 0,.int .u8 0,.int .u8 0,.int .u8 0,.int .u8 0,.int .u8 0,.int .u8 0,.int .u8 0,.int .u8 0,.int .u8 0,.int .u8 0,.int .u8 0,.int .u8 0,.int .u8 0,.int .u8 0,.int .u8 0,.int .i64 0] 0 [(.int .u8 32),(.int .u8 1),.int .u8 0,.int .u8 0,.int .u8 0,.int .u8 0,.int .u8 0,.int .u8 0,.int .u8 0,.int .u8 0,.int .u8 0,.int .u8 0,.int .u8 0,.int .u8 0,.int .u8 0,(.int .u8 x0)]) 16 (.int .i64 x1))) 0 17) fun l1=>K (.agg ⟨l1⟩) hp) else False) else False) else False) else False)
noncomputable def F19_code:Code:=(.seq (.region 0 (opsAt Tryd.f19 (pth 2)) false) (.seq (.region 1 (opsAt Tryd.f19 (pth 5)) false) .ret))
theorem F19_body:Tryd.f19.body=some F19_code:=by kernel_rfl
theorem F19_ok (x0 x1:Int) (hp:HP) (K:Kh) (h:F19 x0 x1 hp K):CF Tryd.prog 19 [(.int .u8 x0),(.int .i64 x1)] hp K:=by
 refine .inl ⟨by kernel_rfl,AC.intro (N:=9) Tryd.func19 F19_body rfl (Nat.le_of_ble_eq_true rfl) ?_⟩
 unfold F19 at h
 refine Ar F19_r0 ?_ (r2 0 1 Rn) (z2 Sn) Sn
 refine Ar (F19_r1 rfl) ?_ (r2 0 1 (rp 4 4 0 Rn)) (z3 Sn) (z1 Sn)
 refine mf h fun h=>mf h fun h=>mf h fun h=>mf h fun h=>?_
 refine AWP.ret ?_
 exact h
end
section
variable {e E:Env} {x0 x1:Int} {k4:List Value} {hp:HP} {K:Env→PV→HP→Prop}
abbrev R20 (p n:Nat):=RW Tryd.prog 9 [4] (opsAt Tryd.f20 (pth p)) (List.range n)
theorem F20_r0:R20 2 1 e V0 hp K=
 K (upd e 4 (sR 4 0)) (upd V0 4 (34,[.int .u8 0,.int .u8 0,.int .u8 0,.int .u8 0,.int .i64 0])) hp:= by kernel_rfl
theorem F20_r1 (h:E=upd (w2 e 4 (sR 4 0) 1 (sI x1)) 0 (sV (.int .u8 x0))):R20 5 5 E (upd V0 4 (34,k4)) hp K=
    (if List.length [(Value.int .u8 1),.int .u8 0,.int .u8 0,(.int .u8 x0)]=4 then (if List.length (List.set (splice [.int .u8 0,.int .u8 0,.int .u8 0,.int .u8 0,.int .i64 0] 0 [(.int .u8 1),.int .u8 0,.int .u8 0,(.int .u8 x0)]) 4 (.int .i64 x1))=5 then (if List.all (List.set (splice [.int .u8 0,.int .u8 0,.int .u8 0,.int .u8 0,.int .i64 0] 0 [(.int .u8 1),.int .u8 0,.int .u8 0,(.int .u8 x0)]) 4 (.int .i64 x1)) one=true then (if 0+List.length (List.set (splice [.int .u8 0,.int .u8 0,.int .u8 0,.int .u8 0,.int .i64 0] 0 [(.int .u8 1),.int .u8 0,.int .u8 0,(.int .u8 x0)]) 4 (.int .i64 x1))≤List.length k4 then (K (w4 E 5 (sV (.int .u8 x0)) 6 (sV (.agg ⟨[(.int .u8 1),.int .u8 0,.int .u8 0,(.int .u8 x0)]⟩)) 7 (sI x1) 8 (sV (.agg ⟨(List.set (splice [.int .u8 0,.int .u8 0,.int .u8 0,.int .u8 0,.int .i64 0] 0 [(.int .u8 1),.int .u8 0,.int .u8 0,(.int .u8 x0)]) 4 (.int .i64 x1))⟩))) (w2 V0 4 (34,k4) 4 (34,(splice k4 0 (List.set (splice [.int .u8 0,.int .u8 0,.int .u8 0,.int .u8 0,.int .i64 0] 0 [(.int .u8 1),.int .u8 0,.int .u8 0,(.int .u8 x0)]) 4 (.int .i64 x1))))) hp) else False) else False) else False) else False):=by subst h; kernel_rfl
def F20 (x0 x1:Int) (hp:HP) (K:Kh):Prop:=
  (if List.length [(Value.int .u8 1),.int .u8 0,.int .u8 0,(.int .u8 x0)]=4 then (if List.length (List.set (splice [.int .u8 0,.int .u8 0,.int .u8 0,.int .u8 0,.int .i64 0] 0 [(.int .u8 1),.int .u8 0,.int .u8 0,(.int .u8 x0)]) 4 (.int .i64 x1))=5 then (if List.all (List.set (splice [.int .u8 0,.int .u8 0,.int .u8 0,.int .u8 0,.int .i64 0] 0 [(.int .u8 1),.int .u8 0,.int .u8 0,(.int .u8 x0)]) 4 (.int .i64 x1)) one=true then (if 0+List.length (List.set (splice [.int .u8 0,.int .u8 0,.int .u8 0,.int .u8 0,.int .i64 0] 0 [(.int .u8 1),.int .u8 0,.int .u8 0,(.int .u8 x0)]) 4 (.int .i64 x1))≤List.length [(Value.int .u8 0),.int .u8 0,.int .u8 0,.int .u8 0,.int .i64 0] then (ldL (cellsN (splice [.int .u8 0,.int .u8 0,.int .u8 0,.int .u8 0,.int .i64 0] 0 (List.set (splice [.int .u8 0,.int .u8 0,.int .u8 0,.int .u8 0,.int .i64 0] 0 [(.int .u8 1),.int .u8 0,.int .u8 0,(.int .u8 x0)]) 4 (.int .i64 x1))) 0 5) fun l1=>K (.agg ⟨l1⟩) hp) else False) else False) else False) else False)
noncomputable def F20_code:Code:=(.seq (.region 0 (opsAt Tryd.f20 (pth 2)) false) (.seq (.region 1 (opsAt Tryd.f20 (pth 5)) false) .ret))
theorem F20_body:Tryd.f20.body=some F20_code:=by kernel_rfl
theorem F20_ok (x0 x1:Int) (hp:HP) (K:Kh) (h:F20 x0 x1 hp K):CF Tryd.prog 20 [(.int .u8 x0),(.int .i64 x1)] hp K:=by
 refine .inl ⟨by kernel_rfl,AC.intro (N:=9) Tryd.func20 F20_body rfl (Nat.le_of_ble_eq_true rfl) ?_⟩
 unfold F20 at h
 refine Ar F20_r0 ?_ (r2 0 1 Rn) (z2 Sn) Sn
 refine Ar (F20_r1 rfl) ?_ (r2 0 1 (rp 4 4 0 Rn)) (z3 Sn) (z1 Sn)
 refine mf h fun h=>mf h fun h=>mf h fun h=>mf h fun h=>?_
 refine AWP.ret ?_
 exact h
end
section
variable {e E:Env} {x1:OA} {x2 x4 x6:Int} {x8:Bool} {k3 k7:List Value} {hp:HP} {K:Env→PV→HP→Prop}
abbrev R27 (p n:Nat):=RW Tryd.prog 69 [3,5,7,46,51] (opsAt Tryd.f27 (pth p)) (List.range n)
theorem F27_r0:R27 2 1 e V0 hp K=
 K (upd e 0 (sB false)) V0 hp:= by kernel_rfl
theorem F27_r1:R27 5 8 e V0 hp K=
    (if List.length [(Value.int .u8 1),.int .u8 0,.int .u8 0,(.int .u8 1)]=4 then (∀ b1:Nat,hp b1=.none→(CF Tryd.prog 17 [(.slice (some ⟨b1,0,none⟩) 1 1),(.int .i64 1024),(.int .i64 1027),(.int .i64 3)] (HP.set hp b1 (.cells 27 (splice [.int .u8 0,.int .u8 0,.int .u8 0,.int .u8 0] 0 [(.int .u8 1),.int .u8 0,.int .u8 0,(.int .u8 1)]) 0)) fun u2 h3=>tup2V u2 fun u4 u5=>ptrV u4 fun p6=>intV u5 .i64 fun i7=>K (w8 e 10 (sV (.agg ⟨[(.int .u8 1),.int .u8 0,.int .u8 0,(.int .u8 1)]⟩)) 11 (sV (.slice (some ⟨b1,0,none⟩) 1 1)) 12 (sV (.tuple ⟨[(.pointer p6),(.int .i64 i7)]⟩)) 9 (sV (.tuple ⟨[(.pointer p6),(.int .i64 i7)]⟩)) 13 (sP p6) 14 (sI i7) 1 (sP p6) 2 (sI i7)) V0 h3)) else False):=by kernel_rfl
theorem F27_r2:R27 75 1 e V0 hp K=
 K (upd e 0 (sB false)) V0 hp:= by kernel_rfl
theorem F27_r3:R27 23 9 (upd e 1 (sP x1)) V0 hp K=
 CF Tryd.prog 19 [(.int .u8 1),(.int .i64 5000)] hp fun u1 h2=>(aggV u1 fun l3=>CF Tryd.prog 18 [(.pointer x1),(.int .i64 17),(.agg ⟨l3⟩)] h2 fun u4 h5=>tup2V u4 fun u6 u7=>aggV u6 fun l8=>intV u7 .i64 fun i9=>if List.length l8=26 then (if List.all l8 one=true then (if 0+List.length l8≤List.length [(Value.int .i64 0),.int .i64 0,.int .u8 0,.int .u8 0,.int .u8 0,.int .u8 0,.int .u8 0,.int .u8 0,.int .u8 0,.int .u8 0,.int .u8 0,.int .u8 0,.int .u8 0,.int .u8 0,.int .u8 0,.int .u8 0,.int .u8 0,.int .u8 0,.int .i64 0,.int .u8 0,.int .u8 0,.int .u8 0,.int .u8 0,.int .i64 0,.bool false,.int .i64 0] then (K (upd (w8 e 1 (sP x1) 22 (sP x1) 23 (sA l3) 24 (sV (.tuple ⟨[(.agg ⟨l8⟩),(.int .i64 i9)]⟩)) 21 (sV (.tuple ⟨[(.agg ⟨l8⟩),(.int .i64 i9)]⟩)) 25 (sA l8) 26 (sI i9) 3 (sR 3 0)) 4 (sI i9)) (w2 V0 3 (36,[.int .i64 0,.int .i64 0,.int .u8 0,.int .u8 0,.int .u8 0,.int .u8 0,.int .u8 0,.int .u8 0,.int .u8 0,.int .u8 0,.int .u8 0,.int .u8 0,.int .u8 0,.int .u8 0,.int .u8 0,.int .u8 0,.int .u8 0,.int .u8 0,.int .i64 0,.int .u8 0,.int .u8 0,.int .u8 0,.int .u8 0,.int .i64 0,.bool false,.int .i64 0]) 3 (36,(splice [.int .i64 0,.int .i64 0,.int .u8 0,.int .u8 0,.int .u8 0,.int .u8 0,.int .u8 0,.int .u8 0,.int .u8 0,.int .u8 0,.int .u8 0,.int .u8 0,.int .u8 0,.int .u8 0,.int .u8 0,.int .u8 0,.int .u8 0,.int .u8 0,.int .i64 0,.int .u8 0,.int .u8 0,.int .u8 0,.int .u8 0,.int .i64 0,.bool false,.int .i64 0] 0 l8))) h5) else False) else False) else False):= by kernel_rfl
theorem F27_r4:R27 47 9 (upd e 1 (sP x1)) (upd V0 3 (36,k3)) hp K=
 CF Tryd.prog 19 [(.int .u8 1),(.int .i64 5000)] hp fun u1 h2=>(aggV u1 fun l3=>CF Tryd.prog 18 [(.pointer x1),(.int .i64 17),(.agg ⟨l3⟩)] h2 fun u4 h5=>tup2V u4 fun u6 u7=>aggV u6 fun l8=>intV u7 .i64 fun i9=>if List.length l8=26 then (if List.all l8 one=true then (if 0+List.length l8≤List.length [(Value.int .i64 0),.int .i64 0,.int .u8 0,.int .u8 0,.int .u8 0,.int .u8 0,.int .u8 0,.int .u8 0,.int .u8 0,.int .u8 0,.int .u8 0,.int .u8 0,.int .u8 0,.int .u8 0,.int .u8 0,.int .u8 0,.int .u8 0,.int .u8 0,.int .i64 0,.int .u8 0,.int .u8 0,.int .u8 0,.int .u8 0,.int .i64 0,.bool false,.int .i64 0] then (K (upd (w8 e 1 (sP x1) 28 (sP x1) 29 (sA l3) 30 (sV (.tuple ⟨[(.agg ⟨l8⟩),(.int .i64 i9)]⟩)) 27 (sV (.tuple ⟨[(.agg ⟨l8⟩),(.int .i64 i9)]⟩)) 31 (sA l8) 32 (sI i9) 5 (sR 5 0)) 6 (sI i9)) (w3 V0 3 (36,k3) 5 (36,[.int .i64 0,.int .i64 0,.int .u8 0,.int .u8 0,.int .u8 0,.int .u8 0,.int .u8 0,.int .u8 0,.int .u8 0,.int .u8 0,.int .u8 0,.int .u8 0,.int .u8 0,.int .u8 0,.int .u8 0,.int .u8 0,.int .u8 0,.int .u8 0,.int .i64 0,.int .u8 0,.int .u8 0,.int .u8 0,.int .u8 0,.int .i64 0,.bool false,.int .i64 0]) 5 (36,(splice [.int .i64 0,.int .i64 0,.int .u8 0,.int .u8 0,.int .u8 0,.int .u8 0,.int .u8 0,.int .u8 0,.int .u8 0,.int .u8 0,.int .u8 0,.int .u8 0,.int .u8 0,.int .u8 0,.int .u8 0,.int .u8 0,.int .u8 0,.int .u8 0,.int .i64 0,.int .u8 0,.int .u8 0,.int .u8 0,.int .u8 0,.int .i64 0,.bool false,.int .i64 0] 0 l8))) h5) else False) else False) else False):= by kernel_rfl
theorem F27_r5:R27 95 9 (upd e 1 (sP x1)) (upd V0 3 (36,k3)) hp K=
 CF Tryd.prog 20 [(.int .u8 1),(.int .i64 1024)] hp fun u1 h2=>(aggV u1 fun l3=>CF Tryd.prog 63 [(.pointer x1),(.int .i64 17),(.agg ⟨l3⟩)] h2 fun u4 h5=>tup2V u4 fun u6 u7=>aggV u6 fun l8=>boolV u7 fun q9=>if List.length l8=26 then (if List.all l8 one=true then (if 0+List.length l8≤List.length [(Value.int .i64 0),.int .i64 0,.int .u8 0,.int .u8 0,.int .u8 0,.int .u8 0,.int .u8 0,.int .u8 0,.int .u8 0,.int .u8 0,.int .u8 0,.int .u8 0,.int .u8 0,.int .u8 0,.int .u8 0,.int .u8 0,.int .u8 0,.int .u8 0,.int .i64 0,.int .u8 0,.int .u8 0,.int .u8 0,.int .u8 0,.int .i64 0,.bool false,.int .i64 0] then (K (upd (w8 e 1 (sP x1) 34 (sP x1) 35 (sA l3) 36 (sV (.tuple ⟨[(.agg ⟨l8⟩),(.bool q9)]⟩)) 33 (sV (.tuple ⟨[(.agg ⟨l8⟩),(.bool q9)]⟩)) 37 (sA l8) 38 (sB q9) 7 (sR 7 0)) 8 (sB q9)) (w3 V0 3 (36,k3) 7 (36,[.int .i64 0,.int .i64 0,.int .u8 0,.int .u8 0,.int .u8 0,.int .u8 0,.int .u8 0,.int .u8 0,.int .u8 0,.int .u8 0,.int .u8 0,.int .u8 0,.int .u8 0,.int .u8 0,.int .u8 0,.int .u8 0,.int .u8 0,.int .u8 0,.int .i64 0,.int .u8 0,.int .u8 0,.int .u8 0,.int .u8 0,.int .i64 0,.bool false,.int .i64 0]) 7 (36,(splice [.int .i64 0,.int .i64 0,.int .u8 0,.int .u8 0,.int .u8 0,.int .u8 0,.int .u8 0,.int .u8 0,.int .u8 0,.int .u8 0,.int .u8 0,.int .u8 0,.int .u8 0,.int .u8 0,.int .u8 0,.int .u8 0,.int .u8 0,.int .u8 0,.int .i64 0,.int .u8 0,.int .u8 0,.int .u8 0,.int .u8 0,.int .i64 0,.bool false,.int .i64 0] 0 l8))) h5) else False) else False) else False):= by kernel_rfl
theorem F27_r6 (h:E=upd (w5 e 8 (sB x8) 7 (sR 7 0) 6 (sI x6) 4 (sI x4) 3 (sR 3 0)) 1 (sP x1)):R27 191 31 E (w2 V0 7 (36,k7) 3 (36,k3)) hp K=
 ite2 (x4==0) (ite2 (x6==5) (ldV (k3)[0]? fun v1=>intV v1 .i64 fun i2=>ite2 (i2==1) (ldL (cellsN k3 19 5) fun l3=>CF Tryd.prog 20 [(.int .u8 1),(.int .i64 1024)] hp fun u4 h5=>aggV u4 fun l6=>eqAgg Tryd.prog 34 l3 l6 fun q7=>ite2 q7 (ite2 x8 (ldL (cellsN k7 0 26) fun l8=>ldL (cellsN k3 0 26) fun l9=>eqAgg Tryd.prog 36 l8 l9 fun q10=>ite2 q10 (CF Tryd.prog 23 [(.pointer x1)] h5 fun u11 h12=>intV u11 .i64 fun i13=>K (w7 (w8 (w8 (w8 E 39 (sI x4) 40 (sB ((x4==0))) 41 (sB true) 42 (sI x6) 43 (sB ((x6==5))) 44 (sB ((x6==5))) 45 (sB true) 46 (sR 3 0)) 47 (sI i2) 48 (sB ((i2==1))) 49 (sB ((i2==1))) 50 (sB true) 51 (sR 3 19) 52 (sA l3) 53 (sA l6) 54 (sB q7)) 55 (sB q7) 56 (sB true) 57 (sB x8) 58 (sB x8) 59 (sB true) 60 (sA l8) 61 (sA l9) 62 (sB q10)) 63 (sB q10) 64 (sB true) 65 (sP x1) 66 (sI i13) 67 (sB ((i13==1))) 68 (sB ((i13==1))) 0 (sB ((i13==1)))) (w2 V0 7 (36,k7) 3 (36,k3)) h12) (K (w7 (w8 (w8 (w8 E 39 (sI x4) 40 (sB ((x4==0))) 41 (sB true) 42 (sI x6) 43 (sB ((x6==5))) 44 (sB ((x6==5))) 45 (sB true) 46 (sR 3 0)) 47 (sI i2) 48 (sB ((i2==1))) 49 (sB ((i2==1))) 50 (sB true) 51 (sR 3 19) 52 (sA l3) 53 (sA l6) 54 (sB q7)) 55 (sB q7) 56 (sB true) 57 (sB x8) 58 (sB x8) 59 (sB true) 60 (sA l8) 61 (sA l9) 62 (sB q10)) 63 (sB q10) 64 (sB false) 65 sU 66 sU 67 sU 68 (sB false) 0 (sB false)) (w2 V0 7 (36,k7) 3 (36,k3)) h5)) (K (w7 (w8 (w8 (w8 E 39 (sI x4) 40 (sB ((x4==0))) 41 (sB true) 42 (sI x6) 43 (sB ((x6==5))) 44 (sB ((x6==5))) 45 (sB true) 46 (sR 3 0)) 47 (sI i2) 48 (sB ((i2==1))) 49 (sB ((i2==1))) 50 (sB true) 51 (sR 3 19) 52 (sA l3) 53 (sA l6) 54 (sB q7)) 55 (sB q7) 56 (sB true) 57 (sB x8) 58 (sB x8) 59 (sB false) 60 sU 61 sU 62 sU) 63 (sB false) 64 (sB false) 65 sU 66 sU 67 sU 68 (sB false) 0 (sB false)) (w2 V0 7 (36,k7) 3 (36,k3)) h5)) (K (w7 (w8 (w8 (w8 E 39 (sI x4) 40 (sB ((x4==0))) 41 (sB true) 42 (sI x6) 43 (sB ((x6==5))) 44 (sB ((x6==5))) 45 (sB true) 46 (sR 3 0)) 47 (sI i2) 48 (sB ((i2==1))) 49 (sB ((i2==1))) 50 (sB true) 51 (sR 3 19) 52 (sA l3) 53 (sA l6) 54 (sB q7)) 55 (sB q7) 56 (sB false) 57 sU 58 (sB false) 59 (sB false) 60 sU 61 sU 62 sU) 63 (sB false) 64 (sB false) 65 sU 66 sU 67 sU 68 (sB false) 0 (sB false)) (w2 V0 7 (36,k7) 3 (36,k3)) h5)) (K (w7 (w8 (w8 (w8 E 39 (sI x4) 40 (sB ((x4==0))) 41 (sB true) 42 (sI x6) 43 (sB ((x6==5))) 44 (sB ((x6==5))) 45 (sB true) 46 (sR 3 0)) 47 (sI i2) 48 (sB ((i2==1))) 49 (sB ((i2==1))) 50 (sB false) 51 sU 52 sU 53 sU 54 sU) 55 (sB false) 56 (sB false) 57 sU 58 (sB false) 59 (sB false) 60 sU 61 sU 62 sU) 63 (sB false) 64 (sB false) 65 sU 66 sU 67 sU 68 (sB false) 0 (sB false)) (w2 V0 7 (36,k7) 3 (36,k3)) hp)) (K (w7 (w8 (w8 (w8 E 39 (sI x4) 40 (sB ((x4==0))) 41 (sB true) 42 (sI x6) 43 (sB ((x6==5))) 44 (sB ((x6==5))) 45 (sB false) 46 sU) 47 sU 48 sU 49 (sB false) 50 (sB false) 51 sU 52 sU 53 sU 54 sU) 55 (sB false) 56 (sB false) 57 sU 58 (sB false) 59 (sB false) 60 sU 61 sU 62 sU) 63 (sB false) 64 (sB false) 65 sU 66 sU 67 sU 68 (sB false) 0 (sB false)) (w2 V0 7 (36,k7) 3 (36,k3)) hp)) (K (w7 (w8 (w8 (w8 E 39 (sI x4) 40 (sB ((x4==0))) 41 (sB false) 42 sU 43 sU 44 (sB false) 45 (sB false) 46 sU) 47 sU 48 sU 49 (sB false) 50 (sB false) 51 sU 52 sU 53 sU 54 sU) 55 (sB false) 56 (sB false) 57 sU 58 (sB false) 59 (sB false) 60 sU 61 sU 62 sU) 63 (sB false) 64 (sB false) 65 sU 66 sU 67 sU 68 (sB false) 0 (sB false)) (w2 V0 7 (36,k7) 3 (36,k3)) hp):= by subst h; kernel_rfl
def F27_j1 (x1:OA) (x20:Bool) (hp:HP) (K:Kh):Prop:=
  (ite2 x20 (K (.bool false) hp) (CF Tryd.prog 19 [(.int .u8 1),(.int .i64 5000)] hp fun u8 h9=>aggV u8 fun l10=>CF Tryd.prog 18 [(.pointer x1),(.int .i64 17),(.agg ⟨l10⟩)] h9 fun u11 h12=>tup2V u11 fun u13 u14=>aggV u13 fun l15=>intV u14 .i64 fun i16=>if List.length l15=26 then (if List.all l15 one=true then (if 0+List.length l15≤List.length [(Value.int .i64 0),.int .i64 0,.int .u8 0,.int .u8 0,.int .u8 0,.int .u8 0,.int .u8 0,.int .u8 0,.int .u8 0,.int .u8 0,.int .u8 0,.int .u8 0,.int .u8 0,.int .u8 0,.int .u8 0,.int .u8 0,.int .u8 0,.int .u8 0,.int .i64 0,.int .u8 0,.int .u8 0,.int .u8 0,.int .u8 0,.int .i64 0,.bool false,.int .i64 0] then (CF Tryd.prog 19 [(.int .u8 1),(.int .i64 5000)] h12 fun u17 h18=>aggV u17 fun l19=>CF Tryd.prog 18 [(.pointer x1),(.int .i64 17),(.agg ⟨l19⟩)] h18 fun u20 h21=>tup2V u20 fun u22 u23=>aggV u22 fun l24=>intV u23 .i64 fun i25=>if List.length l24=26 then (if List.all l24 one=true then (if 0+List.length l24≤List.length [(Value.int .i64 0),.int .i64 0,.int .u8 0,.int .u8 0,.int .u8 0,.int .u8 0,.int .u8 0,.int .u8 0,.int .u8 0,.int .u8 0,.int .u8 0,.int .u8 0,.int .u8 0,.int .u8 0,.int .u8 0,.int .u8 0,.int .u8 0,.int .u8 0,.int .i64 0,.int .u8 0,.int .u8 0,.int .u8 0,.int .u8 0,.int .i64 0,.bool false,.int .i64 0] then (CF Tryd.prog 20 [(.int .u8 1),(.int .i64 1024)] h21 fun u26 h27=>aggV u26 fun l28=>CF Tryd.prog 63 [(.pointer x1),(.int .i64 17),(.agg ⟨l28⟩)] h27 fun u29 h30=>tup2V u29 fun u31 u32=>aggV u31 fun l33=>boolV u32 fun q34=>if List.length l33=26 then (if List.all l33 one=true then (if 0+List.length l33≤List.length [(Value.int .i64 0),.int .i64 0,.int .u8 0,.int .u8 0,.int .u8 0,.int .u8 0,.int .u8 0,.int .u8 0,.int .u8 0,.int .u8 0,.int .u8 0,.int .u8 0,.int .u8 0,.int .u8 0,.int .u8 0,.int .u8 0,.int .u8 0,.int .u8 0,.int .i64 0,.int .u8 0,.int .u8 0,.int .u8 0,.int .u8 0,.int .i64 0,.bool false,.int .i64 0] then (ite2 (i16==0) (ite2 (i25==5) (ldV ((splice [.int .i64 0,.int .i64 0,.int .u8 0,.int .u8 0,.int .u8 0,.int .u8 0,.int .u8 0,.int .u8 0,.int .u8 0,.int .u8 0,.int .u8 0,.int .u8 0,.int .u8 0,.int .u8 0,.int .u8 0,.int .u8 0,.int .u8 0,.int .u8 0,.int .i64 0,.int .u8 0,.int .u8 0,.int .u8 0,.int .u8 0,.int .i64 0,.bool false,.int .i64 0] 0 l15))[0]? fun v35=>intV v35 .i64 fun i36=>ite2 (i36==1) (ldL (cellsN (splice [.int .i64 0,.int .i64 0,.int .u8 0,.int .u8 0,.int .u8 0,.int .u8 0,.int .u8 0,.int .u8 0,.int .u8 0,.int .u8 0,.int .u8 0,.int .u8 0,.int .u8 0,.int .u8 0,.int .u8 0,.int .u8 0,.int .u8 0,.int .u8 0,.int .i64 0,.int .u8 0,.int .u8 0,.int .u8 0,.int .u8 0,.int .i64 0,.bool false,.int .i64 0] 0 l15) 19 5) fun l37=>CF Tryd.prog 20 [(.int .u8 1),(.int .i64 1024)] h30 fun u38 h39=>aggV u38 fun l40=>eqAgg Tryd.prog 34 l37 l40 fun q41=>ite2 q41 (ite2 q34 (ldL (cellsN (splice [.int .i64 0,.int .i64 0,.int .u8 0,.int .u8 0,.int .u8 0,.int .u8 0,.int .u8 0,.int .u8 0,.int .u8 0,.int .u8 0,.int .u8 0,.int .u8 0,.int .u8 0,.int .u8 0,.int .u8 0,.int .u8 0,.int .u8 0,.int .u8 0,.int .i64 0,.int .u8 0,.int .u8 0,.int .u8 0,.int .u8 0,.int .i64 0,.bool false,.int .i64 0] 0 l33) 0 26) fun l42=>ldL (cellsN (splice [.int .i64 0,.int .i64 0,.int .u8 0,.int .u8 0,.int .u8 0,.int .u8 0,.int .u8 0,.int .u8 0,.int .u8 0,.int .u8 0,.int .u8 0,.int .u8 0,.int .u8 0,.int .u8 0,.int .u8 0,.int .u8 0,.int .u8 0,.int .u8 0,.int .i64 0,.int .u8 0,.int .u8 0,.int .u8 0,.int .u8 0,.int .i64 0,.bool false,.int .i64 0] 0 l15) 0 26) fun l43=>eqAgg Tryd.prog 36 l42 l43 fun q44=>ite2 q44 (CF Tryd.prog 23 [(.pointer x1)] h39 fun u45 h46=>intV u45 .i64 fun i47=>K (.bool (i47==1)) h46) (K (.bool false) h39)) (K (.bool false) h39)) (K (.bool false) h39)) (K (.bool false) h30)) (K (.bool false) h30)) (K (.bool false) h30)) else False) else False) else False) else False) else False) else False) else False) else False) else False))
theorem F27_r7 (h:E=upd (upd e 2 (sI x2)) 1 (sP x1)):R27 19 6 E V0 hp K=
 ite2 (x2 != 0) (K (w6 E 15 (sI x2) 16 (sB ((x2 != 0))) 17 (sB true) 18 sU 19 sU 20 (sB true)) V0 hp) (K (w6 E 15 (sI x2) 16 (sB ((x2 != 0))) 17 (sB false) 18 (sP x1) 19 (sB ((Option.isNone x1))) 20 (sB ((Option.isNone x1)))) V0 hp):= by subst h; kernel_rfl
def F27 (hp:HP) (K:Kh):Prop:=
  (if List.length [(Value.int .u8 1),.int .u8 0,.int .u8 0,(.int .u8 1)]=4 then (∀ b1:Nat,hp b1=.none→(CF Tryd.prog 17 [(.slice (some ⟨b1,0,none⟩) 1 1),(.int .i64 1024),(.int .i64 1027),(.int .i64 3)] (HP.set hp b1 (.cells 27 (splice [.int .u8 0,.int .u8 0,.int .u8 0,.int .u8 0] 0 [(.int .u8 1),.int .u8 0,.int .u8 0,(.int .u8 1)]) 0)) fun u2 h3=>tup2V u2 fun u4 u5=>ptrV u4 fun p6=>intV u5 .i64 fun i7=>ite2 (i7 != 0) (F27_j1 p6 true h3  K) (F27_j1 p6 (Option.isNone p6) h3  K))) else False)
noncomputable abbrev o27 (k n:Nat):Code:=.region k (opsAt Tryd.f27 (pth n)) false
noncomputable def F27_code:Code:=(.seq (o27 0 2) (.seq (o27 1 5) (.seq (.seq (o27 2 19) (.cond (.tmp 20) (.seq (o27 3 75) .ret) .skip)) (.seq (o27 4 23) (.seq (o27 5 47) (.seq (o27 6 95) (.seq (.region 7 (opsAt Tryd.f27 (pth 191)) true) .ret)))))))
theorem F27_body:Tryd.f27.body=some F27_code:=by kernel_rfl
theorem F27_ok (hp:HP) (K:Kh) (h:F27  hp K):CF Tryd.prog 27 [] hp K:=by
 refine .inl ⟨by kernel_rfl,AC.intro (N:=69) Tryd.func27 F27_body rfl (Nat.le_of_ble_eq_true rfl) ?_⟩
 unfold F27 at h
 refine Ar F27_r0 ?_ Rn Sn Sn
 refine Ar F27_r1 ?_ Rn Sn Sn
 refine mf h fun h=>?_
 refine fun b1 hb_b_1=>?_
 replace h:=h b1 hb_b_1
 refine mC h fun u2 h3 h=>mT h fun u4 u5 h=>mP h fun p6 h=>mI h fun i7 h=>?_
 refine Aq (As (fun env pv hp=>∃ x1 x20,Sub (w2 E0 20 (sB x20) 1 (sP x1)) env∧Sub V0 pv∧F27_j1 x1 x20 hp  K) ?_ ?_)
 ·refine Ag (F27_r7 rfl) ?_ (r2 1 2 Rn) (z2 Sn) Sn
  refine mt h (fun h=>?_) (fun h=>?_)
  ·exact ⟨_,_,(z2 Sn),Sn,h⟩
  ·exact ⟨_,_,(z2 Sn),Sn,h⟩
 ·rintro env pv hp ⟨x1,x20,he,hv,h⟩
  refine Ae ?_ (r2 1 20 Rn) he hv
  unfold F27_j1 at h
  refine Ac h rfl (fun h=>?_) (fun h=>?_)
  ·refine Ar F27_r2 ?_ Rn Sn Sn
   refine AWP.ret ?_
   exact h
  ·refine AWP.skip (Ar F27_r3 ?_ (r1 1 Rn) (z1 Sn) Sn)
   refine mC h fun u8 h9 h=>mA h fun l10 h=>mC h fun u11 h12 h=>mT h fun u13 u14 h=>mA h fun l15 h=>mI h fun i16 h=>mf h fun h=>mf h fun h=>mf h fun h=>?_
   refine Ar F27_r4 ?_ (r1 1 (rp 3 3 0 (r1 4 Rn))) (z3 Sn) (z1 Sn)
   refine mC h fun u17 h18 h=>mA h fun l19 h=>mC h fun u20 h21 h=>mT h fun u22 u23 h=>mA h fun l24 h=>mI h fun i25 h=>mf h fun h=>mf h fun h=>mf h fun h=>?_
   refine Ar F27_r5 ?_ (r1 1 (rp 3 3 0 (r2 4 6 Rn))) (z4 Sn) (z1 Sn)
   refine mC h fun u26 h27 h=>mA h fun l28 h=>mC h fun u29 h30 h=>mT h fun u31 u32 h=>mA h fun l33 h=>mB h fun q34 h=>mf h fun h=>mf h fun h=>mf h fun h=>?_
   refine Aq (AWP.rgnD (by kernel_rfl) (by kernel_rfl) (F27_r6 rfl) ?_ (r1 1 (rp 3 3 0 (r2 4 6 (rp 7 7 0 (r1 8 Rn))))) (z6 Sn) (z2 Sn))
   refine mt h (fun h=>?_) (fun h=>?_)
   ·refine mt h (fun h=>?_) (fun h=>?_)
    ·refine mV h fun v35 h=>mI h fun i36 h=>?_
     refine mt h (fun h=>?_) (fun h=>?_)
     ·refine mL h fun l37 h=>mC h fun u38 h39 h=>mA h fun l40 h=>mE h fun q41 h=>?_
      refine mt h (fun h=>?_) (fun h=>?_)
      ·refine mt h (fun h=>?_) (fun h=>?_)
       ·refine mL h fun l42 h=>mL h fun l43 h=>mE h fun q44 h=>?_
        refine mt h (fun h=>?_) (fun h=>?_)
        ·refine mC h fun u45 h46 h=>mI h fun i47 h=>?_
         refine AWP.ret ?_
         exact h
        ·refine AWP.ret ?_
         exact h
       ·refine AWP.ret ?_
        exact h
      ·refine AWP.ret ?_
       exact h
     ·refine AWP.ret ?_
      exact h
    ·refine AWP.ret ?_
     exact h
   ·refine AWP.ret ?_
    exact h
end
section
variable {e E:Env} {x0a:OA} {x0n x0c:Nat} {x1 x2:Int} {x3a:OA} {x3n x3c:Nat} {hp:HP} {K:Env→PV→HP→Prop}
abbrev R28 (p n:Nat):=RW Tryd.prog 34 [] (opsAt Tryd.f28 (pth p)) (List.range n)
theorem F28_r0:R28 2 1 e V0 hp K=
 K (upd e 8 (sB false)) V0 hp:= by kernel_rfl
theorem F28_r1 (h:E=upd (w3 e 3 (sS x3a x3n x3c) 2 (sI x2) 1 (sI x1)) 0 (sS x0a x0n x0c)):R28 5 26 E V0 hp K=
 ite2 (decide (((x0n:Nat):Int) > 10)) (K (w2 (w8 (w8 (w8 E 9 (sS x0a x0n x0c) 10 (sI ((x0n:Nat))) 11 (sB ((decide (((x0n:Nat):Int) > 10)))) 12 (sB true) 13 sU 14 sU 15 sU 16 (sB true)) 17 (sB true) 18 sU 19 sU 20 sU 21 sU 22 (sB true) 23 (sB true) 24 sU) 25 sU 26 sU 27 sU 28 sU 29 sU 30 sU 31 sU 32 sU) 33 (sB true) 8 (sB true)) V0 hp) (ite2 (decide (((x3n:Nat):Int) > 150)) (K (w2 (w8 (w8 (w8 E 9 (sS x0a x0n x0c) 10 (sI ((x0n:Nat))) 11 (sB ((decide (((x0n:Nat):Int) > 10)))) 12 (sB false) 13 (sS x3a x3n x3c) 14 (sI ((x3n:Nat))) 15 (sB ((decide (((x3n:Nat):Int) > 150)))) 16 (sB ((decide (((x3n:Nat):Int) > 150))))) 17 (sB true) 18 sU 19 sU 20 sU 21 sU 22 (sB true) 23 (sB true) 24 sU) 25 sU 26 sU 27 sU 28 sU 29 sU 30 sU 31 sU 32 sU) 33 (sB true) 8 (sB true)) V0 hp) (ite2 (decide (((wr (x2-x1)):Int) > 60)) (K (w2 (w8 (w8 (w8 E 9 (sS x0a x0n x0c) 10 (sI ((x0n:Nat))) 11 (sB ((decide (((x0n:Nat):Int) > 10)))) 12 (sB false) 13 (sS x3a x3n x3c) 14 (sI ((x3n:Nat))) 15 (sB ((decide (((x3n:Nat):Int) > 150)))) 16 (sB ((decide (((x3n:Nat):Int) > 150))))) 17 (sB false) 18 (sI x2) 19 (sI x1) 20 (sI ((wr (x2-x1)))) 21 (sB ((decide (((wr (x2-x1)):Int) > 60)))) 22 (sB ((decide (((wr (x2-x1)):Int) > 60)))) 23 (sB true) 24 sU) 25 sU 26 sU 27 sU 28 sU 29 sU 30 sU 31 sU 32 sU) 33 (sB true) 8 (sB true)) V0 hp) (ite2 (decide (((wr (x2-x1)):Int)<0)) (K (w2 (w8 (w8 (w8 E 9 (sS x0a x0n x0c) 10 (sI ((x0n:Nat))) 11 (sB ((decide (((x0n:Nat):Int) > 10)))) 12 (sB false) 13 (sS x3a x3n x3c) 14 (sI ((x3n:Nat))) 15 (sB ((decide (((x3n:Nat):Int) > 150)))) 16 (sB ((decide (((x3n:Nat):Int) > 150))))) 17 (sB false) 18 (sI x2) 19 (sI x1) 20 (sI ((wr (x2-x1)))) 21 (sB ((decide (((wr (x2-x1)):Int) > 60)))) 22 (sB ((decide (((wr (x2-x1)):Int) > 60)))) 23 (sB false) 24 (sI x2)) 25 (sI x1) 26 (sI ((wr (x2-x1)))) 27 (sB ((decide (((wr (x2-x1)):Int)<0)))) 28 (sB true) 29 (sI x2) 30 (sI x1) 31 (sB (decide (x2 > x1))) 32 (sB (decide (x2 > x1)))) 33 (sB (decide (x2 > x1))) 8 (sB (decide (x2 > x1)))) V0 hp) (K (w2 (w8 (w8 (w8 E 9 (sS x0a x0n x0c) 10 (sI ((x0n:Nat))) 11 (sB ((decide (((x0n:Nat):Int) > 10)))) 12 (sB false) 13 (sS x3a x3n x3c) 14 (sI ((x3n:Nat))) 15 (sB ((decide (((x3n:Nat):Int) > 150)))) 16 (sB ((decide (((x3n:Nat):Int) > 150))))) 17 (sB false) 18 (sI x2) 19 (sI x1) 20 (sI ((wr (x2-x1)))) 21 (sB ((decide (((wr (x2-x1)):Int) > 60)))) 22 (sB ((decide (((wr (x2-x1)):Int) > 60)))) 23 (sB false) 24 (sI x2)) 25 (sI x1) 26 (sI ((wr (x2-x1)))) 27 (sB ((decide (((wr (x2-x1)):Int)<0)))) 28 (sB false) 29 sU 30 sU 31 sU 32 (sB false)) 33 (sB false) 8 (sB false)) V0 hp)))):= by subst h; kernel_rfl
def F28 (x0a:OA) (x0n x0c:Nat) (x1 x2:Int) (x3a:OA) (x3n x3c:Nat) (hp:HP) (K:Kh):Prop:=
  (ite2 (decide (((x0n:Nat):Int) > 10)) (K (.bool true) hp) (ite2 (decide (((x3n:Nat):Int) > 150)) (K (.bool true) hp) (ite2 (decide (((IntKind.wrap .i64 (x2-x1)):Int) > 60)) (K (.bool true) hp) (ite2 (decide (((IntKind.wrap .i64 (x2-x1)):Int)<0)) (K (.bool (decide (x2 > x1))) hp) (K (.bool false) hp)))))
noncomputable def F28_code:Code:=(.seq (.region 0 (opsAt Tryd.f28 (pth 2)) false) (.seq (.region 1 (opsAt Tryd.f28 (pth 5)) false) .ret))
theorem F28_body:Tryd.f28.body=some F28_code:=by kernel_rfl
theorem F28_ok (x0a:OA) (x0n x0c:Nat) (x1 x2:Int) (x3a:OA) (x3n x3c:Nat) (hp:HP) (K:Kh) (h:F28 x0a x0n x0c x1 x2 x3a x3n x3c hp K):CF Tryd.prog 28 [(.slice x0a x0n x0c),(.int .i64 x1),(.int .i64 x2),(.slice x3a x3n x3c)] hp K:=by
 refine .inl ⟨by kernel_rfl,AC.intro (N:=34) Tryd.func28 F28_body rfl (Nat.le_of_ble_eq_true rfl) ?_⟩
 unfold F28 at h
 refine Ar F28_r0 ?_ (r4 0 1 2 3 Rn) (z4 Sn) Sn
 refine Ar (F28_r1 rfl) ?_ (r4 0 1 2 3 Rn) (z4 Sn) Sn
 refine mt h (fun h=>?_) (fun h=>?_)
 ·refine AWP.ret ?_
  exact h
 ·refine mt h (fun h=>?_) (fun h=>?_)
  ·refine AWP.ret ?_
   exact h
  ·refine mt h (fun h=>?_) (fun h=>?_)
   ·refine AWP.ret ?_
    exact h
   ·refine mt h (fun h=>?_) (fun h=>?_)
    ·refine AWP.ret ?_
     exact h
    ·refine AWP.ret ?_
     exact h
end
section
variable {e E:Env} {x0:OA} {x1:List Value} {x4a:OA} {x4n x4c:Nat} {x5 x6 x41:Int} {k3:List Value} {hp:HP} {K:Env→PV→HP→Prop}
abbrev R60 (p n:Nat):=RW Tryd.prog 92 [3,9,15,19,24,40,45,47,49,56,58,60,63,65,72,74,76] (opsAt Tryd.f60 (pth p)) (List.range n)
theorem F60_r0:R60 2 1 (upd e 1 (sA x1)) V0 hp K=
 K (w2 e 1 (sA x1) 3 (sR 3 0)) (upd V0 3 (108,x1)) hp:= by kernel_rfl
theorem F60_r1:R60 5 3 (upd e 0 (sP x0)) (upd V0 3 (108,k3)) hp K=
 CF Tryd.prog 61 [(.pointer x0)] hp fun u1 h2=>(slcV u1 fun a3 n4 c5=>K (w4 e 0 (sP x0) 7 (sP x0) 8 (sS a3 n4 c5) 4 (sS a3 n4 c5)) (upd V0 3 (108,k3)) h2):= by kernel_rfl
theorem F60_r2:R60 11 3 (upd e 3 (sR 3 0)) (upd V0 3 (108,k3)) hp K=
 ldV (k3)[6]? fun v1=>(intV v1 .i64 fun i2=>K (w4 e 3 (sR 3 0) 9 (sR 3 6) 10 (sI i2) 5 (sI i2)) (upd V0 3 (108,k3)) hp):= by kernel_rfl
theorem F60_r3:R60 47 2 (upd e 3 (sR 3 0)) (upd V0 3 (108,k3)) hp K=
 ldV (k3)[0]? fun v1=>(intV v1 .u8 fun i2=>K (w3 e 3 (sR 3 0) 40 (sR 3 0) 41 (sV (.int .u8 i2))) (upd V0 3 (108,k3)) hp):= by kernel_rfl
theorem F60_r4:R60 159 2 (upd e 41 (sV (.int .u8 x41))) (upd V0 3 (108,k3)) hp K=
 K (w3 e 41 (sV (.int .u8 x41)) 43 (sB ((x41==0))) 42 (sB ((x41==0)))) (upd V0 3 (108,k3)) hp:= by kernel_rfl
theorem F60_r5:R60 351 9 (w2 e 3 (sR 3 0) 0 (sP x0)) (upd V0 3 (108,k3)) hp K=
 ldV (k3)[3]? fun v1=>(intV v1 .i64 fun i2=>ldV (k3)[1]? fun v3=>intV v3 .u8 fun i4=>ldV (k3)[4]? fun v5=>intV v5 .i64 fun i6=>CF Tryd.prog 19 [(.int .u8 i4),(.int .i64 i6)] hp fun u7 h8=>aggV u7 fun l9=>CF Tryd.prog 18 [(.pointer x0),(.int .i64 i2),(.agg ⟨l9⟩)] h8 fun u10 h11=>tup2V u10 fun u12 u13=>aggV u12 fun l14=>intV u13 .i64 fun i15=>K (w3 (w8 e 3 (sR 3 0) 0 (sP x0) 44 (sP x0) 45 (sR 3 3) 46 (sI i2) 47 (sR 3 1) 48 (sV (.int .u8 i4)) 49 (sR 3 4)) 50 (sI i6) 51 (sA l9) 52 (sV (.tuple ⟨[(.agg ⟨l14⟩),(.int .i64 i15)]⟩))) (upd V0 3 (108,k3)) h11):= by kernel_rfl
theorem F60_r6:R60 735 2 (upd e 41 (sV (.int .u8 x41))) (upd V0 3 (108,k3)) hp K=
 K (w3 e 41 (sV (.int .u8 x41)) 54 (sB ((x41==1))) 53 (sB ((x41==1)))) (upd V0 3 (108,k3)) hp:= by kernel_rfl
theorem F60_r7:R60 1503 14 (w2 e 3 (sR 3 0) 0 (sP x0)) (upd V0 3 (108,k3)) hp K=
 ldV (k3)[3]? fun v1=>(intV v1 .i64 fun i2=>ldV (k3)[1]? fun v3=>intV v3 .u8 fun i4=>ldV (k3)[4]? fun v5=>intV v5 .i64 fun i6=>CF Tryd.prog 19 [(.int .u8 i4),(.int .i64 i6)] hp fun u7 h8=>aggV u7 fun l9=>ldV (k3)[2]? fun v10=>intV v10 .u8 fun i11=>ldV (k3)[5]? fun v12=>intV v12 .i64 fun i13=>CF Tryd.prog 20 [(.int .u8 i11),(.int .i64 i13)] h8 fun u14 h15=>aggV u14 fun l16=>CF Tryd.prog 24 [(.pointer x0),(.int .i64 i2),(.agg ⟨l9⟩),(.agg ⟨l16⟩)] h15 fun u17 h18=>tup2V u17 fun u19 u20=>aggV u19 fun l21=>intV u20 .i64 fun i22=>K (w8 (w8 e 3 (sR 3 0) 0 (sP x0) 55 (sP x0) 56 (sR 3 3) 57 (sI i2) 58 (sR 3 1) 59 (sV (.int .u8 i4)) 60 (sR 3 4)) 61 (sI i6) 62 (sA l9) 63 (sR 3 2) 64 (sV (.int .u8 i11)) 65 (sR 3 5) 66 (sI i13) 67 (sA l16) 68 (sV (.tuple ⟨[(.agg ⟨l21⟩),(.int .i64 i22)]⟩))) (upd V0 3 (108,k3)) h18):= by kernel_rfl
theorem F60_r8:R60 3039 2 (upd e 41 (sV (.int .u8 x41))) (upd V0 3 (108,k3)) hp K=
 K (w3 e 41 (sV (.int .u8 x41)) 70 (sB ((x41==2))) 69 (sB ((x41==2)))) (upd V0 3 (108,k3)) hp:= by kernel_rfl
theorem F60_r9:R60 6111 9 (w2 e 3 (sR 3 0) 0 (sP x0)) (upd V0 3 (108,k3)) hp K=
 ldV (k3)[3]? fun v1=>(intV v1 .i64 fun i2=>ldV (k3)[1]? fun v3=>intV v3 .u8 fun i4=>ldV (k3)[4]? fun v5=>intV v5 .i64 fun i6=>CF Tryd.prog 19 [(.int .u8 i4),(.int .i64 i6)] hp fun u7 h8=>aggV u7 fun l9=>CF Tryd.prog 25 [(.pointer x0),(.int .i64 i2),(.agg ⟨l9⟩)] h8 fun u10 h11=>tup2V u10 fun u12 u13=>aggV u12 fun l14=>intV u13 .i64 fun i15=>K (w3 (w8 e 3 (sR 3 0) 0 (sP x0) 71 (sP x0) 72 (sR 3 3) 73 (sI i2) 74 (sR 3 1) 75 (sV (.int .u8 i4)) 76 (sR 3 4)) 77 (sI i6) 78 (sA l9) 79 (sV (.tuple ⟨[(.agg ⟨l14⟩),(.int .i64 i15)]⟩))) (upd V0 3 (108,k3)) h11):= by kernel_rfl
theorem F60_r10:R60 24543 3 (w2 e 5 (sI x5) 0 (sP x0)) V0 hp K=
 CF Tryd.prog 21 [(.pointer x0),(.int .i64 x5)] hp fun u1 h2=>(intV u1 .i64 fun i3=>K (w5 e 5 (sI x5) 0 (sP x0) 83 (sP x0) 84 (sI x5) 85 (sI i3)) V0 h2):= by kernel_rfl
theorem F60_r11:R60 98271 3 (w2 e 5 (sI x5) 0 (sP x0)) V0 hp K=
 CF Tryd.prog 22 [(.pointer x0),(.int .i64 x5)] hp fun u1 h2=>(tup2V u1 fun u3 u4=>boolV u3 fun q5=>intV u4 .i64 fun i6=>K (w5 e 5 (sI x5) 0 (sP x0) 89 (sP x0) 90 (sI x5) 91 (sV (.tuple ⟨[(.bool q5),(.int .i64 i6)]⟩))) V0 h2):= by kernel_rfl
def F60_j3 (x0:OA) (x5:Int) (x86:Bool) (hp:HP) (K:Kh):Prop:=
  (ite2 x86 (CF Tryd.prog 22 [(.pointer x0),(.int .i64 x5)] hp fun u65 h66=>tup2V u65 fun u67 u68=>boolV u67 fun q69=>intV u68 .i64 fun i70=>K (.tuple ⟨[]⟩) h66) (K (.tuple ⟨[]⟩) hp))
theorem F60_r12:R60 81887 2 (upd e 41 (sV (.int .u8 x41))) V0 hp K=
 K (w3 e 41 (sV (.int .u8 x41)) 87 (sB ((x41==4))) 86 (sB ((x41==4)))) V0 hp:= by kernel_rfl
theorem F60_r13:R60 245727 2 (upd e 41 (sV (.int .u8 x41))) V0 hp K=
 K (w3 e 41 (sV (.int .u8 x41)) 88 (sB ((x41==7))) 86 (sB ((x41==7)))) V0 hp:= by kernel_rfl
def F60_j2 (x0:OA) (x5 x41:Int) (x80:Bool) (hp:HP) (K:Kh):Prop:=
  (ite2 x80 (CF Tryd.prog 21 [(.pointer x0),(.int .i64 x5)] hp fun u62 h63=>intV u62 .i64 fun i64=>K (.tuple ⟨[]⟩) h63) (ite2 (x41==4) (F60_j3 x0 x5 (x41==4) hp  K) (F60_j3 x0 x5 (x41==7) hp  K)))
theorem F60_r14:R60 20447 2 (upd e 41 (sV (.int .u8 x41))) V0 hp K=
 K (w3 e 41 (sV (.int .u8 x41)) 81 (sB ((x41==3))) 80 (sB ((x41==3)))) V0 hp:= by kernel_rfl
theorem F60_r15:R60 61407 2 (upd e 41 (sV (.int .u8 x41))) V0 hp K=
 K (w3 e 41 (sV (.int .u8 x41)) 82 (sB ((x41==6))) 80 (sB ((x41==6)))) V0 hp:= by kernel_rfl
def F60_j1 (x0:OA) (x5:Int) (k3:List Value) (hp:HP) (K:Kh):Prop:=
  (ldV (k3)[0]? fun v8=>intV v8 .u8 fun i9=>ite2 (i9==0) (ldV (k3)[3]? fun v10=>intV v10 .i64 fun i11=>ldV (k3)[1]? fun v12=>intV v12 .u8 fun i13=>ldV (k3)[4]? fun v14=>intV v14 .i64 fun i15=>CF Tryd.prog 19 [(.int .u8 i13),(.int .i64 i15)] hp fun u16 h17=>aggV u16 fun l18=>CF Tryd.prog 18 [(.pointer x0),(.int .i64 i11),(.agg ⟨l18⟩)] h17 fun u19 h20=>tup2V u19 fun u21 u22=>aggV u21 fun l23=>intV u22 .i64 fun i24=>K (.tuple ⟨[]⟩) h20) (ite2 (i9==1) (ldV (k3)[3]? fun v25=>intV v25 .i64 fun i26=>ldV (k3)[1]? fun v27=>intV v27 .u8 fun i28=>ldV (k3)[4]? fun v29=>intV v29 .i64 fun i30=>CF Tryd.prog 19 [(.int .u8 i28),(.int .i64 i30)] hp fun u31 h32=>aggV u31 fun l33=>ldV (k3)[2]? fun v34=>intV v34 .u8 fun i35=>ldV (k3)[5]? fun v36=>intV v36 .i64 fun i37=>CF Tryd.prog 20 [(.int .u8 i35),(.int .i64 i37)] h32 fun u38 h39=>aggV u38 fun l40=>CF Tryd.prog 24 [(.pointer x0),(.int .i64 i26),(.agg ⟨l33⟩),(.agg ⟨l40⟩)] h39 fun u41 h42=>tup2V u41 fun u43 u44=>aggV u43 fun l45=>intV u44 .i64 fun i46=>K (.tuple ⟨[]⟩) h42) (ite2 (i9==2) (ldV (k3)[3]? fun v47=>intV v47 .i64 fun i48=>ldV (k3)[1]? fun v49=>intV v49 .u8 fun i50=>ldV (k3)[4]? fun v51=>intV v51 .i64 fun i52=>CF Tryd.prog 19 [(.int .u8 i50),(.int .i64 i52)] hp fun u53 h54=>aggV u53 fun l55=>CF Tryd.prog 25 [(.pointer x0),(.int .i64 i48),(.agg ⟨l55⟩)] h54 fun u56 h57=>tup2V u56 fun u58 u59=>aggV u58 fun l60=>intV u59 .i64 fun i61=>K (.tuple ⟨[]⟩) h57) (ite2 (i9==3) (F60_j2 x0 x5 i9 (i9==3) hp  K) (F60_j2 x0 x5 i9 (i9==6) hp  K)))))
theorem F60_r16:R60 151 6 (w2 e 4 (sS x4a x4n x4c) 3 (sR 3 0)) (upd V0 3 (108,k3)) hp K=
    (ldV (k3)[6]? fun v1=>intV v1 .i64 fun i2=>(((x4n:Nat):Int)≠0)∧(K (w8 e 4 (sS x4a x4n x4c) 3 (sR 3 0) 24 (sR 3 6) 25 (sI i2) 26 (sS x4a x4n x4c) 27 (sI ((x4n:Nat))) 28 (sI ((Int.tmod i2 (x4n:Nat)))) 6 (sI ((Int.tmod i2 (x4n:Nat))))) (upd V0 3 (108,k3)) hp)):=by kernel_rfl
theorem F60_r17:R60 471 6 (w2 e 6 (sI x6) 4 (sS x4a x4n x4c)) (upd V0 3 (108,k3)) hp K=
    ((0≤x6)∧(x6<x4n)∧(ptrN x4a fun b1 o2=>ldV (HP.cell hp b1 ((o2+Int.toNat x6*26)+0)) fun v3=>intV v3 .i64 fun i4=>K (w8 e 6 (sI x6) 4 (sS x4a x4n x4c) 35 (sS x4a x4n x4c) 36 (sI x6) 37 (sQ b1 (o2+Int.toNat x6*26)) 38 (sQ b1 ((o2+Int.toNat x6*26)+0)) 39 (sI i4) 5 (sI i4)) (upd V0 3 (108,k3)) hp)):=by kernel_rfl
def F60_j5 (x0 x4a:OA) (x4n x4c:Nat) (x6:Int) (k3:List Value) (hp:HP) (K:Kh):Prop:=
  ((0≤x6)∧(x6<x4n)∧(ptrN x4a fun b73 o74=>ldV (HP.cell hp b73 ((o74+Int.toNat x6*26)+0)) fun v75=>intV v75 .i64 fun i76=>F60_j1 x0 i76 k3 hp  K))
theorem F60_r18:R60 599 2 (upd e 6 (sI x6)) (upd V0 3 (108,k3)) hp K=
 K (w3 e 6 (sI x6) 29 (sI x6) 30 (sB (decide (x6<0)))) (upd V0 3 (108,k3)) hp:= by kernel_rfl
theorem F60_r19:R60 1367 5 (w2 e 6 (sI x6) 4 (sS x4a x4n x4c)) (upd V0 3 (108,k3)) hp K=
 K (w7 e 6 (sI x6) 4 (sS x4a x4n x4c) 31 (sI x6) 32 (sS x4a x4n x4c) 33 (sI ((x4n:Nat))) 34 (sI ((wr (x6+(x4n:Nat))))) 6 (sI ((wr (x6+(x4n:Nat)))))) (upd V0 3 (108,k3)) hp:= by kernel_rfl
def F60_j4 (x0 x4a:OA) (x4n x4c:Nat) (x5:Int) (x23:Bool) (k3:List Value) (hp:HP) (K:Kh):Prop:=
  (ite2 x23 (ldV (k3)[6]? fun v71=>intV v71 .i64 fun i72=>(((x4n:Nat):Int)≠0)∧(ite2 (decide (((Int.tmod i72 (x4n:Nat)):Int)<0)) (F60_j5 x0 x4a x4n x4c (IntKind.wrap .i64 ((Int.tmod i72 (x4n:Nat))+(x4n:Nat))) k3 hp  K) (F60_j5 x0 x4a x4n x4c (Int.tmod i72 (x4n:Nat)) k3 hp  K))) (F60_j1 x0 x5 k3 hp  K))
theorem F60_r20 (h:E=upd (upd e 4 (sS x4a x4n x4c)) 3 (sR 3 0)):R60 39 13 E (upd V0 3 (108,k3)) hp K=
 ite2 (decide (((x4n:Nat):Int) > 0)) (ldV (k3)[0]? fun v1=>intV v1 .u8 fun i2=>ite2 (i2==3) (K (w5 (w8 E 11 (sS x4a x4n x4c) 12 (sI ((x4n:Nat))) 13 (sB ((decide (((x4n:Nat):Int) > 0)))) 14 (sB true) 15 (sR 3 0) 16 (sV (.int .u8 i2)) 17 (sB ((i2==3))) 18 (sB true)) 19 sU 20 sU 21 sU 22 (sB true) 23 (sB true)) (upd V0 3 (108,k3)) hp) (ldV (k3)[0]? fun v3=>intV v3 .u8 fun i4=>K (w5 (w8 E 11 (sS x4a x4n x4c) 12 (sI ((x4n:Nat))) 13 (sB ((decide (((x4n:Nat):Int) > 0)))) 14 (sB true) 15 (sR 3 0) 16 (sV (.int .u8 i2)) 17 (sB ((i2==3))) 18 (sB false)) 19 (sR 3 0) 20 (sV (.int .u8 i4)) 21 (sB ((i4==4))) 22 (sB ((i4==4))) 23 (sB ((i4==4)))) (upd V0 3 (108,k3)) hp)) (K (w5 (w8 E 11 (sS x4a x4n x4c) 12 (sI ((x4n:Nat))) 13 (sB ((decide (((x4n:Nat):Int) > 0)))) 14 (sB false) 15 sU 16 sU 17 sU 18 sU) 19 sU 20 sU 21 sU 22 sU 23 (sB false)) (upd V0 3 (108,k3)) hp):= by subst h; kernel_rfl
def F60 (x0:OA) (x1:List Value) (hp:HP) (K:Kh):Prop:=
  (CF Tryd.prog 61 [(.pointer x0)] hp fun u1 h2=>slcV u1 fun a3 n4 c5=>ldV (x1)[6]? fun v6=>intV v6 .i64 fun i7=>ite2 (decide (((n4:Nat):Int) > 0)) (ldV (x1)[0]? fun v77=>intV v77 .u8 fun i78=>ite2 (i78==3) (F60_j4 x0 a3 n4 c5 i7 true x1 h2  K) (ldV (x1)[0]? fun v79=>intV v79 .u8 fun i80=>F60_j4 x0 a3 n4 c5 i7 (i80==4) x1 h2  K)) (F60_j4 x0 a3 n4 c5 i7 false x1 h2  K))
noncomputable abbrev o60 (k n:Nat):Code:=.region k (opsAt Tryd.f60 (pth n)) false
noncomputable def F60_code:Code:=(.seq (o60 0 2) (.seq (o60 1 5) (.seq (o60 2 11) (.seq (.seq (o60 3 39) (.cond (.tmp 23) (.seq (o60 4 151) (.seq (.seq (o60 5 599) (.cond (.tmp 30) (o60 6 1367) .skip)) (o60 7 471))) .skip)) (.seq (o60 8 47) (.block 0 (.seq (o60 9 159) (.cond (.tmp 42) (.region 10 (opsAt Tryd.f60 (pth 351)) true) (.seq (o60 11 735) (.cond (.tmp 53) (.region 12 (opsAt Tryd.f60 (pth 1503)) true) (.seq (o60 13 3039) (.cond (.tmp 69) (.region 14 (opsAt Tryd.f60 (pth 6111)) true) (.seq (.seq (o60 15 20447) (.cond (.tmp 80) .skip (o60 16 61407))) (.cond (.tmp 80) (o60 17 24543) (.seq (.seq (o60 18 81887) (.cond (.tmp 86) .skip (o60 19 245727))) (.cond (.tmp 86) (o60 20 98271) .skip))))))))))))))))
theorem F60_body:Tryd.f60.body=some F60_code:=by kernel_rfl
theorem F60_ok (x0:OA) (x1:List Value) (hp:HP) (K:Kh) (h:F60 x0 x1 hp K):CF Tryd.prog 60 [(.pointer x0),(.agg ⟨x1⟩)] hp K:=by
 refine .inl ⟨by kernel_rfl,AC.intro (N:=92) Tryd.func60 F60_body rfl (Nat.le_of_ble_eq_true rfl) ?_⟩
 unfold F60 at h
 refine Ar F60_r0 ?_ (r2 1 0 Rn) (z2 Sn) Sn
 refine Ar F60_r1 ?_ (r1 0 (rp 3 3 0 Rn)) (z2 Sn) (z1 Sn)
 refine mC h fun u1 h2 h=>mS h fun a3 n4 c5 h=>?_
 refine Ar F60_r2 ?_ (rp 3 3 0 (r2 0 4 Rn)) (z3 Sn) (z1 Sn)
 refine mV h fun v6 h=>mI h fun i7 h=>?_
 refine As (fun env pv hp=>∃ x0 x5 k3,Sub (w3 E0 5 (sI x5) 3 (sR 3 0) 0 (sP x0)) env∧Sub (upd V0 3 (108,k3)) pv∧(F60_j1 x0 x5 k3 hp  K)) ?_ ?_
 ·refine As (fun env pv hp=>∃ x0 x4a x4n x4c x5 x23 k3,Sub (w5 E0 23 (sB x23) 5 (sI x5) 4 (sS x4a x4n x4c) 3 (sR 3 0) 0 (sP x0)) env∧Sub (upd V0 3 (108,k3)) pv∧(F60_j4 x0 x4a x4n x4c x5 x23 k3 hp  K)) ?_ ?_
  ·refine Ag (F60_r20 rfl) ?_ (rp 3 3 0 (r3 4 0 5 Rn)) (z4 Sn) (z1 Sn)
   refine mt h (fun h=>?_) (fun h=>?_)
   ·refine mV h fun v77 h=>mI h fun i78 h=>?_
    refine mt h (fun h=>?_) (fun h=>?_)
    ·exact ⟨_,_,_,_,_,_,_,(z5 Sn),(z1 Sn),h⟩
    ·refine mV h fun v79 h=>mI h fun i80 h=>?_
     exact ⟨_,_,_,_,_,_,_,(z5 Sn),(z1 Sn),h⟩
   ·exact ⟨_,_,_,_,_,_,_,(z5 Sn),(z1 Sn),h⟩
  ·rintro env pv hp ⟨x0,x4a,x4n,x4c,x5,x23,k3,he,hv,h⟩
   refine Ae ?_ (r1 0 (rp 3 3 0 (r3 4 5 23 Rn))) he hv
   unfold F60_j4 at h
   refine Ac h rfl (fun h=>?_) (fun h=>?_)
   ·refine Ar F60_r16 ?_ (rp 3 3 0 (r2 4 0 Rn)) (z3 Sn) (z1 Sn)
    refine mV h (fun v71 h=>mI h (fun i72 h=>⟨h.1,?_⟩))
    replace h:=h.2
    refine As (fun env pv hp=>∃ x0 x4a x4n x4c x6 k3,Sub (w4 E0 6 (sI x6) 4 (sS x4a x4n x4c) 3 (sR 3 0) 0 (sP x0)) env∧Sub (upd V0 3 (108,k3)) pv∧(F60_j5 x0 x4a x4n x4c x6 k3 hp  K)) ?_ ?_
    ·refine Ar F60_r18 ?_ (r2 6 0 (rp 3 3 0 (r1 4 Rn))) (z4 Sn) (z1 Sn)
     refine Ac h rfl (fun h=>?_) (fun h=>?_)
     ·refine Ag F60_r19 ?_ (r3 4 6 0 (rp 3 3 0 Rn)) (z4 Sn) (z1 Sn)
      exact ⟨_,_,_,_,_,_,(z4 Sn),(z1 Sn),h⟩
     ·refine AWP.skip ?_
      exact ⟨_,_,_,_,_,_,(z4 Sn),(z1 Sn),h⟩
    ·rintro env pv hp ⟨x0,x4a,x4n,x4c,x6,k3,he,hv,h⟩
     refine Ae ?_ (r1 0 (rp 3 3 0 (r2 4 6 Rn))) he hv
     unfold F60_j5 at h
     refine Ag F60_r17 ?_ (r3 4 6 0 (rp 3 3 0 Rn)) (z4 Sn) (z1 Sn)
     refine ⟨h.1,h.2.1,mN h.2.2 fun b73 o74 h=>mV h fun v75 h=>mI h fun i76 h=>?_⟩
     exact ⟨_,_,_,(z3 Sn),(z1 Sn),h⟩
   ·refine AWP.skip ?_
    exact ⟨_,_,_,(z3 Sn),(z1 Sn),h⟩
 ·rintro env pv hp ⟨x0,x5,k3,he,hv,h⟩
  refine Ae ?_ (r1 0 (rp 3 3 0 (r1 5 Rn))) he hv
  unfold F60_j1 at h
  refine Ar F60_r3 ?_ (rp 3 3 0 (r2 0 5 Rn)) (z3 Sn) (z1 Sn)
  refine mV h fun v8 h=>mI h fun i9 h=>?_
  refine AWP.block (Ar F60_r4 ?_ (r2 41 0 (rp 3 3 0 (r1 5 Rn))) (z4 Sn) (z1 Sn))
  refine Ac h rfl (fun h=>?_) (fun h=>?_)
  ·refine AWP.rgnD (by kernel_rfl) (by kernel_rfl) F60_r5 ?_ (r1 0 (rp 3 3 0 Rn)) (z2 Sn) (z1 Sn)
   refine mV h fun v10 h=>mI h fun i11 h=>mV h fun v12 h=>mI h fun i13 h=>mV h fun v14 h=>mI h fun i15 h=>mC h fun u16 h17 h=>mA h fun l18 h=>mC h fun u19 h20 h=>mT h fun u21 u22 h=>mA h fun l23 h=>mI h fun i24 h=>?_
   exact h
  ·refine Ar F60_r6 ?_ (r2 41 0 (rp 3 3 0 (r1 5 Rn))) (z4 Sn) (z1 Sn)
   refine Ac h rfl (fun h=>?_) (fun h=>?_)
   ·refine AWP.rgnD (by kernel_rfl) (by kernel_rfl) F60_r7 ?_ (r1 0 (rp 3 3 0 Rn)) (z2 Sn) (z1 Sn)
    refine mV h fun v25 h=>mI h fun i26 h=>mV h fun v27 h=>mI h fun i28 h=>mV h fun v29 h=>mI h fun i30 h=>mC h fun u31 h32 h=>mA h fun l33 h=>mV h fun v34 h=>mI h fun i35 h=>mV h fun v36 h=>mI h fun i37 h=>mC h fun u38 h39 h=>mA h fun l40 h=>mC h fun u41 h42 h=>mT h fun u43 u44 h=>mA h fun l45 h=>mI h fun i46 h=>?_
    exact h
   ·refine Ar F60_r8 ?_ (r2 41 0 (rp 3 3 0 (r1 5 Rn))) (z4 Sn) (z1 Sn)
    refine Ac h rfl (fun h=>?_) (fun h=>?_)
    ·refine AWP.rgnD (by kernel_rfl) (by kernel_rfl) F60_r9 ?_ (r1 0 (rp 3 3 0 Rn)) (z2 Sn) (z1 Sn)
     refine mV h fun v47 h=>mI h fun i48 h=>mV h fun v49 h=>mI h fun i50 h=>mV h fun v51 h=>mI h fun i52 h=>mC h fun u53 h54 h=>mA h fun l55 h=>mC h fun u56 h57 h=>mT h fun u58 u59 h=>mA h fun l60 h=>mI h fun i61 h=>?_
     exact h
    ·refine As (fun env pv hp=>∃ x0 x5 x41 x80,Sub (w4 E0 80 (sB x80) 41 (sV (.int .u8 x41)) 5 (sI x5) 0 (sP x0)) env∧Sub V0 pv∧F60_j2 x0 x5 x41 x80 hp  K) ?_ ?_
     ·refine Ar F60_r14 ?_ (r3 41 0 5 Rn) (z3 Sn) Sn
      refine Ac h rfl (fun h=>?_) (fun h=>?_)
      ·refine AWP.skip ?_
       exact ⟨_,_,_,_,(z4 Sn),Sn,h⟩
      ·refine Ag F60_r15 ?_ (r3 41 0 5 Rn) (z3 Sn) Sn
       exact ⟨_,_,_,_,(z4 Sn),Sn,h⟩
     ·rintro env pv hp ⟨x0,x5,x41,x80,he,hv,h⟩
      refine Ae ?_ (r4 0 5 41 80 Rn) he hv
      unfold F60_j2 at h
      refine Ac h rfl (fun h=>?_) (fun h=>?_)
      ·refine Ag F60_r10 ?_ (r2 0 5 Rn) (z2 Sn) Sn
       refine mC h fun u62 h63 h=>mI h fun i64 h=>?_
       exact h
      ·refine As (fun env pv hp=>∃ x0 x5 x86,Sub (w3 E0 86 (sB x86) 5 (sI x5) 0 (sP x0)) env∧Sub V0 pv∧F60_j3 x0 x5 x86 hp  K) ?_ ?_
       ·refine Ar F60_r12 ?_ (r3 41 0 5 Rn) (z3 Sn) Sn
        refine Ac h rfl (fun h=>?_) (fun h=>?_)
        ·refine AWP.skip ?_
         exact ⟨_,_,_,(z3 Sn),Sn,h⟩
        ·refine Ag F60_r13 ?_ (r3 41 0 5 Rn) (z3 Sn) Sn
         exact ⟨_,_,_,(z3 Sn),Sn,h⟩
       ·rintro env pv hp ⟨x0,x5,x86,he,hv,h⟩
        refine Ae ?_ (r3 0 5 86 Rn) he hv
        unfold F60_j3 at h
        refine Ac h rfl (fun h=>?_) (fun h=>?_)
        ·refine Ag F60_r11 ?_ (r2 0 5 Rn) (z2 Sn) Sn
         refine mC h fun u65 h66 h=>mT h fun u67 u68 h=>mB h fun q69 h=>mI h fun i70 h=>?_
         exact h
        ·refine AWP.skip ?_
         exact h
end
end Go.Proofs
namespace Go.Proofs
open Go Go.HL
abbrev zb36:List Value:=[(Value.int .i64 0),(Value.int .i64 0),(Value.int .u8 0),(Value.int .u8 0),(Value.int .u8 0),(Value.int .u8 0),(Value.int .u8 0),(Value.int .u8 0),(Value.int .u8 0),(Value.int .u8 0),(Value.int .u8 0),(Value.int .u8 0),(Value.int .u8 0),(Value.int .u8 0),(Value.int .u8 0),(Value.int .u8 0),(Value.int .u8 0),(Value.int .u8 0),(Value.int .i64 0),(Value.int .u8 0),(Value.int .u8 0),(Value.int .u8 0),(Value.int .u8 0),(Value.int .i64 0),(Value.bool false),(Value.int .i64 0)]
@[simp] theorem zb36_len:zb36.length=26:=rfl
end Go.Proofs
set_option linter.unusedVariables false
set_option linter.unusedSimpArgs false
set_option maxRecDepth 20000
namespace Go.Proofs
open Go Go.HL
open Go.Exp (Th tlt Ord setW dropW insW)
section
variable {tb:Obj} {hp:HP} {K:Value→HP→Prop}
end
end Go.Proofs
set_option linter.unusedVariables false
set_option linter.unusedSimpArgs false
set_option maxRecDepth 20000
namespace Go.Proofs
open Go Go.HL
open Go.Exp (Th tlt Ord setW dropW insW)
section
variable {hq hp:HP} {r:Nat} {mx:Int} {last:Nat} {L:List Sy} {K:Value→HP→Prop}
theorem eq34 {p q:Q × Int} {c:Bool→Prop} (h:c (decide (p=q))):eqAgg Tryd.prog 34 (t4 p) (t4 q) c:=eq75 h
end
end Go.Proofs
set_option linter.unusedVariables false
set_option linter.unusedSimpArgs false
set_option maxRecDepth 20000
namespace Go.Proofs
open Go Go.HL
theorem bdc_shaped (x:Bd):shaped Tryd.prog 5 36 (bdc x)=true:=by kernel_rfl
theorem eq36 {x y:Bd} {c:Bool→Prop} (h:c (decide (x=y))):eqAgg Tryd.prog 36 (bdc x) (bdc y) c:=
  eqAgg_of (m:=5) (D:=5) (by kernel_rfl) (bdc_shaped x) (bdc_shaped y) (by simp [bdc_inj]) h
/-- An inner address of few. -/
def inT (a port:Int):V6 × Int:=(((32,1,0,0),(0,0,0,0),(0,0,0,0),(0,0,0,a)),port)
theorem inT_ok {a port:Int} (ha:okB a) (hz:okZ port):okT6 (inT a port):=by
  have b0:okB 0:=okBc rfl
  exact ⟨⟨⟨okBc rfl,okBc rfl,b0,b0⟩,⟨b0,b0,b0,b0⟩,⟨b0,b0,b0,b0⟩,⟨b0,b0,b0,ha⟩⟩,hz⟩
section
variable {tb:Obj} {hp:HP} {K:Value→HP→Prop}
theorem C19 {a port:Int} (h:K (.agg ⟨t6 (inT a port)⟩) hp):CF Tryd.prog 19 [.int .u8 a,.int .i64 port] hp K:=by
  refine F19_ok a port hp K ?_
  unfold F19
  exact ifI rfl (ifI rfl (ifI rfl (ifI (Nat.le_refl 17) h)))
theorem C20 {a port:Int} (h:K (.agg ⟨t4 (ta a port)⟩) hp):CF Tryd.prog 20 [.int .u8 a,.int .i64 port] hp K:=by
  refine F20_ok a port hp K ?_
  unfold F20
  exact ifI rfl (ifI rfl (ifI rfl (ifI (Nat.le_refl 5) h)))
theorem C28 {a b:Option Addr} {n c m d:Nat} {low high:Int} (hl:okZ low) (hh:okZ high) (h:∀ g:Bool,(g=false→n≤10∧m≤150∧high-low≤60)→K (.bool g) hp):CF Tryd.prog 28 [.slice a n c,.int .i64 low,.int .i64 high,.slice b m d] hp K:=by
  refine F28_ok a n c low high b m d hp K ?_
  unfold F28
  have yes:K (.bool true) hp:=h true (fun e=>by cases e)
  by_cases h1:n > 10
  · rw [decide_eq_true (by omega:((n:Nat):Int) > 10),ite2_true]; exact yes
  rw [decide_eq_false (by omega:¬ ((n:Nat):Int) > 10),ite2_false]
  by_cases h2:m > 150
  · rw [decide_eq_true (by omega:((m:Nat):Int) > 150),ite2_true]; exact yes
  rw [decide_eq_false (by omega:¬ ((m:Nat):Int) > 150),ite2_false]
  unfold okZ at hl hh
  have key:∀ x:Int,x=IntKind.wrap .i64 (high-low)→(x=high-low∧-9223372036854775808≤high-low∧high-low≤9223372036854775807)∨(x=high-low-18446744073709551616∧high-low > 9223372036854775807)∨(x=high-low+18446744073709551616∧high-low < -9223372036854775808):=by
    intro x hx
    subst hx
    by_cases a1:high-low > 9223372036854775807
    · refine .inr (.inl ⟨?_,a1⟩)
      have e:(high-low) % 18446744073709551616=high-low:=Int.emod_eq_of_lt (by omega) (by omega)
      show (if (true&&decide ((high-low) % 18446744073709551616≥9223372036854775808))=true then (high-low) % 18446744073709551616-18446744073709551616 else (high-low) % 18446744073709551616)=_
      rw [e,if_pos (by rw [decide_eq_true (by omega)]; rfl)]
    · by_cases a2:high-low < -9223372036854775808
      · refine .inr (.inr ⟨?_,a2⟩)
        have e:(high-low) % 18446744073709551616=high-low+18446744073709551616:=by omega
        show (if (true&&decide ((high-low) % 18446744073709551616≥9223372036854775808))=true then (high-low) % 18446744073709551616-18446744073709551616 else (high-low) % 18446744073709551616)=_
        rw [e,if_neg (by rw [decide_eq_false (by omega)]; simp)]
      · exact .inl ⟨w64 (by omega) (by omega),by omega,by omega⟩
  have hk:=key _ rfl
  generalize IntKind.wrap .i64 (high-low)=x at hk
  by_cases h3:x > 60
  · rw [decide_eq_true h3,ite2_true]; exact yes
  rw [decide_eq_false h3,ite2_false]
  by_cases h4:x<0
  · rw [decide_eq_true h4,ite2_true]
    refine h _ fun e=>?_
    have e:=of_decide_eq_false e
    exact ⟨by omega,by omega,by omega⟩
  rw [decide_eq_false h4,ite2_false]
  exact h false fun _=>⟨by omega,by omega,by omega⟩
def qB:Q:=(1,0,0,1)
theorem okqB:∀ q∈[qB],okQ q:=fun q hq=>by
  rw [List.mem_singleton.1 hq]
  exact ⟨okBc rfl,okBc rfl,okBc rfl,okBc rfl⟩
theorem newOkB:newBOk [qB] 1024 1027 3:=⟨by decide,by decide,by decide⟩
/-- The row of one address at the start of a law of examples. -/
theorem rowB {b1:Nat} (hb0:b1≠0) (hp:HP):Shows (hp.set b1 (.cells 27 (v4 qB) 0)) (some ⟨b1,0,none⟩) 1 4 ([qB].flatMap v4):=
  .inr ⟨b1,0,rfl,by rw [HP.cellN_of (HP.set_eq ..)]; rfl⟩
set_option maxHeartbeats 1000000 in
theorem C27 (ht:TabR tb hp) (hK:∀ hp',HSub hp hp'→K (.bool true) hp'):CF Tryd.prog 27 [] hp K:=by
  refine F27_ok hp K ?_
  unfold F27
  refine ifI rfl ?_
  refine fun (b1:Nat) (hb1:hp b1=Ent.none)=>?_
  have ht0:TabR tb (hp.set b1 (.cells 27 (v4 qB) 0)):=ht.set hb1 _
  have hs0:HSub hp (hp.set b1 (.cells 27 (v4 qB) 0)):=HSub.set_fresh hp _ hb1
  have hb0:b1≠0:=fun e=>by rw [e,ht.1] at hb1; cases hb1
  have hrow:=rowB hb0 hp
  show CF Tryd.prog 17 _ (hp.set b1 (.cells 27 (v4 qB) 0)) _
  generalize hp.set b1 (.cells 27 (v4 qB) 0)=hp0 at *
  refine S17 ht0 (l:=[qB]) hrow rfl (Nat.le_refl _) (okZc rfl) (okZc rfl) okqB (fun hne=>absurd newOkB hne) fun _ t hp1 h1=>?_
  rw [tup2V_mk,pq,intV_int,show ((0:Int) != 0)=false from rfl,ite2_false]
  show F27_j1 (some ⟨t,0,none⟩) false hp1 K
  unfold F27_j1
  rw [ite2_false]
  have o1:okT6 (inT 1 5000):=inT_ok (okBc rfl) (okZc rfl)
  refine C19 ?_
  rw [aggV_agg]
  refine S18 h1 (okZc rfl) o1 (by decide) (fun hne=>absurd (by kernel_rfl) hne) fun _ u hu hp2 h2=>?_
  have eu:u=ta 1 1024:=by
    have:tkB [qB] 1024 1027 [] 17 (inT 1 5000)=some (ta 1 1024):=by kernel_rfl
    rw [this] at hu; exact (Option.some.inj hu).symm
  subst eu
  rw [tup2V_mk,aggV_agg,intV_int,if_pos (bdc_len _),if_pos (bdc_one _),if_pos (by simp [bdc_len]),bd_spl rfl]
  refine C19 ?_
  rw [aggV_agg]
  refine S18 h2 (okZc rfl) o1 (by decide) (fun _ hp3 h3=>?_) fun e=>absurd e (by decide +kernel)
  rw [tup2V_mk,aggV_agg,intV_int,if_pos (bdc_len _),if_pos (bdc_one _),if_pos (by simp [bdc_len])]
  refine C20 ?_
  rw [aggV_agg]
  refine W63 h3.w (okZc rfl) (ta_ok (okBc rfl) (okZc rfl)) ?_
  have ef:find4 17 (ta 1 1024) ([]++[(⟨((0+1:Nat):Int),17,inT 1 5000,ta 1 1024,false,0⟩:Bd)])=some ⟨1,17,inT 1 5000,ta 1 1024,false,0⟩:=by kernel_rfl
  rw [ef]
  unfold toldV
  rw [tup2V_mk,aggV_agg,boolV_bool,if_pos (bdc_len _),if_pos (bdc_one _),if_pos (by simp [bdc_len])]
  simp only [Option.getD_some]
  rw [bd_spl rfl]
  rw [show ((0:Int)==0)=true from rfl,ite2_true,show (roomB [qB] 1024 1027 (3:Int).toNat ([]++[(⟨((0+1:Nat):Int),17,inT 1 5000,ta 1 1024,false,0⟩:Bd)]) 17 (inT 1 5000)==5)=true by kernel_rfl,ite2_true,bdc_id,ldV_some,intV_int]
  show ite2 true _ _
  rw [ite2_true,bdc_out,ldL_some]
  refine C20 ?_
  rw [aggV_agg]
  refine eq34 ?_
  rw [decide_eq_true rfl,ite2_true]
  show ite2 true _ _
  rw [ite2_true,bdc_cells,ldL_some,bdc_cells,ldL_some]
  refine eq36 ?_
  rw [show (⟨((0+1:Nat):Int),17,inT 1 5000,ta 1 1024,false,0⟩:Bd)=⟨1,17,inT 1 5000,ta 1 1024,false,0⟩ from rfl,decide_eq_true rfl,ite2_true]
  refine W23 h3.w ?_
  rw [intV_int]
  exact hK hp3 (hs0.trans (h3.fin ht0))
end
end Go.Proofs
set_option linter.unusedVariables false
set_option maxRecDepth 20000
namespace Go.Proofs
open Go Go.HL
theorem dec5 {D:Nat} {cs:List Value} (h:wellS Tryd.prog D 5 cs=true):∃ n:Int,(0≤n∧n≤255)∧cs=[.int .u8 n]:=by
  cases D with
  | zero=>cases h
  | succ D=>
    unfold wellS at h
    rw [show Tryd.prog.underlying 5=some (.int .u8) by kernel_rfl] at h
    simp only at h
    split at h
    · rename_i q n
      simp only [Bool.and_eq_true,decide_eq_true_eq] at h
      obtain ⟨rfl,hw⟩:=h
      exact ⟨n,(Go.Lit.wf_int_iff _ _).1 hw,rfl⟩
    · cases h
theorem dec3 {D:Nat} {cs:List Value} (h:wellS Tryd.prog D 3 cs=true):∃ n:Int,(-9223372036854775808≤n∧n≤9223372036854775807)∧cs=[.int .i64 n]:=by
  cases D with
  | zero=>cases h
  | succ D=>
    unfold wellS at h
    rw [show Tryd.prog.underlying 3=some (.int .i64) by kernel_rfl] at h
    simp only at h
    split at h
    · rename_i q n
      simp only [Bool.and_eq_true,decide_eq_true_eq] at h
      obtain ⟨rfl,hw⟩:=h
      exact ⟨n,(Go.Lit.wf_int_iff _ _).1 hw,rfl⟩
    · cases h
theorem dec73:∀ (D:Nat) (cs:List Value),wellS Tryd.prog D 27 cs=true→∃ q:Q,okQ q∧cs=v4 q:=by
  intro D cs h
  cases D with
  | zero=>cases h
  | succ D=>
    unfold wellS at h
    rw [show Tryd.prog.underlying 27=some (.array 4 5) by kernel_rfl] at h
    simp only [show Tryd.prog.cellsOf 27=4 by kernel_rfl,show Tryd.prog.cellsOf 5=1 by kernel_rfl,Bool.and_eq_true,decide_eq_true_eq,List.all_eq_true,List.mem_range] at h
    obtain ⟨hl,he⟩:=h
    match cs,hl with
    | [c0,c1,c2,c3],_=>
      obtain ⟨n0,r0,e0⟩:=dec5 (he 0 (by omega))
      obtain ⟨n1,r1,e1⟩:=dec5 (he 1 (by omega))
      obtain ⟨n2,r2,e2⟩:=dec5 (he 2 (by omega))
      obtain ⟨n3,r3,e3⟩:=dec5 (he 3 (by omega))
      simp at e0 e1 e2 e3
      subst e0; subst e1; subst e2; subst e3
      exact ⟨(n0,n1,n2,n3),⟨r0,r1,r2,r3⟩,rfl⟩
end Go.Proofs
set_option linter.unusedVariables false
set_option linter.unusedSimpArgs false
set_option maxRecDepth 20000
namespace Go.Proofs
open Go Go.HL
/-- An act. -/
structure A21 where
  what:Int
  a:Int
  b:Int
  proto:Int
  x:Int
  t:Int
  n:Int
def a21 (y:A21):List Value:=[.int .u8 y.what,.int .u8 y.a,.int .u8 y.b,.int .i64 y.proto,.int .i64 y.x,.int .i64 y.t,.int .i64 y.n]
theorem a21_len (y:A21):(a21 y).length=7:=rfl
def okA21 (y:A21):Prop:=okB y.a∧okB y.b∧okZ y.proto∧okZ y.x∧okZ y.t∧okZ y.n
theorem a21_0 (y:A21):(a21 y)[0]?=some (.int .u8 y.what):=rfl
theorem a21_1 (y:A21):(a21 y)[1]?=some (.int .u8 y.a):=rfl
theorem a21_2 (y:A21):(a21 y)[2]?=some (.int .u8 y.b):=rfl
theorem a21_3 (y:A21):(a21 y)[3]?=some (.int .i64 y.proto):=rfl
theorem a21_4 (y:A21):(a21 y)[4]?=some (.int .i64 y.x):=rfl
theorem a21_5 (y:A21):(a21 y)[5]?=some (.int .i64 y.t):=rfl
theorem a21_6 (y:A21):(a21 y)[6]?=some (.int .i64 y.n):=rfl
theorem dec108:∀ (D:Nat) (cs:List Value),wellS Tryd.prog D 108 cs=true→∃ a:A21,okA21 a∧cs=a21 a:=by
  intro D cs h
  cases D with
  | zero=>cases h
  | succ D=>
    obtain ⟨hl,hf⟩:=wellS_struct (fs0:=[(5,0),(5,1),(5,2),(3,3),(3,4),(3,5),(3,6)]) (by kernel_rfl) (by simp) h
    rw [show Tryd.prog.cellsOf 108=7 by kernel_rfl] at hl
    have f0:=hf (5,0) (by simp)
    have f1:=hf (5,1) (by simp)
    have f2:=hf (5,2) (by simp)
    have f3:=hf (3,3) (by simp)
    have f4:=hf (3,4) (by simp)
    have f5:=hf (3,5) (by simp)
    have f6:=hf (3,6) (by simp)
    simp only [show Tryd.prog.cellsOf 5=1 by kernel_rfl,show Tryd.prog.cellsOf 3=1 by kernel_rfl] at f0 f1 f2 f3 f4 f5 f6
    obtain ⟨n0,h0,e0⟩:=dec5 f0
    obtain ⟨n1,h1,e1⟩:=dec5 f1
    obtain ⟨n2,h2,e2⟩:=dec5 f2
    obtain ⟨n3,h3,e3⟩:=dec3 f3
    obtain ⟨n4,h4,e4⟩:=dec3 f4
    obtain ⟨n5,h5,e5⟩:=dec3 f5
    obtain ⟨n6,h6,e6⟩:=dec3 f6
    match cs,hl with
    | [c0,c1,c2,c3,c4,c5,c6],_=>
      simp only [List.drop_zero,List.drop_succ_cons,List.take_succ_cons,List.take_zero,List.cons.injEq,and_true] at e0 e1 e2 e3 e4 e5 e6
      subst e0; subst e1; subst e2; subst e3; subst e4; subst e5; subst e6
      exact ⟨⟨n0,n1,n2,n3,n4,n5,n6⟩,⟨h1,h2,h3,h4,h5,h6⟩,rfl⟩
section
variable {tb:Obj} {hp0 hp:HP} {t:Nat} {l:List Q} {low high:Int} {mx last n:Nat} {L:List Bd} {K:Value→HP→Prop}
theorem row_bd {hp:HP} {a:Option Addr} {c:Nat} {L:List Bd} {i:Nat} (h:Row hp a L.length c 36 26 (L.flatMap bdc)) (hi:i<L.length) :
    ∃ b o,a=some ⟨b,o,none⟩∧hp.cellN b (o+i*26) 26=some (bdc L[i])∧∀ j v,(bdc L[i])[j]?=some v→hp.cell b (o+i*26+j)=some v:=by
  obtain ⟨b,o,e,hc⟩:=h.shows.get bdc_len rfl hi
  exact ⟨b,o,e,hc,fun t v hv=>HP.cell_cellN hc hv⟩
set_option maxHeartbeats 1000000 in
theorem C60 (h:BdS tb hp0 hp t l low high mx last n L) (hn:n<1000000) (hsm:L.length≤10000) {A:A21} (hA:okA21 A)
    (hK:∀ hp' last' n' L',BdS tb hp0 hp' t l low high mx last' n' L'→n'≤n+1→L'.length≤L.length+1→K (.tuple ⟨[]⟩) hp'):CF Tryd.prog 60 [ptr t 0,.agg ⟨a21 A⟩] hp K:=by
  obtain ⟨oa,ob,op,ox,ot,on⟩:=hA
  have o1:okT6 (inT A.a A.x):=inT_ok oa ox
  have o2:okT (ta A.b A.t):=ta_ok ob ot
  refine F60_ok _ (a21 A) hp K ?_
  unfold F60
  have j1:∀ (k:Int) (hp:HP),BdS tb hp0 hp t l low high mx last n L→F60_j1 (some ⟨t,0,none⟩) k (a21 A) hp K:=by
    intro k hp h
    have j2:∀ q,F60_j2 (some ⟨t,0,none⟩) k A.what q hp K:=by
      intro q
      unfold F60_j2
      cases q with
      | true=>
        rw [ite2_true]
        refine S21 h hn (fun _ hp' h'=>?_) fun b _ hp' h'=>?_
        · rw [intV_int]; exact hK hp' _ _ _ h' (by omega) (by omega)
        · rw [intV_int]; exact hK hp' _ _ _ h' (Nat.le_refl _) (by rw [upd_len]; omega)
      | false=>
        rw [ite2_false]
        have j3:∀ q,F60_j3 (some ⟨t,0,none⟩) k q hp K:=by
          intro q
          unfold F60_j3
          cases q with
          | true=>
            rw [ite2_true]
            refine S22 h (fun _ hp' h'=>?_) (fun b _ _ hp' h'=>?_) fun b _ _ hp' h'=>?_
            · rw [tup2V_mk,boolV_bool,intV_int]; exact hK hp' _ _ _ h' (by omega) (by omega)
            · rw [tup2V_mk,boolV_bool,intV_int]; exact hK hp' _ _ _ h' (by omega) (by omega)
            · rw [tup2V_mk,boolV_bool,intV_int]; exact hK hp' _ _ _ h' (by omega) (by have:=drop_len b L; omega)
          | false=>rw [ite2_false]; exact hK hp _ _ _ h (by omega) (by omega)
        cases (A.what==4) with
        | true=>rw [ite2_true]; exact j3 _
        | false=>rw [ite2_false]; exact j3 _
    unfold F60_j1
    rw [a21_0,ldV_some,intV_int]
    cases (A.what==0) with
    | true=>
      rw [ite2_true,a21_3,ldV_some,intV_int,a21_1,ldV_some,intV_int,a21_4,ldV_some,intV_int]
      refine C19 ?_
      rw [aggV_agg]
      refine S18 h op o1 hn (fun _ hp' h'=>?_) fun _ u _ hp' h'=>?_
      · rw [tup2V_mk,aggV_agg,intV_int]; exact hK hp' _ _ _ h' (by omega) (by omega)
      · rw [tup2V_mk,aggV_agg,intV_int]; exact hK hp' _ _ _ h' (Nat.le_refl _) (by simp)
    | false=>
    rw [ite2_false]
    cases (A.what==1) with
    | true=>
      rw [ite2_true,a21_3,ldV_some,intV_int,a21_1,ldV_some,intV_int,a21_4,ldV_some,intV_int]
      refine C19 ?_
      rw [aggV_agg,a21_2,ldV_some,intV_int,a21_5,ldV_some,intV_int]
      refine C20 ?_
      rw [aggV_agg]
      refine S24 h op o1 o2 hn (fun _ hp' h'=>?_) fun _ hp' h'=>?_
      · rw [tup2V_mk,aggV_agg,intV_int]; exact hK hp' _ _ _ h' (by omega) (by omega)
      · rw [tup2V_mk,aggV_agg,intV_int]; exact hK hp' _ _ _ h' (Nat.le_refl _) (by simp)
    | false=>
    rw [ite2_false]
    cases (A.what==2) with
    | true=>
      rw [ite2_true,a21_3,ldV_some,intV_int,a21_1,ldV_some,intV_int,a21_4,ldV_some,intV_int]
      refine C19 ?_
      rw [aggV_agg]
      refine S25 h op o1 (fun _ hp' h'=>?_) fun b _ _ _ hp' h'=>?_
      · rw [tup2V_mk,aggV_agg,intV_int]; exact hK hp' _ _ _ h' (by omega) (by omega)
      · rw [tup2V_mk,aggV_agg,intV_int]; exact hK hp' _ _ _ h' (by omega) (by have:=List.length_filter_le (fun z:Bd=>decide (z.id≠b.id)) L; omega)
    | false=>
    rw [ite2_false]
    cases (A.what==3) with
    | true=>rw [ite2_true]; exact j2 _
    | false=>rw [ite2_false]; exact j2 _
  refine S61 h hsm fun hp1 a c h1 hr=>?_
  rw [slcV_slice,a21_6,ldV_some,intV_int]
  have j4:∀ q:Bool,(q=true→0<L.length)→F60_j4 (some ⟨t,0,none⟩) a L.length c A.n q (a21 A) hp1 K:=by
    intro q hq
    unfold F60_j4
    cases q with
    | false=>rw [ite2_false]; exact j1 _ _ h1
    | true=>
      have hpos:=hq rfl
      have j5:∀ k:Int,0≤k→k<L.length→F60_j5 (some ⟨t,0,none⟩) a L.length c k (a21 A) hp1 K:=by
        intro k h0 hlt
        obtain ⟨i,rfl⟩:∃ i:Nat,k=i:=⟨k.toNat,by omega⟩
        unfold F60_j5
        obtain ⟨b,o,rfl,_,hc⟩:=row_bd hr (show i<L.length by omega)
        refine ⟨by omega,by omega,?_⟩
        rw [ptrN_some,Int.toNat_natCast,hc 0 _ (bdc_id _),ldV_some,intV_int]
        exact j1 _ _ h1
      rw [ite2_true,a21_6,ldV_some,intV_int]
      have t1:=Int.tmod_lt_of_pos A.n (show (0:Int)<(L.length:Nat) by omega)
      have t2:=Int.lt_tmod_of_pos A.n (show (0:Int)<(L.length:Nat) by omega)
      generalize A.n.tmod (L.length:Nat)=r at *
      refine ⟨by omega,?_⟩
      by_cases hr0:r<0
      · rw [decide_eq_true hr0,ite2_true,w64 (by omega) (by omega)]
        exact j5 _ (by omega) (by omega)
      · rw [decide_eq_false hr0,ite2_false]
        exact j5 _ (by omega) (by omega)
  by_cases hpos:0<L.length
  · rw [decide_eq_true (by omega),ite2_true,a21_0,ldV_some,intV_int]
    cases (A.what==3) with
    | true=>rw [ite2_true]; exact j4 _ fun _=>hpos
    | false=>
      rw [ite2_false,ldV_some,intV_int]
      exact j4 _ fun _=>hpos
  · rw [decide_eq_false (by omega),ite2_false]
    exact j4 _ fun e=>by cases e
end
end Go.Proofs
set_option linter.unusedVariables false
set_option linter.unusedSimpArgs false
set_option maxRecDepth 20000
namespace Go.Proofs
open Go Go.HL
theorem cellsN_part {cs ys:List Value} {o n j k:Nat} (h:cellsN cs o n=some ys) (hjk:j+k≤n):cellsN cs (o+j) k=cellsN ys j k:=by
  unfold cellsN at h
  split at h
  · rename_i hl
    have:=Option.some.inj h
    subst this
    unfold cellsN
    rw [if_pos (by omega),if_pos (by simp; omega),List.drop_take,List.drop_drop,List.take_take,Nat.min_eq_left (by omega)]
  · cases h
theorem cellN_part {hp:HP} {b o n j k:Nat} {ys:List Value} (h:hp.cellN b o n=some ys) (hjk:j+k≤n):hp.cellN b (o+j) k=cellsN ys j k:=by
  unfold HP.cellN at h ⊢
  split at h
  · exact cellsN_part h hjk
  · exact cellsN_part h hjk
  · cases h
section
variable {tb:Obj} {hp0 hp:HP} {t:Nat} {l:List Q} {low high:Int} {mx last n:Nat} {L:List Bd} {K:Value→HP→Prop}
end
end Go.Proofs
set_option linter.unusedVariables false
set_option maxRecDepth 20000
namespace Go.Proofs
open Go Go.HL
section
variable {e E:Env} {x0a:OA} {x0n x0c:Nat} {x1 x2 x3:Int} {x4a:OA} {x4n x4c:Nat} {x11:OA} {x12 x13:Int} {x14a:OA} {x14n x14c:Nat} {x15:Option Nat} {x16:Int} {x18 x20:Bool} {x21:Int} {x208a:OA} {x208n x208c:Nat} {x209 x210:Int} {k17 k19:List Value} {hp:HP} {K:Env→PV→HP→Prop}
abbrev R15 (p n:Nat):=RW Tryd.prog 231 [17,19] (opsAt Tryd.f15 (pth p)) (List.range n)
theorem F15_r0:R15 2 1 e V0 hp K=
 K (upd e 10 (sB false)) V0 hp:= by kernel_rfl
theorem F15_r1 (h:E=upd (w3 e 4 (sS x4a x4n x4c) 2 (sI x2) 1 (sI x1)) 0 (sS x0a x0n x0c)):R15 9 5 E V0 hp K=
 CF Tryd.prog 28 [(.slice x0a x0n x0c),(.int .i64 x1),(.int .i64 x2),(.slice x4a x4n x4c)] hp fun u1 h2=>(boolV u1 fun q3=>K (w5 E 24 (sS x0a x0n x0c) 25 (sI x1) 26 (sI x2) 27 (sS x4a x4n x4c) 28 (sB q3)) V0 h2):= by subst h; kernel_rfl
theorem F15_r2:R15 37 2 e V0 hp K=
 CF Tryd.prog 27 [] hp fun u1 h2=>(boolV u1 fun q3=>K (w2 e 29 (sB q3) 10 (sB q3)) V0 h2):= by kernel_rfl
theorem F15_r3 (h:E=upd (w3 e 3 (sI x3) 2 (sI x2) 1 (sI x1)) 0 (sS x0a x0n x0c)):R15 11 10 E V0 hp K=
 CF Tryd.prog 17 [(.slice x0a x0n x0c),(.int .i64 x1),(.int .i64 x2),(.int .i64 x3)] hp fun u1 h2=>(tup2V u1 fun u3 u4=>ptrV u3 fun p5=>intV u4 .i64 fun i6=>K (w2 (w8 E 31 (sS x0a x0n x0c) 32 (sI x1) 33 (sI x2) 34 (sI x3) 35 (sV (.tuple ⟨[(.pointer p5),(.int .i64 i6)]⟩)) 30 (sV (.tuple ⟨[(.pointer p5),(.int .i64 i6)]⟩)) 36 (sP p5) 37 (sI i6)) 11 (sP p5) 12 (sI i6)) V0 h2):= by subst h; kernel_rfl
theorem F15_r4:R15 39 2 (upd e 12 (sI x12)) V0 hp K=
 K (w3 e 12 (sI x12) 38 (sI x12) 39 (sB ((x12 != 0)))) V0 hp:= by kernel_rfl
theorem F15_r5:R15 151 6 (upd e 11 (sP x11)) V0 hp K=
 ite2 (Option.isNone x11) (CF Tryd.prog 27 [] hp fun u1 h2=>boolV u1 fun q3=>K (w7 e 11 (sP x11) 40 (sP x11) 41 (sB ((Option.isNone x11))) 42 (sB true) 43 (sB q3) 44 (sB q3) 10 (sB q3)) V0 h2) (K (w7 e 11 (sP x11) 40 (sP x11) 41 (sB ((Option.isNone x11))) 42 (sB false) 43 sU 44 (sB false) 10 (sB false)) V0 hp):= by kernel_rfl
theorem F15_r6:R15 95 2 e V0 hp K=
 CF Tryd.prog 27 [] hp fun u1 h2=>(boolV u1 fun q3=>K (w2 e 230 (sB q3) 10 (sB q3)) V0 h2):= by kernel_rfl
def F15_j1 (hp:HP) (K:Kh):Prop:=
  (CF Tryd.prog 27 [] hp fun u16 h17=>boolV u16 fun q18=>K (.bool q18) h17)
theorem F15_r7:R15 1071 4 (w2 e 13 (sI x13) 4 (sS x4a x4n x4c)) V0 hp K=
 K (w6 e 13 (sI x13) 4 (sS x4a x4n x4c) 45 (sI x13) 46 (sS x4a x4n x4c) 47 (sI ((x4n:Nat))) 48 (sB ((decide (x13<x4n))))) V0 hp:= by kernel_rfl
theorem F15_r8:R15 1839 3 (upd e 13 (sI x13)) V0 hp K=
 K (w4 e 13 (sI x13) 49 (sI x13) 50 (sI ((wr (x13+1)))) 13 (sI ((wr (x13+1))))) V0 hp:= by kernel_rfl
def F15_j4 (x0a:OA) (x0n x0c:Nat) (x1 x2 x3:Int) (x4a:OA) (x4n x4c:Nat) (x11:OA) (x13:Int) (hp:HP) (I3:(Int)→HP→Prop) (K:Kh):Prop:=
  (I3 (IntKind.wrap .i64 (x13+1)) hp)
theorem F15_r9 (h:E=upd (w2 e 13 (sI x13) 11 (sP x11)) 4 (sS x4a x4n x4c)):R15 4399 6 E V0 hp K=
    ((0≤x13)∧(x13<x4n)∧(ptrN x4a fun b1 o2=>ldL (HP.cellN hp b1 (o2+Int.toNat x13*7) 7) fun l3=>CF Tryd.prog 60 [(.pointer x11),(.agg ⟨l3⟩)] hp fun u4 h5=>K (w6 E 51 (sP x11) 52 (sS x4a x4n x4c) 53 (sI x13) 54 (sQ b1 (o2+Int.toNat x13*7)) 55 (sA l3) 56 (sV u4)) V0 h5)):=by subst h; kernel_rfl
theorem F15_r10:R15 10543 3 (upd e 11 (sP x11)) V0 hp K=
 CF Tryd.prog 61 [(.pointer x11)] hp fun u1 h2=>(slcV u1 fun a3 n4 c5=>K (w4 e 11 (sP x11) 57 (sP x11) 58 (sS a3 n4 c5) 14 (sS a3 n4 c5)) V0 h2):= by kernel_rfl
theorem F15_r11 (h:E=upd (upd e 14 (sS x14a x14n x14c)) 3 (sI x3)):R15 39215 4 E V0 hp K=
 K (w4 E 59 (sS x14a x14n x14c) 60 (sI ((x14n:Nat))) 61 (sI x3) 62 (sB ((decide (((x14n:Nat):Int) > x3))))) V0 hp:= by subst h; kernel_rfl
theorem F15_r12:R15 153903 1 e V0 hp K=
 K (upd e 10 (sB false)) V0 hp:= by kernel_rfl
theorem F15_r13:R15 47407 2 e V0 hp K=
    (∀ b1:Nat,hp b1=.none→(K (w2 e 63 (sV (.map (some b1))) 15 (sV (.map (some b1)))) V0 (HP.set hp b1 (.obj (.map #[] 0))))):=by kernel_rfl
theorem F15_r14:R15 1177903 1 (w2 e 210 (sI x210) 209 (sI x209)) V0 hp K=
 K (w3 e 210 (sI x210) 209 (sI x209) 211 (sB (decide (x210<x209)))) V0 hp:= by kernel_rfl
theorem F15_r15 (h:E=upd (upd e 210 (sI x210)) 208 (sS x208a x208n x208c)):R15 18479407 3 E V0 hp K=
    ((0≤x210)∧(x210<x208n)∧(ptrN x208a fun b1 o2=>ldV (HP.cell hp b1 (o2+Int.toNat x210*1)) fun v3=>intV v3 .i64 fun i4=>K (w3 E 212 (sQ b1 (o2+Int.toNat x210*1)) 213 (sI i4) 23 (sI i4)) V0 hp)):=by subst h; kernel_rfl
theorem F15_r16:R15 161085743 1 e V0 hp K=
 K (upd e 10 (sB false)) V0 hp:= by kernel_rfl
theorem F15_r17:R15 7993647 2 (upd e 210 (sI x210)) V0 hp K=
 K (w3 e 210 (sI x210) 229 (sI ((wr (x210+1)))) 210 (sI ((wr (x210+1))))) V0 hp:= by kernel_rfl
def F15_j8 (x0a:OA) (x0n x0c:Nat) (x1 x2 x3:Int) (x4a:OA) (x4n x4c:Nat) (x11:OA) (x13:Int) (x15:Option Nat) (x208a:OA) (x208n x208c:Nat) (x209 x210:Int) (x228:Bool) (hp:HP) (I3 I7:(Int)→HP→Prop) (K:Kh):Prop:=
  (ite2 x228 (K (.bool false) hp) (I7 (IntKind.wrap .i64 (x210+1)) hp))
theorem F15_r18 {e:Env} {x0a:OA} {x0n:Nat} {x0c:Nat} {x1:Int} {x2:Int} {x11:OA} {x15:Option Nat} {x23:Int} {hp:HP} {K:Env→PV→HP→Prop}:RW Tryd.prog 231 [17,19] (opsAt Tryd.f15 (pth 43645231)) [0,1,2,3,4,5,6,7,8,9,10,11,12,13,14] (w6 e 23 (sI x23) 15 (sV (.map x15)) 11 (sP x11) 2 (sI x2) 1 (sI x1) 0 (sS x0a x0n x0c)) V0 hp K=
 CF Tryd.prog 26 [(.pointer x11),(.int .i64 x23)] hp fun u1 h2=>(intV u1 .i64 fun i3=>rdS Tryd.prog (Instr.lookup 117 (.map x15) (.int .i64 x23) false) h2 fun u4=>intV u4 .i64 fun i5=>K (w5 (w8 (w8 e 23 (sI x23) 15 (sV (.map x15)) 11 (sP x11) 2 (sI x2) 1 (sI x1) 0 (sS x0a x0n x0c) 214 (sP x11) 215 (sI x23)) 216 (sI i3) 217 (sV (.map x15)) 218 (sI x23) 219 (sI i5) 220 (sI ((wr (i3+i5)))) 221 (sS x0a x0n x0c) 222 (sI ((x0n:Nat))) 223 (sI x2)) 224 (sI x1) 225 (sI ((wr (x2-x1)))) 226 (sI ((wr ((wr (x2-x1))+1)))) 227 (sI ((wr ((x0n:Nat)*(wr ((wr (x2-x1))+1)))))) 228 (sB ((((wr (i3+i5)):Int) != (wr ((x0n:Nat)*(wr ((wr (x2-x1))+1)))))))) V0 h2):= by kernel_rfl
theorem F15_r19 {e:Env} {x0a:OA} {x0n:Nat} {x0c:Nat} {x1:Int} {x2:Int} {x11:OA} {x15:Option Nat} {x23:Int} {hp:HP} {K:Env→PV→HP→Prop}:RW Tryd.prog 231 [17,19] (opsAt Tryd.f15 (pth 43645231)) [0,1,3,4,5,2,6,7,8,9,10,11,12,13,14] (w6 e 23 (sI x23) 15 (sV (.map x15)) 11 (sP x11) 2 (sI x2) 1 (sI x1) 0 (sS x0a x0n x0c)) V0 hp K=
    (rdS Tryd.prog (Instr.lookup 117 (.map x15) (.int .i64 x23) false) hp fun u1=>intV u1 .i64 fun i2=>CF Tryd.prog 26 [(.pointer x11),(.int .i64 x23)] hp fun u3 h4=>intV u3 .i64 fun i5=>K (w5 (w8 (w8 e 23 (sI x23) 15 (sV (.map x15)) 11 (sP x11) 2 (sI x2) 1 (sI x1) 0 (sS x0a x0n x0c) 214 (sP x11) 215 (sI x23)) 217 (sV (.map x15)) 218 (sI x23) 219 (sI i2) 216 (sI i5) 220 (sI ((wr (i5+i2)))) 221 (sS x0a x0n x0c) 222 (sI ((x0n:Nat))) 223 (sI x2)) 224 (sI x1) 225 (sI ((wr (x2-x1)))) 226 (sI ((wr ((wr (x2-x1))+1)))) 227 (sI ((wr ((x0n:Nat)*(wr ((wr (x2-x1))+1)))))) 228 (sB ((((wr (i5+i2)):Int) != (wr ((x0n:Nat)*(wr ((wr (x2-x1))+1)))))))) V0 h4):=by kernel_rfl
def F15_l7 (x0a:OA) (x0n x0c:Nat) (x1 x2 x3:Int) (x4a:OA) (x4n x4c:Nat) (x11:OA) (x13:Int) (x15:Option Nat) (x208a:OA) (x208n x208c:Nat) (x209:Int) (I3:(Int)→HP→Prop) (K:Kh) (I7:(Int)→HP→Prop) (x210:Int) (hp:HP):Prop:=
  (ite2 (decide (x210<x209)) ((0≤x210)∧(x210<x208n)∧(ptrN x208a fun b30 o31=>ldV (HP.cell hp b30 (o31+Int.toNat x210*1)) fun v32=>intV v32 .i64 fun i33=>(CF Tryd.prog 26 [(.pointer x11),(.int .i64 i33)] hp fun u34 h35=>intV u34 .i64 fun i36=>rdS Tryd.prog (Instr.lookup 117 (.map x15) (.int .i64 i33) false) h35 fun u37=>intV u37 .i64 fun i38=>F15_j8 x0a x0n x0c x1 x2 x3 x4a x4n x4c x11 x13 x15 x208a x208n x208c x209 x210 (((IntKind.wrap .i64 (i36+i38)):Int) != (IntKind.wrap .i64 ((x0n:Nat)*(IntKind.wrap .i64 ((IntKind.wrap .i64 (x2-x1))+1))))) h35 I3 I7 K)∧(rdS Tryd.prog (Instr.lookup 117 (.map x15) (.int .i64 i33) false) hp fun u39=>intV u39 .i64 fun i40=>CF Tryd.prog 26 [(.pointer x11),(.int .i64 i33)] hp fun u41 h42=>intV u41 .i64 fun i43=>F15_j8 x0a x0n x0c x1 x2 x3 x4a x4n x4c x11 x13 x15 x208a x208n x208c x209 x210 (((IntKind.wrap .i64 (i43+i40)):Int) != (IntKind.wrap .i64 ((x0n:Nat)*(IntKind.wrap .i64 ((IntKind.wrap .i64 (x2-x1))+1))))) h42 I3 I7 K))) (F15_j4 x0a x0n x0c x1 x2 x3 x4a x4n x4c x11 x13 hp I3 K))
def F15_j6 (x0a:OA) (x0n x0c:Nat) (x1 x2 x3:Int) (x4a:OA) (x4n x4c:Nat) (x11:OA) (x13:Int) (x15:Option Nat) (x208a:OA) (x208n x208c:Nat) (x209 x210:Int) (hp:HP) (I3:(Int)→HP→Prop) (K:Kh):Prop:=
  (LoopP (σ:=Int) (fun I s hp=>F15_l7 x0a x0n x0c x1 x2 x3 x4a x4n x4c x11 x13 x15 x208a x208n x208c x209 I3 K I s hp) x210 hp)
theorem F15_r20:R15 194863 3 e V0 hp K=
    (∀ b1:Nat,hp b1=.none→(K (w3 e 208 (sV (.slice (some ⟨b1,0,none⟩) 3 3)) 209 (sI ((3:Nat))) 210 (sI 0)) V0 (HP.set hp b1 (.cells 3 [(.int .i64 1),(.int .i64 6),(.int .i64 17)] 0)))):=by kernel_rfl
def F15_j5 (x0a:OA) (x0n x0c:Nat) (x1 x2 x3:Int) (x4a:OA) (x4n x4c:Nat) (x11:OA) (x13:Int) (x15:Option Nat) (hp:HP) (I3:(Int)→HP→Prop) (K:Kh):Prop:=
  (∀ b44:Nat,hp b44=.none→(F15_j6 x0a x0n x0c x1 x2 x3 x4a x4n x4c x11 x13 x15 (some ⟨b44,0,none⟩) 3 3 (3:Nat) 0 (HP.set hp b44 (.cells 3 [(.int .i64 1),(.int .i64 6),(.int .i64 17)] 0)) I3 K))
theorem F15_r21 (h:E=upd (upd e 16 (sI x16)) 14 (sS x14a x14n x14c)):R15 2193711 4 E V0 hp K=
 K (w4 E 64 (sI x16) 65 (sS x14a x14n x14c) 66 (sI ((x14n:Nat))) 67 (sB ((decide (x16<x14n))))) V0 hp:= by subst h; kernel_rfl
theorem F15_r22:R15 3766575 3 (upd e 16 (sI x16)) V0 hp K=
 K (w4 e 16 (sI x16) 68 (sI x16) 69 (sI ((wr (x16+1)))) 16 (sI ((wr (x16+1))))) V0 hp:= by kernel_rfl
def F15_j11 (x0a:OA) (x0n x0c:Nat) (x1 x2 x3:Int) (x4a:OA) (x4n x4c:Nat) (x11:OA) (x13:Int) (x14a:OA) (x14n x14c:Nat) (x15:Option Nat) (x16:Int) (hp:HP) (I3 I10:(Int)→HP→Prop) (K:Kh):Prop:=
  (I10 (IntKind.wrap .i64 (x16+1)) hp)
theorem F15_r23 (h:E=upd (w2 e 16 (sI x16) 14 (sS x14a x14n x14c)) 11 (sP x11)):R15 9009455 18 E V0 hp K=
    ((0≤x16)∧(x16<x14n)∧(ptrN x14a fun b1 o2=>ldV (HP.cell hp b1 ((o2+Int.toNat x16*26)+1)) fun v3=>intV v3 .i64 fun i4=>(0≤x16)∧(x16<x14n)∧(ptrN x14a fun b5 o6=>ldL (HP.cellN hp b5 ((o6+Int.toNat x16*26)+2) 17) fun l7=>CF Tryd.prog 65 [(.pointer x11),(.int .i64 i4),(.agg ⟨l7⟩)] hp fun u8 h9=>tup2V u8 fun u10 u11=>aggV u10 fun l12=>boolV u11 fun q13=>if List.length l12=26 then (if List.all l12 one=true then (if 0+List.length l12≤List.length [(Value.int .i64 0),.int .i64 0,.int .u8 0,.int .u8 0,.int .u8 0,.int .u8 0,.int .u8 0,.int .u8 0,.int .u8 0,.int .u8 0,.int .u8 0,.int .u8 0,.int .u8 0,.int .u8 0,.int .u8 0,.int .u8 0,.int .u8 0,.int .u8 0,.int .i64 0,.int .u8 0,.int .u8 0,.int .u8 0,.int .u8 0,.int .i64 0,.bool false,.int .i64 0] then (K (upd (w8 (w8 E 71 (sP x11) 72 (sS x14a x14n x14c) 73 (sI x16) 74 (sQ b1 (o2+Int.toNat x16*26)) 75 (sQ b1 ((o2+Int.toNat x16*26)+1)) 76 (sI i4) 77 (sS x14a x14n x14c) 78 (sI x16)) 79 (sQ b5 (o6+Int.toNat x16*26)) 80 (sQ b5 ((o6+Int.toNat x16*26)+2)) 81 (sA l7) 82 (sV (.tuple ⟨[(.agg ⟨l12⟩),(.bool q13)]⟩)) 70 (sV (.tuple ⟨[(.agg ⟨l12⟩),(.bool q13)]⟩)) 83 (sA l12) 84 (sB q13) 17 (sR 17 0)) 18 (sB q13)) (w2 V0 17 (36,[.int .i64 0,.int .i64 0,.int .u8 0,.int .u8 0,.int .u8 0,.int .u8 0,.int .u8 0,.int .u8 0,.int .u8 0,.int .u8 0,.int .u8 0,.int .u8 0,.int .u8 0,.int .u8 0,.int .u8 0,.int .u8 0,.int .u8 0,.int .u8 0,.int .i64 0,.int .u8 0,.int .u8 0,.int .u8 0,.int .u8 0,.int .i64 0,.bool false,.int .i64 0]) 17 (36,(splice [.int .i64 0,.int .i64 0,.int .u8 0,.int .u8 0,.int .u8 0,.int .u8 0,.int .u8 0,.int .u8 0,.int .u8 0,.int .u8 0,.int .u8 0,.int .u8 0,.int .u8 0,.int .u8 0,.int .u8 0,.int .u8 0,.int .u8 0,.int .u8 0,.int .i64 0,.int .u8 0,.int .u8 0,.int .u8 0,.int .u8 0,.int .i64 0,.bool false,.int .i64 0] 0 l12))) h9) else False) else False) else False))):=by subst h; kernel_rfl
theorem F15_r24 (h:E=upd (w2 e 16 (sI x16) 14 (sS x14a x14n x14c)) 11 (sP x11)):R15 21592367 18 E (upd V0 17 (36,k17)) hp K=
    ((0≤x16)∧(x16<x14n)∧(ptrN x14a fun b1 o2=>ldV (HP.cell hp b1 ((o2+Int.toNat x16*26)+1)) fun v3=>intV v3 .i64 fun i4=>(0≤x16)∧(x16<x14n)∧(ptrN x14a fun b5 o6=>ldL (HP.cellN hp b5 ((o6+Int.toNat x16*26)+19) 5) fun l7=>CF Tryd.prog 63 [(.pointer x11),(.int .i64 i4),(.agg ⟨l7⟩)] hp fun u8 h9=>tup2V u8 fun u10 u11=>aggV u10 fun l12=>boolV u11 fun q13=>if List.length l12=26 then (if List.all l12 one=true then (if 0+List.length l12≤List.length [(Value.int .i64 0),.int .i64 0,.int .u8 0,.int .u8 0,.int .u8 0,.int .u8 0,.int .u8 0,.int .u8 0,.int .u8 0,.int .u8 0,.int .u8 0,.int .u8 0,.int .u8 0,.int .u8 0,.int .u8 0,.int .u8 0,.int .u8 0,.int .u8 0,.int .i64 0,.int .u8 0,.int .u8 0,.int .u8 0,.int .u8 0,.int .i64 0,.bool false,.int .i64 0] then (K (upd (w8 (w8 E 86 (sP x11) 87 (sS x14a x14n x14c) 88 (sI x16) 89 (sQ b1 (o2+Int.toNat x16*26)) 90 (sQ b1 ((o2+Int.toNat x16*26)+1)) 91 (sI i4) 92 (sS x14a x14n x14c) 93 (sI x16)) 94 (sQ b5 (o6+Int.toNat x16*26)) 95 (sQ b5 ((o6+Int.toNat x16*26)+19)) 96 (sA l7) 97 (sV (.tuple ⟨[(.agg ⟨l12⟩),(.bool q13)]⟩)) 85 (sV (.tuple ⟨[(.agg ⟨l12⟩),(.bool q13)]⟩)) 98 (sA l12) 99 (sB q13) 19 (sR 19 0)) 20 (sB q13)) (w3 V0 17 (36,k17) 19 (36,[.int .i64 0,.int .i64 0,.int .u8 0,.int .u8 0,.int .u8 0,.int .u8 0,.int .u8 0,.int .u8 0,.int .u8 0,.int .u8 0,.int .u8 0,.int .u8 0,.int .u8 0,.int .u8 0,.int .u8 0,.int .u8 0,.int .u8 0,.int .u8 0,.int .i64 0,.int .u8 0,.int .u8 0,.int .u8 0,.int .u8 0,.int .i64 0,.bool false,.int .i64 0]) 19 (36,(splice [.int .i64 0,.int .i64 0,.int .u8 0,.int .u8 0,.int .u8 0,.int .u8 0,.int .u8 0,.int .u8 0,.int .u8 0,.int .u8 0,.int .u8 0,.int .u8 0,.int .u8 0,.int .u8 0,.int .u8 0,.int .u8 0,.int .u8 0,.int .u8 0,.int .i64 0,.int .u8 0,.int .u8 0,.int .u8 0,.int .u8 0,.int .i64 0,.bool false,.int .i64 0] 0 l12))) h9) else False) else False) else False))):=by subst h; kernel_rfl
theorem F15_r25:R15 315193647 1 e V0 hp K=
 K (upd e 10 (sB false)) V0 hp:= by kernel_rfl
theorem F15_r26:R15 2278127919 3 (w2 e 21 (sI x21) 16 (sI x16)) V0 hp K=
 K (w5 e 21 (sI x21) 16 (sI x16) 166 (sI x21) 167 (sI x16) 168 (sB (decide (x21<x16)))) V0 hp:= by kernel_rfl
theorem F15_r27:R15 39322220847 1 e V0 hp K=
 K (upd e 10 (sB false)) V0 hp:= by kernel_rfl
theorem F15_r28:R15 3888740655 3 (upd e 21 (sI x21)) V0 hp K=
 K (w4 e 21 (sI x21) 169 (sI x21) 170 (sI ((wr (x21+1)))) 21 (sI ((wr (x21+1))))) V0 hp:= by kernel_rfl
def F15_j16 (x0a:OA) (x0n x0c:Nat) (x1 x2 x3:Int) (x4a:OA) (x4n x4c:Nat) (x11:OA) (x13:Int) (x14a:OA) (x14n x14c:Nat) (x15:Option Nat) (x16 x21:Int) (x207:Bool) (hp:HP) (I3 I10 I15:(Int)→HP→Prop) (K:Kh):Prop:=
  (ite2 x207 (K (.bool false) hp) (I15 (IntKind.wrap .i64 (x21+1)) hp))
theorem F15_r29 (h:E=upd (w2 e 21 (sI x21) 16 (sI x16)) 14 (sS x14a x14n x14c)):R15 9257449775 37 E V0 hp K=
    ((0≤x21)∧(x21<x14n)∧(ptrN x14a fun b1 o2=>ldV (HP.cell hp b1 ((o2+Int.toNat x21*26)+1)) fun v3=>intV v3 .i64 fun i4=>(0≤x16)∧(x16<x14n)∧(ptrN x14a fun b5 o6=>ldV (HP.cell hp b5 ((o6+Int.toNat x16*26)+1)) fun v7=>intV v7 .i64 fun i8=>ite2 (i4==i8) ((0≤x21)∧(x21<x14n)∧(ptrN x14a fun b9 o10=>ldL (HP.cellN hp b9 ((o10+Int.toNat x21*26)+2) 17) fun l11=>(0≤x16)∧(x16<x14n)∧(ptrN x14a fun b12 o13=>ldL (HP.cellN hp b12 ((o13+Int.toNat x16*26)+2) 17) fun l14=>eqAgg Tryd.prog 32 l11 l14 fun q15=>ite2 q15 (K (w5 (w8 (w8 (w8 (w8 E 171 (sS x14a x14n x14c) 172 (sI x21) 173 (sQ b1 (o2+Int.toNat x21*26)) 174 (sQ b1 ((o2+Int.toNat x21*26)+1)) 175 (sI i4) 176 (sS x14a x14n x14c) 177 (sI x16) 178 (sQ b5 (o6+Int.toNat x16*26))) 179 (sQ b5 ((o6+Int.toNat x16*26)+1)) 180 (sI i8) 181 (sB ((i4==i8))) 182 (sB true) 183 (sS x14a x14n x14c) 184 (sI x21) 185 (sQ b9 (o10+Int.toNat x21*26)) 186 (sQ b9 ((o10+Int.toNat x21*26)+2))) 187 (sA l11) 188 (sS x14a x14n x14c) 189 (sI x16) 190 (sQ b12 (o13+Int.toNat x16*26)) 191 (sQ b12 ((o13+Int.toNat x16*26)+2)) 192 (sA l14) 193 (sB q15) 194 (sB true)) 195 sU 196 sU 197 sU 198 sU 199 sU 200 sU 201 sU 202 sU) 203 sU 204 sU 205 sU 206 (sB true) 207 (sB true)) V0 hp) ((0≤x21)∧(x21<x14n)∧(ptrN x14a fun b16 o17=>ldL (HP.cellN hp b16 ((o17+Int.toNat x21*26)+19) 5) fun l18=>(0≤x16)∧(x16<x14n)∧(ptrN x14a fun b19 o20=>ldL (HP.cellN hp b19 ((o20+Int.toNat x16*26)+19) 5) fun l21=>eqAgg Tryd.prog 34 l18 l21 fun q22=>K (w5 (w8 (w8 (w8 (w8 E 171 (sS x14a x14n x14c) 172 (sI x21) 173 (sQ b1 (o2+Int.toNat x21*26)) 174 (sQ b1 ((o2+Int.toNat x21*26)+1)) 175 (sI i4) 176 (sS x14a x14n x14c) 177 (sI x16) 178 (sQ b5 (o6+Int.toNat x16*26))) 179 (sQ b5 ((o6+Int.toNat x16*26)+1)) 180 (sI i8) 181 (sB ((i4==i8))) 182 (sB true) 183 (sS x14a x14n x14c) 184 (sI x21) 185 (sQ b9 (o10+Int.toNat x21*26)) 186 (sQ b9 ((o10+Int.toNat x21*26)+2))) 187 (sA l11) 188 (sS x14a x14n x14c) 189 (sI x16) 190 (sQ b12 (o13+Int.toNat x16*26)) 191 (sQ b12 ((o13+Int.toNat x16*26)+2)) 192 (sA l14) 193 (sB q15) 194 (sB false)) 195 (sS x14a x14n x14c) 196 (sI x21) 197 (sQ b16 (o17+Int.toNat x21*26)) 198 (sQ b16 ((o17+Int.toNat x21*26)+19)) 199 (sA l18) 200 (sS x14a x14n x14c) 201 (sI x16) 202 (sQ b19 (o20+Int.toNat x16*26))) 203 (sQ b19 ((o20+Int.toNat x16*26)+19)) 204 (sA l21) 205 (sB q22) 206 (sB q22) 207 (sB q22)) V0 hp)))))) (K (w5 (w8 (w8 (w8 (w8 E 171 (sS x14a x14n x14c) 172 (sI x21) 173 (sQ b1 (o2+Int.toNat x21*26)) 174 (sQ b1 ((o2+Int.toNat x21*26)+1)) 175 (sI i4) 176 (sS x14a x14n x14c) 177 (sI x16) 178 (sQ b5 (o6+Int.toNat x16*26))) 179 (sQ b5 ((o6+Int.toNat x16*26)+1)) 180 (sI i8) 181 (sB ((i4==i8))) 182 (sB false) 183 sU 184 sU 185 sU 186 sU) 187 sU 188 sU 189 sU 190 sU 191 sU 192 sU 193 sU 194 sU) 195 sU 196 sU 197 sU 198 sU 199 sU 200 sU 201 sU 202 sU) 203 sU 204 sU 205 sU 206 sU 207 (sB false)) V0 hp)))):=by subst h; kernel_rfl
def F15_l15 (x0a:OA) (x0n x0c:Nat) (x1 x2 x3:Int) (x4a:OA) (x4n x4c:Nat) (x11:OA) (x13:Int) (x14a:OA) (x14n x14c:Nat) (x15:Option Nat) (x16:Int) (I3 I10:(Int)→HP→Prop) (K:Kh) (I15:(Int)→HP→Prop) (x21:Int) (hp:HP):Prop:=
  (ite2 (decide (x21<x16)) ((0≤x21)∧(x21<x14n)∧(ptrN x14a fun b71 o72=>ldV (HP.cell hp b71 ((o72+Int.toNat x21*26)+1)) fun v73=>intV v73 .i64 fun i74=>(0≤x16)∧(x16<x14n)∧(ptrN x14a fun b75 o76=>ldV (HP.cell hp b75 ((o76+Int.toNat x16*26)+1)) fun v77=>intV v77 .i64 fun i78=>ite2 (i74==i78) ((0≤x21)∧(x21<x14n)∧(ptrN x14a fun b79 o80=>ldL (HP.cellN hp b79 ((o80+Int.toNat x21*26)+2) 17) fun l81=>(0≤x16)∧(x16<x14n)∧(ptrN x14a fun b82 o83=>ldL (HP.cellN hp b82 ((o83+Int.toNat x16*26)+2) 17) fun l84=>eqAgg Tryd.prog 32 l81 l84 fun q85=>ite2 q85 (F15_j16 x0a x0n x0c x1 x2 x3 x4a x4n x4c x11 x13 x14a x14n x14c x15 x16 x21 true hp I3 I10 I15 K) ((0≤x21)∧(x21<x14n)∧(ptrN x14a fun b86 o87=>ldL (HP.cellN hp b86 ((o87+Int.toNat x21*26)+19) 5) fun l88=>(0≤x16)∧(x16<x14n)∧(ptrN x14a fun b89 o90=>ldL (HP.cellN hp b89 ((o90+Int.toNat x16*26)+19) 5) fun l91=>eqAgg Tryd.prog 34 l88 l91 fun q92=>F15_j16 x0a x0n x0c x1 x2 x3 x4a x4n x4c x11 x13 x14a x14n x14c x15 x16 x21 q92 hp I3 I10 I15 K)))))) (F15_j16 x0a x0n x0c x1 x2 x3 x4a x4n x4c x11 x13 x14a x14n x14c x15 x16 x21 false hp I3 I10 I15 K)))) (F15_j11 x0a x0n x0c x1 x2 x3 x4a x4n x4c x11 x13 x14a x14n x14c x15 x16 hp I3 I10 K))
def F15_j14 (x0a:OA) (x0n x0c:Nat) (x1 x2 x3:Int) (x4a:OA) (x4n x4c:Nat) (x11:OA) (x13:Int) (x14a:OA) (x14n x14c:Nat) (x15:Option Nat) (x16 x21:Int) (hp:HP) (I3 I10:(Int)→HP→Prop) (K:Kh):Prop:=
  (LoopP (σ:=Int) (fun I s hp=>F15_l15 x0a x0n x0c x1 x2 x3 x4a x4n x4c x11 x13 x14a x14n x14c x15 x16 I3 I10 K I s hp) x21 hp)
theorem F15_r30:R15 197753135 1 e V0 hp K=
 K (upd e 21 (sI 0)) V0 hp:= by kernel_rfl
def F15_j13 (x0a:OA) (x0n x0c:Nat) (x1 x2 x3:Int) (x4a:OA) (x4n x4c:Nat) (x11:OA) (x13:Int) (x14a:OA) (x14n x14c:Nat) (x15:Option Nat) (x16:Int) (hp:HP) (I3 I10:(Int)→HP→Prop) (K:Kh):Prop:=
  (F15_j14 x0a x0n x0c x1 x2 x3 x4a x4n x4c x11 x13 x14a x14n x14c x15 x16 0 hp I3 I10 K)
theorem F15_r31 (h:E=upd (w2 e 16 (sI x16) 15 (sV (.map x15))) 14 (sS x14a x14n x14c)):R15 365525295 9 E V0 hp K=
    ((0≤x16)∧(x16<x14n)∧(ptrN x14a fun b1 o2=>ldV (HP.cell hp b1 ((o2+Int.toNat x16*26)+1)) fun v3=>intV v3 .i64 fun i4=>rdS Tryd.prog (Instr.lookup 117 (.map x15) (.int .i64 i4) false) hp fun u5=>intV u5 .i64 fun i6=>opS Tryd.prog (Instr.mapUpdate 117 (.map x15) (.int .i64 i4) (.int .i64 (wr (i6+1)))) hp fun u7 h8=>K (w8 E 158 (sV (.map x15)) 159 (sS x14a x14n x14c) 160 (sI x16) 161 (sQ b1 (o2+Int.toNat x16*26)) 162 (sQ b1 ((o2+Int.toNat x16*26)+1)) 163 (sI i4) 164 (sI i6) 165 (sI ((wr (i6+1))))) V0 h8)):=by subst h; kernel_rfl
def F15_j17 (x0a:OA) (x0n x0c:Nat) (x1 x2 x3:Int) (x4a:OA) (x4n x4c:Nat) (x11:OA) (x13:Int) (x14a:OA) (x14n x14c:Nat) (x15:Option Nat) (x16:Int) (x157:Bool) (hp:HP) (I3 I10:(Int)→HP→Prop) (K:Kh):Prop:=
  (ite2 x157 ((0≤x16)∧(x16<x14n)∧(ptrN x14a fun b93 o94=>ldV (HP.cell hp b93 ((o94+Int.toNat x16*26)+1)) fun v95=>intV v95 .i64 fun i96=>rdS Tryd.prog (Instr.lookup 117 (.map x15) (.int .i64 i96) false) hp fun u97=>intV u97 .i64 fun i98=>opS Tryd.prog (Instr.mapUpdate 117 (.map x15) (.int .i64 i96) (.int .i64 (IntKind.wrap .i64 (i98+1)))) hp fun u99 h100=>F15_j13 x0a x0n x0c x1 x2 x3 x4a x4n x4c x11 x13 x14a x14n x14c x15 x16 h100 I3 I10 K)) (F15_j13 x0a x0n x0c x1 x2 x3 x4a x4n x4c x11 x13 x14a x14n x14c x15 x16 hp I3 I10 K))
theorem F15_r32 (h:E=upd (w3 e 16 (sI x16) 14 (sS x14a x14n x14c) 2 (sI x2)) 1 (sI x1)):R15 164198703 18 E V0 hp K=
    ((0≤x16)∧(x16<x14n)∧(ptrN x14a fun b1 o2=>ldV (HP.cell hp b1 (((o2+Int.toNat x16*26)+19)+4)) fun v3=>intV v3 .i64 fun i4=>ite2 (decide (i4≥x1)) ((0≤x16)∧(x16<x14n)∧(ptrN x14a fun b5 o6=>ldV (HP.cell hp b5 (((o6+Int.toNat x16*26)+19)+4)) fun v7=>intV v7 .i64 fun i8=>K (w2 (w8 (w8 E 140 (sS x14a x14n x14c) 141 (sI x16) 142 (sQ b1 (o2+Int.toNat x16*26)) 143 (sQ b1 ((o2+Int.toNat x16*26)+19)) 144 (sV (ptr b1 (((o2+Int.toNat x16*26)+19)+4))) 145 (sI i4) 146 (sI x1) 147 (sB (decide (i4≥x1)))) 148 (sB true) 149 (sS x14a x14n x14c) 150 (sI x16) 151 (sQ b5 (o6+Int.toNat x16*26)) 152 (sQ b5 ((o6+Int.toNat x16*26)+19)) 153 (sV (ptr b5 (((o6+Int.toNat x16*26)+19)+4))) 154 (sI i8) 155 (sI x2)) 156 (sB (decide (i8≤x2))) 157 (sB (decide (i8≤x2)))) V0 hp)) (K (w2 (w8 (w8 E 140 (sS x14a x14n x14c) 141 (sI x16) 142 (sQ b1 (o2+Int.toNat x16*26)) 143 (sQ b1 ((o2+Int.toNat x16*26)+19)) 144 (sV (ptr b1 (((o2+Int.toNat x16*26)+19)+4))) 145 (sI i4) 146 (sI x1) 147 (sB (decide (i4≥x1)))) 148 (sB false) 149 sU 150 sU 151 sU 152 sU 153 sU 154 sU 155 sU) 156 sU 157 (sB false)) V0 hp))):=by subst h; kernel_rfl
def F15_j12 (x0a:OA) (x0n x0c:Nat) (x1 x2 x3:Int) (x4a:OA) (x4n x4c:Nat) (x11:OA) (x13:Int) (x14a:OA) (x14n x14c:Nat) (x15:Option Nat) (x16:Int) (x139:Bool) (hp:HP) (I3 I10:(Int)→HP→Prop) (K:Kh):Prop:=
  (ite2 x139 (K (.bool false) hp) ((0≤x16)∧(x16<x14n)∧(ptrN x14a fun b101 o102=>ldV (HP.cell hp b101 (((o102+Int.toNat x16*26)+19)+4)) fun v103=>intV v103 .i64 fun i104=>ite2 (decide (i104≥x1)) ((0≤x16)∧(x16<x14n)∧(ptrN x14a fun b105 o106=>ldV (HP.cell hp b105 (((o106+Int.toNat x16*26)+19)+4)) fun v107=>intV v107 .i64 fun i108=>F15_j17 x0a x0n x0c x1 x2 x3 x4a x4n x4c x11 x13 x14a x14n x14c x15 x16 (decide (i108≤x2)) hp I3 I10 K)) (F15_j17 x0a x0n x0c x1 x2 x3 x4a x4n x4c x11 x13 x14a x14n x14c x15 x16 false hp I3 I10 K))))
theorem F15_r33 (h:E=upd (w5 e 20 (sB x20) 19 (sR 19 0) 18 (sB x18) 17 (sR 17 0) 16 (sI x16)) 14 (sS x14a x14n x14c)):R15 80312623 40 E (w2 V0 19 (36,k19) 17 (36,k17)) hp K=
    (ite2 (!x18) (K (w8 (w8 (w8 (w8 (w8 E 100 (sB x18) 101 (sB ((!x18))) 102 (sB true) 103 sU 104 sU 105 (sB true) 106 (sB true) 107 sU) 108 sU 109 sU 110 sU 111 sU 112 sU 113 (sB true) 114 (sB true) 115 sU) 116 sU 117 sU 118 sU 119 sU 120 sU 121 (sB true) 122 (sB true) 123 sU) 124 sU 125 sU 126 sU 127 sU 128 sU 129 sU 130 sU 131 sU) 132 sU 133 sU 134 sU 135 sU 136 sU 137 sU 138 sU 139 (sB true)) (w2 V0 19 (36,k19) 17 (36,k17)) hp) (ite2 (!x20) (K (w8 (w8 (w8 (w8 (w8 E 100 (sB x18) 101 (sB ((!x18))) 102 (sB false) 103 (sB x20) 104 (sB ((!x20))) 105 (sB ((!x20))) 106 (sB true) 107 sU) 108 sU 109 sU 110 sU 111 sU 112 sU 113 (sB true) 114 (sB true) 115 sU) 116 sU 117 sU 118 sU 119 sU 120 sU 121 (sB true) 122 (sB true) 123 sU) 124 sU 125 sU 126 sU 127 sU 128 sU 129 sU 130 sU 131 sU) 132 sU 133 sU 134 sU 135 sU 136 sU 137 sU 138 sU 139 (sB true)) (w2 V0 19 (36,k19) 17 (36,k17)) hp) (ldL (cellsN k17 0 26) fun l1=>(0≤x16)∧(x16<x14n)∧(ptrN x14a fun b2 o3=>ldL (HP.cellN hp b2 (o3+Int.toNat x16*26) 26) fun l4=>eqAgg Tryd.prog 36 l1 l4 fun q5=>ite2 (!q5) (K (w8 (w8 (w8 (w8 (w8 E 100 (sB x18) 101 (sB ((!x18))) 102 (sB false) 103 (sB x20) 104 (sB ((!x20))) 105 (sB ((!x20))) 106 (sB false) 107 (sA l1)) 108 (sS x14a x14n x14c) 109 (sI x16) 110 (sQ b2 (o3+Int.toNat x16*26)) 111 (sA l4) 112 (sB ((!q5))) 113 (sB ((!q5))) 114 (sB true) 115 sU) 116 sU 117 sU 118 sU 119 sU 120 sU 121 (sB true) 122 (sB true) 123 sU) 124 sU 125 sU 126 sU 127 sU 128 sU 129 sU 130 sU 131 sU) 132 sU 133 sU 134 sU 135 sU 136 sU 137 sU 138 sU 139 (sB true)) (w2 V0 19 (36,k19) 17 (36,k17)) hp) (ldL (cellsN k19 0 26) fun l6=>(0≤x16)∧(x16<x14n)∧(ptrN x14a fun b7 o8=>ldL (HP.cellN hp b7 (o8+Int.toNat x16*26) 26) fun l9=>eqAgg Tryd.prog 36 l6 l9 fun q10=>ite2 (!q10) (K (w8 (w8 (w8 (w8 (w8 E 100 (sB x18) 101 (sB ((!x18))) 102 (sB false) 103 (sB x20) 104 (sB ((!x20))) 105 (sB ((!x20))) 106 (sB false) 107 (sA l1)) 108 (sS x14a x14n x14c) 109 (sI x16) 110 (sQ b2 (o3+Int.toNat x16*26)) 111 (sA l4) 112 (sB ((!q5))) 113 (sB ((!q5))) 114 (sB false) 115 (sA l6)) 116 (sS x14a x14n x14c) 117 (sI x16) 118 (sQ b7 (o8+Int.toNat x16*26)) 119 (sA l9) 120 (sB ((!q10))) 121 (sB ((!q10))) 122 (sB true) 123 sU) 124 sU 125 sU 126 sU 127 sU 128 sU 129 sU 130 sU 131 sU) 132 sU 133 sU 134 sU 135 sU 136 sU 137 sU 138 sU 139 (sB true)) (w2 V0 19 (36,k19) 17 (36,k17)) hp) (ite2 (decide (x16 > 0)) ((0≤((wr (x16-1)):Int))∧(((wr (x16-1)):Int)<x14n)∧(ptrN x14a fun b11 o12=>ldV (HP.cell hp b11 ((o12+Int.toNat (wr (x16-1))*26)+0)) fun v13=>intV v13 .i64 fun i14=>(0≤x16)∧(x16<x14n)∧(ptrN x14a fun b15 o16=>ldV (HP.cell hp b15 ((o16+Int.toNat x16*26)+0)) fun v17=>intV v17 .i64 fun i18=>K (w8 (w8 (w8 (w8 (w8 E 100 (sB x18) 101 (sB ((!x18))) 102 (sB false) 103 (sB x20) 104 (sB ((!x20))) 105 (sB ((!x20))) 106 (sB false) 107 (sA l1)) 108 (sS x14a x14n x14c) 109 (sI x16) 110 (sQ b2 (o3+Int.toNat x16*26)) 111 (sA l4) 112 (sB ((!q5))) 113 (sB ((!q5))) 114 (sB false) 115 (sA l6)) 116 (sS x14a x14n x14c) 117 (sI x16) 118 (sQ b7 (o8+Int.toNat x16*26)) 119 (sA l9) 120 (sB ((!q10))) 121 (sB ((!q10))) 122 (sB false) 123 (sI x16)) 124 (sB (decide (x16 > 0))) 125 (sB true) 126 (sS x14a x14n x14c) 127 (sI x16) 128 (sI ((wr (x16-1)))) 129 (sV (ptr b11 (o12+Int.toNat (wr (x16-1))*26))) 130 (sV (ptr b11 ((o12+Int.toNat (wr (x16-1))*26)+0))) 131 (sI i14)) 132 (sS x14a x14n x14c) 133 (sI x16) 134 (sQ b15 (o16+Int.toNat x16*26)) 135 (sQ b15 ((o16+Int.toNat x16*26)+0)) 136 (sI i18) 137 (sB (decide (i14≥i18))) 138 (sB (decide (i14≥i18))) 139 (sB (decide (i14≥i18)))) (w2 V0 19 (36,k19) 17 (36,k17)) hp))) (K (w8 (w8 (w8 (w8 (w8 E 100 (sB x18) 101 (sB ((!x18))) 102 (sB false) 103 (sB x20) 104 (sB ((!x20))) 105 (sB ((!x20))) 106 (sB false) 107 (sA l1)) 108 (sS x14a x14n x14c) 109 (sI x16) 110 (sQ b2 (o3+Int.toNat x16*26)) 111 (sA l4) 112 (sB ((!q5))) 113 (sB ((!q5))) 114 (sB false) 115 (sA l6)) 116 (sS x14a x14n x14c) 117 (sI x16) 118 (sQ b7 (o8+Int.toNat x16*26)) 119 (sA l9) 120 (sB ((!q10))) 121 (sB ((!q10))) 122 (sB false) 123 (sI x16)) 124 (sB (decide (x16 > 0))) 125 (sB false) 126 sU 127 sU 128 sU 129 sU 130 sU 131 sU) 132 sU 133 sU 134 sU 135 sU 136 sU 137 sU 138 (sB false) 139 (sB false)) (w2 V0 19 (36,k19) 17 (36,k17)) hp)))))))):=by subst h; kernel_rfl
def F15_l10 (x0a:OA) (x0n x0c:Nat) (x1 x2 x3:Int) (x4a:OA) (x4n x4c:Nat) (x11:OA) (x13:Int) (x14a:OA) (x14n x14c:Nat) (x15:Option Nat) (I3:(Int)→HP→Prop) (K:Kh) (I10:(Int)→HP→Prop) (x16:Int) (hp:HP):Prop:=
  (ite2 (decide (x16<x14n)) ((0≤x16)∧(x16<x14n)∧(ptrN x14a fun b45 o46=>ldV (HP.cell hp b45 ((o46+Int.toNat x16*26)+1)) fun v47=>intV v47 .i64 fun i48=>(0≤x16)∧(x16<x14n)∧(ptrN x14a fun b49 o50=>ldL (HP.cellN hp b49 ((o50+Int.toNat x16*26)+2) 17) fun l51=>CF Tryd.prog 65 [(.pointer x11),(.int .i64 i48),(.agg ⟨l51⟩)] hp fun u52 h53=>tup2V u52 fun u54 u55=>aggV u54 fun l56=>boolV u55 fun q57=>if List.length l56=26 then (if List.all l56 one=true then (if 0+List.length l56≤List.length [(Value.int .i64 0),.int .i64 0,.int .u8 0,.int .u8 0,.int .u8 0,.int .u8 0,.int .u8 0,.int .u8 0,.int .u8 0,.int .u8 0,.int .u8 0,.int .u8 0,.int .u8 0,.int .u8 0,.int .u8 0,.int .u8 0,.int .u8 0,.int .u8 0,.int .i64 0,.int .u8 0,.int .u8 0,.int .u8 0,.int .u8 0,.int .i64 0,.bool false,.int .i64 0] then ((0≤x16)∧(x16<x14n)∧(ptrN x14a fun b58 o59=>ldV (HP.cell h53 b58 ((o59+Int.toNat x16*26)+1)) fun v60=>intV v60 .i64 fun i61=>(0≤x16)∧(x16<x14n)∧(ptrN x14a fun b62 o63=>ldL (HP.cellN h53 b62 ((o63+Int.toNat x16*26)+19) 5) fun l64=>CF Tryd.prog 63 [(.pointer x11),(.int .i64 i61),(.agg ⟨l64⟩)] h53 fun u65 h66=>tup2V u65 fun u67 u68=>aggV u67 fun l69=>boolV u68 fun q70=>if List.length l69=26 then (if List.all l69 one=true then (if 0+List.length l69≤List.length [(Value.int .i64 0),.int .i64 0,.int .u8 0,.int .u8 0,.int .u8 0,.int .u8 0,.int .u8 0,.int .u8 0,.int .u8 0,.int .u8 0,.int .u8 0,.int .u8 0,.int .u8 0,.int .u8 0,.int .u8 0,.int .u8 0,.int .u8 0,.int .u8 0,.int .i64 0,.int .u8 0,.int .u8 0,.int .u8 0,.int .u8 0,.int .i64 0,.bool false,.int .i64 0] then (ite2 (!q57) (F15_j12 x0a x0n x0c x1 x2 x3 x4a x4n x4c x11 x13 x14a x14n x14c x15 x16 true h66 I3 I10 K) (ite2 (!q70) (F15_j12 x0a x0n x0c x1 x2 x3 x4a x4n x4c x11 x13 x14a x14n x14c x15 x16 true h66 I3 I10 K) (ldL (cellsN (splice [.int .i64 0,.int .i64 0,.int .u8 0,.int .u8 0,.int .u8 0,.int .u8 0,.int .u8 0,.int .u8 0,.int .u8 0,.int .u8 0,.int .u8 0,.int .u8 0,.int .u8 0,.int .u8 0,.int .u8 0,.int .u8 0,.int .u8 0,.int .u8 0,.int .i64 0,.int .u8 0,.int .u8 0,.int .u8 0,.int .u8 0,.int .i64 0,.bool false,.int .i64 0] 0 l56) 0 26) fun l109=>(0≤x16)∧(x16<x14n)∧(ptrN x14a fun b110 o111=>ldL (HP.cellN h66 b110 (o111+Int.toNat x16*26) 26) fun l112=>eqAgg Tryd.prog 36 l109 l112 fun q113=>ite2 (!q113) (F15_j12 x0a x0n x0c x1 x2 x3 x4a x4n x4c x11 x13 x14a x14n x14c x15 x16 true h66 I3 I10 K) (ldL (cellsN (splice [.int .i64 0,.int .i64 0,.int .u8 0,.int .u8 0,.int .u8 0,.int .u8 0,.int .u8 0,.int .u8 0,.int .u8 0,.int .u8 0,.int .u8 0,.int .u8 0,.int .u8 0,.int .u8 0,.int .u8 0,.int .u8 0,.int .u8 0,.int .u8 0,.int .i64 0,.int .u8 0,.int .u8 0,.int .u8 0,.int .u8 0,.int .i64 0,.bool false,.int .i64 0] 0 l69) 0 26) fun l114=>(0≤x16)∧(x16<x14n)∧(ptrN x14a fun b115 o116=>ldL (HP.cellN h66 b115 (o116+Int.toNat x16*26) 26) fun l117=>eqAgg Tryd.prog 36 l114 l117 fun q118=>ite2 (!q118) (F15_j12 x0a x0n x0c x1 x2 x3 x4a x4n x4c x11 x13 x14a x14n x14c x15 x16 true h66 I3 I10 K) (ite2 (decide (x16 > 0)) ((0≤((IntKind.wrap .i64 (x16-1)):Int))∧(((IntKind.wrap .i64 (x16-1)):Int)<x14n)∧(ptrN x14a fun b119 o120=>ldV (HP.cell h66 b119 ((o120+Int.toNat (IntKind.wrap .i64 (x16-1))*26)+0)) fun v121=>intV v121 .i64 fun i122=>(0≤x16)∧(x16<x14n)∧(ptrN x14a fun b123 o124=>ldV (HP.cell h66 b123 ((o124+Int.toNat x16*26)+0)) fun v125=>intV v125 .i64 fun i126=>F15_j12 x0a x0n x0c x1 x2 x3 x4a x4n x4c x11 x13 x14a x14n x14c x15 x16 (decide (i122≥i126)) h66 I3 I10 K))) (F15_j12 x0a x0n x0c x1 x2 x3 x4a x4n x4c x11 x13 x14a x14n x14c x15 x16 false h66 I3 I10 K)))))))) else False) else False) else False))) else False) else False) else False))) (F15_j5 x0a x0n x0c x1 x2 x3 x4a x4n x4c x11 x13 x15 hp I3 K))
def F15_j9 (x0a:OA) (x0n x0c:Nat) (x1 x2 x3:Int) (x4a:OA) (x4n x4c:Nat) (x11:OA) (x13:Int) (x14a:OA) (x14n x14c:Nat) (x15:Option Nat) (x16:Int) (hp:HP) (I3:(Int)→HP→Prop) (K:Kh):Prop:=
  (LoopP (σ:=Int) (fun I s hp=>F15_l10 x0a x0n x0c x1 x2 x3 x4a x4n x4c x11 x13 x14a x14n x14c x15 I3 K I s hp) x16 hp)
theorem F15_r34:R15 162095 1 e V0 hp K=
 K (upd e 16 (sI 0)) V0 hp:= by kernel_rfl
def F15_l3 (x0a:OA) (x0n x0c:Nat) (x1 x2 x3:Int) (x4a:OA) (x4n x4c:Nat) (x11:OA) (K:Kh) (I3:(Int)→HP→Prop) (x13:Int) (hp:HP):Prop:=
  (ite2 (decide (x13<x4n)) ((0≤x13)∧(x13<x4n)∧(ptrN x4a fun b19 o20=>ldL (HP.cellN hp b19 (o20+Int.toNat x13*7) 7) fun l21=>CF Tryd.prog 60 [(.pointer x11),(.agg ⟨l21⟩)] hp fun u22 h23=>CF Tryd.prog 61 [(.pointer x11)] h23 fun u24 h25=>slcV u24 fun a26 n27 c28=>ite2 (decide (((n27:Nat):Int) > x3)) (K (.bool false) h25) (∀ b29:Nat,h25 b29=.none→(F15_j9 x0a x0n x0c x1 x2 x3 x4a x4n x4c x11 x13 a26 n27 c28 (some b29) 0 (HP.set h25 b29 (.obj (.map #[] 0))) I3 K)))) (F15_j1  hp  K))
def F15_j2 (x0a:OA) (x0n x0c:Nat) (x1 x2 x3:Int) (x4a:OA) (x4n x4c:Nat) (x11:OA) (x13:Int) (hp:HP) (K:Kh):Prop:=
  (LoopP (σ:=Int) (fun I s hp=>F15_l3 x0a x0n x0c x1 x2 x3 x4a x4n x4c x11  K I s hp) x13 hp)
theorem F15_r35:R15 79 1 e V0 hp K=
 K (upd e 13 (sI 0)) V0 hp:= by kernel_rfl
def F15 (x0a:OA) (x0n x0c:Nat) (x1 x2 x3:Int) (x4a:OA) (x4n x4c:Nat) (hp:HP) (K:Kh):Prop:=
  (CF Tryd.prog 28 [(.slice x0a x0n x0c),(.int .i64 x1),(.int .i64 x2),(.slice x4a x4n x4c)] hp fun u1 h2=>boolV u1 fun q3=>ite2 q3 (CF Tryd.prog 27 [] h2 fun u4 h5=>boolV u4 fun q6=>K (.bool q6) h5) (CF Tryd.prog 17 [(.slice x0a x0n x0c),(.int .i64 x1),(.int .i64 x2),(.int .i64 x3)] h2 fun u7 h8=>tup2V u7 fun u9 u10=>ptrV u9 fun p11=>intV u10 .i64 fun i12=>ite2 (i12 != 0) (ite2 (Option.isNone p11) (CF Tryd.prog 27 [] h8 fun u13 h14=>boolV u13 fun q15=>K (.bool q15) h14) (K (.bool false) h8)) (F15_j2 x0a x0n x0c x1 x2 x3 x4a x4n x4c p11 0 h8  K)))
noncomputable abbrev o15 (k n:Nat):Code:=.region k (opsAt Tryd.f15 (pth n)) false
noncomputable def F15_code:Code:=(.seq (o15 0 2) (.seq (.seq (o15 1 9) (.cond (.tmp 28) (.seq (o15 2 37) .ret) .skip)) (.seq (o15 3 11) (.seq (.seq (o15 4 39) (.cond (.tmp 39) (.seq (o15 5 151) .ret) .skip)) (.seq (.seq (o15 6 79) (.block 0 (.loop (.seq (.seq (o15 7 1071) (.cond (.tmp 48) .skip (.exit 0))) (.seq (.block 1 (.seq (o15 9 4399) (.seq (o15 10 10543) (.seq (.seq (o15 11 39215) (.cond (.tmp 62) (.seq (o15 12 153903) .ret) .skip)) (.seq (o15 13 47407) (.seq (.seq (o15 14 162095) (.block 2 (.loop (.seq (.seq (o15 15 2193711) (.cond (.tmp 67) .skip (.exit 2))) (.seq (.block 3 (.seq (.region 17 (opsAt Tryd.f15 (pth 9009455)) true) (.seq (.region 18 (opsAt Tryd.f15 (pth 21592367)) true) (.seq (.seq (.region 19 (opsAt Tryd.f15 (pth 80312623)) true) (.cond (.tmp 139) (.seq (o15 20 315193647) .ret) .skip)) (.seq (.seq (o15 21 164198703) (.cond (.tmp 157) (o15 22 365525295) .skip)) (.seq (o15 23 197753135) (.block 4 (.loop (.seq (.seq (o15 24 2278127919) (.cond (.tmp 168) .skip (.exit 4))) (.seq (.block 5 (.seq (.region 26 (opsAt Tryd.f15 (pth 9257449775)) true) (.cond (.tmp 207) (.seq (o15 27 39322220847) .ret) .skip))) (o15 25 3888740655))))))))))) (o15 16 3766575)))))) (.seq (o15 28 194863) (.block 6 (.loop (.seq (o15 29 1177903) (.seq (.cond (.tmp 211) .skip (.exit 6)) (.seq (.block 7 (.seq (o15 30 18479407) (.seq (.region 31 (opsAt Tryd.f15 (pth 43645231)) true) (.cond (.tmp 228) (.seq (o15 32 161085743) .ret) .skip)))) (o15 33 7993647))))))))))))) (o15 8 1839)))))) (.seq (o15 34 95) .ret))))))
theorem F15_body:Tryd.f15.body=some F15_code:=by kernel_rfl
theorem F15_ok (x0a:OA) (x0n x0c:Nat) (x1 x2 x3:Int) (x4a:OA) (x4n x4c:Nat) (hp:HP) (K:Kh) (h:F15 x0a x0n x0c x1 x2 x3 x4a x4n x4c hp K):CF Tryd.prog 15 [(.slice x0a x0n x0c),(.int .i64 x1),(.int .i64 x2),(.int .i64 x3),(.slice x4a x4n x4c)] hp K:=by
 refine .inl ⟨by kernel_rfl,AC.intro (N:=231) Tryd.func15 F15_body rfl (Nat.le_of_ble_eq_true rfl) ?_⟩
 unfold F15 at h
 refine Ar F15_r0 ?_ (r5 0 1 2 3 4 Rn) (z5 Sn) Sn
 refine Aq (Ar (F15_r1 rfl) ?_ (r5 0 1 2 4 3 Rn) (z5 Sn) Sn)
 refine mC h fun u1 h2 h=>mB h fun q3 h=>?_
 refine Ac h rfl (fun h=>?_) (fun h=>?_)
 ·refine Ar F15_r2 ?_ Rn Sn Sn
  refine mC h fun u4 h5 h=>mB h fun q6 h=>?_
  refine AWP.ret ?_
  exact h
 ·refine AWP.skip (Ar (F15_r3 rfl) ?_ (r5 0 1 2 3 4 Rn) (z5 Sn) Sn)
  refine mC h fun u7 h8 h=>mT h fun u9 u10 h=>mP h fun p11 h=>mI h fun i12 h=>?_
  refine Aq (Ar F15_r4 ?_ (r7 12 0 1 2 3 4 11 Rn) (z7 Sn) Sn)
  refine Ac h rfl (fun h=>?_) (fun h=>?_)
  ·refine Ar F15_r5 ?_ (r1 11 Rn) (z1 Sn) Sn
   refine mt h (fun h=>?_) (fun h=>?_)
   ·refine mC h fun u13 h14 h=>mB h fun q15 h=>?_
    refine AWP.ret ?_
    exact h
   ·refine AWP.ret ?_
    exact h
  ·refine AWP.skip (As (fun env pv hp=>Sub E0 env∧Sub V0 pv∧F15_j1  hp  K) ?_ ?_)
   ·refine As (fun env pv hp=>∃ x0a x0n x0c x1 x2 x3 x4a x4n x4c x11 x13,Sub (w7 E0 13 (sI x13) 11 (sP x11) 4 (sS x4a x4n x4c) 3 (sI x3) 2 (sI x2) 1 (sI x1) 0 (sS x0a x0n x0c)) env∧Sub V0 pv∧F15_j2 x0a x0n x0c x1 x2 x3 x4a x4n x4c x11 x13 hp  K) ?_ ?_
    ·refine Ag F15_r35 ?_ (r6 0 1 2 3 4 11 Rn) (z6 Sn) Sn
     exact ⟨_,_,_,_,_,_,_,_,_,_,_,(z7 Sn),Sn,h⟩
    ·rintro env pv hp ⟨x0a,x0n,x0c,x1,x2,x3,x4a,x4n,x4c,x11,x13,he,hv,h⟩
     refine Ae ?_ (r7 0 1 2 3 4 11 13 Rn) he hv
     unfold F15_j2 at h
     refine AWP.block (AWP.loop (σ:=Int) _ (fun s=>w7 E0 13 (sI s) 11 (sP x11) 4 (sS x4a x4n x4c) 3 (sI x3) 2 (sI x2) 1 (sI x1) 0 (sS x0a x0n x0c)) (fun s=>V0) x13 h (fun s=>r7 0 1 2 3 4 11 13 Rn) (z7 Sn) Sn ?_)
     intro I3 x13 hp h
     replace h:F15_l3 x0a x0n x0c x1 x2 x3 x4a x4n x4c x11  K I3 x13 hp:=h
     unfold F15_l3 at h
     refine Aq (Ar F15_r7 ?_ (r7 4 13 0 1 2 3 11 Rn) (z7 Sn) Sn)
     refine Ac h rfl (fun h=>?_) (fun h=>?_)
     ·refine AWP.skip (As (fun env pv hp=>∃ x13,Sub (w7 E0 13 (sI x13) 11 (sP x11) 4 (sS x4a x4n x4c) 3 (sI x3) 2 (sI x2) 1 (sI x1) 0 (sS x0a x0n x0c)) env∧Sub V0 pv∧F15_j4 x0a x0n x0c x1 x2 x3 x4a x4n x4c x11 x13 hp I3 K) ?_ ?_)
      ·refine AWP.block (Ar (F15_r9 rfl) ?_ (r7 4 11 13 0 1 2 3 Rn) (z7 Sn) Sn)
       refine ⟨h.1,h.2.1,mN h.2.2 fun b19 o20 h=>mL h fun l21 h=>mC h fun u22 h23 h=>?_⟩
       refine Ar F15_r10 ?_ (r7 11 0 1 2 3 4 13 Rn) (z7 Sn) Sn
       refine mC h fun u24 h25 h=>mS h fun a26 n27 c28 h=>?_
       refine Aq (Ar (F15_r11 rfl) ?_ (r8 3 14 0 1 2 4 11 13 Rn) (z8 Sn) Sn)
       refine Ac h rfl (fun h=>?_) (fun h=>?_)
       ·refine Ar F15_r12 ?_ Rn Sn Sn
        refine AWP.ret ?_
        exact h
       ·refine AWP.skip (Ar F15_r13 ?_ (r8 0 1 2 3 4 11 13 14 Rn) (z8 Sn) Sn)
        refine fun b29 hb_b_29=>?_
        replace h:=h b29 hb_b_29
        refine As (fun env pv hp=>∃ x13 x15,Sub (w8 E0 15 (sV (.map x15)) 13 (sI x13) 11 (sP x11) 4 (sS x4a x4n x4c) 3 (sI x3) 2 (sI x2) 1 (sI x1) 0 (sS x0a x0n x0c)) env∧Sub V0 pv∧F15_j5 x0a x0n x0c x1 x2 x3 x4a x4n x4c x11 x13 x15 hp I3 K) ?_ ?_
        ·refine As (fun env pv hp=>∃ x13 x14a x14n x14c x15 x16,Sub (w2 (w8 E0 16 (sI x16) 15 (sV (.map x15)) 14 (sS x14a x14n x14c) 13 (sI x13) 11 (sP x11) 4 (sS x4a x4n x4c) 3 (sI x3) 2 (sI x2)) 1 (sI x1) 0 (sS x0a x0n x0c)) env∧Sub V0 pv∧F15_j9 x0a x0n x0c x1 x2 x3 x4a x4n x4c x11 x13 x14a x14n x14c x15 x16 hp I3 K) ?_ ?_
         ·refine Ag F15_r34 ?_ (r8 0 1 2 3 4 11 13 14 (r1 15 Rn)) (z1 (z8 Sn)) Sn
          exact ⟨_,_,_,_,_,_,(z2 (z8 Sn)),Sn,h⟩
         ·rintro env pv hp ⟨x13,x14a,x14n,x14c,x15,x16,he,hv,h⟩
          refine Ae ?_ (r8 0 1 2 3 4 11 13 14 (r2 15 16 Rn)) he hv
          unfold F15_j9 at h
          refine AWP.block (AWP.loop (σ:=Int) _ (fun s=>w2 (w8 E0 16 (sI s) 15 (sV (.map x15)) 14 (sS x14a x14n x14c) 13 (sI x13) 11 (sP x11) 4 (sS x4a x4n x4c) 3 (sI x3) 2 (sI x2)) 1 (sI x1) 0 (sS x0a x0n x0c)) (fun s=>V0) x16 h (fun s=>r8 0 1 2 3 4 11 13 14 (r2 15 16 Rn)) (z2 (z8 Sn)) Sn ?_)
          intro I10 x16 hp h
          replace h:F15_l10 x0a x0n x0c x1 x2 x3 x4a x4n x4c x11 x13 x14a x14n x14c x15 I3 K I10 x16 hp:=h
          unfold F15_l10 at h
          refine Aq (Ar (F15_r21 rfl) ?_ (r8 14 16 0 1 2 3 4 11 (r2 13 15 Rn)) (z2 (z8 Sn)) Sn)
          refine Ac h rfl (fun h=>?_) (fun h=>?_)
          ·refine AWP.skip (As (fun env pv hp=>∃ x16,Sub (w2 (w8 E0 16 (sI x16) 15 (sV (.map x15)) 14 (sS x14a x14n x14c) 13 (sI x13) 11 (sP x11) 4 (sS x4a x4n x4c) 3 (sI x3) 2 (sI x2)) 1 (sI x1) 0 (sS x0a x0n x0c)) env∧Sub V0 pv∧F15_j11 x0a x0n x0c x1 x2 x3 x4a x4n x4c x11 x13 x14a x14n x14c x15 x16 hp I3 I10 K) ?_ ?_)
           ·refine AWP.block (Aq (AWP.rgnD (by kernel_rfl) (by kernel_rfl) (F15_r23 rfl) ?_ (r8 11 14 16 0 1 2 3 4 (r2 13 15 Rn)) (z2 (z8 Sn)) Sn))
            refine ⟨h.1,h.2.1,mN h.2.2 (fun b45 o46 h=>mV h (fun v47 h=>mI h (fun i48 h=>⟨h.1,h.2.1,mN h.2.2 fun b49 o50 h=>mL h fun l51 h=>mC h fun u52 h53 h=>mT h fun u54 u55 h=>mA h fun l56 h=>mB h fun q57 h=>mf h fun h=>mf h fun h=>mf h fun h=>?_⟩)))⟩
            refine Aq (AWP.rgnD (by kernel_rfl) (by kernel_rfl) (F15_r24 rfl) ?_ (r8 11 14 16 0 1 2 3 4 (r2 13 15 (rp 17 17 0 (r1 18 Rn)))) (z4 (z8 Sn)) (z1 Sn))
            refine ⟨h.1,h.2.1,mN h.2.2 (fun b58 o59 h=>mV h (fun v60 h=>mI h (fun i61 h=>⟨h.1,h.2.1,mN h.2.2 fun b62 o63 h=>mL h fun l64 h=>mC h fun u65 h66 h=>mT h fun u67 u68 h=>mA h fun l69 h=>mB h fun q70 h=>mf h fun h=>mf h fun h=>mf h fun h=>?_⟩)))⟩
            refine Aq (As (fun env pv hp=>∃ x16 x139,Sub (w3 (w8 E0 139 (sB x139) 16 (sI x16) 15 (sV (.map x15)) 14 (sS x14a x14n x14c) 13 (sI x13) 11 (sP x11) 4 (sS x4a x4n x4c) 3 (sI x3)) 2 (sI x2) 1 (sI x1) 0 (sS x0a x0n x0c)) env∧Sub V0 pv∧F15_j12 x0a x0n x0c x1 x2 x3 x4a x4n x4c x11 x13 x14a x14n x14c x15 x16 x139 hp I3 I10 K) ?_ ?_)
            ·refine AWP.rgnD (by kernel_rfl) (by kernel_rfl) (F15_r33 rfl) ?_ (r2 14 16 (rp 17 17 0 (r1 18 (rp 19 19 0 (r8 20 0 1 2 3 4 11 13 (r1 15 Rn)))))) (z6 (z8 Sn)) (z2 Sn)
             refine mt h (fun h=>?_) (fun h=>?_)
             ·exact ⟨_,_,(z3 (z8 Sn)),Sn,h⟩
             ·refine mt h (fun h=>?_) (fun h=>?_)
              ·exact ⟨_,_,(z3 (z8 Sn)),Sn,h⟩
              ·refine mL h (fun l109 h=>⟨h.1,h.2.1,mN h.2.2 fun b110 o111 h=>mL h fun l112 h=>mE h fun q113 h=>?_⟩)
               refine mt h (fun h=>?_) (fun h=>?_)
               ·exact ⟨_,_,(z3 (z8 Sn)),Sn,h⟩
               ·refine mL h (fun l114 h=>⟨h.1,h.2.1,mN h.2.2 fun b115 o116 h=>mL h fun l117 h=>mE h fun q118 h=>?_⟩)
                refine mt h (fun h=>?_) (fun h=>?_)
                ·exact ⟨_,_,(z3 (z8 Sn)),Sn,h⟩
                ·refine mt h (fun h=>?_) (fun h=>?_)
                 ·refine ⟨h.1,h.2.1,mN h.2.2 (fun b119 o120 h=>mV h (fun v121 h=>mI h (fun i122 h=>⟨h.1,h.2.1,mN h.2.2 fun b123 o124 h=>mV h fun v125 h=>mI h fun i126 h=>?_⟩)))⟩
                  exact ⟨_,_,(z3 (z8 Sn)),Sn,h⟩
                 ·exact ⟨_,_,(z3 (z8 Sn)),Sn,h⟩
            ·rintro env pv hp ⟨x16,x139,he,hv,h⟩
             refine Ae ?_ (r8 0 1 2 3 4 11 13 14 (r3 15 16 139 Rn)) he hv
             unfold F15_j12 at h
             refine Ac h rfl (fun h=>?_) (fun h=>?_)
             ·refine Ar F15_r25 ?_ Rn Sn Sn
              refine AWP.ret ?_
              exact h
             ·refine AWP.skip (As (fun env pv hp=>∃ x16,Sub (w2 (w8 E0 16 (sI x16) 15 (sV (.map x15)) 14 (sS x14a x14n x14c) 13 (sI x13) 11 (sP x11) 4 (sS x4a x4n x4c) 3 (sI x3) 2 (sI x2)) 1 (sI x1) 0 (sS x0a x0n x0c)) env∧Sub V0 pv∧F15_j13 x0a x0n x0c x1 x2 x3 x4a x4n x4c x11 x13 x14a x14n x14c x15 x16 hp I3 I10 K) ?_ ?_)
              ·refine As (fun env pv hp=>∃ x16 x157,Sub (w3 (w8 E0 157 (sB x157) 16 (sI x16) 15 (sV (.map x15)) 14 (sS x14a x14n x14c) 13 (sI x13) 11 (sP x11) 4 (sS x4a x4n x4c) 3 (sI x3)) 2 (sI x2) 1 (sI x1) 0 (sS x0a x0n x0c)) env∧Sub V0 pv∧F15_j17 x0a x0n x0c x1 x2 x3 x4a x4n x4c x11 x13 x14a x14n x14c x15 x16 x157 hp I3 I10 K) ?_ ?_
               ·refine Ag (F15_r32 rfl) ?_ (r8 1 2 14 16 0 3 4 11 (r2 13 15 Rn)) (z2 (z8 Sn)) Sn
                refine ⟨h.1,h.2.1,mN h.2.2 fun b101 o102 h=>mV h fun v103 h=>mI h fun i104 h=>?_⟩
                refine mt h (fun h=>?_) (fun h=>?_)
                ·refine ⟨h.1,h.2.1,mN h.2.2 fun b105 o106 h=>mV h fun v107 h=>mI h fun i108 h=>?_⟩
                 exact ⟨_,_,(z3 (z8 Sn)),Sn,h⟩
                ·exact ⟨_,_,(z3 (z8 Sn)),Sn,h⟩
               ·rintro env pv hp ⟨x16,x157,he,hv,h⟩
                refine Ae ?_ (r8 0 1 2 3 4 11 13 14 (r3 15 16 157 Rn)) he hv
                unfold F15_j17 at h
                refine Ac h rfl (fun h=>?_) (fun h=>?_)
                ·refine Ag (F15_r31 rfl) ?_ (r8 14 15 16 0 1 2 3 4 (r2 11 13 Rn)) (z2 (z8 Sn)) Sn
                 refine ⟨h.1,h.2.1,mN h.2.2 fun b93 o94 h=>mV h fun v95 h=>mI h fun i96 h=>mR h fun u97 h=>mI h fun i98 h=>mO h fun u99 h100 h=>?_⟩
                 exact ⟨_,(z2 (z8 Sn)),Sn,h⟩
                ·refine AWP.skip ?_
                 exact ⟨_,(z2 (z8 Sn)),Sn,h⟩
              ·rintro env pv hp ⟨x16,he,hv,h⟩
               refine Ae ?_ (r8 0 1 2 3 4 11 13 14 (r2 15 16 Rn)) he hv
               unfold F15_j13 at h
               refine As (fun env pv hp=>∃ x16 x21,Sub (w3 (w8 E0 21 (sI x21) 16 (sI x16) 15 (sV (.map x15)) 14 (sS x14a x14n x14c) 13 (sI x13) 11 (sP x11) 4 (sS x4a x4n x4c) 3 (sI x3)) 2 (sI x2) 1 (sI x1) 0 (sS x0a x0n x0c)) env∧Sub V0 pv∧F15_j14 x0a x0n x0c x1 x2 x3 x4a x4n x4c x11 x13 x14a x14n x14c x15 x16 x21 hp I3 I10 K) ?_ ?_
               ·refine Ag F15_r30 ?_ (r8 0 1 2 3 4 11 13 14 (r2 15 16 Rn)) (z2 (z8 Sn)) Sn
                exact ⟨_,_,(z3 (z8 Sn)),Sn,h⟩
               ·rintro env pv hp ⟨x16,x21,he,hv,h⟩
                refine Ae ?_ (r8 0 1 2 3 4 11 13 14 (r3 15 16 21 Rn)) he hv
                unfold F15_j14 at h
                refine AWP.block (AWP.loop (σ:=Int) _ (fun s=>w3 (w8 E0 21 (sI s) 16 (sI x16) 15 (sV (.map x15)) 14 (sS x14a x14n x14c) 13 (sI x13) 11 (sP x11) 4 (sS x4a x4n x4c) 3 (sI x3)) 2 (sI x2) 1 (sI x1) 0 (sS x0a x0n x0c)) (fun s=>V0) x21 h (fun s=>r8 0 1 2 3 4 11 13 14 (r3 15 16 21 Rn)) (z3 (z8 Sn)) Sn ?_)
                intro I15 x21 hp h
                replace h:F15_l15 x0a x0n x0c x1 x2 x3 x4a x4n x4c x11 x13 x14a x14n x14c x15 x16 I3 I10 K I15 x21 hp:=h
                unfold F15_l15 at h
                refine Aq (Ar F15_r26 ?_ (r8 16 21 0 1 2 3 4 11 (r3 13 14 15 Rn)) (z3 (z8 Sn)) Sn)
                refine Ac h rfl (fun h=>?_) (fun h=>?_)
                ·refine AWP.skip (Aq (AWP.block (As (fun env pv hp=>∃ x21 x207,Sub (w4 (w8 E0 207 (sB x207) 21 (sI x21) 16 (sI x16) 15 (sV (.map x15)) 14 (sS x14a x14n x14c) 13 (sI x13) 11 (sP x11) 4 (sS x4a x4n x4c)) 3 (sI x3) 2 (sI x2) 1 (sI x1) 0 (sS x0a x0n x0c)) env∧Sub V0 pv∧F15_j16 x0a x0n x0c x1 x2 x3 x4a x4n x4c x11 x13 x14a x14n x14c x15 x16 x21 x207 hp I3 I10 I15 K) ?_ ?_)))
                 ·refine AWP.rgnD (by kernel_rfl) (by kernel_rfl) (F15_r29 rfl) ?_ (r8 14 16 21 0 1 2 3 4 (r3 11 13 15 Rn)) (z3 (z8 Sn)) Sn
                  refine ⟨h.1,h.2.1,mN h.2.2 (fun b71 o72 h=>mV h (fun v73 h=>mI h (fun i74 h=>⟨h.1,h.2.1,mN h.2.2 fun b75 o76 h=>mV h fun v77 h=>mI h fun i78 h=>?_⟩)))⟩
                  refine mt h (fun h=>?_) (fun h=>?_)
                  ·refine ⟨h.1,h.2.1,mN h.2.2 (fun b79 o80 h=>mL h (fun l81 h=>⟨h.1,h.2.1,mN h.2.2 fun b82 o83 h=>mL h fun l84 h=>mE h fun q85 h=>?_⟩))⟩
                   refine mt h (fun h=>?_) (fun h=>?_)
                   ·exact ⟨_,_,(z4 (z8 Sn)),Sn,h⟩
                   ·refine ⟨h.1,h.2.1,mN h.2.2 (fun b86 o87 h=>mL h (fun l88 h=>⟨h.1,h.2.1,mN h.2.2 fun b89 o90 h=>mL h fun l91 h=>mE h fun q92 h=>?_⟩))⟩
                    exact ⟨_,_,(z4 (z8 Sn)),Sn,h⟩
                  ·exact ⟨_,_,(z4 (z8 Sn)),Sn,h⟩
                 ·rintro env pv hp ⟨x21,x207,he,hv,h⟩
                  refine Ae ?_ (r8 0 1 2 3 4 11 13 14 (r4 15 16 21 207 Rn)) he hv
                  unfold F15_j16 at h
                  refine Ac h rfl (fun h=>?_) (fun h=>?_)
                  ·refine Ar F15_r27 ?_ Rn Sn Sn
                   refine AWP.ret ?_
                   exact h
                  ·refine AWP.skip (Ag F15_r28 ?_ (r8 21 0 1 2 3 4 11 13 (r3 14 15 16 Rn)) (z3 (z8 Sn)) Sn)
                   exact ⟨_,(z3 (z8 Sn)),Sn,h⟩
                ·refine AWP.exit ?_
                 exact ⟨_,(z2 (z8 Sn)),Sn,h⟩
           ·rintro env pv hp ⟨x16,he,hv,h⟩
            refine Ae ?_ (r8 0 1 2 3 4 11 13 14 (r2 15 16 Rn)) he hv
            unfold F15_j11 at h
            refine Ag F15_r22 ?_ (r8 16 0 1 2 3 4 11 13 (r2 14 15 Rn)) (z2 (z8 Sn)) Sn
            exact ⟨_,(z2 (z8 Sn)),Sn,h⟩
          ·refine AWP.exit ?_
           exact ⟨_,_,(z8 Sn),Sn,h⟩
        ·rintro env pv hp ⟨x13,x15,he,hv,h⟩
         refine Ae ?_ (r8 0 1 2 3 4 11 13 15 Rn) he hv
         unfold F15_j5 at h
         refine As (fun env pv hp=>∃ x13 x15 x208a x208n x208c x209 x210,Sub (w3 (w8 E0 210 (sI x210) 209 (sI x209) 208 (sS x208a x208n x208c) 15 (sV (.map x15)) 13 (sI x13) 11 (sP x11) 4 (sS x4a x4n x4c) 3 (sI x3)) 2 (sI x2) 1 (sI x1) 0 (sS x0a x0n x0c)) env∧Sub V0 pv∧F15_j6 x0a x0n x0c x1 x2 x3 x4a x4n x4c x11 x13 x15 x208a x208n x208c x209 x210 hp I3 K) ?_ ?_
         ·refine Ag F15_r20 ?_ (r8 0 1 2 3 4 11 13 15 Rn) (z8 Sn) Sn
          refine fun b44 hb_b_44=>?_
          replace h:=h b44 hb_b_44
          exact ⟨_,_,_,_,_,_,_,(z3 (z8 Sn)),Sn,h⟩
         ·rintro env pv hp ⟨x13,x15,x208a,x208n,x208c,x209,x210,he,hv,h⟩
          refine Ae ?_ (r8 0 1 2 3 4 11 13 15 (r3 208 209 210 Rn)) he hv
          unfold F15_j6 at h
          refine AWP.block (AWP.loop (σ:=Int) _ (fun s=>w3 (w8 E0 210 (sI s) 209 (sI x209) 208 (sS x208a x208n x208c) 15 (sV (.map x15)) 13 (sI x13) 11 (sP x11) 4 (sS x4a x4n x4c) 3 (sI x3)) 2 (sI x2) 1 (sI x1) 0 (sS x0a x0n x0c)) (fun s=>V0) x210 h (fun s=>r8 0 1 2 3 4 11 13 15 (r3 208 209 210 Rn)) (z3 (z8 Sn)) Sn ?_)
          intro I7 x210 hp h
          replace h:F15_l7 x0a x0n x0c x1 x2 x3 x4a x4n x4c x11 x13 x15 x208a x208n x208c x209 I3 K I7 x210 hp:=h
          unfold F15_l7 at h
          refine Ar F15_r14 ?_ (r8 209 210 0 1 2 3 4 11 (r3 13 15 208 Rn)) (z3 (z8 Sn)) Sn
          refine Aq (Ac h rfl (fun h=>?_) (fun h=>?_))
          ·refine AWP.skip (Aq (AWP.block (Ar (F15_r15 rfl) ?_ (r8 208 210 0 1 2 3 4 11 (r3 13 15 209 Rn)) (z3 (z8 Sn)) Sn)))
           refine ⟨h.1,h.2.1,mN h.2.2 fun b30 o31 h=>mV h fun v32 h=>mI h fun i33 h=>?_⟩
           refine As (fun env pv hp=>∃ x210 x228,Sub (w4 (w8 E0 228 (sB x228) 210 (sI x210) 209 (sI x209) 208 (sS x208a x208n x208c) 15 (sV (.map x15)) 13 (sI x13) 11 (sP x11) 4 (sS x4a x4n x4c)) 3 (sI x3) 2 (sI x2) 1 (sI x1) 0 (sS x0a x0n x0c)) env∧Sub V0 pv∧F15_j8 x0a x0n x0c x1 x2 x3 x4a x4n x4c x11 x13 x15 x208a x208n x208c x209 x210 x228 hp I3 I7 K) ?_ ?_
           ·refine AWP.rgnC (cf:=[(2,5)]) (c:=[([true],true,[0,1,2,3,4,5,6,7,8,9,10,11,12,13,14]),([false],true,[0,1,3,4,5,2,6,7,8,9,10,11,12,13,14])]) (by kernel_rfl) (by kernel_rfl) (by kernel_rfl) (by kernel_rfl) (allO_t (Eq.mpr F15_r18 ?_) (allO_t (Eq.mpr F15_r19 ?_) trivial)) (r8 0 1 2 11 15 23 3 4 (r4 13 208 209 210 Rn)) (z4 (z8 Sn)) Sn
            ·replace h:=h.1
             refine mC h fun u34 h35 h=>mI h fun i36 h=>mR h fun u37 h=>mI h fun i38 h=>?_
             exact ⟨_,_,(z4 (z8 Sn)),Sn,h⟩
            ·replace h:=h.2
             refine mR h fun u39 h=>mI h fun i40 h=>mC h fun u41 h42 h=>mI h fun i43 h=>?_
             exact ⟨_,_,(z4 (z8 Sn)),Sn,h⟩
           ·rintro env pv hp ⟨x210,x228,he,hv,h⟩
            refine Ae ?_ (r8 0 1 2 3 4 11 13 15 (r4 208 209 210 228 Rn)) he hv
            unfold F15_j8 at h
            refine Ac h rfl (fun h=>?_) (fun h=>?_)
            ·refine Ar F15_r16 ?_ Rn Sn Sn
             refine AWP.ret ?_
             exact h
            ·refine AWP.skip (Ag F15_r17 ?_ (r8 210 0 1 2 3 4 11 13 (r3 15 208 209 Rn)) (z3 (z8 Sn)) Sn)
             exact ⟨_,(z3 (z8 Sn)),Sn,h⟩
          ·refine AWP.exit ?_
           exact ⟨_,(z7 Sn),Sn,h⟩
      ·rintro env pv hp ⟨x13,he,hv,h⟩
       refine Ae ?_ (r7 0 1 2 3 4 11 13 Rn) he hv
       unfold F15_j4 at h
       refine Ag F15_r8 ?_ (r7 13 0 1 2 3 4 11 Rn) (z7 Sn) Sn
       exact ⟨_,(z7 Sn),Sn,h⟩
     ·refine AWP.exit ?_
      exact ⟨Sn,Sn,h⟩
   ·rintro env pv hp ⟨he,hv,h⟩
    refine Ae ?_ Rn he hv
    unfold F15_j1 at h
    refine Ar F15_r6 ?_ Rn Sn Sn
    refine mC h fun u16 h17 h=>mB h fun q18 h=>?_
    refine AWP.ret ?_
    exact h
end
end Go.Proofs
set_option linter.unusedVariables false
set_option linter.unusedSimpArgs false
set_option maxRecDepth 20000
namespace Go.Proofs
open Go Go.HL
theorem t6_shaped (t:V6 × Int):shaped Tryd.prog 5 32 (t6 t)=true:=by kernel_rfl
theorem eq32 {a b:V6 × Int} {c:Bool→Prop} (h:c (decide (a=b))):eqAgg Tryd.prog 32 (t6 a) (t6 b) c:=
  eqAgg_of (m:=5) (D:=5) (by kernel_rfl) (t6_shaped a) (t6_shaped b) (by simp [t6_inj]) h
theorem u117:Tryd.prog.underlying 117=some (.map 3 3):=by kernel_rfl
theorem zwi:∀ w:World,(zeroValue 3).run Tryd.prog w=.ok (iw 0) w:=fun w=>itoa_zero (by kernel_rfl) w
theorem used_snoc (low high:Int) (M:List Bd) (b:Bd) (p:Int):usedB low high (M++[b]) p=usedB low high M p+(if b.proto=p∧low≤b.out.2∧b.out.2≤high then 1 else 0):=by
  unfold usedB
  rw [List.filter_append,List.length_append]
  congr 1
  by_cases h:b.proto=p∧low≤b.out.2∧b.out.2≤high
  · rw [if_pos h]
    simp [h.1,h.2.1,h.2.2]
  · rw [if_neg h]
    rw [List.length_eq_zero_iff,List.filter_eq_nil_iff]
    intro x hx
    rw [List.mem_singleton.1 hx]
    simpa using h
theorem used_len (low high:Int) (M:List Bd) (p:Int):usedB low high M p≤M.length:=List.length_filter_le _ _
section
variable {tb:Obj} {hp0 hp:HP} {t mm:Nat} {l:List Q} {low high:Int} {mx last n:Nat} {L:List Bd} {K:Value→HP→Prop}
/-- The table, the row of all, and the map of how many are used. -/
def OS (tb:Obj) (hp0 hp:HP) (t:Nat) (l:List Q) (low high:Int) (mx last n:Nat) (L:List Bd) (a:Option Addr) (c mm:Nat) (U:List (Int × Int)):Prop:=
  ∃ ps:Nat→HP,Parts hp ps∧ps 0=hp0.set 0 .none∧BdW tb (ps 1) t l low high mx last n L∧Row (ps 2) a L.length c 36 26 (L.flatMap bdc)∧MapE iw iw U (ps 3 mm)
theorem OS.w {a c U} (h:OS tb hp0 hp t l low high mx last n L a c mm U):BdW tb hp t l low high mx last n L:=by
  obtain ⟨ps,P,h0,h1,h2,h3⟩:=h; exact h1.sub (P.sub 1)
theorem OS.row {a c U} (h:OS tb hp0 hp t l low high mx last n L a c mm U):Row hp a L.length c 36 26 (L.flatMap bdc):=by
  obtain ⟨ps,P,h0,h1,h2,h3⟩:=h; exact h2.sub (P.sub 2)
theorem OS.map {a c U} (h:OS tb hp0 hp t l low high mx last n L a c mm U):MapE iw iw U (hp mm):=by
  obtain ⟨ps,P,h0,h1,h2,h3⟩:=h; exact h3.sub (P.sub 3)
theorem OS.upd {a c U U'} (h:OS tb hp0 hp t l low high mx last n L a c mm U) {e:Ent} (he:MapE iw iw U' e):OS tb hp0 (hp.set mm e) t l low high mx last n L a c mm U':=by
  obtain ⟨ps,P,h0,h1,h2,h3⟩:=h
  exact ⟨_,P.put 3 h3.ne e,by rw [pu_ne _ _ (by omega)]; exact h0,by rw [pu_ne _ _ (by omega)]; exact h1,by rw [pu_ne _ _ (by omega)]; exact h2,by rw [pu_eq,HP.set_eq]; exact he⟩
theorem OS.new {a c U} (h:OS tb hp0 hp t l low high mx last n L a c mm U) {b:Nat} (hb:hp b=.none) (e:Ent):OS tb hp0 (hp.set b e) t l low high mx last n L a c mm U:=by
  obtain ⟨ps,P,h0,h1,h2,h3⟩:=h
  exact ⟨ps,P.weak (HSub.set_fresh _ _ hb),h0,h1,h2,h3⟩
theorem OS.s {a c U} (h:OS tb hp0 hp t l low high mx last n L a c mm U):BdS tb hp0 hp t l low high mx last n L:=by
  obtain ⟨ps,P,h0,h1,h2,h3⟩:=h; exact BdS.of P h0 h1
set_option maxHeartbeats 4000000 in
/-- One binding is looked at. -/
theorem onceK {x0a x4a a:Option Addr} {x0n x0c x4n x4c c:Nat} {x3 x13:Int} {I3 I10:Int→HP→Prop} {U:List (Int × Int)} {k:Nat} (h:OS tb hp0 hp t l low high mx last n L a c mm U) (hk:k<L.length) (hsm:L.length≤10000)
    (hU:∀ p,(getL p U).getD 0=((usedB low high (L.take k) p:Nat):Int))
    (hI:∀ hp' U',OS tb hp0 hp' t l low high mx last n L a c mm U'→(∀ p,(getL p U').getD 0=((usedB low high (L.take (k+1)) p:Nat):Int))→I10 ((k+1:Nat):Int) hp') :
    F15_l10 x0a x0n x0c low high x3 x4a x4n x4c (some ⟨t,0,none⟩) x13 a L.length c (some mm) I3 K I10 (k:Int) hp:=by
  have hinv:=h.w.inv
  have hmem:L[k]∈L:=List.getElem_mem hk
  obtain ⟨k1,k2,k3,_,_⟩:=hinv.ok _ hmem
  have f6:=find6_of hinv hmem
  have f4:=find4_of hinv hmem
  obtain ⟨b,o,ea,hcn,hcc⟩:=row_bd h.row hk
  have w1:IntKind.wrap .i64 ((k:Int)+1)=((k+1:Nat):Int):=wi (by omega) (by omega)
  have r1:hp.cell b (o+k*26+1)=some (.int .i64 L[k].proto):=hcc 1 _ (bdc_proto _)
  have r2:hp.cellN b (o+k*26+2) 17=some (t6 L[k].inn):=(cellN_part hcn (j:=2) (k:=17) (by omega)).trans rfl
  have r19:hp.cellN b (o+k*26+19) 5=some (t4 L[k].out):=(cellN_part hcn (j:=19) (k:=5) (by omega)).trans rfl
  have r23:hp.cell b (o+k*26+19+4)=some (.int .i64 L[k].out.2):=hcc 23 _ rfl
  have r0:hp.cell b (o+k*26+0)=some (.int .i64 L[k].id):=hcc 0 _ (bdc_id _)
  have j13:∀ hp' U',OS tb hp0 hp' t l low high mx last n L a c mm U'→(∀ p,(getL p U').getD 0=((usedB low high (L.take (k+1)) p:Nat):Int)) →
      F15_j13 x0a x0n x0c low high x3 x4a x4n x4c (some ⟨t,0,none⟩) x13 a L.length c (some mm) (k:Int) hp' I3 I10 K:=by
    intro hp' U' h' hU'
    unfold F15_j13 F15_j14
    refine LoopP.by (J:=fun kk (z:Int) hp2=>hp2=hp'∧∃ j:Nat,z=j∧j+kk=k) ?_ (n:=k) ⟨rfl,0,rfl,by omega⟩
    rintro I kk z hp2 ⟨rfl,j,rfl,hjk⟩ hI2
    unfold F15_l15
    by_cases hj:j<k
    rotate_left
    · rw [decide_eq_false (by omega),ite2_false]
      unfold F15_j11
      rw [w1]
      exact hI hp2 U' h' hU'
    rw [decide_eq_true (by omega),ite2_true]
    obtain ⟨b1,o1,ea1,hcn1,hcc1⟩:=row_bd h'.row hk
    obtain ⟨b2,o2,ea2,hcn2,hcc2⟩:=row_bd h'.row (show j<L.length by omega)
    rw [ea1] at ea2
    cases ea2
    have s1:hp2.cell b1 (o1+j*26+1)=some (.int .i64 L[j].proto):=hcc2 1 _ (bdc_proto _)
    have s2:hp2.cellN b1 (o1+j*26+2) 17=some (t6 L[j].inn):=(cellN_part hcn2 (j:=2) (k:=17) (by omega)).trans rfl
    have s19:hp2.cellN b1 (o1+j*26+19) 5=some (t4 L[j].out):=(cellN_part hcn2 (j:=19) (k:=5) (by omega)).trans rfl
    have q1:hp2.cell b1 (o1+k*26+1)=some (.int .i64 L[k].proto):=hcc1 1 _ (bdc_proto _)
    have q2:hp2.cellN b1 (o1+k*26+2) 17=some (t6 L[k].inn):=(cellN_part hcn1 (j:=2) (k:=17) (by omega)).trans rfl
    have q19:hp2.cellN b1 (o1+k*26+19) 5=some (t4 L[k].out):=(cellN_part hcn1 (j:=19) (k:=5) (by omega)).trans rfl
    have w2:IntKind.wrap .i64 ((j:Int)+1)=((j+1:Nat):Int):=wi (by omega) (by omega)
    have j16:F15_j16 x0a x0n x0c low high x3 x4a x4n x4c (some ⟨t,0,none⟩) x13 a L.length c (some mm) (k:Int) (j:Int) false hp2 I3 I10 I K:=by
      unfold F15_j16
      rw [ite2_false,w2]
      exact hI2 (kk-1) _ _ (by omega) ⟨rfl,j+1,rfl,by omega⟩
    rw [ea1] at j16 ⊢
    refine ⟨by omega,by omega,?_⟩
    rw [ptrN_some,Int.toNat_natCast,s1,ldV_some,intV_int]
    refine ⟨by omega,by omega,?_⟩
    rw [ptrN_some,Int.toNat_natCast,q1,ldV_some,intV_int]
    by_cases hp:L[j].proto=L[k].proto
    rotate_left
    · rw [show (L[j].proto==L[k].proto)=false by simp [hp],ite2_false]
      exact j16
    rw [show (L[j].proto==L[k].proto)=true by simp [hp],ite2_true]
    have ne6:=List.pairwise_iff_getElem.1 (List.pairwise_map.1 hinv.keys6) j k (by omega) hk hj
    have ne4:=List.pairwise_iff_getElem.1 (List.pairwise_map.1 hinv.keys4) j k (by omega) hk hj
    refine ⟨by omega,by omega,?_⟩
    rw [ptrN_some,s2,ldL_some]
    refine ⟨by omega,by omega,?_⟩
    rw [ptrN_some,q2,ldL_some]
    refine eq32 ?_
    rw [decide_eq_false (fun e=>ne6 (by rw [hp,e])),ite2_false]
    refine ⟨by omega,by omega,?_⟩
    rw [ptrN_some,s19,ldL_some]
    refine ⟨by omega,by omega,?_⟩
    rw [ptrN_some,q19,ldL_some]
    refine eq34 ?_
    rw [decide_eq_false (fun e=>ne4 (by rw [hp,e]))]
    exact j16
  have htake:L.take (k+1)=L.take k++[L[k]]:=List.take_succ_eq_append_getElem hk
  have j12:F15_j12 x0a x0n x0c low high x3 x4a x4n x4c (some ⟨t,0,none⟩) x13 a L.length c (some mm) (k:Int) false hp I3 I10 K:=by
    unfold F15_j12
    rw [ite2_false]
    have out:¬ (low≤L[k].out.2∧L[k].out.2≤high)→F15_j17 x0a x0n x0c low high x3 x4a x4n x4c (some ⟨t,0,none⟩) x13 a L.length c (some mm) (k:Int) false hp I3 I10 K:=fun hno=>by
      unfold F15_j17
      rw [ite2_false]
      refine j13 hp U h fun p=>?_
      rw [hU p,htake,used_snoc,if_neg (fun e=>hno e.2),Nat.add_zero]
    rw [ea] at out ⊢
    refine ⟨by omega,by omega,?_⟩
    rw [ptrN_some,Int.toNat_natCast,r23,ldV_some,intV_int]
    by_cases c1:L[k].out.2≥low
    rotate_left
    · rw [decide_eq_false c1,ite2_false]
      exact out fun e=>c1 e.1
    rw [decide_eq_true c1,ite2_true]
    refine ⟨by omega,by omega,?_⟩
    rw [ptrN_some,r23,ldV_some,intV_int]
    by_cases c2:L[k].out.2≤high
    rotate_left
    · rw [decide_eq_false c2]
      exact out fun e=>c2 e.2
    rw [decide_eq_true c2]
    unfold F15_j17
    rw [ite2_true]
    refine ⟨by omega,by omega,?_⟩
    rw [ptrN_some,Int.toNat_natCast,r1,ldV_some,intV_int]
    refine rdS_lookup (l:=U) u117 enc3 (z:=iw 0) zwi h.map L[k].proto (ev:=iw) (cm:=false) ?_
    have hg:((getL L[k].proto U).map iw).getD (iw 0)=iw ((usedB low high (L.take k) L[k].proto:Nat):Int):=by
      rw [← hU]
      cases getL L[k].proto U <;> rfl
    have hul:=used_len low high (L.take k) L[k].proto
    have htl:(L.take k).length≤10000:=by rw [List.length_take]; omega
    have w3:IntKind.wrap .i64 (((usedB low high (L.take k) L[k].proto:Nat):Int)+1)=((usedB low high (L.take k) L[k].proto+1:Nat):Int):=wi (by omega) (by omega)
    simp only [Bool.false_eq_true,if_false]
    rw [hg]
    show intV (.int .i64 _) .i64 _
    rw [intV_int,w3]
    refine opS_mapUpdate u117 enc3 h.map L[k].proto (ev:=iw) ((usedB low high (L.take k) L[k].proto+1:Nat):Int) fun e he=>?_
    rw [← ea]
    refine j13 _ _ (h.upd he) fun p=>?_
    rw [getL_put,htake,used_snoc]
    by_cases hp:p=L[k].proto
    · rw [if_pos hp,hp,if_pos ⟨rfl,c1,c2⟩]; rfl
    · rw [if_neg hp,if_neg (fun e=>hp e.1.symm),Nat.add_zero]
      exact hU p
  unfold F15_l10
  rw [ea] at j12 ⊢
  rw [decide_eq_true (by omega),ite2_true]
  refine ⟨by omega,by omega,?_⟩
  rw [ptrN_some,Int.toNat_natCast,r1,ldV_some,intV_int]
  refine ⟨by omega,by omega,?_⟩
  rw [ptrN_some,r2,ldL_some]
  refine W65 h.w (okZ_kind k1) k2 ?_
  rw [f6]
  unfold toldV
  rw [tup2V_mk,aggV_agg,boolV_bool,if_pos (bdc_len _),if_pos (bdc_one _),if_pos (by simp [bdc_len])]
  refine ⟨by omega,by omega,?_⟩
  rw [ptrN_some,r1,ldV_some,intV_int]
  refine ⟨by omega,by omega,?_⟩
  rw [ptrN_some,r19,ldL_some]
  refine W63 h.w (okZ_kind k1) k3 ?_
  rw [f4]
  unfold toldV
  rw [tup2V_mk,aggV_agg,boolV_bool,if_pos (bdc_len _),if_pos (bdc_one _),if_pos (by simp [bdc_len])]
  simp only [Option.getD_some,Option.isSome_some,Bool.not_true,ite2_false]
  rw [bd_spl rfl,bdc_cells,ldL_some]
  refine ⟨by omega,by omega,?_⟩
  rw [ptrN_some,hcn,ldL_some]
  refine eq36 ?_
  rw [decide_eq_true rfl]
  simp only [Bool.not_true,ite2_false]
  rw [ldL_some]
  refine ⟨by omega,by omega,?_⟩
  rw [ptrN_some,hcn,ldL_some]
  refine eq36 ?_
  rw [decide_eq_true rfl]
  simp only [Bool.not_true,ite2_false]
  by_cases hk0:k=0
  · rw [decide_eq_false (by omega),ite2_false]
    exact j12
  rw [decide_eq_true (by omega),ite2_true]
  have wm:IntKind.wrap .i64 ((k:Int)-1)=((k-1:Nat):Int):=wi (by omega) (by omega)
  obtain ⟨b3,o3,ea3,hcn3,hcc3⟩:=row_bd h.row (show k-1<L.length by omega)
  rw [ea] at ea3
  cases ea3
  have hasc:=List.pairwise_iff_getElem.1 (List.pairwise_map.1 hinv.asc) (k-1) k (by omega) hk (by omega)
  rw [wm]
  refine ⟨by omega,by omega,?_⟩
  rw [ptrN_some,Int.toNat_natCast,hcc3 0 _ (bdc_id _),ldV_some,intV_int]
  refine ⟨by omega,by omega,?_⟩
  rw [ptrN_some,r0,ldV_some,intV_int,decide_eq_false (by omega)]
  exact j12
end
end Go.Proofs
set_option linter.unusedVariables false
set_option linter.unusedSimpArgs false
set_option maxRecDepth 20000
namespace Go.Proofs
open Go Go.HL
section
variable {tb:Obj} {hp0 hp:HP} {t mm:Nat} {l:List Q} {low high:Int} {mx last n:Nat} {L:List Bd} {K:Value→HP→Prop}
set_option maxHeartbeats 1000000 in
/-- The ports are counted. -/
theorem onceF {x0a x4a a:Option Addr} {x0n x0c x4n x4c c:Nat} {x3 x13:Int} {I3:Int→HP→Prop} {U:List (Int × Int)} (h:OS tb hp0 hp t l low high mx last n L a c mm U) (hsm:L.length≤10000) (hx0:l.length=x0n) (h60:high-low≤60)
    (hU:∀ p,(getL p U).getD 0=((usedB low high L p:Nat):Int))
    (hI:∀ hp',BdS tb hp0 hp' t l low high mx last n L→I3 (IntKind.wrap .i64 (x13+1)) hp') :
    F15_j5 x0a x0n x0c low high x3 x4a x4n x4c (some ⟨t,0,none⟩) x13 (some mm) hp I3 K:=by
  have hinv:=h.w.inv
  have hports:=hinv.ports
  have hlh:low≤high:=by
    have:=hinv.new
    simp only [newOk,Bool.and_eq_true,decide_eq_true_eq] at this
    omega
  have hl4:=hinv.len4
  unfold F15_j5
  refine fun (b44:Nat) (hb44:hp b44=Ent.none)=>?_
  have h2:=h.new hb44 (.cells 3 [(.int .i64 1),(.int .i64 6),(.int .i64 17)] 0)
  have hb:(hp.set b44 (.cells 3 [(.int .i64 1),(.int .i64 6),(.int .i64 17)] 0)) b44=.cells 3 [(.int .i64 1),(.int .i64 6),(.int .i64 17)] 0:=HP.set_eq ..
  generalize hp.set b44 (.cells 3 [(.int .i64 1),(.int .i64 6),(.int .i64 17)] 0)=hp2 at *
  unfold F15_j6
  refine LoopP.by (J:=fun kk (z:Int) hp'=>hp'=hp2∧∃ j:Nat,z=j∧j+kk=3) ?_ (n:=3) ⟨rfl,0,rfl,rfl⟩
  rintro I kk z hp' ⟨rfl,j,rfl,hjk⟩ hI2
  unfold F15_l7
  by_cases hj:j<3
  rotate_left
  · rw [decide_eq_false (by omega),ite2_false]
    unfold F15_j4
    exact hI hp' h2.s
  rw [decide_eq_true (by omega),ite2_true]
  obtain ⟨p,hp1,hp2'⟩:∃ p:Int,hp'.cell b44 (0+j*1)=some (.int .i64 p)∧0≤kindB p:=by
    match j,hj with
    | 0,_=>exact ⟨1,HP.cell_of hb,by decide⟩
    | 1,_=>exact ⟨6,HP.cell_of hb,by decide⟩
    | 2,_=>exact ⟨17,HP.cell_of hb,by decide⟩
  refine ⟨by omega,by omega,?_⟩
  rw [ptrN_some,Int.toNat_natCast,hp1,ldV_some,intV_int]
  have hfu:=free_used hinv hp2'
  have hul:=used_len low high L p
  have hprod:(l.length:Int)*(high-low+1)≤244∧0≤(l.length:Int)*(high-low+1):=by
    refine ⟨?_,Int.mul_nonneg (by omega) (by omega)⟩
    have h1:(l.length:Int)*(high-low+1)≤4*(high-low+1):=Int.mul_le_mul_of_nonneg_right (by omega) (by omega)
    omega
  have ha:IntKind.wrap .i64 (high-low)=high-low:=w64 (by omega) (by omega)
  have hb2:IntKind.wrap .i64 (high-low+1)=high-low+1:=w64 (by omega) (by omega)
  have hc:IntKind.wrap .i64 ((x0n:Int)*(high-low+1))=(l.length:Int)*(high-low+1):=by
    rw [← hx0]; exact w64 (by omega) (by omega)
  have hd:IntKind.wrap .i64 (freeB l low high L p+((usedB low high L p:Nat):Int))=(l.length:Int)*(high-low+1):=by
    rw [hfu]; exact w64 (by omega) (by omega)
  have w2:IntKind.wrap .i64 ((j:Int)+1)=((j+1:Nat):Int):=wi (by omega) (by omega)
  have hg:((getL p U).map iw).getD (iw 0)=iw ((usedB low high L p:Nat):Int):=by
    rw [← hU]
    cases getL p U <;> rfl
  have fin:F15_j8 x0a x0n x0c low high x3 x4a x4n x4c (some ⟨t,0,none⟩) x13 (some mm) (some ⟨b44,0,none⟩) 3 3 (3:Nat) (j:Int)
      ((IntKind.wrap .i64 (freeB l low high L p+((usedB low high L p:Nat):Int))) != (IntKind.wrap .i64 ((x0n:Nat)*(IntKind.wrap .i64 ((IntKind.wrap .i64 (high-low))+1))))) hp' I3 I K:=by
    rw [ha,hb2,hc,hd,show (((l.length:Int)*(high-low+1)) != ((l.length:Int)*(high-low+1)))=false by simp]
    unfold F15_j8
    rw [ite2_false,w2]
    exact hI2 (kk-1) _ _ (by omega) ⟨rfl,j+1,rfl,by omega⟩
  constructor
  · refine W26 h2.w (by omega) ?_
    rw [intV_int]
    refine rdS_lookup (l:=U) u117 enc3 (z:=iw 0) zwi h2.map p (ev:=iw) (cm:=false) ?_
    simp only [Bool.false_eq_true,if_false]
    rw [hg]
    show intV (.int .i64 _) .i64 _
    rw [intV_int]
    exact fin
  · refine rdS_lookup (l:=U) u117 enc3 (z:=iw 0) zwi h2.map p (ev:=iw) (cm:=false) ?_
    simp only [Bool.false_eq_true,if_false]
    rw [hg]
    show intV (.int .i64 _) .i64 _
    rw [intV_int]
    refine W26 h2.w (by omega) ?_
    rw [intV_int]
    exact fin
set_option maxHeartbeats 1000000 in
theorem C15 {x0a x4a:Option Addr} {x0n x0c x4n x4c:Nat} {l:List Q} {low high mx:Int} {acts:List A21} (ht:TabR tb hp0) (hs:Shows hp0 x0a x0n 4 (l.flatMap v4)) (hl:l.length=x0n) (hnc:x0n≤x0c) (hq:∀ q∈l,okQ q) (h1:okZ low) (h2:okZ high) (hm:okZ mx)
    (hs4:Shows hp0 x4a x4n 7 (acts.flatMap a21)) (hl4:acts.length=x4n) (hok:∀ y∈acts,okA21 y)
    (hK:K (.bool true) hp0):CF Tryd.prog 15 [.slice x0a x0n x0c,.int .i64 low,.int .i64 high,.int .i64 mx,.slice x4a x4n x4c] hp0 K:=by
  refine CF.drop (F15_ok x0a x0n x0c low high mx x4a x4n x4c hp0 _ ?_)
  unfold F15
  have wk:∀ hp',HSub hp0 hp'→TabR tb hp'→CF Tryd.prog 27 [] hp' fun u h=>boolV u fun q=>∃ hp'',HSub hp'' h∧K (.bool q) hp'':=by
    intro hp' hs ht'
    refine C27 ht' fun hp2 h2=>?_
    rw [boolV_bool]
    exact ⟨hp0,hs.trans h2,hK⟩
  refine C28 h1 h2 fun g hg=>?_
  rw [boolV_bool]
  cases g with
  | true=>rw [ite2_true]; exact wk hp0 (HSub.refl _) ht
  | false=>
  obtain ⟨hg1,hg2,hg3⟩:=hg rfl
  rw [ite2_false]
  refine S17 ht hs hl hnc h1 h2 hq (fun _=>?_) fun hnb t hp1 hB=>?_
  · rw [tup2V_mk,ptrV_pointer,intV_int,show ((1:Int) != 0)=true from rfl,ite2_true]
    show ite2 true _ _
    rw [ite2_true]
    exact wk hp0 (HSub.refl _) ht
  rw [tup2V_mk,pq,intV_int,show ((0:Int) != 0)=false from rfl,ite2_false]
  have hmx:=hnb.2
  unfold F15_j2
  refine LoopP.by (J:=fun k (z:Int) hp'=>∃ (i last n:Nat) (L:List Bd),z=i∧i+k=x4n∧BdS tb hp0 hp' t l low high mx.toNat last n L∧n≤i∧L.length≤i) ?_ (n:=x4n) ⟨0,0,0,[],rfl,by omega,hB,Nat.le_refl _,Nat.le_refl _⟩
  clear hB
  rintro I k z hp ⟨i,last,n,L,rfl,hik,hB,hni,hLi⟩ hI
  unfold F15_l3
  by_cases hi:i<x4n
  rotate_left
  · rw [decide_eq_false (by omega:¬ (i:Int)<(x4n:Int)),ite2_false]
    unfold F15_j1
    exact wk hp (hB.fin ht) hB.w.tab
  rw [decide_eq_true (by omega:(i:Int)<(x4n:Int)),ite2_true]
  obtain ⟨b,o,rfl,hc⟩:=(hs4.sub (hB.fin ht)).get a21_len hl4 hi
  have hact:=hok _ (List.getElem_mem (hl4▸hi))
  generalize acts[i]'(hl4▸hi)=A at hc hact
  have w1:IntKind.wrap .i64 ((i:Int)+1)=((i+1:Nat):Int):=wi (by omega) (by omega)
  refine ⟨by omega,by omega,?_⟩
  rw [ptrN_some,Int.toNat_natCast,hc,ldL_some]
  refine C60 hB (by omega) (by omega) hact fun hp2 last' n' L' hB' g1 g2=>?_
  obtain ⟨ps,P,g0,gB,gf⟩:=hB'
  refine N61 P (i:=1) (j:=2) (by omega) (gf 2 (by omega)) gB (by omega) fun r hp3 a c hr P3=>?_
  rw [slcV_slice]
  have hlen:=gB.inv.len
  rw [decide_eq_false (by omega:¬ ((L'.length:Nat):Int) > mx),ite2_false]
  refine fun (mm:Nat) (hmm:hp3 mm=Ent.none)=>?_
  have P4:=P3.new 3 hmm (.obj (.map #[] 0))
  have hO:OS tb hp0 (hp3.set mm (.obj (.map #[] 0))) t l low high mx.toNat last' n' L' a c mm []:=by
    refine ⟨_,P4,by rw [pu_ne _ _ (by omega),pu_ne _ _ (by omega)]; exact g0,by rw [pu_ne _ _ (by omega),pu_ne _ _ (by omega)]; exact gB,by rw [pu_ne _ _ (by omega),pu_eq]; exact hr,?_⟩
    rw [pu_eq,HP.set_eq]; exact MapE.empty _ _
  generalize hp3.set mm (.obj (.map #[] 0))=hp4 at hO
  clear P4 P3 P hr gB gf
  unfold F15_j9
  refine LoopP.by (J:=fun kk (z:Int) hp'=>∃ (k:Nat) (U:List (Int × Int)),z=k∧k+kk=L'.length∧OS tb hp0 hp' t l low high mx.toNat last' n' L' a c mm U∧∀ p,(getL p U).getD 0=((usedB low high (L'.take k) p:Nat):Int)) ?_ (n:=L'.length) ⟨0,[],rfl,by omega,hO,fun p=>by simp [getL,usedB]⟩
  clear hO
  rintro I2 kk z hp5 ⟨k',U,rfl,hkk,hO,hU⟩ hI2
  by_cases hk':k'<L'.length
  · exact onceK hO hk' (by omega) hU fun hp' U' hO' hU'=>hI2 (kk-1) _ _ (by omega) ⟨k'+1,U',rfl,by omega,hO',hU'⟩
  · unfold F15_l10
    rw [decide_eq_false (by omega),ite2_false]
    have ek:k'=L'.length:=by omega
    subst ek
    rw [List.take_length] at hU
    refine onceF hO (by omega) hl hg3 hU fun hp' hB'=>?_
    rw [w1]
    exact hI (k-1) _ _ (by omega) ⟨i+1,last',n',L',rfl,by omega,hB',by omega,by omega⟩
end
end Go.Proofs
namespace Go.Proofs.YtpkhoemonibajaaDoor
open Go Go.HL Go.Proofs
def theLaid : List (String × DataW Unit) := [("math/bits.deBruijn32tab", Rows.laid_math_bits_deBruijn32tab), ("math/bits.deBruijn64tab", Rows.laid_math_bits_deBruijn64tab), ("internal/strconv.uint64pow10", Rows.laid_internal_strconv_uint64pow10)]
theorem tabOf {W:World} (h:laidMetH Tryd.prog theLaid W):∃ o,hpAll W 0=.obj o∧TabO o:=by
  have h':laidMet Tryd.prog theLaid W:=h
  obtain ⟨ps,hv,_⟩:=h'
  obtain ⟨q1,h1⟩:=laidVars_tail hv
  obtain ⟨q2,h2⟩:=laidVars_tail h1
  have ht : Lib.TabIs Tryd.prog W "internal/strconv.uint64pow10" .u64 Lib.pow10Tab :=
    tabIs_of_vars (rest:=[]) (g:=0) (t:=267) (e:=233) (n:=20) (by kernel_rfl) (by kernel_rfl) (by kernel_rfl) (by kernel_rfl) (by kernel_rfl) (by kernel_rfl) h2
  obtain ⟨o,ho,hO⟩:=tabO_of ht
  exact ⟨o,by unfold hpAll; rw [ho],hO⟩
/-- What a table's cells are. -/
def cellsLaid:DataW Unit→Array Value
  | .agg ps=>(ps.map fun d=>match d with | .lit (.int k n)=>Value.int k n | _=>.int .i64 0).toArray
  | _=>#[]
def layAt (b:Nat) (d:DataW Unit) (h:Array Obj):Array Obj:=h.modify b fun | .cells _ t fz=>.cells (cellsLaid d) t fz | o=>o
noncomputable def laidWorld (os:Os) (I:Input):World:=
  { World.holding Tryd.prog os I with heap:=layAt 0 Rows.laid_internal_strconv_uint64pow10 (layAt 1 Rows.laid_math_bits_deBruijn32tab (layAt 2 Rows.laid_math_bits_deBruijn64tab (World.holding Tryd.prog os I).heap)) }
end Go.Proofs.YtpkhoemonibajaaDoor
