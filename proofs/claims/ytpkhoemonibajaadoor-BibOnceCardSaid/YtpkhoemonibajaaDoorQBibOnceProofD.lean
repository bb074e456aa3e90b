/- Parts of the proof of BibOnceProof: the logic of what is known of memory, functions' contracts. -/
import Derived.Test.YtpkhoemonibajaaDoorQBibOnceProofC
import Derived.Test.YtpkhoemonibajaaDoorHlAbb
import Derived.Test.YtpkhoemonibajaaDoorProg
import Derived.Sort.LotB
import Derived.Sort.LotC
import Derived.Sort.LotA
import Derived.Test.YtpkhoemonibajaaDoorHlUse2
import Derived.Sort.LotD1
set_option linter.unusedVariables false
set_option linter.unusedSimpArgs false
set_option linter.unusedVariables false
set_option maxRecDepth 20000
namespace Go.Proofs
open Go Go.HL
section
variable {e E:Env} {x0a:OA} {x0n x0c:Nat} {x1 x2:Int} {x3:Value} {x8 x9 x10 x11 x12:Int} {hp:HP} {K:Env→PV→HP→Prop}
abbrev R150 (p n:Nat):=RW Tryd.prog 60 [] (opsAt Tryd.f150 (pth p)) (List.range n)
theorem F150_r0:R150 2 2 (upd e 1 (sI x1)) V0 hp K=
 K (w3 e 1 (sI x1) 13 (sI x1) 8 (sI x1)) V0 hp:= by kernel_rfl
theorem F150_r1:R150 5 1 e V0 hp K=
 K (upd e 9 (sI 0)) V0 hp:= by kernel_rfl
theorem F150_r2:R150 11 4 (w2 e 2 (sI x2) 1 (sI x1)) V0 hp K=
 K (w6 e 2 (sI x2) 1 (sI x1) 14 (sI x2) 15 (sI x1) 16 (sI ((wr (x2-x1)))) 10 (sI ((wr (x2-x1))))) V0 hp:= by kernel_rfl
theorem F150_r3:R150 543 2 (upd e 12 (sI x12)) V0 hp K=
 K (w3 e 12 (sI x12) 32 (sI x12) 33 (sB (decide (x12≥0)))) V0 hp:= by kernel_rfl
theorem F150_r4 (h:E=upd (w2 e 12 (sI x12) 8 (sI x8)) 0 (sS x0a x0n x0c)):R150 2207 20 E V0 hp K=
    ((0≤((wr (x8+x12)):Int))∧(((wr (x8+x12)):Int)<x0n)∧(ptrN x0a fun b1 o2=>ldL (HP.cellN hp b1 (o2+Int.toNat (wr (x8+x12))*26) 26) fun l3=>(0≤x8)∧(x8<x0n)∧(ptrN x0a fun b4 o5=>ldL (HP.cellN hp b4 (o5+Int.toNat x8*26) 26) fun l6=>(0≤x8)∧(x8<x0n)∧(ptrN x0a fun b7 o8=>(List.length l3=26)∧(HP.stN hp b7 (o8+Int.toNat x8*26) l3 fun h9=>(0≤((wr (x8+x12)):Int))∧(((wr (x8+x12)):Int)<x0n)∧(ptrN x0a fun b10 o11=>(List.length l6=26)∧(HP.stN h9 b10 (o11+Int.toNat (wr (x8+x12))*26) l6 fun h12=>K (w2 (w8 (w8 E 36 (sS x0a x0n x0c) 37 (sI x8) 38 (sS x0a x0n x0c) 39 (sI x8) 40 (sI x12) 41 (sI ((wr (x8+x12)))) 42 (sS x0a x0n x0c) 43 (sI x8)) 44 (sI x12) 45 (sI ((wr (x8+x12)))) 46 (sV (ptr b1 (o2+Int.toNat (wr (x8+x12))*26))) 47 (sA l3) 48 (sS x0a x0n x0c) 49 (sI x8) 50 (sQ b4 (o5+Int.toNat x8*26)) 51 (sA l6)) 52 (sQ b7 (o8+Int.toNat x8*26)) 53 (sV (ptr b10 (o11+Int.toNat (wr (x8+x12))*26)))) V0 h12))))))):=by subst h; kernel_rfl
theorem F150_r5 (h:E=upd (w4 e 12 (sI x12) 9 (sI x9) 8 (sI x8) 3 (sV x3)) 0 (sS x0a x0n x0c)):R150 3231 6 E V0 hp K=
 CF Tryd.prog 173 [(.slice x0a x0n x0c),(.int .i64 x9),(.int .i64 x12),(.int .i64 x8),x3] hp fun u1 h2=>(K (w6 E 54 (sS x0a x0n x0c) 55 (sI x9) 56 (sI x12) 57 (sI x8) 58 (sV x3) 59 (sV u1)) V0 h2):= by subst h; kernel_rfl
theorem F150_r6:R150 927 3 (upd e 12 (sI x12)) V0 hp K=
 K (w4 e 12 (sI x12) 34 (sI x12) 35 (sI ((wr (x12-1)))) 12 (sI ((wr (x12-1))))) V0 hp:= by kernel_rfl
def F150_l3 (x0a:OA) (x0n x0c:Nat) (x3:Value) (x8 x9:Int) (K:Kh) (I3:(Int)→HP→Prop) (x12:Int) (hp:HP):Prop:=
  (ite2 (decide (x12≥0)) ((0≤((IntKind.wrap .i64 (x8+x12)):Int))∧(((IntKind.wrap .i64 (x8+x12)):Int)<x0n)∧(ptrN x0a fun b1 o2=>ldL (HP.cellN hp b1 (o2+Int.toNat (IntKind.wrap .i64 (x8+x12))*26) 26) fun l3=>(0≤x8)∧(x8<x0n)∧(ptrN x0a fun b4 o5=>ldL (HP.cellN hp b4 (o5+Int.toNat x8*26) 26) fun l6=>(0≤x8)∧(x8<x0n)∧(ptrN x0a fun b7 o8=>(List.length l3=26)∧(HP.stN hp b7 (o8+Int.toNat x8*26) l3 fun h9=>(0≤((IntKind.wrap .i64 (x8+x12)):Int))∧(((IntKind.wrap .i64 (x8+x12)):Int)<x0n)∧(ptrN x0a fun b10 o11=>(List.length l6=26)∧(HP.stN h9 b10 (o11+Int.toNat (IntKind.wrap .i64 (x8+x12))*26) l6 fun h12=>CF Tryd.prog 173 [(.slice x0a x0n x0c),(.int .i64 x9),(.int .i64 x12),(.int .i64 x8),x3] h12 fun u13 h14=>I3 (IntKind.wrap .i64 (x12-1)) h14))))))) (K (.tuple ⟨[]⟩) hp))
def F150_j2 (x0a:OA) (x0n x0c:Nat) (x3:Value) (x8 x9 x12:Int) (hp:HP) (K:Kh):Prop:=
  (LoopP (σ:=Int) (fun I s hp=>F150_l3 x0a x0n x0c x3 x8 x9  K I s hp) x12 hp)
theorem F150_r7:R150 47 3 (upd e 10 (sI x10)) V0 hp K=
 K (w4 e 10 (sI x10) 30 (sI x10) 31 (sI ((wr (x10-1)))) 12 (sI ((wr (x10-1))))) V0 hp:= by kernel_rfl
def F150_j1 (x0a:OA) (x0n x0c:Nat) (x3:Value) (x8 x9 x10:Int) (hp:HP) (K:Kh):Prop:=
  (F150_j2 x0a x0n x0c x3 x8 x9 (IntKind.wrap .i64 (x10-1)) hp  K)
theorem F150_r8:R150 535 2 (upd e 11 (sI x11)) V0 hp K=
 K (w3 e 11 (sI x11) 20 (sI x11) 21 (sB (decide (x11≥0)))) V0 hp:= by kernel_rfl
theorem F150_r9 (h:E=upd (w4 e 11 (sI x11) 10 (sI x10) 8 (sI x8) 3 (sV x3)) 0 (sS x0a x0n x0c)):R150 1175 6 E V0 hp K=
 CF Tryd.prog 173 [(.slice x0a x0n x0c),(.int .i64 x11),(.int .i64 x10),(.int .i64 x8),x3] hp fun u1 h2=>(K (w6 E 24 (sS x0a x0n x0c) 25 (sI x11) 26 (sI x10) 27 (sI x8) 28 (sV x3) 29 (sV u1)) V0 h2):= by subst h; kernel_rfl
theorem F150_r10:R150 919 3 (upd e 11 (sI x11)) V0 hp K=
 K (w4 e 11 (sI x11) 22 (sI x11) 23 (sI ((wr (x11-1)))) 11 (sI ((wr (x11-1))))) V0 hp:= by kernel_rfl
def F150_l5 (x0a:OA) (x0n x0c:Nat) (x3:Value) (x8 x9 x10:Int) (K:Kh) (I5:(Int)→HP→Prop) (x11:Int) (hp:HP):Prop:=
  (ite2 (decide (x11≥0)) (CF Tryd.prog 173 [(.slice x0a x0n x0c),(.int .i64 x11),(.int .i64 x10),(.int .i64 x8),x3] hp fun u15 h16=>I5 (IntKind.wrap .i64 (x11-1)) h16) (F150_j1 x0a x0n x0c x3 x8 x9 x10 hp  K))
def F150_j4 (x0a:OA) (x0n x0c:Nat) (x3:Value) (x8 x9 x10 x11:Int) (hp:HP) (K:Kh):Prop:=
  (LoopP (σ:=Int) (fun I s hp=>F150_l5 x0a x0n x0c x3 x8 x9 x10  K I s hp) x11 hp)
theorem F150_r11:R150 39 4 (upd e 10 (sI x10)) V0 hp K=
    (((2:Int)≠0)∧(K (w5 e 10 (sI x10) 17 (sI x10) 18 (sI ((wr (x10-1)))) 19 (sI ((wr (Int.tdiv (wr (x10-1)) 2)))) 11 (sI ((wr (Int.tdiv (wr (x10-1)) 2))))) V0 hp)):=by kernel_rfl
def F150 (x0a:OA) (x0n x0c:Nat) (x1 x2:Int) (x3:Value) (hp:HP) (K:Kh):Prop:=
  (((2:Int)≠0)∧(F150_j4 x0a x0n x0c x3 x1 0 (IntKind.wrap .i64 (x2-x1)) (IntKind.wrap .i64 (Int.tdiv (IntKind.wrap .i64 ((IntKind.wrap .i64 (x2-x1))-1)) 2)) hp  K))
noncomputable abbrev o150 (k n:Nat):Code:=.region k (opsAt Tryd.f150 (pth n)) false
noncomputable def F150_code:Code:=(.seq (o150 0 2) (.seq (o150 1 5) (.seq (o150 2 11) (.seq (.seq (o150 3 39) (.block 0 (.loop (.seq (.seq (o150 4 535) (.cond (.tmp 21) .skip (.exit 0))) (.seq (.block 1 (o150 6 1175)) (o150 5 919)))))) (.seq (o150 7 47) (.block 2 (.loop (.seq (.seq (o150 8 543) (.cond (.tmp 33) .skip (.exit 2))) (.seq (.block 3 (.seq (.region 10 (opsAt Tryd.f150 (pth 2207)) true) (o150 11 3231))) (o150 9 927))))))))))
theorem F150_body:Tryd.f150.body=some F150_code:=by kernel_rfl
theorem F150_ok (x0a:OA) (x0n x0c:Nat) (x1 x2:Int) (x3:Value) (hp:HP) (K:Kh) (h:F150 x0a x0n x0c x1 x2 x3 hp K):CF Tryd.prog 150 [(.slice x0a x0n x0c),(.int .i64 x1),(.int .i64 x2),x3] hp K:=by
 refine .inl ⟨by kernel_rfl,AC.intro (N:=60) Tryd.func150 F150_body rfl (Nat.le_of_ble_eq_true rfl) ?_⟩
 unfold F150 at h
 refine Ar F150_r0 ?_ (r4 1 0 2 3 Rn) (z4 Sn) Sn
 refine Ar F150_r1 ?_ (r5 0 1 2 3 8 Rn) (z5 Sn) Sn
 refine Ar F150_r2 ?_ (r6 1 2 0 3 8 9 Rn) (z6 Sn) Sn
 refine As (fun env pv hp=>∃ x0a x0n x0c x3 x8 x9 x10,Sub (w5 E0 10 (sI x10) 9 (sI x9) 8 (sI x8) 3 (sV x3) 0 (sS x0a x0n x0c)) env∧Sub V0 pv∧F150_j1 x0a x0n x0c x3 x8 x9 x10 hp  K) ?_ ?_
 ·refine As (fun env pv hp=>∃ x0a x0n x0c x3 x8 x9 x10 x11,Sub (w6 E0 11 (sI x11) 10 (sI x10) 9 (sI x9) 8 (sI x8) 3 (sV x3) 0 (sS x0a x0n x0c)) env∧Sub V0 pv∧F150_j4 x0a x0n x0c x3 x8 x9 x10 x11 hp  K) ?_ ?_
  ·refine Ag F150_r11 ?_ (r5 10 0 3 8 9 Rn) (z5 Sn) Sn
   refine ⟨h.1,?_⟩
   replace h:=h.2
   exact ⟨_,_,_,_,_,_,_,_,(z6 Sn),Sn,h⟩
  ·rintro env pv hp ⟨x0a,x0n,x0c,x3,x8,x9,x10,x11,he,hv,h⟩
   refine Ae ?_ (r6 0 3 8 9 10 11 Rn) he hv
   unfold F150_j4 at h
   refine AWP.block (AWP.loop (σ:=Int) _ (fun s=>w6 E0 11 (sI s) 10 (sI x10) 9 (sI x9) 8 (sI x8) 3 (sV x3) 0 (sS x0a x0n x0c)) (fun s=>V0) x11 h (fun s=>r6 0 3 8 9 10 11 Rn) (z6 Sn) Sn ?_)
   intro I5 x11 hp h
   replace h:F150_l5 x0a x0n x0c x3 x8 x9 x10  K I5 x11 hp:=h
   unfold F150_l5 at h
   refine Aq (Ar F150_r8 ?_ (r6 11 0 3 8 9 10 Rn) (z6 Sn) Sn)
   refine Ac h rfl (fun h=>?_) (fun h=>?_)
   ·refine AWP.skip (Aq (AWP.block (Ag (F150_r9 rfl) ?_ (r6 0 3 8 10 11 9 Rn) (z6 Sn) Sn)))
    refine mC h fun u15 h16 h=>?_
    refine Ag F150_r10 ?_ (r6 11 0 3 8 9 10 Rn) (z6 Sn) Sn
    exact ⟨_,(z6 Sn),Sn,h⟩
   ·refine AWP.exit ?_
    exact ⟨_,_,_,_,_,_,_,(z5 Sn),Sn,h⟩
 ·rintro env pv hp ⟨x0a,x0n,x0c,x3,x8,x9,x10,he,hv,h⟩
  refine Ae ?_ (r5 0 3 8 9 10 Rn) he hv
  unfold F150_j1 at h
  refine As (fun env pv hp=>∃ x0a x0n x0c x3 x8 x9 x12,Sub (w5 E0 12 (sI x12) 9 (sI x9) 8 (sI x8) 3 (sV x3) 0 (sS x0a x0n x0c)) env∧Sub V0 pv∧F150_j2 x0a x0n x0c x3 x8 x9 x12 hp  K) ?_ ?_
  ·refine Ag F150_r7 ?_ (r5 10 0 3 8 9 Rn) (z5 Sn) Sn
   exact ⟨_,_,_,_,_,_,_,(z5 Sn),Sn,h⟩
  ·rintro env pv hp ⟨x0a,x0n,x0c,x3,x8,x9,x12,he,hv,h⟩
   refine Ae ?_ (r5 0 3 8 9 12 Rn) he hv
   unfold F150_j2 at h
   refine AWP.block (AWP.loop (σ:=Int) _ (fun s=>w5 E0 12 (sI s) 9 (sI x9) 8 (sI x8) 3 (sV x3) 0 (sS x0a x0n x0c)) (fun s=>V0) x12 h (fun s=>r5 0 3 8 9 12 Rn) (z5 Sn) Sn ?_)
   intro I3 x12 hp h
   replace h:F150_l3 x0a x0n x0c x3 x8 x9  K I3 x12 hp:=h
   unfold F150_l3 at h
   refine Aq (Ar F150_r3 ?_ (r5 12 0 3 8 9 Rn) (z5 Sn) Sn)
   refine Ac h rfl (fun h=>?_) (fun h=>?_)
   ·refine AWP.skip (Aq (AWP.block (Aq (AWP.rgnD (by kernel_rfl) (by kernel_rfl) (F150_r4 rfl) ?_ (r5 0 8 12 3 9 Rn) (z5 Sn) Sn))))
    refine ⟨h.1,h.2.1,mN h.2.2 (fun b1 o2 h=>mL h (fun l3 h=>⟨h.1,h.2.1,mN h.2.2 (fun b4 o5 h=>mL h (fun l6 h=>⟨h.1,h.2.1,mN h.2.2 (fun b7 o8 h=>⟨h.1,mW h.2 (fun h9 h=>⟨h.1,h.2.1,mN h.2.2 (fun b10 o11 h=>⟨h.1,mW h.2 fun h12 h=>?_⟩)⟩)⟩)⟩))⟩))⟩
    refine Ag (F150_r5 rfl) ?_ (r5 0 3 8 9 12 Rn) (z5 Sn) Sn
    refine mC h fun u13 h14 h=>?_
    refine Ag F150_r6 ?_ (r5 12 0 3 8 9 Rn) (z5 Sn) Sn
    exact ⟨_,(z5 Sn),Sn,h⟩
   ·refine AWP.exit ?_
    exact h
end
section
variable {e E:Env} {x0a:OA} {x0n x0c:Nat} {x1 x2 x8 x9:Int} {hp:HP} {K:Env→PV→HP→Prop}
abbrev R153 (p n:Nat):=RW Tryd.prog 34 [] (opsAt Tryd.f153 (pth p)) (List.range n)
theorem F153_r0:R153 2 2 (upd e 1 (sI x1)) V0 hp K=
 K (w3 e 1 (sI x1) 10 (sI x1) 8 (sI x1)) V0 hp:= by kernel_rfl
theorem F153_r1:R153 67 3 (w2 e 9 (sI x9) 8 (sI x8)) V0 hp K=
 K (w5 e 9 (sI x9) 8 (sI x8) 13 (sI x8) 14 (sI x9) 15 (sB (decide (x8<x9)))) V0 hp:= by kernel_rfl
theorem F153_r2 (h:E=upd (w2 e 9 (sI x9) 8 (sI x8)) 0 (sS x0a x0n x0c)):R153 147 16 E V0 hp K=
    ((0≤x9)∧(x9<x0n)∧(ptrN x0a fun b1 o2=>ldL (HP.cellN hp b1 (o2+Int.toNat x9*26) 26) fun l3=>(0≤x8)∧(x8<x0n)∧(ptrN x0a fun b4 o5=>ldL (HP.cellN hp b4 (o5+Int.toNat x8*26) 26) fun l6=>(0≤x8)∧(x8<x0n)∧(ptrN x0a fun b7 o8=>(List.length l3=26)∧(HP.stN hp b7 (o8+Int.toNat x8*26) l3 fun h9=>(0≤x9)∧(x9<x0n)∧(ptrN x0a fun b10 o11=>(List.length l6=26)∧(HP.stN h9 b10 (o11+Int.toNat x9*26) l6 fun h12=>K (w6 (w8 E 16 (sS x0a x0n x0c) 17 (sI x8) 18 (sS x0a x0n x0c) 19 (sI x9) 20 (sS x0a x0n x0c) 21 (sI x9) 22 (sQ b1 (o2+Int.toNat x9*26)) 23 (sA l3)) 24 (sS x0a x0n x0c) 25 (sI x8) 26 (sQ b4 (o5+Int.toNat x8*26)) 27 (sA l6) 28 (sQ b7 (o8+Int.toNat x8*26)) 29 (sQ b10 (o11+Int.toNat x9*26))) V0 h12))))))):=by subst h; kernel_rfl
theorem F153_r3:R153 339 3 (upd e 8 (sI x8)) V0 hp K=
 K (w4 e 8 (sI x8) 30 (sI x8) 31 (sI ((wr (x8+1)))) 8 (sI ((wr (x8+1))))) V0 hp:= by kernel_rfl
theorem F153_r4:R153 467 3 (upd e 9 (sI x9)) V0 hp K=
 K (w4 e 9 (sI x9) 32 (sI x9) 33 (sI ((wr (x9-1)))) 9 (sI ((wr (x9-1))))) V0 hp:= by kernel_rfl
def F153_l2 (x0a:OA) (x0n x0c:Nat) (K:Kh) (I2:(Int × Int)→HP→Prop) (x8 x9:Int) (hp:HP):Prop:=
  (ite2 (decide (x8<x9)) ((0≤x9)∧(x9<x0n)∧(ptrN x0a fun b1 o2=>ldL (HP.cellN hp b1 (o2+Int.toNat x9*26) 26) fun l3=>(0≤x8)∧(x8<x0n)∧(ptrN x0a fun b4 o5=>ldL (HP.cellN hp b4 (o5+Int.toNat x8*26) 26) fun l6=>(0≤x8)∧(x8<x0n)∧(ptrN x0a fun b7 o8=>(List.length l3=26)∧(HP.stN hp b7 (o8+Int.toNat x8*26) l3 fun h9=>(0≤x9)∧(x9<x0n)∧(ptrN x0a fun b10 o11=>(List.length l6=26)∧(HP.stN h9 b10 (o11+Int.toNat x9*26) l6 fun h12=>I2 ((IntKind.wrap .i64 (x8+1)),(IntKind.wrap .i64 (x9-1))) h12))))))) (K (.tuple ⟨[]⟩) hp))
def F153_j1 (x0a:OA) (x0n x0c:Nat) (x8 x9:Int) (hp:HP) (K:Kh):Prop:=
  (LoopP (σ:=Int × Int) (fun I s hp=>F153_l2 x0a x0n x0c  K I s.1 s.2 hp) (x8,x9) hp)
theorem F153_r5:R153 5 3 (upd e 2 (sI x2)) V0 hp K=
 K (w4 e 2 (sI x2) 11 (sI x2) 12 (sI ((wr (x2-1)))) 9 (sI ((wr (x2-1))))) V0 hp:= by kernel_rfl
def F153 (x0a:OA) (x0n x0c:Nat) (x1 x2:Int) (x3:Value) (hp:HP) (K:Kh):Prop:=
  (F153_j1 x0a x0n x0c x1 (IntKind.wrap .i64 (x2-1)) hp  K)
noncomputable abbrev o153 (k n:Nat):Code:=.region k (opsAt Tryd.f153 (pth n)) false
noncomputable def F153_code:Code:=(.seq (o153 0 2) (.seq (o153 1 5) (.block 0 (.loop (.seq (.seq (o153 2 67) (.cond (.tmp 15) .skip (.exit 0))) (.block 1 (.seq (.region 3 (opsAt Tryd.f153 (pth 147)) true) (.seq (o153 4 339) (o153 5 467)))))))))
theorem F153_body:Tryd.f153.body=some F153_code:=by kernel_rfl
theorem F153_ok (x0a:OA) (x0n x0c:Nat) (x1 x2:Int) (x3:Value) (hp:HP) (K:Kh) (h:F153 x0a x0n x0c x1 x2 x3 hp K):CF Tryd.prog 153 [(.slice x0a x0n x0c),(.int .i64 x1),(.int .i64 x2),x3] hp K:=by
 refine .inl ⟨by kernel_rfl,AC.intro (N:=34) Tryd.func153 F153_body rfl (Nat.le_of_ble_eq_true rfl) ?_⟩
 unfold F153 at h
 refine Ar F153_r0 ?_ (r3 1 0 2 Rn) (z3 Sn) Sn
 refine As (fun env pv hp=>∃ x0a x0n x0c x8 x9,Sub (w3 E0 9 (sI x9) 8 (sI x8) 0 (sS x0a x0n x0c)) env∧Sub V0 pv∧F153_j1 x0a x0n x0c x8 x9 hp  K) ?_ ?_
 ·refine Ag F153_r5 ?_ (r3 2 0 8 Rn) (z3 Sn) Sn
  exact ⟨_,_,_,_,_,(z3 Sn),Sn,h⟩
 ·rintro env pv hp ⟨x0a,x0n,x0c,x8,x9,he,hv,h⟩
  refine Ae ?_ (r3 0 8 9 Rn) he hv
  unfold F153_j1 at h
  refine AWP.block (AWP.loop (σ:=Int × Int) _ (fun s=>w3 E0 9 (sI (s.2)) 8 (sI (s.1)) 0 (sS x0a x0n x0c)) (fun s=>V0) (x8,x9) h (fun s=>r3 0 8 9 Rn) (z3 Sn) Sn ?_)
  intro I2 s hp h
  obtain ⟨x8,x9⟩:=s
  replace h:F153_l2 x0a x0n x0c  K I2 x8 x9 hp:=h
  unfold F153_l2 at h
  refine Aq (Ar F153_r1 ?_ (r3 8 9 0 Rn) (z3 Sn) Sn)
  refine Ac h rfl (fun h=>?_) (fun h=>?_)
  ·refine AWP.skip (AWP.block (Aq (AWP.rgnD (by kernel_rfl) (by kernel_rfl) (F153_r2 rfl) ?_ (r3 0 8 9 Rn) (z3 Sn) Sn)))
   refine ⟨h.1,h.2.1,mN h.2.2 (fun b1 o2 h=>mL h (fun l3 h=>⟨h.1,h.2.1,mN h.2.2 (fun b4 o5 h=>mL h (fun l6 h=>⟨h.1,h.2.1,mN h.2.2 (fun b7 o8 h=>⟨h.1,mW h.2 (fun h9 h=>⟨h.1,h.2.1,mN h.2.2 (fun b10 o11 h=>⟨h.1,mW h.2 fun h12 h=>?_⟩)⟩)⟩)⟩))⟩))⟩
   refine Ar F153_r3 ?_ (r3 8 0 9 Rn) (z3 Sn) Sn
   refine Ag F153_r4 ?_ (r3 9 0 8 Rn) (z3 Sn) Sn
   exact ⟨_,(z3 Sn),Sn,h⟩
  ·refine AWP.exit ?_
   exact h
end
section
variable {e E:Env} {x0a:OA} {x0n x0c:Nat} {x1 x2:Int} {x3:Value} {x9 x10 x11 x12:Int} {hp:HP} {K:Env→PV→HP→Prop}
abbrev R154 (p n:Nat):=RW Tryd.prog 141 [] (opsAt Tryd.f154 (pth p)) (List.range n)
theorem F154_r0:R154 2 1 e V0 hp K=
 K (upd e 8 (sB false)) V0 hp:= by kernel_rfl
theorem F154_r1:R154 5 3 (upd e 1 (sI x1)) V0 hp K=
 K (w4 e 1 (sI x1) 13 (sI x1) 14 (sI ((wr (x1+1)))) 9 (sI ((wr (x1+1))))) V0 hp:= by kernel_rfl
theorem F154_r2:R154 459 3 (upd e 10 (sI x10)) V0 hp K=
 K (w4 e 10 (sI x10) 17 (sI x10) 18 (sI ((wr (x10+1)))) 10 (sI ((wr (x10+1))))) V0 hp:= by kernel_rfl
def F154_j4 (x0a:OA) (x0n x0c:Nat) (x1 x2:Int) (x3:Value) (x9 x10:Int) (hp:HP) (I2:(Int × Int)→HP→Prop) (K:Kh):Prop:=
  (I2 (x9,(IntKind.wrap .i64 (x10+1))) hp)
theorem F154_r3:R154 4683 3 (w2 e 9 (sI x9) 2 (sI x2)) V0 hp K=
 K (w5 e 9 (sI x9) 2 (sI x2) 39 (sI x9) 40 (sI x2) 41 (sB ((x9==x2)))) V0 hp:= by kernel_rfl
theorem F154_r4:R154 19019 1 e V0 hp K=
 K (upd e 8 (sB true)) V0 hp:= by kernel_rfl
theorem F154_r5:R154 9803 4 (w2 e 2 (sI x2) 1 (sI x1)) V0 hp K=
 K (w6 e 2 (sI x2) 1 (sI x1) 42 (sI x2) 43 (sI x1) 44 (sI ((wr (x2-x1)))) 45 (sB ((decide (((wr (x2-x1)):Int)<50))))) V0 hp:= by kernel_rfl
theorem F154_r6:R154 38475 1 e V0 hp K=
 K (upd e 8 (sB false)) V0 hp:= by kernel_rfl
theorem F154_r7:R154 11851 18 (w2 e 9 (sI x9) 0 (sS x0a x0n x0c)) V0 hp K=
    ((0≤((wr (x9-1)):Int))∧(((wr (x9-1)):Int)<x0n)∧(ptrN x0a fun b1 o2=>ldL (HP.cellN hp b1 (o2+Int.toNat (wr (x9-1))*26) 26) fun l3=>(0≤x9)∧(x9<x0n)∧(ptrN x0a fun b4 o5=>ldL (HP.cellN hp b4 (o5+Int.toNat x9*26) 26) fun l6=>(0≤x9)∧(x9<x0n)∧(ptrN x0a fun b7 o8=>(List.length l3=26)∧(HP.stN hp b7 (o8+Int.toNat x9*26) l3 fun h9=>(0≤((wr (x9-1)):Int))∧(((wr (x9-1)):Int)<x0n)∧(ptrN x0a fun b10 o11=>(List.length l6=26)∧(HP.stN h9 b10 (o11+Int.toNat (wr (x9-1))*26) l6 fun h12=>K (w2 (w8 (w8 e 9 (sI x9) 0 (sS x0a x0n x0c) 46 (sS x0a x0n x0c) 47 (sI x9) 48 (sS x0a x0n x0c) 49 (sI x9) 50 (sI ((wr (x9-1)))) 51 (sS x0a x0n x0c)) 52 (sI x9) 53 (sI ((wr (x9-1)))) 54 (sV (ptr b1 (o2+Int.toNat (wr (x9-1))*26))) 55 (sA l3) 56 (sS x0a x0n x0c) 57 (sI x9) 58 (sQ b4 (o5+Int.toNat x9*26)) 59 (sA l6)) 60 (sQ b7 (o8+Int.toNat x9*26)) 61 (sV (ptr b10 (o11+Int.toNat (wr (x9-1))*26)))) V0 h12))))))):=by kernel_rfl
theorem F154_r8:R154 48715 4 (w2 e 9 (sI x9) 2 (sI x2)) V0 hp K=
 K (w6 e 9 (sI x9) 2 (sI x2) 101 (sI x2) 102 (sI x9) 103 (sI ((wr (x2-x9)))) 104 (sB ((decide (((wr (x2-x9)):Int)≥2))))) V0 hp:= by kernel_rfl
theorem F154_r9:R154 2195019 3 (w2 e 12 (sI x12) 2 (sI x2)) V0 hp K=
 K (w5 e 12 (sI x12) 2 (sI x2) 107 (sI x12) 108 (sI x2) 109 (sB (decide (x12<x2)))) V0 hp:= by kernel_rfl
theorem F154_r10 (h:E=upd (w2 e 12 (sI x12) 3 (sV x3)) 0 (sS x0a x0n x0c)):R154 17399371 13 E V0 hp K=
    ((0≤x12)∧(x12<x0n)∧(ptrN x0a fun b1 o2=>ldL (HP.cellN hp b1 (o2+Int.toNat x12*26) 26) fun l3=>(0≤((wr (x12-1)):Int))∧(((wr (x12-1)):Int)<x0n)∧(ptrN x0a fun b4 o5=>ldL (HP.cellN hp b4 (o5+Int.toNat (wr (x12-1))*26) 26) fun l6=>fnV x3 fun f7 ga8 gb9=>CF Tryd.prog f7 (ga8++[(Value.agg ⟨l3⟩),(.agg ⟨l6⟩)]++gb9) hp fun u10 h11=>intV u10 .i64 fun i12=>K (w5 (w8 E 112 (sV x3) 113 (sS x0a x0n x0c) 114 (sI x12) 115 (sQ b1 (o2+Int.toNat x12*26)) 116 (sA l3) 117 (sS x0a x0n x0c) 118 (sI x12) 119 (sI ((wr (x12-1))))) 120 (sV (ptr b4 (o5+Int.toNat (wr (x12-1))*26))) 121 (sA l6) 122 (sI i12) 123 (sB (decide (i12<0))) 124 (sB ((!(decide (i12<0)))))) V0 h11))):=by subst h; kernel_rfl
theorem F154_r11:R154 13205067 18 (w2 e 12 (sI x12) 0 (sS x0a x0n x0c)) V0 hp K=
    ((0≤((wr (x12-1)):Int))∧(((wr (x12-1)):Int)<x0n)∧(ptrN x0a fun b1 o2=>ldL (HP.cellN hp b1 (o2+Int.toNat (wr (x12-1))*26) 26) fun l3=>(0≤x12)∧(x12<x0n)∧(ptrN x0a fun b4 o5=>ldL (HP.cellN hp b4 (o5+Int.toNat x12*26) 26) fun l6=>(0≤x12)∧(x12<x0n)∧(ptrN x0a fun b7 o8=>(List.length l3=26)∧(HP.stN hp b7 (o8+Int.toNat x12*26) l3 fun h9=>(0≤((wr (x12-1)):Int))∧(((wr (x12-1)):Int)<x0n)∧(ptrN x0a fun b10 o11=>(List.length l6=26)∧(HP.stN h9 b10 (o11+Int.toNat (wr (x12-1))*26) l6 fun h12=>K (w2 (w8 (w8 e 12 (sI x12) 0 (sS x0a x0n x0c) 125 (sS x0a x0n x0c) 126 (sI x12) 127 (sS x0a x0n x0c) 128 (sI x12) 129 (sI ((wr (x12-1)))) 130 (sS x0a x0n x0c)) 131 (sI x12) 132 (sI ((wr (x12-1)))) 133 (sV (ptr b1 (o2+Int.toNat (wr (x12-1))*26))) 134 (sA l3) 135 (sS x0a x0n x0c) 136 (sI x12) 137 (sQ b4 (o5+Int.toNat x12*26)) 138 (sA l6)) 139 (sQ b7 (o8+Int.toNat x12*26)) 140 (sV (ptr b10 (o11+Int.toNat (wr (x12-1))*26)))) V0 h12))))))):=by kernel_rfl
theorem F154_r12:R154 3767883 3 (upd e 12 (sI x12)) V0 hp K=
 K (w4 e 12 (sI x12) 110 (sI x12) 111 (sI ((wr (x12+1)))) 12 (sI ((wr (x12+1))))) V0 hp:= by kernel_rfl
def F154_l8 (x0a:OA) (x0n x0c:Nat) (x1 x2:Int) (x3:Value) (x9 x10:Int) (I2:(Int × Int)→HP→Prop) (K:Kh) (I8:(Int)→HP→Prop) (x12:Int) (hp:HP):Prop:=
  (ite2 (decide (x12<x2)) ((0≤x12)∧(x12<x0n)∧(ptrN x0a fun b13 o14=>ldL (HP.cellN hp b13 (o14+Int.toNat x12*26) 26) fun l15=>(0≤((IntKind.wrap .i64 (x12-1)):Int))∧(((IntKind.wrap .i64 (x12-1)):Int)<x0n)∧(ptrN x0a fun b16 o17=>ldL (HP.cellN hp b16 (o17+Int.toNat (IntKind.wrap .i64 (x12-1))*26) 26) fun l18=>fnV x3 fun f19 ga_20 gb_21=>CF Tryd.prog f19 (ga_20++[(Value.agg ⟨l15⟩),(.agg ⟨l18⟩)]++gb_21) hp fun u22 h23=>intV u22 .i64 fun i24=>ite2 (!(decide (i24<0))) (F154_j4 x0a x0n x0c x1 x2 x3 x9 x10 h23 I2 K) ((0≤((IntKind.wrap .i64 (x12-1)):Int))∧(((IntKind.wrap .i64 (x12-1)):Int)<x0n)∧(ptrN x0a fun b25 o26=>ldL (HP.cellN h23 b25 (o26+Int.toNat (IntKind.wrap .i64 (x12-1))*26) 26) fun l27=>(0≤x12)∧(x12<x0n)∧(ptrN x0a fun b28 o29=>ldL (HP.cellN h23 b28 (o29+Int.toNat x12*26) 26) fun l30=>(0≤x12)∧(x12<x0n)∧(ptrN x0a fun b31 o32=>(List.length l27=26)∧(HP.stN h23 b31 (o32+Int.toNat x12*26) l27 fun h33=>(0≤((IntKind.wrap .i64 (x12-1)):Int))∧(((IntKind.wrap .i64 (x12-1)):Int)<x0n)∧(ptrN x0a fun b34 o35=>(List.length l30=26)∧(HP.stN h33 b34 (o35+Int.toNat (IntKind.wrap .i64 (x12-1))*26) l30 fun h36=>I8 (IntKind.wrap .i64 (x12+1)) h36)))))))))) (F154_j4 x0a x0n x0c x1 x2 x3 x9 x10 hp I2 K))
def F154_j7 (x0a:OA) (x0n x0c:Nat) (x1 x2:Int) (x3:Value) (x9 x10 x12:Int) (hp:HP) (I2:(Int × Int)→HP→Prop) (K:Kh):Prop:=
  (LoopP (σ:=Int) (fun I s hp=>F154_l8 x0a x0n x0c x1 x2 x3 x9 x10 I2 K I s hp) x12 hp)
theorem F154_r13:R154 163403 3 (upd e 9 (sI x9)) V0 hp K=
 K (w4 e 9 (sI x9) 105 (sI x9) 106 (sI ((wr (x9+1)))) 12 (sI ((wr (x9+1))))) V0 hp:= by kernel_rfl
def F154_j6 (x0a:OA) (x0n x0c:Nat) (x1 x2:Int) (x3:Value) (x9 x10:Int) (hp:HP) (I2:(Int × Int)→HP→Prop) (K:Kh):Prop:=
  (ite2 (decide (((IntKind.wrap .i64 (x2-x9)):Int)≥2)) (F154_j7 x0a x0n x0c x1 x2 x3 x9 x10 (IntKind.wrap .i64 (x9+1)) hp I2 K) (F154_j4 x0a x0n x0c x1 x2 x3 x9 x10 hp I2 K))
theorem F154_r14:R154 40523 4 (w2 e 9 (sI x9) 1 (sI x1)) V0 hp K=
 K (w6 e 9 (sI x9) 1 (sI x1) 62 (sI x9) 63 (sI x1) 64 (sI ((wr (x9-x1)))) 65 (sB ((decide (((wr (x9-x1)):Int)≥2))))) V0 hp:= by kernel_rfl
theorem F154_r15:R154 2186827 2 (upd e 11 (sI x11)) V0 hp K=
 K (w3 e 11 (sI x11) 68 (sI x11) 69 (sB (decide (x11≥1)))) V0 hp:= by kernel_rfl
theorem F154_r16 (h:E=upd (w2 e 11 (sI x11) 3 (sV x3)) 0 (sS x0a x0n x0c)):R154 17391179 13 E V0 hp K=
    ((0≤x11)∧(x11<x0n)∧(ptrN x0a fun b1 o2=>ldL (HP.cellN hp b1 (o2+Int.toNat x11*26) 26) fun l3=>(0≤((wr (x11-1)):Int))∧(((wr (x11-1)):Int)<x0n)∧(ptrN x0a fun b4 o5=>ldL (HP.cellN hp b4 (o5+Int.toNat (wr (x11-1))*26) 26) fun l6=>fnV x3 fun f7 ga8 gb9=>CF Tryd.prog f7 (ga8++[(Value.agg ⟨l3⟩),(.agg ⟨l6⟩)]++gb9) hp fun u10 h11=>intV u10 .i64 fun i12=>K (w5 (w8 E 72 (sV x3) 73 (sS x0a x0n x0c) 74 (sI x11) 75 (sQ b1 (o2+Int.toNat x11*26)) 76 (sA l3) 77 (sS x0a x0n x0c) 78 (sI x11) 79 (sI ((wr (x11-1))))) 80 (sV (ptr b4 (o5+Int.toNat (wr (x11-1))*26))) 81 (sA l6) 82 (sI i12) 83 (sB (decide (i12<0))) 84 (sB ((!(decide (i12<0)))))) V0 h11))):=by subst h; kernel_rfl
theorem F154_r17:R154 13196875 18 (w2 e 11 (sI x11) 0 (sS x0a x0n x0c)) V0 hp K=
    ((0≤((wr (x11-1)):Int))∧(((wr (x11-1)):Int)<x0n)∧(ptrN x0a fun b1 o2=>ldL (HP.cellN hp b1 (o2+Int.toNat (wr (x11-1))*26) 26) fun l3=>(0≤x11)∧(x11<x0n)∧(ptrN x0a fun b4 o5=>ldL (HP.cellN hp b4 (o5+Int.toNat x11*26) 26) fun l6=>(0≤x11)∧(x11<x0n)∧(ptrN x0a fun b7 o8=>(List.length l3=26)∧(HP.stN hp b7 (o8+Int.toNat x11*26) l3 fun h9=>(0≤((wr (x11-1)):Int))∧(((wr (x11-1)):Int)<x0n)∧(ptrN x0a fun b10 o11=>(List.length l6=26)∧(HP.stN h9 b10 (o11+Int.toNat (wr (x11-1))*26) l6 fun h12=>K (w2 (w8 (w8 e 11 (sI x11) 0 (sS x0a x0n x0c) 85 (sS x0a x0n x0c) 86 (sI x11) 87 (sS x0a x0n x0c) 88 (sI x11) 89 (sI ((wr (x11-1)))) 90 (sS x0a x0n x0c)) 91 (sI x11) 92 (sI ((wr (x11-1)))) 93 (sV (ptr b1 (o2+Int.toNat (wr (x11-1))*26))) 94 (sA l3) 95 (sS x0a x0n x0c) 96 (sI x11) 97 (sQ b4 (o5+Int.toNat x11*26)) 98 (sA l6)) 99 (sQ b7 (o8+Int.toNat x11*26)) 100 (sV (ptr b10 (o11+Int.toNat (wr (x11-1))*26)))) V0 h12))))))):=by kernel_rfl
theorem F154_r18:R154 3759691 3 (upd e 11 (sI x11)) V0 hp K=
 K (w4 e 11 (sI x11) 70 (sI x11) 71 (sI ((wr (x11-1)))) 11 (sI ((wr (x11-1))))) V0 hp:= by kernel_rfl
def F154_l10 (x0a:OA) (x0n x0c:Nat) (x1 x2:Int) (x3:Value) (x9 x10:Int) (I2:(Int × Int)→HP→Prop) (K:Kh) (I10:(Int)→HP→Prop) (x11:Int) (hp:HP):Prop:=
  (ite2 (decide (x11≥1)) ((0≤x11)∧(x11<x0n)∧(ptrN x0a fun b37 o38=>ldL (HP.cellN hp b37 (o38+Int.toNat x11*26) 26) fun l39=>(0≤((IntKind.wrap .i64 (x11-1)):Int))∧(((IntKind.wrap .i64 (x11-1)):Int)<x0n)∧(ptrN x0a fun b40 o41=>ldL (HP.cellN hp b40 (o41+Int.toNat (IntKind.wrap .i64 (x11-1))*26) 26) fun l42=>fnV x3 fun f43 ga_44 gb_45=>CF Tryd.prog f43 (ga_44++[(Value.agg ⟨l39⟩),(.agg ⟨l42⟩)]++gb_45) hp fun u46 h47=>intV u46 .i64 fun i48=>ite2 (!(decide (i48<0))) (F154_j6 x0a x0n x0c x1 x2 x3 x9 x10 h47 I2 K) ((0≤((IntKind.wrap .i64 (x11-1)):Int))∧(((IntKind.wrap .i64 (x11-1)):Int)<x0n)∧(ptrN x0a fun b49 o50=>ldL (HP.cellN h47 b49 (o50+Int.toNat (IntKind.wrap .i64 (x11-1))*26) 26) fun l51=>(0≤x11)∧(x11<x0n)∧(ptrN x0a fun b52 o53=>ldL (HP.cellN h47 b52 (o53+Int.toNat x11*26) 26) fun l54=>(0≤x11)∧(x11<x0n)∧(ptrN x0a fun b55 o56=>(List.length l51=26)∧(HP.stN h47 b55 (o56+Int.toNat x11*26) l51 fun h57=>(0≤((IntKind.wrap .i64 (x11-1)):Int))∧(((IntKind.wrap .i64 (x11-1)):Int)<x0n)∧(ptrN x0a fun b58 o59=>(List.length l54=26)∧(HP.stN h57 b58 (o59+Int.toNat (IntKind.wrap .i64 (x11-1))*26) l54 fun h60=>I10 (IntKind.wrap .i64 (x11-1)) h60)))))))))) (F154_j6 x0a x0n x0c x1 x2 x3 x9 x10 hp I2 K))
def F154_j9 (x0a:OA) (x0n x0c:Nat) (x1 x2:Int) (x3:Value) (x9 x10 x11:Int) (hp:HP) (I2:(Int × Int)→HP→Prop) (K:Kh):Prop:=
  (LoopP (σ:=Int) (fun I s hp=>F154_l10 x0a x0n x0c x1 x2 x3 x9 x10 I2 K I s hp) x11 hp)
theorem F154_r19:R154 155211 3 (upd e 9 (sI x9)) V0 hp K=
 K (w4 e 9 (sI x9) 66 (sI x9) 67 (sI ((wr (x9-1)))) 11 (sI ((wr (x9-1))))) V0 hp:= by kernel_rfl
def F154_j5 (x0a:OA) (x0n x0c:Nat) (x1 x2:Int) (x3:Value) (x9 x10:Int) (hp:HP) (I2:(Int × Int)→HP→Prop) (K:Kh):Prop:=
  (ite2 (x9==x2) (K (.bool true) hp) (ite2 (decide (((IntKind.wrap .i64 (x2-x1)):Int)<50)) (K (.bool false) hp) ((0≤((IntKind.wrap .i64 (x9-1)):Int))∧(((IntKind.wrap .i64 (x9-1)):Int)<x0n)∧(ptrN x0a fun b1 o2=>ldL (HP.cellN hp b1 (o2+Int.toNat (IntKind.wrap .i64 (x9-1))*26) 26) fun l3=>(0≤x9)∧(x9<x0n)∧(ptrN x0a fun b4 o5=>ldL (HP.cellN hp b4 (o5+Int.toNat x9*26) 26) fun l6=>(0≤x9)∧(x9<x0n)∧(ptrN x0a fun b7 o8=>(List.length l3=26)∧(HP.stN hp b7 (o8+Int.toNat x9*26) l3 fun h9=>(0≤((IntKind.wrap .i64 (x9-1)):Int))∧(((IntKind.wrap .i64 (x9-1)):Int)<x0n)∧(ptrN x0a fun b10 o11=>(List.length l6=26)∧(HP.stN h9 b10 (o11+Int.toNat (IntKind.wrap .i64 (x9-1))*26) l6 fun h12=>ite2 (decide (((IntKind.wrap .i64 (x9-x1)):Int)≥2)) (F154_j9 x0a x0n x0c x1 x2 x3 x9 x10 (IntKind.wrap .i64 (x9-1)) h12 I2 K) (F154_j6 x0a x0n x0c x1 x2 x3 x9 x10 h12 I2 K))))))))))
theorem F154_r20:R154 20555 3 (upd e 9 (sI x9)) V0 hp K=
 K (w4 e 9 (sI x9) 37 (sI x9) 38 (sI ((wr (x9+1)))) 9 (sI ((wr (x9+1))))) V0 hp:= by kernel_rfl
def F154_j12 (x0a:OA) (x0n x0c:Nat) (x1 x2:Int) (x3:Value) (x9 x10:Int) (x36:Bool) (hp:HP) (I2:(Int × Int)→HP→Prop) (I11:(Int)→HP→Prop) (K:Kh):Prop:=
  (ite2 x36 (I11 (IntKind.wrap .i64 (x9+1)) hp) (F154_j5 x0a x0n x0c x1 x2 x3 x9 x10 hp I2 K))
theorem F154_r21 (h:E=upd (w3 e 9 (sI x9) 3 (sV x3) 2 (sI x2)) 0 (sS x0a x0n x0c)):R154 16459 18 E V0 hp K=
    (ite2 (decide (x9<x2)) ((0≤x9)∧(x9<x0n)∧(ptrN x0a fun b1 o2=>ldL (HP.cellN hp b1 (o2+Int.toNat x9*26) 26) fun l3=>(0≤((wr (x9-1)):Int))∧(((wr (x9-1)):Int)<x0n)∧(ptrN x0a fun b4 o5=>ldL (HP.cellN hp b4 (o5+Int.toNat (wr (x9-1))*26) 26) fun l6=>fnV x3 fun f7 ga8 gb9=>CF Tryd.prog f7 (ga8++[(Value.agg ⟨l3⟩),(.agg ⟨l6⟩)]++gb9) hp fun u10 h11=>intV u10 .i64 fun i12=>K (w2 (w8 (w8 E 19 (sI x9) 20 (sI x2) 21 (sB (decide (x9<x2))) 22 (sB true) 23 (sV x3) 24 (sS x0a x0n x0c) 25 (sI x9) 26 (sQ b1 (o2+Int.toNat x9*26))) 27 (sA l3) 28 (sS x0a x0n x0c) 29 (sI x9) 30 (sI ((wr (x9-1)))) 31 (sV (ptr b4 (o5+Int.toNat (wr (x9-1))*26))) 32 (sA l6) 33 (sI i12) 34 (sB (decide (i12<0)))) 35 (sB ((!(decide (i12<0))))) 36 (sB ((!(decide (i12<0)))))) V0 h11))) (K (w2 (w8 (w8 E 19 (sI x9) 20 (sI x2) 21 (sB (decide (x9<x2))) 22 (sB false) 23 sU 24 sU 25 sU 26 sU) 27 sU 28 sU 29 sU 30 sU 31 sU 32 sU 33 sU 34 sU) 35 sU 36 (sB false)) V0 hp)):=by subst h; kernel_rfl
def F154_l11 (x0a:OA) (x0n x0c:Nat) (x1 x2:Int) (x3:Value) (x10:Int) (I2:(Int × Int)→HP→Prop) (K:Kh) (I11:(Int)→HP→Prop) (x9:Int) (hp:HP):Prop:=
  (ite2 (decide (x9<x2)) ((0≤x9)∧(x9<x0n)∧(ptrN x0a fun b61 o62=>ldL (HP.cellN hp b61 (o62+Int.toNat x9*26) 26) fun l63=>(0≤((IntKind.wrap .i64 (x9-1)):Int))∧(((IntKind.wrap .i64 (x9-1)):Int)<x0n)∧(ptrN x0a fun b64 o65=>ldL (HP.cellN hp b64 (o65+Int.toNat (IntKind.wrap .i64 (x9-1))*26) 26) fun l66=>fnV x3 fun f67 ga_68 gb_69=>CF Tryd.prog f67 (ga_68++[(Value.agg ⟨l63⟩),(.agg ⟨l66⟩)]++gb_69) hp fun u70 h71=>intV u70 .i64 fun i72=>F154_j12 x0a x0n x0c x1 x2 x3 x9 x10 (!(decide (i72<0))) h71 I2 I11 K))) (F154_j12 x0a x0n x0c x1 x2 x3 x9 x10 false hp I2 I11 K))
def F154_j3 (x0a:OA) (x0n x0c:Nat) (x1 x2:Int) (x3:Value) (x9 x10:Int) (hp:HP) (I2:(Int × Int)→HP→Prop) (K:Kh):Prop:=
  (LoopP (σ:=Int) (fun I s hp=>F154_l11 x0a x0n x0c x1 x2 x3 x10 I2 K I s hp) x9 hp)
theorem F154_r22:R154 267 2 (upd e 10 (sI x10)) V0 hp K=
 K (w3 e 10 (sI x10) 15 (sI x10) 16 (sB (decide (x10<5)))) V0 hp:= by kernel_rfl
theorem F154_r23:R154 23 1 e V0 hp K=
 K (upd e 8 (sB false)) V0 hp:= by kernel_rfl
def F154_l2 (x0a:OA) (x0n x0c:Nat) (x1 x2:Int) (x3:Value) (K:Kh) (I2:(Int × Int)→HP→Prop) (x9 x10:Int) (hp:HP):Prop:=
  (ite2 (decide (x10<5)) (F154_j3 x0a x0n x0c x1 x2 x3 x9 x10 hp I2 K) (K (.bool false) hp))
def F154_j1 (x0a:OA) (x0n x0c:Nat) (x1 x2:Int) (x3:Value) (x9 x10:Int) (hp:HP) (K:Kh):Prop:=
  (LoopP (σ:=Int × Int) (fun I s hp=>F154_l2 x0a x0n x0c x1 x2 x3  K I s.1 s.2 hp) (x9,x10) hp)
theorem F154_r24:R154 19 1 e V0 hp K=
 K (upd e 10 (sI 0)) V0 hp:= by kernel_rfl
def F154 (x0a:OA) (x0n x0c:Nat) (x1 x2:Int) (x3:Value) (hp:HP) (K:Kh):Prop:=
  (F154_j1 x0a x0n x0c x1 x2 x3 (IntKind.wrap .i64 (x1+1)) 0 hp  K)
noncomputable abbrev o154 (k n:Nat):Code:=.region k (opsAt Tryd.f154 (pth n)) false
noncomputable def F154_code:Code:=(.seq (o154 0 2) (.seq (o154 1 5) (.seq (.seq (o154 2 19) (.block 0 (.loop (.seq (.seq (o154 3 267) (.cond (.tmp 16) .skip (.exit 0))) (.seq (.block 1 (.seq (.block 2 (.loop (.seq (.seq (.region 5 (opsAt Tryd.f154 (pth 16459)) true) (.cond (.tmp 36) .skip (.exit 2))) (.block 3 (o154 6 20555))))) (.seq (.seq (o154 7 4683) (.cond (.tmp 41) (.seq (o154 8 19019) .ret) .skip)) (.seq (.seq (o154 9 9803) (.cond (.tmp 45) (.seq (o154 10 38475) .ret) .skip)) (.seq (.region 11 (opsAt Tryd.f154 (pth 11851)) true) (.seq (.seq (o154 12 40523) (.cond (.tmp 65) (.seq (o154 13 155211) (.block 4 (.loop (.seq (.seq (o154 14 2186827) (.cond (.tmp 69) .skip (.exit 4))) (.seq (.block 5 (.seq (.seq (.region 16 (opsAt Tryd.f154 (pth 17391179)) true) (.cond (.tmp 84) (.exit 4) .skip)) (.region 17 (opsAt Tryd.f154 (pth 13196875)) true))) (o154 15 3759691)))))) .skip)) (.seq (o154 18 48715) (.cond (.tmp 104) (.seq (o154 19 163403) (.block 6 (.loop (.seq (.seq (o154 20 2195019) (.cond (.tmp 109) .skip (.exit 6))) (.seq (.block 7 (.seq (.seq (.region 22 (opsAt Tryd.f154 (pth 17399371)) true) (.cond (.tmp 124) (.exit 6) .skip)) (.region 23 (opsAt Tryd.f154 (pth 13205067)) true))) (o154 21 3767883)))))) .skip)))))))) (o154 4 459)))))) (.seq (o154 24 23) .ret))))
theorem F154_body:Tryd.f154.body=some F154_code:=by kernel_rfl
theorem F154_ok (x0a:OA) (x0n x0c:Nat) (x1 x2:Int) (x3:Value) (hp:HP) (K:Kh) (h:F154 x0a x0n x0c x1 x2 x3 hp K):CF Tryd.prog 154 [(.slice x0a x0n x0c),(.int .i64 x1),(.int .i64 x2),x3] hp K:=by
 refine .inl ⟨by kernel_rfl,AC.intro (N:=141) Tryd.func154 F154_body rfl (Nat.le_of_ble_eq_true rfl) ?_⟩
 unfold F154 at h
 refine Ar F154_r0 ?_ (r4 0 1 2 3 Rn) (z4 Sn) Sn
 refine Ar F154_r1 ?_ (r4 1 0 2 3 Rn) (z4 Sn) Sn
 refine Aq (As (fun env pv hp=>∃ x0a x0n x0c x1 x2 x3 x9 x10,Sub (w6 E0 10 (sI x10) 9 (sI x9) 3 (sV x3) 2 (sI x2) 1 (sI x1) 0 (sS x0a x0n x0c)) env∧Sub V0 pv∧F154_j1 x0a x0n x0c x1 x2 x3 x9 x10 hp  K) ?_ ?_)
 ·refine Ag F154_r24 ?_ (r5 0 1 2 3 9 Rn) (z5 Sn) Sn
  exact ⟨_,_,_,_,_,_,_,_,(z6 Sn),Sn,h⟩
 ·rintro env pv hp ⟨x0a,x0n,x0c,x1,x2,x3,x9,x10,he,hv,h⟩
  refine Ae ?_ (r6 0 1 2 3 9 10 Rn) he hv
  unfold F154_j1 at h
  refine AWP.block (AWP.loop (σ:=Int × Int) _ (fun s=>w6 E0 10 (sI (s.2)) 9 (sI (s.1)) 3 (sV x3) 2 (sI x2) 1 (sI x1) 0 (sS x0a x0n x0c)) (fun s=>V0) (x9,x10) h (fun s=>r6 0 1 2 3 9 10 Rn) (z6 Sn) Sn ?_)
  intro I2 s hp h
  obtain ⟨x9,x10⟩:=s
  replace h:F154_l2 x0a x0n x0c x1 x2 x3  K I2 x9 x10 hp:=h
  unfold F154_l2 at h
  refine As (fun env pv hp=>∃ x9 x10,Sub (w6 E0 10 (sI x10) 9 (sI x9) 3 (sV x3) 2 (sI x2) 1 (sI x1) 0 (sS x0a x0n x0c)) env∧Sub V0 pv∧F154_j3 x0a x0n x0c x1 x2 x3 x9 x10 hp I2 K) ?_ ?_
  ·refine Ar F154_r22 ?_ (r6 10 0 1 2 3 9 Rn) (z6 Sn) Sn
   refine Ac h rfl (fun h=>?_) (fun h=>?_)
   ·refine AWP.skip ?_
    exact ⟨_,_,(z6 Sn),Sn,h⟩
   ·refine AWP.exit ?_
    refine Ar F154_r23 ?_ Rn Sn Sn
    refine AWP.ret ?_
    exact h
  ·rintro env pv hp ⟨x9,x10,he,hv,h⟩
   refine Ae ?_ (r6 0 1 2 3 9 10 Rn) he hv
   unfold F154_j3 at h
   refine As (fun env pv hp=>∃ x9 x10,Sub (w6 E0 10 (sI x10) 9 (sI x9) 3 (sV x3) 2 (sI x2) 1 (sI x1) 0 (sS x0a x0n x0c)) env∧Sub V0 pv∧F154_j4 x0a x0n x0c x1 x2 x3 x9 x10 hp I2 K) ?_ ?_
   ·refine AWP.block (As (fun env pv hp=>∃ x9 x10,Sub (w6 E0 10 (sI x10) 9 (sI x9) 3 (sV x3) 2 (sI x2) 1 (sI x1) 0 (sS x0a x0n x0c)) env∧Sub V0 pv∧F154_j5 x0a x0n x0c x1 x2 x3 x9 x10 hp I2 K) ?_ ?_)
    ·refine AWP.block (AWP.loop (σ:=Int) _ (fun s=>w6 E0 10 (sI x10) 9 (sI s) 3 (sV x3) 2 (sI x2) 1 (sI x1) 0 (sS x0a x0n x0c)) (fun s=>V0) x9 h (fun s=>r6 0 1 2 3 9 10 Rn) (z6 Sn) Sn ?_)
     intro I11 x9 hp h
     replace h:F154_l11 x0a x0n x0c x1 x2 x3 x10 I2 K I11 x9 hp:=h
     unfold F154_l11 at h
     refine Aq (As (fun env pv hp=>∃ x9 x36,Sub (w7 E0 36 (sB x36) 10 (sI x10) 9 (sI x9) 3 (sV x3) 2 (sI x2) 1 (sI x1) 0 (sS x0a x0n x0c)) env∧Sub V0 pv∧F154_j12 x0a x0n x0c x1 x2 x3 x9 x10 x36 hp I2 I11 K) ?_ ?_)
     ·refine AWP.rgnD (by kernel_rfl) (by kernel_rfl) (F154_r21 rfl) ?_ (r6 0 2 3 9 1 10 Rn) (z6 Sn) Sn
      refine mt h (fun h=>?_) (fun h=>?_)
      ·refine ⟨h.1,h.2.1,mN h.2.2 (fun b61 o62 h=>mL h (fun l63 h=>⟨h.1,h.2.1,mN h.2.2 fun b64 o65 h=>mL h fun l66 h=>mF h fun f67 ga_68 gb_69 h=>mC h fun u70 h71 h=>mI h fun i72 h=>?_⟩))⟩
       exact ⟨_,_,(z7 Sn),Sn,h⟩
      ·exact ⟨_,_,(z7 Sn),Sn,h⟩
     ·rintro env pv hp ⟨x9,x36,he,hv,h⟩
      refine Ae ?_ (r7 0 1 2 3 9 10 36 Rn) he hv
      unfold F154_j12 at h
      refine Ac h rfl (fun h=>?_) (fun h=>?_)
      ·refine AWP.skip (AWP.block (Ag F154_r20 ?_ (r6 9 0 1 2 3 10 Rn) (z6 Sn) Sn))
       exact ⟨_,(z6 Sn),Sn,h⟩
      ·refine AWP.exit ?_
       exact ⟨_,_,(z6 Sn),Sn,h⟩
    ·rintro env pv hp ⟨x9,x10,he,hv,h⟩
     refine Ae ?_ (r6 0 1 2 3 9 10 Rn) he hv
     unfold F154_j5 at h
     refine Aq (Ar F154_r3 ?_ (r6 2 9 0 1 3 10 Rn) (z6 Sn) Sn)
     refine Ac h rfl (fun h=>?_) (fun h=>?_)
     ·refine Ar F154_r4 ?_ Rn Sn Sn
      refine AWP.ret ?_
      exact h
     ·refine AWP.skip (Aq (Ar F154_r5 ?_ (r6 1 2 0 3 9 10 Rn) (z6 Sn) Sn))
      refine Ac h rfl (fun h=>?_) (fun h=>?_)
      ·refine Ar F154_r6 ?_ Rn Sn Sn
       refine AWP.ret ?_
       exact h
      ·refine AWP.skip (Aq (AWP.rgnD (by kernel_rfl) (by kernel_rfl) F154_r7 ?_ (r6 0 9 1 2 3 10 Rn) (z6 Sn) Sn))
       refine ⟨h.1,h.2.1,mN h.2.2 (fun b1 o2 h=>mL h (fun l3 h=>⟨h.1,h.2.1,mN h.2.2 (fun b4 o5 h=>mL h (fun l6 h=>⟨h.1,h.2.1,mN h.2.2 (fun b7 o8 h=>⟨h.1,mW h.2 (fun h9 h=>⟨h.1,h.2.1,mN h.2.2 (fun b10 o11 h=>⟨h.1,mW h.2 fun h12 h=>?_⟩)⟩)⟩)⟩))⟩))⟩
       refine As (fun env pv hp=>∃ x9 x10,Sub (w6 E0 10 (sI x10) 9 (sI x9) 3 (sV x3) 2 (sI x2) 1 (sI x1) 0 (sS x0a x0n x0c)) env∧Sub V0 pv∧F154_j6 x0a x0n x0c x1 x2 x3 x9 x10 hp I2 K) ?_ ?_
       ·refine Ar F154_r14 ?_ (r6 1 9 0 2 3 10 Rn) (z6 Sn) Sn
        refine Ac h rfl (fun h=>?_) (fun h=>?_)
        ·refine As (fun env pv hp=>∃ x9 x10 x11,Sub (w7 E0 11 (sI x11) 10 (sI x10) 9 (sI x9) 3 (sV x3) 2 (sI x2) 1 (sI x1) 0 (sS x0a x0n x0c)) env∧Sub V0 pv∧F154_j9 x0a x0n x0c x1 x2 x3 x9 x10 x11 hp I2 K) ?_ ?_
         ·refine Ag F154_r19 ?_ (r6 9 0 1 2 3 10 Rn) (z6 Sn) Sn
          exact ⟨_,_,_,(z7 Sn),Sn,h⟩
         ·rintro env pv hp ⟨x9,x10,x11,he,hv,h⟩
          refine Ae ?_ (r7 0 1 2 3 9 10 11 Rn) he hv
          unfold F154_j9 at h
          refine AWP.block (AWP.loop (σ:=Int) _ (fun s=>w7 E0 11 (sI s) 10 (sI x10) 9 (sI x9) 3 (sV x3) 2 (sI x2) 1 (sI x1) 0 (sS x0a x0n x0c)) (fun s=>V0) x11 h (fun s=>r7 0 1 2 3 9 10 11 Rn) (z7 Sn) Sn ?_)
          intro I10 x11 hp h
          replace h:F154_l10 x0a x0n x0c x1 x2 x3 x9 x10 I2 K I10 x11 hp:=h
          unfold F154_l10 at h
          refine Aq (Ar F154_r15 ?_ (r7 11 0 1 2 3 9 10 Rn) (z7 Sn) Sn)
          refine Ac h rfl (fun h=>?_) (fun h=>?_)
          ·refine AWP.skip (Aq (AWP.block (Aq (Aq (AWP.rgnD (by kernel_rfl) (by kernel_rfl) (F154_r16 rfl) ?_ (r7 0 3 11 1 2 9 10 Rn) (z7 Sn) Sn)))))
           refine ⟨h.1,h.2.1,mN h.2.2 (fun b37 o38 h=>mL h (fun l39 h=>⟨h.1,h.2.1,mN h.2.2 fun b40 o41 h=>mL h fun l42 h=>mF h fun f43 ga_44 gb_45 h=>mC h fun u46 h47 h=>mI h fun i48 h=>?_⟩))⟩
           refine Ac h rfl (fun h=>?_) (fun h=>?_)
           ·refine AWP.exit ?_
            exact ⟨_,_,(z6 Sn),Sn,h⟩
           ·refine AWP.skip (AWP.rgnD (by kernel_rfl) (by kernel_rfl) F154_r17 ?_ (r7 0 11 1 2 3 9 10 Rn) (z7 Sn) Sn)
            refine ⟨h.1,h.2.1,mN h.2.2 (fun b49 o50 h=>mL h (fun l51 h=>⟨h.1,h.2.1,mN h.2.2 (fun b52 o53 h=>mL h (fun l54 h=>⟨h.1,h.2.1,mN h.2.2 (fun b55 o56 h=>⟨h.1,mW h.2 (fun h57 h=>⟨h.1,h.2.1,mN h.2.2 (fun b58 o59 h=>⟨h.1,mW h.2 fun h60 h=>?_⟩)⟩)⟩)⟩))⟩))⟩
            refine Ag F154_r18 ?_ (r7 11 0 1 2 3 9 10 Rn) (z7 Sn) Sn
            exact ⟨_,(z7 Sn),Sn,h⟩
          ·refine AWP.exit ?_
           exact ⟨_,_,(z6 Sn),Sn,h⟩
        ·refine AWP.skip ?_
         exact ⟨_,_,(z6 Sn),Sn,h⟩
       ·rintro env pv hp ⟨x9,x10,he,hv,h⟩
        refine Ae ?_ (r6 0 1 2 3 9 10 Rn) he hv
        unfold F154_j6 at h
        refine Ar F154_r8 ?_ (r6 2 9 0 1 3 10 Rn) (z6 Sn) Sn
        refine Ac h rfl (fun h=>?_) (fun h=>?_)
        ·refine As (fun env pv hp=>∃ x9 x10 x12,Sub (w7 E0 12 (sI x12) 10 (sI x10) 9 (sI x9) 3 (sV x3) 2 (sI x2) 1 (sI x1) 0 (sS x0a x0n x0c)) env∧Sub V0 pv∧F154_j7 x0a x0n x0c x1 x2 x3 x9 x10 x12 hp I2 K) ?_ ?_
         ·refine Ag F154_r13 ?_ (r6 9 0 1 2 3 10 Rn) (z6 Sn) Sn
          exact ⟨_,_,_,(z7 Sn),Sn,h⟩
         ·rintro env pv hp ⟨x9,x10,x12,he,hv,h⟩
          refine Ae ?_ (r7 0 1 2 3 9 10 12 Rn) he hv
          unfold F154_j7 at h
          refine AWP.block (AWP.loop (σ:=Int) _ (fun s=>w7 E0 12 (sI s) 10 (sI x10) 9 (sI x9) 3 (sV x3) 2 (sI x2) 1 (sI x1) 0 (sS x0a x0n x0c)) (fun s=>V0) x12 h (fun s=>r7 0 1 2 3 9 10 12 Rn) (z7 Sn) Sn ?_)
          intro I8 x12 hp h
          replace h:F154_l8 x0a x0n x0c x1 x2 x3 x9 x10 I2 K I8 x12 hp:=h
          unfold F154_l8 at h
          refine Aq (Ar F154_r9 ?_ (r7 2 12 0 1 3 9 10 Rn) (z7 Sn) Sn)
          refine Ac h rfl (fun h=>?_) (fun h=>?_)
          ·refine AWP.skip (Aq (AWP.block (Aq (Aq (AWP.rgnD (by kernel_rfl) (by kernel_rfl) (F154_r10 rfl) ?_ (r7 0 3 12 1 2 9 10 Rn) (z7 Sn) Sn)))))
           refine ⟨h.1,h.2.1,mN h.2.2 (fun b13 o14 h=>mL h (fun l15 h=>⟨h.1,h.2.1,mN h.2.2 fun b16 o17 h=>mL h fun l18 h=>mF h fun f19 ga_20 gb_21 h=>mC h fun u22 h23 h=>mI h fun i24 h=>?_⟩))⟩
           refine Ac h rfl (fun h=>?_) (fun h=>?_)
           ·refine AWP.exit ?_
            exact ⟨_,_,(z6 Sn),Sn,h⟩
           ·refine AWP.skip (AWP.rgnD (by kernel_rfl) (by kernel_rfl) F154_r11 ?_ (r7 0 12 1 2 3 9 10 Rn) (z7 Sn) Sn)
            refine ⟨h.1,h.2.1,mN h.2.2 (fun b25 o26 h=>mL h (fun l27 h=>⟨h.1,h.2.1,mN h.2.2 (fun b28 o29 h=>mL h (fun l30 h=>⟨h.1,h.2.1,mN h.2.2 (fun b31 o32 h=>⟨h.1,mW h.2 (fun h33 h=>⟨h.1,h.2.1,mN h.2.2 (fun b34 o35 h=>⟨h.1,mW h.2 fun h36 h=>?_⟩)⟩)⟩)⟩))⟩))⟩
            refine Ag F154_r12 ?_ (r7 12 0 1 2 3 9 10 Rn) (z7 Sn) Sn
            exact ⟨_,(z7 Sn),Sn,h⟩
          ·refine AWP.exit ?_
           exact ⟨_,_,(z6 Sn),Sn,h⟩
        ·refine AWP.skip ?_
         exact ⟨_,_,(z6 Sn),Sn,h⟩
   ·rintro env pv hp ⟨x9,x10,he,hv,h⟩
    refine Ae ?_ (r6 0 1 2 3 9 10 Rn) he hv
    unfold F154_j4 at h
    refine Ag F154_r2 ?_ (r6 10 0 1 2 3 9 Rn) (z6 Sn) Sn
    exact ⟨_,(z6 Sn),Sn,h⟩
end
section
variable {e E:Env} {x0a:OA} {x0n x0c:Nat} {x1 x2 x3:Int} {x4:Value} {x11 x12:Int} {hp:HP} {K:Env→PV→HP→Prop}
abbrev R155 (p n:Nat):=RW Tryd.prog 90 [] (opsAt Tryd.f155 (pth p)) (List.range n)
theorem F155_r0:R155 2 1 e V0 hp K=
 K (upd e 10 (sI 0)) V0 hp:= by kernel_rfl
theorem F155_r1 (h:E=upd (w2 e 3 (sI x3) 1 (sI x1)) 0 (sS x0a x0n x0c)):R155 5 16 E V0 hp K=
    ((0≤x3)∧(x3<x0n)∧(ptrN x0a fun b1 o2=>ldL (HP.cellN hp b1 (o2+Int.toNat x3*26) 26) fun l3=>(0≤x1)∧(x1<x0n)∧(ptrN x0a fun b4 o5=>ldL (HP.cellN hp b4 (o5+Int.toNat x1*26) 26) fun l6=>(0≤x1)∧(x1<x0n)∧(ptrN x0a fun b7 o8=>(List.length l3=26)∧(HP.stN hp b7 (o8+Int.toNat x1*26) l3 fun h9=>(0≤x3)∧(x3<x0n)∧(ptrN x0a fun b10 o11=>(List.length l6=26)∧(HP.stN h9 b10 (o11+Int.toNat x3*26) l6 fun h12=>K (w6 (w8 E 13 (sS x0a x0n x0c) 14 (sI x1) 15 (sS x0a x0n x0c) 16 (sI x3) 17 (sS x0a x0n x0c) 18 (sI x3) 19 (sQ b1 (o2+Int.toNat x3*26)) 20 (sA l3)) 21 (sS x0a x0n x0c) 22 (sI x1) 23 (sQ b4 (o5+Int.toNat x1*26)) 24 (sA l6) 25 (sQ b7 (o8+Int.toNat x1*26)) 26 (sQ b10 (o11+Int.toNat x3*26))) V0 h12))))))):=by subst h; kernel_rfl
theorem F155_r2:R155 47 2 (upd e 11 (sI x11)) V0 hp K=
 K (w3 e 11 (sI x11) 89 (sI x11) 10 (sI x11)) V0 hp:= by kernel_rfl
def F155_j2 (x11:Int) (hp:HP) (K:Kh):Prop:=
  (K (.int .i64 x11) hp)
theorem F155_r3:R155 2439 3 (w2 e 12 (sI x12) 11 (sI x11)) V0 hp K=
 K (w5 e 12 (sI x12) 11 (sI x11) 68 (sI x11) 69 (sI x12) 70 (sB (decide (x11 > x12)))) V0 hp:= by kernel_rfl
theorem F155_r4 (h:E=upd (w2 e 12 (sI x12) 11 (sI x11)) 0 (sS x0a x0n x0c)):R155 2951 16 E V0 hp K=
    ((0≤x12)∧(x12<x0n)∧(ptrN x0a fun b1 o2=>ldL (HP.cellN hp b1 (o2+Int.toNat x12*26) 26) fun l3=>(0≤x11)∧(x11<x0n)∧(ptrN x0a fun b4 o5=>ldL (HP.cellN hp b4 (o5+Int.toNat x11*26) 26) fun l6=>(0≤x11)∧(x11<x0n)∧(ptrN x0a fun b7 o8=>(List.length l3=26)∧(HP.stN hp b7 (o8+Int.toNat x11*26) l3 fun h9=>(0≤x12)∧(x12<x0n)∧(ptrN x0a fun b10 o11=>(List.length l6=26)∧(HP.stN h9 b10 (o11+Int.toNat x12*26) l6 fun h12=>K (w6 (w8 E 71 (sS x0a x0n x0c) 72 (sI x11) 73 (sS x0a x0n x0c) 74 (sI x12) 75 (sS x0a x0n x0c) 76 (sI x12) 77 (sQ b1 (o2+Int.toNat x12*26)) 78 (sA l3)) 79 (sS x0a x0n x0c) 80 (sI x11) 81 (sQ b4 (o5+Int.toNat x11*26)) 82 (sA l6) 83 (sQ b7 (o8+Int.toNat x11*26)) 84 (sQ b10 (o11+Int.toNat x12*26))) V0 h12))))))):=by subst h; kernel_rfl
theorem F155_r5:R155 6023 3 (upd e 11 (sI x11)) V0 hp K=
 K (w4 e 11 (sI x11) 85 (sI x11) 86 (sI ((wr (x11+1)))) 11 (sI ((wr (x11+1))))) V0 hp:= by kernel_rfl
theorem F155_r6:R155 8071 3 (upd e 12 (sI x12)) V0 hp K=
 K (w4 e 12 (sI x12) 87 (sI x12) 88 (sI ((wr (x12-1)))) 12 (sI ((wr (x12-1))))) V0 hp:= by kernel_rfl
def F155_j5 (x0a:OA) (x0n x0c:Nat) (x1:Int) (x4:Value) (x11 x12:Int) (hp:HP) (I3:(Int × Int)→HP→Prop) (K:Kh):Prop:=
  (ite2 (decide (x11 > x12)) (F155_j2 x11 hp  K) ((0≤x12)∧(x12<x0n)∧(ptrN x0a fun b13 o14=>ldL (HP.cellN hp b13 (o14+Int.toNat x12*26) 26) fun l15=>(0≤x11)∧(x11<x0n)∧(ptrN x0a fun b16 o17=>ldL (HP.cellN hp b16 (o17+Int.toNat x11*26) 26) fun l18=>(0≤x11)∧(x11<x0n)∧(ptrN x0a fun b19 o20=>(List.length l15=26)∧(HP.stN hp b19 (o20+Int.toNat x11*26) l15 fun h21=>(0≤x12)∧(x12<x0n)∧(ptrN x0a fun b22 o23=>(List.length l18=26)∧(HP.stN h21 b22 (o23+Int.toNat x12*26) l18 fun h24=>I3 ((IntKind.wrap .i64 (x11+1)),(IntKind.wrap .i64 (x12-1))) h24))))))))
theorem F155_r7:R155 10375 3 (upd e 12 (sI x12)) V0 hp K=
 K (w4 e 12 (sI x12) 66 (sI x12) 67 (sI ((wr (x12-1)))) 12 (sI ((wr (x12-1))))) V0 hp:= by kernel_rfl
def F155_j7 (x0a:OA) (x0n x0c:Nat) (x1:Int) (x4:Value) (x11 x12:Int) (x65:Bool) (hp:HP) (I3:(Int × Int)→HP→Prop) (I6:(Int)→HP→Prop) (K:Kh):Prop:=
  (ite2 x65 (I6 (IntKind.wrap .i64 (x12-1)) hp) (F155_j5 x0a x0n x0c x1 x4 x11 x12 hp I3 K))
theorem F155_r8 (h:E=upd (w4 e 12 (sI x12) 11 (sI x11) 4 (sV x4) 1 (sI x1)) 0 (sS x0a x0n x0c)):R155 8327 16 E V0 hp K=
    (ite2 (decide (x11≤x12)) ((0≤x1)∧(x1<x0n)∧(ptrN x0a fun b1 o2=>ldL (HP.cellN hp b1 (o2+Int.toNat x1*26) 26) fun l3=>(0≤x12)∧(x12<x0n)∧(ptrN x0a fun b4 o5=>ldL (HP.cellN hp b4 (o5+Int.toNat x12*26) 26) fun l6=>fnV x4 fun f7 ga8 gb9=>CF Tryd.prog f7 (ga8++[(Value.agg ⟨l3⟩),(.agg ⟨l6⟩)]++gb9) hp fun u10 h11=>intV u10 .i64 fun i12=>K (w8 (w8 E 50 (sI x11) 51 (sI x12) 52 (sB (decide (x11≤x12))) 53 (sB true) 54 (sV x4) 55 (sS x0a x0n x0c) 56 (sI x1) 57 (sQ b1 (o2+Int.toNat x1*26))) 58 (sA l3) 59 (sS x0a x0n x0c) 60 (sI x12) 61 (sQ b4 (o5+Int.toNat x12*26)) 62 (sA l6) 63 (sI i12) 64 (sB (decide (i12<0))) 65 (sB (decide (i12<0)))) V0 h11))) (K (w8 (w8 E 50 (sI x11) 51 (sI x12) 52 (sB (decide (x11≤x12))) 53 (sB false) 54 sU 55 sU 56 sU 57 sU) 58 sU 59 sU 60 sU 61 sU 62 sU 63 sU 64 sU 65 (sB false)) V0 hp)):=by subst h; kernel_rfl
def F155_l6 (x0a:OA) (x0n x0c:Nat) (x1:Int) (x4:Value) (x11:Int) (I3:(Int × Int)→HP→Prop) (K:Kh) (I6:(Int)→HP→Prop) (x12:Int) (hp:HP):Prop:=
  (ite2 (decide (x11≤x12)) ((0≤x1)∧(x1<x0n)∧(ptrN x0a fun b25 o26=>ldL (HP.cellN hp b25 (o26+Int.toNat x1*26) 26) fun l27=>(0≤x12)∧(x12<x0n)∧(ptrN x0a fun b28 o29=>ldL (HP.cellN hp b28 (o29+Int.toNat x12*26) 26) fun l30=>fnV x4 fun f31 ga_32 gb_33=>CF Tryd.prog f31 (ga_32++[(Value.agg ⟨l27⟩),(.agg ⟨l30⟩)]++gb_33) hp fun u34 h35=>intV u34 .i64 fun i36=>F155_j7 x0a x0n x0c x1 x4 x11 x12 (decide (i36<0)) h35 I3 I6 K))) (F155_j7 x0a x0n x0c x1 x4 x11 x12 false hp I3 I6 K))
def F155_j4 (x0a:OA) (x0n x0c:Nat) (x1:Int) (x4:Value) (x11 x12:Int) (hp:HP) (I3:(Int × Int)→HP→Prop) (K:Kh):Prop:=
  (LoopP (σ:=Int) (fun I s hp=>F155_l6 x0a x0n x0c x1 x4 x11 I3 K I s hp) x12 hp)
theorem F155_r9:R155 5127 3 (upd e 11 (sI x11)) V0 hp K=
 K (w4 e 11 (sI x11) 48 (sI x11) 49 (sI ((wr (x11+1)))) 11 (sI ((wr (x11+1))))) V0 hp:= by kernel_rfl
def F155_j9 (x0a:OA) (x0n x0c:Nat) (x1:Int) (x4:Value) (x11 x12:Int) (x47:Bool) (hp:HP) (I3:(Int × Int)→HP→Prop) (I8:(Int)→HP→Prop) (K:Kh):Prop:=
  (ite2 x47 (I8 (IntKind.wrap .i64 (x11+1)) hp) (F155_j4 x0a x0n x0c x1 x4 x11 x12 hp I3 K))
theorem F155_r10 (h:E=upd (w4 e 12 (sI x12) 11 (sI x11) 4 (sV x4) 1 (sI x1)) 0 (sS x0a x0n x0c)):R155 4103 17 E V0 hp K=
    (ite2 (decide (x11≤x12)) ((0≤x1)∧(x1<x0n)∧(ptrN x0a fun b1 o2=>ldL (HP.cellN hp b1 (o2+Int.toNat x1*26) 26) fun l3=>(0≤x11)∧(x11<x0n)∧(ptrN x0a fun b4 o5=>ldL (HP.cellN hp b4 (o5+Int.toNat x11*26) 26) fun l6=>fnV x4 fun f7 ga8 gb9=>CF Tryd.prog f7 (ga8++[(Value.agg ⟨l3⟩),(.agg ⟨l6⟩)]++gb9) hp fun u10 h11=>intV u10 .i64 fun i12=>K (upd (w8 (w8 E 31 (sI x11) 32 (sI x12) 33 (sB (decide (x11≤x12))) 34 (sB true) 35 (sV x4) 36 (sS x0a x0n x0c) 37 (sI x1) 38 (sQ b1 (o2+Int.toNat x1*26))) 39 (sA l3) 40 (sS x0a x0n x0c) 41 (sI x11) 42 (sQ b4 (o5+Int.toNat x11*26)) 43 (sA l6) 44 (sI i12) 45 (sB (decide (i12<0))) 46 (sB ((!(decide (i12<0)))))) 47 (sB ((!(decide (i12<0)))))) V0 h11))) (K (upd (w8 (w8 E 31 (sI x11) 32 (sI x12) 33 (sB (decide (x11≤x12))) 34 (sB false) 35 sU 36 sU 37 sU 38 sU) 39 sU 40 sU 41 sU 42 sU 43 sU 44 sU 45 sU 46 sU) 47 (sB false)) V0 hp)):=by subst h; kernel_rfl
def F155_l8 (x0a:OA) (x0n x0c:Nat) (x1:Int) (x4:Value) (x12:Int) (I3:(Int × Int)→HP→Prop) (K:Kh) (I8:(Int)→HP→Prop) (x11:Int) (hp:HP):Prop:=
  (ite2 (decide (x11≤x12)) ((0≤x1)∧(x1<x0n)∧(ptrN x0a fun b37 o38=>ldL (HP.cellN hp b37 (o38+Int.toNat x1*26) 26) fun l39=>(0≤x11)∧(x11<x0n)∧(ptrN x0a fun b40 o41=>ldL (HP.cellN hp b40 (o41+Int.toNat x11*26) 26) fun l42=>fnV x4 fun f43 ga_44 gb_45=>CF Tryd.prog f43 (ga_44++[(Value.agg ⟨l39⟩),(.agg ⟨l42⟩)]++gb_45) hp fun u46 h47=>intV u46 .i64 fun i48=>F155_j9 x0a x0n x0c x1 x4 x11 x12 (!(decide (i48<0))) h47 I3 I8 K))) (F155_j9 x0a x0n x0c x1 x4 x11 x12 false hp I3 I8 K))
def F155_l3 (x0a:OA) (x0n x0c:Nat) (x1:Int) (x4:Value) (K:Kh) (I3:(Int × Int)→HP→Prop) (x11 x12:Int) (hp:HP):Prop:=
  (LoopP (σ:=Int) (fun I s hp=>F155_l8 x0a x0n x0c x1 x4 x12 I3 K I s hp) x11 hp)
def F155_j1 (x0a:OA) (x0n x0c:Nat) (x1:Int) (x4:Value) (x11 x12:Int) (hp:HP) (K:Kh):Prop:=
  (LoopP (σ:=Int × Int) (fun I s hp=>F155_l3 x0a x0n x0c x1 x4  K I s.1 s.2 hp) (x11,x12) hp)
theorem F155_r11:R155 11 6 (w2 e 2 (sI x2) 1 (sI x1)) V0 hp K=
 K (w8 e 2 (sI x2) 1 (sI x1) 27 (sI x1) 28 (sI ((wr (x1+1)))) 29 (sI x2) 30 (sI ((wr (x2-1)))) 11 (sI ((wr (x1+1)))) 12 (sI ((wr (x2-1))))) V0 hp:= by kernel_rfl
def F155 (x0a:OA) (x0n x0c:Nat) (x1 x2 x3:Int) (x4:Value) (hp:HP) (K:Kh):Prop:=
  ((0≤x3)∧(x3<x0n)∧(ptrN x0a fun b1 o2=>ldL (HP.cellN hp b1 (o2+Int.toNat x3*26) 26) fun l3=>(0≤x1)∧(x1<x0n)∧(ptrN x0a fun b4 o5=>ldL (HP.cellN hp b4 (o5+Int.toNat x1*26) 26) fun l6=>(0≤x1)∧(x1<x0n)∧(ptrN x0a fun b7 o8=>(List.length l3=26)∧(HP.stN hp b7 (o8+Int.toNat x1*26) l3 fun h9=>(0≤x3)∧(x3<x0n)∧(ptrN x0a fun b10 o11=>(List.length l6=26)∧(HP.stN h9 b10 (o11+Int.toNat x3*26) l6 fun h12=>F155_j1 x0a x0n x0c x1 x4 (IntKind.wrap .i64 (x1+1)) (IntKind.wrap .i64 (x2-1)) h12  K)))))))
noncomputable abbrev o155 (k n:Nat):Code:=.region k (opsAt Tryd.f155 (pth n)) false
noncomputable def F155_code:Code:=(.seq (o155 0 2) (.seq (.region 1 (opsAt Tryd.f155 (pth 5)) true) (.seq (o155 2 11) (.seq (.block 0 (.loop (.block 1 (.seq (.block 2 (.loop (.seq (.seq (.region 3 (opsAt Tryd.f155 (pth 4103)) true) (.cond (.tmp 47) .skip (.exit 2))) (.block 3 (o155 4 5127))))) (.seq (.block 4 (.loop (.seq (.seq (.region 5 (opsAt Tryd.f155 (pth 8327)) true) (.cond (.tmp 65) .skip (.exit 4))) (.block 5 (o155 6 10375))))) (.seq (.seq (o155 7 2439) (.cond (.tmp 70) (.exit 0) .skip)) (.seq (.region 8 (opsAt Tryd.f155 (pth 2951)) true) (.seq (o155 9 6023) (o155 10 8071))))))))) (.seq (o155 11 47) .ret)))))
theorem F155_body:Tryd.f155.body=some F155_code:=by kernel_rfl
theorem F155_ok (x0a:OA) (x0n x0c:Nat) (x1 x2 x3:Int) (x4:Value) (hp:HP) (K:Kh) (h:F155 x0a x0n x0c x1 x2 x3 x4 hp K):CF Tryd.prog 155 [(.slice x0a x0n x0c),(.int .i64 x1),(.int .i64 x2),(.int .i64 x3),x4] hp K:=by
 refine .inl ⟨by kernel_rfl,AC.intro (N:=90) Tryd.func155 F155_body rfl (Nat.le_of_ble_eq_true rfl) ?_⟩
 unfold F155 at h
 refine Ar F155_r0 ?_ (r5 0 1 2 3 4 Rn) (z5 Sn) Sn
 refine Aq (AWP.rgnD (by kernel_rfl) (by kernel_rfl) (F155_r1 rfl) ?_ (r5 0 1 3 2 4 Rn) (z5 Sn) Sn)
 refine ⟨h.1,h.2.1,mN h.2.2 (fun b1 o2 h=>mL h (fun l3 h=>⟨h.1,h.2.1,mN h.2.2 (fun b4 o5 h=>mL h (fun l6 h=>⟨h.1,h.2.1,mN h.2.2 (fun b7 o8 h=>⟨h.1,mW h.2 (fun h9 h=>⟨h.1,h.2.1,mN h.2.2 (fun b10 o11 h=>⟨h.1,mW h.2 fun h12 h=>?_⟩)⟩)⟩)⟩))⟩))⟩
 refine As (fun env pv hp=>∃ x0a x0n x0c x1 x4 x11 x12,Sub (w5 E0 12 (sI x12) 11 (sI x11) 4 (sV x4) 1 (sI x1) 0 (sS x0a x0n x0c)) env∧Sub V0 pv∧F155_j1 x0a x0n x0c x1 x4 x11 x12 hp  K) ?_ ?_
 ·refine Ag F155_r11 ?_ (r4 1 2 0 4 Rn) (z4 Sn) Sn
  exact ⟨_,_,_,_,_,_,_,(z5 Sn),Sn,h⟩
 ·rintro env pv hp ⟨x0a,x0n,x0c,x1,x4,x11,x12,he,hv,h⟩
  refine Ae ?_ (r5 0 1 4 11 12 Rn) he hv
  unfold F155_j1 at h
  refine As (fun env pv hp=>∃ x11,Sub (upd E0 11 (sI x11)) env∧Sub V0 pv∧F155_j2 x11 hp  K) ?_ ?_
  ·refine AWP.block (AWP.loop (σ:=Int × Int) _ (fun s=>w5 E0 12 (sI (s.2)) 11 (sI (s.1)) 4 (sV x4) 1 (sI x1) 0 (sS x0a x0n x0c)) (fun s=>V0) (x11,x12) h (fun s=>r5 0 1 4 11 12 Rn) (z5 Sn) Sn ?_)
   intro I3 s hp h
   obtain ⟨x11,x12⟩:=s
   replace h:F155_l3 x0a x0n x0c x1 x4  K I3 x11 x12 hp:=h
   unfold F155_l3 at h
   refine AWP.block (As (fun env pv hp=>∃ x11 x12,Sub (w5 E0 12 (sI x12) 11 (sI x11) 4 (sV x4) 1 (sI x1) 0 (sS x0a x0n x0c)) env∧Sub V0 pv∧F155_j4 x0a x0n x0c x1 x4 x11 x12 hp I3 K) ?_ ?_)
   ·refine AWP.block (AWP.loop (σ:=Int) _ (fun s=>w5 E0 12 (sI x12) 11 (sI s) 4 (sV x4) 1 (sI x1) 0 (sS x0a x0n x0c)) (fun s=>V0) x11 h (fun s=>r5 0 1 4 11 12 Rn) (z5 Sn) Sn ?_)
    intro I8 x11 hp h
    replace h:F155_l8 x0a x0n x0c x1 x4 x12 I3 K I8 x11 hp:=h
    unfold F155_l8 at h
    refine Aq (As (fun env pv hp=>∃ x11 x47,Sub (w6 E0 47 (sB x47) 12 (sI x12) 11 (sI x11) 4 (sV x4) 1 (sI x1) 0 (sS x0a x0n x0c)) env∧Sub V0 pv∧F155_j9 x0a x0n x0c x1 x4 x11 x12 x47 hp I3 I8 K) ?_ ?_)
    ·refine AWP.rgnD (by kernel_rfl) (by kernel_rfl) (F155_r10 rfl) ?_ (r5 0 1 4 11 12 Rn) (z5 Sn) Sn
     refine mt h (fun h=>?_) (fun h=>?_)
     ·refine ⟨h.1,h.2.1,mN h.2.2 (fun b37 o38 h=>mL h (fun l39 h=>⟨h.1,h.2.1,mN h.2.2 fun b40 o41 h=>mL h fun l42 h=>mF h fun f43 ga_44 gb_45 h=>mC h fun u46 h47 h=>mI h fun i48 h=>?_⟩))⟩
      exact ⟨_,_,(z6 Sn),Sn,h⟩
     ·exact ⟨_,_,(z6 Sn),Sn,h⟩
    ·rintro env pv hp ⟨x11,x47,he,hv,h⟩
     refine Ae ?_ (r6 0 1 4 11 12 47 Rn) he hv
     unfold F155_j9 at h
     refine Ac h rfl (fun h=>?_) (fun h=>?_)
     ·refine AWP.skip (AWP.block (Ag F155_r9 ?_ (r5 11 0 1 4 12 Rn) (z5 Sn) Sn))
      exact ⟨_,(z5 Sn),Sn,h⟩
     ·refine AWP.exit ?_
      exact ⟨_,_,(z5 Sn),Sn,h⟩
   ·rintro env pv hp ⟨x11,x12,he,hv,h⟩
    refine Ae ?_ (r5 0 1 4 11 12 Rn) he hv
    unfold F155_j4 at h
    refine As (fun env pv hp=>∃ x11 x12,Sub (w5 E0 12 (sI x12) 11 (sI x11) 4 (sV x4) 1 (sI x1) 0 (sS x0a x0n x0c)) env∧Sub V0 pv∧F155_j5 x0a x0n x0c x1 x4 x11 x12 hp I3 K) ?_ ?_
    ·refine AWP.block (AWP.loop (σ:=Int) _ (fun s=>w5 E0 12 (sI s) 11 (sI x11) 4 (sV x4) 1 (sI x1) 0 (sS x0a x0n x0c)) (fun s=>V0) x12 h (fun s=>r5 0 1 4 11 12 Rn) (z5 Sn) Sn ?_)
     intro I6 x12 hp h
     replace h:F155_l6 x0a x0n x0c x1 x4 x11 I3 K I6 x12 hp:=h
     unfold F155_l6 at h
     refine Aq (As (fun env pv hp=>∃ x12 x65,Sub (w6 E0 65 (sB x65) 12 (sI x12) 11 (sI x11) 4 (sV x4) 1 (sI x1) 0 (sS x0a x0n x0c)) env∧Sub V0 pv∧F155_j7 x0a x0n x0c x1 x4 x11 x12 x65 hp I3 I6 K) ?_ ?_)
     ·refine AWP.rgnD (by kernel_rfl) (by kernel_rfl) (F155_r8 rfl) ?_ (r5 0 1 4 11 12 Rn) (z5 Sn) Sn
      refine mt h (fun h=>?_) (fun h=>?_)
      ·refine ⟨h.1,h.2.1,mN h.2.2 (fun b25 o26 h=>mL h (fun l27 h=>⟨h.1,h.2.1,mN h.2.2 fun b28 o29 h=>mL h fun l30 h=>mF h fun f31 ga_32 gb_33 h=>mC h fun u34 h35 h=>mI h fun i36 h=>?_⟩))⟩
       exact ⟨_,_,(z6 Sn),Sn,h⟩
      ·exact ⟨_,_,(z6 Sn),Sn,h⟩
     ·rintro env pv hp ⟨x12,x65,he,hv,h⟩
      refine Ae ?_ (r6 0 1 4 11 12 65 Rn) he hv
      unfold F155_j7 at h
      refine Ac h rfl (fun h=>?_) (fun h=>?_)
      ·refine AWP.skip (AWP.block (Ag F155_r7 ?_ (r5 12 0 1 4 11 Rn) (z5 Sn) Sn))
       exact ⟨_,(z5 Sn),Sn,h⟩
      ·refine AWP.exit ?_
       exact ⟨_,_,(z5 Sn),Sn,h⟩
    ·rintro env pv hp ⟨x11,x12,he,hv,h⟩
     refine Ae ?_ (r5 0 1 4 11 12 Rn) he hv
     unfold F155_j5 at h
     refine Aq (Ar F155_r3 ?_ (r5 11 12 0 1 4 Rn) (z5 Sn) Sn)
     refine Ac h rfl (fun h=>?_) (fun h=>?_)
     ·refine AWP.exit ?_
      exact ⟨_,(z1 Sn),Sn,h⟩
     ·refine AWP.skip (Aq (AWP.rgnD (by kernel_rfl) (by kernel_rfl) (F155_r4 rfl) ?_ (r5 0 11 12 1 4 Rn) (z5 Sn) Sn))
      refine ⟨h.1,h.2.1,mN h.2.2 (fun b13 o14 h=>mL h (fun l15 h=>⟨h.1,h.2.1,mN h.2.2 (fun b16 o17 h=>mL h (fun l18 h=>⟨h.1,h.2.1,mN h.2.2 (fun b19 o20 h=>⟨h.1,mW h.2 (fun h21 h=>⟨h.1,h.2.1,mN h.2.2 (fun b22 o23 h=>⟨h.1,mW h.2 fun h24 h=>?_⟩)⟩)⟩)⟩))⟩))⟩
      refine Ar F155_r5 ?_ (r5 11 0 1 4 12 Rn) (z5 Sn) Sn
      refine Ag F155_r6 ?_ (r5 12 0 1 4 11 Rn) (z5 Sn) Sn
      exact ⟨_,(z5 Sn),Sn,h⟩
  ·rintro env pv hp ⟨x11,he,hv,h⟩
   refine Ae ?_ (r1 11 Rn) he hv
   unfold F155_j2 at h
   refine Ar F155_r2 ?_ (r1 11 Rn) (z1 Sn) Sn
   refine AWP.ret ?_
   exact h
end
section
variable {e E:Env} {x0a:OA} {x0n x0c:Nat} {x1 x2 x3:Int} {x4:Value} {x12 x13:Int} {hp:HP} {K:Env→PV→HP→Prop}
abbrev R156 (p n:Nat):=RW Tryd.prog 178 [] (opsAt Tryd.f156 (pth p)) (List.range n)
theorem F156_r0:R156 2 2 e V0 hp K=
 K (w2 e 10 (sI 0) 11 (sB false)) V0 hp:= by kernel_rfl
theorem F156_r1 (h:E=upd (w2 e 3 (sI x3) 1 (sI x1)) 0 (sS x0a x0n x0c)):R156 5 16 E V0 hp K=
    ((0≤x3)∧(x3<x0n)∧(ptrN x0a fun b1 o2=>ldL (HP.cellN hp b1 (o2+Int.toNat x3*26) 26) fun l3=>(0≤x1)∧(x1<x0n)∧(ptrN x0a fun b4 o5=>ldL (HP.cellN hp b4 (o5+Int.toNat x1*26) 26) fun l6=>(0≤x1)∧(x1<x0n)∧(ptrN x0a fun b7 o8=>(List.length l3=26)∧(HP.stN hp b7 (o8+Int.toNat x1*26) l3 fun h9=>(0≤x3)∧(x3<x0n)∧(ptrN x0a fun b10 o11=>(List.length l6=26)∧(HP.stN h9 b10 (o11+Int.toNat x3*26) l6 fun h12=>K (w6 (w8 E 14 (sS x0a x0n x0c) 15 (sI x1) 16 (sS x0a x0n x0c) 17 (sI x3) 18 (sS x0a x0n x0c) 19 (sI x3) 20 (sQ b1 (o2+Int.toNat x3*26)) 21 (sA l3)) 22 (sS x0a x0n x0c) 23 (sI x1) 24 (sQ b4 (o5+Int.toNat x1*26)) 25 (sA l6) 26 (sQ b7 (o8+Int.toNat x1*26)) 27 (sQ b10 (o11+Int.toNat x3*26))) V0 h12))))))):=by subst h; kernel_rfl
theorem F156_r2:R156 159 3 (w2 e 13 (sI x13) 12 (sI x12)) V0 hp K=
 K (w5 e 13 (sI x13) 12 (sI x12) 69 (sI x12) 70 (sI x13) 71 (sB (decide (x12 > x13)))) V0 hp:= by kernel_rfl
theorem F156_r3 (h:E=upd (w2 e 13 (sI x13) 1 (sI x1)) 0 (sS x0a x0n x0c)):R156 607 16 E V0 hp K=
    ((0≤x1)∧(x1<x0n)∧(ptrN x0a fun b1 o2=>ldL (HP.cellN hp b1 (o2+Int.toNat x1*26) 26) fun l3=>(0≤x13)∧(x13<x0n)∧(ptrN x0a fun b4 o5=>ldL (HP.cellN hp b4 (o5+Int.toNat x13*26) 26) fun l6=>(0≤x13)∧(x13<x0n)∧(ptrN x0a fun b7 o8=>(List.length l3=26)∧(HP.stN hp b7 (o8+Int.toNat x13*26) l3 fun h9=>(0≤x1)∧(x1<x0n)∧(ptrN x0a fun b10 o11=>(List.length l6=26)∧(HP.stN h9 b10 (o11+Int.toNat x1*26) l6 fun h12=>K (w6 (w8 E 72 (sS x0a x0n x0c) 73 (sI x13) 74 (sS x0a x0n x0c) 75 (sI x1) 76 (sS x0a x0n x0c) 77 (sI x1) 78 (sQ b1 (o2+Int.toNat x1*26)) 79 (sA l3)) 80 (sS x0a x0n x0c) 81 (sI x13) 82 (sQ b4 (o5+Int.toNat x13*26)) 83 (sA l6) 84 (sQ b7 (o8+Int.toNat x13*26)) 85 (sQ b10 (o11+Int.toNat x1*26))) V0 h12))))))):=by subst h; kernel_rfl
theorem F156_r4:R156 1375 3 (upd e 13 (sI x13)) V0 hp K=
 K (w4 e 13 (sI x13) 86 (sI x13) 10 (sI x13) 11 (sB true)) V0 hp:= by kernel_rfl
theorem F156_r5 (h:E=upd (w2 e 13 (sI x13) 12 (sI x12)) 0 (sS x0a x0n x0c)):R156 191 16 E V0 hp K=
    ((0≤x13)∧(x13<x0n)∧(ptrN x0a fun b1 o2=>ldL (HP.cellN hp b1 (o2+Int.toNat x13*26) 26) fun l3=>(0≤x12)∧(x12<x0n)∧(ptrN x0a fun b4 o5=>ldL (HP.cellN hp b4 (o5+Int.toNat x12*26) 26) fun l6=>(0≤x12)∧(x12<x0n)∧(ptrN x0a fun b7 o8=>(List.length l3=26)∧(HP.stN hp b7 (o8+Int.toNat x12*26) l3 fun h9=>(0≤x13)∧(x13<x0n)∧(ptrN x0a fun b10 o11=>(List.length l6=26)∧(HP.stN h9 b10 (o11+Int.toNat x13*26) l6 fun h12=>K (w6 (w8 E 87 (sS x0a x0n x0c) 88 (sI x12) 89 (sS x0a x0n x0c) 90 (sI x13) 91 (sS x0a x0n x0c) 92 (sI x13) 93 (sQ b1 (o2+Int.toNat x13*26)) 94 (sA l3)) 95 (sS x0a x0n x0c) 96 (sI x12) 97 (sQ b4 (o5+Int.toNat x12*26)) 98 (sA l6) 99 (sQ b7 (o8+Int.toNat x12*26)) 100 (sQ b10 (o11+Int.toNat x13*26))) V0 h12))))))):=by subst h; kernel_rfl
theorem F156_r6:R156 383 3 (upd e 12 (sI x12)) V0 hp K=
 K (w4 e 12 (sI x12) 101 (sI x12) 102 (sI ((wr (x12+1)))) 12 (sI ((wr (x12+1))))) V0 hp:= by kernel_rfl
theorem F156_r7 (h:E=upd (w2 e 13 (sI x13) 1 (sI x1)) 0 (sS x0a x0n x0c)):R156 3071 16 E V0 hp K=
    ((0≤x1)∧(x1<x0n)∧(ptrN x0a fun b1 o2=>ldL (HP.cellN hp b1 (o2+Int.toNat x1*26) 26) fun l3=>(0≤x13)∧(x13<x0n)∧(ptrN x0a fun b4 o5=>ldL (HP.cellN hp b4 (o5+Int.toNat x13*26) 26) fun l6=>(0≤x13)∧(x13<x0n)∧(ptrN x0a fun b7 o8=>(List.length l3=26)∧(HP.stN hp b7 (o8+Int.toNat x13*26) l3 fun h9=>(0≤x1)∧(x1<x0n)∧(ptrN x0a fun b10 o11=>(List.length l6=26)∧(HP.stN h9 b10 (o11+Int.toNat x1*26) l6 fun h12=>K (w6 (w8 E 163 (sS x0a x0n x0c) 164 (sI x13) 165 (sS x0a x0n x0c) 166 (sI x1) 167 (sS x0a x0n x0c) 168 (sI x1) 169 (sQ b1 (o2+Int.toNat x1*26)) 170 (sA l3)) 171 (sS x0a x0n x0c) 172 (sI x13) 173 (sQ b4 (o5+Int.toNat x13*26)) 174 (sA l6) 175 (sQ b7 (o8+Int.toNat x13*26)) 176 (sQ b10 (o11+Int.toNat x1*26))) V0 h12))))))):=by subst h; kernel_rfl
theorem F156_r8:R156 6143 3 (upd e 13 (sI x13)) V0 hp K=
 K (w4 e 13 (sI x13) 177 (sI x13) 10 (sI x13) 11 (sB false)) V0 hp:= by kernel_rfl
def F156_j5 (x0a:OA) (x0n x0c:Nat) (x1 x13:Int) (hp:HP) (K:Kh):Prop:=
  ((0≤x1)∧(x1<x0n)∧(ptrN x0a fun b37 o38=>ldL (HP.cellN hp b37 (o38+Int.toNat x1*26) 26) fun l39=>(0≤x13)∧(x13<x0n)∧(ptrN x0a fun b40 o41=>ldL (HP.cellN hp b40 (o41+Int.toNat x13*26) 26) fun l42=>(0≤x13)∧(x13<x0n)∧(ptrN x0a fun b43 o44=>(List.length l39=26)∧(HP.stN hp b43 (o44+Int.toNat x13*26) l39 fun h45=>(0≤x1)∧(x1<x0n)∧(ptrN x0a fun b46 o47=>(List.length l42=26)∧(HP.stN h45 b46 (o47+Int.toNat x1*26) l42 fun h48=>K (.tuple ⟨[(.int .i64 x13),.bool false]⟩) h48)))))))
theorem F156_r9:R156 156159 3 (w2 e 13 (sI x13) 12 (sI x12)) V0 hp K=
 K (w5 e 13 (sI x13) 12 (sI x12) 142 (sI x12) 143 (sI x13) 144 (sB (decide (x12 > x13)))) V0 hp:= by kernel_rfl
theorem F156_r10 (h:E=upd (w2 e 13 (sI x13) 12 (sI x12)) 0 (sS x0a x0n x0c)):R156 188927 16 E V0 hp K=
    ((0≤x13)∧(x13<x0n)∧(ptrN x0a fun b1 o2=>ldL (HP.cellN hp b1 (o2+Int.toNat x13*26) 26) fun l3=>(0≤x12)∧(x12<x0n)∧(ptrN x0a fun b4 o5=>ldL (HP.cellN hp b4 (o5+Int.toNat x12*26) 26) fun l6=>(0≤x12)∧(x12<x0n)∧(ptrN x0a fun b7 o8=>(List.length l3=26)∧(HP.stN hp b7 (o8+Int.toNat x12*26) l3 fun h9=>(0≤x13)∧(x13<x0n)∧(ptrN x0a fun b10 o11=>(List.length l6=26)∧(HP.stN h9 b10 (o11+Int.toNat x13*26) l6 fun h12=>K (w6 (w8 E 145 (sS x0a x0n x0c) 146 (sI x12) 147 (sS x0a x0n x0c) 148 (sI x13) 149 (sS x0a x0n x0c) 150 (sI x13) 151 (sQ b1 (o2+Int.toNat x13*26)) 152 (sA l3)) 153 (sS x0a x0n x0c) 154 (sI x12) 155 (sQ b4 (o5+Int.toNat x12*26)) 156 (sA l6) 157 (sQ b7 (o8+Int.toNat x12*26)) 158 (sQ b10 (o11+Int.toNat x13*26))) V0 h12))))))):=by subst h; kernel_rfl
theorem F156_r11:R156 385535 3 (upd e 12 (sI x12)) V0 hp K=
 K (w4 e 12 (sI x12) 159 (sI x12) 160 (sI ((wr (x12+1)))) 12 (sI ((wr (x12+1))))) V0 hp:= by kernel_rfl
theorem F156_r12:R156 516607 3 (upd e 13 (sI x13)) V0 hp K=
 K (w4 e 13 (sI x13) 161 (sI x13) 162 (sI ((wr (x13-1)))) 13 (sI ((wr (x13-1))))) V0 hp:= by kernel_rfl
def F156_j8 (x0a:OA) (x0n x0c:Nat) (x1:Int) (x4:Value) (x12 x13:Int) (hp:HP) (I6:(Int × Int)→HP→Prop) (K:Kh):Prop:=
  (ite2 (decide (x12 > x13)) (F156_j5 x0a x0n x0c x1 x13 hp  K) ((0≤x13)∧(x13<x0n)∧(ptrN x0a fun b49 o50=>ldL (HP.cellN hp b49 (o50+Int.toNat x13*26) 26) fun l51=>(0≤x12)∧(x12<x0n)∧(ptrN x0a fun b52 o53=>ldL (HP.cellN hp b52 (o53+Int.toNat x12*26) 26) fun l54=>(0≤x12)∧(x12<x0n)∧(ptrN x0a fun b55 o56=>(List.length l51=26)∧(HP.stN hp b55 (o56+Int.toNat x12*26) l51 fun h57=>(0≤x13)∧(x13<x0n)∧(ptrN x0a fun b58 o59=>(List.length l54=26)∧(HP.stN h57 b58 (o59+Int.toNat x13*26) l54 fun h60=>I6 ((IntKind.wrap .i64 (x12+1)),(IntKind.wrap .i64 (x13-1))) h60))))))))
theorem F156_r13:R156 664063 3 (upd e 13 (sI x13)) V0 hp K=
 K (w4 e 13 (sI x13) 140 (sI x13) 141 (sI ((wr (x13-1)))) 13 (sI ((wr (x13-1))))) V0 hp:= by kernel_rfl
def F156_j10 (x0a:OA) (x0n x0c:Nat) (x1:Int) (x4:Value) (x12 x13:Int) (x139:Bool) (hp:HP) (I6:(Int × Int)→HP→Prop) (I9:(Int)→HP→Prop) (K:Kh):Prop:=
  (ite2 x139 (I9 (IntKind.wrap .i64 (x13-1)) hp) (F156_j8 x0a x0n x0c x1 x4 x12 x13 hp I6 K))
theorem F156_r14 (h:E=upd (w4 e 13 (sI x13) 12 (sI x12) 4 (sV x4) 1 (sI x1)) 0 (sS x0a x0n x0c)):R156 532991 17 E V0 hp K=
    (ite2 (decide (x12≤x13)) ((0≤x13)∧(x13<x0n)∧(ptrN x0a fun b1 o2=>ldL (HP.cellN hp b1 (o2+Int.toNat x13*26) 26) fun l3=>(0≤x1)∧(x1<x0n)∧(ptrN x0a fun b4 o5=>ldL (HP.cellN hp b4 (o5+Int.toNat x1*26) 26) fun l6=>fnV x4 fun f7 ga8 gb9=>CF Tryd.prog f7 (ga8++[(Value.agg ⟨l3⟩),(.agg ⟨l6⟩)]++gb9) hp fun u10 h11=>intV u10 .i64 fun i12=>K (upd (w8 (w8 E 123 (sI x12) 124 (sI x13) 125 (sB (decide (x12≤x13))) 126 (sB true) 127 (sV x4) 128 (sS x0a x0n x0c) 129 (sI x13) 130 (sQ b1 (o2+Int.toNat x13*26))) 131 (sA l3) 132 (sS x0a x0n x0c) 133 (sI x1) 134 (sQ b4 (o5+Int.toNat x1*26)) 135 (sA l6) 136 (sI i12) 137 (sB (decide (i12<0))) 138 (sB ((!(decide (i12<0)))))) 139 (sB ((!(decide (i12<0)))))) V0 h11))) (K (upd (w8 (w8 E 123 (sI x12) 124 (sI x13) 125 (sB (decide (x12≤x13))) 126 (sB false) 127 sU 128 sU 129 sU 130 sU) 131 sU 132 sU 133 sU 134 sU 135 sU 136 sU 137 sU 138 sU) 139 (sB false)) V0 hp)):=by subst h; kernel_rfl
def F156_l9 (x0a:OA) (x0n x0c:Nat) (x1:Int) (x4:Value) (x12:Int) (I6:(Int × Int)→HP→Prop) (K:Kh) (I9:(Int)→HP→Prop) (x13:Int) (hp:HP):Prop:=
  (ite2 (decide (x12≤x13)) ((0≤x13)∧(x13<x0n)∧(ptrN x0a fun b61 o62=>ldL (HP.cellN hp b61 (o62+Int.toNat x13*26) 26) fun l63=>(0≤x1)∧(x1<x0n)∧(ptrN x0a fun b64 o65=>ldL (HP.cellN hp b64 (o65+Int.toNat x1*26) 26) fun l66=>fnV x4 fun f67 ga_68 gb_69=>CF Tryd.prog f67 (ga_68++[(Value.agg ⟨l63⟩),(.agg ⟨l66⟩)]++gb_69) hp fun u70 h71=>intV u70 .i64 fun i72=>F156_j10 x0a x0n x0c x1 x4 x12 x13 (!(decide (i72<0))) h71 I6 I9 K))) (F156_j10 x0a x0n x0c x1 x4 x12 x13 false hp I6 I9 K))
def F156_j7 (x0a:OA) (x0n x0c:Nat) (x1:Int) (x4:Value) (x12 x13:Int) (hp:HP) (I6:(Int × Int)→HP→Prop) (K:Kh):Prop:=
  (LoopP (σ:=Int) (fun I s hp=>F156_l9 x0a x0n x0c x1 x4 x12 I6 K I s hp) x13 hp)
theorem F156_r15:R156 328191 3 (upd e 12 (sI x12)) V0 hp K=
 K (w4 e 12 (sI x12) 121 (sI x12) 122 (sI ((wr (x12+1)))) 12 (sI ((wr (x12+1))))) V0 hp:= by kernel_rfl
def F156_j12 (x0a:OA) (x0n x0c:Nat) (x1:Int) (x4:Value) (x12 x13:Int) (x120:Bool) (hp:HP) (I6:(Int × Int)→HP→Prop) (I11:(Int)→HP→Prop) (K:Kh):Prop:=
  (ite2 x120 (I11 (IntKind.wrap .i64 (x12+1)) hp) (F156_j7 x0a x0n x0c x1 x4 x12 x13 hp I6 K))
theorem F156_r16 (h:E=upd (w4 e 13 (sI x13) 12 (sI x12) 4 (sV x4) 1 (sI x1)) 0 (sS x0a x0n x0c)):R156 262655 16 E V0 hp K=
    (ite2 (decide (x12≤x13)) ((0≤x12)∧(x12<x0n)∧(ptrN x0a fun b1 o2=>ldL (HP.cellN hp b1 (o2+Int.toNat x12*26) 26) fun l3=>(0≤x1)∧(x1<x0n)∧(ptrN x0a fun b4 o5=>ldL (HP.cellN hp b4 (o5+Int.toNat x1*26) 26) fun l6=>fnV x4 fun f7 ga8 gb9=>CF Tryd.prog f7 (ga8++[(Value.agg ⟨l3⟩),(.agg ⟨l6⟩)]++gb9) hp fun u10 h11=>intV u10 .i64 fun i12=>K (w8 (w8 E 105 (sI x12) 106 (sI x13) 107 (sB (decide (x12≤x13))) 108 (sB true) 109 (sV x4) 110 (sS x0a x0n x0c) 111 (sI x12) 112 (sQ b1 (o2+Int.toNat x12*26))) 113 (sA l3) 114 (sS x0a x0n x0c) 115 (sI x1) 116 (sQ b4 (o5+Int.toNat x1*26)) 117 (sA l6) 118 (sI i12) 119 (sB (decide (i12<0))) 120 (sB (decide (i12<0)))) V0 h11))) (K (w8 (w8 E 105 (sI x12) 106 (sI x13) 107 (sB (decide (x12≤x13))) 108 (sB false) 109 sU 110 sU 111 sU 112 sU) 113 sU 114 sU 115 sU 116 sU 117 sU 118 sU 119 sU 120 (sB false)) V0 hp)):=by subst h; kernel_rfl
def F156_l11 (x0a:OA) (x0n x0c:Nat) (x1:Int) (x4:Value) (x13:Int) (I6:(Int × Int)→HP→Prop) (K:Kh) (I11:(Int)→HP→Prop) (x12:Int) (hp:HP):Prop:=
  (ite2 (decide (x12≤x13)) ((0≤x12)∧(x12<x0n)∧(ptrN x0a fun b73 o74=>ldL (HP.cellN hp b73 (o74+Int.toNat x12*26) 26) fun l75=>(0≤x1)∧(x1<x0n)∧(ptrN x0a fun b76 o77=>ldL (HP.cellN hp b76 (o77+Int.toNat x1*26) 26) fun l78=>fnV x4 fun f79 ga_80 gb_81=>CF Tryd.prog f79 (ga_80++[(Value.agg ⟨l75⟩),(.agg ⟨l78⟩)]++gb_81) hp fun u82 h83=>intV u82 .i64 fun i84=>F156_j12 x0a x0n x0c x1 x4 x12 x13 (decide (i84<0)) h83 I6 I11 K))) (F156_j12 x0a x0n x0c x1 x4 x12 x13 false hp I6 I11 K))
def F156_l6 (x0a:OA) (x0n x0c:Nat) (x1:Int) (x4:Value) (K:Kh) (I6:(Int × Int)→HP→Prop) (x12 x13:Int) (hp:HP):Prop:=
  (LoopP (σ:=Int) (fun I s hp=>F156_l11 x0a x0n x0c x1 x4 x13 I6 K I s hp) x12 hp)
def F156_j4 (x0a:OA) (x0n x0c:Nat) (x1:Int) (x4:Value) (x12 x13:Int) (hp:HP) (K:Kh):Prop:=
  (LoopP (σ:=Int × Int) (fun I s hp=>F156_l6 x0a x0n x0c x1 x4  K I s.1 s.2 hp) (x12,x13) hp)
theorem F156_r17:R156 767 3 (upd e 13 (sI x13)) V0 hp K=
 K (w4 e 13 (sI x13) 103 (sI x13) 104 (sI ((wr (x13-1)))) 13 (sI ((wr (x13-1))))) V0 hp:= by kernel_rfl
def F156_j3 (x0a:OA) (x0n x0c:Nat) (x1:Int) (x4:Value) (x12 x13:Int) (hp:HP) (K:Kh):Prop:=
  (ite2 (decide (x12 > x13)) ((0≤x1)∧(x1<x0n)∧(ptrN x0a fun b13 o14=>ldL (HP.cellN hp b13 (o14+Int.toNat x1*26) 26) fun l15=>(0≤x13)∧(x13<x0n)∧(ptrN x0a fun b16 o17=>ldL (HP.cellN hp b16 (o17+Int.toNat x13*26) 26) fun l18=>(0≤x13)∧(x13<x0n)∧(ptrN x0a fun b19 o20=>(List.length l15=26)∧(HP.stN hp b19 (o20+Int.toNat x13*26) l15 fun h21=>(0≤x1)∧(x1<x0n)∧(ptrN x0a fun b22 o23=>(List.length l18=26)∧(HP.stN h21 b22 (o23+Int.toNat x1*26) l18 fun h24=>K (.tuple ⟨[(.int .i64 x13),(.bool true)]⟩) h24))))))) ((0≤x13)∧(x13<x0n)∧(ptrN x0a fun b25 o26=>ldL (HP.cellN hp b25 (o26+Int.toNat x13*26) 26) fun l27=>(0≤x12)∧(x12<x0n)∧(ptrN x0a fun b28 o29=>ldL (HP.cellN hp b28 (o29+Int.toNat x12*26) 26) fun l30=>(0≤x12)∧(x12<x0n)∧(ptrN x0a fun b31 o32=>(List.length l27=26)∧(HP.stN hp b31 (o32+Int.toNat x12*26) l27 fun h33=>(0≤x13)∧(x13<x0n)∧(ptrN x0a fun b34 o35=>(List.length l30=26)∧(HP.stN h33 b34 (o35+Int.toNat x13*26) l30 fun h36=>F156_j4 x0a x0n x0c x1 x4 (IntKind.wrap .i64 (x12+1)) (IntKind.wrap .i64 (x13-1)) h36  K))))))))
theorem F156_r18:R156 655 3 (upd e 13 (sI x13)) V0 hp K=
 K (w4 e 13 (sI x13) 67 (sI x13) 68 (sI ((wr (x13-1)))) 13 (sI ((wr (x13-1))))) V0 hp:= by kernel_rfl
def F156_j14 (x0a:OA) (x0n x0c:Nat) (x1:Int) (x4:Value) (x12 x13:Int) (x66:Bool) (hp:HP) (I13:(Int)→HP→Prop) (K:Kh):Prop:=
  (ite2 x66 (I13 (IntKind.wrap .i64 (x13-1)) hp) (F156_j3 x0a x0n x0c x1 x4 x12 x13 hp  K))
theorem F156_r19 (h:E=upd (w4 e 13 (sI x13) 12 (sI x12) 4 (sV x4) 1 (sI x1)) 0 (sS x0a x0n x0c)):R156 527 17 E V0 hp K=
    (ite2 (decide (x12≤x13)) ((0≤x13)∧(x13<x0n)∧(ptrN x0a fun b1 o2=>ldL (HP.cellN hp b1 (o2+Int.toNat x13*26) 26) fun l3=>(0≤x1)∧(x1<x0n)∧(ptrN x0a fun b4 o5=>ldL (HP.cellN hp b4 (o5+Int.toNat x1*26) 26) fun l6=>fnV x4 fun f7 ga8 gb9=>CF Tryd.prog f7 (ga8++[(Value.agg ⟨l3⟩),(.agg ⟨l6⟩)]++gb9) hp fun u10 h11=>intV u10 .i64 fun i12=>K (upd (w8 (w8 E 50 (sI x12) 51 (sI x13) 52 (sB (decide (x12≤x13))) 53 (sB true) 54 (sV x4) 55 (sS x0a x0n x0c) 56 (sI x13) 57 (sQ b1 (o2+Int.toNat x13*26))) 58 (sA l3) 59 (sS x0a x0n x0c) 60 (sI x1) 61 (sQ b4 (o5+Int.toNat x1*26)) 62 (sA l6) 63 (sI i12) 64 (sB (decide (i12<0))) 65 (sB ((!(decide (i12<0)))))) 66 (sB ((!(decide (i12<0)))))) V0 h11))) (K (upd (w8 (w8 E 50 (sI x12) 51 (sI x13) 52 (sB (decide (x12≤x13))) 53 (sB false) 54 sU 55 sU 56 sU 57 sU) 58 sU 59 sU 60 sU 61 sU 62 sU 63 sU 64 sU 65 sU) 66 (sB false)) V0 hp)):=by subst h; kernel_rfl
def F156_l13 (x0a:OA) (x0n x0c:Nat) (x1:Int) (x4:Value) (x12:Int) (K:Kh) (I13:(Int)→HP→Prop) (x13:Int) (hp:HP):Prop:=
  (ite2 (decide (x12≤x13)) ((0≤x13)∧(x13<x0n)∧(ptrN x0a fun b85 o86=>ldL (HP.cellN hp b85 (o86+Int.toNat x13*26) 26) fun l87=>(0≤x1)∧(x1<x0n)∧(ptrN x0a fun b88 o89=>ldL (HP.cellN hp b88 (o89+Int.toNat x1*26) 26) fun l90=>fnV x4 fun f91 ga_92 gb_93=>CF Tryd.prog f91 (ga_92++[(Value.agg ⟨l87⟩),(.agg ⟨l90⟩)]++gb_93) hp fun u94 h95=>intV u94 .i64 fun i96=>F156_j14 x0a x0n x0c x1 x4 x12 x13 (!(decide (i96<0))) h95 I13 K))) (F156_j14 x0a x0n x0c x1 x4 x12 x13 false hp I13 K))
def F156_j2 (x0a:OA) (x0n x0c:Nat) (x1:Int) (x4:Value) (x12 x13:Int) (hp:HP) (K:Kh):Prop:=
  (LoopP (σ:=Int) (fun I s hp=>F156_l13 x0a x0n x0c x1 x4 x12  K I s hp) x13 hp)
theorem F156_r20:R156 327 3 (upd e 12 (sI x12)) V0 hp K=
 K (w4 e 12 (sI x12) 48 (sI x12) 49 (sI ((wr (x12+1)))) 12 (sI ((wr (x12+1))))) V0 hp:= by kernel_rfl
def F156_j16 (x0a:OA) (x0n x0c:Nat) (x1:Int) (x4:Value) (x12 x13:Int) (x47:Bool) (hp:HP) (I15:(Int)→HP→Prop) (K:Kh):Prop:=
  (ite2 x47 (I15 (IntKind.wrap .i64 (x12+1)) hp) (F156_j2 x0a x0n x0c x1 x4 x12 x13 hp  K))
theorem F156_r21 (h:E=upd (w4 e 13 (sI x13) 12 (sI x12) 4 (sV x4) 1 (sI x1)) 0 (sS x0a x0n x0c)):R156 263 16 E V0 hp K=
    (ite2 (decide (x12≤x13)) ((0≤x12)∧(x12<x0n)∧(ptrN x0a fun b1 o2=>ldL (HP.cellN hp b1 (o2+Int.toNat x12*26) 26) fun l3=>(0≤x1)∧(x1<x0n)∧(ptrN x0a fun b4 o5=>ldL (HP.cellN hp b4 (o5+Int.toNat x1*26) 26) fun l6=>fnV x4 fun f7 ga8 gb9=>CF Tryd.prog f7 (ga8++[(Value.agg ⟨l3⟩),(.agg ⟨l6⟩)]++gb9) hp fun u10 h11=>intV u10 .i64 fun i12=>K (w8 (w8 E 32 (sI x12) 33 (sI x13) 34 (sB (decide (x12≤x13))) 35 (sB true) 36 (sV x4) 37 (sS x0a x0n x0c) 38 (sI x12) 39 (sQ b1 (o2+Int.toNat x12*26))) 40 (sA l3) 41 (sS x0a x0n x0c) 42 (sI x1) 43 (sQ b4 (o5+Int.toNat x1*26)) 44 (sA l6) 45 (sI i12) 46 (sB (decide (i12<0))) 47 (sB (decide (i12<0)))) V0 h11))) (K (w8 (w8 E 32 (sI x12) 33 (sI x13) 34 (sB (decide (x12≤x13))) 35 (sB false) 36 sU 37 sU 38 sU 39 sU) 40 sU 41 sU 42 sU 43 sU 44 sU 45 sU 46 sU 47 (sB false)) V0 hp)):=by subst h; kernel_rfl
def F156_l15 (x0a:OA) (x0n x0c:Nat) (x1:Int) (x4:Value) (x13:Int) (K:Kh) (I15:(Int)→HP→Prop) (x12:Int) (hp:HP):Prop:=
  (ite2 (decide (x12≤x13)) ((0≤x12)∧(x12<x0n)∧(ptrN x0a fun b97 o98=>ldL (HP.cellN hp b97 (o98+Int.toNat x12*26) 26) fun l99=>(0≤x1)∧(x1<x0n)∧(ptrN x0a fun b100 o101=>ldL (HP.cellN hp b100 (o101+Int.toNat x1*26) 26) fun l102=>fnV x4 fun f103 ga_104 gb_105=>CF Tryd.prog f103 (ga_104++[(Value.agg ⟨l99⟩),(.agg ⟨l102⟩)]++gb_105) hp fun u106 h107=>intV u106 .i64 fun i108=>F156_j16 x0a x0n x0c x1 x4 x12 x13 (decide (i108<0)) h107 I15 K))) (F156_j16 x0a x0n x0c x1 x4 x12 x13 false hp I15 K))
def F156_j1 (x0a:OA) (x0n x0c:Nat) (x1:Int) (x4:Value) (x12 x13:Int) (hp:HP) (K:Kh):Prop:=
  (LoopP (σ:=Int) (fun I s hp=>F156_l15 x0a x0n x0c x1 x4 x13  K I s hp) x12 hp)
theorem F156_r22:R156 11 6 (w2 e 2 (sI x2) 1 (sI x1)) V0 hp K=
 K (w8 e 2 (sI x2) 1 (sI x1) 28 (sI x1) 29 (sI ((wr (x1+1)))) 30 (sI x2) 31 (sI ((wr (x2-1)))) 12 (sI ((wr (x1+1)))) 13 (sI ((wr (x2-1))))) V0 hp:= by kernel_rfl
def F156 (x0a:OA) (x0n x0c:Nat) (x1 x2 x3:Int) (x4:Value) (hp:HP) (K:Kh):Prop:=
  ((0≤x3)∧(x3<x0n)∧(ptrN x0a fun b1 o2=>ldL (HP.cellN hp b1 (o2+Int.toNat x3*26) 26) fun l3=>(0≤x1)∧(x1<x0n)∧(ptrN x0a fun b4 o5=>ldL (HP.cellN hp b4 (o5+Int.toNat x1*26) 26) fun l6=>(0≤x1)∧(x1<x0n)∧(ptrN x0a fun b7 o8=>(List.length l3=26)∧(HP.stN hp b7 (o8+Int.toNat x1*26) l3 fun h9=>(0≤x3)∧(x3<x0n)∧(ptrN x0a fun b10 o11=>(List.length l6=26)∧(HP.stN h9 b10 (o11+Int.toNat x3*26) l6 fun h12=>F156_j1 x0a x0n x0c x1 x4 (IntKind.wrap .i64 (x1+1)) (IntKind.wrap .i64 (x2-1)) h12  K)))))))
noncomputable abbrev o156 (k n:Nat):Code:=.region k (opsAt Tryd.f156 (pth n)) false
noncomputable def F156_code:Code:=(.seq (o156 0 2) (.seq (.region 1 (opsAt Tryd.f156 (pth 5)) true) (.seq (o156 2 11) (.seq (.block 0 (.loop (.seq (.seq (.region 3 (opsAt Tryd.f156 (pth 263)) true) (.cond (.tmp 47) .skip (.exit 0))) (.block 1 (o156 4 327))))) (.seq (.block 2 (.loop (.seq (.seq (.region 5 (opsAt Tryd.f156 (pth 527)) true) (.cond (.tmp 66) .skip (.exit 2))) (.block 3 (o156 6 655))))) (.seq (.seq (o156 7 159) (.cond (.tmp 71) (.seq (.region 8 (opsAt Tryd.f156 (pth 607)) true) (.seq (o156 9 1375) .ret)) .skip)) (.seq (.region 10 (opsAt Tryd.f156 (pth 191)) true) (.seq (o156 11 383) (.seq (o156 12 767) (.seq (.block 4 (.loop (.block 5 (.seq (.block 6 (.loop (.seq (.seq (.region 13 (opsAt Tryd.f156 (pth 262655)) true) (.cond (.tmp 120) .skip (.exit 6))) (.block 7 (o156 14 328191))))) (.seq (.block 8 (.loop (.seq (.seq (.region 15 (opsAt Tryd.f156 (pth 532991)) true) (.cond (.tmp 139) .skip (.exit 8))) (.block 9 (o156 16 664063))))) (.seq (.seq (o156 17 156159) (.cond (.tmp 144) (.exit 4) .skip)) (.seq (.region 18 (opsAt Tryd.f156 (pth 188927)) true) (.seq (o156 19 385535) (o156 20 516607))))))))) (.seq (.region 21 (opsAt Tryd.f156 (pth 3071)) true) (.seq (o156 22 6143) .ret))))))))))))
theorem F156_body:Tryd.f156.body=some F156_code:=by kernel_rfl
theorem F156_ok (x0a:OA) (x0n x0c:Nat) (x1 x2 x3:Int) (x4:Value) (hp:HP) (K:Kh) (h:F156 x0a x0n x0c x1 x2 x3 x4 hp K):CF Tryd.prog 156 [(.slice x0a x0n x0c),(.int .i64 x1),(.int .i64 x2),(.int .i64 x3),x4] hp K:=by
 refine .inl ⟨by kernel_rfl,AC.intro (N:=178) Tryd.func156 F156_body rfl (Nat.le_of_ble_eq_true rfl) ?_⟩
 unfold F156 at h
 refine Ar F156_r0 ?_ (r5 0 1 2 3 4 Rn) (z5 Sn) Sn
 refine Aq (AWP.rgnD (by kernel_rfl) (by kernel_rfl) (F156_r1 rfl) ?_ (r5 0 1 3 2 4 Rn) (z5 Sn) Sn)
 refine ⟨h.1,h.2.1,mN h.2.2 (fun b1 o2 h=>mL h (fun l3 h=>⟨h.1,h.2.1,mN h.2.2 (fun b4 o5 h=>mL h (fun l6 h=>⟨h.1,h.2.1,mN h.2.2 (fun b7 o8 h=>⟨h.1,mW h.2 (fun h9 h=>⟨h.1,h.2.1,mN h.2.2 (fun b10 o11 h=>⟨h.1,mW h.2 fun h12 h=>?_⟩)⟩)⟩)⟩))⟩))⟩
 refine As (fun env pv hp=>∃ x0a x0n x0c x1 x4 x12 x13,Sub (w5 E0 13 (sI x13) 12 (sI x12) 4 (sV x4) 1 (sI x1) 0 (sS x0a x0n x0c)) env∧Sub V0 pv∧F156_j1 x0a x0n x0c x1 x4 x12 x13 hp  K) ?_ ?_
 ·refine Ag F156_r22 ?_ (r4 1 2 0 4 Rn) (z4 Sn) Sn
  exact ⟨_,_,_,_,_,_,_,(z5 Sn),Sn,h⟩
 ·rintro env pv hp ⟨x0a,x0n,x0c,x1,x4,x12,x13,he,hv,h⟩
  refine Ae ?_ (r5 0 1 4 12 13 Rn) he hv
  unfold F156_j1 at h
  refine As (fun env pv hp=>∃ x0a x0n x0c x1 x4 x12 x13,Sub (w5 E0 13 (sI x13) 12 (sI x12) 4 (sV x4) 1 (sI x1) 0 (sS x0a x0n x0c)) env∧Sub V0 pv∧F156_j2 x0a x0n x0c x1 x4 x12 x13 hp  K) ?_ ?_
  ·refine AWP.block (AWP.loop (σ:=Int) _ (fun s=>w5 E0 13 (sI x13) 12 (sI s) 4 (sV x4) 1 (sI x1) 0 (sS x0a x0n x0c)) (fun s=>V0) x12 h (fun s=>r5 0 1 4 12 13 Rn) (z5 Sn) Sn ?_)
   intro I15 x12 hp h
   replace h:F156_l15 x0a x0n x0c x1 x4 x13  K I15 x12 hp:=h
   unfold F156_l15 at h
   refine Aq (As (fun env pv hp=>∃ x12 x47,Sub (w6 E0 47 (sB x47) 13 (sI x13) 12 (sI x12) 4 (sV x4) 1 (sI x1) 0 (sS x0a x0n x0c)) env∧Sub V0 pv∧F156_j16 x0a x0n x0c x1 x4 x12 x13 x47 hp I15 K) ?_ ?_)
   ·refine AWP.rgnD (by kernel_rfl) (by kernel_rfl) (F156_r21 rfl) ?_ (r5 0 1 4 12 13 Rn) (z5 Sn) Sn
    refine mt h (fun h=>?_) (fun h=>?_)
    ·refine ⟨h.1,h.2.1,mN h.2.2 (fun b97 o98 h=>mL h (fun l99 h=>⟨h.1,h.2.1,mN h.2.2 fun b100 o101 h=>mL h fun l102 h=>mF h fun f103 ga_104 gb_105 h=>mC h fun u106 h107 h=>mI h fun i108 h=>?_⟩))⟩
     exact ⟨_,_,(z6 Sn),Sn,h⟩
    ·exact ⟨_,_,(z6 Sn),Sn,h⟩
   ·rintro env pv hp ⟨x12,x47,he,hv,h⟩
    refine Ae ?_ (r6 0 1 4 12 13 47 Rn) he hv
    unfold F156_j16 at h
    refine Ac h rfl (fun h=>?_) (fun h=>?_)
    ·refine AWP.skip (AWP.block (Ag F156_r20 ?_ (r5 12 0 1 4 13 Rn) (z5 Sn) Sn))
     exact ⟨_,(z5 Sn),Sn,h⟩
    ·refine AWP.exit ?_
     exact ⟨_,_,_,_,_,_,_,(z5 Sn),Sn,h⟩
  ·rintro env pv hp ⟨x0a,x0n,x0c,x1,x4,x12,x13,he,hv,h⟩
   refine Ae ?_ (r5 0 1 4 12 13 Rn) he hv
   unfold F156_j2 at h
   refine As (fun env pv hp=>∃ x0a x0n x0c x1 x4 x12 x13,Sub (w5 E0 13 (sI x13) 12 (sI x12) 4 (sV x4) 1 (sI x1) 0 (sS x0a x0n x0c)) env∧Sub V0 pv∧F156_j3 x0a x0n x0c x1 x4 x12 x13 hp  K) ?_ ?_
   ·refine AWP.block (AWP.loop (σ:=Int) _ (fun s=>w5 E0 13 (sI s) 12 (sI x12) 4 (sV x4) 1 (sI x1) 0 (sS x0a x0n x0c)) (fun s=>V0) x13 h (fun s=>r5 0 1 4 12 13 Rn) (z5 Sn) Sn ?_)
    intro I13 x13 hp h
    replace h:F156_l13 x0a x0n x0c x1 x4 x12  K I13 x13 hp:=h
    unfold F156_l13 at h
    refine Aq (As (fun env pv hp=>∃ x13 x66,Sub (w6 E0 66 (sB x66) 13 (sI x13) 12 (sI x12) 4 (sV x4) 1 (sI x1) 0 (sS x0a x0n x0c)) env∧Sub V0 pv∧F156_j14 x0a x0n x0c x1 x4 x12 x13 x66 hp I13 K) ?_ ?_)
    ·refine AWP.rgnD (by kernel_rfl) (by kernel_rfl) (F156_r19 rfl) ?_ (r5 0 1 4 12 13 Rn) (z5 Sn) Sn
     refine mt h (fun h=>?_) (fun h=>?_)
     ·refine ⟨h.1,h.2.1,mN h.2.2 (fun b85 o86 h=>mL h (fun l87 h=>⟨h.1,h.2.1,mN h.2.2 fun b88 o89 h=>mL h fun l90 h=>mF h fun f91 ga_92 gb_93 h=>mC h fun u94 h95 h=>mI h fun i96 h=>?_⟩))⟩
      exact ⟨_,_,(z6 Sn),Sn,h⟩
     ·exact ⟨_,_,(z6 Sn),Sn,h⟩
    ·rintro env pv hp ⟨x13,x66,he,hv,h⟩
     refine Ae ?_ (r6 0 1 4 12 13 66 Rn) he hv
     unfold F156_j14 at h
     refine Ac h rfl (fun h=>?_) (fun h=>?_)
     ·refine AWP.skip (AWP.block (Ag F156_r18 ?_ (r5 13 0 1 4 12 Rn) (z5 Sn) Sn))
      exact ⟨_,(z5 Sn),Sn,h⟩
     ·refine AWP.exit ?_
      exact ⟨_,_,_,_,_,_,_,(z5 Sn),Sn,h⟩
   ·rintro env pv hp ⟨x0a,x0n,x0c,x1,x4,x12,x13,he,hv,h⟩
    refine Ae ?_ (r5 0 1 4 12 13 Rn) he hv
    unfold F156_j3 at h
    refine Aq (Ar F156_r2 ?_ (r5 12 13 0 1 4 Rn) (z5 Sn) Sn)
    refine Ac h rfl (fun h=>?_) (fun h=>?_)
    ·refine Aq (AWP.rgnD (by kernel_rfl) (by kernel_rfl) (F156_r3 rfl) ?_ (r3 0 1 13 Rn) (z3 Sn) Sn)
     refine ⟨h.1,h.2.1,mN h.2.2 (fun b13 o14 h=>mL h (fun l15 h=>⟨h.1,h.2.1,mN h.2.2 (fun b16 o17 h=>mL h (fun l18 h=>⟨h.1,h.2.1,mN h.2.2 (fun b19 o20 h=>⟨h.1,mW h.2 (fun h21 h=>⟨h.1,h.2.1,mN h.2.2 (fun b22 o23 h=>⟨h.1,mW h.2 fun h24 h=>?_⟩)⟩)⟩)⟩))⟩))⟩
     refine Ar F156_r4 ?_ (r1 13 Rn) (z1 Sn) Sn
     refine AWP.ret ?_
     exact h
    ·refine AWP.skip (Aq (AWP.rgnD (by kernel_rfl) (by kernel_rfl) (F156_r5 rfl) ?_ (r5 0 12 13 1 4 Rn) (z5 Sn) Sn))
     refine ⟨h.1,h.2.1,mN h.2.2 (fun b25 o26 h=>mL h (fun l27 h=>⟨h.1,h.2.1,mN h.2.2 (fun b28 o29 h=>mL h (fun l30 h=>⟨h.1,h.2.1,mN h.2.2 (fun b31 o32 h=>⟨h.1,mW h.2 (fun h33 h=>⟨h.1,h.2.1,mN h.2.2 (fun b34 o35 h=>⟨h.1,mW h.2 fun h36 h=>?_⟩)⟩)⟩)⟩))⟩))⟩
     refine Ar F156_r6 ?_ (r5 12 0 1 4 13 Rn) (z5 Sn) Sn
     refine As (fun env pv hp=>∃ x0a x0n x0c x1 x4 x12 x13,Sub (w5 E0 13 (sI x13) 12 (sI x12) 4 (sV x4) 1 (sI x1) 0 (sS x0a x0n x0c)) env∧Sub V0 pv∧F156_j4 x0a x0n x0c x1 x4 x12 x13 hp  K) ?_ ?_
     ·refine Ag F156_r17 ?_ (r5 13 0 1 4 12 Rn) (z5 Sn) Sn
      exact ⟨_,_,_,_,_,_,_,(z5 Sn),Sn,h⟩
     ·rintro env pv hp ⟨x0a,x0n,x0c,x1,x4,x12,x13,he,hv,h⟩
      refine Ae ?_ (r5 0 1 4 12 13 Rn) he hv
      unfold F156_j4 at h
      refine As (fun env pv hp=>∃ x0a x0n x0c x1 x13,Sub (w3 E0 13 (sI x13) 1 (sI x1) 0 (sS x0a x0n x0c)) env∧Sub V0 pv∧F156_j5 x0a x0n x0c x1 x13 hp  K) ?_ ?_
      ·refine AWP.block (AWP.loop (σ:=Int × Int) _ (fun s=>w5 E0 13 (sI (s.2)) 12 (sI (s.1)) 4 (sV x4) 1 (sI x1) 0 (sS x0a x0n x0c)) (fun s=>V0) (x12,x13) h (fun s=>r5 0 1 4 12 13 Rn) (z5 Sn) Sn ?_)
       intro I6 s hp h
       obtain ⟨x12,x13⟩:=s
       replace h:F156_l6 x0a x0n x0c x1 x4  K I6 x12 x13 hp:=h
       unfold F156_l6 at h
       refine AWP.block (As (fun env pv hp=>∃ x12 x13,Sub (w5 E0 13 (sI x13) 12 (sI x12) 4 (sV x4) 1 (sI x1) 0 (sS x0a x0n x0c)) env∧Sub V0 pv∧F156_j7 x0a x0n x0c x1 x4 x12 x13 hp I6 K) ?_ ?_)
       ·refine AWP.block (AWP.loop (σ:=Int) _ (fun s=>w5 E0 13 (sI x13) 12 (sI s) 4 (sV x4) 1 (sI x1) 0 (sS x0a x0n x0c)) (fun s=>V0) x12 h (fun s=>r5 0 1 4 12 13 Rn) (z5 Sn) Sn ?_)
        intro I11 x12 hp h
        replace h:F156_l11 x0a x0n x0c x1 x4 x13 I6 K I11 x12 hp:=h
        unfold F156_l11 at h
        refine Aq (As (fun env pv hp=>∃ x12 x120,Sub (w6 E0 120 (sB x120) 13 (sI x13) 12 (sI x12) 4 (sV x4) 1 (sI x1) 0 (sS x0a x0n x0c)) env∧Sub V0 pv∧F156_j12 x0a x0n x0c x1 x4 x12 x13 x120 hp I6 I11 K) ?_ ?_)
        ·refine AWP.rgnD (by kernel_rfl) (by kernel_rfl) (F156_r16 rfl) ?_ (r5 0 1 4 12 13 Rn) (z5 Sn) Sn
         refine mt h (fun h=>?_) (fun h=>?_)
         ·refine ⟨h.1,h.2.1,mN h.2.2 (fun b73 o74 h=>mL h (fun l75 h=>⟨h.1,h.2.1,mN h.2.2 fun b76 o77 h=>mL h fun l78 h=>mF h fun f79 ga_80 gb_81 h=>mC h fun u82 h83 h=>mI h fun i84 h=>?_⟩))⟩
          exact ⟨_,_,(z6 Sn),Sn,h⟩
         ·exact ⟨_,_,(z6 Sn),Sn,h⟩
        ·rintro env pv hp ⟨x12,x120,he,hv,h⟩
         refine Ae ?_ (r6 0 1 4 12 13 120 Rn) he hv
         unfold F156_j12 at h
         refine Ac h rfl (fun h=>?_) (fun h=>?_)
         ·refine AWP.skip (AWP.block (Ag F156_r15 ?_ (r5 12 0 1 4 13 Rn) (z5 Sn) Sn))
          exact ⟨_,(z5 Sn),Sn,h⟩
         ·refine AWP.exit ?_
          exact ⟨_,_,(z5 Sn),Sn,h⟩
       ·rintro env pv hp ⟨x12,x13,he,hv,h⟩
        refine Ae ?_ (r5 0 1 4 12 13 Rn) he hv
        unfold F156_j7 at h
        refine As (fun env pv hp=>∃ x12 x13,Sub (w5 E0 13 (sI x13) 12 (sI x12) 4 (sV x4) 1 (sI x1) 0 (sS x0a x0n x0c)) env∧Sub V0 pv∧F156_j8 x0a x0n x0c x1 x4 x12 x13 hp I6 K) ?_ ?_
        ·refine AWP.block (AWP.loop (σ:=Int) _ (fun s=>w5 E0 13 (sI s) 12 (sI x12) 4 (sV x4) 1 (sI x1) 0 (sS x0a x0n x0c)) (fun s=>V0) x13 h (fun s=>r5 0 1 4 12 13 Rn) (z5 Sn) Sn ?_)
         intro I9 x13 hp h
         replace h:F156_l9 x0a x0n x0c x1 x4 x12 I6 K I9 x13 hp:=h
         unfold F156_l9 at h
         refine Aq (As (fun env pv hp=>∃ x13 x139,Sub (w6 E0 139 (sB x139) 13 (sI x13) 12 (sI x12) 4 (sV x4) 1 (sI x1) 0 (sS x0a x0n x0c)) env∧Sub V0 pv∧F156_j10 x0a x0n x0c x1 x4 x12 x13 x139 hp I6 I9 K) ?_ ?_)
         ·refine AWP.rgnD (by kernel_rfl) (by kernel_rfl) (F156_r14 rfl) ?_ (r5 0 1 4 12 13 Rn) (z5 Sn) Sn
          refine mt h (fun h=>?_) (fun h=>?_)
          ·refine ⟨h.1,h.2.1,mN h.2.2 (fun b61 o62 h=>mL h (fun l63 h=>⟨h.1,h.2.1,mN h.2.2 fun b64 o65 h=>mL h fun l66 h=>mF h fun f67 ga_68 gb_69 h=>mC h fun u70 h71 h=>mI h fun i72 h=>?_⟩))⟩
           exact ⟨_,_,(z6 Sn),Sn,h⟩
          ·exact ⟨_,_,(z6 Sn),Sn,h⟩
         ·rintro env pv hp ⟨x13,x139,he,hv,h⟩
          refine Ae ?_ (r6 0 1 4 12 13 139 Rn) he hv
          unfold F156_j10 at h
          refine Ac h rfl (fun h=>?_) (fun h=>?_)
          ·refine AWP.skip (AWP.block (Ag F156_r13 ?_ (r5 13 0 1 4 12 Rn) (z5 Sn) Sn))
           exact ⟨_,(z5 Sn),Sn,h⟩
          ·refine AWP.exit ?_
           exact ⟨_,_,(z5 Sn),Sn,h⟩
        ·rintro env pv hp ⟨x12,x13,he,hv,h⟩
         refine Ae ?_ (r5 0 1 4 12 13 Rn) he hv
         unfold F156_j8 at h
         refine Aq (Ar F156_r9 ?_ (r5 12 13 0 1 4 Rn) (z5 Sn) Sn)
         refine Ac h rfl (fun h=>?_) (fun h=>?_)
         ·refine AWP.exit ?_
          exact ⟨_,_,_,_,_,(z3 Sn),Sn,h⟩
         ·refine AWP.skip (Aq (AWP.rgnD (by kernel_rfl) (by kernel_rfl) (F156_r10 rfl) ?_ (r5 0 12 13 1 4 Rn) (z5 Sn) Sn))
          refine ⟨h.1,h.2.1,mN h.2.2 (fun b49 o50 h=>mL h (fun l51 h=>⟨h.1,h.2.1,mN h.2.2 (fun b52 o53 h=>mL h (fun l54 h=>⟨h.1,h.2.1,mN h.2.2 (fun b55 o56 h=>⟨h.1,mW h.2 (fun h57 h=>⟨h.1,h.2.1,mN h.2.2 (fun b58 o59 h=>⟨h.1,mW h.2 fun h60 h=>?_⟩)⟩)⟩)⟩))⟩))⟩
          refine Ar F156_r11 ?_ (r5 12 0 1 4 13 Rn) (z5 Sn) Sn
          refine Ag F156_r12 ?_ (r5 13 0 1 4 12 Rn) (z5 Sn) Sn
          exact ⟨_,(z5 Sn),Sn,h⟩
      ·rintro env pv hp ⟨x0a,x0n,x0c,x1,x13,he,hv,h⟩
       refine Ae ?_ (r3 0 1 13 Rn) he hv
       unfold F156_j5 at h
       refine Aq (AWP.rgnD (by kernel_rfl) (by kernel_rfl) (F156_r7 rfl) ?_ (r3 0 1 13 Rn) (z3 Sn) Sn)
       refine ⟨h.1,h.2.1,mN h.2.2 (fun b37 o38 h=>mL h (fun l39 h=>⟨h.1,h.2.1,mN h.2.2 (fun b40 o41 h=>mL h (fun l42 h=>⟨h.1,h.2.1,mN h.2.2 (fun b43 o44 h=>⟨h.1,mW h.2 (fun h45 h=>⟨h.1,h.2.1,mN h.2.2 (fun b46 o47 h=>⟨h.1,mW h.2 fun h48 h=>?_⟩)⟩)⟩)⟩))⟩))⟩
       refine Ar F156_r8 ?_ (r1 13 Rn) (z1 Sn) Sn
       refine AWP.ret ?_
       exact h
end
section
variable {e E:Env} {x0a:OA} {x0n x0c:Nat} {x1 x2 x3:Int} {x4:Value} {x10 x11:Int} {hp:HP} {K:Env→PV→HP→Prop}
abbrev R173 (p n:Nat):=RW Tryd.prog 82 [] (opsAt Tryd.f173 (pth p)) (List.range n)
theorem F173_r0:R173 33 4 (upd e 10 (sI x10)) V0 hp K=
 K (w5 e 10 (sI x10) 13 (sI x10) 14 (sI ((wr (2*x10)))) 15 (sI ((wr ((wr (2*x10))+1)))) 11 (sI ((wr ((wr (2*x10))+1))))) V0 hp:= by kernel_rfl
theorem F173_r1:R173 145 3 (w2 e 11 (sI x11) 2 (sI x2)) V0 hp K=
 K (w5 e 11 (sI x11) 2 (sI x2) 16 (sI x11) 17 (sI x2) 18 (sB (decide (x11≥x2)))) V0 hp:= by kernel_rfl
theorem F173_r2 (h:E=upd (w4 e 11 (sI x11) 10 (sI x10) 4 (sV x4) 3 (sI x3)) 0 (sS x0a x0n x0c)):R173 625 16 E V0 hp K=
    ((0≤((wr (x3+x10)):Int))∧(((wr (x3+x10)):Int)<x0n)∧(ptrN x0a fun b1 o2=>ldL (HP.cellN hp b1 (o2+Int.toNat (wr (x3+x10))*26) 26) fun l3=>(0≤((wr (x3+x11)):Int))∧(((wr (x3+x11)):Int)<x0n)∧(ptrN x0a fun b4 o5=>ldL (HP.cellN hp b4 (o5+Int.toNat (wr (x3+x11))*26) 26) fun l6=>fnV x4 fun f7 ga8 gb9=>CF Tryd.prog f7 (ga8++[(Value.agg ⟨l3⟩),(.agg ⟨l6⟩)]++gb9) hp fun u10 h11=>intV u10 .i64 fun i12=>K (w8 (w8 E 43 (sV x4) 44 (sS x0a x0n x0c) 45 (sI x3) 46 (sI x10) 47 (sI ((wr (x3+x10)))) 48 (sV (ptr b1 (o2+Int.toNat (wr (x3+x10))*26))) 49 (sA l3) 50 (sS x0a x0n x0c)) 51 (sI x3) 52 (sI x11) 53 (sI ((wr (x3+x11)))) 54 (sV (ptr b4 (o5+Int.toNat (wr (x3+x11))*26))) 55 (sA l6) 56 (sI i12) 57 (sB (decide (i12<0))) 58 (sB ((!(decide (i12<0)))))) V0 h11))):=by subst h; kernel_rfl
theorem F173_r3 (h:E=upd (w3 e 11 (sI x11) 10 (sI x10) 3 (sI x3)) 0 (sS x0a x0n x0c)):R173 753 24 E V0 hp K=
    ((0≤((wr (x3+x11)):Int))∧(((wr (x3+x11)):Int)<x0n)∧(ptrN x0a fun b1 o2=>ldL (HP.cellN hp b1 (o2+Int.toNat (wr (x3+x11))*26) 26) fun l3=>(0≤((wr (x3+x10)):Int))∧(((wr (x3+x10)):Int)<x0n)∧(ptrN x0a fun b4 o5=>ldL (HP.cellN hp b4 (o5+Int.toNat (wr (x3+x10))*26) 26) fun l6=>(0≤((wr (x3+x10)):Int))∧(((wr (x3+x10)):Int)<x0n)∧(ptrN x0a fun b7 o8=>(List.length l3=26)∧(HP.stN hp b7 (o8+Int.toNat (wr (x3+x10))*26) l3 fun h9=>(0≤((wr (x3+x11)):Int))∧(((wr (x3+x11)):Int)<x0n)∧(ptrN x0a fun b10 o11=>(List.length l6=26)∧(HP.stN h9 b10 (o11+Int.toNat (wr (x3+x11))*26) l6 fun h12=>K (w6 (w8 (w8 E 59 (sS x0a x0n x0c) 60 (sI x3) 61 (sI x10) 62 (sI ((wr (x3+x10)))) 63 (sS x0a x0n x0c) 64 (sI x3) 65 (sI x11) 66 (sI ((wr (x3+x11))))) 67 (sS x0a x0n x0c) 68 (sI x3) 69 (sI x11) 70 (sI ((wr (x3+x11)))) 71 (sV (ptr b1 (o2+Int.toNat (wr (x3+x11))*26))) 72 (sA l3) 73 (sS x0a x0n x0c) 74 (sI x3)) 75 (sI x10) 76 (sI ((wr (x3+x10)))) 77 (sV (ptr b4 (o5+Int.toNat (wr (x3+x10))*26))) 78 (sA l6) 79 (sV (ptr b7 (o8+Int.toNat (wr (x3+x10))*26))) 80 (sV (ptr b10 (o11+Int.toNat (wr (x3+x11))*26)))) V0 h12))))))):=by subst h; kernel_rfl
theorem F173_r4:R173 1009 2 (upd e 11 (sI x11)) V0 hp K=
 K (w3 e 11 (sI x11) 81 (sI x11) 10 (sI x11)) V0 hp:= by kernel_rfl
def F173_j3 (x0a:OA) (x0n x0c:Nat) (x2 x3:Int) (x4:Value) (x10 x11:Int) (hp:HP) (I2:(Int)→HP→Prop) (K:Kh):Prop:=
  ((0≤((IntKind.wrap .i64 (x3+x10)):Int))∧(((IntKind.wrap .i64 (x3+x10)):Int)<x0n)∧(ptrN x0a fun b1 o2=>ldL (HP.cellN hp b1 (o2+Int.toNat (IntKind.wrap .i64 (x3+x10))*26) 26) fun l3=>(0≤((IntKind.wrap .i64 (x3+x11)):Int))∧(((IntKind.wrap .i64 (x3+x11)):Int)<x0n)∧(ptrN x0a fun b4 o5=>ldL (HP.cellN hp b4 (o5+Int.toNat (IntKind.wrap .i64 (x3+x11))*26) 26) fun l6=>fnV x4 fun f7 ga_8 gb_9=>CF Tryd.prog f7 (ga_8++[(Value.agg ⟨l3⟩),(.agg ⟨l6⟩)]++gb_9) hp fun u10 h11=>intV u10 .i64 fun i12=>ite2 (!(decide (i12<0))) (K (.tuple ⟨[]⟩) h11) ((0≤((IntKind.wrap .i64 (x3+x11)):Int))∧(((IntKind.wrap .i64 (x3+x11)):Int)<x0n)∧(ptrN x0a fun b13 o14=>ldL (HP.cellN h11 b13 (o14+Int.toNat (IntKind.wrap .i64 (x3+x11))*26) 26) fun l15=>(0≤((IntKind.wrap .i64 (x3+x10)):Int))∧(((IntKind.wrap .i64 (x3+x10)):Int)<x0n)∧(ptrN x0a fun b16 o17=>ldL (HP.cellN h11 b16 (o17+Int.toNat (IntKind.wrap .i64 (x3+x10))*26) 26) fun l18=>(0≤((IntKind.wrap .i64 (x3+x10)):Int))∧(((IntKind.wrap .i64 (x3+x10)):Int)<x0n)∧(ptrN x0a fun b19 o20=>(List.length l15=26)∧(HP.stN h11 b19 (o20+Int.toNat (IntKind.wrap .i64 (x3+x10))*26) l15 fun h21=>(0≤((IntKind.wrap .i64 (x3+x11)):Int))∧(((IntKind.wrap .i64 (x3+x11)):Int)<x0n)∧(ptrN x0a fun b22 o23=>(List.length l18=26)∧(HP.stN h21 b22 (o23+Int.toNat (IntKind.wrap .i64 (x3+x11))*26) l18 fun h24=>I2 x11 h24))))))))))
theorem F173_r5:R173 689 3 (upd e 11 (sI x11)) V0 hp K=
 K (w4 e 11 (sI x11) 41 (sI x11) 42 (sI ((wr (x11+1)))) 11 (sI ((wr (x11+1))))) V0 hp:= by kernel_rfl
def F173_j4 (x0a:OA) (x0n x0c:Nat) (x2 x3:Int) (x4:Value) (x10 x11:Int) (x40:Bool) (hp:HP) (I2:(Int)→HP→Prop) (K:Kh):Prop:=
  (ite2 x40 (F173_j3 x0a x0n x0c x2 x3 x4 x10 (IntKind.wrap .i64 (x11+1)) hp I2 K) (F173_j3 x0a x0n x0c x2 x3 x4 x10 x11 hp I2 K))
theorem F173_r6 (h:E=upd (w4 e 11 (sI x11) 4 (sV x4) 3 (sI x3) 2 (sI x2)) 0 (sS x0a x0n x0c)):R173 305 22 E V0 hp K=
    (ite2 (decide (((wr (x11+1)):Int)<x2)) ((0≤((wr (x3+x11)):Int))∧(((wr (x3+x11)):Int)<x0n)∧(ptrN x0a fun b1 o2=>ldL (HP.cellN hp b1 (o2+Int.toNat (wr (x3+x11))*26) 26) fun l3=>(0≤((wr ((wr (x3+x11))+1)):Int))∧(((wr ((wr (x3+x11))+1)):Int)<x0n)∧(ptrN x0a fun b4 o5=>ldL (HP.cellN hp b4 (o5+Int.toNat (wr ((wr (x3+x11))+1))*26) 26) fun l6=>fnV x4 fun f7 ga8 gb9=>CF Tryd.prog f7 (ga8++[(Value.agg ⟨l3⟩),(.agg ⟨l6⟩)]++gb9) hp fun u10 h11=>intV u10 .i64 fun i12=>K (w6 (w8 (w8 E 19 (sI x11) 20 (sI ((wr (x11+1)))) 21 (sI x2) 22 (sB ((decide (((wr (x11+1)):Int)<x2)))) 23 (sB true) 24 (sV x4) 25 (sS x0a x0n x0c) 26 (sI x3)) 27 (sI x11) 28 (sI ((wr (x3+x11)))) 29 (sV (ptr b1 (o2+Int.toNat (wr (x3+x11))*26))) 30 (sA l3) 31 (sS x0a x0n x0c) 32 (sI x3) 33 (sI x11) 34 (sI ((wr (x3+x11))))) 35 (sI ((wr ((wr (x3+x11))+1)))) 36 (sV (ptr b4 (o5+Int.toNat (wr ((wr (x3+x11))+1))*26))) 37 (sA l6) 38 (sI i12) 39 (sB (decide (i12<0))) 40 (sB (decide (i12<0)))) V0 h11))) (K (w6 (w8 (w8 E 19 (sI x11) 20 (sI ((wr (x11+1)))) 21 (sI x2) 22 (sB ((decide (((wr (x11+1)):Int)<x2)))) 23 (sB false) 24 sU 25 sU 26 sU) 27 sU 28 sU 29 sU 30 sU 31 sU 32 sU 33 sU 34 sU) 35 sU 36 sU 37 sU 38 sU 39 sU 40 (sB false)) V0 hp)):=by subst h; kernel_rfl
def F173_l2 (x0a:OA) (x0n x0c:Nat) (x2 x3:Int) (x4:Value) (K:Kh) (I2:(Int)→HP→Prop) (x10:Int) (hp:HP):Prop:=
  (ite2 (decide (((IntKind.wrap .i64 ((IntKind.wrap .i64 (2*x10))+1)):Int)≥x2)) (K (.tuple ⟨[]⟩) hp) (ite2 (decide (((IntKind.wrap .i64 ((IntKind.wrap .i64 ((IntKind.wrap .i64 (2*x10))+1))+1)):Int)<x2)) ((0≤((IntKind.wrap .i64 (x3+(IntKind.wrap .i64 ((IntKind.wrap .i64 (2*x10))+1)))):Int))∧(((IntKind.wrap .i64 (x3+(IntKind.wrap .i64 ((IntKind.wrap .i64 (2*x10))+1)))):Int)<x0n)∧(ptrN x0a fun b25 o26=>ldL (HP.cellN hp b25 (o26+Int.toNat (IntKind.wrap .i64 (x3+(IntKind.wrap .i64 ((IntKind.wrap .i64 (2*x10))+1))))*26) 26) fun l27=>(0≤((IntKind.wrap .i64 ((IntKind.wrap .i64 (x3+(IntKind.wrap .i64 ((IntKind.wrap .i64 (2*x10))+1))))+1)):Int))∧(((IntKind.wrap .i64 ((IntKind.wrap .i64 (x3+(IntKind.wrap .i64 ((IntKind.wrap .i64 (2*x10))+1))))+1)):Int)<x0n)∧(ptrN x0a fun b28 o29=>ldL (HP.cellN hp b28 (o29+Int.toNat (IntKind.wrap .i64 ((IntKind.wrap .i64 (x3+(IntKind.wrap .i64 ((IntKind.wrap .i64 (2*x10))+1))))+1))*26) 26) fun l30=>fnV x4 fun f31 ga_32 gb_33=>CF Tryd.prog f31 (ga_32++[(Value.agg ⟨l27⟩),(.agg ⟨l30⟩)]++gb_33) hp fun u34 h35=>intV u34 .i64 fun i36=>F173_j4 x0a x0n x0c x2 x3 x4 x10 (IntKind.wrap .i64 ((IntKind.wrap .i64 (2*x10))+1)) (decide (i36<0)) h35 I2 K))) (F173_j4 x0a x0n x0c x2 x3 x4 x10 (IntKind.wrap .i64 ((IntKind.wrap .i64 (2*x10))+1)) false hp I2 K)))
def F173_j1 (x0a:OA) (x0n x0c:Nat) (x2 x3:Int) (x4:Value) (x10:Int) (hp:HP) (K:Kh):Prop:=
  (LoopP (σ:=Int) (fun I s hp=>F173_l2 x0a x0n x0c x2 x3 x4  K I s hp) x10 hp)
theorem F173_r7:R173 2 2 (upd e 1 (sI x1)) V0 hp K=
 K (w3 e 1 (sI x1) 12 (sI x1) 10 (sI x1)) V0 hp:= by kernel_rfl
def F173 (x0a:OA) (x0n x0c:Nat) (x1 x2 x3:Int) (x4:Value) (hp:HP) (K:Kh):Prop:=
  (F173_j1 x0a x0n x0c x2 x3 x4 x1 hp  K)
noncomputable abbrev o173 (k n:Nat):Code:=.region k (opsAt Tryd.f173 (pth n)) false
noncomputable def F173_code:Code:=(.seq (o173 0 2) (.block 0 (.loop (.block 1 (.seq (o173 1 33) (.seq (.seq (o173 2 145) (.cond (.tmp 18) (.exit 0) .skip)) (.seq (.seq (.region 3 (opsAt Tryd.f173 (pth 305)) true) (.cond (.tmp 40) (o173 4 689) .skip)) (.seq (.seq (.region 5 (opsAt Tryd.f173 (pth 625)) true) (.cond (.tmp 58) .ret .skip)) (.seq (.region 6 (opsAt Tryd.f173 (pth 753)) true) (o173 7 1009))))))))))
theorem F173_body:Tryd.f173.body=some F173_code:=by kernel_rfl
theorem F173_ok (x0a:OA) (x0n x0c:Nat) (x1 x2 x3:Int) (x4:Value) (hp:HP) (K:Kh) (h:F173 x0a x0n x0c x1 x2 x3 x4 hp K):CF Tryd.prog 173 [(.slice x0a x0n x0c),(.int .i64 x1),(.int .i64 x2),(.int .i64 x3),x4] hp K:=by
 refine .inl ⟨by kernel_rfl,AC.intro (N:=82) Tryd.func173 F173_body rfl (Nat.le_of_ble_eq_true rfl) ?_⟩
 unfold F173 at h
 refine As (fun env pv hp=>∃ x0a x0n x0c x2 x3 x4 x10,Sub (w5 E0 10 (sI x10) 4 (sV x4) 3 (sI x3) 2 (sI x2) 0 (sS x0a x0n x0c)) env∧Sub V0 pv∧F173_j1 x0a x0n x0c x2 x3 x4 x10 hp  K) ?_ ?_
 ·refine Ag F173_r7 ?_ (r5 1 0 2 3 4 Rn) (z5 Sn) Sn
  exact ⟨_,_,_,_,_,_,_,(z5 Sn),Sn,h⟩
 ·rintro env pv hp ⟨x0a,x0n,x0c,x2,x3,x4,x10,he,hv,h⟩
  refine Ae ?_ (r5 0 2 3 4 10 Rn) he hv
  unfold F173_j1 at h
  refine AWP.block (AWP.loop (σ:=Int) _ (fun s=>w5 E0 10 (sI s) 4 (sV x4) 3 (sI x3) 2 (sI x2) 0 (sS x0a x0n x0c)) (fun s=>V0) x10 h (fun s=>r5 0 2 3 4 10 Rn) (z5 Sn) Sn ?_)
  intro I2 x10 hp h
  replace h:F173_l2 x0a x0n x0c x2 x3 x4  K I2 x10 hp:=h
  unfold F173_l2 at h
  refine AWP.block (Ar F173_r0 ?_ (r5 10 0 2 3 4 Rn) (z5 Sn) Sn)
  refine Aq (Ar F173_r1 ?_ (r6 2 11 0 3 4 10 Rn) (z6 Sn) Sn)
  refine Ac h rfl (fun h=>?_) (fun h=>?_)
  ·refine AWP.exit ?_
   exact h
  ·refine AWP.skip (As (fun env pv hp=>∃ x10 x11,Sub (w6 E0 11 (sI x11) 10 (sI x10) 4 (sV x4) 3 (sI x3) 2 (sI x2) 0 (sS x0a x0n x0c)) env∧Sub V0 pv∧F173_j3 x0a x0n x0c x2 x3 x4 x10 x11 hp I2 K) ?_ ?_)
   ·refine As (fun env pv hp=>∃ x10 x11 x40,Sub (w7 E0 40 (sB x40) 11 (sI x11) 10 (sI x10) 4 (sV x4) 3 (sI x3) 2 (sI x2) 0 (sS x0a x0n x0c)) env∧Sub V0 pv∧F173_j4 x0a x0n x0c x2 x3 x4 x10 x11 x40 hp I2 K) ?_ ?_
    ·refine AWP.rgnD (by kernel_rfl) (by kernel_rfl) (F173_r6 rfl) ?_ (r6 0 2 3 4 11 10 Rn) (z6 Sn) Sn
     refine mt h (fun h=>?_) (fun h=>?_)
     ·refine ⟨h.1,h.2.1,mN h.2.2 (fun b25 o26 h=>mL h (fun l27 h=>⟨h.1,h.2.1,mN h.2.2 fun b28 o29 h=>mL h fun l30 h=>mF h fun f31 ga_32 gb_33 h=>mC h fun u34 h35 h=>mI h fun i36 h=>?_⟩))⟩
      exact ⟨_,_,_,(z7 Sn),Sn,h⟩
     ·exact ⟨_,_,_,(z7 Sn),Sn,h⟩
    ·rintro env pv hp ⟨x10,x11,x40,he,hv,h⟩
     refine Ae ?_ (r7 0 2 3 4 10 11 40 Rn) he hv
     unfold F173_j4 at h
     refine Ac h rfl (fun h=>?_) (fun h=>?_)
     ·refine Ag F173_r5 ?_ (r6 11 0 2 3 4 10 Rn) (z6 Sn) Sn
      exact ⟨_,_,(z6 Sn),Sn,h⟩
     ·refine AWP.skip ?_
      exact ⟨_,_,(z6 Sn),Sn,h⟩
   ·rintro env pv hp ⟨x10,x11,he,hv,h⟩
    refine Ae ?_ (r6 0 2 3 4 10 11 Rn) he hv
    unfold F173_j3 at h
    refine Aq (Aq (AWP.rgnD (by kernel_rfl) (by kernel_rfl) (F173_r2 rfl) ?_ (r6 0 3 4 10 11 2 Rn) (z6 Sn) Sn))
    refine ⟨h.1,h.2.1,mN h.2.2 (fun b1 o2 h=>mL h (fun l3 h=>⟨h.1,h.2.1,mN h.2.2 fun b4 o5 h=>mL h fun l6 h=>mF h fun f7 ga_8 gb_9 h=>mC h fun u10 h11 h=>mI h fun i12 h=>?_⟩))⟩
    refine Ac h rfl (fun h=>?_) (fun h=>?_)
    ·refine AWP.ret ?_
     exact h
    ·refine AWP.skip (Aq (AWP.rgnD (by kernel_rfl) (by kernel_rfl) (F173_r3 rfl) ?_ (r6 0 3 10 11 2 4 Rn) (z6 Sn) Sn))
     refine ⟨h.1,h.2.1,mN h.2.2 (fun b13 o14 h=>mL h (fun l15 h=>⟨h.1,h.2.1,mN h.2.2 (fun b16 o17 h=>mL h (fun l18 h=>⟨h.1,h.2.1,mN h.2.2 (fun b19 o20 h=>⟨h.1,mW h.2 (fun h21 h=>⟨h.1,h.2.1,mN h.2.2 (fun b22 o23 h=>⟨h.1,mW h.2 fun h24 h=>?_⟩)⟩)⟩)⟩))⟩))⟩
     refine Ag F173_r4 ?_ (r5 11 0 2 3 4 Rn) (z5 Sn) Sn
     exact ⟨_,(z5 Sn),Sn,h⟩
end
end Go.Proofs
set_option linter.unusedVariables false
set_option maxRecDepth 20000
namespace Go.Proofs
open Go Go.HL
section
variable {f:FuncId} {ga gb:List Value} {hp0:HP} {b sp n c:Nat} {cf:Bd→Bd→Int}
theorem S173 (hc:CmpOk Tryd.prog f ga gb hp0 b 36 sp bdc n cf) {d:Array Bd} {lo hi fst:Nat} {K:Value→HP→Prop} (hs:d.size=n) (hlo:lo≤hi) (hf:fst+hi≤n) (hn:n≤1000000000)
    (h:K (.tuple ⟨[]⟩) (HA hp0 b 36 sp bdc (Sort.siftDown (ltC cf) hi fst lo d))) :
    CF Tryd.prog 173 [.slice (some ⟨b,0,none⟩) n c,.int .i64 lo,.int .i64 hi,.int .i64 fst,.func (.func f) ⟨ga⟩ ⟨gb⟩] (HA hp0 b 36 sp bdc d) K:=by
  refine F173_ok _ n c lo hi fst _ _ K ?_
  unfold F173 F173_j1
  refine LoopP.by (J:=fun k (x:Int) hp=>∃ (r:Nat) (d':Array Bd),x=r∧hp=HA hp0 b 36 sp bdc d'∧d'.size=n∧r≤hi∧k=hi-r∧Sort.siftDown (ltC cf) hi fst r d'=Sort.siftDown (ltC cf) hi fst lo d) ?_
    (n:=hi-lo) ⟨lo,d,rfl,rfl,hs,hlo,rfl,rfl⟩
  rintro I k x hp ⟨r,d',rfl,rfl,hs',hr,rfl,he⟩ hI
  unfold F173_l2
  have w1:IntKind.wrap .i64 (2*(r:Int))=((2*r:Nat):Int):=wi (by omega) (by omega)
  have w2:IntKind.wrap .i64 (((2*r:Nat):Int)+1)=((2*r+1:Nat):Int):=wi (by omega) (by omega)
  have w3:IntKind.wrap .i64 (((2*r+1:Nat):Int)+1)=((2*r+2:Nat):Int):=wi (by omega) (by omega)
  have w4:IntKind.wrap .i64 ((fst:Int)+((2*r+1:Nat):Int))=((fst+(2*r+1):Nat):Int):=wi (by omega) (by omega)
  have w5:IntKind.wrap .i64 (((fst+(2*r+1):Nat):Int)+1)=((fst+(2*r+1)+1:Nat):Int):=wi (by omega) (by omega)
  simp only [w1,w2,w3,w4,w5]
  rw [Sort.siftDown] at he
  by_cases h1:2*r+1≥hi
  · rw [dif_pos h1] at he
    rw [decide_eq_true (by omega:((2*r+1:Nat):Int)≥(hi:Int)),ite2_true,he]
    exact h
  rw [dif_neg h1] at he
  rw [decide_eq_false (by omega:¬ ((2*r+1:Nat):Int)≥(hi:Int)),ite2_false]
  have tail:∀ ch:Nat,ch<hi→r<ch→(if !ltC cf d'[fst+r]! d'[fst+ch]! then d' else Sort.siftDown (ltC cf) hi fst ch (Sort.swp d' (fst+r) (fst+ch)))=Sort.siftDown (ltC cf) hi fst lo d →
      F173_j3 (some ⟨b,0,none⟩) n c hi fst (.func (.func f) ⟨ga⟩ ⟨gb⟩) r ch (HA hp0 b 36 sp bdc d') I K:=by
    intro ch hch hrc ht
    unfold F173_j3
    have v1:IntKind.wrap .i64 ((fst:Int)+(r:Int))=((fst+r:Nat):Int):=wi (by omega) (by omega)
    have v2:IntKind.wrap .i64 ((fst:Int)+(ch:Int))=((fst+ch:Nat):Int):=wi (by omega) (by omega)
    simp only [v1,v2]
    refine cmpP hc bdc_len hs' (i:=fst+r) (j:=fst+ch) rfl rfl (by omega) (by omega) ?_
    have hl:decide (cf d'[fst+r]! d'[fst+ch]!<0)=ltC cf d'[fst+r]! d'[fst+ch]! := rfl
    rw [hl]
    cases hlt:ltC cf d'[fst+r]! d'[fst+ch]!
    · rw [hlt] at ht
      simp only [Bool.not_false,if_true] at ht
      simp only [Bool.not_false,ite2_true]
      rw [ht]; exact h
    · rw [hlt] at ht
      simp only [Bool.not_true,Bool.false_eq_true,if_false] at ht
      simp only [Bool.not_true,ite2_false]
      refine swapP bdc_len bdc_one hs' (i:=fst+r) (j:=fst+ch) rfl rfl (by omega) (by omega) ?_
      exact hI (hi-ch) _ _ (by omega) ⟨ch,_,rfl,rfl,by rw [swp_size]; exact hs',by omega,rfl,ht⟩
  by_cases h2:2*r+1+1<hi
  · rw [decide_eq_true (by omega:((2*r+2:Nat):Int)<(hi:Int)),ite2_true]
    refine cmpP hc bdc_len hs' (i:=fst+(2*r+1)) (j:=fst+(2*r+1)+1) rfl rfl (by omega) (by omega) ?_
    have hl:decide (cf d'[fst+(2*r+1)]! d'[fst+(2*r+1)+1]!<0)=ltC cf d'[fst+(2*r+1)]! d'[fst+(2*r+1)+1]! := rfl
    rw [hl]
    unfold F173_j4
    rw [decide_eq_true h2,Bool.true_and] at he
    cases hlt:ltC cf d'[fst+(2*r+1)]! d'[fst+(2*r+1)+1]!
    · rw [hlt] at he
      simp only [Bool.false_eq_true,if_false] at he
      rw [ite2_false]
      exact tail (2*r+1) (by omega) (by omega) he
    · rw [hlt] at he
      simp only [if_true] at he
      rw [ite2_true,w3]
      refine tail (2*r+2) (by omega) (by omega) ?_
      rw [dif_pos (by omega:2*r+2<hi)] at he
      exact he
  · rw [decide_eq_false (by omega:¬ ((2*r+2:Nat):Int)<(hi:Int)),ite2_false]
    rw [decide_eq_false h2,Bool.false_and] at he
    simp only [Bool.false_eq_true,if_false] at he
    unfold F173_j4
    rw [ite2_false]
    exact tail (2*r+1) (by omega) (by omega) he
theorem sift_size_bdc {α:Type} [Inhabited α] (lt:α→α→Bool) (hi fst:Nat):∀ (m r:Nat) (d:Array α),hi-r≤m→(Sort.siftDown lt hi fst r d).size=d.size:=by
  intro m
  induction m with
  | zero=>
    intro r d hm
    rw [Sort.siftDown,dif_pos (by omega)]
  | succ m ih=>
    intro r d hm
    rw [Sort.siftDown]
    repeat' split
    all_goals first
      | rfl
      | (rw [ih _ _ (by omega),swp_size])
theorem S150 (hc:CmpOk Tryd.prog f ga gb hp0 b 36 sp bdc n cf) {d:Array Bd} {lo hi:Nat} {K:Value→HP→Prop} (hs:d.size=n) (hlo:lo≤hi) (hf:hi≤n) (hn:n≤1000000000)
    (h:K (.tuple ⟨[]⟩) (HA hp0 b 36 sp bdc (Sort.heapSort (ltC cf) d lo hi))) :
    CF Tryd.prog 150 [.slice (some ⟨b,0,none⟩) n c,.int .i64 lo,.int .i64 hi,.func (.func f) ⟨ga⟩ ⟨gb⟩] (HA hp0 b 36 sp bdc d) K:=by
  refine F150_ok _ n c lo hi _ _ K ?_
  unfold F150 F150_j4
  have w1:IntKind.wrap .i64 ((hi:Int)-(lo:Int))=((hi-lo:Nat):Int):=wi (by omega) (by omega)
  refine ⟨by omega,?_⟩
  rw [w1]
  generalize hm:hi-lo=m at *
  have w2:IntKind.wrap .i64 ((m:Int)-1)=(m:Int)-1:=w64 (by omega) (by omega)
  have w3:Int.tdiv ((m:Int)-1) 2=(((m-1) / 2:Nat):Int):=by
    cases m with
    | zero=>rfl
    | succ m=>
      have:((m+1:Nat):Int)-1=(m:Int):=by omega
      rw [this]; simp only [Nat.add_sub_cancel]
      rfl
  have w4:IntKind.wrap .i64 ((((m-1) / 2:Nat):Int))=(((m-1) / 2:Nat):Int):=wi rfl (by omega)
  rw [w2,w3,w4]
  unfold Sort.heapSort at h
  rw [hm] at h
  refine LoopP.by (J:=fun k (x:Int) hp=>∃ (d':Array Bd),x=(k:Int)-1∧hp=HA hp0 b 36 sp bdc d'∧d'.size=n∧k≤(m-1) / 2+1∧Sort.heapBuild (ltC cf) m lo k d'=Sort.heapBuild (ltC cf) m lo ((m-1) / 2+1) d) ?_
    (n:=(m-1) / 2+1) ⟨d,by omega,rfl,hs,Nat.le_refl _,rfl⟩
  rintro I k x hp ⟨d',rfl,rfl,hs',hk,he⟩ hI
  unfold F150_l5
  cases k with
  | succ k=>
    have e1:((k+1:Nat):Int)-1=(k:Int):=by omega
    rw [e1,decide_eq_true (by omega:(k:Int)≥0),ite2_true]
    refine S173 hc hs' (by omega) (by omega) hn ?_
    rw [w64 (by omega) (by omega)]
    rw [Sort.heapBuild] at he
    exact hI k _ _ (by omega) ⟨_,rfl,rfl,by rw [sift_size_bdc _ _ _ _ _ _ (Nat.le_refl _)]; exact hs',by omega,he⟩
  | zero=>
    rw [decide_eq_false (by omega:¬ (((0:Nat):Int)-1)≥0),ite2_false]
    rw [Sort.heapBuild] at he
    rw [← he] at h
    unfold F150_j1 F150_j2
    rw [w2]
    refine LoopP.by (J:=fun k (x:Int) hp=>∃ (d2:Array Bd),x=(k:Int)-1∧hp=HA hp0 b 36 sp bdc d2∧d2.size=n∧k≤m∧Sort.heapPop (ltC cf) lo k d2=Sort.heapPop (ltC cf) lo m d') ?_
      (n:=m) ⟨d',rfl,rfl,hs',Nat.le_refl _,rfl⟩
    rintro I2 k2 x2 hp2 ⟨d2,rfl,rfl,hs2,hk2,he2⟩ hI2
    unfold F150_l3
    cases k2 with
    | succ k=>
      have e1:((k+1:Nat):Int)-1=(k:Int):=by omega
      have v1:IntKind.wrap .i64 ((lo:Int)+(k:Int))=((lo+k:Nat):Int):=wi (by omega) (by omega)
      rw [e1,decide_eq_true (by omega:(k:Int)≥0),ite2_true,v1]
      refine swapP bdc_len bdc_one hs2 (i:=lo) (j:=lo+k) rfl rfl (by omega) (by omega) ?_
      have hz:(Value.int .i64 0)=Value.int .i64 ((0:Nat):Int):=rfl
      rw [hz]
      refine S173 hc (by rw [swp_size]; exact hs2) (by omega) (by omega) hn ?_
      rw [w64 (by omega) (by omega)]
      rw [Sort.heapPop] at he2
      exact hI2 k _ _ (by omega) ⟨_,rfl,rfl,by rw [sift_size_bdc _ _ _ _ _ _ (Nat.le_refl _),swp_size]; exact hs2,by omega,he2⟩
    | zero=>
      rw [decide_eq_false (by omega:¬ (((0:Nat):Int)-1)≥0),ite2_false]
      rw [Sort.heapPop] at he2
      rw [he2]; exact h
theorem S153 {v:Value} {d:Array Bd} {lo hi:Nat} {K:Value→HP→Prop} (hs:d.size=n) (hlo:lo<hi) (hf:hi≤n) (hn:n≤1000000000)
    (h:K (.tuple ⟨[]⟩) (HA hp0 b 36 sp bdc (Sort.reverseRange d lo hi))) :
    CF Tryd.prog 153 [.slice (some ⟨b,0,none⟩) n c,.int .i64 lo,.int .i64 hi,v] (HA hp0 b 36 sp bdc d) K:=by
  refine F153_ok _ n c lo hi _ _ K ?_
  unfold F153 F153_j1
  have w1:IntKind.wrap .i64 ((hi:Int)-1)=((hi-1:Nat):Int):=wi (by omega) (by omega)
  rw [w1]
  unfold Sort.reverseRange at h
  refine LoopP.by (J:=fun k (s:Int × Int) hp=>∃ (i j:Nat) (d':Array Bd),s=((i:Int),(j:Int))∧hp=HA hp0 b 36 sp bdc d'∧d'.size=n∧j<n∧k=j-i∧Sort.reverseLoop i j d'=Sort.reverseLoop lo (hi-1) d) ?_
    (n:=hi-1-lo) ⟨lo,hi-1,d,rfl,rfl,hs,by omega,rfl,rfl⟩
  rintro I k x hp ⟨i,j,d',rfl,rfl,hs',hj,rfl,he⟩ hI
  unfold F153_l2
  rw [Sort.reverseLoop] at he
  by_cases hij:i<j
  · rw [if_pos hij] at he
    simp only []
    rw [decide_eq_true (by omega:(i:Int)<(j:Int)),ite2_true]
    refine swapP bdc_len bdc_one hs' (i:=i) (j:=j) rfl rfl (by omega) (by omega) ?_
    have v1:IntKind.wrap .i64 ((i:Int)+1)=((i+1:Nat):Int):=wi (by omega) (by omega)
    have v2:IntKind.wrap .i64 ((j:Int)-1)=((j-1:Nat):Int):=wi (by omega) (by omega)
    rw [v1,v2]
    exact hI (j-1-(i+1)) _ _ (by omega) ⟨i+1,j-1,_,rfl,rfl,by rw [swp_size]; exact hs',by omega,rfl,he⟩
  · rw [if_neg hij] at he
    simp only []
    rw [decide_eq_false (by omega:¬ (i:Int)<(j:Int)),ite2_false,he]
    exact h
end
end Go.Proofs
set_option linter.unusedVariables false
set_option maxRecDepth 20000
namespace Go.Proofs
open Go Go.HL
section
variable {f:FuncId} {ga gb:List Value} {hp0:HP} {b sp n c:Nat} {cf:Bd→Bd→Int}
theorem S154 (hc:CmpOk Tryd.prog f ga gb hp0 b 36 sp bdc n cf) {d:Array Bd} {lo hi:Nat} {K:Value→HP→Prop} (hs:d.size=n) (hlo:lo<hi) (hf:hi≤n) (hn:n≤1000000000)
    (h:K (.bool (Sort.partialInsertionSort (ltC cf) d lo hi).2) (HA hp0 b 36 sp bdc (Sort.partialInsertionSort (ltC cf) d lo hi).1)) :
    CF Tryd.prog 154 [.slice (some ⟨b,0,none⟩) n c,.int .i64 lo,.int .i64 hi,.func (.func f) ⟨ga⟩ ⟨gb⟩] (HA hp0 b 36 sp bdc d) K:=by
  refine F154_ok _ n c lo hi _ _ K ?_
  unfold F154 F154_j1
  have w1:IntKind.wrap .i64 ((lo:Int)+1)=((lo+1:Nat):Int):=wi (by omega) (by omega)
  rw [w1]
  generalize hR:Sort.partialInsertionSort (ltC cf) d lo hi=R at h
  unfold Sort.partialInsertionSort at hR
  refine LoopP.by (J:=fun k (s:Int × Int) hp=>∃ (i:Nat) (d':Array Bd),s=((i:Int),5-(k:Int))∧k≤5∧hp=HA hp0 b 36 sp bdc d'∧d'.size=n∧lo<i∧i≤hi∧Sort.partialIns (ltC cf) lo hi k i d'=R) ?_
    (n:=5) ⟨lo+1,d,rfl,Nat.le_refl _,rfl,hs,by omega,by omega,hR⟩
  rintro I k x hp ⟨i,d',rfl,hk5,rfl,hs',hli,hih,he⟩ hI
  unfold F154_l2
  simp only []
  cases k with
  | zero=>
    rw [decide_eq_false (by omega:¬ (5-((0:Nat):Int))<5),ite2_false]
    rw [Sort.partialIns] at he
    rw [← he] at h
    exact h
  | succ k=>
    rw [decide_eq_true (by omega:(5-((k+1:Nat):Int))<5),ite2_true]
    rw [Sort.partialIns_succ] at he
    unfold F154_j3
    have fin4:∀ (i:Nat) (d3:Array Bd),lo<i→i≤hi→d3.size=n→Sort.partialIns (ltC cf) lo hi k i d3=R →
        F154_j4 (some ⟨b,0,none⟩) n c lo hi (.func (.func f) ⟨ga⟩ ⟨gb⟩) i (5-((k+1:Nat):Int)) (HA hp0 b 36 sp bdc d3) I K:=by
      intro i d3 h1 h2 h3 h4
      unfold F154_j4
      have:IntKind.wrap .i64 (5-((k+1:Nat):Int)+1)=5-(k:Int):=by rw [w64 (by omega) (by omega)]; omega
      rw [this]
      exact hI k _ _ (by omega) ⟨i,d3,rfl,by omega,rfl,h3,h1,h2,h4⟩
    have fin6:∀ (i:Nat) (d2:Array Bd),lo<i→i<hi→d2.size=n→Sort.partialIns (ltC cf) lo hi k i (Sort.fixUp (ltC cf) hi i d2)=R →
        F154_j6 (some ⟨b,0,none⟩) n c lo hi (.func (.func f) ⟨ga⟩ ⟨gb⟩) i (5-((k+1:Nat):Int)) (HA hp0 b 36 sp bdc d2) I K:=by
      intro i d2 h1 h2 h3 h4
      unfold F154_j6
      have v:IntKind.wrap .i64 ((hi:Int)-(i:Int))=((hi-i:Nat):Int):=wi (by omega) (by omega)
      rw [v]
      unfold Sort.fixUp at h4
      by_cases h2':hi-i≥2
      · rw [if_pos h2'] at h4
        rw [decide_eq_true (by omega:((hi-i:Nat):Int)≥2),ite2_true]
        unfold F154_j7
        have v1:IntKind.wrap .i64 ((i:Int)+1)=((i+1:Nat):Int):=wi (by omega) (by omega)
        rw [v1]
        refine LoopP.by (J:=fun m (y:Int) hp=>∃ (j:Nat) (d3:Array Bd),y=j∧hp=HA hp0 b 36 sp bdc d3∧d3.size=n∧i<j∧m=hi-j∧Sort.shiftUp (ltC cf) hi j d3=Sort.shiftUp (ltC cf) hi (i+1) d2) ?_
          (n:=hi-(i+1)) ⟨i+1,d2,rfl,rfl,h3,by omega,rfl,rfl⟩
        rintro I8 m y hp ⟨j,d3,rfl,rfl,h5,h6,rfl,h7⟩ hI8
        unfold F154_l8
        rw [Sort.shiftUp] at h7
        by_cases hj:j<hi
        · rw [if_pos hj] at h7
          have v2:IntKind.wrap .i64 ((j:Int)-1)=((j-1:Nat):Int):=wi (by omega) (by omega)
          have v3:IntKind.wrap .i64 ((j:Int)+1)=((j+1:Nat):Int):=wi (by omega) (by omega)
          simp only [v2,v3]
          rw [decide_eq_true (by omega:(j:Int)<(hi:Int)),ite2_true]
          refine cmpP hc bdc_len h5 (i:=j) (j:=j-1) rfl rfl (by omega) (by omega) ?_
          have hl:decide (cf d3[j]! d3[j-1]!<0)=ltC cf d3[j]! d3[j-1]! := rfl
          rw [hl]
          cases hlt:ltC cf d3[j]! d3[j-1]!
          · rw [hlt] at h7
            simp only [Bool.not_false,if_true] at h7
            simp only [Bool.not_false,ite2_true]
            rw [← h7] at h4
            exact fin4 i d3 h1 (by omega) h5 h4
          · rw [hlt] at h7
            simp only [Bool.not_true,Bool.false_eq_true,if_false] at h7
            simp only [Bool.not_true,ite2_false]
            refine swapP bdc_len bdc_one h5 (i:=j) (j:=j-1) rfl rfl (by omega) (by omega) ?_
            exact hI8 (hi-(j+1)) _ _ (by omega) ⟨j+1,_,rfl,rfl,by rw [swp_size]; exact h5,by omega,rfl,h7⟩
        · rw [if_neg hj] at h7
          rw [decide_eq_false (by omega:¬ (j:Int)<(hi:Int)),ite2_false]
          rw [← h7] at h4
          exact fin4 i d3 h1 (by omega) h5 h4
      · rw [if_neg h2'] at h4
        rw [decide_eq_false (by omega:¬ ((hi-i:Nat):Int)≥2),ite2_false]
        exact fin4 i d2 h1 (by omega) h3 h4
    have fin5:∀ (i:Nat),lo<i→i≤hi→Sort.scanSorted (ltC cf) d' hi i=i →
        (if i=hi then (d',true) else if hi-lo<50 then (d',false) else Sort.partialIns (ltC cf) lo hi k i (Sort.fixUp (ltC cf) hi i (Sort.fixDown (ltC cf) lo i (Sort.swp d' i (i-1)))))=R →
        F154_j5 (some ⟨b,0,none⟩) n c lo hi (.func (.func f) ⟨ga⟩ ⟨gb⟩) i (5-((k+1:Nat):Int)) (HA hp0 b 36 sp bdc d') I K:=by
      intro i h1 h2 _ h4
      unfold F154_j5
      by_cases hih:i=hi
      · rw [if_pos hih] at h4
        subst hih
        simp only [beq_self_eq_true,ite2_true]
        rw [← h4] at h
        exact h
      rw [if_neg hih] at h4
      have hb:((i:Int)==(hi:Int))=false:=by
        rw [beq_eq_false_iff_ne]; omega
      rw [hb,ite2_false]
      have v:IntKind.wrap .i64 ((hi:Int)-(lo:Int))=((hi-lo:Nat):Int):=wi (by omega) (by omega)
      rw [v]
      by_cases h50:hi-lo<50
      · rw [if_pos h50] at h4
        rw [decide_eq_true (by omega:((hi-lo:Nat):Int)<50),ite2_true]
        rw [← h4] at h
        exact h
      rw [if_neg h50] at h4
      rw [decide_eq_false (by omega:¬ ((hi-lo:Nat):Int)<50),ite2_false]
      have v2:IntKind.wrap .i64 ((i:Int)-1)=((i-1:Nat):Int):=wi (by omega) (by omega)
      have v3:IntKind.wrap .i64 ((i:Int)-(lo:Int))=((i-lo:Nat):Int):=wi (by omega) (by omega)
      simp only [v2,v3]
      refine swapP bdc_len bdc_one hs' (i:=i) (j:=i-1) rfl rfl (by omega) (by omega) ?_
      have hs1:(Sort.swp d' i (i-1)).size=n:=by rw [swp_size]; exact hs'
      generalize Sort.swp d' i (i-1)=d1 at *
      unfold Sort.fixDown at h4
      by_cases hd:i-lo≥2
      · rw [if_pos hd] at h4
        rw [decide_eq_true (by omega:((i-lo:Nat):Int)≥2),ite2_true]
        unfold F154_j9
        refine LoopP.by (J:=fun m (y:Int) hp=>∃ (d2:Array Bd),y=m∧hp=HA hp0 b 36 sp bdc d2∧d2.size=n∧m<n∧Sort.shiftDown (ltC cf) m d2=Sort.shiftDown (ltC cf) (i-1) d1) ?_
          (n:=i-1) ⟨d1,rfl,rfl,hs1,by omega,rfl⟩
        rintro I10 m y hp ⟨d2,rfl,rfl,h5,h6,h7⟩ hI10
        unfold F154_l10
        cases m with
        | zero=>
          rw [Sort.shiftDown] at h7
          rw [decide_eq_false (by omega:¬ ((0:Nat):Int)≥1),ite2_false]
          rw [← h7] at h4
          exact fin6 i d2 h1 (by omega) h5 h4
        | succ m=>
          rw [Sort.shiftDown] at h7
          have v4:IntKind.wrap .i64 (((m+1:Nat):Int)-1)=(m:Int):=wi (by omega) (by omega)
          simp only [v4]
          rw [decide_eq_true (by omega:((m+1:Nat):Int)≥1),ite2_true]
          refine cmpP hc bdc_len h5 (i:=m+1) (j:=m) rfl rfl (by omega) (by omega) ?_
          have hl:decide (cf d2[m+1]! d2[m]!<0)=ltC cf d2[m+1]! d2[m]! := rfl
          rw [hl]
          cases hlt:ltC cf d2[m+1]! d2[m]!
          · rw [hlt] at h7
            simp only [Bool.not_false,if_true] at h7
            simp only [Bool.not_false,ite2_true]
            rw [← h7] at h4
            exact fin6 i d2 h1 (by omega) h5 h4
          · rw [hlt] at h7
            simp only [Bool.not_true,Bool.false_eq_true,if_false] at h7
            simp only [Bool.not_true,ite2_false]
            refine swapP bdc_len bdc_one h5 (i:=m+1) (j:=m) rfl rfl (by omega) (by omega) ?_
            exact hI10 m _ _ (by omega) ⟨_,rfl,rfl,by rw [swp_size]; exact h5,by omega,h7⟩
      · rw [if_neg hd] at h4
        rw [decide_eq_false (by omega:¬ ((i-lo:Nat):Int)≥2),ite2_false]
        exact fin6 i d1 h1 (by omega) hs1 h4
    refine LoopP.by (J:=fun m (y:Int) hp=>∃ (i':Nat),y=i'∧hp=HA hp0 b 36 sp bdc d'∧lo<i'∧i'≤hi∧m=hi-i'∧Sort.scanSorted (ltC cf) d' hi i'=Sort.scanSorted (ltC cf) d' hi i) ?_
      (n:=hi-i) ⟨i,rfl,rfl,hli,hih,rfl,rfl⟩
    rintro I11 m y hp ⟨i',rfl,rfl,h1,h2,rfl,h7⟩ hI11
    unfold F154_l11
    rw [← h7] at he
    have out:Sort.scanSorted (ltC cf) d' hi i'=i'→F154_j12 (some ⟨b,0,none⟩) n c lo hi (.func (.func f) ⟨ga⟩ ⟨gb⟩) i' (5-((k+1:Nat):Int)) false (HA hp0 b 36 sp bdc d') I I11 K:=by
      intro hq
      unfold F154_j12
      rw [ite2_false]
      rw [hq] at he
      exact fin5 i' h1 h2 hq he
    by_cases hj:i'<hi
    · have v2:IntKind.wrap .i64 ((i':Int)-1)=((i' - 1:Nat):Int):=wi (by omega) (by omega)
      simp only [v2]
      rw [decide_eq_true (by omega:(i':Int)<(hi:Int)),ite2_true]
      refine cmpP hc bdc_len hs' (i:=i') (j:=i' - 1) rfl rfl (by omega) (by omega) ?_
      have hl:decide (cf d'[i']! d'[i' - 1]!<0)=ltC cf d'[i']! d'[i' - 1]! := rfl
      rw [hl]
      cases hlt:ltC cf d'[i']! d'[i' - 1]!
      · unfold F154_j12
        have v3:IntKind.wrap .i64 ((i':Int)+1)=((i'+1:Nat):Int):=wi (by omega) (by omega)
        simp only [Bool.not_false,ite2_true,v3]
        refine hI11 (hi-(i'+1)) _ _ (by omega) ⟨i'+1,rfl,rfl,by omega,by omega,rfl,?_⟩
        rw [← h7]
        rw [Sort.scanSorted.eq_def (ltC cf) d' hi i',hlt,decide_eq_true hj]
        simp
      · simp only [Bool.not_true]
        refine out ?_
        rw [Sort.scanSorted,hlt]
        simp
    · rw [decide_eq_false (by omega:¬ (i':Int)<(hi:Int)),ite2_false]
      refine out ?_
      rw [Sort.scanSorted,decide_eq_false hj]
      simp
end
end Go.Proofs
set_option linter.unusedVariables false
set_option maxRecDepth 20000
namespace Go.Proofs
open Go Go.HL
section
variable {f:FuncId} {ga gb:List Value} {hp0:HP} {b sp n c:Nat} {cf:Bd→Bd→Int}
theorem S155 (hc:CmpOk Tryd.prog f ga gb hp0 b 36 sp bdc n cf) {d:Array Bd} {lo hi pv:Nat} {K:Value→HP→Prop} (hs:d.size=n) (hlo:lo<hi) (hf:hi≤n) (hp:pv<n) (hn:n≤1000000000)
    (h:K (.int .i64 ((Sort.partitionEqual (ltC cf) d lo hi pv).1:Nat)) (HA hp0 b 36 sp bdc (Sort.partitionEqual (ltC cf) d lo hi pv).2)) :
    CF Tryd.prog 155 [.slice (some ⟨b,0,none⟩) n c,.int .i64 lo,.int .i64 hi,.int .i64 pv,.func (.func f) ⟨ga⟩ ⟨gb⟩] (HA hp0 b 36 sp bdc d) K:=by
  refine F155_ok _ n c lo hi pv _ _ K ?_
  unfold F155
  refine swapP bdc_len bdc_one hs (i:=lo) (j:=pv) rfl rfl (by omega) (by omega) ?_
  unfold Sort.partitionEqual at h
  have hs1:(Sort.swp d lo pv).size=n:=by rw [swp_size]; exact hs
  generalize Sort.swp d lo pv=d1 at *
  have w1:IntKind.wrap .i64 ((lo:Int)+1)=((lo+1:Nat):Int):=wi (by omega) (by omega)
  have w2:IntKind.wrap .i64 ((hi:Int)-1)=((hi-1:Nat):Int):=wi (by omega) (by omega)
  rw [w1,w2]
  generalize hR:Sort.partEqLoop (ltC cf) lo (lo+1) (hi-1) d1=R at h
  unfold F155_j1
  refine LoopP.by (J:=fun k (s:Int × Int) hp=>∃ (i j:Nat) (d':Array Bd),s=((i:Int),(j:Int))∧hp=HA hp0 b 36 sp bdc d'∧d'.size=n∧lo<i∧i≤j+2∧j<n∧k=j+1-i∧Sort.partEqLoop (ltC cf) lo i j d'=R) ?_
    (n:=hi-1+1-(lo+1)) ⟨lo+1,hi-1,d1,rfl,rfl,hs1,by omega,by omega,by omega,rfl,hR⟩
  rintro I k x hp ⟨i,j,d',rfl,rfl,hs',hli,hij,hj,rfl,he⟩ hI
  unfold F155_l3
  simp only []
  rw [Sort.partEqLoop_eq] at he
  refine LoopP.by (J:=fun m (y:Int) hp=>∃ (i':Nat),y=i'∧hp=HA hp0 b 36 sp bdc d'∧i≤i'∧i'≤j+2∧m=j+2-i'∧Sort.scanUp (fun x=>!ltC cf d'[lo]! x) d' j i'=Sort.scanUp (fun x=>!ltC cf d'[lo]! x) d' j i) ?_
    (n:=j+2-i) ⟨i,rfl,rfl,Nat.le_refl _,hij,rfl,rfl⟩
  rintro I8 m y hp ⟨i',rfl,rfl,h1,h2,rfl,h7⟩ hI8
  unfold F155_l8
  rw [← h7] at he
  have out:Sort.scanUp (fun x=>!ltC cf d'[lo]! x) d' j i'=i'→F155_j9 (some ⟨b,0,none⟩) n c lo (.func (.func f) ⟨ga⟩ ⟨gb⟩) i' j false (HA hp0 b 36 sp bdc d') I I8 K:=by
    intro hq
    rw [hq] at he
    unfold F155_j9 F155_j4
    rw [ite2_false]
    refine LoopP.by (J:=fun m (y:Int) hp=>∃ (j':Nat),y=j'∧hp=HA hp0 b 36 sp bdc d'∧j'≤j∧m=j'∧Sort.scanDown (fun x=>ltC cf d'[lo]! x) d' i' j'=Sort.scanDown (fun x=>ltC cf d'[lo]! x) d' i' j) ?_
      (n:=j) ⟨j,rfl,rfl,Nat.le_refl _,rfl,rfl⟩
    rintro I6 m y hp ⟨j',rfl,rfl,g1,rfl,g7⟩ hI6
    unfold F155_l6
    rw [← g7] at he
    have out2:Sort.scanDown (fun x=>ltC cf d'[lo]! x) d' i' m=m→F155_j7 (some ⟨b,0,none⟩) n c lo (.func (.func f) ⟨ga⟩ ⟨gb⟩) i' m false (HA hp0 b 36 sp bdc d') I I6 K:=by
      intro hq2
      rw [hq2] at he
      unfold F155_j7 F155_j5
      rw [ite2_false]
      by_cases hgt:i' > m
      · rw [if_pos hgt] at he
        rw [decide_eq_true (by omega:(i':Int) > (m:Int)),ite2_true]
        unfold F155_j2
        rw [← he] at h
        exact h
      · rw [if_neg hgt] at he
        rw [decide_eq_false (by omega:¬ (i':Int) > (m:Int)),ite2_false]
        refine swapP bdc_len bdc_one hs' (i:=i') (j:=m) rfl rfl (by omega) (by omega) ?_
        have v1:IntKind.wrap .i64 ((i':Int)+1)=((i'+1:Nat):Int):=wi (by omega) (by omega)
        have v2:IntKind.wrap .i64 ((m:Int)-1)=((m-1:Nat):Int):=wi (by omega) (by omega)
        rw [v1,v2]
        exact hI (m-1+1-(i'+1)) _ _ (by omega) ⟨i'+1,m-1,_,rfl,rfl,by rw [swp_size]; exact hs',by omega,by omega,by omega,rfl,he⟩
    by_cases hle:i'≤m
    · rw [decide_eq_true (by omega:(i':Int)≤(m:Int)),ite2_true]
      refine cmpP hc bdc_len hs' (i:=lo) (j:=m) rfl rfl (by omega) (by omega) ?_
      have hl:decide (cf d'[lo]! d'[m]!<0)=ltC cf d'[lo]! d'[m]! := rfl
      rw [hl]
      obtain ⟨m,rfl⟩:∃ m',m=m'+1:=⟨m-1,by omega⟩
      cases hlt:ltC cf d'[lo]! d'[m+1]!
      · refine out2 ?_
        rw [Sort.scanDown,hlt]
        simp
      · unfold F155_j7
        have v2:IntKind.wrap .i64 (((m+1:Nat):Int)-1)=(m:Int):=wi (by omega) (by omega)
        rw [ite2_true,v2]
        refine hI6 m _ _ (by omega) ⟨m,rfl,rfl,by omega,rfl,?_⟩
        rw [← g7,Sort.scanDown.eq_def _ _ _ (m+1)]
        simp only [hlt,decide_eq_true hle,Bool.and_self,if_true]
    · rw [decide_eq_false (by omega:¬ (i':Int)≤(m:Int)),ite2_false]
      refine out2 ?_
      cases m with
      | zero=>rw [Sort.scanDown]
      | succ m=>rw [Sort.scanDown,decide_eq_false hle]; simp
  by_cases hle:i'≤j
  · rw [decide_eq_true (by omega:(i':Int)≤(j:Int)),ite2_true]
    refine cmpP hc bdc_len hs' (i:=lo) (j:=i') rfl rfl (by omega) (by omega) ?_
    have hl:decide (cf d'[lo]! d'[i']!<0)=ltC cf d'[lo]! d'[i']! := rfl
    rw [hl]
    cases hlt:ltC cf d'[lo]! d'[i']!
    · unfold F155_j9
      have v2:IntKind.wrap .i64 ((i':Int)+1)=((i'+1:Nat):Int):=wi (by omega) (by omega)
      simp only [Bool.not_false,ite2_true,v2]
      refine hI8 (j+2-(i'+1)) _ _ (by omega) ⟨i'+1,rfl,rfl,by omega,by omega,rfl,?_⟩
      rw [← h7,Sort.scanUp.eq_def _ _ _ i']
      simp only [hlt,decide_eq_true hle,Bool.not_false,Bool.and_self,if_true]
    · simp only [Bool.not_true]
      refine out ?_
      rw [Sort.scanUp,hlt]
      simp
  · rw [decide_eq_false (by omega:¬ (i':Int)≤(j:Int)),ite2_false]
    refine out ?_
    rw [Sort.scanUp,decide_eq_false hle]
    simp
end
end Go.Proofs
set_option linter.unusedVariables false
set_option maxRecDepth 20000
namespace Go.Proofs
open Go Go.HL
section
variable {f:FuncId} {ga gb:List Value} {hp0:HP} {b sp n c:Nat} {cf:Bd→Bd→Int}
theorem S156 (hc:CmpOk Tryd.prog f ga gb hp0 b 36 sp bdc n cf) {d:Array Bd} {lo hi pv:Nat} {K:Value→HP→Prop} (hs:d.size=n) (hlo:lo<hi) (hf:hi≤n) (hp:pv<n) (hn:n≤1000000000)
    (h:K (.tuple ⟨[.int .i64 ((Sort.partition (ltC cf) d lo hi pv).1:Nat),.bool (Sort.partition (ltC cf) d lo hi pv).2.1]⟩) (HA hp0 b 36 sp bdc (Sort.partition (ltC cf) d lo hi pv).2.2)) :
    CF Tryd.prog 156 [.slice (some ⟨b,0,none⟩) n c,.int .i64 lo,.int .i64 hi,.int .i64 pv,.func (.func f) ⟨ga⟩ ⟨gb⟩] (HA hp0 b 36 sp bdc d) K:=by
  refine F156_ok _ n c lo hi pv _ _ K ?_
  unfold F156
  refine swapP bdc_len bdc_one hs (i:=lo) (j:=pv) rfl rfl (by omega) (by omega) ?_
  unfold Sort.partition at h
  have hs':(Sort.swp d lo pv).size=n:=by rw [swp_size]; exact hs
  generalize Sort.swp d lo pv=d' at *
  have w1:IntKind.wrap .i64 ((lo:Int)+1)=((lo+1:Nat):Int):=wi (by omega) (by omega)
  have w2:IntKind.wrap .i64 ((hi:Int)-1)=((hi-1:Nat):Int):=wi (by omega) (by omega)
  rw [w1,w2]
  simp only [] at h
  have hij:lo+1≤hi-1+2:=by omega
  have hjn:hi-1<n:=by omega
  have hli:lo<lo+1:=by omega
  generalize hi0:lo+1=i at *
  generalize hj0:hi-1=j at *
  unfold F156_j1
  have fin:∀ (i' m:Nat),Sort.scanUp (fun x=>ltC cf x d'[lo]!) d' j i=i'→Sort.scanDown (fun x=>!ltC cf x d'[lo]!) d' i' j=m→i≤i'→i'≤j+2→m≤j→F156_j3 (some ⟨b,0,none⟩) n c lo (.func (.func f) ⟨ga⟩ ⟨gb⟩) i' m (HA hp0 b 36 sp bdc d') K:=by
    intro i' m hq hq2 h1 h2 h3
    rw [hq,hq2] at h
    unfold F156_j3
    by_cases hgt:i' > m
    · rw [if_pos hgt] at h
      rw [decide_eq_true (by omega:(i':Int) > (m:Int)),ite2_true]
      refine swapP bdc_len bdc_one hs' (i:=m) (j:=lo) rfl rfl (by omega) (by omega) ?_
      exact h
    rw [if_neg hgt] at h
    rw [decide_eq_false (by omega:¬ (i':Int) > (m:Int)),ite2_false]
    refine swapP bdc_len bdc_one hs' (i:=i') (j:=m) rfl rfl (by omega) (by omega) ?_
    have v1:IntKind.wrap .i64 ((i':Int)+1)=((i'+1:Nat):Int):=wi (by omega) (by omega)
    have v2:IntKind.wrap .i64 ((m:Int)-1)=((m-1:Nat):Int):=wi (by omega) (by omega)
    rw [v1,v2]
    have hs2:(Sort.swp d' i' m).size=n:=by rw [swp_size]; exact hs'
    generalize Sort.swp d' i' m=d2 at *
    generalize hR:Sort.partLoop (ltC cf) lo (i'+1) (m-1) d2=R at h
    unfold F156_j4
    refine LoopP.by (J:=fun k (s:Int × Int) hp=>∃ (i j:Nat) (d':Array Bd),s=((i:Int),(j:Int))∧hp=HA hp0 b 36 sp bdc d'∧d'.size=n∧lo<i∧i≤j+2∧j<n∧k=j+1-i∧Sort.partLoop (ltC cf) lo i j d'=R) ?_
      (n:=m-1+1-(i'+1)) ⟨i'+1,m-1,d2,rfl,rfl,hs2,by omega,by omega,by omega,rfl,hR⟩
    clear hs' hij hjn hli hq hq2 h1 h2 h3 hR
    clear hi0 hj0
    rintro I6 k x hp ⟨i,j,d',rfl,rfl,hs',hli,hij,hj,rfl,he⟩ hI
    unfold F156_l6
    simp only []
    rw [Sort.partLoop_eq] at he
    have fin2:∀ (i' m:Nat),Sort.scanUp (fun x=>ltC cf x d'[lo]!) d' j i=i'→Sort.scanDown (fun x=>!ltC cf x d'[lo]!) d' i' j=m→i≤i'→i'≤j+2→m≤j→F156_j8 (some ⟨b,0,none⟩) n c lo (.func (.func f) ⟨ga⟩ ⟨gb⟩) i' m (HA hp0 b 36 sp bdc d') I6 K:=by
      intro i' m hq hq2 h1 h2 h3
      rw [hq,hq2] at he
      unfold F156_j8
      by_cases hgt:i' > m
      · rw [if_pos hgt] at he
        rw [decide_eq_true (by omega:(i':Int) > (m:Int)),ite2_true]
        unfold F156_j5
        rw [← he] at h
        refine swapP bdc_len bdc_one hs' (i:=m) (j:=lo) rfl rfl (by omega) (by omega) ?_
        exact h
      · rw [if_neg hgt] at he
        rw [decide_eq_false (by omega:¬ (i':Int) > (m:Int)),ite2_false]
        refine swapP bdc_len bdc_one hs' (i:=i') (j:=m) rfl rfl (by omega) (by omega) ?_
        have v1:IntKind.wrap .i64 ((i':Int)+1)=((i'+1:Nat):Int):=wi (by omega) (by omega)
        have v2:IntKind.wrap .i64 ((m:Int)-1)=((m-1:Nat):Int):=wi (by omega) (by omega)
        rw [v1,v2]
        exact hI (m-1+1-(i'+1)) _ _ (by omega) ⟨i'+1,m-1,_,rfl,rfl,by rw [swp_size]; exact hs',by omega,by omega,by omega,rfl,he⟩
    clear he
    refine LoopP.by (J:=fun m (y:Int) hp=>∃ (i':Nat),y=i'∧hp=HA hp0 b 36 sp bdc d'∧i≤i'∧i'≤j+2∧m=j+2-i'∧Sort.scanUp (fun x=>ltC cf x d'[lo]!) d' j i'=Sort.scanUp (fun x=>ltC cf x d'[lo]!) d' j i) ?_
      (n:=j+2-i) ⟨i,rfl,rfl,Nat.le_refl _,hij,rfl,rfl⟩
    rintro I11 m y hp ⟨i',rfl,rfl,h1,h2,rfl,h7⟩ hI11
    unfold F156_l11
    have out:Sort.scanUp (fun x=>ltC cf x d'[lo]!) d' j i'=i'→F156_j12 (some ⟨b,0,none⟩) n c lo (.func (.func f) ⟨ga⟩ ⟨gb⟩) i' j false (HA hp0 b 36 sp bdc d') I6 I11 K:=by
      intro hq
      rw [hq] at h7
      unfold F156_j12 F156_j7
      rw [ite2_false]
      refine LoopP.by (J:=fun m (y:Int) hp=>∃ (j':Nat),y=j'∧hp=HA hp0 b 36 sp bdc d'∧j'≤j∧m=j'∧Sort.scanDown (fun x=>!ltC cf x d'[lo]!) d' i' j'=Sort.scanDown (fun x=>!ltC cf x d'[lo]!) d' i' j) ?_
        (n:=j) ⟨j,rfl,rfl,Nat.le_refl _,rfl,rfl⟩
      rintro I9 m y hp ⟨j',rfl,rfl,g1,rfl,g7⟩ hI9
      unfold F156_l9
      have out2:Sort.scanDown (fun x=>!ltC cf x d'[lo]!) d' i' m=m→F156_j10 (some ⟨b,0,none⟩) n c lo (.func (.func f) ⟨ga⟩ ⟨gb⟩) i' m false (HA hp0 b 36 sp bdc d') I6 I9 K:=by
        intro hq2
        rw [hq2] at g7
        unfold F156_j10
        rw [ite2_false]
        exact fin2 i' m h7.symm g7.symm h1 h2 g1
      by_cases hle:i'≤m
      · rw [decide_eq_true (by omega:(i':Int)≤(m:Int)),ite2_true]
        refine cmpP hc bdc_len hs' (i:=m) (j:=lo) rfl rfl (by omega) (by omega) ?_
        have hl:decide (cf d'[m]! d'[lo]!<0)=ltC cf d'[m]! d'[lo]! := rfl
        rw [hl]
        obtain ⟨m,rfl⟩:∃ m',m=m'+1:=⟨m-1,by omega⟩
        cases hlt:ltC cf d'[m+1]! d'[lo]!
        · unfold F156_j10
          have v2:IntKind.wrap .i64 (((m+1:Nat):Int)-1)=(m:Int):=wi (by omega) (by omega)
          simp only [Bool.not_false,ite2_true,v2]
          refine hI9 m _ _ (by omega) ⟨m,rfl,rfl,by omega,rfl,?_⟩
          rw [← g7,Sort.scanDown.eq_def _ _ _ (m+1)]
          simp only [hlt,decide_eq_true hle,Bool.not_false,Bool.and_self,if_true]
        · simp only [Bool.not_true]
          refine out2 ?_
          rw [Sort.scanDown,hlt]
          simp
      · rw [decide_eq_false (by omega:¬ (i':Int)≤(m:Int)),ite2_false]
        refine out2 ?_
        cases m with
        | zero=>rw [Sort.scanDown]
        | succ m=>rw [Sort.scanDown,decide_eq_false hle]; simp
    by_cases hle:i'≤j
    · rw [decide_eq_true (by omega:(i':Int)≤(j:Int)),ite2_true]
      refine cmpP hc bdc_len hs' (i:=i') (j:=lo) rfl rfl (by omega) (by omega) ?_
      have hl:decide (cf d'[i']! d'[lo]!<0)=ltC cf d'[i']! d'[lo]! := rfl
      rw [hl]
      cases hlt:ltC cf d'[i']! d'[lo]!
      · refine out ?_
        rw [Sort.scanUp,hlt]
        simp
      · unfold F156_j12
        have v2:IntKind.wrap .i64 ((i':Int)+1)=((i'+1:Nat):Int):=wi (by omega) (by omega)
        simp only [ite2_true,v2]
        refine hI11 (j+2-(i'+1)) _ _ (by omega) ⟨i'+1,rfl,rfl,by omega,by omega,rfl,?_⟩
        rw [← h7,Sort.scanUp.eq_def _ _ _ i']
        simp only [hlt,decide_eq_true hle,Bool.and_self,if_true]
    · rw [decide_eq_false (by omega:¬ (i':Int)≤(j:Int)),ite2_false]
      refine out ?_
      rw [Sort.scanUp,decide_eq_false hle]
      simp
  refine LoopP.by (J:=fun m (y:Int) hp=>∃ (i':Nat),y=i'∧hp=HA hp0 b 36 sp bdc d'∧i≤i'∧i'≤j+2∧m=j+2-i'∧Sort.scanUp (fun x=>ltC cf x d'[lo]!) d' j i'=Sort.scanUp (fun x=>ltC cf x d'[lo]!) d' j i) ?_
    (n:=j+2-i) ⟨i,rfl,rfl,Nat.le_refl _,hij,rfl,rfl⟩
  rintro I15 m y hp ⟨i',rfl,rfl,h1,h2,rfl,h7⟩ hI15
  unfold F156_l15
  have out:Sort.scanUp (fun x=>ltC cf x d'[lo]!) d' j i'=i'→F156_j16 (some ⟨b,0,none⟩) n c lo (.func (.func f) ⟨ga⟩ ⟨gb⟩) i' j false (HA hp0 b 36 sp bdc d')  I15 K:=by
    intro hq
    rw [hq] at h7
    unfold F156_j16 F156_j2
    rw [ite2_false]
    refine LoopP.by (J:=fun m (y:Int) hp=>∃ (j':Nat),y=j'∧hp=HA hp0 b 36 sp bdc d'∧j'≤j∧m=j'∧Sort.scanDown (fun x=>!ltC cf x d'[lo]!) d' i' j'=Sort.scanDown (fun x=>!ltC cf x d'[lo]!) d' i' j) ?_
      (n:=j) ⟨j,rfl,rfl,Nat.le_refl _,rfl,rfl⟩
    rintro I13 m y hp ⟨j',rfl,rfl,g1,rfl,g7⟩ hI13
    unfold F156_l13
    have out2:Sort.scanDown (fun x=>!ltC cf x d'[lo]!) d' i' m=m→F156_j14 (some ⟨b,0,none⟩) n c lo (.func (.func f) ⟨ga⟩ ⟨gb⟩) i' m false (HA hp0 b 36 sp bdc d')  I13 K:=by
      intro hq2
      rw [hq2] at g7
      unfold F156_j14
      rw [ite2_false]
      exact fin i' m h7.symm g7.symm h1 h2 g1
    by_cases hle:i'≤m
    · rw [decide_eq_true (by omega:(i':Int)≤(m:Int)),ite2_true]
      refine cmpP hc bdc_len hs' (i:=m) (j:=lo) rfl rfl (by omega) (by omega) ?_
      have hl:decide (cf d'[m]! d'[lo]!<0)=ltC cf d'[m]! d'[lo]! := rfl
      rw [hl]
      obtain ⟨m,rfl⟩:∃ m',m=m'+1:=⟨m-1,by omega⟩
      cases hlt:ltC cf d'[m+1]! d'[lo]!
      · unfold F156_j14
        have v2:IntKind.wrap .i64 (((m+1:Nat):Int)-1)=(m:Int):=wi (by omega) (by omega)
        simp only [Bool.not_false,ite2_true,v2]
        refine hI13 m _ _ (by omega) ⟨m,rfl,rfl,by omega,rfl,?_⟩
        rw [← g7,Sort.scanDown.eq_def _ _ _ (m+1)]
        simp only [hlt,decide_eq_true hle,Bool.not_false,Bool.and_self,if_true]
      · simp only [Bool.not_true]
        refine out2 ?_
        rw [Sort.scanDown,hlt]
        simp
    · rw [decide_eq_false (by omega:¬ (i':Int)≤(m:Int)),ite2_false]
      refine out2 ?_
      cases m with
      | zero=>rw [Sort.scanDown]
      | succ m=>rw [Sort.scanDown,decide_eq_false hle]; simp
  by_cases hle:i'≤j
  · rw [decide_eq_true (by omega:(i':Int)≤(j:Int)),ite2_true]
    refine cmpP hc bdc_len hs' (i:=i') (j:=lo) rfl rfl (by omega) (by omega) ?_
    have hl:decide (cf d'[i']! d'[lo]!<0)=ltC cf d'[i']! d'[lo]! := rfl
    rw [hl]
    cases hlt:ltC cf d'[i']! d'[lo]!
    · refine out ?_
      rw [Sort.scanUp,hlt]
      simp
    · unfold F156_j16
      have v2:IntKind.wrap .i64 ((i':Int)+1)=((i'+1:Nat):Int):=wi (by omega) (by omega)
      simp only [ite2_true,v2]
      refine hI15 (j+2-(i'+1)) _ _ (by omega) ⟨i'+1,rfl,rfl,by omega,by omega,rfl,?_⟩
      rw [← h7,Sort.scanUp.eq_def _ _ _ i']
      simp only [hlt,decide_eq_true hle,Bool.and_self,if_true]
  · rw [decide_eq_false (by omega:¬ (i':Int)≤(j:Int)),ite2_false]
    refine out ?_
    rw [Sort.scanUp,decide_eq_false hle]
    simp
end
end Go.Proofs
set_option linter.unusedVariables false
set_option maxRecDepth 20000
namespace Go.Proofs
open Go Go.HL
section
variable {e E:Env} {x0a:OA} {x0n x0c:Nat} {x1 x2 x3:Int} {x4:Value} {x10 x11:Bool} {x12 x13 x14 x15 x16:Int} {x17:Bool} {x18 x19 x20:Int} {hp:HP} {K:Env→PV→HP→Prop}
abbrev R131 (p n:Nat):=RW Tryd.prog 148 [] (opsAt Tryd.f131 (pth p)) (List.range n)
theorem F131_r0:R131 2 1 e V0 hp K=
 K (upd e 10 (sB true)) V0 hp:= by kernel_rfl
theorem F131_r1:R131 67 4 (w2 e 2 (sI x2) 1 (sI x1)) V0 hp K=
 K (w6 e 2 (sI x2) 1 (sI x1) 21 (sI x2) 22 (sI x1) 23 (sI ((wr (x2-x1)))) 12 (sI ((wr (x2-x1))))) V0 hp:= by kernel_rfl
theorem F131_r2:R131 291 2 (upd e 12 (sI x12)) V0 hp K=
 K (w3 e 12 (sI x12) 24 (sI x12) 25 (sB (decide (x12≤12)))) V0 hp:= by kernel_rfl
theorem F131_r3 (h:E=upd (w3 e 4 (sV x4) 2 (sI x2) 1 (sI x1)) 0 (sS x0a x0n x0c)):R131 1187 5 E V0 hp K=
 CF Tryd.prog 149 [(.slice x0a x0n x0c),(.int .i64 x1),(.int .i64 x2),x4] hp fun u1 h2=>(K (w5 E 26 (sS x0a x0n x0c) 27 (sI x1) 28 (sI x2) 29 (sV x4) 30 (sV u1)) V0 h2):= by subst h; kernel_rfl
theorem F131_r4:R131 611 2 (upd e 3 (sI x3)) V0 hp K=
 K (w3 e 3 (sI x3) 31 (sI x3) 32 (sB ((x3==0)))) V0 hp:= by kernel_rfl
theorem F131_r5 (h:E=upd (w3 e 4 (sV x4) 2 (sI x2) 1 (sI x1)) 0 (sS x0a x0n x0c)):R131 2403 5 E V0 hp K=
 CF Tryd.prog 150 [(.slice x0a x0n x0c),(.int .i64 x1),(.int .i64 x2),x4] hp fun u1 h2=>(K (w5 E 33 (sS x0a x0n x0c) 34 (sI x1) 35 (sI x2) 36 (sV x4) 37 (sV u1)) V0 h2):= by subst h; kernel_rfl
theorem F131_r6 (h:E=upd (w3 e 4 (sV x4) 2 (sI x2) 1 (sI x1)) 0 (sS x0a x0n x0c)):R131 1507 10 E V0 hp K=
 CF Tryd.prog 152 [(.slice x0a x0n x0c),(.int .i64 x1),(.int .i64 x2),x4] hp fun u1 h2=>(tup2V u1 fun u3 u4=>intV u3 .i64 fun i5=>intV u4 .i64 fun i6=>K (w2 (w8 E 48 (sS x0a x0n x0c) 49 (sI x1) 50 (sI x2) 51 (sV x4) 52 (sV (.tuple ⟨[(.int .i64 i5),(.int .i64 i6)]⟩)) 47 (sV (.tuple ⟨[(.int .i64 i5),(.int .i64 i6)]⟩)) 53 (sI i5) 54 (sI i6)) 13 (sI i5) 14 (sI i6)) V0 h2):= by subst h; kernel_rfl
theorem F131_r7 (h:E=upd (w4 e 13 (sI x13) 4 (sV x4) 2 (sI x2) 1 (sI x1)) 0 (sS x0a x0n x0c)):R131 77795 7 E V0 hp K=
 CF Tryd.prog 155 [(.slice x0a x0n x0c),(.int .i64 x1),(.int .i64 x2),(.int .i64 x13),x4] hp fun u1 h2=>(intV u1 .i64 fun i3=>K (w7 E 98 (sS x0a x0n x0c) 99 (sI x1) 100 (sI x2) 101 (sI x13) 102 (sV x4) 103 (sI i3) 15 (sI i3)) V0 h2):= by subst h; kernel_rfl
theorem F131_r8:R131 176099 2 (upd e 15 (sI x15)) V0 hp K=
 K (w3 e 15 (sI x15) 104 (sI x15) 1 (sI x15)) V0 hp:= by kernel_rfl
theorem F131_r9 (h:E=upd (w4 e 13 (sI x13) 4 (sV x4) 2 (sI x2) 1 (sI x1)) 0 (sS x0a x0n x0c)):R131 24547 11 E V0 hp K=
 CF Tryd.prog 156 [(.slice x0a x0n x0c),(.int .i64 x1),(.int .i64 x2),(.int .i64 x13),x4] hp fun u1 h2=>(tup2V u1 fun u3 u4=>intV u3 .i64 fun i5=>boolV u4 fun q6=>K (w3 (w8 E 106 (sS x0a x0n x0c) 107 (sI x1) 108 (sI x2) 109 (sI x13) 110 (sV x4) 111 (sV (.tuple ⟨[(.int .i64 i5),(.bool q6)]⟩)) 105 (sV (.tuple ⟨[(.int .i64 i5),(.bool q6)]⟩)) 112 (sI i5)) 113 (sB q6) 16 (sI i5) 17 (sB q6)) V0 h2):= by subst h; kernel_rfl
theorem F131_r10:R131 49123 2 (upd e 17 (sB x17)) V0 hp K=
 K (w3 e 17 (sB x17) 114 (sB x17) 11 (sB x17)) V0 hp:= by kernel_rfl
theorem F131_r11 (h:E=upd (w2 e 16 (sI x16) 2 (sI x2)) 1 (sI x1)):R131 98275 8 E V0 hp K=
 K (w8 E 115 (sI x16) 116 (sI x1) 117 (sI ((wr (x16-x1)))) 118 (sI x2) 119 (sI x16) 120 (sI ((wr (x2-x16)))) 18 (sI ((wr (x16-x1)))) 19 (sI ((wr (x2-x16))))) V0 hp:= by subst h; kernel_rfl
theorem F131_r12:R131 196579 3 (upd e 12 (sI x12)) V0 hp K=
    (((8:Int)≠0)∧(K (w4 e 12 (sI x12) 121 (sI x12) 122 (sI ((wr (Int.tdiv x12 8)))) 20 (sI ((wr (Int.tdiv x12 8))))) V0 hp)):=by kernel_rfl
theorem F131_r13:R131 393187 3 (w2 e 19 (sI x19) 18 (sI x18)) V0 hp K=
 K (w5 e 19 (sI x19) 18 (sI x18) 123 (sI x18) 124 (sI x19) 125 (sB (decide (x18<x19)))) V0 hp:= by kernel_rfl
theorem F131_r14:R131 1310691 4 (w2 e 20 (sI x20) 18 (sI x18)) V0 hp K=
 K (w6 e 20 (sI x20) 18 (sI x18) 126 (sI x18) 127 (sI x20) 128 (sB (decide (x18≥x20))) 10 (sB (decide (x18≥x20)))) V0 hp:= by kernel_rfl
theorem F131_r15 (h:E=upd (w4 e 16 (sI x16) 4 (sV x4) 3 (sI x3) 1 (sI x1)) 0 (sS x0a x0n x0c)):R131 2883555 6 E V0 hp K=
 CF Tryd.prog 131 [(.slice x0a x0n x0c),(.int .i64 x1),(.int .i64 x16),(.int .i64 x3),x4] hp fun u1 h2=>(K (w6 E 129 (sS x0a x0n x0c) 130 (sI x1) 131 (sI x16) 132 (sI x3) 133 (sV x4) 134 (sV u1)) V0 h2):= by subst h; kernel_rfl
theorem F131_r16:R131 3932131 3 (upd e 16 (sI x16)) V0 hp K=
 K (w4 e 16 (sI x16) 135 (sI x16) 136 (sI ((wr (x16+1)))) 1 (sI ((wr (x16+1))))) V0 hp:= by kernel_rfl
theorem F131_r17:R131 1572835 4 (w2 e 20 (sI x20) 19 (sI x19)) V0 hp K=
 K (w6 e 20 (sI x20) 19 (sI x19) 137 (sI x19) 138 (sI x20) 139 (sB (decide (x19≥x20))) 10 (sB (decide (x19≥x20)))) V0 hp:= by kernel_rfl
theorem F131_r18 (h:E=upd (w4 e 16 (sI x16) 4 (sV x4) 3 (sI x3) 2 (sI x2)) 0 (sS x0a x0n x0c)):R131 3145699 7 E V0 hp K=
 CF Tryd.prog 131 [(.slice x0a x0n x0c),(.int .i64 (wr (x16+1))),(.int .i64 x2),(.int .i64 x3),x4] hp fun u1 h2=>(K (w7 E 140 (sS x0a x0n x0c) 141 (sI x16) 142 (sI ((wr (x16+1)))) 143 (sI x2) 144 (sI x3) 145 (sV x4) 146 (sV u1)) V0 h2):= by subst h; kernel_rfl
theorem F131_r19:R131 4194275 2 (upd e 16 (sI x16)) V0 hp K=
 K (w3 e 16 (sI x16) 147 (sI x16) 2 (sI x16)) V0 hp:= by kernel_rfl
def F131_j6 (x0a:OA) (x0n x0c:Nat) (x1 x2 x3:Int) (x4:Value) (x10 x11:Bool) (x12 x13:Int) (x97:Bool) (hp:HP) (I2:(Int × Int × Int × Bool × Bool)→HP→Prop) (K:Kh):Prop:=
  (ite2 x97 (CF Tryd.prog 155 [(.slice x0a x0n x0c),(.int .i64 x1),(.int .i64 x2),(.int .i64 x13),x4] hp fun u11 h12=>intV u11 .i64 fun i13=>I2 (i13,x2,x3,x10,x11) h12) (CF Tryd.prog 156 [(.slice x0a x0n x0c),(.int .i64 x1),(.int .i64 x2),(.int .i64 x13),x4] hp fun u14 h15=>tup2V u14 fun u16 u17=>intV u16 .i64 fun i18=>boolV u17 fun q19=>((8:Int)≠0)∧(ite2 (decide (((IntKind.wrap .i64 (i18-x1)):Int)<(IntKind.wrap .i64 (x2-i18)))) (CF Tryd.prog 131 [(.slice x0a x0n x0c),(.int .i64 x1),(.int .i64 i18),(.int .i64 x3),x4] h15 fun u20 h21=>I2 ((IntKind.wrap .i64 (i18+1)),x2,x3,(decide (((IntKind.wrap .i64 (i18-x1)):Int)≥(IntKind.wrap .i64 (Int.tdiv x12 8)))),q19) h21) (CF Tryd.prog 131 [(.slice x0a x0n x0c),(.int .i64 (IntKind.wrap .i64 (i18+1))),(.int .i64 x2),(.int .i64 x3),x4] h15 fun u22 h23=>I2 (x1,i18,x3,(decide (((IntKind.wrap .i64 (x2-i18)):Int)≥(IntKind.wrap .i64 (Int.tdiv x12 8)))),q19) h23))))
theorem F131_r20 (h:E=upd (w3 e 13 (sI x13) 4 (sV x4) 1 (sI x1)) 0 (sS x0a x0n x0c)):R131 20451 17 E V0 hp K=
    (ite2 (decide (x1 > 0)) ((0≤((wr (x1-1)):Int))∧(((wr (x1-1)):Int)<x0n)∧(ptrN x0a fun b1 o2=>ldL (HP.cellN hp b1 (o2+Int.toNat (wr (x1-1))*26) 26) fun l3=>(0≤x13)∧(x13<x0n)∧(ptrN x0a fun b4 o5=>ldL (HP.cellN hp b4 (o5+Int.toNat x13*26) 26) fun l6=>fnV x4 fun f7 ga8 gb9=>CF Tryd.prog f7 (ga8++[(Value.agg ⟨l3⟩),(.agg ⟨l6⟩)]++gb9) hp fun u10 h11=>intV u10 .i64 fun i12=>K (upd (w8 (w8 E 81 (sI x1) 82 (sB (decide (x1 > 0))) 83 (sB true) 84 (sV x4) 85 (sS x0a x0n x0c) 86 (sI x1) 87 (sI ((wr (x1-1)))) 88 (sV (ptr b1 (o2+Int.toNat (wr (x1-1))*26)))) 89 (sA l3) 90 (sS x0a x0n x0c) 91 (sI x13) 92 (sQ b4 (o5+Int.toNat x13*26)) 93 (sA l6) 94 (sI i12) 95 (sB (decide (i12<0))) 96 (sB ((!(decide (i12<0)))))) 97 (sB ((!(decide (i12<0)))))) V0 h11))) (K (upd (w8 (w8 E 81 (sI x1) 82 (sB (decide (x1 > 0))) 83 (sB false) 84 sU 85 sU 86 sU 87 sU 88 sU) 89 sU 90 sU 91 sU 92 sU 93 sU 94 sU 95 sU 96 sU) 97 (sB false)) V0 hp)):=by subst h; kernel_rfl
def F131_j5 (x0a:OA) (x0n x0c:Nat) (x1 x2 x3:Int) (x4:Value) (x10 x11:Bool) (x12 x13:Int) (hp:HP) (I2:(Int × Int × Int × Bool × Bool)→HP→Prop) (K:Kh):Prop:=
  (ite2 (decide (x1 > 0)) ((0≤((IntKind.wrap .i64 (x1-1)):Int))∧(((IntKind.wrap .i64 (x1-1)):Int)<x0n)∧(ptrN x0a fun b24 o25=>ldL (HP.cellN hp b24 (o25+Int.toNat (IntKind.wrap .i64 (x1-1))*26) 26) fun l26=>(0≤x13)∧(x13<x0n)∧(ptrN x0a fun b27 o28=>ldL (HP.cellN hp b27 (o28+Int.toNat x13*26) 26) fun l29=>fnV x4 fun f30 ga_31 gb_32=>CF Tryd.prog f30 (ga_31++[(Value.agg ⟨l26⟩),(.agg ⟨l29⟩)]++gb_32) hp fun u33 h34=>intV u33 .i64 fun i35=>F131_j6 x0a x0n x0c x1 x2 x3 x4 x10 x11 x12 x13 (!(decide (i35<0))) h34 I2 K))) (F131_j6 x0a x0n x0c x1 x2 x3 x4 x10 x11 x12 x13 false hp I2 K))
theorem F131_r21 (h:E=upd (w3 e 4 (sV x4) 2 (sI x2) 1 (sI x1)) 0 (sS x0a x0n x0c)):R131 38883 5 E V0 hp K=
 CF Tryd.prog 154 [(.slice x0a x0n x0c),(.int .i64 x1),(.int .i64 x2),x4] hp fun u1 h2=>(boolV u1 fun q3=>K (w5 E 76 (sS x0a x0n x0c) 77 (sI x1) 78 (sI x2) 79 (sV x4) 80 (sB q3)) V0 h2):= by subst h; kernel_rfl
def F131_j7 (x0a:OA) (x0n x0c:Nat) (x1 x2 x3:Int) (x4:Value) (x10 x11:Bool) (x12 x13:Int) (x75:Bool) (hp:HP) (I2:(Int × Int × Int × Bool × Bool)→HP→Prop) (K:Kh):Prop:=
  (ite2 x75 (CF Tryd.prog 154 [(.slice x0a x0n x0c),(.int .i64 x1),(.int .i64 x2),x4] hp fun u36 h37=>boolV u36 fun q38=>ite2 q38 (K (.tuple ⟨[]⟩) h37) (F131_j5 x0a x0n x0c x1 x2 x3 x4 x10 x11 x12 x13 h37 I2 K)) (F131_j5 x0a x0n x0c x1 x2 x3 x4 x10 x11 x12 x13 hp I2 K))
theorem F131_r22 (h:E=upd (w2 e 14 (sI x14) 11 (sB x11)) 10 (sB x10)):R131 10211 8 E V0 hp K=
 ite2 x10 (ite2 x11 (K (w8 E 68 (sB x10) 69 (sB true) 70 (sB x11) 71 (sB x11) 72 (sB true) 73 (sI x14) 74 (sB ((x14==1))) 75 (sB ((x14==1)))) V0 hp) (K (w8 E 68 (sB x10) 69 (sB true) 70 (sB x11) 71 (sB x11) 72 (sB false) 73 sU 74 sU 75 (sB false)) V0 hp)) (K (w8 E 68 (sB x10) 69 (sB false) 70 sU 71 (sB false) 72 (sB false) 73 sU 74 sU 75 (sB false)) V0 hp):= by subst h; kernel_rfl
def F131_j4 (x0a:OA) (x0n x0c:Nat) (x1 x2 x3:Int) (x4:Value) (x10 x11:Bool) (x12 x13 x14:Int) (hp:HP) (I2:(Int × Int × Int × Bool × Bool)→HP→Prop) (K:Kh):Prop:=
  (ite2 x10 (ite2 x11 (F131_j7 x0a x0n x0c x1 x2 x3 x4 x10 x11 x12 x13 (x14==1) hp I2 K) (F131_j7 x0a x0n x0c x1 x2 x3 x4 x10 x11 x12 x13 false hp I2 K)) (F131_j7 x0a x0n x0c x1 x2 x3 x4 x10 x11 x12 x13 false hp I2 K))
theorem F131_r23:R131 5091 2 (upd e 14 (sI x14)) V0 hp K=
 K (w3 e 14 (sI x14) 55 (sI x14) 56 (sB ((x14==2)))) V0 hp:= by kernel_rfl
theorem F131_r24 (h:E=upd (w3 e 4 (sV x4) 2 (sI x2) 1 (sI x1)) 0 (sS x0a x0n x0c)):R131 19427 5 E V0 hp K=
 CF Tryd.prog 153 [(.slice x0a x0n x0c),(.int .i64 x1),(.int .i64 x2),x4] hp fun u1 h2=>(K (w5 E 57 (sS x0a x0n x0c) 58 (sI x1) 59 (sI x2) 60 (sV x4) 61 (sV u1)) V0 h2):= by subst h; kernel_rfl
theorem F131_r25 (h:E=upd (w2 e 13 (sI x13) 2 (sI x2)) 1 (sI x1)):R131 44003 7 E V0 hp K=
 K (w7 E 62 (sI x2) 63 (sI ((wr (x2-1)))) 64 (sI x13) 65 (sI x1) 66 (sI ((wr (x13-x1)))) 67 (sI ((wr ((wr (x2-1))-(wr (x13-x1)))))) 13 (sI ((wr ((wr (x2-1))-(wr (x13-x1))))))) V0 hp:= by subst h; kernel_rfl
theorem F131_r26:R131 60387 1 e V0 hp K=
 K (upd e 14 (sI 1)) V0 hp:= by kernel_rfl
def F131_j3 (x0a:OA) (x0n x0c:Nat) (x1 x2 x3:Int) (x4:Value) (x10 x11:Bool) (x12:Int) (hp:HP) (I2:(Int × Int × Int × Bool × Bool)→HP→Prop) (K:Kh):Prop:=
  (CF Tryd.prog 152 [(.slice x0a x0n x0c),(.int .i64 x1),(.int .i64 x2),x4] hp fun u5 h6=>tup2V u5 fun u7 u8=>intV u7 .i64 fun i9=>intV u8 .i64 fun i10=>ite2 (i10==2) (CF Tryd.prog 153 [(.slice x0a x0n x0c),(.int .i64 x1),(.int .i64 x2),x4] h6 fun u39 h40=>F131_j4 x0a x0n x0c x1 x2 x3 x4 x10 x11 x12 (IntKind.wrap .i64 ((IntKind.wrap .i64 (x2-1))-(IntKind.wrap .i64 (i9-x1)))) 1 h40 I2 K) (F131_j4 x0a x0n x0c x1 x2 x3 x4 x10 x11 x12 i9 i10 h6 I2 K))
theorem F131_r27:R131 1251 2 (upd e 10 (sB x10)) V0 hp K=
 K (w3 e 10 (sB x10) 38 (sB x10) 39 (sB ((!x10)))) V0 hp:= by kernel_rfl
theorem F131_r28 (h:E=upd (w3 e 4 (sV x4) 2 (sI x2) 1 (sI x1)) 0 (sS x0a x0n x0c)):R131 4835 5 E V0 hp K=
 CF Tryd.prog 151 [(.slice x0a x0n x0c),(.int .i64 x1),(.int .i64 x2),x4] hp fun u1 h2=>(K (w5 E 40 (sS x0a x0n x0c) 41 (sI x1) 42 (sI x2) 43 (sV x4) 44 (sV u1)) V0 h2):= by subst h; kernel_rfl
theorem F131_r29:R131 6883 3 (upd e 3 (sI x3)) V0 hp K=
 K (w4 e 3 (sI x3) 45 (sI x3) 46 (sI ((wr (x3-1)))) 3 (sI ((wr (x3-1))))) V0 hp:= by kernel_rfl
def F131_l2 (x0a:OA) (x0n x0c:Nat) (x4:Value) (K:Kh) (I2:(Int × Int × Int × Bool × Bool)→HP→Prop) (x1 x2 x3:Int) (x10 x11:Bool) (hp:HP):Prop:=
  (ite2 (decide (((IntKind.wrap .i64 (x2-x1)):Int)≤12)) (CF Tryd.prog 149 [(.slice x0a x0n x0c),(.int .i64 x1),(.int .i64 x2),x4] hp fun u1 h2=>K (.tuple ⟨[]⟩) h2) (ite2 (x3==0) (CF Tryd.prog 150 [(.slice x0a x0n x0c),(.int .i64 x1),(.int .i64 x2),x4] hp fun u3 h4=>K (.tuple ⟨[]⟩) h4) (ite2 (!x10) (CF Tryd.prog 151 [(.slice x0a x0n x0c),(.int .i64 x1),(.int .i64 x2),x4] hp fun u41 h42=>F131_j3 x0a x0n x0c x1 x2 (IntKind.wrap .i64 (x3-1)) x4 x10 x11 (IntKind.wrap .i64 (x2-x1)) h42 I2 K) (F131_j3 x0a x0n x0c x1 x2 x3 x4 x10 x11 (IntKind.wrap .i64 (x2-x1)) hp I2 K))))
def F131_j1 (x0a:OA) (x0n x0c:Nat) (x1 x2 x3:Int) (x4:Value) (x10 x11:Bool) (hp:HP) (K:Kh):Prop:=
  (LoopP (σ:=Int × Int × Int × Bool × Bool) (fun I s hp=>F131_l2 x0a x0n x0c x4  K I s.1 s.2.1 s.2.2.1 s.2.2.2.1 s.2.2.2.2 hp) (x1,x2,x3,x10,x11) hp)
theorem F131_r30:R131 5 1 e V0 hp K=
 K (upd e 11 (sB true)) V0 hp:= by kernel_rfl
def F131 (x0a:OA) (x0n x0c:Nat) (x1 x2 x3:Int) (x4:Value) (hp:HP) (K:Kh):Prop:=
  (F131_j1 x0a x0n x0c x1 x2 x3 x4 true true hp  K)
noncomputable abbrev o131 (k n:Nat):Code:=.region k (opsAt Tryd.f131 (pth n)) false
noncomputable def F131_code:Code:=(.seq (o131 0 2) (.seq (o131 1 5) (.block 0 (.loop (.block 1 (.seq (o131 2 67) (.seq (.seq (o131 3 291) (.cond (.tmp 25) (.seq (o131 4 1187) .ret) .skip)) (.seq (.seq (o131 5 611) (.cond (.tmp 32) (.seq (o131 6 2403) .ret) .skip)) (.seq (.seq (o131 7 1251) (.cond (.tmp 39) (.seq (o131 8 4835) (o131 9 6883)) .skip)) (.seq (o131 10 1507) (.seq (.seq (o131 11 5091) (.cond (.tmp 56) (.seq (o131 12 19427) (.seq (o131 13 44003) (o131 14 60387))) .skip)) (.seq (.seq (o131 15 10211) (.cond (.tmp 75) (.seq (o131 16 38883) (.cond (.tmp 80) .ret .skip)) .skip)) (.seq (.seq (.region 17 (opsAt Tryd.f131 (pth 20451)) true) (.cond (.tmp 97) (.seq (o131 18 77795) (.seq (o131 19 176099) (.exit 1))) .skip)) (.seq (o131 20 24547) (.seq (o131 21 49123) (.seq (o131 22 98275) (.seq (o131 23 196579) (.seq (o131 24 393187) (.cond (.tmp 125) (.seq (o131 25 1310691) (.seq (o131 26 2883555) (o131 27 3932131))) (.seq (o131 28 1572835) (.seq (o131 29 3145699) (o131 30 4194275))))))))))))))))))))))
theorem F131_body:Tryd.f131.body=some F131_code:=by kernel_rfl
theorem F131_ok (x0a:OA) (x0n x0c:Nat) (x1 x2 x3:Int) (x4:Value) (hp:HP) (K:Kh) (h:F131 x0a x0n x0c x1 x2 x3 x4 hp K):CF Tryd.prog 131 [(.slice x0a x0n x0c),(.int .i64 x1),(.int .i64 x2),(.int .i64 x3),x4] hp K:=by
 refine .inl ⟨by kernel_rfl,AC.intro (N:=148) Tryd.func131 F131_body rfl (Nat.le_of_ble_eq_true rfl) ?_⟩
 unfold F131 at h
 refine Ar F131_r0 ?_ (r5 0 1 2 3 4 Rn) (z5 Sn) Sn
 refine As (fun env pv hp=>∃ x0a x0n x0c x1 x2 x3 x4 x10 x11,Sub (w7 E0 11 (sB x11) 10 (sB x10) 4 (sV x4) 3 (sI x3) 2 (sI x2) 1 (sI x1) 0 (sS x0a x0n x0c)) env∧Sub V0 pv∧F131_j1 x0a x0n x0c x1 x2 x3 x4 x10 x11 hp  K) ?_ ?_
 ·refine Ag F131_r30 ?_ (r6 0 1 2 3 4 10 Rn) (z6 Sn) Sn
  exact ⟨_,_,_,_,_,_,_,_,_,(z7 Sn),Sn,h⟩
 ·rintro env pv hp ⟨x0a,x0n,x0c,x1,x2,x3,x4,x10,x11,he,hv,h⟩
  refine Ae ?_ (r7 0 1 2 3 4 10 11 Rn) he hv
  unfold F131_j1 at h
  refine AWP.block (AWP.loop (σ:=Int × Int × Int × Bool × Bool) _ (fun s=>w7 E0 11 (sB (s.2.2.2.2)) 10 (sB (s.2.2.2.1)) 4 (sV x4) 3 (sI (s.2.2.1)) 2 (sI (s.2.1)) 1 (sI (s.1)) 0 (sS x0a x0n x0c)) (fun s=>V0) (x1,x2,x3,x10,x11) h (fun s=>r7 0 1 2 3 4 10 11 Rn) (z7 Sn) Sn ?_)
  intro I2 s hp h
  obtain ⟨x1,x2,x3,x10,x11⟩:=s
  replace h:F131_l2 x0a x0n x0c x4  K I2 x1 x2 x3 x10 x11 hp:=h
  unfold F131_l2 at h
  refine AWP.block (Ar F131_r1 ?_ (r7 1 2 0 3 4 10 11 Rn) (z7 Sn) Sn)
  refine Aq (Ar F131_r2 ?_ (r8 12 0 1 2 3 4 10 11 Rn) (z8 Sn) Sn)
  refine Ac h rfl (fun h=>?_) (fun h=>?_)
  ·refine Ar (F131_r3 rfl) ?_ (r4 0 1 2 4 Rn) (z4 Sn) Sn
   refine mC h fun u1 h2 h=>?_
   refine AWP.ret ?_
   exact h
  ·refine AWP.skip (Aq (Ar F131_r4 ?_ (r8 3 0 1 2 4 10 11 12 Rn) (z8 Sn) Sn))
   refine Ac h rfl (fun h=>?_) (fun h=>?_)
   ·refine Ar (F131_r5 rfl) ?_ (r4 0 1 2 4 Rn) (z4 Sn) Sn
    refine mC h fun u3 h4 h=>?_
    refine AWP.ret ?_
    exact h
   ·refine AWP.skip (As (fun env pv hp=>∃ x1 x2 x3 x10 x11 x12,Sub (w8 E0 12 (sI x12) 11 (sB x11) 10 (sB x10) 4 (sV x4) 3 (sI x3) 2 (sI x2) 1 (sI x1) 0 (sS x0a x0n x0c)) env∧Sub V0 pv∧F131_j3 x0a x0n x0c x1 x2 x3 x4 x10 x11 x12 hp I2 K) ?_ ?_)
    ·refine Ar F131_r27 ?_ (r8 10 0 1 2 3 4 11 12 Rn) (z8 Sn) Sn
     refine Ac h rfl (fun h=>?_) (fun h=>?_)
     ·refine Ar (F131_r28 rfl) ?_ (r8 0 1 2 4 3 10 11 12 Rn) (z8 Sn) Sn
      refine mC h fun u41 h42 h=>?_
      refine Ag F131_r29 ?_ (r8 3 0 1 2 4 10 11 12 Rn) (z8 Sn) Sn
      exact ⟨_,_,_,_,_,_,(z8 Sn),Sn,h⟩
     ·refine AWP.skip ?_
      exact ⟨_,_,_,_,_,_,(z8 Sn),Sn,h⟩
    ·rintro env pv hp ⟨x1,x2,x3,x10,x11,x12,he,hv,h⟩
     refine Ae ?_ (r8 0 1 2 3 4 10 11 12 Rn) he hv
     unfold F131_j3 at h
     refine Ar (F131_r6 rfl) ?_ (r8 0 1 2 4 3 10 11 12 Rn) (z8 Sn) Sn
     refine mC h fun u5 h6 h=>mT h fun u7 u8 h=>mI h fun i9 h=>mI h fun i10 h=>?_
     refine As (fun env pv hp=>∃ x1 x2 x3 x10 x11 x12 x13 x14,Sub (w2 (w8 E0 14 (sI x14) 13 (sI x13) 12 (sI x12) 11 (sB x11) 10 (sB x10) 4 (sV x4) 3 (sI x3) 2 (sI x2)) 1 (sI x1) 0 (sS x0a x0n x0c)) env∧Sub V0 pv∧F131_j4 x0a x0n x0c x1 x2 x3 x4 x10 x11 x12 x13 x14 hp I2 K) ?_ ?_
     ·refine Ar F131_r23 ?_ (r8 14 0 1 2 3 4 10 11 (r2 12 13 Rn)) (z2 (z8 Sn)) Sn
      refine Ac h rfl (fun h=>?_) (fun h=>?_)
      ·refine Ar (F131_r24 rfl) ?_ (r8 0 1 2 4 3 10 11 12 (r1 13 Rn)) (z1 (z8 Sn)) Sn
       refine mC h fun u39 h40 h=>?_
       refine Ar (F131_r25 rfl) ?_ (r8 1 2 13 0 3 4 10 11 (r1 12 Rn)) (z1 (z8 Sn)) Sn
       refine Ag F131_r26 ?_ (r8 0 1 2 3 4 10 11 12 (r1 13 Rn)) (z1 (z8 Sn)) Sn
       exact ⟨_,_,_,_,_,_,_,_,(z2 (z8 Sn)),Sn,h⟩
      ·refine AWP.skip ?_
       exact ⟨_,_,_,_,_,_,_,_,(z2 (z8 Sn)),Sn,h⟩
     ·rintro env pv hp ⟨x1,x2,x3,x10,x11,x12,x13,x14,he,hv,h⟩
      refine Ae ?_ (r8 0 1 2 3 4 10 11 12 (r2 13 14 Rn)) he hv
      unfold F131_j4 at h
      refine As (fun env pv hp=>∃ x1 x2 x3 x10 x11 x12 x13,Sub (upd (w8 E0 13 (sI x13) 12 (sI x12) 11 (sB x11) 10 (sB x10) 4 (sV x4) 3 (sI x3) 2 (sI x2) 1 (sI x1)) 0 (sS x0a x0n x0c)) env∧Sub V0 pv∧F131_j5 x0a x0n x0c x1 x2 x3 x4 x10 x11 x12 x13 hp I2 K) ?_ ?_
      ·refine As (fun env pv hp=>∃ x1 x2 x3 x10 x11 x12 x13 x75,Sub (w2 (w8 E0 75 (sB x75) 13 (sI x13) 12 (sI x12) 11 (sB x11) 10 (sB x10) 4 (sV x4) 3 (sI x3) 2 (sI x2)) 1 (sI x1) 0 (sS x0a x0n x0c)) env∧Sub V0 pv∧F131_j7 x0a x0n x0c x1 x2 x3 x4 x10 x11 x12 x13 x75 hp I2 K) ?_ ?_
       ·refine Ag (F131_r22 rfl) ?_ (r8 10 11 14 0 1 2 3 4 (r2 12 13 Rn)) (z2 (z8 Sn)) Sn
        refine mt h (fun h=>?_) (fun h=>?_)
        ·refine mt h (fun h=>?_) (fun h=>?_)
         ·exact ⟨_,_,_,_,_,_,_,_,(z2 (z8 Sn)),Sn,h⟩
         ·exact ⟨_,_,_,_,_,_,_,_,(z2 (z8 Sn)),Sn,h⟩
        ·exact ⟨_,_,_,_,_,_,_,_,(z2 (z8 Sn)),Sn,h⟩
       ·rintro env pv hp ⟨x1,x2,x3,x10,x11,x12,x13,x75,he,hv,h⟩
        refine Ae ?_ (r8 0 1 2 3 4 10 11 12 (r2 13 75 Rn)) he hv
        unfold F131_j7 at h
        refine Ac h rfl (fun h=>?_) (fun h=>?_)
        ·refine Ar (F131_r21 rfl) ?_ (r8 0 1 2 4 3 10 11 12 (r1 13 Rn)) (z1 (z8 Sn)) Sn
         refine mC h fun u36 h37 h=>mB h fun q38 h=>?_
         refine Ac h rfl (fun h=>?_) (fun h=>?_)
         ·refine AWP.ret ?_
          exact h
         ·refine AWP.skip ?_
          exact ⟨_,_,_,_,_,_,_,(z1 (z8 Sn)),Sn,h⟩
        ·refine AWP.skip ?_
         exact ⟨_,_,_,_,_,_,_,(z1 (z8 Sn)),Sn,h⟩
      ·rintro env pv hp ⟨x1,x2,x3,x10,x11,x12,x13,he,hv,h⟩
       refine Ae ?_ (r8 0 1 2 3 4 10 11 12 (r1 13 Rn)) he hv
       unfold F131_j5 at h
       refine Aq (As (fun env pv hp=>∃ x1 x2 x3 x10 x11 x12 x13 x97,Sub (w2 (w8 E0 97 (sB x97) 13 (sI x13) 12 (sI x12) 11 (sB x11) 10 (sB x10) 4 (sV x4) 3 (sI x3) 2 (sI x2)) 1 (sI x1) 0 (sS x0a x0n x0c)) env∧Sub V0 pv∧F131_j6 x0a x0n x0c x1 x2 x3 x4 x10 x11 x12 x13 x97 hp I2 K) ?_ ?_)
       ·refine AWP.rgnD (by kernel_rfl) (by kernel_rfl) (F131_r20 rfl) ?_ (r8 0 1 4 13 2 3 10 11 (r1 12 Rn)) (z1 (z8 Sn)) Sn
        refine mt h (fun h=>?_) (fun h=>?_)
        ·refine ⟨h.1,h.2.1,mN h.2.2 (fun b24 o25 h=>mL h (fun l26 h=>⟨h.1,h.2.1,mN h.2.2 fun b27 o28 h=>mL h fun l29 h=>mF h fun f30 ga_31 gb_32 h=>mC h fun u33 h34 h=>mI h fun i35 h=>?_⟩))⟩
         exact ⟨_,_,_,_,_,_,_,_,(z2 (z8 Sn)),Sn,h⟩
        ·exact ⟨_,_,_,_,_,_,_,_,(z2 (z8 Sn)),Sn,h⟩
       ·rintro env pv hp ⟨x1,x2,x3,x10,x11,x12,x13,x97,he,hv,h⟩
        refine Ae ?_ (r8 0 1 2 3 4 10 11 12 (r2 13 97 Rn)) he hv
        unfold F131_j6 at h
        refine Ac h rfl (fun h=>?_) (fun h=>?_)
        ·refine Ar (F131_r7 rfl) ?_ (r8 0 1 2 4 13 3 10 11 Rn) (z8 Sn) Sn
         refine mC h fun u11 h12 h=>mI h fun i13 h=>?_
         refine Ar F131_r8 ?_ (r7 15 0 2 3 4 10 11 Rn) (z7 Sn) Sn
         refine AWP.exit ?_
         exact ⟨_,(z7 Sn),Sn,h⟩
        ·refine AWP.skip (Ar (F131_r9 rfl) ?_ (r7 0 1 2 4 13 3 12 Rn) (z7 Sn) Sn)
         refine mC h fun u14 h15 h=>mT h fun u16 u17 h=>mI h fun i18 h=>mB h fun q19 h=>?_
         refine Ar F131_r10 ?_ (r8 17 0 1 2 3 4 12 16 Rn) (z8 Sn) Sn
         refine Ar (F131_r11 rfl) ?_ (r8 1 2 16 0 3 4 11 12 Rn) (z8 Sn) Sn
         refine Ar F131_r12 ?_ (r8 12 0 1 2 3 4 11 16 (r2 18 19 Rn)) (z2 (z8 Sn)) Sn
         refine ⟨h.1,?_⟩
         replace h:=h.2
         refine Ar F131_r13 ?_ (r8 18 19 0 1 2 3 4 11 (r2 16 20 Rn)) (z2 (z8 Sn)) Sn
         refine Ac h rfl (fun h=>?_) (fun h=>?_)
         ·refine Ar F131_r14 ?_ (r8 18 20 0 1 2 3 4 11 (r1 16 Rn)) (z1 (z8 Sn)) Sn
          refine Ar (F131_r15 rfl) ?_ (r8 0 1 3 4 16 2 10 11 Rn) (z8 Sn) Sn
          refine mC h fun u20 h21 h=>?_
          refine Ag F131_r16 ?_ (r7 16 0 2 3 4 10 11 Rn) (z7 Sn) Sn
          exact ⟨_,(z7 Sn),Sn,h⟩
         ·refine Ar F131_r17 ?_ (r8 19 20 0 1 2 3 4 11 (r1 16 Rn)) (z1 (z8 Sn)) Sn
          refine Ar (F131_r18 rfl) ?_ (r8 0 2 3 4 16 1 10 11 Rn) (z8 Sn) Sn
          refine mC h fun u22 h23 h=>?_
          refine Ag F131_r19 ?_ (r7 16 0 1 3 4 10 11 Rn) (z7 Sn) Sn
          exact ⟨_,(z7 Sn),Sn,h⟩
end
section
variable {e E:Env} {x0a:OA} {x0n x0c:Nat} {x1 x2 x8:Int} {x9:OA} {x10 x11 x12:Int} {hp:HP} {K:Env→PV→HP→Prop}
abbrev R151 (p n:Nat):=RW Tryd.prog 67 [] (opsAt Tryd.f151 (pth p)) (List.range n)
theorem F151_r0:R151 2 4 (w2 e 2 (sI x2) 1 (sI x1)) V0 hp K=
 K (w6 e 2 (sI x2) 1 (sI x1) 13 (sI x2) 14 (sI x1) 15 (sI ((wr (x2-x1)))) 8 (sI ((wr (x2-x1))))) V0 hp:= by kernel_rfl
theorem F151_r1:R151 5 2 (upd e 8 (sI x8)) V0 hp K=
 K (w3 e 8 (sI x8) 16 (sI x8) 17 (sB (decide (x8≥8)))) V0 hp:= by kernel_rfl
theorem F151_r2:R151 19 4 (upd e 8 (sI x8)) V0 hp K=
    (∀ b1:Nat,hp b1=.none→(HP.st (HP.set hp b1 (.cells 247 [.int .u64 0] 0)) b1 0 (.int .u64 (IntKind.wrap .u64 (x8))) fun h2=>K (w4 e 8 (sI x8) 18 (sI x8) 19 (sV (.int .u64 (IntKind.wrap .u64 (x8)))) 9 (sQ b1 0)) V0 h2)):=by kernel_rfl
theorem F151_r3:R151 43 3 (upd e 8 (sI x8)) V0 hp K=
 CF Tryd.prog 169 [(.int .i64 x8)] hp fun u1 h2=>(intV u1 .u64 fun i3=>K (w4 e 8 (sI x8) 20 (sI x8) 21 (sV (.int .u64 i3)) 10 (sV (.int .u64 i3))) V0 h2):= by kernel_rfl
theorem F151_r4 (h:E=upd (w2 e 11 (sI x11) 8 (sI x8)) 1 (sI x1)):R151 1083 8 E V0 hp K=
    (((4:Int)≠0)∧(K (w8 E 28 (sI x11) 29 (sI x1) 30 (sI x8) 31 (sI ((wr (Int.tdiv x8 4)))) 32 (sI ((wr ((wr (Int.tdiv x8 4))*2)))) 33 (sI ((wr (x1+(wr ((wr (Int.tdiv x8 4))*2)))))) 34 (sI ((wr ((wr (x1+(wr ((wr (Int.tdiv x8 4))*2))))+1)))) 35 (sB ((decide (x11≤(wr ((wr (x1+(wr ((wr (Int.tdiv x8 4))*2))))+1))))))) V0 hp)):=by subst h; kernel_rfl
theorem F151_r5 (h:E=upd (upd e 10 (sV (.int .u64 x10))) 9 (sP x9)):R151 4411 6 E V0 hp K=
 CF Tryd.prog 170 [(.pointer x9)] hp fun u1 h2=>(intV u1 .u64 fun i3=>K (w6 E 38 (sV (.int .u64 i3)) 39 (sV (.int .u64 x10)) 40 (sV (.int .u64 (IntKind.wrap .u64 (x10-1)))) 41 (sV (.int .u64 (band .u64 i3 (IntKind.wrap .u64 (x10-1))))) 42 (sI ((wr ((band .u64 i3 (IntKind.wrap .u64 (x10-1))))))) 12 (sI ((wr ((band .u64 i3 (IntKind.wrap .u64 (x10-1)))))))) V0 h2):= by subst h; kernel_rfl
theorem F151_r6 (h:E=upd (w3 e 12 (sI x12) 11 (sI x11) 1 (sI x1)) 0 (sS x0a x0n x0c)):R151 14651 20 E V0 hp K=
    ((0≤((wr (x1+x12)):Int))∧(((wr (x1+x12)):Int)<x0n)∧(ptrN x0a fun b1 o2=>ldL (HP.cellN hp b1 (o2+Int.toNat (wr (x1+x12))*26) 26) fun l3=>(0≤x11)∧(x11<x0n)∧(ptrN x0a fun b4 o5=>ldL (HP.cellN hp b4 (o5+Int.toNat x11*26) 26) fun l6=>(0≤x11)∧(x11<x0n)∧(ptrN x0a fun b7 o8=>(List.length l3=26)∧(HP.stN hp b7 (o8+Int.toNat x11*26) l3 fun h9=>(0≤((wr (x1+x12)):Int))∧(((wr (x1+x12)):Int)<x0n)∧(ptrN x0a fun b10 o11=>(List.length l6=26)∧(HP.stN h9 b10 (o11+Int.toNat (wr (x1+x12))*26) l6 fun h12=>K (w2 (w8 (w8 E 49 (sS x0a x0n x0c) 50 (sI x11) 51 (sS x0a x0n x0c) 52 (sI x1) 53 (sI x12) 54 (sI ((wr (x1+x12)))) 55 (sS x0a x0n x0c) 56 (sI x1)) 57 (sI x12) 58 (sI ((wr (x1+x12)))) 59 (sV (ptr b1 (o2+Int.toNat (wr (x1+x12))*26))) 60 (sA l3) 61 (sS x0a x0n x0c) 62 (sI x11) 63 (sQ b4 (o5+Int.toNat x11*26)) 64 (sA l6)) 65 (sQ b7 (o8+Int.toNat x11*26)) 66 (sV (ptr b10 (o11+Int.toNat (wr (x1+x12))*26)))) V0 h12))))))):=by subst h; kernel_rfl
theorem F151_r7:R151 1851 3 (upd e 11 (sI x11)) V0 hp K=
 K (w4 e 11 (sI x11) 36 (sI x11) 37 (sI ((wr (x11+1)))) 11 (sI ((wr (x11+1))))) V0 hp:= by kernel_rfl
def F151_j3 (x0a:OA) (x0n x0c:Nat) (x1 x8:Int) (x9:OA) (x10 x11 x12:Int) (hp:HP) (I2:(Int)→HP→Prop) (K:Kh):Prop:=
  ((0≤((IntKind.wrap .i64 (x1+x12)):Int))∧(((IntKind.wrap .i64 (x1+x12)):Int)<x0n)∧(ptrN x0a fun b9 o10=>ldL (HP.cellN hp b9 (o10+Int.toNat (IntKind.wrap .i64 (x1+x12))*26) 26) fun l11=>(0≤x11)∧(x11<x0n)∧(ptrN x0a fun b12 o13=>ldL (HP.cellN hp b12 (o13+Int.toNat x11*26) 26) fun l14=>(0≤x11)∧(x11<x0n)∧(ptrN x0a fun b15 o16=>(List.length l11=26)∧(HP.stN hp b15 (o16+Int.toNat x11*26) l11 fun h17=>(0≤((IntKind.wrap .i64 (x1+x12)):Int))∧(((IntKind.wrap .i64 (x1+x12)):Int)<x0n)∧(ptrN x0a fun b18 o19=>(List.length l14=26)∧(HP.stN h17 b18 (o19+Int.toNat (IntKind.wrap .i64 (x1+x12))*26) l14 fun h20=>I2 (IntKind.wrap .i64 (x11+1)) h20)))))))
theorem F151_r8:R151 18747 3 (w2 e 12 (sI x12) 8 (sI x8)) V0 hp K=
 K (w5 e 12 (sI x12) 8 (sI x8) 43 (sI x12) 44 (sI x8) 45 (sB (decide (x12≥x8)))) V0 hp:= by kernel_rfl
theorem F151_r9:R151 43323 4 (w2 e 12 (sI x12) 8 (sI x8)) V0 hp K=
 K (w6 e 12 (sI x12) 8 (sI x8) 46 (sI x12) 47 (sI x8) 48 (sI ((wr (x12-x8)))) 12 (sI ((wr (x12-x8))))) V0 hp:= by kernel_rfl
def F151_l2 (x0a:OA) (x0n x0c:Nat) (x1 x8:Int) (x9:OA) (x10:Int) (K:Kh) (I2:(Int)→HP→Prop) (x11:Int) (hp:HP):Prop:=
  (((4:Int)≠0)∧(ite2 (decide (x11≤(IntKind.wrap .i64 ((IntKind.wrap .i64 (x1+(IntKind.wrap .i64 ((IntKind.wrap .i64 (Int.tdiv x8 4))*2))))+1)))) (CF Tryd.prog 170 [(.pointer x9)] hp fun u6 h7=>intV u6 .u64 fun i8=>ite2 (decide (((IntKind.wrap .i64 ((band .u64 i8 (IntKind.wrap .u64 (x10-1))))):Int)≥x8)) (F151_j3 x0a x0n x0c x1 x8 x9 x10 x11 (IntKind.wrap .i64 ((IntKind.wrap .i64 ((band .u64 i8 (IntKind.wrap .u64 (x10-1)))))-x8)) h7 I2 K) (F151_j3 x0a x0n x0c x1 x8 x9 x10 x11 (IntKind.wrap .i64 ((band .u64 i8 (IntKind.wrap .u64 (x10-1))))) h7 I2 K)) (K (.tuple ⟨[]⟩) hp)))
def F151_j1 (x0a:OA) (x0n x0c:Nat) (x1 x8:Int) (x9:OA) (x10 x11:Int) (hp:HP) (K:Kh):Prop:=
  (LoopP (σ:=Int) (fun I s hp=>F151_l2 x0a x0n x0c x1 x8 x9 x10  K I s hp) x11 hp)
theorem F151_r10:R151 91 7 (w2 e 8 (sI x8) 1 (sI x1)) V0 hp K=
    (((4:Int)≠0)∧(K (upd (w8 e 8 (sI x8) 1 (sI x1) 22 (sI x1) 23 (sI x8) 24 (sI ((wr (Int.tdiv x8 4)))) 25 (sI ((wr ((wr (Int.tdiv x8 4))*2)))) 26 (sI ((wr (x1+(wr ((wr (Int.tdiv x8 4))*2)))))) 27 (sI ((wr ((wr (x1+(wr ((wr (Int.tdiv x8 4))*2))))-1))))) 11 (sI ((wr ((wr (x1+(wr ((wr (Int.tdiv x8 4))*2))))-1))))) V0 hp)):=by kernel_rfl
def F151 (x0a:OA) (x0n x0c:Nat) (x1 x2:Int) (x3:Value) (hp:HP) (K:Kh):Prop:=
  (ite2 (decide (((IntKind.wrap .i64 (x2-x1)):Int)≥8)) (∀ b1:Nat,hp b1=.none→(HP.st (HP.set hp b1 (.cells 247 [.int .u64 0] 0)) b1 0 (.int .u64 (IntKind.wrap .u64 ((IntKind.wrap .i64 (x2-x1))))) fun h2=>CF Tryd.prog 169 [(.int .i64 (IntKind.wrap .i64 (x2-x1)))] h2 fun u3 h4=>intV u3 .u64 fun i5=>((4:Int)≠0)∧(F151_j1 x0a x0n x0c x1 (IntKind.wrap .i64 (x2-x1)) (some ⟨b1,0,none⟩) i5 (IntKind.wrap .i64 ((IntKind.wrap .i64 (x1+(IntKind.wrap .i64 ((IntKind.wrap .i64 (Int.tdiv (IntKind.wrap .i64 (x2-x1)) 4))*2))))-1)) h4  K))) (K (.tuple ⟨[]⟩) hp))
noncomputable abbrev o151 (k n:Nat):Code:=.region k (opsAt Tryd.f151 (pth n)) false
noncomputable def F151_code:Code:=(.seq (o151 0 2) (.seq (o151 1 5) (.cond (.tmp 17) (.seq (o151 2 19) (.seq (o151 3 43) (.seq (o151 4 91) (.block 0 (.loop (.seq (.seq (o151 5 1083) (.cond (.tmp 35) .skip (.exit 0))) (.seq (.block 1 (.seq (o151 7 4411) (.seq (.seq (o151 8 18747) (.cond (.tmp 45) (o151 9 43323) .skip)) (.region 10 (opsAt Tryd.f151 (pth 14651)) true)))) (o151 6 1851)))))))) .skip)))
theorem F151_body:Tryd.f151.body=some F151_code:=by kernel_rfl
theorem F151_ok (x0a:OA) (x0n x0c:Nat) (x1 x2:Int) (x3:Value) (hp:HP) (K:Kh) (h:F151 x0a x0n x0c x1 x2 x3 hp K):CF Tryd.prog 151 [(.slice x0a x0n x0c),(.int .i64 x1),(.int .i64 x2),x3] hp K:=by
 refine .inl ⟨by kernel_rfl,AC.intro (N:=67) Tryd.func151 F151_body rfl (Nat.le_of_ble_eq_true rfl) ?_⟩
 unfold F151 at h
 refine Ar F151_r0 ?_ (r3 1 2 0 Rn) (z3 Sn) Sn
 refine Ar F151_r1 ?_ (r3 8 0 1 Rn) (z3 Sn) Sn
 refine Ac h rfl (fun h=>?_) (fun h=>?_)
 ·refine Ar F151_r2 ?_ (r3 8 0 1 Rn) (z3 Sn) Sn
  refine fun b1 hb_b_1=>?_
  replace h:=h b1 hb_b_1
  refine mw h fun h2 h=>?_
  refine Ar F151_r3 ?_ (r4 8 0 1 9 Rn) (z4 Sn) Sn
  refine mC h fun u3 h4 h=>mI h fun i5 h=>?_
  refine As (fun env pv hp=>∃ x0a x0n x0c x1 x8 x9 x10 x11,Sub (w6 E0 11 (sI x11) 10 (sV (.int .u64 x10)) 9 (sP x9) 8 (sI x8) 1 (sI x1) 0 (sS x0a x0n x0c)) env∧Sub V0 pv∧F151_j1 x0a x0n x0c x1 x8 x9 x10 x11 hp  K) ?_ ?_
  ·refine Ag F151_r10 ?_ (r5 1 8 0 9 10 Rn) (z5 Sn) Sn
   refine ⟨h.1,?_⟩
   replace h:=h.2
   exact ⟨_,_,_,_,_,_,_,_,(z6 Sn),Sn,h⟩
  ·rintro env pv hp ⟨x0a,x0n,x0c,x1,x8,x9,x10,x11,he,hv,h⟩
   refine Ae ?_ (r6 0 1 8 9 10 11 Rn) he hv
   unfold F151_j1 at h
   refine AWP.block (AWP.loop (σ:=Int) _ (fun s=>w6 E0 11 (sI s) 10 (sV (.int .u64 x10)) 9 (sP x9) 8 (sI x8) 1 (sI x1) 0 (sS x0a x0n x0c)) (fun s=>V0) x11 h (fun s=>r6 0 1 8 9 10 11 Rn) (z6 Sn) Sn ?_)
   intro I2 x11 hp h
   replace h:F151_l2 x0a x0n x0c x1 x8 x9 x10  K I2 x11 hp:=h
   unfold F151_l2 at h
   refine Aq (Ar (F151_r4 rfl) ?_ (r6 1 8 11 0 9 10 Rn) (z6 Sn) Sn)
   refine ⟨h.1,?_⟩
   replace h:=h.2
   refine Ac h rfl (fun h=>?_) (fun h=>?_)
   ·refine AWP.skip (Aq (AWP.block (Ar (F151_r5 rfl) ?_ (r6 9 10 0 1 8 11 Rn) (z6 Sn) Sn)))
    refine mC h fun u6 h7 h=>mI h fun i8 h=>?_
    refine As (fun env pv hp=>∃ x11 x12,Sub (w7 E0 12 (sI x12) 11 (sI x11) 10 (sV (.int .u64 x10)) 9 (sP x9) 8 (sI x8) 1 (sI x1) 0 (sS x0a x0n x0c)) env∧Sub V0 pv∧F151_j3 x0a x0n x0c x1 x8 x9 x10 x11 x12 hp I2 K) ?_ ?_
    ·refine Ar F151_r8 ?_ (r7 8 12 0 1 9 10 11 Rn) (z7 Sn) Sn
     refine Ac h rfl (fun h=>?_) (fun h=>?_)
     ·refine Ag F151_r9 ?_ (r7 8 12 0 1 9 10 11 Rn) (z7 Sn) Sn
      exact ⟨_,_,(z7 Sn),Sn,h⟩
     ·refine AWP.skip ?_
      exact ⟨_,_,(z7 Sn),Sn,h⟩
    ·rintro env pv hp ⟨x11,x12,he,hv,h⟩
     refine Ae ?_ (r7 0 1 8 9 10 11 12 Rn) he hv
     unfold F151_j3 at h
     refine AWP.rgnD (by kernel_rfl) (by kernel_rfl) (F151_r6 rfl) ?_ (r7 0 1 11 12 8 9 10 Rn) (z7 Sn) Sn
     refine ⟨h.1,h.2.1,mN h.2.2 (fun b9 o10 h=>mL h (fun l11 h=>⟨h.1,h.2.1,mN h.2.2 (fun b12 o13 h=>mL h (fun l14 h=>⟨h.1,h.2.1,mN h.2.2 (fun b15 o16 h=>⟨h.1,mW h.2 (fun h17 h=>⟨h.1,h.2.1,mN h.2.2 (fun b18 o19 h=>⟨h.1,mW h.2 fun h20 h=>?_⟩)⟩)⟩)⟩))⟩))⟩
     refine Ag F151_r7 ?_ (r6 11 0 1 8 9 10 Rn) (z6 Sn) Sn
     exact ⟨_,(z6 Sn),Sn,h⟩
   ·refine AWP.exit ?_
    exact h
 ·refine AWP.skip ?_
  exact h
end
section
variable {e E:Env} {x0a:OA} {x0n x0c:Nat} {x1 x2:Int} {x3:Value} {x10:Int} {x11:OA} {x12 x13 x14 x55:Int} {hp:HP} {K:Env→PV→HP→Prop}
abbrev R152 (p n:Nat):=RW Tryd.prog 63 [] (opsAt Tryd.f152 (pth p)) (List.range n)
theorem F152_r0:R152 2 2 e V0 hp K=
 K (w2 e 8 (sI 0) 9 (sI 0)) V0 hp:= by kernel_rfl
theorem F152_r1:R152 5 4 (w2 e 2 (sI x2) 1 (sI x1)) V0 hp K=
 K (w6 e 2 (sI x2) 1 (sI x1) 15 (sI x2) 16 (sI x1) 17 (sI ((wr (x2-x1)))) 10 (sI ((wr (x2-x1))))) V0 hp:= by kernel_rfl
theorem F152_r2:R152 11 1 e V0 hp K=
    (∀ b1:Nat,hp b1=.none→(K (upd e 11 (sQ b1 0)) V0 (HP.set hp b1 (.cells 3 [.int .i64 0] 0)))):=by kernel_rfl
theorem F152_r3:R152 23 6 (w2 e 10 (sI x10) 1 (sI x1)) V0 hp K=
    (((4:Int)≠0)∧(K (w8 e 10 (sI x10) 1 (sI x1) 18 (sI x1) 19 (sI x10) 20 (sI ((wr (Int.tdiv x10 4)))) 21 (sI ((wr ((wr (Int.tdiv x10 4))*1)))) 22 (sI ((wr (x1+(wr ((wr (Int.tdiv x10 4))*1)))))) 12 (sI ((wr (x1+(wr ((wr (Int.tdiv x10 4))*1))))))) V0 hp)):=by kernel_rfl
theorem F152_r4:R152 47 6 (w2 e 10 (sI x10) 1 (sI x1)) V0 hp K=
    (((4:Int)≠0)∧(K (w8 e 10 (sI x10) 1 (sI x1) 23 (sI x1) 24 (sI x10) 25 (sI ((wr (Int.tdiv x10 4)))) 26 (sI ((wr ((wr (Int.tdiv x10 4))*2)))) 27 (sI ((wr (x1+(wr ((wr (Int.tdiv x10 4))*2)))))) 13 (sI ((wr (x1+(wr ((wr (Int.tdiv x10 4))*2))))))) V0 hp)):=by kernel_rfl
theorem F152_r5:R152 95 6 (w2 e 10 (sI x10) 1 (sI x1)) V0 hp K=
    (((4:Int)≠0)∧(K (w8 e 10 (sI x10) 1 (sI x1) 28 (sI x1) 29 (sI x10) 30 (sI ((wr (Int.tdiv x10 4)))) 31 (sI ((wr ((wr (Int.tdiv x10 4))*3)))) 32 (sI ((wr (x1+(wr ((wr (Int.tdiv x10 4))*3)))))) 14 (sI ((wr (x1+(wr ((wr (Int.tdiv x10 4))*3))))))) V0 hp)):=by kernel_rfl
theorem F152_r6:R152 383 1 (upd e 11 (sP x11)) V0 hp K=
 ptrN x11 fun b1 o2=>(ldV (HP.cell hp b1 o2) fun v3=>intV v3 .i64 fun i4=>K (w2 e 11 (sP x11) 55 (sI i4)) V0 hp):= by kernel_rfl
theorem F152_r7:R152 1279 2 (upd e 55 (sI x55)) V0 hp K=
 K (w3 e 55 (sI x55) 58 (sB ((x55==0))) 57 (sB ((x55==0)))) V0 hp:= by kernel_rfl
theorem F152_r8:R152 4863 3 (upd e 13 (sI x13)) V0 hp K=
 K (w4 e 13 (sI x13) 59 (sI x13) 8 (sI x13) 9 (sI 1)) V0 hp:= by kernel_rfl
theorem F152_r9:R152 5887 2 (upd e 55 (sI x55)) V0 hp K=
 K (w3 e 55 (sI x55) 61 (sB ((x55==12))) 60 (sB ((x55==12)))) V0 hp:= by kernel_rfl
theorem F152_r10:R152 20223 3 (upd e 13 (sI x13)) V0 hp K=
 K (w4 e 13 (sI x13) 62 (sI x13) 8 (sI x13) 9 (sI 2)) V0 hp:= by kernel_rfl
theorem F152_r11:R152 24319 3 (upd e 13 (sI x13)) V0 hp K=
 K (w4 e 13 (sI x13) 56 (sI x13) 8 (sI x13) 9 (sI 0)) V0 hp:= by kernel_rfl
def F152_j1 (x11:OA) (x13:Int) (hp:HP) (K:Kh):Prop:=
  (ptrN x11 fun b2 o3=>ldV (HP.cell hp b2 o3) fun v4=>intV v4 .i64 fun i5=>ite2 (i5==0) (K (.tuple ⟨[(.int .i64 x13),(.int .i64 1)]⟩) hp) (ite2 (i5==12) (K (.tuple ⟨[(.int .i64 x13),(.int .i64 2)]⟩) hp) (K (.tuple ⟨[(.int .i64 x13),.int .i64 0]⟩) hp)))
theorem F152_r12:R152 319 2 (upd e 10 (sI x10)) V0 hp K=
 K (w3 e 10 (sI x10) 33 (sI x10) 34 (sB (decide (x10≥8)))) V0 hp:= by kernel_rfl
theorem F152_r13 (h:E=upd (w5 e 14 (sI x14) 13 (sI x13) 12 (sI x12) 11 (sP x11) 3 (sV x3)) 0 (sS x0a x0n x0c)):R152 1727 7 E V0 hp K=
 CF Tryd.prog 175 [(.slice x0a x0n x0c),(.int .i64 x12),(.int .i64 x13),(.int .i64 x14),(.pointer x11),x3] hp fun u1 h2=>(intV u1 .i64 fun i3=>K (w7 E 49 (sS x0a x0n x0c) 50 (sI x12) 51 (sI x13) 52 (sI x14) 53 (sV x3) 54 (sI i3) 13 (sI i3)) V0 h2):= by subst h; kernel_rfl
def F152_j2 (x0a:OA) (x0n x0c:Nat) (x3:Value) (x11:OA) (x12 x13 x14:Int) (hp:HP) (K:Kh):Prop:=
  (CF Tryd.prog 175 [(.slice x0a x0n x0c),(.int .i64 x12),(.int .i64 x13),(.int .i64 x14),(.pointer x11),x3] hp fun u6 h7=>intV u6 .i64 fun i8=>F152_j1 x11 i8 h7  K)
theorem F152_r14:R152 2239 2 (upd e 10 (sI x10)) V0 hp K=
 K (w3 e 10 (sI x10) 35 (sI x10) 36 (sB (decide (x10≥50)))) V0 hp:= by kernel_rfl
theorem F152_r15 (h:E=upd (w3 e 12 (sI x12) 11 (sP x11) 3 (sV x3)) 0 (sS x0a x0n x0c)):R152 9407 5 E V0 hp K=
 CF Tryd.prog 174 [(.slice x0a x0n x0c),(.int .i64 x12),(.pointer x11),x3] hp fun u1 h2=>(intV u1 .i64 fun i3=>K (w5 E 37 (sS x0a x0n x0c) 38 (sI x12) 39 (sV x3) 40 (sI i3) 12 (sI i3)) V0 h2):= by subst h; kernel_rfl
theorem F152_r16 (h:E=upd (w3 e 13 (sI x13) 11 (sP x11) 3 (sV x3)) 0 (sS x0a x0n x0c)):R152 21695 5 E V0 hp K=
 CF Tryd.prog 174 [(.slice x0a x0n x0c),(.int .i64 x13),(.pointer x11),x3] hp fun u1 h2=>(intV u1 .i64 fun i3=>K (w5 E 41 (sS x0a x0n x0c) 42 (sI x13) 43 (sV x3) 44 (sI i3) 13 (sI i3)) V0 h2):= by subst h; kernel_rfl
theorem F152_r17 (h:E=upd (w3 e 14 (sI x14) 11 (sP x11) 3 (sV x3)) 0 (sS x0a x0n x0c)):R152 29887 5 E V0 hp K=
 CF Tryd.prog 174 [(.slice x0a x0n x0c),(.int .i64 x14),(.pointer x11),x3] hp fun u1 h2=>(intV u1 .i64 fun i3=>K (w5 E 45 (sS x0a x0n x0c) 46 (sI x14) 47 (sV x3) 48 (sI i3) 14 (sI i3)) V0 h2):= by subst h; kernel_rfl
def F152 (x0a:OA) (x0n x0c:Nat) (x1 x2:Int) (x3:Value) (hp:HP) (K:Kh):Prop:=
  (∀ b1:Nat,hp b1=.none→(((4:Int)≠0)∧(((4:Int)≠0)∧(((4:Int)≠0)∧(ite2 (decide (((IntKind.wrap .i64 (x2-x1)):Int)≥8)) (ite2 (decide (((IntKind.wrap .i64 (x2-x1)):Int)≥50)) (CF Tryd.prog 174 [(.slice x0a x0n x0c),(.int .i64 (IntKind.wrap .i64 (x1+(IntKind.wrap .i64 ((IntKind.wrap .i64 (Int.tdiv (IntKind.wrap .i64 (x2-x1)) 4))*1))))),(.pointer (some ⟨b1,0,none⟩)),x3] (HP.set hp b1 (.cells 3 [.int .i64 0] 0)) fun u9 h10=>intV u9 .i64 fun i11=>CF Tryd.prog 174 [(.slice x0a x0n x0c),(.int .i64 (IntKind.wrap .i64 (x1+(IntKind.wrap .i64 ((IntKind.wrap .i64 (Int.tdiv (IntKind.wrap .i64 (x2-x1)) 4))*2))))),(.pointer (some ⟨b1,0,none⟩)),x3] h10 fun u12 h13=>intV u12 .i64 fun i14=>CF Tryd.prog 174 [(.slice x0a x0n x0c),(.int .i64 (IntKind.wrap .i64 (x1+(IntKind.wrap .i64 ((IntKind.wrap .i64 (Int.tdiv (IntKind.wrap .i64 (x2-x1)) 4))*3))))),(.pointer (some ⟨b1,0,none⟩)),x3] h13 fun u15 h16=>intV u15 .i64 fun i17=>F152_j2 x0a x0n x0c x3 (some ⟨b1,0,none⟩) i11 i14 i17 h16  K) (F152_j2 x0a x0n x0c x3 (some ⟨b1,0,none⟩) (IntKind.wrap .i64 (x1+(IntKind.wrap .i64 ((IntKind.wrap .i64 (Int.tdiv (IntKind.wrap .i64 (x2-x1)) 4))*1)))) (IntKind.wrap .i64 (x1+(IntKind.wrap .i64 ((IntKind.wrap .i64 (Int.tdiv (IntKind.wrap .i64 (x2-x1)) 4))*2)))) (IntKind.wrap .i64 (x1+(IntKind.wrap .i64 ((IntKind.wrap .i64 (Int.tdiv (IntKind.wrap .i64 (x2-x1)) 4))*3)))) (HP.set hp b1 (.cells 3 [.int .i64 0] 0))  K)) (F152_j1 (some ⟨b1,0,none⟩) (IntKind.wrap .i64 (x1+(IntKind.wrap .i64 ((IntKind.wrap .i64 (Int.tdiv (IntKind.wrap .i64 (x2-x1)) 4))*2)))) (HP.set hp b1 (.cells 3 [.int .i64 0] 0))  K))))))
noncomputable abbrev o152 (k n:Nat):Code:=.region k (opsAt Tryd.f152 (pth n)) false
noncomputable def F152_code:Code:=(.seq (o152 0 2) (.seq (o152 1 5) (.seq (o152 2 11) (.seq (o152 3 23) (.seq (o152 4 47) (.seq (o152 5 95) (.seq (.seq (o152 6 319) (.cond (.tmp 34) (.seq (.seq (o152 7 2239) (.cond (.tmp 36) (.seq (o152 8 9407) (.seq (o152 9 21695) (o152 10 29887))) .skip)) (o152 11 1727)) .skip)) (.seq (o152 12 383) (.block 0 (.seq (o152 14 1279) (.cond (.tmp 57) (.seq (o152 15 4863) .ret) (.seq (o152 16 5887) (.cond (.tmp 60) (.seq (o152 17 20223) .ret) (.seq (o152 13 24319) .ret))))))))))))))
theorem F152_body:Tryd.f152.body=some F152_code:=by kernel_rfl
theorem F152_ok (x0a:OA) (x0n x0c:Nat) (x1 x2:Int) (x3:Value) (hp:HP) (K:Kh) (h:F152 x0a x0n x0c x1 x2 x3 hp K):CF Tryd.prog 152 [(.slice x0a x0n x0c),(.int .i64 x1),(.int .i64 x2),x3] hp K:=by
 refine .inl ⟨by kernel_rfl,AC.intro (N:=63) Tryd.func152 F152_body rfl (Nat.le_of_ble_eq_true rfl) ?_⟩
 unfold F152 at h
 refine Ar F152_r0 ?_ (r4 0 1 2 3 Rn) (z4 Sn) Sn
 refine Ar F152_r1 ?_ (r4 1 2 0 3 Rn) (z4 Sn) Sn
 refine Ar F152_r2 ?_ (r4 0 1 3 10 Rn) (z4 Sn) Sn
 refine fun b1 hb_b_1=>?_
 replace h:=h b1 hb_b_1
 refine Ar F152_r3 ?_ (r5 1 10 0 3 11 Rn) (z5 Sn) Sn
 refine ⟨h.1,?_⟩
 replace h:=h.2
 refine Ar F152_r4 ?_ (r6 1 10 0 3 11 12 Rn) (z6 Sn) Sn
 refine ⟨h.1,?_⟩
 replace h:=h.2
 refine Ar F152_r5 ?_ (r7 1 10 0 3 11 12 13 Rn) (z7 Sn) Sn
 refine ⟨h.1,?_⟩
 replace h:=h.2
 refine As (fun env pv hp=>∃ x11 x13,Sub (w2 E0 13 (sI x13) 11 (sP x11)) env∧Sub V0 pv∧F152_j1 x11 x13 hp  K) ?_ ?_
 ·refine Ar F152_r12 ?_ (r7 10 0 3 11 12 13 14 Rn) (z7 Sn) Sn
  refine Ac h rfl (fun h=>?_) (fun h=>?_)
  ·refine As (fun env pv hp=>∃ x0a x0n x0c x3 x11 x12 x13 x14,Sub (w6 E0 14 (sI x14) 13 (sI x13) 12 (sI x12) 11 (sP x11) 3 (sV x3) 0 (sS x0a x0n x0c)) env∧Sub V0 pv∧F152_j2 x0a x0n x0c x3 x11 x12 x13 x14 hp  K) ?_ ?_
   ·refine Ar F152_r14 ?_ (r7 10 0 3 11 12 13 14 Rn) (z7 Sn) Sn
    refine Ac h rfl (fun h=>?_) (fun h=>?_)
    ·refine Ar (F152_r15 rfl) ?_ (r6 0 3 11 12 13 14 Rn) (z6 Sn) Sn
     refine mC h fun u9 h10 h=>mI h fun i11 h=>?_
     refine Ar (F152_r16 rfl) ?_ (r6 0 3 11 13 12 14 Rn) (z6 Sn) Sn
     refine mC h fun u12 h13 h=>mI h fun i14 h=>?_
     refine Ag (F152_r17 rfl) ?_ (r6 0 3 11 14 12 13 Rn) (z6 Sn) Sn
     refine mC h fun u15 h16 h=>mI h fun i17 h=>?_
     exact ⟨_,_,_,_,_,_,_,_,(z6 Sn),Sn,h⟩
    ·refine AWP.skip ?_
     exact ⟨_,_,_,_,_,_,_,_,(z6 Sn),Sn,h⟩
   ·rintro env pv hp ⟨x0a,x0n,x0c,x3,x11,x12,x13,x14,he,hv,h⟩
    refine Ae ?_ (r6 0 3 11 12 13 14 Rn) he hv
    unfold F152_j2 at h
    refine Ag (F152_r13 rfl) ?_ (r6 0 3 11 12 13 14 Rn) (z6 Sn) Sn
    refine mC h fun u6 h7 h=>mI h fun i8 h=>?_
    exact ⟨_,_,(z2 Sn),Sn,h⟩
  ·refine AWP.skip ?_
   exact ⟨_,_,(z2 Sn),Sn,h⟩
 ·rintro env pv hp ⟨x11,x13,he,hv,h⟩
  refine Ae ?_ (r2 11 13 Rn) he hv
  unfold F152_j1 at h
  refine Ar F152_r6 ?_ (r2 11 13 Rn) (z2 Sn) Sn
  refine mN h fun b2 o3 h=>mV h fun v4 h=>mI h fun i5 h=>?_
  refine AWP.block (Ar F152_r7 ?_ (r2 55 13 Rn) (z2 Sn) Sn)
  refine Ac h rfl (fun h=>?_) (fun h=>?_)
  ·refine Ar F152_r8 ?_ (r1 13 Rn) (z1 Sn) Sn
   refine AWP.ret ?_
   exact h
  ·refine Ar F152_r9 ?_ (r2 55 13 Rn) (z2 Sn) Sn
   refine Ac h rfl (fun h=>?_) (fun h=>?_)
   ·refine Ar F152_r10 ?_ (r1 13 Rn) (z1 Sn) Sn
    refine AWP.ret ?_
    exact h
   ·refine Ar F152_r11 ?_ (r1 13 Rn) (z1 Sn) Sn
    refine AWP.ret ?_
    exact h
end
section
variable {e E:Env} {x0a:OA} {x0n x0c:Nat} {x1:Int} {x2:OA} {x3:Value} {hp:HP} {K:Env→PV→HP→Prop}
abbrev R174 (p n:Nat):=RW Tryd.prog 18 [] (opsAt Tryd.f174 (pth p)) (List.range n)
theorem F174_r0:R174 2 1 e V0 hp K=
 K (upd e 8 (sI 0)) V0 hp:= by kernel_rfl
theorem F174_r1 (h:E=upd (w3 e 3 (sV x3) 2 (sP x2) 1 (sI x1)) 0 (sS x0a x0n x0c)):R174 5 10 E V0 hp K=
 CF Tryd.prog 175 [(.slice x0a x0n x0c),(.int .i64 (wr (x1-1))),(.int .i64 x1),(.int .i64 (wr (x1+1))),(.pointer x2),x3] hp fun u1 h2=>(intV u1 .i64 fun i3=>K (w2 (w8 E 9 (sS x0a x0n x0c) 10 (sI x1) 11 (sI ((wr (x1-1)))) 12 (sI x1) 13 (sI x1) 14 (sI ((wr (x1+1)))) 15 (sP x2) 16 (sV x3)) 17 (sI i3) 8 (sI i3)) V0 h2):= by subst h; kernel_rfl
def F174 (x0a:OA) (x0n x0c:Nat) (x1:Int) (x2:OA) (x3:Value) (hp:HP) (K:Kh):Prop:=
  (CF Tryd.prog 175 [(.slice x0a x0n x0c),(.int .i64 (IntKind.wrap .i64 (x1-1))),(.int .i64 x1),(.int .i64 (IntKind.wrap .i64 (x1+1))),(.pointer x2),x3] hp fun u1 h2=>intV u1 .i64 fun i3=>K (.int .i64 i3) h2)
noncomputable def F174_code:Code:=(.seq (.region 0 (opsAt Tryd.f174 (pth 2)) false) (.seq (.region 1 (opsAt Tryd.f174 (pth 5)) false) .ret))
theorem F174_body:Tryd.f174.body=some F174_code:=by kernel_rfl
theorem F174_ok (x0a:OA) (x0n x0c:Nat) (x1:Int) (x2:OA) (x3:Value) (hp:HP) (K:Kh) (h:F174 x0a x0n x0c x1 x2 x3 hp K):CF Tryd.prog 174 [(.slice x0a x0n x0c),(.int .i64 x1),(.pointer x2),x3] hp K:=by
 refine .inl ⟨by kernel_rfl,AC.intro (N:=18) Tryd.func174 F174_body rfl (Nat.le_of_ble_eq_true rfl) ?_⟩
 unfold F174 at h
 refine Ar F174_r0 ?_ (r4 0 1 2 3 Rn) (z4 Sn) Sn
 refine Ar (F174_r1 rfl) ?_ (r4 0 1 2 3 Rn) (z4 Sn) Sn
 refine mC h fun u1 h2 h=>mI h fun i3 h=>?_
 refine AWP.ret ?_
 exact h
end
section
variable {e E:Env} {x0a:OA} {x0n x0c:Nat} {x1 x2 x3:Int} {x4:OA} {x5:Value} {hp:HP} {K:Env→PV→HP→Prop}
abbrev R175 (p n:Nat):=RW Tryd.prog 41 [] (opsAt Tryd.f175 (pth p)) (List.range n)
theorem F175_r0:R175 2 1 e V0 hp K=
 K (upd e 12 (sI 0)) V0 hp:= by kernel_rfl
theorem F175_r1 (h:E=upd (w4 e 5 (sV x5) 4 (sP x4) 2 (sI x2) 1 (sI x1)) 0 (sS x0a x0n x0c)):R175 5 11 E V0 hp K=
 CF Tryd.prog 186 [(.slice x0a x0n x0c),(.int .i64 x1),(.int .i64 x2),(.pointer x4),x5] hp fun u1 h2=>(tup2V u1 fun u3 u4=>intV u3 .i64 fun i5=>intV u4 .i64 fun i6=>K (w3 (w8 E 14 (sS x0a x0n x0c) 15 (sI x1) 16 (sI x2) 17 (sP x4) 18 (sV x5) 19 (sV (.tuple ⟨[(.int .i64 i5),(.int .i64 i6)]⟩)) 13 (sV (.tuple ⟨[(.int .i64 i5),(.int .i64 i6)]⟩)) 20 (sI i5)) 21 (sI i6) 1 (sI i5) 2 (sI i6)) V0 h2):= by subst h; kernel_rfl
theorem F175_r2 (h:E=upd (w4 e 5 (sV x5) 4 (sP x4) 3 (sI x3) 2 (sI x2)) 0 (sS x0a x0n x0c)):R175 11 11 E V0 hp K=
 CF Tryd.prog 186 [(.slice x0a x0n x0c),(.int .i64 x2),(.int .i64 x3),(.pointer x4),x5] hp fun u1 h2=>(tup2V u1 fun u3 u4=>intV u3 .i64 fun i5=>intV u4 .i64 fun i6=>K (w3 (w8 E 23 (sS x0a x0n x0c) 24 (sI x2) 25 (sI x3) 26 (sP x4) 27 (sV x5) 28 (sV (.tuple ⟨[(.int .i64 i5),(.int .i64 i6)]⟩)) 22 (sV (.tuple ⟨[(.int .i64 i5),(.int .i64 i6)]⟩)) 29 (sI i5)) 30 (sI i6) 2 (sI i5) 3 (sI i6)) V0 h2):= by subst h; kernel_rfl
theorem F175_r3 (h:E=upd (w4 e 5 (sV x5) 4 (sP x4) 2 (sI x2) 1 (sI x1)) 0 (sS x0a x0n x0c)):R175 23 11 E V0 hp K=
 CF Tryd.prog 186 [(.slice x0a x0n x0c),(.int .i64 x1),(.int .i64 x2),(.pointer x4),x5] hp fun u1 h2=>(tup2V u1 fun u3 u4=>intV u3 .i64 fun i5=>intV u4 .i64 fun i6=>K (w3 (w8 E 32 (sS x0a x0n x0c) 33 (sI x1) 34 (sI x2) 35 (sP x4) 36 (sV x5) 37 (sV (.tuple ⟨[(.int .i64 i5),(.int .i64 i6)]⟩)) 31 (sV (.tuple ⟨[(.int .i64 i5),(.int .i64 i6)]⟩)) 38 (sI i5)) 39 (sI i6) 1 (sI i5) 2 (sI i6)) V0 h2):= by subst h; kernel_rfl
theorem F175_r4:R175 47 2 (upd e 2 (sI x2)) V0 hp K=
 K (w3 e 2 (sI x2) 40 (sI x2) 12 (sI x2)) V0 hp:= by kernel_rfl
def F175 (x0a:OA) (x0n x0c:Nat) (x1 x2 x3:Int) (x4:OA) (x5:Value) (hp:HP) (K:Kh):Prop:=
  (CF Tryd.prog 186 [(.slice x0a x0n x0c),(.int .i64 x1),(.int .i64 x2),(.pointer x4),x5] hp fun u1 h2=>tup2V u1 fun u3 u4=>intV u3 .i64 fun i5=>intV u4 .i64 fun i6=>CF Tryd.prog 186 [(.slice x0a x0n x0c),(.int .i64 i6),(.int .i64 x3),(.pointer x4),x5] h2 fun u7 h8=>tup2V u7 fun u9 u10=>intV u9 .i64 fun i11=>intV u10 .i64 fun i12=>CF Tryd.prog 186 [(.slice x0a x0n x0c),(.int .i64 i5),(.int .i64 i11),(.pointer x4),x5] h8 fun u13 h14=>tup2V u13 fun u15 u16=>intV u15 .i64 fun i17=>intV u16 .i64 fun i18=>K (.int .i64 i18) h14)
noncomputable def F175_code:Code:=(.seq (.region 0 (opsAt Tryd.f175 (pth 2)) false) (.seq (.region 1 (opsAt Tryd.f175 (pth 5)) false) (.seq (.region 2 (opsAt Tryd.f175 (pth 11)) false) (.seq (.region 3 (opsAt Tryd.f175 (pth 23)) false) (.seq (.region 4 (opsAt Tryd.f175 (pth 47)) false) .ret)))))
theorem F175_body:Tryd.f175.body=some F175_code:=by kernel_rfl
theorem F175_ok (x0a:OA) (x0n x0c:Nat) (x1 x2 x3:Int) (x4:OA) (x5:Value) (hp:HP) (K:Kh) (h:F175 x0a x0n x0c x1 x2 x3 x4 x5 hp K):CF Tryd.prog 175 [(.slice x0a x0n x0c),(.int .i64 x1),(.int .i64 x2),(.int .i64 x3),(.pointer x4),x5] hp K:=by
 refine .inl ⟨by kernel_rfl,AC.intro (N:=41) Tryd.func175 F175_body rfl (Nat.le_of_ble_eq_true rfl) ?_⟩
 unfold F175 at h
 refine Ar F175_r0 ?_ (r6 0 1 2 3 4 5 Rn) (z6 Sn) Sn
 refine Ar (F175_r1 rfl) ?_ (r6 0 1 2 4 5 3 Rn) (z6 Sn) Sn
 refine mC h fun u1 h2 h=>mT h fun u3 u4 h=>mI h fun i5 h=>mI h fun i6 h=>?_
 refine Ar (F175_r2 rfl) ?_ (r6 0 2 3 4 5 1 Rn) (z6 Sn) Sn
 refine mC h fun u7 h8 h=>mT h fun u9 u10 h=>mI h fun i11 h=>mI h fun i12 h=>?_
 refine Ar (F175_r3 rfl) ?_ (r5 0 1 2 4 5 Rn) (z5 Sn) Sn
 refine mC h fun u13 h14 h=>mT h fun u15 u16 h=>mI h fun i17 h=>mI h fun i18 h=>?_
 refine Ar F175_r4 ?_ (r1 2 Rn) (z1 Sn) Sn
 refine AWP.ret ?_
 exact h
end
section
variable {e E:Env} {x0a:OA} {x0n x0c:Nat} {x1 x2:Int} {x3:OA} {x4:Value} {hp:HP} {K:Env→PV→HP→Prop}
abbrev R186 (p n:Nat):=RW Tryd.prog 32 [] (opsAt Tryd.f186 (pth p)) (List.range n)
theorem F186_r0:R186 2 2 e V0 hp K=
 K (w2 e 10 (sI 0) 11 (sI 0)) V0 hp:= by kernel_rfl
theorem F186_r1 (h:E=upd (w3 e 4 (sV x4) 2 (sI x2) 1 (sI x1)) 0 (sS x0a x0n x0c)):R186 9 11 E V0 hp K=
    ((0≤x2)∧(x2<x0n)∧(ptrN x0a fun b1 o2=>ldL (HP.cellN hp b1 (o2+Int.toNat x2*26) 26) fun l3=>(0≤x1)∧(x1<x0n)∧(ptrN x0a fun b4 o5=>ldL (HP.cellN hp b4 (o5+Int.toNat x1*26) 26) fun l6=>fnV x4 fun f7 ga8 gb9=>CF Tryd.prog f7 (ga8++[(Value.agg ⟨l3⟩),(.agg ⟨l6⟩)]++gb9) hp fun u10 h11=>intV u10 .i64 fun i12=>K (w3 (w8 E 12 (sV x4) 13 (sS x0a x0n x0c) 14 (sI x2) 15 (sQ b1 (o2+Int.toNat x2*26)) 16 (sA l3) 17 (sS x0a x0n x0c) 18 (sI x1) 19 (sQ b4 (o5+Int.toNat x1*26))) 20 (sA l6) 21 (sI i12) 22 (sB (decide (i12<0)))) V0 h11))):=by subst h; kernel_rfl
theorem F186_r2:R186 37 6 (upd e 3 (sP x3)) V0 hp K=
 ptrN x3 fun b1 o2=>(ldV (HP.cell hp b1 o2) fun v3=>intV v3 .i64 fun i4=>ptrN x3 fun b5 o6=>HP.st hp b5 o6 (.int .i64 (wr (i4+1))) fun h7=>K (w6 e 3 (sP x3) 23 (sP x3) 24 (sQ b1 o2) 25 (sI i4) 26 (sI ((wr (i4+1)))) 27 (sQ b5 o6)) V0 h7):= by kernel_rfl
theorem F186_r3:R186 85 4 (w2 e 2 (sI x2) 1 (sI x1)) V0 hp K=
 K (w6 e 2 (sI x2) 1 (sI x1) 28 (sI x2) 29 (sI x1) 10 (sI x2) 11 (sI x1)) V0 hp:= by kernel_rfl
theorem F186_r4:R186 11 4 (w2 e 2 (sI x2) 1 (sI x1)) V0 hp K=
 K (w6 e 2 (sI x2) 1 (sI x1) 30 (sI x1) 31 (sI x2) 10 (sI x1) 11 (sI x2)) V0 hp:= by kernel_rfl
def F186 (x0a:OA) (x0n x0c:Nat) (x1 x2:Int) (x3:OA) (x4:Value) (hp:HP) (K:Kh):Prop:=
  ((0≤x2)∧(x2<x0n)∧(ptrN x0a fun b1 o2=>ldL (HP.cellN hp b1 (o2+Int.toNat x2*26) 26) fun l3=>(0≤x1)∧(x1<x0n)∧(ptrN x0a fun b4 o5=>ldL (HP.cellN hp b4 (o5+Int.toNat x1*26) 26) fun l6=>fnV x4 fun f7 ga_8 gb_9=>CF Tryd.prog f7 (ga_8++[(Value.agg ⟨l3⟩),(.agg ⟨l6⟩)]++gb_9) hp fun u10 h11=>intV u10 .i64 fun i12=>ite2 (decide (i12<0)) (ptrN x3 fun b13 o14=>ldV (HP.cell h11 b13 o14) fun v15=>intV v15 .i64 fun i16=>ptrN x3 fun b17 o18=>HP.st h11 b17 o18 (.int .i64 (IntKind.wrap .i64 (i16+1))) fun h19=>K (.tuple ⟨[(.int .i64 x2),(.int .i64 x1)]⟩) h19) (K (.tuple ⟨[(.int .i64 x1),(.int .i64 x2)]⟩) h11))))
noncomputable def F186_code:Code:=(.seq (.region 0 (opsAt Tryd.f186 (pth 2)) false) (.seq (.seq (.region 1 (opsAt Tryd.f186 (pth 9)) true) (.cond (.tmp 22) (.seq (.region 2 (opsAt Tryd.f186 (pth 37)) false) (.seq (.region 3 (opsAt Tryd.f186 (pth 85)) false) .ret)) .skip)) (.seq (.region 4 (opsAt Tryd.f186 (pth 11)) false) .ret)))
theorem F186_body:Tryd.f186.body=some F186_code:=by kernel_rfl
theorem F186_ok (x0a:OA) (x0n x0c:Nat) (x1 x2:Int) (x3:OA) (x4:Value) (hp:HP) (K:Kh) (h:F186 x0a x0n x0c x1 x2 x3 x4 hp K):CF Tryd.prog 186 [(.slice x0a x0n x0c),(.int .i64 x1),(.int .i64 x2),(.pointer x3),x4] hp K:=by
 refine .inl ⟨by kernel_rfl,AC.intro (N:=32) Tryd.func186 F186_body rfl (Nat.le_of_ble_eq_true rfl) ?_⟩
 unfold F186 at h
 refine Ar F186_r0 ?_ (r5 0 1 2 3 4 Rn) (z5 Sn) Sn
 refine Aq (Aq (AWP.rgnD (by kernel_rfl) (by kernel_rfl) (F186_r1 rfl) ?_ (r5 0 1 2 4 3 Rn) (z5 Sn) Sn))
 refine ⟨h.1,h.2.1,mN h.2.2 (fun b1 o2 h=>mL h (fun l3 h=>⟨h.1,h.2.1,mN h.2.2 fun b4 o5 h=>mL h fun l6 h=>mF h fun f7 ga_8 gb_9 h=>mC h fun u10 h11 h=>mI h fun i12 h=>?_⟩))⟩
 refine Ac h rfl (fun h=>?_) (fun h=>?_)
 ·refine Ar F186_r2 ?_ (r3 3 1 2 Rn) (z3 Sn) Sn
  refine mN h fun b13 o14 h=>mV h fun v15 h=>mI h fun i16 h=>mN h fun b17 o18 h=>mw h fun h19 h=>?_
  refine Ar F186_r3 ?_ (r2 1 2 Rn) (z2 Sn) Sn
  refine AWP.ret ?_
  exact h
 ·refine AWP.skip (Ar F186_r4 ?_ (r2 1 2 Rn) (z2 Sn) Sn)
  refine AWP.ret ?_
  exact h
end
section
variable {e E:Env} {x0a:OA} {x0n x0c:Nat} {x1:Value} {x4:Int} {hp:HP} {K:Env→PV→HP→Prop}
abbrev R103 (p n:Nat):=RW Tryd.prog 14 [] (opsAt Tryd.f103 (pth p)) (List.range n)
theorem F103_r0:R103 2 3 (upd e 0 (sS x0a x0n x0c)) V0 hp K=
 K (w4 e 0 (sS x0a x0n x0c) 5 (sS x0a x0n x0c) 6 (sI ((x0n:Nat))) 4 (sI ((x0n:Nat)))) V0 hp:= by kernel_rfl
theorem F103_r1 (h:E=upd (w2 e 4 (sI x4) 1 (sV x1)) 0 (sS x0a x0n x0c)):R103 3 7 E V0 hp K=
 CF Tryd.prog 128 [(.int .u64 (IntKind.wrap .u64 (x4)))] hp fun u1 h2=>(intV u1 .i64 fun i3=>CF Tryd.prog 131 [(.slice x0a x0n x0c),.int .i64 0,(.int .i64 x4),(.int .i64 i3),x1] h2 fun u4 h5=>K (w7 E 7 (sS x0a x0n x0c) 8 (sI x4) 9 (sI x4) 10 (sV (.int .u64 (IntKind.wrap .u64 (x4)))) 11 (sI i3) 12 (sV x1) 13 (sV u4)) V0 h5):= by subst h; kernel_rfl
def F103 (x0a:OA) (x0n x0c:Nat) (x1:Value) (hp:HP) (K:Kh):Prop:=
  (CF Tryd.prog 128 [(.int .u64 (IntKind.wrap .u64 ((x0n:Nat))))] hp fun u1 h2=>intV u1 .i64 fun i3=>CF Tryd.prog 131 [(.slice x0a x0n x0c),.int .i64 0,(.int .i64 (x0n:Nat)),(.int .i64 i3),x1] h2 fun u4 h5=>K (.tuple ⟨[]⟩) h5)
noncomputable def F103_code:Code:=(.seq (.region 0 (opsAt Tryd.f103 (pth 2)) false) (.region 1 (opsAt Tryd.f103 (pth 3)) false))
theorem F103_body:Tryd.f103.body=some F103_code:=by kernel_rfl
theorem F103_ok (x0a:OA) (x0n x0c:Nat) (x1:Value) (hp:HP) (K:Kh) (h:F103 x0a x0n x0c x1 hp K):CF Tryd.prog 103 [(.slice x0a x0n x0c),x1] hp K:=by
 refine .inl ⟨by kernel_rfl,AC.intro (N:=14) Tryd.func103 F103_body rfl (Nat.le_of_ble_eq_true rfl) ?_⟩
 unfold F103 at h
 refine Ar F103_r0 ?_ (r2 0 1 Rn) (z2 Sn) Sn
 refine Ag (F103_r1 rfl) ?_ (r3 0 1 4 Rn) (z3 Sn) Sn
 refine mC h fun u1 h2 h=>mI h fun i3 h=>mC h fun u4 h5 h=>?_
 exact h
end
end Go.Proofs
set_option linter.unusedVariables false
set_option maxRecDepth 20000
namespace Go.Proofs
open Go Go.HL
section
variable {e:Env} {x0:Int} {hp:HP} {K:Env→PV→HP→Prop}
abbrev R128 (p n:Nat):=RW Tryd.prog 8 [] (opsAt Tryd.f128 (pth p)) (List.range n)
theorem F128_r0:R128 2 1 e V0 hp K=
 K (upd e 2 (sI 0)) V0 hp:= by kernel_rfl
theorem F128_r1:R128 11 3 (upd e 0 (sV (.int .u64 x0))) V0 hp K=
 CF Tryd.prog 148 [(.int .u64 x0)] hp fun u1 h2=>(intV u1 .i64 fun i3=>K (w4 e 0 (sV (.int .u64 x0)) 6 (sV (.int .u64 x0)) 7 (sI i3) 2 (sI i3)) V0 h2):= by kernel_rfl
def F128 (x0:Int) (hp:HP) (K:Kh):Prop:=
  (CF Tryd.prog 148 [(.int .u64 x0)] hp fun u1 h2=>intV u1 .i64 fun i3=>K (.int .i64 i3) h2)
noncomputable def F128_code:Code:=(.seq (.region 0 (opsAt Tryd.f128 (pth 2)) false) (.seq (.cond (.const (.bool false)) (.seq (.region 1 (opsAt Tryd.f128 (pth 17)) false) .ret) .skip) (.seq (.region 2 (opsAt Tryd.f128 (pth 11)) false) .ret)))
theorem F128_body:Tryd.f128.body=some F128_code:=by kernel_rfl
theorem F128_ok (x0:Int) (hp:HP) (K:Kh) (h:F128 x0 hp K):CF Tryd.prog 128 [(.int .u64 x0)] hp K:=by
 refine .inl ⟨by kernel_rfl,AC.intro (N:=8) Tryd.func128 F128_body rfl (Nat.le_of_ble_eq_true rfl) ?_⟩
 unfold F128 at h
 refine Ar F128_r0 ?_ (r1 0 Rn) (z1 Sn) Sn
 refine Aq (AWP.condK ?_)
 refine AWP.skip (Ar F128_r1 ?_ (r1 0 Rn) (z1 Sn) Sn)
 refine mC h fun u1 h2 h=>mI h fun i3 h=>?_
 refine AWP.ret ?_
 exact h
end
section
variable {e:Env} {x0 x2:Int} {hp:HP} {K:Env→PV→HP→Prop}
abbrev R148 (p n:Nat):=RW Tryd.prog 25 [] (opsAt Tryd.f148 (pth p)) (List.range n)
theorem F148_r0:R148 2 1 e V0 hp K=
 K (upd e 2 (sI 0)) V0 hp:= by kernel_rfl
theorem F148_r1:R148 47 7 (w2 e 2 (sI x2) 0 (sV (.int .u64 x0))) V0 hp K=
    ((0≤((IntKind.wrap .u8 (x0)):Int))∧(((IntKind.wrap .u8 (x0)):Int)<(ByteArray.size (⟨#[0,1,2,2,3,3,3,3,4,4,4,4,4,4,4,4,5,5,5,5,5,5,5,5,5,5,5,5,5,5,5,5,6,6,6,6,6,6,6,6,6,6,6,6,6,6,6,6,6,6,6,6,6,6,6,6,6,6,6,6,6,6,6,6,7,7,7,7,7,7,7,7,7,7,7,7,7,7,7,7,7,7,7,7,7,7,7,7,7,7,7,7,7,7,7,7,7,7,7,7,7,7,7,7,7,7,7,7,7,7,7,7,7,7,7,7,7,7,7,7,7,7,7,7,7,7,7,7,8,8,8,8,8,8,8,8,8,8,8,8,8,8,8,8,8,8,8,8,8,8,8,8,8,8,8,8,8,8,8,8,8,8,8,8,8,8,8,8,8,8,8,8,8,8,8,8,8,8,8,8,8,8,8,8,8,8,8,8,8,8,8,8,8,8,8,8,8,8,8,8,8,8,8,8,8,8,8,8,8,8,8,8,8,8,8,8,8,8,8,8,8,8,8,8,8,8,8,8,8,8,8,8,8,8,8,8,8,8,8,8,8,8,8,8,8,8,8,8,8,8,8,8,8,8,8,8]⟩:ByteArray):Nat))∧(K (upd (w8 e 2 (sI x2) 0 (sV (.int .u64 x0)) 19 (sI x2) 20 (sV (.int .u64 x0)) 21 (sV (.int .u8 (IntKind.wrap .u8 (x0)))) 22 (sV (.int .u8 (bt (⟨#[0,1,2,2,3,3,3,3,4,4,4,4,4,4,4,4,5,5,5,5,5,5,5,5,5,5,5,5,5,5,5,5,6,6,6,6,6,6,6,6,6,6,6,6,6,6,6,6,6,6,6,6,6,6,6,6,6,6,6,6,6,6,6,6,7,7,7,7,7,7,7,7,7,7,7,7,7,7,7,7,7,7,7,7,7,7,7,7,7,7,7,7,7,7,7,7,7,7,7,7,7,7,7,7,7,7,7,7,7,7,7,7,7,7,7,7,7,7,7,7,7,7,7,7,7,7,7,7,8,8,8,8,8,8,8,8,8,8,8,8,8,8,8,8,8,8,8,8,8,8,8,8,8,8,8,8,8,8,8,8,8,8,8,8,8,8,8,8,8,8,8,8,8,8,8,8,8,8,8,8,8,8,8,8,8,8,8,8,8,8,8,8,8,8,8,8,8,8,8,8,8,8,8,8,8,8,8,8,8,8,8,8,8,8,8,8,8,8,8,8,8,8,8,8,8,8,8,8,8,8,8,8,8,8,8,8,8,8,8,8,8,8,8,8,8,8,8,8,8,8,8,8,8,8,8,8]⟩:ByteArray) (IntKind.wrap .u8 (x0))))) 23 (sI ((wr ((bt (⟨#[0,1,2,2,3,3,3,3,4,4,4,4,4,4,4,4,5,5,5,5,5,5,5,5,5,5,5,5,5,5,5,5,6,6,6,6,6,6,6,6,6,6,6,6,6,6,6,6,6,6,6,6,6,6,6,6,6,6,6,6,6,6,6,6,7,7,7,7,7,7,7,7,7,7,7,7,7,7,7,7,7,7,7,7,7,7,7,7,7,7,7,7,7,7,7,7,7,7,7,7,7,7,7,7,7,7,7,7,7,7,7,7,7,7,7,7,7,7,7,7,7,7,7,7,7,7,7,7,8,8,8,8,8,8,8,8,8,8,8,8,8,8,8,8,8,8,8,8,8,8,8,8,8,8,8,8,8,8,8,8,8,8,8,8,8,8,8,8,8,8,8,8,8,8,8,8,8,8,8,8,8,8,8,8,8,8,8,8,8,8,8,8,8,8,8,8,8,8,8,8,8,8,8,8,8,8,8,8,8,8,8,8,8,8,8,8,8,8,8,8,8,8,8,8,8,8,8,8,8,8,8,8,8,8,8,8,8,8,8,8,8,8,8,8,8,8,8,8,8,8,8,8,8,8,8,8]⟩:ByteArray) (IntKind.wrap .u8 (x0))))))) 24 (sI ((wr (x2+(wr ((bt (⟨#[0,1,2,2,3,3,3,3,4,4,4,4,4,4,4,4,5,5,5,5,5,5,5,5,5,5,5,5,5,5,5,5,6,6,6,6,6,6,6,6,6,6,6,6,6,6,6,6,6,6,6,6,6,6,6,6,6,6,6,6,6,6,6,6,7,7,7,7,7,7,7,7,7,7,7,7,7,7,7,7,7,7,7,7,7,7,7,7,7,7,7,7,7,7,7,7,7,7,7,7,7,7,7,7,7,7,7,7,7,7,7,7,7,7,7,7,7,7,7,7,7,7,7,7,7,7,7,7,8,8,8,8,8,8,8,8,8,8,8,8,8,8,8,8,8,8,8,8,8,8,8,8,8,8,8,8,8,8,8,8,8,8,8,8,8,8,8,8,8,8,8,8,8,8,8,8,8,8,8,8,8,8,8,8,8,8,8,8,8,8,8,8,8,8,8,8,8,8,8,8,8,8,8,8,8,8,8,8,8,8,8,8,8,8,8,8,8,8,8,8,8,8,8,8,8,8,8,8,8,8,8,8,8,8,8,8,8,8,8,8,8,8,8,8,8,8,8,8,8,8,8,8,8,8,8,8]⟩:ByteArray) (IntKind.wrap .u8 (x0)))))))))) 2 (sI ((wr (x2+(wr ((bt (⟨#[0,1,2,2,3,3,3,3,4,4,4,4,4,4,4,4,5,5,5,5,5,5,5,5,5,5,5,5,5,5,5,5,6,6,6,6,6,6,6,6,6,6,6,6,6,6,6,6,6,6,6,6,6,6,6,6,6,6,6,6,6,6,6,6,7,7,7,7,7,7,7,7,7,7,7,7,7,7,7,7,7,7,7,7,7,7,7,7,7,7,7,7,7,7,7,7,7,7,7,7,7,7,7,7,7,7,7,7,7,7,7,7,7,7,7,7,7,7,7,7,7,7,7,7,7,7,7,7,8,8,8,8,8,8,8,8,8,8,8,8,8,8,8,8,8,8,8,8,8,8,8,8,8,8,8,8,8,8,8,8,8,8,8,8,8,8,8,8,8,8,8,8,8,8,8,8,8,8,8,8,8,8,8,8,8,8,8,8,8,8,8,8,8,8,8,8,8,8,8,8,8,8,8,8,8,8,8,8,8,8,8,8,8,8,8,8,8,8,8,8,8,8,8,8,8,8,8,8,8,8,8,8,8,8,8,8,8,8,8,8,8,8,8,8,8,8,8,8,8,8,8,8,8,8,8,8]⟩:ByteArray) (IntKind.wrap .u8 (x0)))))))))) V0 hp)):=by kernel_rfl
def F148_j3 (x0 x2:Int) (hp:HP) (K:Kh):Prop:=
  ((0≤((IntKind.wrap .u8 (x0)):Int))∧(((IntKind.wrap .u8 (x0)):Int)<(ByteArray.size (⟨#[0,1,2,2,3,3,3,3,4,4,4,4,4,4,4,4,5,5,5,5,5,5,5,5,5,5,5,5,5,5,5,5,6,6,6,6,6,6,6,6,6,6,6,6,6,6,6,6,6,6,6,6,6,6,6,6,6,6,6,6,6,6,6,6,7,7,7,7,7,7,7,7,7,7,7,7,7,7,7,7,7,7,7,7,7,7,7,7,7,7,7,7,7,7,7,7,7,7,7,7,7,7,7,7,7,7,7,7,7,7,7,7,7,7,7,7,7,7,7,7,7,7,7,7,7,7,7,7,8,8,8,8,8,8,8,8,8,8,8,8,8,8,8,8,8,8,8,8,8,8,8,8,8,8,8,8,8,8,8,8,8,8,8,8,8,8,8,8,8,8,8,8,8,8,8,8,8,8,8,8,8,8,8,8,8,8,8,8,8,8,8,8,8,8,8,8,8,8,8,8,8,8,8,8,8,8,8,8,8,8,8,8,8,8,8,8,8,8,8,8,8,8,8,8,8,8,8,8,8,8,8,8,8,8,8,8,8,8,8,8,8,8,8,8,8,8,8,8,8,8,8,8,8,8,8,8]⟩:ByteArray):Nat))∧(K (.int .i64 (IntKind.wrap .i64 (x2+(IntKind.wrap .i64 ((bt (⟨#[0,1,2,2,3,3,3,3,4,4,4,4,4,4,4,4,5,5,5,5,5,5,5,5,5,5,5,5,5,5,5,5,6,6,6,6,6,6,6,6,6,6,6,6,6,6,6,6,6,6,6,6,6,6,6,6,6,6,6,6,6,6,6,6,7,7,7,7,7,7,7,7,7,7,7,7,7,7,7,7,7,7,7,7,7,7,7,7,7,7,7,7,7,7,7,7,7,7,7,7,7,7,7,7,7,7,7,7,7,7,7,7,7,7,7,7,7,7,7,7,7,7,7,7,7,7,7,7,8,8,8,8,8,8,8,8,8,8,8,8,8,8,8,8,8,8,8,8,8,8,8,8,8,8,8,8,8,8,8,8,8,8,8,8,8,8,8,8,8,8,8,8,8,8,8,8,8,8,8,8,8,8,8,8,8,8,8,8,8,8,8,8,8,8,8,8,8,8,8,8,8,8,8,8,8,8,8,8,8,8,8,8,8,8,8,8,8,8,8,8,8,8,8,8,8,8,8,8,8,8,8,8,8,8,8,8,8,8,8,8,8,8,8,8,8,8,8,8,8,8,8,8,8,8,8,8]⟩:ByteArray) (IntKind.wrap .u8 (x0)))))))) hp))
theorem F148_r2:R148 39 2 (upd e 0 (sV (.int .u64 x0))) V0 hp K=
 K (w3 e 0 (sV (.int .u64 x0)) 13 (sV (.int .u64 x0)) 14 (sB (decide (x0≥256)))) V0 hp:= by kernel_rfl
theorem F148_r3:R148 151 3 (upd e 0 (sV (.int .u64 x0))) V0 hp K=
    ((0≤(8:Int))∧(K (w4 e 0 (sV (.int .u64 x0)) 15 (sV (.int .u64 x0)) 16 (sV (.int .u64 (Int.fdiv x0 (2 ^ (min (Int.toNat 8) (IntKind.bits .u64)))))) 0 (sV (.int .u64 (Int.fdiv x0 (2 ^ (min (Int.toNat 8) (IntKind.bits .u64))))))) V0 hp)):=by kernel_rfl
theorem F148_r4:R148 215 3 (upd e 2 (sI x2)) V0 hp K=
 K (w4 e 2 (sI x2) 17 (sI x2) 18 (sI ((wr (x2+8)))) 2 (sI ((wr (x2+8))))) V0 hp:= by kernel_rfl
def F148_j2 (x0 x2:Int) (hp:HP) (K:Kh):Prop:=
  (ite2 (decide (x0≥256)) ((0≤(8:Int))∧(F148_j3 (Int.fdiv x0 (2 ^ (min (Int.toNat 8) (IntKind.bits .u64)))) (IntKind.wrap .i64 (x2+8)) hp  K)) (F148_j3 x0 x2 hp  K))
theorem F148_r5:R148 19 2 (upd e 0 (sV (.int .u64 x0))) V0 hp K=
 K (w3 e 0 (sV (.int .u64 x0)) 7 (sV (.int .u64 x0)) 8 (sB (decide (x0≥65536)))) V0 hp:= by kernel_rfl
theorem F148_r6:R148 75 3 (upd e 0 (sV (.int .u64 x0))) V0 hp K=
    ((0≤(16:Int))∧(K (w4 e 0 (sV (.int .u64 x0)) 9 (sV (.int .u64 x0)) 10 (sV (.int .u64 (Int.fdiv x0 (2 ^ (min (Int.toNat 16) (IntKind.bits .u64)))))) 0 (sV (.int .u64 (Int.fdiv x0 (2 ^ (min (Int.toNat 16) (IntKind.bits .u64))))))) V0 hp)):=by kernel_rfl
theorem F148_r7:R148 107 3 (upd e 2 (sI x2)) V0 hp K=
 K (w4 e 2 (sI x2) 11 (sI x2) 12 (sI ((wr (x2+16)))) 2 (sI ((wr (x2+16))))) V0 hp:= by kernel_rfl
def F148_j1 (x0 x2:Int) (hp:HP) (K:Kh):Prop:=
  (ite2 (decide (x0≥65536)) ((0≤(16:Int))∧(F148_j2 (Int.fdiv x0 (2 ^ (min (Int.toNat 16) (IntKind.bits .u64)))) (IntKind.wrap .i64 (x2+16)) hp  K)) (F148_j2 x0 x2 hp  K))
theorem F148_r8:R148 9 2 (upd e 0 (sV (.int .u64 x0))) V0 hp K=
 K (w3 e 0 (sV (.int .u64 x0)) 3 (sV (.int .u64 x0)) 4 (sB (decide (x0≥4294967296)))) V0 hp:= by kernel_rfl
theorem F148_r9:R148 37 3 (upd e 0 (sV (.int .u64 x0))) V0 hp K=
    ((0≤(32:Int))∧(K (w4 e 0 (sV (.int .u64 x0)) 5 (sV (.int .u64 x0)) 6 (sV (.int .u64 (Int.fdiv x0 (2 ^ (min (Int.toNat 32) (IntKind.bits .u64)))))) 0 (sV (.int .u64 (Int.fdiv x0 (2 ^ (min (Int.toNat 32) (IntKind.bits .u64))))))) V0 hp)):=by kernel_rfl
theorem F148_r10:R148 53 1 e V0 hp K=
 K (upd e 2 (sI 32)) V0 hp:= by kernel_rfl
def F148 (x0:Int) (hp:HP) (K:Kh):Prop:=
  (ite2 (decide (x0≥4294967296)) ((0≤(32:Int))∧(F148_j1 (Int.fdiv x0 (2 ^ (min (Int.toNat 32) (IntKind.bits .u64)))) 32 hp  K)) (F148_j1 x0 0 hp  K))
noncomputable abbrev o148 (k n:Nat):Code:=.region k (opsAt Tryd.f148 (pth n)) false
noncomputable def F148_code:Code:=(.seq (o148 0 2) (.seq (.seq (o148 1 9) (.cond (.tmp 4) (.seq (o148 2 37) (o148 3 53)) .skip)) (.seq (.seq (o148 4 19) (.cond (.tmp 8) (.seq (o148 5 75) (o148 6 107)) .skip)) (.seq (.seq (o148 7 39) (.cond (.tmp 14) (.seq (o148 8 151) (o148 9 215)) .skip)) (.seq (o148 10 47) .ret)))))
theorem F148_body:Tryd.f148.body=some F148_code:=by kernel_rfl
theorem F148_ok (x0:Int) (hp:HP) (K:Kh) (h:F148 x0 hp K):CF Tryd.prog 148 [(.int .u64 x0)] hp K:=by
 refine .inl ⟨by kernel_rfl,AC.intro (N:=25) Tryd.func148 F148_body rfl (Nat.le_of_ble_eq_true rfl) ?_⟩
 unfold F148 at h
 refine Ar F148_r0 ?_ (r1 0 Rn) (z1 Sn) Sn
 refine As (fun env pv hp=>∃ x0 x2,Sub (w2 E0 2 (sI x2) 0 (sV (.int .u64 x0))) env∧Sub V0 pv∧F148_j1 x0 x2 hp  K) ?_ ?_
 ·refine Ar F148_r8 ?_ (r2 0 2 Rn) (z2 Sn) Sn
  refine Ac h rfl (fun h=>?_) (fun h=>?_)
  ·refine Ar F148_r9 ?_ (r1 0 Rn) (z1 Sn) Sn
   refine ⟨h.1,?_⟩
   replace h:=h.2
   refine Ag F148_r10 ?_ (r1 0 Rn) (z1 Sn) Sn
   exact ⟨_,_,(z2 Sn),Sn,h⟩
  ·refine AWP.skip ?_
   exact ⟨_,_,(z2 Sn),Sn,h⟩
 ·rintro env pv hp ⟨x0,x2,he,hv,h⟩
  refine Ae ?_ (r2 0 2 Rn) he hv
  unfold F148_j1 at h
  refine As (fun env pv hp=>∃ x0 x2,Sub (w2 E0 2 (sI x2) 0 (sV (.int .u64 x0))) env∧Sub V0 pv∧F148_j2 x0 x2 hp  K) ?_ ?_
  ·refine Ar F148_r5 ?_ (r2 0 2 Rn) (z2 Sn) Sn
   refine Ac h rfl (fun h=>?_) (fun h=>?_)
   ·refine Ar F148_r6 ?_ (r2 0 2 Rn) (z2 Sn) Sn
    refine ⟨h.1,?_⟩
    replace h:=h.2
    refine Ag F148_r7 ?_ (r2 2 0 Rn) (z2 Sn) Sn
    exact ⟨_,_,(z2 Sn),Sn,h⟩
   ·refine AWP.skip ?_
    exact ⟨_,_,(z2 Sn),Sn,h⟩
  ·rintro env pv hp ⟨x0,x2,he,hv,h⟩
   refine Ae ?_ (r2 0 2 Rn) he hv
   unfold F148_j2 at h
   refine As (fun env pv hp=>∃ x0 x2,Sub (w2 E0 2 (sI x2) 0 (sV (.int .u64 x0))) env∧Sub V0 pv∧F148_j3 x0 x2 hp  K) ?_ ?_
   ·refine Ar F148_r2 ?_ (r2 0 2 Rn) (z2 Sn) Sn
    refine Ac h rfl (fun h=>?_) (fun h=>?_)
    ·refine Ar F148_r3 ?_ (r2 0 2 Rn) (z2 Sn) Sn
     refine ⟨h.1,?_⟩
     replace h:=h.2
     refine Ag F148_r4 ?_ (r2 2 0 Rn) (z2 Sn) Sn
     exact ⟨_,_,(z2 Sn),Sn,h⟩
    ·refine AWP.skip ?_
     exact ⟨_,_,(z2 Sn),Sn,h⟩
   ·rintro env pv hp ⟨x0,x2,he,hv,h⟩
    refine Ae ?_ (r2 0 2 Rn) he hv
    unfold F148_j3 at h
    refine Ar F148_r1 ?_ (r2 0 2 Rn) (z2 Sn) Sn
    refine ⟨h.1,h.2.1,?_⟩
    replace h:=h.2.2
    refine AWP.ret ?_
    exact h
end
section
variable {e:Env} {x0:Int} {hp:HP} {K:Env→PV→HP→Prop}
abbrev R169 (p n:Nat):=RW Tryd.prog 7 [] (opsAt Tryd.f169 (pth p)) (List.range n)
theorem F169_r0:R169 2 1 e V0 hp K=
 K (upd e 2 (sV (.int .u64 0))) V0 hp:= by kernel_rfl
theorem F169_r1:R169 5 5 (upd e 0 (sI x0)) V0 hp K=
    (CF Tryd.prog 128 [(.int .u64 (IntKind.wrap .u64 (x0)))] hp fun u1 h2=>intV u1 .i64 fun i3=>(0≤i3)∧(K (w6 e 0 (sI x0) 3 (sI x0) 4 (sV (.int .u64 (IntKind.wrap .u64 (x0)))) 5 (sI i3) 6 (sV (.int .u64 (IntKind.wrap .u64 (1*2 ^ (min (Int.toNat i3) (IntKind.bits .u64)))))) 2 (sV (.int .u64 (IntKind.wrap .u64 (1*2 ^ (min (Int.toNat i3) (IntKind.bits .u64))))))) V0 h2)):=by kernel_rfl
def F169 (x0:Int) (hp:HP) (K:Kh):Prop:=
  (CF Tryd.prog 128 [(.int .u64 (IntKind.wrap .u64 (x0)))] hp fun u1 h2=>intV u1 .i64 fun i3=>(0≤i3)∧(K (.int .u64 (IntKind.wrap .u64 (1*2 ^ (min (Int.toNat i3) (IntKind.bits .u64))))) h2))
noncomputable def F169_code:Code:=(.seq (.region 0 (opsAt Tryd.f169 (pth 2)) false) (.seq (.region 1 (opsAt Tryd.f169 (pth 5)) false) .ret))
theorem F169_body:Tryd.f169.body=some F169_code:=by kernel_rfl
theorem F169_ok (x0:Int) (hp:HP) (K:Kh) (h:F169 x0 hp K):CF Tryd.prog 169 [(.int .i64 x0)] hp K:=by
 refine .inl ⟨by kernel_rfl,AC.intro (N:=7) Tryd.func169 F169_body rfl (Nat.le_of_ble_eq_true rfl) ?_⟩
 unfold F169 at h
 refine Ar F169_r0 ?_ (r1 0 Rn) (z1 Sn) Sn
 refine Ar F169_r1 ?_ (r1 0 Rn) (z1 Sn) Sn
 refine mC h (fun u1 h2 h=>mI h (fun i3 h=>⟨h.1,?_⟩))
 replace h:=h.2
 refine AWP.ret ?_
 exact h
end
section
variable {e:Env} {x0:OA} {hp:HP} {K:Env→PV→HP→Prop}
abbrev R170 (p n:Nat):=RW Tryd.prog 33 [] (opsAt Tryd.f170 (pth p)) (List.range n)
theorem F170_r0:R170 2 1 e V0 hp K=
 K (upd e 2 (sV (.int .u64 0))) V0 hp:= by kernel_rfl
theorem F170_r1:R170 5 10 (upd e 0 (sP x0)) V0 hp K=
    (ptrN x0 fun b1 o2=>ldV (HP.cell hp b1 o2) fun v3=>intV v3 .u64 fun i4=>ptrN x0 fun b5 o6=>ldV (HP.cell hp b5 o6) fun v7=>intV v7 .u64 fun i8=>(0≤(13:Int))∧(ptrN x0 fun b9 o10=>HP.st hp b9 o10 (.int .u64 (bxor .u64 i4 (IntKind.wrap .u64 (i8*2 ^ (min (Int.toNat 13) (IntKind.bits .u64)))))) fun h11=>K (w2 (w8 e 0 (sP x0) 3 (sP x0) 4 (sQ b1 o2) 5 (sV (.int .u64 i4)) 6 (sP x0) 7 (sQ b5 o6) 8 (sV (.int .u64 i8)) 9 (sV (.int .u64 (IntKind.wrap .u64 (i8*2 ^ (min (Int.toNat 13) (IntKind.bits .u64))))))) 10 (sV (.int .u64 (bxor .u64 i4 (IntKind.wrap .u64 (i8*2 ^ (min (Int.toNat 13) (IntKind.bits .u64))))))) 11 (sQ b9 o10)) V0 h11)):=by kernel_rfl
theorem F170_r2:R170 11 10 (upd e 0 (sP x0)) V0 hp K=
    (ptrN x0 fun b1 o2=>ldV (HP.cell hp b1 o2) fun v3=>intV v3 .u64 fun i4=>ptrN x0 fun b5 o6=>ldV (HP.cell hp b5 o6) fun v7=>intV v7 .u64 fun i8=>(0≤(7:Int))∧(ptrN x0 fun b9 o10=>HP.st hp b9 o10 (.int .u64 (bxor .u64 i4 (Int.fdiv i8 (2 ^ (min (Int.toNat 7) (IntKind.bits .u64)))))) fun h11=>K (w2 (w8 e 0 (sP x0) 12 (sP x0) 13 (sQ b1 o2) 14 (sV (.int .u64 i4)) 15 (sP x0) 16 (sQ b5 o6) 17 (sV (.int .u64 i8)) 18 (sV (.int .u64 (Int.fdiv i8 (2 ^ (min (Int.toNat 7) (IntKind.bits .u64))))))) 19 (sV (.int .u64 (bxor .u64 i4 (Int.fdiv i8 (2 ^ (min (Int.toNat 7) (IntKind.bits .u64))))))) 20 (sQ b9 o10)) V0 h11)):=by kernel_rfl
theorem F170_r3:R170 23 10 (upd e 0 (sP x0)) V0 hp K=
    (ptrN x0 fun b1 o2=>ldV (HP.cell hp b1 o2) fun v3=>intV v3 .u64 fun i4=>ptrN x0 fun b5 o6=>ldV (HP.cell hp b5 o6) fun v7=>intV v7 .u64 fun i8=>(0≤(17:Int))∧(ptrN x0 fun b9 o10=>HP.st hp b9 o10 (.int .u64 (bxor .u64 i4 (IntKind.wrap .u64 (i8*2 ^ (min (Int.toNat 17) (IntKind.bits .u64)))))) fun h11=>K (w2 (w8 e 0 (sP x0) 21 (sP x0) 22 (sQ b1 o2) 23 (sV (.int .u64 i4)) 24 (sP x0) 25 (sQ b5 o6) 26 (sV (.int .u64 i8)) 27 (sV (.int .u64 (IntKind.wrap .u64 (i8*2 ^ (min (Int.toNat 17) (IntKind.bits .u64))))))) 28 (sV (.int .u64 (bxor .u64 i4 (IntKind.wrap .u64 (i8*2 ^ (min (Int.toNat 17) (IntKind.bits .u64))))))) 29 (sQ b9 o10)) V0 h11)):=by kernel_rfl
theorem F170_r4:R170 47 4 (upd e 0 (sP x0)) V0 hp K=
 ptrN x0 fun b1 o2=>(ldV (HP.cell hp b1 o2) fun v3=>intV v3 .u64 fun i4=>K (w5 e 0 (sP x0) 30 (sP x0) 31 (sQ b1 o2) 32 (sV (.int .u64 i4)) 2 (sV (.int .u64 i4))) V0 hp):= by kernel_rfl
def F170 (x0:OA) (hp:HP) (K:Kh):Prop:=
  (ptrN x0 fun b1 o2=>ldV (HP.cell hp b1 o2) fun v3=>intV v3 .u64 fun i4=>ptrN x0 fun b5 o6=>ldV (HP.cell hp b5 o6) fun v7=>intV v7 .u64 fun i8=>(0≤(13:Int))∧(ptrN x0 fun b9 o10=>HP.st hp b9 o10 (.int .u64 (bxor .u64 i4 (IntKind.wrap .u64 (i8*2 ^ (min (Int.toNat 13) (IntKind.bits .u64)))))) fun h11=>ptrN x0 fun b12 o13=>ldV (HP.cell h11 b12 o13) fun v14=>intV v14 .u64 fun i15=>ptrN x0 fun b16 o17=>ldV (HP.cell h11 b16 o17) fun v18=>intV v18 .u64 fun i19=>(0≤(7:Int))∧(ptrN x0 fun b20 o21=>HP.st h11 b20 o21 (.int .u64 (bxor .u64 i15 (Int.fdiv i19 (2 ^ (min (Int.toNat 7) (IntKind.bits .u64)))))) fun h22=>ptrN x0 fun b23 o24=>ldV (HP.cell h22 b23 o24) fun v25=>intV v25 .u64 fun i26=>ptrN x0 fun b27 o28=>ldV (HP.cell h22 b27 o28) fun v29=>intV v29 .u64 fun i30=>(0≤(17:Int))∧(ptrN x0 fun b31 o32=>HP.st h22 b31 o32 (.int .u64 (bxor .u64 i26 (IntKind.wrap .u64 (i30*2 ^ (min (Int.toNat 17) (IntKind.bits .u64)))))) fun h33=>ptrN x0 fun b34 o35=>ldV (HP.cell h33 b34 o35) fun v36=>intV v36 .u64 fun i37=>K (.int .u64 i37) h33))))
noncomputable def F170_code:Code:=(.seq (.region 0 (opsAt Tryd.f170 (pth 2)) false) (.seq (.region 1 (opsAt Tryd.f170 (pth 5)) true) (.seq (.region 2 (opsAt Tryd.f170 (pth 11)) true) (.seq (.region 3 (opsAt Tryd.f170 (pth 23)) true) (.seq (.region 4 (opsAt Tryd.f170 (pth 47)) false) .ret)))))
theorem F170_body:Tryd.f170.body=some F170_code:=by kernel_rfl
theorem F170_ok (x0:OA) (hp:HP) (K:Kh) (h:F170 x0 hp K):CF Tryd.prog 170 [(.pointer x0)] hp K:=by
 refine .inl ⟨by kernel_rfl,AC.intro (N:=33) Tryd.func170 F170_body rfl (Nat.le_of_ble_eq_true rfl) ?_⟩
 unfold F170 at h
 refine Ar F170_r0 ?_ (r1 0 Rn) (z1 Sn) Sn
 refine Aq (AWP.rgnD (by kernel_rfl) (by kernel_rfl) F170_r1 ?_ (r1 0 Rn) (z1 Sn) Sn)
 refine mN h (fun b1 o2 h=>mV h (fun v3 h=>mI h (fun i4 h=>mN h (fun b5 o6 h=>mV h (fun v7 h=>mI h (fun i8 h=>⟨h.1,mN h.2 fun b9 o10 h=>mw h fun h11 h=>?_⟩))))))
 refine Aq (AWP.rgnD (by kernel_rfl) (by kernel_rfl) F170_r2 ?_ (r1 0 Rn) (z1 Sn) Sn)
 refine mN h (fun b12 o13 h=>mV h (fun v14 h=>mI h (fun i15 h=>mN h (fun b16 o17 h=>mV h (fun v18 h=>mI h (fun i19 h=>⟨h.1,mN h.2 fun b20 o21 h=>mw h fun h22 h=>?_⟩))))))
 refine Aq (AWP.rgnD (by kernel_rfl) (by kernel_rfl) F170_r3 ?_ (r1 0 Rn) (z1 Sn) Sn)
 refine mN h (fun b23 o24 h=>mV h (fun v25 h=>mI h (fun i26 h=>mN h (fun b27 o28 h=>mV h (fun v29 h=>mI h (fun i30 h=>⟨h.1,mN h.2 fun b31 o32 h=>mw h fun h33 h=>?_⟩))))))
 refine Ar F170_r4 ?_ (r1 0 Rn) (z1 Sn) Sn
 refine mN h fun b34 o35 h=>mV h fun v36 h=>mI h fun i37 h=>?_
 refine AWP.ret ?_
 exact h
end
end Go.Proofs
set_option linter.unusedVariables false
set_option maxRecDepth 20000
namespace Go.Proofs
open Go Go.HL
def lenTab:ByteArray:=⟨#[0,1,2,2,3,3,3,3,4,4,4,4,4,4,4,4,5,5,5,5,5,5,5,5,5,5,5,5,5,5,5,5,6,6,6,6,6,6,6,6,6,6,6,6,6,6,6,6,6,6,6,6,6,6,6,6,6,6,6,6,6,6,6,6,7,7,7,7,7,7,7,7,7,7,7,7,7,7,7,7,7,7,7,7,7,7,7,7,7,7,7,7,7,7,7,7,7,7,7,7,7,7,7,7,7,7,7,7,7,7,7,7,7,7,7,7,7,7,7,7,7,7,7,7,7,7,7,7,8,8,8,8,8,8,8,8,8,8,8,8,8,8,8,8,8,8,8,8,8,8,8,8,8,8,8,8,8,8,8,8,8,8,8,8,8,8,8,8,8,8,8,8,8,8,8,8,8,8,8,8,8,8,8,8,8,8,8,8,8,8,8,8,8,8,8,8,8,8,8,8,8,8,8,8,8,8,8,8,8,8,8,8,8,8,8,8,8,8,8,8,8,8,8,8,8,8,8,8,8,8,8,8,8,8,8,8,8,8,8,8,8,8,8,8,8,8,8,8,8,8,8,8,8,8,8,8]⟩
theorem len_tab:∀ y:Fin 256,bt lenTab (y.val:Int)=(Sort.bitsLen y.val:Nat):=by decide +kernel
theorem lenTab_size:lenTab.size=256:=by kernel_rfl
theorem C148 {n:Nat} {hp:HP} {K:Value→HP→Prop} (hn:n≤65535) (h:∀ L:Nat,L≤16→n<2 ^ L→(0<n→2 ^ L≤2*n)→K (.int .i64 L) hp):CF Tryd.prog 148 [.int .u64 n] hp K:=by
  refine F148_ok n hp K ?_
  have tail:∀ (y o:Nat),y<256→o≤8→n<2 ^ (o+Sort.bitsLen y)→(0<n→2 ^ (o+Sort.bitsLen y)≤2*n)→F148_j3 y o hp K:=by
    intro y o hy ho h1 h2
    unfold F148_j3
    change (0≤(IntKind.wrap .u8 (y:Int)))∧((IntKind.wrap .u8 (y:Int))<(ByteArray.size lenTab:Nat))∧K (Value.int .i64 (IntKind.wrap .i64 ((o:Int)+IntKind.wrap .i64 (bt lenTab (IntKind.wrap .u8 (y:Int)))))) hp
    rw [wu8 (by omega) (by omega),lenTab_size]
    have:=len_tab ⟨y,hy⟩
    simp only at this
    rw [this]
    have hb:Sort.bitsLen y≤8:=(Sort.bitsLen_le_iff y 8).2 (by omega)
    rw [w64 (n:=((Sort.bitsLen y:Nat):Int)) (by omega) (by omega),w64 (by omega) (by omega)]
    refine ⟨by omega,by omega,?_⟩
    have e:(o:Int)+(Sort.bitsLen y:Nat)=((o+Sort.bitsLen y:Nat):Int):=by omega
    rw [e]
    exact h _ (by omega) h1 h2
  unfold F148
  rw [decide_eq_false (by omega:¬ (n:Int)≥4294967296),ite2_false]
  unfold F148_j1
  rw [decide_eq_false (by omega:¬ (n:Int)≥65536),ite2_false]
  unfold F148_j2
  by_cases h8:n≥256
  · rw [decide_eq_true (by omega:(n:Int)≥256),ite2_true]
    refine ⟨by omega,?_⟩
    have e1:Int.fdiv (n:Int) (2 ^ (min (Int.toNat 8) (IntKind.bits .u64)))=((n / 256:Nat):Int):=by
      show Int.fdiv (n:Int) 256=_
      rw [Int.fdiv_eq_ediv_of_nonneg _ (by omega)]; omega
    have e2:IntKind.wrap .i64 ((0:Int)+8)=((8:Nat):Int):=by rw [w64 (by omega) (by omega)]; rfl
    rw [e1,e2]
    have ha:=Sort.lt_two_pow_bitsLen (n / 256)
    have hb:=Sort.two_pow_bitsLen_le (n:=n / 256) (by omega)
    have hp:2 ^ (8+Sort.bitsLen (n / 256))=256*2 ^ Sort.bitsLen (n / 256):=by rw [Nat.pow_add]
    refine tail _ 8 (by omega) (by omega) (by rw [hp]; omega) (fun _=>by rw [hp]; omega)
  · rw [decide_eq_false (by omega:¬ (n:Int)≥256),ite2_false]
    refine tail n 0 (by omega) (by omega) ?_ ?_
    · rw [Nat.zero_add]; exact Sort.lt_two_pow_bitsLen n
    · intro h0; rw [Nat.zero_add]; exact Sort.two_pow_bitsLen_le h0
theorem C128 {n:Nat} {hp:HP} {K:Value→HP→Prop} (hn:n≤65535) (h:∀ L:Nat,L≤16→n<2 ^ L→(0<n→2 ^ L≤2*n)→K (.int .i64 L) hp):CF Tryd.prog 128 [.int .u64 n] hp K:=by
  refine F128_ok n hp K ?_
  unfold F128
  refine C148 hn fun L h1 h2 h3=>?_
  rw [intV_int]
  exact h L h1 h2 h3
theorem C169 {n:Nat} {hp:HP} {K:Value→HP→Prop} (hn:n≤65535) (h:∀ L:Nat,L≤16→n<2 ^ L→(0<n→2 ^ L≤2*n)→K (.int .u64 ((2 ^ L:Nat):Int)) hp):CF Tryd.prog 169 [.int .i64 n] hp K:=by
  refine F169_ok n hp K ?_
  unfold F169
  rw [wu64 (by omega) (by omega)]
  refine C128 hn fun L h1 h2 h3=>?_
  rw [intV_int]
  refine ⟨by omega,?_⟩
  have e:min (Int.toNat (L:Int)) (IntKind.bits .u64)=L:=by
    show min (Int.toNat (L:Int)) 64=L
    rw [Int.toNat_natCast]; omega
  have hle:2 ^ L≤2 ^ 16:=Nat.pow_le_pow_right (by omega) h1
  rw [e]
  have e2:(1:Int)*2 ^ L=((2 ^ L:Nat):Int):=by rw [Int.one_mul]; simp
  rw [e2,wu64 (by omega) (by omega)]
  exact h L h1 h2 h3
theorem C170 {r:Nat} {y:Int} {hp:HP} {K:Value→HP→Prop} (hr:hp r=.cells 247 [.int .u64 y] 0) (h:∀ z:Int,K (.int .u64 z) (hp.set r (.cells 247 [.int .u64 z] 0))):CF Tryd.prog 170 [.pointer (some ⟨r,0,none⟩)] hp K:=by
  refine F170_ok _ hp K ?_
  unfold F170
  have hc:∀ o,hp.cell r o=[Value.int .u64 y][o]?:=fun o=>HP.cell_of hr
  simp only [ptrN_some,hc,List.getElem?_cons_zero,ldV_some,intV_int]
  refine ⟨by omega,?_⟩
  refine HP.st_at hr (by simp) ?_
  simp only [List.set_cons_zero]
  generalize bxor .u64 y _=y2
  have hr2:(hp.set r (.cells 247 [.int .u64 y2] 0)) r=.cells 247 [.int .u64 y2] 0:=HP.set_eq ..
  have hc2:∀ o,(hp.set r (.cells 247 [.int .u64 y2] 0)).cell r o=[Value.int .u64 y2][o]?:=fun o=>HP.cell_of hr2
  simp only [hc2,List.getElem?_cons_zero,ldV_some,intV_int]
  refine ⟨by omega,?_⟩
  refine HP.st_at hr2 (by simp) ?_
  simp only [List.set_cons_zero,HP.set_set]
  generalize bxor .u64 y2 _=y3
  have hr3:(hp.set r (.cells 247 [.int .u64 y3] 0)) r=.cells 247 [.int .u64 y3] 0:=HP.set_eq ..
  have hc3:∀ o,(hp.set r (.cells 247 [.int .u64 y3] 0)).cell r o=[Value.int .u64 y3][o]?:=fun o=>HP.cell_of hr3
  simp only [hc3,List.getElem?_cons_zero,ldV_some,intV_int]
  refine ⟨by omega,?_⟩
  refine HP.st_at hr3 (by simp) ?_
  simp only [List.set_cons_zero,HP.set_set]
  generalize bxor .u64 y3 _=y4
  have hr4:(hp.set r (.cells 247 [.int .u64 y4] 0)) r=.cells 247 [.int .u64 y4] 0:=HP.set_eq ..
  have hc4:∀ o,(hp.set r (.cells 247 [.int .u64 y4] 0)).cell r o=[Value.int .u64 y4][o]?:=fun o=>HP.cell_of hr4
  simp only [hc4,List.getElem?_cons_zero,ldV_some,intV_int]
  exact h y4
end Go.Proofs
set_option linter.unusedVariables false
set_option maxRecDepth 20000
namespace Go.Proofs
open Go Go.HL
section
variable {f:FuncId} {ga gb:List Value} {hp0:HP} {b sp n c:Nat} {cf:Bd→Bd→Int}
theorem S151 {v:Value} {d:Array Bd} {lo hi:Nat} {K:Value→HP→Prop} (hs:d.size=n) (hlo:lo≤hi) (hf:hi≤n) (hn:n≤65535)
    (h:∀ d',Sort.PermIn lo hi d d'→K (.tuple ⟨[]⟩) (HA hp0 b 36 sp bdc d')) :
    CF Tryd.prog 151 [.slice (some ⟨b,0,none⟩) n c,.int .i64 lo,.int .i64 hi,v] (HA hp0 b 36 sp bdc d) K:=by
  refine CF.drop (F151_ok _ n c lo hi _ _ _ ?_)
  unfold F151
  have w1:IntKind.wrap .i64 ((hi:Int)-(lo:Int))=((hi-lo:Nat):Int):=wi (by omega) (by omega)
  rw [w1]
  by_cases h8:hi-lo≥8
  · rw [decide_eq_true (by omega:((hi-lo:Nat):Int)≥8),ite2_true]
    intro r hr
    obtain ⟨hrb,hr0⟩:=HA.ne_of_none hr
    refine HP.st_at (HP.set_eq ..) (by simp) ?_
    simp only [List.set_cons_zero,HP.set_set]
    rw [HA.set_comm hrb]
    refine C169 (n:=hi-lo) (by omega) fun L hL1 hL2 hL3=>?_
    have hL4:=hL3 (by omega)
    have hL5:2 ^ L≤2 ^ 16:=Nat.pow_le_pow_right (by omega) hL1
    rw [intV_int]
    refine ⟨by omega,?_⟩
    have e4:Int.tdiv ((hi-lo:Nat):Int) 4=(((hi-lo) / 4:Nat):Int):=rfl
    generalize hm:hi-lo=m at *
    rw [e4]
    have v1:IntKind.wrap .i64 ((m / 4:Nat):Int)=((m / 4:Nat):Int):=wi rfl (by omega)
    have v2:IntKind.wrap .i64 (((m / 4:Nat):Int)*2)=((m / 4*2:Nat):Int):=wi (by omega) (by omega)
    have v3:IntKind.wrap .i64 ((lo:Int)+((m / 4*2:Nat):Int))=((lo+m / 4*2:Nat):Int):=wi (by omega) (by omega)
    have v4:IntKind.wrap .i64 (((lo+m / 4*2:Nat):Int)-1)=((lo+m / 4*2-1:Nat):Int):=wi (by omega) (by omega)
    have v5:IntKind.wrap .i64 (((lo+m / 4*2:Nat):Int)+1)=((lo+m / 4*2+1:Nat):Int):=wi (by omega) (by omega)
    rw [v1,v2,v3,v4]
    unfold F151_j1
    generalize hz0:IntKind.wrap .u64 (m:Int)=z0
    refine LoopP.by (J:=fun k (x:Int) hp=>∃ (i:Nat) (d':Array Bd) (z:Int),x=i∧hp=HA (hp0.set r (.cells 247 [.int .u64 z] 0)) b 36 sp bdc d'∧Sort.PermIn lo hi d d'∧lo≤i∧k=lo+m / 4*2+2-i) ?_
      (n:=lo+m / 4*2+2-(lo+m / 4*2-1)) ⟨lo+m / 4*2-1,d,z0,rfl,rfl,Sort.permIn_refl d lo hi,by omega,rfl⟩
    rintro I k x hp ⟨i,d',z,rfl,rfl,hpm,hli,rfl⟩ hI
    unfold F151_l2
    refine ⟨by omega,?_⟩
    rw [e4,v1,v2,v3,v5]
    by_cases hi':i≤lo+m / 4*2+1
    · rw [decide_eq_true (by omega:(i:Int)≤((lo+m / 4*2+1:Nat):Int)),ite2_true]
      refine C170 (y:=z) (by rw [HA.ne hrb,HP.set_eq]) fun z'=>?_
      rw [HA.set_comm hrb,HP.set_set,intV_int]
      have u1:IntKind.wrap .u64 (((2 ^ L:Nat):Int)-1)=((2 ^ L-1:Nat):Int):=by rw [wu64 (by omega) (by omega)]; omega
      rw [u1]
      have hbd:=band_le (z:=z') (m:=((2 ^ L-1:Nat):Int)) (by omega) (by omega)
      generalize band .u64 z' ((2 ^ L-1:Nat):Int)=w at hbd
      obtain ⟨o,rfl⟩:∃ o:Nat,w=o:=⟨w.toNat,by omega⟩
      rw [w64 (n:=(o:Int)) (by omega) (by omega)]
      have hs':d'.size=n:=by rw [hpm.1]; exact hs
      have step:∀ o:Nat,o<m→F151_j3 (some ⟨b,0,none⟩) n c lo m (some ⟨r,0,none⟩) ((2 ^ L:Nat):Int) i o (HA (hp0.set r (.cells 247 [.int .u64 z'] 0)) b 36 sp bdc d') I (fun v hp'=>∃ hp'',HSub hp'' hp'∧K v hp''):=by
        intro o ho
        unfold F151_j3
        have x1:IntKind.wrap .i64 ((lo:Int)+(o:Int))=((lo+o:Nat):Int):=wi (by omega) (by omega)
        have x2:IntKind.wrap .i64 ((i:Int)+1)=((i+1:Nat):Int):=wi (by omega) (by omega)
        rw [x1,x2]
        refine swapP bdc_len bdc_one hs' (i:=i) (j:=lo+o) rfl rfl (by omega) (by omega) ?_
        exact hI (lo+m / 4*2+2-(i+1)) _ _ (by omega) ⟨i+1,_,z',rfl,rfl,Sort.permIn_trans _ _ _ _ _ hpm (Sort.swp_permIn d' lo hi i (lo+o) (by omega) (by omega) (by omega) (by omega) (by omega)),by omega,rfl⟩
      by_cases hom:o≥m
      · rw [decide_eq_true (by omega:(o:Int)≥(m:Int)),ite2_true]
        have x3:IntKind.wrap .i64 ((o:Int)-(m:Int))=((o-m:Nat):Int):=wi (by omega) (by omega)
        rw [x3]
        exact step (o-m) (by omega)
      · rw [decide_eq_false (by omega:¬ (o:Int)≥(m:Int)),ite2_false]
        exact step o (by omega)
    · rw [decide_eq_false (by omega:¬ (i:Int)≤((lo+m / 4*2+1:Nat):Int)),ite2_false]
      exact ⟨_,HA.sub (HSub.set_fresh hp0 _ hr0),h d' hpm⟩
  · rw [decide_eq_false (by omega:¬ ((hi-lo:Nat):Int)≥8),ite2_false]
    exact ⟨_,HSub.refl _,h d (Sort.permIn_refl d lo hi)⟩
theorem S186 (hx:CmpX Tryd.prog f ga gb hp0 b 36 sp bdc n cf) {d:Array Bd} {i j r:Nat} {s:Int} {K:Value→HP→Prop} (hs:d.size=n) (hi:i<n) (hj:j<n) (hrb:r≠b) (hr0:hp0 r=.none)
    (h:∀ (s':Int) (x y:Nat),(x=i∧y=j)∨(x=j∧y=i)→K (.tuple ⟨[.int .i64 x,.int .i64 y]⟩) (HA (hp0.set r (.cells 3 [.int .i64 s'] 0)) b 36 sp bdc d)) :
    CF Tryd.prog 186 [.slice (some ⟨b,0,none⟩) n c,.int .i64 i,.int .i64 j,.pointer (some ⟨r,0,none⟩),.func (.func f) ⟨ga⟩ ⟨gb⟩] (HA (hp0.set r (.cells 3 [.int .i64 s] 0)) b 36 sp bdc d) K:=by
  refine F186_ok _ n c i j _ _ _ K ?_
  unfold F186
  refine cmpP (hx _ (HSub.set_fresh hp0 _ hr0)) bdc_len hs (i:=j) (j:=i) rfl rfl hj hi ?_
  cases decide (cf d[j]! d[i]!<0)
  · rw [ite2_false]
    exact h s i j (.inl ⟨rfl,rfl⟩)
  · have hc:(HA (hp0.set r (.cells 3 [.int .i64 s] 0)) b 36 sp bdc d) r=.cells 3 [.int .i64 s] 0:=by rw [HA.ne hrb,HP.set_eq]
    rw [ite2_true,ptrN_some,HP.cell_of hc]
    simp only [List.getElem?_cons_zero,ldV_some,intV_int,ptrN_some]
    refine HP.st_at hc (by simp) ?_
    rw [List.set_cons_zero,HA.set_comm hrb,HP.set_set]
    exact h _ j i (.inr ⟨rfl,rfl⟩)
theorem S175 (hx:CmpX Tryd.prog f ga gb hp0 b 36 sp bdc n cf) {d:Array Bd} {i j k r:Nat} {s:Int} {K:Value→HP→Prop} (hs:d.size=n) (hi:i<n) (hj:j<n) (hk:k<n) (hrb:r≠b) (hr0:hp0 r=.none)
    (h:∀ (s':Int) (x:Nat),x=i∨x=j∨x=k→K (.int .i64 x) (HA (hp0.set r (.cells 3 [.int .i64 s'] 0)) b 36 sp bdc d)) :
    CF Tryd.prog 175 [.slice (some ⟨b,0,none⟩) n c,.int .i64 i,.int .i64 j,.int .i64 k,.pointer (some ⟨r,0,none⟩),.func (.func f) ⟨ga⟩ ⟨gb⟩] (HA (hp0.set r (.cells 3 [.int .i64 s] 0)) b 36 sp bdc d) K:=by
  refine F175_ok _ n c i j k _ _ _ K ?_
  unfold F175
  refine S186 hx hs hi hj hrb hr0 fun s1 a1 b1 h1=>?_
  simp only [tup2V_mk,intV_int]
  refine S186 hx hs (by omega) hk hrb hr0 fun s2 a2 b2 h2=>?_
  simp only [tup2V_mk,intV_int]
  refine S186 hx hs (by omega) (by omega) hrb hr0 fun s3 a3 b3 h3=>?_
  simp only [tup2V_mk,intV_int]
  exact h s3 b3 (by omega)
theorem S174 (hx:CmpX Tryd.prog f ga gb hp0 b 36 sp bdc n cf) {d:Array Bd} {i r:Nat} {s:Int} {K:Value→HP→Prop} (hs:d.size=n) (hi0:0<i) (hi:i+1<n) (hn:n≤65535) (hrb:r≠b) (hr0:hp0 r=.none)
    (h:∀ (s':Int) (x:Nat),i-1≤x→x≤i+1→K (.int .i64 x) (HA (hp0.set r (.cells 3 [.int .i64 s'] 0)) b 36 sp bdc d)) :
    CF Tryd.prog 174 [.slice (some ⟨b,0,none⟩) n c,.int .i64 i,.pointer (some ⟨r,0,none⟩),.func (.func f) ⟨ga⟩ ⟨gb⟩] (HA (hp0.set r (.cells 3 [.int .i64 s] 0)) b 36 sp bdc d) K:=by
  refine F174_ok _ n c i _ _ _ K ?_
  unfold F174
  have v1:IntKind.wrap .i64 ((i:Int)-1)=((i-1:Nat):Int):=wi (by omega) (by omega)
  have v2:IntKind.wrap .i64 ((i:Int)+1)=((i+1:Nat):Int):=wi (by omega) (by omega)
  rw [v1,v2]
  refine S175 hx hs (by omega) (by omega) (by omega) hrb hr0 fun s1 x h1=>?_
  rw [intV_int]
  exact h s1 x (by omega) (by omega)
theorem S152 (hx:CmpX Tryd.prog f ga gb hp0 b 36 sp bdc n cf) {d:Array Bd} {lo hi:Nat} {K:Value→HP→Prop} (hs:d.size=n) (hlo:lo<hi) (hf:hi≤n) (hn:n≤65535)
    (h:∀ (p:Nat) (w:Int),lo≤p→p<hi→K (.tuple ⟨[.int .i64 p,.int .i64 w]⟩) (HA hp0 b 36 sp bdc d)) :
    CF Tryd.prog 152 [.slice (some ⟨b,0,none⟩) n c,.int .i64 lo,.int .i64 hi,.func (.func f) ⟨ga⟩ ⟨gb⟩] (HA hp0 b 36 sp bdc d) K:=by
  refine CF.drop (F152_ok _ n c lo hi _ _ _ ?_)
  unfold F152
  intro r hr
  obtain ⟨hrb,hr0⟩:=HA.ne_of_none hr
  have w1:IntKind.wrap .i64 ((hi:Int)-(lo:Int))=((hi-lo:Nat):Int):=wi (by omega) (by omega)
  have e4:Int.tdiv ((hi-lo:Nat):Int) 4=(((hi-lo) / 4:Nat):Int):=rfl
  simp only [w1,e4]
  refine ⟨by omega,by omega,by omega,?_⟩
  clear e4 w1
  rw [HA.set_comm hrb]
  have hmm:hi=lo+(hi-lo):=by omega
  generalize hi-lo=m at *
  subst hmm
  have v0:IntKind.wrap .i64 ((m / 4:Nat):Int)=((m / 4:Nat):Int):=wi rfl (by omega)
  have v1:IntKind.wrap .i64 (((m / 4:Nat):Int)*1)=((m / 4:Nat):Int):=wi (by omega) (by omega)
  have v2:IntKind.wrap .i64 (((m / 4:Nat):Int)*2)=((m / 4*2:Nat):Int):=wi (by omega) (by omega)
  have v3:IntKind.wrap .i64 (((m / 4:Nat):Int)*3)=((m / 4*3:Nat):Int):=wi (by omega) (by omega)
  have u1:IntKind.wrap .i64 ((lo:Int)+((m / 4:Nat):Int))=((lo+m / 4:Nat):Int):=wi (by omega) (by omega)
  have u2:IntKind.wrap .i64 ((lo:Int)+((m / 4*2:Nat):Int))=((lo+m / 4*2:Nat):Int):=wi (by omega) (by omega)
  have u3:IntKind.wrap .i64 ((lo:Int)+((m / 4*3:Nat):Int))=((lo+m / 4*3:Nat):Int):=wi (by omega) (by omega)
  simp only [v0,v1,v2,v3,u1,u2,u3]
  have fin:∀ (s:Int) (p:Nat),lo≤p→p<lo+m→F152_j1 (some ⟨r,0,none⟩) p (HA (hp0.set r (.cells 3 [.int .i64 s] 0)) b 36 sp bdc d) (fun v hp'=>∃ hp'',HSub hp'' hp'∧K v hp''):=by
    intro s p h1 h2
    have hc:(HA (hp0.set r (.cells 3 [.int .i64 s] 0)) b 36 sp bdc d) r=.cells 3 [.int .i64 s] 0:=by rw [HA.ne hrb,HP.set_eq]
    unfold F152_j1
    rw [ptrN_some,HP.cell_of hc]
    simp only [List.getElem?_cons_zero,ldV_some,intV_int]
    have hsub:=HA.sub (b:=b) (e:=36) (sp:=sp) (en:=bdc) (d:=d) (HSub.set_fresh hp0 (.cells 3 [.int .i64 s] 0) hr0)
    cases (s==0)
    · rw [ite2_false]
      cases (s==12)
      · rw [ite2_false]; exact ⟨_,hsub,h p 0 h1 h2⟩
      · rw [ite2_true]; exact ⟨_,hsub,h p 2 h1 h2⟩
    · rw [ite2_true]; exact ⟨_,hsub,h p 1 h1 h2⟩
  have fin2:∀ (s:Int) (i j k:Nat),lo≤i→i<lo+m→lo≤j→j<lo+m→lo≤k→k<lo+m→F152_j2 (some ⟨b,0,none⟩) n c (.func (.func f) ⟨ga⟩ ⟨gb⟩) (some ⟨r,0,none⟩) i j k (HA (hp0.set r (.cells 3 [.int .i64 s] 0)) b 36 sp bdc d) (fun v hp'=>∃ hp'',HSub hp'' hp'∧K v hp''):=by
    intro s i j k h1 h2 h3 h4 h5 h6
    unfold F152_j2
    refine S175 hx hs (by omega) (by omega) (by omega) hrb hr0 fun s1 x hx1=>?_
    rw [intV_int]
    exact fin s1 x (by omega) (by omega)
  by_cases h8:m≥8
  · rw [decide_eq_true (by omega:(m:Int)≥8),ite2_true]
    by_cases h50:m≥50
    · rw [decide_eq_true (by omega:(m:Int)≥50),ite2_true]
      refine S174 hx hs (by omega) (by omega) hn hrb hr0 fun s1 x1 a1 b1=>?_
      rw [intV_int]
      refine S174 hx hs (by omega) (by omega) hn hrb hr0 fun s2 x2 a2 b2=>?_
      rw [intV_int]
      refine S174 hx hs (by omega) (by omega) hn hrb hr0 fun s3 x3 a3 b3=>?_
      rw [intV_int]
      exact fin2 s3 x1 x2 x3 (by omega) (by omega) (by omega) (by omega) (by omega) (by omega)
    · rw [decide_eq_false (by omega:¬ (m:Int)≥50),ite2_false]
      exact fin2 0 _ _ _ (by omega) (by omega) (by omega) (by omega) (by omega) (by omega)
  · rw [decide_eq_false (by omega:¬ (m:Int)≥8),ite2_false]
    exact fin 0 _ (by omega) (by omega)
end
end Go.Proofs
