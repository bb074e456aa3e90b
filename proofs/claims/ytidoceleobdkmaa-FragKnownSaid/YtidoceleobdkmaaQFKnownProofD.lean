/- Parts of the proof of FKnownProof: the logic of what is known of memory, functions' contracts. -/
import Derived.Test.YtidoceleobdkmaaQFKnownProofC
import Derived.Test.YtidoceleobdkmaaHlAbb
import Derived.Test.YtidoceleobdkmaaProg
import Derived.Test.YtidoceleobdkmaaHlUse2
import Derived.Sort.LotD1
import Derived.Sort.LotD3
import Derived.Test.YtidoceleobdkmaaHlRange
import Derived.Test.YtidoceleobdkmaaHlFrame
import Derived.Test.YtidoceleobdkmaaHlDec
import Derived.DataShut
import Derived.Shelf.Strings.Repeat
import Derived.ChangeKeysEq
set_option linter.unusedVariables false
set_option linter.unusedSimpArgs false
set_option linter.unusedVariables false
set_option maxRecDepth 20000
namespace Go.Proofs
open Go Go.HL
section
variable {e E:Env} {x0a:OA} {x0n x0c:Nat} {x1 x2:Int} {x3:Value} {x10:Int} {x11:OA} {x12 x13 x14 x55:Int} {hp:HP} {K:Env→PV→HP→Prop}
abbrev R183 (p n:Nat):=RW Try.prog 63 [] (opsAt Try.f183 (pth p)) (List.range n)
theorem F183_r0:R183 2 2 e V0 hp K=
 K (w2 e 8 (sI 0) 9 (sI 0)) V0 hp:= by kernel_rfl
theorem F183_r1:R183 5 4 (w2 e 2 (sI x2) 1 (sI x1)) V0 hp K=
 K (w6 e 2 (sI x2) 1 (sI x1) 15 (sI x2) 16 (sI x1) 17 (sI ((wr (x2-x1)))) 10 (sI ((wr (x2-x1))))) V0 hp:= by kernel_rfl
theorem F183_r2:R183 11 1 e V0 hp K=
    (∀ b1:Nat,hp b1=.none→(K (upd e 11 (sQ b1 0)) V0 (HP.set hp b1 (.cells 3 [.int .i64 0] 0)))):=by kernel_rfl
theorem F183_r3:R183 23 6 (w2 e 10 (sI x10) 1 (sI x1)) V0 hp K=
    (((4:Int)≠0)∧(K (w8 e 10 (sI x10) 1 (sI x1) 18 (sI x1) 19 (sI x10) 20 (sI ((wr (Int.tdiv x10 4)))) 21 (sI ((wr ((wr (Int.tdiv x10 4))*1)))) 22 (sI ((wr (x1+(wr ((wr (Int.tdiv x10 4))*1)))))) 12 (sI ((wr (x1+(wr ((wr (Int.tdiv x10 4))*1))))))) V0 hp)):=by kernel_rfl
theorem F183_r4:R183 47 6 (w2 e 10 (sI x10) 1 (sI x1)) V0 hp K=
    (((4:Int)≠0)∧(K (w8 e 10 (sI x10) 1 (sI x1) 23 (sI x1) 24 (sI x10) 25 (sI ((wr (Int.tdiv x10 4)))) 26 (sI ((wr ((wr (Int.tdiv x10 4))*2)))) 27 (sI ((wr (x1+(wr ((wr (Int.tdiv x10 4))*2)))))) 13 (sI ((wr (x1+(wr ((wr (Int.tdiv x10 4))*2))))))) V0 hp)):=by kernel_rfl
theorem F183_r5:R183 95 6 (w2 e 10 (sI x10) 1 (sI x1)) V0 hp K=
    (((4:Int)≠0)∧(K (w8 e 10 (sI x10) 1 (sI x1) 28 (sI x1) 29 (sI x10) 30 (sI ((wr (Int.tdiv x10 4)))) 31 (sI ((wr ((wr (Int.tdiv x10 4))*3)))) 32 (sI ((wr (x1+(wr ((wr (Int.tdiv x10 4))*3)))))) 14 (sI ((wr (x1+(wr ((wr (Int.tdiv x10 4))*3))))))) V0 hp)):=by kernel_rfl
theorem F183_r6:R183 383 1 (upd e 11 (sP x11)) V0 hp K=
 ptrN x11 fun b1 o2=>(ldV (HP.cell hp b1 o2) fun v3=>intV v3 .i64 fun i4=>K (w2 e 11 (sP x11) 55 (sI i4)) V0 hp):= by kernel_rfl
theorem F183_r7:R183 1279 2 (upd e 55 (sI x55)) V0 hp K=
 K (w3 e 55 (sI x55) 58 (sB ((x55==0))) 57 (sB ((x55==0)))) V0 hp:= by kernel_rfl
theorem F183_r8:R183 4863 3 (upd e 13 (sI x13)) V0 hp K=
 K (w4 e 13 (sI x13) 59 (sI x13) 8 (sI x13) 9 (sI 1)) V0 hp:= by kernel_rfl
theorem F183_r9:R183 5887 2 (upd e 55 (sI x55)) V0 hp K=
 K (w3 e 55 (sI x55) 61 (sB ((x55==12))) 60 (sB ((x55==12)))) V0 hp:= by kernel_rfl
theorem F183_r10:R183 20223 3 (upd e 13 (sI x13)) V0 hp K=
 K (w4 e 13 (sI x13) 62 (sI x13) 8 (sI x13) 9 (sI 2)) V0 hp:= by kernel_rfl
theorem F183_r11:R183 24319 3 (upd e 13 (sI x13)) V0 hp K=
 K (w4 e 13 (sI x13) 56 (sI x13) 8 (sI x13) 9 (sI 0)) V0 hp:= by kernel_rfl
def F183_j1 (x11:OA) (x13:Int) (hp:HP) (K:Kh):Prop:=
  (ptrN x11 fun b2 o3=>ldV (HP.cell hp b2 o3) fun v4=>intV v4 .i64 fun i5=>ite2 (i5==0) (K (.tuple ⟨[(.int .i64 x13),(.int .i64 1)]⟩) hp) (ite2 (i5==12) (K (.tuple ⟨[(.int .i64 x13),(.int .i64 2)]⟩) hp) (K (.tuple ⟨[(.int .i64 x13),.int .i64 0]⟩) hp)))
theorem F183_r12:R183 319 2 (upd e 10 (sI x10)) V0 hp K=
 K (w3 e 10 (sI x10) 33 (sI x10) 34 (sB (decide (x10≥8)))) V0 hp:= by kernel_rfl
theorem F183_r13 (h:E=upd (w5 e 14 (sI x14) 13 (sI x13) 12 (sI x12) 11 (sP x11) 3 (sV x3)) 0 (sS x0a x0n x0c)):R183 1727 7 E V0 hp K=
 CF Try.prog 194 [(.slice x0a x0n x0c),(.int .i64 x12),(.int .i64 x13),(.int .i64 x14),(.pointer x11),x3] hp fun u1 h2=>(intV u1 .i64 fun i3=>K (w7 E 49 (sS x0a x0n x0c) 50 (sI x12) 51 (sI x13) 52 (sI x14) 53 (sV x3) 54 (sI i3) 13 (sI i3)) V0 h2):= by subst h; kernel_rfl
def F183_j2 (x0a:OA) (x0n x0c:Nat) (x3:Value) (x11:OA) (x12 x13 x14:Int) (hp:HP) (K:Kh):Prop:=
  (CF Try.prog 194 [(.slice x0a x0n x0c),(.int .i64 x12),(.int .i64 x13),(.int .i64 x14),(.pointer x11),x3] hp fun u6 h7=>intV u6 .i64 fun i8=>F183_j1 x11 i8 h7  K)
theorem F183_r14:R183 2239 2 (upd e 10 (sI x10)) V0 hp K=
 K (w3 e 10 (sI x10) 35 (sI x10) 36 (sB (decide (x10≥50)))) V0 hp:= by kernel_rfl
theorem F183_r15 (h:E=upd (w3 e 12 (sI x12) 11 (sP x11) 3 (sV x3)) 0 (sS x0a x0n x0c)):R183 9407 5 E V0 hp K=
 CF Try.prog 193 [(.slice x0a x0n x0c),(.int .i64 x12),(.pointer x11),x3] hp fun u1 h2=>(intV u1 .i64 fun i3=>K (w5 E 37 (sS x0a x0n x0c) 38 (sI x12) 39 (sV x3) 40 (sI i3) 12 (sI i3)) V0 h2):= by subst h; kernel_rfl
theorem F183_r16 (h:E=upd (w3 e 13 (sI x13) 11 (sP x11) 3 (sV x3)) 0 (sS x0a x0n x0c)):R183 21695 5 E V0 hp K=
 CF Try.prog 193 [(.slice x0a x0n x0c),(.int .i64 x13),(.pointer x11),x3] hp fun u1 h2=>(intV u1 .i64 fun i3=>K (w5 E 41 (sS x0a x0n x0c) 42 (sI x13) 43 (sV x3) 44 (sI i3) 13 (sI i3)) V0 h2):= by subst h; kernel_rfl
theorem F183_r17 (h:E=upd (w3 e 14 (sI x14) 11 (sP x11) 3 (sV x3)) 0 (sS x0a x0n x0c)):R183 29887 5 E V0 hp K=
 CF Try.prog 193 [(.slice x0a x0n x0c),(.int .i64 x14),(.pointer x11),x3] hp fun u1 h2=>(intV u1 .i64 fun i3=>K (w5 E 45 (sS x0a x0n x0c) 46 (sI x14) 47 (sV x3) 48 (sI i3) 14 (sI i3)) V0 h2):= by subst h; kernel_rfl
def F183 (x0a:OA) (x0n x0c:Nat) (x1 x2:Int) (x3:Value) (hp:HP) (K:Kh):Prop:=
  (∀ b1:Nat,hp b1=.none→(((4:Int)≠0)∧(((4:Int)≠0)∧(((4:Int)≠0)∧(ite2 (decide (((IntKind.wrap .i64 (x2-x1)):Int)≥8)) (ite2 (decide (((IntKind.wrap .i64 (x2-x1)):Int)≥50)) (CF Try.prog 193 [(.slice x0a x0n x0c),(.int .i64 (IntKind.wrap .i64 (x1+(IntKind.wrap .i64 ((IntKind.wrap .i64 (Int.tdiv (IntKind.wrap .i64 (x2-x1)) 4))*1))))),(.pointer (some ⟨b1,0,none⟩)),x3] (HP.set hp b1 (.cells 3 [.int .i64 0] 0)) fun u9 h10=>intV u9 .i64 fun i11=>CF Try.prog 193 [(.slice x0a x0n x0c),(.int .i64 (IntKind.wrap .i64 (x1+(IntKind.wrap .i64 ((IntKind.wrap .i64 (Int.tdiv (IntKind.wrap .i64 (x2-x1)) 4))*2))))),(.pointer (some ⟨b1,0,none⟩)),x3] h10 fun u12 h13=>intV u12 .i64 fun i14=>CF Try.prog 193 [(.slice x0a x0n x0c),(.int .i64 (IntKind.wrap .i64 (x1+(IntKind.wrap .i64 ((IntKind.wrap .i64 (Int.tdiv (IntKind.wrap .i64 (x2-x1)) 4))*3))))),(.pointer (some ⟨b1,0,none⟩)),x3] h13 fun u15 h16=>intV u15 .i64 fun i17=>F183_j2 x0a x0n x0c x3 (some ⟨b1,0,none⟩) i11 i14 i17 h16  K) (F183_j2 x0a x0n x0c x3 (some ⟨b1,0,none⟩) (IntKind.wrap .i64 (x1+(IntKind.wrap .i64 ((IntKind.wrap .i64 (Int.tdiv (IntKind.wrap .i64 (x2-x1)) 4))*1)))) (IntKind.wrap .i64 (x1+(IntKind.wrap .i64 ((IntKind.wrap .i64 (Int.tdiv (IntKind.wrap .i64 (x2-x1)) 4))*2)))) (IntKind.wrap .i64 (x1+(IntKind.wrap .i64 ((IntKind.wrap .i64 (Int.tdiv (IntKind.wrap .i64 (x2-x1)) 4))*3)))) (HP.set hp b1 (.cells 3 [.int .i64 0] 0))  K)) (F183_j1 (some ⟨b1,0,none⟩) (IntKind.wrap .i64 (x1+(IntKind.wrap .i64 ((IntKind.wrap .i64 (Int.tdiv (IntKind.wrap .i64 (x2-x1)) 4))*2)))) (HP.set hp b1 (.cells 3 [.int .i64 0] 0))  K))))))
noncomputable abbrev o183 (k n:Nat):Code:=.region k (opsAt Try.f183 (pth n)) false
noncomputable def F183_code:Code:=(.seq (o183 0 2) (.seq (o183 1 5) (.seq (o183 2 11) (.seq (o183 3 23) (.seq (o183 4 47) (.seq (o183 5 95) (.seq (.seq (o183 6 319) (.cond (.tmp 34) (.seq (.seq (o183 7 2239) (.cond (.tmp 36) (.seq (o183 8 9407) (.seq (o183 9 21695) (o183 10 29887))) .skip)) (o183 11 1727)) .skip)) (.seq (o183 12 383) (.block 0 (.seq (o183 14 1279) (.cond (.tmp 57) (.seq (o183 15 4863) .ret) (.seq (o183 16 5887) (.cond (.tmp 60) (.seq (o183 17 20223) .ret) (.seq (o183 13 24319) .ret))))))))))))))
theorem F183_body:Try.f183.body=some F183_code:=by kernel_rfl
theorem F183_ok (x0a:OA) (x0n x0c:Nat) (x1 x2:Int) (x3:Value) (hp:HP) (K:Kh) (h:F183 x0a x0n x0c x1 x2 x3 hp K):CF Try.prog 183 [(.slice x0a x0n x0c),(.int .i64 x1),(.int .i64 x2),x3] hp K:=by
 refine .inl ⟨by kernel_rfl,AC.intro (N:=63) Try.func183 F183_body rfl (Nat.le_of_ble_eq_true rfl) ?_⟩
 unfold F183 at h
 refine Ar F183_r0 ?_ (r4 0 1 2 3 Rn) (z4 Sn) Sn
 refine Ar F183_r1 ?_ (r4 1 2 0 3 Rn) (z4 Sn) Sn
 refine Ar F183_r2 ?_ (r4 0 1 3 10 Rn) (z4 Sn) Sn
 refine fun b1 hb_b_1=>?_
 replace h:=h b1 hb_b_1
 refine Ar F183_r3 ?_ (r5 1 10 0 3 11 Rn) (z5 Sn) Sn
 refine ⟨h.1,?_⟩
 replace h:=h.2
 refine Ar F183_r4 ?_ (r6 1 10 0 3 11 12 Rn) (z6 Sn) Sn
 refine ⟨h.1,?_⟩
 replace h:=h.2
 refine Ar F183_r5 ?_ (r7 1 10 0 3 11 12 13 Rn) (z7 Sn) Sn
 refine ⟨h.1,?_⟩
 replace h:=h.2
 refine As (fun env pv hp=>∃ x11 x13,Sub (w2 E0 13 (sI x13) 11 (sP x11)) env∧Sub V0 pv∧F183_j1 x11 x13 hp  K) ?_ ?_
 ·refine Ar F183_r12 ?_ (r7 10 0 3 11 12 13 14 Rn) (z7 Sn) Sn
  refine Ac h rfl (fun h=>?_) (fun h=>?_)
  ·refine As (fun env pv hp=>∃ x0a x0n x0c x3 x11 x12 x13 x14,Sub (w6 E0 14 (sI x14) 13 (sI x13) 12 (sI x12) 11 (sP x11) 3 (sV x3) 0 (sS x0a x0n x0c)) env∧Sub V0 pv∧F183_j2 x0a x0n x0c x3 x11 x12 x13 x14 hp  K) ?_ ?_
   ·refine Ar F183_r14 ?_ (r7 10 0 3 11 12 13 14 Rn) (z7 Sn) Sn
    refine Ac h rfl (fun h=>?_) (fun h=>?_)
    ·refine Ar (F183_r15 rfl) ?_ (r6 0 3 11 12 13 14 Rn) (z6 Sn) Sn
     refine mC h fun u9 h10 h=>mI h fun i11 h=>?_
     refine Ar (F183_r16 rfl) ?_ (r6 0 3 11 13 12 14 Rn) (z6 Sn) Sn
     refine mC h fun u12 h13 h=>mI h fun i14 h=>?_
     refine Ag (F183_r17 rfl) ?_ (r6 0 3 11 14 12 13 Rn) (z6 Sn) Sn
     refine mC h fun u15 h16 h=>mI h fun i17 h=>?_
     exact ⟨_,_,_,_,_,_,_,_,(z6 Sn),Sn,h⟩
    ·refine AWP.skip ?_
     exact ⟨_,_,_,_,_,_,_,_,(z6 Sn),Sn,h⟩
   ·rintro env pv hp ⟨x0a,x0n,x0c,x3,x11,x12,x13,x14,he,hv,h⟩
    refine Ae ?_ (r6 0 3 11 12 13 14 Rn) he hv
    unfold F183_j2 at h
    refine Ag (F183_r13 rfl) ?_ (r6 0 3 11 12 13 14 Rn) (z6 Sn) Sn
    refine mC h fun u6 h7 h=>mI h fun i8 h=>?_
    exact ⟨_,_,(z2 Sn),Sn,h⟩
  ·refine AWP.skip ?_
   exact ⟨_,_,(z2 Sn),Sn,h⟩
 ·rintro env pv hp ⟨x11,x13,he,hv,h⟩
  refine Ae ?_ (r2 11 13 Rn) he hv
  unfold F183_j1 at h
  refine Ar F183_r6 ?_ (r2 11 13 Rn) (z2 Sn) Sn
  refine mN h fun b2 o3 h=>mV h fun v4 h=>mI h fun i5 h=>?_
  refine AWP.block (Ar F183_r7 ?_ (r2 55 13 Rn) (z2 Sn) Sn)
  refine Ac h rfl (fun h=>?_) (fun h=>?_)
  ·refine Ar F183_r8 ?_ (r1 13 Rn) (z1 Sn) Sn
   refine AWP.ret ?_
   exact h
  ·refine Ar F183_r9 ?_ (r2 55 13 Rn) (z2 Sn) Sn
   refine Ac h rfl (fun h=>?_) (fun h=>?_)
   ·refine Ar F183_r10 ?_ (r1 13 Rn) (z1 Sn) Sn
    refine AWP.ret ?_
    exact h
   ·refine Ar F183_r11 ?_ (r1 13 Rn) (z1 Sn) Sn
    refine AWP.ret ?_
    exact h
end
section
variable {e E:Env} {x0a:OA} {x0n x0c:Nat} {x1:Int} {x2:OA} {x3:Value} {hp:HP} {K:Env→PV→HP→Prop}
abbrev R193 (p n:Nat):=RW Try.prog 18 [] (opsAt Try.f193 (pth p)) (List.range n)
theorem F193_r0:R193 2 1 e V0 hp K=
 K (upd e 8 (sI 0)) V0 hp:= by kernel_rfl
theorem F193_r1 (h:E=upd (w3 e 3 (sV x3) 2 (sP x2) 1 (sI x1)) 0 (sS x0a x0n x0c)):R193 5 10 E V0 hp K=
 CF Try.prog 194 [(.slice x0a x0n x0c),(.int .i64 (wr (x1-1))),(.int .i64 x1),(.int .i64 (wr (x1+1))),(.pointer x2),x3] hp fun u1 h2=>(intV u1 .i64 fun i3=>K (w2 (w8 E 9 (sS x0a x0n x0c) 10 (sI x1) 11 (sI ((wr (x1-1)))) 12 (sI x1) 13 (sI x1) 14 (sI ((wr (x1+1)))) 15 (sP x2) 16 (sV x3)) 17 (sI i3) 8 (sI i3)) V0 h2):= by subst h; kernel_rfl
def F193 (x0a:OA) (x0n x0c:Nat) (x1:Int) (x2:OA) (x3:Value) (hp:HP) (K:Kh):Prop:=
  (CF Try.prog 194 [(.slice x0a x0n x0c),(.int .i64 (IntKind.wrap .i64 (x1-1))),(.int .i64 x1),(.int .i64 (IntKind.wrap .i64 (x1+1))),(.pointer x2),x3] hp fun u1 h2=>intV u1 .i64 fun i3=>K (.int .i64 i3) h2)
noncomputable def F193_code:Code:=(.seq (.region 0 (opsAt Try.f193 (pth 2)) false) (.seq (.region 1 (opsAt Try.f193 (pth 5)) false) .ret))
theorem F193_body:Try.f193.body=some F193_code:=by kernel_rfl
theorem F193_ok (x0a:OA) (x0n x0c:Nat) (x1:Int) (x2:OA) (x3:Value) (hp:HP) (K:Kh) (h:F193 x0a x0n x0c x1 x2 x3 hp K):CF Try.prog 193 [(.slice x0a x0n x0c),(.int .i64 x1),(.pointer x2),x3] hp K:=by
 refine .inl ⟨by kernel_rfl,AC.intro (N:=18) Try.func193 F193_body rfl (Nat.le_of_ble_eq_true rfl) ?_⟩
 unfold F193 at h
 refine Ar F193_r0 ?_ (r4 0 1 2 3 Rn) (z4 Sn) Sn
 refine Ar (F193_r1 rfl) ?_ (r4 0 1 2 3 Rn) (z4 Sn) Sn
 refine mC h fun u1 h2 h=>mI h fun i3 h=>?_
 refine AWP.ret ?_
 exact h
end
section
variable {e E:Env} {x0a:OA} {x0n x0c:Nat} {x1 x2 x3:Int} {x4:OA} {x5:Value} {hp:HP} {K:Env→PV→HP→Prop}
abbrev R194 (p n:Nat):=RW Try.prog 41 [] (opsAt Try.f194 (pth p)) (List.range n)
theorem F194_r0:R194 2 1 e V0 hp K=
 K (upd e 12 (sI 0)) V0 hp:= by kernel_rfl
theorem F194_r1 (h:E=upd (w4 e 5 (sV x5) 4 (sP x4) 2 (sI x2) 1 (sI x1)) 0 (sS x0a x0n x0c)):R194 5 11 E V0 hp K=
 CF Try.prog 196 [(.slice x0a x0n x0c),(.int .i64 x1),(.int .i64 x2),(.pointer x4),x5] hp fun u1 h2=>(tup2V u1 fun u3 u4=>intV u3 .i64 fun i5=>intV u4 .i64 fun i6=>K (w3 (w8 E 14 (sS x0a x0n x0c) 15 (sI x1) 16 (sI x2) 17 (sP x4) 18 (sV x5) 19 (sV (.tuple ⟨[(.int .i64 i5),(.int .i64 i6)]⟩)) 13 (sV (.tuple ⟨[(.int .i64 i5),(.int .i64 i6)]⟩)) 20 (sI i5)) 21 (sI i6) 1 (sI i5) 2 (sI i6)) V0 h2):= by subst h; kernel_rfl
theorem F194_r2 (h:E=upd (w4 e 5 (sV x5) 4 (sP x4) 3 (sI x3) 2 (sI x2)) 0 (sS x0a x0n x0c)):R194 11 11 E V0 hp K=
 CF Try.prog 196 [(.slice x0a x0n x0c),(.int .i64 x2),(.int .i64 x3),(.pointer x4),x5] hp fun u1 h2=>(tup2V u1 fun u3 u4=>intV u3 .i64 fun i5=>intV u4 .i64 fun i6=>K (w3 (w8 E 23 (sS x0a x0n x0c) 24 (sI x2) 25 (sI x3) 26 (sP x4) 27 (sV x5) 28 (sV (.tuple ⟨[(.int .i64 i5),(.int .i64 i6)]⟩)) 22 (sV (.tuple ⟨[(.int .i64 i5),(.int .i64 i6)]⟩)) 29 (sI i5)) 30 (sI i6) 2 (sI i5) 3 (sI i6)) V0 h2):= by subst h; kernel_rfl
theorem F194_r3 (h:E=upd (w4 e 5 (sV x5) 4 (sP x4) 2 (sI x2) 1 (sI x1)) 0 (sS x0a x0n x0c)):R194 23 11 E V0 hp K=
 CF Try.prog 196 [(.slice x0a x0n x0c),(.int .i64 x1),(.int .i64 x2),(.pointer x4),x5] hp fun u1 h2=>(tup2V u1 fun u3 u4=>intV u3 .i64 fun i5=>intV u4 .i64 fun i6=>K (w3 (w8 E 32 (sS x0a x0n x0c) 33 (sI x1) 34 (sI x2) 35 (sP x4) 36 (sV x5) 37 (sV (.tuple ⟨[(.int .i64 i5),(.int .i64 i6)]⟩)) 31 (sV (.tuple ⟨[(.int .i64 i5),(.int .i64 i6)]⟩)) 38 (sI i5)) 39 (sI i6) 1 (sI i5) 2 (sI i6)) V0 h2):= by subst h; kernel_rfl
theorem F194_r4:R194 47 2 (upd e 2 (sI x2)) V0 hp K=
 K (w3 e 2 (sI x2) 40 (sI x2) 12 (sI x2)) V0 hp:= by kernel_rfl
def F194 (x0a:OA) (x0n x0c:Nat) (x1 x2 x3:Int) (x4:OA) (x5:Value) (hp:HP) (K:Kh):Prop:=
  (CF Try.prog 196 [(.slice x0a x0n x0c),(.int .i64 x1),(.int .i64 x2),(.pointer x4),x5] hp fun u1 h2=>tup2V u1 fun u3 u4=>intV u3 .i64 fun i5=>intV u4 .i64 fun i6=>CF Try.prog 196 [(.slice x0a x0n x0c),(.int .i64 i6),(.int .i64 x3),(.pointer x4),x5] h2 fun u7 h8=>tup2V u7 fun u9 u10=>intV u9 .i64 fun i11=>intV u10 .i64 fun i12=>CF Try.prog 196 [(.slice x0a x0n x0c),(.int .i64 i5),(.int .i64 i11),(.pointer x4),x5] h8 fun u13 h14=>tup2V u13 fun u15 u16=>intV u15 .i64 fun i17=>intV u16 .i64 fun i18=>K (.int .i64 i18) h14)
noncomputable def F194_code:Code:=(.seq (.region 0 (opsAt Try.f194 (pth 2)) false) (.seq (.region 1 (opsAt Try.f194 (pth 5)) false) (.seq (.region 2 (opsAt Try.f194 (pth 11)) false) (.seq (.region 3 (opsAt Try.f194 (pth 23)) false) (.seq (.region 4 (opsAt Try.f194 (pth 47)) false) .ret)))))
theorem F194_body:Try.f194.body=some F194_code:=by kernel_rfl
theorem F194_ok (x0a:OA) (x0n x0c:Nat) (x1 x2 x3:Int) (x4:OA) (x5:Value) (hp:HP) (K:Kh) (h:F194 x0a x0n x0c x1 x2 x3 x4 x5 hp K):CF Try.prog 194 [(.slice x0a x0n x0c),(.int .i64 x1),(.int .i64 x2),(.int .i64 x3),(.pointer x4),x5] hp K:=by
 refine .inl ⟨by kernel_rfl,AC.intro (N:=41) Try.func194 F194_body rfl (Nat.le_of_ble_eq_true rfl) ?_⟩
 unfold F194 at h
 refine Ar F194_r0 ?_ (r6 0 1 2 3 4 5 Rn) (z6 Sn) Sn
 refine Ar (F194_r1 rfl) ?_ (r6 0 1 2 4 5 3 Rn) (z6 Sn) Sn
 refine mC h fun u1 h2 h=>mT h fun u3 u4 h=>mI h fun i5 h=>mI h fun i6 h=>?_
 refine Ar (F194_r2 rfl) ?_ (r6 0 2 3 4 5 1 Rn) (z6 Sn) Sn
 refine mC h fun u7 h8 h=>mT h fun u9 u10 h=>mI h fun i11 h=>mI h fun i12 h=>?_
 refine Ar (F194_r3 rfl) ?_ (r5 0 1 2 4 5 Rn) (z5 Sn) Sn
 refine mC h fun u13 h14 h=>mT h fun u15 u16 h=>mI h fun i17 h=>mI h fun i18 h=>?_
 refine Ar F194_r4 ?_ (r1 2 Rn) (z1 Sn) Sn
 refine AWP.ret ?_
 exact h
end
section
variable {e E:Env} {x0a:OA} {x0n x0c:Nat} {x1 x2:Int} {x3:OA} {x4:Value} {hp:HP} {K:Env→PV→HP→Prop}
abbrev R196 (p n:Nat):=RW Try.prog 32 [] (opsAt Try.f196 (pth p)) (List.range n)
theorem F196_r0:R196 2 2 e V0 hp K=
 K (w2 e 10 (sI 0) 11 (sI 0)) V0 hp:= by kernel_rfl
theorem F196_r1 (h:E=upd (w3 e 4 (sV x4) 2 (sI x2) 1 (sI x1)) 0 (sS x0a x0n x0c)):R196 9 11 E V0 hp K=
    ((0≤x2)∧(x2<x0n)∧(ptrN x0a fun b1 o2=>ldV (HP.cell hp b1 (o2+Int.toNat x2*1)) fun v3=>strV v3 fun s4=>(0≤x1)∧(x1<x0n)∧(ptrN x0a fun b5 o6=>ldV (HP.cell hp b5 (o6+Int.toNat x1*1)) fun v7=>strV v7 fun s8=>fnV x4 fun f9 ga10 gb11=>CF Try.prog f9 (ga10++[(Value.string s4),(.string s8)]++gb11) hp fun u12 h13=>intV u12 .i64 fun i14=>K (w3 (w8 E 12 (sV x4) 13 (sS x0a x0n x0c) 14 (sI x2) 15 (sQ b1 (o2+Int.toNat x2*1)) 16 (sT s4) 17 (sS x0a x0n x0c) 18 (sI x1) 19 (sQ b5 (o6+Int.toNat x1*1))) 20 (sT s8) 21 (sI i14) 22 (sB (decide (i14<0)))) V0 h13))):=by subst h; kernel_rfl
theorem F196_r2:R196 37 6 (upd e 3 (sP x3)) V0 hp K=
 ptrN x3 fun b1 o2=>(ldV (HP.cell hp b1 o2) fun v3=>intV v3 .i64 fun i4=>ptrN x3 fun b5 o6=>HP.st hp b5 o6 (.int .i64 (wr (i4+1))) fun h7=>K (w6 e 3 (sP x3) 23 (sP x3) 24 (sQ b1 o2) 25 (sI i4) 26 (sI ((wr (i4+1)))) 27 (sQ b5 o6)) V0 h7):= by kernel_rfl
theorem F196_r3:R196 85 4 (w2 e 2 (sI x2) 1 (sI x1)) V0 hp K=
 K (w6 e 2 (sI x2) 1 (sI x1) 28 (sI x2) 29 (sI x1) 10 (sI x2) 11 (sI x1)) V0 hp:= by kernel_rfl
theorem F196_r4:R196 11 4 (w2 e 2 (sI x2) 1 (sI x1)) V0 hp K=
 K (w6 e 2 (sI x2) 1 (sI x1) 30 (sI x1) 31 (sI x2) 10 (sI x1) 11 (sI x2)) V0 hp:= by kernel_rfl
def F196 (x0a:OA) (x0n x0c:Nat) (x1 x2:Int) (x3:OA) (x4:Value) (hp:HP) (K:Kh):Prop:=
  ((0≤x2)∧(x2<x0n)∧(ptrN x0a fun b1 o2=>ldV (HP.cell hp b1 (o2+Int.toNat x2*1)) fun v3=>strV v3 fun s4=>(0≤x1)∧(x1<x0n)∧(ptrN x0a fun b5 o6=>ldV (HP.cell hp b5 (o6+Int.toNat x1*1)) fun v7=>strV v7 fun s8=>fnV x4 fun f9 ga_10 gb_11=>CF Try.prog f9 (ga_10++[(Value.string s4),(.string s8)]++gb_11) hp fun u12 h13=>intV u12 .i64 fun i14=>ite2 (decide (i14<0)) (ptrN x3 fun b15 o16=>ldV (HP.cell h13 b15 o16) fun v17=>intV v17 .i64 fun i18=>ptrN x3 fun b19 o20=>HP.st h13 b19 o20 (.int .i64 (IntKind.wrap .i64 (i18+1))) fun h21=>K (.tuple ⟨[(.int .i64 x2),(.int .i64 x1)]⟩) h21) (K (.tuple ⟨[(.int .i64 x1),(.int .i64 x2)]⟩) h13))))
noncomputable def F196_code:Code:=(.seq (.region 0 (opsAt Try.f196 (pth 2)) false) (.seq (.seq (.region 1 (opsAt Try.f196 (pth 9)) true) (.cond (.tmp 22) (.seq (.region 2 (opsAt Try.f196 (pth 37)) false) (.seq (.region 3 (opsAt Try.f196 (pth 85)) false) .ret)) .skip)) (.seq (.region 4 (opsAt Try.f196 (pth 11)) false) .ret)))
theorem F196_body:Try.f196.body=some F196_code:=by kernel_rfl
theorem F196_ok (x0a:OA) (x0n x0c:Nat) (x1 x2:Int) (x3:OA) (x4:Value) (hp:HP) (K:Kh) (h:F196 x0a x0n x0c x1 x2 x3 x4 hp K):CF Try.prog 196 [(.slice x0a x0n x0c),(.int .i64 x1),(.int .i64 x2),(.pointer x3),x4] hp K:=by
 refine .inl ⟨by kernel_rfl,AC.intro (N:=32) Try.func196 F196_body rfl (Nat.le_of_ble_eq_true rfl) ?_⟩
 unfold F196 at h
 refine Ar F196_r0 ?_ (r5 0 1 2 3 4 Rn) (z5 Sn) Sn
 refine Aq (Aq (AWP.rgnD (by kernel_rfl) (by kernel_rfl) (F196_r1 rfl) ?_ (r5 0 1 2 4 3 Rn) (z5 Sn) Sn))
 refine ⟨h.1,h.2.1,mN h.2.2 (fun b1 o2 h=>mV h (fun v3 h=>ms h (fun s4 h=>⟨h.1,h.2.1,mN h.2.2 fun b5 o6 h=>mV h fun v7 h=>ms h fun s8 h=>mF h fun f9 ga_10 gb_11 h=>mC h fun u12 h13 h=>mI h fun i14 h=>?_⟩)))⟩
 refine Ac h rfl (fun h=>?_) (fun h=>?_)
 ·refine Ar F196_r2 ?_ (r3 3 1 2 Rn) (z3 Sn) Sn
  refine mN h fun b15 o16 h=>mV h fun v17 h=>mI h fun i18 h=>mN h fun b19 o20 h=>mw h fun h21 h=>?_
  refine Ar F196_r3 ?_ (r2 1 2 Rn) (z2 Sn) Sn
  refine AWP.ret ?_
  exact h
 ·refine AWP.skip (Ar F196_r4 ?_ (r2 1 2 Rn) (z2 Sn) Sn)
  refine AWP.ret ?_
  exact h
end
section
variable {e E:Env} {x0a:OA} {x0n x0c:Nat} {x1 x2 x3:Int} {x4:Value} {x10 x11:Bool} {x12 x13 x14 x15 x16:Int} {x17:Bool} {x18 x19 x20:Int} {hp:HP} {K:Env→PV→HP→Prop}
abbrev R166 (p n:Nat):=RW Try.prog 148 [] (opsAt Try.f166 (pth p)) (List.range n)
theorem F166_r0:R166 2 1 e V0 hp K=
 K (upd e 10 (sB true)) V0 hp:= by kernel_rfl
theorem F166_r1:R166 67 4 (w2 e 2 (sI x2) 1 (sI x1)) V0 hp K=
 K (w6 e 2 (sI x2) 1 (sI x1) 21 (sI x2) 22 (sI x1) 23 (sI ((wr (x2-x1)))) 12 (sI ((wr (x2-x1))))) V0 hp:= by kernel_rfl
theorem F166_r2:R166 291 2 (upd e 12 (sI x12)) V0 hp K=
 K (w3 e 12 (sI x12) 24 (sI x12) 25 (sB (decide (x12≤12)))) V0 hp:= by kernel_rfl
theorem F166_r3 (h:E=upd (w3 e 4 (sV x4) 2 (sI x2) 1 (sI x1)) 0 (sS x0a x0n x0c)):R166 1187 5 E V0 hp K=
 CF Try.prog 180 [(.slice x0a x0n x0c),(.int .i64 x1),(.int .i64 x2),x4] hp fun u1 h2=>(K (w5 E 26 (sS x0a x0n x0c) 27 (sI x1) 28 (sI x2) 29 (sV x4) 30 (sV u1)) V0 h2):= by subst h; kernel_rfl
theorem F166_r4:R166 611 2 (upd e 3 (sI x3)) V0 hp K=
 K (w3 e 3 (sI x3) 31 (sI x3) 32 (sB ((x3==0)))) V0 hp:= by kernel_rfl
theorem F166_r5 (h:E=upd (w3 e 4 (sV x4) 2 (sI x2) 1 (sI x1)) 0 (sS x0a x0n x0c)):R166 2403 5 E V0 hp K=
 CF Try.prog 181 [(.slice x0a x0n x0c),(.int .i64 x1),(.int .i64 x2),x4] hp fun u1 h2=>(K (w5 E 33 (sS x0a x0n x0c) 34 (sI x1) 35 (sI x2) 36 (sV x4) 37 (sV u1)) V0 h2):= by subst h; kernel_rfl
theorem F166_r6 (h:E=upd (w3 e 4 (sV x4) 2 (sI x2) 1 (sI x1)) 0 (sS x0a x0n x0c)):R166 1507 10 E V0 hp K=
 CF Try.prog 183 [(.slice x0a x0n x0c),(.int .i64 x1),(.int .i64 x2),x4] hp fun u1 h2=>(tup2V u1 fun u3 u4=>intV u3 .i64 fun i5=>intV u4 .i64 fun i6=>K (w2 (w8 E 48 (sS x0a x0n x0c) 49 (sI x1) 50 (sI x2) 51 (sV x4) 52 (sV (.tuple ⟨[(.int .i64 i5),(.int .i64 i6)]⟩)) 47 (sV (.tuple ⟨[(.int .i64 i5),(.int .i64 i6)]⟩)) 53 (sI i5) 54 (sI i6)) 13 (sI i5) 14 (sI i6)) V0 h2):= by subst h; kernel_rfl
theorem F166_r7 (h:E=upd (w4 e 13 (sI x13) 4 (sV x4) 2 (sI x2) 1 (sI x1)) 0 (sS x0a x0n x0c)):R166 77795 7 E V0 hp K=
 CF Try.prog 186 [(.slice x0a x0n x0c),(.int .i64 x1),(.int .i64 x2),(.int .i64 x13),x4] hp fun u1 h2=>(intV u1 .i64 fun i3=>K (w7 E 98 (sS x0a x0n x0c) 99 (sI x1) 100 (sI x2) 101 (sI x13) 102 (sV x4) 103 (sI i3) 15 (sI i3)) V0 h2):= by subst h; kernel_rfl
theorem F166_r8:R166 176099 2 (upd e 15 (sI x15)) V0 hp K=
 K (w3 e 15 (sI x15) 104 (sI x15) 1 (sI x15)) V0 hp:= by kernel_rfl
theorem F166_r9 (h:E=upd (w4 e 13 (sI x13) 4 (sV x4) 2 (sI x2) 1 (sI x1)) 0 (sS x0a x0n x0c)):R166 24547 11 E V0 hp K=
 CF Try.prog 187 [(.slice x0a x0n x0c),(.int .i64 x1),(.int .i64 x2),(.int .i64 x13),x4] hp fun u1 h2=>(tup2V u1 fun u3 u4=>intV u3 .i64 fun i5=>boolV u4 fun q6=>K (w3 (w8 E 106 (sS x0a x0n x0c) 107 (sI x1) 108 (sI x2) 109 (sI x13) 110 (sV x4) 111 (sV (.tuple ⟨[(.int .i64 i5),(.bool q6)]⟩)) 105 (sV (.tuple ⟨[(.int .i64 i5),(.bool q6)]⟩)) 112 (sI i5)) 113 (sB q6) 16 (sI i5) 17 (sB q6)) V0 h2):= by subst h; kernel_rfl
theorem F166_r10:R166 49123 2 (upd e 17 (sB x17)) V0 hp K=
 K (w3 e 17 (sB x17) 114 (sB x17) 11 (sB x17)) V0 hp:= by kernel_rfl
theorem F166_r11 (h:E=upd (w2 e 16 (sI x16) 2 (sI x2)) 1 (sI x1)):R166 98275 8 E V0 hp K=
 K (w8 E 115 (sI x16) 116 (sI x1) 117 (sI ((wr (x16-x1)))) 118 (sI x2) 119 (sI x16) 120 (sI ((wr (x2-x16)))) 18 (sI ((wr (x16-x1)))) 19 (sI ((wr (x2-x16))))) V0 hp:= by subst h; kernel_rfl
theorem F166_r12:R166 196579 3 (upd e 12 (sI x12)) V0 hp K=
    (((8:Int)≠0)∧(K (w4 e 12 (sI x12) 121 (sI x12) 122 (sI ((wr (Int.tdiv x12 8)))) 20 (sI ((wr (Int.tdiv x12 8))))) V0 hp)):=by kernel_rfl
theorem F166_r13:R166 393187 3 (w2 e 19 (sI x19) 18 (sI x18)) V0 hp K=
 K (w5 e 19 (sI x19) 18 (sI x18) 123 (sI x18) 124 (sI x19) 125 (sB (decide (x18<x19)))) V0 hp:= by kernel_rfl
theorem F166_r14:R166 1310691 4 (w2 e 20 (sI x20) 18 (sI x18)) V0 hp K=
 K (w6 e 20 (sI x20) 18 (sI x18) 126 (sI x18) 127 (sI x20) 128 (sB (decide (x18≥x20))) 10 (sB (decide (x18≥x20)))) V0 hp:= by kernel_rfl
theorem F166_r15 (h:E=upd (w4 e 16 (sI x16) 4 (sV x4) 3 (sI x3) 1 (sI x1)) 0 (sS x0a x0n x0c)):R166 2883555 6 E V0 hp K=
 CF Try.prog 166 [(.slice x0a x0n x0c),(.int .i64 x1),(.int .i64 x16),(.int .i64 x3),x4] hp fun u1 h2=>(K (w6 E 129 (sS x0a x0n x0c) 130 (sI x1) 131 (sI x16) 132 (sI x3) 133 (sV x4) 134 (sV u1)) V0 h2):= by subst h; kernel_rfl
theorem F166_r16:R166 3932131 3 (upd e 16 (sI x16)) V0 hp K=
 K (w4 e 16 (sI x16) 135 (sI x16) 136 (sI ((wr (x16+1)))) 1 (sI ((wr (x16+1))))) V0 hp:= by kernel_rfl
theorem F166_r17:R166 1572835 4 (w2 e 20 (sI x20) 19 (sI x19)) V0 hp K=
 K (w6 e 20 (sI x20) 19 (sI x19) 137 (sI x19) 138 (sI x20) 139 (sB (decide (x19≥x20))) 10 (sB (decide (x19≥x20)))) V0 hp:= by kernel_rfl
theorem F166_r18 (h:E=upd (w4 e 16 (sI x16) 4 (sV x4) 3 (sI x3) 2 (sI x2)) 0 (sS x0a x0n x0c)):R166 3145699 7 E V0 hp K=
 CF Try.prog 166 [(.slice x0a x0n x0c),(.int .i64 (wr (x16+1))),(.int .i64 x2),(.int .i64 x3),x4] hp fun u1 h2=>(K (w7 E 140 (sS x0a x0n x0c) 141 (sI x16) 142 (sI ((wr (x16+1)))) 143 (sI x2) 144 (sI x3) 145 (sV x4) 146 (sV u1)) V0 h2):= by subst h; kernel_rfl
theorem F166_r19:R166 4194275 2 (upd e 16 (sI x16)) V0 hp K=
 K (w3 e 16 (sI x16) 147 (sI x16) 2 (sI x16)) V0 hp:= by kernel_rfl
def F166_j6 (x0a:OA) (x0n x0c:Nat) (x1 x2 x3:Int) (x4:Value) (x10 x11:Bool) (x12 x13:Int) (x97:Bool) (hp:HP) (I2:(Int × Int × Int × Bool × Bool)→HP→Prop) (K:Kh):Prop:=
  (ite2 x97 (CF Try.prog 186 [(.slice x0a x0n x0c),(.int .i64 x1),(.int .i64 x2),(.int .i64 x13),x4] hp fun u11 h12=>intV u11 .i64 fun i13=>I2 (i13,x2,x3,x10,x11) h12) (CF Try.prog 187 [(.slice x0a x0n x0c),(.int .i64 x1),(.int .i64 x2),(.int .i64 x13),x4] hp fun u14 h15=>tup2V u14 fun u16 u17=>intV u16 .i64 fun i18=>boolV u17 fun q19=>((8:Int)≠0)∧(ite2 (decide (((IntKind.wrap .i64 (i18-x1)):Int)<(IntKind.wrap .i64 (x2-i18)))) (CF Try.prog 166 [(.slice x0a x0n x0c),(.int .i64 x1),(.int .i64 i18),(.int .i64 x3),x4] h15 fun u20 h21=>I2 ((IntKind.wrap .i64 (i18+1)),x2,x3,(decide (((IntKind.wrap .i64 (i18-x1)):Int)≥(IntKind.wrap .i64 (Int.tdiv x12 8)))),q19) h21) (CF Try.prog 166 [(.slice x0a x0n x0c),(.int .i64 (IntKind.wrap .i64 (i18+1))),(.int .i64 x2),(.int .i64 x3),x4] h15 fun u22 h23=>I2 (x1,i18,x3,(decide (((IntKind.wrap .i64 (x2-i18)):Int)≥(IntKind.wrap .i64 (Int.tdiv x12 8)))),q19) h23))))
theorem F166_r20 (h:E=upd (w3 e 13 (sI x13) 4 (sV x4) 1 (sI x1)) 0 (sS x0a x0n x0c)):R166 20451 17 E V0 hp K=
    (ite2 (decide (x1 > 0)) ((0≤((wr (x1-1)):Int))∧(((wr (x1-1)):Int)<x0n)∧(ptrN x0a fun b1 o2=>ldV (HP.cell hp b1 (o2+Int.toNat (wr (x1-1))*1)) fun v3=>strV v3 fun s4=>(0≤x13)∧(x13<x0n)∧(ptrN x0a fun b5 o6=>ldV (HP.cell hp b5 (o6+Int.toNat x13*1)) fun v7=>strV v7 fun s8=>fnV x4 fun f9 ga10 gb11=>CF Try.prog f9 (ga10++[(Value.string s4),(.string s8)]++gb11) hp fun u12 h13=>intV u12 .i64 fun i14=>K (upd (w8 (w8 E 81 (sI x1) 82 (sB (decide (x1 > 0))) 83 (sB true) 84 (sV x4) 85 (sS x0a x0n x0c) 86 (sI x1) 87 (sI ((wr (x1-1)))) 88 (sV (ptr b1 (o2+Int.toNat (wr (x1-1))*1)))) 89 (sT s4) 90 (sS x0a x0n x0c) 91 (sI x13) 92 (sQ b5 (o6+Int.toNat x13*1)) 93 (sT s8) 94 (sI i14) 95 (sB (decide (i14<0))) 96 (sB ((!(decide (i14<0)))))) 97 (sB ((!(decide (i14<0)))))) V0 h13))) (K (upd (w8 (w8 E 81 (sI x1) 82 (sB (decide (x1 > 0))) 83 (sB false) 84 sU 85 sU 86 sU 87 sU 88 sU) 89 sU 90 sU 91 sU 92 sU 93 sU 94 sU 95 sU 96 sU) 97 (sB false)) V0 hp)):=by subst h; kernel_rfl
def F166_j5 (x0a:OA) (x0n x0c:Nat) (x1 x2 x3:Int) (x4:Value) (x10 x11:Bool) (x12 x13:Int) (hp:HP) (I2:(Int × Int × Int × Bool × Bool)→HP→Prop) (K:Kh):Prop:=
  (ite2 (decide (x1 > 0)) ((0≤((IntKind.wrap .i64 (x1-1)):Int))∧(((IntKind.wrap .i64 (x1-1)):Int)<x0n)∧(ptrN x0a fun b24 o25=>ldV (HP.cell hp b24 (o25+Int.toNat (IntKind.wrap .i64 (x1-1))*1)) fun v26=>strV v26 fun s27=>(0≤x13)∧(x13<x0n)∧(ptrN x0a fun b28 o29=>ldV (HP.cell hp b28 (o29+Int.toNat x13*1)) fun v30=>strV v30 fun s31=>fnV x4 fun f32 ga_33 gb_34=>CF Try.prog f32 (ga_33++[(Value.string s27),(.string s31)]++gb_34) hp fun u35 h36=>intV u35 .i64 fun i37=>F166_j6 x0a x0n x0c x1 x2 x3 x4 x10 x11 x12 x13 (!(decide (i37<0))) h36 I2 K))) (F166_j6 x0a x0n x0c x1 x2 x3 x4 x10 x11 x12 x13 false hp I2 K))
theorem F166_r21 (h:E=upd (w3 e 4 (sV x4) 2 (sI x2) 1 (sI x1)) 0 (sS x0a x0n x0c)):R166 38883 5 E V0 hp K=
 CF Try.prog 185 [(.slice x0a x0n x0c),(.int .i64 x1),(.int .i64 x2),x4] hp fun u1 h2=>(boolV u1 fun q3=>K (w5 E 76 (sS x0a x0n x0c) 77 (sI x1) 78 (sI x2) 79 (sV x4) 80 (sB q3)) V0 h2):= by subst h; kernel_rfl
def F166_j7 (x0a:OA) (x0n x0c:Nat) (x1 x2 x3:Int) (x4:Value) (x10 x11:Bool) (x12 x13:Int) (x75:Bool) (hp:HP) (I2:(Int × Int × Int × Bool × Bool)→HP→Prop) (K:Kh):Prop:=
  (ite2 x75 (CF Try.prog 185 [(.slice x0a x0n x0c),(.int .i64 x1),(.int .i64 x2),x4] hp fun u38 h39=>boolV u38 fun q40=>ite2 q40 (K (.tuple ⟨[]⟩) h39) (F166_j5 x0a x0n x0c x1 x2 x3 x4 x10 x11 x12 x13 h39 I2 K)) (F166_j5 x0a x0n x0c x1 x2 x3 x4 x10 x11 x12 x13 hp I2 K))
theorem F166_r22 (h:E=upd (w2 e 14 (sI x14) 11 (sB x11)) 10 (sB x10)):R166 10211 8 E V0 hp K=
 ite2 x10 (ite2 x11 (K (w8 E 68 (sB x10) 69 (sB true) 70 (sB x11) 71 (sB x11) 72 (sB true) 73 (sI x14) 74 (sB ((x14==1))) 75 (sB ((x14==1)))) V0 hp) (K (w8 E 68 (sB x10) 69 (sB true) 70 (sB x11) 71 (sB x11) 72 (sB false) 73 sU 74 sU 75 (sB false)) V0 hp)) (K (w8 E 68 (sB x10) 69 (sB false) 70 sU 71 (sB false) 72 (sB false) 73 sU 74 sU 75 (sB false)) V0 hp):= by subst h; kernel_rfl
def F166_j4 (x0a:OA) (x0n x0c:Nat) (x1 x2 x3:Int) (x4:Value) (x10 x11:Bool) (x12 x13 x14:Int) (hp:HP) (I2:(Int × Int × Int × Bool × Bool)→HP→Prop) (K:Kh):Prop:=
  (ite2 x10 (ite2 x11 (F166_j7 x0a x0n x0c x1 x2 x3 x4 x10 x11 x12 x13 (x14==1) hp I2 K) (F166_j7 x0a x0n x0c x1 x2 x3 x4 x10 x11 x12 x13 false hp I2 K)) (F166_j7 x0a x0n x0c x1 x2 x3 x4 x10 x11 x12 x13 false hp I2 K))
theorem F166_r23:R166 5091 2 (upd e 14 (sI x14)) V0 hp K=
 K (w3 e 14 (sI x14) 55 (sI x14) 56 (sB ((x14==2)))) V0 hp:= by kernel_rfl
theorem F166_r24 (h:E=upd (w3 e 4 (sV x4) 2 (sI x2) 1 (sI x1)) 0 (sS x0a x0n x0c)):R166 19427 5 E V0 hp K=
 CF Try.prog 184 [(.slice x0a x0n x0c),(.int .i64 x1),(.int .i64 x2),x4] hp fun u1 h2=>(K (w5 E 57 (sS x0a x0n x0c) 58 (sI x1) 59 (sI x2) 60 (sV x4) 61 (sV u1)) V0 h2):= by subst h; kernel_rfl
theorem F166_r25 (h:E=upd (w2 e 13 (sI x13) 2 (sI x2)) 1 (sI x1)):R166 44003 7 E V0 hp K=
 K (w7 E 62 (sI x2) 63 (sI ((wr (x2-1)))) 64 (sI x13) 65 (sI x1) 66 (sI ((wr (x13-x1)))) 67 (sI ((wr ((wr (x2-1))-(wr (x13-x1)))))) 13 (sI ((wr ((wr (x2-1))-(wr (x13-x1))))))) V0 hp:= by subst h; kernel_rfl
theorem F166_r26:R166 60387 1 e V0 hp K=
 K (upd e 14 (sI 1)) V0 hp:= by kernel_rfl
def F166_j3 (x0a:OA) (x0n x0c:Nat) (x1 x2 x3:Int) (x4:Value) (x10 x11:Bool) (x12:Int) (hp:HP) (I2:(Int × Int × Int × Bool × Bool)→HP→Prop) (K:Kh):Prop:=
  (CF Try.prog 183 [(.slice x0a x0n x0c),(.int .i64 x1),(.int .i64 x2),x4] hp fun u5 h6=>tup2V u5 fun u7 u8=>intV u7 .i64 fun i9=>intV u8 .i64 fun i10=>ite2 (i10==2) (CF Try.prog 184 [(.slice x0a x0n x0c),(.int .i64 x1),(.int .i64 x2),x4] h6 fun u41 h42=>F166_j4 x0a x0n x0c x1 x2 x3 x4 x10 x11 x12 (IntKind.wrap .i64 ((IntKind.wrap .i64 (x2-1))-(IntKind.wrap .i64 (i9-x1)))) 1 h42 I2 K) (F166_j4 x0a x0n x0c x1 x2 x3 x4 x10 x11 x12 i9 i10 h6 I2 K))
theorem F166_r27:R166 1251 2 (upd e 10 (sB x10)) V0 hp K=
 K (w3 e 10 (sB x10) 38 (sB x10) 39 (sB ((!x10)))) V0 hp:= by kernel_rfl
theorem F166_r28 (h:E=upd (w3 e 4 (sV x4) 2 (sI x2) 1 (sI x1)) 0 (sS x0a x0n x0c)):R166 4835 5 E V0 hp K=
 CF Try.prog 182 [(.slice x0a x0n x0c),(.int .i64 x1),(.int .i64 x2),x4] hp fun u1 h2=>(K (w5 E 40 (sS x0a x0n x0c) 41 (sI x1) 42 (sI x2) 43 (sV x4) 44 (sV u1)) V0 h2):= by subst h; kernel_rfl
theorem F166_r29:R166 6883 3 (upd e 3 (sI x3)) V0 hp K=
 K (w4 e 3 (sI x3) 45 (sI x3) 46 (sI ((wr (x3-1)))) 3 (sI ((wr (x3-1))))) V0 hp:= by kernel_rfl
def F166_l2 (x0a:OA) (x0n x0c:Nat) (x4:Value) (K:Kh) (I2:(Int × Int × Int × Bool × Bool)→HP→Prop) (x1 x2 x3:Int) (x10 x11:Bool) (hp:HP):Prop:=
  (ite2 (decide (((IntKind.wrap .i64 (x2-x1)):Int)≤12)) (CF Try.prog 180 [(.slice x0a x0n x0c),(.int .i64 x1),(.int .i64 x2),x4] hp fun u1 h2=>K (.tuple ⟨[]⟩) h2) (ite2 (x3==0) (CF Try.prog 181 [(.slice x0a x0n x0c),(.int .i64 x1),(.int .i64 x2),x4] hp fun u3 h4=>K (.tuple ⟨[]⟩) h4) (ite2 (!x10) (CF Try.prog 182 [(.slice x0a x0n x0c),(.int .i64 x1),(.int .i64 x2),x4] hp fun u43 h44=>F166_j3 x0a x0n x0c x1 x2 (IntKind.wrap .i64 (x3-1)) x4 x10 x11 (IntKind.wrap .i64 (x2-x1)) h44 I2 K) (F166_j3 x0a x0n x0c x1 x2 x3 x4 x10 x11 (IntKind.wrap .i64 (x2-x1)) hp I2 K))))
def F166_j1 (x0a:OA) (x0n x0c:Nat) (x1 x2 x3:Int) (x4:Value) (x10 x11:Bool) (hp:HP) (K:Kh):Prop:=
  (LoopP (σ:=Int × Int × Int × Bool × Bool) (fun I s hp=>F166_l2 x0a x0n x0c x4  K I s.1 s.2.1 s.2.2.1 s.2.2.2.1 s.2.2.2.2 hp) (x1,x2,x3,x10,x11) hp)
theorem F166_r30:R166 5 1 e V0 hp K=
 K (upd e 11 (sB true)) V0 hp:= by kernel_rfl
def F166 (x0a:OA) (x0n x0c:Nat) (x1 x2 x3:Int) (x4:Value) (hp:HP) (K:Kh):Prop:=
  (F166_j1 x0a x0n x0c x1 x2 x3 x4 true true hp  K)
noncomputable abbrev o166 (k n:Nat):Code:=.region k (opsAt Try.f166 (pth n)) false
noncomputable def F166_code:Code:=(.seq (o166 0 2) (.seq (o166 1 5) (.block 0 (.loop (.block 1 (.seq (o166 2 67) (.seq (.seq (o166 3 291) (.cond (.tmp 25) (.seq (o166 4 1187) .ret) .skip)) (.seq (.seq (o166 5 611) (.cond (.tmp 32) (.seq (o166 6 2403) .ret) .skip)) (.seq (.seq (o166 7 1251) (.cond (.tmp 39) (.seq (o166 8 4835) (o166 9 6883)) .skip)) (.seq (o166 10 1507) (.seq (.seq (o166 11 5091) (.cond (.tmp 56) (.seq (o166 12 19427) (.seq (o166 13 44003) (o166 14 60387))) .skip)) (.seq (.seq (o166 15 10211) (.cond (.tmp 75) (.seq (o166 16 38883) (.cond (.tmp 80) .ret .skip)) .skip)) (.seq (.seq (.region 17 (opsAt Try.f166 (pth 20451)) true) (.cond (.tmp 97) (.seq (o166 18 77795) (.seq (o166 19 176099) (.exit 1))) .skip)) (.seq (o166 20 24547) (.seq (o166 21 49123) (.seq (o166 22 98275) (.seq (o166 23 196579) (.seq (o166 24 393187) (.cond (.tmp 125) (.seq (o166 25 1310691) (.seq (o166 26 2883555) (o166 27 3932131))) (.seq (o166 28 1572835) (.seq (o166 29 3145699) (o166 30 4194275))))))))))))))))))))))
theorem F166_body:Try.f166.body=some F166_code:=by kernel_rfl
theorem F166_ok (x0a:OA) (x0n x0c:Nat) (x1 x2 x3:Int) (x4:Value) (hp:HP) (K:Kh) (h:F166 x0a x0n x0c x1 x2 x3 x4 hp K):CF Try.prog 166 [(.slice x0a x0n x0c),(.int .i64 x1),(.int .i64 x2),(.int .i64 x3),x4] hp K:=by
 refine .inl ⟨by kernel_rfl,AC.intro (N:=148) Try.func166 F166_body rfl (Nat.le_of_ble_eq_true rfl) ?_⟩
 unfold F166 at h
 refine Ar F166_r0 ?_ (r5 0 1 2 3 4 Rn) (z5 Sn) Sn
 refine As (fun env pv hp=>∃ x0a x0n x0c x1 x2 x3 x4 x10 x11,Sub (w7 E0 11 (sB x11) 10 (sB x10) 4 (sV x4) 3 (sI x3) 2 (sI x2) 1 (sI x1) 0 (sS x0a x0n x0c)) env∧Sub V0 pv∧F166_j1 x0a x0n x0c x1 x2 x3 x4 x10 x11 hp  K) ?_ ?_
 ·refine Ag F166_r30 ?_ (r6 0 1 2 3 4 10 Rn) (z6 Sn) Sn
  exact ⟨_,_,_,_,_,_,_,_,_,(z7 Sn),Sn,h⟩
 ·rintro env pv hp ⟨x0a,x0n,x0c,x1,x2,x3,x4,x10,x11,he,hv,h⟩
  refine Ae ?_ (r7 0 1 2 3 4 10 11 Rn) he hv
  unfold F166_j1 at h
  refine AWP.block (AWP.loop (σ:=Int × Int × Int × Bool × Bool) _ (fun s=>w7 E0 11 (sB (s.2.2.2.2)) 10 (sB (s.2.2.2.1)) 4 (sV x4) 3 (sI (s.2.2.1)) 2 (sI (s.2.1)) 1 (sI (s.1)) 0 (sS x0a x0n x0c)) (fun s=>V0) (x1,x2,x3,x10,x11) h (fun s=>r7 0 1 2 3 4 10 11 Rn) (z7 Sn) Sn ?_)
  intro I2 s hp h
  obtain ⟨x1,x2,x3,x10,x11⟩:=s
  replace h:F166_l2 x0a x0n x0c x4  K I2 x1 x2 x3 x10 x11 hp:=h
  unfold F166_l2 at h
  refine AWP.block (Ar F166_r1 ?_ (r7 1 2 0 3 4 10 11 Rn) (z7 Sn) Sn)
  refine Aq (Ar F166_r2 ?_ (r8 12 0 1 2 3 4 10 11 Rn) (z8 Sn) Sn)
  refine Ac h rfl (fun h=>?_) (fun h=>?_)
  ·refine Ar (F166_r3 rfl) ?_ (r4 0 1 2 4 Rn) (z4 Sn) Sn
   refine mC h fun u1 h2 h=>?_
   refine AWP.ret ?_
   exact h
  ·refine AWP.skip (Aq (Ar F166_r4 ?_ (r8 3 0 1 2 4 10 11 12 Rn) (z8 Sn) Sn))
   refine Ac h rfl (fun h=>?_) (fun h=>?_)
   ·refine Ar (F166_r5 rfl) ?_ (r4 0 1 2 4 Rn) (z4 Sn) Sn
    refine mC h fun u3 h4 h=>?_
    refine AWP.ret ?_
    exact h
   ·refine AWP.skip (As (fun env pv hp=>∃ x1 x2 x3 x10 x11 x12,Sub (w8 E0 12 (sI x12) 11 (sB x11) 10 (sB x10) 4 (sV x4) 3 (sI x3) 2 (sI x2) 1 (sI x1) 0 (sS x0a x0n x0c)) env∧Sub V0 pv∧F166_j3 x0a x0n x0c x1 x2 x3 x4 x10 x11 x12 hp I2 K) ?_ ?_)
    ·refine Ar F166_r27 ?_ (r8 10 0 1 2 3 4 11 12 Rn) (z8 Sn) Sn
     refine Ac h rfl (fun h=>?_) (fun h=>?_)
     ·refine Ar (F166_r28 rfl) ?_ (r8 0 1 2 4 3 10 11 12 Rn) (z8 Sn) Sn
      refine mC h fun u43 h44 h=>?_
      refine Ag F166_r29 ?_ (r8 3 0 1 2 4 10 11 12 Rn) (z8 Sn) Sn
      exact ⟨_,_,_,_,_,_,(z8 Sn),Sn,h⟩
     ·refine AWP.skip ?_
      exact ⟨_,_,_,_,_,_,(z8 Sn),Sn,h⟩
    ·rintro env pv hp ⟨x1,x2,x3,x10,x11,x12,he,hv,h⟩
     refine Ae ?_ (r8 0 1 2 3 4 10 11 12 Rn) he hv
     unfold F166_j3 at h
     refine Ar (F166_r6 rfl) ?_ (r8 0 1 2 4 3 10 11 12 Rn) (z8 Sn) Sn
     refine mC h fun u5 h6 h=>mT h fun u7 u8 h=>mI h fun i9 h=>mI h fun i10 h=>?_
     refine As (fun env pv hp=>∃ x1 x2 x3 x10 x11 x12 x13 x14,Sub (w2 (w8 E0 14 (sI x14) 13 (sI x13) 12 (sI x12) 11 (sB x11) 10 (sB x10) 4 (sV x4) 3 (sI x3) 2 (sI x2)) 1 (sI x1) 0 (sS x0a x0n x0c)) env∧Sub V0 pv∧F166_j4 x0a x0n x0c x1 x2 x3 x4 x10 x11 x12 x13 x14 hp I2 K) ?_ ?_
     ·refine Ar F166_r23 ?_ (r8 14 0 1 2 3 4 10 11 (r2 12 13 Rn)) (z2 (z8 Sn)) Sn
      refine Ac h rfl (fun h=>?_) (fun h=>?_)
      ·refine Ar (F166_r24 rfl) ?_ (r8 0 1 2 4 3 10 11 12 (r1 13 Rn)) (z1 (z8 Sn)) Sn
       refine mC h fun u41 h42 h=>?_
       refine Ar (F166_r25 rfl) ?_ (r8 1 2 13 0 3 4 10 11 (r1 12 Rn)) (z1 (z8 Sn)) Sn
       refine Ag F166_r26 ?_ (r8 0 1 2 3 4 10 11 12 (r1 13 Rn)) (z1 (z8 Sn)) Sn
       exact ⟨_,_,_,_,_,_,_,_,(z2 (z8 Sn)),Sn,h⟩
      ·refine AWP.skip ?_
       exact ⟨_,_,_,_,_,_,_,_,(z2 (z8 Sn)),Sn,h⟩
     ·rintro env pv hp ⟨x1,x2,x3,x10,x11,x12,x13,x14,he,hv,h⟩
      refine Ae ?_ (r8 0 1 2 3 4 10 11 12 (r2 13 14 Rn)) he hv
      unfold F166_j4 at h
      refine As (fun env pv hp=>∃ x1 x2 x3 x10 x11 x12 x13,Sub (upd (w8 E0 13 (sI x13) 12 (sI x12) 11 (sB x11) 10 (sB x10) 4 (sV x4) 3 (sI x3) 2 (sI x2) 1 (sI x1)) 0 (sS x0a x0n x0c)) env∧Sub V0 pv∧F166_j5 x0a x0n x0c x1 x2 x3 x4 x10 x11 x12 x13 hp I2 K) ?_ ?_
      ·refine As (fun env pv hp=>∃ x1 x2 x3 x10 x11 x12 x13 x75,Sub (w2 (w8 E0 75 (sB x75) 13 (sI x13) 12 (sI x12) 11 (sB x11) 10 (sB x10) 4 (sV x4) 3 (sI x3) 2 (sI x2)) 1 (sI x1) 0 (sS x0a x0n x0c)) env∧Sub V0 pv∧F166_j7 x0a x0n x0c x1 x2 x3 x4 x10 x11 x12 x13 x75 hp I2 K) ?_ ?_
       ·refine Ag (F166_r22 rfl) ?_ (r8 10 11 14 0 1 2 3 4 (r2 12 13 Rn)) (z2 (z8 Sn)) Sn
        refine mt h (fun h=>?_) (fun h=>?_)
        ·refine mt h (fun h=>?_) (fun h=>?_)
         ·exact ⟨_,_,_,_,_,_,_,_,(z2 (z8 Sn)),Sn,h⟩
         ·exact ⟨_,_,_,_,_,_,_,_,(z2 (z8 Sn)),Sn,h⟩
        ·exact ⟨_,_,_,_,_,_,_,_,(z2 (z8 Sn)),Sn,h⟩
       ·rintro env pv hp ⟨x1,x2,x3,x10,x11,x12,x13,x75,he,hv,h⟩
        refine Ae ?_ (r8 0 1 2 3 4 10 11 12 (r2 13 75 Rn)) he hv
        unfold F166_j7 at h
        refine Ac h rfl (fun h=>?_) (fun h=>?_)
        ·refine Ar (F166_r21 rfl) ?_ (r8 0 1 2 4 3 10 11 12 (r1 13 Rn)) (z1 (z8 Sn)) Sn
         refine mC h fun u38 h39 h=>mB h fun q40 h=>?_
         refine Ac h rfl (fun h=>?_) (fun h=>?_)
         ·refine AWP.ret ?_
          exact h
         ·refine AWP.skip ?_
          exact ⟨_,_,_,_,_,_,_,(z1 (z8 Sn)),Sn,h⟩
        ·refine AWP.skip ?_
         exact ⟨_,_,_,_,_,_,_,(z1 (z8 Sn)),Sn,h⟩
      ·rintro env pv hp ⟨x1,x2,x3,x10,x11,x12,x13,he,hv,h⟩
       refine Ae ?_ (r8 0 1 2 3 4 10 11 12 (r1 13 Rn)) he hv
       unfold F166_j5 at h
       refine Aq (As (fun env pv hp=>∃ x1 x2 x3 x10 x11 x12 x13 x97,Sub (w2 (w8 E0 97 (sB x97) 13 (sI x13) 12 (sI x12) 11 (sB x11) 10 (sB x10) 4 (sV x4) 3 (sI x3) 2 (sI x2)) 1 (sI x1) 0 (sS x0a x0n x0c)) env∧Sub V0 pv∧F166_j6 x0a x0n x0c x1 x2 x3 x4 x10 x11 x12 x13 x97 hp I2 K) ?_ ?_)
       ·refine AWP.rgnD (by kernel_rfl) (by kernel_rfl) (F166_r20 rfl) ?_ (r8 0 1 4 13 2 3 10 11 (r1 12 Rn)) (z1 (z8 Sn)) Sn
        refine mt h (fun h=>?_) (fun h=>?_)
        ·refine ⟨h.1,h.2.1,mN h.2.2 (fun b24 o25 h=>mV h (fun v26 h=>ms h (fun s27 h=>⟨h.1,h.2.1,mN h.2.2 fun b28 o29 h=>mV h fun v30 h=>ms h fun s31 h=>mF h fun f32 ga_33 gb_34 h=>mC h fun u35 h36 h=>mI h fun i37 h=>?_⟩)))⟩
         exact ⟨_,_,_,_,_,_,_,_,(z2 (z8 Sn)),Sn,h⟩
        ·exact ⟨_,_,_,_,_,_,_,_,(z2 (z8 Sn)),Sn,h⟩
       ·rintro env pv hp ⟨x1,x2,x3,x10,x11,x12,x13,x97,he,hv,h⟩
        refine Ae ?_ (r8 0 1 2 3 4 10 11 12 (r2 13 97 Rn)) he hv
        unfold F166_j6 at h
        refine Ac h rfl (fun h=>?_) (fun h=>?_)
        ·refine Ar (F166_r7 rfl) ?_ (r8 0 1 2 4 13 3 10 11 Rn) (z8 Sn) Sn
         refine mC h fun u11 h12 h=>mI h fun i13 h=>?_
         refine Ar F166_r8 ?_ (r7 15 0 2 3 4 10 11 Rn) (z7 Sn) Sn
         refine AWP.exit ?_
         exact ⟨_,(z7 Sn),Sn,h⟩
        ·refine AWP.skip (Ar (F166_r9 rfl) ?_ (r7 0 1 2 4 13 3 12 Rn) (z7 Sn) Sn)
         refine mC h fun u14 h15 h=>mT h fun u16 u17 h=>mI h fun i18 h=>mB h fun q19 h=>?_
         refine Ar F166_r10 ?_ (r8 17 0 1 2 3 4 12 16 Rn) (z8 Sn) Sn
         refine Ar (F166_r11 rfl) ?_ (r8 1 2 16 0 3 4 11 12 Rn) (z8 Sn) Sn
         refine Ar F166_r12 ?_ (r8 12 0 1 2 3 4 11 16 (r2 18 19 Rn)) (z2 (z8 Sn)) Sn
         refine ⟨h.1,?_⟩
         replace h:=h.2
         refine Ar F166_r13 ?_ (r8 18 19 0 1 2 3 4 11 (r2 16 20 Rn)) (z2 (z8 Sn)) Sn
         refine Ac h rfl (fun h=>?_) (fun h=>?_)
         ·refine Ar F166_r14 ?_ (r8 18 20 0 1 2 3 4 11 (r1 16 Rn)) (z1 (z8 Sn)) Sn
          refine Ar (F166_r15 rfl) ?_ (r8 0 1 3 4 16 2 10 11 Rn) (z8 Sn) Sn
          refine mC h fun u20 h21 h=>?_
          refine Ag F166_r16 ?_ (r7 16 0 2 3 4 10 11 Rn) (z7 Sn) Sn
          exact ⟨_,(z7 Sn),Sn,h⟩
         ·refine Ar F166_r17 ?_ (r8 19 20 0 1 2 3 4 11 (r1 16 Rn)) (z1 (z8 Sn)) Sn
          refine Ar (F166_r18 rfl) ?_ (r8 0 2 3 4 16 1 10 11 Rn) (z8 Sn) Sn
          refine mC h fun u22 h23 h=>?_
          refine Ag F166_r19 ?_ (r7 16 0 1 3 4 10 11 Rn) (z7 Sn) Sn
          exact ⟨_,(z7 Sn),Sn,h⟩
end
section
variable {e E:Env} {x0a:OA} {x0n x0c:Nat} {x1:Value} {x4:Int} {hp:HP} {K:Env→PV→HP→Prop}
abbrev R137 (p n:Nat):=RW Try.prog 14 [] (opsAt Try.f137 (pth p)) (List.range n)
theorem F137_r0:R137 2 3 (upd e 0 (sS x0a x0n x0c)) V0 hp K=
 K (w4 e 0 (sS x0a x0n x0c) 5 (sS x0a x0n x0c) 6 (sI ((x0n:Nat))) 4 (sI ((x0n:Nat)))) V0 hp:= by kernel_rfl
theorem F137_r1 (h:E=upd (w2 e 4 (sI x4) 1 (sV x1)) 0 (sS x0a x0n x0c)):R137 3 7 E V0 hp K=
 CF Try.prog 129 [(.int .u64 (IntKind.wrap .u64 (x4)))] hp fun u1 h2=>(intV u1 .i64 fun i3=>CF Try.prog 166 [(.slice x0a x0n x0c),.int .i64 0,(.int .i64 x4),(.int .i64 i3),x1] h2 fun u4 h5=>K (w7 E 7 (sS x0a x0n x0c) 8 (sI x4) 9 (sI x4) 10 (sV (.int .u64 (IntKind.wrap .u64 (x4)))) 11 (sI i3) 12 (sV x1) 13 (sV u4)) V0 h5):= by subst h; kernel_rfl
def F137 (x0a:OA) (x0n x0c:Nat) (x1:Value) (hp:HP) (K:Kh):Prop:=
  (CF Try.prog 129 [(.int .u64 (IntKind.wrap .u64 ((x0n:Nat))))] hp fun u1 h2=>intV u1 .i64 fun i3=>CF Try.prog 166 [(.slice x0a x0n x0c),.int .i64 0,(.int .i64 (x0n:Nat)),(.int .i64 i3),x1] h2 fun u4 h5=>K (.tuple ⟨[]⟩) h5)
noncomputable def F137_code:Code:=(.seq (.region 0 (opsAt Try.f137 (pth 2)) false) (.region 1 (opsAt Try.f137 (pth 3)) false))
theorem F137_body:Try.f137.body=some F137_code:=by kernel_rfl
theorem F137_ok (x0a:OA) (x0n x0c:Nat) (x1:Value) (hp:HP) (K:Kh) (h:F137 x0a x0n x0c x1 hp K):CF Try.prog 137 [(.slice x0a x0n x0c),x1] hp K:=by
 refine .inl ⟨by kernel_rfl,AC.intro (N:=14) Try.func137 F137_body rfl (Nat.le_of_ble_eq_true rfl) ?_⟩
 unfold F137 at h
 refine Ar F137_r0 ?_ (r2 0 1 Rn) (z2 Sn) Sn
 refine Ag (F137_r1 rfl) ?_ (r3 0 1 4 Rn) (z3 Sn) Sn
 refine mC h fun u1 h2 h=>mI h fun i3 h=>mC h fun u4 h5 h=>?_
 exact h
end
end Go.Proofs
set_option linter.unusedVariables false
set_option maxRecDepth 20000
namespace Go.Proofs
open Go Go.HL
section
variable {e:Env} {x0:OA} {hp:HP} {K:Env→PV→HP→Prop}
abbrev R173 (p n:Nat):=RW Try.prog 33 [] (opsAt Try.f173 (pth p)) (List.range n)
theorem F173_r0:R173 2 1 e V0 hp K=
 K (upd e 2 (sV (.int .u64 0))) V0 hp:= by kernel_rfl
theorem F173_r1:R173 5 10 (upd e 0 (sP x0)) V0 hp K=
    (ptrN x0 fun b1 o2=>ldV (HP.cell hp b1 o2) fun v3=>intV v3 .u64 fun i4=>ptrN x0 fun b5 o6=>ldV (HP.cell hp b5 o6) fun v7=>intV v7 .u64 fun i8=>(0≤(13:Int))∧(ptrN x0 fun b9 o10=>HP.st hp b9 o10 (.int .u64 (bxor .u64 i4 (IntKind.wrap .u64 (i8*2 ^ (min (Int.toNat 13) (IntKind.bits .u64)))))) fun h11=>K (w2 (w8 e 0 (sP x0) 3 (sP x0) 4 (sQ b1 o2) 5 (sV (.int .u64 i4)) 6 (sP x0) 7 (sQ b5 o6) 8 (sV (.int .u64 i8)) 9 (sV (.int .u64 (IntKind.wrap .u64 (i8*2 ^ (min (Int.toNat 13) (IntKind.bits .u64))))))) 10 (sV (.int .u64 (bxor .u64 i4 (IntKind.wrap .u64 (i8*2 ^ (min (Int.toNat 13) (IntKind.bits .u64))))))) 11 (sQ b9 o10)) V0 h11)):=by kernel_rfl
theorem F173_r2:R173 11 10 (upd e 0 (sP x0)) V0 hp K=
    (ptrN x0 fun b1 o2=>ldV (HP.cell hp b1 o2) fun v3=>intV v3 .u64 fun i4=>ptrN x0 fun b5 o6=>ldV (HP.cell hp b5 o6) fun v7=>intV v7 .u64 fun i8=>(0≤(7:Int))∧(ptrN x0 fun b9 o10=>HP.st hp b9 o10 (.int .u64 (bxor .u64 i4 (Int.fdiv i8 (2 ^ (min (Int.toNat 7) (IntKind.bits .u64)))))) fun h11=>K (w2 (w8 e 0 (sP x0) 12 (sP x0) 13 (sQ b1 o2) 14 (sV (.int .u64 i4)) 15 (sP x0) 16 (sQ b5 o6) 17 (sV (.int .u64 i8)) 18 (sV (.int .u64 (Int.fdiv i8 (2 ^ (min (Int.toNat 7) (IntKind.bits .u64))))))) 19 (sV (.int .u64 (bxor .u64 i4 (Int.fdiv i8 (2 ^ (min (Int.toNat 7) (IntKind.bits .u64))))))) 20 (sQ b9 o10)) V0 h11)):=by kernel_rfl
theorem F173_r3:R173 23 10 (upd e 0 (sP x0)) V0 hp K=
    (ptrN x0 fun b1 o2=>ldV (HP.cell hp b1 o2) fun v3=>intV v3 .u64 fun i4=>ptrN x0 fun b5 o6=>ldV (HP.cell hp b5 o6) fun v7=>intV v7 .u64 fun i8=>(0≤(17:Int))∧(ptrN x0 fun b9 o10=>HP.st hp b9 o10 (.int .u64 (bxor .u64 i4 (IntKind.wrap .u64 (i8*2 ^ (min (Int.toNat 17) (IntKind.bits .u64)))))) fun h11=>K (w2 (w8 e 0 (sP x0) 21 (sP x0) 22 (sQ b1 o2) 23 (sV (.int .u64 i4)) 24 (sP x0) 25 (sQ b5 o6) 26 (sV (.int .u64 i8)) 27 (sV (.int .u64 (IntKind.wrap .u64 (i8*2 ^ (min (Int.toNat 17) (IntKind.bits .u64))))))) 28 (sV (.int .u64 (bxor .u64 i4 (IntKind.wrap .u64 (i8*2 ^ (min (Int.toNat 17) (IntKind.bits .u64))))))) 29 (sQ b9 o10)) V0 h11)):=by kernel_rfl
theorem F173_r4:R173 47 4 (upd e 0 (sP x0)) V0 hp K=
 ptrN x0 fun b1 o2=>(ldV (HP.cell hp b1 o2) fun v3=>intV v3 .u64 fun i4=>K (w5 e 0 (sP x0) 30 (sP x0) 31 (sQ b1 o2) 32 (sV (.int .u64 i4)) 2 (sV (.int .u64 i4))) V0 hp):= by kernel_rfl
def F173 (x0:OA) (hp:HP) (K:Kh):Prop:=
  (ptrN x0 fun b1 o2=>ldV (HP.cell hp b1 o2) fun v3=>intV v3 .u64 fun i4=>ptrN x0 fun b5 o6=>ldV (HP.cell hp b5 o6) fun v7=>intV v7 .u64 fun i8=>(0≤(13:Int))∧(ptrN x0 fun b9 o10=>HP.st hp b9 o10 (.int .u64 (bxor .u64 i4 (IntKind.wrap .u64 (i8*2 ^ (min (Int.toNat 13) (IntKind.bits .u64)))))) fun h11=>ptrN x0 fun b12 o13=>ldV (HP.cell h11 b12 o13) fun v14=>intV v14 .u64 fun i15=>ptrN x0 fun b16 o17=>ldV (HP.cell h11 b16 o17) fun v18=>intV v18 .u64 fun i19=>(0≤(7:Int))∧(ptrN x0 fun b20 o21=>HP.st h11 b20 o21 (.int .u64 (bxor .u64 i15 (Int.fdiv i19 (2 ^ (min (Int.toNat 7) (IntKind.bits .u64)))))) fun h22=>ptrN x0 fun b23 o24=>ldV (HP.cell h22 b23 o24) fun v25=>intV v25 .u64 fun i26=>ptrN x0 fun b27 o28=>ldV (HP.cell h22 b27 o28) fun v29=>intV v29 .u64 fun i30=>(0≤(17:Int))∧(ptrN x0 fun b31 o32=>HP.st h22 b31 o32 (.int .u64 (bxor .u64 i26 (IntKind.wrap .u64 (i30*2 ^ (min (Int.toNat 17) (IntKind.bits .u64)))))) fun h33=>ptrN x0 fun b34 o35=>ldV (HP.cell h33 b34 o35) fun v36=>intV v36 .u64 fun i37=>K (.int .u64 i37) h33))))
noncomputable def F173_code:Code:=(.seq (.region 0 (opsAt Try.f173 (pth 2)) false) (.seq (.region 1 (opsAt Try.f173 (pth 5)) true) (.seq (.region 2 (opsAt Try.f173 (pth 11)) true) (.seq (.region 3 (opsAt Try.f173 (pth 23)) true) (.seq (.region 4 (opsAt Try.f173 (pth 47)) false) .ret)))))
theorem F173_body:Try.f173.body=some F173_code:=by kernel_rfl
theorem F173_ok (x0:OA) (hp:HP) (K:Kh) (h:F173 x0 hp K):CF Try.prog 173 [(.pointer x0)] hp K:=by
 refine .inl ⟨by kernel_rfl,AC.intro (N:=33) Try.func173 F173_body rfl (Nat.le_of_ble_eq_true rfl) ?_⟩
 unfold F173 at h
 refine Ar F173_r0 ?_ (r1 0 Rn) (z1 Sn) Sn
 refine Aq (AWP.rgnD (by kernel_rfl) (by kernel_rfl) F173_r1 ?_ (r1 0 Rn) (z1 Sn) Sn)
 refine mN h (fun b1 o2 h=>mV h (fun v3 h=>mI h (fun i4 h=>mN h (fun b5 o6 h=>mV h (fun v7 h=>mI h (fun i8 h=>⟨h.1,mN h.2 fun b9 o10 h=>mw h fun h11 h=>?_⟩))))))
 refine Aq (AWP.rgnD (by kernel_rfl) (by kernel_rfl) F173_r2 ?_ (r1 0 Rn) (z1 Sn) Sn)
 refine mN h (fun b12 o13 h=>mV h (fun v14 h=>mI h (fun i15 h=>mN h (fun b16 o17 h=>mV h (fun v18 h=>mI h (fun i19 h=>⟨h.1,mN h.2 fun b20 o21 h=>mw h fun h22 h=>?_⟩))))))
 refine Aq (AWP.rgnD (by kernel_rfl) (by kernel_rfl) F173_r3 ?_ (r1 0 Rn) (z1 Sn) Sn)
 refine mN h (fun b23 o24 h=>mV h (fun v25 h=>mI h (fun i26 h=>mN h (fun b27 o28 h=>mV h (fun v29 h=>mI h (fun i30 h=>⟨h.1,mN h.2 fun b31 o32 h=>mw h fun h33 h=>?_⟩))))))
 refine Ar F173_r4 ?_ (r1 0 Rn) (z1 Sn) Sn
 refine mN h fun b34 o35 h=>mV h fun v36 h=>mI h fun i37 h=>?_
 refine AWP.ret ?_
 exact h
end
section
variable {e:Env} {x0:Int} {hp:HP} {K:Env→PV→HP→Prop}
abbrev R172 (p n:Nat):=RW Try.prog 7 [] (opsAt Try.f172 (pth p)) (List.range n)
theorem F172_r0:R172 2 1 e V0 hp K=
 K (upd e 2 (sV (.int .u64 0))) V0 hp:= by kernel_rfl
theorem F172_r1:R172 5 5 (upd e 0 (sI x0)) V0 hp K=
    (CF Try.prog 129 [(.int .u64 (IntKind.wrap .u64 (x0)))] hp fun u1 h2=>intV u1 .i64 fun i3=>(0≤i3)∧(K (w6 e 0 (sI x0) 3 (sI x0) 4 (sV (.int .u64 (IntKind.wrap .u64 (x0)))) 5 (sI i3) 6 (sV (.int .u64 (IntKind.wrap .u64 (1*2 ^ (min (Int.toNat i3) (IntKind.bits .u64)))))) 2 (sV (.int .u64 (IntKind.wrap .u64 (1*2 ^ (min (Int.toNat i3) (IntKind.bits .u64))))))) V0 h2)):=by kernel_rfl
def F172 (x0:Int) (hp:HP) (K:Kh):Prop:=
  (CF Try.prog 129 [(.int .u64 (IntKind.wrap .u64 (x0)))] hp fun u1 h2=>intV u1 .i64 fun i3=>(0≤i3)∧(K (.int .u64 (IntKind.wrap .u64 (1*2 ^ (min (Int.toNat i3) (IntKind.bits .u64))))) h2))
noncomputable def F172_code:Code:=(.seq (.region 0 (opsAt Try.f172 (pth 2)) false) (.seq (.region 1 (opsAt Try.f172 (pth 5)) false) .ret))
theorem F172_body:Try.f172.body=some F172_code:=by kernel_rfl
theorem F172_ok (x0:Int) (hp:HP) (K:Kh) (h:F172 x0 hp K):CF Try.prog 172 [(.int .i64 x0)] hp K:=by
 refine .inl ⟨by kernel_rfl,AC.intro (N:=7) Try.func172 F172_body rfl (Nat.le_of_ble_eq_true rfl) ?_⟩
 unfold F172 at h
 refine Ar F172_r0 ?_ (r1 0 Rn) (z1 Sn) Sn
 refine Ar F172_r1 ?_ (r1 0 Rn) (z1 Sn) Sn
 refine mC h (fun u1 h2 h=>mI h (fun i3 h=>⟨h.1,?_⟩))
 replace h:=h.2
 refine AWP.ret ?_
 exact h
end
section
variable {e:Env} {x0:Int} {hp:HP} {K:Env→PV→HP→Prop}
abbrev R129 (p n:Nat):=RW Try.prog 8 [] (opsAt Try.f129 (pth p)) (List.range n)
theorem F129_r0:R129 2 1 e V0 hp K=
 K (upd e 2 (sI 0)) V0 hp:= by kernel_rfl
theorem F129_r1:R129 11 3 (upd e 0 (sV (.int .u64 x0))) V0 hp K=
 CF Try.prog 155 [(.int .u64 x0)] hp fun u1 h2=>(intV u1 .i64 fun i3=>K (w4 e 0 (sV (.int .u64 x0)) 6 (sV (.int .u64 x0)) 7 (sI i3) 2 (sI i3)) V0 h2):= by kernel_rfl
def F129 (x0:Int) (hp:HP) (K:Kh):Prop:=
  (CF Try.prog 155 [(.int .u64 x0)] hp fun u1 h2=>intV u1 .i64 fun i3=>K (.int .i64 i3) h2)
noncomputable def F129_code:Code:=(.seq (.region 0 (opsAt Try.f129 (pth 2)) false) (.seq (.cond (.const (.bool false)) (.seq (.region 1 (opsAt Try.f129 (pth 17)) false) .ret) .skip) (.seq (.region 2 (opsAt Try.f129 (pth 11)) false) .ret)))
theorem F129_body:Try.f129.body=some F129_code:=by kernel_rfl
theorem F129_ok (x0:Int) (hp:HP) (K:Kh) (h:F129 x0 hp K):CF Try.prog 129 [(.int .u64 x0)] hp K:=by
 refine .inl ⟨by kernel_rfl,AC.intro (N:=8) Try.func129 F129_body rfl (Nat.le_of_ble_eq_true rfl) ?_⟩
 unfold F129 at h
 refine Ar F129_r0 ?_ (r1 0 Rn) (z1 Sn) Sn
 refine Aq (AWP.condK ?_)
 refine AWP.skip (Ar F129_r1 ?_ (r1 0 Rn) (z1 Sn) Sn)
 refine mC h fun u1 h2 h=>mI h fun i3 h=>?_
 refine AWP.ret ?_
 exact h
end
section
variable {e:Env} {x0 x2:Int} {hp:HP} {K:Env→PV→HP→Prop}
abbrev R155 (p n:Nat):=RW Try.prog 25 [] (opsAt Try.f155 (pth p)) (List.range n)
theorem F155_r0:R155 2 1 e V0 hp K=
 K (upd e 2 (sI 0)) V0 hp:= by kernel_rfl
theorem F155_r1:R155 47 7 (w2 e 2 (sI x2) 0 (sV (.int .u64 x0))) V0 hp K=
    ((0≤((IntKind.wrap .u8 (x0)):Int))∧(((IntKind.wrap .u8 (x0)):Int)<(ByteArray.size (⟨#[0,1,2,2,3,3,3,3,4,4,4,4,4,4,4,4,5,5,5,5,5,5,5,5,5,5,5,5,5,5,5,5,6,6,6,6,6,6,6,6,6,6,6,6,6,6,6,6,6,6,6,6,6,6,6,6,6,6,6,6,6,6,6,6,7,7,7,7,7,7,7,7,7,7,7,7,7,7,7,7,7,7,7,7,7,7,7,7,7,7,7,7,7,7,7,7,7,7,7,7,7,7,7,7,7,7,7,7,7,7,7,7,7,7,7,7,7,7,7,7,7,7,7,7,7,7,7,7,8,8,8,8,8,8,8,8,8,8,8,8,8,8,8,8,8,8,8,8,8,8,8,8,8,8,8,8,8,8,8,8,8,8,8,8,8,8,8,8,8,8,8,8,8,8,8,8,8,8,8,8,8,8,8,8,8,8,8,8,8,8,8,8,8,8,8,8,8,8,8,8,8,8,8,8,8,8,8,8,8,8,8,8,8,8,8,8,8,8,8,8,8,8,8,8,8,8,8,8,8,8,8,8,8,8,8,8,8,8,8,8,8,8,8,8,8,8,8,8,8,8,8,8,8,8,8,8]⟩:ByteArray):Nat))∧(K (upd (w8 e 2 (sI x2) 0 (sV (.int .u64 x0)) 19 (sI x2) 20 (sV (.int .u64 x0)) 21 (sV (.int .u8 (IntKind.wrap .u8 (x0)))) 22 (sV (.int .u8 (bt (⟨#[0,1,2,2,3,3,3,3,4,4,4,4,4,4,4,4,5,5,5,5,5,5,5,5,5,5,5,5,5,5,5,5,6,6,6,6,6,6,6,6,6,6,6,6,6,6,6,6,6,6,6,6,6,6,6,6,6,6,6,6,6,6,6,6,7,7,7,7,7,7,7,7,7,7,7,7,7,7,7,7,7,7,7,7,7,7,7,7,7,7,7,7,7,7,7,7,7,7,7,7,7,7,7,7,7,7,7,7,7,7,7,7,7,7,7,7,7,7,7,7,7,7,7,7,7,7,7,7,8,8,8,8,8,8,8,8,8,8,8,8,8,8,8,8,8,8,8,8,8,8,8,8,8,8,8,8,8,8,8,8,8,8,8,8,8,8,8,8,8,8,8,8,8,8,8,8,8,8,8,8,8,8,8,8,8,8,8,8,8,8,8,8,8,8,8,8,8,8,8,8,8,8,8,8,8,8,8,8,8,8,8,8,8,8,8,8,8,8,8,8,8,8,8,8,8,8,8,8,8,8,8,8,8,8,8,8,8,8,8,8,8,8,8,8,8,8,8,8,8,8,8,8,8,8,8,8]⟩:ByteArray) (IntKind.wrap .u8 (x0))))) 23 (sI ((wr ((bt (⟨#[0,1,2,2,3,3,3,3,4,4,4,4,4,4,4,4,5,5,5,5,5,5,5,5,5,5,5,5,5,5,5,5,6,6,6,6,6,6,6,6,6,6,6,6,6,6,6,6,6,6,6,6,6,6,6,6,6,6,6,6,6,6,6,6,7,7,7,7,7,7,7,7,7,7,7,7,7,7,7,7,7,7,7,7,7,7,7,7,7,7,7,7,7,7,7,7,7,7,7,7,7,7,7,7,7,7,7,7,7,7,7,7,7,7,7,7,7,7,7,7,7,7,7,7,7,7,7,7,8,8,8,8,8,8,8,8,8,8,8,8,8,8,8,8,8,8,8,8,8,8,8,8,8,8,8,8,8,8,8,8,8,8,8,8,8,8,8,8,8,8,8,8,8,8,8,8,8,8,8,8,8,8,8,8,8,8,8,8,8,8,8,8,8,8,8,8,8,8,8,8,8,8,8,8,8,8,8,8,8,8,8,8,8,8,8,8,8,8,8,8,8,8,8,8,8,8,8,8,8,8,8,8,8,8,8,8,8,8,8,8,8,8,8,8,8,8,8,8,8,8,8,8,8,8,8,8]⟩:ByteArray) (IntKind.wrap .u8 (x0))))))) 24 (sI ((wr (x2+(wr ((bt (⟨#[0,1,2,2,3,3,3,3,4,4,4,4,4,4,4,4,5,5,5,5,5,5,5,5,5,5,5,5,5,5,5,5,6,6,6,6,6,6,6,6,6,6,6,6,6,6,6,6,6,6,6,6,6,6,6,6,6,6,6,6,6,6,6,6,7,7,7,7,7,7,7,7,7,7,7,7,7,7,7,7,7,7,7,7,7,7,7,7,7,7,7,7,7,7,7,7,7,7,7,7,7,7,7,7,7,7,7,7,7,7,7,7,7,7,7,7,7,7,7,7,7,7,7,7,7,7,7,7,8,8,8,8,8,8,8,8,8,8,8,8,8,8,8,8,8,8,8,8,8,8,8,8,8,8,8,8,8,8,8,8,8,8,8,8,8,8,8,8,8,8,8,8,8,8,8,8,8,8,8,8,8,8,8,8,8,8,8,8,8,8,8,8,8,8,8,8,8,8,8,8,8,8,8,8,8,8,8,8,8,8,8,8,8,8,8,8,8,8,8,8,8,8,8,8,8,8,8,8,8,8,8,8,8,8,8,8,8,8,8,8,8,8,8,8,8,8,8,8,8,8,8,8,8,8,8,8]⟩:ByteArray) (IntKind.wrap .u8 (x0)))))))))) 2 (sI ((wr (x2+(wr ((bt (⟨#[0,1,2,2,3,3,3,3,4,4,4,4,4,4,4,4,5,5,5,5,5,5,5,5,5,5,5,5,5,5,5,5,6,6,6,6,6,6,6,6,6,6,6,6,6,6,6,6,6,6,6,6,6,6,6,6,6,6,6,6,6,6,6,6,7,7,7,7,7,7,7,7,7,7,7,7,7,7,7,7,7,7,7,7,7,7,7,7,7,7,7,7,7,7,7,7,7,7,7,7,7,7,7,7,7,7,7,7,7,7,7,7,7,7,7,7,7,7,7,7,7,7,7,7,7,7,7,7,8,8,8,8,8,8,8,8,8,8,8,8,8,8,8,8,8,8,8,8,8,8,8,8,8,8,8,8,8,8,8,8,8,8,8,8,8,8,8,8,8,8,8,8,8,8,8,8,8,8,8,8,8,8,8,8,8,8,8,8,8,8,8,8,8,8,8,8,8,8,8,8,8,8,8,8,8,8,8,8,8,8,8,8,8,8,8,8,8,8,8,8,8,8,8,8,8,8,8,8,8,8,8,8,8,8,8,8,8,8,8,8,8,8,8,8,8,8,8,8,8,8,8,8,8,8,8,8]⟩:ByteArray) (IntKind.wrap .u8 (x0)))))))))) V0 hp)):=by kernel_rfl
def F155_j3 (x0 x2:Int) (hp:HP) (K:Kh):Prop:=
  ((0≤((IntKind.wrap .u8 (x0)):Int))∧(((IntKind.wrap .u8 (x0)):Int)<(ByteArray.size (⟨#[0,1,2,2,3,3,3,3,4,4,4,4,4,4,4,4,5,5,5,5,5,5,5,5,5,5,5,5,5,5,5,5,6,6,6,6,6,6,6,6,6,6,6,6,6,6,6,6,6,6,6,6,6,6,6,6,6,6,6,6,6,6,6,6,7,7,7,7,7,7,7,7,7,7,7,7,7,7,7,7,7,7,7,7,7,7,7,7,7,7,7,7,7,7,7,7,7,7,7,7,7,7,7,7,7,7,7,7,7,7,7,7,7,7,7,7,7,7,7,7,7,7,7,7,7,7,7,7,8,8,8,8,8,8,8,8,8,8,8,8,8,8,8,8,8,8,8,8,8,8,8,8,8,8,8,8,8,8,8,8,8,8,8,8,8,8,8,8,8,8,8,8,8,8,8,8,8,8,8,8,8,8,8,8,8,8,8,8,8,8,8,8,8,8,8,8,8,8,8,8,8,8,8,8,8,8,8,8,8,8,8,8,8,8,8,8,8,8,8,8,8,8,8,8,8,8,8,8,8,8,8,8,8,8,8,8,8,8,8,8,8,8,8,8,8,8,8,8,8,8,8,8,8,8,8,8]⟩:ByteArray):Nat))∧(K (.int .i64 (IntKind.wrap .i64 (x2+(IntKind.wrap .i64 ((bt (⟨#[0,1,2,2,3,3,3,3,4,4,4,4,4,4,4,4,5,5,5,5,5,5,5,5,5,5,5,5,5,5,5,5,6,6,6,6,6,6,6,6,6,6,6,6,6,6,6,6,6,6,6,6,6,6,6,6,6,6,6,6,6,6,6,6,7,7,7,7,7,7,7,7,7,7,7,7,7,7,7,7,7,7,7,7,7,7,7,7,7,7,7,7,7,7,7,7,7,7,7,7,7,7,7,7,7,7,7,7,7,7,7,7,7,7,7,7,7,7,7,7,7,7,7,7,7,7,7,7,8,8,8,8,8,8,8,8,8,8,8,8,8,8,8,8,8,8,8,8,8,8,8,8,8,8,8,8,8,8,8,8,8,8,8,8,8,8,8,8,8,8,8,8,8,8,8,8,8,8,8,8,8,8,8,8,8,8,8,8,8,8,8,8,8,8,8,8,8,8,8,8,8,8,8,8,8,8,8,8,8,8,8,8,8,8,8,8,8,8,8,8,8,8,8,8,8,8,8,8,8,8,8,8,8,8,8,8,8,8,8,8,8,8,8,8,8,8,8,8,8,8,8,8,8,8,8,8]⟩:ByteArray) (IntKind.wrap .u8 (x0)))))))) hp))
theorem F155_r2:R155 39 2 (upd e 0 (sV (.int .u64 x0))) V0 hp K=
 K (w3 e 0 (sV (.int .u64 x0)) 13 (sV (.int .u64 x0)) 14 (sB (decide (x0≥256)))) V0 hp:= by kernel_rfl
theorem F155_r3:R155 151 3 (upd e 0 (sV (.int .u64 x0))) V0 hp K=
    ((0≤(8:Int))∧(K (w4 e 0 (sV (.int .u64 x0)) 15 (sV (.int .u64 x0)) 16 (sV (.int .u64 (Int.fdiv x0 (2 ^ (min (Int.toNat 8) (IntKind.bits .u64)))))) 0 (sV (.int .u64 (Int.fdiv x0 (2 ^ (min (Int.toNat 8) (IntKind.bits .u64))))))) V0 hp)):=by kernel_rfl
theorem F155_r4:R155 215 3 (upd e 2 (sI x2)) V0 hp K=
 K (w4 e 2 (sI x2) 17 (sI x2) 18 (sI ((wr (x2+8)))) 2 (sI ((wr (x2+8))))) V0 hp:= by kernel_rfl
def F155_j2 (x0 x2:Int) (hp:HP) (K:Kh):Prop:=
  (ite2 (decide (x0≥256)) ((0≤(8:Int))∧(F155_j3 (Int.fdiv x0 (2 ^ (min (Int.toNat 8) (IntKind.bits .u64)))) (IntKind.wrap .i64 (x2+8)) hp  K)) (F155_j3 x0 x2 hp  K))
theorem F155_r5:R155 19 2 (upd e 0 (sV (.int .u64 x0))) V0 hp K=
 K (w3 e 0 (sV (.int .u64 x0)) 7 (sV (.int .u64 x0)) 8 (sB (decide (x0≥65536)))) V0 hp:= by kernel_rfl
theorem F155_r6:R155 75 3 (upd e 0 (sV (.int .u64 x0))) V0 hp K=
    ((0≤(16:Int))∧(K (w4 e 0 (sV (.int .u64 x0)) 9 (sV (.int .u64 x0)) 10 (sV (.int .u64 (Int.fdiv x0 (2 ^ (min (Int.toNat 16) (IntKind.bits .u64)))))) 0 (sV (.int .u64 (Int.fdiv x0 (2 ^ (min (Int.toNat 16) (IntKind.bits .u64))))))) V0 hp)):=by kernel_rfl
theorem F155_r7:R155 107 3 (upd e 2 (sI x2)) V0 hp K=
 K (w4 e 2 (sI x2) 11 (sI x2) 12 (sI ((wr (x2+16)))) 2 (sI ((wr (x2+16))))) V0 hp:= by kernel_rfl
def F155_j1 (x0 x2:Int) (hp:HP) (K:Kh):Prop:=
  (ite2 (decide (x0≥65536)) ((0≤(16:Int))∧(F155_j2 (Int.fdiv x0 (2 ^ (min (Int.toNat 16) (IntKind.bits .u64)))) (IntKind.wrap .i64 (x2+16)) hp  K)) (F155_j2 x0 x2 hp  K))
theorem F155_r8:R155 9 2 (upd e 0 (sV (.int .u64 x0))) V0 hp K=
 K (w3 e 0 (sV (.int .u64 x0)) 3 (sV (.int .u64 x0)) 4 (sB (decide (x0≥4294967296)))) V0 hp:= by kernel_rfl
theorem F155_r9:R155 37 3 (upd e 0 (sV (.int .u64 x0))) V0 hp K=
    ((0≤(32:Int))∧(K (w4 e 0 (sV (.int .u64 x0)) 5 (sV (.int .u64 x0)) 6 (sV (.int .u64 (Int.fdiv x0 (2 ^ (min (Int.toNat 32) (IntKind.bits .u64)))))) 0 (sV (.int .u64 (Int.fdiv x0 (2 ^ (min (Int.toNat 32) (IntKind.bits .u64))))))) V0 hp)):=by kernel_rfl
theorem F155_r10:R155 53 1 e V0 hp K=
 K (upd e 2 (sI 32)) V0 hp:= by kernel_rfl
def F155 (x0:Int) (hp:HP) (K:Kh):Prop:=
  (ite2 (decide (x0≥4294967296)) ((0≤(32:Int))∧(F155_j1 (Int.fdiv x0 (2 ^ (min (Int.toNat 32) (IntKind.bits .u64)))) 32 hp  K)) (F155_j1 x0 0 hp  K))
noncomputable abbrev o155 (k n:Nat):Code:=.region k (opsAt Try.f155 (pth n)) false
noncomputable def F155_code:Code:=(.seq (o155 0 2) (.seq (.seq (o155 1 9) (.cond (.tmp 4) (.seq (o155 2 37) (o155 3 53)) .skip)) (.seq (.seq (o155 4 19) (.cond (.tmp 8) (.seq (o155 5 75) (o155 6 107)) .skip)) (.seq (.seq (o155 7 39) (.cond (.tmp 14) (.seq (o155 8 151) (o155 9 215)) .skip)) (.seq (o155 10 47) .ret)))))
theorem F155_body:Try.f155.body=some F155_code:=by kernel_rfl
theorem F155_ok (x0:Int) (hp:HP) (K:Kh) (h:F155 x0 hp K):CF Try.prog 155 [(.int .u64 x0)] hp K:=by
 refine .inl ⟨by kernel_rfl,AC.intro (N:=25) Try.func155 F155_body rfl (Nat.le_of_ble_eq_true rfl) ?_⟩
 unfold F155 at h
 refine Ar F155_r0 ?_ (r1 0 Rn) (z1 Sn) Sn
 refine As (fun env pv hp=>∃ x0 x2,Sub (w2 E0 2 (sI x2) 0 (sV (.int .u64 x0))) env∧Sub V0 pv∧F155_j1 x0 x2 hp  K) ?_ ?_
 ·refine Ar F155_r8 ?_ (r2 0 2 Rn) (z2 Sn) Sn
  refine Ac h rfl (fun h=>?_) (fun h=>?_)
  ·refine Ar F155_r9 ?_ (r1 0 Rn) (z1 Sn) Sn
   refine ⟨h.1,?_⟩
   replace h:=h.2
   refine Ag F155_r10 ?_ (r1 0 Rn) (z1 Sn) Sn
   exact ⟨_,_,(z2 Sn),Sn,h⟩
  ·refine AWP.skip ?_
   exact ⟨_,_,(z2 Sn),Sn,h⟩
 ·rintro env pv hp ⟨x0,x2,he,hv,h⟩
  refine Ae ?_ (r2 0 2 Rn) he hv
  unfold F155_j1 at h
  refine As (fun env pv hp=>∃ x0 x2,Sub (w2 E0 2 (sI x2) 0 (sV (.int .u64 x0))) env∧Sub V0 pv∧F155_j2 x0 x2 hp  K) ?_ ?_
  ·refine Ar F155_r5 ?_ (r2 0 2 Rn) (z2 Sn) Sn
   refine Ac h rfl (fun h=>?_) (fun h=>?_)
   ·refine Ar F155_r6 ?_ (r2 0 2 Rn) (z2 Sn) Sn
    refine ⟨h.1,?_⟩
    replace h:=h.2
    refine Ag F155_r7 ?_ (r2 2 0 Rn) (z2 Sn) Sn
    exact ⟨_,_,(z2 Sn),Sn,h⟩
   ·refine AWP.skip ?_
    exact ⟨_,_,(z2 Sn),Sn,h⟩
  ·rintro env pv hp ⟨x0,x2,he,hv,h⟩
   refine Ae ?_ (r2 0 2 Rn) he hv
   unfold F155_j2 at h
   refine As (fun env pv hp=>∃ x0 x2,Sub (w2 E0 2 (sI x2) 0 (sV (.int .u64 x0))) env∧Sub V0 pv∧F155_j3 x0 x2 hp  K) ?_ ?_
   ·refine Ar F155_r2 ?_ (r2 0 2 Rn) (z2 Sn) Sn
    refine Ac h rfl (fun h=>?_) (fun h=>?_)
    ·refine Ar F155_r3 ?_ (r2 0 2 Rn) (z2 Sn) Sn
     refine ⟨h.1,?_⟩
     replace h:=h.2
     refine Ag F155_r4 ?_ (r2 2 0 Rn) (z2 Sn) Sn
     exact ⟨_,_,(z2 Sn),Sn,h⟩
    ·refine AWP.skip ?_
     exact ⟨_,_,(z2 Sn),Sn,h⟩
   ·rintro env pv hp ⟨x0,x2,he,hv,h⟩
    refine Ae ?_ (r2 0 2 Rn) he hv
    unfold F155_j3 at h
    refine Ar F155_r1 ?_ (r2 0 2 Rn) (z2 Sn) Sn
    refine ⟨h.1,h.2.1,?_⟩
    replace h:=h.2.2
    refine AWP.ret ?_
    exact h
end
end Go.Proofs
set_option linter.unusedVariables false
set_option maxRecDepth 20000
namespace Go.Proofs
open Go Go.HL
def lenTab:ByteArray:=⟨#[0,1,2,2,3,3,3,3,4,4,4,4,4,4,4,4,5,5,5,5,5,5,5,5,5,5,5,5,5,5,5,5,6,6,6,6,6,6,6,6,6,6,6,6,6,6,6,6,6,6,6,6,6,6,6,6,6,6,6,6,6,6,6,6,7,7,7,7,7,7,7,7,7,7,7,7,7,7,7,7,7,7,7,7,7,7,7,7,7,7,7,7,7,7,7,7,7,7,7,7,7,7,7,7,7,7,7,7,7,7,7,7,7,7,7,7,7,7,7,7,7,7,7,7,7,7,7,7,8,8,8,8,8,8,8,8,8,8,8,8,8,8,8,8,8,8,8,8,8,8,8,8,8,8,8,8,8,8,8,8,8,8,8,8,8,8,8,8,8,8,8,8,8,8,8,8,8,8,8,8,8,8,8,8,8,8,8,8,8,8,8,8,8,8,8,8,8,8,8,8,8,8,8,8,8,8,8,8,8,8,8,8,8,8,8,8,8,8,8,8,8,8,8,8,8,8,8,8,8,8,8,8,8,8,8,8,8,8,8,8,8,8,8,8,8,8,8,8,8,8,8,8,8,8,8,8]⟩
theorem len_tab:∀ y:Fin 256,bt lenTab (y.val:Int)=(Sort.bitsLen y.val:Nat):=by decide +kernel
theorem lenTab_size:lenTab.size=256:=by kernel_rfl
theorem C155 {n:Nat} {hp:HP} {K:Value→HP→Prop} (hn:n≤65535) (h:∀ L:Nat,L≤16→n<2 ^ L→(0<n→2 ^ L≤2*n)→K (.int .i64 L) hp):CF Try.prog 155 [.int .u64 n] hp K:=by
  refine F155_ok n hp K ?_
  have tail:∀ (y o:Nat),y<256→o≤8→n<2 ^ (o+Sort.bitsLen y)→(0<n→2 ^ (o+Sort.bitsLen y)≤2*n)→F155_j3 y o hp K:=by
    intro y o hy ho h1 h2
    unfold F155_j3
    change (0≤(IntKind.wrap .u8 (y:Int)))∧((IntKind.wrap .u8 (y:Int))<(ByteArray.size lenTab:Nat))∧K (Value.int .i64 (IntKind.wrap .i64 ((o:Int)+IntKind.wrap .i64 (bt lenTab (IntKind.wrap .u8 (y:Int)))))) hp
    rw [wu8 (by omega) (by omega),lenTab_size]
    have:=len_tab ⟨y,hy⟩
    simp only at this
    rw [this]
    have hb:Sort.bitsLen y≤8:=(Sort.bitsLen_le_iff y 8).2 (by omega)
    rw [w64 (n:=((Sort.bitsLen y:Nat):Int)) (by omega) (by omega),w64 (by omega) (by omega)]
    refine ⟨by omega,by omega,?_⟩
    have e:(o:Int)+(Sort.bitsLen y:Nat)=((o+Sort.bitsLen y:Nat):Int):=by omega
    rw [e]
    exact h _ (by omega) h1 h2
  unfold F155
  rw [decide_eq_false (by omega:¬ (n:Int)≥4294967296),ite2_false]
  unfold F155_j1
  rw [decide_eq_false (by omega:¬ (n:Int)≥65536),ite2_false]
  unfold F155_j2
  by_cases h8:n≥256
  · rw [decide_eq_true (by omega:(n:Int)≥256),ite2_true]
    refine ⟨by omega,?_⟩
    have e1:Int.fdiv (n:Int) (2 ^ (min (Int.toNat 8) (IntKind.bits .u64)))=((n / 256:Nat):Int):=by
      show Int.fdiv (n:Int) 256=_
      rw [Int.fdiv_eq_ediv_of_nonneg _ (by omega)]; omega
    have e2:IntKind.wrap .i64 ((0:Int)+8)=((8:Nat):Int):=by rw [w64 (by omega) (by omega)]; rfl
    rw [e1,e2]
    have ha:=Sort.lt_two_pow_bitsLen (n / 256)
    have hb:=Sort.two_pow_bitsLen_le (n:=n / 256) (by omega)
    have hp:2 ^ (8+Sort.bitsLen (n / 256))=256*2 ^ Sort.bitsLen (n / 256):=by rw [Nat.pow_add]
    refine tail _ 8 (by omega) (by omega) (by rw [hp]; omega) (fun _=>by rw [hp]; omega)
  · rw [decide_eq_false (by omega:¬ (n:Int)≥256),ite2_false]
    refine tail n 0 (by omega) (by omega) ?_ ?_
    · rw [Nat.zero_add]; exact Sort.lt_two_pow_bitsLen n
    · intro h0; rw [Nat.zero_add]; exact Sort.two_pow_bitsLen_le h0
theorem C129 {n:Nat} {hp:HP} {K:Value→HP→Prop} (hn:n≤65535) (h:∀ L:Nat,L≤16→n<2 ^ L→(0<n→2 ^ L≤2*n)→K (.int .i64 L) hp):CF Try.prog 129 [.int .u64 n] hp K:=by
  refine F129_ok n hp K ?_
  unfold F129
  refine C155 hn fun L h1 h2 h3=>?_
  rw [intV_int]
  exact h L h1 h2 h3
theorem C172 {n:Nat} {hp:HP} {K:Value→HP→Prop} (hn:n≤65535) (h:∀ L:Nat,L≤16→n<2 ^ L→(0<n→2 ^ L≤2*n)→K (.int .u64 ((2 ^ L:Nat):Int)) hp):CF Try.prog 172 [.int .i64 n] hp K:=by
  refine F172_ok n hp K ?_
  unfold F172
  rw [wu64 (by omega) (by omega)]
  refine C129 hn fun L h1 h2 h3=>?_
  rw [intV_int]
  refine ⟨by omega,?_⟩
  have e:min (Int.toNat (L:Int)) (IntKind.bits .u64)=L:=by
    show min (Int.toNat (L:Int)) 64=L
    rw [Int.toNat_natCast]; omega
  have hle:2 ^ L≤2 ^ 16:=Nat.pow_le_pow_right (by omega) h1
  rw [e]
  have e2:(1:Int)*2 ^ L=((2 ^ L:Nat):Int):=by rw [Int.one_mul]; simp
  rw [e2,wu64 (by omega) (by omega)]
  exact h L h1 h2 h3
theorem C173 {r:Nat} {y:Int} {hp:HP} {K:Value→HP→Prop} (hr:hp r=.cells 236 [.int .u64 y] 0) (h:∀ z:Int,K (.int .u64 z) (hp.set r (.cells 236 [.int .u64 z] 0))):CF Try.prog 173 [.pointer (some ⟨r,0,none⟩)] hp K:=by
  refine F173_ok _ hp K ?_
  unfold F173
  have hc:∀ o,hp.cell r o=[Value.int .u64 y][o]?:=fun o=>HP.cell_of hr
  simp only [ptrN_some,hc,List.getElem?_cons_zero,ldV_some,intV_int]
  refine ⟨by omega,?_⟩
  refine HP.st_at hr (by simp) ?_
  simp only [List.set_cons_zero]
  generalize bxor .u64 y _=y2
  have hr2:(hp.set r (.cells 236 [.int .u64 y2] 0)) r=.cells 236 [.int .u64 y2] 0:=HP.set_eq ..
  have hc2:∀ o,(hp.set r (.cells 236 [.int .u64 y2] 0)).cell r o=[Value.int .u64 y2][o]?:=fun o=>HP.cell_of hr2
  simp only [hc2,List.getElem?_cons_zero,ldV_some,intV_int]
  refine ⟨by omega,?_⟩
  refine HP.st_at hr2 (by simp) ?_
  simp only [List.set_cons_zero,HP.set_set]
  generalize bxor .u64 y2 _=y3
  have hr3:(hp.set r (.cells 236 [.int .u64 y3] 0)) r=.cells 236 [.int .u64 y3] 0:=HP.set_eq ..
  have hc3:∀ o,(hp.set r (.cells 236 [.int .u64 y3] 0)).cell r o=[Value.int .u64 y3][o]?:=fun o=>HP.cell_of hr3
  simp only [hc3,List.getElem?_cons_zero,ldV_some,intV_int]
  refine ⟨by omega,?_⟩
  refine HP.st_at hr3 (by simp) ?_
  simp only [List.set_cons_zero,HP.set_set]
  generalize bxor .u64 y3 _=y4
  have hr4:(hp.set r (.cells 236 [.int .u64 y4] 0)) r=.cells 236 [.int .u64 y4] 0:=HP.set_eq ..
  have hc4:∀ o,(hp.set r (.cells 236 [.int .u64 y4] 0)).cell r o=[Value.int .u64 y4][o]?:=fun o=>HP.cell_of hr4
  simp only [hc4,List.getElem?_cons_zero,ldV_some,intV_int]
  exact h y4
end Go.Proofs
set_option linter.unusedVariables false
set_option maxRecDepth 20000
namespace Go.Proofs
open Go Go.HL
section
variable {f:FuncId} {ga gb:List Value} {hp0:HP} {b sp n c:Nat} {T:Type} [Inhabited T] {en:T→ByteArray} {cf:T→T→Int}
theorem S182 {v:Value} {d:Array T} {lo hi:Nat} {K:Value→HP→Prop} (hs:d.size=n) (hlo:lo≤hi) (hf:hi≤n) (hn:n≤65535)
    (h:∀ d',Sort.PermIn lo hi d d'→K (.tuple ⟨[]⟩) (HA hp0 b 9 sp (ssT en) d')) :
    CF Try.prog 182 [.slice (some ⟨b,0,none⟩) n c,.int .i64 lo,.int .i64 hi,v] (HA hp0 b 9 sp (ssT en) d) K:=by
  refine CF.drop (F182_ok _ n c lo hi _ _ _ ?_)
  unfold F182
  have w1:IntKind.wrap .i64 ((hi:Int)-(lo:Int))=((hi-lo:Nat):Int):=wi (by omega) (by omega)
  rw [w1]
  by_cases h8:hi-lo≥8
  · rw [decide_eq_true (by omega:((hi-lo:Nat):Int)≥8),ite2_true]
    intro r hr
    obtain ⟨hrb,hr0⟩:=HA.ne_of_none hr
    refine HP.st_at (HP.set_eq ..) (by simp) ?_
    simp only [List.set_cons_zero,HP.set_set]
    rw [HA.set_comm hrb]
    refine C172 (n:=hi-lo) (by omega) fun L hL1 hL2 hL3=>?_
    have hL4:=hL3 (by omega)
    have hL5:2 ^ L≤2 ^ 16:=Nat.pow_le_pow_right (by omega) hL1
    rw [intV_int]
    refine ⟨by omega,?_⟩
    have e4:Int.tdiv ((hi-lo:Nat):Int) 4=(((hi-lo) / 4:Nat):Int):=rfl
    generalize hm:hi-lo=m at *
    rw [e4]
    have v1:IntKind.wrap .i64 ((m / 4:Nat):Int)=((m / 4:Nat):Int):=wi rfl (by omega)
    have v2:IntKind.wrap .i64 (((m / 4:Nat):Int)*2)=((m / 4*2:Nat):Int):=wi (by omega) (by omega)
    have v3:IntKind.wrap .i64 ((lo:Int)+((m / 4*2:Nat):Int))=((lo+m / 4*2:Nat):Int):=wi (by omega) (by omega)
    have v4:IntKind.wrap .i64 (((lo+m / 4*2:Nat):Int)-1)=((lo+m / 4*2-1:Nat):Int):=wi (by omega) (by omega)
    have v5:IntKind.wrap .i64 (((lo+m / 4*2:Nat):Int)+1)=((lo+m / 4*2+1:Nat):Int):=wi (by omega) (by omega)
    rw [v1,v2,v3,v4]
    unfold F182_j1
    generalize hz0:IntKind.wrap .u64 (m:Int)=z0
    refine LoopP.by (J:=fun k (x:Int) hp=>∃ (i:Nat) (d':Array T) (z:Int),x=i∧hp=HA (hp0.set r (.cells 236 [.int .u64 z] 0)) b 9 sp (ssT en) d'∧Sort.PermIn lo hi d d'∧lo≤i∧k=lo+m / 4*2+2-i) ?_
      (n:=lo+m / 4*2+2-(lo+m / 4*2-1)) ⟨lo+m / 4*2-1,d,z0,rfl,rfl,Sort.permIn_refl d lo hi,by omega,rfl⟩
    rintro I k x hp ⟨i,d',z,rfl,rfl,hpm,hli,rfl⟩ hI
    unfold F182_l2
    refine ⟨by omega,?_⟩
    rw [e4,v1,v2,v3,v5]
    by_cases hi':i≤lo+m / 4*2+1
    · rw [decide_eq_true (by omega:(i:Int)≤((lo+m / 4*2+1:Nat):Int)),ite2_true]
      refine C173 (y:=z) (by rw [HA.ne hrb,HP.set_eq]) fun z'=>?_
      rw [HA.set_comm hrb,HP.set_set,intV_int]
      have u1:IntKind.wrap .u64 (((2 ^ L:Nat):Int)-1)=((2 ^ L-1:Nat):Int):=by rw [wu64 (by omega) (by omega)]; omega
      rw [u1]
      have hbd:=band_le (z:=z') (m:=((2 ^ L-1:Nat):Int)) (by omega) (by omega)
      generalize band .u64 z' ((2 ^ L-1:Nat):Int)=w at hbd
      obtain ⟨o,rfl⟩:∃ o:Nat,w=o:=⟨w.toNat,by omega⟩
      rw [w64 (n:=(o:Int)) (by omega) (by omega)]
      have hs':d'.size=n:=by rw [hpm.1]; exact hs
      have step:∀ o:Nat,o<m→F182_j3 (some ⟨b,0,none⟩) n c lo m (some ⟨r,0,none⟩) ((2 ^ L:Nat):Int) i o (HA (hp0.set r (.cells 236 [.int .u64 z'] 0)) b 9 sp (ssT en) d') I (fun v hp'=>∃ hp'',HSub hp'' hp'∧K v hp''):=by
        intro o ho
        unfold F182_j3
        have x1:IntKind.wrap .i64 ((lo:Int)+(o:Int))=((lo+o:Nat):Int):=wi (by omega) (by omega)
        have x2:IntKind.wrap .i64 ((i:Int)+1)=((i+1:Nat):Int):=wi (by omega) (by omega)
        rw [x1,x2]
        refine swapP1 hs' (i:=i) (j:=lo+o) rfl rfl (by omega) (by omega) ?_
        exact hI (lo+m / 4*2+2-(i+1)) _ _ (by omega) ⟨i+1,_,z',rfl,rfl,Sort.permIn_trans _ _ _ _ _ hpm (Sort.swp_permIn d' lo hi i (lo+o) (by omega) (by omega) (by omega) (by omega) (by omega)),by omega,rfl⟩
      by_cases hom:o≥m
      · rw [decide_eq_true (by omega:(o:Int)≥(m:Int)),ite2_true]
        have x3:IntKind.wrap .i64 ((o:Int)-(m:Int))=((o-m:Nat):Int):=wi (by omega) (by omega)
        rw [x3]
        exact step (o-m) (by omega)
      · rw [decide_eq_false (by omega:¬ (o:Int)≥(m:Int)),ite2_false]
        exact step o (by omega)
    · rw [decide_eq_false (by omega:¬ (i:Int)≤((lo+m / 4*2+1:Nat):Int)),ite2_false]
      exact ⟨_,HA.sub (HSub.set_fresh hp0 _ hr0),h d' hpm⟩
  · rw [decide_eq_false (by omega:¬ ((hi-lo:Nat):Int)≥8),ite2_false]
    exact ⟨_,HSub.refl _,h d (Sort.permIn_refl d lo hi)⟩
/-- With the counter of swaps beside. -/
theorem S196 (hx:CmpX1 Try.prog f ga gb hp0 b 9 sp n cf en) {d:Array T} {i j r:Nat} {s:Int} {K:Value→HP→Prop} (hs:d.size=n) (hi:i<n) (hj:j<n) (hrb:r≠b) (hr0:hp0 r=.none)
    (h:∀ (s':Int) (x y:Nat),(x=i∧y=j)∨(x=j∧y=i)→K (.tuple ⟨[.int .i64 x,.int .i64 y]⟩) (HA (hp0.set r (.cells 3 [.int .i64 s'] 0)) b 9 sp (ssT en) d)) :
    CF Try.prog 196 [.slice (some ⟨b,0,none⟩) n c,.int .i64 i,.int .i64 j,.pointer (some ⟨r,0,none⟩),.func (.func f) ⟨ga⟩ ⟨gb⟩] (HA (hp0.set r (.cells 3 [.int .i64 s] 0)) b 9 sp (ssT en) d) K:=by
  refine F196_ok _ n c i j _ _ _ K ?_
  unfold F196
  refine cmpP1 (hx _ (HSub.set_fresh hp0 _ hr0)) hs (i:=j) (j:=i) rfl rfl hj hi ?_
  cases decide (cf d[j]! d[i]!<0)
  · rw [ite2_false]
    exact h s i j (.inl ⟨rfl,rfl⟩)
  · have hc:(HA (hp0.set r (.cells 3 [.int .i64 s] 0)) b 9 sp (ssT en) d) r=.cells 3 [.int .i64 s] 0:=by rw [HA.ne hrb,HP.set_eq]
    rw [ite2_true,ptrN_some,HP.cell_of hc]
    simp only [List.getElem?_cons_zero,ldV_some,intV_int,ptrN_some]
    refine HP.st_at hc (by simp) ?_
    rw [List.set_cons_zero,HA.set_comm hrb,HP.set_set]
    exact h _ j i (.inr ⟨rfl,rfl⟩)
theorem S194 (hx:CmpX1 Try.prog f ga gb hp0 b 9 sp n cf en) {d:Array T} {i j k r:Nat} {s:Int} {K:Value→HP→Prop} (hs:d.size=n) (hi:i<n) (hj:j<n) (hk:k<n) (hrb:r≠b) (hr0:hp0 r=.none)
    (h:∀ (s':Int) (x:Nat),x=i∨x=j∨x=k→K (.int .i64 x) (HA (hp0.set r (.cells 3 [.int .i64 s'] 0)) b 9 sp (ssT en) d)) :
    CF Try.prog 194 [.slice (some ⟨b,0,none⟩) n c,.int .i64 i,.int .i64 j,.int .i64 k,.pointer (some ⟨r,0,none⟩),.func (.func f) ⟨ga⟩ ⟨gb⟩] (HA (hp0.set r (.cells 3 [.int .i64 s] 0)) b 9 sp (ssT en) d) K:=by
  refine F194_ok _ n c i j k _ _ _ K ?_
  unfold F194
  refine S196 hx hs hi hj hrb hr0 fun s1 a1 b1 h1=>?_
  simp only [tup2V_mk,intV_int]
  refine S196 hx hs (by omega) hk hrb hr0 fun s2 a2 b2 h2=>?_
  simp only [tup2V_mk,intV_int]
  refine S196 hx hs (by omega) (by omega) hrb hr0 fun s3 a3 b3 h3=>?_
  simp only [tup2V_mk,intV_int]
  exact h s3 b3 (by omega)
theorem S193 (hx:CmpX1 Try.prog f ga gb hp0 b 9 sp n cf en) {d:Array T} {i r:Nat} {s:Int} {K:Value→HP→Prop} (hs:d.size=n) (hi0:0<i) (hi:i+1<n) (hn:n≤65535) (hrb:r≠b) (hr0:hp0 r=.none)
    (h:∀ (s':Int) (x:Nat),i-1≤x→x≤i+1→K (.int .i64 x) (HA (hp0.set r (.cells 3 [.int .i64 s'] 0)) b 9 sp (ssT en) d)) :
    CF Try.prog 193 [.slice (some ⟨b,0,none⟩) n c,.int .i64 i,.pointer (some ⟨r,0,none⟩),.func (.func f) ⟨ga⟩ ⟨gb⟩] (HA (hp0.set r (.cells 3 [.int .i64 s] 0)) b 9 sp (ssT en) d) K:=by
  refine F193_ok _ n c i _ _ _ K ?_
  unfold F193
  have v1:IntKind.wrap .i64 ((i:Int)-1)=((i-1:Nat):Int):=wi (by omega) (by omega)
  have v2:IntKind.wrap .i64 ((i:Int)+1)=((i+1:Nat):Int):=wi (by omega) (by omega)
  rw [v1,v2]
  refine S194 hx hs (by omega) (by omega) (by omega) hrb hr0 fun s1 x h1=>?_
  rw [intV_int]
  exact h s1 x (by omega) (by omega)
theorem S183 (hx:CmpX1 Try.prog f ga gb hp0 b 9 sp n cf en) {d:Array T} {lo hi:Nat} {K:Value→HP→Prop} (hs:d.size=n) (hlo:lo<hi) (hf:hi≤n) (hn:n≤65535)
    (h:∀ (p:Nat) (w:Int),lo≤p→p<hi→K (.tuple ⟨[.int .i64 p,.int .i64 w]⟩) (HA hp0 b 9 sp (ssT en) d)) :
    CF Try.prog 183 [.slice (some ⟨b,0,none⟩) n c,.int .i64 lo,.int .i64 hi,.func (.func f) ⟨ga⟩ ⟨gb⟩] (HA hp0 b 9 sp (ssT en) d) K:=by
  refine CF.drop (F183_ok _ n c lo hi _ _ _ ?_)
  unfold F183
  intro r hr
  obtain ⟨hrb,hr0⟩:=HA.ne_of_none hr
  have w1:IntKind.wrap .i64 ((hi:Int)-(lo:Int))=((hi-lo:Nat):Int):=wi (by omega) (by omega)
  have e4:Int.tdiv ((hi-lo:Nat):Int) 4=(((hi-lo) / 4:Nat):Int):=rfl
  simp only [w1,e4]
  refine ⟨by omega,by omega,by omega,?_⟩
  clear e4 w1
  rw [HA.set_comm hrb]
  have hmm:hi=lo+(hi-lo):=by omega
  generalize hi-lo=m at *
  subst hmm
  have v0:IntKind.wrap .i64 ((m / 4:Nat):Int)=((m / 4:Nat):Int):=wi rfl (by omega)
  have v1:IntKind.wrap .i64 (((m / 4:Nat):Int)*1)=((m / 4:Nat):Int):=wi (by omega) (by omega)
  have v2:IntKind.wrap .i64 (((m / 4:Nat):Int)*2)=((m / 4*2:Nat):Int):=wi (by omega) (by omega)
  have v3:IntKind.wrap .i64 (((m / 4:Nat):Int)*3)=((m / 4*3:Nat):Int):=wi (by omega) (by omega)
  have u1:IntKind.wrap .i64 ((lo:Int)+((m / 4:Nat):Int))=((lo+m / 4:Nat):Int):=wi (by omega) (by omega)
  have u2:IntKind.wrap .i64 ((lo:Int)+((m / 4*2:Nat):Int))=((lo+m / 4*2:Nat):Int):=wi (by omega) (by omega)
  have u3:IntKind.wrap .i64 ((lo:Int)+((m / 4*3:Nat):Int))=((lo+m / 4*3:Nat):Int):=wi (by omega) (by omega)
  simp only [v0,v1,v2,v3,u1,u2,u3]
  have fin:∀ (s:Int) (p:Nat),lo≤p→p<lo+m→F183_j1 (some ⟨r,0,none⟩) p (HA (hp0.set r (.cells 3 [.int .i64 s] 0)) b 9 sp (ssT en) d) (fun v hp'=>∃ hp'',HSub hp'' hp'∧K v hp''):=by
    intro s p h1 h2
    have hc:(HA (hp0.set r (.cells 3 [.int .i64 s] 0)) b 9 sp (ssT en) d) r=.cells 3 [.int .i64 s] 0:=by rw [HA.ne hrb,HP.set_eq]
    unfold F183_j1
    rw [ptrN_some,HP.cell_of hc]
    simp only [List.getElem?_cons_zero,ldV_some,intV_int]
    have hsub:=HA.sub (b:=b) (e:=9) (sp:=sp) (en:=ssT en) (d:=d) (HSub.set_fresh hp0 (.cells 3 [.int .i64 s] 0) hr0)
    cases (s==0)
    · rw [ite2_false]
      cases (s==12)
      · rw [ite2_false]; exact ⟨_,hsub,h p 0 h1 h2⟩
      · rw [ite2_true]; exact ⟨_,hsub,h p 2 h1 h2⟩
    · rw [ite2_true]; exact ⟨_,hsub,h p 1 h1 h2⟩
  have fin2:∀ (s:Int) (i j k:Nat),lo≤i→i<lo+m→lo≤j→j<lo+m→lo≤k→k<lo+m→F183_j2 (some ⟨b,0,none⟩) n c (.func (.func f) ⟨ga⟩ ⟨gb⟩) (some ⟨r,0,none⟩) i j k (HA (hp0.set r (.cells 3 [.int .i64 s] 0)) b 9 sp (ssT en) d) (fun v hp'=>∃ hp'',HSub hp'' hp'∧K v hp''):=by
    intro s i j k h1 h2 h3 h4 h5 h6
    unfold F183_j2
    refine S194 hx hs (by omega) (by omega) (by omega) hrb hr0 fun s1 x hx1=>?_
    rw [intV_int]
    exact fin s1 x (by omega) (by omega)
  by_cases h8:m≥8
  · rw [decide_eq_true (by omega:(m:Int)≥8),ite2_true]
    by_cases h50:m≥50
    · rw [decide_eq_true (by omega:(m:Int)≥50),ite2_true]
      refine S193 hx hs (by omega) (by omega) hn hrb hr0 fun s1 x1 a1 b1=>?_
      rw [intV_int]
      refine S193 hx hs (by omega) (by omega) hn hrb hr0 fun s2 x2 a2 b2=>?_
      rw [intV_int]
      refine S193 hx hs (by omega) (by omega) hn hrb hr0 fun s3 x3 a3 b3=>?_
      rw [intV_int]
      exact fin2 s3 x1 x2 x3 (by omega) (by omega) (by omega) (by omega) (by omega) (by omega)
    · rw [decide_eq_false (by omega:¬ (m:Int)≥50),ite2_false]
      exact fin2 0 _ _ _ (by omega) (by omega) (by omega) (by omega) (by omega) (by omega)
  · rw [decide_eq_false (by omega:¬ (m:Int)≥8),ite2_false]
    exact fin 0 _ (by omega) (by omega)
end
end Go.Proofs
set_option linter.unusedVariables false
set_option maxRecDepth 20000
namespace Go.Proofs
open Go Go.HL
section
variable {f:FuncId} {ga gb:List Value} {hp0:HP} {b sp n c:Nat} {T:Type} [Inhabited T] {en:T→ByteArray} {cf:T→T→Int}
theorem S166 (hx:CmpX1 Try.prog f ga gb hp0 b 9 sp n cf en) (hS:Sort.SWO (ltC cf)) (hn:n≤65535):∀ (m:Nat) {d:Array T} {lo hi limit:Nat} {K:Value→HP→Prop},d.size=n→lo≤hi→hi≤n→limit≤64→hi-lo≤m→Sort.Below (ltC cf) lo hi d →
    (∀ d',Sort.PermIn lo hi d d'→Sort.SortedIn (ltC cf) lo hi d'→K (.tuple ⟨[]⟩) (HA hp0 b 9 sp (ssT en) d')) →
    CF Try.prog 166 [.slice (some ⟨b,0,none⟩) n c,.int .i64 lo,.int .i64 hi,.int .i64 limit,.func (.func f) ⟨ga⟩ ⟨gb⟩] (HA hp0 b 9 sp (ssT en) d) K:=by
  intro m
  induction m using Nat.strongRecOn with
  | ind m ih=>
  intro d lo hi limit K hs hlo hhi hl hm hB h
  have hc:=hx.ok
  refine F166_ok _ n c lo hi limit _ _ K ?_
  unfold F166 F166_j1
  refine LoopP.by (J:=fun k (s:Int × Int × Int × Bool × Bool) hp=>∃ (a e lim:Nat) (wb wp:Bool) (d':Array T),s=((a:Int),(e:Int),(lim:Int),wb,wp)∧hp=HA hp0 b 9 sp (ssT en) d'∧d'.size=n∧a≤e∧e≤n∧lim≤64∧e-a≤hi-lo∧k=e-a∧Sort.Below (ltC cf) a e d' ∧
      (∀ R,Sort.PermIn a e d' R→Sort.SortedIn (ltC cf) a e R→K (.tuple ⟨[]⟩) (HA hp0 b 9 sp (ssT en) R))) ?_
    (n:=hi-lo) ⟨lo,hi,limit,true,true,d,rfl,rfl,hs,hlo,hhi,hl,Nat.le_refl _,rfl,hB,h⟩
  clear hs hlo hhi hl hB h
  rintro I k x hp ⟨a,e,lim,wb,wp,d,rfl,rfl,hs,hae,hen,hl,hle,rfl,hB,h⟩ hI
  unfold F166_l2
  simp only []
  have w1:IntKind.wrap .i64 ((e:Int)-(a:Int))=((e-a:Nat):Int):=wi (by omega) (by omega)
  rw [w1]
  by_cases h12:e-a≤12
  · rw [decide_eq_true (by omega:((e-a:Nat):Int)≤12),ite2_true]
    refine S180 hc hs hae hen (by omega) ?_
    have hi:=Sort.insertionSort_holds hS d a e hae (by omega)
    exact h _ hi.1 hi.2
  rw [decide_eq_false (by omega:¬ ((e-a:Nat):Int)≤12),ite2_false]
  by_cases h0:lim=0
  · subst h0
    have hb:(((0:Nat):Int)==0)=true:=rfl
    rw [hb,ite2_true]
    refine S181 hc hs hae hen (by omega) ?_
    have hi:=Sort.heapSort_holds hS d a e hae (by omega)
    exact h _ hi.1 hi.2
  have hb:((lim:Int)==0)=false:=by rw [beq_eq_false_iff_ne]; omega
  rw [hb,ite2_false]
  have last:∀ (lim':Nat) (d3:Array T) (p:Nat) (wb wp:Bool),lim'≤64→Sort.PermIn a e d d3→a≤p→p<e →
      F166_j5 (some ⟨b,0,none⟩) n c a e lim' (.func (.func f) ⟨ga⟩ ⟨gb⟩) wb wp ((e-a:Nat):Int) p (HA hp0 b 9 sp (ssT en) d3) I K:=by
    intro lim' d3 p wb wp hl' hp3 hpa hpe
    have hs3:d3.size=n:=by rw [hp3.1]; exact hs
    have B3:Sort.Below (ltC cf) a e d3:=hB.perm (by omega) hp3
    have two:F166_j6 (some ⟨b,0,none⟩) n c a e lim' (.func (.func f) ⟨ga⟩ ⟨gb⟩) wb wp ((e-a:Nat):Int) p false (HA hp0 b 9 sp (ssT en) d3) I K:=by
      unfold F166_j6
      rw [ite2_false]
      refine S187 hc hs3 (by omega) hen (by omega) (by omega) ?_
      rcases hR:Sort.partition (ltC cf) d3 a e p with ⟨mid,ap,d4⟩
      obtain ⟨q1,q2,q3,q4,q5,q6,q7⟩:=Sort.round_part hS (Sort.partition_holds _) hpa hpe (by omega) B3 hR
      simp only [tup2V_mk,intV_int,boolV_bool]
      refine ⟨by omega,?_⟩
      have v1:IntKind.wrap .i64 ((mid:Int)-(a:Int))=((mid-a:Nat):Int):=wi (by omega) (by omega)
      have v2:IntKind.wrap .i64 ((e:Int)-(mid:Int))=((e-mid:Nat):Int):=wi (by omega) (by omega)
      have v3:IntKind.wrap .i64 ((mid:Int)+1)=((mid+1:Nat):Int):=wi (by omega) (by omega)
      rw [v1,v2,v3]
      by_cases hlt:mid-a<e-mid
      · rw [decide_eq_true (by omega:((mid-a:Nat):Int)<((e-mid:Nat):Int)),ite2_true]
        refine ih (mid-a) (by omega) (by omega) q1 (by omega) hl' (Nat.le_refl _) q4 ?_
        intro L hL hsL
        obtain ⟨z1,z2⟩:=q6 L hL hsL
        exact hI (e-(mid+1)) _ _ (by omega) ⟨mid+1,e,lim',_,ap,L,rfl,rfl,by rw [hL.1]; omega,by omega,hen,hl',by omega,rfl,z1,fun R hR hsR=>h R (Sort.permIn_trans _ _ _ _ _ hp3 (z2 R hR hsR).1) (z2 R hR hsR).2⟩
      · rw [decide_eq_false (by omega:¬ ((mid-a:Nat):Int)<((e-mid:Nat):Int)),ite2_false]
        refine ih (e-(mid+1)) (by omega) (by omega) (by omega) hen hl' (Nat.le_refl _) q5 ?_
        intro L hL hsL
        obtain ⟨z1,z2⟩:=q7 L hL hsL
        exact hI (mid-a) _ _ (by omega) ⟨a,mid,lim',_,ap,L,rfl,rfl,by rw [hL.1]; omega,q1,by omega,hl',by omega,rfl,z1,fun R hR hsR=>h R (Sort.permIn_trans _ _ _ _ _ hp3 (z2 R hR hsR).1) (z2 R hR hsR).2⟩
    unfold F166_j5
    by_cases ha:a > 0
    · rw [decide_eq_true (by omega:(a:Int) > 0),ite2_true]
      have v1:IntKind.wrap .i64 ((a:Int)-1)=((a-1:Nat):Int):=wi (by omega) (by omega)
      rw [v1]
      refine cmpP1 hc hs3 (i:=a-1) (j:=p) rfl rfl (by omega) (by omega) ?_
      have hlq:decide (cf d3[a-1]! d3[p]!<0)=ltC cf d3[a-1]! d3[p]! := rfl
      rw [hlq]
      cases hlt:ltC cf d3[a-1]! d3[p]!
      · unfold F166_j6
        simp only [Bool.not_false,ite2_true]
        refine S186 hc hs3 (by omega) hen (by omega) (by omega) ?_
        rcases hR:Sort.partitionEqual (ltC cf) d3 a e p with ⟨mid,d4⟩
        obtain ⟨q1,q2,q3,q4,q5⟩:=Sort.round_eq hS (Sort.partitionEqual_holds _) ha hpa hpe (by omega) B3 hlt hR
        rw [intV_int]
        exact hI (e-mid) _ _ (by omega) ⟨mid,e,lim',wb,wp,d4,rfl,rfl,by omega,q2,hen,hl',by omega,rfl,q4,fun R hR hsR=>h R (Sort.permIn_trans _ _ _ _ _ hp3 (q5 R hR hsR).1) (q5 R hR hsR).2⟩
      · simp only [Bool.not_true]
        exact two
    · rw [decide_eq_false (by omega:¬ (a:Int) > 0),ite2_false]
      exact two
  have part:∀ (lim':Nat) (d2:Array T) (p:Nat) (w:Int),lim'≤64→Sort.PermIn a e d d2→a≤p→p<e →
      F166_j4 (some ⟨b,0,none⟩) n c a e lim' (.func (.func f) ⟨ga⟩ ⟨gb⟩) wb wp ((e-a:Nat):Int) p w (HA hp0 b 9 sp (ssT en) d2) I K:=by
    intro lim' d2 p w hl' hp2 hpa hpe
    have hs2:d2.size=n:=by rw [hp2.1]; exact hs
    have B2:Sort.Below (ltC cf) a e d2:=hB.perm (by omega) hp2
    have seven:∀ q:Bool,F166_j7 (some ⟨b,0,none⟩) n c a e lim' (.func (.func f) ⟨ga⟩ ⟨gb⟩) wb wp ((e-a:Nat):Int) p q (HA hp0 b 9 sp (ssT en) d2) I K:=by
      intro q
      unfold F166_j7
      cases q
      · rw [ite2_false]; exact last lim' d2 p wb wp hl' hp2 hpa hpe
      · rw [ite2_true]
        refine S185 hc hs2 (by omega) hen (by omega) ?_
        obtain ⟨r1,r2⟩:=Sort.partialInsertionSort_holds hS d2 a e (by omega) (by omega) B2
        rw [boolV_bool]
        cases hq:(Sort.partialInsertionSort (ltC cf) d2 a e).2
        · rw [ite2_false]
          exact last lim' _ p wb wp hl' (Sort.permIn_trans _ _ _ _ _ hp2 r1) hpa hpe
        · rw [ite2_true]
          exact h _ (Sort.permIn_trans _ _ _ _ _ hp2 r1) (r2 hq)
    unfold F166_j4
    cases wb
    · rw [ite2_false]; exact seven _
    · rw [ite2_true]
      cases wp
      · rw [ite2_false]; exact seven _
      · rw [ite2_true]; exact seven _
  have piv:∀ (lim':Nat) (d1:Array T),lim'≤64→Sort.PermIn a e d d1→F166_j3 (some ⟨b,0,none⟩) n c a e lim' (.func (.func f) ⟨ga⟩ ⟨gb⟩) wb wp ((e-a:Nat):Int) (HA hp0 b 9 sp (ssT en) d1) I K:=by
    intro lim' d1 hl' hp1
    have hs1:d1.size=n:=by rw [hp1.1]; exact hs
    unfold F166_j3
    refine S183 hx hs1 (by omega) hen hn fun p w hpa hpe=>?_
    simp only [tup2V_mk,intV_int]
    cases (w==2)
    · rw [ite2_false]; exact part lim' d1 p w hl' hp1 hpa hpe
    · rw [ite2_true]
      refine S184 hs1 (by omega) hen (by omega) ?_
      have v1:IntKind.wrap .i64 ((e:Int)-1)=((e-1:Nat):Int):=wi (by omega) (by omega)
      have v2:IntKind.wrap .i64 ((p:Int)-(a:Int))=((p-a:Nat):Int):=wi (by omega) (by omega)
      have v3:IntKind.wrap .i64 (((e-1:Nat):Int)-((p-a:Nat):Int))=((e-1-(p-a):Nat):Int):=wi (by omega) (by omega)
      rw [v1,v2,v3]
      exact part lim' _ _ 1 hl' (Sort.permIn_trans _ _ _ _ _ hp1 (Sort.reverseRange_holds d1 a e hae (by omega))) (by omega) (by omega)
  cases wb
  · simp only [Bool.not_false,ite2_true]
    refine S182 hs hae hen hn fun d1 hp1=>?_
    have v1:IntKind.wrap .i64 ((lim:Int)-1)=((lim-1:Nat):Int):=wi (by omega) (by omega)
    rw [v1]
    exact piv (lim-1) d1 (by omega) hp1
  · simp only [Bool.not_true,ite2_false]
    exact piv lim d hl (Sort.permIn_refl d a e)
end
/-- SortFunc of a row: the same things, in their order. -/
theorem S137 {f:FuncId} {ga gb:List Value} {T:Type} [Inhabited T] {en:T→ByteArray} {cf:T→T→Int} (hS:Sort.SWO (ltC cf)) {hp:HP} {s:Option Addr} {n c:Nat} {ts:List T} (hr:Row hp s n c 9 1 (ts.flatMap (ssT en))) (hl:ts.length=n) (hn:n≤65535)
    (hx:∀ b,s=some ⟨b,0,none⟩→CmpX1 Try.prog f ga gb hp b 9 ((c-n)*1) n cf en) {K:Value→HP→Prop}
    (h:∀ (ts':List T) (hp':HP),ts'.Perm ts→ts'.Pairwise (fun x y=>ltC cf y x=false)→Row hp' s n c 9 1 (ts'.flatMap (ssT en))→(hp'=hp∨∃ b e,s=some ⟨b,0,none⟩∧hp'=hp.set b e)→K (.tuple ⟨[]⟩) hp') :
    CF Try.prog 137 [.slice s n c,.func (.func f) ⟨ga⟩ ⟨gb⟩] hp K:=by
  refine F137_ok s n c _ hp K ?_
  unfold F137
  rw [wu64 (by omega) (by omega)]
  refine C129 hn fun L hL _ _=>?_
  rw [intV_int]
  have z0:(Value.int .i64 0)=Value.int .i64 ((0:Nat):Int):=rfl
  rcases hr with ⟨rfl,rfl,rfl,hnil⟩ | ⟨b,rfl,hnc,hxl,hb⟩
  · have ht:ts=[]:=List.eq_nil_of_length_eq_zero hl
    subst ht
    rw [z0]
    refine F166_ok none 0 0 ((0:Nat):Int) ((0:Nat):Int) L _ hp _ ?_
    unfold F166 F166_j1
    refine LoopP.by (J:=fun k (s:Int × Int × Int × Bool × Bool) hp'=>s.1=0∧s.2.1=0∧hp'=hp) ?_ (n:=0) ⟨rfl,rfl,rfl⟩
    rintro I k ⟨a,e,lim,wb,wp⟩ hp' ⟨h1,h2,rfl⟩ hI
    simp only at h1 h2
    subst h1 h2
    unfold F166_l2
    simp only []
    have w0:IntKind.wrap .i64 ((0:Int)-0)=0:=by rw [w64 (by omega) (by omega)]; omega
    rw [w0,decide_eq_true (by omega:(0:Int)≤12),ite2_true]
    refine F180_ok none 0 0 0 0 _ hp' _ ?_
    unfold F180 F180_j1
    have w1:IntKind.wrap .i64 ((0:Int)+1)=1:=by rw [w64 (by omega) (by omega)]; omega
    rw [w1]
    refine LoopP.by (J:=fun k (x:Int) hp2=>x=1∧hp2=hp') ?_ (n:=0) ⟨rfl,rfl⟩
    rintro I2 k2 x hp2 ⟨rfl,rfl⟩ hI2
    unfold F180_l2
    rw [decide_eq_false (by omega:¬ (1:Int)<0),ite2_false]
    exact h [] _ (List.Perm.refl _) List.Pairwise.nil (.inl ⟨rfl,rfl,rfl,rfl⟩) (.inl rfl)
  · have hha:HA hp b 9 ((c-n)*1) (ssT en) ts.toArray=hp:=HP.set_self _ _ _ hb
    rw [z0]
    have key:=S166 (c:=c) (hx b rfl) hS hn n (d:=ts.toArray) (lo:=0) (hi:=n) (limit:=L) (K:=fun u_4 h_5=>K (.tuple ⟨[]⟩) h_5) (by simpa using hl) (Nat.zero_le _) (Nat.le_refl _) (by omega) (by omega) (.inl rfl) ?_
    · rw [hha] at key; exact key
    intro d' hpm hst
    have hsz:d'.size=n:=by rw [hpm.1]; simpa using hl
    have hpl:d'.toList.Perm ts:=by
      have h3:=hpm.2.2
      have e1:d'.extract 0 n=d':=by rw [← hsz]; simp
      have e2:ts.toArray.extract 0 n=ts.toArray:=by rw [← hl]; simp
      rw [e1,e2] at h3
      exact h3
    refine h d'.toList _ hpl ?_ (.inr ⟨b,rfl,hnc,by rw [flat_len ss_len]; simp [hsz],by unfold HA; rw [HP.set_eq]⟩) (.inr ⟨b,_,rfl,rfl⟩)
    rw [List.pairwise_iff_getElem]
    intro i j hi hj hij
    have:=hst i j (Nat.zero_le _) hij (by simpa [hsz] using hj)
    rw [getElem!_pos d' j (by simpa using hj),getElem!_pos d' i (by simpa using hi)] at this
    simpa using this
end Go.Proofs
set_option linter.unusedVariables false
set_option maxRecDepth 20000
namespace Go.Proofs
open Go Go.HL
abbrev KD:=ByteArray × Dg
/-- A datagram that is there. -/
abbrev KT (D:List KD):={x:KD // x∈D∨D=[]}
theorem KT.inh (D:List KD):Nonempty (KT D):=by
  cases D with
  | nil=>exact ⟨⟨(e0s,⟨0,0,0,0,0,[]⟩),.inr rfl⟩⟩
  | cons a l=>exact ⟨⟨a,.inl (by simp)⟩⟩
noncomputable instance KT.inhabited {D:List KD}:Inhabited (KT D):=Classical.inhabited_of_nonempty (KT.inh D)
def KT.key {D:List KD} (x:KT D):ByteArray:=x.1.1
theorem perm_ofm {α β:Type} {f:α→β} (hf:∀ a b,f a=f b→a=b):∀ {l l':List α},(l.map f).Perm (l'.map f)→l.Perm l'
  | [],l',h=>by
    have:=h.length_eq
    simp at this
    rw [List.eq_nil_of_length_eq_zero this.symm]
  | a::l,l',h=>by
    classical
    have hm:f a∈l'.map f:=h.mem_iff.1 (by simp)
    obtain ⟨a',ha',e⟩:=List.mem_map.1 hm
    have:=hf _ _ e
    subst this
    have hp:=List.perm_cons_erase ha'
    refine List.Perm.trans ?_ hp.symm
    refine List.Perm.cons _ (perm_ofm hf ?_)
    have h2:=h.trans (hp.map f)
    simp only [List.map_cons] at h2
    exact h2.cons_inv
theorem nodup_of_map {α β:Type} (f:α→β) {l:List α} (h:(l.map f).Nodup):l.Nodup:=(List.pairwise_map.1 h).imp fun h e=>h (by rw [e])
theorem sw_inj {a b:ByteArray} (h:sw a=sw b):a=b:=by simpa [sw] using h
section
variable {hp0 hp:HP} {q m mo:Nat} {S:Stt} {K:Value→HP→Prop}
/-- Two of them are compared by what lies behind their keys. -/
theorem C138 {fo:FuncId} {cf:KD→KD→Int} {b1 b2:Nat} {x y:KD} (h:StR hp0 hp q m mo S) (h1:hp b1=.cells 31 [ptr q 0] 0) (h2:hp b2=.cells 169 [.func (.func fo) ⟨[]⟩ ⟨[]⟩] 0) (hx:x∈S.D) (hy:y∈S.D)
    (hf:∀ K,K (.int .i64 (cf x y)) hp→CF Try.prog fo [dv x.2,dv y.2] hp K) (hK:K (.int .i64 (cf x y)) hp) :
    CF Try.prog 138 [.string x.1,.string y.1,.pointer (some ⟨b2,0,none⟩),.pointer (some ⟨b1,0,none⟩)] hp K:=by
  refine F138_ok x.1 y.1 _ _ hp K ?_
  unfold F138
  have c4:∀ S:Stt,(stc S m mo)[4]?=some (.map (some m)):=fun _=>rfl
  have c1:∀ o,hp.cell b1 o=[ptr q 0][o]?:=fun o=>HP.cell_of h1
  have c2:∀ o,hp.cell b2 o=[Value.func (.func fo) ⟨[]⟩ ⟨[]⟩][o]?:=fun o=>HP.cell_of h2
  have pp:∀ c:Option Addr→Prop,ptrV (ptr q 0) c=c (some ⟨q,0,none⟩):=fun _=>rfl
  have hnd:=h.2.2.2.2.2.2.2.2.2.2.2
  have gx:getL x.1 S.D=some x.2:=getL_of_mem hnd hx
  have gy:getL y.1 S.D=some y.2:=getL_of_mem hnd hy
  simp only [ptrN_some,c1,c2,List.getElem?_cons_zero,ldV_some,pp,h.cell,Nat.zero_add,c4,mapV_map]
  refine rdS_lookup u128 enc9 zpt h.mapD x.1 ?_
  simp only [Bool.false_eq_true,if_false,gx,Option.map_some,Option.getD_some]
  have e1:∀ (d:Dg) (c:Option Addr→Prop),ptrV (dv d) c=c (some ⟨d.blk,0,none⟩):=fun _ _=>rfl
  simp only [e1,ptrN_some,c1,List.getElem?_cons_zero,ldV_some,pp,h.cell,Nat.zero_add,c4,mapV_map]
  refine rdS_lookup u128 enc9 zpt h.mapD y.1 ?_
  simp only [Bool.false_eq_true,if_false,gy,Option.map_some,Option.getD_some,e1,fnV_mk,List.nil_append,List.append_nil]
  refine hf _ ?_
  rw [intV_int]
  exact hK
theorem C107 {fo:FuncId} {cf:KD→KD→Int} (hS:Sort.SWO (ltC cf)) (h:StR hp0 hp q m mo S) (hD:S.D.length≤60000)
    (hf:∀ hp',StR hp0 hp' q m mo S→∀ x∈S.D,∀ y∈S.D,∀ K,K (.int .i64 (cf x y)) hp'→CF Try.prog fo [dv x.2,dv y.2] hp' K)
    (hK:∀ hp' (s:Option Addr) (c:Nat) (kds:List KD),HSub hp hp'→kds.Perm S.D→kds.Pairwise (fun x y=>ltC cf y x=false)→Row hp' s S.D.length c 9 1 (kds.flatMap fun x=>[sw x.1])→(∀ b,s=some ⟨b,0,none⟩→hp b=.none)→K (.slice s S.D.length c) hp') :
    CF Try.prog 107 [ptr q 0,.func (.func fo) ⟨[]⟩ ⟨[]⟩] hp K:=by
  refine F107_ok _ _ hp K ?_
  unfold F107
  intro b1 hb1 b2 hb2
  have hfc:Array.toList (Value.cells (.func (.func fo) ⟨[]⟩ ⟨[]⟩))=[Value.func (.func fo) ⟨[]⟩ ⟨[]⟩]:=rfl
  rw [hfc]
  have pp0:(Value.pointer (some ⟨q,0,none⟩))=ptr q 0:=rfl
  rw [pp0] at hb2 ⊢
  have n21:b2≠b1:=fun e=>by rw [e,HP.set_eq] at hb2; cases hb2
  have s1:=HSub.set_fresh hp (.cells 31 [ptr q 0] 0) hb1
  have s2:=s1.trans (HSub.set_fresh _ (.cells 169 [Value.func (.func fo) ⟨[]⟩ ⟨[]⟩] 0) hb2)
  have x1:((hp.set b1 (.cells 31 [ptr q 0] 0)).set b2 (.cells 169 [Value.func (.func fo) ⟨[]⟩ ⟨[]⟩] 0)) b1=.cells 31 [ptr q 0] 0:=by rw [HP.set_ne _ _ n21.symm,HP.set_eq]
  have x2:((hp.set b1 (.cells 31 [ptr q 0] 0)).set b2 (.cells 169 [Value.func (.func fo) ⟨[]⟩ ⟨[]⟩] 0)) b2=.cells 169 [Value.func (.func fo) ⟨[]⟩ ⟨[]⟩] 0:=HP.set_eq ..
  have g1:=h.sub s2
  generalize (hp.set b1 (.cells 31 [ptr q 0] 0)).set b2 (.cells 169 [Value.func (.func fo) ⟨[]⟩ ⟨[]⟩] 0)=hp1 at *
  have c4:∀ S:Stt,(stc S m mo)[4]?=some (.map (some m)):=fun _=>rfl
  have c1:∀ o,hp1.cell b1 o=[ptr q 0][o]?:=fun o=>HP.cell_of x1
  have pp:∀ c:Option Addr→Prop,ptrV (ptr q 0) c=c (some ⟨q,0,none⟩):=fun _=>rfl
  simp only [ptrN_some,c1,List.getElem?_cons_zero,ldV_some,pp,g1.cell,Nat.zero_add,c4,mapV_map]
  refine opS_range u128 g1.mapD fun it e hit hI0=>?_
  unfold F107_j2
  refine LoopP.by (J:=fun k (s:Option Addr × Nat × Nat) hp'=>∃ done:List KD,HSub hp1 hp'∧IterR hp' it m sw dv S.D done∧Row hp' s.1 s.2.1 s.2.2 9 1 (done.flatMap fun x=>[sw x.1])∧s.2.1=done.length∧(∀ b,s.1=some ⟨b,0,none⟩→hp1 b=.none)∧k=S.D.length-done.length) ?_
    (n:=S.D.length-0) ⟨[],(HSub.refl hp1).up hit e,hI0,.inl ⟨rfl,rfl,rfl,rfl⟩,rfl,(fun b e=>by cases e),rfl⟩
  rintro I k ⟨s,n,c⟩ hp2 ⟨done,hs,hI,hrow,hn,hfr,rfl⟩ hgo
  simp only at hrow hn hfr
  subst hn
  unfold F107_l3
  refine opS_next hI ?_ ?_
  · intro hperm
    simp only [tupI]
    show ldV (some (Value.bool false)) _
    rw [ldV_some,boolV_bool,ite2_false]
    unfold F107_j1
    have hkp:(done.map (·.1)).Perm (S.D.map (·.1)):=by
      have h1:=hperm.map (fun p:Value × Value=>p.1)
      simp only [List.map_map] at h1
      have e1:∀ l:List KD,l.map ((fun p:Value × Value=>p.1) ∘ fun p=>(sw p.1,dv p.2))=(l.map (·.1)).map sw:=fun l=>by simp [Function.comp_def]
      rw [e1,e1] at h1
      exact perm_ofm (f:=sw) (fun a b e=>sw_inj e) h1
    have hlen:done.length=S.D.length:=by simpa using hkp.length_eq
    have hnd:=g1.2.2.2.2.2.2.2.2.2.2.2
    obtain ⟨ts,hts,htsd⟩:∃ ts:List (KT S.D),ts.map (fun x=>x.1.1)=done.map (·.1)∧(ts.map (·.1)).Perm S.D:=by
      have:∀ l:List ByteArray,(∀ k∈l,k∈S.D.map (·.1))→∃ ts:List (KT S.D),ts.map (fun x=>x.1.1)=l:=by
        intro l
        induction l with
        | nil=>intro _; exact ⟨[],rfl⟩
        | cons k l ih=>
          intro hl
          obtain ⟨ts,h⟩:=ih fun k' hk'=>hl k' (by simp [hk'])
          obtain ⟨x,hx,hxk⟩:=List.mem_map.1 (hl k (by simp))
          exact ⟨⟨x,.inl hx⟩::ts,by simp [h,hxk]⟩
      obtain ⟨ts,hts⟩:=this (done.map (·.1)) fun k hk=>hkp.mem_iff.1 hk
      refine ⟨ts,hts,?_⟩
      have hne:S.D=[]∨∀ x:KT S.D,x.1∈S.D:=by
        by_cases he:S.D=[]
        · exact .inl he
        · exact .inr fun x=>x.2.resolve_right he
      rcases hne with he | hne
      · have:done=[]:=List.eq_nil_of_length_eq_zero (by rw [hlen,he]; rfl)
        rw [this] at hts
        have:ts=[]:=by simpa using hts
        rw [this,he]; exact List.Perm.refl _
      · have hk2:(ts.map (·.1)).map (·.1)=done.map (·.1):=by rw [← hts,List.map_map]; rfl
        have hnd2:((ts.map (·.1)).map (·.1)).Nodup:=by rw [hk2]; exact hkp.nodup_iff.2 hnd
        refine perm_of_nodup (nodup_of_map _ hnd2) (nodup_of_map _ hnd) (fun x hx=>?_) (fun x hx=>?_)
        · obtain ⟨t,_,rfl⟩:=List.mem_map.1 hx; exact hne t
        · have h1:x.1∈done.map (·.1):=hkp.mem_iff.2 (List.mem_map.2 ⟨x,hx,rfl⟩)
          rw [← hts] at h1
          obtain ⟨t,ht,e⟩:=List.mem_map.1 h1
          have:t.1=x:=map_inj_of_nodup hnd (hne t) hx e
          rw [← this]; exact List.mem_map.2 ⟨t,ht,rfl⟩
    have hrow':Row hp2 s done.length c 9 1 (ts.flatMap (ssT KT.key)):=by
      have e:ts.flatMap (ssT KT.key)=done.flatMap fun x=>[sw x.1]:=by
        have h1:∀ l:List (KT S.D),l.flatMap (ssT KT.key)=(l.map (fun x=>x.1.1)).map sw:=fun l=>by
          induction l with
          | nil=>rfl
          | cons a l ih=>rw [List.flatMap_cons,ih]; rfl
        have h2:∀ l:List KD,(l.flatMap fun x=>[sw x.1])=(l.map (·.1)).map sw:=fun l=>by
          induction l with
          | nil=>rfl
          | cons a l ih=>rw [List.flatMap_cons,ih]; rfl
        rw [h1,h2,hts]
      rw [e]; exact hrow
    have htl:ts.length=done.length:=by have:=congrArg List.length hts; simpa using this
    refine S137 (T:=KT S.D) (en:=KT.key) (cf:=fun x y=>cf x.1 y.1) ⟨fun x=>hS.irrefl x.1,fun x y z=>hS.trans x.1 y.1 z.1,fun x y z=>hS.ntrans x.1 y.1 z.1⟩ hrow' htl (by omega) ?_ ?_
    · intro b hb hp3 h3 d x y K' hsz hx hy hk
      have hb1':=hfr b hb
      have s3:HSub hp1 (HA hp3 b 9 ((c-done.length)*1) (ssT KT.key) d):=(hs.trans h3).up hb1' _
      have hDne:S.D≠[]:=fun e=>by
        have:d.toList=[]:=List.eq_nil_of_length_eq_zero (by rw [Array.length_toList,hsz,hlen,e]; rfl)
        rw [this] at hx; cases hx
      have hxm:x.1∈S.D:=x.2.resolve_right hDne
      have hym:y.1∈S.D:=y.2.resolve_right hDne
      have g3:=g1.sub s3
      exact C138 (x:=x.1) (y:=y.1) (cf:=cf) g3 (s3.cells x1) (s3.cells x2) hxm hym (fun K'' hk''=>hf _ g3 x.1 hxm y.1 hym K'' hk'') hk
    · intro ts' hp' hp1' hpw hrow2 hh'
      have hperm2:(ts'.map (·.1)).Perm S.D:=(hp1'.map _).trans htsd
      have hrow3:Row hp' s done.length c 9 1 ((ts'.map (·.1)).flatMap fun x=>[sw x.1]):=by
        have e:ts'.flatMap (ssT KT.key)=(ts'.map (·.1)).flatMap fun x:KD=>[sw x.1]:=by
          rw [List.flatMap_map]; rfl
        rw [← e]; exact hrow2
      rw [hlen] at hrow3 ⊢
      refine hK hp' s c (ts'.map (·.1)) ?_ hperm2 ?_ hrow3 (fun b hb=>s2.none (hfr b hb))
      · rcases hh' with rfl | ⟨b,e',hb,rfl⟩
        · exact s2.trans hs
        · exact (s2.trans hs).up (s2.none (hfr b hb)) _
      · rw [List.pairwise_map]; exact hpw
  · intro kv hkv e2 hI2
    have hlen2:=hI2.step_len
    simp only [tupI]
    show ldV (some (Value.bool true)) _
    rw [ldV_some,boolV_bool,ite2_true]
    refine rdS_entry hI2 ?_
    show ldV (some (sw kv.1)) _
    rw [ldV_some]
    show strV (Value.string kv.1) _
    rw [strV_string]
    intro b3 hb3
    have esw:(Value.string kv.1)=sw kv.1:=rfl
    rw [esw] at *
    obtain ⟨⟨oi,hoi⟩,⟨om,hom⟩⟩:=hI2.obj
    have hiti:∃ o,hp2 it=.obj o:=hI.obj.1
    have s2':HSub hp1 (hp2.set it e2):=hs.up hit e2
    have hne3:∀ {x o},(hp2.set it e2) x=.obj o→x≠b3:=fun hx e=>by rw [e,hb3] at hx; cases hx
    have s3:=HSub.set_fresh (hp2.set it e2) (.cells 9 [sw kv.1] 0) hb3
    have hI3:IterR ((hp2.set it e2).set b3 (.cells 9 [sw kv.1] 0)) it m sw dv S.D (done++[kv]):=hI2.keep (HP.set_ne _ _ (hne3 hoi)) (HP.set_ne _ _ (hne3 hom))
    have hrow2:Row (hp2.set it e2) s done.length c 9 1 (done.flatMap fun x=>[sw x.1]):=by
      obtain ⟨o,ho⟩:=hiti
      exact hrow.set_obj ho e2
    have hrow3:=hrow2.sub s3
    have sh:Shows ((hp2.set it e2).set b3 (.cells 9 [sw kv.1] 0)) (some ⟨b3,0,none⟩) 1 1 [sw kv.1]:=.inr ⟨b3,0,rfl,by rw [HP.cellN_of (HP.set_eq ..)]; exact cellsN_all rfl⟩
    have s13:HSub hp1 ((hp2.set it e2).set b3 (.cells 9 [sw kv.1] 0)):=s2'.trans s3
    refine opS_app (e:=9) (size:=1) (bytes:=16) (by kernel_rfl) hrow3 sh rfl (by omega) (by omega) ?_
    intro s4 c4 hp4 hrow4 hup
    rw [slcV_slice]
    have hfl:(done.flatMap fun x=>[sw x.1])++[sw kv.1]=(done++[kv]).flatMap fun x=>[sw x.1]:=by simp
    rw [hfl] at hrow4
    have key:HSub hp1 hp4∧IterR hp4 it m sw dv S.D (done++[kv])∧∀ b,s4=some ⟨b,0,none⟩→hp1 b=.none:=by
      rcases hup with ⟨rfl,rfl⟩ | ⟨b,e',rfl,hb,rfl⟩
      · exact ⟨s13,hI3,hfr⟩
      · have hb1:hp1 b=.none:=by
          rcases hb with hb | hb
          · exact s13.none hb
          · exact hfr b hb
        obtain ⟨⟨oi3,hoi3⟩,⟨om3,hom3⟩⟩:=hI3.obj
        have hbo:∀ o,((hp2.set it e2).set b3 (.cells 9 [sw kv.1] 0)) b≠.obj o:=by
          intro o ho
          rcases hb with hb | hb
          · rw [hb] at ho; cases ho
          · rcases hrow3 with ⟨r1,_⟩ | ⟨b',r1,r2,r3,r4⟩
            · rw [r1] at hb; cases hb
            · rw [r1] at hb; cases hb; rw [r4] at ho; cases ho
        refine ⟨s13.up hb1 e',hI3.keep (HP.set_ne _ _ (fun e=>hbo oi3 (by rw [← e]; exact hoi3))) (HP.set_ne _ _ (fun e=>hbo om3 (by rw [← e]; exact hom3))),fun b' eb=>?_⟩
        cases eb; exact hb1
    have hdl:done.length+1=(done++[kv]).length:=by simp
    rw [hdl] at hrow4 ⊢
    exact hgo (S.D.length-(done++[kv]).length) _ _ (by simp; omega) ⟨done++[kv],key.1,key.2.1,hrow4,rfl,key.2.2,rfl⟩
/-- By number. -/
def cfId (x y:KD):Int:=cmpN x.2.id y.2.id
/-- By when they are due, then by number. -/
def cfDue (x y:KD):Int:=if cmpN x.2.due y.2.due≠0 then cmpN x.2.due y.2.due else cmpN x.2.id y.2.id
theorem cfId_lt {a b:KD}:ltC cfId a b=true↔a.2.id<b.2.id:=by
  unfold ltC cfId cmpN
  rw [decide_eq_true_iff]
  repeat' split
  all_goals omega
theorem cfId_ltf {a b:KD}:ltC cfId a b=false↔¬ a.2.id<b.2.id:=by rw [← cfId_lt]; simp
theorem swo_cfId:Sort.SWO (ltC cfId) where
  irrefl x:=by rw [cfId_ltf]; omega
  trans x y z:=by simp only [cfId_lt]; omega
  ntrans x y z:=by simp only [cfId_ltf]; omega
theorem cfDue_lt {a b:KD}:ltC cfDue a b=true↔a.2.due<b.2.due∨(a.2.due=b.2.due∧a.2.id<b.2.id):=by
  unfold ltC cfDue cmpN
  rw [decide_eq_true_iff]
  repeat' split
  all_goals omega
theorem cfDue_ltf {a b:KD}:ltC cfDue a b=false↔¬ (a.2.due<b.2.due∨(a.2.due=b.2.due∧a.2.id<b.2.id)):=by rw [← cfDue_lt]; simp
theorem swo_cfDue:Sort.SWO (ltC cfDue) where
  irrefl x:=by rw [cfDue_ltf]; omega
  trans x y z:=by simp only [cfDue_lt]; omega
  ntrans x y z:=by simp only [cfDue_ltf]; omega
theorem C108 {x y:KD} (hx:DgR hp x.2) (hy:DgR hp y.2) (hK:K (.int .i64 (cfId x y)) hp):CF Try.prog 108 [dv x.2,dv y.2] hp K:=by
  refine F108_ok _ _ hp K ?_
  unfold F108
  obtain ⟨_,c,_,h2,_⟩:=hx
  obtain ⟨_,c',_,h2',_⟩:=hy
  have hc:∀ o,hp.cell x.2.blk o=_:=fun o=>HP.cell_of h2
  have hc':∀ o,hp.cell y.2.blk o=_:=fun o=>HP.cell_of h2'
  simp only [ptrN_some,hc,hc',Nat.zero_add,List.getElem?_cons_zero,ldV_some,intV_int]
  refine D97 ?_
  rw [intV_int]
  exact hK
theorem C109 {x y:KD} (hx:DgR hp x.2) (hy:DgR hp y.2) (hK:K (.int .i64 (cfDue x y)) hp):CF Try.prog 109 [dv x.2,dv y.2] hp K:=by
  refine CF.drop (F109_ok _ _ hp _ ?_)
  unfold F109
  obtain ⟨_,c,_,h2,_⟩:=hx
  obtain ⟨_,c',_,h2',_⟩:=hy
  have hc:∀ o,hp.cell x.2.blk o=_:=fun o=>HP.cell_of h2
  have hc':∀ o,hp.cell y.2.blk o=_:=fun o=>HP.cell_of h2'
  have fin:∀ (b:Nat),hp b=.none→CF Try.prog 96 [.slice (some ⟨b,0,none⟩) 2 2] (hp.set b (.cells 3 [.int .i64 (cmpN x.2.due y.2.due),.int .i64 (cmpN x.2.id y.2.id)] 0)) fun u h=>intV u .i64 fun k=>∃ hp'',HSub hp'' h∧K (.int .i64 k) hp'':=by
    intro b hb
    refine D96 (HP.set_eq ..) ?_
    rw [intV_int]
    exact ⟨hp,HSub.set_fresh hp _ hb,hK⟩
  refine ⟨?_,?_,?_,?_⟩
  all_goals
    simp only [ptrN_some,hc,hc',Nat.zero_add,List.getElem?_cons_succ,List.getElem?_cons_zero,ldV_some,intV_int]
    refine D97 ?_
    simp only [ptrN_some,hc,hc',Nat.zero_add,List.getElem?_cons_succ,List.getElem?_cons_zero,ldV_some,intV_int]
    refine D97 ?_
    rw [intV_int]
    exact fin
/-- The keys, by number. -/
theorem C60 (h:StR hp0 hp q m mo S) (hD:S.D.length≤60000)
    (hK:∀ hp' (s:Option Addr) (c:Nat) (kds:List KD),HSub hp hp'→kds.Perm S.D→kds.Pairwise (fun x y=>ltC cfId y x=false)→Row hp' s S.D.length c 9 1 (kds.flatMap fun x=>[sw x.1])→(∀ b,s=some ⟨b,0,none⟩→hp b=.none)→K (.slice s S.D.length c) hp') :
    CF Try.prog 60 [ptr q 0] hp K:=by
  refine F60_ok _ hp K ?_
  unfold F60
  refine C75 h ?_
  rw [boolV_bool,ite2_false]
  refine C107 swo_cfId h hD (fun hp' g x hx y hy K' hk=>C108 (g.2.2.2.2.2.2.2.2.1 x hx).1 (g.2.2.2.2.2.2.2.2.1 y hy).1 hk) ?_
  intro hp' s c kds a1 a2 a3 a4 a5
  rw [slcV_slice]
  exact hK hp' s c kds a1 a2 a3 a4 a5
theorem C70 {src:ByteArray} (h:StR hp0 hp q m mo S) (hK:K (.int .i64 ((getL src S.of).getD 0)) hp):CF Try.prog 70 [ptr q 0,.string src] hp K:=by
  refine F70_ok _ src hp K ?_
  unfold F70
  refine C75 h ?_
  rw [boolV_bool,ite2_false]
  have c5:(stc S m mo)[5]?=some (.map (some mo)):=rfl
  simp only [ptrN_some,h.cell,Nat.zero_add,c5,ldV_some,mapV_map]
  refine rdS_lookup u97 enc9 zj h.mapOf src ?_
  simp only [Bool.false_eq_true,if_false,jw_get,intV_int]
  exact hK
/-- What is left when those that are due are gone. -/
def popS (S:Stt) (now:Int) (kds:List KD):Stt:=kds.foldl (fun S x=>if x.2.due≤now then cutS S x.1 x.2 else S) S
/-- What is told of them. -/
def toldQ (now:Int) (kds:List KD):List (List Value):=(kds.filter fun x=>decide (x.2.due≤now)).map fun x=>wh x.1 (headQ x.2.l) e0s x.2.l.length
theorem getL_foldl_cut {now:Int}:∀ {kds:List KD} {S:Stt} {k:ByteArray},(S.D.map (·.1)).Nodup→k ∉ kds.map (·.1)→getL k (popS S now kds).D=getL k S.D
  | [],_,_,_,_=>rfl
  | x::l,S,k,hn,h=>by
    simp only [List.map_cons,List.mem_cons,not_or] at h
    unfold popS
    rw [List.foldl_cons]
    by_cases hx:x.2.due≤now
    · rw [if_pos hx]
      have:=getL_foldl_cut (now:=now) (kds:=l) (S:=cutS S x.1 x.2) (k:=k) (by unfold cutS; exact nodup_del hn) h.2
      unfold popS at this
      rw [this]
      unfold cutS
      simp only [getL_del hn,h.1,if_false]
    · rw [if_neg hx]
      have:=getL_foldl_cut (now:=now) (kds:=l) (S:=S) (k:=k) hn h.2
      unfold popS at this
      exact this
/-! What lies beside the store. -/
theorem StR.weak {h0 R:HP} (h:StR R hp q m mo S) (hs:HSub h0 R):StR h0 hp q m mo S:=by
  obtain ⟨a1,a2,a3,a4,a5,a6,a7,a8,a9,r⟩:=h
  exact ⟨hs.trans a1,hs.none a2,hs.none a3,hs.none a4,a5,a6,a7,a8,fun kd hkd=>⟨(a9 kd hkd).1,hs.none (a9 kd hkd).2.1,hs.none (a9 kd hkd).2.2⟩,r⟩
/-- A block beside the store is forgotten. -/
theorem StR.cut {R:HP} {ob:Nat} {e:Ent} (h:StR (R.set ob e) hp q m mo S) (he:e≠.none) (hR:R ob=.none):StR R (hp.set ob .none) q m mo S:=by
  obtain ⟨a1,a2,a3,a4,a5,a6,a7,a8,a9,r⟩:=h
  have ne:∀ x,(R.set ob e) x=.none→x≠ob:=fun x hx e'=>he (by rw [e',HP.set_eq] at hx; exact hx)
  have sub:HSub R (R.set ob e):=HSub.set_fresh R e hR
  refine ⟨fun x=>?_,sub.none a2,sub.none a3,sub.none a4,a5,?_,?_,?_,fun kd hkd=>⟨?_,sub.none (a9 kd hkd).2.1,sub.none (a9 kd hkd).2.2⟩,r⟩
  · by_cases hx:x=ob
    · subst hx; exact .inl hR
    · rw [HP.set_ne _ _ hx]; exact (sub.trans a1) x
  · rw [HP.set_ne _ _ (ne q a2)]; exact a6
  · rw [HP.set_ne _ _ (ne m a3)]; exact a7
  · rw [HP.set_ne _ _ (ne mo a4)]; exact a8
  · exact (a9 kd hkd).1.ne (ne _ (a9 kd hkd).2.1).symm (ne _ (a9 kd hkd).2.2).symm
/-- A new block lies beside the store. -/
theorem StR.add {R hp':HP} {ob:Nat} {e:Ent} (h:StR R hp q m mo S) (hn:hp ob=.none) (hs:HSub hp hp') (hb:hp' ob=e):StR (R.set ob e) hp' q m mo S:=by
  have h':=h.sub hs
  obtain ⟨a1,a2,a3,a4,a5,a6,a7,a8,a9,r⟩:=h
  obtain ⟨b1,b2,b3,b4,b5,b6,b7,b8,b9,_⟩:=h'
  obtain ⟨o1,e1⟩:=mapE_obj a7
  obtain ⟨o2,e2⟩:=mapE_obj a8
  have ne:∀ {x y},hp x=y→y≠.none→x≠ob:=fun hx hy e'=>hy (by rw [← hx,e',hn])
  have off:∀ {x},R x=.none→x≠ob→(R.set ob e) x=.none:=fun hx hne=>by rw [HP.set_ne _ _ hne]; exact hx
  refine ⟨b1.set_of hb,off a2 (ne a6 (by simp)),off a3 (ne e1 (by simp)),off a4 (ne e2 (by simp)),a5,b6,b7,b8,fun kd hkd=>⟨(b9 kd hkd).1,?_,?_⟩,r⟩
  · obtain ⟨⟨_,c,_,g2,g3⟩,z1,z2⟩:=a9 kd hkd
    exact off z1 (ne g2 (by simp))
  · obtain ⟨⟨_,c,_,g2,g3⟩,z1,z2⟩:=a9 kd hkd
    exact off z2 (ne g3 (by simp))
/-- What is known beside, and a row. -/
def outH (R:HP) (e:TypeId) (size:Nat) (s:Option Addr) (n c:Nat) (xs:List Value):HP:=match s with
  | none=>R
  | some a=>R.set a.block (.cells e xs ((c-n)*size))
/-- A row beside the store. -/
def Bes (R hp:HP) (q m mo:Nat) (S:Stt) (e:TypeId) (size:Nat) (s:Option Addr) (n c:Nat) (xs:List Value):Prop:=
  (∀ b,s=some ⟨b,0,none⟩→R b=.none)∧Row (outH R e size s n c xs) s n c e size xs∧StR (outH R e size s n c xs) hp q m mo S
theorem Bes.row {R:HP} {e:TypeId} {size:Nat} {s:Option Addr} {n c:Nat} {xs:List Value} (h:Bes R hp q m mo S e size s n c xs):Row hp s n c e size xs:=h.2.1.sub h.2.2.1
theorem Bes.st {R:HP} {e:TypeId} {size:Nat} {s:Option Addr} {n c:Nat} {xs:List Value} (h:Bes R hp q m mo S e size s n c xs):StR R hp q m mo S:=by
  obtain ⟨h1,h2,h3⟩:=h
  rcases h2 with ⟨rfl,_⟩ | ⟨b,rfl,_⟩
  · exact h3
  · exact h3.weak (HSub.set_fresh R _ (h1 b rfl))
theorem Bes.stp {R hp':HP} {S':Stt} {e:TypeId} {size:Nat} {s:Option Addr} {n c:Nat} {xs:List Value} (h:Bes R hp q m mo S e size s n c xs) (hs:Stp q m mo hp S hp' S'):Bes R hp' q m mo S' e size s n c xs:=⟨h.1,h.2.1,hs _ h.2.2⟩
theorem Bes.sub {R hp':HP} {e:TypeId} {size:Nat} {s:Option Addr} {n c:Nat} {xs:List Value} (h:Bes R hp q m mo S e size s n c xs) (hs:HSub hp hp'):Bes R hp' q m mo S e size s n c xs:=⟨h.1,h.2.1,h.2.2.sub hs⟩
theorem Bes.nil {R:HP} {e:TypeId} {size:Nat} (h:StR R hp q m mo S):Bes R hp q m mo S e size none 0 0 []:=⟨fun b e=>(by cases e),.inl ⟨rfl,rfl,rfl,rfl⟩,h⟩
/-- Behind an append. -/
theorem Bes.app {R hp':HP} {e:TypeId} {size:Nat} {s s2:Option Addr} {n c n2 c2:Nat} {xs ys:List Value} (h:Bes R hp q m mo S e size s n c xs) (hr:Row hp' s2 n2 c2 e size ys)
    (hf:∀ h0:HP,HSub h0 hp→(∀ b',s=some ⟨b',0,none⟩→h0 b'=.none)→HSub h0 hp'∧∀ b',s2=some ⟨b',0,none⟩→h0 b'=.none):Bes R hp' q m mo S e size s2 n2 c2 ys:=by
  obtain ⟨h1,h2,h3⟩:=h
  obtain ⟨hpA,hA,hAs,hAn⟩:∃ hpA,StR R hpA q m mo S∧HSub hpA hp∧∀ b',s=some ⟨b',0,none⟩→hpA b'=.none:=by
    rcases h2 with ⟨rfl,_⟩ | ⟨b,rfl,_⟩
    · exact ⟨hp,h3,HSub.refl _,fun b e=>by cases e⟩
    · refine ⟨hp.set b .none,h3.cut (by simp) (h1 b rfl),fun x=>?_,fun b' e=>by cases e; exact HP.set_eq ..⟩
      by_cases hx:x=b
      · subst hx; exact .inl (HP.set_eq ..)
      · exact .inr (HP.set_ne _ _ hx)
  obtain ⟨k1,k2⟩:=hf hpA hAs hAn
  rcases hr with ⟨rfl,g⟩ | ⟨b,rfl,g1,g2,g3⟩
  · exact ⟨fun b e=>(by cases e),.inl ⟨rfl,g⟩,hA.sub k1⟩
  · have hb:=k2 b rfl
    refine ⟨fun b' e=>by cases e; exact hA.1.none hb,.inr ⟨b,rfl,g1,g2,HP.set_eq ..⟩,hA.add hb k1 g3⟩
theorem popS_succ {now:Int} {kds:List KD} {i:Nat} (hi:i<kds.length):popS S now (kds.take (i+1))=if kds[i].2.due≤now then cutS (popS S now (kds.take i)) kds[i].1 kds[i].2 else popS S now (kds.take i):=by
  unfold popS
  rw [List.take_succ_eq_append_getElem hi,List.foldl_append]; rfl
theorem toldQ_succ {now:Int} {kds:List KD} {i:Nat} (hi:i<kds.length):toldQ now (kds.take (i+1))=toldQ now (kds.take i)++if kds[i].2.due≤now then [wh kds[i].1 (headQ kds[i].2.l) e0s kds[i].2.l.length] else []:=by
  unfold toldQ
  rw [List.take_succ_eq_append_getElem hi,List.filter_append,List.map_append]
  by_cases h:kds[i].2.due≤now
  · simp [h]
  · simp [h]
theorem toldQ_len {now:Int} {kds:List KD}:(toldQ now kds).length≤kds.length:=by
  unfold toldQ; rw [List.length_map]; exact List.length_filter_le _ _
theorem C62 {now:Int} (h:StR hp0 hp q m mo S) (hD:S.D.length≤60000) (hlen:∀ kd∈S.D,kd.2.l.length≤100000)
    (hK:∀ hp' (s:Option Addr) (n c:Nat) (kds:List KD),kds.Perm S.D→kds.Pairwise (fun x y=>ltC cfDue y x=false)→(∀ h0,StR h0 hp q m mo S→Bes h0 hp' q m mo (popS S now kds) 36 4 s n c ((toldQ now kds).flatMap fun x=>x)) →
      n=(toldQ now kds).length→K (.slice s n c) hp') :
    CF Try.prog 62 [ptr q 0,.int .i64 now] hp K:=by
  refine F62_ok _ now hp K ?_
  unfold F62
  refine C75 h ?_
  rw [boolV_bool,ite2_false]
  refine C107 swo_cfDue h hD (fun hp' g x hx y hy K' hk=>C109 (g.2.2.2.2.2.2.2.2.1 x hx).1 (g.2.2.2.2.2.2.2.2.1 y hy).1 hk) ?_
  intro hp1 ks kc kds h01 hperm hpw hkrow hkfr
  rw [slcV_slice]
  unfold F62_j2
  have hkl:kds.length=S.D.length:=hperm.length_eq
  have hnd:=h.2.2.2.2.2.2.2.2.2.2.2
  have hndk:(kds.map (·.1)).Nodup:=(hperm.map _).nodup_iff.2 hnd
  have c4:∀ S:Stt,(stc S m mo)[4]?=some (.map (some m)):=fun _=>rfl
  rw [← hkl] at hkrow ⊢
  let J1:HP→Option Addr→Nat→Nat→Nat→Prop:=fun hp' s n c i=>∀ h0,StR h0 hp q m mo S→∃ R,HSub h0 R∧Shows R ks kds.length 1 (kds.flatMap fun x=>[sw x.1])∧Bes R hp' q m mo (popS S now (kds.take i)) 36 4 s n c ((toldQ now (kds.take i)).flatMap fun x=>x)
  refine LoopP.by (J:=fun k (y:Option Addr × Nat × Nat × Int) hp'=>∃ i:Nat,y.2.2.2=i∧i+k=kds.length∧J1 hp' y.1 y.2.1 y.2.2.1 i∧y.2.1=(toldQ now (kds.take i)).length) ?_ (n:=kds.length) ?_
  rotate_left
  · refine ⟨0,rfl,by omega,fun h0 g=>?_,rfl⟩
    rcases hkrow with ⟨rfl,k2,k3,k4⟩ | ⟨kb,rfl,k2,k3,k4⟩
    · exact ⟨h0,HSub.refl _,.inl ⟨k2,k4⟩,Bes.nil (g.sub h01)⟩
    · have hkb:=hkfr kb rfl
      refine ⟨h0.set kb (.cells 9 (kds.flatMap fun x=>[sw x.1]) ((kc-kds.length)*1)),HSub.set_fresh h0 _ (g.1.none hkb),.inr ⟨kb,0,rfl,?_⟩,Bes.nil (g.add hkb h01 k4)⟩
      rw [HP.cellN_of (HP.set_eq ..)]; exact cellsN_all k3
  rintro I k ⟨s,n,c,y⟩ hp2 ⟨i,hy,hik,hJ,hn⟩ hgo
  simp only at hy hJ hn
  subst hy hn
  obtain ⟨R,hR0,hRs,hRb⟩:=hJ hp0 h
  have g2:=hRb.st
  have hs2:Shows hp2 ks kds.length 1 (kds.flatMap fun x=>[sw x.1]):=hRs.sub g2.1
  unfold F62_l3
  simp only []
  by_cases hi:i<kds.length
  rotate_left
  · rw [decide_eq_false (by omega:¬ (i:Int)<((kds.length:Nat):Int)),ite2_false]
    unfold F62_j1
    rw [List.take_of_length_le (by omega)] at *
    refine hK hp2 s _ c kds hperm hpw (fun h0 g=>?_) rfl
    obtain ⟨R',hR',_,hRb'⟩:=hJ h0 g
    rw [List.take_of_length_le (by omega)] at hRb'
    refine ⟨fun b e=>hR'.none (hRb'.1 b e),?_,?_⟩
    · rcases hRb'.2.1 with ⟨e,r⟩ | ⟨b,e,r1,r2,r3⟩
      · exact .inl ⟨e,r⟩
      · subst e; exact .inr ⟨b,rfl,r1,r2,HP.set_eq ..⟩
    · refine hRb'.2.2.weak ?_
      unfold outH
      split
      · exact hR'
      · exact hR'.set _ _
  rw [decide_eq_true (by omega:(i:Int)<((kds.length:Nat):Int)),ite2_true]
  obtain ⟨kb,ko,hks,hkc⟩:=Shows.get (size:=1) (enc:=fun x:KD=>[sw x.1]) hs2 (fun _=>rfl) rfl hi
  have hcell:=HP.cell_cellN (j:=0) hkc rfl
  rw [Nat.add_zero] at hcell
  have hxm:kds[i]∈S.D:=hperm.mem_iff.1 (List.getElem_mem hi)
  have hgx:getL kds[i].1 (popS S now (kds.take i)).D=some kds[i].2:=by
    rw [getL_foldl_cut hnd ?_]
    · exact getL_of_mem hnd hxm
    · intro hm
      obtain ⟨x,hx,e⟩:=List.mem_map.1 hm
      obtain ⟨j,hj,rfl⟩:=List.getElem_of_mem hx
      rw [List.length_take] at hj
      rw [List.getElem_take] at e
      have:=(List.pairwise_iff_getElem.1 hndk) j i (by simp; omega) (by simpa using hi) (by omega)
      simp only [List.getElem_map] at this
      exact this e
  have hle:=toldQ_len (now:=now) (kds:=kds.take i)
  rw [List.length_take] at hle
  subst hks
  simp only [ptrN_some,Int.toNat_natCast,hcell,ldV_some]
  refine ⟨by omega,by omega,?_⟩
  show strV (Value.string kds[i].1) _
  simp only [strV_string,g2.cell,Nat.zero_add,c4,ldV_some,mapV_map]
  refine rdS_lookup u128 enc9 zpt g2.mapD kds[i].1 ?_
  simp only [Bool.false_eq_true,if_false,hgx,Option.map_some,Option.getD_some]
  have e1:∀ (d:Dg) (c:Option Addr→Prop),ptrV (dv d) c=c (some ⟨d.blk,0,none⟩):=fun _ _=>rfl
  have hdg:=g2.dg hgx
  have hdg0:=hdg
  obtain ⟨_,dc,_,d2,_⟩:=hdg
  have hc:∀ hp',HSub hp2 hp'→∀ o,hp'.cell kds[i].2.blk o=_:=fun hp' hs o=>HP.cell_of (hs.cells d2)
  have w1:IntKind.wrap .i64 ((i:Int)+1)=((i+1:Nat):Int):=wiN (by omega) (by omega)
  simp only [e1,ptrN_some,hc hp2 (HSub.refl _),Nat.zero_add,List.getElem?_cons_succ,List.getElem?_cons_zero,ldV_some,intV_int,slcV_slice]
  have hsucc:=popS_succ (S:=S) (now:=now) hi
  have htold:=toldQ_succ (now:=now) hi
  by_cases hdue:kds[i].2.due≤now
  rotate_left
  · rw [decide_eq_false hdue,ite2_false]
    unfold F62_j4
    rw [w1]
    rw [if_neg hdue] at hsucc htold
    rw [List.append_nil] at htold
    refine hgo (k-1) _ _ (by omega) ⟨i+1,rfl,by omega,?_,by simp only; rw [htold]⟩
    intro h0 g
    obtain ⟨R',a,b,c'⟩:=hJ h0 g
    exact ⟨R',a,b,by rw [hsucc,htold]; exact c'⟩
  rw [decide_eq_true hdue,ite2_true]
  rw [if_pos hdue] at hsucc htold
  have hz4:∀ a b:ByteArray,∀ x:Int,splice [(Value.string ⟨#[]⟩),(Value.string ⟨#[]⟩),(Value.string ⟨#[]⟩),(Value.int .i64 0)] 0 [Value.string a,.string b,.string ⟨#[]⟩,.int .i64 x]=wh a b e0s x:=fun _ _ _=>splice_all rfl
  have tail:∀ b4,hp2 b4=.none→opS Try.prog (Builtin.append_ #[109,109] 109 ⟨[.slice s (toldQ now (kds.take i)).length c,.slice (some ⟨b4,0,none⟩) 1 1]⟩) (hp2.set b4 (.cells 36 (wh kds[i].1 (headQ kds[i].2.l) e0s kds[i].2.l.length) 0)) fun u h=>slcV u fun a n c'=>F62_j5 (some ⟨q,0,none⟩) now a n c' kds[i].1 (some ⟨kb,ko,none⟩) kds.length kc (kds.length:Nat) i h I K:=by
    intro b4 hb4
    have s4:=HSub.set_fresh hp2 (.cells 36 (wh kds[i].1 (headQ kds[i].2.l) e0s kds[i].2.l.length) 0) hb4
    have rb:=hRb.sub s4
    refine opS_appF (e:=36) (size:=4) (bytes:=56) (by kernel_rfl) rb.row (.inr ⟨b4,0,rfl,by rw [HP.cellN_of (HP.set_eq ..)]; exact cellsN_all rfl⟩) rfl (by omega) (by omega) ?_
    intro s5 c5 hp5 hrow5 hf5
    rw [slcV_slice]
    unfold F62_j5
    have eapp:((toldQ now (kds.take i)).flatMap fun x=>x)++wh kds[i].1 (headQ kds[i].2.l) e0s kds[i].2.l.length=(toldQ now (kds.take (i+1))).flatMap fun x=>x:=by
      rw [htold,List.flatMap_append]; simp
    have elen:(toldQ now (kds.take i)).length+1=(toldQ now (kds.take (i+1))).length:=by rw [htold]; simp
    rw [eapp,elen] at hrow5
    rw [elen]
    have rb5:=rb.app hrow5 hf5
    refine C79 rb5.st hgx (Nat.le_trans (hlen _ hxm) (by omega)) ?_
    intro hp6 s6
    unfold F62_j4
    rw [w1]
    refine hgo (k-1) _ _ (by omega) ⟨i+1,rfl,by omega,?_,rfl⟩
    intro h0 g
    obtain ⟨R',a,b,c'⟩:=hJ h0 g
    refine ⟨R',a,b,?_⟩
    rw [hsucc]
    exact ((c'.sub s4).app hrow5 hf5).stp s6
  refine ⟨?_,?_⟩
  · refine C110 hdg0 (Nat.le_trans (hlen _ hxm) (by omega)) ?_
    simp only [strV_string,hc hp2 (HSub.refl _),Nat.zero_add,List.getElem?_cons_succ,List.getElem?_cons_zero,ldV_some,slcV_slice,hz4]
    exact ifI rfl tail
  · refine C110 hdg0 (Nat.le_trans (hlen _ hxm) (by omega)) ?_
    simp only [strV_string,hz4]
    exact ifI rfl tail
end
end Go.Proofs
set_option linter.unusedVariables false
set_option maxRecDepth 20000
namespace Go.Proofs
open Go Go.HL
instance memB (a:ByteArray) (l:List ByteArray):Decidable (a∈l):=decidable_of_iff (l.any fun k=>decide (a=k)) (by simp)
/-- All pieces. -/
def allP (D:List KD):List Pc:=D.flatMap fun x=>x.2.l
def cntP (src:ByteArray) (l:List Pc):Nat:=l.countP fun p=>decide (p.src=src)
theorem cnt_perm {src:ByteArray} {a b:List Pc} (h:a.Perm b):cntP src a=cntP src b:=h.countP_eq _
theorem cnt_app {src:ByteArray} {a b:List Pc}:cntP src (a++b)=cntP src a+cntP src b:=List.countP_append
theorem cnt_le {src:ByteArray} {a:List Pc}:cntP src a≤a.length:=List.countP_le_length
theorem all_del {key:ByteArray} {d:Dg}:∀ {D:List KD},getL key D=some d→(allP D).Perm (d.l++allP (delL key D))
  | [],h=>by cases h
  | x::D,h=>by
    simp only [getL] at h
    by_cases hk:key=x.1
    · simp only [hk,if_true,Option.some.injEq] at h
      simp only [delL,hk,if_true,allP,List.flatMap_cons,h]
      exact List.Perm.refl _
    · simp only [hk,if_false] at h
      simp only [delL,hk,if_false,allP,List.flatMap_cons]
      have:=all_del h
      unfold allP at this
      refine (this.append_left x.2.l).trans ?_
      rw [← List.append_assoc,← List.append_assoc]
      exact List.perm_append_comm.append_right _
theorem all_put {key:ByteArray} {d d':Dg}:∀ {D:List KD},getL key D=some d→(allP (putL key d' D)).Perm (d'.l++allP (delL key D))
  | [],h=>by cases h
  | x::D,h=>by
    simp only [getL] at h
    by_cases hk:key=x.1
    · simp only [delL,putL,hk,if_true,allP,List.flatMap_cons]
      exact List.Perm.refl _
    · simp only [hk,if_false] at h
      simp only [delL,putL,hk,if_false,allP,List.flatMap_cons]
      have:=all_put (d':=d') h
      unfold allP at this
      refine (this.append_left x.2.l).trans ?_
      rw [← List.append_assoc,← List.append_assoc]
      exact List.perm_append_comm.append_right _
theorem all_new {key:ByteArray} {d':Dg} {D:List KD} (h:getL key D=none):allP (putL key d' D)=allP D++d'.l:=by
  rw [put_new h]; unfold allP; rw [List.flatMap_append]; simp
theorem mem_put' {k:ByteArray} {v:Dg} {l:List KD} {x:KD} (hn:(l.map (·.1)).Nodup) (h:x∈putL k v l):x=(k,v)∨(x∈l∧x.1≠k):=mem_put hn h
theorem mem_del {k:ByteArray} {l:List KD} {x:KD} (hn:(l.map (·.1)).Nodup) (h:x∈delL k l):x∈l∧x.1≠k:=by
  refine ⟨(del_sub k l).subset h,fun e=>?_⟩
  have h1:getL x.1 (delL k l)=some x.2:=getL_of_mem (nodup_del hn) h
  rw [getL_del hn,if_pos e] at h1
  cases h1
theorem cutN_eq:∀ (k:Nat) (n:Int),(k:Int)≤n→n≤1000000000→cutN k n=n-k
  | 0,n,_,_=>by simp [cutN]
  | k+1,n,h,h2=>by
    rw [cutN,w64 (by omega) (by omega),cutN_eq k _ (by omega) (by omega)]; omega
theorem cutOf_eq:∀ (l:List Pc) (of:List (ByteArray × Int)) (c:ByteArray→Nat),(of.map (·.1)).Nodup→(∀ s,(getL s of).getD 0=(c s:Int))→(∀ s,cntP s l≤c s)→(∀ s,c s≤1000000000) →
    ((cutOf l of).map (·.1)).Nodup∧∀ s,(getL s (cutOf l of)).getD 0=((c s-cntP s l:Nat):Int)
  | [],of,c,hn,h,_,_=>⟨hn,fun s=>by rw [cutOf,h]; simp [cntP]⟩
  | p::l,of,c,hn,h,hc,hb=>by
    have hp:=hc p.src
    have h1:∀ s,cntP s (p::l)=cntP s l+if p.src=s then 1 else 0:=fun s=>by
      unfold cntP; rw [List.countP_cons]; simp
    have hp1:1≤c p.src:=by rw [h1,if_pos rfl] at hp; omega
    have hbb:=hb p.src
    have hw:IntKind.wrap .i64 ((getL p.src of).getD 0-1)=((c p.src-1:Nat):Int):=by rw [h,w64 (by omega) (by omega)]; omega
    rw [cutOf,hw]
    have key:∀ of':List (ByteArray × Int),(of'.map (·.1)).Nodup→(∀ s,(getL s of').getD 0=((if s=p.src then c p.src-1 else c s:Nat):Int)) →
        ((cutOf l of').map (·.1)).Nodup∧∀ s,(getL s (cutOf l of')).getD 0=((c s-cntP s (p::l):Nat):Int):=by
      intro of' hn' h'
      obtain ⟨k1,k2⟩:=cutOf_eq l of' (fun s=>if s=p.src then c p.src-1 else c s) hn' h' (fun s=>by
        have:=hc s
        rw [h1] at this
        by_cases e:s=p.src
        · subst e; rw [if_pos rfl] at this; show cntP p.src l≤if p.src=p.src then _ else _; rw [if_pos rfl]; omega
        · rw [if_neg (fun e'=>e e'.symm)] at this; show cntP s l≤if s=p.src then _ else _; rw [if_neg e]; omega) (fun s=>by
        have:=hb s
        have:=hb p.src
        show (if s=p.src then _ else _)≤1000000000
        split <;> omega)
      refine ⟨k1,fun s=>?_⟩
      rw [k2,h1]
      show (((if s=p.src then c p.src-1 else c s)-cntP s l:Nat):Int)=((c s-(cntP s l+if p.src=s then 1 else 0):Nat):Int)
      by_cases e:s=p.src
      · subst e; rw [if_pos rfl,if_pos rfl]; omega
      · have e2:¬ p.src=s:=fun e'=>e e'.symm
        rw [if_neg e,if_neg e2]; rfl
    have hnp:=nodup_put (k:=p.src) (v:=((c p.src-1:Nat):Int)) hn
    split
    · rename_i h0
      refine key _ (nodup_del hnp) fun s=>?_
      rw [getL_del hnp]
      by_cases e:s=p.src
      · simp only [e,if_true,Option.getD_none]; omega
      · simp only [e,if_false,getL_put]; exact h s
    · refine key _ hnp fun s=>?_
      rw [getL_put]
      by_cases e:s=p.src
      · simp only [e,if_true,Option.getD_some]
      · simp only [e,if_false]; exact h s
/-- What holds of a store. -/
structure Inv (S:Stt):Prop where
  keys:(S.D.map (·.1)).Nodup
  okeys:(S.of.map (·.1)).Nodup
  num:S.n=((allP S.D).length:Nat)
  of:∀ s,(getL s S.of).getD 0=(cntP s (allP S.D):Nat)
  ne:∀ x∈S.D,x.2.l≠[]
  right:∀ x∈S.D,∀ p∈x.2.l,rightP p=true
  key:∀ x∈S.D,∀ p∈x.2.l,p.key=x.1
  due:∀ x∈S.D,okDue x.2.due
  le:S.n≤S.max
  big:S.max≤65536
  les:∀ s,(cntP s (allP S.D):Int)≤S.source
theorem len_all:∀ {D:List KD},(∀ x∈D,x.2.l≠[])→D.length≤(allP D).length
  | [],_=>Nat.zero_le _
  | x::D,h=>by
    have h1:=len_all (D:=D) fun y hy=>h y (by simp [hy])
    have h2:=List.length_pos_iff.2 (h x (by simp))
    unfold allP at *
    rw [List.flatMap_cons,List.length_append,List.length_cons]; omega
theorem len_part {D:List KD} {x:KD} (h:x∈D):x.2.l.length≤(allP D).length:=by
  induction D with
  | nil=>cases h
  | cons y D ih=>
    unfold allP at *
    rw [List.flatMap_cons,List.length_append]
    rcases List.mem_cons.1 h with rfl | h
    · omega
    · have:=ih h; omega
section
variable {S:Stt} {p:Pc} {due:Int} {key:ByteArray} {d:Dg}
theorem Inv.lenl (h:Inv S) {x:KD} (hx:x∈S.D):x.2.l.length≤65536:=by have:=len_part hx; have:=h.num; have:=h.le; have:=h.big; omega
theorem Inv.empty {max source:Int} (h1:1≤max) (h2:max≤65536) (h3:1≤source):Inv ⟨max,source,0,0,[],[]⟩:=
  ⟨.nil,.nil,rfl,fun _=>rfl,fun _ h=>(by cases h),fun _ h=>(by cases h),fun _ h=>(by cases h),fun _ h=>(by cases h),(by show (0:Int)≤max; omega),h2,fun s=>(by show (0:Int)≤source; omega)⟩
theorem Inv.cut (h:Inv S) (hg:getL key S.D=some d):Inv (cutS S key d):=by
  have hp:=all_del hg
  have hl:(allP S.D).length=d.l.length+(allP (delL key S.D)).length:=by rw [hp.length_eq,List.length_append]
  have hc:∀ s,cntP s (allP S.D)=cntP s d.l+cntP s (allP (delL key S.D)):=fun s=>by rw [cnt_perm hp,cnt_app]
  have hnum:=h.num
  have hle:=h.le
  have hbig:=h.big
  obtain ⟨k1,k2⟩:=cutOf_eq d.l S.of (fun s=>cntP s (allP S.D)) h.okeys h.of (fun s=>by rw [hc]; omega) (fun s=>by have:=cnt_le (src:=s) (a:=allP S.D); omega)
  have hsub:∀ x∈delL key S.D,x∈S.D:=fun x hx=>(del_sub key S.D).subset hx
  have hn:cutN d.l.length S.n=((allP (delL key S.D)).length:Nat):=by rw [cutN_eq _ _ (by omega) (by omega)]; omega
  refine ⟨nodup_del h.keys,k1,hn,fun s=>?_,fun x hx=>h.ne x (hsub x hx),fun x hx=>h.right x (hsub x hx),fun x hx=>h.key x (hsub x hx),fun x hx=>h.due x (hsub x hx),?_,h.big,fun s=>?_⟩
  · show (getL s (cutOf d.l S.of)).getD 0=_
    rw [k2,hc]; congr 1; show _=cntP s (allP (delL key S.D)); omega
  · show cutN d.l.length S.n≤S.max
    rw [hn]; omega
  · have:=h.les s
    rw [hc] at this
    show ((cntP s (allP (delL key S.D)):Nat):Int)≤S.source
    omega
theorem Inv.take (h:Inv S) (hr:rightP p=true) (hd:okDue due) (hm:S.n<S.max) (hs:(getL p.src S.of).getD 0<S.source) {last':Int} {d':Dg} (ht:Took S p due last' d'):Inv (takeS S p last' d'):=by
  have hnum:=h.num
  have hbig:=h.big
  have hof:=h.of p.src
  have hcl:=cnt_le (src:=p.src) (a:=allP S.D)
  have hw:IntKind.wrap .i64 (S.n+1)=(((allP S.D).length+1:Nat):Int):=by rw [w64 (by omega) (by omega)]; omega
  have hw2:IntKind.wrap .i64 ((getL p.src S.of).getD 0+1)=((cntP p.src (allP S.D)+1:Nat):Int):=by rw [w64 (by omega) (by omega)]; omega
  have hperm:(allP (putL p.key d' S.D)).Perm (allP S.D++[p]):=by
    rcases ht with ⟨hg,_,_,_,_,hl⟩ | ⟨d,hg,_,_,_,_,hl⟩
    · rw [all_new hg,hl]
    · refine (all_put hg).trans ?_
      rw [hl,List.append_assoc]
      refine List.Perm.trans ?_ ((all_del hg).symm.append_right [p])
      rw [List.append_assoc]
      exact (List.perm_append_comm).append_left d.l
  have hlen:(allP (putL p.key d' S.D)).length=(allP S.D).length+1:=by rw [hperm.length_eq]; simp
  have hcnt:∀ s,cntP s (allP (putL p.key d' S.D))=cntP s (allP S.D)+if p.src=s then 1 else 0:=fun s=>by
    rw [cnt_perm hperm,cnt_app]; congr 1; unfold cntP; rw [List.countP_cons]; simp
  have hd':d'.l≠[]∧(∀ x∈d'.l,rightP x=true)∧(∀ x∈d'.l,x.key=p.key)∧okDue d'.due:=by
    rcases ht with ⟨hg,_,_,hdue,_,hl⟩ | ⟨d,hg,_,_,hdue,_,hl⟩
    · rw [hl,hdue]
      refine ⟨by simp,fun x hx=>?_,fun x hx=>?_,hd⟩
      · rw [List.mem_singleton] at hx; rw [hx]; exact hr
      · rw [List.mem_singleton] at hx; rw [hx]
    · have hm:=getL_some_mem hg
      rw [hl,hdue]
      refine ⟨by simp,fun x hx=>?_,fun x hx=>?_,h.due _ hm⟩
      · rw [List.mem_append,List.mem_singleton] at hx
        rcases hx with hx | hx
        · exact h.right _ hm x hx
        · rw [hx]; exact hr
      · rw [List.mem_append,List.mem_singleton] at hx
        rcases hx with hx | hx
        · exact h.key _ hm x hx
        · rw [hx]
  refine ⟨nodup_put h.keys,nodup_put h.okeys,?_,fun s=>?_,fun x hx=>?_,fun x hx=>?_,fun x hx=>?_,fun x hx=>?_,?_,h.big,fun s=>?_⟩
  · show IntKind.wrap .i64 (S.n+1)=_
    rw [hw]; show _=(((allP (putL p.key d' S.D)).length:Nat):Int); rw [hlen]
  · show (getL s (putL p.src (IntKind.wrap .i64 ((getL p.src S.of).getD 0+1)) S.of)).getD 0=((cntP s (allP (putL p.key d' S.D)):Nat):Int)
    rw [getL_put,hcnt]
    by_cases e:s=p.src
    · subst e; rw [if_pos rfl,if_pos rfl,Option.getD_some,hw2]
    · have e2:¬ p.src=s:=fun e'=>e e'.symm
      rw [if_neg e,if_neg e2,h.of]; rfl
  · rcases mem_put' h.keys hx with rfl | ⟨hx,_⟩
    · exact hd'.1
    · exact h.ne x hx
  · rcases mem_put' h.keys hx with rfl | ⟨hx,_⟩
    · exact hd'.2.1
    · exact h.right x hx
  · rcases mem_put' h.keys hx with rfl | ⟨hx,_⟩
    · exact hd'.2.2.1
    · exact h.key x hx
  · rcases mem_put' h.keys hx with rfl | ⟨hx,_⟩
    · exact hd'.2.2.2
    · exact h.due x hx
  · show IntKind.wrap .i64 (S.n+1)≤S.max
    rw [hw]; omega
  · have hls:=h.les s
    show ((cntP s (allP (putL p.key d' S.D)):Nat):Int)≤S.source
    rw [hcnt]
    by_cases e:p.src=s
    · subst e; rw [if_pos rfl]; omega
    · rw [if_neg e]; exact hls
theorem Inv.order (h:Inv S) (hg:getL key S.D=some d) {l':List Pc} (hp:l'.Perm d.l):Inv (setS S key { d with l:=l' }):=by
  have hperm:(allP (putL key { d with l:=l' } S.D)).Perm (allP S.D):=(all_put hg).trans ((hp.append_right _).trans (all_del hg).symm)
  have hm:=getL_some_mem hg
  refine ⟨nodup_put h.keys,h.okeys,?_,fun s=>?_,fun x hx=>?_,fun x hx=>?_,fun x hx=>?_,fun x hx=>?_,h.le,h.big,fun s=>?_⟩
  · show S.n=(((allP (putL key { d with l:=l' } S.D)).length:Nat):Int); rw [h.num,hperm.length_eq]
  · show (getL s S.of).getD 0=((cntP s (allP (putL key { d with l:=l' } S.D)):Nat):Int)
    rw [cnt_perm hperm]; exact h.of s
  · rcases mem_put' h.keys hx with rfl | ⟨hx,_⟩
    · exact fun e=>h.ne _ hm (List.eq_nil_of_length_eq_zero (by rw [← hp.length_eq]; simp only at e; rw [e]; rfl))
    · exact h.ne x hx
  · rcases mem_put' h.keys hx with rfl | ⟨hx,_⟩
    · exact fun y hy=>h.right _ hm y (hp.mem_iff.1 hy)
    · exact h.right x hx
  · rcases mem_put' h.keys hx with rfl | ⟨hx,_⟩
    · exact fun y hy=>h.key _ hm y (hp.mem_iff.1 hy)
    · exact h.key x hx
  · rcases mem_put' h.keys hx with rfl | ⟨hx,_⟩
    · exact h.due (key,d) hm
    · exact h.due x hx
  · show ((cntP s (allP (putL key { d with l:=l' } S.D)):Nat):Int)≤S.source
    rw [cnt_perm hperm]; exact h.les s
theorem get_take {last':Int} {d':Dg}:getL p.key (takeS S p last' d').D=some d':=by unfold takeS; simp only [getL_put,if_true]
theorem get_set {d':Dg}:getL key (setS S key d').D=some d':=by unfold setS; simp only [getL_put,if_true]
end
end Go.Proofs
set_option linter.unusedVariables false
set_option maxRecDepth 20000
namespace Go.Proofs
open Go Go.HL
/-- A piece of the document's, with its datagram's due. -/
abbrev PD:=Pc × Int
def ofL (key:ByteArray) (L:List PD):List PD:=L.filter fun x=>decide (x.1.key=key)
def offL (key:ByteArray) (L:List PD):List PD:=L.filter fun x=>!decide (x.1.key=key)
def okPair (x y:Pc):Bool:=!(decide (x.at_<y.to)&&decide (y.at_<x.to)&&!decide (x.data=e0s)&&!decide (y.data=e0s))&&(x.more||y.more)&&!(!x.more&&decide (y.to > x.to))&&!(!y.more&&decide (x.to > y.to))
def Oks (l:List Pc):Prop:=l.Pairwise fun y x=>okPair x y=true
instance (l:List Pc):Decidable (Oks l):=by unfold Oks; exact inferInstance
def fitD (l:List Pc):Bool:=decide (Oks l)
theorem emp_iff {x:ByteArray}:x=e0s↔x.size=0:=by
  constructor
  · intro h; rw [h]; rfl
  · intro h
    refine ByteArray.ext (Array.ext' ?_)
    have:x.data.toList.length=0:=h
    rw [List.eq_nil_of_length_eq_zero this]; rfl
theorem ok_iff {x y:Pc}:okPair x y=true↔¬ (x.at_<y.to∧y.at_<x.to∧x.data.size≠0∧y.data.size≠0)∧(x.more=true∨y.more=true)∧¬ (x.more=false∧y.to > x.to)∧¬ (y.more=false∧x.to > y.to):=by
  have e:∀ b:ByteArray,decide (b=e0s)=decide (b.size=0):=fun b=>by rw [decide_eq_decide]; exact emp_iff
  unfold okPair
  rw [e,e]
  generalize x.more=mx
  generalize y.more=my
  by_cases h1:x.at_<y.to <;> by_cases h2:y.at_<x.to <;> by_cases h3:x.data.size=0 <;> by_cases h4:y.data.size=0 <;> by_cases h5:y.to > x.to <;> by_cases h6:x.to > y.to <;> cases mx <;> cases my <;>
    simp [h1,h2,h3,h4,h5,h6]
theorem ok_symm {x y:Pc} (h:okPair x y=true):okPair y x=true:=by
  rw [ok_iff] at h ⊢
  obtain ⟨h1,h2,h3,h4⟩:=h
  exact ⟨fun e=>h1 ⟨e.2.1,e.1,e.2.2.2,e.2.2.1⟩,h2.symm,h4,h3⟩
theorem pair_mem {l:List Pc} (h:Oks l) {x y:Pc} (hx:x∈l) (hy:y∈l):x=y∨okPair x y=true:=by
  unfold Oks at h
  induction l with
  | nil=>cases hx
  | cons a l ih=>
    rw [List.pairwise_cons] at h
    rcases List.mem_cons.1 hx with e1 | hx'
    · rcases List.mem_cons.1 hy with e2 | hy'
      · exact .inl (e1.trans e2.symm)
      · rw [e1]; exact .inr (ok_symm (h.1 y hy'))
    · rcases List.mem_cons.1 hy with e2 | hy'
      · rw [e2]; exact .inr (h.1 x hx')
      · exact ih h.2 hx' hy'
theorem Oks.perm {l l':List Pc} (h:Oks l) (hp:l'.Perm l):Oks l':=by
  unfold Oks at *
  exact (List.Perm.pairwise_iff (fun h=>ok_symm h) hp).2 h
/-- The end that is known. -/
def FinOk (fin:Int) (l:List Pc):Prop:=(fin=-1∧∀ x∈l,x.more=true)∨(0≤fin∧(∃ z∈l,z.more=false)∧∀ x∈l,x.to≤fin∧(x.more=false→x.to=fin))
theorem FinOk.perm {fin:Int} {l l':List Pc} (h:FinOk fin l) (hp:l'.Perm l):FinOk fin l':=by
  rcases h with ⟨h1,h2⟩ | ⟨h1,⟨z,hz,hzm⟩,h3⟩
  · exact .inl ⟨h1,fun x hx=>h2 x (hp.mem_iff.1 hx)⟩
  · exact .inr ⟨h1,⟨z,hp.mem_iff.2 hz,hzm⟩,fun x hx=>h3 x (hp.mem_iff.1 hx)⟩
theorem right_to {p:Pc} (h:rightP p=true):p.toW=p.to∧0≤p.at_∧p.to=p.at_+p.data.size∧(p.more=true→0<p.data.size):=by
  obtain ⟨h1,h2,h3,h4,h5⟩:=rightP_iff.1 h
  exact ⟨Pc.toW_eq h1 (by omega) (by omega),h1,rfl,fun hm=>(h5 hm).1⟩
theorem clash_iff {p q:Pc}:clash p q=true↔(p.at_<q.toW∧q.at_<p.toW)∨(p.more=false∧q.toW > p.toW):=by
  unfold clash; simp
theorem fits_iff {fin:Int} {l:List Pc} {p:Pc} (hl:∀ x∈l,rightP x=true) (hp:rightP p=true) (hf:FinOk fin l):fitsQ fin l p=true↔∀ y∈l,okPair p y=true:=by
  obtain ⟨p1,p2,p3,p4⟩:=right_to hp
  have hfq:fitsQ fin l p=true↔¬ (fin≥0∧(p.more=false∨p.toW > fin))∧∀ y∈l,clash p y=false:=by
    unfold fitsQ
    simp only [Bool.and_eq_true,Bool.not_eq_true',Bool.and_eq_false_iff,decide_eq_false_iff_not,Bool.or_eq_false_iff,Bool.not_eq_false',List.any_eq_false,Bool.not_eq_true]
    cases p.more <;> simp <;> omega
  rw [hfq]
  constructor
  · rintro ⟨h1,h2⟩ y hy
    obtain ⟨y1,y2,y3,y4⟩:=right_to (hl y hy)
    have hc:¬ clash p y=true:=by rw [h2 y hy]; simp
    rw [clash_iff,p1,y1] at hc
    rw [p1] at h1
    rw [ok_iff]
    have hfin:y.more=false→0≤fin∧y.to=fin:=fun hm=>by
      rcases hf with ⟨_,g⟩ | ⟨g0,_,g⟩
      · rw [g y hy] at hm; cases hm
      · exact ⟨g0,(g y hy).2 hm⟩
    refine ⟨fun e=>hc (.inl ⟨e.1,e.2.1⟩),?_,fun e=>hc (.inr e),fun e=>?_⟩
    · cases hm:y.more
      · have:=hfin hm
        cases hpm:p.more
        · exact absurd ⟨this.1,.inl hpm⟩ h1
        · exact .inl rfl
      · exact .inr rfl
    · have:=hfin e.1
      exact h1 ⟨this.1,.inr (by omega)⟩
  · intro h
    refine ⟨fun ⟨hf0,hx⟩=>?_,fun y hy=>?_⟩
    · rcases hf with ⟨g,_⟩ | ⟨_,⟨z,hz,hzm⟩,g⟩
      · omega
      · have:=ok_iff.1 (h z hz)
        have hzf:=(g z hz).2 hzm
        rcases this.2.1 with hm | hm
        · rcases hx with hx | hx
          · rw [hm] at hx; cases hx
          · rw [p1] at hx; exact this.2.2.2 ⟨hzm,by omega⟩
        · rw [hzm] at hm; cases hm
    · obtain ⟨y1,y2,y3,y4⟩:=right_to (hl y hy)
      obtain ⟨a1,a2,a3,a4⟩:=ok_iff.1 (h y hy)
      cases hc:clash p y with
      | false=>rfl
      | true=>
        rw [clash_iff,p1,y1] at hc
        exfalso
        rcases hc with ⟨c1,c2⟩ | hc
        · by_cases hz:p.data.size=0
          · have hpm:p.more=false:=by
              cases hm:p.more
              · rfl
              · have:=p4 hm; omega
            exact a3 ⟨hpm,by omega⟩
          · by_cases hz2:y.data.size=0
            · have hym:y.more=false:=by
                cases hm:y.more
                · rfl
                · have:=y4 hm; omega
              exact a4 ⟨hym,by omega⟩
            · exact a1 ⟨c1,c2,hz,hz2⟩
        · exact a3 hc
/-! The data that are joined. -/
def lastD (l:List Pc):Int:=l.foldl (fun a x=>if x.more then a else x.to) (-1)
def scanD (a:Int):List Pc→ByteArray→ByteArray
  | [],d=>d
  | x::l,d=>scanD a l (if x.at_=a∧x.data≠e0s∧(d.size:Int)=a then d++x.data else d)
def loopD (l:List Pc) (last:Int):Nat→ByteArray→Option ByteArray
  | 0,d=>if (d.size:Int)<last then none else some d
  | k+1,d=>if (d.size:Int)<last then (if (scanD d.size l d).size=d.size then none else loopD l last k (scanD d.size l d)) else some d
def joinD (l:List Pc):Option ByteArray:=if lastD l<0 then none else loopD l (lastD l) (lastD l).toNat e0s
def headD (l:List Pc):ByteArray:=l.foldl (fun h x=>if x.at_=0 then x.head else h) e0s
theorem last_fold {fin:Int}:∀ {l:List Pc} (a:Int),(∀ x∈l,x.more=false→x.to=fin)→(l.foldl (fun a x=>if x.more then a else x.to) a=fin∧(∃ z∈l,z.more=false))∨(l.foldl (fun a x=>if x.more then a else x.to) a=a∧∀ x∈l,x.more=true)
  | [],a,_=>.inr ⟨rfl,fun x h=>by cases h⟩
  | x::l,a,h=>by
    rw [List.foldl_cons]
    cases hm:x.more
    · simp only [Bool.false_eq_true,if_false]
      have hx:=h x (by simp) hm
      rcases last_fold (fin:=fin) (l:=l) x.to (fun y hy=>h y (by simp [hy])) with ⟨h1,z,hz,hzm⟩ | ⟨h1,h2⟩
      · exact .inl ⟨h1,z,by simp [hz],hzm⟩
      · exact .inl ⟨by rw [h1,hx],x,by simp,hm⟩
    · simp only [if_true]
      rcases last_fold (fin:=fin) (l:=l) a (fun y hy=>h y (by simp [hy])) with ⟨h1,z,hz,hzm⟩ | ⟨h1,h2⟩
      · exact .inl ⟨h1,z,by simp [hz],hzm⟩
      · refine .inr ⟨h1,fun y hy=>?_⟩
        rcases List.mem_cons.1 hy with rfl | hy
        · exact hm
        · exact h2 y hy
theorem last_eq {fin:Int} {l:List Pc} (h:FinOk fin l):lastD l=fin:=by
  unfold lastD
  rcases h with ⟨h1,h2⟩ | ⟨h1,⟨z,hz,hzm⟩,h3⟩
  · rcases last_fold (fin:=-1) (l:=l) (-1) (fun x hx hm=>by rw [h2 x hx] at hm; cases hm) with ⟨e,_⟩ | ⟨e,_⟩
    · rw [e,h1]
    · rw [e,h1]
  · rcases last_fold (fin:=fin) (l:=l) (-1) (fun x hx hm=>(h3 x hx).2 hm) with ⟨e,_⟩ | ⟨_,e⟩
    · exact e
    · rw [e z hz] at hzm; cases hzm
theorem scan_skip {a:Int}:∀ {l:List Pc} {d:ByteArray},(d.size:Int)≠a→scanD a l d=d
  | [],d,_=>rfl
  | x::l,d,h=>by
    rw [scanD,if_neg (fun e=>h e.2.2)]; exact scan_skip h
theorem scan_none {a:Int}:∀ {l:List Pc} {d:ByteArray},(∀ x∈l,¬ (x.at_=a∧x.data≠e0s))→scanD a l d=d
  | [],d,_=>rfl
  | x::l,d,h=>by
    rw [scanD,if_neg (fun e=>h x (by simp) ⟨e.1,e.2.1⟩)]; exact scan_none fun y hy=>h y (by simp [hy])
theorem scan_some {a:Int} {x:Pc}:∀ {l:List Pc} {d:ByteArray},(d.size:Int)=a→x∈l→x.at_=a→x.data≠e0s→(∀ y∈l,y.at_=a→y.data≠e0s→y=x)→scanD a l d=d++x.data
  | [],d,_,h,_,_,_=>by cases h
  | z::l,d,hd,hx,ha,he,hu=>by
    rw [scanD]
    by_cases hz:z.at_=a∧z.data≠e0s∧(d.size:Int)=a
    · rw [if_pos hz]
      have:=hu z (by simp) hz.1 hz.2.1
      subst this
      rw [scan_skip]
      rw [ByteArray.size_append]
      have:z.data.size≠0:=fun e=>he (emp_iff.2 e)
      omega
    · rw [if_neg hz]
      have hxl:x∈l:=by
        rcases List.mem_cons.1 hx with e | h
        · subst e; exact absurd ⟨ha,he,hd⟩ hz
        · exact h
      exact scan_some hd hxl ha he fun y hy=>hu y (by simp [hy])
theorem join_go {fin:Int} {l:List Pc} (hr:∀ x∈l,rightP x=true) (hok:Oks l) (hf:FinOk fin l) (hf0:0≤fin):∀ (s pre:List Pc) (d:ByteArray) (k:Nat),(pre++s).Perm l→s.Pairwise (fun x y=>ltC cfP y x=false) →
    (∀ x∈pre,x.to≤d.size)→(∀ x∈s,(d.size:Int)≤x.at_)→(d.size:Int)≤fin→fin-d.size≤k →
    ((joinG s d).bind fun w=>if (w.size:Int)=fin then some w else none)=loopD l fin k d:=by
  have hfl:∀ x∈l,x.to≤fin∧(x.more=false→x.to=fin):=by
    rcases hf with ⟨e,_⟩ | ⟨_,_,h⟩
    · omega
    · exact h
  have loop_end:∀ k (d:ByteArray),¬ (d.size:Int)<fin→loopD l fin k d=some d:=fun k d h=>by cases k <;> simp only [loopD,h,if_false]
  have loop_no:∀ k (d:ByteArray),(d.size:Int)<fin→(∀ x∈l,¬ (x.at_=d.size∧x.data≠e0s))→loopD l fin k d=none:=fun k d h h2=>by
    cases k
    · simp only [loopD,h,if_true]
    · simp only [loopD,h,if_true,scan_none h2]
  intro s
  induction s with
  | nil=>
    intro pre d k hp _ hpre _ hd hk
    rw [List.append_nil] at hp
    simp only [joinG,Option.bind_some]
    by_cases he:(d.size:Int)=fin
    · rw [if_pos he,loop_end _ _ (by omega)]
    · rw [if_neg he,loop_no _ _ (by omega)]
      intro x hx ⟨h1,h2⟩
      have:=hpre x (hp.mem_iff.2 hx)
      have h3:x.data.size≠0:=fun e=>h2 (emp_iff.2 e)
      have h4:x.to=x.at_+x.data.size:=rfl
      omega
  | cons x s ih=>
    intro pre d k hp hs hpre hsuf hd hk
    rw [List.pairwise_cons] at hs
    have hxl:x∈l:=hp.mem_iff.1 (by simp)
    have hsl:∀ z∈s,z∈l:=fun z hz=>hp.mem_iff.1 (by simp [hz])
    have hpl:∀ z∈pre,z∈l:=fun z hz=>hp.mem_iff.1 (by simp [hz])
    have hxto:x.to=x.at_+x.data.size:=rfl
    have hxd:=hsuf x (by simp)
    have hp2:((pre++[x])++s).Perm l:=by rw [List.append_assoc]; exact hp
    have hafter:∀ z∈s,x.at_≤z.at_:=fun z hz=>by
      have:=cfP_ltf.1 (hs.1 z hz)
      omega
    have hokl:Oks (pre++x::s):=hok.perm hp
    have hoks:∀ z∈s,okPair x z=true:=fun z hz=>by
      have:=(List.pairwise_append.1 hokl).2.1
      rw [List.pairwise_cons] at this
      exact ok_symm (this.1 z hz)
    rw [joinG]
    by_cases ha:x.at_=d.size
    · rw [if_pos ha]
      by_cases he:x.data=e0s
      ·
        have hz:x.data.size=0:=emp_iff.1 he
        have hm:x.more=false:=by
          cases hm:x.more
          · rfl
          · have:=(right_to (hr x hxl)).2.2.2 hm; omega
        have happ:d++x.data=d:=by rw [he]; exact ByteArray.append_empty
        rw [happ]
        refine ih (pre++[x]) d k hp2 hs.2 (fun z hz'=>?_) (fun z hz'=>hsuf z (by simp [hz'])) hd hk
        rcases List.mem_append.1 hz' with h | h
        · exact hpre z h
        · rw [List.mem_singleton.1 h]; omega
      · have hz:x.data.size≠0:=fun e=>he (emp_iff.2 e)
        have hto:=(hfl x hxl).1
        have hlt:(d.size:Int)<fin:=by omega
        have hsc:scanD d.size l d=d++x.data:=scan_some rfl hxl ha he fun y hy hya hye=>by
          rcases pair_mem hok hy hxl with e | e
          · exact e
          · exfalso
            have hyz:y.data.size≠0:=fun e=>hye (emp_iff.2 e)
            have hyto:y.to=y.at_+y.data.size:=rfl
            exact (ok_iff.1 e).1 ⟨by omega,by omega,hyz,hz⟩
        have hsz:(d++x.data).size=d.size+x.data.size:=ByteArray.size_append
        obtain ⟨k',rfl⟩:∃ k',k=k'+1:=⟨k-1,by omega⟩
        rw [loopD,if_pos hlt,hsc,if_neg (by omega)]
        refine ih (pre++[x]) (d++x.data) k' hp2 hs.2 (fun z hz'=>?_) (fun z hz'=>?_) (by omega) (by omega)
        · rcases List.mem_append.1 hz' with h | h
          · have:=hpre z h; omega
          · rw [List.mem_singleton.1 h]; omega
        · have h1:=hafter z hz'
          obtain ⟨a1,a2,a3,a4⟩:=ok_iff.1 (hoks z hz')
          have hzto:z.to=z.at_+z.data.size:=rfl
          by_cases hze:z.data.size=0
          · have hzm:z.more=false:=by
              cases hm:z.more
              · rfl
              · have:=(right_to (hr z (hsl z hz'))).2.2.2 hm; omega
            have:¬ x.to > z.to:=fun e=>a4 ⟨hzm,e⟩
            omega
          · have:¬ (x.at_<z.to∧z.at_<x.to):=fun e=>a1 ⟨e.1,e.2,hz,hze⟩
            omega
    · rw [if_neg ha]
      have hto:=(hfl x hxl).1
      rw [Option.bind_none,loop_no k d (by omega)]
      intro y hy ⟨h1,h2⟩
      have hyz:y.data.size≠0:=fun e=>h2 (emp_iff.2 e)
      have hyto:y.to=y.at_+y.data.size:=rfl
      rcases List.mem_append.1 (hp.mem_iff.2 hy) with h | h
      · have:=hpre y h; omega
      · rcases List.mem_cons.1 h with rfl | h
        · exact ha h1
        · have:=hafter y h; omega
theorem join_eq {fin:Int} {l l':List Pc} (hr:∀ x∈l,rightP x=true) (hok:Oks l) (hf:FinOk fin l) (hf0:0≤fin) (hp:l'.Perm l) (hs:l'.Pairwise (fun x y=>ltC cfP y x=false)):wholeQ fin l'=joinD l:=by
  unfold joinD
  rw [last_eq hf,if_neg (by omega)]
  have:=join_go hr hok hf hf0 l' [] e0s fin.toNat (by simpa using hp) hs (fun x h=>by cases h) (fun x hx=>by
    have:=(right_to (hr x (hp.mem_iff.1 hx))).2.1
    show ((0:Nat):Int)≤x.at_
    omega) (by show ((0:Nat):Int)≤fin; omega) (by show fin-((0:Nat):Int)≤fin.toNat; omega)
  rw [← this]; rfl
theorem join_more {fin:Int} {l:List Pc} (hf:FinOk fin l) (h:fin<0):joinD l=none:=by
  unfold joinD; rw [last_eq hf,if_pos h]
/-! The head. -/
theorem headQ_none:∀ {l:List Pc},(∀ x∈l,x.at_≠0)→headQ l=e0s
  | [],_=>rfl
  | x::l,h=>by rw [headQ,if_neg (h x (by simp))]; exact headQ_none fun y hy=>h y (by simp [hy])
theorem headQ_some {x:Pc}:∀ {l:List Pc},x∈l→x.at_=0→(∀ y∈l,y.at_=0→y=x)→headQ l=x.head
  | [],h,_,_=>by cases h
  | z::l,h,h0,hu=>by
    rw [headQ]
    by_cases hz:z.at_=0
    · rw [if_pos hz,hu z (by simp) hz]
    · rw [if_neg hz]
      rcases List.mem_cons.1 h with rfl | h
      · exact absurd h0 hz
      · exact headQ_some h h0 fun y hy=>hu y (by simp [hy])
theorem headD_none {h0:ByteArray}:∀ {l:List Pc},(∀ x∈l,x.at_≠0)→l.foldl (fun h x=>if x.at_=0 then x.head else h) h0=h0
  | [],_=>rfl
  | x::l,h=>by rw [List.foldl_cons,if_neg (h x (by simp))]; exact headD_none fun y hy=>h y (by simp [hy])
theorem headD_some {x:Pc}:∀ {l:List Pc} {h0:ByteArray},(x∈l∨h0=x.head)→x.at_=0→(∀ y∈l,y.at_=0→y=x)→l.foldl (fun h x=>if x.at_=0 then x.head else h) h0=x.head
  | [],h0,h,_,_=>by rcases h with h | h; cases h; exact h
  | z::l,h0,h,hx0,hu=>by
    rw [List.foldl_cons]
    refine headD_some ?_ hx0 fun y hy=>hu y (by simp [hy])
    by_cases hz:z.at_=0
    · rw [if_pos hz,hu z (by simp) hz]; exact .inr rfl
    · rw [if_neg hz]
      rcases h with h | h
      · rcases List.mem_cons.1 h with rfl | h
        · exact absurd hx0 hz
        · exact .inl h
      · exact .inr h
theorem at0_one {l:List Pc} (hr:∀ x∈l,rightP x=true) (hok:Oks l) {x y:Pc} (hx:x∈l) (hy:y∈l) (hx0:x.at_=0) (hy0:y.at_=0):y=x:=by
  rcases pair_mem hok hy hx with e | e
  · exact e
  · exfalso
    obtain ⟨a1,a2,a3,a4⟩:=ok_iff.1 e
    have e1:x.to=x.at_+x.data.size:=rfl
    have e2:y.to=y.at_+y.data.size:=rfl
    have m1:x.data.size=0→x.more=false:=fun h=>by
      cases hm:x.more
      · rfl
      · have:=(right_to (hr x hx)).2.2.2 hm; omega
    have m2:y.data.size=0→y.more=false:=fun h=>by
      cases hm:y.more
      · rfl
      · have:=(right_to (hr y hy)).2.2.2 hm; omega
    by_cases h1:x.data.size=0
    · by_cases h2:y.data.size=0
      · rcases a2 with h | h
        · rw [m2 h2] at h; cases h
        · rw [m1 h1] at h; cases h
      · exact a4 ⟨m1 h1,by omega⟩
    · by_cases h2:y.data.size=0
      · exact a3 ⟨m2 h2,by omega⟩
      · exact a1 ⟨by omega,by omega,h2,h1⟩
theorem head_eq {l l':List Pc} (hr:∀ x∈l,rightP x=true) (hok:Oks l) (hp:l'.Perm l):headQ l'=headD l:=by
  by_cases h:∃ x∈l,x.at_=0
  · obtain ⟨x,hx,hx0⟩:=h
    have hu:∀ y∈l,y.at_=0→y=x:=fun y hy hy0=>at0_one hr hok hx hy hx0 hy0
    unfold headD
    rw [headD_some (.inl hx) hx0 hu]
    exact headQ_some (hp.mem_iff.2 hx) hx0 fun y hy=>hu y (hp.mem_iff.1 hy)
  · have hn:∀ x∈l,x.at_≠0:=fun x hx e=>h ⟨x,hx,e⟩
    unfold headD
    rw [headD_none hn]
    exact headQ_none fun x hx=>hn x (hp.mem_iff.1 hx)
end Go.Proofs
set_option linter.unusedVariables false
set_option maxRecDepth 20000
namespace Go.Proofs
open Go Go.HL
/-- The keys in the order in which they came. -/
def keysD (L:List PD):List ByteArray:=L.foldl (fun out x=>if x.1.key∈out then out else out++[x.1.key]) []
theorem keysD_snoc (L:List PD) (x:PD):keysD (L++[x])=if x.1.key∈keysD L then keysD L else keysD L++[x.1.key]:=by
  unfold keysD; rw [List.foldl_append]; rfl
theorem snoc_ind {α:Type} {P:List α→Prop} (h0:P []) (h1:∀ l x,P l→P (l++[x])):∀ l,P l:=by
  intro l
  have:∀ r:List α,P r.reverse:=fun r=>by
    induction r with
    | nil=>exact h0
    | cons a r ih=>rw [List.reverse_cons]; exact h1 _ _ ih
  have:=this l.reverse
  rwa [List.reverse_reverse] at this
theorem mem_keysD {k:ByteArray}:∀ {L:List PD},k∈keysD L↔∃ x∈L,x.1.key=k:=by
  intro L
  induction L using snoc_ind with
  | h0=>simp [keysD]
  | h1 l x ih=>
    rw [keysD_snoc]
    by_cases h:x.1.key∈keysD l
    · rw [if_pos h]
      constructor
      · intro hk
        obtain ⟨y,hy,e⟩:=ih.1 hk
        exact ⟨y,by simp [hy],e⟩
      · rintro ⟨y,hy,e⟩
        rcases List.mem_append.1 hy with hy | hy
        · exact ih.2 ⟨y,hy,e⟩
        · rw [List.mem_singleton.1 hy] at e; rw [← e]; exact h
    · rw [if_neg h,List.mem_append,List.mem_singleton,ih]
      constructor
      · rintro (⟨y,hy,e⟩ | e)
        · exact ⟨y,by simp [hy],e⟩
        · exact ⟨x,by simp,e.symm⟩
      · rintro ⟨y,hy,e⟩
        rcases List.mem_append.1 hy with hy | hy
        · exact .inl ⟨y,hy,e⟩
        · rw [List.mem_singleton.1 hy] at e; exact .inr e.symm
theorem keysD_off {k:ByteArray}:∀ L:List PD,keysD (offL k L)=(keysD L).filter fun x=>!decide (x=k):=by
  intro L
  induction L using snoc_ind with
  | h0=>rfl
  | h1 l x ih=>
    have e:offL k (l++[x])=offL k l++if x.1.key=k then [] else [x]:=by
      unfold offL; rw [List.filter_append]
      by_cases h:x.1.key=k <;> simp [h]
    rw [e,keysD_snoc]
    by_cases h:x.1.key=k
    · rw [if_pos h,List.append_nil,ih]
      split
      · rfl
      · rw [List.filter_append]; simp [h]
    · rw [if_neg h,keysD_snoc,ih]
      by_cases hm:x.1.key∈keysD l
      · rw [if_pos hm,if_pos (List.mem_filter.2 ⟨hm,by simpa using h⟩)]
      · rw [if_neg hm,if_neg (fun h'=>hm (List.mem_filter.1 h').1),List.filter_append]; simp [h]
theorem nodup_keysD:∀ L:List PD,(keysD L).Nodup:=by
  intro L
  induction L using snoc_ind with
  | h0=>exact .nil
  | h1 l x ih=>
    rw [keysD_snoc]
    split
    · exact ih
    · rename_i h
      refine List.nodup_append.2 ⟨ih,by simp,?_⟩
      intro a ha b hb
      rw [List.mem_singleton.1 hb]
      exact fun e=>h (e▸ha)
theorem of_snoc {k:ByteArray} {L:List PD} {x:PD}:ofL k (L++[x])=ofL k L++if x.1.key=k then [x] else []:=by
  unfold ofL; rw [List.filter_append]
  by_cases h:x.1.key=k <;> simp [h]
theorem of_off {k k':ByteArray} {L:List PD} (h:k'≠k):ofL k' (offL k L)=ofL k' L:=by
  unfold ofL offL
  rw [List.filter_filter]
  refine List.filter_congr fun x _=>?_
  by_cases e:x.1.key=k'
  · rw [e]; simp [h]
  · simp [e]
theorem of_off_perm {k:ByteArray} {L:List PD}:(ofL k L++offL k L).Perm L:=by
  unfold ofL offL
  exact List.filter_append_perm _ L
/-- A store and the document's list. -/
structure Rel (S:Stt) (L:List PD):Prop where
  inv:Inv S
  perm:∀ x∈S.D,x.2.l.Perm ((ofL x.1 L).map (·.1))
  mem:∀ y∈L,∃ x∈S.D,x.1=y.1.key
  due:∀ x∈S.D,∀ y∈ofL x.1 L,y.2=x.2.due
  oks:∀ x∈S.D,Oks x.2.l
  fin:∀ x∈S.D,FinOk x.2.fin x.2.l
  all:(allP S.D).Perm (L.map (·.1))
  ord:(keysD L).Pairwise fun a b=>∀ x∈S.D,∀ y∈S.D,x.1=a→y.1=b→x.2.id<y.2.id
  last:∀ x∈S.D,x.2.id≤S.last
section
variable {S:Stt} {L:List PD} {p:Pc} {due:Int} {key:ByteArray} {d:Dg}
theorem Rel.keys (h:Rel S L) {k:ByteArray}:k∈keysD L↔∃ x∈S.D,x.1=k:=by
  rw [mem_keysD]
  constructor
  · rintro ⟨y,hy,rfl⟩; exact h.mem y hy
  · rintro ⟨x,hx,rfl⟩
    have hne:=h.inv.ne x hx
    have hp:=h.perm x hx
    have:(ofL x.1 L)≠[]:=fun e=>by rw [e] at hp; exact hne (List.perm_nil.1 hp)
    obtain ⟨y,hy⟩:=List.exists_mem_of_ne_nil _ this
    unfold ofL at hy
    obtain ⟨h1,h2⟩:=List.mem_filter.1 hy
    exact ⟨y,h1,by simpa using h2⟩
theorem Rel.none (h:Rel S L) (hg:getL key S.D=none):ofL key L=[]:=by
  refine List.eq_nil_iff_forall_not_mem.2 fun y hy=>?_
  unfold ofL at hy
  obtain ⟨h1,h2⟩:=List.mem_filter.1 hy
  obtain ⟨x,hx,e⟩:=h.mem y h1
  have:y.1.key=key:=by simpa using h2
  exact getL_none.1 hg (List.mem_map.2 ⟨x,hx,e.trans this⟩)
theorem Rel.empty {max source:Int} (h1:1≤max) (h2:max≤65536) (h3:1≤source):Rel ⟨max,source,0,0,[],[]⟩ []:=
  ⟨.empty h1 h2 h3,fun _ h=>(by cases h),fun _ h=>(by cases h),fun _ h=>(by cases h),fun _ h=>(by cases h),fun _ h=>(by cases h),.refl _,.nil,fun _ h=>(by cases h)⟩
theorem Rel.cut (h:Rel S L) (hg:getL key S.D=some d):Rel (cutS S key d) (offL key L):=by
  have hm:∀ {x},x∈delL key S.D→x∈S.D∧x.1≠key:=fun hx=>mem_del h.inv.keys hx
  have hd:=getL_some_mem hg
  refine ⟨h.inv.cut hg,fun x hx=>?_,fun y hy=>?_,fun x hx=>?_,fun x hx=>h.oks x (hm hx).1,fun x hx=>h.fin x (hm hx).1,?_,?_,fun x hx=>h.last x (hm hx).1⟩
  · rw [of_off (hm hx).2]; exact h.perm x (hm hx).1
  · unfold offL at hy
    obtain ⟨h1,h2⟩:=List.mem_filter.1 hy
    have hne:y.1.key≠key:=by simpa using h2
    obtain ⟨x,hx,e⟩:=h.mem y h1
    refine ⟨x,?_,e⟩
    have:getL x.1 (delL key S.D)=some x.2:=by rw [getL_del h.inv.keys,if_neg (by rw [e]; exact hne)]; exact getL_of_mem h.inv.keys hx
    exact getL_some_mem this
  · rw [of_off (hm hx).2]; exact h.due x (hm hx).1
  · have h1:=all_del hg
    have h2:(L.map (·.1)).Perm ((ofL key L).map (·.1)++(offL key L).map (·.1)):=by rw [← List.map_append]; exact (of_off_perm.symm).map _
    have h3:=(h1.symm.trans h.all).trans h2
    have h4:(d.l++(offL key L).map (·.1)).Perm ((ofL key L).map (·.1)++(offL key L).map (·.1)):=(h.perm _ hd).append_right _
    exact (List.perm_append_left_iff _).1 (h3.trans h4.symm)
  · rw [keysD_off]
    exact (h.ord.filter _).imp fun {a b} hab x hx y hy=>hab x (hm hx).1 y (hm hy).1
theorem Rel.order (h:Rel S L) (hg:getL key S.D=some d) {l':List Pc} (hp:l'.Perm d.l):Rel (setS S key { d with l:=l' }) L:=by
  have hd:=getL_some_mem hg
  have hm:∀ {x},x∈putL key { d with l:=l' } S.D→∃ y∈S.D,y.1=x.1∧y.2.id=x.2.id∧y.2.due=x.2.due∧y.2.fin=x.2.fin∧x.2.l.Perm y.2.l:=fun hx=>by
    rcases mem_put' h.inv.keys hx with rfl | ⟨hx,_⟩
    · exact ⟨_,hd,rfl,rfl,rfl,rfl,hp⟩
    · exact ⟨_,hx,rfl,rfl,rfl,rfl,.refl _⟩
  refine ⟨h.inv.order hg hp,fun x hx=>?_,fun y hy=>?_,fun x hx=>?_,fun x hx=>?_,fun x hx=>?_,?_,?_,fun x hx=>?_⟩
  · obtain ⟨y,hy,e1,_,_,_,e5⟩:=hm hx
    rw [← e1]; exact e5.trans (h.perm y hy)
  · obtain ⟨x,hx,e⟩:=h.mem y hy
    by_cases hk:x.1=key
    · exact ⟨(key,{ d with l:=l' }),getL_some_mem get_set,by rw [← hk]; exact e⟩
    · refine ⟨x,?_,e⟩
      have:getL x.1 (putL key { d with l:=l' } S.D)=some x.2:=by rw [getL_put,if_neg hk]; exact getL_of_mem h.inv.keys hx
      exact getL_some_mem this
  · obtain ⟨y,hy,e1,_,e3,_,_⟩:=hm hx
    rw [← e1,← e3]; exact h.due y hy
  · obtain ⟨y,hy,_,_,_,_,e5⟩:=hm hx
    exact (h.oks y hy).perm e5
  · obtain ⟨y,hy,_,_,_,e4,e5⟩:=hm hx
    rw [← e4]; exact (h.fin y hy).perm e5
  · exact ((all_put hg).trans ((hp.append_right _).trans (all_del hg).symm)).trans h.all
  · refine h.ord.imp fun {a b} hab x hx y hy ea eb=>?_
    obtain ⟨x',hx',e1,e2,_⟩:=hm hx
    obtain ⟨y',hy',f1,f2,_⟩:=hm hy
    have:=hab x' hx' y' hy' (e1.trans ea) (f1.trans eb)
    omega
  · obtain ⟨y,hy,_,e2,_⟩:=hm hx
    rw [← e2]; exact h.last y hy
def dueD (key:ByteArray) (L:List PD) (due:Int):Int:=match ofL key L with
  | []=>due
  | y::_=>y.2
theorem fin_new (hr:rightP p=true):FinOk (if p.more then -1 else p.toW) [p]:=by
  obtain ⟨p1,p2,p3,p4⟩:=right_to hr
  cases hm:p.more
  · simp only [Bool.false_eq_true,if_false,p1]
    refine .inr ⟨by omega,⟨p,by simp,hm⟩,fun x hx=>?_⟩
    rw [List.mem_singleton.1 hx]; exact ⟨Int.le_refl _,fun _=>rfl⟩
  · exact .inl ⟨rfl,fun x hx=>by rw [List.mem_singleton.1 hx]; exact hm⟩
theorem fin_add {l:List Pc} {fin:Int} (hl:∀ x∈l,rightP x=true) (hr:rightP p=true) (hf:FinOk fin l) (hfit:∀ y∈l,okPair p y=true):FinOk (if p.more then fin else p.toW) (l++[p]):=by
  obtain ⟨p1,p2,p3,p4⟩:=right_to hr
  cases hm:p.more
  · simp only [Bool.false_eq_true,if_false,p1]
    have hall:∀ x∈l,x.more=true∧x.to≤p.to:=fun x hx=>by
      obtain ⟨_,a2,a3,_⟩:=ok_iff.1 (hfit x hx)
      refine ⟨?_,?_⟩
      · rcases a2 with h | h
        · rw [hm] at h; cases h
        · exact h
      · have:¬ x.to > p.to:=fun e=>a3 ⟨hm,e⟩
        omega
    refine .inr ⟨by omega,⟨p,by simp,hm⟩,fun x hx=>?_⟩
    rcases List.mem_append.1 hx with hx | hx
    · refine ⟨(hall x hx).2,fun h=>?_⟩
      rw [(hall x hx).1] at h; cases h
    · rw [List.mem_singleton.1 hx]; exact ⟨Int.le_refl _,fun _=>rfl⟩
  · simp only [if_true]
    rcases hf with ⟨h1,h2⟩ | ⟨h1,⟨z,hz,hzm⟩,h3⟩
    · refine .inl ⟨h1,fun x hx=>?_⟩
      rcases List.mem_append.1 hx with hx | hx
      · exact h2 x hx
      · rw [List.mem_singleton.1 hx]; exact hm
    · refine .inr ⟨h1,⟨z,by simp [hz],hzm⟩,fun x hx=>?_⟩
      rcases List.mem_append.1 hx with hx | hx
      · exact h3 x hx
      · rw [List.mem_singleton.1 hx]
        obtain ⟨_,_,_,a4⟩:=ok_iff.1 (hfit z hz)
        have hzf:=(h3 z hz).2 hzm
        have:¬ p.to > z.to:=fun e=>a4 ⟨hzm,e⟩
        exact ⟨by omega,fun h=>by rw [hm] at h; cases h⟩
theorem Rel.take (h:Rel S L) (hr:rightP p=true) (hd:okDue due) (hroom:Room S p) (hm:S.n<S.max) (hs:(getL p.src S.of).getD 0<S.source) (hlast:0≤S.last∧S.last≤1000000000) {last':Int} {d':Dg} (ht:Took S p due last' d') :
    Rel (takeS S p last' d') (L++[(p,dueD p.key L due)])∧(last'=S.last∨last'=S.last+1):=by
  have w1:IntKind.wrap .i64 (S.last+1)=S.last+1:=w64 (by omega) (by omega)
  have key:d'.l.Perm ((ofL p.key L).map (·.1)++[p])∧d'.due=dueD p.key L due∧(∀ y∈ofL p.key L,y.2=d'.due)∧Oks d'.l∧FinOk d'.fin d'.l∧(last'=S.last∨last'=S.last+1)∧d'.id≤last' ∧
      ((getL p.key S.D=Option.none∧S.last<d'.id)∨∃ d,getL p.key S.D=some d∧d'.id=d.id):=by
    rcases ht with ⟨hg,h1,h2,h3,h4,h5⟩ | ⟨d,hg,h1,h2,h3,h4,h5⟩
    · have ho:=h.none hg
      rw [ho,h1,h2,h1,h3,h4,h5,w1]
      refine ⟨.refl _,(by unfold dueD; rw [ho]),(fun y hy=>(by cases hy)),?_,fin_new hr,.inr rfl,Int.le_refl _,.inl ⟨hg,(by omega)⟩⟩
      unfold Oks; simp
    · have hdm:=getL_some_mem hg
      unfold Room at hroom
      rw [hg] at hroom
      have hfit:=(fits_iff (h.inv.right _ hdm) hr (h.fin _ hdm)).1 hroom.2
      have hperm:=h.perm _ hdm
      have hdue:d.due=dueD p.key L due:=by
        unfold dueD
        cases ho:ofL p.key L with
        | nil=>
          simp only [ho,List.map_nil] at hperm
          exact absurd (List.perm_nil.1 hperm) (h.inv.ne _ hdm)
        | cons y l=>exact (h.due _ hdm y (by simp only [ho]; simp)).symm
      rw [h1,h2,h3,h4,h5]
      refine ⟨hperm.append_right _,hdue,h.due _ hdm,?_,fin_add (h.inv.right _ hdm) hr (h.fin _ hdm) hfit,.inl rfl,h.last _ hdm,.inr ⟨d,hg,rfl⟩⟩
      have hok:=h.oks _ hdm
      unfold Oks at hok ⊢
      rw [List.pairwise_append]
      refine ⟨hok,by simp,fun a ha b hb=>?_⟩
      rw [List.mem_singleton.1 hb]; exact hfit a ha
  obtain ⟨k1,k2,k3,k4,k5,k6,k7,k8⟩:=key
  refine ⟨⟨h.inv.take hr hd hm hs ht,fun x hx=>?_,fun y hy=>?_,fun x hx=>?_,fun x hx=>?_,fun x hx=>?_,?_,?_,fun x hx=>?_⟩,k6⟩
  · rw [of_snoc]
    rcases mem_put' h.inv.keys hx with rfl | ⟨hx,hne⟩
    · simp only [if_true,List.map_append,List.map_cons,List.map_nil]; exact k1
    · rw [if_neg (fun e=>hne e.symm),List.append_nil]; exact h.perm x hx
  · rcases List.mem_append.1 hy with hy | hy
    · obtain ⟨x,hx,e⟩:=h.mem y hy
      by_cases hk:x.1=p.key
      · exact ⟨(p.key,d'),getL_some_mem get_take,by rw [← e,hk]⟩
      · refine ⟨x,?_,e⟩
        have:getL x.1 (putL p.key d' S.D)=some x.2:=by rw [getL_put,if_neg hk]; exact getL_of_mem h.inv.keys hx
        exact getL_some_mem this
    · rw [List.mem_singleton.1 hy]; exact ⟨(p.key,d'),getL_some_mem get_take,rfl⟩
  · rw [of_snoc]
    rcases mem_put' h.inv.keys hx with rfl | ⟨hx,hne⟩
    · simp only [if_true]
      intro y hy
      rcases List.mem_append.1 hy with hy | hy
      · exact k3 y hy
      · rw [List.mem_singleton.1 hy]; exact k2.symm
    · rw [if_neg (fun e=>hne e.symm),List.append_nil]; exact h.due x hx
  · rcases mem_put' h.inv.keys hx with rfl | ⟨hx,_⟩
    · exact k4
    · exact h.oks x hx
  · rcases mem_put' h.inv.keys hx with rfl | ⟨hx,_⟩
    · exact k5
    · exact h.fin x hx
  · have hperm:(allP (putL p.key d' S.D)).Perm (allP S.D++[p]):=by
      rcases ht with ⟨hg,_,_,_,_,hl⟩ | ⟨d,hg,_,_,_,_,hl⟩
      · rw [all_new hg,hl]
      · refine (all_put hg).trans ?_
        rw [hl,List.append_assoc]
        refine List.Perm.trans ?_ ((all_del hg).symm.append_right [p])
        rw [List.append_assoc]
        exact (List.perm_append_comm).append_left _
    rw [List.map_append]
    exact hperm.trans (h.all.append_right _)
  · rw [keysD_snoc]
    have old:∀ {x},x∈putL p.key d' S.D→x.1∈keysD L→∃ x'∈S.D,x'.1=x.1∧x'.2.id=x.2.id:=fun {x} hx hk=>by
      rcases mem_put' h.inv.keys hx with rfl | ⟨hx,_⟩
      · obtain ⟨x',hx',e⟩:=h.keys.1 hk
        rcases k8 with ⟨hg,_⟩ | ⟨d,hg,e2⟩
        · exact absurd (List.mem_map.2 ⟨x',hx',e⟩) (getL_none.1 hg)
        · exact ⟨(p.key,d),getL_some_mem hg,rfl,e2.symm⟩
      · exact ⟨x,hx,rfl,rfl⟩
    have hpw:(keysD L).Pairwise fun a b=>∀ x∈putL p.key d' S.D,∀ y∈putL p.key d' S.D,x.1=a→y.1=b→x.2.id<y.2.id:=by
      refine h.ord.imp_of_mem fun {a b} ha hb hab x hx y hy ea eb=>?_
      obtain ⟨x',hx',e1,e2⟩:=old hx (ea▸ha)
      obtain ⟨y',hy',f1,f2⟩:=old hy (eb▸hb)
      have:=hab x' hx' y' hy' (e1.trans ea) (f1.trans eb)
      omega
    split
    · exact hpw
    · rename_i hnk
      rw [List.pairwise_append]
      refine ⟨hpw,by simp,fun a ha b hb x hx y hy ea eb=>?_⟩
      rw [List.mem_singleton] at hb
      subst hb
      obtain ⟨x',hx',e1,e2⟩:=old hx (ea▸ha)
      have hxl:=h.last x' hx'
      have hy':y=(p.key,d'):=by
        rcases mem_put' h.inv.keys hy with e | ⟨_,e⟩
        · exact e
        · exact absurd eb e
      rw [hy']
      rcases k8 with ⟨_,h1⟩ | ⟨d,hg,_⟩
      · show x.2.id<d'.id; omega
      · exact absurd (h.keys.2 ⟨_,getL_some_mem hg,rfl⟩) hnk
  · show x.2.id≤last'
    rcases mem_put' h.inv.keys hx with rfl | ⟨hx,_⟩
    · exact k7
    · have:=h.last x hx; omega
instance okDue_dec (due:Int):Decidable (okDue due):=inferInstanceAs (Decidable (0≤due∧due≤4611686018427387904))
/-- The document's Put. -/
def putD (max source:Int) (L:List PD) (p:Pc) (due:Int):List Value × Bool × Int × List PD:=
  if ¬ okDue due then (zeroW,false,1,L) else
  if rightP p=false then (zeroW,false,8,L) else
  if ((ofL p.key L).map (·.1)).any (sameP p)=true then (zeroW,false,0,L) else
  if fitD ((ofL p.key L).map (·.1)++[p])=false then (zeroW,false,5,offL p.key L) else
  if ofL p.key L=[]∧p.at_=0∧p.more=false then (wh p.key p.head p.data 1,true,0,L) else
  if (L.length:Int)≥max then (zeroW,false,6,L) else
  if (cntP p.src (L.map (·.1)):Int)≥source then (zeroW,false,11,L) else
  match joinD ((ofL p.key (L++[(p,dueD p.key L due)])).map (·.1)) with
  | none=>(zeroW,false,0,L++[(p,dueD p.key L due)])
  | some w=>(wh p.key (headD ((ofL p.key (L++[(p,dueD p.key L due)])).map (·.1))) w ((ofL p.key (L++[(p,dueD p.key L due)])).length:Nat),true,0,offL p.key (L++[(p,dueD p.key L due)]))
theorem any_perm {l l':List Pc} {f:Pc→Bool} (h:l.Perm l'):l.any f=l'.any f:=by
  rw [Bool.eq_iff_iff,List.any_eq_true,List.any_eq_true]
  exact ⟨fun ⟨x,hx,e⟩=>⟨x,h.mem_iff.1 hx,e⟩,fun ⟨x,hx,e⟩=>⟨x,h.mem_iff.2 hx,e⟩⟩
theorem fitD_app {l:List Pc} (h:Oks l):fitD (l++[p])=true↔∀ y∈l,okPair p y=true:=by
  have e:fitD (l++[p])=true↔Oks (l++[p]):=by unfold fitD; exact decide_eq_true_iff
  rw [e]
  unfold Oks at *
  rw [List.pairwise_append]
  constructor
  · exact fun ⟨_,_,h3⟩ y hy=>h3 y hy p (by simp)
  · refine fun h3=>⟨h,by simp,fun a ha b hb=>?_⟩
    rw [List.mem_singleton.1 hb]; exact h3 a ha
theorem put_rel (h:Rel S L) (hlast:0≤S.last∧S.last≤1000000000) {w:List Value} {b:Bool} {e:Int} {S':Stt} (hp:PutR S p due w b e S') :
    ∃ L',putD S.max S.source L p due=(w,b,e,L')∧Rel S' L'∧(S'.last=S.last∨S'.last=S.last+1)∧S'.max=S.max∧S'.source=S.source:=by
  have hLn:(L.length:Int)=S.n:=by rw [h.inv.num,h.all.length_eq,List.length_map]
  have hcnt:(cntP p.src (L.map (·.1)):Int)=(getL p.src S.of).getD 0:=by rw [h.inv.of,cnt_perm h.all]
  have there:∀ {d},getL p.key S.D=some d→((ofL p.key L).map (·.1)).any (sameP p)=d.l.any (sameP p)∧Oks ((ofL p.key L).map (·.1))∧ofL p.key L≠[]∧(∀ y,y∈(ofL p.key L).map (·.1)↔y∈d.l):=fun {d} hg=>by
    have hd:=getL_some_mem hg
    have hpm:=h.perm _ hd
    refine ⟨any_perm hpm.symm,(h.oks _ hd).perm hpm.symm,fun e=>?_,fun y=>hpm.symm.mem_iff⟩
    simp only [e,List.map_nil] at hpm
    exact h.inv.ne _ hd (List.perm_nil.1 hpm)
  have room:Room S p→rightP p=true→((ofL p.key L).map (·.1)).any (sameP p)=false∧fitD ((ofL p.key L).map (·.1)++[p])=true∧¬ (ofL p.key L=[]∧p.at_=0∧p.more=false):=fun hr hri=>by
    unfold Room at hr
    cases hg:getL p.key S.D with
    | none=>
      rw [hg] at hr
      have ho:=h.none hg
      rw [ho]
      refine ⟨rfl,?_,fun e=>hr e.2⟩
      unfold fitD Oks; simp
    | some d=>
      rw [hg] at hr
      obtain ⟨t1,t2,t3,t4⟩:=there hg
      have hd:=getL_some_mem hg
      refine ⟨t1.trans hr.1,(fitD_app t2).2 fun y hy=>?_,fun e=>t3 e.1⟩
      exact (fits_iff (h.inv.right _ hd) hri (h.fin _ hd)).1 hr.2 y ((t4 y).1 hy)
  cases hp with
  | arg h1=>exact ⟨L,by unfold putD; rw [if_pos h1],h,.inl rfl,rfl,rfl⟩
  | form h1 h2=>exact ⟨L,by unfold putD; rw [if_neg (not_not_intro h1),if_pos h2],h,.inl rfl,rfl,rfl⟩
  | again d h1 h2 hg h3=>
    exact ⟨L,by unfold putD; rw [if_neg (not_not_intro h1),if_neg (by rw [h2]; simp),if_pos ((there hg).1.trans h3)],h,.inl rfl,rfl,rfl⟩
  | clash d h1 h2 hg h3 h4=>
    obtain ⟨t1,t2,t3,t4⟩:=there hg
    have hd:=getL_some_mem hg
    have hf:fitD ((ofL p.key L).map (·.1)++[p])=false:=by
      cases hf:fitD ((ofL p.key L).map (·.1)++[p])
      · rfl
      · have:=(fits_iff (h.inv.right _ hd) h2 (h.fin _ hd)).2 fun y hy=>(fitD_app t2).1 hf y ((t4 y).2 hy)
        rw [this] at h4; cases h4
    exact ⟨offL p.key L,by unfold putD; rw [if_neg (not_not_intro h1),if_neg (by rw [h2]; simp),if_neg (by rw [t1,h3]; simp),if_pos hf],h.cut hg,.inl rfl,rfl,rfl⟩
  | alone h1 h2 hg h3 h4=>
    have ho:=h.none hg
    refine ⟨L,?_,h,.inl rfl,rfl,rfl⟩
    unfold putD
    rw [if_neg (not_not_intro h1),if_neg (by rw [h2]; simp),ho,if_neg (by simp),if_neg (by unfold fitD Oks; simp),if_pos ⟨rfl,h3,h4⟩]
  | full h1 h2 hr h3=>
    obtain ⟨r1,r2,r3⟩:=room hr h2
    refine ⟨L,?_,h,.inl rfl,rfl,rfl⟩
    unfold putD
    rw [if_neg (not_not_intro h1),if_neg (by rw [h2]; simp),if_neg (by rw [r1]; simp),if_neg (by rw [r2]; simp),if_neg r3,if_pos (by omega)]
  | state h1 h2 hr h3 h4=>
    obtain ⟨r1,r2,r3⟩:=room hr h2
    refine ⟨L,?_,h,.inl rfl,rfl,rfl⟩
    unfold putD
    rw [if_neg (not_not_intro h1),if_neg (by rw [h2]; simp),if_neg (by rw [r1]; simp),if_neg (by rw [r2]; simp),if_neg r3,if_neg (by omega),if_pos (by omega)]
  | part d' last' h1 h2 hr h3 h4 ht h5=>
    obtain ⟨r1,r2,r3⟩:=room hr h2
    obtain ⟨hR,hl⟩:=h.take h2 h1 hr h3 h4 hlast ht
    have hd':(p.key,d')∈(takeS S p last' d').D:=getL_some_mem get_take
    have hj:joinD ((ofL p.key (L++[(p,dueD p.key L due)])).map (·.1))=Option.none:=join_more ((hR.fin _ hd').perm (hR.perm _ hd').symm) h5
    refine ⟨_,?_,hR,hl,rfl,rfl⟩
    unfold putD
    rw [if_neg (not_not_intro h1),if_neg (by rw [h2]; simp),if_neg (by rw [r1]; simp),if_neg (by rw [r2]; simp),if_neg r3,if_neg (by omega),if_neg (by omega),hj]
  | none d' last' l' h1 h2 hr h3 h4 ht h5 h6 h7 h8=>
    obtain ⟨r1,r2,r3⟩:=room hr h2
    obtain ⟨hR,hl⟩:=h.take h2 h1 hr h3 h4 hlast ht
    have hd':(p.key,d')∈(takeS S p last' d').D:=getL_some_mem get_take
    have hpm:=hR.perm _ hd'
    have hj:joinD ((ofL p.key (L++[(p,dueD p.key L due)])).map (·.1))=Option.none:=by
      rw [← join_eq (fun x hx=>hR.inv.right _ hd' x (hpm.mem_iff.2 hx)) ((hR.oks _ hd').perm hpm.symm) ((hR.fin _ hd').perm hpm.symm) h5 (h6.trans hpm) h7]
      exact h8
    refine ⟨_,?_,hR.order get_take h6,hl,rfl,rfl⟩
    unfold putD
    rw [if_neg (not_not_intro h1),if_neg (by rw [h2]; simp),if_neg (by rw [r1]; simp),if_neg (by rw [r2]; simp),if_neg r3,if_neg (by omega),if_neg (by omega),hj]
  | whole d' last' l' w h1 h2 hr h3 h4 ht h5 h6 h7 h8=>
    obtain ⟨r1,r2,r3⟩:=room hr h2
    obtain ⟨hR,hl⟩:=h.take h2 h1 hr h3 h4 hlast ht
    have hd':(p.key,d')∈(takeS S p last' d').D:=getL_some_mem get_take
    have hpm:=hR.perm _ hd'
    have hri:∀ x∈(ofL p.key (L++[(p,dueD p.key L due)])).map (·.1),rightP x=true:=fun x hx=>hR.inv.right _ hd' x (hpm.mem_iff.2 hx)
    have hoks:=(hR.oks _ hd').perm hpm.symm
    have hj:joinD ((ofL p.key (L++[(p,dueD p.key L due)])).map (·.1))=some w:=by
      rw [← join_eq hri hoks ((hR.fin _ hd').perm hpm.symm) h5 (h6.trans hpm) h7]
      exact h8
    have hh:=head_eq hri hoks hpm
    have hlen:d'.l.length=(ofL p.key (L++[(p,dueD p.key L due)])).length:=by
      have:=hpm.length_eq; simpa using this
    refine ⟨_,?_,(hR.order get_take h6).cut get_set,hl,rfl,rfl⟩
    unfold putD
    simp only at hh
    rw [if_neg (not_not_intro h1),if_neg (by rw [h2]; simp),if_neg (by rw [r1]; simp),if_neg (by rw [r2]; simp),if_neg r3,if_neg (by omega),if_neg (by omega),hj,hh,hlen]
/-! What is due. -/
def sooner (x:ByteArray × Int):Option (ByteArray × Int)→Bool
  | none=>true
  | some y=>decide (x.2<y.2)
def pickD (now:Int):List (ByteArray × Int)→Option (ByteArray × Int)→Option (ByteArray × Int)
  | [],b=>b
  | x::l,b=>pickD now l (if x.2≤now∧sooner x b=true then some x else b)
def duesD (L:List PD):List (ByteArray × Int):=(keysD L).map fun k=>(k,dueD k L 0)
inductive PopD (now:Int):List PD→List (List Value)→List PD→Prop
  | stop {L:List PD}:pickD now (duesD L) none=none→PopD now L [] L
  | step {L L':List PD} {out:List (List Value)} (k:ByteArray) (t:Int):pickD now (duesD L) none=some (k,t)→PopD now (offL k L) out L'→PopD now L (wh k (headD ((ofL k L).map (·.1))) e0s (ofL k L).length::out) L'
theorem pick_app {now:Int}:∀ {a b:List (ByteArray × Int)} {o},pickD now (a++b) o=pickD now b (pickD now a o)
  | [],_,_=>rfl
  | x::a,b,o=>by rw [List.cons_append,pickD,pickD]; exact pick_app
theorem pick_mem {now:Int}:∀ {a:List (ByteArray × Int)} {o y},pickD now a o=some y→o=some y∨(y∈a∧y.2≤now)
  | [],o,y,h=>.inl h
  | x::a,o,y,h=>by
    rw [pickD] at h
    rcases pick_mem h with e | ⟨h1,h2⟩
    · split at e
      · rename_i hx; cases e; exact .inr ⟨by simp,hx.1⟩
      · exact .inl e
    · exact .inr ⟨by simp [h1],h2⟩
theorem pick_keep {now:Int} {x:ByteArray × Int}:∀ {b:List (ByteArray × Int)},(∀ y∈b,x.2≤y.2)→pickD now b (some x)=some x
  | [],_=>rfl
  | y::b,h=>by
    rw [pickD,if_neg (fun e=>by have h1:=h y (by simp); have h2:y.2<x.2:=of_decide_eq_true e.2; omega)]
    exact pick_keep fun z hz=>h z (by simp [hz])
theorem pick_is {now:Int} {a b:List (ByteArray × Int)} {x:ByteArray × Int} (hx:x.2≤now) (ha:∀ y∈a,x.2<y.2) (hb:∀ y∈b,x.2≤y.2):pickD now (a++x::b) none=some x:=by
  rw [pick_app,pickD]
  have:sooner x (pickD now a none)=true:=by
    cases h:pickD now a none with
    | none=>rfl
    | some y=>
      rcases pick_mem h with e | ⟨h1,_⟩
      · cases e
      · exact decide_eq_true (ha y h1)
  rw [if_pos ⟨hx,this⟩]
  exact pick_keep hb
theorem pick_no {now:Int}:∀ {a:List (ByteArray × Int)},(∀ y∈a,now<y.2)→pickD now a none=none
  | [],_=>rfl
  | x::a,h=>by
    rw [pickD,if_neg (fun e=>by have:=h x (by simp); omega)]
    exact pick_no fun y hy=>h y (by simp [hy])
theorem Rel.dueOf (h:Rel S L) {x:KD} (hx:x∈S.D):dueD x.1 L 0=x.2.due:=by
  unfold dueD
  have hp:=h.perm x hx
  cases ho:ofL x.1 L with
  | nil=>rw [ho] at hp; exact absurd (List.perm_nil.1 hp) (h.inv.ne x hx)
  | cons y l=>exact h.due x hx y (by rw [ho]; simp)
theorem pop_rel {now:Int}:∀ {kds:List KD} {S:Stt} {L L':List PD} {out:List (List Value)},Rel S L→kds.Perm S.D→kds.Pairwise (fun x y=>ltC cfDue y x=false)→PopD now L out L'→out=toldQ now kds∧Rel (popS S now kds) L'
  | [],S,L,L',out,h,hp,_,hpop=>by
    have hD:S.D=[]:=hp.symm.eq_nil
    have hk:keysD L=[]:=List.eq_nil_iff_forall_not_mem.2 fun k hk=>by
      obtain ⟨x,hx,_⟩:=h.keys.1 hk
      rw [hD] at hx; cases hx
    cases hpop with
    | stop=>exact ⟨rfl,h⟩
    | step k t hpk=>unfold duesD at hpk; rw [hk] at hpk; cases hpk
  | x::r,S,L,L',out,h,hp,hs,hpop=>by
    rw [List.pairwise_cons] at hs
    have hxD:x∈S.D:=hp.mem_iff.1 (by simp)
    have hrD:∀ y∈r,y∈S.D:=fun y hy=>hp.mem_iff.1 (by simp [hy])
    have hDr:∀ y∈S.D,y=x∨y∈r:=fun y hy=>by simpa using hp.mem_iff.2 hy
    have hdues:∀ y∈duesD L,∃ z∈S.D,z.1=y.1∧z.2.due=y.2:=fun y hy=>by
      unfold duesD at hy
      obtain ⟨k,hk,rfl⟩:=List.mem_map.1 hy
      obtain ⟨z,hz,rfl⟩:=h.keys.1 hk
      exact ⟨z,hz,rfl,(h.dueOf hz).symm⟩
    by_cases hx:x.2.due≤now
    · have hg:=getL_of_mem h.inv.keys hxD
      have hpick:pickD now (duesD L) none=some (x.1,x.2.due):=by
        have hk:x.1∈keysD L:=h.keys.2 ⟨x,hxD,rfl⟩
        obtain ⟨A,B,hAB⟩:=List.append_of_mem hk
        have hnd:=nodup_keysD L
        have hord:=h.ord
        rw [hAB] at hord hnd
        have hdx:dueD x.1 L 0=x.2.due:=h.dueOf hxD
        have hsplit:duesD L=(A.map fun k=>(k,dueD k L 0))++(x.1,x.2.due)::(B.map fun k=>(k,dueD k L 0)):=by
          unfold duesD; rw [hAB,List.map_append,List.map_cons,hdx]
        rw [hsplit]
        refine pick_is hx (fun y hy=>?_) (fun y hy=>?_)
        · obtain ⟨k,hkA,rfl⟩:=List.mem_map.1 hy
          obtain ⟨z,hz,rfl⟩:=h.keys.1 (by rw [hAB]; simp [hkA]:k∈keysD L)
          have hid:=(List.pairwise_append.1 hord).2.2 z.1 hkA x.1 (by simp) z hz x hxD rfl rfl
          rw [h.dueOf hz]
          have hne:z≠x:=fun e=>by rw [e] at hid; omega
          have:=cfDue_ltf.1 (hs.1 z ((hDr z hz).resolve_left hne))
          simp only; omega
        · obtain ⟨k,hkB,rfl⟩:=List.mem_map.1 hy
          obtain ⟨z,hz,rfl⟩:=h.keys.1 (by rw [hAB]; simp [hkB]:k∈keysD L)
          rw [h.dueOf hz]
          rcases hDr z hz with e | hzr
          · rw [e]; exact Int.le_refl _
          · have:=cfDue_ltf.1 (hs.1 z hzr)
            simp only; omega
      cases hpop with
      | stop hno=>rw [hpick] at hno; cases hno
      | step k t hpk hrest=>
        rw [hpick] at hpk
        cases hpk
        have hrel:=h.cut hg
        have hperm:r.Perm (cutS S x.1 x.2).D:=by
          have hnd:((x::r).map (·.1)).Nodup:=(hp.map _).nodup_iff.2 h.inv.keys
          rw [List.map_cons,List.nodup_cons] at hnd
          refine perm_of_nodup (nodup_of_map _ hnd.2) (nodup_of_map _ (nodup_del h.inv.keys)) (fun y hy=>?_) (fun y hy=>?_)
          · have hne:y.1≠x.1:=fun e=>hnd.1 (by rw [← e]; exact List.mem_map.2 ⟨y,hy,rfl⟩)
            have:getL y.1 (delL x.1 S.D)=some y.2:=by rw [getL_del h.inv.keys,if_neg hne]; exact getL_of_mem h.inv.keys (hrD y hy)
            exact getL_some_mem this
          · obtain ⟨h1,h2⟩:=mem_del h.inv.keys hy
            exact (hDr y h1).resolve_left fun e=>h2 (by rw [e])
        obtain ⟨i1,i2⟩:=pop_rel hrel hperm hs.2 hrest
        have hpm:=h.perm x hxD
        have hh:headD ((ofL x.1 L).map (·.1))=headQ x.2.l:=(head_eq (fun y hy=>h.inv.right x hxD y (hpm.mem_iff.2 hy)) ((h.oks x hxD).perm hpm.symm) hpm).symm
        have hl:(ofL x.1 L).length=x.2.l.length:=by have:=hpm.length_eq; simpa using this.symm
        refine ⟨?_,?_⟩
        · rw [i1,hh,hl]
          unfold toldQ
          rw [List.filter_cons,if_pos (by simpa using hx),List.map_cons]
        · unfold popS at i2 ⊢
          rw [List.foldl_cons,if_pos hx]; exact i2
    · have hall:∀ y∈S.D,now<y.2.due:=fun y hy=>by
        rcases hDr y hy with rfl | hyr
        · omega
        · have:=cfDue_ltf.1 (hs.1 y hyr); omega
      have hno:pickD now (duesD L) none=none:=pick_no fun y hy=>by
        obtain ⟨z,hz,_,e⟩:=hdues y hy
        have:=hall z hz; omega
      have hout:toldQ now (x::r)=[]:=by
        unfold toldQ
        rw [List.filter_eq_nil_iff.2,List.map_nil]
        intro y hy
        have:=hall y (hp.mem_iff.1 hy)
        simp; omega
      have hS:∀ (l:List KD),(∀ y∈l,now<y.2.due)→popS S now l=S:=fun l=>by
        induction l with
        | nil=>intro _; rfl
        | cons y l ih=>
          intro hl
          have:=hl y (by simp)
          unfold popS at ih ⊢
          rw [List.foldl_cons,if_neg (by omega)]
          exact ih fun z hz=>hl z (by simp [hz])
      cases hpop with
      | stop=>rw [hout,hS _ fun y hy=>hall y (hp.mem_iff.1 hy)]; exact ⟨rfl,h⟩
      | step k t hpk=>rw [hno] at hpk; cases hpk
end
end Go.Proofs
set_option linter.unusedVariables false
set_option maxRecDepth 20000
namespace Go.Proofs
open Go Go.HL
theorem C72 {x:Int} {b:Bool} {s:ByteArray} {hp:HP} {K:Value→HP→Prop} (h:K (.agg ⟨pc ⟨⟨#[107]⟩,⟨#[115]⟩,x,b,s,⟨#[]⟩⟩⟩) hp):CF Try.prog 72 [.int .i64 x,.bool b,.string s] hp K:=by
  refine F72_ok x b s hp K ?_
  unfold F72
  exact ifI rfl (ifI rfl (ifI (Nat.le_refl 6) h))
def pA:Pc:=⟨⟨#[107]⟩,⟨#[115]⟩,8,false,⟨#[97,98]⟩,⟨#[]⟩⟩
def pB:Pc:=⟨⟨#[107]⟩,⟨#[115]⟩,0,true,⟨#[49,50,51,52,53,54,55,56]⟩,⟨#[]⟩⟩
def stA (d:Dg):Stt:=⟨4,3,1,1,[(pA.key,d)],[(pA.src,1)]⟩
theorem put1 {w:List Value} {b:Bool} {e:Int} {S':Stt} (h:PutR ⟨4,3,0,0,[],[]⟩ pA 5 w b e S'):w=zeroW∧b=false∧e=0∧∃ d:Dg,d.fin=10∧d.l=[pA]∧S'=stA d:=by
  have hr:rightP pA=true:=by decide
  have ht:pA.toW=10:=by decide
  cases h with
  | arg h=>exact absurd ⟨by decide,by decide⟩ h
  | form _ h=>rw [hr] at h; cases h
  | again d _ _ h=>cases h
  | clash d _ _ h=>cases h
  | alone _ _ _ h=>exact absurd h (by decide)
  | full _ _ _ h=>exact absurd h (by decide)
  | state _ _ _ _ h=>exact absurd h (by decide)
  | part d' last' _ _ _ _ _ htk hn=>
    rcases htk with ⟨_,_,_,_,hf,_⟩ | ⟨d,hg,_⟩
    · have:d'.fin=10:=hf.trans ht
      omega
    · cases hg
  | none d' last' l' _ _ _ _ _ htk hp hperm hs hw=>
    rcases htk with ⟨_,h1,_,_,hf,hl⟩ | ⟨d,hg,_⟩
    · have hf':d'.fin=10:=hf.trans ht
      rw [hl] at hperm
      have hl':=List.perm_singleton.1 hperm
      subst h1
      exact ⟨rfl,rfl,rfl,{ d' with l:=l' },hf',hl',rfl⟩
    · cases hg
  | whole d' last' l' w _ _ _ _ _ htk hp hperm hs hw=>
    rcases htk with ⟨_,h1,_,_,hf,hl⟩ | ⟨d,hg,_⟩
    · have hf':d'.fin=10:=hf.trans ht
      rw [hl] at hperm
      have hl':=List.perm_singleton.1 hperm
      rw [hl',hf'] at hw
      have:wholeQ 10 [pA]=none:=by decide
      rw [this] at hw; cases hw
    · cases hg
theorem put2 {d:Dg} (hd:d.fin=10) (hl:d.l=[pA]) {w:List Value} {b:Bool} {e:Int} {S':Stt} (h:PutR (stA d) pA 9 w b e S'):w=zeroW∧b=false∧e=0∧S'=stA d:=by
  have hr:rightP pA=true:=by decide
  have hg:getL pA.key (stA d).D=some d:=by unfold stA; simp [getL]
  have hs:d.l.any (sameP pA)=true:=by rw [hl]; decide
  have no:¬ Room (stA d) pA:=by
    unfold Room; rw [hg]; simp only; rw [hs]; simp
  cases h with
  | arg h=>exact absurd ⟨by decide,by decide⟩ h
  | form _ h=>rw [hr] at h; cases h
  | again=>exact ⟨rfl,rfl,rfl,rfl⟩
  | clash d' _ _ h h'=>rw [hg] at h; cases h; rw [hs] at h'; cases h'
  | alone _ _ h=>rw [hg] at h; cases h
  | full _ _ h=>exact absurd h no
  | state _ _ h=>exact absurd h no
  | part _ _ _ _ h=>exact absurd h no
  | none _ _ _ _ _ h=>exact absurd h no
  | whole _ _ _ _ _ _ h=>exact absurd h no
theorem put3 {d:Dg} (hd:d.fin=10) (hl:d.l=[pA]) {w:List Value} {b:Bool} {e:Int} {S':Stt} (h:PutR (stA d) pB 9 w b e S'):(∃ head:ByteArray,w=wh pB.key head ⟨#[49,50,51,52,53,54,55,56,97,98]⟩ 2)∧b=true∧e=0∧S'.n=0:=by
  have hr:rightP pB=true:=by decide
  have hg:getL pB.key (stA d).D=some d:=by
    have:pB.key=pA.key:=rfl
    rw [this]; unfold stA; simp [getL]
  have hs:d.l.any (sameP pB)=false:=by rw [hl]; decide
  have hfit:fitsQ d.fin d.l pB=true:=by rw [hl,hd]; decide
  have took:∀ {last':Int} {d':Dg},Took (stA d) pB 9 last' d'→d'.fin=10∧d'.l=[pA,pB]:=by
    intro last' d' htk
    rcases htk with ⟨h,_⟩ | ⟨d2,h,_,_,_,hf,hl2⟩
    · rw [hg] at h; cases h
    · rw [hg] at h; cases h
      exact ⟨hf.trans hd,by rw [hl2,hl]; rfl⟩
  have sorted:∀ {l':List Pc},l'.Perm [pA,pB]→l'.Pairwise (fun x y=>ltC cfP y x=false)→l'=[pB,pA]:=by
    intro l' hp hs
    have hlen:=hp.length_eq
    match l',hlen with
    | [x,y],_=>
      have hx:x=pA∨x=pB:=by simpa using hp.mem_iff.1 (List.mem_cons_self)
      rcases hx with rfl | rfl
      · have:=List.perm_singleton.1 hp.cons_inv
        simp only [List.cons.injEq,and_true] at this
        subst this
        rw [List.pairwise_cons] at hs
        have:=hs.1 pB (by simp)
        have h2:ltC cfP pB pA=true:=by decide
        rw [h2] at this; cases this
      · have hp2:=hp.trans (List.Perm.swap pB pA [])
        have:=List.perm_singleton.1 hp2.cons_inv
        rw [this]
  have hwq:wholeQ 10 [pB,pA]=some ⟨#[49,50,51,52,53,54,55,56,97,98]⟩:=by decide
  cases h with
  | arg h=>exact absurd ⟨by decide,by decide⟩ h
  | form _ h=>rw [hr] at h; cases h
  | again d' _ _ h h'=>rw [hg] at h; cases h; rw [hs] at h'; cases h'
  | clash d' _ _ h _ h'=>rw [hg] at h; cases h; rw [hfit] at h'; cases h'
  | alone _ _ h=>rw [hg] at h; cases h
  | full _ _ _ h=>
    have h1:(1:Int)≥4:=h
    omega
  | state _ _ _ _ h=>
    have h0:(getL pB.src (stA d).of).getD 0=1:=by
      have e:pB.src=pA.src:=rfl
      rw [e]; unfold stA; simp [getL]
    rw [h0] at h
    have h1:(1:Int)≥3:=h
    omega
  | part d' last' _ _ _ _ _ htk hn=>have:=(took htk).1; omega
  | none d' last' l' _ _ _ _ _ htk hp hperm hso hw=>
    obtain ⟨t1,t2⟩:=took htk
    rw [t2] at hperm
    rw [sorted hperm hso,t1,hwq] at hw; cases hw
  | whole d' last' l' w _ _ _ _ _ htk hp hperm hso hw=>
    obtain ⟨t1,t2⟩:=took htk
    rw [t2] at hperm
    have hl':=sorted hperm hso
    rw [hl',t1,hwq] at hw
    cases hw
    refine ⟨⟨headQ d'.l,by rw [t2]; rfl⟩,rfl,rfl,?_⟩
    unfold cutS setS takeS stA
    simp only [hl']
    decide
theorem C22 {hp:HP} {K:Value→HP→Prop} (h:K (.bool true) hp):CF Try.prog 22 [] hp K:=by
  refine CF.drop (F22_ok hp _ ?_)
  unfold F22
  refine C25 (fun hn=>absurd (by omega) hn) ?_
  intro _ q m mo hp1 hst
  have g1:=hst hp (HSub.refl _)
  have pp:∀ c:Option Addr→Prop,ptrV (ptr q 0) c=c (some ⟨q,0,none⟩):=fun _=>rfl
  simp only [tup2V_mk,intV_int,pp]
  show ite2 false _ (F22_j1 _ false _ _)
  rw [ite2_false]
  unfold F22_j1
  rw [ite2_false]
  have whl:∀ a b c d,(wh a b c d).length=4:=fun _ _ _ _=>rfl
  have who:∀ a b c d,(wh a b c d).all one=true:=fun _ _ _ _=>rfl
  have hz0:[(Value.string ⟨#[]⟩),(Value.string ⟨#[]⟩),(Value.string ⟨#[]⟩),(Value.int .i64 0)]=wh e0s e0s e0s 0:=rfl
  have hsp:∀ a b c d a' b' c' d',splice (wh a b c d) 0 (wh a' b' c' d')=wh a' b' c' d':=fun _ _ _ _ _ _ _ _=>splice_all rfl
  refine C72 ?_
  rw [aggV_agg]
  refine C26 (p:=pA) g1 ⟨by decide,by decide⟩ (fun d hd=>by cases hd) (fun d hd=>by cases hd) ?_
  intro hp2 w b e S1 hput s1
  obtain ⟨rfl,rfl,rfl,d,hd,hl,rfl⟩:=put1 hput
  have g2:=s1 hp g1
  have hgd:∀ {k:ByteArray} {d2:Dg},getL k (stA d).D=some d2→d2=d:=by
    intro k d2 h2
    unfold stA at h2
    simp only [getL] at h2
    split at h2
    · cases h2; rfl
    · cases h2
  simp only [tup3V_mk,aggV_agg,boolV_bool,intV_int,zeroW,whl,who,if_true,hz0,Nat.zero_add]
  refine ifI (Nat.le_refl _) ?_
  refine C72 ?_
  rw [aggV_agg]
  have len1:∀ {k:ByteArray} (d2:Dg),getL k (stA d).D=some d2→d2.l.length≤70000:=fun d2 h2=>by rw [hgd h2,hl]; decide
  have ri1:∀ {k:ByteArray} (d2:Dg),getL k (stA d).D=some d2→∀ x∈d2.l,rightP x=true:=fun d2 h2 x hx=>by
    rw [hgd h2,hl,List.mem_singleton] at hx; rw [hx]; decide
  refine C26 (p:=pA) g2 ⟨by decide,by decide⟩ len1 ri1 ?_
  intro hp3 w b e S2 hput s2
  obtain ⟨rfl,rfl,rfl,rfl⟩:=put2 hd hl hput
  have g3:=s2 hp g2
  simp only [tup3V_mk,aggV_agg,boolV_bool,intV_int,zeroW,whl,who,if_true,hz0,Nat.zero_add]
  refine ifI (Nat.le_refl _) ?_
  refine C72 ?_
  rw [aggV_agg]
  refine C26 (p:=pB) g3 ⟨by decide,by decide⟩ len1 ri1 ?_
  intro hp4 w b e S3 hput s3
  obtain ⟨⟨head,rfl⟩,rfl,rfl,hn⟩:=put3 hd hl hput
  have g4:=s3 hp g3
  have w2:∀ a b c d,(wh a b c d)[2]?=some (.string c):=fun _ _ _ _=>rfl
  have w3:∀ a b c d,(wh a b c d)[3]?=some (.int .i64 d):=fun _ _ _ _=>rfl
  simp only [tup3V_mk,aggV_agg,boolV_bool,intV_int,whl,who,if_true,hz0,Nat.zero_add,hsp,w2,w3,ldV_some,strV_string,str_eq]
  refine ifI (Nat.le_refl _) ?_
  show ite2 true (ite2 true (ite2 true (ite2 true (ite2 true (ite2 true (ite2 _ _ _) _) _) _) _) _) _
  simp only [ite2_true,decide_eq_true_eq]
  show ite2 true _ _
  rw [ite2_true]
  show ite2 true _ _
  rw [ite2_true]
  refine C27 g4 ?_
  rw [intV_int,hn]
  exact ⟨hp,g4.1,h⟩
end Go.Proofs
set_option linter.unusedVariables false
set_option maxRecDepth 20000
namespace Go.Proofs
open Go Go.HL
def kK:ByteArray:=⟨#[107]⟩
def kS:ByteArray:=⟨#[115]⟩
def kp (a:Int) (m:Bool) (d:ByteArray):Pc:=⟨kK,kS,a,m,d,e0s⟩
def d8:ByteArray:=⟨#[49,50,51,52,53,54,55,56]⟩
def dx:ByteArray:=⟨#[120]⟩
def kl:Pc:=⟨⟨#[108]⟩,⟨#[116]⟩,8,false,⟨#[122]⟩,⟨#[104]⟩⟩
def km:Pc:=⟨⟨#[109]⟩,⟨#[116]⟩,8,false,⟨#[122]⟩,⟨#[104]⟩⟩
def L1:List PD:=[(kp 0 true d8,5)]
theorem ev1:putD 4 3 [] (kp 0 true d8) 5=(zeroW,false,0,L1):=by kernel_rfl
theorem ev2:putD 4 3 L1 (kp 0 true (d8++d8)) 5=(zeroW,false,5,[]):=by kernel_rfl
theorem ev3:putD 4 3 [] (kp 4 false dx) 5=(zeroW,false,8,[]):=by kernel_rfl
theorem ev4:putD 4 3 [] (kp 0 true ⟨#[97,98,99]⟩) 5=(zeroW,false,8,[]):=by kernel_rfl
theorem ev5:putD 4 3 [] (kp 8 true e0s) 5=(zeroW,false,8,[]):=by kernel_rfl
theorem ev6:putD 4 3 [] (kp (-8) false dx) 5=(zeroW,false,8,[]):=by kernel_rfl
theorem ev7:putD 4 3 [] (kp 0 false dx) (-1)=(zeroW,false,1,[]):=by kernel_rfl
theorem ev8:putD 4 3 [] (kp 0 false dx) 5=(wh kK e0s dx 1,true,0,[]):=by kernel_rfl
def M1:List PD:=[(kp 8 true d8,5)]
def M2:List PD:=M1++[(kp 16 true d8,5)]
def M3:List PD:=M2++[(kp 24 true d8,5)]
def M4:List PD:=M3++[(kl,3)]
theorem ev9:putD 4 3 [] (kp 8 true d8) 5=(zeroW,false,0,M1):=by kernel_rfl
theorem ev10:putD 4 3 M1 (kp 16 true d8) 9=(zeroW,false,0,M2):=by kernel_rfl
theorem ev11:putD 4 3 M2 (kp 24 true d8) 9=(zeroW,false,0,M3):=by kernel_rfl
theorem ev12:putD 4 3 M3 (kp 32 true d8) 9=(zeroW,false,11,M3):=by kernel_rfl
theorem ev13:putD 4 3 M3 kl 3=(zeroW,false,0,M4):=by kernel_rfl
theorem ev14:putD 4 3 M4 km 3=(zeroW,false,6,M4):=by kernel_rfl
theorem ev15:putD 4 3 M4 (kp 8 false dx) 3=(zeroW,false,5,[(kl,3)]):=by kernel_rfl
theorem ev16:putD 4 3 [] (kp 8 false e0s) 4=(zeroW,false,0,[(kp 8 false e0s,4)]):=by kernel_rfl
theorem ev17:putD 4 3 [(kp 8 false e0s,4)] (kp 0 true d8) 4=(wh kK e0s d8 2,true,0,[]):=by kernel_rfl
theorem keys4:keysD M4=[kK,⟨#[108]⟩]:=by kernel_rfl
end Go.Proofs
set_option linter.unusedVariables false
set_option maxRecDepth 20000
namespace Go.Proofs
open Go Go.HL
section
variable {hp0 hp hq hq' hp':HP} {q m mo:Nat} {S:Stt}
end
end Go.Proofs
set_option linter.unusedVariables false
set_option maxRecDepth 20000
namespace Go.Proofs
open Go Go.HL
section
variable {p:Pc} {hp:HP} {K:Value→HP→Prop}
end
end Go.Proofs
set_option linter.unusedVariables false
set_option maxRecDepth 20000
namespace Go.Proofs
open Go Go.HL
section
variable {hp:HP} {K:Value→HP→Prop} {w:Nat} {max source:Int} {L:List PD} {s:Option Addr} {n c:Nat} {l:List PD}
end
end Go.Proofs
set_option linter.unusedVariables false
set_option maxRecDepth 20000
namespace Go.Proofs
open Go Go.HL
section
variable {hp:HP} {K:Value→HP→Prop} {w:Nat} {max source:Int} {L:List PD} {s:Option Addr} {n c:Nat} {l:List PD}
end
end Go.Proofs
set_option linter.unusedVariables false
set_option maxRecDepth 20000
namespace Go.Proofs
open Go Go.HL
section
variable {hp:HP} {K:Value→HP→Prop} {X:Value→HP→Prop} {w:Nat} {max source:Int} {L:List PD} {s:Option Addr} {n c b b2:Nat} {xs:List Value} {x:PD} {p:Pc}
end
end Go.Proofs
set_option linter.unusedVariables false
set_option maxRecDepth 20000
namespace Go.Proofs
open Go Go.HL
section
variable {hp hp':HP} {K:Value→HP→Prop} {w:Nat} {max source:Int} {L L' L1:List PD} {s:Option Addr} {n c b b2:Nat} {xs:List Value} {x:PD} {p:Pc}
end
end Go.Proofs
set_option linter.unusedVariables false
set_option maxRecDepth 20000
namespace Go.Proofs
open Go Go.HL
end Go.Proofs
set_option linter.unusedVariables false
set_option maxRecDepth 20000
namespace Go.Proofs
open Go Go.HL
/-- An act: what, which piece, when. -/
abbrev A16:=Int × Pc × Int
section
variable {s:Option Addr} {n c:Nat} {l:List A16} {hp:HP} {K:Value→HP→Prop}
end
section
variable {hp0 hp:HP} {q m mo:Nat} {S:Stt} {K:Value→HP→Prop}
theorem pop_same {now:Int}:∀ {kds:List KD} {S:Stt},(popS S now kds).max=S.max∧(popS S now kds).source=S.source
  | [],S=>⟨rfl,rfl⟩
  | x::l,S=>by
    unfold popS
    rw [List.foldl_cons]
    by_cases hx:x.2.due≤now
    · rw [if_pos hx]
      have:=pop_same (now:=now) (kds:=l) (S:=cutS S x.1 x.2)
      unfold popS at this; exact this
    · rw [if_neg hx]
      have:=pop_same (now:=now) (kds:=l) (S:=S)
      unfold popS at this; exact this
end
end Go.Proofs
set_option linter.unusedVariables false
set_option maxRecDepth 20000
namespace Go.Proofs
open Go Go.HL
section
variable {hp0 hp hp':HP} {q m mo w:Nat} {max source:Int} {S S':Stt} {L L':List PD} {K:Value→HP→Prop}
theorem pop_last {now:Int}:∀ {kds:List KD} {S:Stt},(popS S now kds).last=S.last
  | [],S=>rfl
  | x::l,S=>by
    unfold popS
    rw [List.foldl_cons]
    by_cases hx:x.2.due≤now
    · rw [if_pos hx]
      have:=pop_last (now:=now) (kds:=l) (S:=cutS S x.1 x.2)
      unfold popS at this; exact this
    · rw [if_neg hx]
      have:=pop_last (now:=now) (kds:=l) (S:=S)
      unfold popS at this; exact this
theorem eq_of_sorted {α:Type} {f:α→Int}:∀ {a b:List α},a.Perm b→(b.Pairwise fun x y=>f x<f y)→(a.Pairwise fun x y=>f x≤f y)→a=b
  | a,[],h,_,_=>List.perm_nil.1 h
  | [],y::b,h,_,_=>absurd h.length_eq (by simp)
  | x::a,y::b,h,hb,ha=>by
    rw [List.pairwise_cons] at hb ha
    have hxy:x=y:=by
      rcases List.mem_cons.1 (h.mem_iff.1 (by simp:x∈x::a)) with e | hx
      · exact e
      · rcases List.mem_cons.1 (h.mem_iff.2 (by simp:y∈y::b)) with e | hy
        · exact e.symm
        · have:=hb.1 x hx
          have:=ha.1 y hy
          omega
    subst hxy
    rw [eq_of_sorted (List.Perm.cons_inv h) hb.2 ha.2]
/-- Both give the keys in the same order. -/
theorem Rel.sameKeys (h:Rel S L) {kds:List KD} (hp:kds.Perm S.D) (hs:kds.Pairwise fun x y=>ltC cfId y x=false):kds.map (·.1)=keysD L:=by
  have hid:∀ x∈S.D,((getL x.1 S.D).map (·.id)).getD 0=x.2.id:=fun x hx=>by rw [getL_of_mem h.inv.keys hx]; rfl
  refine eq_of_sorted (f:=fun k=>((getL k S.D).map (·.id)).getD 0) ?_ ?_ ?_
  · refine (List.perm_ext_iff_of_nodup ((hp.map (·.1)).nodup_iff.2 h.inv.keys) (nodup_keysD L)).2 fun k=>?_
    rw [h.keys,List.mem_map]
    constructor
    · rintro ⟨x,hx,e⟩; exact ⟨x,hp.mem_iff.1 hx,e⟩
    · rintro ⟨x,hx,e⟩; exact ⟨x,hp.mem_iff.2 hx,e⟩
  · refine h.ord.imp_of_mem ?_
    intro a b ha hb hab
    obtain ⟨x,hx,rfl⟩:=h.keys.1 ha
    obtain ⟨y,hy,rfl⟩:=h.keys.1 hb
    rw [hid x hx,hid y hy]
    exact hab x hx y hy rfl rfl
  · rw [List.pairwise_map]
    refine hs.imp_of_mem ?_
    intro x y hx hy hxy
    rw [hid x (hp.mem_iff.1 hx),hid y (hp.mem_iff.1 hy)]
    have:=cfId_ltf.1 hxy
    omega
end
end Go.Proofs
set_option linter.unusedVariables false
set_option maxRecDepth 20000
namespace Go.Proofs
open Go Go.HL Go.Shelf
def repRen:Ren where
  f:=fun | 99=>116 | 105=>73 | 165=>117 | 166=>118 | 169=>120 | 170=>119 | 206=>142 | 212=>115 | 240=>143 | 241=>144 | 263=>140 | 264=>141 | 276=>167 | 277=>168 | n=>n
  t:=fun | 0=>0 | 3=>3 | 4=>4 | 5=>5 | 9=>9 | 20=>20 | 37=>98 | 46=>175 | 51=>206 | 53=>209 | 70=>179 | 72=>181 | 75=>184 | 76=>185 | 80=>170 | 109=>176 | 127=>212 | 146=>207 | 148=>210 | 164=>231 | n=>n
  g:=fun n=>n
theorem rep_zero {P:Program} {t:TypeId} {z:Value} (h:(P.info? t).bind (·.zero)=some z) (w:World):(zeroValue t).run P w=.ok z w:=by
  cases hi:P.info? t with
  | none=>rw [hi] at h; cases h
  | some i=>
    rw [hi] at h
    have hz:i.zero=some z:=h
    simp [zeroValue,typeInfo,hi,hz]
theorem rep_size {P:Program} {t:TypeId} {n:Nat} (h:(P.info? t).map (·.size)=some n) (w:World):(Go.sizeOf t).run P w=.ok n w:=by
  cases hi:P.info? t with
  | none=>rw [hi] at h; cases h
  | some i=>
    rw [hi] at h
    have hz:i.size=n:=by simpa using h
    simp [Go.sizeOf,typeInfo,hi,hz]
theorem rep_agg {P:Program} {t:TypeId} {fs} (h:P.underlying t=some (.struct fs)) (w:World):(isAgg t).run P w=.ok true w:=by
  simp [isAgg,run_underlying h]
theorem repLays:Lays.n105 Try.prog repRen where
  mixed:=by kernel_rfl
  f99:=by kernel_rfl
  f105:=by kernel_rfl
  f165:=by kernel_rfl
  f166:=by kernel_rfl
  f169:=by kernel_rfl
  f170:=by kernel_rfl
  f206:=by kernel_rfl
  f212:=by kernel_rfl
  f240:=by kernel_rfl
  f241:=by kernel_rfl
  f263:=by kernel_rfl
  f264:=by kernel_rfl
  f276:=by kernel_rfl
  f277:=by kernel_rfl
  t0:=by kernel_rfl
  a0:=run_isAgg_plain (t:=repRen.t 0) (d:=(TypeDesc.tuple #[])) (by kernel_rfl) rfl
  z0:=rep_size (by kernel_rfl)
  v0:=rep_zero (by kernel_rfl)
  t3:=by kernel_rfl
  a3:=run_isAgg_plain (t:=repRen.t 3) (d:=(TypeDesc.int IntKind.i64)) (by kernel_rfl) rfl
  z3:=rep_size (by kernel_rfl)
  v3:=rep_zero (by kernel_rfl)
  t4:=by kernel_rfl
  a4:=run_isAgg_plain (t:=repRen.t 4) (d:=(TypeDesc.bool)) (by kernel_rfl) rfl
  z4:=rep_size (by kernel_rfl)
  v4:=rep_zero (by kernel_rfl)
  t5:=by kernel_rfl
  a5:=run_isAgg_plain (t:=repRen.t 5) (d:=(TypeDesc.int IntKind.u8)) (by kernel_rfl) rfl
  z5:=rep_size (by kernel_rfl)
  v5:=rep_zero (by kernel_rfl)
  t9:=by kernel_rfl
  a9:=run_isAgg_plain (t:=repRen.t 9) (d:=(TypeDesc.string)) (by kernel_rfl) rfl
  z9:=rep_size (by kernel_rfl)
  v9:=rep_zero (by kernel_rfl)
  t20:=by kernel_rfl
  a20:=run_isAgg_plain (t:=repRen.t 20) (d:=(TypeDesc.interface #[])) (by kernel_rfl) rfl
  z20:=rep_size (by kernel_rfl)
  v20:=rep_zero (by kernel_rfl)
  t37:=by kernel_rfl
  a37:=run_isAgg_plain (t:=repRen.t 37) (d:=(TypeDesc.slice (repRen.t 5))) (by kernel_rfl) rfl
  z37:=rep_size (by kernel_rfl)
  v37:=rep_zero (by kernel_rfl)
  t46:=by kernel_rfl
  a46:=run_isAgg_plain (t:=repRen.t 46) (d:=(TypeDesc.int IntKind.u64)) (by kernel_rfl) rfl
  z46:=rep_size (by kernel_rfl)
  v46:=rep_zero (by kernel_rfl)
  t51:=by kernel_rfl
  a51:=run_isAgg_plain (t:=repRen.t 51) (d:=(TypeDesc.int IntKind.u32)) (by kernel_rfl) rfl
  z51:=rep_size (by kernel_rfl)
  v51:=rep_zero (by kernel_rfl)
  t53:=by kernel_rfl
  a53:=run_isAgg_plain (t:=repRen.t 53) (d:=(TypeDesc.int IntKind.u64)) (by kernel_rfl) rfl
  z53:=rep_size (by kernel_rfl)
  v53:=rep_zero (by kernel_rfl)
  t70:=by kernel_rfl
  a70:=run_isAgg_plain (t:=repRen.t 70) (d:=(TypeDesc.pointer (repRen.t 72))) (by kernel_rfl) rfl
  z70:=rep_size (by kernel_rfl)
  v70:=rep_zero (by kernel_rfl)
  t72:=by kernel_rfl
  a72 := rep_agg (t := repRen.t 72) (fs := #[{ name := "addr", type := repRen.t 70, offset := 0, embedded := false, tag := "", pkgPath := "strings", byteOffset := 0 }, { name := "buf", type := repRen.t 37, offset := 1, embedded := false, tag := "", pkgPath := "strings", byteOffset := 8 }]) (by kernel_rfl)
  z72:=rep_size (by kernel_rfl)
  v72:=rep_zero (by kernel_rfl)
  t75:=by kernel_rfl
  a75 := run_isAgg_plain (t := repRen.t 75) (d := (TypeDesc.interface #[("Error", repRen.t 80)])) (by kernel_rfl) rfl
  z75:=rep_size (by kernel_rfl)
  v75:=rep_zero (by kernel_rfl)
  t76:=by kernel_rfl
  a76:=run_isAgg_plain (t:=repRen.t 76) (d:=(TypeDesc.tuple #[repRen.t 3,repRen.t 75])) (by kernel_rfl) rfl
  z76:=rep_size (by kernel_rfl)
  v76:=rep_zero (by kernel_rfl)
  t109:=by kernel_rfl
  a109:=run_isAgg_plain (t:=repRen.t 109) (d:=(TypeDesc.tuple #[repRen.t 46,repRen.t 46])) (by kernel_rfl) rfl
  z109:=rep_size (by kernel_rfl)
  v109:=rep_zero (by kernel_rfl)
  t127:=by kernel_rfl
  a127:=run_isAgg_plain (t:=repRen.t 127) (d:=(TypeDesc.pointer (repRen.t 5))) (by kernel_rfl) rfl
  z127:=rep_size (by kernel_rfl)
  v127:=rep_zero (by kernel_rfl)
  t146:=by kernel_rfl
  a146:=run_isAgg_plain (t:=repRen.t 146) (d:=(TypeDesc.tuple #[repRen.t 51,repRen.t 51])) (by kernel_rfl) rfl
  z146:=rep_size (by kernel_rfl)
  v146:=rep_zero (by kernel_rfl)
  t148:=by kernel_rfl
  a148:=run_isAgg_plain (t:=repRen.t 148) (d:=(TypeDesc.tuple #[repRen.t 53,repRen.t 53])) (by kernel_rfl) rfl
  z148:=rep_size (by kernel_rfl)
  v148:=rep_zero (by kernel_rfl)
  t164:=by kernel_rfl
  a164:=run_isAgg_plain (t:=repRen.t 164) (d:=(TypeDesc.unsafePointer)) (by kernel_rfl) rfl
  z164:=rep_size (by kernel_rfl)
  v164:=rep_zero (by kernel_rfl)
theorem repX:Builder.Extra Try.prog repRen where
  sizeBuilder:=by kernel_rfl
  liesBuilder:=by kernel_rfl
  t5:=by kernel_rfl
  a5:=repLays.a5
  z5:=repLays.z5
  v5:=repLays.v5
  infoByte:=by kernel_rfl
  cellsByte:=by kernel_rfl
  sizeByte:=by kernel_rfl
  neB5:=by decide
theorem fits_below {F:Nat→Prop} {w0 w w':World} {hp:HP} (h:Fits F w0 hp w) (b:RowKit.Below w.heap.size w w'):Fits F w0 hp w':=by
  refine ⟨fun k=>?_,fun k hk=>?_,b.os.trans h.os,b.tape.trans h.tape,b.output.trans h.output,Nat.le_trans h.size b.size⟩
  · have hk:=h.ent k
    by_cases hlt:k<w.heap.size
    · rw [b.block k hlt]; exact hk
    · have hn:w.heap[k]?=none:=by simp; omega
      rw [hn] at hk
      cases e:hp k with
      | none=>trivial
      | cells t cs sp=>rw [e] at hk; obtain ⟨_,_,hk⟩:=hk; cases hk
      | obj o=>rw [e] at hk; cases hk
  · obtain ⟨h1,h2,h3⟩:=h.fr k hk
    exact ⟨h1,Nat.lt_of_lt_of_le h2 b.size,(b.block k h2).trans h3⟩
theorem C73 {s:ByteArray} {c:Nat} {hp:HP} {K:Value→HP→Prop} (hc:c≤9223372036854775807) (hlen:s.size*c≤140737488355328) (h:K (.string ⟨(Lib.repeatL s.data.toList c).toArray⟩) hp):CF Try.prog 73 [.string s,.int .i64 c] hp K:=
  .inl ⟨by kernel_rfl,fun F w hf=>(Any.strings_Repeat repLays repX s c w hc hlen).mono fun e w' ⟨he,hb⟩=>⟨_,hp,he,fits_below hf hb,h⟩⟩
end Go.Proofs
