/- Parts of the proof of SessionHasProof: the logic of what is known of memory, functions' contracts. -/
import Derived.Test.YtpkhoemonibajaaDoorQSessionHasProofC
import Derived.Test.YtpkhoemonibajaaDoorHlAbb
import Derived.Test.YtpkhoemonibajaaDoorProg
import Derived.Sort.LotD1
import Derived.Test.YtpkhoemonibajaaDoorHlUse2
import Derived.Sort.LotD3
import Derived.Test.YtpkhoemonibajaaDoorHlOrd2
import Derived.Test.YtpkhoemonibajaaDoorHlArg
import Derived.DataShut
import Derived.Test.YtpkhoemonibajaaDoorHlDec
set_option linter.unusedVariables false
set_option linter.unusedSimpArgs false
set_option linter.unusedVariables false
set_option maxRecDepth 20000
namespace Go.Proofs
open Go Go.HL
section
variable {e E:Env} {x0a:OA} {x0n x0c:Nat} {x1 x2 x3:Int} {x4:Value} {x10 x11:Bool} {x12 x13 x14 x15 x16:Int} {x17:Bool} {x18 x19 x20:Int} {hp:HP} {K:Env→PV→HP→Prop}
abbrev R138 (p n:Nat):=RW Tryd.prog 148 [] (opsAt Tryd.f138 (pth p)) (List.range n)
theorem F138_r0:R138 2 1 e V0 hp K=
 K (upd e 10 (sB true)) V0 hp:= by kernel_rfl
theorem F138_r1:R138 67 4 (w2 e 2 (sI x2) 1 (sI x1)) V0 hp K=
 K (w6 e 2 (sI x2) 1 (sI x1) 21 (sI x2) 22 (sI x1) 23 (sI ((wr (x2-x1)))) 12 (sI ((wr (x2-x1))))) V0 hp:= by kernel_rfl
theorem F138_r2:R138 291 2 (upd e 12 (sI x12)) V0 hp K=
 K (w3 e 12 (sI x12) 24 (sI x12) 25 (sB (decide (x12≤12)))) V0 hp:= by kernel_rfl
theorem F138_r3 (h:E=upd (w3 e 4 (sV x4) 2 (sI x2) 1 (sI x1)) 0 (sS x0a x0n x0c)):R138 1187 5 E V0 hp K=
 CF Tryd.prog 160 [(.slice x0a x0n x0c),(.int .i64 x1),(.int .i64 x2),x4] hp fun u1 h2=>(K (w5 E 26 (sS x0a x0n x0c) 27 (sI x1) 28 (sI x2) 29 (sV x4) 30 (sV u1)) V0 h2):= by subst h; kernel_rfl
theorem F138_r4:R138 611 2 (upd e 3 (sI x3)) V0 hp K=
 K (w3 e 3 (sI x3) 31 (sI x3) 32 (sB ((x3==0)))) V0 hp:= by kernel_rfl
theorem F138_r5 (h:E=upd (w3 e 4 (sV x4) 2 (sI x2) 1 (sI x1)) 0 (sS x0a x0n x0c)):R138 2403 5 E V0 hp K=
 CF Tryd.prog 161 [(.slice x0a x0n x0c),(.int .i64 x1),(.int .i64 x2),x4] hp fun u1 h2=>(K (w5 E 33 (sS x0a x0n x0c) 34 (sI x1) 35 (sI x2) 36 (sV x4) 37 (sV u1)) V0 h2):= by subst h; kernel_rfl
theorem F138_r6 (h:E=upd (w3 e 4 (sV x4) 2 (sI x2) 1 (sI x1)) 0 (sS x0a x0n x0c)):R138 1507 10 E V0 hp K=
 CF Tryd.prog 163 [(.slice x0a x0n x0c),(.int .i64 x1),(.int .i64 x2),x4] hp fun u1 h2=>(tup2V u1 fun u3 u4=>intV u3 .i64 fun i5=>intV u4 .i64 fun i6=>K (w2 (w8 E 48 (sS x0a x0n x0c) 49 (sI x1) 50 (sI x2) 51 (sV x4) 52 (sV (.tuple ⟨[(.int .i64 i5),(.int .i64 i6)]⟩)) 47 (sV (.tuple ⟨[(.int .i64 i5),(.int .i64 i6)]⟩)) 53 (sI i5) 54 (sI i6)) 13 (sI i5) 14 (sI i6)) V0 h2):= by subst h; kernel_rfl
theorem F138_r7 (h:E=upd (w4 e 13 (sI x13) 4 (sV x4) 2 (sI x2) 1 (sI x1)) 0 (sS x0a x0n x0c)):R138 77795 7 E V0 hp K=
 CF Tryd.prog 166 [(.slice x0a x0n x0c),(.int .i64 x1),(.int .i64 x2),(.int .i64 x13),x4] hp fun u1 h2=>(intV u1 .i64 fun i3=>K (w7 E 98 (sS x0a x0n x0c) 99 (sI x1) 100 (sI x2) 101 (sI x13) 102 (sV x4) 103 (sI i3) 15 (sI i3)) V0 h2):= by subst h; kernel_rfl
theorem F138_r8:R138 176099 2 (upd e 15 (sI x15)) V0 hp K=
 K (w3 e 15 (sI x15) 104 (sI x15) 1 (sI x15)) V0 hp:= by kernel_rfl
theorem F138_r9 (h:E=upd (w4 e 13 (sI x13) 4 (sV x4) 2 (sI x2) 1 (sI x1)) 0 (sS x0a x0n x0c)):R138 24547 11 E V0 hp K=
 CF Tryd.prog 167 [(.slice x0a x0n x0c),(.int .i64 x1),(.int .i64 x2),(.int .i64 x13),x4] hp fun u1 h2=>(tup2V u1 fun u3 u4=>intV u3 .i64 fun i5=>boolV u4 fun q6=>K (w3 (w8 E 106 (sS x0a x0n x0c) 107 (sI x1) 108 (sI x2) 109 (sI x13) 110 (sV x4) 111 (sV (.tuple ⟨[(.int .i64 i5),(.bool q6)]⟩)) 105 (sV (.tuple ⟨[(.int .i64 i5),(.bool q6)]⟩)) 112 (sI i5)) 113 (sB q6) 16 (sI i5) 17 (sB q6)) V0 h2):= by subst h; kernel_rfl
theorem F138_r10:R138 49123 2 (upd e 17 (sB x17)) V0 hp K=
 K (w3 e 17 (sB x17) 114 (sB x17) 11 (sB x17)) V0 hp:= by kernel_rfl
theorem F138_r11 (h:E=upd (w2 e 16 (sI x16) 2 (sI x2)) 1 (sI x1)):R138 98275 8 E V0 hp K=
 K (w8 E 115 (sI x16) 116 (sI x1) 117 (sI ((wr (x16-x1)))) 118 (sI x2) 119 (sI x16) 120 (sI ((wr (x2-x16)))) 18 (sI ((wr (x16-x1)))) 19 (sI ((wr (x2-x16))))) V0 hp:= by subst h; kernel_rfl
theorem F138_r12:R138 196579 3 (upd e 12 (sI x12)) V0 hp K=
    (((8:Int)≠0)∧(K (w4 e 12 (sI x12) 121 (sI x12) 122 (sI ((wr (Int.tdiv x12 8)))) 20 (sI ((wr (Int.tdiv x12 8))))) V0 hp)):=by kernel_rfl
theorem F138_r13:R138 393187 3 (w2 e 19 (sI x19) 18 (sI x18)) V0 hp K=
 K (w5 e 19 (sI x19) 18 (sI x18) 123 (sI x18) 124 (sI x19) 125 (sB (decide (x18<x19)))) V0 hp:= by kernel_rfl
theorem F138_r14:R138 1310691 4 (w2 e 20 (sI x20) 18 (sI x18)) V0 hp K=
 K (w6 e 20 (sI x20) 18 (sI x18) 126 (sI x18) 127 (sI x20) 128 (sB (decide (x18≥x20))) 10 (sB (decide (x18≥x20)))) V0 hp:= by kernel_rfl
theorem F138_r15 (h:E=upd (w4 e 16 (sI x16) 4 (sV x4) 3 (sI x3) 1 (sI x1)) 0 (sS x0a x0n x0c)):R138 2883555 6 E V0 hp K=
 CF Tryd.prog 138 [(.slice x0a x0n x0c),(.int .i64 x1),(.int .i64 x16),(.int .i64 x3),x4] hp fun u1 h2=>(K (w6 E 129 (sS x0a x0n x0c) 130 (sI x1) 131 (sI x16) 132 (sI x3) 133 (sV x4) 134 (sV u1)) V0 h2):= by subst h; kernel_rfl
theorem F138_r16:R138 3932131 3 (upd e 16 (sI x16)) V0 hp K=
 K (w4 e 16 (sI x16) 135 (sI x16) 136 (sI ((wr (x16+1)))) 1 (sI ((wr (x16+1))))) V0 hp:= by kernel_rfl
theorem F138_r17:R138 1572835 4 (w2 e 20 (sI x20) 19 (sI x19)) V0 hp K=
 K (w6 e 20 (sI x20) 19 (sI x19) 137 (sI x19) 138 (sI x20) 139 (sB (decide (x19≥x20))) 10 (sB (decide (x19≥x20)))) V0 hp:= by kernel_rfl
theorem F138_r18 (h:E=upd (w4 e 16 (sI x16) 4 (sV x4) 3 (sI x3) 2 (sI x2)) 0 (sS x0a x0n x0c)):R138 3145699 7 E V0 hp K=
 CF Tryd.prog 138 [(.slice x0a x0n x0c),(.int .i64 (wr (x16+1))),(.int .i64 x2),(.int .i64 x3),x4] hp fun u1 h2=>(K (w7 E 140 (sS x0a x0n x0c) 141 (sI x16) 142 (sI ((wr (x16+1)))) 143 (sI x2) 144 (sI x3) 145 (sV x4) 146 (sV u1)) V0 h2):= by subst h; kernel_rfl
theorem F138_r19:R138 4194275 2 (upd e 16 (sI x16)) V0 hp K=
 K (w3 e 16 (sI x16) 147 (sI x16) 2 (sI x16)) V0 hp:= by kernel_rfl
def F138_j6 (x0a:OA) (x0n x0c:Nat) (x1 x2 x3:Int) (x4:Value) (x10 x11:Bool) (x12 x13:Int) (x97:Bool) (hp:HP) (I2:(Int × Int × Int × Bool × Bool)→HP→Prop) (K:Kh):Prop:=
  (ite2 x97 (CF Tryd.prog 166 [(.slice x0a x0n x0c),(.int .i64 x1),(.int .i64 x2),(.int .i64 x13),x4] hp fun u11 h12=>intV u11 .i64 fun i13=>I2 (i13,x2,x3,x10,x11) h12) (CF Tryd.prog 167 [(.slice x0a x0n x0c),(.int .i64 x1),(.int .i64 x2),(.int .i64 x13),x4] hp fun u14 h15=>tup2V u14 fun u16 u17=>intV u16 .i64 fun i18=>boolV u17 fun q19=>((8:Int)≠0)∧(ite2 (decide (((IntKind.wrap .i64 (i18-x1)):Int)<(IntKind.wrap .i64 (x2-i18)))) (CF Tryd.prog 138 [(.slice x0a x0n x0c),(.int .i64 x1),(.int .i64 i18),(.int .i64 x3),x4] h15 fun u20 h21=>I2 ((IntKind.wrap .i64 (i18+1)),x2,x3,(decide (((IntKind.wrap .i64 (i18-x1)):Int)≥(IntKind.wrap .i64 (Int.tdiv x12 8)))),q19) h21) (CF Tryd.prog 138 [(.slice x0a x0n x0c),(.int .i64 (IntKind.wrap .i64 (i18+1))),(.int .i64 x2),(.int .i64 x3),x4] h15 fun u22 h23=>I2 (x1,i18,x3,(decide (((IntKind.wrap .i64 (x2-i18)):Int)≥(IntKind.wrap .i64 (Int.tdiv x12 8)))),q19) h23))))
theorem F138_r20 (h:E=upd (w3 e 13 (sI x13) 4 (sV x4) 1 (sI x1)) 0 (sS x0a x0n x0c)):R138 20451 17 E V0 hp K=
    (ite2 (decide (x1 > 0)) ((0≤((wr (x1-1)):Int))∧(((wr (x1-1)):Int)<x0n)∧(ptrN x0a fun b1 o2=>ldL (HP.cellN hp b1 (o2+Int.toNat (wr (x1-1))*9) 9) fun l3=>(0≤x13)∧(x13<x0n)∧(ptrN x0a fun b4 o5=>ldL (HP.cellN hp b4 (o5+Int.toNat x13*9) 9) fun l6=>fnV x4 fun f7 ga8 gb9=>CF Tryd.prog f7 (ga8++[(Value.agg ⟨l3⟩),(.agg ⟨l6⟩)]++gb9) hp fun u10 h11=>intV u10 .i64 fun i12=>K (upd (w8 (w8 E 81 (sI x1) 82 (sB (decide (x1 > 0))) 83 (sB true) 84 (sV x4) 85 (sS x0a x0n x0c) 86 (sI x1) 87 (sI ((wr (x1-1)))) 88 (sV (ptr b1 (o2+Int.toNat (wr (x1-1))*9)))) 89 (sA l3) 90 (sS x0a x0n x0c) 91 (sI x13) 92 (sQ b4 (o5+Int.toNat x13*9)) 93 (sA l6) 94 (sI i12) 95 (sB (decide (i12<0))) 96 (sB ((!(decide (i12<0)))))) 97 (sB ((!(decide (i12<0)))))) V0 h11))) (K (upd (w8 (w8 E 81 (sI x1) 82 (sB (decide (x1 > 0))) 83 (sB false) 84 sU 85 sU 86 sU 87 sU 88 sU) 89 sU 90 sU 91 sU 92 sU 93 sU 94 sU 95 sU 96 sU) 97 (sB false)) V0 hp)):=by subst h; kernel_rfl
def F138_j5 (x0a:OA) (x0n x0c:Nat) (x1 x2 x3:Int) (x4:Value) (x10 x11:Bool) (x12 x13:Int) (hp:HP) (I2:(Int × Int × Int × Bool × Bool)→HP→Prop) (K:Kh):Prop:=
  (ite2 (decide (x1 > 0)) ((0≤((IntKind.wrap .i64 (x1-1)):Int))∧(((IntKind.wrap .i64 (x1-1)):Int)<x0n)∧(ptrN x0a fun b24 o25=>ldL (HP.cellN hp b24 (o25+Int.toNat (IntKind.wrap .i64 (x1-1))*9) 9) fun l26=>(0≤x13)∧(x13<x0n)∧(ptrN x0a fun b27 o28=>ldL (HP.cellN hp b27 (o28+Int.toNat x13*9) 9) fun l29=>fnV x4 fun f30 ga_31 gb_32=>CF Tryd.prog f30 (ga_31++[(Value.agg ⟨l26⟩),(.agg ⟨l29⟩)]++gb_32) hp fun u33 h34=>intV u33 .i64 fun i35=>F138_j6 x0a x0n x0c x1 x2 x3 x4 x10 x11 x12 x13 (!(decide (i35<0))) h34 I2 K))) (F138_j6 x0a x0n x0c x1 x2 x3 x4 x10 x11 x12 x13 false hp I2 K))
theorem F138_r21 (h:E=upd (w3 e 4 (sV x4) 2 (sI x2) 1 (sI x1)) 0 (sS x0a x0n x0c)):R138 38883 5 E V0 hp K=
 CF Tryd.prog 165 [(.slice x0a x0n x0c),(.int .i64 x1),(.int .i64 x2),x4] hp fun u1 h2=>(boolV u1 fun q3=>K (w5 E 76 (sS x0a x0n x0c) 77 (sI x1) 78 (sI x2) 79 (sV x4) 80 (sB q3)) V0 h2):= by subst h; kernel_rfl
def F138_j7 (x0a:OA) (x0n x0c:Nat) (x1 x2 x3:Int) (x4:Value) (x10 x11:Bool) (x12 x13:Int) (x75:Bool) (hp:HP) (I2:(Int × Int × Int × Bool × Bool)→HP→Prop) (K:Kh):Prop:=
  (ite2 x75 (CF Tryd.prog 165 [(.slice x0a x0n x0c),(.int .i64 x1),(.int .i64 x2),x4] hp fun u36 h37=>boolV u36 fun q38=>ite2 q38 (K (.tuple ⟨[]⟩) h37) (F138_j5 x0a x0n x0c x1 x2 x3 x4 x10 x11 x12 x13 h37 I2 K)) (F138_j5 x0a x0n x0c x1 x2 x3 x4 x10 x11 x12 x13 hp I2 K))
theorem F138_r22 (h:E=upd (w2 e 14 (sI x14) 11 (sB x11)) 10 (sB x10)):R138 10211 8 E V0 hp K=
 ite2 x10 (ite2 x11 (K (w8 E 68 (sB x10) 69 (sB true) 70 (sB x11) 71 (sB x11) 72 (sB true) 73 (sI x14) 74 (sB ((x14==1))) 75 (sB ((x14==1)))) V0 hp) (K (w8 E 68 (sB x10) 69 (sB true) 70 (sB x11) 71 (sB x11) 72 (sB false) 73 sU 74 sU 75 (sB false)) V0 hp)) (K (w8 E 68 (sB x10) 69 (sB false) 70 sU 71 (sB false) 72 (sB false) 73 sU 74 sU 75 (sB false)) V0 hp):= by subst h; kernel_rfl
def F138_j4 (x0a:OA) (x0n x0c:Nat) (x1 x2 x3:Int) (x4:Value) (x10 x11:Bool) (x12 x13 x14:Int) (hp:HP) (I2:(Int × Int × Int × Bool × Bool)→HP→Prop) (K:Kh):Prop:=
  (ite2 x10 (ite2 x11 (F138_j7 x0a x0n x0c x1 x2 x3 x4 x10 x11 x12 x13 (x14==1) hp I2 K) (F138_j7 x0a x0n x0c x1 x2 x3 x4 x10 x11 x12 x13 false hp I2 K)) (F138_j7 x0a x0n x0c x1 x2 x3 x4 x10 x11 x12 x13 false hp I2 K))
theorem F138_r23:R138 5091 2 (upd e 14 (sI x14)) V0 hp K=
 K (w3 e 14 (sI x14) 55 (sI x14) 56 (sB ((x14==2)))) V0 hp:= by kernel_rfl
theorem F138_r24 (h:E=upd (w3 e 4 (sV x4) 2 (sI x2) 1 (sI x1)) 0 (sS x0a x0n x0c)):R138 19427 5 E V0 hp K=
 CF Tryd.prog 164 [(.slice x0a x0n x0c),(.int .i64 x1),(.int .i64 x2),x4] hp fun u1 h2=>(K (w5 E 57 (sS x0a x0n x0c) 58 (sI x1) 59 (sI x2) 60 (sV x4) 61 (sV u1)) V0 h2):= by subst h; kernel_rfl
theorem F138_r25 (h:E=upd (w2 e 13 (sI x13) 2 (sI x2)) 1 (sI x1)):R138 44003 7 E V0 hp K=
 K (w7 E 62 (sI x2) 63 (sI ((wr (x2-1)))) 64 (sI x13) 65 (sI x1) 66 (sI ((wr (x13-x1)))) 67 (sI ((wr ((wr (x2-1))-(wr (x13-x1)))))) 13 (sI ((wr ((wr (x2-1))-(wr (x13-x1))))))) V0 hp:= by subst h; kernel_rfl
theorem F138_r26:R138 60387 1 e V0 hp K=
 K (upd e 14 (sI 1)) V0 hp:= by kernel_rfl
def F138_j3 (x0a:OA) (x0n x0c:Nat) (x1 x2 x3:Int) (x4:Value) (x10 x11:Bool) (x12:Int) (hp:HP) (I2:(Int × Int × Int × Bool × Bool)→HP→Prop) (K:Kh):Prop:=
  (CF Tryd.prog 163 [(.slice x0a x0n x0c),(.int .i64 x1),(.int .i64 x2),x4] hp fun u5 h6=>tup2V u5 fun u7 u8=>intV u7 .i64 fun i9=>intV u8 .i64 fun i10=>ite2 (i10==2) (CF Tryd.prog 164 [(.slice x0a x0n x0c),(.int .i64 x1),(.int .i64 x2),x4] h6 fun u39 h40=>F138_j4 x0a x0n x0c x1 x2 x3 x4 x10 x11 x12 (IntKind.wrap .i64 ((IntKind.wrap .i64 (x2-1))-(IntKind.wrap .i64 (i9-x1)))) 1 h40 I2 K) (F138_j4 x0a x0n x0c x1 x2 x3 x4 x10 x11 x12 i9 i10 h6 I2 K))
theorem F138_r27:R138 1251 2 (upd e 10 (sB x10)) V0 hp K=
 K (w3 e 10 (sB x10) 38 (sB x10) 39 (sB ((!x10)))) V0 hp:= by kernel_rfl
theorem F138_r28 (h:E=upd (w3 e 4 (sV x4) 2 (sI x2) 1 (sI x1)) 0 (sS x0a x0n x0c)):R138 4835 5 E V0 hp K=
 CF Tryd.prog 162 [(.slice x0a x0n x0c),(.int .i64 x1),(.int .i64 x2),x4] hp fun u1 h2=>(K (w5 E 40 (sS x0a x0n x0c) 41 (sI x1) 42 (sI x2) 43 (sV x4) 44 (sV u1)) V0 h2):= by subst h; kernel_rfl
theorem F138_r29:R138 6883 3 (upd e 3 (sI x3)) V0 hp K=
 K (w4 e 3 (sI x3) 45 (sI x3) 46 (sI ((wr (x3-1)))) 3 (sI ((wr (x3-1))))) V0 hp:= by kernel_rfl
def F138_l2 (x0a:OA) (x0n x0c:Nat) (x4:Value) (K:Kh) (I2:(Int × Int × Int × Bool × Bool)→HP→Prop) (x1 x2 x3:Int) (x10 x11:Bool) (hp:HP):Prop:=
  (ite2 (decide (((IntKind.wrap .i64 (x2-x1)):Int)≤12)) (CF Tryd.prog 160 [(.slice x0a x0n x0c),(.int .i64 x1),(.int .i64 x2),x4] hp fun u1 h2=>K (.tuple ⟨[]⟩) h2) (ite2 (x3==0) (CF Tryd.prog 161 [(.slice x0a x0n x0c),(.int .i64 x1),(.int .i64 x2),x4] hp fun u3 h4=>K (.tuple ⟨[]⟩) h4) (ite2 (!x10) (CF Tryd.prog 162 [(.slice x0a x0n x0c),(.int .i64 x1),(.int .i64 x2),x4] hp fun u41 h42=>F138_j3 x0a x0n x0c x1 x2 (IntKind.wrap .i64 (x3-1)) x4 x10 x11 (IntKind.wrap .i64 (x2-x1)) h42 I2 K) (F138_j3 x0a x0n x0c x1 x2 x3 x4 x10 x11 (IntKind.wrap .i64 (x2-x1)) hp I2 K))))
def F138_j1 (x0a:OA) (x0n x0c:Nat) (x1 x2 x3:Int) (x4:Value) (x10 x11:Bool) (hp:HP) (K:Kh):Prop:=
  (LoopP (σ:=Int × Int × Int × Bool × Bool) (fun I s hp=>F138_l2 x0a x0n x0c x4  K I s.1 s.2.1 s.2.2.1 s.2.2.2.1 s.2.2.2.2 hp) (x1,x2,x3,x10,x11) hp)
theorem F138_r30:R138 5 1 e V0 hp K=
 K (upd e 11 (sB true)) V0 hp:= by kernel_rfl
def F138 (x0a:OA) (x0n x0c:Nat) (x1 x2 x3:Int) (x4:Value) (hp:HP) (K:Kh):Prop:=
  (F138_j1 x0a x0n x0c x1 x2 x3 x4 true true hp  K)
noncomputable abbrev o138 (k n:Nat):Code:=.region k (opsAt Tryd.f138 (pth n)) false
noncomputable def F138_code:Code:=(.seq (o138 0 2) (.seq (o138 1 5) (.block 0 (.loop (.block 1 (.seq (o138 2 67) (.seq (.seq (o138 3 291) (.cond (.tmp 25) (.seq (o138 4 1187) .ret) .skip)) (.seq (.seq (o138 5 611) (.cond (.tmp 32) (.seq (o138 6 2403) .ret) .skip)) (.seq (.seq (o138 7 1251) (.cond (.tmp 39) (.seq (o138 8 4835) (o138 9 6883)) .skip)) (.seq (o138 10 1507) (.seq (.seq (o138 11 5091) (.cond (.tmp 56) (.seq (o138 12 19427) (.seq (o138 13 44003) (o138 14 60387))) .skip)) (.seq (.seq (o138 15 10211) (.cond (.tmp 75) (.seq (o138 16 38883) (.cond (.tmp 80) .ret .skip)) .skip)) (.seq (.seq (.region 17 (opsAt Tryd.f138 (pth 20451)) true) (.cond (.tmp 97) (.seq (o138 18 77795) (.seq (o138 19 176099) (.exit 1))) .skip)) (.seq (o138 20 24547) (.seq (o138 21 49123) (.seq (o138 22 98275) (.seq (o138 23 196579) (.seq (o138 24 393187) (.cond (.tmp 125) (.seq (o138 25 1310691) (.seq (o138 26 2883555) (o138 27 3932131))) (.seq (o138 28 1572835) (.seq (o138 29 3145699) (o138 30 4194275))))))))))))))))))))))
theorem F138_body:Tryd.f138.body=some F138_code:=by kernel_rfl
theorem F138_ok (x0a:OA) (x0n x0c:Nat) (x1 x2 x3:Int) (x4:Value) (hp:HP) (K:Kh) (h:F138 x0a x0n x0c x1 x2 x3 x4 hp K):CF Tryd.prog 138 [(.slice x0a x0n x0c),(.int .i64 x1),(.int .i64 x2),(.int .i64 x3),x4] hp K:=by
 refine .inl ⟨by kernel_rfl,AC.intro (N:=148) Tryd.func138 F138_body rfl (Nat.le_of_ble_eq_true rfl) ?_⟩
 unfold F138 at h
 refine Ar F138_r0 ?_ (r5 0 1 2 3 4 Rn) (z5 Sn) Sn
 refine As (fun env pv hp=>∃ x0a x0n x0c x1 x2 x3 x4 x10 x11,Sub (w7 E0 11 (sB x11) 10 (sB x10) 4 (sV x4) 3 (sI x3) 2 (sI x2) 1 (sI x1) 0 (sS x0a x0n x0c)) env∧Sub V0 pv∧F138_j1 x0a x0n x0c x1 x2 x3 x4 x10 x11 hp  K) ?_ ?_
 ·refine Ag F138_r30 ?_ (r6 0 1 2 3 4 10 Rn) (z6 Sn) Sn
  exact ⟨_,_,_,_,_,_,_,_,_,(z7 Sn),Sn,h⟩
 ·rintro env pv hp ⟨x0a,x0n,x0c,x1,x2,x3,x4,x10,x11,he,hv,h⟩
  refine Ae ?_ (r7 0 1 2 3 4 10 11 Rn) he hv
  unfold F138_j1 at h
  refine AWP.block (AWP.loop (σ:=Int × Int × Int × Bool × Bool) _ (fun s=>w7 E0 11 (sB (s.2.2.2.2)) 10 (sB (s.2.2.2.1)) 4 (sV x4) 3 (sI (s.2.2.1)) 2 (sI (s.2.1)) 1 (sI (s.1)) 0 (sS x0a x0n x0c)) (fun s=>V0) (x1,x2,x3,x10,x11) h (fun s=>r7 0 1 2 3 4 10 11 Rn) (z7 Sn) Sn ?_)
  intro I2 s hp h
  obtain ⟨x1,x2,x3,x10,x11⟩:=s
  replace h:F138_l2 x0a x0n x0c x4  K I2 x1 x2 x3 x10 x11 hp:=h
  unfold F138_l2 at h
  refine AWP.block (Ar F138_r1 ?_ (r7 1 2 0 3 4 10 11 Rn) (z7 Sn) Sn)
  refine Aq (Ar F138_r2 ?_ (r8 12 0 1 2 3 4 10 11 Rn) (z8 Sn) Sn)
  refine Ac h rfl (fun h=>?_) (fun h=>?_)
  ·refine Ar (F138_r3 rfl) ?_ (r4 0 1 2 4 Rn) (z4 Sn) Sn
   refine mC h fun u1 h2 h=>?_
   refine AWP.ret ?_
   exact h
  ·refine AWP.skip (Aq (Ar F138_r4 ?_ (r8 3 0 1 2 4 10 11 12 Rn) (z8 Sn) Sn))
   refine Ac h rfl (fun h=>?_) (fun h=>?_)
   ·refine Ar (F138_r5 rfl) ?_ (r4 0 1 2 4 Rn) (z4 Sn) Sn
    refine mC h fun u3 h4 h=>?_
    refine AWP.ret ?_
    exact h
   ·refine AWP.skip (As (fun env pv hp=>∃ x1 x2 x3 x10 x11 x12,Sub (w8 E0 12 (sI x12) 11 (sB x11) 10 (sB x10) 4 (sV x4) 3 (sI x3) 2 (sI x2) 1 (sI x1) 0 (sS x0a x0n x0c)) env∧Sub V0 pv∧F138_j3 x0a x0n x0c x1 x2 x3 x4 x10 x11 x12 hp I2 K) ?_ ?_)
    ·refine Ar F138_r27 ?_ (r8 10 0 1 2 3 4 11 12 Rn) (z8 Sn) Sn
     refine Ac h rfl (fun h=>?_) (fun h=>?_)
     ·refine Ar (F138_r28 rfl) ?_ (r8 0 1 2 4 3 10 11 12 Rn) (z8 Sn) Sn
      refine mC h fun u41 h42 h=>?_
      refine Ag F138_r29 ?_ (r8 3 0 1 2 4 10 11 12 Rn) (z8 Sn) Sn
      exact ⟨_,_,_,_,_,_,(z8 Sn),Sn,h⟩
     ·refine AWP.skip ?_
      exact ⟨_,_,_,_,_,_,(z8 Sn),Sn,h⟩
    ·rintro env pv hp ⟨x1,x2,x3,x10,x11,x12,he,hv,h⟩
     refine Ae ?_ (r8 0 1 2 3 4 10 11 12 Rn) he hv
     unfold F138_j3 at h
     refine Ar (F138_r6 rfl) ?_ (r8 0 1 2 4 3 10 11 12 Rn) (z8 Sn) Sn
     refine mC h fun u5 h6 h=>mT h fun u7 u8 h=>mI h fun i9 h=>mI h fun i10 h=>?_
     refine As (fun env pv hp=>∃ x1 x2 x3 x10 x11 x12 x13 x14,Sub (w2 (w8 E0 14 (sI x14) 13 (sI x13) 12 (sI x12) 11 (sB x11) 10 (sB x10) 4 (sV x4) 3 (sI x3) 2 (sI x2)) 1 (sI x1) 0 (sS x0a x0n x0c)) env∧Sub V0 pv∧F138_j4 x0a x0n x0c x1 x2 x3 x4 x10 x11 x12 x13 x14 hp I2 K) ?_ ?_
     ·refine Ar F138_r23 ?_ (r8 14 0 1 2 3 4 10 11 (r2 12 13 Rn)) (z2 (z8 Sn)) Sn
      refine Ac h rfl (fun h=>?_) (fun h=>?_)
      ·refine Ar (F138_r24 rfl) ?_ (r8 0 1 2 4 3 10 11 12 (r1 13 Rn)) (z1 (z8 Sn)) Sn
       refine mC h fun u39 h40 h=>?_
       refine Ar (F138_r25 rfl) ?_ (r8 1 2 13 0 3 4 10 11 (r1 12 Rn)) (z1 (z8 Sn)) Sn
       refine Ag F138_r26 ?_ (r8 0 1 2 3 4 10 11 12 (r1 13 Rn)) (z1 (z8 Sn)) Sn
       exact ⟨_,_,_,_,_,_,_,_,(z2 (z8 Sn)),Sn,h⟩
      ·refine AWP.skip ?_
       exact ⟨_,_,_,_,_,_,_,_,(z2 (z8 Sn)),Sn,h⟩
     ·rintro env pv hp ⟨x1,x2,x3,x10,x11,x12,x13,x14,he,hv,h⟩
      refine Ae ?_ (r8 0 1 2 3 4 10 11 12 (r2 13 14 Rn)) he hv
      unfold F138_j4 at h
      refine As (fun env pv hp=>∃ x1 x2 x3 x10 x11 x12 x13,Sub (upd (w8 E0 13 (sI x13) 12 (sI x12) 11 (sB x11) 10 (sB x10) 4 (sV x4) 3 (sI x3) 2 (sI x2) 1 (sI x1)) 0 (sS x0a x0n x0c)) env∧Sub V0 pv∧F138_j5 x0a x0n x0c x1 x2 x3 x4 x10 x11 x12 x13 hp I2 K) ?_ ?_
      ·refine As (fun env pv hp=>∃ x1 x2 x3 x10 x11 x12 x13 x75,Sub (w2 (w8 E0 75 (sB x75) 13 (sI x13) 12 (sI x12) 11 (sB x11) 10 (sB x10) 4 (sV x4) 3 (sI x3) 2 (sI x2)) 1 (sI x1) 0 (sS x0a x0n x0c)) env∧Sub V0 pv∧F138_j7 x0a x0n x0c x1 x2 x3 x4 x10 x11 x12 x13 x75 hp I2 K) ?_ ?_
       ·refine Ag (F138_r22 rfl) ?_ (r8 10 11 14 0 1 2 3 4 (r2 12 13 Rn)) (z2 (z8 Sn)) Sn
        refine mt h (fun h=>?_) (fun h=>?_)
        ·refine mt h (fun h=>?_) (fun h=>?_)
         ·exact ⟨_,_,_,_,_,_,_,_,(z2 (z8 Sn)),Sn,h⟩
         ·exact ⟨_,_,_,_,_,_,_,_,(z2 (z8 Sn)),Sn,h⟩
        ·exact ⟨_,_,_,_,_,_,_,_,(z2 (z8 Sn)),Sn,h⟩
       ·rintro env pv hp ⟨x1,x2,x3,x10,x11,x12,x13,x75,he,hv,h⟩
        refine Ae ?_ (r8 0 1 2 3 4 10 11 12 (r2 13 75 Rn)) he hv
        unfold F138_j7 at h
        refine Ac h rfl (fun h=>?_) (fun h=>?_)
        ·refine Ar (F138_r21 rfl) ?_ (r8 0 1 2 4 3 10 11 12 (r1 13 Rn)) (z1 (z8 Sn)) Sn
         refine mC h fun u36 h37 h=>mB h fun q38 h=>?_
         refine Ac h rfl (fun h=>?_) (fun h=>?_)
         ·refine AWP.ret ?_
          exact h
         ·refine AWP.skip ?_
          exact ⟨_,_,_,_,_,_,_,(z1 (z8 Sn)),Sn,h⟩
        ·refine AWP.skip ?_
         exact ⟨_,_,_,_,_,_,_,(z1 (z8 Sn)),Sn,h⟩
      ·rintro env pv hp ⟨x1,x2,x3,x10,x11,x12,x13,he,hv,h⟩
       refine Ae ?_ (r8 0 1 2 3 4 10 11 12 (r1 13 Rn)) he hv
       unfold F138_j5 at h
       refine Aq (As (fun env pv hp=>∃ x1 x2 x3 x10 x11 x12 x13 x97,Sub (w2 (w8 E0 97 (sB x97) 13 (sI x13) 12 (sI x12) 11 (sB x11) 10 (sB x10) 4 (sV x4) 3 (sI x3) 2 (sI x2)) 1 (sI x1) 0 (sS x0a x0n x0c)) env∧Sub V0 pv∧F138_j6 x0a x0n x0c x1 x2 x3 x4 x10 x11 x12 x13 x97 hp I2 K) ?_ ?_)
       ·refine AWP.rgnD (by kernel_rfl) (by kernel_rfl) (F138_r20 rfl) ?_ (r8 0 1 4 13 2 3 10 11 (r1 12 Rn)) (z1 (z8 Sn)) Sn
        refine mt h (fun h=>?_) (fun h=>?_)
        ·refine ⟨h.1,h.2.1,mN h.2.2 (fun b24 o25 h=>mL h (fun l26 h=>⟨h.1,h.2.1,mN h.2.2 fun b27 o28 h=>mL h fun l29 h=>mF h fun f30 ga_31 gb_32 h=>mC h fun u33 h34 h=>mI h fun i35 h=>?_⟩))⟩
         exact ⟨_,_,_,_,_,_,_,_,(z2 (z8 Sn)),Sn,h⟩
        ·exact ⟨_,_,_,_,_,_,_,_,(z2 (z8 Sn)),Sn,h⟩
       ·rintro env pv hp ⟨x1,x2,x3,x10,x11,x12,x13,x97,he,hv,h⟩
        refine Ae ?_ (r8 0 1 2 3 4 10 11 12 (r2 13 97 Rn)) he hv
        unfold F138_j6 at h
        refine Ac h rfl (fun h=>?_) (fun h=>?_)
        ·refine Ar (F138_r7 rfl) ?_ (r8 0 1 2 4 13 3 10 11 Rn) (z8 Sn) Sn
         refine mC h fun u11 h12 h=>mI h fun i13 h=>?_
         refine Ar F138_r8 ?_ (r7 15 0 2 3 4 10 11 Rn) (z7 Sn) Sn
         refine AWP.exit ?_
         exact ⟨_,(z7 Sn),Sn,h⟩
        ·refine AWP.skip (Ar (F138_r9 rfl) ?_ (r7 0 1 2 4 13 3 12 Rn) (z7 Sn) Sn)
         refine mC h fun u14 h15 h=>mT h fun u16 u17 h=>mI h fun i18 h=>mB h fun q19 h=>?_
         refine Ar F138_r10 ?_ (r8 17 0 1 2 3 4 12 16 Rn) (z8 Sn) Sn
         refine Ar (F138_r11 rfl) ?_ (r8 1 2 16 0 3 4 11 12 Rn) (z8 Sn) Sn
         refine Ar F138_r12 ?_ (r8 12 0 1 2 3 4 11 16 (r2 18 19 Rn)) (z2 (z8 Sn)) Sn
         refine ⟨h.1,?_⟩
         replace h:=h.2
         refine Ar F138_r13 ?_ (r8 18 19 0 1 2 3 4 11 (r2 16 20 Rn)) (z2 (z8 Sn)) Sn
         refine Ac h rfl (fun h=>?_) (fun h=>?_)
         ·refine Ar F138_r14 ?_ (r8 18 20 0 1 2 3 4 11 (r1 16 Rn)) (z1 (z8 Sn)) Sn
          refine Ar (F138_r15 rfl) ?_ (r8 0 1 3 4 16 2 10 11 Rn) (z8 Sn) Sn
          refine mC h fun u20 h21 h=>?_
          refine Ag F138_r16 ?_ (r7 16 0 2 3 4 10 11 Rn) (z7 Sn) Sn
          exact ⟨_,(z7 Sn),Sn,h⟩
         ·refine Ar F138_r17 ?_ (r8 19 20 0 1 2 3 4 11 (r1 16 Rn)) (z1 (z8 Sn)) Sn
          refine Ar (F138_r18 rfl) ?_ (r8 0 2 3 4 16 1 10 11 Rn) (z8 Sn) Sn
          refine mC h fun u22 h23 h=>?_
          refine Ag F138_r19 ?_ (r7 16 0 1 3 4 10 11 Rn) (z7 Sn) Sn
          exact ⟨_,(z7 Sn),Sn,h⟩
end
section
variable {e E:Env} {x0a:OA} {x0n x0c:Nat} {x1 x2 x8:Int} {x9:OA} {x10 x11 x12:Int} {hp:HP} {K:Env→PV→HP→Prop}
abbrev R162 (p n:Nat):=RW Tryd.prog 67 [] (opsAt Tryd.f162 (pth p)) (List.range n)
theorem F162_r0:R162 2 4 (w2 e 2 (sI x2) 1 (sI x1)) V0 hp K=
 K (w6 e 2 (sI x2) 1 (sI x1) 13 (sI x2) 14 (sI x1) 15 (sI ((wr (x2-x1)))) 8 (sI ((wr (x2-x1))))) V0 hp:= by kernel_rfl
theorem F162_r1:R162 5 2 (upd e 8 (sI x8)) V0 hp K=
 K (w3 e 8 (sI x8) 16 (sI x8) 17 (sB (decide (x8≥8)))) V0 hp:= by kernel_rfl
theorem F162_r2:R162 19 4 (upd e 8 (sI x8)) V0 hp K=
    (∀ b1:Nat,hp b1=.none→(HP.st (HP.set hp b1 (.cells 247 [.int .u64 0] 0)) b1 0 (.int .u64 (IntKind.wrap .u64 (x8))) fun h2=>K (w4 e 8 (sI x8) 18 (sI x8) 19 (sV (.int .u64 (IntKind.wrap .u64 (x8)))) 9 (sQ b1 0)) V0 h2)):=by kernel_rfl
theorem F162_r3:R162 43 3 (upd e 8 (sI x8)) V0 hp K=
 CF Tryd.prog 169 [(.int .i64 x8)] hp fun u1 h2=>(intV u1 .u64 fun i3=>K (w4 e 8 (sI x8) 20 (sI x8) 21 (sV (.int .u64 i3)) 10 (sV (.int .u64 i3))) V0 h2):= by kernel_rfl
theorem F162_r4 (h:E=upd (w2 e 11 (sI x11) 8 (sI x8)) 1 (sI x1)):R162 1083 8 E V0 hp K=
    (((4:Int)≠0)∧(K (w8 E 28 (sI x11) 29 (sI x1) 30 (sI x8) 31 (sI ((wr (Int.tdiv x8 4)))) 32 (sI ((wr ((wr (Int.tdiv x8 4))*2)))) 33 (sI ((wr (x1+(wr ((wr (Int.tdiv x8 4))*2)))))) 34 (sI ((wr ((wr (x1+(wr ((wr (Int.tdiv x8 4))*2))))+1)))) 35 (sB ((decide (x11≤(wr ((wr (x1+(wr ((wr (Int.tdiv x8 4))*2))))+1))))))) V0 hp)):=by subst h; kernel_rfl
theorem F162_r5 (h:E=upd (upd e 10 (sV (.int .u64 x10))) 9 (sP x9)):R162 4411 6 E V0 hp K=
 CF Tryd.prog 170 [(.pointer x9)] hp fun u1 h2=>(intV u1 .u64 fun i3=>K (w6 E 38 (sV (.int .u64 i3)) 39 (sV (.int .u64 x10)) 40 (sV (.int .u64 (IntKind.wrap .u64 (x10-1)))) 41 (sV (.int .u64 (band .u64 i3 (IntKind.wrap .u64 (x10-1))))) 42 (sI ((wr ((band .u64 i3 (IntKind.wrap .u64 (x10-1))))))) 12 (sI ((wr ((band .u64 i3 (IntKind.wrap .u64 (x10-1)))))))) V0 h2):= by subst h; kernel_rfl
theorem F162_r6 (h:E=upd (w3 e 12 (sI x12) 11 (sI x11) 1 (sI x1)) 0 (sS x0a x0n x0c)):R162 14651 20 E V0 hp K=
    ((0≤((wr (x1+x12)):Int))∧(((wr (x1+x12)):Int)<x0n)∧(ptrN x0a fun b1 o2=>ldL (HP.cellN hp b1 (o2+Int.toNat (wr (x1+x12))*9) 9) fun l3=>(0≤x11)∧(x11<x0n)∧(ptrN x0a fun b4 o5=>ldL (HP.cellN hp b4 (o5+Int.toNat x11*9) 9) fun l6=>(0≤x11)∧(x11<x0n)∧(ptrN x0a fun b7 o8=>(List.length l3=9)∧(HP.stN hp b7 (o8+Int.toNat x11*9) l3 fun h9=>(0≤((wr (x1+x12)):Int))∧(((wr (x1+x12)):Int)<x0n)∧(ptrN x0a fun b10 o11=>(List.length l6=9)∧(HP.stN h9 b10 (o11+Int.toNat (wr (x1+x12))*9) l6 fun h12=>K (w2 (w8 (w8 E 49 (sS x0a x0n x0c) 50 (sI x11) 51 (sS x0a x0n x0c) 52 (sI x1) 53 (sI x12) 54 (sI ((wr (x1+x12)))) 55 (sS x0a x0n x0c) 56 (sI x1)) 57 (sI x12) 58 (sI ((wr (x1+x12)))) 59 (sV (ptr b1 (o2+Int.toNat (wr (x1+x12))*9))) 60 (sA l3) 61 (sS x0a x0n x0c) 62 (sI x11) 63 (sQ b4 (o5+Int.toNat x11*9)) 64 (sA l6)) 65 (sQ b7 (o8+Int.toNat x11*9)) 66 (sV (ptr b10 (o11+Int.toNat (wr (x1+x12))*9)))) V0 h12))))))):=by subst h; kernel_rfl
theorem F162_r7:R162 1851 3 (upd e 11 (sI x11)) V0 hp K=
 K (w4 e 11 (sI x11) 36 (sI x11) 37 (sI ((wr (x11+1)))) 11 (sI ((wr (x11+1))))) V0 hp:= by kernel_rfl
def F162_j3 (x0a:OA) (x0n x0c:Nat) (x1 x8:Int) (x9:OA) (x10 x11 x12:Int) (hp:HP) (I2:(Int)→HP→Prop) (K:Kh):Prop:=
  ((0≤((IntKind.wrap .i64 (x1+x12)):Int))∧(((IntKind.wrap .i64 (x1+x12)):Int)<x0n)∧(ptrN x0a fun b9 o10=>ldL (HP.cellN hp b9 (o10+Int.toNat (IntKind.wrap .i64 (x1+x12))*9) 9) fun l11=>(0≤x11)∧(x11<x0n)∧(ptrN x0a fun b12 o13=>ldL (HP.cellN hp b12 (o13+Int.toNat x11*9) 9) fun l14=>(0≤x11)∧(x11<x0n)∧(ptrN x0a fun b15 o16=>(List.length l11=9)∧(HP.stN hp b15 (o16+Int.toNat x11*9) l11 fun h17=>(0≤((IntKind.wrap .i64 (x1+x12)):Int))∧(((IntKind.wrap .i64 (x1+x12)):Int)<x0n)∧(ptrN x0a fun b18 o19=>(List.length l14=9)∧(HP.stN h17 b18 (o19+Int.toNat (IntKind.wrap .i64 (x1+x12))*9) l14 fun h20=>I2 (IntKind.wrap .i64 (x11+1)) h20)))))))
theorem F162_r8:R162 18747 3 (w2 e 12 (sI x12) 8 (sI x8)) V0 hp K=
 K (w5 e 12 (sI x12) 8 (sI x8) 43 (sI x12) 44 (sI x8) 45 (sB (decide (x12≥x8)))) V0 hp:= by kernel_rfl
theorem F162_r9:R162 43323 4 (w2 e 12 (sI x12) 8 (sI x8)) V0 hp K=
 K (w6 e 12 (sI x12) 8 (sI x8) 46 (sI x12) 47 (sI x8) 48 (sI ((wr (x12-x8)))) 12 (sI ((wr (x12-x8))))) V0 hp:= by kernel_rfl
def F162_l2 (x0a:OA) (x0n x0c:Nat) (x1 x8:Int) (x9:OA) (x10:Int) (K:Kh) (I2:(Int)→HP→Prop) (x11:Int) (hp:HP):Prop:=
  (((4:Int)≠0)∧(ite2 (decide (x11≤(IntKind.wrap .i64 ((IntKind.wrap .i64 (x1+(IntKind.wrap .i64 ((IntKind.wrap .i64 (Int.tdiv x8 4))*2))))+1)))) (CF Tryd.prog 170 [(.pointer x9)] hp fun u6 h7=>intV u6 .u64 fun i8=>ite2 (decide (((IntKind.wrap .i64 ((band .u64 i8 (IntKind.wrap .u64 (x10-1))))):Int)≥x8)) (F162_j3 x0a x0n x0c x1 x8 x9 x10 x11 (IntKind.wrap .i64 ((IntKind.wrap .i64 ((band .u64 i8 (IntKind.wrap .u64 (x10-1)))))-x8)) h7 I2 K) (F162_j3 x0a x0n x0c x1 x8 x9 x10 x11 (IntKind.wrap .i64 ((band .u64 i8 (IntKind.wrap .u64 (x10-1))))) h7 I2 K)) (K (.tuple ⟨[]⟩) hp)))
def F162_j1 (x0a:OA) (x0n x0c:Nat) (x1 x8:Int) (x9:OA) (x10 x11:Int) (hp:HP) (K:Kh):Prop:=
  (LoopP (σ:=Int) (fun I s hp=>F162_l2 x0a x0n x0c x1 x8 x9 x10  K I s hp) x11 hp)
theorem F162_r10:R162 91 7 (w2 e 8 (sI x8) 1 (sI x1)) V0 hp K=
    (((4:Int)≠0)∧(K (upd (w8 e 8 (sI x8) 1 (sI x1) 22 (sI x1) 23 (sI x8) 24 (sI ((wr (Int.tdiv x8 4)))) 25 (sI ((wr ((wr (Int.tdiv x8 4))*2)))) 26 (sI ((wr (x1+(wr ((wr (Int.tdiv x8 4))*2)))))) 27 (sI ((wr ((wr (x1+(wr ((wr (Int.tdiv x8 4))*2))))-1))))) 11 (sI ((wr ((wr (x1+(wr ((wr (Int.tdiv x8 4))*2))))-1))))) V0 hp)):=by kernel_rfl
def F162 (x0a:OA) (x0n x0c:Nat) (x1 x2:Int) (x3:Value) (hp:HP) (K:Kh):Prop:=
  (ite2 (decide (((IntKind.wrap .i64 (x2-x1)):Int)≥8)) (∀ b1:Nat,hp b1=.none→(HP.st (HP.set hp b1 (.cells 247 [.int .u64 0] 0)) b1 0 (.int .u64 (IntKind.wrap .u64 ((IntKind.wrap .i64 (x2-x1))))) fun h2=>CF Tryd.prog 169 [(.int .i64 (IntKind.wrap .i64 (x2-x1)))] h2 fun u3 h4=>intV u3 .u64 fun i5=>((4:Int)≠0)∧(F162_j1 x0a x0n x0c x1 (IntKind.wrap .i64 (x2-x1)) (some ⟨b1,0,none⟩) i5 (IntKind.wrap .i64 ((IntKind.wrap .i64 (x1+(IntKind.wrap .i64 ((IntKind.wrap .i64 (Int.tdiv (IntKind.wrap .i64 (x2-x1)) 4))*2))))-1)) h4  K))) (K (.tuple ⟨[]⟩) hp))
noncomputable abbrev o162 (k n:Nat):Code:=.region k (opsAt Tryd.f162 (pth n)) false
noncomputable def F162_code:Code:=(.seq (o162 0 2) (.seq (o162 1 5) (.cond (.tmp 17) (.seq (o162 2 19) (.seq (o162 3 43) (.seq (o162 4 91) (.block 0 (.loop (.seq (.seq (o162 5 1083) (.cond (.tmp 35) .skip (.exit 0))) (.seq (.block 1 (.seq (o162 7 4411) (.seq (.seq (o162 8 18747) (.cond (.tmp 45) (o162 9 43323) .skip)) (.region 10 (opsAt Tryd.f162 (pth 14651)) true)))) (o162 6 1851)))))))) .skip)))
theorem F162_body:Tryd.f162.body=some F162_code:=by kernel_rfl
theorem F162_ok (x0a:OA) (x0n x0c:Nat) (x1 x2:Int) (x3:Value) (hp:HP) (K:Kh) (h:F162 x0a x0n x0c x1 x2 x3 hp K):CF Tryd.prog 162 [(.slice x0a x0n x0c),(.int .i64 x1),(.int .i64 x2),x3] hp K:=by
 refine .inl ⟨by kernel_rfl,AC.intro (N:=67) Tryd.func162 F162_body rfl (Nat.le_of_ble_eq_true rfl) ?_⟩
 unfold F162 at h
 refine Ar F162_r0 ?_ (r3 1 2 0 Rn) (z3 Sn) Sn
 refine Ar F162_r1 ?_ (r3 8 0 1 Rn) (z3 Sn) Sn
 refine Ac h rfl (fun h=>?_) (fun h=>?_)
 ·refine Ar F162_r2 ?_ (r3 8 0 1 Rn) (z3 Sn) Sn
  refine fun b1 hb_b_1=>?_
  replace h:=h b1 hb_b_1
  refine mw h fun h2 h=>?_
  refine Ar F162_r3 ?_ (r4 8 0 1 9 Rn) (z4 Sn) Sn
  refine mC h fun u3 h4 h=>mI h fun i5 h=>?_
  refine As (fun env pv hp=>∃ x0a x0n x0c x1 x8 x9 x10 x11,Sub (w6 E0 11 (sI x11) 10 (sV (.int .u64 x10)) 9 (sP x9) 8 (sI x8) 1 (sI x1) 0 (sS x0a x0n x0c)) env∧Sub V0 pv∧F162_j1 x0a x0n x0c x1 x8 x9 x10 x11 hp  K) ?_ ?_
  ·refine Ag F162_r10 ?_ (r5 1 8 0 9 10 Rn) (z5 Sn) Sn
   refine ⟨h.1,?_⟩
   replace h:=h.2
   exact ⟨_,_,_,_,_,_,_,_,(z6 Sn),Sn,h⟩
  ·rintro env pv hp ⟨x0a,x0n,x0c,x1,x8,x9,x10,x11,he,hv,h⟩
   refine Ae ?_ (r6 0 1 8 9 10 11 Rn) he hv
   unfold F162_j1 at h
   refine AWP.block (AWP.loop (σ:=Int) _ (fun s=>w6 E0 11 (sI s) 10 (sV (.int .u64 x10)) 9 (sP x9) 8 (sI x8) 1 (sI x1) 0 (sS x0a x0n x0c)) (fun s=>V0) x11 h (fun s=>r6 0 1 8 9 10 11 Rn) (z6 Sn) Sn ?_)
   intro I2 x11 hp h
   replace h:F162_l2 x0a x0n x0c x1 x8 x9 x10  K I2 x11 hp:=h
   unfold F162_l2 at h
   refine Aq (Ar (F162_r4 rfl) ?_ (r6 1 8 11 0 9 10 Rn) (z6 Sn) Sn)
   refine ⟨h.1,?_⟩
   replace h:=h.2
   refine Ac h rfl (fun h=>?_) (fun h=>?_)
   ·refine AWP.skip (Aq (AWP.block (Ar (F162_r5 rfl) ?_ (r6 9 10 0 1 8 11 Rn) (z6 Sn) Sn)))
    refine mC h fun u6 h7 h=>mI h fun i8 h=>?_
    refine As (fun env pv hp=>∃ x11 x12,Sub (w7 E0 12 (sI x12) 11 (sI x11) 10 (sV (.int .u64 x10)) 9 (sP x9) 8 (sI x8) 1 (sI x1) 0 (sS x0a x0n x0c)) env∧Sub V0 pv∧F162_j3 x0a x0n x0c x1 x8 x9 x10 x11 x12 hp I2 K) ?_ ?_
    ·refine Ar F162_r8 ?_ (r7 8 12 0 1 9 10 11 Rn) (z7 Sn) Sn
     refine Ac h rfl (fun h=>?_) (fun h=>?_)
     ·refine Ag F162_r9 ?_ (r7 8 12 0 1 9 10 11 Rn) (z7 Sn) Sn
      exact ⟨_,_,(z7 Sn),Sn,h⟩
     ·refine AWP.skip ?_
      exact ⟨_,_,(z7 Sn),Sn,h⟩
    ·rintro env pv hp ⟨x11,x12,he,hv,h⟩
     refine Ae ?_ (r7 0 1 8 9 10 11 12 Rn) he hv
     unfold F162_j3 at h
     refine AWP.rgnD (by kernel_rfl) (by kernel_rfl) (F162_r6 rfl) ?_ (r7 0 1 11 12 8 9 10 Rn) (z7 Sn) Sn
     refine ⟨h.1,h.2.1,mN h.2.2 (fun b9 o10 h=>mL h (fun l11 h=>⟨h.1,h.2.1,mN h.2.2 (fun b12 o13 h=>mL h (fun l14 h=>⟨h.1,h.2.1,mN h.2.2 (fun b15 o16 h=>⟨h.1,mW h.2 (fun h17 h=>⟨h.1,h.2.1,mN h.2.2 (fun b18 o19 h=>⟨h.1,mW h.2 fun h20 h=>?_⟩)⟩)⟩)⟩))⟩))⟩
     refine Ag F162_r7 ?_ (r6 11 0 1 8 9 10 Rn) (z6 Sn) Sn
     exact ⟨_,(z6 Sn),Sn,h⟩
   ·refine AWP.exit ?_
    exact h
 ·refine AWP.skip ?_
  exact h
end
section
variable {e E:Env} {x0a:OA} {x0n x0c:Nat} {x1 x2:Int} {x3:Value} {x10:Int} {x11:OA} {x12 x13 x14 x55:Int} {hp:HP} {K:Env→PV→HP→Prop}
abbrev R163 (p n:Nat):=RW Tryd.prog 63 [] (opsAt Tryd.f163 (pth p)) (List.range n)
theorem F163_r0:R163 2 2 e V0 hp K=
 K (w2 e 8 (sI 0) 9 (sI 0)) V0 hp:= by kernel_rfl
theorem F163_r1:R163 5 4 (w2 e 2 (sI x2) 1 (sI x1)) V0 hp K=
 K (w6 e 2 (sI x2) 1 (sI x1) 15 (sI x2) 16 (sI x1) 17 (sI ((wr (x2-x1)))) 10 (sI ((wr (x2-x1))))) V0 hp:= by kernel_rfl
theorem F163_r2:R163 11 1 e V0 hp K=
    (∀ b1:Nat,hp b1=.none→(K (upd e 11 (sQ b1 0)) V0 (HP.set hp b1 (.cells 3 [.int .i64 0] 0)))):=by kernel_rfl
theorem F163_r3:R163 23 6 (w2 e 10 (sI x10) 1 (sI x1)) V0 hp K=
    (((4:Int)≠0)∧(K (w8 e 10 (sI x10) 1 (sI x1) 18 (sI x1) 19 (sI x10) 20 (sI ((wr (Int.tdiv x10 4)))) 21 (sI ((wr ((wr (Int.tdiv x10 4))*1)))) 22 (sI ((wr (x1+(wr ((wr (Int.tdiv x10 4))*1)))))) 12 (sI ((wr (x1+(wr ((wr (Int.tdiv x10 4))*1))))))) V0 hp)):=by kernel_rfl
theorem F163_r4:R163 47 6 (w2 e 10 (sI x10) 1 (sI x1)) V0 hp K=
    (((4:Int)≠0)∧(K (w8 e 10 (sI x10) 1 (sI x1) 23 (sI x1) 24 (sI x10) 25 (sI ((wr (Int.tdiv x10 4)))) 26 (sI ((wr ((wr (Int.tdiv x10 4))*2)))) 27 (sI ((wr (x1+(wr ((wr (Int.tdiv x10 4))*2)))))) 13 (sI ((wr (x1+(wr ((wr (Int.tdiv x10 4))*2))))))) V0 hp)):=by kernel_rfl
theorem F163_r5:R163 95 6 (w2 e 10 (sI x10) 1 (sI x1)) V0 hp K=
    (((4:Int)≠0)∧(K (w8 e 10 (sI x10) 1 (sI x1) 28 (sI x1) 29 (sI x10) 30 (sI ((wr (Int.tdiv x10 4)))) 31 (sI ((wr ((wr (Int.tdiv x10 4))*3)))) 32 (sI ((wr (x1+(wr ((wr (Int.tdiv x10 4))*3)))))) 14 (sI ((wr (x1+(wr ((wr (Int.tdiv x10 4))*3))))))) V0 hp)):=by kernel_rfl
theorem F163_r6:R163 383 1 (upd e 11 (sP x11)) V0 hp K=
 ptrN x11 fun b1 o2=>(ldV (HP.cell hp b1 o2) fun v3=>intV v3 .i64 fun i4=>K (w2 e 11 (sP x11) 55 (sI i4)) V0 hp):= by kernel_rfl
theorem F163_r7:R163 1279 2 (upd e 55 (sI x55)) V0 hp K=
 K (w3 e 55 (sI x55) 58 (sB ((x55==0))) 57 (sB ((x55==0)))) V0 hp:= by kernel_rfl
theorem F163_r8:R163 4863 3 (upd e 13 (sI x13)) V0 hp K=
 K (w4 e 13 (sI x13) 59 (sI x13) 8 (sI x13) 9 (sI 1)) V0 hp:= by kernel_rfl
theorem F163_r9:R163 5887 2 (upd e 55 (sI x55)) V0 hp K=
 K (w3 e 55 (sI x55) 61 (sB ((x55==12))) 60 (sB ((x55==12)))) V0 hp:= by kernel_rfl
theorem F163_r10:R163 20223 3 (upd e 13 (sI x13)) V0 hp K=
 K (w4 e 13 (sI x13) 62 (sI x13) 8 (sI x13) 9 (sI 2)) V0 hp:= by kernel_rfl
theorem F163_r11:R163 24319 3 (upd e 13 (sI x13)) V0 hp K=
 K (w4 e 13 (sI x13) 56 (sI x13) 8 (sI x13) 9 (sI 0)) V0 hp:= by kernel_rfl
def F163_j1 (x11:OA) (x13:Int) (hp:HP) (K:Kh):Prop:=
  (ptrN x11 fun b2 o3=>ldV (HP.cell hp b2 o3) fun v4=>intV v4 .i64 fun i5=>ite2 (i5==0) (K (.tuple ⟨[(.int .i64 x13),(.int .i64 1)]⟩) hp) (ite2 (i5==12) (K (.tuple ⟨[(.int .i64 x13),(.int .i64 2)]⟩) hp) (K (.tuple ⟨[(.int .i64 x13),.int .i64 0]⟩) hp)))
theorem F163_r12:R163 319 2 (upd e 10 (sI x10)) V0 hp K=
 K (w3 e 10 (sI x10) 33 (sI x10) 34 (sB (decide (x10≥8)))) V0 hp:= by kernel_rfl
theorem F163_r13 (h:E=upd (w5 e 14 (sI x14) 13 (sI x13) 12 (sI x12) 11 (sP x11) 3 (sV x3)) 0 (sS x0a x0n x0c)):R163 1727 7 E V0 hp K=
 CF Tryd.prog 184 [(.slice x0a x0n x0c),(.int .i64 x12),(.int .i64 x13),(.int .i64 x14),(.pointer x11),x3] hp fun u1 h2=>(intV u1 .i64 fun i3=>K (w7 E 49 (sS x0a x0n x0c) 50 (sI x12) 51 (sI x13) 52 (sI x14) 53 (sV x3) 54 (sI i3) 13 (sI i3)) V0 h2):= by subst h; kernel_rfl
def F163_j2 (x0a:OA) (x0n x0c:Nat) (x3:Value) (x11:OA) (x12 x13 x14:Int) (hp:HP) (K:Kh):Prop:=
  (CF Tryd.prog 184 [(.slice x0a x0n x0c),(.int .i64 x12),(.int .i64 x13),(.int .i64 x14),(.pointer x11),x3] hp fun u6 h7=>intV u6 .i64 fun i8=>F163_j1 x11 i8 h7  K)
theorem F163_r14:R163 2239 2 (upd e 10 (sI x10)) V0 hp K=
 K (w3 e 10 (sI x10) 35 (sI x10) 36 (sB (decide (x10≥50)))) V0 hp:= by kernel_rfl
theorem F163_r15 (h:E=upd (w3 e 12 (sI x12) 11 (sP x11) 3 (sV x3)) 0 (sS x0a x0n x0c)):R163 9407 5 E V0 hp K=
 CF Tryd.prog 183 [(.slice x0a x0n x0c),(.int .i64 x12),(.pointer x11),x3] hp fun u1 h2=>(intV u1 .i64 fun i3=>K (w5 E 37 (sS x0a x0n x0c) 38 (sI x12) 39 (sV x3) 40 (sI i3) 12 (sI i3)) V0 h2):= by subst h; kernel_rfl
theorem F163_r16 (h:E=upd (w3 e 13 (sI x13) 11 (sP x11) 3 (sV x3)) 0 (sS x0a x0n x0c)):R163 21695 5 E V0 hp K=
 CF Tryd.prog 183 [(.slice x0a x0n x0c),(.int .i64 x13),(.pointer x11),x3] hp fun u1 h2=>(intV u1 .i64 fun i3=>K (w5 E 41 (sS x0a x0n x0c) 42 (sI x13) 43 (sV x3) 44 (sI i3) 13 (sI i3)) V0 h2):= by subst h; kernel_rfl
theorem F163_r17 (h:E=upd (w3 e 14 (sI x14) 11 (sP x11) 3 (sV x3)) 0 (sS x0a x0n x0c)):R163 29887 5 E V0 hp K=
 CF Tryd.prog 183 [(.slice x0a x0n x0c),(.int .i64 x14),(.pointer x11),x3] hp fun u1 h2=>(intV u1 .i64 fun i3=>K (w5 E 45 (sS x0a x0n x0c) 46 (sI x14) 47 (sV x3) 48 (sI i3) 14 (sI i3)) V0 h2):= by subst h; kernel_rfl
def F163 (x0a:OA) (x0n x0c:Nat) (x1 x2:Int) (x3:Value) (hp:HP) (K:Kh):Prop:=
  (∀ b1:Nat,hp b1=.none→(((4:Int)≠0)∧(((4:Int)≠0)∧(((4:Int)≠0)∧(ite2 (decide (((IntKind.wrap .i64 (x2-x1)):Int)≥8)) (ite2 (decide (((IntKind.wrap .i64 (x2-x1)):Int)≥50)) (CF Tryd.prog 183 [(.slice x0a x0n x0c),(.int .i64 (IntKind.wrap .i64 (x1+(IntKind.wrap .i64 ((IntKind.wrap .i64 (Int.tdiv (IntKind.wrap .i64 (x2-x1)) 4))*1))))),(.pointer (some ⟨b1,0,none⟩)),x3] (HP.set hp b1 (.cells 3 [.int .i64 0] 0)) fun u9 h10=>intV u9 .i64 fun i11=>CF Tryd.prog 183 [(.slice x0a x0n x0c),(.int .i64 (IntKind.wrap .i64 (x1+(IntKind.wrap .i64 ((IntKind.wrap .i64 (Int.tdiv (IntKind.wrap .i64 (x2-x1)) 4))*2))))),(.pointer (some ⟨b1,0,none⟩)),x3] h10 fun u12 h13=>intV u12 .i64 fun i14=>CF Tryd.prog 183 [(.slice x0a x0n x0c),(.int .i64 (IntKind.wrap .i64 (x1+(IntKind.wrap .i64 ((IntKind.wrap .i64 (Int.tdiv (IntKind.wrap .i64 (x2-x1)) 4))*3))))),(.pointer (some ⟨b1,0,none⟩)),x3] h13 fun u15 h16=>intV u15 .i64 fun i17=>F163_j2 x0a x0n x0c x3 (some ⟨b1,0,none⟩) i11 i14 i17 h16  K) (F163_j2 x0a x0n x0c x3 (some ⟨b1,0,none⟩) (IntKind.wrap .i64 (x1+(IntKind.wrap .i64 ((IntKind.wrap .i64 (Int.tdiv (IntKind.wrap .i64 (x2-x1)) 4))*1)))) (IntKind.wrap .i64 (x1+(IntKind.wrap .i64 ((IntKind.wrap .i64 (Int.tdiv (IntKind.wrap .i64 (x2-x1)) 4))*2)))) (IntKind.wrap .i64 (x1+(IntKind.wrap .i64 ((IntKind.wrap .i64 (Int.tdiv (IntKind.wrap .i64 (x2-x1)) 4))*3)))) (HP.set hp b1 (.cells 3 [.int .i64 0] 0))  K)) (F163_j1 (some ⟨b1,0,none⟩) (IntKind.wrap .i64 (x1+(IntKind.wrap .i64 ((IntKind.wrap .i64 (Int.tdiv (IntKind.wrap .i64 (x2-x1)) 4))*2)))) (HP.set hp b1 (.cells 3 [.int .i64 0] 0))  K))))))
noncomputable abbrev o163 (k n:Nat):Code:=.region k (opsAt Tryd.f163 (pth n)) false
noncomputable def F163_code:Code:=(.seq (o163 0 2) (.seq (o163 1 5) (.seq (o163 2 11) (.seq (o163 3 23) (.seq (o163 4 47) (.seq (o163 5 95) (.seq (.seq (o163 6 319) (.cond (.tmp 34) (.seq (.seq (o163 7 2239) (.cond (.tmp 36) (.seq (o163 8 9407) (.seq (o163 9 21695) (o163 10 29887))) .skip)) (o163 11 1727)) .skip)) (.seq (o163 12 383) (.block 0 (.seq (o163 14 1279) (.cond (.tmp 57) (.seq (o163 15 4863) .ret) (.seq (o163 16 5887) (.cond (.tmp 60) (.seq (o163 17 20223) .ret) (.seq (o163 13 24319) .ret))))))))))))))
theorem F163_body:Tryd.f163.body=some F163_code:=by kernel_rfl
theorem F163_ok (x0a:OA) (x0n x0c:Nat) (x1 x2:Int) (x3:Value) (hp:HP) (K:Kh) (h:F163 x0a x0n x0c x1 x2 x3 hp K):CF Tryd.prog 163 [(.slice x0a x0n x0c),(.int .i64 x1),(.int .i64 x2),x3] hp K:=by
 refine .inl ⟨by kernel_rfl,AC.intro (N:=63) Tryd.func163 F163_body rfl (Nat.le_of_ble_eq_true rfl) ?_⟩
 unfold F163 at h
 refine Ar F163_r0 ?_ (r4 0 1 2 3 Rn) (z4 Sn) Sn
 refine Ar F163_r1 ?_ (r4 1 2 0 3 Rn) (z4 Sn) Sn
 refine Ar F163_r2 ?_ (r4 0 1 3 10 Rn) (z4 Sn) Sn
 refine fun b1 hb_b_1=>?_
 replace h:=h b1 hb_b_1
 refine Ar F163_r3 ?_ (r5 1 10 0 3 11 Rn) (z5 Sn) Sn
 refine ⟨h.1,?_⟩
 replace h:=h.2
 refine Ar F163_r4 ?_ (r6 1 10 0 3 11 12 Rn) (z6 Sn) Sn
 refine ⟨h.1,?_⟩
 replace h:=h.2
 refine Ar F163_r5 ?_ (r7 1 10 0 3 11 12 13 Rn) (z7 Sn) Sn
 refine ⟨h.1,?_⟩
 replace h:=h.2
 refine As (fun env pv hp=>∃ x11 x13,Sub (w2 E0 13 (sI x13) 11 (sP x11)) env∧Sub V0 pv∧F163_j1 x11 x13 hp  K) ?_ ?_
 ·refine Ar F163_r12 ?_ (r7 10 0 3 11 12 13 14 Rn) (z7 Sn) Sn
  refine Ac h rfl (fun h=>?_) (fun h=>?_)
  ·refine As (fun env pv hp=>∃ x0a x0n x0c x3 x11 x12 x13 x14,Sub (w6 E0 14 (sI x14) 13 (sI x13) 12 (sI x12) 11 (sP x11) 3 (sV x3) 0 (sS x0a x0n x0c)) env∧Sub V0 pv∧F163_j2 x0a x0n x0c x3 x11 x12 x13 x14 hp  K) ?_ ?_
   ·refine Ar F163_r14 ?_ (r7 10 0 3 11 12 13 14 Rn) (z7 Sn) Sn
    refine Ac h rfl (fun h=>?_) (fun h=>?_)
    ·refine Ar (F163_r15 rfl) ?_ (r6 0 3 11 12 13 14 Rn) (z6 Sn) Sn
     refine mC h fun u9 h10 h=>mI h fun i11 h=>?_
     refine Ar (F163_r16 rfl) ?_ (r6 0 3 11 13 12 14 Rn) (z6 Sn) Sn
     refine mC h fun u12 h13 h=>mI h fun i14 h=>?_
     refine Ag (F163_r17 rfl) ?_ (r6 0 3 11 14 12 13 Rn) (z6 Sn) Sn
     refine mC h fun u15 h16 h=>mI h fun i17 h=>?_
     exact ⟨_,_,_,_,_,_,_,_,(z6 Sn),Sn,h⟩
    ·refine AWP.skip ?_
     exact ⟨_,_,_,_,_,_,_,_,(z6 Sn),Sn,h⟩
   ·rintro env pv hp ⟨x0a,x0n,x0c,x3,x11,x12,x13,x14,he,hv,h⟩
    refine Ae ?_ (r6 0 3 11 12 13 14 Rn) he hv
    unfold F163_j2 at h
    refine Ag (F163_r13 rfl) ?_ (r6 0 3 11 12 13 14 Rn) (z6 Sn) Sn
    refine mC h fun u6 h7 h=>mI h fun i8 h=>?_
    exact ⟨_,_,(z2 Sn),Sn,h⟩
  ·refine AWP.skip ?_
   exact ⟨_,_,(z2 Sn),Sn,h⟩
 ·rintro env pv hp ⟨x11,x13,he,hv,h⟩
  refine Ae ?_ (r2 11 13 Rn) he hv
  unfold F163_j1 at h
  refine Ar F163_r6 ?_ (r2 11 13 Rn) (z2 Sn) Sn
  refine mN h fun b2 o3 h=>mV h fun v4 h=>mI h fun i5 h=>?_
  refine AWP.block (Ar F163_r7 ?_ (r2 55 13 Rn) (z2 Sn) Sn)
  refine Ac h rfl (fun h=>?_) (fun h=>?_)
  ·refine Ar F163_r8 ?_ (r1 13 Rn) (z1 Sn) Sn
   refine AWP.ret ?_
   exact h
  ·refine Ar F163_r9 ?_ (r2 55 13 Rn) (z2 Sn) Sn
   refine Ac h rfl (fun h=>?_) (fun h=>?_)
   ·refine Ar F163_r10 ?_ (r1 13 Rn) (z1 Sn) Sn
    refine AWP.ret ?_
    exact h
   ·refine Ar F163_r11 ?_ (r1 13 Rn) (z1 Sn) Sn
    refine AWP.ret ?_
    exact h
end
section
variable {e E:Env} {x0a:OA} {x0n x0c:Nat} {x1:Int} {x2:OA} {x3:Value} {hp:HP} {K:Env→PV→HP→Prop}
abbrev R183 (p n:Nat):=RW Tryd.prog 18 [] (opsAt Tryd.f183 (pth p)) (List.range n)
theorem F183_r0:R183 2 1 e V0 hp K=
 K (upd e 8 (sI 0)) V0 hp:= by kernel_rfl
theorem F183_r1 (h:E=upd (w3 e 3 (sV x3) 2 (sP x2) 1 (sI x1)) 0 (sS x0a x0n x0c)):R183 5 10 E V0 hp K=
 CF Tryd.prog 184 [(.slice x0a x0n x0c),(.int .i64 (wr (x1-1))),(.int .i64 x1),(.int .i64 (wr (x1+1))),(.pointer x2),x3] hp fun u1 h2=>(intV u1 .i64 fun i3=>K (w2 (w8 E 9 (sS x0a x0n x0c) 10 (sI x1) 11 (sI ((wr (x1-1)))) 12 (sI x1) 13 (sI x1) 14 (sI ((wr (x1+1)))) 15 (sP x2) 16 (sV x3)) 17 (sI i3) 8 (sI i3)) V0 h2):= by subst h; kernel_rfl
def F183 (x0a:OA) (x0n x0c:Nat) (x1:Int) (x2:OA) (x3:Value) (hp:HP) (K:Kh):Prop:=
  (CF Tryd.prog 184 [(.slice x0a x0n x0c),(.int .i64 (IntKind.wrap .i64 (x1-1))),(.int .i64 x1),(.int .i64 (IntKind.wrap .i64 (x1+1))),(.pointer x2),x3] hp fun u1 h2=>intV u1 .i64 fun i3=>K (.int .i64 i3) h2)
noncomputable def F183_code:Code:=(.seq (.region 0 (opsAt Tryd.f183 (pth 2)) false) (.seq (.region 1 (opsAt Tryd.f183 (pth 5)) false) .ret))
theorem F183_body:Tryd.f183.body=some F183_code:=by kernel_rfl
theorem F183_ok (x0a:OA) (x0n x0c:Nat) (x1:Int) (x2:OA) (x3:Value) (hp:HP) (K:Kh) (h:F183 x0a x0n x0c x1 x2 x3 hp K):CF Tryd.prog 183 [(.slice x0a x0n x0c),(.int .i64 x1),(.pointer x2),x3] hp K:=by
 refine .inl ⟨by kernel_rfl,AC.intro (N:=18) Tryd.func183 F183_body rfl (Nat.le_of_ble_eq_true rfl) ?_⟩
 unfold F183 at h
 refine Ar F183_r0 ?_ (r4 0 1 2 3 Rn) (z4 Sn) Sn
 refine Ar (F183_r1 rfl) ?_ (r4 0 1 2 3 Rn) (z4 Sn) Sn
 refine mC h fun u1 h2 h=>mI h fun i3 h=>?_
 refine AWP.ret ?_
 exact h
end
section
variable {e E:Env} {x0a:OA} {x0n x0c:Nat} {x1 x2 x3:Int} {x4:OA} {x5:Value} {hp:HP} {K:Env→PV→HP→Prop}
abbrev R184 (p n:Nat):=RW Tryd.prog 41 [] (opsAt Tryd.f184 (pth p)) (List.range n)
theorem F184_r0:R184 2 1 e V0 hp K=
 K (upd e 12 (sI 0)) V0 hp:= by kernel_rfl
theorem F184_r1 (h:E=upd (w4 e 5 (sV x5) 4 (sP x4) 2 (sI x2) 1 (sI x1)) 0 (sS x0a x0n x0c)):R184 5 11 E V0 hp K=
 CF Tryd.prog 192 [(.slice x0a x0n x0c),(.int .i64 x1),(.int .i64 x2),(.pointer x4),x5] hp fun u1 h2=>(tup2V u1 fun u3 u4=>intV u3 .i64 fun i5=>intV u4 .i64 fun i6=>K (w3 (w8 E 14 (sS x0a x0n x0c) 15 (sI x1) 16 (sI x2) 17 (sP x4) 18 (sV x5) 19 (sV (.tuple ⟨[(.int .i64 i5),(.int .i64 i6)]⟩)) 13 (sV (.tuple ⟨[(.int .i64 i5),(.int .i64 i6)]⟩)) 20 (sI i5)) 21 (sI i6) 1 (sI i5) 2 (sI i6)) V0 h2):= by subst h; kernel_rfl
theorem F184_r2 (h:E=upd (w4 e 5 (sV x5) 4 (sP x4) 3 (sI x3) 2 (sI x2)) 0 (sS x0a x0n x0c)):R184 11 11 E V0 hp K=
 CF Tryd.prog 192 [(.slice x0a x0n x0c),(.int .i64 x2),(.int .i64 x3),(.pointer x4),x5] hp fun u1 h2=>(tup2V u1 fun u3 u4=>intV u3 .i64 fun i5=>intV u4 .i64 fun i6=>K (w3 (w8 E 23 (sS x0a x0n x0c) 24 (sI x2) 25 (sI x3) 26 (sP x4) 27 (sV x5) 28 (sV (.tuple ⟨[(.int .i64 i5),(.int .i64 i6)]⟩)) 22 (sV (.tuple ⟨[(.int .i64 i5),(.int .i64 i6)]⟩)) 29 (sI i5)) 30 (sI i6) 2 (sI i5) 3 (sI i6)) V0 h2):= by subst h; kernel_rfl
theorem F184_r3 (h:E=upd (w4 e 5 (sV x5) 4 (sP x4) 2 (sI x2) 1 (sI x1)) 0 (sS x0a x0n x0c)):R184 23 11 E V0 hp K=
 CF Tryd.prog 192 [(.slice x0a x0n x0c),(.int .i64 x1),(.int .i64 x2),(.pointer x4),x5] hp fun u1 h2=>(tup2V u1 fun u3 u4=>intV u3 .i64 fun i5=>intV u4 .i64 fun i6=>K (w3 (w8 E 32 (sS x0a x0n x0c) 33 (sI x1) 34 (sI x2) 35 (sP x4) 36 (sV x5) 37 (sV (.tuple ⟨[(.int .i64 i5),(.int .i64 i6)]⟩)) 31 (sV (.tuple ⟨[(.int .i64 i5),(.int .i64 i6)]⟩)) 38 (sI i5)) 39 (sI i6) 1 (sI i5) 2 (sI i6)) V0 h2):= by subst h; kernel_rfl
theorem F184_r4:R184 47 2 (upd e 2 (sI x2)) V0 hp K=
 K (w3 e 2 (sI x2) 40 (sI x2) 12 (sI x2)) V0 hp:= by kernel_rfl
def F184 (x0a:OA) (x0n x0c:Nat) (x1 x2 x3:Int) (x4:OA) (x5:Value) (hp:HP) (K:Kh):Prop:=
  (CF Tryd.prog 192 [(.slice x0a x0n x0c),(.int .i64 x1),(.int .i64 x2),(.pointer x4),x5] hp fun u1 h2=>tup2V u1 fun u3 u4=>intV u3 .i64 fun i5=>intV u4 .i64 fun i6=>CF Tryd.prog 192 [(.slice x0a x0n x0c),(.int .i64 i6),(.int .i64 x3),(.pointer x4),x5] h2 fun u7 h8=>tup2V u7 fun u9 u10=>intV u9 .i64 fun i11=>intV u10 .i64 fun i12=>CF Tryd.prog 192 [(.slice x0a x0n x0c),(.int .i64 i5),(.int .i64 i11),(.pointer x4),x5] h8 fun u13 h14=>tup2V u13 fun u15 u16=>intV u15 .i64 fun i17=>intV u16 .i64 fun i18=>K (.int .i64 i18) h14)
noncomputable def F184_code:Code:=(.seq (.region 0 (opsAt Tryd.f184 (pth 2)) false) (.seq (.region 1 (opsAt Tryd.f184 (pth 5)) false) (.seq (.region 2 (opsAt Tryd.f184 (pth 11)) false) (.seq (.region 3 (opsAt Tryd.f184 (pth 23)) false) (.seq (.region 4 (opsAt Tryd.f184 (pth 47)) false) .ret)))))
theorem F184_body:Tryd.f184.body=some F184_code:=by kernel_rfl
theorem F184_ok (x0a:OA) (x0n x0c:Nat) (x1 x2 x3:Int) (x4:OA) (x5:Value) (hp:HP) (K:Kh) (h:F184 x0a x0n x0c x1 x2 x3 x4 x5 hp K):CF Tryd.prog 184 [(.slice x0a x0n x0c),(.int .i64 x1),(.int .i64 x2),(.int .i64 x3),(.pointer x4),x5] hp K:=by
 refine .inl ⟨by kernel_rfl,AC.intro (N:=41) Tryd.func184 F184_body rfl (Nat.le_of_ble_eq_true rfl) ?_⟩
 unfold F184 at h
 refine Ar F184_r0 ?_ (r6 0 1 2 3 4 5 Rn) (z6 Sn) Sn
 refine Ar (F184_r1 rfl) ?_ (r6 0 1 2 4 5 3 Rn) (z6 Sn) Sn
 refine mC h fun u1 h2 h=>mT h fun u3 u4 h=>mI h fun i5 h=>mI h fun i6 h=>?_
 refine Ar (F184_r2 rfl) ?_ (r6 0 2 3 4 5 1 Rn) (z6 Sn) Sn
 refine mC h fun u7 h8 h=>mT h fun u9 u10 h=>mI h fun i11 h=>mI h fun i12 h=>?_
 refine Ar (F184_r3 rfl) ?_ (r5 0 1 2 4 5 Rn) (z5 Sn) Sn
 refine mC h fun u13 h14 h=>mT h fun u15 u16 h=>mI h fun i17 h=>mI h fun i18 h=>?_
 refine Ar F184_r4 ?_ (r1 2 Rn) (z1 Sn) Sn
 refine AWP.ret ?_
 exact h
end
section
variable {e E:Env} {x0a:OA} {x0n x0c:Nat} {x1 x2:Int} {x3:OA} {x4:Value} {hp:HP} {K:Env→PV→HP→Prop}
abbrev R192 (p n:Nat):=RW Tryd.prog 32 [] (opsAt Tryd.f192 (pth p)) (List.range n)
theorem F192_r0:R192 2 2 e V0 hp K=
 K (w2 e 10 (sI 0) 11 (sI 0)) V0 hp:= by kernel_rfl
theorem F192_r1 (h:E=upd (w3 e 4 (sV x4) 2 (sI x2) 1 (sI x1)) 0 (sS x0a x0n x0c)):R192 9 11 E V0 hp K=
    ((0≤x2)∧(x2<x0n)∧(ptrN x0a fun b1 o2=>ldL (HP.cellN hp b1 (o2+Int.toNat x2*9) 9) fun l3=>(0≤x1)∧(x1<x0n)∧(ptrN x0a fun b4 o5=>ldL (HP.cellN hp b4 (o5+Int.toNat x1*9) 9) fun l6=>fnV x4 fun f7 ga8 gb9=>CF Tryd.prog f7 (ga8++[(Value.agg ⟨l3⟩),(.agg ⟨l6⟩)]++gb9) hp fun u10 h11=>intV u10 .i64 fun i12=>K (w3 (w8 E 12 (sV x4) 13 (sS x0a x0n x0c) 14 (sI x2) 15 (sQ b1 (o2+Int.toNat x2*9)) 16 (sA l3) 17 (sS x0a x0n x0c) 18 (sI x1) 19 (sQ b4 (o5+Int.toNat x1*9))) 20 (sA l6) 21 (sI i12) 22 (sB (decide (i12<0)))) V0 h11))):=by subst h; kernel_rfl
theorem F192_r2:R192 37 6 (upd e 3 (sP x3)) V0 hp K=
 ptrN x3 fun b1 o2=>(ldV (HP.cell hp b1 o2) fun v3=>intV v3 .i64 fun i4=>ptrN x3 fun b5 o6=>HP.st hp b5 o6 (.int .i64 (wr (i4+1))) fun h7=>K (w6 e 3 (sP x3) 23 (sP x3) 24 (sQ b1 o2) 25 (sI i4) 26 (sI ((wr (i4+1)))) 27 (sQ b5 o6)) V0 h7):= by kernel_rfl
theorem F192_r3:R192 85 4 (w2 e 2 (sI x2) 1 (sI x1)) V0 hp K=
 K (w6 e 2 (sI x2) 1 (sI x1) 28 (sI x2) 29 (sI x1) 10 (sI x2) 11 (sI x1)) V0 hp:= by kernel_rfl
theorem F192_r4:R192 11 4 (w2 e 2 (sI x2) 1 (sI x1)) V0 hp K=
 K (w6 e 2 (sI x2) 1 (sI x1) 30 (sI x1) 31 (sI x2) 10 (sI x1) 11 (sI x2)) V0 hp:= by kernel_rfl
def F192 (x0a:OA) (x0n x0c:Nat) (x1 x2:Int) (x3:OA) (x4:Value) (hp:HP) (K:Kh):Prop:=
  ((0≤x2)∧(x2<x0n)∧(ptrN x0a fun b1 o2=>ldL (HP.cellN hp b1 (o2+Int.toNat x2*9) 9) fun l3=>(0≤x1)∧(x1<x0n)∧(ptrN x0a fun b4 o5=>ldL (HP.cellN hp b4 (o5+Int.toNat x1*9) 9) fun l6=>fnV x4 fun f7 ga_8 gb_9=>CF Tryd.prog f7 (ga_8++[(Value.agg ⟨l3⟩),(.agg ⟨l6⟩)]++gb_9) hp fun u10 h11=>intV u10 .i64 fun i12=>ite2 (decide (i12<0)) (ptrN x3 fun b13 o14=>ldV (HP.cell h11 b13 o14) fun v15=>intV v15 .i64 fun i16=>ptrN x3 fun b17 o18=>HP.st h11 b17 o18 (.int .i64 (IntKind.wrap .i64 (i16+1))) fun h19=>K (.tuple ⟨[(.int .i64 x2),(.int .i64 x1)]⟩) h19) (K (.tuple ⟨[(.int .i64 x1),(.int .i64 x2)]⟩) h11))))
noncomputable def F192_code:Code:=(.seq (.region 0 (opsAt Tryd.f192 (pth 2)) false) (.seq (.seq (.region 1 (opsAt Tryd.f192 (pth 9)) true) (.cond (.tmp 22) (.seq (.region 2 (opsAt Tryd.f192 (pth 37)) false) (.seq (.region 3 (opsAt Tryd.f192 (pth 85)) false) .ret)) .skip)) (.seq (.region 4 (opsAt Tryd.f192 (pth 11)) false) .ret)))
theorem F192_body:Tryd.f192.body=some F192_code:=by kernel_rfl
theorem F192_ok (x0a:OA) (x0n x0c:Nat) (x1 x2:Int) (x3:OA) (x4:Value) (hp:HP) (K:Kh) (h:F192 x0a x0n x0c x1 x2 x3 x4 hp K):CF Tryd.prog 192 [(.slice x0a x0n x0c),(.int .i64 x1),(.int .i64 x2),(.pointer x3),x4] hp K:=by
 refine .inl ⟨by kernel_rfl,AC.intro (N:=32) Tryd.func192 F192_body rfl (Nat.le_of_ble_eq_true rfl) ?_⟩
 unfold F192 at h
 refine Ar F192_r0 ?_ (r5 0 1 2 3 4 Rn) (z5 Sn) Sn
 refine Aq (Aq (AWP.rgnD (by kernel_rfl) (by kernel_rfl) (F192_r1 rfl) ?_ (r5 0 1 2 4 3 Rn) (z5 Sn) Sn))
 refine ⟨h.1,h.2.1,mN h.2.2 (fun b1 o2 h=>mL h (fun l3 h=>⟨h.1,h.2.1,mN h.2.2 fun b4 o5 h=>mL h fun l6 h=>mF h fun f7 ga_8 gb_9 h=>mC h fun u10 h11 h=>mI h fun i12 h=>?_⟩))⟩
 refine Ac h rfl (fun h=>?_) (fun h=>?_)
 ·refine Ar F192_r2 ?_ (r3 3 1 2 Rn) (z3 Sn) Sn
  refine mN h fun b13 o14 h=>mV h fun v15 h=>mI h fun i16 h=>mN h fun b17 o18 h=>mw h fun h19 h=>?_
  refine Ar F192_r3 ?_ (r2 1 2 Rn) (z2 Sn) Sn
  refine AWP.ret ?_
  exact h
 ·refine AWP.skip (Ar F192_r4 ?_ (r2 1 2 Rn) (z2 Sn) Sn)
  refine AWP.ret ?_
  exact h
end
section
variable {e E:Env} {x0a:OA} {x0n x0c:Nat} {x1:Value} {x4:Int} {hp:HP} {K:Env→PV→HP→Prop}
abbrev R122 (p n:Nat):=RW Tryd.prog 14 [] (opsAt Tryd.f122 (pth p)) (List.range n)
theorem F122_r0:R122 2 3 (upd e 0 (sS x0a x0n x0c)) V0 hp K=
 K (w4 e 0 (sS x0a x0n x0c) 5 (sS x0a x0n x0c) 6 (sI ((x0n:Nat))) 4 (sI ((x0n:Nat)))) V0 hp:= by kernel_rfl
theorem F122_r1 (h:E=upd (w2 e 4 (sI x4) 1 (sV x1)) 0 (sS x0a x0n x0c)):R122 3 7 E V0 hp K=
 CF Tryd.prog 128 [(.int .u64 (IntKind.wrap .u64 (x4)))] hp fun u1 h2=>(intV u1 .i64 fun i3=>CF Tryd.prog 138 [(.slice x0a x0n x0c),.int .i64 0,(.int .i64 x4),(.int .i64 i3),x1] h2 fun u4 h5=>K (w7 E 7 (sS x0a x0n x0c) 8 (sI x4) 9 (sI x4) 10 (sV (.int .u64 (IntKind.wrap .u64 (x4)))) 11 (sI i3) 12 (sV x1) 13 (sV u4)) V0 h5):= by subst h; kernel_rfl
def F122 (x0a:OA) (x0n x0c:Nat) (x1:Value) (hp:HP) (K:Kh):Prop:=
  (CF Tryd.prog 128 [(.int .u64 (IntKind.wrap .u64 ((x0n:Nat))))] hp fun u1 h2=>intV u1 .i64 fun i3=>CF Tryd.prog 138 [(.slice x0a x0n x0c),.int .i64 0,(.int .i64 (x0n:Nat)),(.int .i64 i3),x1] h2 fun u4 h5=>K (.tuple ⟨[]⟩) h5)
noncomputable def F122_code:Code:=(.seq (.region 0 (opsAt Tryd.f122 (pth 2)) false) (.region 1 (opsAt Tryd.f122 (pth 3)) false))
theorem F122_body:Tryd.f122.body=some F122_code:=by kernel_rfl
theorem F122_ok (x0a:OA) (x0n x0c:Nat) (x1:Value) (hp:HP) (K:Kh) (h:F122 x0a x0n x0c x1 hp K):CF Tryd.prog 122 [(.slice x0a x0n x0c),x1] hp K:=by
 refine .inl ⟨by kernel_rfl,AC.intro (N:=14) Tryd.func122 F122_body rfl (Nat.le_of_ble_eq_true rfl) ?_⟩
 unfold F122 at h
 refine Ar F122_r0 ?_ (r2 0 1 Rn) (z2 Sn) Sn
 refine Ag (F122_r1 rfl) ?_ (r3 0 1 4 Rn) (z3 Sn) Sn
 refine mC h fun u1 h2 h=>mI h fun i3 h=>mC h fun u4 h5 h=>?_
 exact h
end
end Go.Proofs
set_option linter.unusedVariables false
set_option maxRecDepth 20000
namespace Go.Proofs
open Go Go.HL
section
variable {f:FuncId} {ga gb:List Value} {hp0:HP} {b sp n c:Nat} {cf:Ss→Ss→Int}
theorem S162 {v:Value} {d:Array Ss} {lo hi:Nat} {K:Value→HP→Prop} (hs:d.size=n) (hlo:lo≤hi) (hf:hi≤n) (hn:n≤65535)
    (h:∀ d',Sort.PermIn lo hi d d'→K (.tuple ⟨[]⟩) (HA hp0 b 79 sp ssc d')) :
    CF Tryd.prog 162 [.slice (some ⟨b,0,none⟩) n c,.int .i64 lo,.int .i64 hi,v] (HA hp0 b 79 sp ssc d) K:=by
  refine CF.drop (F162_ok _ n c lo hi _ _ _ ?_)
  unfold F162
  have w1:IntKind.wrap .i64 ((hi:Int)-(lo:Int))=((hi-lo:Nat):Int):=wi (by omega) (by omega)
  rw [w1]
  by_cases h8:hi-lo≥8
  · rw [decide_eq_true (by omega:((hi-lo:Nat):Int)≥8),ite2_true]
    intro r hr
    obtain ⟨hrb,hr0⟩:=HA.ne_of_none hr
    refine HP.st_at (HP.set_eq ..) (by simp) ?_
    simp only [List.set_cons_zero,HP.set_set]
    rw [HA.set_comm hrb]
    refine C169 (n:=hi-lo) (by omega) fun L hL1 hL2 hL3=>?_
    have hL4:=hL3 (by omega)
    have hL5:2 ^ L≤2 ^ 16:=Nat.pow_le_pow_right (by omega) hL1
    rw [intV_int]
    refine ⟨by omega,?_⟩
    have e4:Int.tdiv ((hi-lo:Nat):Int) 4=(((hi-lo) / 4:Nat):Int):=rfl
    generalize hm:hi-lo=m at *
    rw [e4]
    have v1:IntKind.wrap .i64 ((m / 4:Nat):Int)=((m / 4:Nat):Int):=wi rfl (by omega)
    have v2:IntKind.wrap .i64 (((m / 4:Nat):Int)*2)=((m / 4*2:Nat):Int):=wi (by omega) (by omega)
    have v3:IntKind.wrap .i64 ((lo:Int)+((m / 4*2:Nat):Int))=((lo+m / 4*2:Nat):Int):=wi (by omega) (by omega)
    have v4:IntKind.wrap .i64 (((lo+m / 4*2:Nat):Int)-1)=((lo+m / 4*2-1:Nat):Int):=wi (by omega) (by omega)
    have v5:IntKind.wrap .i64 (((lo+m / 4*2:Nat):Int)+1)=((lo+m / 4*2+1:Nat):Int):=wi (by omega) (by omega)
    rw [v1,v2,v3,v4]
    unfold F162_j1
    generalize hz0:IntKind.wrap .u64 (m:Int)=z0
    refine LoopP.by (J:=fun k (x:Int) hp=>∃ (i:Nat) (d':Array Ss) (z:Int),x=i∧hp=HA (hp0.set r (.cells 247 [.int .u64 z] 0)) b 79 sp ssc d'∧Sort.PermIn lo hi d d'∧lo≤i∧k=lo+m / 4*2+2-i) ?_
      (n:=lo+m / 4*2+2-(lo+m / 4*2-1)) ⟨lo+m / 4*2-1,d,z0,rfl,rfl,Sort.permIn_refl d lo hi,by omega,rfl⟩
    rintro I k x hp ⟨i,d',z,rfl,rfl,hpm,hli,rfl⟩ hI
    unfold F162_l2
    refine ⟨by omega,?_⟩
    rw [e4,v1,v2,v3,v5]
    by_cases hi':i≤lo+m / 4*2+1
    · rw [decide_eq_true (by omega:(i:Int)≤((lo+m / 4*2+1:Nat):Int)),ite2_true]
      refine C170 (y:=z) (by rw [HA.ne hrb,HP.set_eq]) fun z'=>?_
      rw [HA.set_comm hrb,HP.set_set,intV_int]
      have u1:IntKind.wrap .u64 (((2 ^ L:Nat):Int)-1)=((2 ^ L-1:Nat):Int):=by rw [wu64 (by omega) (by omega)]; omega
      rw [u1]
      have hbd:=band_le (z:=z') (m:=((2 ^ L-1:Nat):Int)) (by omega) (by omega)
      generalize band .u64 z' ((2 ^ L-1:Nat):Int)=w at hbd
      obtain ⟨o,rfl⟩:∃ o:Nat,w=o:=⟨w.toNat,by omega⟩
      rw [w64 (n:=(o:Int)) (by omega) (by omega)]
      have hs':d'.size=n:=by rw [hpm.1]; exact hs
      have step:∀ o:Nat,o<m→F162_j3 (some ⟨b,0,none⟩) n c lo m (some ⟨r,0,none⟩) ((2 ^ L:Nat):Int) i o (HA (hp0.set r (.cells 247 [.int .u64 z'] 0)) b 79 sp ssc d') I (fun v hp'=>∃ hp'',HSub hp'' hp'∧K v hp''):=by
        intro o ho
        unfold F162_j3
        have x1:IntKind.wrap .i64 ((lo:Int)+(o:Int))=((lo+o:Nat):Int):=wi (by omega) (by omega)
        have x2:IntKind.wrap .i64 ((i:Int)+1)=((i+1:Nat):Int):=wi (by omega) (by omega)
        rw [x1,x2]
        refine swapP ssc_len ssc_one hs' (i:=i) (j:=lo+o) rfl rfl (by omega) (by omega) ?_
        exact hI (lo+m / 4*2+2-(i+1)) _ _ (by omega) ⟨i+1,_,z',rfl,rfl,Sort.permIn_trans _ _ _ _ _ hpm (Sort.swp_permIn d' lo hi i (lo+o) (by omega) (by omega) (by omega) (by omega) (by omega)),by omega,rfl⟩
      by_cases hom:o≥m
      · rw [decide_eq_true (by omega:(o:Int)≥(m:Int)),ite2_true]
        have x3:IntKind.wrap .i64 ((o:Int)-(m:Int))=((o-m:Nat):Int):=wi (by omega) (by omega)
        rw [x3]
        exact step (o-m) (by omega)
      · rw [decide_eq_false (by omega:¬ (o:Int)≥(m:Int)),ite2_false]
        exact step o (by omega)
    · rw [decide_eq_false (by omega:¬ (i:Int)≤((lo+m / 4*2+1:Nat):Int)),ite2_false]
      exact ⟨_,HA.sub (HSub.set_fresh hp0 _ hr0),h d' hpm⟩
  · rw [decide_eq_false (by omega:¬ ((hi-lo:Nat):Int)≥8),ite2_false]
    exact ⟨_,HSub.refl _,h d (Sort.permIn_refl d lo hi)⟩
theorem S192 (hx:CmpX Tryd.prog f ga gb hp0 b 79 sp ssc n cf) {d:Array Ss} {i j r:Nat} {s:Int} {K:Value→HP→Prop} (hs:d.size=n) (hi:i<n) (hj:j<n) (hrb:r≠b) (hr0:hp0 r=.none)
    (h:∀ (s':Int) (x y:Nat),(x=i∧y=j)∨(x=j∧y=i)→K (.tuple ⟨[.int .i64 x,.int .i64 y]⟩) (HA (hp0.set r (.cells 3 [.int .i64 s'] 0)) b 79 sp ssc d)) :
    CF Tryd.prog 192 [.slice (some ⟨b,0,none⟩) n c,.int .i64 i,.int .i64 j,.pointer (some ⟨r,0,none⟩),.func (.func f) ⟨ga⟩ ⟨gb⟩] (HA (hp0.set r (.cells 3 [.int .i64 s] 0)) b 79 sp ssc d) K:=by
  refine F192_ok _ n c i j _ _ _ K ?_
  unfold F192
  refine cmpP (hx _ (HSub.set_fresh hp0 _ hr0)) ssc_len hs (i:=j) (j:=i) rfl rfl hj hi ?_
  cases decide (cf d[j]! d[i]!<0)
  · rw [ite2_false]
    exact h s i j (.inl ⟨rfl,rfl⟩)
  · have hc:(HA (hp0.set r (.cells 3 [.int .i64 s] 0)) b 79 sp ssc d) r=.cells 3 [.int .i64 s] 0:=by rw [HA.ne hrb,HP.set_eq]
    rw [ite2_true,ptrN_some,HP.cell_of hc]
    simp only [List.getElem?_cons_zero,ldV_some,intV_int,ptrN_some]
    refine HP.st_at hc (by simp) ?_
    rw [List.set_cons_zero,HA.set_comm hrb,HP.set_set]
    exact h _ j i (.inr ⟨rfl,rfl⟩)
theorem S184 (hx:CmpX Tryd.prog f ga gb hp0 b 79 sp ssc n cf) {d:Array Ss} {i j k r:Nat} {s:Int} {K:Value→HP→Prop} (hs:d.size=n) (hi:i<n) (hj:j<n) (hk:k<n) (hrb:r≠b) (hr0:hp0 r=.none)
    (h:∀ (s':Int) (x:Nat),x=i∨x=j∨x=k→K (.int .i64 x) (HA (hp0.set r (.cells 3 [.int .i64 s'] 0)) b 79 sp ssc d)) :
    CF Tryd.prog 184 [.slice (some ⟨b,0,none⟩) n c,.int .i64 i,.int .i64 j,.int .i64 k,.pointer (some ⟨r,0,none⟩),.func (.func f) ⟨ga⟩ ⟨gb⟩] (HA (hp0.set r (.cells 3 [.int .i64 s] 0)) b 79 sp ssc d) K:=by
  refine F184_ok _ n c i j k _ _ _ K ?_
  unfold F184
  refine S192 hx hs hi hj hrb hr0 fun s1 a1 b1 h1=>?_
  simp only [tup2V_mk,intV_int]
  refine S192 hx hs (by omega) hk hrb hr0 fun s2 a2 b2 h2=>?_
  simp only [tup2V_mk,intV_int]
  refine S192 hx hs (by omega) (by omega) hrb hr0 fun s3 a3 b3 h3=>?_
  simp only [tup2V_mk,intV_int]
  exact h s3 b3 (by omega)
theorem S183 (hx:CmpX Tryd.prog f ga gb hp0 b 79 sp ssc n cf) {d:Array Ss} {i r:Nat} {s:Int} {K:Value→HP→Prop} (hs:d.size=n) (hi0:0<i) (hi:i+1<n) (hn:n≤65535) (hrb:r≠b) (hr0:hp0 r=.none)
    (h:∀ (s':Int) (x:Nat),i-1≤x→x≤i+1→K (.int .i64 x) (HA (hp0.set r (.cells 3 [.int .i64 s'] 0)) b 79 sp ssc d)) :
    CF Tryd.prog 183 [.slice (some ⟨b,0,none⟩) n c,.int .i64 i,.pointer (some ⟨r,0,none⟩),.func (.func f) ⟨ga⟩ ⟨gb⟩] (HA (hp0.set r (.cells 3 [.int .i64 s] 0)) b 79 sp ssc d) K:=by
  refine F183_ok _ n c i _ _ _ K ?_
  unfold F183
  have v1:IntKind.wrap .i64 ((i:Int)-1)=((i-1:Nat):Int):=wi (by omega) (by omega)
  have v2:IntKind.wrap .i64 ((i:Int)+1)=((i+1:Nat):Int):=wi (by omega) (by omega)
  rw [v1,v2]
  refine S184 hx hs (by omega) (by omega) (by omega) hrb hr0 fun s1 x h1=>?_
  rw [intV_int]
  exact h s1 x (by omega) (by omega)
theorem S163 (hx:CmpX Tryd.prog f ga gb hp0 b 79 sp ssc n cf) {d:Array Ss} {lo hi:Nat} {K:Value→HP→Prop} (hs:d.size=n) (hlo:lo<hi) (hf:hi≤n) (hn:n≤65535)
    (h:∀ (p:Nat) (w:Int),lo≤p→p<hi→K (.tuple ⟨[.int .i64 p,.int .i64 w]⟩) (HA hp0 b 79 sp ssc d)) :
    CF Tryd.prog 163 [.slice (some ⟨b,0,none⟩) n c,.int .i64 lo,.int .i64 hi,.func (.func f) ⟨ga⟩ ⟨gb⟩] (HA hp0 b 79 sp ssc d) K:=by
  refine CF.drop (F163_ok _ n c lo hi _ _ _ ?_)
  unfold F163
  intro r hr
  obtain ⟨hrb,hr0⟩:=HA.ne_of_none hr
  have w1:IntKind.wrap .i64 ((hi:Int)-(lo:Int))=((hi-lo:Nat):Int):=wi (by omega) (by omega)
  have e4:Int.tdiv ((hi-lo:Nat):Int) 4=(((hi-lo) / 4:Nat):Int):=rfl
  simp only [w1,e4]
  refine ⟨by omega,by omega,by omega,?_⟩
  clear e4 w1
  rw [HA.set_comm hrb]
  have hmm:hi=lo+(hi-lo):=by omega
  generalize hi-lo=m at *
  subst hmm
  have v0:IntKind.wrap .i64 ((m / 4:Nat):Int)=((m / 4:Nat):Int):=wi rfl (by omega)
  have v1:IntKind.wrap .i64 (((m / 4:Nat):Int)*1)=((m / 4:Nat):Int):=wi (by omega) (by omega)
  have v2:IntKind.wrap .i64 (((m / 4:Nat):Int)*2)=((m / 4*2:Nat):Int):=wi (by omega) (by omega)
  have v3:IntKind.wrap .i64 (((m / 4:Nat):Int)*3)=((m / 4*3:Nat):Int):=wi (by omega) (by omega)
  have u1:IntKind.wrap .i64 ((lo:Int)+((m / 4:Nat):Int))=((lo+m / 4:Nat):Int):=wi (by omega) (by omega)
  have u2:IntKind.wrap .i64 ((lo:Int)+((m / 4*2:Nat):Int))=((lo+m / 4*2:Nat):Int):=wi (by omega) (by omega)
  have u3:IntKind.wrap .i64 ((lo:Int)+((m / 4*3:Nat):Int))=((lo+m / 4*3:Nat):Int):=wi (by omega) (by omega)
  simp only [v0,v1,v2,v3,u1,u2,u3]
  have fin:∀ (s:Int) (p:Nat),lo≤p→p<lo+m→F163_j1 (some ⟨r,0,none⟩) p (HA (hp0.set r (.cells 3 [.int .i64 s] 0)) b 79 sp ssc d) (fun v hp'=>∃ hp'',HSub hp'' hp'∧K v hp''):=by
    intro s p h1 h2
    have hc:(HA (hp0.set r (.cells 3 [.int .i64 s] 0)) b 79 sp ssc d) r=.cells 3 [.int .i64 s] 0:=by rw [HA.ne hrb,HP.set_eq]
    unfold F163_j1
    rw [ptrN_some,HP.cell_of hc]
    simp only [List.getElem?_cons_zero,ldV_some,intV_int]
    have hsub:=HA.sub (b:=b) (e:=79) (sp:=sp) (en:=ssc) (d:=d) (HSub.set_fresh hp0 (.cells 3 [.int .i64 s] 0) hr0)
    cases (s==0)
    · rw [ite2_false]
      cases (s==12)
      · rw [ite2_false]; exact ⟨_,hsub,h p 0 h1 h2⟩
      · rw [ite2_true]; exact ⟨_,hsub,h p 2 h1 h2⟩
    · rw [ite2_true]; exact ⟨_,hsub,h p 1 h1 h2⟩
  have fin2:∀ (s:Int) (i j k:Nat),lo≤i→i<lo+m→lo≤j→j<lo+m→lo≤k→k<lo+m→F163_j2 (some ⟨b,0,none⟩) n c (.func (.func f) ⟨ga⟩ ⟨gb⟩) (some ⟨r,0,none⟩) i j k (HA (hp0.set r (.cells 3 [.int .i64 s] 0)) b 79 sp ssc d) (fun v hp'=>∃ hp'',HSub hp'' hp'∧K v hp''):=by
    intro s i j k h1 h2 h3 h4 h5 h6
    unfold F163_j2
    refine S184 hx hs (by omega) (by omega) (by omega) hrb hr0 fun s1 x hx1=>?_
    rw [intV_int]
    exact fin s1 x (by omega) (by omega)
  by_cases h8:m≥8
  · rw [decide_eq_true (by omega:(m:Int)≥8),ite2_true]
    by_cases h50:m≥50
    · rw [decide_eq_true (by omega:(m:Int)≥50),ite2_true]
      refine S183 hx hs (by omega) (by omega) hn hrb hr0 fun s1 x1 a1 b1=>?_
      rw [intV_int]
      refine S183 hx hs (by omega) (by omega) hn hrb hr0 fun s2 x2 a2 b2=>?_
      rw [intV_int]
      refine S183 hx hs (by omega) (by omega) hn hrb hr0 fun s3 x3 a3 b3=>?_
      rw [intV_int]
      exact fin2 s3 x1 x2 x3 (by omega) (by omega) (by omega) (by omega) (by omega) (by omega)
    · rw [decide_eq_false (by omega:¬ (m:Int)≥50),ite2_false]
      exact fin2 0 _ _ _ (by omega) (by omega) (by omega) (by omega) (by omega) (by omega)
  · rw [decide_eq_false (by omega:¬ (m:Int)≥8),ite2_false]
    exact fin 0 _ (by omega) (by omega)
end
end Go.Proofs
set_option linter.unusedVariables false
set_option maxRecDepth 20000
namespace Go.Proofs
open Go Go.HL
section
variable {e E:Env} {x0a:OA} {x0n x0c:Nat} {x1 x2:Int} {x3:Value} {x8 x9:Int} {hp:HP} {K:Env→PV→HP→Prop}
abbrev R160 (p n:Nat):=RW Tryd.prog 53 [] (opsAt Tryd.f160 (pth p)) (List.range n)
theorem F160_r0:R160 33 3 (w2 e 8 (sI x8) 2 (sI x2)) V0 hp K=
 K (w5 e 8 (sI x8) 2 (sI x2) 12 (sI x8) 13 (sI x2) 14 (sB (decide (x8<x2)))) V0 hp:= by kernel_rfl
theorem F160_r1:R160 57 3 (upd e 8 (sI x8)) V0 hp K=
 K (w4 e 8 (sI x8) 15 (sI x8) 16 (sI ((wr (x8+1)))) 8 (sI ((wr (x8+1))))) V0 hp:= by kernel_rfl
def F160_j3 (x0a:OA) (x0n x0c:Nat) (x1 x2:Int) (x3:Value) (x8:Int) (hp:HP) (I2:(Int)→HP→Prop) (K:Kh):Prop:=
  (I2 (IntKind.wrap .i64 (x8+1)) hp)
theorem F160_r2:R160 4681 18 (w2 e 9 (sI x9) 0 (sS x0a x0n x0c)) V0 hp K=
    ((0≤((wr (x9-1)):Int))∧(((wr (x9-1)):Int)<x0n)∧(ptrN x0a fun b1 o2=>ldL (HP.cellN hp b1 (o2+Int.toNat (wr (x9-1))*9) 9) fun l3=>(0≤x9)∧(x9<x0n)∧(ptrN x0a fun b4 o5=>ldL (HP.cellN hp b4 (o5+Int.toNat x9*9) 9) fun l6=>(0≤x9)∧(x9<x0n)∧(ptrN x0a fun b7 o8=>(List.length l3=9)∧(HP.stN hp b7 (o8+Int.toNat x9*9) l3 fun h9=>(0≤((wr (x9-1)):Int))∧(((wr (x9-1)):Int)<x0n)∧(ptrN x0a fun b10 o11=>(List.length l6=9)∧(HP.stN h9 b10 (o11+Int.toNat (wr (x9-1))*9) l6 fun h12=>K (w2 (w8 (w8 e 9 (sI x9) 0 (sS x0a x0n x0c) 37 (sS x0a x0n x0c) 38 (sI x9) 39 (sS x0a x0n x0c) 40 (sI x9) 41 (sI ((wr (x9-1)))) 42 (sS x0a x0n x0c)) 43 (sI x9) 44 (sI ((wr (x9-1)))) 45 (sV (ptr b1 (o2+Int.toNat (wr (x9-1))*9))) 46 (sA l3) 47 (sS x0a x0n x0c) 48 (sI x9) 49 (sQ b4 (o5+Int.toNat x9*9)) 50 (sA l6)) 51 (sQ b7 (o8+Int.toNat x9*9)) 52 (sV (ptr b10 (o11+Int.toNat (wr (x9-1))*9)))) V0 h12))))))):=by kernel_rfl
theorem F160_r3:R160 3657 3 (upd e 9 (sI x9)) V0 hp K=
 K (w4 e 9 (sI x9) 35 (sI x9) 36 (sI ((wr (x9-1)))) 9 (sI ((wr (x9-1))))) V0 hp:= by kernel_rfl
def F160_j6 (x0a:OA) (x0n x0c:Nat) (x1 x2:Int) (x3:Value) (x8 x9:Int) (x34:Bool) (hp:HP) (I2 I5:(Int)→HP→Prop) (K:Kh):Prop:=
  (ite2 x34 ((0≤((IntKind.wrap .i64 (x9-1)):Int))∧(((IntKind.wrap .i64 (x9-1)):Int)<x0n)∧(ptrN x0a fun b1 o2=>ldL (HP.cellN hp b1 (o2+Int.toNat (IntKind.wrap .i64 (x9-1))*9) 9) fun l3=>(0≤x9)∧(x9<x0n)∧(ptrN x0a fun b4 o5=>ldL (HP.cellN hp b4 (o5+Int.toNat x9*9) 9) fun l6=>(0≤x9)∧(x9<x0n)∧(ptrN x0a fun b7 o8=>(List.length l3=9)∧(HP.stN hp b7 (o8+Int.toNat x9*9) l3 fun h9=>(0≤((IntKind.wrap .i64 (x9-1)):Int))∧(((IntKind.wrap .i64 (x9-1)):Int)<x0n)∧(ptrN x0a fun b10 o11=>(List.length l6=9)∧(HP.stN h9 b10 (o11+Int.toNat (IntKind.wrap .i64 (x9-1))*9) l6 fun h12=>I5 (IntKind.wrap .i64 (x9-1)) h12))))))) (F160_j3 x0a x0n x0c x1 x2 x3 x8 hp I2 K))
theorem F160_r4 (h:E=upd (w3 e 9 (sI x9) 3 (sV x3) 1 (sI x1)) 0 (sS x0a x0n x0c)):R160 2121 17 E V0 hp K=
    (ite2 (decide (x9 > x1)) ((0≤x9)∧(x9<x0n)∧(ptrN x0a fun b1 o2=>ldL (HP.cellN hp b1 (o2+Int.toNat x9*9) 9) fun l3=>(0≤((wr (x9-1)):Int))∧(((wr (x9-1)):Int)<x0n)∧(ptrN x0a fun b4 o5=>ldL (HP.cellN hp b4 (o5+Int.toNat (wr (x9-1))*9) 9) fun l6=>fnV x3 fun f7 ga8 gb9=>CF Tryd.prog f7 (ga8++[(Value.agg ⟨l3⟩),(.agg ⟨l6⟩)]++gb9) hp fun u10 h11=>intV u10 .i64 fun i12=>K (upd (w8 (w8 E 18 (sI x9) 19 (sI x1) 20 (sB (decide (x9 > x1))) 21 (sB true) 22 (sV x3) 23 (sS x0a x0n x0c) 24 (sI x9) 25 (sQ b1 (o2+Int.toNat x9*9))) 26 (sA l3) 27 (sS x0a x0n x0c) 28 (sI x9) 29 (sI ((wr (x9-1)))) 30 (sV (ptr b4 (o5+Int.toNat (wr (x9-1))*9))) 31 (sA l6) 32 (sI i12) 33 (sB (decide (i12<0)))) 34 (sB (decide (i12<0)))) V0 h11))) (K (upd (w8 (w8 E 18 (sI x9) 19 (sI x1) 20 (sB (decide (x9 > x1))) 21 (sB false) 22 sU 23 sU 24 sU 25 sU) 26 sU 27 sU 28 sU 29 sU 30 sU 31 sU 32 sU 33 sU) 34 (sB false)) V0 hp)):=by subst h; kernel_rfl
def F160_l5 (x0a:OA) (x0n x0c:Nat) (x1 x2:Int) (x3:Value) (x8:Int) (I2:(Int)→HP→Prop) (K:Kh) (I5:(Int)→HP→Prop) (x9:Int) (hp:HP):Prop:=
  (ite2 (decide (x9 > x1)) ((0≤x9)∧(x9<x0n)∧(ptrN x0a fun b13 o14=>ldL (HP.cellN hp b13 (o14+Int.toNat x9*9) 9) fun l15=>(0≤((IntKind.wrap .i64 (x9-1)):Int))∧(((IntKind.wrap .i64 (x9-1)):Int)<x0n)∧(ptrN x0a fun b16 o17=>ldL (HP.cellN hp b16 (o17+Int.toNat (IntKind.wrap .i64 (x9-1))*9) 9) fun l18=>fnV x3 fun f19 ga_20 gb_21=>CF Tryd.prog f19 (ga_20++[(Value.agg ⟨l15⟩),(.agg ⟨l18⟩)]++gb_21) hp fun u22 h23=>intV u22 .i64 fun i24=>F160_j6 x0a x0n x0c x1 x2 x3 x8 x9 (decide (i24<0)) h23 I2 I5 K))) (F160_j6 x0a x0n x0c x1 x2 x3 x8 x9 false hp I2 I5 K))
def F160_j4 (x0a:OA) (x0n x0c:Nat) (x1 x2:Int) (x3:Value) (x8 x9:Int) (hp:HP) (I2:(Int)→HP→Prop) (K:Kh):Prop:=
  (LoopP (σ:=Int) (fun I s hp=>F160_l5 x0a x0n x0c x1 x2 x3 x8 I2 K I s hp) x9 hp)
theorem F160_r5:R160 137 2 (upd e 8 (sI x8)) V0 hp K=
 K (w3 e 8 (sI x8) 17 (sI x8) 9 (sI x8)) V0 hp:= by kernel_rfl
def F160_l2 (x0a:OA) (x0n x0c:Nat) (x1 x2:Int) (x3:Value) (K:Kh) (I2:(Int)→HP→Prop) (x8:Int) (hp:HP):Prop:=
  (ite2 (decide (x8<x2)) (F160_j4 x0a x0n x0c x1 x2 x3 x8 x8 hp I2 K) (K (.tuple ⟨[]⟩) hp))
def F160_j1 (x0a:OA) (x0n x0c:Nat) (x1 x2:Int) (x3:Value) (x8:Int) (hp:HP) (K:Kh):Prop:=
  (LoopP (σ:=Int) (fun I s hp=>F160_l2 x0a x0n x0c x1 x2 x3  K I s hp) x8 hp)
theorem F160_r6:R160 2 3 (upd e 1 (sI x1)) V0 hp K=
 K (w4 e 1 (sI x1) 10 (sI x1) 11 (sI ((wr (x1+1)))) 8 (sI ((wr (x1+1))))) V0 hp:= by kernel_rfl
def F160 (x0a:OA) (x0n x0c:Nat) (x1 x2:Int) (x3:Value) (hp:HP) (K:Kh):Prop:=
  (F160_j1 x0a x0n x0c x1 x2 x3 (IntKind.wrap .i64 (x1+1)) hp  K)
noncomputable abbrev o160 (k n:Nat):Code:=.region k (opsAt Tryd.f160 (pth n)) false
noncomputable def F160_code:Code:=(.seq (o160 0 2) (.block 0 (.loop (.seq (.seq (o160 1 33) (.cond (.tmp 14) .skip (.exit 0))) (.seq (.block 1 (.seq (o160 3 137) (.block 2 (.loop (.seq (.seq (.region 4 (opsAt Tryd.f160 (pth 2121)) true) (.cond (.tmp 34) .skip (.exit 2))) (.seq (.block 3 (.region 6 (opsAt Tryd.f160 (pth 4681)) true)) (o160 5 3657))))))) (o160 2 57))))))
theorem F160_body:Tryd.f160.body=some F160_code:=by kernel_rfl
theorem F160_ok (x0a:OA) (x0n x0c:Nat) (x1 x2:Int) (x3:Value) (hp:HP) (K:Kh) (h:F160 x0a x0n x0c x1 x2 x3 hp K):CF Tryd.prog 160 [(.slice x0a x0n x0c),(.int .i64 x1),(.int .i64 x2),x3] hp K:=by
 refine .inl ⟨by kernel_rfl,AC.intro (N:=53) Tryd.func160 F160_body rfl (Nat.le_of_ble_eq_true rfl) ?_⟩
 unfold F160 at h
 refine As (fun env pv hp=>∃ x0a x0n x0c x1 x2 x3 x8,Sub (w5 E0 8 (sI x8) 3 (sV x3) 2 (sI x2) 1 (sI x1) 0 (sS x0a x0n x0c)) env∧Sub V0 pv∧F160_j1 x0a x0n x0c x1 x2 x3 x8 hp  K) ?_ ?_
 ·refine Ag F160_r6 ?_ (r4 1 0 2 3 Rn) (z4 Sn) Sn
  exact ⟨_,_,_,_,_,_,_,(z5 Sn),Sn,h⟩
 ·rintro env pv hp ⟨x0a,x0n,x0c,x1,x2,x3,x8,he,hv,h⟩
  refine Ae ?_ (r5 0 1 2 3 8 Rn) he hv
  unfold F160_j1 at h
  refine AWP.block (AWP.loop (σ:=Int) _ (fun s=>w5 E0 8 (sI s) 3 (sV x3) 2 (sI x2) 1 (sI x1) 0 (sS x0a x0n x0c)) (fun s=>V0) x8 h (fun s=>r5 0 1 2 3 8 Rn) (z5 Sn) Sn ?_)
  intro I2 x8 hp h
  replace h:F160_l2 x0a x0n x0c x1 x2 x3  K I2 x8 hp:=h
  unfold F160_l2 at h
  refine Aq (Ar F160_r0 ?_ (r5 2 8 0 1 3 Rn) (z5 Sn) Sn)
  refine Ac h rfl (fun h=>?_) (fun h=>?_)
  ·refine AWP.skip (As (fun env pv hp=>∃ x8,Sub (w5 E0 8 (sI x8) 3 (sV x3) 2 (sI x2) 1 (sI x1) 0 (sS x0a x0n x0c)) env∧Sub V0 pv∧F160_j3 x0a x0n x0c x1 x2 x3 x8 hp I2 K) ?_ ?_)
   ·refine AWP.block (As (fun env pv hp=>∃ x8 x9,Sub (w6 E0 9 (sI x9) 8 (sI x8) 3 (sV x3) 2 (sI x2) 1 (sI x1) 0 (sS x0a x0n x0c)) env∧Sub V0 pv∧F160_j4 x0a x0n x0c x1 x2 x3 x8 x9 hp I2 K) ?_ ?_)
    ·refine Ag F160_r5 ?_ (r5 8 0 1 2 3 Rn) (z5 Sn) Sn
     exact ⟨_,_,(z6 Sn),Sn,h⟩
    ·rintro env pv hp ⟨x8,x9,he,hv,h⟩
     refine Ae ?_ (r6 0 1 2 3 8 9 Rn) he hv
     unfold F160_j4 at h
     refine AWP.block (AWP.loop (σ:=Int) _ (fun s=>w6 E0 9 (sI s) 8 (sI x8) 3 (sV x3) 2 (sI x2) 1 (sI x1) 0 (sS x0a x0n x0c)) (fun s=>V0) x9 h (fun s=>r6 0 1 2 3 8 9 Rn) (z6 Sn) Sn ?_)
     intro I5 x9 hp h
     replace h:F160_l5 x0a x0n x0c x1 x2 x3 x8 I2 K I5 x9 hp:=h
     unfold F160_l5 at h
     refine Aq (As (fun env pv hp=>∃ x9 x34,Sub (w7 E0 34 (sB x34) 9 (sI x9) 8 (sI x8) 3 (sV x3) 2 (sI x2) 1 (sI x1) 0 (sS x0a x0n x0c)) env∧Sub V0 pv∧F160_j6 x0a x0n x0c x1 x2 x3 x8 x9 x34 hp I2 I5 K) ?_ ?_)
     ·refine AWP.rgnD (by kernel_rfl) (by kernel_rfl) (F160_r4 rfl) ?_ (r6 0 1 3 9 2 8 Rn) (z6 Sn) Sn
      refine mt h (fun h=>?_) (fun h=>?_)
      ·refine ⟨h.1,h.2.1,mN h.2.2 (fun b13 o14 h=>mL h (fun l15 h=>⟨h.1,h.2.1,mN h.2.2 fun b16 o17 h=>mL h fun l18 h=>mF h fun f19 ga_20 gb_21 h=>mC h fun u22 h23 h=>mI h fun i24 h=>?_⟩))⟩
       exact ⟨_,_,(z7 Sn),Sn,h⟩
      ·exact ⟨_,_,(z7 Sn),Sn,h⟩
     ·rintro env pv hp ⟨x9,x34,he,hv,h⟩
      refine Ae ?_ (r7 0 1 2 3 8 9 34 Rn) he hv
      unfold F160_j6 at h
      refine Ac h rfl (fun h=>?_) (fun h=>?_)
      ·refine AWP.skip (Aq (AWP.block (AWP.rgnD (by kernel_rfl) (by kernel_rfl) F160_r2 ?_ (r6 0 9 1 2 3 8 Rn) (z6 Sn) Sn)))
       refine ⟨h.1,h.2.1,mN h.2.2 (fun b1 o2 h=>mL h (fun l3 h=>⟨h.1,h.2.1,mN h.2.2 (fun b4 o5 h=>mL h (fun l6 h=>⟨h.1,h.2.1,mN h.2.2 (fun b7 o8 h=>⟨h.1,mW h.2 (fun h9 h=>⟨h.1,h.2.1,mN h.2.2 (fun b10 o11 h=>⟨h.1,mW h.2 fun h12 h=>?_⟩)⟩)⟩)⟩))⟩))⟩
       refine Ag F160_r3 ?_ (r6 9 0 1 2 3 8 Rn) (z6 Sn) Sn
       exact ⟨_,(z6 Sn),Sn,h⟩
      ·refine AWP.exit ?_
       exact ⟨_,(z5 Sn),Sn,h⟩
   ·rintro env pv hp ⟨x8,he,hv,h⟩
    refine Ae ?_ (r5 0 1 2 3 8 Rn) he hv
    unfold F160_j3 at h
    refine Ag F160_r1 ?_ (r5 8 0 1 2 3 Rn) (z5 Sn) Sn
    exact ⟨_,(z5 Sn),Sn,h⟩
  ·refine AWP.exit ?_
   exact h
end
end Go.Proofs
set_option linter.unusedVariables false
set_option maxRecDepth 20000
namespace Go.Proofs
open Go Go.HL
section
variable {f:FuncId} {ga gb:List Value} {hp0:HP} {b sp n c:Nat} {cf:Ss→Ss→Int}
theorem S160 (hc:CmpOk Tryd.prog f ga gb hp0 b 79 sp ssc n cf) {d:Array Ss} {lo hi:Nat} {K:Value→HP→Prop} (hs:d.size=n) (hlo:lo≤hi) (hhi:hi≤n) (hn:n≤1000000000)
    (h:K (.tuple ⟨[]⟩) (HA hp0 b 79 sp ssc (Sort.insertionSort (ltC cf) d lo hi))) :
    CF Tryd.prog 160 [.slice (some ⟨b,0,none⟩) n c,.int .i64 lo,.int .i64 hi,.func (.func f) ⟨ga⟩ ⟨gb⟩] (HA hp0 b 79 sp ssc d) K:=by
  refine F160_ok _ n c lo hi _ _ K ?_
  unfold F160 F160_j1
  rw [w64 (by omega) (by omega)]
  refine LoopP.by (J:=fun k (x:Int) hp=>∃ (i:Nat) (d':Array Ss),x=i∧hp=HA hp0 b 79 sp ssc d'∧d'.size=n∧lo<i∧k=hi-i∧Sort.insOuter (ltC cf) lo hi i d'=Sort.insertionSort (ltC cf) d lo hi) ?_
    (n:=hi-(lo+1)) ⟨lo+1,d,by omega,rfl,hs,by omega,rfl,rfl⟩
  rintro I k x hp ⟨i,d',rfl,rfl,hs',hli,rfl,he⟩ hI
  unfold F160_l2
  rw [Sort.insOuter] at he
  by_cases hi':i<hi
  · rw [decide_eq_true (by omega:(i:Int)<(hi:Int)),ite2_true]
    rw [if_pos hi'] at he
    unfold F160_j4
    refine LoopP.by (J:=fun k (y:Int) hp=>∃ (j:Nat) (d2:Array Ss),y=j∧hp=HA hp0 b 79 sp ssc d2∧d2.size=n∧j<n∧k=j∧Sort.insInner (ltC cf) lo j d2=Sort.insInner (ltC cf) lo i d') ?_
      (n:=i) ⟨i,d',rfl,rfl,hs',by omega,rfl,rfl⟩
    rintro I2 k2 y hp2 ⟨j,d2,rfl,rfl,hs2,hj,hk2,he2⟩ hI2
    unfold F160_l5
    have out:Sort.insInner (ltC cf) lo i d'=d2→F160_j6 (some ⟨b,0,none⟩) n c lo hi (.func (.func f) ⟨ga⟩ ⟨gb⟩) i j false (HA hp0 b 79 sp ssc d2) I I2 K:=by
      intro heq
      unfold F160_j6 F160_j3
      rw [ite2_false,w64 (by omega) (by omega)]
      exact hI (hi-(i+1)) _ _ (by omega) ⟨i+1,d2,by omega,rfl,hs2,by omega,rfl,by rw [← heq]; exact he⟩
    by_cases hjl:lo<j
    · rw [decide_eq_true (by omega:(j:Int) > (lo:Int)),ite2_true]
      obtain ⟨j',rfl⟩:∃ j',j=j'+1:=⟨j-1,by omega⟩
      have w1:IntKind.wrap .i64 (((j'+1:Nat):Int)-1)=(j':Int):=by rw [w64 (by omega) (by omega)]; omega
      have g1:=HA.get (hp0:=hp0) (b:=b) (e:=79) (sp:=sp) ssc_len (d:=d2) (i:=j'+1) (by omega)
      have g0:=HA.get (hp0:=hp0) (b:=b) (e:=79) (sp:=sp) ssc_len (d:=d2) (i:=j') (by omega)
      simp only [w1,ptrN_some,Int.toNat_natCast,g1,g0,ldL_some,fnV_mk]
      refine ⟨by omega,by omega,by omega,by omega,?_⟩
      refine hc d2 _ _ _ hs2 ?_
      rw [intV_int]
      rw [Sort.insInner] at he2
      have hgt:decide (j'+1 > lo)=true:=decide_eq_true (by omega)
      cases hlt:decide (cf d2[j'+1]! d2[j']!<0)
      · have:ltC cf d2[j'+1]! d2[j']! = false:=hlt
        rw [hgt,this] at he2
        exact out (by simpa using he2.symm)
      · have:ltC cf d2[j'+1]! d2[j']! = true:=hlt
        rw [hgt,this] at he2
        simp only [Bool.and_self,if_true] at he2
        unfold F160_j6
        simp only [ite2_true,w1,ptrN_some,Int.toNat_natCast,g0,g1,ldL_some]
        refine ⟨by omega,by omega,by omega,by omega,by omega,by omega,rfl,?_⟩
        refine HA.st ssc_len ssc_one (by omega) _ ?_
        refine ⟨by omega,by omega,rfl,?_⟩
        refine HA.st ssc_len ssc_one (by rw [Array.size_setIfInBounds]; omega) _ ?_
        exact hI2 j' _ _ (by omega) ⟨j',_,rfl,rfl,by rw [Array.size_setIfInBounds,Array.size_setIfInBounds]; exact hs2,by omega,rfl,he2⟩
    · rw [decide_eq_false (by omega:¬ (j:Int) > (lo:Int)),ite2_false]
      refine out ?_
      cases j with
      | zero=>rw [Sort.insInner] at he2; exact he2.symm
      | succ j=>
        rw [Sort.insInner] at he2
        have hgt:decide (j+1 > lo)=false:=decide_eq_false (by omega)
        rw [hgt] at he2
        simpa using he2.symm
  · rw [decide_eq_false (by omega:¬ (i:Int)<(hi:Int)),ite2_false]
    rw [if_neg hi'] at he
    rw [he]
    exact h
end
end Go.Proofs
set_option linter.unusedVariables false
set_option maxRecDepth 20000
namespace Go.Proofs
open Go Go.HL
section
variable {f:FuncId} {ga gb:List Value} {hp0:HP} {b sp n c:Nat} {cf:Ss→Ss→Int}
theorem S138 (hx:CmpX Tryd.prog f ga gb hp0 b 79 sp ssc n cf) (hS:Sort.SWO (ltC cf)) (hn:n≤65535):∀ (m:Nat) {d:Array Ss} {lo hi limit:Nat} {K:Value→HP→Prop},d.size=n→lo≤hi→hi≤n→limit≤64→hi-lo≤m→Sort.Below (ltC cf) lo hi d →
    (∀ d',Sort.PermIn lo hi d d'→Sort.SortedIn (ltC cf) lo hi d'→K (.tuple ⟨[]⟩) (HA hp0 b 79 sp ssc d')) →
    CF Tryd.prog 138 [.slice (some ⟨b,0,none⟩) n c,.int .i64 lo,.int .i64 hi,.int .i64 limit,.func (.func f) ⟨ga⟩ ⟨gb⟩] (HA hp0 b 79 sp ssc d) K:=by
  intro m
  induction m using Nat.strongRecOn with
  | ind m ih=>
  intro d lo hi limit K hs hlo hhi hl hm hB h
  have hc:=hx.ok
  refine F138_ok _ n c lo hi limit _ _ K ?_
  unfold F138 F138_j1
  refine LoopP.by (J:=fun k (s:Int × Int × Int × Bool × Bool) hp=>∃ (a e lim:Nat) (wb wp:Bool) (d':Array Ss),s=((a:Int),(e:Int),(lim:Int),wb,wp)∧hp=HA hp0 b 79 sp ssc d'∧d'.size=n∧a≤e∧e≤n∧lim≤64∧e-a≤hi-lo∧k=e-a∧Sort.Below (ltC cf) a e d' ∧
      (∀ R,Sort.PermIn a e d' R→Sort.SortedIn (ltC cf) a e R→K (.tuple ⟨[]⟩) (HA hp0 b 79 sp ssc R))) ?_
    (n:=hi-lo) ⟨lo,hi,limit,true,true,d,rfl,rfl,hs,hlo,hhi,hl,Nat.le_refl _,rfl,hB,h⟩
  clear hs hlo hhi hl hB h
  rintro I k x hp ⟨a,e,lim,wb,wp,d,rfl,rfl,hs,hae,hen,hl,hle,rfl,hB,h⟩ hI
  unfold F138_l2
  simp only []
  have w1:IntKind.wrap .i64 ((e:Int)-(a:Int))=((e-a:Nat):Int):=wi (by omega) (by omega)
  rw [w1]
  by_cases h12:e-a≤12
  · rw [decide_eq_true (by omega:((e-a:Nat):Int)≤12),ite2_true]
    refine S160 hc hs hae hen (by omega) ?_
    have hi:=Sort.insertionSort_holds hS d a e hae (by omega)
    exact h _ hi.1 hi.2
  rw [decide_eq_false (by omega:¬ ((e-a:Nat):Int)≤12),ite2_false]
  by_cases h0:lim=0
  · subst h0
    have hb:(((0:Nat):Int)==0)=true:=rfl
    rw [hb,ite2_true]
    refine S161 hc hs hae hen (by omega) ?_
    have hi:=Sort.heapSort_holds hS d a e hae (by omega)
    exact h _ hi.1 hi.2
  have hb:((lim:Int)==0)=false:=by rw [beq_eq_false_iff_ne]; omega
  rw [hb,ite2_false]
  have last:∀ (lim':Nat) (d3:Array Ss) (p:Nat) (wb wp:Bool),lim'≤64→Sort.PermIn a e d d3→a≤p→p<e →
      F138_j5 (some ⟨b,0,none⟩) n c a e lim' (.func (.func f) ⟨ga⟩ ⟨gb⟩) wb wp ((e-a:Nat):Int) p (HA hp0 b 79 sp ssc d3) I K:=by
    intro lim' d3 p wb wp hl' hp3 hpa hpe
    have hs3:d3.size=n:=by rw [hp3.1]; exact hs
    have B3:Sort.Below (ltC cf) a e d3:=hB.perm (by omega) hp3
    have two:F138_j6 (some ⟨b,0,none⟩) n c a e lim' (.func (.func f) ⟨ga⟩ ⟨gb⟩) wb wp ((e-a:Nat):Int) p false (HA hp0 b 79 sp ssc d3) I K:=by
      unfold F138_j6
      rw [ite2_false]
      refine S167 hc hs3 (by omega) hen (by omega) (by omega) ?_
      rcases hR:Sort.partition (ltC cf) d3 a e p with ⟨mid,ap,d4⟩
      obtain ⟨q1,q2,q3,q4,q5,q6,q7⟩:=Sort.round_part hS (Sort.partition_holds _) hpa hpe (by omega) B3 hR
      simp only [tup2V_mk,intV_int,boolV_bool]
      refine ⟨by omega,?_⟩
      have v1:IntKind.wrap .i64 ((mid:Int)-(a:Int))=((mid-a:Nat):Int):=wi (by omega) (by omega)
      have v2:IntKind.wrap .i64 ((e:Int)-(mid:Int))=((e-mid:Nat):Int):=wi (by omega) (by omega)
      have v3:IntKind.wrap .i64 ((mid:Int)+1)=((mid+1:Nat):Int):=wi (by omega) (by omega)
      rw [v1,v2,v3]
      by_cases hlt:mid-a<e-mid
      · rw [decide_eq_true (by omega:((mid-a:Nat):Int)<((e-mid:Nat):Int)),ite2_true]
        refine ih (mid-a) (by omega) (by omega) q1 (by omega) hl' (Nat.le_refl _) q4 ?_
        intro L hL hsL
        obtain ⟨z1,z2⟩:=q6 L hL hsL
        exact hI (e-(mid+1)) _ _ (by omega) ⟨mid+1,e,lim',_,ap,L,rfl,rfl,by rw [hL.1]; omega,by omega,hen,hl',by omega,rfl,z1,fun R hR hsR=>h R (Sort.permIn_trans _ _ _ _ _ hp3 (z2 R hR hsR).1) (z2 R hR hsR).2⟩
      · rw [decide_eq_false (by omega:¬ ((mid-a:Nat):Int)<((e-mid:Nat):Int)),ite2_false]
        refine ih (e-(mid+1)) (by omega) (by omega) (by omega) hen hl' (Nat.le_refl _) q5 ?_
        intro L hL hsL
        obtain ⟨z1,z2⟩:=q7 L hL hsL
        exact hI (mid-a) _ _ (by omega) ⟨a,mid,lim',_,ap,L,rfl,rfl,by rw [hL.1]; omega,q1,by omega,hl',by omega,rfl,z1,fun R hR hsR=>h R (Sort.permIn_trans _ _ _ _ _ hp3 (z2 R hR hsR).1) (z2 R hR hsR).2⟩
    unfold F138_j5
    by_cases ha:a > 0
    · rw [decide_eq_true (by omega:(a:Int) > 0),ite2_true]
      have v1:IntKind.wrap .i64 ((a:Int)-1)=((a-1:Nat):Int):=wi (by omega) (by omega)
      rw [v1]
      refine cmpP hc ssc_len hs3 (i:=a-1) (j:=p) rfl rfl (by omega) (by omega) ?_
      have hlq:decide (cf d3[a-1]! d3[p]!<0)=ltC cf d3[a-1]! d3[p]! := rfl
      rw [hlq]
      cases hlt:ltC cf d3[a-1]! d3[p]!
      · unfold F138_j6
        simp only [Bool.not_false,ite2_true]
        refine S166 hc hs3 (by omega) hen (by omega) (by omega) ?_
        rcases hR:Sort.partitionEqual (ltC cf) d3 a e p with ⟨mid,d4⟩
        obtain ⟨q1,q2,q3,q4,q5⟩:=Sort.round_eq hS (Sort.partitionEqual_holds _) ha hpa hpe (by omega) B3 hlt hR
        rw [intV_int]
        exact hI (e-mid) _ _ (by omega) ⟨mid,e,lim',wb,wp,d4,rfl,rfl,by omega,q2,hen,hl',by omega,rfl,q4,fun R hR hsR=>h R (Sort.permIn_trans _ _ _ _ _ hp3 (q5 R hR hsR).1) (q5 R hR hsR).2⟩
      · simp only [Bool.not_true]
        exact two
    · rw [decide_eq_false (by omega:¬ (a:Int) > 0),ite2_false]
      exact two
  have part:∀ (lim':Nat) (d2:Array Ss) (p:Nat) (w:Int),lim'≤64→Sort.PermIn a e d d2→a≤p→p<e →
      F138_j4 (some ⟨b,0,none⟩) n c a e lim' (.func (.func f) ⟨ga⟩ ⟨gb⟩) wb wp ((e-a:Nat):Int) p w (HA hp0 b 79 sp ssc d2) I K:=by
    intro lim' d2 p w hl' hp2 hpa hpe
    have hs2:d2.size=n:=by rw [hp2.1]; exact hs
    have B2:Sort.Below (ltC cf) a e d2:=hB.perm (by omega) hp2
    have seven:∀ q:Bool,F138_j7 (some ⟨b,0,none⟩) n c a e lim' (.func (.func f) ⟨ga⟩ ⟨gb⟩) wb wp ((e-a:Nat):Int) p q (HA hp0 b 79 sp ssc d2) I K:=by
      intro q
      unfold F138_j7
      cases q
      · rw [ite2_false]; exact last lim' d2 p wb wp hl' hp2 hpa hpe
      · rw [ite2_true]
        refine S165 hc hs2 (by omega) hen (by omega) ?_
        obtain ⟨r1,r2⟩:=Sort.partialInsertionSort_holds hS d2 a e (by omega) (by omega) B2
        rw [boolV_bool]
        cases hq:(Sort.partialInsertionSort (ltC cf) d2 a e).2
        · rw [ite2_false]
          exact last lim' _ p wb wp hl' (Sort.permIn_trans _ _ _ _ _ hp2 r1) hpa hpe
        · rw [ite2_true]
          exact h _ (Sort.permIn_trans _ _ _ _ _ hp2 r1) (r2 hq)
    unfold F138_j4
    cases wb
    · rw [ite2_false]; exact seven _
    · rw [ite2_true]
      cases wp
      · rw [ite2_false]; exact seven _
      · rw [ite2_true]; exact seven _
  have piv:∀ (lim':Nat) (d1:Array Ss),lim'≤64→Sort.PermIn a e d d1→F138_j3 (some ⟨b,0,none⟩) n c a e lim' (.func (.func f) ⟨ga⟩ ⟨gb⟩) wb wp ((e-a:Nat):Int) (HA hp0 b 79 sp ssc d1) I K:=by
    intro lim' d1 hl' hp1
    have hs1:d1.size=n:=by rw [hp1.1]; exact hs
    unfold F138_j3
    refine S163 hx hs1 (by omega) hen hn fun p w hpa hpe=>?_
    simp only [tup2V_mk,intV_int]
    cases (w==2)
    · rw [ite2_false]; exact part lim' d1 p w hl' hp1 hpa hpe
    · rw [ite2_true]
      refine S164 hs1 (by omega) hen (by omega) ?_
      have v1:IntKind.wrap .i64 ((e:Int)-1)=((e-1:Nat):Int):=wi (by omega) (by omega)
      have v2:IntKind.wrap .i64 ((p:Int)-(a:Int))=((p-a:Nat):Int):=wi (by omega) (by omega)
      have v3:IntKind.wrap .i64 (((e-1:Nat):Int)-((p-a:Nat):Int))=((e-1-(p-a):Nat):Int):=wi (by omega) (by omega)
      rw [v1,v2,v3]
      exact part lim' _ _ 1 hl' (Sort.permIn_trans _ _ _ _ _ hp1 (Sort.reverseRange_holds d1 a e hae (by omega))) (by omega) (by omega)
  cases wb
  · simp only [Bool.not_false,ite2_true]
    refine S162 hs hae hen hn fun d1 hp1=>?_
    have v1:IntKind.wrap .i64 ((lim:Int)-1)=((lim-1:Nat):Int):=wi (by omega) (by omega)
    rw [v1]
    exact piv (lim-1) d1 (by omega) hp1
  · simp only [Bool.not_true,ite2_false]
    exact piv lim d hl (Sort.permIn_refl d a e)
end
theorem S122 {f:FuncId} {ga gb:List Value} {cf:Ss→Ss→Int} (hS:Sort.SWO (ltC cf)) {hp:HP} {s:Option Addr} {n c:Nat} {ts:List Ss} (hr:Row hp s n c 79 9 (ts.flatMap ssc)) (hl:ts.length=n) (hn:n≤65535)
    (hx:∀ b,s=some ⟨b,0,none⟩→CmpX Tryd.prog f ga gb hp b 79 ((c-n)*9) ssc n cf) {K:Value→HP→Prop}
    (h:∀ (ts':List Ss) (hp':HP),ts'.Perm ts→ts'.Pairwise (fun x y=>ltC cf y x=false)→Row hp' s n c 79 9 (ts'.flatMap ssc)→(hp'=hp∨∃ b e,s=some ⟨b,0,none⟩∧hp'=hp.set b e)→K (.tuple ⟨[]⟩) hp') :
    CF Tryd.prog 122 [.slice s n c,.func (.func f) ⟨ga⟩ ⟨gb⟩] hp K:=by
  refine F122_ok s n c _ hp K ?_
  unfold F122
  rw [wu64 (by omega) (by omega)]
  refine C128 hn fun L hL _ _=>?_
  rw [intV_int]
  have z0:(Value.int .i64 0)=Value.int .i64 ((0:Nat):Int):=rfl
  rcases hr with ⟨rfl,rfl,rfl,hnil⟩ | ⟨b,rfl,hnc,hxl,hb⟩
  · have ht:ts=[]:=List.eq_nil_of_length_eq_zero hl
    subst ht
    rw [z0]
    refine F138_ok none 0 0 ((0:Nat):Int) ((0:Nat):Int) L _ hp _ ?_
    unfold F138 F138_j1
    refine LoopP.by (J:=fun k (s:Int × Int × Int × Bool × Bool) hp'=>s.1=0∧s.2.1=0∧hp'=hp) ?_ (n:=0) ⟨rfl,rfl,rfl⟩
    rintro I k ⟨a,e,lim,wb,wp⟩ hp' ⟨h1,h2,rfl⟩ hI
    simp only at h1 h2
    subst h1 h2
    unfold F138_l2
    simp only []
    have w0:IntKind.wrap .i64 ((0:Int)-0)=0:=by rw [w64 (by omega) (by omega)]; omega
    rw [w0,decide_eq_true (by omega:(0:Int)≤12),ite2_true]
    refine F160_ok none 0 0 0 0 _ hp' _ ?_
    unfold F160 F160_j1
    have w1:IntKind.wrap .i64 ((0:Int)+1)=1:=by rw [w64 (by omega) (by omega)]; omega
    rw [w1]
    refine LoopP.by (J:=fun k (x:Int) hp2=>x=1∧hp2=hp') ?_ (n:=0) ⟨rfl,rfl⟩
    rintro I2 k2 x hp2 ⟨rfl,rfl⟩ hI2
    unfold F160_l2
    rw [decide_eq_false (by omega:¬ (1:Int)<0),ite2_false]
    exact h [] _ (List.Perm.refl _) List.Pairwise.nil (.inl ⟨rfl,rfl,rfl,rfl⟩) (.inl rfl)
  · have hha:HA hp b 79 ((c-n)*9) ssc ts.toArray=hp:=HP.set_self _ _ _ hb
    rw [z0]
    have key:=S138 (c:=c) (hx b rfl) hS hn n (d:=ts.toArray) (lo:=0) (hi:=n) (limit:=L) (K:=fun u_4 h_5=>K (.tuple ⟨[]⟩) h_5) (by simpa using hl) (Nat.zero_le _) (Nat.le_refl _) (by omega) (by omega) (.inl rfl) ?_
    · rw [hha] at key; exact key
    intro d' hpm hst
    have hsz:d'.size=n:=by rw [hpm.1]; simpa using hl
    have hpl:d'.toList.Perm ts:=by
      have h3:=hpm.2.2
      have e1:d'.extract 0 n=d':=by rw [← hsz]; simp
      have e2:ts.toArray.extract 0 n=ts.toArray:=by rw [← hl]; simp
      rw [e1,e2] at h3
      exact h3
    refine h d'.toList _ hpl ?_ (.inr ⟨b,rfl,hnc,by rw [flat_len ssc_len]; simp [hsz],by unfold HA; rw [HP.set_eq]⟩) (.inr ⟨b,_,rfl,rfl⟩)
    rw [List.pairwise_iff_getElem]
    intro i j hi hj hij
    have:=hst i j (Nat.zero_le _) hij (by simpa [hsz] using hj)
    rw [getElem!_pos d' j (by simpa using hj),getElem!_pos d' i (by simpa using hi)] at this
    simpa using this
end Go.Proofs
set_option linter.unusedVariables false
set_option maxRecDepth 20000
namespace Go.Proofs
open Go Go.HL
section
variable {e E:Env} {x0:OA} {x1:Int} {x2:List Value} {x5:OA} {hp:HP} {K:Env→PV→HP→Prop}
abbrev R47 (p n:Nat):=RW Tryd.prog 12 [] (opsAt Tryd.f47 (pth p)) (List.range n)
theorem F47_r0:R47 2 2 (upd e 2 (sA x2)) V0 hp K=
    (∀ b1:Nat,hp b1=.none→(K (w3 e 2 (sA x2) 5 (sQ b1 0) 6 (sB false)) V0 (HP.set hp b1 (.cells 27 x2 0)))):=by kernel_rfl
theorem F47_r1 (h:E=upd (w2 e 5 (sP x5) 1 (sI x1)) 0 (sP x0)):R47 5 6 E V0 hp K=
 CF Tryd.prog 46 [(.pointer x0),(.int .i64 x1)] hp fun u1 h2=>(slcV u1 fun a3 n4 c5=>CF Tryd.prog 97 [(.slice a3 n4 c5),(.func (.func 98) ⟨[]⟩ ⟨[(.pointer x5)]⟩)] h2 fun u6 h7=>boolV u6 fun q8=>K (w6 E 7 (sP x0) 8 (sI x1) 9 (sS a3 n4 c5) 10 (sV (.func (.func 98) ⟨[]⟩ ⟨[(.pointer x5)]⟩)) 11 (sB q8) 6 (sB q8)) V0 h7):= by subst h; kernel_rfl
def F47 (x0:OA) (x1:Int) (x2:List Value) (hp:HP) (K:Kh):Prop:=
  (∀ b1:Nat,hp b1=.none→(CF Tryd.prog 46 [(.pointer x0),(.int .i64 x1)] (HP.set hp b1 (.cells 27 x2 0)) fun u2 h3=>slcV u2 fun a4 n5 c6=>CF Tryd.prog 97 [(.slice a4 n5 c6),(.func (.func 98) ⟨[]⟩ ⟨[(.pointer (some ⟨b1,0,none⟩))]⟩)] h3 fun u7 h8=>boolV u7 fun q9=>K (.bool q9) h8))
noncomputable def F47_code:Code:=(.seq (.region 0 (opsAt Tryd.f47 (pth 2)) false) (.seq (.region 1 (opsAt Tryd.f47 (pth 5)) false) .ret))
theorem F47_body:Tryd.f47.body=some F47_code:=by kernel_rfl
theorem F47_ok (x0:OA) (x1:Int) (x2:List Value) (hp:HP) (K:Kh) (h:F47 x0 x1 x2 hp K):CF Tryd.prog 47 [(.pointer x0),(.int .i64 x1),(.agg ⟨x2⟩)] hp K:=by
 refine .inl ⟨by kernel_rfl,AC.intro (N:=12) Tryd.func47 F47_body rfl (Nat.le_of_ble_eq_true rfl) ?_⟩
 unfold F47 at h
 refine Ar F47_r0 ?_ (r3 2 0 1 Rn) (z3 Sn) Sn
 refine fun b1 hb_b_1=>?_
 replace h:=h b1 hb_b_1
 refine Ar (F47_r1 rfl) ?_ (r3 0 1 5 Rn) (z3 Sn) Sn
 refine mC h fun u2 h3 h=>mS h fun a4 n5 c6 h=>mC h fun u7 h8 h=>mB h fun q9 h=>?_
 refine AWP.ret ?_
 exact h
end
section
variable {e:Env} {x0a:OA} {x0n x0c:Nat} {x1:Value} {hp:HP} {K:Env→PV→HP→Prop}
abbrev R97 (p n:Nat):=RW Tryd.prog 9 [] (opsAt Tryd.f97 (pth p)) (List.range n)
theorem F97_r0:R97 2 1 e V0 hp K=
 K (upd e 4 (sB false)) V0 hp:= by kernel_rfl
theorem F97_r1:R97 5 5 (w2 e 1 (sV x1) 0 (sS x0a x0n x0c)) V0 hp K=
 CF Tryd.prog 126 [(.slice x0a x0n x0c),x1] hp fun u1 h2=>(intV u1 .i64 fun i3=>K (w7 e 1 (sV x1) 0 (sS x0a x0n x0c) 5 (sS x0a x0n x0c) 6 (sV x1) 7 (sI i3) 8 (sB (decide (i3≥0))) 4 (sB (decide (i3≥0)))) V0 h2):= by kernel_rfl
def F97 (x0a:OA) (x0n x0c:Nat) (x1:Value) (hp:HP) (K:Kh):Prop:=
  (CF Tryd.prog 126 [(.slice x0a x0n x0c),x1] hp fun u1 h2=>intV u1 .i64 fun i3=>K (.bool (decide (i3≥0))) h2)
noncomputable def F97_code:Code:=(.seq (.region 0 (opsAt Tryd.f97 (pth 2)) false) (.seq (.region 1 (opsAt Tryd.f97 (pth 5)) false) .ret))
theorem F97_body:Tryd.f97.body=some F97_code:=by kernel_rfl
theorem F97_ok (x0a:OA) (x0n x0c:Nat) (x1:Value) (hp:HP) (K:Kh) (h:F97 x0a x0n x0c x1 hp K):CF Tryd.prog 97 [(.slice x0a x0n x0c),x1] hp K:=by
 refine .inl ⟨by kernel_rfl,AC.intro (N:=9) Tryd.func97 F97_body rfl (Nat.le_of_ble_eq_true rfl) ?_⟩
 unfold F97 at h
 refine Ar F97_r0 ?_ (r2 0 1 Rn) (z2 Sn) Sn
 refine Ar F97_r1 ?_ (r2 0 1 Rn) (z2 Sn) Sn
 refine mC h fun u1 h2 h=>mI h fun i3 h=>?_
 refine AWP.ret ?_
 exact h
end
section
variable {e:Env} {x0:List Value} {x1:OA} {k2:List Value} {hp:HP} {K:Env→PV→HP→Prop}
abbrev R98 (p n:Nat):=RW Tryd.prog 9 [2,4,5] (opsAt Tryd.f98 (pth p)) (List.range n)
theorem F98_r0:R98 2 2 (upd e 0 (sA x0)) V0 hp K=
 K (w3 e 0 (sA x0) 2 (sR 2 0) 3 (sB false)) (upd V0 2 (79,x0)) hp:= by kernel_rfl
theorem F98_r1:R98 5 6 (w2 e 2 (sR 2 0) 1 (sP x1)) (upd V0 2 (79,k2)) hp K=
 ldL (cellsN k2 2 4) fun l1=>(ptrN x1 fun b2 o3=>ldL (HP.cellN hp b2 o3 4) fun l4=>eqAgg Tryd.prog 27 l1 l4 fun q5=>K (w8 e 2 (sR 2 0) 1 (sP x1) 4 (sR 2 2) 5 (sR 2 2) 6 (sA l1) 7 (sA l4) 8 (sB q5) 3 (sB q5)) (upd V0 2 (79,k2)) hp):= by kernel_rfl
def F98 (x0:List Value) (x1:OA) (hp:HP) (K:Kh):Prop:=
  (ldL (cellsN x0 2 4) fun l1=>ptrN x1 fun b2 o3=>ldL (HP.cellN hp b2 o3 4) fun l4=>eqAgg Tryd.prog 27 l1 l4 fun q5=>K (.bool q5) hp)
noncomputable def F98_code:Code:=(.seq (.region 0 (opsAt Tryd.f98 (pth 2)) false) (.seq (.region 1 (opsAt Tryd.f98 (pth 5)) false) .ret))
theorem F98_body:Tryd.f98.body=some F98_code:=by kernel_rfl
theorem F98_ok (x0:List Value) (x1:OA) (hp:HP) (K:Kh) (h:F98 x0 x1 hp K):CF Tryd.prog 98 [(.agg ⟨x0⟩),(.pointer x1)] hp K:=by
 refine .inl ⟨by kernel_rfl,AC.intro (N:=9) Tryd.func98 F98_body rfl (Nat.le_of_ble_eq_true rfl) ?_⟩
 unfold F98 at h
 refine Ar F98_r0 ?_ (r2 0 1 Rn) (z2 Sn) Sn
 refine Ar F98_r1 ?_ (r1 1 (rp 2 2 0 Rn)) (z2 Sn) (z1 Sn)
 refine mL h fun l1 h=>mN h fun b2 o3 h=>mL h fun l4 h=>mE h fun q5 h=>?_
 refine AWP.ret ?_
 exact h
end
section
variable {e E:Env} {x0a:OA} {x0n x0c:Nat} {x1:Value} {x5 x7 x8:Int} {hp:HP} {K:Env→PV→HP→Prop}
abbrev R126 (p n:Nat):=RW Tryd.prog 19 [] (opsAt Tryd.f126 (pth p)) (List.range n)
theorem F126_r0:R126 2 1 e V0 hp K=
 K (upd e 4 (sI 0)) V0 hp:= by kernel_rfl
theorem F126_r1:R126 69 1 (w2 e 8 (sI x8) 7 (sI x7)) V0 hp K=
 K (w3 e 8 (sI x8) 7 (sI x7) 9 (sB (decide (x8<x7)))) V0 hp:= by kernel_rfl
theorem F126_r2:R126 1125 2 (upd e 8 (sI x8)) V0 hp K=
 K (w3 e 8 (sI x8) 10 (sI x8) 5 (sI x8)) V0 hp:= by kernel_rfl
theorem F126_r3 (h:E=upd (w2 e 5 (sI x5) 1 (sV x1)) 0 (sS x0a x0n x0c)):R126 2661 6 E V0 hp K=
    ((0≤x5)∧(x5<x0n)∧(ptrN x0a fun b1 o2=>ldL (HP.cellN hp b1 (o2+Int.toNat x5*9) 9) fun l3=>fnV x1 fun f4 ga5 gb6=>CF Tryd.prog f4 (ga5++[(Value.agg ⟨l3⟩)]++gb6) hp fun u7 h8=>boolV u7 fun q9=>K (w6 E 11 (sV x1) 12 (sS x0a x0n x0c) 13 (sI x5) 14 (sQ b1 (o2+Int.toNat x5*9)) 15 (sA l3) 16 (sB q9)) V0 h8)):=by subst h; kernel_rfl
theorem F126_r4:R126 9829 2 (upd e 5 (sI x5)) V0 hp K=
 K (w3 e 5 (sI x5) 17 (sI x5) 4 (sI x5)) V0 hp:= by kernel_rfl
theorem F126_r5:R126 485 2 (upd e 8 (sI x8)) V0 hp K=
 K (w3 e 8 (sI x8) 18 (sI ((wr (x8+1)))) 8 (sI ((wr (x8+1))))) V0 hp:= by kernel_rfl
theorem F126_r6:R126 11 1 e V0 hp K=
 K (upd e 4 (sI ((-1)))) V0 hp:= by kernel_rfl
def F126_l2 (x0a:OA) (x0n x0c:Nat) (x1:Value) (x7:Int) (K:Kh) (I2:(Int)→HP→Prop) (x8:Int) (hp:HP):Prop:=
  (ite2 (decide (x8<x7)) ((0≤x8)∧(x8<x0n)∧(ptrN x0a fun b1 o2=>ldL (HP.cellN hp b1 (o2+Int.toNat x8*9) 9) fun l3=>fnV x1 fun f4 ga_5 gb_6=>CF Tryd.prog f4 (ga_5++[(Value.agg ⟨l3⟩)]++gb_6) hp fun u7 h8=>boolV u7 fun q9=>ite2 q9 (K (.int .i64 x8) h8) (I2 (IntKind.wrap .i64 (x8+1)) h8))) (K (.int .i64 (-1)) hp))
def F126_j1 (x0a:OA) (x0n x0c:Nat) (x1:Value) (x7 x8:Int) (hp:HP) (K:Kh):Prop:=
  (LoopP (σ:=Int) (fun I s hp=>F126_l2 x0a x0n x0c x1 x7  K I s hp) x8 hp)
theorem F126_r7:R126 9 3 (upd e 0 (sS x0a x0n x0c)) V0 hp K=
 K (w4 e 0 (sS x0a x0n x0c) 6 (sS x0a x0n x0c) 7 (sI ((x0n:Nat))) 8 (sI 0)) V0 hp:= by kernel_rfl
def F126 (x0a:OA) (x0n x0c:Nat) (x1:Value) (hp:HP) (K:Kh):Prop:=
  (F126_j1 x0a x0n x0c x1 (x0n:Nat) 0 hp  K)
noncomputable abbrev o126 (k n:Nat):Code:=.region k (opsAt Tryd.f126 (pth n)) false
noncomputable def F126_code:Code:=(.seq (o126 0 2) (.seq (.seq (o126 1 9) (.block 0 (.loop (.seq (o126 2 69) (.seq (.cond (.tmp 9) .skip (.exit 0)) (.seq (.block 1 (.seq (o126 3 1125) (.seq (o126 4 2661) (.cond (.tmp 16) (.seq (o126 5 9829) .ret) .skip)))) (o126 6 485))))))) (.seq (o126 7 11) .ret)))
theorem F126_body:Tryd.f126.body=some F126_code:=by kernel_rfl
theorem F126_ok (x0a:OA) (x0n x0c:Nat) (x1:Value) (hp:HP) (K:Kh) (h:F126 x0a x0n x0c x1 hp K):CF Tryd.prog 126 [(.slice x0a x0n x0c),x1] hp K:=by
 refine .inl ⟨by kernel_rfl,AC.intro (N:=19) Tryd.func126 F126_body rfl (Nat.le_of_ble_eq_true rfl) ?_⟩
 unfold F126 at h
 refine Ar F126_r0 ?_ (r2 0 1 Rn) (z2 Sn) Sn
 refine Aq (As (fun env pv hp=>∃ x0a x0n x0c x1 x7 x8,Sub (w4 E0 8 (sI x8) 7 (sI x7) 1 (sV x1) 0 (sS x0a x0n x0c)) env∧Sub V0 pv∧F126_j1 x0a x0n x0c x1 x7 x8 hp  K) ?_ ?_)
 ·refine Ag F126_r7 ?_ (r2 0 1 Rn) (z2 Sn) Sn
  exact ⟨_,_,_,_,_,_,(z4 Sn),Sn,h⟩
 ·rintro env pv hp ⟨x0a,x0n,x0c,x1,x7,x8,he,hv,h⟩
  refine Ae ?_ (r4 0 1 7 8 Rn) he hv
  unfold F126_j1 at h
  refine AWP.block (AWP.loop (σ:=Int) _ (fun s=>w4 E0 8 (sI s) 7 (sI x7) 1 (sV x1) 0 (sS x0a x0n x0c)) (fun s=>V0) x8 h (fun s=>r4 0 1 7 8 Rn) (z4 Sn) Sn ?_)
  intro I2 x8 hp h
  replace h:F126_l2 x0a x0n x0c x1 x7  K I2 x8 hp:=h
  unfold F126_l2 at h
  refine Ar F126_r1 ?_ (r4 7 8 0 1 Rn) (z4 Sn) Sn
  refine Aq (Ac h rfl (fun h=>?_) (fun h=>?_))
  ·refine AWP.skip (Aq (AWP.block (Ar F126_r2 ?_ (r4 8 0 1 7 Rn) (z4 Sn) Sn)))
   refine Ar (F126_r3 rfl) ?_ (r5 0 1 5 7 8 Rn) (z5 Sn) Sn
   refine ⟨h.1,h.2.1,mN h.2.2 fun b1 o2 h=>mL h fun l3 h=>mF h fun f4 ga_5 gb_6 h=>mC h fun u7 h8 h=>mB h fun q9 h=>?_⟩
   refine Ac h rfl (fun h=>?_) (fun h=>?_)
   ·refine Ar F126_r4 ?_ (r1 5 Rn) (z1 Sn) Sn
    refine AWP.ret ?_
    exact h
   ·refine AWP.skip (Ag F126_r5 ?_ (r4 8 0 1 7 Rn) (z4 Sn) Sn)
    exact ⟨_,(z4 Sn),Sn,h⟩
  ·refine AWP.exit ?_
   refine Ar F126_r6 ?_ Rn Sn Sn
   refine AWP.ret ?_
   exact h
end
section
variable {e E:Env} {x0 x1:Int} {k4:List Value} {hp:HP} {K:Env→PV→HP→Prop}
abbrev R43 (p n:Nat):=RW Tryd.prog 9 [4] (opsAt Tryd.f43 (pth p)) (List.range n)
theorem F43_r0:R43 2 1 e V0 hp K=
 K (upd e 4 (sR 4 0)) (upd V0 4 (34,[.int .u8 0,.int .u8 0,.int .u8 0,.int .u8 0,.int .i64 0])) hp:= by kernel_rfl
theorem F43_r1 (h:E=upd (w2 e 4 (sR 4 0) 1 (sI x1)) 0 (sV (.int .u8 x0))):R43 5 5 E (upd V0 4 (34,k4)) hp K=
    (if List.length [(Value.int .u8 9),.int .u8 0,.int .u8 0,(.int .u8 x0)]=4 then (if List.length (List.set (splice [.int .u8 0,.int .u8 0,.int .u8 0,.int .u8 0,.int .i64 0] 0 [(.int .u8 9),.int .u8 0,.int .u8 0,(.int .u8 x0)]) 4 (.int .i64 x1))=5 then (if List.all (List.set (splice [.int .u8 0,.int .u8 0,.int .u8 0,.int .u8 0,.int .i64 0] 0 [(.int .u8 9),.int .u8 0,.int .u8 0,(.int .u8 x0)]) 4 (.int .i64 x1)) one=true then (if 0+List.length (List.set (splice [.int .u8 0,.int .u8 0,.int .u8 0,.int .u8 0,.int .i64 0] 0 [(.int .u8 9),.int .u8 0,.int .u8 0,(.int .u8 x0)]) 4 (.int .i64 x1))≤List.length k4 then (K (w4 E 5 (sV (.int .u8 x0)) 6 (sV (.agg ⟨[(.int .u8 9),.int .u8 0,.int .u8 0,(.int .u8 x0)]⟩)) 7 (sI x1) 8 (sV (.agg ⟨(List.set (splice [.int .u8 0,.int .u8 0,.int .u8 0,.int .u8 0,.int .i64 0] 0 [(.int .u8 9),.int .u8 0,.int .u8 0,(.int .u8 x0)]) 4 (.int .i64 x1))⟩))) (w2 V0 4 (34,k4) 4 (34,(splice k4 0 (List.set (splice [.int .u8 0,.int .u8 0,.int .u8 0,.int .u8 0,.int .i64 0] 0 [(.int .u8 9),.int .u8 0,.int .u8 0,(.int .u8 x0)]) 4 (.int .i64 x1))))) hp) else False) else False) else False) else False):=by subst h; kernel_rfl
def F43 (x0 x1:Int) (hp:HP) (K:Kh):Prop:=
  (if List.length [(Value.int .u8 9),.int .u8 0,.int .u8 0,(.int .u8 x0)]=4 then (if List.length (List.set (splice [.int .u8 0,.int .u8 0,.int .u8 0,.int .u8 0,.int .i64 0] 0 [(.int .u8 9),.int .u8 0,.int .u8 0,(.int .u8 x0)]) 4 (.int .i64 x1))=5 then (if List.all (List.set (splice [.int .u8 0,.int .u8 0,.int .u8 0,.int .u8 0,.int .i64 0] 0 [(.int .u8 9),.int .u8 0,.int .u8 0,(.int .u8 x0)]) 4 (.int .i64 x1)) one=true then (if 0+List.length (List.set (splice [.int .u8 0,.int .u8 0,.int .u8 0,.int .u8 0,.int .i64 0] 0 [(.int .u8 9),.int .u8 0,.int .u8 0,(.int .u8 x0)]) 4 (.int .i64 x1))≤List.length [(Value.int .u8 0),.int .u8 0,.int .u8 0,.int .u8 0,.int .i64 0] then (ldL (cellsN (splice [.int .u8 0,.int .u8 0,.int .u8 0,.int .u8 0,.int .i64 0] 0 (List.set (splice [.int .u8 0,.int .u8 0,.int .u8 0,.int .u8 0,.int .i64 0] 0 [(.int .u8 9),.int .u8 0,.int .u8 0,(.int .u8 x0)]) 4 (.int .i64 x1))) 0 5) fun l1=>K (.agg ⟨l1⟩) hp) else False) else False) else False) else False)
noncomputable def F43_code:Code:=(.seq (.region 0 (opsAt Tryd.f43 (pth 2)) false) (.seq (.region 1 (opsAt Tryd.f43 (pth 5)) false) .ret))
theorem F43_body:Tryd.f43.body=some F43_code:=by kernel_rfl
theorem F43_ok (x0 x1:Int) (hp:HP) (K:Kh) (h:F43 x0 x1 hp K):CF Tryd.prog 43 [(.int .u8 x0),(.int .i64 x1)] hp K:=by
 refine .inl ⟨by kernel_rfl,AC.intro (N:=9) Tryd.func43 F43_body rfl (Nat.le_of_ble_eq_true rfl) ?_⟩
 unfold F43 at h
 refine Ar F43_r0 ?_ (r2 0 1 Rn) (z2 Sn) Sn
 refine Ar (F43_r1 rfl) ?_ (r2 0 1 (rp 4 4 0 Rn)) (z3 Sn) (z1 Sn)
 refine mf h fun h=>mf h fun h=>mf h fun h=>mf h fun h=>?_
 refine AWP.ret ?_
 exact h
end
end Go.Proofs
set_option linter.unusedVariables false
set_option linter.unusedSimpArgs false
set_option maxRecDepth 20000
namespace Go.Proofs
open Go Go.HL
open Go.Exp (Th tlt Ord setW dropW insW)
theorem C123 {x y:Ss} {hp:HP} {K:Value→HP→Prop} (h:K (.int .i64 (cmpI x.id y.id)) hp):CF Tryd.prog 123 [.agg ⟨ssc x⟩,.agg ⟨ssc y⟩] hp K:=by
  refine F123_ok (ssc x) (ssc y) hp K ?_
  unfold F123
  rw [ssc_id,ldV_some,intV_int,ssc_id,ldV_some,intV_int]
  refine C101 ?_
  rw [intV_int]
  exact h
section
variable {tb:Obj} {hq:HP} {s mx last:Nat} {L:List Ss} {E:List (Ss × Nat)} {ps:Nat→HP} {m x q f:Nat} {O:List (Int × Nat)} {w:List Th} {K:Value→HP→Prop}
set_option maxHeartbeats 2000000 in
theorem W94 {a:Option Addr} {n c:Nat} {ss:List Int} {M:List Ss} (h:SeW tb hq s mx last L w) (hs:Shows hq a n 1 (ss.map iw)) (hn:ss.length=n) (hsm:n≤65535) (hML:∀ y∈M,y∈L) (hM:ss.Perm (M.map (·.id))) (hasc:(M.map (·.id)).Pairwise (· < ·))
    (hK:∀ ps hp' a c,Parts hp' ps→ps 0=hq→Row (ps 1) a M.length c 79 9 (M.flatMap ssc)→K (.slice a M.length c) hp'):CF Tryd.prog 94 [ptr s 0,.slice a n c] hq K:=by
  refine F94_ok _ a n c hq K ?_
  unfold F94 F94_j2
  have hinv:=h.inv
  have hlook:∀ i∈ss,∃ y∈M,y.id=i∧findN i L=some y:=fun i hi=>by
    have:=hM.mem_iff.1 hi
    obtain ⟨y,hy,e⟩:=List.mem_map.1 this
    exact ⟨y,hy,e,by rw [← e]; exact findN_of hinv (hML y hy)⟩
  have hnM:M.length=n:=by
    have:=hM.length_eq
    rw [List.length_map] at this
    omega
  refine LoopP.by (J:=fun k (st:Option Addr × Nat × Nat × Int) hp=>∃ (ps:Nat→HP) (i:Nat),Parts hp ps∧ps 0=hq∧Row (ps 1) st.1 st.2.1 st.2.2.1 79 9 (((ss.take i).map fun i=>(findN i L).getD ss0).flatMap ssc)∧st.2.1=i∧st.2.2.2=i∧i+k=n) ?_
    (n:=n) ⟨pu (fun _ _=>.none) 0 hq,0,Parts.one (HSub.refl hq),pu_eq ..,.inl ⟨rfl,rfl,rfl,by simp⟩,rfl,rfl,by omega⟩
  rintro I k ⟨a1,n1,c1,z⟩ hp ⟨ps,i,hP,h0,hrow,hn1,hz,hik⟩ hI
  simp only at hrow hn1 hz
  subst hn1
  subst hz
  unfold F94_l3
  by_cases hi:n1<n
  · rw [decide_eq_true (by omega:((n1:Nat):Int)<(n:Nat)),ite2_true]
    have hiss:n1<ss.length:=by omega
    obtain ⟨b,o,rfl,hc⟩:=((hs.sub (hP.at 0 h0)):Shows hp a n 1 (ss.map iw)) |> fun hh=>(show ∃ b o,a=some ⟨b,o,none⟩∧hp.cell b (o+n1*1)=some (iw ss[n1]) by
      rcases hh with ⟨e1,e2⟩ | ⟨b,o,e,hcn⟩
      · omega
      · refine ⟨b,o,e,HP.cell_cellN hcn ?_⟩
        rw [Nat.mul_one,List.getElem?_map,List.getElem?_eq_getElem hiss]; rfl)
    obtain ⟨y,hyM,hyid,hfy⟩:=hlook ss[n1] (List.getElem_mem hiss)
    refine ⟨by show (0:Int)≤(n1:Int); omega,by show (n1:Int)<(n:Nat); omega,?_⟩
    rw [ptrN_some,Int.toNat_natCast,hc,ldV_some]
    show intV (.int .i64 ss[n1]) .i64 _
    rw [intV_int]
    obtain ⟨E,qs,m,x,q,f,O,eL,hS⟩:=h.sub (hP.at 0 h0)
    subst eL
    obtain ⟨_,_,_,r2,_⟩:=hS.rd
    obtain ⟨e,he,rfl,_,hfe⟩:=findEs_some hfy
    simp only [ptrN_some,Nat.zero_add,r2,ldV_some,mapV_map]
    refine rdS_lookup (l:=E.map fun e=>(e.1.id,e.2)) u154 enc3 zw158 hS.mapq ss[n1] (ev:=fun k:Nat=>ptr k 0) (cm:=false) ?_
    rw [hS.get,hfe]
    show ptrV (ptr e.2 0) _
    rw [pq,ptrN_some,HP.cellN_of ((hS.parts.sub 0).cells (hS.main.blk e he)),ssc_cells,ldL_some]
    refine ifI (ssc_len e.1) ?_
    refine fun (b3:Nat) (hb3:hp b3=Ent.none)=>?_
    rw [ss_spl rfl]
    have P2:Parts (hp.set b3 (.cells 79 (ssc e.1) 0)) ps:=hP.weak (HSub.set_fresh _ _ hb3)
    refine opS_appP (e:=79) (size:=9) (bytes:=48) (by kernel_rfl) P2 1 (s:=a1) (n:=n1) (c:=c1) hrow
      (ys:=ssc e.1) (.inr ⟨b3,0,rfl,by rw [HP.cellN_of (HP.set_eq ..)]; exact cellsN_all rfl⟩) (ssc_one e.1) (by simp [ssc]) (by omega) (by omega) ?_
    intro a2 c2 hp2 r hr P3
    have w1:IntKind.wrap .i64 ((n1:Int)+1)=((n1+1:Nat):Int):=wi (by omega) (by omega)
    rw [slcV_slice,w1]
    refine hI (k-1) _ _ (by omega) ⟨_,n1+1,P3,by rw [pu_ne _ _ (by omega)]; exact h0,?_,rfl,rfl,by omega⟩
    rw [pu_eq]
    show Row r a2 (n1+1) c2 79 9 _
    rw [List.take_succ_eq_append_getElem hiss,List.map_append,List.flatMap_append]
    have:[ss[n1]].map (fun i=>(findN i (E.map (·.1))).getD ss0)=[e.1]:=by
      rw [List.map_cons,List.map_nil,hfy]; rfl
    rw [this]
    simpa using hr
  · rw [decide_eq_false (by omega:¬ ((n1:Nat):Int)<(n:Nat)),ite2_false]
    have hin:n1=n:=by omega
    subst hin
    rw [List.take_of_length_le (by omega)] at hrow
    unfold F94_j1
    have hpm:(ss.map fun i=>(findN i L).getD ss0).Perm M:=by
      have h1:=hM.map (fun i=>(findN i L).getD ss0)
      rw [List.map_map] at h1
      have:M.map ((fun i=>(findN i L).getD ss0) ∘ fun y:Ss=>y.id)=M:=by
        conv=>rhs; rw [← List.map_id M]
        refine List.map_congr_left fun y hy=>?_
        show (findN y.id L).getD ss0=y
        rw [findN_of hinv (hML y hy)]; rfl
      rw [this] at h1
      exact h1
    rw [← hnM] at hrow ⊢
    refine S122 (swo_cmpI Ss.id) (hrow.sub (hP.sub 1)) (by rw [hpm.length_eq]) (by omega) ?_ ?_
    · intro b hb hp3 h3 d x y K' hsz hk
      exact C123 hk
    · intro ts' hp' hp1' hpw hrow' hh'
      have e:=order_eq (f:=Ss.id) hpw hasc (hp1'.trans hpm)
      subst e
      rcases hh' with rfl | ⟨b,e',hb,rfl⟩
      · refine hK ps hp' a1 c1 hP h0 ?_
        rcases hrow with ⟨r1,r2,r3,r4⟩ | ⟨b,r1,r2,r3,r4⟩
        · rcases hrow' with h | ⟨b,r1',_⟩
          · exact .inl h
          · rw [r1] at r1'; cases r1'
        · rcases hrow' with ⟨r1',_⟩ | ⟨b',r1',r2',r3',r4'⟩
          · rw [r1] at r1'; cases r1'
          · rw [r1] at r1'; cases r1'
            refine .inr ⟨b,r1,r2',r3',?_⟩
            rw [← (hP.sub 1).some rfl (by rw [r4]; simp)]; exact r4'
      · have hne:ps 1 b≠.none:=by
          rcases hrow with ⟨r1,_⟩ | ⟨b0,r1,_,_,r4⟩
          · rw [r1] at hb; cases hb
          · rw [r1] at hb; cases hb
            rw [r4]; simp
        refine hK _ _ a1 c1 (hP.put 1 hne e') (by rw [pu_ne _ _ (by omega)]; exact h0) ?_
        rw [pu_eq]
        rcases hrow' with ⟨r1',_⟩ | ⟨b',r1',r2',r3',r4'⟩
        · rw [hb] at r1'; cases r1'
        · rw [hb] at r1'; cases r1'
          rw [HP.set_eq] at r4'
          exact .inr ⟨b,hb,r2',r3',by rw [HP.set_eq]; exact r4'⟩
def ofE (b:Int) (L:List Ss):List Ss:=L.filter fun y=>decide (y.bnd=b)
theorem inn_of (b:Int) (L:List Ss):innB (L.map bi) b=(ofE b L).map fun y=>(y.id,true):=by
  unfold innB ofE
  rw [List.filter_map,List.map_map]; rfl
abbrev Gives (hq:HP) (M:List Ss) (K:Value→HP→Prop):Prop:=∀ ps hp' a c,Parts hp' ps→HSub hq (ps 0)→Row (ps 1) a M.length c 79 9 (M.flatMap ssc)→K (.slice a M.length c) hp'
theorem listC {hp:HP} {ss:List Int} {M:List Ss} (h:SeW tb hq s mx last L w) (hs:HSub hq hp) (hsm:L.length≤65535) (hML:M.Sublist L) (hM:ss.Perm (M.map (·.id)))
    (hK:Gives hq M K):Coll hp ss fun u h_13=>slcV u fun a_14 n_15 c_16=>CF Tryd.prog 94 [ptr s 0,.slice a_14 n_15 c_16] h_13 fun u_17 h_18=>slcV u_17 fun a_19 n_20 c_21=>K (.slice a_19 n_20 c_21) h_18:=by
  have hinv:=h.inv
  have hasc:(M.map (·.id)).Pairwise (· < ·):=hinv.asc.sublist (hML.map _)
  have hlen:ss.length≤65535:=by
    have h1:=hM.length_eq
    rw [List.length_map] at h1
    have h2:=hML.length_le
    omega
  constructor
  · rintro rfl
    rw [slcV_slice]
    refine W94 (h.sub hs) (.inl ⟨rfl,rfl⟩) rfl (by omega) (fun y hy=>hML.subset hy) hM hasc fun ps hp' a c P h0 hr=>?_
    rw [slcV_slice]
    exact hK ps hp' a c P (by rw [h0]; exact hs) hr
  · intro hne b c hb hc
    have hs2:HSub hq (hp.set b (.cells 3 (ss.map iw) (c-ss.length))):=hs.up (hs.none hb) _
    rw [slcV_slice]
    refine W94 (h.sub hs2) (.inr ⟨b,0,rfl,?_⟩) rfl hlen (fun y hy=>hML.subset hy) hM hasc fun ps hp' a c P h0 hr=>?_
    · rw [HP.cellN_of (HP.set_eq ..)]
      exact cellsN_all (by simp)
    · rw [slcV_slice]
      exact hK ps hp' a c P (by rw [h0]; exact hs2) hr
theorem okZ_id (h:InvE mx last L) {y:Ss} (hy:y∈L):okZ y.id:=by
  have:=h.rng y hy
  have:=h.last
  unfold okZ; omega
theorem W46 (h:SeW tb hq s mx last L w) (hsm:L.length≤65535) {b:Int} (hK:Gives hq (ofE b L) K):CF Tryd.prog 46 [ptr s 0,.int .i64 b] hq K:=by
  have h0:=h
  have hinv:=h.inv
  obtain ⟨E,ps,m,x,q,f,O,rfl,h⟩:=h
  refine F46_ok _ b hq K ?_
  unfold F46
  refine C90p h ?_
  obtain ⟨_,_,_,_,_,_,r5⟩:=h.rd
  simp only [boolV_bool,ite2_false,ptrN_some,Nat.zero_add,r5,ldV_some,mapV_map]
  refine lookV (h.of.map.sub (h.parts.sub 3)) ?_
  rw [mapV_map]
  refine F96_ok _ hq _ ?_
  unfold F96
  refine fun (b1:Nat) (hb1:hq b1=Ent.none)=>?_
  have hs1:HSub hq (hq.set b1 (.cells 160 [.map (getL b O)] 0)):=HSub.set_fresh _ _ hb1
  cases hg:getL b O with
  | none=>
    rw [hg] at hs1
    refine C95n (HP.set_eq ..) ?_
    have hem:ofE b (E.map (·.1))=[]:=by
      unfold ofE
      rw [List.filter_eq_nil_iff]
      intro y hy
      have:=h.of.none hg (bi y) (List.mem_map.2 ⟨y,hy,rfl⟩)
      simpa [bi] using this
    have:=(listC (ss:=[]) h0 hs1 hsm (M:=ofE b (E.map (·.1))) (show (ofE b (E.map (·.1))).Sublist (E.map (·.1)) from List.filter_sublist) (by rw [hem]; exact List.Perm.nil) hK).1 rfl
    exact this
  | some k=>
    rw [hg] at hs1
    obtain ⟨hin,_⟩:=h.of.inner hg
    rw [inn_of] at hin
    have hsub:(ofE b (E.map (·.1))).Sublist (E.map (·.1)):=List.filter_sublist
    refine C95 (l:=(ofE b (E.map (·.1))).map fun y=>(y.id,true)) (HP.set_eq ..) ((hin.sub (h.parts.sub 3)).sub hs1) ?_ ?_ ?_ fun ss hss=>?_
    · rw [List.map_map]; exact hinv.ids.sublist (hsub.map _)
    · intro p hp
      obtain ⟨y,hy,rfl⟩:=List.mem_map.1 hp
      exact okZ_id hinv (hsub.subset hy)
    · rw [List.length_map]; have:=hsub.length_le; omega
    · rw [List.map_map] at hss
      exact listC h0 hs1 hsm hsub hss hK
theorem W59 (h:SeW tb hq s mx last L w) (hsm:L.length≤65535) (hK:Gives hq L K):CF Tryd.prog 59 [ptr s 0] hq K:=by
  have h0:=h
  have hinv:=h.inv
  obtain ⟨E,ps,m,x,q,f,O,rfl,h⟩:=h
  refine F59_ok _ hq K ?_
  unfold F59
  refine C90p h ?_
  obtain ⟨_,_,_,r2,_⟩:=h.rd
  simp only [boolV_bool,ite2_false,ptrN_some,Nat.zero_add,r2,ldV_some,mapV_map]
  refine F102_ok _ hq _ ?_
  unfold F102
  refine fun (b1:Nat) (hb1:hq b1=Ent.none)=>?_
  have hs1:HSub hq (hq.set b1 (.cells 154 [.map (some m)] 0)):=HSub.set_fresh _ _ hb1
  refine C95b (l:=E.map fun e=>(e.1.id,e.2)) (HP.set_eq ..) (h.mapq.sub hs1) ?_ ?_ ?_ fun ss hss=>?_
  · rw [List.map_map]; exact h.ids
  · intro p hp
    obtain ⟨e,he,rfl⟩:=List.mem_map.1 hp
    exact okZ_id hinv (List.mem_map.2 ⟨e,he,rfl⟩)
  · rw [List.length_map]; rw [List.length_map] at hsm; omega
  · rw [List.map_map] at hss
    refine listC h0 hs1 hsm (List.Sublist.refl _) ?_ hK
    rw [List.map_map]; exact hss
theorem N59 {hp:HP} {ps:Nat→HP} {i j:Nat} (hP:Parts hp ps) (hij:j≠i) (hj:∀ b,ps j b=.none) (h:SeW tb (ps i) s mx last L w) (hsm:L.length≤65535)
    (hK:∀ r hp' a c,Row r a L.length c 79 9 (L.flatMap ssc)→Parts hp' (pu ps j r)→K (.slice a L.length c) hp'):CF Tryd.prog 59 [ptr s 0] hp K:=by
  refine CF.part hP i (W59 (K:=fun u q=>∃ qs a c,u=.slice a L.length c∧Parts q qs∧HSub (ps i) (qs 0)∧Row (qs 1) a L.length c 79 9 (L.flatMap ssc)) h hsm
    fun qs hq' a c h1 h2 h3=>⟨qs,a,c,rfl,h1,h2,h3⟩) ?_
  rintro u q hp'' ⟨qs,a,c,rfl,h1,h2,h3⟩ hP'
  refine hK (qs 1) hp'' a c h3 ?_
  have:=hP'.split (i:=i) (j:=j) hij (fun b=>by rw [pu_ne _ _ hij]; exact hj b) (l:=ps i) (r:=qs 1) (by rw [pu_eq]; exact h2.trans (h1.sub 0)) (by rw [pu_eq]; exact h1.sub 1) ((h1.dis 0 1 (by omega)).sub h2)
  have e:pu (pu (pu ps i q) i (ps i)) j (qs 1)=pu ps j (qs 1):=by
    funext k
    by_cases h1:k=j
    · subst h1; rw [pu_eq,pu_eq]
    · rw [pu_ne _ _ h1,pu_ne _ _ h1]
      by_cases h4:k=i
      · subst h4; rw [pu_eq]
      · rw [pu_ne _ _ h4,pu_ne _ _ h4]
  rw [e] at this
  exact this
def knowsE (b:Int) (ad:Q) (L:List Ss):Bool:=(ofE b L).any fun y=>decide (y.peer.1=ad)
theorem C98 {y:Ss} {ad:Q} {B:Nat} {hp:HP} (hB:hp B=.cells 27 (v4 ad) 0) (hK:K (.bool (decide (y.peer.1=ad))) hp):CF Tryd.prog 98 [.agg ⟨ssc y⟩,ptr B 0] hp K:=by
  refine F98_ok (ssc y) _ hp K ?_
  unfold F98
  rw [ssc_addr,ldL_some,ptrN_some,HP.cellN_of hB,v4_cells,ldL_some]
  exact eq73 hK
theorem C97 {a:Option Addr} {n c:Nat} {M:List Ss} {ad:Q} {B:Nat} {hp:HP} (hs:Shows hp a n 9 (M.flatMap ssc)) (hn:M.length=n) (hsm:n≤1000000) (hB:hp B=.cells 27 (v4 ad) 0)
    (hK:K (.bool (M.any fun y=>decide (y.peer.1=ad))) hp):CF Tryd.prog 97 [.slice a n c,.func (.func 98) ⟨[]⟩ ⟨[ptr B 0]⟩] hp K:=by
  refine F97_ok a n c _ hp K ?_
  unfold F97
  refine F126_ok a n c _ hp _ ?_
  unfold F126 F126_j1
  refine LoopP.by (J:=fun k (z:Int) hp'=>hp'=hp∧∃ i:Nat,z=i∧i+k=n∧∀ y∈M.take i,y.peer.1≠ad) ?_ (n:=n) ⟨rfl,0,rfl,by omega,fun y hy=>by simp at hy⟩
  rintro I k z hp' ⟨rfl,i,rfl,hik,hno⟩ hI
  unfold F126_l2
  by_cases hi:i<n
  · rw [decide_eq_true (by omega:(i:Int)<(n:Nat)),ite2_true]
    have him:i<M.length:=by omega
    obtain ⟨b,o,rfl,hc⟩:=hs.get ssc_len hn hi
    refine ⟨by omega,by omega,?_⟩
    rw [ptrN_some,Int.toNat_natCast,hc,ldL_some,fnV_mk]
    refine C98 hB ?_
    rw [boolV_bool]
    by_cases he:M[i].peer.1=ad
    · rw [decide_eq_true he,ite2_true]
      dsimp only
      rw [intV_int]
      have:(M.any fun y=>decide (y.peer.1=ad))=true:=List.any_eq_true.2 ⟨M[i],List.getElem_mem him,decide_eq_true he⟩
      rw [this] at hK
      rw [decide_eq_true (by omega:(i:Int)≥0)]
      exact hK
    · have w1:IntKind.wrap .i64 ((i:Int)+1)=((i+1:Nat):Int):=wi (by omega) (by omega)
      rw [decide_eq_false he,ite2_false,w1]
      refine hI (k-1) _ _ (by omega) ⟨rfl,i+1,rfl,by omega,fun y hy=>?_⟩
      rw [List.take_succ_eq_append_getElem him] at hy
      rcases List.mem_append.1 hy with hy | hy
      · exact hno y hy
      · rw [List.mem_singleton.1 hy]; exact he
  · rw [decide_eq_false (by omega:¬ (i:Int)<(n:Nat)),ite2_false]
    dsimp only
    rw [intV_int]
    rw [List.take_of_length_le (by omega)] at hno
    have:(M.any fun y=>decide (y.peer.1=ad))=false:=by
      rw [List.any_eq_false]
      intro y hy
      simpa using hno y hy
    rw [this] at hK
    exact hK
theorem W47 (h:SeW tb hq s mx last L w) (hsm:L.length≤65535) {b:Int} {ad:Q} (hK:K (.bool (knowsE b ad L)) hq):CF Tryd.prog 47 [ptr s 0,.int .i64 b,.agg ⟨v4 ad⟩] hq K:=by
  refine CF.drop (F47_ok _ b (v4 ad) hq _ ?_)
  unfold F47
  refine fun (b1:Nat) (hb1:hq b1=Ent.none)=>?_
  have hs1:HSub hq (hq.set b1 (.cells 27 (v4 ad) 0)):=HSub.set_fresh _ _ hb1
  refine W46 (h.sub hs1) hsm fun ps hp' a c P hs hr=>?_
  rw [slcV_slice]
  have hB:hp' b1=.cells 27 (v4 ad) 0:=(hs.trans (P.sub 0)).cells (HP.set_eq ..)
  have hlen:(ofE b L).length≤L.length:=List.length_filter_le _ _
  refine C97 (hr.sub (P.sub 1)).shows rfl (by omega) hB ?_
  rw [boolV_bool]
  exact ⟨hq,hs1.trans (hs.trans (P.sub 0)),hK⟩
end
end Go.Proofs
set_option linter.unusedVariables false
set_option maxRecDepth 20000
namespace Go.Proofs
open Go Go.HL
section
variable {e E:Env} {x1:OA} {x2 x4 x6:Int} {k3:List Value} {hp:HP} {K:Env→PV→HP→Prop}
abbrev R40 (p n:Nat):=RW Tryd.prog 59 [3,5,36] (opsAt Tryd.f40 (pth p)) (List.range n)
theorem F40_r0:R40 2 1 e V0 hp K=
 K (upd e 0 (sB false)) V0 hp:= by kernel_rfl
theorem F40_r1:R40 5 6 e V0 hp K=
 CF Tryd.prog 41 [(.int .i64 3)] hp fun u1 h2=>(tup2V u1 fun u3 u4=>ptrV u3 fun p5=>intV u4 .i64 fun i6=>K (w6 e 8 (sV (.tuple ⟨[(.pointer p5),(.int .i64 i6)]⟩)) 7 (sV (.tuple ⟨[(.pointer p5),(.int .i64 i6)]⟩)) 9 (sP p5) 10 (sI i6) 1 (sP p5) 2 (sI i6)) V0 h2):= by kernel_rfl
theorem F40_r2:R40 75 1 e V0 hp K=
 K (upd e 0 (sB false)) V0 hp:= by kernel_rfl
theorem F40_r3:R40 23 9 (upd e 1 (sP x1)) V0 hp K=
 CF Tryd.prog 43 [(.int .u8 1),(.int .i64 80)] hp fun u1 h2=>(aggV u1 fun l3=>CF Tryd.prog 42 [(.pointer x1),(.int .i64 1),(.agg ⟨l3⟩),.int .i64 0,(.int .i64 9)] h2 fun u4 h5=>tup2V u4 fun u6 u7=>aggV u6 fun l8=>intV u7 .i64 fun i9=>if List.length l8=9 then (if List.all l8 one=true then (if 0+List.length l8≤List.length [(Value.int .i64 0),.int .i64 0,.int .u8 0,.int .u8 0,.int .u8 0,.int .u8 0,.int .i64 0,.int .i64 0,.int .i64 0] then (K (upd (w8 e 1 (sP x1) 18 (sP x1) 19 (sA l3) 20 (sV (.tuple ⟨[(.agg ⟨l8⟩),(.int .i64 i9)]⟩)) 17 (sV (.tuple ⟨[(.agg ⟨l8⟩),(.int .i64 i9)]⟩)) 21 (sA l8) 22 (sI i9) 3 (sR 3 0)) 4 (sI i9)) (w2 V0 3 (79,[.int .i64 0,.int .i64 0,.int .u8 0,.int .u8 0,.int .u8 0,.int .u8 0,.int .i64 0,.int .i64 0,.int .i64 0]) 3 (79,(splice [.int .i64 0,.int .i64 0,.int .u8 0,.int .u8 0,.int .u8 0,.int .u8 0,.int .i64 0,.int .i64 0,.int .i64 0] 0 l8))) h5) else False) else False) else False):= by kernel_rfl
theorem F40_r4:R40 47 9 (upd e 1 (sP x1)) (upd V0 3 (79,k3)) hp K=
 CF Tryd.prog 43 [(.int .u8 1),(.int .i64 80)] hp fun u1 h2=>(aggV u1 fun l3=>CF Tryd.prog 42 [(.pointer x1),(.int .i64 1),(.agg ⟨l3⟩),.int .i64 0,(.int .i64 9)] h2 fun u4 h5=>tup2V u4 fun u6 u7=>aggV u6 fun l8=>intV u7 .i64 fun i9=>if List.length l8=9 then (if List.all l8 one=true then (if 0+List.length l8≤List.length [(Value.int .i64 0),.int .i64 0,.int .u8 0,.int .u8 0,.int .u8 0,.int .u8 0,.int .i64 0,.int .i64 0,.int .i64 0] then (K (upd (w8 e 1 (sP x1) 24 (sP x1) 25 (sA l3) 26 (sV (.tuple ⟨[(.agg ⟨l8⟩),(.int .i64 i9)]⟩)) 23 (sV (.tuple ⟨[(.agg ⟨l8⟩),(.int .i64 i9)]⟩)) 27 (sA l8) 28 (sI i9) 5 (sR 5 0)) 6 (sI i9)) (w3 V0 3 (79,k3) 5 (79,[.int .i64 0,.int .i64 0,.int .u8 0,.int .u8 0,.int .u8 0,.int .u8 0,.int .i64 0,.int .i64 0,.int .i64 0]) 5 (79,(splice [.int .i64 0,.int .i64 0,.int .u8 0,.int .u8 0,.int .u8 0,.int .u8 0,.int .i64 0,.int .i64 0,.int .i64 0] 0 l8))) h5) else False) else False) else False):= by kernel_rfl
theorem F40_r5 (h:E=upd (w3 e 6 (sI x6) 4 (sI x4) 3 (sR 3 0)) 1 (sP x1)):R40 95 31 E (upd V0 3 (79,k3)) hp K=
 ite2 (x4==0) (ite2 (x6==5) (ldV (k3)[0]? fun v1=>intV v1 .i64 fun i2=>ite2 (i2==1) (CF Tryd.prog 43 [(.int .u8 1),.int .i64 0] hp fun u3 h4=>aggV u3 fun l5=>ldL (cellsN l5 0 4) fun l7=>CF Tryd.prog 47 [(.pointer x1),(.int .i64 1),(.agg ⟨l7⟩)] h4 fun u8 h9=>boolV u8 fun q10=>ite2 q10 (CF Tryd.prog 43 [(.int .u8 1),.int .i64 0] h9 fun u11 h12=>aggV u11 fun l13=>ldL (cellsN l13 0 4) fun l15=>CF Tryd.prog 47 [(.pointer x1),(.int .i64 2),(.agg ⟨l15⟩)] h12 fun u16 h17=>boolV u16 fun q18=>ite2 (!q18) (CF Tryd.prog 45 [(.pointer x1),(.int .i64 9)] h17 fun u19 h20=>slcV u19 fun a21 n22 c23=>K (w7 (w8 (w8 (w8 E 29 (sI x4) 30 (sB ((x4==0))) 31 (sB true) 32 (sI x6) 33 (sB ((x6==5))) 34 (sB ((x6==5))) 35 (sB true) 36 (sR 3 0)) 37 (sI i2) 38 (sB ((i2==1))) 39 (sB ((i2==1))) 40 (sB true) 41 (sP x1) 42 (sA l5) 43 (sA l7) 44 (sB q10)) 45 (sB q10) 46 (sB true) 47 (sP x1) 48 (sA l13) 49 (sA l15) 50 (sB q18) 51 (sB ((!q18))) 52 (sB ((!q18)))) 53 (sB true) 54 (sP x1) 55 (sS a21 n22 c23) 56 (sI ((n22:Nat))) 57 (sB ((((n22:Nat):Int)==1))) 58 (sB ((((n22:Nat):Int)==1))) 0 (sB ((((n22:Nat):Int)==1)))) (upd V0 3 (79,k3)) h20) (K (w7 (w8 (w8 (w8 E 29 (sI x4) 30 (sB ((x4==0))) 31 (sB true) 32 (sI x6) 33 (sB ((x6==5))) 34 (sB ((x6==5))) 35 (sB true) 36 (sR 3 0)) 37 (sI i2) 38 (sB ((i2==1))) 39 (sB ((i2==1))) 40 (sB true) 41 (sP x1) 42 (sA l5) 43 (sA l7) 44 (sB q10)) 45 (sB q10) 46 (sB true) 47 (sP x1) 48 (sA l13) 49 (sA l15) 50 (sB q18) 51 (sB ((!q18))) 52 (sB ((!q18)))) 53 (sB false) 54 sU 55 sU 56 sU 57 sU 58 (sB false) 0 (sB false)) (upd V0 3 (79,k3)) h17)) (K (w7 (w8 (w8 (w8 E 29 (sI x4) 30 (sB ((x4==0))) 31 (sB true) 32 (sI x6) 33 (sB ((x6==5))) 34 (sB ((x6==5))) 35 (sB true) 36 (sR 3 0)) 37 (sI i2) 38 (sB ((i2==1))) 39 (sB ((i2==1))) 40 (sB true) 41 (sP x1) 42 (sA l5) 43 (sA l7) 44 (sB q10)) 45 (sB q10) 46 (sB false) 47 sU 48 sU 49 sU 50 sU 51 sU 52 (sB false)) 53 (sB false) 54 sU 55 sU 56 sU 57 sU 58 (sB false) 0 (sB false)) (upd V0 3 (79,k3)) h9)) (K (w7 (w8 (w8 (w8 E 29 (sI x4) 30 (sB ((x4==0))) 31 (sB true) 32 (sI x6) 33 (sB ((x6==5))) 34 (sB ((x6==5))) 35 (sB true) 36 (sR 3 0)) 37 (sI i2) 38 (sB ((i2==1))) 39 (sB ((i2==1))) 40 (sB false) 41 sU 42 sU 43 sU 44 sU) 45 (sB false) 46 (sB false) 47 sU 48 sU 49 sU 50 sU 51 sU 52 (sB false)) 53 (sB false) 54 sU 55 sU 56 sU 57 sU 58 (sB false) 0 (sB false)) (upd V0 3 (79,k3)) hp)) (K (w7 (w8 (w8 (w8 E 29 (sI x4) 30 (sB ((x4==0))) 31 (sB true) 32 (sI x6) 33 (sB ((x6==5))) 34 (sB ((x6==5))) 35 (sB false) 36 sU) 37 sU 38 sU 39 (sB false) 40 (sB false) 41 sU 42 sU 43 sU 44 sU) 45 (sB false) 46 (sB false) 47 sU 48 sU 49 sU 50 sU 51 sU 52 (sB false)) 53 (sB false) 54 sU 55 sU 56 sU 57 sU 58 (sB false) 0 (sB false)) (upd V0 3 (79,k3)) hp)) (K (w7 (w8 (w8 (w8 E 29 (sI x4) 30 (sB ((x4==0))) 31 (sB false) 32 sU 33 sU 34 (sB false) 35 (sB false) 36 sU) 37 sU 38 sU 39 (sB false) 40 (sB false) 41 sU 42 sU 43 sU 44 sU) 45 (sB false) 46 (sB false) 47 sU 48 sU 49 sU 50 sU 51 sU 52 (sB false)) 53 (sB false) 54 sU 55 sU 56 sU 57 sU 58 (sB false) 0 (sB false)) (upd V0 3 (79,k3)) hp):= by subst h; kernel_rfl
def F40_j1 (x1:OA) (x16:Bool) (hp:HP) (K:Kh):Prop:=
  (ite2 x16 (K (.bool false) hp) (CF Tryd.prog 43 [(.int .u8 1),(.int .i64 80)] hp fun u7 h8=>aggV u7 fun l9=>CF Tryd.prog 42 [(.pointer x1),(.int .i64 1),(.agg ⟨l9⟩),.int .i64 0,(.int .i64 9)] h8 fun u10 h11=>tup2V u10 fun u12 u13=>aggV u12 fun l14=>intV u13 .i64 fun i15=>if List.length l14=9 then (if List.all l14 one=true then (if 0+List.length l14≤List.length [(Value.int .i64 0),.int .i64 0,.int .u8 0,.int .u8 0,.int .u8 0,.int .u8 0,.int .i64 0,.int .i64 0,.int .i64 0] then (CF Tryd.prog 43 [(.int .u8 1),(.int .i64 80)] h11 fun u16 h17=>aggV u16 fun l18=>CF Tryd.prog 42 [(.pointer x1),(.int .i64 1),(.agg ⟨l18⟩),.int .i64 0,(.int .i64 9)] h17 fun u19 h20=>tup2V u19 fun u21 u22=>aggV u21 fun l23=>intV u22 .i64 fun i24=>if List.length l23=9 then (if List.all l23 one=true then (if 0+List.length l23≤List.length [(Value.int .i64 0),.int .i64 0,.int .u8 0,.int .u8 0,.int .u8 0,.int .u8 0,.int .i64 0,.int .i64 0,.int .i64 0] then (ite2 (i15==0) (ite2 (i24==5) (ldV ((splice [.int .i64 0,.int .i64 0,.int .u8 0,.int .u8 0,.int .u8 0,.int .u8 0,.int .i64 0,.int .i64 0,.int .i64 0] 0 l14))[0]? fun v25=>intV v25 .i64 fun i26=>ite2 (i26==1) (CF Tryd.prog 43 [(.int .u8 1),.int .i64 0] h20 fun u27 h28=>aggV u27 fun l29=>ldL (cellsN l29 0 4) fun l31=>CF Tryd.prog 47 [(.pointer x1),(.int .i64 1),(.agg ⟨l31⟩)] h28 fun u32 h33=>boolV u32 fun q34=>ite2 q34 (CF Tryd.prog 43 [(.int .u8 1),.int .i64 0] h33 fun u35 h36=>aggV u35 fun l37=>ldL (cellsN l37 0 4) fun l39=>CF Tryd.prog 47 [(.pointer x1),(.int .i64 2),(.agg ⟨l39⟩)] h36 fun u40 h41=>boolV u40 fun q42=>ite2 (!q42) (CF Tryd.prog 45 [(.pointer x1),(.int .i64 9)] h41 fun u43 h44=>slcV u43 fun a45 n46 c47=>K (.bool (((n46:Nat):Int)==1)) h44) (K (.bool false) h41)) (K (.bool false) h33)) (K (.bool false) h20)) (K (.bool false) h20)) (K (.bool false) h20)) else False) else False) else False) else False) else False) else False))
theorem F40_r6 (h:E=upd (upd e 2 (sI x2)) 1 (sP x1)):R40 19 6 E V0 hp K=
 ite2 (x2 != 0) (K (w6 E 11 (sI x2) 12 (sB ((x2 != 0))) 13 (sB true) 14 sU 15 sU 16 (sB true)) V0 hp) (K (w6 E 11 (sI x2) 12 (sB ((x2 != 0))) 13 (sB false) 14 (sP x1) 15 (sB ((Option.isNone x1))) 16 (sB ((Option.isNone x1)))) V0 hp):= by subst h; kernel_rfl
def F40 (hp:HP) (K:Kh):Prop:=
  (CF Tryd.prog 41 [(.int .i64 3)] hp fun u1 h2=>tup2V u1 fun u3 u4=>ptrV u3 fun p5=>intV u4 .i64 fun i6=>ite2 (i6 != 0) (F40_j1 p5 true h2  K) (F40_j1 p5 (Option.isNone p5) h2  K))
noncomputable abbrev o40 (k n:Nat):Code:=.region k (opsAt Tryd.f40 (pth n)) false
noncomputable def F40_code:Code:=(.seq (o40 0 2) (.seq (o40 1 5) (.seq (.seq (o40 2 19) (.cond (.tmp 16) (.seq (o40 3 75) .ret) .skip)) (.seq (o40 4 23) (.seq (o40 5 47) (.seq (o40 6 95) .ret))))))
theorem F40_body:Tryd.f40.body=some F40_code:=by kernel_rfl
theorem F40_ok (hp:HP) (K:Kh) (h:F40  hp K):CF Tryd.prog 40 [] hp K:=by
 refine .inl ⟨by kernel_rfl,AC.intro (N:=59) Tryd.func40 F40_body rfl (Nat.le_of_ble_eq_true rfl) ?_⟩
 unfold F40 at h
 refine Ar F40_r0 ?_ Rn Sn Sn
 refine Ar F40_r1 ?_ Rn Sn Sn
 refine mC h fun u1 h2 h=>mT h fun u3 u4 h=>mP h fun p5 h=>mI h fun i6 h=>?_
 refine Aq (As (fun env pv hp=>∃ x1 x16,Sub (w2 E0 16 (sB x16) 1 (sP x1)) env∧Sub V0 pv∧F40_j1 x1 x16 hp  K) ?_ ?_)
 ·refine Ag (F40_r6 rfl) ?_ (r2 1 2 Rn) (z2 Sn) Sn
  refine mt h (fun h=>?_) (fun h=>?_)
  ·exact ⟨_,_,(z2 Sn),Sn,h⟩
  ·exact ⟨_,_,(z2 Sn),Sn,h⟩
 ·rintro env pv hp ⟨x1,x16,he,hv,h⟩
  refine Ae ?_ (r2 1 16 Rn) he hv
  unfold F40_j1 at h
  refine Ac h rfl (fun h=>?_) (fun h=>?_)
  ·refine Ar F40_r2 ?_ Rn Sn Sn
   refine AWP.ret ?_
   exact h
  ·refine AWP.skip (Ar F40_r3 ?_ (r1 1 Rn) (z1 Sn) Sn)
   refine mC h fun u7 h8 h=>mA h fun l9 h=>mC h fun u10 h11 h=>mT h fun u12 u13 h=>mA h fun l14 h=>mI h fun i15 h=>mf h fun h=>mf h fun h=>mf h fun h=>?_
   refine Ar F40_r4 ?_ (r1 1 (rp 3 3 0 (r1 4 Rn))) (z3 Sn) (z1 Sn)
   refine mC h fun u16 h17 h=>mA h fun l18 h=>mC h fun u19 h20 h=>mT h fun u21 u22 h=>mA h fun l23 h=>mI h fun i24 h=>mf h fun h=>mf h fun h=>mf h fun h=>?_
   refine Ar (F40_r5 rfl) ?_ (r1 1 (rp 3 3 0 (r2 4 6 Rn))) (z4 Sn) (z1 Sn)
   refine mt h (fun h=>?_) (fun h=>?_)
   ·refine mt h (fun h=>?_) (fun h=>?_)
    ·refine mV h fun v25 h=>mI h fun i26 h=>?_
     refine mt h (fun h=>?_) (fun h=>?_)
     ·refine mC h fun u27 h28 h=>mA h fun l29 h=>mL h fun l31 h=>mC h fun u32 h33 h=>mB h fun q34 h=>?_
      refine mt h (fun h=>?_) (fun h=>?_)
      ·refine mC h fun u35 h36 h=>mA h fun l37 h=>mL h fun l39 h=>mC h fun u40 h41 h=>mB h fun q42 h=>?_
       refine mt h (fun h=>?_) (fun h=>?_)
       ·refine mC h fun u43 h44 h=>mS h fun a45 n46 c47 h=>?_
        refine AWP.ret ?_
        exact h
       ·refine AWP.ret ?_
        exact h
      ·refine AWP.ret ?_
       exact h
     ·refine AWP.ret ?_
      exact h
    ·refine AWP.ret ?_
     exact h
   ·refine AWP.ret ?_
    exact h
end
end Go.Proofs
set_option linter.unusedVariables false
set_option linter.unusedSimpArgs false
set_option maxRecDepth 20000
namespace Go.Proofs
open Go Go.HL
open Go.Exp (Th tlt Ord setW dropW insW)
def SeS (tb:Obj) (hp0 hp:HP) (s mx last:Nat) (L:List Ss) (w:List Th):Prop:=
  ∃ ps:Nat→HP,Parts hp ps∧ps 0=hp0.set 0 .none∧SeW tb (ps 1) s mx last L w∧∀ i,2≤i→∀ b,ps i b=.none
section
variable {tb:Obj} {hp0 hp:HP} {ps:Nat→HP} {s mx last:Nat} {L:List Ss} {w:List Th} {K:Value→HP→Prop}
theorem SeS.of (hP:Parts hp ps) (h0:ps 0=hp0.set 0 .none) (h1:SeW tb (ps 1) s mx last L w):SeS tb hp0 hp s mx last L w:=
  ⟨_,hP.cut 2,by simpa using h0,by simpa using h1,fun i hi b=>by simp only [show ¬ i<2 by omega,if_false]⟩
theorem SeS.pu {r:HP} (hP:Parts hp (pu ps 1 r)) (h0:ps 0=hp0.set 0 .none) (h1:SeW tb r s mx last L w):SeS tb hp0 hp s mx last L w:=
  SeS.of hP (by rw [pu_ne _ _ (by omega)]; exact h0) (by rw [pu_eq]; exact h1)
theorem SeS.wt (h:SeS tb hp0 hp s mx last L w):SeW tb hp s mx last L w:=by
  obtain ⟨ps,P,h0,h1,_⟩:=h
  exact h1.sub (P.sub 1)
theorem SeS.fin (h:SeS tb hp0 hp s mx last L w) (ht:TabR tb hp0):HSub hp0 hp:=by
  have hw:=h.wt
  obtain ⟨ps,P,h0,h1,_⟩:=h
  exact finish ht P h0 hw.tab
theorem X41 {n:Int} (ht:TabR tb hp) (hbad:(n<1∨n > 65536)→K (.tuple ⟨[.pointer none,.int .i64 1]⟩) hp)
    (hok:¬ (n<1∨n > 65536)→∀ s hp',SeS tb hp hp' s n.toNat 0 [] []→K (.tuple ⟨[ptr s 0,.int .i64 0]⟩) hp'):CF Tryd.prog 41 [.int .i64 n] hp K:=by
  by_cases hn:n<1∨n > 65536
  · exact W41 ht (fun _=>hbad hn) fun h=>absurd hn h
  refine CF.part (startP_ok ht) 1 (W41 (K:=fun u q=>∃ s,u=.tuple ⟨[ptr s 0,.int .i64 0]⟩∧SeW tb q s n.toNat 0 [] []) (startP_1 ht) (fun h=>absurd h hn) fun _ s q hq=>⟨s,rfl,hq⟩) ?_
  rintro u q hp' ⟨s,rfl,hq⟩ P'
  exact hok hn s hp' (SeS.pu P' startP_0 hq)
theorem X42 (h:SeS tb hp0 hp s mx last L w) {b st due:Int} {p:Q × Int} (hb:okZ b) (hp':okT p) (hlast:last<500000)
    (hno:addE mx b p due L≠0→∀ hp',SeS tb hp0 hp' s mx last L w→K (.tuple ⟨[.agg ⟨ssc ss0⟩,.int .i64 (addE mx b p due L)]⟩) hp')
    (hyes:addE mx b p due L=0→∀ hp',SeS tb hp0 hp' s mx (last+1) (L++[⟨((last+1:Nat):Int),b,p,st,due⟩]) (setW ((last+1:Nat):Int) due w)→K (.tuple ⟨[.agg ⟨ssc ⟨((last+1:Nat):Int),b,p,st,due⟩⟩,.int .i64 0]⟩) hp') :
    CF Tryd.prog 42 [ptr s 0,.int .i64 b,.agg ⟨t4 p⟩,.int .i64 st,.int .i64 due] hp K:=by
  obtain ⟨ps,P,h0,h1,_⟩:=h
  refine CF.part P 1 (W42 (K:=fun u q=>(addE mx b p due L≠0∧u=.tuple ⟨[.agg ⟨ssc ss0⟩,.int .i64 (addE mx b p due L)]⟩∧SeW tb q s mx last L w) ∨
    (addE mx b p due L=0∧u=.tuple ⟨[.agg ⟨ssc ⟨((last+1:Nat):Int),b,p,st,due⟩⟩,.int .i64 0]⟩∧SeW tb q s mx (last+1) (L++[⟨((last+1:Nat):Int),b,p,st,due⟩]) (setW ((last+1:Nat):Int) due w)))
    h1 hb hp' hlast (fun e=>.inl ⟨e,rfl,h1⟩) fun e q hq=>.inr ⟨e,rfl,hq⟩) ?_
  rintro u q hp'' (⟨e,rfl,hq⟩ | ⟨e,rfl,hq⟩) P'
  · exact hno e hp'' (SeS.pu P' h0 hq)
  · exact hyes e hp'' (SeS.pu P' h0 hq)
theorem N45 {now:Int} {i j:Nat} (hP:Parts hp ps) (hij:j≠i) (hj:∀ b,ps j b=.none) (h:SeW tb (ps i) s mx last L w)
    (hK:∀ l r hp' a c w',SeW tb l s mx last (restL Ss.due now L) w'→Row r a (popsL Ss.id now L w).length c 79 9 ((popsL Ss.id now L w).flatMap ssc)→Parts hp' (pu (pu ps i l) j r)→K (.slice a (popsL Ss.id now L w).length c) hp') :
    CF Tryd.prog 45 [ptr s 0,.int .i64 now] hp K:=by
  refine CF.part hP i (W45 (K:=fun u q=>∃ qs a c w',u=.slice a (popsL Ss.id now L w).length c∧Parts q qs∧SeW tb (qs 0) s mx last (restL Ss.due now L) w'∧Row (qs 1) a (popsL Ss.id now L w).length c 79 9 ((popsL Ss.id now L w).flatMap ssc)) h
    fun qs hq' a c w' h1 h2 h3 _=>⟨qs,a,c,w',rfl,h1,h2,h3⟩) ?_
  rintro u q hp'' ⟨qs,a,c,w',rfl,h1,h2,h3⟩ hP'
  refine hK (qs 0) (qs 1) hp'' a c w' h2 h3 ?_
  have:=hP'.split (i:=i) (j:=j) hij (fun b=>by rw [pu_ne _ _ hij]; exact hj b) (l:=qs 0) (r:=qs 1) (by rw [pu_eq]; exact h1.sub 0) (by rw [pu_eq]; exact h1.sub 1) (h1.dis 0 1 (by omega))
  have e:HL.pu (HL.pu (HL.pu ps i q) i (qs 0)) j (qs 1)=HL.pu (HL.pu ps i (qs 0)) j (qs 1):=by
    funext k
    by_cases h1:k=j
    · subst h1; rw [pu_eq,pu_eq]
    · rw [pu_ne _ _ h1,pu_ne _ _ h1]
      by_cases h2:k=i
      · subst h2; rw [pu_eq,pu_eq]
      · rw [pu_ne _ _ h2,pu_ne _ _ h2,pu_ne _ _ h2]
  rw [e] at this
  exact this
theorem X45 {now:Int} (h:SeS tb hp0 hp s mx last L w)
    (hK:∀ hp' a c w',SeS tb hp0 hp' s mx last (restL Ss.due now L) w'→Row hp' a (popsL Ss.id now L w).length c 79 9 ((popsL Ss.id now L w).flatMap ssc)→K (.slice a (popsL Ss.id now L w).length c) hp') :
    CF Tryd.prog 45 [ptr s 0,.int .i64 now] hp K:=by
  obtain ⟨ps,P,h0,h1,hf⟩:=h
  refine N45 P (i:=1) (j:=2) (by omega) (hf 2 (by omega)) h1 fun l r hp' a c w' hl hr P'=>hK hp' a c w' (SeS.of P' (by rw [pu_ne _ _ (by omega),pu_ne _ _ (by omega)]; exact h0) (by rw [pu_ne _ _ (by omega),pu_eq]; exact hl)) (hr.sub (P'.at 2 (pu_eq ..)))
def peerT (a port:Int):Q × Int:=((9,0,0,a),port)
theorem peerT_ok {a port:Int} (ha:okB a) (hz:okZ port):okT (peerT a port):=⟨⟨okBc rfl,okBc rfl,okBc rfl,ha⟩,hz⟩
theorem C43 {a port:Int} (h:K (.agg ⟨t4 (peerT a port)⟩) hp):CF Tryd.prog 43 [.int .u8 a,.int .i64 port] hp K:=by
  refine F43_ok a port hp K ?_
  unfold F43
  exact ifI rfl (ifI rfl (ifI rfl (ifI (Nat.le_refl 5) h)))
theorem t4_adrS (u:Q × Int):cellsN (t4 u) 0 4=some (v4 u.1):=rfl
set_option maxHeartbeats 1000000 in
theorem C40 (ht:TabR tb hp) (hK:∀ hp',HSub hp hp'→K (.bool true) hp'):CF Tryd.prog 40 [] hp K:=by
  refine F40_ok hp K ?_
  unfold F40
  refine X41 ht (fun h=>absurd h (by decide)) fun _ s hp1 h1=>?_
  rw [tup2V_mk,pq,intV_int,show ((0:Int) != 0)=false from rfl,ite2_false]
  show F40_j1 (some ⟨s,0,none⟩) false hp1 K
  unfold F40_j1
  rw [ite2_false]
  have o1:okT (peerT 1 80):=peerT_ok (okBc rfl) (okZc rfl)
  refine C43 ?_
  rw [aggV_agg]
  refine X42 h1 (okZc rfl) o1 (by decide) (fun e=>absurd (by kernel_rfl) e) fun _ hp2 h2=>?_
  rw [tup2V_mk,aggV_agg,intV_int,if_pos (ssc_len _),if_pos (ssc_one _),if_pos (by simp [ssc_len])]
  refine C43 ?_
  rw [aggV_agg]
  refine X42 h2 (okZc rfl) o1 (by decide) (fun _ hp3 h3=>?_) fun e=>absurd e (by decide +kernel)
  rw [tup2V_mk,aggV_agg,intV_int,if_pos (ssc_len _),if_pos (ssc_one _),if_pos (by simp [ssc_len])]
  rw [ss_spl rfl,show ((0:Int)==0)=true from rfl,ite2_true,show (addE (3:Int).toNat 1 (peerT 1 80) 9 ([]++[(⟨((0+1:Nat):Int),1,peerT 1 80,0,9⟩:Ss)])==5)=true by kernel_rfl,ite2_true,ssc_id,ldV_some,intV_int]
  show ite2 true _ _
  rw [ite2_true]
  refine C43 ?_
  rw [aggV_agg,t4_adrS,ldL_some]
  refine W47 h3.wt (by decide) ?_
  rw [boolV_bool,show knowsE 1 (peerT 1 0).1 ([]++[(⟨((0+1:Nat):Int),1,peerT 1 80,0,9⟩:Ss)])=true by kernel_rfl,ite2_true]
  refine C43 ?_
  rw [aggV_agg,t4_adrS,ldL_some]
  refine W47 h3.wt (by decide) ?_
  rw [boolV_bool,show knowsE 2 (peerT 1 0).1 ([]++[(⟨((0+1:Nat):Int),1,peerT 1 80,0,9⟩:Ss)])=false by kernel_rfl]
  show ite2 true _ _
  rw [ite2_true]
  refine X45 h3 fun hp4 a c w' h4 hr=>?_
  rw [slcV_slice,show (((popsL Ss.id 9 ([]++[(⟨((0+1:Nat):Int),1,peerT 1 80,0,9⟩:Ss)]) (setW ((0+1:Nat):Int) 9 [])).length:Nat):Int)=1 by kernel_rfl]
  exact hK hp4 (h4.fin ht)
end
end Go.Proofs
set_option linter.unusedVariables false
set_option maxRecDepth 20000
namespace Go.Proofs
open Go Go.HL
theorem dec5 {D:Nat} {cs:List Value} (h:wellS Tryd.prog D 5 cs=true):∃ n:Int,(0≤n∧n≤255)∧cs=[.int .u8 n]:=by
  cases D with
  | zero=>cases h
  | succ D=>
    unfold wellS at h
    rw [show Tryd.prog.underlying 5=some (.int .u8) by kernel_rfl] at h
    simp only at h
    split at h
    · rename_i q n
      simp only [Bool.and_eq_true,decide_eq_true_eq] at h
      obtain ⟨rfl,hw⟩:=h
      exact ⟨n,(Go.Lit.wf_int_iff _ _).1 hw,rfl⟩
    · cases h
theorem dec3 {D:Nat} {cs:List Value} (h:wellS Tryd.prog D 3 cs=true):∃ n:Int,(-9223372036854775808≤n∧n≤9223372036854775807)∧cs=[.int .i64 n]:=by
  cases D with
  | zero=>cases h
  | succ D=>
    unfold wellS at h
    rw [show Tryd.prog.underlying 3=some (.int .i64) by kernel_rfl] at h
    simp only at h
    split at h
    · rename_i q n
      simp only [Bool.and_eq_true,decide_eq_true_eq] at h
      obtain ⟨rfl,hw⟩:=h
      exact ⟨n,(Go.Lit.wf_int_iff _ _).1 hw,rfl⟩
    · cases h
end Go.Proofs
set_option linter.unusedVariables false
set_option linter.unusedSimpArgs false
set_option maxRecDepth 20000
namespace Go.Proofs
open Go Go.HL
open Go.Exp (Th tlt Ord setW dropW insW)
structure A22 where
  what:Int
  a:Int
  b:Int
  port:Int
  n:Int
  st:Int
  due:Int
def a22 (y:A22):List Value:=[.int .u8 y.what,.int .u8 y.a,.int .i64 y.b,.int .i64 y.port,.int .i64 y.n,.int .i64 y.st,.int .i64 y.due]
theorem a22_len (y:A22):(a22 y).length=7:=rfl
theorem a22_one (y:A22):(a22 y).all one=true:=rfl
def okA22 (y:A22):Prop:=okB y.a∧okZ y.b∧okZ y.port∧okZ y.n∧okZ y.st∧okZ y.due
theorem a22_spl {zs:List Value} {y:A22} (h:zs.length=7):splice zs 0 (a22 y)=a22 y:=splice_all h.symm
theorem a22_0 (y:A22):(a22 y)[0]?=some (.int .u8 y.what):=rfl
theorem a22_1 (y:A22):(a22 y)[1]?=some (.int .u8 y.a):=rfl
theorem a22_2 (y:A22):(a22 y)[2]?=some (.int .i64 y.b):=rfl
theorem a22_3 (y:A22):(a22 y)[3]?=some (.int .i64 y.port):=rfl
theorem a22_4 (y:A22):(a22 y)[4]?=some (.int .i64 y.n):=rfl
theorem a22_5 (y:A22):(a22 y)[5]?=some (.int .i64 y.st):=rfl
theorem a22_6 (y:A22):(a22 y)[6]?=some (.int .i64 y.due):=rfl
theorem dec77:∀ (D:Nat) (cs:List Value),wellS Tryd.prog D 77 cs=true→∃ a:A22,okA22 a∧cs=a22 a:=by
  intro D cs h
  cases D with
  | zero=>cases h
  | succ D=>
    obtain ⟨hl,hf⟩:=wellS_struct (fs0:=[(5,0),(5,1),(3,2),(3,3),(3,4),(3,5),(3,6)]) (by kernel_rfl) (by simp) h
    rw [show Tryd.prog.cellsOf 77=7 by kernel_rfl] at hl
    have f0:=hf (5,0) (by simp)
    have f1:=hf (5,1) (by simp)
    have f2:=hf (3,2) (by simp)
    have f3:=hf (3,3) (by simp)
    have f4:=hf (3,4) (by simp)
    have f5:=hf (3,5) (by simp)
    have f6:=hf (3,6) (by simp)
    simp only [show Tryd.prog.cellsOf 5=1 by kernel_rfl,show Tryd.prog.cellsOf 3=1 by kernel_rfl] at f0 f1 f2 f3 f4 f5 f6
    obtain ⟨n0,h0,e0⟩:=dec5 f0
    obtain ⟨n1,h1,e1⟩:=dec5 f1
    obtain ⟨n2,h2,e2⟩:=dec3 f2
    obtain ⟨n3,h3,e3⟩:=dec3 f3
    obtain ⟨n4,h4,e4⟩:=dec3 f4
    obtain ⟨n5,h5,e5⟩:=dec3 f5
    obtain ⟨n6,h6,e6⟩:=dec3 f6
    match cs,hl with
    | [c0,c1,c2,c3,c4,c5,c6],_=>
      simp only [List.drop_zero,List.drop_succ_cons,List.take_succ_cons,List.take_zero,List.cons.injEq,and_true] at e0 e1 e2 e3 e4 e5 e6
      subst e0; subst e1; subst e2; subst e3; subst e4; subst e5; subst e6
      exact ⟨⟨n0,n1,n2,n3,n4,n5,n6⟩,⟨h1,h2,h3,h4,h5,h6⟩,rfl⟩
section
variable {tb:Obj} {hp0 hp:HP} {s mx last:Nat} {L:List Ss} {w:List Th} {K:Value→HP→Prop}
theorem row_ss {hp:HP} {a:Option Addr} {c:Nat} {L:List Ss} {i:Nat} (h:Row hp a L.length c 79 9 (L.flatMap ssc)) (hi:i<L.length) :
    ∃ b o,a=some ⟨b,o,none⟩∧hp.cellN b (o+i*9) 9=some (ssc L[i])∧∀ j v,(ssc L[i])[j]?=some v→hp.cell b (o+i*9+j)=some v:=by
  obtain ⟨b,o,e,hc⟩:=h.shows.get ssc_len rfl hi
  exact ⟨b,o,e,hc,fun t v hv=>HP.cell_cellN hc hv⟩
end
end Go.Proofs
set_option linter.unusedVariables false
set_option linter.unusedSimpArgs false
namespace Go.Proofs
open Go Go.HL
section
variable {l:List Q} {low high:Int} {mx last n:Nat} {L:List Bd}
end
end Go.Proofs
namespace Go.Proofs
open Go Go.HL
abbrev zb36:List Value:=[(Value.int .i64 0),(Value.int .i64 0),(Value.int .u8 0),(Value.int .u8 0),(Value.int .u8 0),(Value.int .u8 0),(Value.int .u8 0),(Value.int .u8 0),(Value.int .u8 0),(Value.int .u8 0),(Value.int .u8 0),(Value.int .u8 0),(Value.int .u8 0),(Value.int .u8 0),(Value.int .u8 0),(Value.int .u8 0),(Value.int .u8 0),(Value.int .u8 0),(Value.int .i64 0),(Value.int .u8 0),(Value.int .u8 0),(Value.int .u8 0),(Value.int .u8 0),(Value.int .i64 0),(Value.bool false),(Value.int .i64 0)]
@[simp] theorem zb36_len:zb36.length=26:=rfl
end Go.Proofs
set_option linter.unusedVariables false
set_option linter.unusedSimpArgs false
set_option maxRecDepth 20000
namespace Go.Proofs
open Go Go.HL
open Go.Exp (Th tlt Ord setW dropW insW)
section
variable {tb:Obj} {hp:HP} {K:Value→HP→Prop}
end
end Go.Proofs
set_option linter.unusedVariables false
set_option linter.unusedSimpArgs false
set_option maxRecDepth 20000
namespace Go.Proofs
open Go Go.HL
open Go.Exp (Th tlt Ord setW dropW insW)
section
variable {hq hp:HP} {r:Nat} {mx:Int} {last:Nat} {L:List Sy} {K:Value→HP→Prop}
end
end Go.Proofs
set_option linter.unusedVariables false
set_option linter.unusedSimpArgs false
set_option maxRecDepth 20000
namespace Go.Proofs
open Go Go.HL
section
variable {tb:Obj} {hp:HP} {K:Value→HP→Prop}
end
end Go.Proofs
set_option linter.unusedVariables false
set_option linter.unusedSimpArgs false
set_option maxRecDepth 20000
namespace Go.Proofs
open Go Go.HL
structure A21 where
  what:Int
  a:Int
  b:Int
  proto:Int
  x:Int
  t:Int
  n:Int
def a21 (y:A21):List Value:=[.int .u8 y.what,.int .u8 y.a,.int .u8 y.b,.int .i64 y.proto,.int .i64 y.x,.int .i64 y.t,.int .i64 y.n]
section
variable {tb:Obj} {hp0 hp:HP} {t:Nat} {l:List Q} {low high:Int} {mx last n:Nat} {L:List Bd} {K:Value→HP→Prop}
end
end Go.Proofs
set_option linter.unusedVariables false
set_option linter.unusedSimpArgs false
set_option maxRecDepth 20000
namespace Go.Proofs
open Go Go.HL
theorem cellsN_part {cs ys:List Value} {o n j k:Nat} (h:cellsN cs o n=some ys) (hjk:j+k≤n):cellsN cs (o+j) k=cellsN ys j k:=by
  unfold cellsN at h
  split at h
  · rename_i hl
    have:=Option.some.inj h
    subst this
    unfold cellsN
    rw [if_pos (by omega),if_pos (by simp; omega),List.drop_take,List.drop_drop,List.take_take,Nat.min_eq_left (by omega)]
  · cases h
theorem cellN_part {hp:HP} {b o n j k:Nat} {ys:List Value} (h:hp.cellN b o n=some ys) (hjk:j+k≤n):hp.cellN b (o+j) k=cellsN ys j k:=by
  unfold HP.cellN at h ⊢
  split at h
  · exact cellsN_part h hjk
  · exact cellsN_part h hjk
  · cases h
section
variable {tb:Obj} {hp0 hp:HP} {t:Nat} {l:List Q} {low high:Int} {mx last n:Nat} {L:List Bd} {K:Value→HP→Prop}
end
end Go.Proofs
set_option linter.unusedVariables false
set_option linter.unusedSimpArgs false
set_option maxRecDepth 20000
namespace Go.Proofs
open Go Go.HL
open Go.Exp (Th tlt Ord setW dropW insW)
def below (k:Int) (L:List Ss):Nat:=(L.filter fun y=>decide (y.bnd<k)).length
theorem below_all {k:Int} {L:List Ss} (h:∀ y∈L,y.bnd<k):below k L=L.length:=by
  unfold below
  rw [List.filter_eq_self.2 fun y hy=>decide_eq_true (h y hy)]
section
variable {tb:Obj} {hp0 hp:HP} {s mx last:Nat} {L:List Ss} {w:List Th} {K:Value→HP→Prop}
end
end Go.Proofs
set_option linter.unusedVariables false
namespace Go.HL
open Go
open Go.Exp (Th tlt swo_tlt Ord setW dropW insW)
section
variable {α:Type} {id due:α→Int}
theorem pops_th {L:List α} {w:List Th} {now:Int} (hn:(L.map id).Nodup) (h:QOk id due L w):(popsL id now L w).map (fun x=>(id x,due x))=w.takeWhile (fun t=>decide (t.2≤now)):=by
  unfold popsL
  have hm:∀ t∈w.takeWhile (fun t:Th=>decide (t.2≤now)),∃ x∈L,(id x,due x)=t:=fun t ht=>h.mem (List.takeWhile_subset _ ht)
  generalize w.takeWhile (fun t:Th=>decide (t.2≤now))=v at hm
  induction v with
  | nil=>rfl
  | cons t v ih=>
    obtain ⟨x,hx,e⟩:=hm t (by simp)
    have hf:(L.find? fun y=>decide (id y=t.1))=some x:=by
      have:=find_of (g:=id) hn hx
      have e1:id x=t.1:=by rw [← e]
      rw [← e1]; exact this
    rw [List.filterMap_cons,hf]
    simp only [List.map_cons]
    rw [ih fun u hu=>hm u (by simp [hu]),e]
theorem pops_mem {L:List α} {w:List Th} {now:Int} {x:α} (h:x∈popsL id now L w):x∈L:=by
  unfold popsL at h
  obtain ⟨t,_,ht⟩:=List.mem_filterMap.1 h
  exact List.mem_of_find?_eq_some ht
theorem take_mem {now:Int}:∀ {w:List Th},w.Pairwise (fun x y=>tlt x y=true)→∀ {t:Th},t∈w→t.2≤now→t∈w.takeWhile (fun t=>decide (t.2≤now))
  | [],_,t,h,_=>by cases h
  | u::w,hp,t,h,hle=>by
    have hp':=List.pairwise_cons.1 hp
    have hu:u.2≤now:=by
      rcases List.mem_cons.1 h with e | h
      · rw [← e]; exact hle
      · have:=hp'.1 t h
        rw [Exp.tlt_iff] at this; omega
    rw [List.takeWhile_cons,decide_eq_true hu,if_pos rfl]
    rcases List.mem_cons.1 h with e | h
    · rw [e]; simp
    · exact List.mem_cons_of_mem _ (take_mem hp'.2 h hle)
theorem mem_take {β:Type} {p:β→Bool} {x:β}:∀ {l:List β},x∈l.takeWhile p→p x=true
  | y::l,h=>by
    rw [List.takeWhile_cons] at h
    by_cases hy:p y=true
    · rw [if_pos hy] at h
      rcases List.mem_cons.1 h with rfl | h
      · exact hy
      · exact mem_take h
    · rw [if_neg hy] at h; cases h
theorem pops_facts {L:List α} {w:List Th} {now:Int} (hn:(L.map id).Nodup) (h:QOk id due L w) :
    (∀ x∈popsL id now L w,x∈L∧due x≤now)∧((popsL id now L w).map id).Nodup∧(popsL id now L w).Pairwise (fun x y=>due x<due y∨(due x=due y∧id x<id y)) ∧
    (∀ x∈L,id x∈(popsL id now L w).map id↔due x≤now):=by
  have e:=pops_th (now:=now) hn h
  have e1:(popsL id now L w).map id=(w.takeWhile (fun t=>decide (t.2≤now))).map (·.1):=by rw [← e,List.map_map]; rfl
  have hd:∀ x∈popsL id now L w,due x≤now:=fun x hx=>by
    have:(id x,due x)∈w.takeWhile (fun t=>decide (t.2≤now)):=by rw [← e]; exact List.mem_map.2 ⟨x,hx,rfl⟩
    have:=mem_take this
    simpa using this
  refine ⟨fun x hx=>⟨pops_mem hx,hd x hx⟩,?_,?_,fun x hx=>⟨fun hm=>?_,fun hle=>?_⟩⟩
  · rw [e1]; exact h.2.2.sublist ((List.takeWhile_sublist _).map _)
  · have:=(h.2.1.sublist (List.takeWhile_sublist (fun t=>decide (t.2≤now))))
    rw [← e,List.pairwise_map] at this
    exact this.imp fun h=>by rw [Exp.tlt_iff] at h; exact h
  · obtain ⟨y,hy,e2⟩:=List.mem_map.1 hm
    have:=inj_of hn (pops_mem hy) hx e2
    rw [← this]; exact hd y hy
  · have hw:(id x,due x)∈w:=h.1.mem_iff.2 (List.mem_map.2 ⟨x,hx,rfl⟩)
    have:=take_mem h.2.1 hw hle
    rw [e1]
    exact List.mem_map.2 ⟨_,this,rfl⟩
theorem rest_of {L:List α} {w:List Th} {now:Int} (hn:(L.map id).Nodup) (h:QOk id due L w):(L.filter fun x=>decide (id x ∉ (popsL id now L w).map id))=restL due now L:=by
  unfold restL
  refine List.filter_congr fun x hx=>?_
  have:=(pops_facts (now:=now) hn h).2.2.2 x hx
  exact decide_eq_decide.2 (not_congr this)
end
end Go.HL
