/- Parts of the proof of BibNobodyProof: the logic of what is known of memory, functions' contracts. -/
import Derived.Test.YtpkhoemonibajaaDoorQBibNobodyProofA
import Derived.Test.YtpkhoemonibajaaDoorHlAbb
import Derived.Test.YtpkhoemonibajaaDoorProg
set_option linter.unusedVariables false
set_option linter.unusedSimpArgs false
set_option linter.unusedVariables false
set_option maxRecDepth 20000
namespace Go.Proofs
open Go Go.HL
section
variable {e:Env} {x0:OA} {hp:HP} {K:Env→PV→HP→Prop}
abbrev R71 (p n:Nat):=RW Tryd.prog 12 [] (opsAt Tryd.f71 (pth p)) (List.range n)
theorem F71_r0:R71 2 1 e V0 hp K=
 K (upd e 2 (sB false)) V0 hp:= by kernel_rfl
theorem F71_r1:R71 5 10 (upd e 0 (sP x0)) V0 hp K=
 ite2 (Option.isNone x0) (K (w3 (w8 e 0 (sP x0) 3 (sP x0) 4 (sB ((Option.isNone x0))) 5 (sB true) 6 sU 7 sU 8 sU 9 sU) 10 sU 11 (sB true) 2 (sB true)) V0 hp) (ptrN x0 fun b1 o2=>ldV (HP.cell hp b1 (o2+6)) fun v3=>mapV v3 fun m4=>K (w3 (w8 e 0 (sP x0) 3 (sP x0) 4 (sB ((Option.isNone x0))) 5 (sB false) 6 (sP x0) 7 (sQ b1 o2) 8 (sQ b1 (o2+6)) 9 (sV (.map m4))) 10 (sB ((Option.isNone m4))) 11 (sB ((Option.isNone m4))) 2 (sB ((Option.isNone m4)))) V0 hp):= by kernel_rfl
def F71 (x0:OA) (hp:HP) (K:Kh):Prop:=
  (ite2 (Option.isNone x0) (K (.bool true) hp) (ptrN x0 fun b1 o2=>ldV (HP.cell hp b1 (o2+6)) fun v3=>mapV v3 fun m4=>K (.bool (Option.isNone m4)) hp))
noncomputable def F71_code:Code:=(.seq (.region 0 (opsAt Tryd.f71 (pth 2)) false) (.seq (.region 1 (opsAt Tryd.f71 (pth 5)) false) .ret))
theorem F71_body:Tryd.f71.body=some F71_code:=by kernel_rfl
theorem F71_ok (x0:OA) (hp:HP) (K:Kh) (h:F71 x0 hp K):CF Tryd.prog 71 [(.pointer x0)] hp K:=by
 refine .inl ⟨by kernel_rfl,AC.intro (N:=12) Tryd.func71 F71_body rfl (Nat.le_of_ble_eq_true rfl) ?_⟩
 unfold F71 at h
 refine Ar F71_r0 ?_ (r1 0 Rn) (z1 Sn) Sn
 refine Ar F71_r1 ?_ (r1 0 Rn) (z1 Sn) Sn
 refine mt h (fun h=>?_) (fun h=>?_)
 ·refine AWP.ret ?_
  exact h
 ·refine mN h fun b1 o2 h=>mV h fun v3 h=>mM h fun m4 h=>?_
  refine AWP.ret ?_
  exact h
end
section
variable {e:Env} {x0:Int} {hp:HP} {K:Env→PV→HP→Prop}
abbrev R73 (p n:Nat):=RW Tryd.prog 6 [] (opsAt Tryd.f73 (pth p)) (List.range n)
theorem F73_r0:R73 2 1 e V0 hp K=
 K (upd e 2 (sI 0)) V0 hp:= by kernel_rfl
theorem F73_r1:R73 5 4 (upd e 0 (sI x0)) V0 hp K=
    (∀ b1:Nat,hp b1=.none→(CF Tryd.prog 112 [(.slice (some ⟨b1,0,none⟩) 3 3),(.int .i64 x0)] (HP.set hp b1 (.cells 3 [(.int .i64 1),(.int .i64 6),(.int .i64 17)] 0)) fun u2 h3=>intV u2 .i64 fun i4=>K (w5 e 0 (sI x0) 3 (sV (.slice (some ⟨b1,0,none⟩) 3 3)) 4 (sI x0) 5 (sI i4) 2 (sI i4)) V0 h3)):=by kernel_rfl
def F73 (x0:Int) (hp:HP) (K:Kh):Prop:=
  (∀ b1:Nat,hp b1=.none→(CF Tryd.prog 112 [(.slice (some ⟨b1,0,none⟩) 3 3),(.int .i64 x0)] (HP.set hp b1 (.cells 3 [(.int .i64 1),(.int .i64 6),(.int .i64 17)] 0)) fun u2 h3=>intV u2 .i64 fun i4=>K (.int .i64 i4) h3))
noncomputable def F73_code:Code:=(.seq (.region 0 (opsAt Tryd.f73 (pth 2)) false) (.seq (.region 1 (opsAt Tryd.f73 (pth 5)) false) .ret))
theorem F73_body:Tryd.f73.body=some F73_code:=by kernel_rfl
theorem F73_ok (x0:Int) (hp:HP) (K:Kh) (h:F73 x0 hp K):CF Tryd.prog 73 [(.int .i64 x0)] hp K:=by
 refine .inl ⟨by kernel_rfl,AC.intro (N:=6) Tryd.func73 F73_body rfl (Nat.le_of_ble_eq_true rfl) ?_⟩
 unfold F73 at h
 refine Ar F73_r0 ?_ (r1 0 Rn) (z1 Sn) Sn
 refine Ar F73_r1 ?_ (r1 0 Rn) (z1 Sn) Sn
 refine fun b1 hb_b_1=>?_
 replace h:=h b1 hb_b_1
 refine mC h fun u2 h3 h=>mI h fun i4 h=>?_
 refine AWP.ret ?_
 exact h
end
section
variable {e:Env} {x0:Int} {hp:HP} {K:Env→PV→HP→Prop}
abbrev R75 (p n:Nat):=RW Tryd.prog 9 [] (opsAt Tryd.f75 (pth p)) (List.range n)
theorem F75_r0:R75 2 1 e V0 hp K=
 K (upd e 2 (sB false)) V0 hp:= by kernel_rfl
theorem F75_r1:R75 5 7 (upd e 0 (sI x0)) V0 hp K=
 ite2 (decide (x0≥0)) (K (w8 e 0 (sI x0) 3 (sI x0) 4 (sB (decide (x0≥0))) 5 (sB true) 6 (sI x0) 7 (sB (decide (x0≤65535))) 8 (sB (decide (x0≤65535))) 2 (sB (decide (x0≤65535)))) V0 hp) (K (w8 e 0 (sI x0) 3 (sI x0) 4 (sB (decide (x0≥0))) 5 (sB false) 6 sU 7 sU 8 (sB false) 2 (sB false)) V0 hp):= by kernel_rfl
def F75 (x0:Int) (hp:HP) (K:Kh):Prop:=
  (ite2 (decide (x0≥0)) (K (.bool (decide (x0≤65535))) hp) (K (.bool false) hp))
noncomputable def F75_code:Code:=(.seq (.region 0 (opsAt Tryd.f75 (pth 2)) false) (.seq (.region 1 (opsAt Tryd.f75 (pth 5)) false) .ret))
theorem F75_body:Tryd.f75.body=some F75_code:=by kernel_rfl
theorem F75_ok (x0:Int) (hp:HP) (K:Kh) (h:F75 x0 hp K):CF Tryd.prog 75 [(.int .i64 x0)] hp K:=by
 refine .inl ⟨by kernel_rfl,AC.intro (N:=9) Tryd.func75 F75_body rfl (Nat.le_of_ble_eq_true rfl) ?_⟩
 unfold F75 at h
 refine Ar F75_r0 ?_ (r1 0 Rn) (z1 Sn) Sn
 refine Ar F75_r1 ?_ (r1 0 Rn) (z1 Sn) Sn
 refine mt h (fun h=>?_) (fun h=>?_)
 ·refine AWP.ret ?_
  exact h
 ·refine AWP.ret ?_
  exact h
end
section
variable {e E:Env} {x0:OA} {x1:Int} {x2:Bool} {k6:List Value} {hp:HP} {K:Env→PV→HP→Prop}
abbrev R81 (p n:Nat):=RW Tryd.prog 19 [6] (opsAt Tryd.f81 (pth p)) (List.range n)
theorem F81_r0:R81 2 2 e V0 hp K=
 K (w2 e 6 (sR 6 0) 7 (sB false)) (upd V0 6 (36,[.int .i64 0,.int .i64 0,.int .u8 0,.int .u8 0,.int .u8 0,.int .u8 0,.int .u8 0,.int .u8 0,.int .u8 0,.int .u8 0,.int .u8 0,.int .u8 0,.int .u8 0,.int .u8 0,.int .u8 0,.int .u8 0,.int .u8 0,.int .u8 0,.int .i64 0,.int .u8 0,.int .u8 0,.int .u8 0,.int .u8 0,.int .i64 0,.bool false,.int .i64 0])) hp:= by kernel_rfl
theorem F81_r1:R81 9 2 (upd e 2 (sB x2)) (upd V0 6 (36,k6)) hp K=
 K (w3 e 2 (sB x2) 8 (sB x2) 9 (sB ((!x2)))) (upd V0 6 (36,k6)) hp:= by kernel_rfl
theorem F81_r2:R81 37 3 (upd e 6 (sR 6 0)) (upd V0 6 (36,k6)) hp K=
    (if List.length [(Value.int .i64 0),.int .i64 0,.int .u8 0,.int .u8 0,.int .u8 0,.int .u8 0,.int .u8 0,.int .u8 0,.int .u8 0,.int .u8 0,.int .u8 0,.int .u8 0,.int .u8 0,.int .u8 0,.int .u8 0,.int .u8 0,.int .u8 0,.int .u8 0,.int .i64 0,.int .u8 0,.int .u8 0,.int .u8 0,.int .u8 0,.int .i64 0,.bool false,.int .i64 0]=26 then (if List.all [(Value.int .i64 0),.int .i64 0,.int .u8 0,.int .u8 0,.int .u8 0,.int .u8 0,.int .u8 0,.int .u8 0,.int .u8 0,.int .u8 0,.int .u8 0,.int .u8 0,.int .u8 0,.int .u8 0,.int .u8 0,.int .u8 0,.int .u8 0,.int .u8 0,.int .i64 0,.int .u8 0,.int .u8 0,.int .u8 0,.int .u8 0,.int .i64 0,.bool false,.int .i64 0] one=true then (if 0+List.length [(Value.int .i64 0),.int .i64 0,.int .u8 0,.int .u8 0,.int .u8 0,.int .u8 0,.int .u8 0,.int .u8 0,.int .u8 0,.int .u8 0,.int .u8 0,.int .u8 0,.int .u8 0,.int .u8 0,.int .u8 0,.int .u8 0,.int .u8 0,.int .u8 0,.int .i64 0,.int .u8 0,.int .u8 0,.int .u8 0,.int .u8 0,.int .i64 0,.bool false,.int .i64 0]≤List.length k6 then (K (w3 e 6 (sR 6 0) 10 (sV (.agg ⟨[.int .i64 0,.int .i64 0,.int .u8 0,.int .u8 0,.int .u8 0,.int .u8 0,.int .u8 0,.int .u8 0,.int .u8 0,.int .u8 0,.int .u8 0,.int .u8 0,.int .u8 0,.int .u8 0,.int .u8 0,.int .u8 0,.int .u8 0,.int .u8 0,.int .i64 0,.int .u8 0,.int .u8 0,.int .u8 0,.int .u8 0,.int .i64 0,.bool false,.int .i64 0]⟩)) 7 (sB false)) (w2 V0 6 (36,k6) 6 (36,(splice k6 0 [.int .i64 0,.int .i64 0,.int .u8 0,.int .u8 0,.int .u8 0,.int .u8 0,.int .u8 0,.int .u8 0,.int .u8 0,.int .u8 0,.int .u8 0,.int .u8 0,.int .u8 0,.int .u8 0,.int .u8 0,.int .u8 0,.int .u8 0,.int .u8 0,.int .i64 0,.int .u8 0,.int .u8 0,.int .u8 0,.int .u8 0,.int .i64 0,.bool false,.int .i64 0]))) hp) else False) else False) else False):=by kernel_rfl
theorem F81_r3 (h:E=upd (w2 e 6 (sR 6 0) 1 (sI x1)) 0 (sP x0)):R81 11 10 E (upd V0 6 (36,k6)) hp K=
 ptrN x0 fun b1 o2=>(ldV (HP.cell hp b1 (o2+6)) fun v3=>mapV v3 fun m4=>rdS Tryd.prog (Instr.lookup 123 (.map m4) (.int .i64 x1) false) hp fun u5=>ptrV u5 fun p6=>ptrN p6 fun b7 o8=>ldL (HP.cellN hp b7 o8 26) fun l9=>if List.length l9=26 then (if List.all l9 one=true then (if 0+List.length l9≤List.length k6 then (K (upd (w8 E 11 (sP x0) 12 (sQ b1 o2) 13 (sQ b1 (o2+6)) 14 (sV (.map m4)) 15 (sI x1) 16 (sP p6) 17 (sQ b7 o8) 18 (sA l9)) 7 (sB true)) (w2 V0 6 (36,k6) 6 (36,(splice k6 0 l9))) hp) else False) else False) else False):= by subst h; kernel_rfl
def F81 (x0:OA) (x1:Int) (x2:Bool) (hp:HP) (K:Kh):Prop:=
  (ite2 (!x2) (if List.length [(Value.int .i64 0),.int .i64 0,.int .u8 0,.int .u8 0,.int .u8 0,.int .u8 0,.int .u8 0,.int .u8 0,.int .u8 0,.int .u8 0,.int .u8 0,.int .u8 0,.int .u8 0,.int .u8 0,.int .u8 0,.int .u8 0,.int .u8 0,.int .u8 0,.int .i64 0,.int .u8 0,.int .u8 0,.int .u8 0,.int .u8 0,.int .i64 0,.bool false,.int .i64 0]=26 then (if List.all [(Value.int .i64 0),.int .i64 0,.int .u8 0,.int .u8 0,.int .u8 0,.int .u8 0,.int .u8 0,.int .u8 0,.int .u8 0,.int .u8 0,.int .u8 0,.int .u8 0,.int .u8 0,.int .u8 0,.int .u8 0,.int .u8 0,.int .u8 0,.int .u8 0,.int .i64 0,.int .u8 0,.int .u8 0,.int .u8 0,.int .u8 0,.int .i64 0,.bool false,.int .i64 0] one=true then (if 0+List.length [(Value.int .i64 0),.int .i64 0,.int .u8 0,.int .u8 0,.int .u8 0,.int .u8 0,.int .u8 0,.int .u8 0,.int .u8 0,.int .u8 0,.int .u8 0,.int .u8 0,.int .u8 0,.int .u8 0,.int .u8 0,.int .u8 0,.int .u8 0,.int .u8 0,.int .i64 0,.int .u8 0,.int .u8 0,.int .u8 0,.int .u8 0,.int .i64 0,.bool false,.int .i64 0]≤List.length [(Value.int .i64 0),.int .i64 0,.int .u8 0,.int .u8 0,.int .u8 0,.int .u8 0,.int .u8 0,.int .u8 0,.int .u8 0,.int .u8 0,.int .u8 0,.int .u8 0,.int .u8 0,.int .u8 0,.int .u8 0,.int .u8 0,.int .u8 0,.int .u8 0,.int .i64 0,.int .u8 0,.int .u8 0,.int .u8 0,.int .u8 0,.int .i64 0,.bool false,.int .i64 0] then (ldL (cellsN (splice [.int .i64 0,.int .i64 0,.int .u8 0,.int .u8 0,.int .u8 0,.int .u8 0,.int .u8 0,.int .u8 0,.int .u8 0,.int .u8 0,.int .u8 0,.int .u8 0,.int .u8 0,.int .u8 0,.int .u8 0,.int .u8 0,.int .u8 0,.int .u8 0,.int .i64 0,.int .u8 0,.int .u8 0,.int .u8 0,.int .u8 0,.int .i64 0,.bool false,.int .i64 0] 0 [.int .i64 0,.int .i64 0,.int .u8 0,.int .u8 0,.int .u8 0,.int .u8 0,.int .u8 0,.int .u8 0,.int .u8 0,.int .u8 0,.int .u8 0,.int .u8 0,.int .u8 0,.int .u8 0,.int .u8 0,.int .u8 0,.int .u8 0,.int .u8 0,.int .i64 0,.int .u8 0,.int .u8 0,.int .u8 0,.int .u8 0,.int .i64 0,.bool false,.int .i64 0]) 0 26) fun l1=>K (.tuple ⟨[(.agg ⟨l1⟩),.bool false]⟩) hp) else False) else False) else False) (ptrN x0 fun b2 o3=>ldV (HP.cell hp b2 (o3+6)) fun v4=>mapV v4 fun m5=>rdS Tryd.prog (Instr.lookup 123 (.map m5) (.int .i64 x1) false) hp fun u6=>ptrV u6 fun p7=>ptrN p7 fun b8 o9=>ldL (HP.cellN hp b8 o9 26) fun l10=>if List.length l10=26 then (if List.all l10 one=true then (if 0+List.length l10≤List.length [(Value.int .i64 0),.int .i64 0,.int .u8 0,.int .u8 0,.int .u8 0,.int .u8 0,.int .u8 0,.int .u8 0,.int .u8 0,.int .u8 0,.int .u8 0,.int .u8 0,.int .u8 0,.int .u8 0,.int .u8 0,.int .u8 0,.int .u8 0,.int .u8 0,.int .i64 0,.int .u8 0,.int .u8 0,.int .u8 0,.int .u8 0,.int .i64 0,.bool false,.int .i64 0] then (ldL (cellsN (splice [.int .i64 0,.int .i64 0,.int .u8 0,.int .u8 0,.int .u8 0,.int .u8 0,.int .u8 0,.int .u8 0,.int .u8 0,.int .u8 0,.int .u8 0,.int .u8 0,.int .u8 0,.int .u8 0,.int .u8 0,.int .u8 0,.int .u8 0,.int .u8 0,.int .i64 0,.int .u8 0,.int .u8 0,.int .u8 0,.int .u8 0,.int .i64 0,.bool false,.int .i64 0] 0 l10) 0 26) fun l11=>K (.tuple ⟨[(.agg ⟨l11⟩),(.bool true)]⟩) hp) else False) else False) else False))
noncomputable def F81_code:Code:=(.seq (.region 0 (opsAt Tryd.f81 (pth 2)) false) (.seq (.seq (.region 1 (opsAt Tryd.f81 (pth 9)) false) (.cond (.tmp 9) (.seq (.region 2 (opsAt Tryd.f81 (pth 37)) false) .ret) .skip)) (.seq (.region 3 (opsAt Tryd.f81 (pth 11)) false) .ret)))
theorem F81_body:Tryd.f81.body=some F81_code:=by kernel_rfl
theorem F81_ok (x0:OA) (x1:Int) (x2:Bool) (hp:HP) (K:Kh) (h:F81 x0 x1 x2 hp K):CF Tryd.prog 81 [(.pointer x0),(.int .i64 x1),(.bool x2)] hp K:=by
 refine .inl ⟨by kernel_rfl,AC.intro (N:=19) Tryd.func81 F81_body rfl (Nat.le_of_ble_eq_true rfl) ?_⟩
 unfold F81 at h
 refine Ar F81_r0 ?_ (r3 0 1 2 Rn) (z3 Sn) Sn
 refine Aq (Ar F81_r1 ?_ (r3 2 0 1 (rp 6 6 0 Rn)) (z4 Sn) (z1 Sn))
 refine Ac h rfl (fun h=>?_) (fun h=>?_)
 ·refine Ar F81_r2 ?_ (rp 6 6 0 Rn) (z1 Sn) (z1 Sn)
  refine mf h fun h=>mf h fun h=>mf h fun h=>?_
  refine AWP.ret ?_
  exact h
 ·refine AWP.skip (Ar (F81_r3 rfl) ?_ (r2 0 1 (rp 6 6 0 Rn)) (z3 Sn) (z1 Sn))
  refine mN h fun b2 o3 h=>mV h fun v4 h=>mM h fun m5 h=>mR h fun u6 h=>mP h fun p7 h=>mN h fun b8 o9 h=>mL h fun l10 h=>mf h fun h=>mf h fun h=>mf h fun h=>?_
  refine AWP.ret ?_
  exact h
end
section
variable {e:Env} {x1:List Value} {hp:HP} {K:Env→PV→HP→Prop}
abbrev R105 (p n:Nat):=RW Tryd.prog 17 [] (opsAt Tryd.f105 (pth p)) (List.range n)
theorem F105_r0:R105 2 2 (upd e 1 (sA x1)) V0 hp K=
    (∀ b1:Nat,hp b1=.none→(K (w3 e 1 (sA x1) 3 (sQ b1 0) 4 (sV (.string (⟨#[]⟩:ByteArray)))) V0 (HP.set hp b1 (.cells 34 x1 0)))):=by kernel_rfl
theorem F105_r1 {e:Env} {x0:Int} {x3:OA} {hp:HP} {K:Env→PV→HP→Prop}:RW Tryd.prog 17 [] (opsAt Tryd.f105 (pth 5)) [0,1,2,3,4,5,6,7,8,9,10,11,12] (w2 e 3 (sP x3) 0 (sI x0)) V0 hp K=
    (CF Tryd.prog 116 [(.int .i64 x0)] hp fun u1 h2=>strV u1 fun s3=>(ByteArray.size s3+ByteArray.size (⟨#[32]⟩:ByteArray)≤9223372036854775807)∧(ptrN x3 fun b4 o5=>ldV (HP.cell h2 b4 (o5+4)) fun v6=>intV v6 .i64 fun i7=>CF Tryd.prog 116 [(.int .i64 i7)] h2 fun u8 h9=>strV u8 fun s10=>(ByteArray.size (s3++(⟨#[32]⟩:ByteArray))+ByteArray.size s10≤9223372036854775807)∧((ByteArray.size ((s3++(⟨#[32]⟩:ByteArray))++s10)+ByteArray.size (⟨#[32]⟩:ByteArray)≤9223372036854775807)∧(ptrN x3 fun b11 o12=>rdS Tryd.prog (convert 199 9 (.slice (some ⟨b11,(o12+0),none⟩) 4 4)) h9 fun u13=>strV u13 fun s14=>(ByteArray.size (((s3++(⟨#[32]⟩:ByteArray))++s10)++(⟨#[32]⟩:ByteArray))+ByteArray.size s14≤9223372036854775807)∧(K (w7 (w8 e 3 (sP x3) 0 (sI x0) 5 (sI x0) 6 (sT s3) 7 (sV (.string (s3++(⟨#[32]⟩:ByteArray)))) 8 (sQ b4 (o5+4)) 9 (sI i7) 10 (sT s10)) 11 (sV (.string ((s3++(⟨#[32]⟩:ByteArray))++s10))) 12 (sV (.string (((s3++(⟨#[32]⟩:ByteArray))++s10)++(⟨#[32]⟩:ByteArray)))) 13 (sQ b11 (o12+0)) 14 (sV (.slice (some ⟨b11,(o12+0),none⟩) 4 4)) 15 (sT s14) 16 (sV (.string ((((s3++(⟨#[32]⟩:ByteArray))++s10)++(⟨#[32]⟩:ByteArray))++s14))) 4 (sV (.string ((((s3++(⟨#[32]⟩:ByteArray))++s10)++(⟨#[32]⟩:ByteArray))++s14)))) V0 h9))))):=by kernel_rfl
theorem F105_r2 {e:Env} {x0:Int} {x3:OA} {hp:HP} {K:Env→PV→HP→Prop}:RW Tryd.prog 17 [] (opsAt Tryd.f105 (pth 5)) [0,1,2,3,4,8,9,10,5,6,7,11,12] (w2 e 3 (sP x3) 0 (sI x0)) V0 hp K=
    (CF Tryd.prog 116 [(.int .i64 x0)] hp fun u1 h2=>strV u1 fun s3=>(ByteArray.size s3+ByteArray.size (⟨#[32]⟩:ByteArray)≤9223372036854775807)∧(ptrN x3 fun b4 o5=>ldV (HP.cell h2 b4 (o5+4)) fun v6=>intV v6 .i64 fun i7=>ptrN x3 fun b8 o9=>rdS Tryd.prog (convert 199 9 (.slice (some ⟨b8,(o9+0),none⟩) 4 4)) h2 fun u10=>strV u10 fun s11=>CF Tryd.prog 116 [(.int .i64 i7)] h2 fun u12 h13=>strV u12 fun s14=>(ByteArray.size (s3++(⟨#[32]⟩:ByteArray))+ByteArray.size s14≤9223372036854775807)∧((ByteArray.size ((s3++(⟨#[32]⟩:ByteArray))++s14)+ByteArray.size (⟨#[32]⟩:ByteArray)≤9223372036854775807)∧((ByteArray.size (((s3++(⟨#[32]⟩:ByteArray))++s14)++(⟨#[32]⟩:ByteArray))+ByteArray.size s11≤9223372036854775807)∧(K (w7 (w8 e 3 (sP x3) 0 (sI x0) 5 (sI x0) 6 (sT s3) 7 (sV (.string (s3++(⟨#[32]⟩:ByteArray)))) 8 (sQ b4 (o5+4)) 9 (sI i7) 13 (sQ b8 (o9+0))) 14 (sV (.slice (some ⟨b8,(o9+0),none⟩) 4 4)) 15 (sT s11) 10 (sT s14) 11 (sV (.string ((s3++(⟨#[32]⟩:ByteArray))++s14))) 12 (sV (.string (((s3++(⟨#[32]⟩:ByteArray))++s14)++(⟨#[32]⟩:ByteArray)))) 16 (sV (.string ((((s3++(⟨#[32]⟩:ByteArray))++s14)++(⟨#[32]⟩:ByteArray))++s11))) 4 (sV (.string ((((s3++(⟨#[32]⟩:ByteArray))++s14)++(⟨#[32]⟩:ByteArray))++s11)))) V0 h13))))):=by kernel_rfl
theorem F105_r3 {e:Env} {x0:Int} {x3:OA} {hp:HP} {K:Env→PV→HP→Prop}:RW Tryd.prog 17 [] (opsAt Tryd.f105 (pth 5)) [0,3,8,9,10,1,2,4,5,6,7,11,12] (w2 e 3 (sP x3) 0 (sI x0)) V0 hp K=
    (ptrN x3 fun b1 o2=>ptrN x3 fun b3 o4=>rdS Tryd.prog (convert 199 9 (.slice (some ⟨b3,(o4+0),none⟩) 4 4)) hp fun u5=>strV u5 fun s6=>CF Tryd.prog 116 [(.int .i64 x0)] hp fun u7 h8=>strV u7 fun s9=>(ByteArray.size s9+ByteArray.size (⟨#[32]⟩:ByteArray)≤9223372036854775807)∧(ldV (HP.cell h8 b1 (o2+4)) fun v10=>intV v10 .i64 fun i11=>CF Tryd.prog 116 [(.int .i64 i11)] h8 fun u12 h13=>strV u12 fun s14=>(ByteArray.size (s9++(⟨#[32]⟩:ByteArray))+ByteArray.size s14≤9223372036854775807)∧((ByteArray.size ((s9++(⟨#[32]⟩:ByteArray))++s14)+ByteArray.size (⟨#[32]⟩:ByteArray)≤9223372036854775807)∧((ByteArray.size (((s9++(⟨#[32]⟩:ByteArray))++s14)++(⟨#[32]⟩:ByteArray))+ByteArray.size s6≤9223372036854775807)∧(K (w7 (w8 e 3 (sP x3) 0 (sI x0) 5 (sI x0) 8 (sQ b1 (o2+4)) 13 (sQ b3 (o4+0)) 14 (sV (.slice (some ⟨b3,(o4+0),none⟩) 4 4)) 15 (sT s6) 6 (sT s9)) 7 (sV (.string (s9++(⟨#[32]⟩:ByteArray)))) 9 (sI i11) 10 (sT s14) 11 (sV (.string ((s9++(⟨#[32]⟩:ByteArray))++s14))) 12 (sV (.string (((s9++(⟨#[32]⟩:ByteArray))++s14)++(⟨#[32]⟩:ByteArray)))) 16 (sV (.string ((((s9++(⟨#[32]⟩:ByteArray))++s14)++(⟨#[32]⟩:ByteArray))++s6))) 4 (sV (.string ((((s9++(⟨#[32]⟩:ByteArray))++s14)++(⟨#[32]⟩:ByteArray))++s6)))) V0 h13))))):=by kernel_rfl
theorem F105_r4 {e:Env} {x0:Int} {x3:OA} {hp:HP} {K:Env→PV→HP→Prop}:RW Tryd.prog 17 [] (opsAt Tryd.f105 (pth 5)) [0,3,4,1,2,5,6,7,8,9,10,11,12] (w2 e 3 (sP x3) 0 (sI x0)) V0 hp K=
    (ptrN x3 fun b1 o2=>ldV (HP.cell hp b1 (o2+4)) fun v3=>intV v3 .i64 fun i4=>CF Tryd.prog 116 [(.int .i64 x0)] hp fun u5 h6=>strV u5 fun s7=>(ByteArray.size s7+ByteArray.size (⟨#[32]⟩:ByteArray)≤9223372036854775807)∧(CF Tryd.prog 116 [(.int .i64 i4)] h6 fun u8 h9=>strV u8 fun s10=>(ByteArray.size (s7++(⟨#[32]⟩:ByteArray))+ByteArray.size s10≤9223372036854775807)∧((ByteArray.size ((s7++(⟨#[32]⟩:ByteArray))++s10)+ByteArray.size (⟨#[32]⟩:ByteArray)≤9223372036854775807)∧(ptrN x3 fun b11 o12=>rdS Tryd.prog (convert 199 9 (.slice (some ⟨b11,(o12+0),none⟩) 4 4)) h9 fun u13=>strV u13 fun s14=>(ByteArray.size (((s7++(⟨#[32]⟩:ByteArray))++s10)++(⟨#[32]⟩:ByteArray))+ByteArray.size s14≤9223372036854775807)∧(K (w7 (w8 e 3 (sP x3) 0 (sI x0) 5 (sI x0) 8 (sQ b1 (o2+4)) 9 (sI i4) 6 (sT s7) 7 (sV (.string (s7++(⟨#[32]⟩:ByteArray)))) 10 (sT s10)) 11 (sV (.string ((s7++(⟨#[32]⟩:ByteArray))++s10))) 12 (sV (.string (((s7++(⟨#[32]⟩:ByteArray))++s10)++(⟨#[32]⟩:ByteArray)))) 13 (sQ b11 (o12+0)) 14 (sV (.slice (some ⟨b11,(o12+0),none⟩) 4 4)) 15 (sT s14) 16 (sV (.string ((((s7++(⟨#[32]⟩:ByteArray))++s10)++(⟨#[32]⟩:ByteArray))++s14))) 4 (sV (.string ((((s7++(⟨#[32]⟩:ByteArray))++s10)++(⟨#[32]⟩:ByteArray))++s14)))) V0 h9))))):=by kernel_rfl
theorem F105_r5 {e:Env} {x0:Int} {x3:OA} {hp:HP} {K:Env→PV→HP→Prop}:RW Tryd.prog 17 [] (opsAt Tryd.f105 (pth 5)) [0,3,4,1,2,8,9,10,5,6,7,11,12] (w2 e 3 (sP x3) 0 (sI x0)) V0 hp K=
    (ptrN x3 fun b1 o2=>ldV (HP.cell hp b1 (o2+4)) fun v3=>intV v3 .i64 fun i4=>CF Tryd.prog 116 [(.int .i64 x0)] hp fun u5 h6=>strV u5 fun s7=>(ByteArray.size s7+ByteArray.size (⟨#[32]⟩:ByteArray)≤9223372036854775807)∧(ptrN x3 fun b8 o9=>rdS Tryd.prog (convert 199 9 (.slice (some ⟨b8,(o9+0),none⟩) 4 4)) h6 fun u10=>strV u10 fun s11=>CF Tryd.prog 116 [(.int .i64 i4)] h6 fun u12 h13=>strV u12 fun s14=>(ByteArray.size (s7++(⟨#[32]⟩:ByteArray))+ByteArray.size s14≤9223372036854775807)∧((ByteArray.size ((s7++(⟨#[32]⟩:ByteArray))++s14)+ByteArray.size (⟨#[32]⟩:ByteArray)≤9223372036854775807)∧((ByteArray.size (((s7++(⟨#[32]⟩:ByteArray))++s14)++(⟨#[32]⟩:ByteArray))+ByteArray.size s11≤9223372036854775807)∧(K (w7 (w8 e 3 (sP x3) 0 (sI x0) 5 (sI x0) 8 (sQ b1 (o2+4)) 9 (sI i4) 6 (sT s7) 7 (sV (.string (s7++(⟨#[32]⟩:ByteArray)))) 13 (sQ b8 (o9+0))) 14 (sV (.slice (some ⟨b8,(o9+0),none⟩) 4 4)) 15 (sT s11) 10 (sT s14) 11 (sV (.string ((s7++(⟨#[32]⟩:ByteArray))++s14))) 12 (sV (.string (((s7++(⟨#[32]⟩:ByteArray))++s14)++(⟨#[32]⟩:ByteArray)))) 16 (sV (.string ((((s7++(⟨#[32]⟩:ByteArray))++s14)++(⟨#[32]⟩:ByteArray))++s11))) 4 (sV (.string ((((s7++(⟨#[32]⟩:ByteArray))++s14)++(⟨#[32]⟩:ByteArray))++s11)))) V0 h13))))):=by kernel_rfl
theorem F105_r6 {e:Env} {x0:Int} {x3:OA} {hp:HP} {K:Env→PV→HP→Prop}:RW Tryd.prog 17 [] (opsAt Tryd.f105 (pth 5)) [0,3,4,8,9,10,1,2,5,6,7,11,12] (w2 e 3 (sP x3) 0 (sI x0)) V0 hp K=
    (ptrN x3 fun b1 o2=>ldV (HP.cell hp b1 (o2+4)) fun v3=>intV v3 .i64 fun i4=>ptrN x3 fun b5 o6=>rdS Tryd.prog (convert 199 9 (.slice (some ⟨b5,(o6+0),none⟩) 4 4)) hp fun u7=>strV u7 fun s8=>CF Tryd.prog 116 [(.int .i64 x0)] hp fun u9 h10=>strV u9 fun s11=>(ByteArray.size s11+ByteArray.size (⟨#[32]⟩:ByteArray)≤9223372036854775807)∧(CF Tryd.prog 116 [(.int .i64 i4)] h10 fun u12 h13=>strV u12 fun s14=>(ByteArray.size (s11++(⟨#[32]⟩:ByteArray))+ByteArray.size s14≤9223372036854775807)∧((ByteArray.size ((s11++(⟨#[32]⟩:ByteArray))++s14)+ByteArray.size (⟨#[32]⟩:ByteArray)≤9223372036854775807)∧((ByteArray.size (((s11++(⟨#[32]⟩:ByteArray))++s14)++(⟨#[32]⟩:ByteArray))+ByteArray.size s8≤9223372036854775807)∧(K (w7 (w8 e 3 (sP x3) 0 (sI x0) 5 (sI x0) 8 (sQ b1 (o2+4)) 9 (sI i4) 13 (sQ b5 (o6+0)) 14 (sV (.slice (some ⟨b5,(o6+0),none⟩) 4 4)) 15 (sT s8)) 6 (sT s11) 7 (sV (.string (s11++(⟨#[32]⟩:ByteArray)))) 10 (sT s14) 11 (sV (.string ((s11++(⟨#[32]⟩:ByteArray))++s14))) 12 (sV (.string (((s11++(⟨#[32]⟩:ByteArray))++s14)++(⟨#[32]⟩:ByteArray)))) 16 (sV (.string ((((s11++(⟨#[32]⟩:ByteArray))++s14)++(⟨#[32]⟩:ByteArray))++s8))) 4 (sV (.string ((((s11++(⟨#[32]⟩:ByteArray))++s14)++(⟨#[32]⟩:ByteArray))++s8)))) V0 h13))))):=by kernel_rfl
def F105 (x0:Int) (x1:List Value) (hp:HP) (K:Kh):Prop:=
  (∀ b1:Nat,hp b1=.none→((CF Tryd.prog 116 [(.int .i64 x0)] (HP.set hp b1 (.cells 34 x1 0)) fun u2 h3=>strV u2 fun s4=>(ByteArray.size s4+ByteArray.size (⟨#[32]⟩:ByteArray)≤9223372036854775807)∧(ptrN (some ⟨b1,0,none⟩) fun b5 o6=>ldV (HP.cell h3 b5 (o6+4)) fun v7=>intV v7 .i64 fun i8=>CF Tryd.prog 116 [(.int .i64 i8)] h3 fun u9 h10=>strV u9 fun s11=>(ByteArray.size (s4++(⟨#[32]⟩:ByteArray))+ByteArray.size s11≤9223372036854775807)∧((ByteArray.size ((s4++(⟨#[32]⟩:ByteArray))++s11)+ByteArray.size (⟨#[32]⟩:ByteArray)≤9223372036854775807)∧(ptrN (some ⟨b1,0,none⟩) fun b12 o13=>rdS Tryd.prog (convert 199 9 (.slice (some ⟨b12,(o13+0),none⟩) 4 4)) h10 fun u14=>strV u14 fun s15=>(ByteArray.size (((s4++(⟨#[32]⟩:ByteArray))++s11)++(⟨#[32]⟩:ByteArray))+ByteArray.size s15≤9223372036854775807)∧(K (.string ((((s4++(⟨#[32]⟩:ByteArray))++s11)++(⟨#[32]⟩:ByteArray))++s15)) h10)))))∧(CF Tryd.prog 116 [(.int .i64 x0)] (HP.set hp b1 (.cells 34 x1 0)) fun u16 h17=>strV u16 fun s18=>(ByteArray.size s18+ByteArray.size (⟨#[32]⟩:ByteArray)≤9223372036854775807)∧(ptrN (some ⟨b1,0,none⟩) fun b19 o20=>ldV (HP.cell h17 b19 (o20+4)) fun v21=>intV v21 .i64 fun i22=>ptrN (some ⟨b1,0,none⟩) fun b23 o24=>rdS Tryd.prog (convert 199 9 (.slice (some ⟨b23,(o24+0),none⟩) 4 4)) h17 fun u25=>strV u25 fun s26=>CF Tryd.prog 116 [(.int .i64 i22)] h17 fun u27 h28=>strV u27 fun s29=>(ByteArray.size (s18++(⟨#[32]⟩:ByteArray))+ByteArray.size s29≤9223372036854775807)∧((ByteArray.size ((s18++(⟨#[32]⟩:ByteArray))++s29)+ByteArray.size (⟨#[32]⟩:ByteArray)≤9223372036854775807)∧((ByteArray.size (((s18++(⟨#[32]⟩:ByteArray))++s29)++(⟨#[32]⟩:ByteArray))+ByteArray.size s26≤9223372036854775807)∧(K (.string ((((s18++(⟨#[32]⟩:ByteArray))++s29)++(⟨#[32]⟩:ByteArray))++s26)) h28)))))∧(ptrN (some ⟨b1,0,none⟩) fun b30 o31=>ptrN (some ⟨b1,0,none⟩) fun b32 o33=>rdS Tryd.prog (convert 199 9 (.slice (some ⟨b32,(o33+0),none⟩) 4 4)) (HP.set hp b1 (.cells 34 x1 0)) fun u34=>strV u34 fun s35=>CF Tryd.prog 116 [(.int .i64 x0)] (HP.set hp b1 (.cells 34 x1 0)) fun u36 h37=>strV u36 fun s38=>(ByteArray.size s38+ByteArray.size (⟨#[32]⟩:ByteArray)≤9223372036854775807)∧(ldV (HP.cell h37 b30 (o31+4)) fun v39=>intV v39 .i64 fun i40=>CF Tryd.prog 116 [(.int .i64 i40)] h37 fun u41 h42=>strV u41 fun s43=>(ByteArray.size (s38++(⟨#[32]⟩:ByteArray))+ByteArray.size s43≤9223372036854775807)∧((ByteArray.size ((s38++(⟨#[32]⟩:ByteArray))++s43)+ByteArray.size (⟨#[32]⟩:ByteArray)≤9223372036854775807)∧((ByteArray.size (((s38++(⟨#[32]⟩:ByteArray))++s43)++(⟨#[32]⟩:ByteArray))+ByteArray.size s35≤9223372036854775807)∧(K (.string ((((s38++(⟨#[32]⟩:ByteArray))++s43)++(⟨#[32]⟩:ByteArray))++s35)) h42)))))∧(ptrN (some ⟨b1,0,none⟩) fun b44 o45=>ldV (HP.cell (HP.set hp b1 (.cells 34 x1 0)) b44 (o45+4)) fun v46=>intV v46 .i64 fun i47=>CF Tryd.prog 116 [(.int .i64 x0)] (HP.set hp b1 (.cells 34 x1 0)) fun u48 h49=>strV u48 fun s50=>(ByteArray.size s50+ByteArray.size (⟨#[32]⟩:ByteArray)≤9223372036854775807)∧(CF Tryd.prog 116 [(.int .i64 i47)] h49 fun u51 h52=>strV u51 fun s53=>(ByteArray.size (s50++(⟨#[32]⟩:ByteArray))+ByteArray.size s53≤9223372036854775807)∧((ByteArray.size ((s50++(⟨#[32]⟩:ByteArray))++s53)+ByteArray.size (⟨#[32]⟩:ByteArray)≤9223372036854775807)∧(ptrN (some ⟨b1,0,none⟩) fun b54 o55=>rdS Tryd.prog (convert 199 9 (.slice (some ⟨b54,(o55+0),none⟩) 4 4)) h52 fun u56=>strV u56 fun s57=>(ByteArray.size (((s50++(⟨#[32]⟩:ByteArray))++s53)++(⟨#[32]⟩:ByteArray))+ByteArray.size s57≤9223372036854775807)∧(K (.string ((((s50++(⟨#[32]⟩:ByteArray))++s53)++(⟨#[32]⟩:ByteArray))++s57)) h52)))))∧(ptrN (some ⟨b1,0,none⟩) fun b58 o59=>ldV (HP.cell (HP.set hp b1 (.cells 34 x1 0)) b58 (o59+4)) fun v60=>intV v60 .i64 fun i61=>CF Tryd.prog 116 [(.int .i64 x0)] (HP.set hp b1 (.cells 34 x1 0)) fun u62 h63=>strV u62 fun s64=>(ByteArray.size s64+ByteArray.size (⟨#[32]⟩:ByteArray)≤9223372036854775807)∧(ptrN (some ⟨b1,0,none⟩) fun b65 o66=>rdS Tryd.prog (convert 199 9 (.slice (some ⟨b65,(o66+0),none⟩) 4 4)) h63 fun u67=>strV u67 fun s68=>CF Tryd.prog 116 [(.int .i64 i61)] h63 fun u69 h70=>strV u69 fun s71=>(ByteArray.size (s64++(⟨#[32]⟩:ByteArray))+ByteArray.size s71≤9223372036854775807)∧((ByteArray.size ((s64++(⟨#[32]⟩:ByteArray))++s71)+ByteArray.size (⟨#[32]⟩:ByteArray)≤9223372036854775807)∧((ByteArray.size (((s64++(⟨#[32]⟩:ByteArray))++s71)++(⟨#[32]⟩:ByteArray))+ByteArray.size s68≤9223372036854775807)∧(K (.string ((((s64++(⟨#[32]⟩:ByteArray))++s71)++(⟨#[32]⟩:ByteArray))++s68)) h70)))))∧(ptrN (some ⟨b1,0,none⟩) fun b72 o73=>ldV (HP.cell (HP.set hp b1 (.cells 34 x1 0)) b72 (o73+4)) fun v74=>intV v74 .i64 fun i75=>ptrN (some ⟨b1,0,none⟩) fun b76 o77=>rdS Tryd.prog (convert 199 9 (.slice (some ⟨b76,(o77+0),none⟩) 4 4)) (HP.set hp b1 (.cells 34 x1 0)) fun u78=>strV u78 fun s79=>CF Tryd.prog 116 [(.int .i64 x0)] (HP.set hp b1 (.cells 34 x1 0)) fun u80 h81=>strV u80 fun s82=>(ByteArray.size s82+ByteArray.size (⟨#[32]⟩:ByteArray)≤9223372036854775807)∧(CF Tryd.prog 116 [(.int .i64 i75)] h81 fun u83 h84=>strV u83 fun s85=>(ByteArray.size (s82++(⟨#[32]⟩:ByteArray))+ByteArray.size s85≤9223372036854775807)∧((ByteArray.size ((s82++(⟨#[32]⟩:ByteArray))++s85)+ByteArray.size (⟨#[32]⟩:ByteArray)≤9223372036854775807)∧((ByteArray.size (((s82++(⟨#[32]⟩:ByteArray))++s85)++(⟨#[32]⟩:ByteArray))+ByteArray.size s79≤9223372036854775807)∧(K (.string ((((s82++(⟨#[32]⟩:ByteArray))++s85)++(⟨#[32]⟩:ByteArray))++s79)) h84)))))))
noncomputable def F105_code:Code:=(.seq (.region 0 (opsAt Tryd.f105 (pth 2)) false) (.seq (.region 1 (opsAt Tryd.f105 (pth 5)) true) .ret))
theorem F105_body:Tryd.f105.body=some F105_code:=by kernel_rfl
theorem F105_ok (x0:Int) (x1:List Value) (hp:HP) (K:Kh) (h:F105 x0 x1 hp K):CF Tryd.prog 105 [(.int .i64 x0),(.agg ⟨x1⟩)] hp K:=by
 refine .inl ⟨by kernel_rfl,AC.intro (N:=17) Tryd.func105 F105_body rfl (Nat.le_of_ble_eq_true rfl) ?_⟩
 unfold F105 at h
 refine Ar F105_r0 ?_ (r2 1 0 Rn) (z2 Sn) Sn
 refine fun b1 hb_b_1=>?_
 replace h:=h b1 hb_b_1
 refine Aq (AWP.rgnC (cf:=[(1,4),(1,10),(5,10)]) (c:=[([true,true,true],true,[0,1,2,3,4,5,6,7,8,9,10,11,12]),([true,true,false],true,[0,1,2,3,4,8,9,10,5,6,7,11,12]),([true,false,true],false,[1,4,5,10,1]),([true,false,false],true,[0,3,8,9,10,1,2,4,5,6,7,11,12]),([false,true,true],true,[0,3,4,1,2,5,6,7,8,9,10,11,12]),([false,true,false],true,[0,3,4,1,2,8,9,10,5,6,7,11,12]),([false,false,true],false,[1,5,10,1]),([false,false,false],true,[0,3,4,8,9,10,1,2,5,6,7,11,12])]) (by kernel_rfl) (by kernel_rfl) (by kernel_rfl) (by kernel_rfl) (allO_t (Eq.mpr F105_r1 ?_) (allO_t (Eq.mpr F105_r2 ?_) (allO_f (allO_t (Eq.mpr F105_r3 ?_) (allO_t (Eq.mpr F105_r4 ?_) (allO_t (Eq.mpr F105_r5 ?_) (allO_f (allO_t (Eq.mpr F105_r6 ?_) trivial)))))))) (r2 0 3 Rn) (z2 Sn) Sn)
 ·replace h:=h.1
  refine mC h (fun u2 h3 h=>ms h (fun s4 h=>⟨h.1,mN h.2 (fun b5 o6 h=>mV h (fun v7 h=>mI h (fun i8 h=>mC h (fun u9 h10 h=>ms h (fun s11 h=>⟨h.1,?_⟩)))))⟩))
  replace h:=h.2
  refine ⟨h.1,mN h.2 (fun b12 o13 h=>mR h (fun u14 h=>ms h (fun s15 h=>⟨h.1,?_⟩)))⟩
  replace h:=h.2
  refine AWP.ret ?_
  exact h
 ·replace h:=h.2.1
  refine mC h (fun u16 h17 h=>ms h (fun s18 h=>⟨h.1,mN h.2 (fun b19 o20 h=>mV h (fun v21 h=>mI h (fun i22 h=>mN h (fun b23 o24 h=>mR h (fun u25 h=>ms h (fun s26 h=>mC h (fun u27 h28 h=>ms h (fun s29 h=>⟨h.1,?_⟩))))))))⟩))
  replace h:=h.2
  refine ⟨h.1,?_⟩
  replace h:=h.2
  refine ⟨h.1,?_⟩
  replace h:=h.2
  refine AWP.ret ?_
  exact h
 ·replace h:=h.2.2.1
  refine mN h (fun b30 o31 h=>mN h (fun b32 o33 h=>mR h (fun u34 h=>ms h (fun s35 h=>mC h (fun u36 h37 h=>ms h (fun s38 h=>⟨h.1,mV h.2 (fun v39 h=>mI h (fun i40 h=>mC h (fun u41 h42 h=>ms h (fun s43 h=>⟨h.1,?_⟩))))⟩))))))
  replace h:=h.2
  refine ⟨h.1,?_⟩
  replace h:=h.2
  refine ⟨h.1,?_⟩
  replace h:=h.2
  refine AWP.ret ?_
  exact h
 ·replace h:=h.2.2.2.1
  refine mN h (fun b44 o45 h=>mV h (fun v46 h=>mI h (fun i47 h=>mC h (fun u48 h49 h=>ms h (fun s50 h=>⟨h.1,mC h.2 (fun u51 h52 h=>ms h (fun s53 h=>⟨h.1,?_⟩))⟩)))))
  replace h:=h.2
  refine ⟨h.1,mN h.2 (fun b54 o55 h=>mR h (fun u56 h=>ms h (fun s57 h=>⟨h.1,?_⟩)))⟩
  replace h:=h.2
  refine AWP.ret ?_
  exact h
 ·replace h:=h.2.2.2.2.1
  refine mN h (fun b58 o59 h=>mV h (fun v60 h=>mI h (fun i61 h=>mC h (fun u62 h63 h=>ms h (fun s64 h=>⟨h.1,mN h.2 (fun b65 o66 h=>mR h (fun u67 h=>ms h (fun s68 h=>mC h (fun u69 h70 h=>ms h (fun s71 h=>⟨h.1,?_⟩)))))⟩)))))
  replace h:=h.2
  refine ⟨h.1,?_⟩
  replace h:=h.2
  refine ⟨h.1,?_⟩
  replace h:=h.2
  refine AWP.ret ?_
  exact h
 ·replace h:=h.2.2.2.2.2
  refine mN h (fun b72 o73 h=>mV h (fun v74 h=>mI h (fun i75 h=>mN h (fun b76 o77 h=>mR h (fun u78 h=>ms h (fun s79 h=>mC h (fun u80 h81 h=>ms h (fun s82 h=>⟨h.1,mC h.2 (fun u83 h84 h=>ms h (fun s85 h=>⟨h.1,?_⟩))⟩))))))))
  replace h:=h.2
  refine ⟨h.1,?_⟩
  replace h:=h.2
  refine ⟨h.1,?_⟩
  replace h:=h.2
  refine AWP.ret ?_
  exact h
end
section
variable {e:Env} {x1:List Value} {hp:HP} {K:Env→PV→HP→Prop}
abbrev R107 (p n:Nat):=RW Tryd.prog 17 [] (opsAt Tryd.f107 (pth p)) (List.range n)
theorem F107_r0:R107 2 2 (upd e 1 (sA x1)) V0 hp K=
    (∀ b1:Nat,hp b1=.none→(K (w3 e 1 (sA x1) 3 (sQ b1 0) 4 (sV (.string (⟨#[]⟩:ByteArray)))) V0 (HP.set hp b1 (.cells 32 x1 0)))):=by kernel_rfl
theorem F107_r1 {e:Env} {x0:Int} {x3:OA} {hp:HP} {K:Env→PV→HP→Prop}:RW Tryd.prog 17 [] (opsAt Tryd.f107 (pth 5)) [0,1,2,3,4,5,6,7,8,9,10,11,12] (w2 e 3 (sP x3) 0 (sI x0)) V0 hp K=
    (CF Tryd.prog 116 [(.int .i64 x0)] hp fun u1 h2=>strV u1 fun s3=>(ByteArray.size s3+ByteArray.size (⟨#[32]⟩:ByteArray)≤9223372036854775807)∧(ptrN x3 fun b4 o5=>ldV (HP.cell h2 b4 (o5+16)) fun v6=>intV v6 .i64 fun i7=>CF Tryd.prog 116 [(.int .i64 i7)] h2 fun u8 h9=>strV u8 fun s10=>(ByteArray.size (s3++(⟨#[32]⟩:ByteArray))+ByteArray.size s10≤9223372036854775807)∧((ByteArray.size ((s3++(⟨#[32]⟩:ByteArray))++s10)+ByteArray.size (⟨#[32]⟩:ByteArray)≤9223372036854775807)∧(ptrN x3 fun b11 o12=>rdS Tryd.prog (convert 199 9 (.slice (some ⟨b11,(o12+0),none⟩) 16 16)) h9 fun u13=>strV u13 fun s14=>(ByteArray.size (((s3++(⟨#[32]⟩:ByteArray))++s10)++(⟨#[32]⟩:ByteArray))+ByteArray.size s14≤9223372036854775807)∧(K (w7 (w8 e 3 (sP x3) 0 (sI x0) 5 (sI x0) 6 (sT s3) 7 (sV (.string (s3++(⟨#[32]⟩:ByteArray)))) 8 (sQ b4 (o5+16)) 9 (sI i7) 10 (sT s10)) 11 (sV (.string ((s3++(⟨#[32]⟩:ByteArray))++s10))) 12 (sV (.string (((s3++(⟨#[32]⟩:ByteArray))++s10)++(⟨#[32]⟩:ByteArray)))) 13 (sQ b11 (o12+0)) 14 (sV (.slice (some ⟨b11,(o12+0),none⟩) 16 16)) 15 (sT s14) 16 (sV (.string ((((s3++(⟨#[32]⟩:ByteArray))++s10)++(⟨#[32]⟩:ByteArray))++s14))) 4 (sV (.string ((((s3++(⟨#[32]⟩:ByteArray))++s10)++(⟨#[32]⟩:ByteArray))++s14)))) V0 h9))))):=by kernel_rfl
theorem F107_r2 {e:Env} {x0:Int} {x3:OA} {hp:HP} {K:Env→PV→HP→Prop}:RW Tryd.prog 17 [] (opsAt Tryd.f107 (pth 5)) [0,1,2,3,4,8,9,10,5,6,7,11,12] (w2 e 3 (sP x3) 0 (sI x0)) V0 hp K=
    (CF Tryd.prog 116 [(.int .i64 x0)] hp fun u1 h2=>strV u1 fun s3=>(ByteArray.size s3+ByteArray.size (⟨#[32]⟩:ByteArray)≤9223372036854775807)∧(ptrN x3 fun b4 o5=>ldV (HP.cell h2 b4 (o5+16)) fun v6=>intV v6 .i64 fun i7=>ptrN x3 fun b8 o9=>rdS Tryd.prog (convert 199 9 (.slice (some ⟨b8,(o9+0),none⟩) 16 16)) h2 fun u10=>strV u10 fun s11=>CF Tryd.prog 116 [(.int .i64 i7)] h2 fun u12 h13=>strV u12 fun s14=>(ByteArray.size (s3++(⟨#[32]⟩:ByteArray))+ByteArray.size s14≤9223372036854775807)∧((ByteArray.size ((s3++(⟨#[32]⟩:ByteArray))++s14)+ByteArray.size (⟨#[32]⟩:ByteArray)≤9223372036854775807)∧((ByteArray.size (((s3++(⟨#[32]⟩:ByteArray))++s14)++(⟨#[32]⟩:ByteArray))+ByteArray.size s11≤9223372036854775807)∧(K (w7 (w8 e 3 (sP x3) 0 (sI x0) 5 (sI x0) 6 (sT s3) 7 (sV (.string (s3++(⟨#[32]⟩:ByteArray)))) 8 (sQ b4 (o5+16)) 9 (sI i7) 13 (sQ b8 (o9+0))) 14 (sV (.slice (some ⟨b8,(o9+0),none⟩) 16 16)) 15 (sT s11) 10 (sT s14) 11 (sV (.string ((s3++(⟨#[32]⟩:ByteArray))++s14))) 12 (sV (.string (((s3++(⟨#[32]⟩:ByteArray))++s14)++(⟨#[32]⟩:ByteArray)))) 16 (sV (.string ((((s3++(⟨#[32]⟩:ByteArray))++s14)++(⟨#[32]⟩:ByteArray))++s11))) 4 (sV (.string ((((s3++(⟨#[32]⟩:ByteArray))++s14)++(⟨#[32]⟩:ByteArray))++s11)))) V0 h13))))):=by kernel_rfl
theorem F107_r3 {e:Env} {x0:Int} {x3:OA} {hp:HP} {K:Env→PV→HP→Prop}:RW Tryd.prog 17 [] (opsAt Tryd.f107 (pth 5)) [0,3,8,9,10,1,2,4,5,6,7,11,12] (w2 e 3 (sP x3) 0 (sI x0)) V0 hp K=
    (ptrN x3 fun b1 o2=>ptrN x3 fun b3 o4=>rdS Tryd.prog (convert 199 9 (.slice (some ⟨b3,(o4+0),none⟩) 16 16)) hp fun u5=>strV u5 fun s6=>CF Tryd.prog 116 [(.int .i64 x0)] hp fun u7 h8=>strV u7 fun s9=>(ByteArray.size s9+ByteArray.size (⟨#[32]⟩:ByteArray)≤9223372036854775807)∧(ldV (HP.cell h8 b1 (o2+16)) fun v10=>intV v10 .i64 fun i11=>CF Tryd.prog 116 [(.int .i64 i11)] h8 fun u12 h13=>strV u12 fun s14=>(ByteArray.size (s9++(⟨#[32]⟩:ByteArray))+ByteArray.size s14≤9223372036854775807)∧((ByteArray.size ((s9++(⟨#[32]⟩:ByteArray))++s14)+ByteArray.size (⟨#[32]⟩:ByteArray)≤9223372036854775807)∧((ByteArray.size (((s9++(⟨#[32]⟩:ByteArray))++s14)++(⟨#[32]⟩:ByteArray))+ByteArray.size s6≤9223372036854775807)∧(K (w7 (w8 e 3 (sP x3) 0 (sI x0) 5 (sI x0) 8 (sQ b1 (o2+16)) 13 (sQ b3 (o4+0)) 14 (sV (.slice (some ⟨b3,(o4+0),none⟩) 16 16)) 15 (sT s6) 6 (sT s9)) 7 (sV (.string (s9++(⟨#[32]⟩:ByteArray)))) 9 (sI i11) 10 (sT s14) 11 (sV (.string ((s9++(⟨#[32]⟩:ByteArray))++s14))) 12 (sV (.string (((s9++(⟨#[32]⟩:ByteArray))++s14)++(⟨#[32]⟩:ByteArray)))) 16 (sV (.string ((((s9++(⟨#[32]⟩:ByteArray))++s14)++(⟨#[32]⟩:ByteArray))++s6))) 4 (sV (.string ((((s9++(⟨#[32]⟩:ByteArray))++s14)++(⟨#[32]⟩:ByteArray))++s6)))) V0 h13))))):=by kernel_rfl
theorem F107_r4 {e:Env} {x0:Int} {x3:OA} {hp:HP} {K:Env→PV→HP→Prop}:RW Tryd.prog 17 [] (opsAt Tryd.f107 (pth 5)) [0,3,4,1,2,5,6,7,8,9,10,11,12] (w2 e 3 (sP x3) 0 (sI x0)) V0 hp K=
    (ptrN x3 fun b1 o2=>ldV (HP.cell hp b1 (o2+16)) fun v3=>intV v3 .i64 fun i4=>CF Tryd.prog 116 [(.int .i64 x0)] hp fun u5 h6=>strV u5 fun s7=>(ByteArray.size s7+ByteArray.size (⟨#[32]⟩:ByteArray)≤9223372036854775807)∧(CF Tryd.prog 116 [(.int .i64 i4)] h6 fun u8 h9=>strV u8 fun s10=>(ByteArray.size (s7++(⟨#[32]⟩:ByteArray))+ByteArray.size s10≤9223372036854775807)∧((ByteArray.size ((s7++(⟨#[32]⟩:ByteArray))++s10)+ByteArray.size (⟨#[32]⟩:ByteArray)≤9223372036854775807)∧(ptrN x3 fun b11 o12=>rdS Tryd.prog (convert 199 9 (.slice (some ⟨b11,(o12+0),none⟩) 16 16)) h9 fun u13=>strV u13 fun s14=>(ByteArray.size (((s7++(⟨#[32]⟩:ByteArray))++s10)++(⟨#[32]⟩:ByteArray))+ByteArray.size s14≤9223372036854775807)∧(K (w7 (w8 e 3 (sP x3) 0 (sI x0) 5 (sI x0) 8 (sQ b1 (o2+16)) 9 (sI i4) 6 (sT s7) 7 (sV (.string (s7++(⟨#[32]⟩:ByteArray)))) 10 (sT s10)) 11 (sV (.string ((s7++(⟨#[32]⟩:ByteArray))++s10))) 12 (sV (.string (((s7++(⟨#[32]⟩:ByteArray))++s10)++(⟨#[32]⟩:ByteArray)))) 13 (sQ b11 (o12+0)) 14 (sV (.slice (some ⟨b11,(o12+0),none⟩) 16 16)) 15 (sT s14) 16 (sV (.string ((((s7++(⟨#[32]⟩:ByteArray))++s10)++(⟨#[32]⟩:ByteArray))++s14))) 4 (sV (.string ((((s7++(⟨#[32]⟩:ByteArray))++s10)++(⟨#[32]⟩:ByteArray))++s14)))) V0 h9))))):=by kernel_rfl
theorem F107_r5 {e:Env} {x0:Int} {x3:OA} {hp:HP} {K:Env→PV→HP→Prop}:RW Tryd.prog 17 [] (opsAt Tryd.f107 (pth 5)) [0,3,4,1,2,8,9,10,5,6,7,11,12] (w2 e 3 (sP x3) 0 (sI x0)) V0 hp K=
    (ptrN x3 fun b1 o2=>ldV (HP.cell hp b1 (o2+16)) fun v3=>intV v3 .i64 fun i4=>CF Tryd.prog 116 [(.int .i64 x0)] hp fun u5 h6=>strV u5 fun s7=>(ByteArray.size s7+ByteArray.size (⟨#[32]⟩:ByteArray)≤9223372036854775807)∧(ptrN x3 fun b8 o9=>rdS Tryd.prog (convert 199 9 (.slice (some ⟨b8,(o9+0),none⟩) 16 16)) h6 fun u10=>strV u10 fun s11=>CF Tryd.prog 116 [(.int .i64 i4)] h6 fun u12 h13=>strV u12 fun s14=>(ByteArray.size (s7++(⟨#[32]⟩:ByteArray))+ByteArray.size s14≤9223372036854775807)∧((ByteArray.size ((s7++(⟨#[32]⟩:ByteArray))++s14)+ByteArray.size (⟨#[32]⟩:ByteArray)≤9223372036854775807)∧((ByteArray.size (((s7++(⟨#[32]⟩:ByteArray))++s14)++(⟨#[32]⟩:ByteArray))+ByteArray.size s11≤9223372036854775807)∧(K (w7 (w8 e 3 (sP x3) 0 (sI x0) 5 (sI x0) 8 (sQ b1 (o2+16)) 9 (sI i4) 6 (sT s7) 7 (sV (.string (s7++(⟨#[32]⟩:ByteArray)))) 13 (sQ b8 (o9+0))) 14 (sV (.slice (some ⟨b8,(o9+0),none⟩) 16 16)) 15 (sT s11) 10 (sT s14) 11 (sV (.string ((s7++(⟨#[32]⟩:ByteArray))++s14))) 12 (sV (.string (((s7++(⟨#[32]⟩:ByteArray))++s14)++(⟨#[32]⟩:ByteArray)))) 16 (sV (.string ((((s7++(⟨#[32]⟩:ByteArray))++s14)++(⟨#[32]⟩:ByteArray))++s11))) 4 (sV (.string ((((s7++(⟨#[32]⟩:ByteArray))++s14)++(⟨#[32]⟩:ByteArray))++s11)))) V0 h13))))):=by kernel_rfl
theorem F107_r6 {e:Env} {x0:Int} {x3:OA} {hp:HP} {K:Env→PV→HP→Prop}:RW Tryd.prog 17 [] (opsAt Tryd.f107 (pth 5)) [0,3,4,8,9,10,1,2,5,6,7,11,12] (w2 e 3 (sP x3) 0 (sI x0)) V0 hp K=
    (ptrN x3 fun b1 o2=>ldV (HP.cell hp b1 (o2+16)) fun v3=>intV v3 .i64 fun i4=>ptrN x3 fun b5 o6=>rdS Tryd.prog (convert 199 9 (.slice (some ⟨b5,(o6+0),none⟩) 16 16)) hp fun u7=>strV u7 fun s8=>CF Tryd.prog 116 [(.int .i64 x0)] hp fun u9 h10=>strV u9 fun s11=>(ByteArray.size s11+ByteArray.size (⟨#[32]⟩:ByteArray)≤9223372036854775807)∧(CF Tryd.prog 116 [(.int .i64 i4)] h10 fun u12 h13=>strV u12 fun s14=>(ByteArray.size (s11++(⟨#[32]⟩:ByteArray))+ByteArray.size s14≤9223372036854775807)∧((ByteArray.size ((s11++(⟨#[32]⟩:ByteArray))++s14)+ByteArray.size (⟨#[32]⟩:ByteArray)≤9223372036854775807)∧((ByteArray.size (((s11++(⟨#[32]⟩:ByteArray))++s14)++(⟨#[32]⟩:ByteArray))+ByteArray.size s8≤9223372036854775807)∧(K (w7 (w8 e 3 (sP x3) 0 (sI x0) 5 (sI x0) 8 (sQ b1 (o2+16)) 9 (sI i4) 13 (sQ b5 (o6+0)) 14 (sV (.slice (some ⟨b5,(o6+0),none⟩) 16 16)) 15 (sT s8)) 6 (sT s11) 7 (sV (.string (s11++(⟨#[32]⟩:ByteArray)))) 10 (sT s14) 11 (sV (.string ((s11++(⟨#[32]⟩:ByteArray))++s14))) 12 (sV (.string (((s11++(⟨#[32]⟩:ByteArray))++s14)++(⟨#[32]⟩:ByteArray)))) 16 (sV (.string ((((s11++(⟨#[32]⟩:ByteArray))++s14)++(⟨#[32]⟩:ByteArray))++s8))) 4 (sV (.string ((((s11++(⟨#[32]⟩:ByteArray))++s14)++(⟨#[32]⟩:ByteArray))++s8)))) V0 h13))))):=by kernel_rfl
def F107 (x0:Int) (x1:List Value) (hp:HP) (K:Kh):Prop:=
  (∀ b1:Nat,hp b1=.none→((CF Tryd.prog 116 [(.int .i64 x0)] (HP.set hp b1 (.cells 32 x1 0)) fun u2 h3=>strV u2 fun s4=>(ByteArray.size s4+ByteArray.size (⟨#[32]⟩:ByteArray)≤9223372036854775807)∧(ptrN (some ⟨b1,0,none⟩) fun b5 o6=>ldV (HP.cell h3 b5 (o6+16)) fun v7=>intV v7 .i64 fun i8=>CF Tryd.prog 116 [(.int .i64 i8)] h3 fun u9 h10=>strV u9 fun s11=>(ByteArray.size (s4++(⟨#[32]⟩:ByteArray))+ByteArray.size s11≤9223372036854775807)∧((ByteArray.size ((s4++(⟨#[32]⟩:ByteArray))++s11)+ByteArray.size (⟨#[32]⟩:ByteArray)≤9223372036854775807)∧(ptrN (some ⟨b1,0,none⟩) fun b12 o13=>rdS Tryd.prog (convert 199 9 (.slice (some ⟨b12,(o13+0),none⟩) 16 16)) h10 fun u14=>strV u14 fun s15=>(ByteArray.size (((s4++(⟨#[32]⟩:ByteArray))++s11)++(⟨#[32]⟩:ByteArray))+ByteArray.size s15≤9223372036854775807)∧(K (.string ((((s4++(⟨#[32]⟩:ByteArray))++s11)++(⟨#[32]⟩:ByteArray))++s15)) h10)))))∧(CF Tryd.prog 116 [(.int .i64 x0)] (HP.set hp b1 (.cells 32 x1 0)) fun u16 h17=>strV u16 fun s18=>(ByteArray.size s18+ByteArray.size (⟨#[32]⟩:ByteArray)≤9223372036854775807)∧(ptrN (some ⟨b1,0,none⟩) fun b19 o20=>ldV (HP.cell h17 b19 (o20+16)) fun v21=>intV v21 .i64 fun i22=>ptrN (some ⟨b1,0,none⟩) fun b23 o24=>rdS Tryd.prog (convert 199 9 (.slice (some ⟨b23,(o24+0),none⟩) 16 16)) h17 fun u25=>strV u25 fun s26=>CF Tryd.prog 116 [(.int .i64 i22)] h17 fun u27 h28=>strV u27 fun s29=>(ByteArray.size (s18++(⟨#[32]⟩:ByteArray))+ByteArray.size s29≤9223372036854775807)∧((ByteArray.size ((s18++(⟨#[32]⟩:ByteArray))++s29)+ByteArray.size (⟨#[32]⟩:ByteArray)≤9223372036854775807)∧((ByteArray.size (((s18++(⟨#[32]⟩:ByteArray))++s29)++(⟨#[32]⟩:ByteArray))+ByteArray.size s26≤9223372036854775807)∧(K (.string ((((s18++(⟨#[32]⟩:ByteArray))++s29)++(⟨#[32]⟩:ByteArray))++s26)) h28)))))∧(ptrN (some ⟨b1,0,none⟩) fun b30 o31=>ptrN (some ⟨b1,0,none⟩) fun b32 o33=>rdS Tryd.prog (convert 199 9 (.slice (some ⟨b32,(o33+0),none⟩) 16 16)) (HP.set hp b1 (.cells 32 x1 0)) fun u34=>strV u34 fun s35=>CF Tryd.prog 116 [(.int .i64 x0)] (HP.set hp b1 (.cells 32 x1 0)) fun u36 h37=>strV u36 fun s38=>(ByteArray.size s38+ByteArray.size (⟨#[32]⟩:ByteArray)≤9223372036854775807)∧(ldV (HP.cell h37 b30 (o31+16)) fun v39=>intV v39 .i64 fun i40=>CF Tryd.prog 116 [(.int .i64 i40)] h37 fun u41 h42=>strV u41 fun s43=>(ByteArray.size (s38++(⟨#[32]⟩:ByteArray))+ByteArray.size s43≤9223372036854775807)∧((ByteArray.size ((s38++(⟨#[32]⟩:ByteArray))++s43)+ByteArray.size (⟨#[32]⟩:ByteArray)≤9223372036854775807)∧((ByteArray.size (((s38++(⟨#[32]⟩:ByteArray))++s43)++(⟨#[32]⟩:ByteArray))+ByteArray.size s35≤9223372036854775807)∧(K (.string ((((s38++(⟨#[32]⟩:ByteArray))++s43)++(⟨#[32]⟩:ByteArray))++s35)) h42)))))∧(ptrN (some ⟨b1,0,none⟩) fun b44 o45=>ldV (HP.cell (HP.set hp b1 (.cells 32 x1 0)) b44 (o45+16)) fun v46=>intV v46 .i64 fun i47=>CF Tryd.prog 116 [(.int .i64 x0)] (HP.set hp b1 (.cells 32 x1 0)) fun u48 h49=>strV u48 fun s50=>(ByteArray.size s50+ByteArray.size (⟨#[32]⟩:ByteArray)≤9223372036854775807)∧(CF Tryd.prog 116 [(.int .i64 i47)] h49 fun u51 h52=>strV u51 fun s53=>(ByteArray.size (s50++(⟨#[32]⟩:ByteArray))+ByteArray.size s53≤9223372036854775807)∧((ByteArray.size ((s50++(⟨#[32]⟩:ByteArray))++s53)+ByteArray.size (⟨#[32]⟩:ByteArray)≤9223372036854775807)∧(ptrN (some ⟨b1,0,none⟩) fun b54 o55=>rdS Tryd.prog (convert 199 9 (.slice (some ⟨b54,(o55+0),none⟩) 16 16)) h52 fun u56=>strV u56 fun s57=>(ByteArray.size (((s50++(⟨#[32]⟩:ByteArray))++s53)++(⟨#[32]⟩:ByteArray))+ByteArray.size s57≤9223372036854775807)∧(K (.string ((((s50++(⟨#[32]⟩:ByteArray))++s53)++(⟨#[32]⟩:ByteArray))++s57)) h52)))))∧(ptrN (some ⟨b1,0,none⟩) fun b58 o59=>ldV (HP.cell (HP.set hp b1 (.cells 32 x1 0)) b58 (o59+16)) fun v60=>intV v60 .i64 fun i61=>CF Tryd.prog 116 [(.int .i64 x0)] (HP.set hp b1 (.cells 32 x1 0)) fun u62 h63=>strV u62 fun s64=>(ByteArray.size s64+ByteArray.size (⟨#[32]⟩:ByteArray)≤9223372036854775807)∧(ptrN (some ⟨b1,0,none⟩) fun b65 o66=>rdS Tryd.prog (convert 199 9 (.slice (some ⟨b65,(o66+0),none⟩) 16 16)) h63 fun u67=>strV u67 fun s68=>CF Tryd.prog 116 [(.int .i64 i61)] h63 fun u69 h70=>strV u69 fun s71=>(ByteArray.size (s64++(⟨#[32]⟩:ByteArray))+ByteArray.size s71≤9223372036854775807)∧((ByteArray.size ((s64++(⟨#[32]⟩:ByteArray))++s71)+ByteArray.size (⟨#[32]⟩:ByteArray)≤9223372036854775807)∧((ByteArray.size (((s64++(⟨#[32]⟩:ByteArray))++s71)++(⟨#[32]⟩:ByteArray))+ByteArray.size s68≤9223372036854775807)∧(K (.string ((((s64++(⟨#[32]⟩:ByteArray))++s71)++(⟨#[32]⟩:ByteArray))++s68)) h70)))))∧(ptrN (some ⟨b1,0,none⟩) fun b72 o73=>ldV (HP.cell (HP.set hp b1 (.cells 32 x1 0)) b72 (o73+16)) fun v74=>intV v74 .i64 fun i75=>ptrN (some ⟨b1,0,none⟩) fun b76 o77=>rdS Tryd.prog (convert 199 9 (.slice (some ⟨b76,(o77+0),none⟩) 16 16)) (HP.set hp b1 (.cells 32 x1 0)) fun u78=>strV u78 fun s79=>CF Tryd.prog 116 [(.int .i64 x0)] (HP.set hp b1 (.cells 32 x1 0)) fun u80 h81=>strV u80 fun s82=>(ByteArray.size s82+ByteArray.size (⟨#[32]⟩:ByteArray)≤9223372036854775807)∧(CF Tryd.prog 116 [(.int .i64 i75)] h81 fun u83 h84=>strV u83 fun s85=>(ByteArray.size (s82++(⟨#[32]⟩:ByteArray))+ByteArray.size s85≤9223372036854775807)∧((ByteArray.size ((s82++(⟨#[32]⟩:ByteArray))++s85)+ByteArray.size (⟨#[32]⟩:ByteArray)≤9223372036854775807)∧((ByteArray.size (((s82++(⟨#[32]⟩:ByteArray))++s85)++(⟨#[32]⟩:ByteArray))+ByteArray.size s79≤9223372036854775807)∧(K (.string ((((s82++(⟨#[32]⟩:ByteArray))++s85)++(⟨#[32]⟩:ByteArray))++s79)) h84)))))))
noncomputable def F107_code:Code:=(.seq (.region 0 (opsAt Tryd.f107 (pth 2)) false) (.seq (.region 1 (opsAt Tryd.f107 (pth 5)) true) .ret))
theorem F107_body:Tryd.f107.body=some F107_code:=by kernel_rfl
theorem F107_ok (x0:Int) (x1:List Value) (hp:HP) (K:Kh) (h:F107 x0 x1 hp K):CF Tryd.prog 107 [(.int .i64 x0),(.agg ⟨x1⟩)] hp K:=by
 refine .inl ⟨by kernel_rfl,AC.intro (N:=17) Tryd.func107 F107_body rfl (Nat.le_of_ble_eq_true rfl) ?_⟩
 unfold F107 at h
 refine Ar F107_r0 ?_ (r2 1 0 Rn) (z2 Sn) Sn
 refine fun b1 hb_b_1=>?_
 replace h:=h b1 hb_b_1
 refine Aq (AWP.rgnC (cf:=[(1,4),(1,10),(5,10)]) (c:=[([true,true,true],true,[0,1,2,3,4,5,6,7,8,9,10,11,12]),([true,true,false],true,[0,1,2,3,4,8,9,10,5,6,7,11,12]),([true,false,true],false,[1,4,5,10,1]),([true,false,false],true,[0,3,8,9,10,1,2,4,5,6,7,11,12]),([false,true,true],true,[0,3,4,1,2,5,6,7,8,9,10,11,12]),([false,true,false],true,[0,3,4,1,2,8,9,10,5,6,7,11,12]),([false,false,true],false,[1,5,10,1]),([false,false,false],true,[0,3,4,8,9,10,1,2,5,6,7,11,12])]) (by kernel_rfl) (by kernel_rfl) (by kernel_rfl) (by kernel_rfl) (allO_t (Eq.mpr F107_r1 ?_) (allO_t (Eq.mpr F107_r2 ?_) (allO_f (allO_t (Eq.mpr F107_r3 ?_) (allO_t (Eq.mpr F107_r4 ?_) (allO_t (Eq.mpr F107_r5 ?_) (allO_f (allO_t (Eq.mpr F107_r6 ?_) trivial)))))))) (r2 0 3 Rn) (z2 Sn) Sn)
 ·replace h:=h.1
  refine mC h (fun u2 h3 h=>ms h (fun s4 h=>⟨h.1,mN h.2 (fun b5 o6 h=>mV h (fun v7 h=>mI h (fun i8 h=>mC h (fun u9 h10 h=>ms h (fun s11 h=>⟨h.1,?_⟩)))))⟩))
  replace h:=h.2
  refine ⟨h.1,mN h.2 (fun b12 o13 h=>mR h (fun u14 h=>ms h (fun s15 h=>⟨h.1,?_⟩)))⟩
  replace h:=h.2
  refine AWP.ret ?_
  exact h
 ·replace h:=h.2.1
  refine mC h (fun u16 h17 h=>ms h (fun s18 h=>⟨h.1,mN h.2 (fun b19 o20 h=>mV h (fun v21 h=>mI h (fun i22 h=>mN h (fun b23 o24 h=>mR h (fun u25 h=>ms h (fun s26 h=>mC h (fun u27 h28 h=>ms h (fun s29 h=>⟨h.1,?_⟩))))))))⟩))
  replace h:=h.2
  refine ⟨h.1,?_⟩
  replace h:=h.2
  refine ⟨h.1,?_⟩
  replace h:=h.2
  refine AWP.ret ?_
  exact h
 ·replace h:=h.2.2.1
  refine mN h (fun b30 o31 h=>mN h (fun b32 o33 h=>mR h (fun u34 h=>ms h (fun s35 h=>mC h (fun u36 h37 h=>ms h (fun s38 h=>⟨h.1,mV h.2 (fun v39 h=>mI h (fun i40 h=>mC h (fun u41 h42 h=>ms h (fun s43 h=>⟨h.1,?_⟩))))⟩))))))
  replace h:=h.2
  refine ⟨h.1,?_⟩
  replace h:=h.2
  refine ⟨h.1,?_⟩
  replace h:=h.2
  refine AWP.ret ?_
  exact h
 ·replace h:=h.2.2.2.1
  refine mN h (fun b44 o45 h=>mV h (fun v46 h=>mI h (fun i47 h=>mC h (fun u48 h49 h=>ms h (fun s50 h=>⟨h.1,mC h.2 (fun u51 h52 h=>ms h (fun s53 h=>⟨h.1,?_⟩))⟩)))))
  replace h:=h.2
  refine ⟨h.1,mN h.2 (fun b54 o55 h=>mR h (fun u56 h=>ms h (fun s57 h=>⟨h.1,?_⟩)))⟩
  replace h:=h.2
  refine AWP.ret ?_
  exact h
 ·replace h:=h.2.2.2.2.1
  refine mN h (fun b58 o59 h=>mV h (fun v60 h=>mI h (fun i61 h=>mC h (fun u62 h63 h=>ms h (fun s64 h=>⟨h.1,mN h.2 (fun b65 o66 h=>mR h (fun u67 h=>ms h (fun s68 h=>mC h (fun u69 h70 h=>ms h (fun s71 h=>⟨h.1,?_⟩)))))⟩)))))
  replace h:=h.2
  refine ⟨h.1,?_⟩
  replace h:=h.2
  refine ⟨h.1,?_⟩
  replace h:=h.2
  refine AWP.ret ?_
  exact h
 ·replace h:=h.2.2.2.2.2
  refine mN h (fun b72 o73 h=>mV h (fun v74 h=>mI h (fun i75 h=>mN h (fun b76 o77 h=>mR h (fun u78 h=>ms h (fun s79 h=>mC h (fun u80 h81 h=>ms h (fun s82 h=>⟨h.1,mC h.2 (fun u83 h84 h=>ms h (fun s85 h=>⟨h.1,?_⟩))⟩))))))))
  replace h:=h.2
  refine ⟨h.1,?_⟩
  replace h:=h.2
  refine ⟨h.1,?_⟩
  replace h:=h.2
  refine AWP.ret ?_
  exact h
end
section
variable {e E:Env} {x0a:OA} {x0n x0c:Nat} {x1 x5 x7 x8:Int} {hp:HP} {K:Env→PV→HP→Prop}
abbrev R112 (p n:Nat):=RW Tryd.prog 19 [] (opsAt Tryd.f112 (pth p)) (List.range n)
theorem F112_r0:R112 2 1 e V0 hp K=
 K (upd e 4 (sI 0)) V0 hp:= by kernel_rfl
theorem F112_r1:R112 69 1 (w2 e 8 (sI x8) 7 (sI x7)) V0 hp K=
 K (w3 e 8 (sI x8) 7 (sI x7) 9 (sB (decide (x8<x7)))) V0 hp:= by kernel_rfl
theorem F112_r2:R112 1125 2 (upd e 8 (sI x8)) V0 hp K=
 K (w3 e 8 (sI x8) 10 (sI x8) 5 (sI x8)) V0 hp:= by kernel_rfl
theorem F112_r3 (h:E=upd (w2 e 5 (sI x5) 1 (sI x1)) 0 (sS x0a x0n x0c)):R112 2661 6 E V0 hp K=
    ((0≤x5)∧(x5<x0n)∧(ptrN x0a fun b1 o2=>ldV (HP.cell hp b1 (o2+Int.toNat x5*1)) fun v3=>intV v3 .i64 fun i4=>K (w6 E 11 (sI x1) 12 (sS x0a x0n x0c) 13 (sI x5) 14 (sQ b1 (o2+Int.toNat x5*1)) 15 (sI i4) 16 (sB ((x1==i4)))) V0 hp)):=by subst h; kernel_rfl
theorem F112_r4:R112 9829 2 (upd e 5 (sI x5)) V0 hp K=
 K (w3 e 5 (sI x5) 17 (sI x5) 4 (sI x5)) V0 hp:= by kernel_rfl
theorem F112_r5:R112 485 2 (upd e 8 (sI x8)) V0 hp K=
 K (w3 e 8 (sI x8) 18 (sI ((wr (x8+1)))) 8 (sI ((wr (x8+1))))) V0 hp:= by kernel_rfl
theorem F112_r6:R112 11 1 e V0 hp K=
 K (upd e 4 (sI ((-1)))) V0 hp:= by kernel_rfl
def F112_l2 (x0a:OA) (x0n x0c:Nat) (x1 x7:Int) (K:Kh) (I2:(Int)→HP→Prop) (x8:Int) (hp:HP):Prop:=
  (ite2 (decide (x8<x7)) ((0≤x8)∧(x8<x0n)∧(ptrN x0a fun b1 o2=>ldV (HP.cell hp b1 (o2+Int.toNat x8*1)) fun v3=>intV v3 .i64 fun i4=>ite2 (x1==i4) (K (.int .i64 x8) hp) (I2 (IntKind.wrap .i64 (x8+1)) hp))) (K (.int .i64 (-1)) hp))
def F112_j1 (x0a:OA) (x0n x0c:Nat) (x1 x7 x8:Int) (hp:HP) (K:Kh):Prop:=
  (LoopP (σ:=Int) (fun I s hp=>F112_l2 x0a x0n x0c x1 x7  K I s hp) x8 hp)
theorem F112_r7:R112 9 3 (upd e 0 (sS x0a x0n x0c)) V0 hp K=
 K (w4 e 0 (sS x0a x0n x0c) 6 (sS x0a x0n x0c) 7 (sI ((x0n:Nat))) 8 (sI 0)) V0 hp:= by kernel_rfl
def F112 (x0a:OA) (x0n x0c:Nat) (x1:Int) (hp:HP) (K:Kh):Prop:=
  (F112_j1 x0a x0n x0c x1 (x0n:Nat) 0 hp  K)
noncomputable abbrev o112 (k n:Nat):Code:=.region k (opsAt Tryd.f112 (pth n)) false
noncomputable def F112_code:Code:=(.seq (o112 0 2) (.seq (.seq (o112 1 9) (.block 0 (.loop (.seq (o112 2 69) (.seq (.cond (.tmp 9) .skip (.exit 0)) (.seq (.block 1 (.seq (o112 3 1125) (.seq (o112 4 2661) (.cond (.tmp 16) (.seq (o112 5 9829) .ret) .skip)))) (o112 6 485))))))) (.seq (o112 7 11) .ret)))
theorem F112_body:Tryd.f112.body=some F112_code:=by kernel_rfl
theorem F112_ok (x0a:OA) (x0n x0c:Nat) (x1:Int) (hp:HP) (K:Kh) (h:F112 x0a x0n x0c x1 hp K):CF Tryd.prog 112 [(.slice x0a x0n x0c),(.int .i64 x1)] hp K:=by
 refine .inl ⟨by kernel_rfl,AC.intro (N:=19) Tryd.func112 F112_body rfl (Nat.le_of_ble_eq_true rfl) ?_⟩
 unfold F112 at h
 refine Ar F112_r0 ?_ (r2 0 1 Rn) (z2 Sn) Sn
 refine Aq (As (fun env pv hp=>∃ x0a x0n x0c x1 x7 x8,Sub (w4 E0 8 (sI x8) 7 (sI x7) 1 (sI x1) 0 (sS x0a x0n x0c)) env∧Sub V0 pv∧F112_j1 x0a x0n x0c x1 x7 x8 hp  K) ?_ ?_)
 ·refine Ag F112_r7 ?_ (r2 0 1 Rn) (z2 Sn) Sn
  exact ⟨_,_,_,_,_,_,(z4 Sn),Sn,h⟩
 ·rintro env pv hp ⟨x0a,x0n,x0c,x1,x7,x8,he,hv,h⟩
  refine Ae ?_ (r4 0 1 7 8 Rn) he hv
  unfold F112_j1 at h
  refine AWP.block (AWP.loop (σ:=Int) _ (fun s=>w4 E0 8 (sI s) 7 (sI x7) 1 (sI x1) 0 (sS x0a x0n x0c)) (fun s=>V0) x8 h (fun s=>r4 0 1 7 8 Rn) (z4 Sn) Sn ?_)
  intro I2 x8 hp h
  replace h:F112_l2 x0a x0n x0c x1 x7  K I2 x8 hp:=h
  unfold F112_l2 at h
  refine Ar F112_r1 ?_ (r4 7 8 0 1 Rn) (z4 Sn) Sn
  refine Aq (Ac h rfl (fun h=>?_) (fun h=>?_))
  ·refine AWP.skip (Aq (AWP.block (Ar F112_r2 ?_ (r4 8 0 1 7 Rn) (z4 Sn) Sn)))
   refine Ar (F112_r3 rfl) ?_ (r5 0 1 5 7 8 Rn) (z5 Sn) Sn
   refine ⟨h.1,h.2.1,mN h.2.2 fun b1 o2 h=>mV h fun v3 h=>mI h fun i4 h=>?_⟩
   refine Ac h rfl (fun h=>?_) (fun h=>?_)
   ·refine Ar F112_r4 ?_ (r1 5 Rn) (z1 Sn) Sn
    refine AWP.ret ?_
    exact h
   ·refine AWP.skip (Ag F112_r5 ?_ (r4 8 0 1 7 Rn) (z4 Sn) Sn)
    exact ⟨_,(z4 Sn),Sn,h⟩
  ·refine AWP.exit ?_
   refine Ar F112_r6 ?_ Rn Sn Sn
   refine AWP.ret ?_
   exact h
end
section
variable {e:Env} {x0:OA} {x2 k5 k6:List Value} {hp:HP} {K:Env→PV→HP→Prop}
abbrev R65 (p n:Nat):=RW Tryd.prog 25 [5,6] (opsAt Tryd.f65 (pth p)) (List.range n)
theorem F65_r0:R65 2 3 (upd e 2 (sA x2)) V0 hp K=
 K (w4 e 2 (sA x2) 5 (sR 5 0) 6 (sR 6 0) 7 (sB false)) (w2 V0 5 (32,x2) 6 (36,[.int .i64 0,.int .i64 0,.int .u8 0,.int .u8 0,.int .u8 0,.int .u8 0,.int .u8 0,.int .u8 0,.int .u8 0,.int .u8 0,.int .u8 0,.int .u8 0,.int .u8 0,.int .u8 0,.int .u8 0,.int .u8 0,.int .u8 0,.int .u8 0,.int .i64 0,.int .u8 0,.int .u8 0,.int .u8 0,.int .u8 0,.int .i64 0,.bool false,.int .i64 0])) hp:= by kernel_rfl
theorem F65_r1:R65 9 2 (upd e 0 (sP x0)) (w2 V0 6 (36,k6) 5 (32,k5)) hp K=
 CF Tryd.prog 71 [(.pointer x0)] hp fun u1 h2=>(boolV u1 fun q3=>K (w3 e 0 (sP x0) 8 (sP x0) 9 (sB q3)) (w2 V0 6 (36,k6) 5 (32,k5)) h2):= by kernel_rfl
theorem F65_r2:R65 37 3 (upd e 6 (sR 6 0)) (upd V0 6 (36,k6)) hp K=
    (if List.length [(Value.int .i64 0),.int .i64 0,.int .u8 0,.int .u8 0,.int .u8 0,.int .u8 0,.int .u8 0,.int .u8 0,.int .u8 0,.int .u8 0,.int .u8 0,.int .u8 0,.int .u8 0,.int .u8 0,.int .u8 0,.int .u8 0,.int .u8 0,.int .u8 0,.int .i64 0,.int .u8 0,.int .u8 0,.int .u8 0,.int .u8 0,.int .i64 0,.bool false,.int .i64 0]=26 then (if List.all [(Value.int .i64 0),.int .i64 0,.int .u8 0,.int .u8 0,.int .u8 0,.int .u8 0,.int .u8 0,.int .u8 0,.int .u8 0,.int .u8 0,.int .u8 0,.int .u8 0,.int .u8 0,.int .u8 0,.int .u8 0,.int .u8 0,.int .u8 0,.int .u8 0,.int .i64 0,.int .u8 0,.int .u8 0,.int .u8 0,.int .u8 0,.int .i64 0,.bool false,.int .i64 0] one=true then (if 0+List.length [(Value.int .i64 0),.int .i64 0,.int .u8 0,.int .u8 0,.int .u8 0,.int .u8 0,.int .u8 0,.int .u8 0,.int .u8 0,.int .u8 0,.int .u8 0,.int .u8 0,.int .u8 0,.int .u8 0,.int .u8 0,.int .u8 0,.int .u8 0,.int .u8 0,.int .i64 0,.int .u8 0,.int .u8 0,.int .u8 0,.int .u8 0,.int .i64 0,.bool false,.int .i64 0]≤List.length k6 then (K (w3 e 6 (sR 6 0) 10 (sV (.agg ⟨[.int .i64 0,.int .i64 0,.int .u8 0,.int .u8 0,.int .u8 0,.int .u8 0,.int .u8 0,.int .u8 0,.int .u8 0,.int .u8 0,.int .u8 0,.int .u8 0,.int .u8 0,.int .u8 0,.int .u8 0,.int .u8 0,.int .u8 0,.int .u8 0,.int .i64 0,.int .u8 0,.int .u8 0,.int .u8 0,.int .u8 0,.int .i64 0,.bool false,.int .i64 0]⟩)) 7 (sB false)) (w2 V0 6 (36,k6) 6 (36,(splice k6 0 [.int .i64 0,.int .i64 0,.int .u8 0,.int .u8 0,.int .u8 0,.int .u8 0,.int .u8 0,.int .u8 0,.int .u8 0,.int .u8 0,.int .u8 0,.int .u8 0,.int .u8 0,.int .u8 0,.int .u8 0,.int .u8 0,.int .u8 0,.int .u8 0,.int .i64 0,.int .u8 0,.int .u8 0,.int .u8 0,.int .u8 0,.int .i64 0,.bool false,.int .i64 0]))) hp) else False) else False) else False):=by kernel_rfl
theorem F65_r3 {e:Env} {x0:OA} {x1:Int} {k5:List Value} {k6:List Value} {hp:HP} {K:Env→PV→HP→Prop}:RW Tryd.prog 25 [5,6] (opsAt Tryd.f65 (pth 11)) [0,1,2,3,4,5,6,7,8,9,10,11,12,13,14,15] (w4 e 6 (sR 6 0) 5 (sR 5 0) 1 (sI x1) 0 (sP x0)) (w2 V0 6 (36,k6) 5 (32,k5)) hp K=
 ptrN x0 fun b1 o2=>(ldV (HP.cell hp b1 (o2+7)) fun v3=>ptrV v3 fun p4=>ldL (cellsN k5 0 17) fun l5=>CF Tryd.prog 107 [(.int .i64 x1),(.agg ⟨l5⟩)] hp fun u6 h7=>strV u6 fun s8=>CF Tryd.prog 84 [(.pointer p4),(.string s8)] h7 fun u9 h10=>tup2V u9 fun u11 u12=>intV u11 .i64 fun i13=>boolV u12 fun q14=>CF Tryd.prog 81 [(.pointer x0),(.int .i64 i13),(.bool q14)] h10 fun u15 h16=>tup2V u15 fun u17 u18=>aggV u17 fun l19=>boolV u18 fun q20=>if List.length l19=26 then (if List.all l19 one=true then (if 0+List.length l19≤List.length k6 then (K (w3 (w8 (w8 e 6 (sR 6 0) 5 (sR 5 0) 1 (sI x1) 0 (sP x0) 11 (sP x0) 12 (sP x0) 13 (sQ b1 o2) 14 (sQ b1 (o2+7))) 15 (sP p4) 16 (sI x1) 17 (sA l5) 18 (sT s8) 19 (sV (.tuple ⟨[(.int .i64 i13),(.bool q14)]⟩)) 20 (sI i13) 21 (sB q14) 22 (sV (.tuple ⟨[(.agg ⟨l19⟩),(.bool q20)]⟩))) 23 (sA l19) 24 (sB q20) 7 (sB q20)) (w3 V0 6 (36,k6) 5 (32,k5) 6 (36,(splice k6 0 l19))) h16) else False) else False) else False):= by kernel_rfl
theorem F65_r4 {e:Env} {x0:OA} {x1:Int} {k5:List Value} {k6:List Value} {hp:HP} {K:Env→PV→HP→Prop}:RW Tryd.prog 25 [5,6] (opsAt Tryd.f65 (pth 11)) [0,1,2,3,5,6,7,4,8,9,10,11,12,13,14,15] (w4 e 6 (sR 6 0) 5 (sR 5 0) 1 (sI x1) 0 (sP x0)) (w2 V0 6 (36,k6) 5 (32,k5)) hp K=
 ptrN x0 fun b1 o2=>(ldL (cellsN k5 0 17) fun l3=>CF Tryd.prog 107 [(.int .i64 x1),(.agg ⟨l3⟩)] hp fun u4 h5=>strV u4 fun s6=>ldV (HP.cell h5 b1 (o2+7)) fun v7=>ptrV v7 fun p8=>CF Tryd.prog 84 [(.pointer p8),(.string s6)] h5 fun u9 h10=>tup2V u9 fun u11 u12=>intV u11 .i64 fun i13=>boolV u12 fun q14=>CF Tryd.prog 81 [(.pointer x0),(.int .i64 i13),(.bool q14)] h10 fun u15 h16=>tup2V u15 fun u17 u18=>aggV u17 fun l19=>boolV u18 fun q20=>if List.length l19=26 then (if List.all l19 one=true then (if 0+List.length l19≤List.length k6 then (K (w3 (w8 (w8 e 6 (sR 6 0) 5 (sR 5 0) 1 (sI x1) 0 (sP x0) 11 (sP x0) 12 (sP x0) 13 (sQ b1 o2) 14 (sQ b1 (o2+7))) 16 (sI x1) 17 (sA l3) 18 (sT s6) 15 (sP p8) 19 (sV (.tuple ⟨[(.int .i64 i13),(.bool q14)]⟩)) 20 (sI i13) 21 (sB q14) 22 (sV (.tuple ⟨[(.agg ⟨l19⟩),(.bool q20)]⟩))) 23 (sA l19) 24 (sB q20) 7 (sB q20)) (w3 V0 6 (36,k6) 5 (32,k5) 6 (36,(splice k6 0 l19))) h16) else False) else False) else False):= by kernel_rfl
def F65 (x0:OA) (x1:Int) (x2:List Value) (hp:HP) (K:Kh):Prop:=
  (CF Tryd.prog 71 [(.pointer x0)] hp fun u1 h2=>boolV u1 fun q3=>ite2 q3 (if List.length [(Value.int .i64 0),.int .i64 0,.int .u8 0,.int .u8 0,.int .u8 0,.int .u8 0,.int .u8 0,.int .u8 0,.int .u8 0,.int .u8 0,.int .u8 0,.int .u8 0,.int .u8 0,.int .u8 0,.int .u8 0,.int .u8 0,.int .u8 0,.int .u8 0,.int .i64 0,.int .u8 0,.int .u8 0,.int .u8 0,.int .u8 0,.int .i64 0,.bool false,.int .i64 0]=26 then (if List.all [(Value.int .i64 0),.int .i64 0,.int .u8 0,.int .u8 0,.int .u8 0,.int .u8 0,.int .u8 0,.int .u8 0,.int .u8 0,.int .u8 0,.int .u8 0,.int .u8 0,.int .u8 0,.int .u8 0,.int .u8 0,.int .u8 0,.int .u8 0,.int .u8 0,.int .i64 0,.int .u8 0,.int .u8 0,.int .u8 0,.int .u8 0,.int .i64 0,.bool false,.int .i64 0] one=true then (if 0+List.length [(Value.int .i64 0),.int .i64 0,.int .u8 0,.int .u8 0,.int .u8 0,.int .u8 0,.int .u8 0,.int .u8 0,.int .u8 0,.int .u8 0,.int .u8 0,.int .u8 0,.int .u8 0,.int .u8 0,.int .u8 0,.int .u8 0,.int .u8 0,.int .u8 0,.int .i64 0,.int .u8 0,.int .u8 0,.int .u8 0,.int .u8 0,.int .i64 0,.bool false,.int .i64 0]≤List.length [(Value.int .i64 0),.int .i64 0,.int .u8 0,.int .u8 0,.int .u8 0,.int .u8 0,.int .u8 0,.int .u8 0,.int .u8 0,.int .u8 0,.int .u8 0,.int .u8 0,.int .u8 0,.int .u8 0,.int .u8 0,.int .u8 0,.int .u8 0,.int .u8 0,.int .i64 0,.int .u8 0,.int .u8 0,.int .u8 0,.int .u8 0,.int .i64 0,.bool false,.int .i64 0] then (ldL (cellsN (splice [.int .i64 0,.int .i64 0,.int .u8 0,.int .u8 0,.int .u8 0,.int .u8 0,.int .u8 0,.int .u8 0,.int .u8 0,.int .u8 0,.int .u8 0,.int .u8 0,.int .u8 0,.int .u8 0,.int .u8 0,.int .u8 0,.int .u8 0,.int .u8 0,.int .i64 0,.int .u8 0,.int .u8 0,.int .u8 0,.int .u8 0,.int .i64 0,.bool false,.int .i64 0] 0 [.int .i64 0,.int .i64 0,.int .u8 0,.int .u8 0,.int .u8 0,.int .u8 0,.int .u8 0,.int .u8 0,.int .u8 0,.int .u8 0,.int .u8 0,.int .u8 0,.int .u8 0,.int .u8 0,.int .u8 0,.int .u8 0,.int .u8 0,.int .u8 0,.int .i64 0,.int .u8 0,.int .u8 0,.int .u8 0,.int .u8 0,.int .i64 0,.bool false,.int .i64 0]) 0 26) fun l4=>K (.tuple ⟨[(.agg ⟨l4⟩),.bool false]⟩) h2) else False) else False) else False) ((ptrN x0 fun b5 o6=>ldV (HP.cell h2 b5 (o6+7)) fun v7=>ptrV v7 fun p8=>ldL (cellsN x2 0 17) fun l9=>CF Tryd.prog 107 [(.int .i64 x1),(.agg ⟨l9⟩)] h2 fun u10 h11=>strV u10 fun s12=>CF Tryd.prog 84 [(.pointer p8),(.string s12)] h11 fun u13 h14=>tup2V u13 fun u15 u16=>intV u15 .i64 fun i17=>boolV u16 fun q18=>CF Tryd.prog 81 [(.pointer x0),(.int .i64 i17),(.bool q18)] h14 fun u19 h20=>tup2V u19 fun u21 u22=>aggV u21 fun l23=>boolV u22 fun q24=>if List.length l23=26 then (if List.all l23 one=true then (if 0+List.length l23≤List.length [(Value.int .i64 0),.int .i64 0,.int .u8 0,.int .u8 0,.int .u8 0,.int .u8 0,.int .u8 0,.int .u8 0,.int .u8 0,.int .u8 0,.int .u8 0,.int .u8 0,.int .u8 0,.int .u8 0,.int .u8 0,.int .u8 0,.int .u8 0,.int .u8 0,.int .i64 0,.int .u8 0,.int .u8 0,.int .u8 0,.int .u8 0,.int .i64 0,.bool false,.int .i64 0] then (ldL (cellsN (splice [.int .i64 0,.int .i64 0,.int .u8 0,.int .u8 0,.int .u8 0,.int .u8 0,.int .u8 0,.int .u8 0,.int .u8 0,.int .u8 0,.int .u8 0,.int .u8 0,.int .u8 0,.int .u8 0,.int .u8 0,.int .u8 0,.int .u8 0,.int .u8 0,.int .i64 0,.int .u8 0,.int .u8 0,.int .u8 0,.int .u8 0,.int .i64 0,.bool false,.int .i64 0] 0 l23) 0 26) fun l45=>K (.tuple ⟨[(.agg ⟨l45⟩),(.bool q24)]⟩) h20) else False) else False) else False)∧(ptrN x0 fun b25 o26=>ldL (cellsN x2 0 17) fun l27=>CF Tryd.prog 107 [(.int .i64 x1),(.agg ⟨l27⟩)] h2 fun u28 h29=>strV u28 fun s30=>ldV (HP.cell h29 b25 (o26+7)) fun v31=>ptrV v31 fun p32=>CF Tryd.prog 84 [(.pointer p32),(.string s30)] h29 fun u33 h34=>tup2V u33 fun u35 u36=>intV u35 .i64 fun i37=>boolV u36 fun q38=>CF Tryd.prog 81 [(.pointer x0),(.int .i64 i37),(.bool q38)] h34 fun u39 h40=>tup2V u39 fun u41 u42=>aggV u41 fun l43=>boolV u42 fun q44=>if List.length l43=26 then (if List.all l43 one=true then (if 0+List.length l43≤List.length [(Value.int .i64 0),.int .i64 0,.int .u8 0,.int .u8 0,.int .u8 0,.int .u8 0,.int .u8 0,.int .u8 0,.int .u8 0,.int .u8 0,.int .u8 0,.int .u8 0,.int .u8 0,.int .u8 0,.int .u8 0,.int .u8 0,.int .u8 0,.int .u8 0,.int .i64 0,.int .u8 0,.int .u8 0,.int .u8 0,.int .u8 0,.int .i64 0,.bool false,.int .i64 0] then (ldL (cellsN (splice [.int .i64 0,.int .i64 0,.int .u8 0,.int .u8 0,.int .u8 0,.int .u8 0,.int .u8 0,.int .u8 0,.int .u8 0,.int .u8 0,.int .u8 0,.int .u8 0,.int .u8 0,.int .u8 0,.int .u8 0,.int .u8 0,.int .u8 0,.int .u8 0,.int .i64 0,.int .u8 0,.int .u8 0,.int .u8 0,.int .u8 0,.int .i64 0,.bool false,.int .i64 0] 0 l43) 0 26) fun l46=>K (.tuple ⟨[(.agg ⟨l46⟩),(.bool q44)]⟩) h40) else False) else False) else False)))
noncomputable def F65_code:Code:=(.seq (.region 0 (opsAt Tryd.f65 (pth 2)) false) (.seq (.seq (.region 1 (opsAt Tryd.f65 (pth 9)) false) (.cond (.tmp 9) (.seq (.region 2 (opsAt Tryd.f65 (pth 37)) false) .ret) .skip)) (.seq (.region 3 (opsAt Tryd.f65 (pth 11)) true) .ret)))
theorem F65_body:Tryd.f65.body=some F65_code:=by kernel_rfl
theorem F65_ok (x0:OA) (x1:Int) (x2:List Value) (hp:HP) (K:Kh) (h:F65 x0 x1 x2 hp K):CF Tryd.prog 65 [(.pointer x0),(.int .i64 x1),(.agg ⟨x2⟩)] hp K:=by
 refine .inl ⟨by kernel_rfl,AC.intro (N:=25) Tryd.func65 F65_body rfl (Nat.le_of_ble_eq_true rfl) ?_⟩
 unfold F65 at h
 refine Ar F65_r0 ?_ (r3 2 0 1 Rn) (z3 Sn) Sn
 refine Aq (Ar F65_r1 ?_ (r2 0 1 (rp 5 5 0 (rp 6 6 0 Rn))) (z4 Sn) (z2 Sn))
 refine mC h fun u1 h2 h=>mB h fun q3 h=>?_
 refine Ac h rfl (fun h=>?_) (fun h=>?_)
 ·refine Ar F65_r2 ?_ (rp 6 6 0 Rn) (z1 Sn) (z1 Sn)
  refine mf h fun h=>mf h fun h=>mf h fun h=>?_
  refine AWP.ret ?_
  exact h
 ·refine AWP.skip (Aq (AWP.rgnC (cf:=[(4,7)]) (c:=[([true],true,[0,1,2,3,4,5,6,7,8,9,10,11,12,13,14,15]),([false],true,[0,1,2,3,5,6,7,4,8,9,10,11,12,13,14,15])]) (by kernel_rfl) (by kernel_rfl) (by kernel_rfl) (by kernel_rfl) (allO_t (Eq.mpr F65_r3 ?_) (allO_t (Eq.mpr F65_r4 ?_) trivial)) (r2 0 1 (rp 5 5 0 (rp 6 6 0 Rn))) (z4 Sn) (z2 Sn)))
  ·replace h:=h.1
   refine mN h fun b5 o6 h=>mV h fun v7 h=>mP h fun p8 h=>mL h fun l9 h=>mC h fun u10 h11 h=>ms h fun s12 h=>mC h fun u13 h14 h=>mT h fun u15 u16 h=>mI h fun i17 h=>mB h fun q18 h=>mC h fun u19 h20 h=>mT h fun u21 u22 h=>mA h fun l23 h=>mB h fun q24 h=>mf h fun h=>mf h fun h=>mf h fun h=>?_
   refine AWP.ret ?_
   exact h
  ·replace h:=h.2
   refine mN h fun b25 o26 h=>mL h fun l27 h=>mC h fun u28 h29 h=>ms h fun s30 h=>mV h fun v31 h=>mP h fun p32 h=>mC h fun u33 h34 h=>mT h fun u35 u36 h=>mI h fun i37 h=>mB h fun q38 h=>mC h fun u39 h40 h=>mT h fun u41 u42 h=>mA h fun l43 h=>mB h fun q44 h=>mf h fun h=>mf h fun h=>mf h fun h=>?_
   refine AWP.ret ?_
   exact h
end
section
variable {e:Env} {x0:OA} {x2 k5 k6:List Value} {hp:HP} {K:Env→PV→HP→Prop}
abbrev R63 (p n:Nat):=RW Tryd.prog 25 [5,6] (opsAt Tryd.f63 (pth p)) (List.range n)
theorem F63_r0:R63 2 3 (upd e 2 (sA x2)) V0 hp K=
 K (w4 e 2 (sA x2) 5 (sR 5 0) 6 (sR 6 0) 7 (sB false)) (w2 V0 5 (34,x2) 6 (36,[.int .i64 0,.int .i64 0,.int .u8 0,.int .u8 0,.int .u8 0,.int .u8 0,.int .u8 0,.int .u8 0,.int .u8 0,.int .u8 0,.int .u8 0,.int .u8 0,.int .u8 0,.int .u8 0,.int .u8 0,.int .u8 0,.int .u8 0,.int .u8 0,.int .i64 0,.int .u8 0,.int .u8 0,.int .u8 0,.int .u8 0,.int .i64 0,.bool false,.int .i64 0])) hp:= by kernel_rfl
theorem F63_r1:R63 9 2 (upd e 0 (sP x0)) (w2 V0 6 (36,k6) 5 (34,k5)) hp K=
 CF Tryd.prog 71 [(.pointer x0)] hp fun u1 h2=>(boolV u1 fun q3=>K (w3 e 0 (sP x0) 8 (sP x0) 9 (sB q3)) (w2 V0 6 (36,k6) 5 (34,k5)) h2):= by kernel_rfl
theorem F63_r2:R63 37 3 (upd e 6 (sR 6 0)) (upd V0 6 (36,k6)) hp K=
    (if List.length [(Value.int .i64 0),.int .i64 0,.int .u8 0,.int .u8 0,.int .u8 0,.int .u8 0,.int .u8 0,.int .u8 0,.int .u8 0,.int .u8 0,.int .u8 0,.int .u8 0,.int .u8 0,.int .u8 0,.int .u8 0,.int .u8 0,.int .u8 0,.int .u8 0,.int .i64 0,.int .u8 0,.int .u8 0,.int .u8 0,.int .u8 0,.int .i64 0,.bool false,.int .i64 0]=26 then (if List.all [(Value.int .i64 0),.int .i64 0,.int .u8 0,.int .u8 0,.int .u8 0,.int .u8 0,.int .u8 0,.int .u8 0,.int .u8 0,.int .u8 0,.int .u8 0,.int .u8 0,.int .u8 0,.int .u8 0,.int .u8 0,.int .u8 0,.int .u8 0,.int .u8 0,.int .i64 0,.int .u8 0,.int .u8 0,.int .u8 0,.int .u8 0,.int .i64 0,.bool false,.int .i64 0] one=true then (if 0+List.length [(Value.int .i64 0),.int .i64 0,.int .u8 0,.int .u8 0,.int .u8 0,.int .u8 0,.int .u8 0,.int .u8 0,.int .u8 0,.int .u8 0,.int .u8 0,.int .u8 0,.int .u8 0,.int .u8 0,.int .u8 0,.int .u8 0,.int .u8 0,.int .u8 0,.int .i64 0,.int .u8 0,.int .u8 0,.int .u8 0,.int .u8 0,.int .i64 0,.bool false,.int .i64 0]≤List.length k6 then (K (w3 e 6 (sR 6 0) 10 (sV (.agg ⟨[.int .i64 0,.int .i64 0,.int .u8 0,.int .u8 0,.int .u8 0,.int .u8 0,.int .u8 0,.int .u8 0,.int .u8 0,.int .u8 0,.int .u8 0,.int .u8 0,.int .u8 0,.int .u8 0,.int .u8 0,.int .u8 0,.int .u8 0,.int .u8 0,.int .i64 0,.int .u8 0,.int .u8 0,.int .u8 0,.int .u8 0,.int .i64 0,.bool false,.int .i64 0]⟩)) 7 (sB false)) (w2 V0 6 (36,k6) 6 (36,(splice k6 0 [.int .i64 0,.int .i64 0,.int .u8 0,.int .u8 0,.int .u8 0,.int .u8 0,.int .u8 0,.int .u8 0,.int .u8 0,.int .u8 0,.int .u8 0,.int .u8 0,.int .u8 0,.int .u8 0,.int .u8 0,.int .u8 0,.int .u8 0,.int .u8 0,.int .i64 0,.int .u8 0,.int .u8 0,.int .u8 0,.int .u8 0,.int .i64 0,.bool false,.int .i64 0]))) hp) else False) else False) else False):=by kernel_rfl
theorem F63_r3 {e:Env} {x0:OA} {x1:Int} {k5:List Value} {k6:List Value} {hp:HP} {K:Env→PV→HP→Prop}:RW Tryd.prog 25 [5,6] (opsAt Tryd.f63 (pth 11)) [0,1,2,3,4,5,6,7,8,9,10,11,12,13,14,15] (w4 e 6 (sR 6 0) 5 (sR 5 0) 1 (sI x1) 0 (sP x0)) (w2 V0 6 (36,k6) 5 (34,k5)) hp K=
 ptrN x0 fun b1 o2=>(ldV (HP.cell hp b1 (o2+8)) fun v3=>ptrV v3 fun p4=>ldL (cellsN k5 0 5) fun l5=>CF Tryd.prog 105 [(.int .i64 x1),(.agg ⟨l5⟩)] hp fun u6 h7=>strV u6 fun s8=>CF Tryd.prog 84 [(.pointer p4),(.string s8)] h7 fun u9 h10=>tup2V u9 fun u11 u12=>intV u11 .i64 fun i13=>boolV u12 fun q14=>CF Tryd.prog 81 [(.pointer x0),(.int .i64 i13),(.bool q14)] h10 fun u15 h16=>tup2V u15 fun u17 u18=>aggV u17 fun l19=>boolV u18 fun q20=>if List.length l19=26 then (if List.all l19 one=true then (if 0+List.length l19≤List.length k6 then (K (w3 (w8 (w8 e 6 (sR 6 0) 5 (sR 5 0) 1 (sI x1) 0 (sP x0) 11 (sP x0) 12 (sP x0) 13 (sQ b1 o2) 14 (sQ b1 (o2+8))) 15 (sP p4) 16 (sI x1) 17 (sA l5) 18 (sT s8) 19 (sV (.tuple ⟨[(.int .i64 i13),(.bool q14)]⟩)) 20 (sI i13) 21 (sB q14) 22 (sV (.tuple ⟨[(.agg ⟨l19⟩),(.bool q20)]⟩))) 23 (sA l19) 24 (sB q20) 7 (sB q20)) (w3 V0 6 (36,k6) 5 (34,k5) 6 (36,(splice k6 0 l19))) h16) else False) else False) else False):= by kernel_rfl
theorem F63_r4 {e:Env} {x0:OA} {x1:Int} {k5:List Value} {k6:List Value} {hp:HP} {K:Env→PV→HP→Prop}:RW Tryd.prog 25 [5,6] (opsAt Tryd.f63 (pth 11)) [0,1,2,3,5,6,7,4,8,9,10,11,12,13,14,15] (w4 e 6 (sR 6 0) 5 (sR 5 0) 1 (sI x1) 0 (sP x0)) (w2 V0 6 (36,k6) 5 (34,k5)) hp K=
 ptrN x0 fun b1 o2=>(ldL (cellsN k5 0 5) fun l3=>CF Tryd.prog 105 [(.int .i64 x1),(.agg ⟨l3⟩)] hp fun u4 h5=>strV u4 fun s6=>ldV (HP.cell h5 b1 (o2+8)) fun v7=>ptrV v7 fun p8=>CF Tryd.prog 84 [(.pointer p8),(.string s6)] h5 fun u9 h10=>tup2V u9 fun u11 u12=>intV u11 .i64 fun i13=>boolV u12 fun q14=>CF Tryd.prog 81 [(.pointer x0),(.int .i64 i13),(.bool q14)] h10 fun u15 h16=>tup2V u15 fun u17 u18=>aggV u17 fun l19=>boolV u18 fun q20=>if List.length l19=26 then (if List.all l19 one=true then (if 0+List.length l19≤List.length k6 then (K (w3 (w8 (w8 e 6 (sR 6 0) 5 (sR 5 0) 1 (sI x1) 0 (sP x0) 11 (sP x0) 12 (sP x0) 13 (sQ b1 o2) 14 (sQ b1 (o2+8))) 16 (sI x1) 17 (sA l3) 18 (sT s6) 15 (sP p8) 19 (sV (.tuple ⟨[(.int .i64 i13),(.bool q14)]⟩)) 20 (sI i13) 21 (sB q14) 22 (sV (.tuple ⟨[(.agg ⟨l19⟩),(.bool q20)]⟩))) 23 (sA l19) 24 (sB q20) 7 (sB q20)) (w3 V0 6 (36,k6) 5 (34,k5) 6 (36,(splice k6 0 l19))) h16) else False) else False) else False):= by kernel_rfl
def F63 (x0:OA) (x1:Int) (x2:List Value) (hp:HP) (K:Kh):Prop:=
  (CF Tryd.prog 71 [(.pointer x0)] hp fun u1 h2=>boolV u1 fun q3=>ite2 q3 (if List.length [(Value.int .i64 0),.int .i64 0,.int .u8 0,.int .u8 0,.int .u8 0,.int .u8 0,.int .u8 0,.int .u8 0,.int .u8 0,.int .u8 0,.int .u8 0,.int .u8 0,.int .u8 0,.int .u8 0,.int .u8 0,.int .u8 0,.int .u8 0,.int .u8 0,.int .i64 0,.int .u8 0,.int .u8 0,.int .u8 0,.int .u8 0,.int .i64 0,.bool false,.int .i64 0]=26 then (if List.all [(Value.int .i64 0),.int .i64 0,.int .u8 0,.int .u8 0,.int .u8 0,.int .u8 0,.int .u8 0,.int .u8 0,.int .u8 0,.int .u8 0,.int .u8 0,.int .u8 0,.int .u8 0,.int .u8 0,.int .u8 0,.int .u8 0,.int .u8 0,.int .u8 0,.int .i64 0,.int .u8 0,.int .u8 0,.int .u8 0,.int .u8 0,.int .i64 0,.bool false,.int .i64 0] one=true then (if 0+List.length [(Value.int .i64 0),.int .i64 0,.int .u8 0,.int .u8 0,.int .u8 0,.int .u8 0,.int .u8 0,.int .u8 0,.int .u8 0,.int .u8 0,.int .u8 0,.int .u8 0,.int .u8 0,.int .u8 0,.int .u8 0,.int .u8 0,.int .u8 0,.int .u8 0,.int .i64 0,.int .u8 0,.int .u8 0,.int .u8 0,.int .u8 0,.int .i64 0,.bool false,.int .i64 0]≤List.length [(Value.int .i64 0),.int .i64 0,.int .u8 0,.int .u8 0,.int .u8 0,.int .u8 0,.int .u8 0,.int .u8 0,.int .u8 0,.int .u8 0,.int .u8 0,.int .u8 0,.int .u8 0,.int .u8 0,.int .u8 0,.int .u8 0,.int .u8 0,.int .u8 0,.int .i64 0,.int .u8 0,.int .u8 0,.int .u8 0,.int .u8 0,.int .i64 0,.bool false,.int .i64 0] then (ldL (cellsN (splice [.int .i64 0,.int .i64 0,.int .u8 0,.int .u8 0,.int .u8 0,.int .u8 0,.int .u8 0,.int .u8 0,.int .u8 0,.int .u8 0,.int .u8 0,.int .u8 0,.int .u8 0,.int .u8 0,.int .u8 0,.int .u8 0,.int .u8 0,.int .u8 0,.int .i64 0,.int .u8 0,.int .u8 0,.int .u8 0,.int .u8 0,.int .i64 0,.bool false,.int .i64 0] 0 [.int .i64 0,.int .i64 0,.int .u8 0,.int .u8 0,.int .u8 0,.int .u8 0,.int .u8 0,.int .u8 0,.int .u8 0,.int .u8 0,.int .u8 0,.int .u8 0,.int .u8 0,.int .u8 0,.int .u8 0,.int .u8 0,.int .u8 0,.int .u8 0,.int .i64 0,.int .u8 0,.int .u8 0,.int .u8 0,.int .u8 0,.int .i64 0,.bool false,.int .i64 0]) 0 26) fun l4=>K (.tuple ⟨[(.agg ⟨l4⟩),.bool false]⟩) h2) else False) else False) else False) ((ptrN x0 fun b5 o6=>ldV (HP.cell h2 b5 (o6+8)) fun v7=>ptrV v7 fun p8=>ldL (cellsN x2 0 5) fun l9=>CF Tryd.prog 105 [(.int .i64 x1),(.agg ⟨l9⟩)] h2 fun u10 h11=>strV u10 fun s12=>CF Tryd.prog 84 [(.pointer p8),(.string s12)] h11 fun u13 h14=>tup2V u13 fun u15 u16=>intV u15 .i64 fun i17=>boolV u16 fun q18=>CF Tryd.prog 81 [(.pointer x0),(.int .i64 i17),(.bool q18)] h14 fun u19 h20=>tup2V u19 fun u21 u22=>aggV u21 fun l23=>boolV u22 fun q24=>if List.length l23=26 then (if List.all l23 one=true then (if 0+List.length l23≤List.length [(Value.int .i64 0),.int .i64 0,.int .u8 0,.int .u8 0,.int .u8 0,.int .u8 0,.int .u8 0,.int .u8 0,.int .u8 0,.int .u8 0,.int .u8 0,.int .u8 0,.int .u8 0,.int .u8 0,.int .u8 0,.int .u8 0,.int .u8 0,.int .u8 0,.int .i64 0,.int .u8 0,.int .u8 0,.int .u8 0,.int .u8 0,.int .i64 0,.bool false,.int .i64 0] then (ldL (cellsN (splice [.int .i64 0,.int .i64 0,.int .u8 0,.int .u8 0,.int .u8 0,.int .u8 0,.int .u8 0,.int .u8 0,.int .u8 0,.int .u8 0,.int .u8 0,.int .u8 0,.int .u8 0,.int .u8 0,.int .u8 0,.int .u8 0,.int .u8 0,.int .u8 0,.int .i64 0,.int .u8 0,.int .u8 0,.int .u8 0,.int .u8 0,.int .i64 0,.bool false,.int .i64 0] 0 l23) 0 26) fun l45=>K (.tuple ⟨[(.agg ⟨l45⟩),(.bool q24)]⟩) h20) else False) else False) else False)∧(ptrN x0 fun b25 o26=>ldL (cellsN x2 0 5) fun l27=>CF Tryd.prog 105 [(.int .i64 x1),(.agg ⟨l27⟩)] h2 fun u28 h29=>strV u28 fun s30=>ldV (HP.cell h29 b25 (o26+8)) fun v31=>ptrV v31 fun p32=>CF Tryd.prog 84 [(.pointer p32),(.string s30)] h29 fun u33 h34=>tup2V u33 fun u35 u36=>intV u35 .i64 fun i37=>boolV u36 fun q38=>CF Tryd.prog 81 [(.pointer x0),(.int .i64 i37),(.bool q38)] h34 fun u39 h40=>tup2V u39 fun u41 u42=>aggV u41 fun l43=>boolV u42 fun q44=>if List.length l43=26 then (if List.all l43 one=true then (if 0+List.length l43≤List.length [(Value.int .i64 0),.int .i64 0,.int .u8 0,.int .u8 0,.int .u8 0,.int .u8 0,.int .u8 0,.int .u8 0,.int .u8 0,.int .u8 0,.int .u8 0,.int .u8 0,.int .u8 0,.int .u8 0,.int .u8 0,.int .u8 0,.int .u8 0,.int .u8 0,.int .i64 0,.int .u8 0,.int .u8 0,.int .u8 0,.int .u8 0,.int .i64 0,.bool false,.int .i64 0] then (ldL (cellsN (splice [.int .i64 0,.int .i64 0,.int .u8 0,.int .u8 0,.int .u8 0,.int .u8 0,.int .u8 0,.int .u8 0,.int .u8 0,.int .u8 0,.int .u8 0,.int .u8 0,.int .u8 0,.int .u8 0,.int .u8 0,.int .u8 0,.int .u8 0,.int .u8 0,.int .i64 0,.int .u8 0,.int .u8 0,.int .u8 0,.int .u8 0,.int .i64 0,.bool false,.int .i64 0] 0 l43) 0 26) fun l46=>K (.tuple ⟨[(.agg ⟨l46⟩),(.bool q44)]⟩) h40) else False) else False) else False)))
noncomputable def F63_code:Code:=(.seq (.region 0 (opsAt Tryd.f63 (pth 2)) false) (.seq (.seq (.region 1 (opsAt Tryd.f63 (pth 9)) false) (.cond (.tmp 9) (.seq (.region 2 (opsAt Tryd.f63 (pth 37)) false) .ret) .skip)) (.seq (.region 3 (opsAt Tryd.f63 (pth 11)) true) .ret)))
theorem F63_body:Tryd.f63.body=some F63_code:=by kernel_rfl
theorem F63_ok (x0:OA) (x1:Int) (x2:List Value) (hp:HP) (K:Kh) (h:F63 x0 x1 x2 hp K):CF Tryd.prog 63 [(.pointer x0),(.int .i64 x1),(.agg ⟨x2⟩)] hp K:=by
 refine .inl ⟨by kernel_rfl,AC.intro (N:=25) Tryd.func63 F63_body rfl (Nat.le_of_ble_eq_true rfl) ?_⟩
 unfold F63 at h
 refine Ar F63_r0 ?_ (r3 2 0 1 Rn) (z3 Sn) Sn
 refine Aq (Ar F63_r1 ?_ (r2 0 1 (rp 5 5 0 (rp 6 6 0 Rn))) (z4 Sn) (z2 Sn))
 refine mC h fun u1 h2 h=>mB h fun q3 h=>?_
 refine Ac h rfl (fun h=>?_) (fun h=>?_)
 ·refine Ar F63_r2 ?_ (rp 6 6 0 Rn) (z1 Sn) (z1 Sn)
  refine mf h fun h=>mf h fun h=>mf h fun h=>?_
  refine AWP.ret ?_
  exact h
 ·refine AWP.skip (Aq (AWP.rgnC (cf:=[(4,7)]) (c:=[([true],true,[0,1,2,3,4,5,6,7,8,9,10,11,12,13,14,15]),([false],true,[0,1,2,3,5,6,7,4,8,9,10,11,12,13,14,15])]) (by kernel_rfl) (by kernel_rfl) (by kernel_rfl) (by kernel_rfl) (allO_t (Eq.mpr F63_r3 ?_) (allO_t (Eq.mpr F63_r4 ?_) trivial)) (r2 0 1 (rp 5 5 0 (rp 6 6 0 Rn))) (z4 Sn) (z2 Sn)))
  ·replace h:=h.1
   refine mN h fun b5 o6 h=>mV h fun v7 h=>mP h fun p8 h=>mL h fun l9 h=>mC h fun u10 h11 h=>ms h fun s12 h=>mC h fun u13 h14 h=>mT h fun u15 u16 h=>mI h fun i17 h=>mB h fun q18 h=>mC h fun u19 h20 h=>mT h fun u21 u22 h=>mA h fun l23 h=>mB h fun q24 h=>mf h fun h=>mf h fun h=>mf h fun h=>?_
   refine AWP.ret ?_
   exact h
  ·replace h:=h.2
   refine mN h fun b25 o26 h=>mL h fun l27 h=>mC h fun u28 h29 h=>ms h fun s30 h=>mV h fun v31 h=>mP h fun p32 h=>mC h fun u33 h34 h=>mT h fun u35 u36 h=>mI h fun i37 h=>mB h fun q38 h=>mC h fun u39 h40 h=>mT h fun u41 u42 h=>mA h fun l43 h=>mB h fun q44 h=>mf h fun h=>mf h fun h=>mf h fun h=>?_
   refine AWP.ret ?_
   exact h
end
section
variable {e E:Env} {x0:OA} {x1:Int} {x7:Bool} {k4:List Value} {hp:HP} {K:Env→PV→HP→Prop}
abbrev R29 (p n:Nat):=RW Tryd.prog 26 [4] (opsAt Tryd.f29 (pth p)) (List.range n)
theorem F29_r0:R29 2 2 e V0 hp K=
 K (w2 e 4 (sR 4 0) 5 (sB false)) (upd V0 4 (36,[.int .i64 0,.int .i64 0,.int .u8 0,.int .u8 0,.int .u8 0,.int .u8 0,.int .u8 0,.int .u8 0,.int .u8 0,.int .u8 0,.int .u8 0,.int .u8 0,.int .u8 0,.int .u8 0,.int .u8 0,.int .u8 0,.int .u8 0,.int .u8 0,.int .i64 0,.int .u8 0,.int .u8 0,.int .u8 0,.int .u8 0,.int .i64 0,.bool false,.int .i64 0])) hp:= by kernel_rfl
theorem F29_r1:R29 9 2 (upd e 0 (sP x0)) (upd V0 4 (36,k4)) hp K=
 CF Tryd.prog 71 [(.pointer x0)] hp fun u1 h2=>(boolV u1 fun q3=>K (w3 e 0 (sP x0) 8 (sP x0) 9 (sB q3)) (upd V0 4 (36,k4)) h2):= by kernel_rfl
theorem F29_r2:R29 37 3 (upd e 4 (sR 4 0)) (upd V0 4 (36,k4)) hp K=
    (if List.length [(Value.int .i64 0),.int .i64 0,.int .u8 0,.int .u8 0,.int .u8 0,.int .u8 0,.int .u8 0,.int .u8 0,.int .u8 0,.int .u8 0,.int .u8 0,.int .u8 0,.int .u8 0,.int .u8 0,.int .u8 0,.int .u8 0,.int .u8 0,.int .u8 0,.int .i64 0,.int .u8 0,.int .u8 0,.int .u8 0,.int .u8 0,.int .i64 0,.bool false,.int .i64 0]=26 then (if List.all [(Value.int .i64 0),.int .i64 0,.int .u8 0,.int .u8 0,.int .u8 0,.int .u8 0,.int .u8 0,.int .u8 0,.int .u8 0,.int .u8 0,.int .u8 0,.int .u8 0,.int .u8 0,.int .u8 0,.int .u8 0,.int .u8 0,.int .u8 0,.int .u8 0,.int .i64 0,.int .u8 0,.int .u8 0,.int .u8 0,.int .u8 0,.int .i64 0,.bool false,.int .i64 0] one=true then (if 0+List.length [(Value.int .i64 0),.int .i64 0,.int .u8 0,.int .u8 0,.int .u8 0,.int .u8 0,.int .u8 0,.int .u8 0,.int .u8 0,.int .u8 0,.int .u8 0,.int .u8 0,.int .u8 0,.int .u8 0,.int .u8 0,.int .u8 0,.int .u8 0,.int .u8 0,.int .i64 0,.int .u8 0,.int .u8 0,.int .u8 0,.int .u8 0,.int .i64 0,.bool false,.int .i64 0]≤List.length k4 then (K (w3 e 4 (sR 4 0) 10 (sV (.agg ⟨[.int .i64 0,.int .i64 0,.int .u8 0,.int .u8 0,.int .u8 0,.int .u8 0,.int .u8 0,.int .u8 0,.int .u8 0,.int .u8 0,.int .u8 0,.int .u8 0,.int .u8 0,.int .u8 0,.int .u8 0,.int .u8 0,.int .u8 0,.int .u8 0,.int .i64 0,.int .u8 0,.int .u8 0,.int .u8 0,.int .u8 0,.int .i64 0,.bool false,.int .i64 0]⟩)) 5 (sB false)) (w2 V0 4 (36,k4) 4 (36,(splice k4 0 [.int .i64 0,.int .i64 0,.int .u8 0,.int .u8 0,.int .u8 0,.int .u8 0,.int .u8 0,.int .u8 0,.int .u8 0,.int .u8 0,.int .u8 0,.int .u8 0,.int .u8 0,.int .u8 0,.int .u8 0,.int .u8 0,.int .u8 0,.int .u8 0,.int .i64 0,.int .u8 0,.int .u8 0,.int .u8 0,.int .u8 0,.int .i64 0,.bool false,.int .i64 0]))) hp) else False) else False) else False):=by kernel_rfl
theorem F29_r3:R29 11 11 (w2 e 1 (sI x1) 0 (sP x0)) (upd V0 4 (36,k4)) hp K=
 ptrN x0 fun b1 o2=>(ldV (HP.cell hp b1 (o2+6)) fun v3=>mapV v3 fun m4=>rdS Tryd.prog (Instr.lookup 123 (.map m4) (.int .i64 x1) true) hp fun u5=>tup2V u5 fun u6 u7=>ptrV u6 fun p8=>boolV u7 fun q9=>K (w5 (w8 e 1 (sI x1) 0 (sP x0) 12 (sP x0) 13 (sQ b1 o2) 14 (sQ b1 (o2+6)) 15 (sV (.map m4)) 16 (sI x1) 17 (sV (.tuple ⟨[(.pointer p8),(.bool q9)]⟩))) 11 (sV (.tuple ⟨[(.pointer p8),(.bool q9)]⟩)) 18 (sP p8) 19 (sB q9) 6 (sP p8) 7 (sB q9)) (upd V0 4 (36,k4)) hp):= by kernel_rfl
theorem F29_r4 (h:E=upd (w3 e 7 (sB x7) 4 (sR 4 0) 1 (sI x1)) 0 (sP x0)):R29 23 8 E (upd V0 4 (36,k4)) hp K=
 CF Tryd.prog 81 [(.pointer x0),(.int .i64 x1),(.bool x7)] hp fun u1 h2=>(tup2V u1 fun u3 u4=>aggV u3 fun l5=>boolV u4 fun q6=>if List.length l5=26 then (if List.all l5 one=true then (if 0+List.length l5≤List.length k4 then (K (w7 E 20 (sP x0) 21 (sI x1) 22 (sB x7) 23 (sV (.tuple ⟨[(.agg ⟨l5⟩),(.bool q6)]⟩)) 24 (sA l5) 25 (sB q6) 5 (sB q6)) (w2 V0 4 (36,k4) 4 (36,(splice k4 0 l5))) h2) else False) else False) else False):= by subst h; kernel_rfl
def F29 (x0:OA) (x1:Int) (hp:HP) (K:Kh):Prop:=
  (CF Tryd.prog 71 [(.pointer x0)] hp fun u1 h2=>boolV u1 fun q3=>ite2 q3 (if List.length [(Value.int .i64 0),.int .i64 0,.int .u8 0,.int .u8 0,.int .u8 0,.int .u8 0,.int .u8 0,.int .u8 0,.int .u8 0,.int .u8 0,.int .u8 0,.int .u8 0,.int .u8 0,.int .u8 0,.int .u8 0,.int .u8 0,.int .u8 0,.int .u8 0,.int .i64 0,.int .u8 0,.int .u8 0,.int .u8 0,.int .u8 0,.int .i64 0,.bool false,.int .i64 0]=26 then (if List.all [(Value.int .i64 0),.int .i64 0,.int .u8 0,.int .u8 0,.int .u8 0,.int .u8 0,.int .u8 0,.int .u8 0,.int .u8 0,.int .u8 0,.int .u8 0,.int .u8 0,.int .u8 0,.int .u8 0,.int .u8 0,.int .u8 0,.int .u8 0,.int .u8 0,.int .i64 0,.int .u8 0,.int .u8 0,.int .u8 0,.int .u8 0,.int .i64 0,.bool false,.int .i64 0] one=true then (if 0+List.length [(Value.int .i64 0),.int .i64 0,.int .u8 0,.int .u8 0,.int .u8 0,.int .u8 0,.int .u8 0,.int .u8 0,.int .u8 0,.int .u8 0,.int .u8 0,.int .u8 0,.int .u8 0,.int .u8 0,.int .u8 0,.int .u8 0,.int .u8 0,.int .u8 0,.int .i64 0,.int .u8 0,.int .u8 0,.int .u8 0,.int .u8 0,.int .i64 0,.bool false,.int .i64 0]≤List.length [(Value.int .i64 0),.int .i64 0,.int .u8 0,.int .u8 0,.int .u8 0,.int .u8 0,.int .u8 0,.int .u8 0,.int .u8 0,.int .u8 0,.int .u8 0,.int .u8 0,.int .u8 0,.int .u8 0,.int .u8 0,.int .u8 0,.int .u8 0,.int .u8 0,.int .i64 0,.int .u8 0,.int .u8 0,.int .u8 0,.int .u8 0,.int .i64 0,.bool false,.int .i64 0] then (ldL (cellsN (splice [.int .i64 0,.int .i64 0,.int .u8 0,.int .u8 0,.int .u8 0,.int .u8 0,.int .u8 0,.int .u8 0,.int .u8 0,.int .u8 0,.int .u8 0,.int .u8 0,.int .u8 0,.int .u8 0,.int .u8 0,.int .u8 0,.int .u8 0,.int .u8 0,.int .i64 0,.int .u8 0,.int .u8 0,.int .u8 0,.int .u8 0,.int .i64 0,.bool false,.int .i64 0] 0 [.int .i64 0,.int .i64 0,.int .u8 0,.int .u8 0,.int .u8 0,.int .u8 0,.int .u8 0,.int .u8 0,.int .u8 0,.int .u8 0,.int .u8 0,.int .u8 0,.int .u8 0,.int .u8 0,.int .u8 0,.int .u8 0,.int .u8 0,.int .u8 0,.int .i64 0,.int .u8 0,.int .u8 0,.int .u8 0,.int .u8 0,.int .i64 0,.bool false,.int .i64 0]) 0 26) fun l4=>K (.tuple ⟨[(.agg ⟨l4⟩),.bool false]⟩) h2) else False) else False) else False) (ptrN x0 fun b5 o6=>ldV (HP.cell h2 b5 (o6+6)) fun v7=>mapV v7 fun m8=>rdS Tryd.prog (Instr.lookup 123 (.map m8) (.int .i64 x1) true) h2 fun u9=>tup2V u9 fun u10 u11=>ptrV u10 fun p12=>boolV u11 fun q13=>CF Tryd.prog 81 [(.pointer x0),(.int .i64 x1),(.bool q13)] h2 fun u14 h15=>tup2V u14 fun u16 u17=>aggV u16 fun l18=>boolV u17 fun q19=>if List.length l18=26 then (if List.all l18 one=true then (if 0+List.length l18≤List.length [(Value.int .i64 0),.int .i64 0,.int .u8 0,.int .u8 0,.int .u8 0,.int .u8 0,.int .u8 0,.int .u8 0,.int .u8 0,.int .u8 0,.int .u8 0,.int .u8 0,.int .u8 0,.int .u8 0,.int .u8 0,.int .u8 0,.int .u8 0,.int .u8 0,.int .i64 0,.int .u8 0,.int .u8 0,.int .u8 0,.int .u8 0,.int .i64 0,.bool false,.int .i64 0] then (ldL (cellsN (splice [.int .i64 0,.int .i64 0,.int .u8 0,.int .u8 0,.int .u8 0,.int .u8 0,.int .u8 0,.int .u8 0,.int .u8 0,.int .u8 0,.int .u8 0,.int .u8 0,.int .u8 0,.int .u8 0,.int .u8 0,.int .u8 0,.int .u8 0,.int .u8 0,.int .i64 0,.int .u8 0,.int .u8 0,.int .u8 0,.int .u8 0,.int .i64 0,.bool false,.int .i64 0] 0 l18) 0 26) fun l20=>K (.tuple ⟨[(.agg ⟨l20⟩),(.bool q19)]⟩) h15) else False) else False) else False))
noncomputable def F29_code:Code:=(.seq (.region 0 (opsAt Tryd.f29 (pth 2)) false) (.seq (.seq (.region 1 (opsAt Tryd.f29 (pth 9)) false) (.cond (.tmp 9) (.seq (.region 2 (opsAt Tryd.f29 (pth 37)) false) .ret) .skip)) (.seq (.region 3 (opsAt Tryd.f29 (pth 11)) false) (.seq (.region 4 (opsAt Tryd.f29 (pth 23)) false) .ret))))
theorem F29_body:Tryd.f29.body=some F29_code:=by kernel_rfl
theorem F29_ok (x0:OA) (x1:Int) (hp:HP) (K:Kh) (h:F29 x0 x1 hp K):CF Tryd.prog 29 [(.pointer x0),(.int .i64 x1)] hp K:=by
 refine .inl ⟨by kernel_rfl,AC.intro (N:=26) Tryd.func29 F29_body rfl (Nat.le_of_ble_eq_true rfl) ?_⟩
 unfold F29 at h
 refine Ar F29_r0 ?_ (r2 0 1 Rn) (z2 Sn) Sn
 refine Aq (Ar F29_r1 ?_ (r2 0 1 (rp 4 4 0 Rn)) (z3 Sn) (z1 Sn))
 refine mC h fun u1 h2 h=>mB h fun q3 h=>?_
 refine Ac h rfl (fun h=>?_) (fun h=>?_)
 ·refine Ar F29_r2 ?_ (rp 4 4 0 Rn) (z1 Sn) (z1 Sn)
  refine mf h fun h=>mf h fun h=>mf h fun h=>?_
  refine AWP.ret ?_
  exact h
 ·refine AWP.skip (Ar F29_r3 ?_ (r2 0 1 (rp 4 4 0 Rn)) (z3 Sn) (z1 Sn))
  refine mN h fun b5 o6 h=>mV h fun v7 h=>mM h fun m8 h=>mR h fun u9 h=>mT h fun u10 u11 h=>mP h fun p12 h=>mB h fun q13 h=>?_
  refine Ar (F29_r4 rfl) ?_ (r2 0 1 (rp 4 4 0 (r1 7 Rn))) (z4 Sn) (z1 Sn)
  refine mC h fun u14 h15 h=>mT h fun u16 u17 h=>mA h fun l18 h=>mB h fun q19 h=>mf h fun h=>mf h fun h=>mf h fun h=>?_
  refine AWP.ret ?_
  exact h
end
end Go.Proofs
set_option linter.unusedVariables false
set_option linter.unusedSimpArgs false
set_option maxRecDepth 20000
namespace Go.Proofs
open Go Go.HL
abbrev V6:=Q × Q × Q × Q
theorem pq (p:Nat) (c:Option Addr→Prop):ptrV (ptr p 0) c=c (some ⟨p,0,none⟩):=rfl
theorem t4_all (t:Q × Int):cellsN (t4 t) 0 5=some (t4 t):=rfl
set_option synthInstance.maxSize 2000 in
set_option synthInstance.maxHeartbeats 400000 in
instance instV6:DecidableEq V6:=inferInstance
instance instT6:DecidableEq (V6 × Int):=instDecidableEqProd
def v6 (a:V6):List Value:=v4 a.1++(v4 a.2.1++(v4 a.2.2.1++v4 a.2.2.2))
def t6 (t:V6 × Int):List Value:=v6 t.1++[.int .i64 t.2]
theorem t6_len (t:V6 × Int):(t6 t).length=17:=rfl
theorem t6_cells (t:V6 × Int):cellsN (t6 t) 0 17=some (t6 t):=rfl
theorem t6_addr (t:V6 × Int):cellsN (t6 t) 0 16=some (v6 t.1):=rfl
theorem t6_port (t:V6 × Int):(t6 t)[16]?=some (.int .i64 t.2):=rfl
theorem v6_cells (a:V6):cellsN (v6 a) 0 16=some (v6 a):=rfl
theorem v6_inj {a b:V6}:v6 a=v6 b↔a=b:=by
  constructor
  · intro h
    obtain ⟨⟨a1,a2,a3,a4⟩,⟨a5,a6,a7,a8⟩,⟨a9,a10,a11,a12⟩,⟨a13,a14,a15,a16⟩⟩:=a
    obtain ⟨⟨b1,b2,b3,b4⟩,⟨b5,b6,b7,b8⟩,⟨b9,b10,b11,b12⟩,⟨b13,b14,b15,b16⟩⟩:=b
    simp only [v6,v4,List.cons_append,List.nil_append,List.cons.injEq,Value.int.injEq,true_and,and_true] at h
    obtain ⟨rfl,rfl,rfl,rfl,rfl,rfl,rfl,rfl,rfl,rfl,rfl,rfl,rfl,rfl,rfl,rfl⟩:=h
    rfl
  · rintro rfl; rfl
theorem t6_inj {a b:V6 × Int}:t6 a=t6 b↔a=b:=by
  constructor
  · intro h
    unfold t6 at h
    obtain ⟨h1,h2⟩:=List.append_inj h rfl
    simp only [List.cons.injEq,Value.int.injEq,true_and,and_true] at h2
    exact Prod.ext (v6_inj.1 h1) h2
  · rintro rfl; rfl
theorem v6_shaped (a:V6):shaped Tryd.prog 4 30 (v6 a)=true:=by kernel_rfl
theorem eq30 {a b:V6} {c:Bool→Prop} (h:c (decide (a=b))):eqAgg Tryd.prog 30 (v6 a) (v6 b) c:=
  eqAgg_of (m:=4) (D:=4) (by kernel_rfl) (v6_shaped a) (v6_shaped b) (by simp [v6_inj]) h
def qi6 (a:V6):List Int:=qi a.1++(qi a.2.1++(qi a.2.2.1++qi a.2.2.2))
def bs6 (a:V6):List UInt8:=(qi6 a).map u8
def ok6 (a:V6):Prop:=okQ a.1∧okQ a.2.1∧okQ a.2.2.1∧okQ a.2.2.2
def okT6 (t:V6 × Int):Prop:=ok6 t.1∧okZ t.2
theorem bs6_inj {a b:V6} (ha:ok6 a) (hb:ok6 b) (h:bs6 a=bs6 b):a=b:=by
  simp only [bs6,qi6,List.map_append] at h
  obtain ⟨h1,h⟩:=List.append_inj h rfl
  obtain ⟨h2,h⟩:=List.append_inj h rfl
  obtain ⟨h3,h4⟩:=List.append_inj h rfl
  exact Prod.ext (bs_inj ha.1 hb.1 h1) (Prod.ext (bs_inj ha.2.1 hb.2.1 h2) (Prod.ext (bs_inj ha.2.2.1 hb.2.2.1 h3) (bs_inj ha.2.2.2 hb.2.2.2 h4)))
def key6 (p:Int) (t:V6 × Int):ByteArray:=⟨(keyL p t.2 (bs6 t.1)).toArray⟩
def key4 (p:Int) (t:Q × Int):ByteArray:=⟨(keyL p t.2 (bs t.1)).toArray⟩
theorem keyA_inj {a b c d:Int} {l m:List UInt8} (h:(⟨(keyL a b l).toArray⟩:ByteArray)=⟨(keyL c d m).toArray⟩):a=c∧b=d∧l=m:=by
  refine keyL_inj ?_
  have:=congrArg ByteArray.data h
  have:=congrArg Array.toList this
  simpa using this
theorem key6_inj {p q:Int} {s t:V6 × Int} (hs:okT6 s) (ht:okT6 t) (h:key6 p s=key6 q t):p=q∧s=t:=by
  obtain ⟨a,b,c⟩:=keyA_inj h
  exact ⟨a,Prod.ext (bs6_inj hs.1 ht.1 c) b⟩
theorem key4_inj {p q:Int} {s t:Q × Int} (hs:okT s) (ht:okT t) (h:key4 p s=key4 q t):p=q∧s=t:=by
  obtain ⟨a,b,c⟩:=keyA_inj h
  exact ⟨a,Prod.ext (bs_inj hs.1 ht.1 c) b⟩
theorem keyA_app (a b:Int) (l:List UInt8):((((itS a++(⟨#[32]⟩:ByteArray))++itS b)++(⟨#[32]⟩:ByteArray))++byS l)=⟨(keyL a b l).toArray⟩:=by
  have e:(⟨#[32]⟩:ByteArray)=byS [32]:=rfl
  have e2:∀ n,itS n=byS (Lib.itoa n):=fun _=>rfl
  have e3:(⟨(keyL a b l).toArray⟩:ByteArray)=byS (keyL a b l):=rfl
  rw [e,e2,e2,e3,byS_app,byS_app,byS_app,byS_app]
  congr 1
  simp [keyL]
set_option maxHeartbeats 2000000 in
theorem C107 {tb:Obj} {p:Int} {o:V6 × Int} {hp:HP} {K:Value→HP→Prop} (ht:TabR tb hp) (hp':okZ p) (ho:okZ o.2) (hK:K (.string (key6 p o)) hp):CF Tryd.prog 107 [.int .i64 p,.agg ⟨t6 o⟩] hp K:=by
  refine CF.drop (F107_ok p (t6 o) hp _ ?_)
  unfold F107
  intro b1 hb1
  have ht2:TabR tb (hp.set b1 (.cells 32 (t6 o) 0)):=ht.set hb1 _
  have hs2:HSub hp (hp.set b1 (.cells 32 (t6 o) 0)):=HSub.set_fresh hp _ hb1
  have x1:(hp.set b1 (.cells 32 (t6 o) 0)) b1=.cells 32 (t6 o) 0:=HP.set_eq ..
  generalize hp.set b1 (.cells 32 (t6 o) 0)=hp2 at *
  have y1:hp2.cell b1 16=some (.int .i64 o.2):=HP.cell_of x1
  have z1:hp2.cellN b1 0 16=some ((qi6 o.1).map (Value.int .u8)):=by rw [HP.cellN_of x1]; rfl
  have i1:=itS_size ho
  have i2:=itS_size hp'
  have b1s:(byS (bs6 o.1)).size=16:=rfl
  have e32:(⟨#[32]⟩:ByteArray).size=1:=rfl
  have c1:∀ {K:Value→HP→Prop},K (.string (itS o.2)) hp2→CF Tryd.prog 116 [.int .i64 o.2] hp2 K:=fun h=>C116 ht2 ho h
  have c2:∀ {K:Value→HP→Prop},K (.string (itS p)) hp2→CF Tryd.prog 116 [.int .i64 p] hp2 K:=fun h=>C116 ht2 hp' h
  have r1:∀ {c:Value→Prop},c (.string (byS (bs6 o.1)))→rdS Tryd.prog (convert 199 9 (.slice (some ⟨b1,0,none⟩) 16 16)) hp2 c:=fun h=>rdS_bytes (e:=5) (by kernel_rfl) (by kernel_rfl) (by kernel_rfl) rfl z1 h
  have fin:∃ hp'',HSub hp'' hp2∧K (.string ((((itS p++(⟨#[32]⟩:ByteArray))++itS o.2)++(⟨#[32]⟩:ByteArray))++byS (bs6 o.1))) hp'':=⟨hp,hs2,by rw [keyA_app]; exact hK⟩
  clear x1 z1 ht2 ht hs2 hb1 hK
  generalize itS o.2=s1 at *
  generalize itS p=s2 at *
  generalize byS (bs6 o.1)=s3 at *
  simp only [ptrN_some,Nat.zero_add,y1,ldV_some,intV_int]
  repeat' apply And.intro
  all_goals repeat (first
    | exact fin
    | (refine c1 ?_; rw [strV_string])
    | (refine c2 ?_; rw [strV_string])
    | (refine r1 ?_; rw [strV_string])
    | (refine ⟨by first | omega | (simp only [str_app]; omega),?_⟩)
    | (simp only [y1,ldV_some,intV_int,ptrN_some,Nat.zero_add])
    | omega
    | (simp only [str_app]; omega))
set_option maxHeartbeats 2000000 in
theorem C105 {tb:Obj} {p:Int} {o:Q × Int} {hp:HP} {K:Value→HP→Prop} (ht:TabR tb hp) (hp':okZ p) (ho:okZ o.2) (hK:K (.string (key4 p o)) hp):CF Tryd.prog 105 [.int .i64 p,.agg ⟨t4 o⟩] hp K:=by
  refine CF.drop (F105_ok p (t4 o) hp _ ?_)
  unfold F105
  intro b1 hb1
  have ht2:TabR tb (hp.set b1 (.cells 34 (t4 o) 0)):=ht.set hb1 _
  have hs2:HSub hp (hp.set b1 (.cells 34 (t4 o) 0)):=HSub.set_fresh hp _ hb1
  have x1:(hp.set b1 (.cells 34 (t4 o) 0)) b1=.cells 34 (t4 o) 0:=HP.set_eq ..
  generalize hp.set b1 (.cells 34 (t4 o) 0)=hp2 at *
  have y1:hp2.cell b1 4=some (.int .i64 o.2):=HP.cell_of x1
  have z1:hp2.cellN b1 0 4=some ((qi o.1).map (Value.int .u8)):=by rw [HP.cellN_of x1]; rfl
  have i1:=itS_size ho
  have i2:=itS_size hp'
  have b1s:(byS (bs o.1)).size=4:=rfl
  have e32:(⟨#[32]⟩:ByteArray).size=1:=rfl
  have c1:∀ {K:Value→HP→Prop},K (.string (itS o.2)) hp2→CF Tryd.prog 116 [.int .i64 o.2] hp2 K:=fun h=>C116 ht2 ho h
  have c2:∀ {K:Value→HP→Prop},K (.string (itS p)) hp2→CF Tryd.prog 116 [.int .i64 p] hp2 K:=fun h=>C116 ht2 hp' h
  have r1:∀ {c:Value→Prop},c (.string (byS (bs o.1)))→rdS Tryd.prog (convert 199 9 (.slice (some ⟨b1,0,none⟩) 4 4)) hp2 c:=fun h=>rdS_bytes (e:=5) (by kernel_rfl) (by kernel_rfl) (by kernel_rfl) rfl z1 h
  have fin:∃ hp'',HSub hp'' hp2∧K (.string ((((itS p++(⟨#[32]⟩:ByteArray))++itS o.2)++(⟨#[32]⟩:ByteArray))++byS (bs o.1))) hp'':=⟨hp,hs2,by rw [keyA_app]; exact hK⟩
  clear x1 z1 ht2 ht hs2 hb1 hK
  generalize itS o.2=s1 at *
  generalize itS p=s2 at *
  generalize byS (bs o.1)=s3 at *
  simp only [ptrN_some,Nat.zero_add,y1,ldV_some,intV_int]
  repeat' apply And.intro
  all_goals repeat (first
    | exact fin
    | (refine c1 ?_; rw [strV_string])
    | (refine c2 ?_; rw [strV_string])
    | (refine r1 ?_; rw [strV_string])
    | (refine ⟨by first | omega | (simp only [str_app]; omega),?_⟩)
    | (simp only [y1,ldV_some,intV_int,ptrN_some,Nat.zero_add])
    | omega
    | (simp only [str_app]; omega))
def kindB (p:Int):Int:=if p=1 then 0 else if p=6 then 1 else if p=17 then 2 else -1
theorem C112 {b:Nat} {x:Int} {hp:HP} {K:Value→HP→Prop} (hb:hp b=.cells 3 [.int .i64 1,.int .i64 6,.int .i64 17] 0) (h:K (.int .i64 (kindB x)) hp):CF Tryd.prog 112 [.slice (some ⟨b,0,none⟩) 3 3,.int .i64 x] hp K:=by
  refine F112_ok _ 3 3 x hp K ?_
  unfold F112 F112_j1
  have hc:∀ t,hp.cell b t=_:=fun t=>HP.cell_of hb
  have hc0:hp.cell b 0=some (.int .i64 1):=hc 0
  have hc1:hp.cell b 1=some (.int .i64 6):=hc 1
  have hc2:hp.cell b 2=some (.int .i64 17):=hc 2
  refine LoopP.by (J:=fun k (i:Int) hp'=>hp'=hp∧((i=0∧k=3)∨(i=1∧k=2∧x≠1)∨(i=2∧k=1∧x≠1∧x≠6)∨(i=3∧k=0∧x≠1∧x≠6∧x≠17))) ?_ (n:=3) ⟨rfl,.inl ⟨rfl,rfl⟩⟩
  rintro I k i hp' ⟨rfl,hcs⟩ hI
  unfold F112_l2
  rcases hcs with ⟨rfl,rfl⟩ | ⟨rfl,rfl,h1⟩ | ⟨rfl,rfl,h1,h2⟩ | ⟨rfl,rfl,h1,h2,h3⟩
  · rw [decide_eq_true (by omega),ite2_true]
    refine ⟨by omega,by omega,?_⟩
    show ldV (hp'.cell b 0) _
    rw [hc0,ldV_some,intV_int]
    by_cases e:x=1
    · rw [show (x==1)=true from by simp [e],ite2_true]
      simpa [kindB,e] using h
    · rw [show (x==1)=false from by simp [e],ite2_false]
      exact hI 2 _ _ (by omega) ⟨rfl,.inr (.inl ⟨rfl,rfl,e⟩)⟩
  · rw [decide_eq_true (by omega),ite2_true]
    refine ⟨by omega,by omega,?_⟩
    show ldV (hp'.cell b 1) _
    rw [hc1,ldV_some,intV_int]
    by_cases e:x=6
    · rw [show (x==6)=true from by simp [e],ite2_true]
      simpa [kindB,e] using h
    · rw [show (x==6)=false from by simp [e],ite2_false]
      exact hI 1 _ _ (by omega) ⟨rfl,.inr (.inr (.inl ⟨rfl,rfl,h1,e⟩))⟩
  · rw [decide_eq_true (by omega),ite2_true]
    refine ⟨by omega,by omega,?_⟩
    show ldV (hp'.cell b 2) _
    rw [hc2,ldV_some,intV_int]
    by_cases e:x=17
    · rw [show (x==17)=true from by simp [e],ite2_true]
      simpa [kindB,e] using h
    · rw [show (x==17)=false from by simp [e],ite2_false]
      exact hI 0 _ _ (by omega) ⟨rfl,.inr (.inr (.inr ⟨rfl,rfl,h1,h2,e⟩))⟩
  · rw [decide_eq_false (by omega),ite2_false]
    simpa [kindB,h1,h2,h3] using h
theorem C73 {x:Int} {hp:HP} {K:Value→HP→Prop} (h:K (.int .i64 (kindB x)) hp):CF Tryd.prog 73 [.int .i64 x] hp K:=by
  refine CF.drop (F73_ok x hp _ ?_)
  unfold F73
  intro b hb
  refine C112 (HP.set_eq ..) ?_
  rw [intV_int]
  exact ⟨hp,HSub.set_fresh hp _ hb,h⟩
theorem C75 {x:Int} {hp:HP} {K:Value→HP→Prop} (h:K (.bool (isPort x)) hp):CF Tryd.prog 75 [.int .i64 x] hp K:=by
  refine F75_ok x hp K ?_
  unfold F75
  unfold isPort at h
  by_cases h0:0≤x
  · simpa [h0] using h
  · simpa [h0] using h
end Go.Proofs
set_option linter.unusedVariables false
set_option linter.unusedSimpArgs false
set_option maxRecDepth 20000
namespace Go.Proofs
open Go Go.HL
structure Bd where
  id:Int
  proto:Int
  inn:V6 × Int
  out:Q × Int
  st:Bool
  ses:Int
deriving DecidableEq
def zq4:Q:=(0,0,0,0)
def bd0:Bd:=⟨0,0,((zq4,zq4,zq4,zq4),0),(zq4,0),false,0⟩
instance:Inhabited Bd:=⟨bd0⟩
def bdc (x:Bd):List Value:=.int .i64 x.id::.int .i64 x.proto::(t6 x.inn++(t4 x.out++[.bool x.st,.int .i64 x.ses]))
theorem bdc_len (x:Bd):(bdc x).length=26:=rfl
theorem bdc_one (x:Bd):(bdc x).all one=true:=rfl
theorem bd_spl {zs:List Value} {y:Bd} (h:zs.length=26):splice zs 0 (bdc y)=bdc y:=splice_all h.symm
theorem bdc_id (x:Bd):(bdc x)[0]?=some (.int .i64 x.id):=rfl
theorem bdc_out (x:Bd):cellsN (bdc x) 19 5=some (t4 x.out):=rfl
theorem bdc_cells (x:Bd):cellsN (bdc x) 0 26=some (bdc x):=rfl
theorem bdc_splice (x y:Bd):splice (bdc x) 0 (bdc y)=bdc y:=splice_all rfl
theorem bdc_inj {x y:Bd}:bdc x=bdc y↔x=y:=by
  constructor
  · intro h
    obtain ⟨i,p,a,o,s,n⟩:=x
    obtain ⟨i',p',a',o',s',n'⟩:=y
    unfold bdc at h
    simp only [List.cons.injEq,Value.int.injEq,true_and] at h
    obtain ⟨rfl,rfl,h⟩:=h
    obtain ⟨h1,h⟩:=List.append_inj h rfl
    obtain ⟨h2,h⟩:=List.append_inj h rfl
    simp only [List.cons.injEq,Value.int.injEq,Value.bool.injEq,true_and,and_true] at h
    obtain ⟨rfl,rfl⟩:=h
    rw [t6_inj.1 h1,t4_inj.1 h2]
  · rintro rfl; rfl
def Bd.k6 (x:Bd):ByteArray:=key6 x.proto x.inn
def Bd.k4 (x:Bd):ByteArray:=key4 x.proto x.out
def heldB (L:List Bd) (k:Int):List ((Q × Int) × Bool):=(L.filter fun b=>decide (kindB b.proto=k)).map fun b=>(b.out,b.st)
structure InvB (l:List Q) (low high:Int) (mx last n:Nat) (L:List Bd):Prop where
  asc:(L.map (·.id)).Pairwise (· < ·)
  rng:∀ x∈L,1≤x.id∧x.id≤last
  keys6:(L.map fun x=>(x.proto,x.inn)).Nodup
  keys4:(L.map fun x=>(x.proto,x.out)).Nodup
  ok:∀ x∈L,0≤kindB x.proto∧okT6 x.inn∧okT x.out∧0≤x.ses∧x.ses≤n
  pool:∀ x∈L,x.out.1∈l∧isPort x.out.2=true∧isPort x.inn.2=true
  len:L.length≤mx
  mx:mx≤65536
  last:last≤n
  n:n≤1000000
  new:newOk l low high=true
  okl:∀ q∈l,okQ q
section
variable {l:List Q} {low high:Int} {mx last n:Nat} {L:List Bd}
theorem InvB.ids (h:InvB l low high mx last n L):(L.map (·.id)).Nodup:=h.asc.imp fun h e=>by omega
theorem okZ_kind {p:Int} (h:0≤kindB p):okZ p:=by
  unfold kindB at h
  unfold okZ
  split at h
  · omega
  · split at h
    · omega
    · split at h
      · omega
      · omega
theorem kind_cases {p:Int} (h:0≤kindB p):(p=1∧kindB p=0)∨(p=6∧kindB p=1)∨(p=17∧kindB p=2):=by
  unfold kindB at *
  split
  · rename_i e; exact .inl ⟨e,rfl⟩
  · rename_i e
    rw [if_neg e] at h
    split
    · rename_i e2; exact .inr (.inl ⟨e2,rfl⟩)
    · rename_i e2
      rw [if_neg e2] at h
      split
      · rename_i e3; exact .inr (.inr ⟨e3,rfl⟩)
      · rename_i e3
        rw [if_neg e3] at h; omega
theorem kind_inj {p q:Int} (h:0≤kindB p) (e:kindB p=kindB q):p=q:=by
  have h2:0≤kindB q:=by omega
  rcases kind_cases h with ⟨a,b⟩ | ⟨a,b⟩ | ⟨a,b⟩ <;> rcases kind_cases h2 with ⟨c,d⟩ | ⟨c,d⟩ | ⟨c,d⟩ <;> omega
theorem kind_lt {p:Int}:kindB p<3∧-1≤kindB p:=by
  unfold kindB
  split
  · omega
  · split
    · omega
    · split <;> omega
def find6 (p:Int) (a:V6 × Int) (L:List Bd):Option Bd:=L.find? fun x=>decide (x.proto=p∧x.inn=a)
def find4 (p:Int) (o:Q × Int) (L:List Bd):Option Bd:=L.find? fun x=>decide (x.proto=p∧x.out=o)
def findI (i:Int) (L:List Bd):Option Bd:=L.find? fun x=>decide (x.id=i)
theorem find_congr {α:Type} {p q:α→Bool}:∀ {L:List α},(∀ x∈L,p x=q x)→L.find? p=L.find? q
  | [],_=>rfl
  | x::L,h=>by
    rw [List.find?_cons,List.find?_cons,h x (by simp),find_congr fun y hy=>h y (by simp [hy])]
theorem find6_key (h:InvB l low high mx last n L) {p:Int} {a:V6 × Int} (ha:okT6 a):(L.find? fun x=>decide (x.k6=key6 p a))=find6 p a L:=by
  refine find_congr fun x hx=>decide_eq_decide.2 ⟨fun e=>key6_inj (h.ok x hx).2.1 ha e,fun ⟨e1,e2⟩=>?_⟩
  unfold Bd.k6; rw [e1,e2]
theorem find4_key (h:InvB l low high mx last n L) {p:Int} {o:Q × Int} (ho:okT o):(L.find? fun x=>decide (x.k4=key4 p o))=find4 p o L:=by
  refine find_congr fun x hx=>decide_eq_decide.2 ⟨fun e=>key4_inj (h.ok x hx).2.2.1 ho e,fun ⟨e1,e2⟩=>?_⟩
  unfold Bd.k4; rw [e1,e2]
theorem find6_mem {p:Int} {a:V6 × Int} {x:Bd} (h:find6 p a L=some x):x∈L∧x.proto=p∧x.inn=a:=by
  obtain ⟨h1,h2⟩:=find_mem h
  exact ⟨h1,of_decide_eq_true h2⟩
theorem find4_mem {p:Int} {a:Q × Int} {x:Bd} (h:find4 p a L=some x):x∈L∧x.proto=p∧x.out=a:=by
  obtain ⟨h1,h2⟩:=find_mem h
  exact ⟨h1,of_decide_eq_true h2⟩
end
def tabC (mx last:Nat) (f:Q) (m x o:Nat) (pl:Nat→Nat):List Value:=.int .i64 mx::.int .i64 last::(v4 f++[.map (some m),ptr x 0,ptr o 0,ptr (pl 0) 0,ptr (pl 1) 0,ptr (pl 2) 0])
structure BdM (tb:Obj) (h:HP) (t mx last:Nat) (f:Q) (E:List (Bd × Nat)) (m x o:Nat) (pl:Nat→Nat):Prop where
  tab:h t=.cells 127 (tabC mx last f m x o pl) 0
  map:MapE iw (fun k:Nat=>ptr k 0) (E.map fun e=>(e.1.id,e.2)) (h m)
  blk:∀ e∈E,h e.2=.cells 36 (bdc e.1) 0
  dig:TabR tb h
structure BdP (tb:Obj) (hq:HP) (t:Nat) (l:List Q) (low high:Int) (mx last n:Nat) (E:List (Bd × Nat)) (ps:Nat→HP) (m x o:Nat) (pl pm:Nat→Nat) (H:Nat→List ((Q × Int) × Bool)):Prop where
  parts:Parts hq ps
  main:BdM tb (ps 0) t mx last (l.headD zq4) E m x o pl
  six:IdxR (ps 1) x mx ((E.map (·.1)).map fun b=>(b.k6,b.id))
  four:IdxR (ps 2) o mx ((E.map (·.1)).map fun b=>(b.k4,b.id))
  pool:∀ k:Nat,k<3→PoolR (ps (3+k)) (pl k) l low high (H k) (pm k)
  inv:InvB l low high mx last n (E.map (·.1))
def BdW (tb:Obj) (hq:HP) (t:Nat) (l:List Q) (low high:Int) (mx last n:Nat) (L:List Bd):Prop:=
  ∃ (E:List (Bd × Nat)) (ps:Nat→HP) (m x o:Nat) (pl pm:Nat→Nat),L=E.map (·.1)∧BdP tb hq t l low high mx last n E ps m x o pl pm fun k=>heldB L k
theorem u123:Tryd.prog.underlying 123=some (.map 3 133):=by kernel_rfl
section
variable {tb:Obj} {hq:HP} {t:Nat} {l:List Q} {low high:Int} {mx last n:Nat} {L:List Bd} {E:List (Bd × Nat)} {ps:Nat→HP} {m x o:Nat} {pl pm:Nat→Nat} {H:Nat→List ((Q × Int) × Bool)} {K:Value→HP→Prop}
theorem BdP.cells (h:BdP tb hq t l low high mx last n E ps m x o pl pm H):hq t=.cells 127 (tabC mx last (l.headD zq4) m x o pl) 0:=(h.parts.sub 0).cells h.main.tab
theorem BdP.c0 (h:BdP tb hq t l low high mx last n E ps m x o pl pm H):hq.cell t 0=some (.int .i64 mx):=HP.cell_of h.cells
theorem BdP.c6 (h:BdP tb hq t l low high mx last n E ps m x o pl pm H):hq.cell t 6=some (.map (some m)):=HP.cell_of h.cells
theorem BdP.c7 (h:BdP tb hq t l low high mx last n E ps m x o pl pm H):hq.cell t 7=some (ptr x 0):=HP.cell_of h.cells
theorem BdP.c8 (h:BdP tb hq t l low high mx last n E ps m x o pl pm H):hq.cell t 8=some (ptr o 0):=HP.cell_of h.cells
theorem BdP.c9 (h:BdP tb hq t l low high mx last n E ps m x o pl pm H) {k:Nat} (hk:k<3):hq.cell t (9+k)=some (ptr (pl k) 0):=by
  rw [HP.cell_of h.cells]
  match k,hk with
  | 0,_=>rfl
  | 1,_=>rfl
  | 2,_=>rfl
theorem BdP.tabr (h:BdP tb hq t l low high mx last n E ps m x o pl pm H):TabR tb hq:=h.main.dig.sub (h.parts.sub 0)
theorem BdP.mapq (h:BdP tb hq t l low high mx last n E ps m x o pl pm H):MapE iw (fun k:Nat=>ptr k 0) (E.map fun e=>(e.1.id,e.2)) (hq m):=h.main.map.sub (h.parts.sub 0)
theorem BdP.blkq (h:BdP tb hq t l low high mx last n E ps m x o pl pm H) {e:Bd × Nat} (he:e∈E):hq e.2=.cells 36 (bdc e.1) 0:=(h.parts.sub 0).cells (h.main.blk e he)
theorem BdP.poolq (h:BdP tb hq t l low high mx last n E ps m x o pl pm H) {k:Nat} (hk:k<3):PoolR hq (pl k) l low high (H k) (pm k):=(h.pool k hk).sub (h.parts.sub (3+k))
theorem BdP.ids (h:BdP tb hq t l low high mx last n E ps m x o pl pm H):(E.map fun e=>e.1.id).Nodup:=by
  have:=h.inv.ids
  rwa [List.map_map] at this
theorem BdP.get (h:BdP tb hq t l low high mx last n E ps m x o pl pm H) (i:Int):getL i (E.map fun e=>(e.1.id,e.2))=(E.find? fun e=>decide (e.1.id=i)).map (·.2):=getL_mapK (fun e:Bd × Nat=>e.1.id) (fun e=>e.2) i E
theorem findE (i:Int):∀ E:List (Bd × Nat),(E.find? fun e=>decide (e.1.id=i)).map (·.1)=findI i (E.map (·.1))
  | []=>rfl
  | e::E=>by
    unfold findI
    rw [List.map_cons,List.find?_cons,List.find?_cons]
    by_cases h:e.1.id=i
    · rw [decide_eq_true h]; rfl
    · rw [decide_eq_false h]; exact findE i E
theorem BdW.sub {hp:HP} (h:BdW tb hq t l low high mx last n L) (hs:HSub hq hp):BdW tb hp t l low high mx last n L:=by
  obtain ⟨E,ps,m,x,o,pl,pm,e,h⟩:=h
  exact ⟨E,ps,m,x,o,pl,pm,e,⟨h.parts.weak hs,h.main,h.six,h.four,h.pool,h.inv⟩⟩
theorem BdW.inv (h:BdW tb hq t l low high mx last n L):InvB l low high mx last n L:=by
  obtain ⟨E,ps,m,x,o,pl,pm,rfl,h⟩:=h
  exact h.inv
theorem BdW.tab (h:BdW tb hq t l low high mx last n L):TabR tb hq:=by
  obtain ⟨E,ps,m,x,o,pl,pm,rfl,h⟩:=h
  exact h.tabr
theorem C71n {hp:HP} (hK:K (.bool true) hp):CF Tryd.prog 71 [.pointer none] hp K:=by
  refine F71_ok none hp K ?_
  unfold F71
  exact hK
theorem C71 (h:BdP tb hq t l low high mx last n E ps m x o pl pm H) (hK:K (.bool false) hq):CF Tryd.prog 71 [ptr t 0] hq K:=by
  refine F71_ok _ hq K ?_
  unfold F71
  simp only [Option.isNone_some,ite2_false,ptrN_some,Nat.reduceAdd,h.c6,ldV_some,mapV_map]
  exact hK
def toldV (r:Option Bd):Value:=.tuple ⟨[.agg ⟨bdc (r.getD bd0)⟩,.bool r.isSome]⟩
set_option maxHeartbeats 400000 in
theorem C81 (h:BdP tb hq t l low high mx last n E ps m x o pl pm H) {i:Int} {ok:Bool} (hok:ok=(findI i (E.map (·.1))).isSome) (hK:K (toldV (findI i (E.map (·.1)))) hq):CF Tryd.prog 81 [ptr t 0,.int .i64 i,.bool ok] hq K:=by
  subst hok
  refine F81_ok _ i _ hq K ?_
  unfold F81
  cases hf:E.find? fun e=>decide (e.1.id=i) with
  | none=>
    have hi:findI i (E.map (·.1))=none:=by rw [← findE,hf]; rfl
    rw [hi] at hK ⊢
    show ite2 true _ _
    rw [ite2_true]
    exact ifI rfl (ifI rfl (ifI (Nat.le_refl 26) hK))
  | some e=>
    have hi:findI i (E.map (·.1))=some e.1:=by rw [← findE,hf]; rfl
    obtain ⟨he,_⟩:=find_mem hf
    rw [hi] at hK ⊢
    show ite2 false _ _
    simp only [ite2_false,ptrN_some,Nat.reduceAdd,h.c6,ldV_some,mapV_map]
    refine rdS_lookup (l:=E.map fun e=>(e.1.id,e.2)) u123 enc3 (z:=.pointer none) (fun w=>itoa_zero (by kernel_rfl) w) h.mapq i (ev:=fun k:Nat=>ptr k 0) (cm:=false) ?_
    rw [h.get,hf]
    show ptrV (ptr e.2 0) _
    rw [pq,ptrN_some,HP.cellN_of (h.blkq he),bdc_cells,ldL_some]
    rw [if_pos (bdc_len _),if_pos (bdc_one _),if_pos (by simp [bdc_len])]
    rw [bd_spl rfl,bdc_cells,ldL_some]
    exact hK
theorem found6 (h:BdP tb hq t l low high mx last n E ps m x o pl pm H) {p:Int} {a:V6 × Int} (ha:okT6 a):getL (key6 p a) ((E.map (·.1)).map fun b=>(b.k6,b.id))=(find6 p a (E.map (·.1))).map (·.id):=by
  rw [getL_mapK Bd.k6 Bd.id,find6_key h.inv ha]
theorem found4 (h:BdP tb hq t l low high mx last n E ps m x o pl pm H) {p:Int} {a:Q × Int} (ha:okT a):getL (key4 p a) ((E.map (·.1)).map fun b=>(b.k4,b.id))=(find4 p a (E.map (·.1))).map (·.id):=by
  rw [getL_mapK Bd.k4 Bd.id,find4_key h.inv ha]
theorem findI_of {L:List Bd} (hn:(L.map (·.id)).Nodup) {b:Bd} (hb:b∈L):findI b.id L=some b:=find_of (g:=Bd.id) hn hb
theorem told_of {L:List Bd} (hn:(L.map (·.id)).Nodup) (h0:∀ b∈L,1≤b.id) {r:Option Bd} (hr:∀ b,r=some b→b∈L):findI ((r.map (·.id)).getD 0) L=r:=by
  cases r with
  | none=>
    refine find_none.2 fun b hb=>?_
    have:=h0 b hb
    exact decide_eq_false (by show ¬ b.id=0; omega)
  | some b=>exact findI_of hn (hr b rfl)
theorem C65n {p:Int} {a:V6 × Int} {hp:HP} (hK:K (toldV none) hp):CF Tryd.prog 65 [.pointer none,.int .i64 p,.agg ⟨t6 a⟩] hp K:=by
  refine F65_ok none p (t6 a) hp K ?_
  unfold F65
  refine C71n ?_
  simp only [boolV_bool,ite2_true]
  exact ifI rfl (ifI rfl (ifI (Nat.le_refl 26) hK))
theorem C63n {p:Int} {a:Q × Int} {hp:HP} (hK:K (toldV none) hp):CF Tryd.prog 63 [.pointer none,.int .i64 p,.agg ⟨t4 a⟩] hp K:=by
  refine F63_ok none p (t4 a) hp K ?_
  unfold F63
  refine C71n ?_
  simp only [boolV_bool,ite2_true]
  exact ifI rfl (ifI rfl (ifI (Nat.le_refl 26) hK))
theorem C29n {i:Int} {hp:HP} (hK:K (toldV none) hp):CF Tryd.prog 29 [.pointer none,.int .i64 i] hp K:=by
  refine F29_ok none i hp K ?_
  unfold F29
  refine C71n ?_
  simp only [boolV_bool,ite2_true]
  exact ifI rfl (ifI rfl (ifI (Nat.le_refl 26) hK))
set_option maxHeartbeats 400000 in
theorem P65 (h:BdP tb hq t l low high mx last n E ps m x o pl pm H) {p:Int} {a:V6 × Int} (hp:okZ p) (ha:okT6 a) (hK:K (toldV (find6 p a (E.map (·.1)))) hq):CF Tryd.prog 65 [ptr t 0,.int .i64 p,.agg ⟨t6 a⟩] hq K:=by
  refine F65_ok _ p (t6 a) hq K ?_
  unfold F65
  refine C71 h ?_
  simp only [boolV_bool,ite2_false]
  have hr:findI (((find6 p a (E.map (·.1))).map (·.id)).getD 0) (E.map (·.1))=find6 p a (E.map (·.1)):=told_of h.inv.ids (fun b hb=>(h.inv.rng b hb).1) fun b hb=>(find6_mem hb).1
  have fin:∀ K':Value→HP→Prop,K' (toldV (find6 p a (E.map (·.1)))) hq→CF Tryd.prog 81 [ptr t 0,.int .i64 (((find6 p a (E.map (·.1))).map (·.id)).getD 0),.bool ((find6 p a (E.map (·.1))).map (·.id)).isSome] hq K':=fun K' hK'=>by
    refine C81 h (by rw [hr]; simp) ?_
    rw [hr]; exact hK'
  constructor
  all_goals
    simp only [ptrN_some,Nat.reduceAdd,h.c7,ldV_some,pq,t6_cells,ldL_some]
    refine C107 h.tabr hp ha.2 ?_
    simp only [strV_string,ptrN_some,Nat.reduceAdd,h.c7,ldV_some,pq]
    refine C84 (h.six.sub (h.parts.sub 1)) ?_
    rw [found6 h ha]
    simp only [tup2V_mk,intV_int,boolV_bool]
    refine fin _ ?_
    unfold toldV
    simp only [tup2V_mk,aggV_agg,boolV_bool]
    rw [if_pos (bdc_len _),if_pos (bdc_one _),if_pos (by simp [bdc_len])]
    rw [bd_spl rfl,bdc_cells,ldL_some]
    exact hK
set_option maxHeartbeats 400000 in
theorem P63 (h:BdP tb hq t l low high mx last n E ps m x o pl pm H) {p:Int} {a:Q × Int} (hp:okZ p) (ha:okT a) (hK:K (toldV (find4 p a (E.map (·.1)))) hq):CF Tryd.prog 63 [ptr t 0,.int .i64 p,.agg ⟨t4 a⟩] hq K:=by
  refine F63_ok _ p (t4 a) hq K ?_
  unfold F63
  refine C71 h ?_
  simp only [boolV_bool,ite2_false]
  have hr:findI (((find4 p a (E.map (·.1))).map (·.id)).getD 0) (E.map (·.1))=find4 p a (E.map (·.1)):=told_of h.inv.ids (fun b hb=>(h.inv.rng b hb).1) fun b hb=>(find4_mem hb).1
  have fin:∀ K':Value→HP→Prop,K' (toldV (find4 p a (E.map (·.1)))) hq→CF Tryd.prog 81 [ptr t 0,.int .i64 (((find4 p a (E.map (·.1))).map (·.id)).getD 0),.bool ((find4 p a (E.map (·.1))).map (·.id)).isSome] hq K':=fun K' hK'=>by
    refine C81 h (by rw [hr]; simp) ?_
    rw [hr]; exact hK'
  constructor
  all_goals
    simp only [ptrN_some,Nat.reduceAdd,h.c8,ldV_some,pq,t4_all,ldL_some]
    refine C105 h.tabr hp ha.2 ?_
    simp only [strV_string,ptrN_some,Nat.reduceAdd,h.c8,ldV_some,pq]
    refine C84 (h.four.sub (h.parts.sub 2)) ?_
    rw [found4 h ha]
    simp only [tup2V_mk,intV_int,boolV_bool]
    refine fin _ ?_
    unfold toldV
    simp only [tup2V_mk,aggV_agg,boolV_bool]
    rw [if_pos (bdc_len _),if_pos (bdc_one _),if_pos (by simp [bdc_len])]
    rw [bd_spl rfl,bdc_cells,ldL_some]
    exact hK
end
end Go.Proofs
set_option linter.unusedVariables false
set_option linter.unusedSimpArgs false
namespace Go.Proofs
open Go Go.HL
section
variable {l:List Q} {low high:Int} {mx last n:Nat} {L:List Bd}
theorem nodup_snoc {α β:Type} {f:α→β} {L:List α} {x:α} (h:(L.map f).Nodup) (hx:∀ y∈L,f y≠f x):((L++[x]).map f).Nodup:=by
  rw [List.map_append]
  refine List.nodup_append.2 ⟨h,by simp,fun a ha b hb e=>?_⟩
  obtain ⟨y,hy,rfl⟩:=List.mem_map.1 ha
  simp only [List.map_cons,List.map_nil,List.mem_singleton] at hb
  subst hb
  exact hx y hy e
theorem InvB.put (h:InvB l low high mx last n L) {x:Bd} (hid:x.id=((last+1:Nat):Int)) (hk:0≤kindB x.proto) (h6:okT6 x.inn) (h4:okT x.out) (hs:x.ses=0)
    (hp:x.out.1∈l∧isPort x.out.2=true∧isPort x.inn.2=true) (f6:find6 x.proto x.inn L=none) (f4:find4 x.proto x.out L=none) (hl:L.length<mx) (hn:n<1000000) :
    InvB l low high mx (last+1) (n+1) (L++[x]) where
  asc:=by
    rw [List.map_append]
    refine List.pairwise_append.2 ⟨h.asc,by simp,fun a ha b hb=>?_⟩
    obtain ⟨y,hy,rfl⟩:=List.mem_map.1 ha
    have:=(h.rng y hy).2
    simp only [List.map_cons,List.map_nil,List.mem_singleton] at hb
    subst hb; rw [hid]; omega
  rng y hy:=by
    rcases List.mem_append.1 hy with hy | hy
    · have:=h.rng y hy; omega
    · rw [List.mem_singleton.1 hy,hid]; omega
  keys6:=nodup_snoc h.keys6 fun y hy e=>by
    have:=(find_none.1 f6) y hy
    simp only [decide_eq_false_iff_not] at this
    simp only [Prod.mk.injEq] at e
    exact this e
  keys4:=nodup_snoc h.keys4 fun y hy e=>by
    have:=(find_none.1 f4) y hy
    simp only [decide_eq_false_iff_not] at this
    simp only [Prod.mk.injEq] at e
    exact this e
  ok y hy:=by
    rcases List.mem_append.1 hy with hy | hy
    · obtain ⟨a,b,c,d,e⟩:=h.ok y hy; exact ⟨a,b,c,d,by omega⟩
    · rw [List.mem_singleton.1 hy]; exact ⟨hk,h6,h4,by omega,by omega⟩
  pool y hy:=by
    rcases List.mem_append.1 hy with hy | hy
    · exact h.pool y hy
    · rw [List.mem_singleton.1 hy]; exact hp
  len:=by rw [List.length_append]; simp; omega
  mx:=h.mx
  last:=by have:=h.last; omega
  n:=by omega
  new:=h.new
  okl:=h.okl
theorem held_put (x:Bd) (k:Int):heldB (L++[x]) k=if kindB x.proto=k then heldB L k++[(x.out,x.st)] else heldB L k:=by
  unfold heldB
  rw [List.filter_append,List.map_append]
  by_cases h:kindB x.proto=k
  · rw [if_pos h]
    simp [h]
  · rw [if_neg h]
    simp [h]
theorem held_get (h:InvB l low high mx last n L) {p:Int} (hp:0≤kindB p) (o:Q × Int):getL o (heldB L (kindB p))=(find4 p o L).map (·.st):=by
  unfold heldB
  rw [getL_mapK (fun b:Bd=>b.out) (fun b=>b.st),List.find?_filter]
  congr 1
  refine find_congr fun x hx=>?_
  refine decide_eq_decide.2 ⟨fun ⟨a,b⟩=>⟨kind_inj (h.ok x hx).1 (of_decide_eq_true a),of_decide_eq_true b⟩,fun ⟨a,b⟩=>⟨decide_eq_true (by rw [a]),decide_eq_true b⟩⟩
theorem putL_none {α β:Type} [DecidableEq α] {k:α} {v:β} {L:List (α × β)} (h:getL k L=none):putL k v L=L++[(k,v)]:=put_new h
end
end Go.Proofs
set_option linter.unusedVariables false
set_option maxRecDepth 20000
set_option maxHeartbeats 4000000
namespace Go.Proofs
open Go Go.HL
section
variable {e:Env} {x0:OA} {x1:List Value} {x3:OA} {k4:List Value} {hp:HP} {K:Env→PV→HP→Prop}
abbrev R70 (p n:Nat):=RW Tryd.prog 48 [4] (opsAt Tryd.f70 (pth p)) (List.range n)
theorem F70_r0:R70 2 2 (upd e 1 (sA x1)) V0 hp K=
    (∀ b1:Nat,hp b1=.none→(K (w3 e 1 (sA x1) 3 (sQ b1 0) 4 (sR 4 0)) (upd V0 4 (36,[.int .i64 0,.int .i64 0,.int .u8 0,.int .u8 0,.int .u8 0,.int .u8 0,.int .u8 0,.int .u8 0,.int .u8 0,.int .u8 0,.int .u8 0,.int .u8 0,.int .u8 0,.int .u8 0,.int .u8 0,.int .u8 0,.int .u8 0,.int .u8 0,.int .i64 0,.int .u8 0,.int .u8 0,.int .u8 0,.int .u8 0,.int .i64 0,.bool false,.int .i64 0])) (HP.set hp b1 (.cells 36 x1 0)))):=by kernel_rfl
theorem F70_r1:R70 5 8 (upd e 0 (sP x0)) (upd V0 4 (36,k4)) hp K=
 ptrN x0 fun b1 o2=>(ldV (HP.cell hp b1 (o2+1)) fun v3=>intV v3 .i64 fun i4=>ptrN x0 fun b5 o6=>HP.st hp b5 (o6+1) (.int .i64 (wr (i4+1))) fun h7=>K (w8 e 0 (sP x0) 5 (sP x0) 6 (sQ b1 o2) 7 (sQ b1 (o2+1)) 8 (sI i4) 9 (sI ((wr (i4+1)))) 10 (sQ b5 o6) 11 (sQ b5 (o6+1))) (upd V0 4 (36,k4)) h7):= by kernel_rfl
theorem F70_r2:R70 11 6 (w2 e 3 (sP x3) 0 (sP x0)) (upd V0 4 (36,k4)) hp K=
 ptrN x0 fun b1 o2=>(ldV (HP.cell hp b1 (o2+1)) fun v3=>intV v3 .i64 fun i4=>ptrN x3 fun b5 o6=>HP.st hp b5 (o6+0) (.int .i64 i4) fun h7=>K (w7 e 3 (sP x3) 0 (sP x0) 12 (sP x0) 13 (sQ b1 o2) 14 (sQ b1 (o2+1)) 15 (sI i4) 16 (sQ b5 (o6+0))) (upd V0 4 (36,k4)) h7):= by kernel_rfl
theorem F70_r3:R70 23 7 (w2 e 3 (sP x3) 0 (sP x0)) (upd V0 4 (36,k4)) hp K=
 ptrN x0 fun b1 o2=>(ldV (HP.cell hp b1 (o2+6)) fun v3=>mapV v3 fun m4=>ptrN x3 fun b5 o6=>ldV (HP.cell hp b5 (o6+0)) fun v7=>intV v7 .i64 fun i8=>opS Tryd.prog (Instr.mapUpdate 123 (.map m4) (.int .i64 i8) (.pointer x3)) hp fun u9 h10=>K (w8 e 3 (sP x3) 0 (sP x0) 17 (sP x0) 18 (sQ b1 o2) 19 (sQ b1 (o2+6)) 20 (sV (.map m4)) 21 (sQ b5 (o6+0)) 22 (sI i8)) (upd V0 4 (36,k4)) h10):= by kernel_rfl
theorem F70_r4:R70 191 2 (w2 e 4 (sR 4 0) 3 (sP x3)) (upd V0 4 (36,k4)) hp K=
 ptrN x3 fun b1 o2=>(ldL (HP.cellN hp b1 o2 26) fun l3=>if List.length l3=26 then (if List.all l3 one=true then (if 0+List.length l3≤List.length k4 then (K (w3 e 4 (sR 4 0) 3 (sP x3) 47 (sA l3)) (w2 V0 4 (36,k4) 4 (36,(splice k4 0 l3))) hp) else False) else False) else False):= by kernel_rfl
def F70_j2 (x3:OA) (k4:List Value) (hp:HP) (K:Kh):Prop:=
  (ptrN x3 fun b26 o27=>ldL (HP.cellN hp b26 o27 26) fun l28=>if List.length l28=26 then (if List.all l28 one=true then (if 0+List.length l28≤List.length k4 then (ldL (cellsN (splice k4 0 l28) 0 26) fun l29=>K (.agg ⟨l29⟩) hp) else False) else False) else False)
theorem F70_r5 {e:Env} {x0:OA} {x3:OA} {k4:List Value} {hp:HP} {K:Env→PV→HP→Prop}:RW Tryd.prog 48 [4] (opsAt Tryd.f70 (pth 95)) [0,1,2,3,4,5,6,7,8,9,10,11] (w2 e 3 (sP x3) 0 (sP x0)) (upd V0 4 (36,k4)) hp K=
 ptrN x0 fun b1 o2=>(ldV (HP.cell hp b1 (o2+8)) fun v3=>ptrV v3 fun p4=>ptrN x3 fun b5 o6=>ldV (HP.cell hp b5 (o6+1)) fun v7=>intV v7 .i64 fun i8=>ptrN x3 fun b9 o10=>ldL (HP.cellN hp b9 (o10+19) 5) fun l11=>CF Tryd.prog 105 [(.int .i64 i8),(.agg ⟨l11⟩)] hp fun u12 h13=>strV u12 fun s14=>ptrN x3 fun b15 o16=>ldV (HP.cell h13 b15 (o16+0)) fun v17=>intV v17 .i64 fun i18=>CF Tryd.prog 86 [(.pointer p4),(.string s14),(.int .i64 i18)] h13 fun u19 h20=>intV u19 .i64 fun i21=>K (w6 (w8 e 3 (sP x3) 0 (sP x0) 35 (sP x0) 36 (sQ b1 o2) 37 (sQ b1 (o2+8)) 38 (sP p4) 39 (sQ b5 (o6+1)) 40 (sI i8)) 41 (sQ b9 (o10+19)) 42 (sA l11) 43 (sT s14) 44 (sQ b15 (o16+0)) 45 (sI i18) 46 (sI i21)) (upd V0 4 (36,k4)) h20):= by kernel_rfl
theorem F70_r6 {e:Env} {x0:OA} {x3:OA} {k4:List Value} {hp:HP} {K:Env→PV→HP→Prop}:RW Tryd.prog 48 [4] (opsAt Tryd.f70 (pth 95)) [0,1,2,3,4,5,6,7,9,10,8,11] (w2 e 3 (sP x3) 0 (sP x0)) (upd V0 4 (36,k4)) hp K=
 ptrN x0 fun b1 o2=>(ldV (HP.cell hp b1 (o2+8)) fun v3=>ptrV v3 fun p4=>ptrN x3 fun b5 o6=>ldV (HP.cell hp b5 (o6+1)) fun v7=>intV v7 .i64 fun i8=>ptrN x3 fun b9 o10=>ldL (HP.cellN hp b9 (o10+19) 5) fun l11=>ptrN x3 fun b12 o13=>ldV (HP.cell hp b12 (o13+0)) fun v14=>intV v14 .i64 fun i15=>CF Tryd.prog 105 [(.int .i64 i8),(.agg ⟨l11⟩)] hp fun u16 h17=>strV u16 fun s18=>CF Tryd.prog 86 [(.pointer p4),(.string s18),(.int .i64 i15)] h17 fun u19 h20=>intV u19 .i64 fun i21=>K (w6 (w8 e 3 (sP x3) 0 (sP x0) 35 (sP x0) 36 (sQ b1 o2) 37 (sQ b1 (o2+8)) 38 (sP p4) 39 (sQ b5 (o6+1)) 40 (sI i8)) 41 (sQ b9 (o10+19)) 42 (sA l11) 44 (sQ b12 (o13+0)) 45 (sI i15) 43 (sT s18) 46 (sI i21)) (upd V0 4 (36,k4)) h20):= by kernel_rfl
theorem F70_r7 {e:Env} {x0:OA} {x3:OA} {k4:List Value} {hp:HP} {K:Env→PV→HP→Prop}:RW Tryd.prog 48 [4] (opsAt Tryd.f70 (pth 95)) [0,1,2,4,5,6,7,8,3,9,10,11] (w2 e 3 (sP x3) 0 (sP x0)) (upd V0 4 (36,k4)) hp K=
 ptrN x0 fun b1 o2=>(ptrN x3 fun b3 o4=>ldV (HP.cell hp b3 (o4+1)) fun v5=>intV v5 .i64 fun i6=>ptrN x3 fun b7 o8=>ldL (HP.cellN hp b7 (o8+19) 5) fun l9=>CF Tryd.prog 105 [(.int .i64 i6),(.agg ⟨l9⟩)] hp fun u10 h11=>strV u10 fun s12=>ldV (HP.cell h11 b1 (o2+8)) fun v13=>ptrV v13 fun p14=>ptrN x3 fun b15 o16=>ldV (HP.cell h11 b15 (o16+0)) fun v17=>intV v17 .i64 fun i18=>CF Tryd.prog 86 [(.pointer p14),(.string s12),(.int .i64 i18)] h11 fun u19 h20=>intV u19 .i64 fun i21=>K (w6 (w8 e 3 (sP x3) 0 (sP x0) 35 (sP x0) 36 (sQ b1 o2) 37 (sQ b1 (o2+8)) 39 (sQ b3 (o4+1)) 40 (sI i6) 41 (sQ b7 (o8+19))) 42 (sA l9) 43 (sT s12) 38 (sP p14) 44 (sQ b15 (o16+0)) 45 (sI i18) 46 (sI i21)) (upd V0 4 (36,k4)) h20):= by kernel_rfl
theorem F70_r8 {e:Env} {x0:OA} {x3:OA} {k4:List Value} {hp:HP} {K:Env→PV→HP→Prop}:RW Tryd.prog 48 [4] (opsAt Tryd.f70 (pth 95)) [0,1,2,4,5,6,7,9,10,8,3,11] (w2 e 3 (sP x3) 0 (sP x0)) (upd V0 4 (36,k4)) hp K=
 ptrN x0 fun b1 o2=>(ptrN x3 fun b3 o4=>ldV (HP.cell hp b3 (o4+1)) fun v5=>intV v5 .i64 fun i6=>ptrN x3 fun b7 o8=>ldL (HP.cellN hp b7 (o8+19) 5) fun l9=>ptrN x3 fun b10 o11=>ldV (HP.cell hp b10 (o11+0)) fun v12=>intV v12 .i64 fun i13=>CF Tryd.prog 105 [(.int .i64 i6),(.agg ⟨l9⟩)] hp fun u14 h15=>strV u14 fun s16=>ldV (HP.cell h15 b1 (o2+8)) fun v17=>ptrV v17 fun p18=>CF Tryd.prog 86 [(.pointer p18),(.string s16),(.int .i64 i13)] h15 fun u19 h20=>intV u19 .i64 fun i21=>K (w6 (w8 e 3 (sP x3) 0 (sP x0) 35 (sP x0) 36 (sQ b1 o2) 37 (sQ b1 (o2+8)) 39 (sQ b3 (o4+1)) 40 (sI i6) 41 (sQ b7 (o8+19))) 42 (sA l9) 44 (sQ b10 (o11+0)) 45 (sI i13) 43 (sT s16) 38 (sP p18) 46 (sI i21)) (upd V0 4 (36,k4)) h20):= by kernel_rfl
def F70_j1 (x0 x3:OA) (k4:List Value) (hp:HP) (K:Kh):Prop:=
  ((ptrN x0 fun b30 o31=>ldV (HP.cell hp b30 (o31+8)) fun v32=>ptrV v32 fun p33=>ptrN x3 fun b34 o35=>ldV (HP.cell hp b34 (o35+1)) fun v36=>intV v36 .i64 fun i37=>ptrN x3 fun b38 o39=>ldL (HP.cellN hp b38 (o39+19) 5) fun l40=>CF Tryd.prog 105 [(.int .i64 i37),(.agg ⟨l40⟩)] hp fun u41 h42=>strV u41 fun s43=>ptrN x3 fun b44 o45=>ldV (HP.cell h42 b44 (o45+0)) fun v46=>intV v46 .i64 fun i47=>CF Tryd.prog 86 [(.pointer p33),(.string s43),(.int .i64 i47)] h42 fun u48 h49=>intV u48 .i64 fun i50=>F70_j2 x3 k4 h49  K)∧(ptrN x0 fun b51 o52=>ldV (HP.cell hp b51 (o52+8)) fun v53=>ptrV v53 fun p54=>ptrN x3 fun b55 o56=>ldV (HP.cell hp b55 (o56+1)) fun v57=>intV v57 .i64 fun i58=>ptrN x3 fun b59 o60=>ldL (HP.cellN hp b59 (o60+19) 5) fun l61=>ptrN x3 fun b62 o63=>ldV (HP.cell hp b62 (o63+0)) fun v64=>intV v64 .i64 fun i65=>CF Tryd.prog 105 [(.int .i64 i58),(.agg ⟨l61⟩)] hp fun u66 h67=>strV u66 fun s68=>CF Tryd.prog 86 [(.pointer p54),(.string s68),(.int .i64 i65)] h67 fun u69 h70=>intV u69 .i64 fun i71=>F70_j2 x3 k4 h70  K)∧(ptrN x0 fun b72 o73=>ptrN x3 fun b74 o75=>ldV (HP.cell hp b74 (o75+1)) fun v76=>intV v76 .i64 fun i77=>ptrN x3 fun b78 o79=>ldL (HP.cellN hp b78 (o79+19) 5) fun l80=>CF Tryd.prog 105 [(.int .i64 i77),(.agg ⟨l80⟩)] hp fun u81 h82=>strV u81 fun s83=>ldV (HP.cell h82 b72 (o73+8)) fun v84=>ptrV v84 fun p85=>ptrN x3 fun b86 o87=>ldV (HP.cell h82 b86 (o87+0)) fun v88=>intV v88 .i64 fun i89=>CF Tryd.prog 86 [(.pointer p85),(.string s83),(.int .i64 i89)] h82 fun u90 h91=>intV u90 .i64 fun i92=>F70_j2 x3 k4 h91  K)∧(ptrN x0 fun b93 o94=>ptrN x3 fun b95 o96=>ldV (HP.cell hp b95 (o96+1)) fun v97=>intV v97 .i64 fun i98=>ptrN x3 fun b99 o100=>ldL (HP.cellN hp b99 (o100+19) 5) fun l101=>ptrN x3 fun b102 o103=>ldV (HP.cell hp b102 (o103+0)) fun v104=>intV v104 .i64 fun i105=>CF Tryd.prog 105 [(.int .i64 i98),(.agg ⟨l101⟩)] hp fun u106 h107=>strV u106 fun s108=>ldV (HP.cell h107 b93 (o94+8)) fun v109=>ptrV v109 fun p110=>CF Tryd.prog 86 [(.pointer p110),(.string s108),(.int .i64 i105)] h107 fun u111 h112=>intV u111 .i64 fun i113=>F70_j2 x3 k4 h112  K))
theorem F70_r9 {e:Env} {x0:OA} {x3:OA} {k4:List Value} {hp:HP} {K:Env→PV→HP→Prop}:RW Tryd.prog 48 [4] (opsAt Tryd.f70 (pth 47)) [0,1,2,3,4,5,6,7,8,9,10,11] (w2 e 3 (sP x3) 0 (sP x0)) (upd V0 4 (36,k4)) hp K=
 ptrN x0 fun b1 o2=>(ldV (HP.cell hp b1 (o2+7)) fun v3=>ptrV v3 fun p4=>ptrN x3 fun b5 o6=>ldV (HP.cell hp b5 (o6+1)) fun v7=>intV v7 .i64 fun i8=>ptrN x3 fun b9 o10=>ldL (HP.cellN hp b9 (o10+2) 17) fun l11=>CF Tryd.prog 107 [(.int .i64 i8),(.agg ⟨l11⟩)] hp fun u12 h13=>strV u12 fun s14=>ptrN x3 fun b15 o16=>ldV (HP.cell h13 b15 (o16+0)) fun v17=>intV v17 .i64 fun i18=>CF Tryd.prog 86 [(.pointer p4),(.string s14),(.int .i64 i18)] h13 fun u19 h20=>intV u19 .i64 fun i21=>K (w6 (w8 e 3 (sP x3) 0 (sP x0) 23 (sP x0) 24 (sQ b1 o2) 25 (sQ b1 (o2+7)) 26 (sP p4) 27 (sQ b5 (o6+1)) 28 (sI i8)) 29 (sQ b9 (o10+2)) 30 (sA l11) 31 (sT s14) 32 (sQ b15 (o16+0)) 33 (sI i18) 34 (sI i21)) (upd V0 4 (36,k4)) h20):= by kernel_rfl
theorem F70_r10 {e:Env} {x0:OA} {x3:OA} {k4:List Value} {hp:HP} {K:Env→PV→HP→Prop}:RW Tryd.prog 48 [4] (opsAt Tryd.f70 (pth 47)) [0,1,2,3,4,5,6,7,9,10,8,11] (w2 e 3 (sP x3) 0 (sP x0)) (upd V0 4 (36,k4)) hp K=
 ptrN x0 fun b1 o2=>(ldV (HP.cell hp b1 (o2+7)) fun v3=>ptrV v3 fun p4=>ptrN x3 fun b5 o6=>ldV (HP.cell hp b5 (o6+1)) fun v7=>intV v7 .i64 fun i8=>ptrN x3 fun b9 o10=>ldL (HP.cellN hp b9 (o10+2) 17) fun l11=>ptrN x3 fun b12 o13=>ldV (HP.cell hp b12 (o13+0)) fun v14=>intV v14 .i64 fun i15=>CF Tryd.prog 107 [(.int .i64 i8),(.agg ⟨l11⟩)] hp fun u16 h17=>strV u16 fun s18=>CF Tryd.prog 86 [(.pointer p4),(.string s18),(.int .i64 i15)] h17 fun u19 h20=>intV u19 .i64 fun i21=>K (w6 (w8 e 3 (sP x3) 0 (sP x0) 23 (sP x0) 24 (sQ b1 o2) 25 (sQ b1 (o2+7)) 26 (sP p4) 27 (sQ b5 (o6+1)) 28 (sI i8)) 29 (sQ b9 (o10+2)) 30 (sA l11) 32 (sQ b12 (o13+0)) 33 (sI i15) 31 (sT s18) 34 (sI i21)) (upd V0 4 (36,k4)) h20):= by kernel_rfl
theorem F70_r11 {e:Env} {x0:OA} {x3:OA} {k4:List Value} {hp:HP} {K:Env→PV→HP→Prop}:RW Tryd.prog 48 [4] (opsAt Tryd.f70 (pth 47)) [0,1,2,4,5,6,7,8,3,9,10,11] (w2 e 3 (sP x3) 0 (sP x0)) (upd V0 4 (36,k4)) hp K=
 ptrN x0 fun b1 o2=>(ptrN x3 fun b3 o4=>ldV (HP.cell hp b3 (o4+1)) fun v5=>intV v5 .i64 fun i6=>ptrN x3 fun b7 o8=>ldL (HP.cellN hp b7 (o8+2) 17) fun l9=>CF Tryd.prog 107 [(.int .i64 i6),(.agg ⟨l9⟩)] hp fun u10 h11=>strV u10 fun s12=>ldV (HP.cell h11 b1 (o2+7)) fun v13=>ptrV v13 fun p14=>ptrN x3 fun b15 o16=>ldV (HP.cell h11 b15 (o16+0)) fun v17=>intV v17 .i64 fun i18=>CF Tryd.prog 86 [(.pointer p14),(.string s12),(.int .i64 i18)] h11 fun u19 h20=>intV u19 .i64 fun i21=>K (w6 (w8 e 3 (sP x3) 0 (sP x0) 23 (sP x0) 24 (sQ b1 o2) 25 (sQ b1 (o2+7)) 27 (sQ b3 (o4+1)) 28 (sI i6) 29 (sQ b7 (o8+2))) 30 (sA l9) 31 (sT s12) 26 (sP p14) 32 (sQ b15 (o16+0)) 33 (sI i18) 34 (sI i21)) (upd V0 4 (36,k4)) h20):= by kernel_rfl
theorem F70_r12 {e:Env} {x0:OA} {x3:OA} {k4:List Value} {hp:HP} {K:Env→PV→HP→Prop}:RW Tryd.prog 48 [4] (opsAt Tryd.f70 (pth 47)) [0,1,2,4,5,6,7,9,10,8,3,11] (w2 e 3 (sP x3) 0 (sP x0)) (upd V0 4 (36,k4)) hp K=
 ptrN x0 fun b1 o2=>(ptrN x3 fun b3 o4=>ldV (HP.cell hp b3 (o4+1)) fun v5=>intV v5 .i64 fun i6=>ptrN x3 fun b7 o8=>ldL (HP.cellN hp b7 (o8+2) 17) fun l9=>ptrN x3 fun b10 o11=>ldV (HP.cell hp b10 (o11+0)) fun v12=>intV v12 .i64 fun i13=>CF Tryd.prog 107 [(.int .i64 i6),(.agg ⟨l9⟩)] hp fun u14 h15=>strV u14 fun s16=>ldV (HP.cell h15 b1 (o2+7)) fun v17=>ptrV v17 fun p18=>CF Tryd.prog 86 [(.pointer p18),(.string s16),(.int .i64 i13)] h15 fun u19 h20=>intV u19 .i64 fun i21=>K (w6 (w8 e 3 (sP x3) 0 (sP x0) 23 (sP x0) 24 (sQ b1 o2) 25 (sQ b1 (o2+7)) 27 (sQ b3 (o4+1)) 28 (sI i6) 29 (sQ b7 (o8+2))) 30 (sA l9) 32 (sQ b10 (o11+0)) 33 (sI i13) 31 (sT s16) 26 (sP p18) 34 (sI i21)) (upd V0 4 (36,k4)) h20):= by kernel_rfl
def F70 (x0:OA) (x1:List Value) (hp:HP) (K:Kh):Prop:=
  (∀ b1:Nat,hp b1=.none→(ptrN x0 fun b2 o3=>ldV (HP.cell (HP.set hp b1 (.cells 36 x1 0)) b2 (o3+1)) fun v4=>intV v4 .i64 fun i5=>ptrN x0 fun b6 o7=>HP.st (HP.set hp b1 (.cells 36 x1 0)) b6 (o7+1) (.int .i64 (IntKind.wrap .i64 (i5+1))) fun h8=>ptrN x0 fun b9 o10=>ldV (HP.cell h8 b9 (o10+1)) fun v11=>intV v11 .i64 fun i12=>ptrN (some ⟨b1,0,none⟩) fun b13 o14=>HP.st h8 b13 (o14+0) (.int .i64 i12) fun h15=>ptrN x0 fun b16 o17=>ldV (HP.cell h15 b16 (o17+6)) fun v18=>mapV v18 fun m19=>ptrN (some ⟨b1,0,none⟩) fun b20 o21=>ldV (HP.cell h15 b20 (o21+0)) fun v22=>intV v22 .i64 fun i23=>opS Tryd.prog (Instr.mapUpdate 123 (.map m19) (.int .i64 i23) (.pointer (some ⟨b1,0,none⟩))) h15 fun u24 h25=>(ptrN x0 fun b114 o115=>ldV (HP.cell h25 b114 (o115+7)) fun v116=>ptrV v116 fun p117=>ptrN (some ⟨b1,0,none⟩) fun b118 o119=>ldV (HP.cell h25 b118 (o119+1)) fun v120=>intV v120 .i64 fun i121=>ptrN (some ⟨b1,0,none⟩) fun b122 o123=>ldL (HP.cellN h25 b122 (o123+2) 17) fun l124=>CF Tryd.prog 107 [(.int .i64 i121),(.agg ⟨l124⟩)] h25 fun u125 h126=>strV u125 fun s127=>ptrN (some ⟨b1,0,none⟩) fun b128 o129=>ldV (HP.cell h126 b128 (o129+0)) fun v130=>intV v130 .i64 fun i131=>CF Tryd.prog 86 [(.pointer p117),(.string s127),(.int .i64 i131)] h126 fun u132 h133=>intV u132 .i64 fun i134=>F70_j1 x0 (some ⟨b1,0,none⟩) [.int .i64 0,.int .i64 0,.int .u8 0,.int .u8 0,.int .u8 0,.int .u8 0,.int .u8 0,.int .u8 0,.int .u8 0,.int .u8 0,.int .u8 0,.int .u8 0,.int .u8 0,.int .u8 0,.int .u8 0,.int .u8 0,.int .u8 0,.int .u8 0,.int .i64 0,.int .u8 0,.int .u8 0,.int .u8 0,.int .u8 0,.int .i64 0,.bool false,.int .i64 0] h133  K)∧(ptrN x0 fun b135 o136=>ldV (HP.cell h25 b135 (o136+7)) fun v137=>ptrV v137 fun p138=>ptrN (some ⟨b1,0,none⟩) fun b139 o140=>ldV (HP.cell h25 b139 (o140+1)) fun v141=>intV v141 .i64 fun i142=>ptrN (some ⟨b1,0,none⟩) fun b143 o144=>ldL (HP.cellN h25 b143 (o144+2) 17) fun l145=>ptrN (some ⟨b1,0,none⟩) fun b146 o147=>ldV (HP.cell h25 b146 (o147+0)) fun v148=>intV v148 .i64 fun i149=>CF Tryd.prog 107 [(.int .i64 i142),(.agg ⟨l145⟩)] h25 fun u150 h151=>strV u150 fun s152=>CF Tryd.prog 86 [(.pointer p138),(.string s152),(.int .i64 i149)] h151 fun u153 h154=>intV u153 .i64 fun i155=>F70_j1 x0 (some ⟨b1,0,none⟩) [.int .i64 0,.int .i64 0,.int .u8 0,.int .u8 0,.int .u8 0,.int .u8 0,.int .u8 0,.int .u8 0,.int .u8 0,.int .u8 0,.int .u8 0,.int .u8 0,.int .u8 0,.int .u8 0,.int .u8 0,.int .u8 0,.int .u8 0,.int .u8 0,.int .i64 0,.int .u8 0,.int .u8 0,.int .u8 0,.int .u8 0,.int .i64 0,.bool false,.int .i64 0] h154  K)∧(ptrN x0 fun b156 o157=>ptrN (some ⟨b1,0,none⟩) fun b158 o159=>ldV (HP.cell h25 b158 (o159+1)) fun v160=>intV v160 .i64 fun i161=>ptrN (some ⟨b1,0,none⟩) fun b162 o163=>ldL (HP.cellN h25 b162 (o163+2) 17) fun l164=>CF Tryd.prog 107 [(.int .i64 i161),(.agg ⟨l164⟩)] h25 fun u165 h166=>strV u165 fun s167=>ldV (HP.cell h166 b156 (o157+7)) fun v168=>ptrV v168 fun p169=>ptrN (some ⟨b1,0,none⟩) fun b170 o171=>ldV (HP.cell h166 b170 (o171+0)) fun v172=>intV v172 .i64 fun i173=>CF Tryd.prog 86 [(.pointer p169),(.string s167),(.int .i64 i173)] h166 fun u174 h175=>intV u174 .i64 fun i176=>F70_j1 x0 (some ⟨b1,0,none⟩) [.int .i64 0,.int .i64 0,.int .u8 0,.int .u8 0,.int .u8 0,.int .u8 0,.int .u8 0,.int .u8 0,.int .u8 0,.int .u8 0,.int .u8 0,.int .u8 0,.int .u8 0,.int .u8 0,.int .u8 0,.int .u8 0,.int .u8 0,.int .u8 0,.int .i64 0,.int .u8 0,.int .u8 0,.int .u8 0,.int .u8 0,.int .i64 0,.bool false,.int .i64 0] h175  K)∧(ptrN x0 fun b177 o178=>ptrN (some ⟨b1,0,none⟩) fun b179 o180=>ldV (HP.cell h25 b179 (o180+1)) fun v181=>intV v181 .i64 fun i182=>ptrN (some ⟨b1,0,none⟩) fun b183 o184=>ldL (HP.cellN h25 b183 (o184+2) 17) fun l185=>ptrN (some ⟨b1,0,none⟩) fun b186 o187=>ldV (HP.cell h25 b186 (o187+0)) fun v188=>intV v188 .i64 fun i189=>CF Tryd.prog 107 [(.int .i64 i182),(.agg ⟨l185⟩)] h25 fun u190 h191=>strV u190 fun s192=>ldV (HP.cell h191 b177 (o178+7)) fun v193=>ptrV v193 fun p194=>CF Tryd.prog 86 [(.pointer p194),(.string s192),(.int .i64 i189)] h191 fun u195 h196=>intV u195 .i64 fun i197=>F70_j1 x0 (some ⟨b1,0,none⟩) [.int .i64 0,.int .i64 0,.int .u8 0,.int .u8 0,.int .u8 0,.int .u8 0,.int .u8 0,.int .u8 0,.int .u8 0,.int .u8 0,.int .u8 0,.int .u8 0,.int .u8 0,.int .u8 0,.int .u8 0,.int .u8 0,.int .u8 0,.int .u8 0,.int .i64 0,.int .u8 0,.int .u8 0,.int .u8 0,.int .u8 0,.int .i64 0,.bool false,.int .i64 0] h196  K)))
noncomputable abbrev o70 (k n:Nat):Code:=.region k (opsAt Tryd.f70 (pth n)) false
noncomputable def F70_code:Code:=(.seq (o70 0 2) (.seq (o70 1 5) (.seq (o70 2 11) (.seq (.region 3 (opsAt Tryd.f70 (pth 23)) true) (.seq (.region 4 (opsAt Tryd.f70 (pth 47)) true) (.seq (.region 5 (opsAt Tryd.f70 (pth 95)) true) (.seq (o70 6 191) .ret)))))))
theorem F70_body:Tryd.f70.body=some F70_code:=by kernel_rfl
theorem F70_ok (x0:OA) (x1:List Value) (hp:HP) (K:Kh) (h:F70 x0 x1 hp K):CF Tryd.prog 70 [(.pointer x0),(.agg ⟨x1⟩)] hp K:=by
 refine .inl ⟨by kernel_rfl,AC.intro (N:=48) Tryd.func70 F70_body rfl (Nat.le_of_ble_eq_true rfl) ?_⟩
 unfold F70 at h
 refine Ar F70_r0 ?_ (r2 1 0 Rn) (z2 Sn) Sn
 refine fun b1 hb_b_1=>?_
 replace h:=h b1 hb_b_1
 refine Ar F70_r1 ?_ (r2 0 3 (rp 4 4 0 Rn)) (z3 Sn) (z1 Sn)
 refine mN h fun b2 o3 h=>mV h fun v4 h=>mI h fun i5 h=>mN h fun b6 o7 h=>mw h fun h8 h=>?_
 refine Ar F70_r2 ?_ (r2 0 3 (rp 4 4 0 Rn)) (z3 Sn) (z1 Sn)
 refine mN h fun b9 o10 h=>mV h fun v11 h=>mI h fun i12 h=>mN h fun b13 o14 h=>mw h fun h15 h=>?_
 refine Aq (AWP.rgnD (by kernel_rfl) (by kernel_rfl) F70_r3 ?_ (r2 0 3 (rp 4 4 0 Rn)) (z3 Sn) (z1 Sn))
 refine mN h fun b16 o17 h=>mV h fun v18 h=>mM h fun m19 h=>mN h fun b20 o21 h=>mV h fun v22 h=>mI h fun i23 h=>mO h fun u24 h25 h=>?_
 refine As (fun env pv hp=>∃ x0 x3 k4,Sub (w3 E0 4 (sR 4 0) 3 (sP x3) 0 (sP x0)) env∧Sub (upd V0 4 (36,k4)) pv∧(F70_j1 x0 x3 k4 hp  K)) ?_ ?_
 ·refine AWP.rgnC (cf:=[(3,8),(8,10)]) (c:=[([true,true],true,[0,1,2,3,4,5,6,7,8,9,10,11]),([true,false],true,[0,1,2,3,4,5,6,7,9,10,8,11]),([false,true],true,[0,1,2,4,5,6,7,8,3,9,10,11]),([false,false],true,[0,1,2,4,5,6,7,9,10,8,3,11])]) (by kernel_rfl) (by kernel_rfl) (by kernel_rfl) (by kernel_rfl) (allO_t (Eq.mpr F70_r9 ?_) (allO_t (Eq.mpr F70_r10 ?_) (allO_t (Eq.mpr F70_r11 ?_) (allO_t (Eq.mpr F70_r12 ?_) trivial)))) (r2 0 3 (rp 4 4 0 Rn)) (z3 Sn) (z1 Sn)
  ·replace h:=h.1
   refine mN h fun b114 o115 h=>mV h fun v116 h=>mP h fun p117 h=>mN h fun b118 o119 h=>mV h fun v120 h=>mI h fun i121 h=>mN h fun b122 o123 h=>mL h fun l124 h=>mC h fun u125 h126 h=>ms h fun s127 h=>mN h fun b128 o129 h=>mV h fun v130 h=>mI h fun i131 h=>mC h fun u132 h133 h=>mI h fun i134 h=>?_
   exact ⟨_,_,_,(z3 Sn),(z1 Sn),h⟩
  ·replace h:=h.2.1
   refine mN h fun b135 o136 h=>mV h fun v137 h=>mP h fun p138 h=>mN h fun b139 o140 h=>mV h fun v141 h=>mI h fun i142 h=>mN h fun b143 o144 h=>mL h fun l145 h=>mN h fun b146 o147 h=>mV h fun v148 h=>mI h fun i149 h=>mC h fun u150 h151 h=>ms h fun s152 h=>mC h fun u153 h154 h=>mI h fun i155 h=>?_
   exact ⟨_,_,_,(z3 Sn),(z1 Sn),h⟩
  ·replace h:=h.2.2.1
   refine mN h fun b156 o157 h=>mN h fun b158 o159 h=>mV h fun v160 h=>mI h fun i161 h=>mN h fun b162 o163 h=>mL h fun l164 h=>mC h fun u165 h166 h=>ms h fun s167 h=>mV h fun v168 h=>mP h fun p169 h=>mN h fun b170 o171 h=>mV h fun v172 h=>mI h fun i173 h=>mC h fun u174 h175 h=>mI h fun i176 h=>?_
   exact ⟨_,_,_,(z3 Sn),(z1 Sn),h⟩
  ·replace h:=h.2.2.2
   refine mN h fun b177 o178 h=>mN h fun b179 o180 h=>mV h fun v181 h=>mI h fun i182 h=>mN h fun b183 o184 h=>mL h fun l185 h=>mN h fun b186 o187 h=>mV h fun v188 h=>mI h fun i189 h=>mC h fun u190 h191 h=>ms h fun s192 h=>mV h fun v193 h=>mP h fun p194 h=>mC h fun u195 h196 h=>mI h fun i197 h=>?_
   exact ⟨_,_,_,(z3 Sn),(z1 Sn),h⟩
 ·rintro env pv hp ⟨x0,x3,k4,he,hv,h⟩
  refine Ae ?_ (r2 0 3 (rp 4 4 0 Rn)) he hv
  unfold F70_j1 at h
  refine As (fun env pv hp=>∃ x3 k4,Sub (w2 E0 4 (sR 4 0) 3 (sP x3)) env∧Sub (upd V0 4 (36,k4)) pv∧(F70_j2 x3 k4 hp  K)) ?_ ?_
  ·refine AWP.rgnC (cf:=[(3,8),(8,10)]) (c:=[([true,true],true,[0,1,2,3,4,5,6,7,8,9,10,11]),([true,false],true,[0,1,2,3,4,5,6,7,9,10,8,11]),([false,true],true,[0,1,2,4,5,6,7,8,3,9,10,11]),([false,false],true,[0,1,2,4,5,6,7,9,10,8,3,11])]) (by kernel_rfl) (by kernel_rfl) (by kernel_rfl) (by kernel_rfl) (allO_t (Eq.mpr F70_r5 ?_) (allO_t (Eq.mpr F70_r6 ?_) (allO_t (Eq.mpr F70_r7 ?_) (allO_t (Eq.mpr F70_r8 ?_) trivial)))) (r2 0 3 (rp 4 4 0 Rn)) (z3 Sn) (z1 Sn)
   ·replace h:=h.1
    refine mN h fun b30 o31 h=>mV h fun v32 h=>mP h fun p33 h=>mN h fun b34 o35 h=>mV h fun v36 h=>mI h fun i37 h=>mN h fun b38 o39 h=>mL h fun l40 h=>mC h fun u41 h42 h=>ms h fun s43 h=>mN h fun b44 o45 h=>mV h fun v46 h=>mI h fun i47 h=>mC h fun u48 h49 h=>mI h fun i50 h=>?_
    exact ⟨_,_,(z2 Sn),(z1 Sn),h⟩
   ·replace h:=h.2.1
    refine mN h fun b51 o52 h=>mV h fun v53 h=>mP h fun p54 h=>mN h fun b55 o56 h=>mV h fun v57 h=>mI h fun i58 h=>mN h fun b59 o60 h=>mL h fun l61 h=>mN h fun b62 o63 h=>mV h fun v64 h=>mI h fun i65 h=>mC h fun u66 h67 h=>ms h fun s68 h=>mC h fun u69 h70 h=>mI h fun i71 h=>?_
    exact ⟨_,_,(z2 Sn),(z1 Sn),h⟩
   ·replace h:=h.2.2.1
    refine mN h fun b72 o73 h=>mN h fun b74 o75 h=>mV h fun v76 h=>mI h fun i77 h=>mN h fun b78 o79 h=>mL h fun l80 h=>mC h fun u81 h82 h=>ms h fun s83 h=>mV h fun v84 h=>mP h fun p85 h=>mN h fun b86 o87 h=>mV h fun v88 h=>mI h fun i89 h=>mC h fun u90 h91 h=>mI h fun i92 h=>?_
    exact ⟨_,_,(z2 Sn),(z1 Sn),h⟩
   ·replace h:=h.2.2.2
    refine mN h fun b93 o94 h=>mN h fun b95 o96 h=>mV h fun v97 h=>mI h fun i98 h=>mN h fun b99 o100 h=>mL h fun l101 h=>mN h fun b102 o103 h=>mV h fun v104 h=>mI h fun i105 h=>mC h fun u106 h107 h=>ms h fun s108 h=>mV h fun v109 h=>mP h fun p110 h=>mC h fun u111 h112 h=>mI h fun i113 h=>?_
    exact ⟨_,_,(z2 Sn),(z1 Sn),h⟩
  ·rintro env pv hp ⟨x3,k4,he,hv,h⟩
   refine Ae ?_ (r1 3 (rp 4 4 0 Rn)) he hv
   unfold F70_j2 at h
   refine Ar F70_r4 ?_ (r1 3 (rp 4 4 0 Rn)) (z2 Sn) (z1 Sn)
   refine mN h fun b26 o27 h=>mL h fun l28 h=>mf h fun h=>mf h fun h=>mf h fun h=>?_
   refine AWP.ret ?_
   exact h
end
section
variable {e E:Env} {x0:OA} {x1:Int} {x2:List Value} {x8:Bool} {k5:List Value} {hp:HP} {K:Env→PV→HP→Prop}
abbrev R68 (p n:Nat):=RW Tryd.prog 39 [5,7,17] (opsAt Tryd.f68 (pth p)) (List.range n)
theorem F68_r0:R68 2 2 (upd e 2 (sA x2)) V0 hp K=
 K (w3 e 2 (sA x2) 5 (sR 5 0) 6 (sI 0)) (upd V0 5 (32,x2)) hp:= by kernel_rfl
theorem F68_r1:R68 17 3 (upd e 0 (sP x0)) (upd V0 5 (32,k5)) hp K=
 CF Tryd.prog 71 [(.pointer x0)] hp fun u1 h2=>(boolV u1 fun q3=>K (w4 e 0 (sP x0) 10 (sP x0) 11 (sB q3) 9 (sB q3)) (upd V0 5 (32,k5)) h2):= by kernel_rfl
theorem F68_r2:R68 73 1 e V0 hp K=
 K (upd e 6 (sI 2)) V0 hp:= by kernel_rfl
theorem F68_r3:R68 89 4 (upd e 1 (sI x1)) (upd V0 5 (32,k5)) hp K=
 CF Tryd.prog 73 [(.int .i64 x1)] hp fun u1 h2=>(intV u1 .i64 fun i3=>K (w5 e 1 (sI x1) 13 (sI x1) 14 (sI i3) 15 (sB (decide (i3<0))) 12 (sB (decide (i3<0)))) (upd V0 5 (32,k5)) h2):= by kernel_rfl
theorem F68_r4:R68 313 1 e V0 hp K=
 K (upd e 6 (sI 10)) V0 hp:= by kernel_rfl
theorem F68_r5:R68 377 5 (upd e 5 (sR 5 0)) (upd V0 5 (32,k5)) hp K=
 ldV (k5)[16]? fun v1=>(intV v1 .i64 fun i2=>CF Tryd.prog 75 [(.int .i64 i2)] hp fun u3 h4=>boolV u3 fun q5=>K (w6 e 5 (sR 5 0) 17 (sR 5 16) 18 (sI i2) 19 (sB q5) 20 (sB ((!q5))) 16 (sB ((!q5)))) (upd V0 5 (32,k5)) h4):= by kernel_rfl
theorem F68_r6:R68 1273 1 e V0 hp K=
 K (upd e 6 (sI 1)) V0 hp:= by kernel_rfl
theorem F68_r7 (h:E=upd (w2 e 5 (sR 5 0) 1 (sI x1)) 0 (sP x0)):R68 19 10 E (upd V0 5 (32,k5)) hp K=
 ldL (cellsN k5 0 17) fun l1=>(CF Tryd.prog 65 [(.pointer x0),(.int .i64 x1),(.agg ⟨l1⟩)] hp fun u2 h3=>tup2V u2 fun u4 u5=>aggV u4 fun l6=>boolV u5 fun q7=>if List.length l6=26 then (if List.all l6 one=true then (if 0+List.length l6≤List.length [(Value.int .i64 0),.int .i64 0,.int .u8 0,.int .u8 0,.int .u8 0,.int .u8 0,.int .u8 0,.int .u8 0,.int .u8 0,.int .u8 0,.int .u8 0,.int .u8 0,.int .u8 0,.int .u8 0,.int .u8 0,.int .u8 0,.int .u8 0,.int .u8 0,.int .i64 0,.int .u8 0,.int .u8 0,.int .u8 0,.int .u8 0,.int .i64 0,.bool false,.int .i64 0] then (K (upd (w8 E 22 (sP x0) 23 (sI x1) 24 (sA l1) 25 (sV (.tuple ⟨[(.agg ⟨l6⟩),(.bool q7)]⟩)) 21 (sV (.tuple ⟨[(.agg ⟨l6⟩),(.bool q7)]⟩)) 26 (sA l6) 27 (sB q7) 7 (sR 7 0)) 8 (sB q7)) (w3 V0 5 (32,k5) 7 (36,[.int .i64 0,.int .i64 0,.int .u8 0,.int .u8 0,.int .u8 0,.int .u8 0,.int .u8 0,.int .u8 0,.int .u8 0,.int .u8 0,.int .u8 0,.int .u8 0,.int .u8 0,.int .u8 0,.int .u8 0,.int .u8 0,.int .u8 0,.int .u8 0,.int .i64 0,.int .u8 0,.int .u8 0,.int .u8 0,.int .u8 0,.int .i64 0,.bool false,.int .i64 0]) 7 (36,(splice [.int .i64 0,.int .i64 0,.int .u8 0,.int .u8 0,.int .u8 0,.int .u8 0,.int .u8 0,.int .u8 0,.int .u8 0,.int .u8 0,.int .u8 0,.int .u8 0,.int .u8 0,.int .u8 0,.int .u8 0,.int .u8 0,.int .u8 0,.int .u8 0,.int .i64 0,.int .u8 0,.int .u8 0,.int .u8 0,.int .u8 0,.int .i64 0,.bool false,.int .i64 0] 0 l6))) h3) else False) else False) else False):= by subst h; kernel_rfl
theorem F68_r8:R68 43 1 (upd e 8 (sB x8)) V0 hp K=
 K (w2 e 8 (sB x8) 28 (sB x8)) V0 hp:= by kernel_rfl
theorem F68_r9:R68 155 1 e V0 hp K=
 K (upd e 6 (sI 5)) V0 hp:= by kernel_rfl
theorem F68_r10:R68 151 1 e V0 hp K=
 K (upd e 6 (sI 6)) V0 hp:= by kernel_rfl
theorem F68_r11:R68 47 1 e V0 hp K=
 K (upd e 6 (sI 0)) V0 hp:= by kernel_rfl
def F68_j1 (x38:Bool) (hp:HP) (K:Kh):Prop:=
  (ite2 x38 (K (.int .i64 6) hp) (K (.int .i64 0) hp))
theorem F68_r12 {e:Env} {x0:OA} {hp:HP} {K:Env→PV→HP→Prop}:RW Tryd.prog 39 [5,7,17] (opsAt Tryd.f68 (pth 39)) [0,1,2,3,4,5,6,7,8,9] (upd e 0 (sP x0)) V0 hp K=
 ptrN x0 fun b1 o2=>(ldV (HP.cell hp b1 (o2+6)) fun v3=>mapV v3 fun m4=>rdS Tryd.prog (Builtin.len_ #[123] 3 #[.map m4]) hp fun u5=>intV u5 .i64 fun i6=>ptrN x0 fun b7 o8=>ldV (HP.cell hp b7 (o8+0)) fun v9=>intV v9 .i64 fun i10=>K (w3 (w8 e 0 (sP x0) 29 (sP x0) 30 (sQ b1 o2) 31 (sQ b1 (o2+6)) 32 (sV (.map m4)) 33 (sI i6) 34 (sP x0) 35 (sQ b7 o8)) 36 (sQ b7 (o8+0)) 37 (sI i10) 38 (sB (decide (i6≥i10)))) V0 hp):= by kernel_rfl
theorem F68_r13 {e:Env} {x0:OA} {hp:HP} {K:Env→PV→HP→Prop}:RW Tryd.prog 39 [5,7,17] (opsAt Tryd.f68 (pth 39)) [0,1,2,3,5,6,7,8,4,9] (upd e 0 (sP x0)) V0 hp K=
 ptrN x0 fun b1 o2=>(ldV (HP.cell hp b1 (o2+6)) fun v3=>mapV v3 fun m4=>ptrN x0 fun b5 o6=>ldV (HP.cell hp b5 (o6+0)) fun v7=>intV v7 .i64 fun i8=>rdS Tryd.prog (Builtin.len_ #[123] 3 #[.map m4]) hp fun u9=>intV u9 .i64 fun i10=>K (w3 (w8 e 0 (sP x0) 29 (sP x0) 30 (sQ b1 o2) 31 (sQ b1 (o2+6)) 32 (sV (.map m4)) 34 (sP x0) 35 (sQ b5 o6) 36 (sQ b5 (o6+0))) 37 (sI i8) 33 (sI i10) 38 (sB (decide (i10≥i8)))) V0 hp):= by kernel_rfl
def F68 (x0:OA) (x1:Int) (x2:List Value) (hp:HP) (K:Kh):Prop:=
  (CF Tryd.prog 71 [(.pointer x0)] hp fun u1 h2=>boolV u1 fun q3=>ite2 q3 (K (.int .i64 2) h2) (CF Tryd.prog 73 [(.int .i64 x1)] h2 fun u4 h5=>intV u4 .i64 fun i6=>ite2 (decide (i6<0)) (K (.int .i64 10) h5) (ldV (x2)[16]? fun v7=>intV v7 .i64 fun i8=>CF Tryd.prog 75 [(.int .i64 i8)] h5 fun u9 h10=>boolV u9 fun q11=>ite2 (!q11) (K (.int .i64 1) h10) (ldL (cellsN x2 0 17) fun l12=>CF Tryd.prog 65 [(.pointer x0),(.int .i64 x1),(.agg ⟨l12⟩)] h10 fun u13 h14=>tup2V u13 fun u15 u16=>aggV u15 fun l17=>boolV u16 fun q18=>if List.length l17=26 then (if List.all l17 one=true then (if 0+List.length l17≤List.length [(Value.int .i64 0),.int .i64 0,.int .u8 0,.int .u8 0,.int .u8 0,.int .u8 0,.int .u8 0,.int .u8 0,.int .u8 0,.int .u8 0,.int .u8 0,.int .u8 0,.int .u8 0,.int .u8 0,.int .u8 0,.int .u8 0,.int .u8 0,.int .u8 0,.int .i64 0,.int .u8 0,.int .u8 0,.int .u8 0,.int .u8 0,.int .i64 0,.bool false,.int .i64 0] then (ite2 q18 (K (.int .i64 5) h14) ((ptrN x0 fun b19 o20=>ldV (HP.cell h14 b19 (o20+6)) fun v21=>mapV v21 fun m22=>rdS Tryd.prog (Builtin.len_ #[123] 3 #[.map m22]) h14 fun u23=>intV u23 .i64 fun i24=>ptrN x0 fun b25 o26=>ldV (HP.cell h14 b25 (o26+0)) fun v27=>intV v27 .i64 fun i28=>F68_j1 (decide (i24≥i28)) h14  K)∧(ptrN x0 fun b29 o30=>ldV (HP.cell h14 b29 (o30+6)) fun v31=>mapV v31 fun m32=>ptrN x0 fun b33 o34=>ldV (HP.cell h14 b33 (o34+0)) fun v35=>intV v35 .i64 fun i36=>rdS Tryd.prog (Builtin.len_ #[123] 3 #[.map m32]) h14 fun u37=>intV u37 .i64 fun i38=>F68_j1 (decide (i38≥i36)) h14  K))) else False) else False) else False))))
noncomputable abbrev o68 (k n:Nat):Code:=.region k (opsAt Tryd.f68 (pth n)) false
noncomputable def F68_code:Code:=(.seq (o68 0 2) (.seq (.block 0 (.seq (o68 1 17) (.cond (.tmp 9) (.seq (o68 2 73) .ret) (.seq (o68 3 89) (.cond (.tmp 12) (.seq (o68 4 313) .ret) (.seq (o68 5 377) (.cond (.tmp 16) (.seq (o68 6 1273) .ret) .skip))))))) (.seq (.seq (o68 7 19) (.seq (o68 8 43) (.cond (.tmp 28) (.seq (o68 9 155) .ret) .skip))) (.seq (.seq (.region 10 (opsAt Tryd.f68 (pth 39)) true) (.cond (.tmp 38) (.seq (o68 11 151) .ret) .skip)) (.seq (o68 12 47) .ret)))))
theorem F68_body:Tryd.f68.body=some F68_code:=by kernel_rfl
theorem F68_ok (x0:OA) (x1:Int) (x2:List Value) (hp:HP) (K:Kh) (h:F68 x0 x1 x2 hp K):CF Tryd.prog 68 [(.pointer x0),(.int .i64 x1),(.agg ⟨x2⟩)] hp K:=by
 refine .inl ⟨by kernel_rfl,AC.intro (N:=39) Tryd.func68 F68_body rfl (Nat.le_of_ble_eq_true rfl) ?_⟩
 unfold F68 at h
 refine Ar F68_r0 ?_ (r3 2 0 1 Rn) (z3 Sn) Sn
 refine Aq (AWP.block (Ar F68_r1 ?_ (r2 0 1 (rp 5 5 0 Rn)) (z3 Sn) (z1 Sn)))
 refine mC h fun u1 h2 h=>mB h fun q3 h=>?_
 refine Ac h rfl (fun h=>?_) (fun h=>?_)
 ·refine Ar F68_r2 ?_ Rn Sn Sn
  refine AWP.ret ?_
  exact h
 ·refine Ar F68_r3 ?_ (r2 1 0 (rp 5 5 0 Rn)) (z3 Sn) (z1 Sn)
  refine mC h fun u4 h5 h=>mI h fun i6 h=>?_
  refine Ac h rfl (fun h=>?_) (fun h=>?_)
  ·refine Ar F68_r4 ?_ Rn Sn Sn
   refine AWP.ret ?_
   exact h
  ·refine Ar F68_r5 ?_ (rp 5 5 0 (r2 0 1 Rn)) (z3 Sn) (z1 Sn)
   refine mV h fun v7 h=>mI h fun i8 h=>mC h fun u9 h10 h=>mB h fun q11 h=>?_
   refine Ac h rfl (fun h=>?_) (fun h=>?_)
   ·refine Ar F68_r6 ?_ Rn Sn Sn
    refine AWP.ret ?_
    exact h
   ·refine AWP.skip (Aq (Ar (F68_r7 rfl) ?_ (r2 0 1 (rp 5 5 0 Rn)) (z3 Sn) (z1 Sn)))
    refine mL h fun l12 h=>mC h fun u13 h14 h=>mT h fun u15 u16 h=>mA h fun l17 h=>mB h fun q18 h=>mf h fun h=>mf h fun h=>mf h fun h=>?_
    refine Ar F68_r8 ?_ (r2 8 0 Rn) (z2 Sn) Sn
    refine Ac h rfl (fun h=>?_) (fun h=>?_)
    ·refine Ar F68_r9 ?_ Rn Sn Sn
     refine AWP.ret ?_
     exact h
    ·refine AWP.skip (Aq (As (fun env pv hp=>∃ x38,Sub (upd E0 38 (sB x38)) env∧Sub V0 pv∧F68_j1 x38 hp  K) ?_ ?_))
     ·refine AWP.rgnC (cf:=[(4,8)]) (c:=[([true],true,[0,1,2,3,4,5,6,7,8,9]),([false],true,[0,1,2,3,5,6,7,8,4,9])]) (by kernel_rfl) (by kernel_rfl) (by kernel_rfl) (by kernel_rfl) (allO_t (Eq.mpr F68_r12 ?_) (allO_t (Eq.mpr F68_r13 ?_) trivial)) (r1 0 Rn) (z1 Sn) Sn
      ·replace h:=h.1
       refine mN h fun b19 o20 h=>mV h fun v21 h=>mM h fun m22 h=>mR h fun u23 h=>mI h fun i24 h=>mN h fun b25 o26 h=>mV h fun v27 h=>mI h fun i28 h=>?_
       exact ⟨_,(z1 Sn),Sn,h⟩
      ·replace h:=h.2
       refine mN h fun b29 o30 h=>mV h fun v31 h=>mM h fun m32 h=>mN h fun b33 o34 h=>mV h fun v35 h=>mI h fun i36 h=>mR h fun u37 h=>mI h fun i38 h=>?_
       exact ⟨_,(z1 Sn),Sn,h⟩
     ·rintro env pv hp ⟨x38,he,hv,h⟩
      refine Ae ?_ (r1 38 Rn) he hv
      unfold F68_j1 at h
      refine Ac h rfl (fun h=>?_) (fun h=>?_)
      ·refine Ar F68_r10 ?_ Rn Sn Sn
       refine AWP.ret ?_
       exact h
      ·refine AWP.skip (Ar F68_r11 ?_ Rn Sn Sn)
       refine AWP.ret ?_
       exact h
end
end Go.Proofs
set_option linter.unusedVariables false
set_option linter.unusedSimpArgs false
set_option maxRecDepth 20000
namespace Go.Proofs
open Go Go.HL
section
variable {tb:Obj} {hq:HP} {t:Nat} {l:List Q} {low high:Int} {mx last n:Nat} {L:List Bd} {E:List (Bd × Nat)} {ps:Nat→HP} {m x o:Nat} {pl pm:Nat→Nat} {H:Nat→List ((Q × Int) × Bool)} {K:Value→HP→Prop}
theorem BdM.mt {h:HP} {f:Q} (hm:BdM tb h t mx last f E m x o pl):m≠t:=fun e=>by
  obtain ⟨es,clock,e1,_⟩:=hm.map
  rw [e,hm.tab] at e1; cases e1
theorem BdM.m0 {h:HP} {f:Q} (hm:BdM tb h t mx last f E m x o pl):m≠0:=fun e=>by
  obtain ⟨es,clock,e1,_⟩:=hm.map
  obtain ⟨g1,a,z,g2⟩:=hm.dig
  rw [e,g1,g2] at e1; cases e1
theorem BdM.t0 {h:HP} {f:Q} (hm:BdM tb h t mx last f E m x o pl):t≠0:=fun e=>by
  have:=hm.tab
  obtain ⟨g1,a,z,g2⟩:=hm.dig
  rw [e,g1] at this; cases this
theorem BdM.bt {h:HP} {f:Q} (hm:BdM tb h t mx last f E m x o pl) {e:Bd × Nat} (he:e∈E):e.2≠t:=fun e'=>by
  have:=hm.blk e he
  rw [e',hm.tab] at this; cases this
theorem BdM.bm {h:HP} {f:Q} (hm:BdM tb h t mx last f E m x o pl) {e:Bd × Nat} (he:e∈E):e.2≠m:=fun e'=>by
  have:=hm.blk e he
  obtain ⟨es,clock,e1,_⟩:=hm.map
  rw [e',e1] at this; cases this
theorem pu_pu (ps:Nat→HP) (i:Nat) (a b:HP):pu (pu ps i a) i b=pu ps i b:=funext fun j=>by
  by_cases h:j=i
  · rw [h,pu_eq,pu_eq]
  · rw [pu_ne _ _ h,pu_ne _ _ h,pu_ne _ _ h]
theorem BdM.reads {A hp:HP} {f:Q} {qs:Nat→HP} (hm:BdM tb A t mx last f E m x o pl) (P:Parts hp qs) (hA:qs 0=A) :
    TabR tb hp∧hp.cell t 0=some (.int .i64 mx)∧hp.cell t 1=some (.int .i64 last)∧hp.cell t 6=some (.map (some m))∧hp.cell t 7=some (ptr x 0)∧hp.cell t 8=some (ptr o 0):=by
  have hs:HSub A hp:=hA▸P.sub 0
  have hc:=hs.cells hm.tab
  exact ⟨hm.dig.sub hs,HP.cell_of hc,HP.cell_of hc,HP.cell_of hc,HP.cell_of hc,HP.cell_of hc⟩
theorem BdM.readb {A hp:HP} {f:Q} {qs:Nat→HP} (hm:BdM tb A t mx last f E m x o pl) (P:Parts hp qs) (hA:qs 0=A) {y:Bd} {b:Nat} (hb:A b=.cells 36 (bdc y) 0) :
    hp.cell b 0=some (.int .i64 y.id)∧hp.cell b 1=some (.int .i64 y.proto)∧hp.cellN b 2 17=some (t6 y.inn)∧hp.cellN b 19 5=some (t4 y.out)∧hp.cellN b 0 26=some (bdc y):=by
  have hs:HSub A hp:=hA▸P.sub 0
  have hc:=hs.cells hb
  exact ⟨HP.cell_of hc,HP.cell_of hc,HP.cellN_of hc,HP.cellN_of hc,HP.cellN_of hc⟩
set_option maxHeartbeats 1000000 in
theorem P70 (h:BdP tb hq t l low high mx last n E ps m x o pl pm H) {y:Bd} (hk:0≤kindB y.proto) (h6:okT6 y.inn) (h4:okT y.out) (hs:y.ses=0)
    (hp:y.out.1∈l∧isPort y.out.2=true∧isPort y.inn.2=true) (f6:find6 y.proto y.inn (E.map (·.1))=none) (f4:find4 y.proto y.out (E.map (·.1))=none) (hl:E.length<mx) (hn:n<1000000)
    (hK:∀ hq' ps' b,BdP tb hq' t l low high mx (last+1) (n+1) (E++[({ y with id:=((last+1:Nat):Int) },b)]) ps' m x o pl pm H→K (.agg ⟨bdc { y with id:=((last+1:Nat):Int) }⟩) hq') :
    CF Tryd.prog 70 [ptr t 0,.agg ⟨bdc y⟩] hq K:=by
  refine F70_ok _ (bdc y) hq K ?_
  unfold F70
  refine fun (b:Nat) (hb:hq b=Ent.none)=>?_
  have hbq:∀ i,ps i b=.none:=fun i=>by
    rcases h.parts.sub i b with e | e
    · exact e
    · rw [e]; exact hb
  have htb:t≠b:=fun e=>by have:=hbq 0; rw [← e,h.main.tab] at this; cases this
  have hmb:m≠b:=fun e=>by
    obtain ⟨es,clock,e1,_⟩:=h.main.map
    have:=hbq 0; rw [← e,e1] at this; cases this
  have P1:=h.parts.new 0 hb (.cells 36 (bdc y) 0)
  have g1:(hq.set b (.cells 36 (bdc y) 0)) t=.cells 127 (tabC mx last (l.headD zq4) m x o pl) 0:=by rw [HP.set_ne _ _ htb]; exact h.cells
  have g2:(hq.set b (.cells 36 (bdc y) 0)) b=.cells 36 (bdc y) 0:=HP.set_eq ..
  have g3:((hq.set b (.cells 36 (bdc y) 0)) m)=hq m:=HP.set_ne _ _ hmb
  have c1:(hq.set b (.cells 36 (bdc y) 0)).cell t 1=some (.int .i64 last):=HP.cell_of g1
  simp only [ptrN_some,Nat.reduceAdd,c1,ldV_some,intV_int]
  have hla:=h.inv.last
  have w1:IntKind.wrap .i64 ((last:Int)+1)=((last+1:Nat):Int):=wi (by omega) (by omega)
  rw [w1]
  refine HP.st_at g1 (by simp [tabC,v4]) ?_
  have P2:=P1.put 0 (b:=t) (by rw [pu_eq,HP.set_ne _ _ htb,h.main.tab]; simp) (.cells 127 (tabC mx (last+1) (l.headD zq4) m x o pl) 0)
  rw [pu_eq,pu_pu] at P2
  rw [show (tabC mx last (l.headD zq4) m x o pl).set 1 (.int .i64 ((last+1:Nat):Int))=tabC mx (last+1) (l.headD zq4) m x o pl from rfl]
  have g4:((hq.set b (.cells 36 (bdc y) 0)).set t (.cells 127 (tabC mx (last+1) (l.headD zq4) m x o pl) 0)) t=.cells 127 (tabC mx (last+1) (l.headD zq4) m x o pl) 0:=HP.set_eq ..
  have g5:((hq.set b (.cells 36 (bdc y) 0)).set t (.cells 127 (tabC mx (last+1) (l.headD zq4) m x o pl) 0)) b=.cells 36 (bdc y) 0:=by rw [HP.set_ne _ _ htb.symm]; exact g2
  have g6:((hq.set b (.cells 36 (bdc y) 0)).set t (.cells 127 (tabC mx (last+1) (l.headD zq4) m x o pl) 0)) m=hq m:=by rw [HP.set_ne _ _ h.main.mt]; exact g3
  have c2:((hq.set b (.cells 36 (bdc y) 0)).set t (.cells 127 (tabC mx (last+1) (l.headD zq4) m x o pl) 0)).cell t 1=some (.int .i64 ((last+1:Nat):Int)):=HP.cell_of g4
  simp only [c2,ldV_some,intV_int]
  refine HP.st_at g5 (by simp [bdc_len]) ?_
  rw [show (bdc y).set 0 (.int .i64 ((last+1:Nat):Int))=bdc { y with id:=((last+1:Nat):Int) } from rfl]
  have P3:=P2.put 0 (b:=b) (by rw [pu_eq,HP.set_ne _ _ htb.symm,HP.set_eq]; simp) (.cells 36 (bdc { y with id:=((last+1:Nat):Int) }) 0)
  rw [pu_eq,pu_pu] at P3
  obtain ⟨y',hy'⟩:∃ y':Bd,y'={ y with id:=((last+1:Nat):Int) }:=⟨_,rfl⟩
  have ey:y'.id=((last+1:Nat):Int):=by rw [hy']
  have e6:y'.inn=y.inn:=by rw [hy']
  have e4:y'.out=y.out:=by rw [hy']
  have ep:y'.proto=y.proto:=by rw [hy']
  have es:y'.ses=y.ses:=by rw [hy']
  rw [← hy'] at P3 hK ⊢
  have hy0:∀ e∈E,e.1.id≠y'.id:=fun e he h'=>by
    have:=(h.inv.rng e.1 (List.mem_map.2 ⟨e,he,rfl⟩)).2
    rw [h',ey] at this; omega
  have htm:=h.main.mt.symm
  have q1:(((hq.set b (.cells 36 (bdc y) 0)).set t (.cells 127 (tabC mx (last+1) (l.headD zq4) m x o pl) 0)).set b (.cells 36 (bdc y') 0)) t=.cells 127 (tabC mx (last+1) (l.headD zq4) m x o pl) 0:=by rw [HP.set_ne _ _ htb]; exact g4
  have q2:(((hq.set b (.cells 36 (bdc y) 0)).set t (.cells 127 (tabC mx (last+1) (l.headD zq4) m x o pl) 0)).set b (.cells 36 (bdc y') 0)) b=.cells 36 (bdc y') 0:=HP.set_eq ..
  have q3:(((hq.set b (.cells 36 (bdc y) 0)).set t (.cells 127 (tabC mx (last+1) (l.headD zq4) m x o pl) 0)).set b (.cells 36 (bdc y') 0)) m=hq m:=by rw [HP.set_ne _ _ hmb]; exact g6
  have eA:∀ (e:Ent),MapE iw (fun k:Nat=>ptr k 0) (putL y'.id b (E.map fun e=>(e.1.id,e.2))) e→BdM tb (((((ps 0).set b (.cells 36 (bdc y) 0)).set t (.cells 127 (tabC mx (last+1) (l.headD zq4) m x o pl) 0)).set b (.cells 36 (bdc y') 0)).set m e) t mx (last+1) (l.headD zq4) (E++[(y',b)]) m x o pl:=by
    intro e he
    refine ⟨?_,?_,?_,?_⟩
    · rw [HP.set_ne _ _ htm,HP.set_ne _ _ htb,HP.set_eq]
    · rw [HP.set_eq]
      rw [put_new (getL_none.2 (by
        rw [List.map_map]
        intro hmem
        obtain ⟨e,hme,e2⟩:=List.mem_map.1 hmem
        exact hy0 e hme e2))] at he
      rw [List.map_append]
      exact he
    · intro e hme
      rcases List.mem_append.1 hme with hme | hme
      · have hbe:e.2≠b:=fun e'=>by
          have:=h.main.blk e hme
          rw [e',hbq 0] at this; cases this
        rw [HP.set_ne _ _ (h.main.bm hme),HP.set_ne _ _ hbe,HP.set_ne _ _ (h.main.bt hme),HP.set_ne _ _ hbe]
        exact h.main.blk e hme
      · rw [List.mem_singleton.1 hme]
        simp only
        rw [HP.set_ne _ _ hmb.symm,HP.set_eq]
    · refine ⟨?_,h.main.dig.2⟩
      have hb0:(0:Nat)≠b:=fun e'=>by
        have:=hbq 0
        rw [← e',h.main.dig.1] at this; cases this
      rw [HP.set_ne _ _ h.main.m0.symm,HP.set_ne _ _ hb0,HP.set_ne _ _ h.main.t0.symm,HP.set_ne _ _ hb0]
      exact h.main.dig.1
  have n1:((((ps 0).set b (.cells 36 (bdc y) 0)).set t (.cells 127 (tabC mx (last+1) (l.headD zq4) m x o pl) 0)).set b (.cells 36 (bdc y') 0)) m≠.none:=by
    rw [HP.set_ne _ _ hmb,HP.set_ne _ _ h.main.mt,HP.set_ne _ _ hmb]; exact h.main.map.ne
  have x1:ps 1=pu ps 0 ((((ps 0).set b (.cells 36 (bdc y) 0)).set t (.cells 127 (tabC mx (last+1) (l.headD zq4) m x o pl) 0)).set b (.cells 36 (bdc y') 0)) 1:=(pu_ne _ _ (by omega)).symm
  clear g1 g2 g3 g4 g5 g6 c1 c2 P1 P2
  generalize ((hq.set b (.cells 36 (bdc y) 0)).set t (.cells 127 (tabC mx (last+1) (l.headD zq4) m x o pl) 0)).set b (.cells 36 (bdc y') 0)=hq3 at *
  generalize hA3:((((ps 0).set b (.cells 36 (bdc y) 0)).set t (.cells 127 (tabC mx (last+1) (l.headD zq4) m x o pl) 0)).set b (.cells 36 (bdc y') 0))=A3 at *
  have c6:hq3.cell t 6=some (.map (some m)):=HP.cell_of q1
  have b0:hq3.cell b 0=some (.int .i64 y'.id):=HP.cell_of q2
  simp only [c6,b0,ldV_some,mapV_map,intV_int]
  refine opS_mapUpdate u123 enc3 (l:=E.map fun e=>(e.1.id,e.2)) (q3▸h.mapq) y'.id (ev:=fun k:Nat=>ptr k 0) b fun e he=>?_
  have hm:=eA e he
  have P4:=P3.put 0 (b:=m) (by rw [pu_eq]; exact n1) e
  rw [pu_eq,pu_pu] at P4
  generalize hq3.set m e=hq4 at *
  generalize A3.set m e=A at *
  have hAb:A b=.cells 36 (bdc y') 0:=hm.blk (y',b) (by simp)
  obtain ⟨r0,_,_,_,r7,r8⟩:=hm.reads P4 (pu_eq ..)
  obtain ⟨s0,s1,s2,s3,s4⟩:=hm.readb P4 (pu_eq ..) hAb
  have okp:okZ y'.proto:=by rw [ep]; exact okZ_kind hk
  have ok6':okT6 y'.inn:=by rw [e6]; exact h6
  have ok4':okT y'.out:=by rw [e4]; exact h4
  have new6:getL (key6 y'.proto y'.inn) ((E.map (·.1)).map fun b=>(b.k6,b.id))=none:=by rw [found6 h ok6',ep,e6,f6]; rfl
  have new4:getL (key4 y'.proto y'.out) ((E.map (·.1)).map fun b=>(b.k4,b.id))=none:=by rw [found4 h ok4',ep,e4,f4]; rfl
  have six:IdxR (pu ps 0 A 1) x mx ((E.map (·.1)).map fun b=>(b.k6,b.id)):=h.six
  have four:∀ l1,IdxR (pu (pu ps 0 A) 1 l1 2) o mx ((E.map (·.1)).map fun b=>(b.k4,b.id)):=fun l1=>h.four
  have inv':InvB l low high mx (last+1) (n+1) ((E++[(y',b)]).map (·.1)):=by
    rw [List.map_append]
    refine h.inv.put ey (by rw [ep]; exact hk) ok6' ok4' (by rw [es,hs]) (by rw [e4,e6]; exact hp) (by rw [ep,e6]; exact f6) (by rw [ep,e4]; exact f4) (by rw [List.length_map]; exact hl) hn
  have mid:∀ l1 hp',IdxR l1 x mx (((E.map (·.1)).map fun b=>(b.k6,b.id))++[(key6 y'.proto y'.inn,y'.id)])→Parts hp' (pu (pu ps 0 A) 1 l1)→F70_j1 (some ⟨t,0,none⟩) (some ⟨b,0,none⟩) (bdc bd0) hp' K:=by
    intro l1 hp' hl1 P5
    obtain ⟨v0,_,_,_,v7,v8⟩:=hm.reads P5 rfl
    obtain ⟨w0,w1,w2,w3,w4⟩:=hm.readb P5 rfl hAb
    unfold F70_j1
    have fin:∀ l2 hp2,IdxR l2 o mx (((E.map (·.1)).map fun b=>(b.k4,b.id))++[(key4 y'.proto y'.out,y'.id)])→Parts hp2 (pu (pu (pu ps 0 A) 1 l1) 2 l2)→F70_j2 (some ⟨b,0,none⟩) (bdc bd0) hp2 K:=by
      intro l2 hp2 hl2 P6
      obtain ⟨_,_,_,_,u4⟩:=hm.readb P6 rfl hAb
      unfold F70_j2
      simp only [ptrN_some,u4,ldL_some]
      rw [if_pos (bdc_len _),if_pos (bdc_one _),if_pos (by simp [bdc_len]),bdc_splice,bdc_cells,ldL_some]
      refine hK hp2 _ b ⟨P6,hm,?_,?_,fun k hk3=>?_,inv'⟩
      · rw [List.map_append,List.map_append]; exact hl1
      · rw [List.map_append,List.map_append]; exact hl2
      · have:pu (pu (pu ps 0 A) 1 l1) 2 l2 (3+k)=ps (3+k):=by
          rw [pu_ne _ _ (by omega),pu_ne _ _ (by omega),pu_ne _ _ (by omega)]
        rw [this]; exact h.pool k hk3
    have put4:∀ K':Value→HP→Prop,(∀ l2 hp2,IdxR l2 o mx (((E.map (·.1)).map fun b=>(b.k4,b.id))++[(key4 y'.proto y'.out,y'.id)])→Parts hp2 (pu (pu (pu ps 0 A) 1 l1) 2 l2)→K' (.int .i64 0) hp2)→CF Tryd.prog 86 [ptr o 0,.string (key4 y'.proto y'.out),.int .i64 y'.id] hp' K':=fun K' hK'=>
      N86 P5 2 (M:=(E.map (·.1)).map fun b=>(b.k4,b.id)) (four l1) new4 (by simpa using hl) h.inv.mx hK'
    refine ⟨?_,?_,?_,?_⟩
    all_goals
      simp only [ptrN_some,Nat.reduceAdd,v8,w0,w1,w3,ldV_some,ldL_some,pq,intV_int]
      refine C105 v0 okp ok4'.2 ?_
      simp only [strV_string,ptrN_some,Nat.reduceAdd,v8,w0,ldV_some,pq,intV_int]
      refine put4 _ fun l2 hp2 hl2 P6=>?_
      rw [intV_int]
      exact fin l2 hp2 hl2 P6
  have put6:∀ K':Value→HP→Prop,(∀ l1 hp',IdxR l1 x mx (((E.map (·.1)).map fun b=>(b.k6,b.id))++[(key6 y'.proto y'.inn,y'.id)])→Parts hp' (pu (pu ps 0 A) 1 l1)→K' (.int .i64 0) hp')→CF Tryd.prog 86 [ptr x 0,.string (key6 y'.proto y'.inn),.int .i64 y'.id] hq4 K':=fun K' hK'=>
    N86 P4 1 (M:=(E.map (·.1)).map fun b=>(b.k6,b.id)) six new6 (by simpa using hl) h.inv.mx hK'
  refine ⟨?_,?_,?_,?_⟩
  all_goals
    simp only [ptrN_some,Nat.reduceAdd,r7,s0,s1,s2,ldV_some,ldL_some,pq,intV_int]
    refine C107 r0 okp ok6'.2 ?_
    simp only [strV_string,ptrN_some,Nat.reduceAdd,r7,s0,ldV_some,pq,intV_int]
    refine put6 _ fun l1 hp' hl1 P5=>?_
    rw [intV_int]
    exact mid l1 hp' hl1 P5
def mayB (p:Int) (a:V6 × Int) (L:List Bd) (mx:Nat):Int:=
  if kindB p<0 then 10 else if isPort a.2=false then 1 else if (find6 p a L).isSome then 5 else if L.length≥mx then 6 else 0
theorem C68n {p:Int} {a:V6 × Int} {hp:HP} (hK:K (.int .i64 2) hp):CF Tryd.prog 68 [.pointer none,.int .i64 p,.agg ⟨t6 a⟩] hp K:=by
  refine F68_ok none p (t6 a) hp K ?_
  unfold F68
  refine C71n ?_
  rw [boolV_bool,ite2_true]
  exact hK
set_option maxHeartbeats 1000000 in
theorem P68 (h:BdP tb hq t l low high mx last n E ps m x o pl pm H) {p:Int} {a:V6 × Int} (hp:okZ p) (ha:okT6 a) (hK:K (.int .i64 (mayB p a (E.map (·.1)) mx)) hq):CF Tryd.prog 68 [ptr t 0,.int .i64 p,.agg ⟨t6 a⟩] hq K:=by
  refine F68_ok _ p (t6 a) hq K ?_
  unfold F68
  refine C71 h ?_
  rw [boolV_bool,ite2_false]
  refine C73 ?_
  rw [intV_int]
  by_cases c1:kindB p<0
  · rw [decide_eq_true c1,ite2_true]
    rw [show mayB p a (E.map (·.1)) mx=10 from if_pos c1] at hK
    exact hK
  rw [decide_eq_false c1,ite2_false,t6_port,ldV_some,intV_int]
  refine C75 ?_
  rw [boolV_bool]
  cases c2:isPort a.2 with
  | false=>
    rw [Bool.not_false,ite2_true]
    rw [show mayB p a (E.map (·.1)) mx=1 from by unfold mayB; rw [if_neg c1,if_pos c2]] at hK
    exact hK
  | true=>
    rw [Bool.not_true,ite2_false,t6_cells,ldL_some]
    refine P65 h hp ha ?_
    unfold toldV
    simp only [tup2V_mk,aggV_agg,boolV_bool]
    rw [if_pos (bdc_len _),if_pos (bdc_one _),if_pos (by simp [bdc_len])]
    have c2':¬ isPort a.2=false:=by rw [c2]; decide
    cases c3:(find6 p a (E.map (·.1))).isSome with
    | true=>
      rw [ite2_true]
      rw [show mayB p a (E.map (·.1)) mx=5 from by unfold mayB; rw [if_neg c1,if_neg c2',if_pos c3]] at hK
      exact hK
    | false=>
      rw [ite2_false]
      have c3':¬ (find6 p a (E.map (·.1))).isSome=true:=by rw [c3]; decide
      have hlen:∀ {c:Value→Prop},c (.int .i64 ((E.map (·.1)).length:Nat))→rdS Tryd.prog (Builtin.len_ #[123] 3 #[.map (some m)]) hq c:=fun hc=>by
        refine rdS_mapLen u123 h.mapq ?_
        rw [List.length_map] at hc ⊢
        exact hc
      have fin:F68_j1 (decide ((((E.map (·.1)).length:Nat):Int)≥(mx:Nat))) hq K:=by
        unfold F68_j1
        by_cases c4:(E.map (·.1)).length≥mx
        · rw [decide_eq_true (by omega),ite2_true]
          rw [show mayB p a (E.map (·.1)) mx=6 from by unfold mayB; rw [if_neg c1,if_neg c2',if_neg c3',if_pos c4]] at hK
          exact hK
        · rw [decide_eq_false (by omega),ite2_false]
          rw [show mayB p a (E.map (·.1)) mx=0 from by unfold mayB; rw [if_neg c1,if_neg c2',if_neg c3',if_neg c4]] at hK
          exact hK
      refine ⟨?_,?_⟩
      · simp only [ptrN_some,Nat.reduceAdd,h.c6,ldV_some,mapV_map]
        refine hlen ?_
        simp only [intV_int,h.c0,ldV_some]
        exact fin
      · simp only [ptrN_some,Nat.reduceAdd,h.c6,h.c0,ldV_some,mapV_map,intV_int]
        refine hlen ?_
        rw [intV_int]
        exact fin
end
end Go.Proofs
set_option linter.unusedVariables false
set_option maxRecDepth 20000
set_option maxHeartbeats 4000000
namespace Go.Proofs
open Go Go.HL
section
variable {e E:Env} {x0:OA} {x1:List Value} {x5 x7:Int} {x8:OA} {x17:Value} {k3 k4 k6:List Value} {hp:HP} {K:Env→PV→HP→Prop}
abbrev R111 (p n:Nat):=RW Tryd.prog 46 [3,4,6] (opsAt Tryd.f111 (pth p)) (List.range n)
theorem F111_r0:R111 2 2 (upd e 1 (sA x1)) V0 hp K=
 K (w3 e 1 (sA x1) 3 (sR 3 0) 4 (sR 4 0)) (w2 V0 3 (30,x1) 4 (27,[.int .u8 0,.int .u8 0,.int .u8 0,.int .u8 0])) hp:= by kernel_rfl
theorem F111_r1:R111 5 7 (upd e 0 (sP x0)) (w2 V0 4 (27,k4) 3 (30,k3)) hp K=
 ptrN x0 fun b1 o2=>(ldL (HP.cellN hp b1 (o2+2) 4) fun l3=>if List.length l3=4 then (if List.all l3 one=true then (if 0+List.length l3≤List.length [(Value.int .u8 0),.int .u8 0,.int .u8 0,.int .u8 0] then (K (w7 e 0 (sP x0) 9 (sP x0) 10 (sQ b1 o2) 11 (sQ b1 (o2+2)) 12 (sA l3) 6 (sR 6 0) 5 (sI 0)) (w4 V0 4 (27,k4) 3 (30,k3) 6 (27,[.int .u8 0,.int .u8 0,.int .u8 0,.int .u8 0]) 6 (27,(splice [.int .u8 0,.int .u8 0,.int .u8 0,.int .u8 0] 0 l3))) hp) else False) else False) else False):= by kernel_rfl
theorem F111_r2:R111 23 2 (w2 e 6 (sR 6 0) 4 (sR 4 0)) (w2 V0 6 (27,k6) 4 (27,k4)) hp K=
 ldL (cellsN k6 0 4) fun l1=>(if List.length l1=4 then (if List.all l1 one=true then (if 0+List.length l1≤List.length k4 then (K (w3 e 6 (sR 6 0) 4 (sR 4 0) 45 (sA l1)) (w3 V0 6 (27,k6) 4 (27,k4) 4 (27,(splice k4 0 l1))) hp) else False) else False) else False):= by kernel_rfl
def F111_j1 (k4 k6:List Value) (hp:HP) (K:Kh):Prop:=
  (ldL (cellsN k6 0 4) fun l4=>if List.length l4=4 then (if List.all l4 one=true then (if 0+List.length l4≤List.length k4 then (ldL (cellsN (splice k4 0 l4) 0 4) fun l5=>K (.agg ⟨l5⟩) hp) else False) else False) else False)
theorem F111_r3:R111 139 2 (upd e 17 (sV x17)) (w3 V0 6 (27,k6) 4 (27,k4) 3 (30,k3)) hp K=
 opS Tryd.prog (Instr.next x17 false 0) hp fun u1 h2=>(tupI u1 0 fun v3=>boolV v3 fun q4=>K (w3 e 17 (sV x17) 18 (sV u1) 19 (sB q4)) (w3 V0 6 (27,k6) 4 (27,k4) 3 (30,k3)) h2):= by kernel_rfl
theorem F111_r4:R111 1227 5 (upd e 17 (sV x17)) (w3 V0 6 (27,k6) 4 (27,k4) 3 (30,k3)) hp K=
    (rdS Tryd.prog (Instr.entry x17) hp fun u1=>tupI u1 0 fun v2=>intV v2 .i64 fun i3=>tupI u1 1 fun v4=>ptrV v4 fun p5=>K (w6 e 17 (sV x17) 20 (sV u1) 21 (sI i3) 22 (sP p5) 7 (sI i3) 8 (sP p5)) (w3 V0 6 (27,k6) 4 (27,k4) 3 (30,k3)) hp):=by kernel_rfl
theorem F111_r5 (h:E=upd (w2 e 8 (sP x8) 7 (sI x7)) 6 (sR 6 0)):R111 5835 8 E (w3 V0 6 (27,k6) 4 (27,k4) 3 (30,k3)) hp K=
 ptrN x8 fun b1 o2=>(ldL (HP.cellN hp b1 ((o2+19)+0) 4) fun l3=>if List.length l3=4 then (if List.all l3 one=true then (if 0+List.length l3≤List.length k6 then (K (w7 E 39 (sI x7) 40 (sP x8) 41 (sQ b1 o2) 42 (sQ b1 (o2+19)) 43 (sQ b1 ((o2+19)+0)) 44 (sA l3) 5 (sI x7)) (w4 V0 6 (27,k6) 4 (27,k4) 3 (30,k3) 6 (27,(splice k6 0 l3))) hp) else False) else False) else False):= by subst h; kernel_rfl
def F111_j4 (x5 x7:Int) (x8:OA) (x17:Value) (x38:Bool) (k3 k4 k6:List Value) (hp:HP) (I3:(Int × (List Value))→HP→Prop) (K:Kh):Prop:=
  (ite2 x38 (ptrN x8 fun b15 o16=>ldL (HP.cellN hp b15 ((o16+19)+0) 4) fun l17=>if List.length l17=4 then (if List.all l17 one=true then (if 0+List.length l17≤List.length k6 then (I3 (x7,(splice k6 0 l17)) hp) else False) else False) else False) (I3 (x5,k6) hp))
theorem F111_r6 (h:E=upd (w3 e 8 (sP x8) 7 (sI x7) 5 (sI x5)) 3 (sR 3 0)):R111 2763 16 E (w3 V0 6 (27,k6) 4 (27,k4) 3 (30,k3)) hp K=
 ptrN x8 fun b1 o2=>(ldL (HP.cellN hp b1 ((o2+2)+0) 16) fun l3=>ldL (cellsN k3 0 16) fun l4=>eqAgg Tryd.prog 30 l3 l4 fun q5=>ite2 q5 (ite2 (x5==0) (K (w8 (w8 E 23 (sP x8) 24 (sQ b1 o2) 25 (sQ b1 (o2+2)) 26 (sQ b1 ((o2+2)+0)) 27 (sA l3) 28 (sA l4) 29 (sB q5) 30 (sB true)) 31 (sI x5) 32 (sB ((x5==0))) 33 (sB true) 34 sU 35 sU 36 sU 37 (sB true) 38 (sB true)) (w3 V0 6 (27,k6) 4 (27,k4) 3 (30,k3)) hp) (K (w8 (w8 E 23 (sP x8) 24 (sQ b1 o2) 25 (sQ b1 (o2+2)) 26 (sQ b1 ((o2+2)+0)) 27 (sA l3) 28 (sA l4) 29 (sB q5) 30 (sB true)) 31 (sI x5) 32 (sB ((x5==0))) 33 (sB false) 34 (sI x7) 35 (sI x5) 36 (sB (decide (x7<x5))) 37 (sB (decide (x7<x5))) 38 (sB (decide (x7<x5)))) (w3 V0 6 (27,k6) 4 (27,k4) 3 (30,k3)) hp)) (K (w8 (w8 E 23 (sP x8) 24 (sQ b1 o2) 25 (sQ b1 (o2+2)) 26 (sQ b1 ((o2+2)+0)) 27 (sA l3) 28 (sA l4) 29 (sB q5) 30 (sB false)) 31 sU 32 sU 33 sU 34 sU 35 sU 36 sU 37 sU 38 (sB false)) (w3 V0 6 (27,k6) 4 (27,k4) 3 (30,k3)) hp)):= by subst h; kernel_rfl
def F111_l3 (x17:Value) (k3 k4:List Value) (K:Kh) (I3:(Int × (List Value))→HP→Prop) (x5:Int) (k6:List Value) (hp:HP):Prop:=
  (opS Tryd.prog (Instr.next x17 false 0) hp fun u6 h7=>tupI u6 0 fun v8=>boolV v8 fun q9=>ite2 q9 (rdS Tryd.prog (Instr.entry x17) h7 fun u10=>tupI u10 0 fun v11=>intV v11 .i64 fun i12=>tupI u10 1 fun v13=>ptrV v13 fun p14=>ptrN p14 fun b18 o19=>ldL (HP.cellN h7 b18 ((o19+2)+0) 16) fun l20=>ldL (cellsN k3 0 16) fun l21=>eqAgg Tryd.prog 30 l20 l21 fun q22=>ite2 q22 (ite2 (x5==0) (F111_j4 x5 i12 p14 x17 true k3 k4 k6 h7 I3 K) (F111_j4 x5 i12 p14 x17 (decide (i12<x5)) k3 k4 k6 h7 I3 K)) (F111_j4 x5 i12 p14 x17 false k3 k4 k6 h7 I3 K)) (F111_j1 k4 k6 h7  K))
def F111_j2 (x5:Int) (x17:Value) (k3 k4 k6:List Value) (hp:HP) (K:Kh):Prop:=
  (LoopP (σ:=Int × (List Value)) (fun I s hp=>F111_l3 x17 k3 k4  K I s.1 s.2 hp) (x5,k6) hp)
theorem F111_r7:R111 19 5 (upd e 0 (sP x0)) (w3 V0 6 (27,k6) 4 (27,k4) 3 (30,k3)) hp K=
 ptrN x0 fun b1 o2=>(ldV (HP.cell hp b1 (o2+6)) fun v3=>mapV v3 fun m4=>opS Tryd.prog (Instr.range 123 (.map m4)) hp fun u5 h6=>K (w6 e 0 (sP x0) 13 (sP x0) 14 (sQ b1 o2) 15 (sQ b1 (o2+6)) 16 (sV (.map m4)) 17 (sV u5)) (w3 V0 6 (27,k6) 4 (27,k4) 3 (30,k3)) h6):= by kernel_rfl
def F111 (x0:OA) (x1:List Value) (hp:HP) (K:Kh):Prop:=
  (ptrN x0 fun b1 o2=>ldL (HP.cellN hp b1 (o2+2) 4) fun l3=>if List.length l3=4 then (if List.all l3 one=true then (if 0+List.length l3≤List.length [(Value.int .u8 0),.int .u8 0,.int .u8 0,.int .u8 0] then (ptrN x0 fun b23 o24=>ldV (HP.cell hp b23 (o24+6)) fun v25=>mapV v25 fun m26=>opS Tryd.prog (Instr.range 123 (.map m26)) hp fun u27 h28=>F111_j2 0 u27 x1 [.int .u8 0,.int .u8 0,.int .u8 0,.int .u8 0] (splice [.int .u8 0,.int .u8 0,.int .u8 0,.int .u8 0] 0 l3) h28  K) else False) else False) else False)
noncomputable abbrev o111 (k n:Nat):Code:=.region k (opsAt Tryd.f111 (pth n)) false
noncomputable def F111_code:Code:=(.seq (o111 0 2) (.seq (.region 1 (opsAt Tryd.f111 (pth 5)) true) (.seq (.seq (o111 2 19) (.block 0 (.loop (.seq (o111 3 139) (.seq (.cond (.tmp 19) .skip (.exit 0)) (.block 1 (.seq (o111 4 1227) (.seq (.region 5 (opsAt Tryd.f111 (pth 2763)) true) (.cond (.tmp 38) (.region 6 (opsAt Tryd.f111 (pth 5835)) true) .skip))))))))) (.seq (o111 7 23) .ret))))
theorem F111_body:Tryd.f111.body=some F111_code:=by kernel_rfl
theorem F111_ok (x0:OA) (x1:List Value) (hp:HP) (K:Kh) (h:F111 x0 x1 hp K):CF Tryd.prog 111 [(.pointer x0),(.agg ⟨x1⟩)] hp K:=by
 refine .inl ⟨by kernel_rfl,AC.intro (N:=46) Tryd.func111 F111_body rfl (Nat.le_of_ble_eq_true rfl) ?_⟩
 unfold F111 at h
 refine Ar F111_r0 ?_ (r2 1 0 Rn) (z2 Sn) Sn
 refine Aq (AWP.rgnD (by kernel_rfl) (by kernel_rfl) F111_r1 ?_ (r1 0 (rp 3 3 0 (rp 4 4 0 Rn))) (z3 Sn) (z2 Sn))
 refine mN h fun b1 o2 h=>mL h fun l3 h=>mf h fun h=>mf h fun h=>mf h fun h=>?_
 refine As (fun env pv hp=>∃ k4 k6,Sub (w2 E0 6 (sR 6 0) 4 (sR 4 0)) env∧Sub (w2 V0 6 (27,k6) 4 (27,k4)) pv∧(F111_j1 k4 k6 hp  K)) ?_ ?_
 ·refine As (fun env pv hp=>∃ x5 x17 k3 k4 k6,Sub (w5 E0 17 (sV x17) 6 (sR 6 0) 5 (sI x5) 4 (sR 4 0) 3 (sR 3 0)) env∧Sub (w3 V0 6 (27,k6) 4 (27,k4) 3 (30,k3)) pv∧(F111_j2 x5 x17 k3 k4 k6 hp  K)) ?_ ?_
  ·refine Ag F111_r7 ?_ (r1 0 (rp 3 3 0 (rp 4 4 0 (r1 5 (rp 6 6 0 Rn))))) (z5 Sn) (z3 Sn)
   refine mN h fun b23 o24 h=>mV h fun v25 h=>mM h fun m26 h=>mO h fun u27 h28 h=>?_
   exact ⟨_,_,_,_,_,(z5 Sn),(z3 Sn),h⟩
  ·rintro env pv hp ⟨x5,x17,k3,k4,k6,he,hv,h⟩
   refine Ae ?_ (rp 3 3 0 (rp 4 4 0 (r1 5 (rp 6 6 0 (r1 17 Rn))))) he hv
   unfold F111_j2 at h
   refine AWP.block (AWP.loop (σ:=Int × (List Value)) _ (fun s=>w5 E0 17 (sV x17) 6 (sR 6 0) 5 (sI (s.1)) 4 (sR 4 0) 3 (sR 3 0)) (fun s=>w3 V0 6 (27,s.2) 4 (27,k4) 3 (30,k3)) (x5,k6) h (fun s=>rp 3 3 0 (rp 4 4 0 (r1 5 (rp 6 6 0 (r1 17 Rn))))) (z5 Sn) (z3 Sn) ?_)
   intro I3 s hp h
   obtain ⟨x5,k6⟩:=s
   replace h:F111_l3 x17 k3 k4  K I3 x5 k6 hp:=h
   unfold F111_l3 at h
   refine Ar F111_r3 ?_ (r1 17 (rp 3 3 0 (rp 4 4 0 (r1 5 (rp 6 6 0 Rn))))) (z5 Sn) (z3 Sn)
   refine mO h fun u6 h7 h=>tupI_mono h fun v8 h=>mB h fun q9 h=>?_
   refine Aq (Ac h rfl (fun h=>?_) (fun h=>?_))
   ·refine AWP.skip (AWP.block (Ar F111_r4 ?_ (r1 17 (rp 3 3 0 (rp 4 4 0 (r1 5 (rp 6 6 0 Rn))))) (z5 Sn) (z3 Sn)))
    refine mR h fun u10 h=>tupI_mono h fun v11 h=>mI h fun i12 h=>tupI_mono h fun v13 h=>mP h fun p14 h=>?_
    refine As (fun env pv hp=>∃ x5 x7 x8 x38 k6,Sub (w8 E0 38 (sB x38) 17 (sV x17) 8 (sP x8) 7 (sI x7) 6 (sR 6 0) 5 (sI x5) 4 (sR 4 0) 3 (sR 3 0)) env∧Sub (w3 V0 6 (27,k6) 4 (27,k4) 3 (30,k3)) pv∧(F111_j4 x5 x7 x8 x17 x38 k3 k4 k6 hp I3 K)) ?_ ?_
    ·refine AWP.rgnD (by kernel_rfl) (by kernel_rfl) (F111_r6 rfl) ?_ (rp 3 3 0 (r3 5 7 8 (rp 4 4 0 (rp 6 6 0 (r1 17 Rn))))) (z7 Sn) (z3 Sn)
     refine mN h fun b18 o19 h=>mL h fun l20 h=>mL h fun l21 h=>mE h fun q22 h=>?_
     refine mt h (fun h=>?_) (fun h=>?_)
     ·refine mt h (fun h=>?_) (fun h=>?_)
      ·exact ⟨_,_,_,_,_,(z8 Sn),(z3 Sn),h⟩
      ·exact ⟨_,_,_,_,_,(z8 Sn),(z3 Sn),h⟩
     ·exact ⟨_,_,_,_,_,(z8 Sn),(z3 Sn),h⟩
    ·rintro env pv hp ⟨x5,x7,x8,x38,k6,he,hv,h⟩
     refine Ae ?_ (rp 3 3 0 (rp 4 4 0 (r1 5 (rp 6 6 0 (r4 7 8 17 38 Rn))))) he hv
     unfold F111_j4 at h
     refine Ac h rfl (fun h=>?_) (fun h=>?_)
     ·refine AWP.rgnD (by kernel_rfl) (by kernel_rfl) (F111_r5 rfl) ?_ (rp 6 6 0 (r2 7 8 (rp 3 3 0 (rp 4 4 0 (r1 17 Rn))))) (z6 Sn) (z3 Sn)
      refine mN h fun b15 o16 h=>mL h fun l17 h=>mf h fun h=>mf h fun h=>mf h fun h=>?_
      exact ⟨_,(z5 Sn),(z3 Sn),h⟩
     ·refine AWP.skip ?_
      exact ⟨_,(z5 Sn),(z3 Sn),h⟩
   ·refine AWP.exit ?_
    exact ⟨_,_,(z2 Sn),(z2 Sn),h⟩
 ·rintro env pv hp ⟨k4,k6,he,hv,h⟩
  refine Ae ?_ (rp 4 4 0 (rp 6 6 0 Rn)) he hv
  unfold F111_j1 at h
  refine Ar F111_r2 ?_ (rp 4 4 0 (rp 6 6 0 Rn)) (z2 Sn) (z2 Sn)
  refine mL h fun l4 h=>mf h fun h=>mf h fun h=>mf h fun h=>?_
  refine AWP.ret ?_
  exact h
end
section
variable {e:Env} {x2:List Value} {x9:Int} {k6 k8:List Value} {hp:HP} {K:Env→PV→HP→Prop}
abbrev R69 (p n:Nat):=RW Tryd.prog 33 [5,6,8,19,22] (opsAt Tryd.f69 (pth p)) (List.range n)
theorem F69_r0:R69 2 3 (upd e 2 (sA x2)) V0 hp K=
 K (w4 e 2 (sA x2) 5 (sR 5 0) 6 (sR 6 0) 7 (sI 0)) (w2 V0 5 (32,x2) 6 (34,[.int .u8 0,.int .u8 0,.int .u8 0,.int .u8 0,.int .i64 0])) hp:= by kernel_rfl
theorem F69_r1:R69 19 2 (upd e 9 (sI x9)) (w2 V0 8 (34,k8) 6 (34,k6)) hp K=
 K (w3 e 9 (sI x9) 29 (sI x9) 30 (sB ((x9 != 0)))) (w2 V0 8 (34,k8) 6 (34,k6)) hp:= by kernel_rfl
theorem F69_r2:R69 75 3 (upd e 6 (sR 6 0)) (upd V0 6 (34,k6)) hp K=
    (if List.length [(Value.int .u8 0),.int .u8 0,.int .u8 0,.int .u8 0,.int .i64 0]=5 then (if List.all [(Value.int .u8 0),.int .u8 0,.int .u8 0,.int .u8 0,.int .i64 0] one=true then (if 0+List.length [(Value.int .u8 0),.int .u8 0,.int .u8 0,.int .u8 0,.int .i64 0]≤List.length k6 then (K (w3 e 6 (sR 6 0) 31 (sV (.agg ⟨[.int .u8 0,.int .u8 0,.int .u8 0,.int .u8 0,.int .i64 0]⟩)) 7 (sI 13)) (w2 V0 6 (34,k6) 6 (34,(splice k6 0 [.int .u8 0,.int .u8 0,.int .u8 0,.int .u8 0,.int .i64 0]))) hp) else False) else False) else False):=by kernel_rfl
theorem F69_r3:R69 23 3 (w2 e 8 (sR 8 0) 6 (sR 6 0)) (w2 V0 8 (34,k8) 6 (34,k6)) hp K=
 ldL (cellsN k8 0 5) fun l1=>(if List.length l1=5 then (if List.all l1 one=true then (if 0+List.length l1≤List.length k6 then (K (w4 e 8 (sR 8 0) 6 (sR 6 0) 32 (sA l1) 7 (sI 0)) (w3 V0 8 (34,k8) 6 (34,k6) 6 (34,(splice k6 0 l1))) hp) else False) else False) else False):= by kernel_rfl
def F69_j1 (x9:Int) (k6 k8:List Value) (hp:HP) (K:Kh):Prop:=
  (ite2 (x9 != 0) (if List.length [(Value.int .u8 0),.int .u8 0,.int .u8 0,.int .u8 0,.int .i64 0]=5 then (if List.all [(Value.int .u8 0),.int .u8 0,.int .u8 0,.int .u8 0,.int .i64 0] one=true then (if 0+List.length [(Value.int .u8 0),.int .u8 0,.int .u8 0,.int .u8 0,.int .i64 0]≤List.length k6 then (ldL (cellsN (splice k6 0 [.int .u8 0,.int .u8 0,.int .u8 0,.int .u8 0,.int .i64 0]) 0 5) fun l1=>K (.tuple ⟨[(.agg ⟨l1⟩),(.int .i64 13)]⟩) hp) else False) else False) else False) (ldL (cellsN k8 0 5) fun l2=>if List.length l2=5 then (if List.all l2 one=true then (if 0+List.length l2≤List.length k6 then (ldL (cellsN (splice k6 0 l2) 0 5) fun l3=>K (.tuple ⟨[(.agg ⟨l3⟩),.int .i64 0]⟩) hp) else False) else False) else False))
theorem F69_r4 {e:Env} {x0:OA} {x1:Int} {k5:List Value} {k6:List Value} {hp:HP} {K:Env→PV→HP→Prop}:RW Tryd.prog 33 [5,6,8,19,22] (opsAt Tryd.f69 (pth 5)) [0,1,2,3,4,5,6,7,8,9,10,11,12,13,14,15,16,17,18,19,20,21] (w3 e 5 (sR 5 0) 1 (sI x1) 0 (sP x0)) (w2 V0 6 (34,k6) 5 (32,k5)) hp K=
    (CF Tryd.prog 73 [(.int .i64 x1)] hp fun u1 h2=>intV u1 .i64 fun i3=>ptrN x0 fun b4 o5=>(0≤i3)∧(i3<(3:Nat))∧(ldV (HP.cell h2 b4 ((o5+9)+Int.toNat i3*1)) fun v6=>ptrV v6 fun p7=>ldL (cellsN k5 0 16) fun l8=>CF Tryd.prog 111 [(.pointer x0),(.agg ⟨l8⟩)] h2 fun u9 h10=>aggV u9 fun l11=>ldV (k5)[16]? fun v12=>intV v12 .i64 fun i13=>CF Tryd.prog 110 [(.pointer p7),(.agg ⟨l11⟩),(.int .i64 i13),(.bool (x1==1))] h10 fun u14 h15=>tup2V u14 fun u16 u17=>aggV u16 fun l18=>intV u17 .i64 fun i19=>if List.length l18=5 then (if List.all l18 one=true then (if 0+List.length l18≤List.length [(Value.int .u8 0),.int .u8 0,.int .u8 0,.int .u8 0,.int .i64 0] then (K (w8 (w8 (w8 e 5 (sR 5 0) 1 (sI x1) 0 (sP x0) 11 (sP x0) 12 (sI x1) 13 (sI i3) 14 (sQ b4 o5) 15 (sQ b4 (o5+9))) 16 (sQ b4 ((o5+9)+Int.toNat i3*1)) 17 (sP p7) 18 (sP x0) 19 (sR 5 0) 20 (sA l8) 21 (sA l11) 22 (sR 5 16) 23 (sI i13)) 24 (sI x1) 25 (sB ((x1==1))) 26 (sV (.tuple ⟨[(.agg ⟨l18⟩),(.int .i64 i19)]⟩)) 10 (sV (.tuple ⟨[(.agg ⟨l18⟩),(.int .i64 i19)]⟩)) 27 (sA l18) 28 (sI i19) 8 (sR 8 0) 9 (sI i19)) (w4 V0 6 (34,k6) 5 (32,k5) 8 (34,[.int .u8 0,.int .u8 0,.int .u8 0,.int .u8 0,.int .i64 0]) 8 (34,(splice [.int .u8 0,.int .u8 0,.int .u8 0,.int .u8 0,.int .i64 0] 0 l18))) h15) else False) else False) else False)):=by kernel_rfl
theorem F69_r5 {e:Env} {x0:OA} {x1:Int} {k5:List Value} {k6:List Value} {hp:HP} {K:Env→PV→HP→Prop}:RW Tryd.prog 33 [5,6,8,19,22] (opsAt Tryd.f69 (pth 5)) [0,1,2,3,4,5,6,7,8,9,10,11,13,14,19,12,15,16,17,18,20,21] (w3 e 5 (sR 5 0) 1 (sI x1) 0 (sP x0)) (w2 V0 6 (34,k6) 5 (32,k5)) hp K=
    (CF Tryd.prog 73 [(.int .i64 x1)] hp fun u1 h2=>intV u1 .i64 fun i3=>ptrN x0 fun b4 o5=>(0≤i3)∧(i3<(3:Nat))∧(ldV (HP.cell h2 b4 ((o5+9)+Int.toNat i3*1)) fun v6=>ptrV v6 fun p7=>ldL (cellsN k5 0 16) fun l8=>CF Tryd.prog 111 [(.pointer x0),(.agg ⟨l8⟩)] h2 fun u9 h10=>aggV u9 fun l11=>ldV (k5)[16]? fun v12=>intV v12 .i64 fun i13=>CF Tryd.prog 110 [(.pointer p7),(.agg ⟨l11⟩),(.int .i64 i13),(.bool (x1==1))] h10 fun u14 h15=>tup2V u14 fun u16 u17=>aggV u16 fun l18=>intV u17 .i64 fun i19=>if List.length l18=5 then (if List.all l18 one=true then (if 0+List.length l18≤List.length [(Value.int .u8 0),.int .u8 0,.int .u8 0,.int .u8 0,.int .i64 0] then (K (w8 (w8 (w8 e 5 (sR 5 0) 1 (sI x1) 0 (sP x0) 11 (sP x0) 12 (sI x1) 13 (sI i3) 14 (sQ b4 o5) 15 (sQ b4 (o5+9))) 16 (sQ b4 ((o5+9)+Int.toNat i3*1)) 17 (sP p7) 18 (sP x0) 19 (sR 5 0) 20 (sA l8) 21 (sA l11) 22 (sR 5 16) 24 (sI x1)) 25 (sB ((x1==1))) 8 (sR 8 0) 23 (sI i13) 26 (sV (.tuple ⟨[(.agg ⟨l18⟩),(.int .i64 i19)]⟩)) 10 (sV (.tuple ⟨[(.agg ⟨l18⟩),(.int .i64 i19)]⟩)) 27 (sA l18) 28 (sI i19) 9 (sI i19)) (w4 V0 6 (34,k6) 5 (32,k5) 8 (34,[.int .u8 0,.int .u8 0,.int .u8 0,.int .u8 0,.int .i64 0]) 8 (34,(splice [.int .u8 0,.int .u8 0,.int .u8 0,.int .u8 0,.int .i64 0] 0 l18))) h15) else False) else False) else False)):=by kernel_rfl
theorem F69_r6 {e:Env} {x0:OA} {x1:Int} {k5:List Value} {k6:List Value} {hp:HP} {K:Env→PV→HP→Prop}:RW Tryd.prog 33 [5,6,8,19,22] (opsAt Tryd.f69 (pth 5)) [0,1,2,3,4,5,6,7,8,11,12,13,14,19,9,10,15,16,17,18,20,21] (w3 e 5 (sR 5 0) 1 (sI x1) 0 (sP x0)) (w2 V0 6 (34,k6) 5 (32,k5)) hp K=
    (CF Tryd.prog 73 [(.int .i64 x1)] hp fun u1 h2=>intV u1 .i64 fun i3=>ptrN x0 fun b4 o5=>(0≤i3)∧(i3<(3:Nat))∧(ldV (HP.cell h2 b4 ((o5+9)+Int.toNat i3*1)) fun v6=>ptrV v6 fun p7=>ldV (k5)[16]? fun v8=>intV v8 .i64 fun i9=>ldL (cellsN k5 0 16) fun l10=>CF Tryd.prog 111 [(.pointer x0),(.agg ⟨l10⟩)] h2 fun u11 h12=>aggV u11 fun l13=>CF Tryd.prog 110 [(.pointer p7),(.agg ⟨l13⟩),(.int .i64 i9),(.bool (x1==1))] h12 fun u14 h15=>tup2V u14 fun u16 u17=>aggV u16 fun l18=>intV u17 .i64 fun i19=>if List.length l18=5 then (if List.all l18 one=true then (if 0+List.length l18≤List.length [(Value.int .u8 0),.int .u8 0,.int .u8 0,.int .u8 0,.int .i64 0] then (K (w8 (w8 (w8 e 5 (sR 5 0) 1 (sI x1) 0 (sP x0) 11 (sP x0) 12 (sI x1) 13 (sI i3) 14 (sQ b4 o5) 15 (sQ b4 (o5+9))) 16 (sQ b4 ((o5+9)+Int.toNat i3*1)) 17 (sP p7) 18 (sP x0) 19 (sR 5 0) 22 (sR 5 16) 23 (sI i9) 24 (sI x1) 25 (sB ((x1==1)))) 8 (sR 8 0) 20 (sA l10) 21 (sA l13) 26 (sV (.tuple ⟨[(.agg ⟨l18⟩),(.int .i64 i19)]⟩)) 10 (sV (.tuple ⟨[(.agg ⟨l18⟩),(.int .i64 i19)]⟩)) 27 (sA l18) 28 (sI i19) 9 (sI i19)) (w4 V0 6 (34,k6) 5 (32,k5) 8 (34,[.int .u8 0,.int .u8 0,.int .u8 0,.int .u8 0,.int .i64 0]) 8 (34,(splice [.int .u8 0,.int .u8 0,.int .u8 0,.int .u8 0,.int .i64 0] 0 l18))) h15) else False) else False) else False)):=by kernel_rfl
theorem F69_r7 {e:Env} {x0:OA} {x1:Int} {k5:List Value} {k6:List Value} {hp:HP} {K:Env→PV→HP→Prop}:RW Tryd.prog 33 [5,6,8,19,22] (opsAt Tryd.f69 (pth 5)) [0,1,2,3,4,5,6,7,8,11,13,14,19,9,10,12,15,16,17,18,20,21] (w3 e 5 (sR 5 0) 1 (sI x1) 0 (sP x0)) (w2 V0 6 (34,k6) 5 (32,k5)) hp K=
    (CF Tryd.prog 73 [(.int .i64 x1)] hp fun u1 h2=>intV u1 .i64 fun i3=>ptrN x0 fun b4 o5=>(0≤i3)∧(i3<(3:Nat))∧(ldV (HP.cell h2 b4 ((o5+9)+Int.toNat i3*1)) fun v6=>ptrV v6 fun p7=>ldL (cellsN k5 0 16) fun l8=>CF Tryd.prog 111 [(.pointer x0),(.agg ⟨l8⟩)] h2 fun u9 h10=>aggV u9 fun l11=>ldV (k5)[16]? fun v12=>intV v12 .i64 fun i13=>CF Tryd.prog 110 [(.pointer p7),(.agg ⟨l11⟩),(.int .i64 i13),(.bool (x1==1))] h10 fun u14 h15=>tup2V u14 fun u16 u17=>aggV u16 fun l18=>intV u17 .i64 fun i19=>if List.length l18=5 then (if List.all l18 one=true then (if 0+List.length l18≤List.length [(Value.int .u8 0),.int .u8 0,.int .u8 0,.int .u8 0,.int .i64 0] then (K (w8 (w8 (w8 e 5 (sR 5 0) 1 (sI x1) 0 (sP x0) 11 (sP x0) 12 (sI x1) 13 (sI i3) 14 (sQ b4 o5) 15 (sQ b4 (o5+9))) 16 (sQ b4 ((o5+9)+Int.toNat i3*1)) 17 (sP p7) 18 (sP x0) 19 (sR 5 0) 22 (sR 5 16) 24 (sI x1) 25 (sB ((x1==1))) 8 (sR 8 0)) 20 (sA l8) 21 (sA l11) 23 (sI i13) 26 (sV (.tuple ⟨[(.agg ⟨l18⟩),(.int .i64 i19)]⟩)) 10 (sV (.tuple ⟨[(.agg ⟨l18⟩),(.int .i64 i19)]⟩)) 27 (sA l18) 28 (sI i19) 9 (sI i19)) (w4 V0 6 (34,k6) 5 (32,k5) 8 (34,[.int .u8 0,.int .u8 0,.int .u8 0,.int .u8 0,.int .i64 0]) 8 (34,(splice [.int .u8 0,.int .u8 0,.int .u8 0,.int .u8 0,.int .i64 0] 0 l18))) h15) else False) else False) else False)):=by kernel_rfl
theorem F69_r8 {e:Env} {x0:OA} {x1:Int} {k5:List Value} {k6:List Value} {hp:HP} {K:Env→PV→HP→Prop}:RW Tryd.prog 33 [5,6,8,19,22] (opsAt Tryd.f69 (pth 5)) [0,1,2,3,4,5,7,8,9,10,6,11,12,13,14,15,16,17,18,19,20,21] (w3 e 5 (sR 5 0) 1 (sI x1) 0 (sP x0)) (w2 V0 6 (34,k6) 5 (32,k5)) hp K=
    (CF Tryd.prog 73 [(.int .i64 x1)] hp fun u1 h2=>intV u1 .i64 fun i3=>ptrN x0 fun b4 o5=>(0≤i3)∧(i3<(3:Nat))∧(ldL (cellsN k5 0 16) fun l6=>CF Tryd.prog 111 [(.pointer x0),(.agg ⟨l6⟩)] h2 fun u7 h8=>aggV u7 fun l9=>ldV (HP.cell h8 b4 ((o5+9)+Int.toNat i3*1)) fun v10=>ptrV v10 fun p11=>ldV (k5)[16]? fun v12=>intV v12 .i64 fun i13=>CF Tryd.prog 110 [(.pointer p11),(.agg ⟨l9⟩),(.int .i64 i13),(.bool (x1==1))] h8 fun u14 h15=>tup2V u14 fun u16 u17=>aggV u16 fun l18=>intV u17 .i64 fun i19=>if List.length l18=5 then (if List.all l18 one=true then (if 0+List.length l18≤List.length [(Value.int .u8 0),.int .u8 0,.int .u8 0,.int .u8 0,.int .i64 0] then (K (w8 (w8 (w8 e 5 (sR 5 0) 1 (sI x1) 0 (sP x0) 11 (sP x0) 12 (sI x1) 13 (sI i3) 14 (sQ b4 o5) 15 (sQ b4 (o5+9))) 16 (sQ b4 ((o5+9)+Int.toNat i3*1)) 18 (sP x0) 19 (sR 5 0) 20 (sA l6) 21 (sA l9) 17 (sP p11) 22 (sR 5 16) 23 (sI i13)) 24 (sI x1) 25 (sB ((x1==1))) 26 (sV (.tuple ⟨[(.agg ⟨l18⟩),(.int .i64 i19)]⟩)) 10 (sV (.tuple ⟨[(.agg ⟨l18⟩),(.int .i64 i19)]⟩)) 27 (sA l18) 28 (sI i19) 8 (sR 8 0) 9 (sI i19)) (w4 V0 6 (34,k6) 5 (32,k5) 8 (34,[.int .u8 0,.int .u8 0,.int .u8 0,.int .u8 0,.int .i64 0]) 8 (34,(splice [.int .u8 0,.int .u8 0,.int .u8 0,.int .u8 0,.int .i64 0] 0 l18))) h15) else False) else False) else False)):=by kernel_rfl
theorem F69_r9 {e:Env} {x0:OA} {x1:Int} {k5:List Value} {k6:List Value} {hp:HP} {K:Env→PV→HP→Prop}:RW Tryd.prog 33 [5,6,8,19,22] (opsAt Tryd.f69 (pth 5)) [0,1,2,3,4,5,7,8,9,10,6,11,13,14,19,12,15,16,17,18,20,21] (w3 e 5 (sR 5 0) 1 (sI x1) 0 (sP x0)) (w2 V0 6 (34,k6) 5 (32,k5)) hp K=
    (CF Tryd.prog 73 [(.int .i64 x1)] hp fun u1 h2=>intV u1 .i64 fun i3=>ptrN x0 fun b4 o5=>(0≤i3)∧(i3<(3:Nat))∧(ldL (cellsN k5 0 16) fun l6=>CF Tryd.prog 111 [(.pointer x0),(.agg ⟨l6⟩)] h2 fun u7 h8=>aggV u7 fun l9=>ldV (HP.cell h8 b4 ((o5+9)+Int.toNat i3*1)) fun v10=>ptrV v10 fun p11=>ldV (k5)[16]? fun v12=>intV v12 .i64 fun i13=>CF Tryd.prog 110 [(.pointer p11),(.agg ⟨l9⟩),(.int .i64 i13),(.bool (x1==1))] h8 fun u14 h15=>tup2V u14 fun u16 u17=>aggV u16 fun l18=>intV u17 .i64 fun i19=>if List.length l18=5 then (if List.all l18 one=true then (if 0+List.length l18≤List.length [(Value.int .u8 0),.int .u8 0,.int .u8 0,.int .u8 0,.int .i64 0] then (K (w8 (w8 (w8 e 5 (sR 5 0) 1 (sI x1) 0 (sP x0) 11 (sP x0) 12 (sI x1) 13 (sI i3) 14 (sQ b4 o5) 15 (sQ b4 (o5+9))) 16 (sQ b4 ((o5+9)+Int.toNat i3*1)) 18 (sP x0) 19 (sR 5 0) 20 (sA l6) 21 (sA l9) 17 (sP p11) 22 (sR 5 16) 24 (sI x1)) 25 (sB ((x1==1))) 8 (sR 8 0) 23 (sI i13) 26 (sV (.tuple ⟨[(.agg ⟨l18⟩),(.int .i64 i19)]⟩)) 10 (sV (.tuple ⟨[(.agg ⟨l18⟩),(.int .i64 i19)]⟩)) 27 (sA l18) 28 (sI i19) 9 (sI i19)) (w4 V0 6 (34,k6) 5 (32,k5) 8 (34,[.int .u8 0,.int .u8 0,.int .u8 0,.int .u8 0,.int .i64 0]) 8 (34,(splice [.int .u8 0,.int .u8 0,.int .u8 0,.int .u8 0,.int .i64 0] 0 l18))) h15) else False) else False) else False)):=by kernel_rfl
theorem F69_r10 {e:Env} {x0:OA} {x1:Int} {k5:List Value} {k6:List Value} {hp:HP} {K:Env→PV→HP→Prop}:RW Tryd.prog 33 [5,6,8,19,22] (opsAt Tryd.f69 (pth 5)) [0,1,2,3,4,5,7,8,11,12,13,14,19,9,10,6,15,16,17,18,20,21] (w3 e 5 (sR 5 0) 1 (sI x1) 0 (sP x0)) (w2 V0 6 (34,k6) 5 (32,k5)) hp K=
    (CF Tryd.prog 73 [(.int .i64 x1)] hp fun u1 h2=>intV u1 .i64 fun i3=>ptrN x0 fun b4 o5=>(0≤i3)∧(i3<(3:Nat))∧(ldV (k5)[16]? fun v6=>intV v6 .i64 fun i7=>ldL (cellsN k5 0 16) fun l8=>CF Tryd.prog 111 [(.pointer x0),(.agg ⟨l8⟩)] h2 fun u9 h10=>aggV u9 fun l11=>ldV (HP.cell h10 b4 ((o5+9)+Int.toNat i3*1)) fun v12=>ptrV v12 fun p13=>CF Tryd.prog 110 [(.pointer p13),(.agg ⟨l11⟩),(.int .i64 i7),(.bool (x1==1))] h10 fun u14 h15=>tup2V u14 fun u16 u17=>aggV u16 fun l18=>intV u17 .i64 fun i19=>if List.length l18=5 then (if List.all l18 one=true then (if 0+List.length l18≤List.length [(Value.int .u8 0),.int .u8 0,.int .u8 0,.int .u8 0,.int .i64 0] then (K (w8 (w8 (w8 e 5 (sR 5 0) 1 (sI x1) 0 (sP x0) 11 (sP x0) 12 (sI x1) 13 (sI i3) 14 (sQ b4 o5) 15 (sQ b4 (o5+9))) 16 (sQ b4 ((o5+9)+Int.toNat i3*1)) 18 (sP x0) 19 (sR 5 0) 22 (sR 5 16) 23 (sI i7) 24 (sI x1) 25 (sB ((x1==1))) 8 (sR 8 0)) 20 (sA l8) 21 (sA l11) 17 (sP p13) 26 (sV (.tuple ⟨[(.agg ⟨l18⟩),(.int .i64 i19)]⟩)) 10 (sV (.tuple ⟨[(.agg ⟨l18⟩),(.int .i64 i19)]⟩)) 27 (sA l18) 28 (sI i19) 9 (sI i19)) (w4 V0 6 (34,k6) 5 (32,k5) 8 (34,[.int .u8 0,.int .u8 0,.int .u8 0,.int .u8 0,.int .i64 0]) 8 (34,(splice [.int .u8 0,.int .u8 0,.int .u8 0,.int .u8 0,.int .i64 0] 0 l18))) h15) else False) else False) else False)):=by kernel_rfl
theorem F69_r11 {e:Env} {x0:OA} {x1:Int} {k5:List Value} {k6:List Value} {hp:HP} {K:Env→PV→HP→Prop}:RW Tryd.prog 33 [5,6,8,19,22] (opsAt Tryd.f69 (pth 5)) [0,1,2,3,4,5,7,8,11,13,14,19,9,10,6,12,15,16,17,18,20,21] (w3 e 5 (sR 5 0) 1 (sI x1) 0 (sP x0)) (w2 V0 6 (34,k6) 5 (32,k5)) hp K=
    (CF Tryd.prog 73 [(.int .i64 x1)] hp fun u1 h2=>intV u1 .i64 fun i3=>ptrN x0 fun b4 o5=>(0≤i3)∧(i3<(3:Nat))∧(ldL (cellsN k5 0 16) fun l6=>CF Tryd.prog 111 [(.pointer x0),(.agg ⟨l6⟩)] h2 fun u7 h8=>aggV u7 fun l9=>ldV (HP.cell h8 b4 ((o5+9)+Int.toNat i3*1)) fun v10=>ptrV v10 fun p11=>ldV (k5)[16]? fun v12=>intV v12 .i64 fun i13=>CF Tryd.prog 110 [(.pointer p11),(.agg ⟨l9⟩),(.int .i64 i13),(.bool (x1==1))] h8 fun u14 h15=>tup2V u14 fun u16 u17=>aggV u16 fun l18=>intV u17 .i64 fun i19=>if List.length l18=5 then (if List.all l18 one=true then (if 0+List.length l18≤List.length [(Value.int .u8 0),.int .u8 0,.int .u8 0,.int .u8 0,.int .i64 0] then (K (w8 (w8 (w8 e 5 (sR 5 0) 1 (sI x1) 0 (sP x0) 11 (sP x0) 12 (sI x1) 13 (sI i3) 14 (sQ b4 o5) 15 (sQ b4 (o5+9))) 16 (sQ b4 ((o5+9)+Int.toNat i3*1)) 18 (sP x0) 19 (sR 5 0) 22 (sR 5 16) 24 (sI x1) 25 (sB ((x1==1))) 8 (sR 8 0) 20 (sA l6)) 21 (sA l9) 17 (sP p11) 23 (sI i13) 26 (sV (.tuple ⟨[(.agg ⟨l18⟩),(.int .i64 i19)]⟩)) 10 (sV (.tuple ⟨[(.agg ⟨l18⟩),(.int .i64 i19)]⟩)) 27 (sA l18) 28 (sI i19) 9 (sI i19)) (w4 V0 6 (34,k6) 5 (32,k5) 8 (34,[.int .u8 0,.int .u8 0,.int .u8 0,.int .u8 0,.int .i64 0]) 8 (34,(splice [.int .u8 0,.int .u8 0,.int .u8 0,.int .u8 0,.int .i64 0] 0 l18))) h15) else False) else False) else False)):=by kernel_rfl
def F69 (x0:OA) (x1:Int) (x2:List Value) (hp:HP) (K:Kh):Prop:=
  ((CF Tryd.prog 73 [(.int .i64 x1)] hp fun u4 h5=>intV u4 .i64 fun i6=>ptrN x0 fun b7 o8=>(0≤i6)∧(i6<(3:Nat))∧(ldV (HP.cell h5 b7 ((o8+9)+Int.toNat i6*1)) fun v9=>ptrV v9 fun p10=>ldL (cellsN x2 0 16) fun l11=>CF Tryd.prog 111 [(.pointer x0),(.agg ⟨l11⟩)] h5 fun u12 h13=>aggV u12 fun l14=>ldV (x2)[16]? fun v15=>intV v15 .i64 fun i16=>CF Tryd.prog 110 [(.pointer p10),(.agg ⟨l14⟩),(.int .i64 i16),(.bool (x1==1))] h13 fun u17 h18=>tup2V u17 fun u19 u20=>aggV u19 fun l21=>intV u20 .i64 fun i22=>if List.length l21=5 then (if List.all l21 one=true then (if 0+List.length l21≤List.length [(Value.int .u8 0),.int .u8 0,.int .u8 0,.int .u8 0,.int .i64 0] then (F69_j1 i22 [.int .u8 0,.int .u8 0,.int .u8 0,.int .u8 0,.int .i64 0] (splice [.int .u8 0,.int .u8 0,.int .u8 0,.int .u8 0,.int .i64 0] 0 l21) h18  K) else False) else False) else False))∧(CF Tryd.prog 73 [(.int .i64 x1)] hp fun u23 h24=>intV u23 .i64 fun i25=>ptrN x0 fun b26 o27=>(0≤i25)∧(i25<(3:Nat))∧(ldV (HP.cell h24 b26 ((o27+9)+Int.toNat i25*1)) fun v28=>ptrV v28 fun p29=>ldL (cellsN x2 0 16) fun l30=>CF Tryd.prog 111 [(.pointer x0),(.agg ⟨l30⟩)] h24 fun u31 h32=>aggV u31 fun l33=>ldV (x2)[16]? fun v34=>intV v34 .i64 fun i35=>CF Tryd.prog 110 [(.pointer p29),(.agg ⟨l33⟩),(.int .i64 i35),(.bool (x1==1))] h32 fun u36 h37=>tup2V u36 fun u38 u39=>aggV u38 fun l40=>intV u39 .i64 fun i41=>if List.length l40=5 then (if List.all l40 one=true then (if 0+List.length l40≤List.length [(Value.int .u8 0),.int .u8 0,.int .u8 0,.int .u8 0,.int .i64 0] then (F69_j1 i41 [.int .u8 0,.int .u8 0,.int .u8 0,.int .u8 0,.int .i64 0] (splice [.int .u8 0,.int .u8 0,.int .u8 0,.int .u8 0,.int .i64 0] 0 l40) h37  K) else False) else False) else False))∧(CF Tryd.prog 73 [(.int .i64 x1)] hp fun u42 h43=>intV u42 .i64 fun i44=>ptrN x0 fun b45 o46=>(0≤i44)∧(i44<(3:Nat))∧(ldV (HP.cell h43 b45 ((o46+9)+Int.toNat i44*1)) fun v47=>ptrV v47 fun p48=>ldV (x2)[16]? fun v49=>intV v49 .i64 fun i50=>ldL (cellsN x2 0 16) fun l51=>CF Tryd.prog 111 [(.pointer x0),(.agg ⟨l51⟩)] h43 fun u52 h53=>aggV u52 fun l54=>CF Tryd.prog 110 [(.pointer p48),(.agg ⟨l54⟩),(.int .i64 i50),(.bool (x1==1))] h53 fun u55 h56=>tup2V u55 fun u57 u58=>aggV u57 fun l59=>intV u58 .i64 fun i60=>if List.length l59=5 then (if List.all l59 one=true then (if 0+List.length l59≤List.length [(Value.int .u8 0),.int .u8 0,.int .u8 0,.int .u8 0,.int .i64 0] then (F69_j1 i60 [.int .u8 0,.int .u8 0,.int .u8 0,.int .u8 0,.int .i64 0] (splice [.int .u8 0,.int .u8 0,.int .u8 0,.int .u8 0,.int .i64 0] 0 l59) h56  K) else False) else False) else False))∧(CF Tryd.prog 73 [(.int .i64 x1)] hp fun u61 h62=>intV u61 .i64 fun i63=>ptrN x0 fun b64 o65=>(0≤i63)∧(i63<(3:Nat))∧(ldV (HP.cell h62 b64 ((o65+9)+Int.toNat i63*1)) fun v66=>ptrV v66 fun p67=>ldL (cellsN x2 0 16) fun l68=>CF Tryd.prog 111 [(.pointer x0),(.agg ⟨l68⟩)] h62 fun u69 h70=>aggV u69 fun l71=>ldV (x2)[16]? fun v72=>intV v72 .i64 fun i73=>CF Tryd.prog 110 [(.pointer p67),(.agg ⟨l71⟩),(.int .i64 i73),(.bool (x1==1))] h70 fun u74 h75=>tup2V u74 fun u76 u77=>aggV u76 fun l78=>intV u77 .i64 fun i79=>if List.length l78=5 then (if List.all l78 one=true then (if 0+List.length l78≤List.length [(Value.int .u8 0),.int .u8 0,.int .u8 0,.int .u8 0,.int .i64 0] then (F69_j1 i79 [.int .u8 0,.int .u8 0,.int .u8 0,.int .u8 0,.int .i64 0] (splice [.int .u8 0,.int .u8 0,.int .u8 0,.int .u8 0,.int .i64 0] 0 l78) h75  K) else False) else False) else False))∧(CF Tryd.prog 73 [(.int .i64 x1)] hp fun u80 h81=>intV u80 .i64 fun i82=>ptrN x0 fun b83 o84=>(0≤i82)∧(i82<(3:Nat))∧(ldL (cellsN x2 0 16) fun l85=>CF Tryd.prog 111 [(.pointer x0),(.agg ⟨l85⟩)] h81 fun u86 h87=>aggV u86 fun l88=>ldV (HP.cell h87 b83 ((o84+9)+Int.toNat i82*1)) fun v89=>ptrV v89 fun p90=>ldV (x2)[16]? fun v91=>intV v91 .i64 fun i92=>CF Tryd.prog 110 [(.pointer p90),(.agg ⟨l88⟩),(.int .i64 i92),(.bool (x1==1))] h87 fun u93 h94=>tup2V u93 fun u95 u96=>aggV u95 fun l97=>intV u96 .i64 fun i98=>if List.length l97=5 then (if List.all l97 one=true then (if 0+List.length l97≤List.length [(Value.int .u8 0),.int .u8 0,.int .u8 0,.int .u8 0,.int .i64 0] then (F69_j1 i98 [.int .u8 0,.int .u8 0,.int .u8 0,.int .u8 0,.int .i64 0] (splice [.int .u8 0,.int .u8 0,.int .u8 0,.int .u8 0,.int .i64 0] 0 l97) h94  K) else False) else False) else False))∧(CF Tryd.prog 73 [(.int .i64 x1)] hp fun u99 h100=>intV u99 .i64 fun i101=>ptrN x0 fun b102 o103=>(0≤i101)∧(i101<(3:Nat))∧(ldL (cellsN x2 0 16) fun l104=>CF Tryd.prog 111 [(.pointer x0),(.agg ⟨l104⟩)] h100 fun u105 h106=>aggV u105 fun l107=>ldV (HP.cell h106 b102 ((o103+9)+Int.toNat i101*1)) fun v108=>ptrV v108 fun p109=>ldV (x2)[16]? fun v110=>intV v110 .i64 fun i111=>CF Tryd.prog 110 [(.pointer p109),(.agg ⟨l107⟩),(.int .i64 i111),(.bool (x1==1))] h106 fun u112 h113=>tup2V u112 fun u114 u115=>aggV u114 fun l116=>intV u115 .i64 fun i117=>if List.length l116=5 then (if List.all l116 one=true then (if 0+List.length l116≤List.length [(Value.int .u8 0),.int .u8 0,.int .u8 0,.int .u8 0,.int .i64 0] then (F69_j1 i117 [.int .u8 0,.int .u8 0,.int .u8 0,.int .u8 0,.int .i64 0] (splice [.int .u8 0,.int .u8 0,.int .u8 0,.int .u8 0,.int .i64 0] 0 l116) h113  K) else False) else False) else False))∧(CF Tryd.prog 73 [(.int .i64 x1)] hp fun u118 h119=>intV u118 .i64 fun i120=>ptrN x0 fun b121 o122=>(0≤i120)∧(i120<(3:Nat))∧(ldV (x2)[16]? fun v123=>intV v123 .i64 fun i124=>ldL (cellsN x2 0 16) fun l125=>CF Tryd.prog 111 [(.pointer x0),(.agg ⟨l125⟩)] h119 fun u126 h127=>aggV u126 fun l128=>ldV (HP.cell h127 b121 ((o122+9)+Int.toNat i120*1)) fun v129=>ptrV v129 fun p130=>CF Tryd.prog 110 [(.pointer p130),(.agg ⟨l128⟩),(.int .i64 i124),(.bool (x1==1))] h127 fun u131 h132=>tup2V u131 fun u133 u134=>aggV u133 fun l135=>intV u134 .i64 fun i136=>if List.length l135=5 then (if List.all l135 one=true then (if 0+List.length l135≤List.length [(Value.int .u8 0),.int .u8 0,.int .u8 0,.int .u8 0,.int .i64 0] then (F69_j1 i136 [.int .u8 0,.int .u8 0,.int .u8 0,.int .u8 0,.int .i64 0] (splice [.int .u8 0,.int .u8 0,.int .u8 0,.int .u8 0,.int .i64 0] 0 l135) h132  K) else False) else False) else False))∧(CF Tryd.prog 73 [(.int .i64 x1)] hp fun u137 h138=>intV u137 .i64 fun i139=>ptrN x0 fun b140 o141=>(0≤i139)∧(i139<(3:Nat))∧(ldL (cellsN x2 0 16) fun l142=>CF Tryd.prog 111 [(.pointer x0),(.agg ⟨l142⟩)] h138 fun u143 h144=>aggV u143 fun l145=>ldV (HP.cell h144 b140 ((o141+9)+Int.toNat i139*1)) fun v146=>ptrV v146 fun p147=>ldV (x2)[16]? fun v148=>intV v148 .i64 fun i149=>CF Tryd.prog 110 [(.pointer p147),(.agg ⟨l145⟩),(.int .i64 i149),(.bool (x1==1))] h144 fun u150 h151=>tup2V u150 fun u152 u153=>aggV u152 fun l154=>intV u153 .i64 fun i155=>if List.length l154=5 then (if List.all l154 one=true then (if 0+List.length l154≤List.length [(Value.int .u8 0),.int .u8 0,.int .u8 0,.int .u8 0,.int .i64 0] then (F69_j1 i155 [.int .u8 0,.int .u8 0,.int .u8 0,.int .u8 0,.int .i64 0] (splice [.int .u8 0,.int .u8 0,.int .u8 0,.int .u8 0,.int .i64 0] 0 l154) h151  K) else False) else False) else False)))
noncomputable def F69_code:Code:=(.seq (.region 0 (opsAt Tryd.f69 (pth 2)) false) (.seq (.region 1 (opsAt Tryd.f69 (pth 5)) true) (.seq (.seq (.region 2 (opsAt Tryd.f69 (pth 19)) false) (.cond (.tmp 30) (.seq (.region 3 (opsAt Tryd.f69 (pth 75)) false) .ret) .skip)) (.seq (.region 4 (opsAt Tryd.f69 (pth 23)) false) .ret))))
theorem F69_body:Tryd.f69.body=some F69_code:=by kernel_rfl
theorem F69_ok (x0:OA) (x1:Int) (x2:List Value) (hp:HP) (K:Kh) (h:F69 x0 x1 x2 hp K):CF Tryd.prog 69 [(.pointer x0),(.int .i64 x1),(.agg ⟨x2⟩)] hp K:=by
 refine .inl ⟨by kernel_rfl,AC.intro (N:=33) Tryd.func69 F69_body rfl (Nat.le_of_ble_eq_true rfl) ?_⟩
 unfold F69 at h
 refine Ar F69_r0 ?_ (r3 2 0 1 Rn) (z3 Sn) Sn
 refine As (fun env pv hp=>∃ x9 k6 k8,Sub (w3 E0 9 (sI x9) 8 (sR 8 0) 6 (sR 6 0)) env∧Sub (w2 V0 8 (34,k8) 6 (34,k6)) pv∧(F69_j1 x9 k6 k8 hp  K)) ?_ ?_
 ·refine AWP.rgnC (cf:=[(6,10),(9,19),(12,19)]) (c:=[([true,true,true],true,[0,1,2,3,4,5,6,7,8,9,10,11,12,13,14,15,16,17,18,19,20,21]),([true,true,false],true,[0,1,2,3,4,5,6,7,8,9,10,11,13,14,19,12,15,16,17,18,20,21]),([true,false,true],true,[0,1,2,3,4,5,6,7,8,11,12,13,14,19,9,10,15,16,17,18,20,21]),([true,false,false],true,[0,1,2,3,4,5,6,7,8,11,13,14,19,9,10,12,15,16,17,18,20,21]),([false,true,true],true,[0,1,2,3,4,5,7,8,9,10,6,11,12,13,14,15,16,17,18,19,20,21]),([false,true,false],true,[0,1,2,3,4,5,7,8,9,10,6,11,13,14,19,12,15,16,17,18,20,21]),([false,false,true],true,[0,1,2,3,4,5,7,8,11,12,13,14,19,9,10,6,15,16,17,18,20,21]),([false,false,false],true,[0,1,2,3,4,5,7,8,11,13,14,19,9,10,6,12,15,16,17,18,20,21])]) (by kernel_rfl) (by kernel_rfl) (by kernel_rfl) (by kernel_rfl) (allO_t (Eq.mpr F69_r4 ?_) (allO_t (Eq.mpr F69_r5 ?_) (allO_t (Eq.mpr F69_r6 ?_) (allO_t (Eq.mpr F69_r7 ?_) (allO_t (Eq.mpr F69_r8 ?_) (allO_t (Eq.mpr F69_r9 ?_) (allO_t (Eq.mpr F69_r10 ?_) (allO_t (Eq.mpr F69_r11 ?_) trivial)))))))) (r2 0 1 (rp 5 5 0 (rp 6 6 0 Rn))) (z4 Sn) (z2 Sn)
  ·replace h:=h.1
   refine mC h (fun u4 h5 h=>mI h (fun i6 h=>mN h (fun b7 o8 h=>⟨h.1,h.2.1,mV h.2.2 fun v9 h=>mP h fun p10 h=>mL h fun l11 h=>mC h fun u12 h13 h=>mA h fun l14 h=>mV h fun v15 h=>mI h fun i16 h=>mC h fun u17 h18 h=>mT h fun u19 u20 h=>mA h fun l21 h=>mI h fun i22 h=>mf h fun h=>mf h fun h=>mf h fun h=>?_⟩)))
   exact ⟨_,_,_,(z3 Sn),(z2 Sn),h⟩
  ·replace h:=h.2.1
   refine mC h (fun u23 h24 h=>mI h (fun i25 h=>mN h (fun b26 o27 h=>⟨h.1,h.2.1,mV h.2.2 fun v28 h=>mP h fun p29 h=>mL h fun l30 h=>mC h fun u31 h32 h=>mA h fun l33 h=>mV h fun v34 h=>mI h fun i35 h=>mC h fun u36 h37 h=>mT h fun u38 u39 h=>mA h fun l40 h=>mI h fun i41 h=>mf h fun h=>mf h fun h=>mf h fun h=>?_⟩)))
   exact ⟨_,_,_,(z3 Sn),(z2 Sn),h⟩
  ·replace h:=h.2.2.1
   refine mC h (fun u42 h43 h=>mI h (fun i44 h=>mN h (fun b45 o46 h=>⟨h.1,h.2.1,mV h.2.2 fun v47 h=>mP h fun p48 h=>mV h fun v49 h=>mI h fun i50 h=>mL h fun l51 h=>mC h fun u52 h53 h=>mA h fun l54 h=>mC h fun u55 h56 h=>mT h fun u57 u58 h=>mA h fun l59 h=>mI h fun i60 h=>mf h fun h=>mf h fun h=>mf h fun h=>?_⟩)))
   exact ⟨_,_,_,(z3 Sn),(z2 Sn),h⟩
  ·replace h:=h.2.2.2.1
   refine mC h (fun u61 h62 h=>mI h (fun i63 h=>mN h (fun b64 o65 h=>⟨h.1,h.2.1,mV h.2.2 fun v66 h=>mP h fun p67 h=>mL h fun l68 h=>mC h fun u69 h70 h=>mA h fun l71 h=>mV h fun v72 h=>mI h fun i73 h=>mC h fun u74 h75 h=>mT h fun u76 u77 h=>mA h fun l78 h=>mI h fun i79 h=>mf h fun h=>mf h fun h=>mf h fun h=>?_⟩)))
   exact ⟨_,_,_,(z3 Sn),(z2 Sn),h⟩
  ·replace h:=h.2.2.2.2.1
   refine mC h (fun u80 h81 h=>mI h (fun i82 h=>mN h (fun b83 o84 h=>⟨h.1,h.2.1,mL h.2.2 fun l85 h=>mC h fun u86 h87 h=>mA h fun l88 h=>mV h fun v89 h=>mP h fun p90 h=>mV h fun v91 h=>mI h fun i92 h=>mC h fun u93 h94 h=>mT h fun u95 u96 h=>mA h fun l97 h=>mI h fun i98 h=>mf h fun h=>mf h fun h=>mf h fun h=>?_⟩)))
   exact ⟨_,_,_,(z3 Sn),(z2 Sn),h⟩
  ·replace h:=h.2.2.2.2.2.1
   refine mC h (fun u99 h100 h=>mI h (fun i101 h=>mN h (fun b102 o103 h=>⟨h.1,h.2.1,mL h.2.2 fun l104 h=>mC h fun u105 h106 h=>mA h fun l107 h=>mV h fun v108 h=>mP h fun p109 h=>mV h fun v110 h=>mI h fun i111 h=>mC h fun u112 h113 h=>mT h fun u114 u115 h=>mA h fun l116 h=>mI h fun i117 h=>mf h fun h=>mf h fun h=>mf h fun h=>?_⟩)))
   exact ⟨_,_,_,(z3 Sn),(z2 Sn),h⟩
  ·replace h:=h.2.2.2.2.2.2.1
   refine mC h (fun u118 h119 h=>mI h (fun i120 h=>mN h (fun b121 o122 h=>⟨h.1,h.2.1,mV h.2.2 fun v123 h=>mI h fun i124 h=>mL h fun l125 h=>mC h fun u126 h127 h=>mA h fun l128 h=>mV h fun v129 h=>mP h fun p130 h=>mC h fun u131 h132 h=>mT h fun u133 u134 h=>mA h fun l135 h=>mI h fun i136 h=>mf h fun h=>mf h fun h=>mf h fun h=>?_⟩)))
   exact ⟨_,_,_,(z3 Sn),(z2 Sn),h⟩
  ·replace h:=h.2.2.2.2.2.2.2
   refine mC h (fun u137 h138 h=>mI h (fun i139 h=>mN h (fun b140 o141 h=>⟨h.1,h.2.1,mL h.2.2 fun l142 h=>mC h fun u143 h144 h=>mA h fun l145 h=>mV h fun v146 h=>mP h fun p147 h=>mV h fun v148 h=>mI h fun i149 h=>mC h fun u150 h151 h=>mT h fun u152 u153 h=>mA h fun l154 h=>mI h fun i155 h=>mf h fun h=>mf h fun h=>mf h fun h=>?_⟩)))
   exact ⟨_,_,_,(z3 Sn),(z2 Sn),h⟩
 ·rintro env pv hp ⟨x9,k6,k8,he,hv,h⟩
  refine Ae ?_ (rp 6 6 0 (rp 8 8 0 (r1 9 Rn))) he hv
  unfold F69_j1 at h
  refine Aq (Ar F69_r1 ?_ (r1 9 (rp 6 6 0 (rp 8 8 0 Rn))) (z3 Sn) (z2 Sn))
  refine Ac h rfl (fun h=>?_) (fun h=>?_)
  ·refine Ar F69_r2 ?_ (rp 6 6 0 Rn) (z1 Sn) (z1 Sn)
   refine mf h fun h=>mf h fun h=>mf h fun h=>?_
   refine AWP.ret ?_
   exact h
  ·refine AWP.skip (Ar F69_r3 ?_ (rp 6 6 0 (rp 8 8 0 Rn)) (z2 Sn) (z2 Sn))
   refine mL h fun l2 h=>mf h fun h=>mf h fun h=>mf h fun h=>?_
   refine AWP.ret ?_
   exact h
end
section
variable {e E:Env} {x0:OA} {x1:Int} {x2:List Value} {x8 x10:Int} {k5 k6 k9:List Value} {hp:HP} {K:Env→PV→HP→Prop}
abbrev R18 (p n:Nat):=RW Tryd.prog 36 [5,6,9] (opsAt Tryd.f18 (pth p)) (List.range n)
theorem F18_r0:R18 2 3 (upd e 2 (sA x2)) V0 hp K=
 K (w4 e 2 (sA x2) 5 (sR 5 0) 6 (sR 6 0) 7 (sI 0)) (w2 V0 5 (32,x2) 6 (36,[.int .i64 0,.int .i64 0,.int .u8 0,.int .u8 0,.int .u8 0,.int .u8 0,.int .u8 0,.int .u8 0,.int .u8 0,.int .u8 0,.int .u8 0,.int .u8 0,.int .u8 0,.int .u8 0,.int .u8 0,.int .u8 0,.int .u8 0,.int .u8 0,.int .i64 0,.int .u8 0,.int .u8 0,.int .u8 0,.int .u8 0,.int .i64 0,.bool false,.int .i64 0])) hp:= by kernel_rfl
theorem F18_r1 (h:E=upd (w2 e 5 (sR 5 0) 1 (sI x1)) 0 (sP x0)):R18 9 5 E (w2 V0 6 (36,k6) 5 (32,k5)) hp K=
 ldL (cellsN k5 0 17) fun l1=>(CF Tryd.prog 68 [(.pointer x0),(.int .i64 x1),(.agg ⟨l1⟩)] hp fun u2 h3=>intV u2 .i64 fun i4=>K (w5 E 11 (sP x0) 12 (sI x1) 13 (sA l1) 14 (sI i4) 8 (sI i4)) (w2 V0 6 (36,k6) 5 (32,k5)) h3):= by subst h; kernel_rfl
theorem F18_r2:R18 21 2 (upd e 8 (sI x8)) (w2 V0 6 (36,k6) 5 (32,k5)) hp K=
 K (w3 e 8 (sI x8) 15 (sI x8) 16 (sB ((x8 != 0)))) (w2 V0 6 (36,k6) 5 (32,k5)) hp:= by kernel_rfl
theorem F18_r3:R18 77 4 (w2 e 8 (sI x8) 6 (sR 6 0)) (upd V0 6 (36,k6)) hp K=
    (if List.length [(Value.int .i64 0),.int .i64 0,.int .u8 0,.int .u8 0,.int .u8 0,.int .u8 0,.int .u8 0,.int .u8 0,.int .u8 0,.int .u8 0,.int .u8 0,.int .u8 0,.int .u8 0,.int .u8 0,.int .u8 0,.int .u8 0,.int .u8 0,.int .u8 0,.int .i64 0,.int .u8 0,.int .u8 0,.int .u8 0,.int .u8 0,.int .i64 0,.bool false,.int .i64 0]=26 then (if List.all [(Value.int .i64 0),.int .i64 0,.int .u8 0,.int .u8 0,.int .u8 0,.int .u8 0,.int .u8 0,.int .u8 0,.int .u8 0,.int .u8 0,.int .u8 0,.int .u8 0,.int .u8 0,.int .u8 0,.int .u8 0,.int .u8 0,.int .u8 0,.int .u8 0,.int .i64 0,.int .u8 0,.int .u8 0,.int .u8 0,.int .u8 0,.int .i64 0,.bool false,.int .i64 0] one=true then (if 0+List.length [(Value.int .i64 0),.int .i64 0,.int .u8 0,.int .u8 0,.int .u8 0,.int .u8 0,.int .u8 0,.int .u8 0,.int .u8 0,.int .u8 0,.int .u8 0,.int .u8 0,.int .u8 0,.int .u8 0,.int .u8 0,.int .u8 0,.int .u8 0,.int .u8 0,.int .i64 0,.int .u8 0,.int .u8 0,.int .u8 0,.int .u8 0,.int .i64 0,.bool false,.int .i64 0]≤List.length k6 then (K (w5 e 8 (sI x8) 6 (sR 6 0) 17 (sV (.agg ⟨[.int .i64 0,.int .i64 0,.int .u8 0,.int .u8 0,.int .u8 0,.int .u8 0,.int .u8 0,.int .u8 0,.int .u8 0,.int .u8 0,.int .u8 0,.int .u8 0,.int .u8 0,.int .u8 0,.int .u8 0,.int .u8 0,.int .u8 0,.int .u8 0,.int .i64 0,.int .u8 0,.int .u8 0,.int .u8 0,.int .u8 0,.int .i64 0,.bool false,.int .i64 0]⟩)) 18 (sI x8) 7 (sI x8)) (w2 V0 6 (36,k6) 6 (36,(splice k6 0 [.int .i64 0,.int .i64 0,.int .u8 0,.int .u8 0,.int .u8 0,.int .u8 0,.int .u8 0,.int .u8 0,.int .u8 0,.int .u8 0,.int .u8 0,.int .u8 0,.int .u8 0,.int .u8 0,.int .u8 0,.int .u8 0,.int .u8 0,.int .u8 0,.int .i64 0,.int .u8 0,.int .u8 0,.int .u8 0,.int .u8 0,.int .i64 0,.bool false,.int .i64 0]))) hp) else False) else False) else False):=by kernel_rfl
theorem F18_r4 (h:E=upd (w2 e 5 (sR 5 0) 1 (sI x1)) 0 (sP x0)):R18 11 10 E (w2 V0 6 (36,k6) 5 (32,k5)) hp K=
 ldL (cellsN k5 0 17) fun l1=>(CF Tryd.prog 69 [(.pointer x0),(.int .i64 x1),(.agg ⟨l1⟩)] hp fun u2 h3=>tup2V u2 fun u4 u5=>aggV u4 fun l6=>intV u5 .i64 fun i7=>if List.length l6=5 then (if List.all l6 one=true then (if 0+List.length l6≤List.length [(Value.int .u8 0),.int .u8 0,.int .u8 0,.int .u8 0,.int .i64 0] then (K (upd (w8 E 20 (sP x0) 21 (sI x1) 22 (sA l1) 23 (sV (.tuple ⟨[(.agg ⟨l6⟩),(.int .i64 i7)]⟩)) 19 (sV (.tuple ⟨[(.agg ⟨l6⟩),(.int .i64 i7)]⟩)) 24 (sA l6) 25 (sI i7) 9 (sR 9 0)) 10 (sI i7)) (w4 V0 6 (36,k6) 5 (32,k5) 9 (34,[.int .u8 0,.int .u8 0,.int .u8 0,.int .u8 0,.int .i64 0]) 9 (34,(splice [.int .u8 0,.int .u8 0,.int .u8 0,.int .u8 0,.int .i64 0] 0 l6))) h3) else False) else False) else False):= by subst h; kernel_rfl
theorem F18_r5:R18 39 2 (upd e 10 (sI x10)) (w3 V0 9 (34,k9) 6 (36,k6) 5 (32,k5)) hp K=
 K (w3 e 10 (sI x10) 26 (sI x10) 27 (sB ((x10 != 0)))) (w3 V0 9 (34,k9) 6 (36,k6) 5 (32,k5)) hp:= by kernel_rfl
theorem F18_r6:R18 151 4 (w2 e 10 (sI x10) 6 (sR 6 0)) (upd V0 6 (36,k6)) hp K=
    (if List.length [(Value.int .i64 0),.int .i64 0,.int .u8 0,.int .u8 0,.int .u8 0,.int .u8 0,.int .u8 0,.int .u8 0,.int .u8 0,.int .u8 0,.int .u8 0,.int .u8 0,.int .u8 0,.int .u8 0,.int .u8 0,.int .u8 0,.int .u8 0,.int .u8 0,.int .i64 0,.int .u8 0,.int .u8 0,.int .u8 0,.int .u8 0,.int .i64 0,.bool false,.int .i64 0]=26 then (if List.all [(Value.int .i64 0),.int .i64 0,.int .u8 0,.int .u8 0,.int .u8 0,.int .u8 0,.int .u8 0,.int .u8 0,.int .u8 0,.int .u8 0,.int .u8 0,.int .u8 0,.int .u8 0,.int .u8 0,.int .u8 0,.int .u8 0,.int .u8 0,.int .u8 0,.int .i64 0,.int .u8 0,.int .u8 0,.int .u8 0,.int .u8 0,.int .i64 0,.bool false,.int .i64 0] one=true then (if 0+List.length [(Value.int .i64 0),.int .i64 0,.int .u8 0,.int .u8 0,.int .u8 0,.int .u8 0,.int .u8 0,.int .u8 0,.int .u8 0,.int .u8 0,.int .u8 0,.int .u8 0,.int .u8 0,.int .u8 0,.int .u8 0,.int .u8 0,.int .u8 0,.int .u8 0,.int .i64 0,.int .u8 0,.int .u8 0,.int .u8 0,.int .u8 0,.int .i64 0,.bool false,.int .i64 0]≤List.length k6 then (K (w5 e 10 (sI x10) 6 (sR 6 0) 28 (sV (.agg ⟨[.int .i64 0,.int .i64 0,.int .u8 0,.int .u8 0,.int .u8 0,.int .u8 0,.int .u8 0,.int .u8 0,.int .u8 0,.int .u8 0,.int .u8 0,.int .u8 0,.int .u8 0,.int .u8 0,.int .u8 0,.int .u8 0,.int .u8 0,.int .u8 0,.int .i64 0,.int .u8 0,.int .u8 0,.int .u8 0,.int .u8 0,.int .i64 0,.bool false,.int .i64 0]⟩)) 29 (sI x10) 7 (sI x10)) (w2 V0 6 (36,k6) 6 (36,(splice k6 0 [.int .i64 0,.int .i64 0,.int .u8 0,.int .u8 0,.int .u8 0,.int .u8 0,.int .u8 0,.int .u8 0,.int .u8 0,.int .u8 0,.int .u8 0,.int .u8 0,.int .u8 0,.int .u8 0,.int .u8 0,.int .u8 0,.int .u8 0,.int .u8 0,.int .i64 0,.int .u8 0,.int .u8 0,.int .u8 0,.int .u8 0,.int .i64 0,.bool false,.int .i64 0]))) hp) else False) else False) else False):=by kernel_rfl
theorem F18_r7 (h:E=upd (w4 e 9 (sR 9 0) 6 (sR 6 0) 5 (sR 5 0) 1 (sI x1)) 0 (sP x0)):R18 47 8 E (w3 V0 9 (34,k9) 6 (36,k6) 5 (32,k5)) hp K=
 ldL (cellsN k5 0 17) fun l1=>(ldL (cellsN k9 0 5) fun l2=>if List.length l1=17 then (if List.length l2=5 then (CF Tryd.prog 70 [(.pointer x0),(.agg ⟨(splice (splice [.int .i64 0,(.int .i64 x1),.int .u8 0,.int .u8 0,.int .u8 0,.int .u8 0,.int .u8 0,.int .u8 0,.int .u8 0,.int .u8 0,.int .u8 0,.int .u8 0,.int .u8 0,.int .u8 0,.int .u8 0,.int .u8 0,.int .u8 0,.int .u8 0,.int .i64 0,.int .u8 0,.int .u8 0,.int .u8 0,.int .u8 0,.int .i64 0,.bool false,.int .i64 0] 2 l1) 19 l2)⟩)] hp fun u3 h4=>aggV u3 fun l5=>if List.length l5=26 then (if List.all l5 one=true then (if 0+List.length l5≤List.length k6 then (K (w7 E 30 (sP x0) 31 (sI x1) 32 (sA l1) 33 (sA l2) 34 (sV (.agg ⟨(splice (splice [.int .i64 0,(.int .i64 x1),.int .u8 0,.int .u8 0,.int .u8 0,.int .u8 0,.int .u8 0,.int .u8 0,.int .u8 0,.int .u8 0,.int .u8 0,.int .u8 0,.int .u8 0,.int .u8 0,.int .u8 0,.int .u8 0,.int .u8 0,.int .u8 0,.int .i64 0,.int .u8 0,.int .u8 0,.int .u8 0,.int .u8 0,.int .i64 0,.bool false,.int .i64 0] 2 l1) 19 l2)⟩)) 35 (sA l5) 7 (sI 0)) (w4 V0 9 (34,k9) 6 (36,k6) 5 (32,k5) 6 (36,(splice k6 0 l5))) h4) else False) else False) else False) else False) else False):= by subst h; kernel_rfl
def F18 (x0:OA) (x1:Int) (x2:List Value) (hp:HP) (K:Kh):Prop:=
  (ldL (cellsN x2 0 17) fun l1=>CF Tryd.prog 68 [(.pointer x0),(.int .i64 x1),(.agg ⟨l1⟩)] hp fun u2 h3=>intV u2 .i64 fun i4=>ite2 (i4 != 0) (if List.length [(Value.int .i64 0),.int .i64 0,.int .u8 0,.int .u8 0,.int .u8 0,.int .u8 0,.int .u8 0,.int .u8 0,.int .u8 0,.int .u8 0,.int .u8 0,.int .u8 0,.int .u8 0,.int .u8 0,.int .u8 0,.int .u8 0,.int .u8 0,.int .u8 0,.int .i64 0,.int .u8 0,.int .u8 0,.int .u8 0,.int .u8 0,.int .i64 0,.bool false,.int .i64 0]=26 then (if List.all [(Value.int .i64 0),.int .i64 0,.int .u8 0,.int .u8 0,.int .u8 0,.int .u8 0,.int .u8 0,.int .u8 0,.int .u8 0,.int .u8 0,.int .u8 0,.int .u8 0,.int .u8 0,.int .u8 0,.int .u8 0,.int .u8 0,.int .u8 0,.int .u8 0,.int .i64 0,.int .u8 0,.int .u8 0,.int .u8 0,.int .u8 0,.int .i64 0,.bool false,.int .i64 0] one=true then (if 0+List.length [(Value.int .i64 0),.int .i64 0,.int .u8 0,.int .u8 0,.int .u8 0,.int .u8 0,.int .u8 0,.int .u8 0,.int .u8 0,.int .u8 0,.int .u8 0,.int .u8 0,.int .u8 0,.int .u8 0,.int .u8 0,.int .u8 0,.int .u8 0,.int .u8 0,.int .i64 0,.int .u8 0,.int .u8 0,.int .u8 0,.int .u8 0,.int .i64 0,.bool false,.int .i64 0]≤List.length [(Value.int .i64 0),.int .i64 0,.int .u8 0,.int .u8 0,.int .u8 0,.int .u8 0,.int .u8 0,.int .u8 0,.int .u8 0,.int .u8 0,.int .u8 0,.int .u8 0,.int .u8 0,.int .u8 0,.int .u8 0,.int .u8 0,.int .u8 0,.int .u8 0,.int .i64 0,.int .u8 0,.int .u8 0,.int .u8 0,.int .u8 0,.int .i64 0,.bool false,.int .i64 0] then (ldL (cellsN (splice [.int .i64 0,.int .i64 0,.int .u8 0,.int .u8 0,.int .u8 0,.int .u8 0,.int .u8 0,.int .u8 0,.int .u8 0,.int .u8 0,.int .u8 0,.int .u8 0,.int .u8 0,.int .u8 0,.int .u8 0,.int .u8 0,.int .u8 0,.int .u8 0,.int .i64 0,.int .u8 0,.int .u8 0,.int .u8 0,.int .u8 0,.int .i64 0,.bool false,.int .i64 0] 0 [.int .i64 0,.int .i64 0,.int .u8 0,.int .u8 0,.int .u8 0,.int .u8 0,.int .u8 0,.int .u8 0,.int .u8 0,.int .u8 0,.int .u8 0,.int .u8 0,.int .u8 0,.int .u8 0,.int .u8 0,.int .u8 0,.int .u8 0,.int .u8 0,.int .i64 0,.int .u8 0,.int .u8 0,.int .u8 0,.int .u8 0,.int .i64 0,.bool false,.int .i64 0]) 0 26) fun l5=>K (.tuple ⟨[(.agg ⟨l5⟩),(.int .i64 i4)]⟩) h3) else False) else False) else False) (ldL (cellsN x2 0 17) fun l6=>CF Tryd.prog 69 [(.pointer x0),(.int .i64 x1),(.agg ⟨l6⟩)] h3 fun u7 h8=>tup2V u7 fun u9 u10=>aggV u9 fun l11=>intV u10 .i64 fun i12=>if List.length l11=5 then (if List.all l11 one=true then (if 0+List.length l11≤List.length [(Value.int .u8 0),.int .u8 0,.int .u8 0,.int .u8 0,.int .i64 0] then (ite2 (i12 != 0) (if List.length [(Value.int .i64 0),.int .i64 0,.int .u8 0,.int .u8 0,.int .u8 0,.int .u8 0,.int .u8 0,.int .u8 0,.int .u8 0,.int .u8 0,.int .u8 0,.int .u8 0,.int .u8 0,.int .u8 0,.int .u8 0,.int .u8 0,.int .u8 0,.int .u8 0,.int .i64 0,.int .u8 0,.int .u8 0,.int .u8 0,.int .u8 0,.int .i64 0,.bool false,.int .i64 0]=26 then (if List.all [(Value.int .i64 0),.int .i64 0,.int .u8 0,.int .u8 0,.int .u8 0,.int .u8 0,.int .u8 0,.int .u8 0,.int .u8 0,.int .u8 0,.int .u8 0,.int .u8 0,.int .u8 0,.int .u8 0,.int .u8 0,.int .u8 0,.int .u8 0,.int .u8 0,.int .i64 0,.int .u8 0,.int .u8 0,.int .u8 0,.int .u8 0,.int .i64 0,.bool false,.int .i64 0] one=true then (if 0+List.length [(Value.int .i64 0),.int .i64 0,.int .u8 0,.int .u8 0,.int .u8 0,.int .u8 0,.int .u8 0,.int .u8 0,.int .u8 0,.int .u8 0,.int .u8 0,.int .u8 0,.int .u8 0,.int .u8 0,.int .u8 0,.int .u8 0,.int .u8 0,.int .u8 0,.int .i64 0,.int .u8 0,.int .u8 0,.int .u8 0,.int .u8 0,.int .i64 0,.bool false,.int .i64 0]≤List.length [(Value.int .i64 0),.int .i64 0,.int .u8 0,.int .u8 0,.int .u8 0,.int .u8 0,.int .u8 0,.int .u8 0,.int .u8 0,.int .u8 0,.int .u8 0,.int .u8 0,.int .u8 0,.int .u8 0,.int .u8 0,.int .u8 0,.int .u8 0,.int .u8 0,.int .i64 0,.int .u8 0,.int .u8 0,.int .u8 0,.int .u8 0,.int .i64 0,.bool false,.int .i64 0] then (ldL (cellsN (splice [.int .i64 0,.int .i64 0,.int .u8 0,.int .u8 0,.int .u8 0,.int .u8 0,.int .u8 0,.int .u8 0,.int .u8 0,.int .u8 0,.int .u8 0,.int .u8 0,.int .u8 0,.int .u8 0,.int .u8 0,.int .u8 0,.int .u8 0,.int .u8 0,.int .i64 0,.int .u8 0,.int .u8 0,.int .u8 0,.int .u8 0,.int .i64 0,.bool false,.int .i64 0] 0 [.int .i64 0,.int .i64 0,.int .u8 0,.int .u8 0,.int .u8 0,.int .u8 0,.int .u8 0,.int .u8 0,.int .u8 0,.int .u8 0,.int .u8 0,.int .u8 0,.int .u8 0,.int .u8 0,.int .u8 0,.int .u8 0,.int .u8 0,.int .u8 0,.int .i64 0,.int .u8 0,.int .u8 0,.int .u8 0,.int .u8 0,.int .i64 0,.bool false,.int .i64 0]) 0 26) fun l13=>K (.tuple ⟨[(.agg ⟨l13⟩),(.int .i64 i12)]⟩) h8) else False) else False) else False) (ldL (cellsN x2 0 17) fun l14=>ldL (cellsN (splice [.int .u8 0,.int .u8 0,.int .u8 0,.int .u8 0,.int .i64 0] 0 l11) 0 5) fun l15=>if List.length l14=17 then (if List.length l15=5 then (CF Tryd.prog 70 [(.pointer x0),(.agg ⟨(splice (splice [.int .i64 0,(.int .i64 x1),.int .u8 0,.int .u8 0,.int .u8 0,.int .u8 0,.int .u8 0,.int .u8 0,.int .u8 0,.int .u8 0,.int .u8 0,.int .u8 0,.int .u8 0,.int .u8 0,.int .u8 0,.int .u8 0,.int .u8 0,.int .u8 0,.int .i64 0,.int .u8 0,.int .u8 0,.int .u8 0,.int .u8 0,.int .i64 0,.bool false,.int .i64 0] 2 l14) 19 l15)⟩)] h8 fun u16 h17=>aggV u16 fun l18=>if List.length l18=26 then (if List.all l18 one=true then (if 0+List.length l18≤List.length [(Value.int .i64 0),.int .i64 0,.int .u8 0,.int .u8 0,.int .u8 0,.int .u8 0,.int .u8 0,.int .u8 0,.int .u8 0,.int .u8 0,.int .u8 0,.int .u8 0,.int .u8 0,.int .u8 0,.int .u8 0,.int .u8 0,.int .u8 0,.int .u8 0,.int .i64 0,.int .u8 0,.int .u8 0,.int .u8 0,.int .u8 0,.int .i64 0,.bool false,.int .i64 0] then (ldL (cellsN (splice [.int .i64 0,.int .i64 0,.int .u8 0,.int .u8 0,.int .u8 0,.int .u8 0,.int .u8 0,.int .u8 0,.int .u8 0,.int .u8 0,.int .u8 0,.int .u8 0,.int .u8 0,.int .u8 0,.int .u8 0,.int .u8 0,.int .u8 0,.int .u8 0,.int .i64 0,.int .u8 0,.int .u8 0,.int .u8 0,.int .u8 0,.int .i64 0,.bool false,.int .i64 0] 0 l18) 0 26) fun l19=>K (.tuple ⟨[(.agg ⟨l19⟩),.int .i64 0]⟩) h17) else False) else False) else False) else False) else False)) else False) else False) else False))
noncomputable abbrev o18 (k n:Nat):Code:=.region k (opsAt Tryd.f18 (pth n)) false
noncomputable def F18_code:Code:=(.seq (o18 0 2) (.seq (.seq (o18 1 9) (.seq (o18 2 21) (.cond (.tmp 16) (.seq (o18 3 77) .ret) .skip))) (.seq (o18 4 11) (.seq (.seq (o18 5 39) (.cond (.tmp 27) (.seq (o18 6 151) .ret) .skip)) (.seq (o18 7 47) .ret)))))
theorem F18_body:Tryd.f18.body=some F18_code:=by kernel_rfl
theorem F18_ok (x0:OA) (x1:Int) (x2:List Value) (hp:HP) (K:Kh) (h:F18 x0 x1 x2 hp K):CF Tryd.prog 18 [(.pointer x0),(.int .i64 x1),(.agg ⟨x2⟩)] hp K:=by
 refine .inl ⟨by kernel_rfl,AC.intro (N:=36) Tryd.func18 F18_body rfl (Nat.le_of_ble_eq_true rfl) ?_⟩
 unfold F18 at h
 refine Ar F18_r0 ?_ (r3 2 0 1 Rn) (z3 Sn) Sn
 refine Aq (Ar (F18_r1 rfl) ?_ (r2 0 1 (rp 5 5 0 (rp 6 6 0 Rn))) (z4 Sn) (z2 Sn))
 refine mL h fun l1 h=>mC h fun u2 h3 h=>mI h fun i4 h=>?_
 refine Ar F18_r2 ?_ (r3 8 0 1 (rp 5 5 0 (rp 6 6 0 Rn))) (z5 Sn) (z2 Sn)
 refine Ac h rfl (fun h=>?_) (fun h=>?_)
 ·refine Ar F18_r3 ?_ (rp 6 6 0 (r1 8 Rn)) (z2 Sn) (z1 Sn)
  refine mf h fun h=>mf h fun h=>mf h fun h=>?_
  refine AWP.ret ?_
  exact h
 ·refine AWP.skip (Ar (F18_r4 rfl) ?_ (r2 0 1 (rp 5 5 0 (rp 6 6 0 Rn))) (z4 Sn) (z2 Sn))
  refine mL h fun l6 h=>mC h fun u7 h8 h=>mT h fun u9 u10 h=>mA h fun l11 h=>mI h fun i12 h=>mf h fun h=>mf h fun h=>mf h fun h=>?_
  refine Aq (Ar F18_r5 ?_ (r3 10 0 1 (rp 5 5 0 (rp 6 6 0 (rp 9 9 0 Rn)))) (z6 Sn) (z3 Sn))
  refine Ac h rfl (fun h=>?_) (fun h=>?_)
  ·refine Ar F18_r6 ?_ (rp 6 6 0 (r1 10 Rn)) (z2 Sn) (z1 Sn)
   refine mf h fun h=>mf h fun h=>mf h fun h=>?_
   refine AWP.ret ?_
   exact h
  ·refine AWP.skip (Ar (F18_r7 rfl) ?_ (r2 0 1 (rp 5 5 0 (rp 6 6 0 (rp 9 9 0 Rn)))) (z5 Sn) (z3 Sn))
   refine mL h fun l14 h=>mL h fun l15 h=>mf h fun h=>mf h fun h=>mC h fun u16 h17 h=>mA h fun l18 h=>mf h fun h=>mf h fun h=>mf h fun h=>?_
   refine AWP.ret ?_
   exact h
end
section
variable {e E:Env} {x0:OA} {x1:Int} {x2:List Value} {x7 x9:Int} {k5 k8:List Value} {hp:HP} {K:Env→PV→HP→Prop}
abbrev R62 (p n:Nat):=RW Tryd.prog 36 [5,8] (opsAt Tryd.f62 (pth p)) (List.range n)
theorem F62_r0:R62 2 2 (upd e 2 (sA x2)) V0 hp K=
 K (w3 e 2 (sA x2) 5 (sR 5 0) 6 (sI 0)) (upd V0 5 (32,x2)) hp:= by kernel_rfl
theorem F62_r1 (h:E=upd (w2 e 5 (sR 5 0) 1 (sI x1)) 0 (sP x0)):R62 9 5 E (upd V0 5 (32,k5)) hp K=
 ldL (cellsN k5 0 17) fun l1=>(CF Tryd.prog 68 [(.pointer x0),(.int .i64 x1),(.agg ⟨l1⟩)] hp fun u2 h3=>intV u2 .i64 fun i4=>K (w5 E 10 (sP x0) 11 (sI x1) 12 (sA l1) 13 (sI i4) 7 (sI i4)) (upd V0 5 (32,k5)) h3):= by subst h; kernel_rfl
theorem F62_r2:R62 21 2 (upd e 7 (sI x7)) (upd V0 5 (32,k5)) hp K=
 K (w3 e 7 (sI x7) 14 (sI x7) 15 (sB ((x7 != 0)))) (upd V0 5 (32,k5)) hp:= by kernel_rfl
theorem F62_r3:R62 77 2 (upd e 7 (sI x7)) V0 hp K=
 K (w3 e 7 (sI x7) 16 (sI x7) 6 (sI x7)) V0 hp:= by kernel_rfl
theorem F62_r4 (h:E=upd (w2 e 5 (sR 5 0) 1 (sI x1)) 0 (sP x0)):R62 11 10 E (upd V0 5 (32,k5)) hp K=
 ldL (cellsN k5 0 17) fun l1=>(CF Tryd.prog 69 [(.pointer x0),(.int .i64 x1),(.agg ⟨l1⟩)] hp fun u2 h3=>tup2V u2 fun u4 u5=>aggV u4 fun l6=>intV u5 .i64 fun i7=>if List.length l6=5 then (if List.all l6 one=true then (if 0+List.length l6≤List.length [(Value.int .u8 0),.int .u8 0,.int .u8 0,.int .u8 0,.int .i64 0] then (K (upd (w8 E 18 (sP x0) 19 (sI x1) 20 (sA l1) 21 (sV (.tuple ⟨[(.agg ⟨l6⟩),(.int .i64 i7)]⟩)) 17 (sV (.tuple ⟨[(.agg ⟨l6⟩),(.int .i64 i7)]⟩)) 22 (sA l6) 23 (sI i7) 8 (sR 8 0)) 9 (sI i7)) (w3 V0 5 (32,k5) 8 (34,[.int .u8 0,.int .u8 0,.int .u8 0,.int .u8 0,.int .i64 0]) 8 (34,(splice [.int .u8 0,.int .u8 0,.int .u8 0,.int .u8 0,.int .i64 0] 0 l6))) h3) else False) else False) else False):= by subst h; kernel_rfl
theorem F62_r5:R62 47 2 (upd e 9 (sI x9)) V0 hp K=
 K (w3 e 9 (sI x9) 35 (sI x9) 6 (sI x9)) V0 hp:= by kernel_rfl
def F62_j1 (x9:Int) (hp:HP) (K:Kh):Prop:=
  (K (.int .i64 x9) hp)
theorem F62_r6:R62 39 2 (upd e 9 (sI x9)) (upd V0 8 (34,k8)) hp K=
 K (w3 e 9 (sI x9) 24 (sI x9) 25 (sB ((x9==0)))) (upd V0 8 (34,k8)) hp:= by kernel_rfl
theorem F62_r7 (h:E=upd (w2 e 8 (sR 8 0) 1 (sI x1)) 0 (sP x0)):R62 87 9 E (upd V0 8 (34,k8)) hp K=
    (CF Tryd.prog 73 [(.int .i64 x1)] hp fun u1 h2=>intV u1 .i64 fun i3=>ptrN x0 fun b4 o5=>(0≤i3)∧(i3<(3:Nat))∧(ldV (HP.cell h2 b4 ((o5+9)+Int.toNat i3*1)) fun v6=>ptrV v6 fun p7=>ldL (cellsN k8 0 5) fun l8=>CF Tryd.prog 74 [(.pointer p7),(.agg ⟨l8⟩)] h2 fun u9 h10=>intV u9 .i64 fun i11=>K (upd (w8 E 26 (sP x0) 27 (sI x1) 28 (sI i3) 29 (sQ b4 o5) 30 (sQ b4 (o5+9)) 31 (sQ b4 ((o5+9)+Int.toNat i3*1)) 32 (sP p7) 33 (sA l8)) 34 (sI i11)) (upd V0 8 (34,k8)) h10)):=by subst h; kernel_rfl
def F62 (x0:OA) (x1:Int) (x2:List Value) (hp:HP) (K:Kh):Prop:=
  (ldL (cellsN x2 0 17) fun l1=>CF Tryd.prog 68 [(.pointer x0),(.int .i64 x1),(.agg ⟨l1⟩)] hp fun u2 h3=>intV u2 .i64 fun i4=>ite2 (i4 != 0) (K (.int .i64 i4) h3) (ldL (cellsN x2 0 17) fun l5=>CF Tryd.prog 69 [(.pointer x0),(.int .i64 x1),(.agg ⟨l5⟩)] h3 fun u6 h7=>tup2V u6 fun u8 u9=>aggV u8 fun l10=>intV u9 .i64 fun i11=>if List.length l10=5 then (if List.all l10 one=true then (if 0+List.length l10≤List.length [(Value.int .u8 0),.int .u8 0,.int .u8 0,.int .u8 0,.int .i64 0] then (ite2 (i11==0) (CF Tryd.prog 73 [(.int .i64 x1)] h7 fun u12 h13=>intV u12 .i64 fun i14=>ptrN x0 fun b15 o16=>(0≤i14)∧(i14<(3:Nat))∧(ldV (HP.cell h13 b15 ((o16+9)+Int.toNat i14*1)) fun v17=>ptrV v17 fun p18=>ldL (cellsN (splice [.int .u8 0,.int .u8 0,.int .u8 0,.int .u8 0,.int .i64 0] 0 l10) 0 5) fun l19=>CF Tryd.prog 74 [(.pointer p18),(.agg ⟨l19⟩)] h13 fun u20 h21=>intV u20 .i64 fun i22=>F62_j1 i11 h21  K)) (F62_j1 i11 h7  K)) else False) else False) else False))
noncomputable abbrev o62 (k n:Nat):Code:=.region k (opsAt Tryd.f62 (pth n)) false
noncomputable def F62_code:Code:=(.seq (o62 0 2) (.seq (.seq (o62 1 9) (.seq (o62 2 21) (.cond (.tmp 15) (.seq (o62 3 77) .ret) .skip))) (.seq (o62 4 11) (.seq (.seq (o62 5 39) (.cond (.tmp 25) (.region 6 (opsAt Tryd.f62 (pth 87)) true) .skip)) (.seq (o62 7 47) .ret)))))
theorem F62_body:Tryd.f62.body=some F62_code:=by kernel_rfl
theorem F62_ok (x0:OA) (x1:Int) (x2:List Value) (hp:HP) (K:Kh) (h:F62 x0 x1 x2 hp K):CF Tryd.prog 62 [(.pointer x0),(.int .i64 x1),(.agg ⟨x2⟩)] hp K:=by
 refine .inl ⟨by kernel_rfl,AC.intro (N:=36) Tryd.func62 F62_body rfl (Nat.le_of_ble_eq_true rfl) ?_⟩
 unfold F62 at h
 refine Ar F62_r0 ?_ (r3 2 0 1 Rn) (z3 Sn) Sn
 refine Aq (Ar (F62_r1 rfl) ?_ (r2 0 1 (rp 5 5 0 Rn)) (z3 Sn) (z1 Sn))
 refine mL h fun l1 h=>mC h fun u2 h3 h=>mI h fun i4 h=>?_
 refine Ar F62_r2 ?_ (r3 7 0 1 (rp 5 5 0 Rn)) (z4 Sn) (z1 Sn)
 refine Ac h rfl (fun h=>?_) (fun h=>?_)
 ·refine Ar F62_r3 ?_ (r1 7 Rn) (z1 Sn) Sn
  refine AWP.ret ?_
  exact h
 ·refine AWP.skip (Ar (F62_r4 rfl) ?_ (r2 0 1 (rp 5 5 0 Rn)) (z3 Sn) (z1 Sn))
  refine mL h fun l5 h=>mC h fun u6 h7 h=>mT h fun u8 u9 h=>mA h fun l10 h=>mI h fun i11 h=>mf h fun h=>mf h fun h=>mf h fun h=>?_
  refine As (fun env pv hp=>∃ x9,Sub (upd E0 9 (sI x9)) env∧Sub V0 pv∧F62_j1 x9 hp  K) ?_ ?_
  ·refine Ar F62_r6 ?_ (r3 9 0 1 (rp 8 8 0 Rn)) (z4 Sn) (z1 Sn)
   refine Ac h rfl (fun h=>?_) (fun h=>?_)
   ·refine AWP.rgnD (by kernel_rfl) (by kernel_rfl) (F62_r7 rfl) ?_ (r2 0 1 (rp 8 8 0 (r1 9 Rn))) (z4 Sn) (z1 Sn)
    refine mC h (fun u12 h13 h=>mI h (fun i14 h=>mN h (fun b15 o16 h=>⟨h.1,h.2.1,mV h.2.2 fun v17 h=>mP h fun p18 h=>mL h fun l19 h=>mC h fun u20 h21 h=>mI h fun i22 h=>?_⟩)))
    exact ⟨_,(z1 Sn),Sn,h⟩
   ·refine AWP.skip ?_
    exact ⟨_,(z1 Sn),Sn,h⟩
  ·rintro env pv hp ⟨x9,he,hv,h⟩
   refine Ae ?_ (r1 9 Rn) he hv
   unfold F62_j1 at h
   refine Ar F62_r5 ?_ (r1 9 Rn) (z1 Sn) Sn
   refine AWP.ret ?_
   exact h
end
end Go.Proofs
