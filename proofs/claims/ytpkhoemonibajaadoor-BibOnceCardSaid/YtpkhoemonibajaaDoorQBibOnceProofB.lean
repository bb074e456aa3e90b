/- Parts of the proof of BibOnceProof: the logic of what is known of memory, functions' contracts. -/
import Derived.Test.YtpkhoemonibajaaDoorQBibOnceProofA
import Derived.Test.YtpkhoemonibajaaDoorHlAbb
import Derived.Test.YtpkhoemonibajaaDoorProg
import Derived.Sort.LotA
import Derived.Test.YtpkhoemonibajaaDoorHlRange
import Derived.Test.YtpkhoemonibajaaDoorHlMapL
import Derived.Test.YtpkhoemonibajaaDoorHlUse2
set_option linter.unusedVariables false
set_option linter.unusedSimpArgs false
set_option linter.unusedVariables false
set_option maxRecDepth 20000
namespace Go.Proofs
open Go Go.HL
section
variable {e:Env} {x0:OA} {x1:List Value} {x5:Int} {x6 x7:Bool} {k3:List Value} {hp:HP} {K:Env→PV→HP→Prop}
abbrev R74 (p n:Nat):=RW Tryd.prog 33 [3] (opsAt Tryd.f74 (pth p)) (List.range n)
theorem F74_r0:R74 2 2 (upd e 1 (sA x1)) V0 hp K=
 K (w3 e 1 (sA x1) 3 (sR 3 0) 4 (sI 0)) (upd V0 3 (34,x1)) hp:= by kernel_rfl
theorem F74_r1:R74 9 4 (w2 e 3 (sR 3 0) 0 (sP x0)) (upd V0 3 (34,k3)) hp K=
 ldL (cellsN k3 0 5) fun l1=>(CF Tryd.prog 113 [(.pointer x0),(.agg ⟨l1⟩)] hp fun u2 h3=>intV u2 .i64 fun i4=>K (w6 e 3 (sR 3 0) 0 (sP x0) 8 (sP x0) 9 (sA l1) 10 (sI i4) 5 (sI i4)) (upd V0 3 (34,k3)) h3):= by kernel_rfl
theorem F74_r2:R74 21 2 (upd e 5 (sI x5)) (upd V0 3 (34,k3)) hp K=
 K (w3 e 5 (sI x5) 11 (sI x5) 12 (sB ((x5 != 0)))) (upd V0 3 (34,k3)) hp:= by kernel_rfl
theorem F74_r3:R74 77 2 (upd e 5 (sI x5)) V0 hp K=
 K (w3 e 5 (sI x5) 13 (sI x5) 4 (sI x5)) V0 hp:= by kernel_rfl
theorem F74_r4:R74 11 11 (w2 e 3 (sR 3 0) 0 (sP x0)) (upd V0 3 (34,k3)) hp K=
 ptrN x0 fun b1 o2=>(ldV (HP.cell hp b1 (o2+3)) fun v3=>mapV v3 fun m4=>ldL (cellsN k3 0 5) fun l5=>rdS Tryd.prog (Instr.lookup 182 (.map m4) (.agg ⟨l5⟩) true) hp fun u6=>tup2V u6 fun u7 u8=>boolV u7 fun q9=>boolV u8 fun q10=>K (w5 (w8 e 3 (sR 3 0) 0 (sP x0) 15 (sP x0) 16 (sQ b1 o2) 17 (sQ b1 (o2+3)) 18 (sV (.map m4)) 19 (sA l5) 20 (sV (.tuple ⟨[(.bool q9),(.bool q10)]⟩))) 14 (sV (.tuple ⟨[(.bool q9),(.bool q10)]⟩)) 21 (sB q9) 22 (sB q10) 6 (sB q9) 7 (sB q10)) (upd V0 3 (34,k3)) hp):= by kernel_rfl
theorem F74_r5:R74 71 2 (upd e 6 (sB x6)) (upd V0 3 (34,k3)) hp K=
 K (w3 e 6 (sB x6) 24 (sB x6) 23 (sB x6)) (upd V0 3 (34,k3)) hp:= by kernel_rfl
theorem F74_r6:R74 295 1 e V0 hp K=
 K (upd e 4 (sI 11)) V0 hp:= by kernel_rfl
theorem F74_r7:R74 359 3 (upd e 7 (sB x7)) (upd V0 3 (34,k3)) hp K=
 K (w4 e 7 (sB x7) 26 (sB x7) 27 (sB ((!x7))) 25 (sB ((!x7)))) (upd V0 3 (34,k3)) hp:= by kernel_rfl
theorem F74_r8:R74 1255 1 e V0 hp K=
 K (upd e 4 (sI 4)) V0 hp:= by kernel_rfl
theorem F74_r9:R74 47 6 (w2 e 3 (sR 3 0) 0 (sP x0)) (upd V0 3 (34,k3)) hp K=
 ptrN x0 fun b1 o2=>(ldV (HP.cell hp b1 (o2+3)) fun v3=>mapV v3 fun m4=>ldL (cellsN k3 0 5) fun l5=>opS Tryd.prog (Builtin.delete_ #[182,34] 0 ⟨[(.map m4),(.agg ⟨l5⟩)]⟩) hp fun u6 h7=>K (w7 e 3 (sR 3 0) 0 (sP x0) 28 (sP x0) 29 (sQ b1 o2) 30 (sQ b1 (o2+3)) 31 (sV (.map m4)) 32 (sA l5)) (upd V0 3 (34,k3)) h7):= by kernel_rfl
theorem F74_r10:R74 95 1 e V0 hp K=
 K (upd e 4 (sI 0)) V0 hp:= by kernel_rfl
def F74 (x0:OA) (x1:List Value) (hp:HP) (K:Kh):Prop:=
  (ldL (cellsN x1 0 5) fun l1=>CF Tryd.prog 113 [(.pointer x0),(.agg ⟨l1⟩)] hp fun u2 h3=>intV u2 .i64 fun i4=>ite2 (i4 != 0) (K (.int .i64 i4) h3) (ptrN x0 fun b5 o6=>ldV (HP.cell h3 b5 (o6+3)) fun v7=>mapV v7 fun m8=>ldL (cellsN x1 0 5) fun l9=>rdS Tryd.prog (Instr.lookup 182 (.map m8) (.agg ⟨l9⟩) true) h3 fun u10=>tup2V u10 fun u11 u12=>boolV u11 fun q13=>boolV u12 fun q14=>ite2 q13 (K (.int .i64 11) h3) (ite2 (!q14) (K (.int .i64 4) h3) (ptrN x0 fun b15 o16=>ldV (HP.cell h3 b15 (o16+3)) fun v17=>mapV v17 fun m18=>ldL (cellsN x1 0 5) fun l19=>opS Tryd.prog (Builtin.delete_ #[182,34] 0 ⟨[(.map m18),(.agg ⟨l19⟩)]⟩) h3 fun u20 h21=>K (.int .i64 0) h21))))
noncomputable abbrev o74 (k n:Nat):Code:=.region k (opsAt Tryd.f74 (pth n)) false
noncomputable def F74_code:Code:=(.seq (o74 0 2) (.seq (.seq (o74 1 9) (.seq (o74 2 21) (.cond (.tmp 12) (.seq (o74 3 77) .ret) .skip))) (.seq (.region 4 (opsAt Tryd.f74 (pth 11)) true) (.seq (.block 0 (.seq (o74 5 71) (.cond (.tmp 23) (.seq (o74 6 295) .ret) (.seq (o74 7 359) (.cond (.tmp 25) (.seq (o74 8 1255) .ret) .skip))))) (.seq (.region 9 (opsAt Tryd.f74 (pth 47)) true) (.seq (o74 10 95) .ret))))))
theorem F74_body:Tryd.f74.body=some F74_code:=by kernel_rfl
theorem F74_ok (x0:OA) (x1:List Value) (hp:HP) (K:Kh) (h:F74 x0 x1 hp K):CF Tryd.prog 74 [(.pointer x0),(.agg ⟨x1⟩)] hp K:=by
 refine .inl ⟨by kernel_rfl,AC.intro (N:=33) Tryd.func74 F74_body rfl (Nat.le_of_ble_eq_true rfl) ?_⟩
 unfold F74 at h
 refine Ar F74_r0 ?_ (r2 1 0 Rn) (z2 Sn) Sn
 refine Aq (Ar F74_r1 ?_ (r1 0 (rp 3 3 0 Rn)) (z2 Sn) (z1 Sn))
 refine mL h fun l1 h=>mC h fun u2 h3 h=>mI h fun i4 h=>?_
 refine Ar F74_r2 ?_ (r2 5 0 (rp 3 3 0 Rn)) (z3 Sn) (z1 Sn)
 refine Ac h rfl (fun h=>?_) (fun h=>?_)
 ·refine Ar F74_r3 ?_ (r1 5 Rn) (z1 Sn) Sn
  refine AWP.ret ?_
  exact h
 ·refine AWP.skip (Aq (AWP.rgnD (by kernel_rfl) (by kernel_rfl) F74_r4 ?_ (r1 0 (rp 3 3 0 Rn)) (z2 Sn) (z1 Sn)))
  refine mN h fun b5 o6 h=>mV h fun v7 h=>mM h fun m8 h=>mL h fun l9 h=>mR h fun u10 h=>mT h fun u11 u12 h=>mB h fun q13 h=>mB h fun q14 h=>?_
  refine Aq (AWP.block (Ar F74_r5 ?_ (r2 6 0 (rp 3 3 0 (r1 7 Rn))) (z4 Sn) (z1 Sn)))
  refine Ac h rfl (fun h=>?_) (fun h=>?_)
  ·refine Ar F74_r6 ?_ Rn Sn Sn
   refine AWP.ret ?_
   exact h
  ·refine Ar F74_r7 ?_ (r2 7 0 (rp 3 3 0 Rn)) (z3 Sn) (z1 Sn)
   refine Ac h rfl (fun h=>?_) (fun h=>?_)
   ·refine Ar F74_r8 ?_ Rn Sn Sn
    refine AWP.ret ?_
    exact h
   ·refine AWP.skip (Aq (AWP.rgnD (by kernel_rfl) (by kernel_rfl) F74_r9 ?_ (r1 0 (rp 3 3 0 Rn)) (z2 Sn) (z1 Sn)))
    refine mN h fun b15 o16 h=>mV h fun v17 h=>mM h fun m18 h=>mL h fun l19 h=>mO h fun u20 h21 h=>?_
    refine Ar F74_r10 ?_ Rn Sn Sn
    refine AWP.ret ?_
    exact h
end
section
variable {e:Env} {x0:OA} {x1 k3:List Value} {hp:HP} {K:Env→PV→HP→Prop}
abbrev R76 (p n:Nat):=RW Tryd.prog 10 [3] (opsAt Tryd.f76 (pth p)) (List.range n)
theorem F76_r0:R76 2 2 (upd e 1 (sA x1)) V0 hp K=
 K (w3 e 1 (sA x1) 3 (sR 3 0) 4 (sB false)) (upd V0 3 (27,x1)) hp:= by kernel_rfl
theorem F76_r1:R76 5 6 (w2 e 3 (sR 3 0) 0 (sP x0)) (upd V0 3 (27,k3)) hp K=
 ldL (cellsN k3 0 4) fun l1=>(if List.length l1=4 then (CF Tryd.prog 113 [(.pointer x0),(.agg ⟨(splice [.int .u8 0,.int .u8 0,.int .u8 0,.int .u8 0,.int .i64 0] 0 l1)⟩)] hp fun u2 h3=>intV u2 .i64 fun i4=>K (w8 e 3 (sR 3 0) 0 (sP x0) 5 (sP x0) 6 (sA l1) 7 (sV (.agg ⟨(splice [.int .u8 0,.int .u8 0,.int .u8 0,.int .u8 0,.int .i64 0] 0 l1)⟩)) 8 (sI i4) 9 (sB ((i4==0))) 4 (sB ((i4==0)))) (upd V0 3 (27,k3)) h3) else False):= by kernel_rfl
def F76 (x0:OA) (x1:List Value) (hp:HP) (K:Kh):Prop:=
  (ldL (cellsN x1 0 4) fun l1=>if List.length l1=4 then (CF Tryd.prog 113 [(.pointer x0),(.agg ⟨(splice [.int .u8 0,.int .u8 0,.int .u8 0,.int .u8 0,.int .i64 0] 0 l1)⟩)] hp fun u2 h3=>intV u2 .i64 fun i4=>K (.bool (i4==0)) h3) else False)
noncomputable def F76_code:Code:=(.seq (.region 0 (opsAt Tryd.f76 (pth 2)) false) (.seq (.region 1 (opsAt Tryd.f76 (pth 5)) false) .ret))
theorem F76_body:Tryd.f76.body=some F76_code:=by kernel_rfl
theorem F76_ok (x0:OA) (x1:List Value) (hp:HP) (K:Kh) (h:F76 x0 x1 hp K):CF Tryd.prog 76 [(.pointer x0),(.agg ⟨x1⟩)] hp K:=by
 refine .inl ⟨by kernel_rfl,AC.intro (N:=10) Tryd.func76 F76_body rfl (Nat.le_of_ble_eq_true rfl) ?_⟩
 unfold F76 at h
 refine Ar F76_r0 ?_ (r2 1 0 Rn) (z2 Sn) Sn
 refine Ar F76_r1 ?_ (r1 0 (rp 3 3 0 Rn)) (z2 Sn) (z1 Sn)
 refine mL h fun l1 h=>mf h fun h=>mC h fun u2 h3 h=>mI h fun i4 h=>?_
 refine AWP.ret ?_
 exact h
end
section
variable {e E:Env} {x0:OA} {x1:List Value} {x5 x6:Bool} {k3:List Value} {hp:HP} {K:Env→PV→HP→Prop}
abbrev R77 (p n:Nat):=RW Tryd.prog 26 [3] (opsAt Tryd.f77 (pth p)) (List.range n)
theorem F77_r0:R77 2 3 (upd e 1 (sA x1)) V0 hp K=
 K (w4 e 1 (sA x1) 3 (sR 3 0) 4 (sB false) 5 (sB false)) (upd V0 3 (34,x1)) hp:= by kernel_rfl
theorem F77_r1:R77 9 4 (w2 e 3 (sR 3 0) 0 (sP x0)) (upd V0 3 (34,k3)) hp K=
 ldL (cellsN k3 0 5) fun l1=>(CF Tryd.prog 113 [(.pointer x0),(.agg ⟨l1⟩)] hp fun u2 h3=>intV u2 .i64 fun i4=>K (w6 e 3 (sR 3 0) 0 (sP x0) 7 (sP x0) 8 (sA l1) 9 (sI i4) 10 (sB ((i4 != 0)))) (upd V0 3 (34,k3)) h3):= by kernel_rfl
theorem F77_r2:R77 37 2 e V0 hp K=
 K (w2 e 4 (sB false) 5 (sB false)) V0 hp:= by kernel_rfl
theorem F77_r3:R77 11 11 (w2 e 3 (sR 3 0) 0 (sP x0)) (upd V0 3 (34,k3)) hp K=
 ptrN x0 fun b1 o2=>(ldV (HP.cell hp b1 (o2+3)) fun v3=>mapV v3 fun m4=>ldL (cellsN k3 0 5) fun l5=>rdS Tryd.prog (Instr.lookup 182 (.map m4) (.agg ⟨l5⟩) true) hp fun u6=>tup2V u6 fun u7 u8=>boolV u7 fun q9=>boolV u8 fun q10=>K (w5 (w8 e 3 (sR 3 0) 0 (sP x0) 12 (sP x0) 13 (sQ b1 o2) 14 (sQ b1 (o2+3)) 15 (sV (.map m4)) 16 (sA l5) 17 (sV (.tuple ⟨[(.bool q9),(.bool q10)]⟩))) 11 (sV (.tuple ⟨[(.bool q9),(.bool q10)]⟩)) 18 (sB q9) 19 (sB q10) 5 (sB q9) 6 (sB q10)) (upd V0 3 (34,k3)) hp):= by kernel_rfl
theorem F77_r4 (h:E=upd (upd e 6 (sB x6)) 5 (sB x5)):R77 23 8 E V0 hp K=
 ite2 x6 (K (w8 E 20 (sB x6) 21 (sB true) 22 (sB x5) 23 (sB ((!x5))) 24 (sB ((!x5))) 25 (sB x5) 4 (sB ((!x5))) 5 (sB x5)) V0 hp) (K (w8 E 20 (sB x6) 21 (sB false) 22 sU 23 sU 24 (sB false) 25 (sB x5) 4 (sB false) 5 (sB x5)) V0 hp):= by subst h; kernel_rfl
def F77 (x0:OA) (x1:List Value) (hp:HP) (K:Kh):Prop:=
  (ldL (cellsN x1 0 5) fun l1=>CF Tryd.prog 113 [(.pointer x0),(.agg ⟨l1⟩)] hp fun u2 h3=>intV u2 .i64 fun i4=>ite2 (i4 != 0) (K (.tuple ⟨[.bool false,.bool false]⟩) h3) (ptrN x0 fun b5 o6=>ldV (HP.cell h3 b5 (o6+3)) fun v7=>mapV v7 fun m8=>ldL (cellsN x1 0 5) fun l9=>rdS Tryd.prog (Instr.lookup 182 (.map m8) (.agg ⟨l9⟩) true) h3 fun u10=>tup2V u10 fun u11 u12=>boolV u11 fun q13=>boolV u12 fun q14=>ite2 q14 (K (.tuple ⟨[(.bool (!q13)),(.bool q13)]⟩) h3) (K (.tuple ⟨[.bool false,(.bool q13)]⟩) h3)))
noncomputable def F77_code:Code:=(.seq (.region 0 (opsAt Tryd.f77 (pth 2)) false) (.seq (.seq (.region 1 (opsAt Tryd.f77 (pth 9)) false) (.cond (.tmp 10) (.seq (.region 2 (opsAt Tryd.f77 (pth 37)) false) .ret) .skip)) (.seq (.region 3 (opsAt Tryd.f77 (pth 11)) true) (.seq (.region 4 (opsAt Tryd.f77 (pth 23)) false) .ret))))
theorem F77_body:Tryd.f77.body=some F77_code:=by kernel_rfl
theorem F77_ok (x0:OA) (x1:List Value) (hp:HP) (K:Kh) (h:F77 x0 x1 hp K):CF Tryd.prog 77 [(.pointer x0),(.agg ⟨x1⟩)] hp K:=by
 refine .inl ⟨by kernel_rfl,AC.intro (N:=26) Tryd.func77 F77_body rfl (Nat.le_of_ble_eq_true rfl) ?_⟩
 unfold F77 at h
 refine Ar F77_r0 ?_ (r2 1 0 Rn) (z2 Sn) Sn
 refine Aq (Ar F77_r1 ?_ (r1 0 (rp 3 3 0 Rn)) (z2 Sn) (z1 Sn))
 refine mL h fun l1 h=>mC h fun u2 h3 h=>mI h fun i4 h=>?_
 refine Ac h rfl (fun h=>?_) (fun h=>?_)
 ·refine Ar F77_r2 ?_ Rn Sn Sn
  refine AWP.ret ?_
  exact h
 ·refine AWP.skip (Aq (AWP.rgnD (by kernel_rfl) (by kernel_rfl) F77_r3 ?_ (r1 0 (rp 3 3 0 Rn)) (z2 Sn) (z1 Sn)))
  refine mN h fun b5 o6 h=>mV h fun v7 h=>mM h fun m8 h=>mL h fun l9 h=>mR h fun u10 h=>mT h fun u11 u12 h=>mB h fun q13 h=>mB h fun q14 h=>?_
  refine Ar (F77_r4 rfl) ?_ (r2 5 6 Rn) (z2 Sn) Sn
  refine mt h (fun h=>?_) (fun h=>?_)
  ·refine AWP.ret ?_
   exact h
  ·refine AWP.ret ?_
   exact h
end
section
variable {e:Env} {x0:OA} {x1:List Value} {x5:Int} {x7:Bool} {k3:List Value} {hp:HP} {K:Env→PV→HP→Prop}
abbrev R78 (p n:Nat):=RW Tryd.prog 29 [3] (opsAt Tryd.f78 (pth p)) (List.range n)
theorem F78_r0:R78 2 2 (upd e 1 (sA x1)) V0 hp K=
 K (w3 e 1 (sA x1) 3 (sR 3 0) 4 (sI 0)) (upd V0 3 (34,x1)) hp:= by kernel_rfl
theorem F78_r1:R78 9 4 (w2 e 3 (sR 3 0) 0 (sP x0)) (upd V0 3 (34,k3)) hp K=
 ldL (cellsN k3 0 5) fun l1=>(CF Tryd.prog 113 [(.pointer x0),(.agg ⟨l1⟩)] hp fun u2 h3=>intV u2 .i64 fun i4=>K (w6 e 3 (sR 3 0) 0 (sP x0) 8 (sP x0) 9 (sA l1) 10 (sI i4) 5 (sI i4)) (upd V0 3 (34,k3)) h3):= by kernel_rfl
theorem F78_r2:R78 21 2 (upd e 5 (sI x5)) (upd V0 3 (34,k3)) hp K=
 K (w3 e 5 (sI x5) 11 (sI x5) 12 (sB ((x5 != 0)))) (upd V0 3 (34,k3)) hp:= by kernel_rfl
theorem F78_r3:R78 77 2 (upd e 5 (sI x5)) V0 hp K=
 K (w3 e 5 (sI x5) 13 (sI x5) 4 (sI x5)) V0 hp:= by kernel_rfl
theorem F78_r4:R78 19 11 (w2 e 3 (sR 3 0) 0 (sP x0)) (upd V0 3 (34,k3)) hp K=
 ptrN x0 fun b1 o2=>(ldV (HP.cell hp b1 (o2+3)) fun v3=>mapV v3 fun m4=>ldL (cellsN k3 0 5) fun l5=>rdS Tryd.prog (Instr.lookup 182 (.map m4) (.agg ⟨l5⟩) true) hp fun u6=>tup2V u6 fun u7 u8=>boolV u7 fun q9=>boolV u8 fun q10=>K (w5 (w8 e 3 (sR 3 0) 0 (sP x0) 15 (sP x0) 16 (sQ b1 o2) 17 (sQ b1 (o2+3)) 18 (sV (.map m4)) 19 (sA l5) 20 (sV (.tuple ⟨[(.bool q9),(.bool q10)]⟩))) 14 (sV (.tuple ⟨[(.bool q9),(.bool q10)]⟩)) 21 (sB q9) 22 (sB q10) 6 (sB q9) 7 (sB q10)) (upd V0 3 (34,k3)) hp):= by kernel_rfl
theorem F78_r5:R78 43 1 (upd e 7 (sB x7)) (upd V0 3 (34,k3)) hp K=
 K (w2 e 7 (sB x7) 23 (sB x7)) (upd V0 3 (34,k3)) hp:= by kernel_rfl
theorem F78_r6:R78 155 1 e V0 hp K=
 K (upd e 4 (sI 5)) V0 hp:= by kernel_rfl
theorem F78_r7:R78 23 6 (w2 e 3 (sR 3 0) 0 (sP x0)) (upd V0 3 (34,k3)) hp K=
 ptrN x0 fun b1 o2=>(ldV (HP.cell hp b1 (o2+3)) fun v3=>mapV v3 fun m4=>ldL (cellsN k3 0 5) fun l5=>opS Tryd.prog (Instr.mapUpdate 182 (.map m4) (.agg ⟨l5⟩) (.bool true)) hp fun u6 h7=>K (w7 e 3 (sR 3 0) 0 (sP x0) 24 (sP x0) 25 (sQ b1 o2) 26 (sQ b1 (o2+3)) 27 (sV (.map m4)) 28 (sA l5)) (upd V0 3 (34,k3)) h7):= by kernel_rfl
theorem F78_r8:R78 47 1 e V0 hp K=
 K (upd e 4 (sI 0)) V0 hp:= by kernel_rfl
def F78 (x0:OA) (x1:List Value) (hp:HP) (K:Kh):Prop:=
  (ldL (cellsN x1 0 5) fun l1=>CF Tryd.prog 113 [(.pointer x0),(.agg ⟨l1⟩)] hp fun u2 h3=>intV u2 .i64 fun i4=>ite2 (i4 != 0) (K (.int .i64 i4) h3) (ptrN x0 fun b5 o6=>ldV (HP.cell h3 b5 (o6+3)) fun v7=>mapV v7 fun m8=>ldL (cellsN x1 0 5) fun l9=>rdS Tryd.prog (Instr.lookup 182 (.map m8) (.agg ⟨l9⟩) true) h3 fun u10=>tup2V u10 fun u11 u12=>boolV u11 fun q13=>boolV u12 fun q14=>ite2 q14 (K (.int .i64 5) h3) (ptrN x0 fun b15 o16=>ldV (HP.cell h3 b15 (o16+3)) fun v17=>mapV v17 fun m18=>ldL (cellsN x1 0 5) fun l19=>opS Tryd.prog (Instr.mapUpdate 182 (.map m18) (.agg ⟨l19⟩) (.bool true)) h3 fun u20 h21=>K (.int .i64 0) h21)))
noncomputable abbrev o78 (k n:Nat):Code:=.region k (opsAt Tryd.f78 (pth n)) false
noncomputable def F78_code:Code:=(.seq (o78 0 2) (.seq (.seq (o78 1 9) (.seq (o78 2 21) (.cond (.tmp 12) (.seq (o78 3 77) .ret) .skip))) (.seq (.seq (.region 4 (opsAt Tryd.f78 (pth 19)) true) (.seq (o78 5 43) (.cond (.tmp 23) (.seq (o78 6 155) .ret) .skip))) (.seq (.region 7 (opsAt Tryd.f78 (pth 23)) true) (.seq (o78 8 47) .ret)))))
theorem F78_body:Tryd.f78.body=some F78_code:=by kernel_rfl
theorem F78_ok (x0:OA) (x1:List Value) (hp:HP) (K:Kh) (h:F78 x0 x1 hp K):CF Tryd.prog 78 [(.pointer x0),(.agg ⟨x1⟩)] hp K:=by
 refine .inl ⟨by kernel_rfl,AC.intro (N:=29) Tryd.func78 F78_body rfl (Nat.le_of_ble_eq_true rfl) ?_⟩
 unfold F78 at h
 refine Ar F78_r0 ?_ (r2 1 0 Rn) (z2 Sn) Sn
 refine Aq (Ar F78_r1 ?_ (r1 0 (rp 3 3 0 Rn)) (z2 Sn) (z1 Sn))
 refine mL h fun l1 h=>mC h fun u2 h3 h=>mI h fun i4 h=>?_
 refine Ar F78_r2 ?_ (r2 5 0 (rp 3 3 0 Rn)) (z3 Sn) (z1 Sn)
 refine Ac h rfl (fun h=>?_) (fun h=>?_)
 ·refine Ar F78_r3 ?_ (r1 5 Rn) (z1 Sn) Sn
  refine AWP.ret ?_
  exact h
 ·refine AWP.skip (Aq (Aq (AWP.rgnD (by kernel_rfl) (by kernel_rfl) F78_r4 ?_ (r1 0 (rp 3 3 0 Rn)) (z2 Sn) (z1 Sn))))
  refine mN h fun b5 o6 h=>mV h fun v7 h=>mM h fun m8 h=>mL h fun l9 h=>mR h fun u10 h=>mT h fun u11 u12 h=>mB h fun q13 h=>mB h fun q14 h=>?_
  refine Ar F78_r5 ?_ (r2 7 0 (rp 3 3 0 Rn)) (z3 Sn) (z1 Sn)
  refine Ac h rfl (fun h=>?_) (fun h=>?_)
  ·refine Ar F78_r6 ?_ Rn Sn Sn
   refine AWP.ret ?_
   exact h
  ·refine AWP.skip (Aq (AWP.rgnD (by kernel_rfl) (by kernel_rfl) F78_r7 ?_ (r1 0 (rp 3 3 0 Rn)) (z2 Sn) (z1 Sn)))
   refine mN h fun b15 o16 h=>mV h fun v17 h=>mM h fun m18 h=>mL h fun l19 h=>mO h fun u20 h21 h=>?_
   refine Ar F78_r8 ?_ Rn Sn Sn
   refine AWP.ret ?_
   exact h
end
section
variable {e:Env} {x0:OA} {x1:List Value} {x5:Int} {k3:List Value} {hp:HP} {K:Env→PV→HP→Prop}
abbrev R79 (p n:Nat):=RW Tryd.prog 24 [3] (opsAt Tryd.f79 (pth p)) (List.range n)
theorem F79_r0:R79 2 2 (upd e 1 (sA x1)) V0 hp K=
 K (w3 e 1 (sA x1) 3 (sR 3 0) 4 (sI 0)) (upd V0 3 (34,x1)) hp:= by kernel_rfl
theorem F79_r1:R79 9 4 (w2 e 3 (sR 3 0) 0 (sP x0)) (upd V0 3 (34,k3)) hp K=
 ldL (cellsN k3 0 5) fun l1=>(CF Tryd.prog 113 [(.pointer x0),(.agg ⟨l1⟩)] hp fun u2 h3=>intV u2 .i64 fun i4=>K (w6 e 3 (sR 3 0) 0 (sP x0) 6 (sP x0) 7 (sA l1) 8 (sI i4) 5 (sI i4)) (upd V0 3 (34,k3)) h3):= by kernel_rfl
theorem F79_r2:R79 21 2 (upd e 5 (sI x5)) (upd V0 3 (34,k3)) hp K=
 K (w3 e 5 (sI x5) 9 (sI x5) 10 (sB ((x5 != 0)))) (upd V0 3 (34,k3)) hp:= by kernel_rfl
theorem F79_r3:R79 77 2 (upd e 5 (sI x5)) V0 hp K=
 K (w3 e 5 (sI x5) 11 (sI x5) 4 (sI x5)) V0 hp:= by kernel_rfl
theorem F79_r4:R79 19 7 (w2 e 3 (sR 3 0) 0 (sP x0)) (upd V0 3 (34,k3)) hp K=
 ptrN x0 fun b1 o2=>(ldV (HP.cell hp b1 (o2+3)) fun v3=>mapV v3 fun m4=>ldL (cellsN k3 0 5) fun l5=>rdS Tryd.prog (Instr.lookup 182 (.map m4) (.agg ⟨l5⟩) false) hp fun u6=>boolV u6 fun q7=>K (upd (w8 e 3 (sR 3 0) 0 (sP x0) 12 (sP x0) 13 (sQ b1 o2) 14 (sQ b1 (o2+3)) 15 (sV (.map m4)) 16 (sA l5) 17 (sB q7)) 18 (sB ((!q7)))) (upd V0 3 (34,k3)) hp):= by kernel_rfl
theorem F79_r5:R79 75 1 e V0 hp K=
 K (upd e 4 (sI 4)) V0 hp:= by kernel_rfl
theorem F79_r6:R79 23 6 (w2 e 3 (sR 3 0) 0 (sP x0)) (upd V0 3 (34,k3)) hp K=
 ptrN x0 fun b1 o2=>(ldV (HP.cell hp b1 (o2+3)) fun v3=>mapV v3 fun m4=>ldL (cellsN k3 0 5) fun l5=>opS Tryd.prog (Builtin.delete_ #[182,34] 0 ⟨[(.map m4),(.agg ⟨l5⟩)]⟩) hp fun u6 h7=>K (w7 e 3 (sR 3 0) 0 (sP x0) 19 (sP x0) 20 (sQ b1 o2) 21 (sQ b1 (o2+3)) 22 (sV (.map m4)) 23 (sA l5)) (upd V0 3 (34,k3)) h7):= by kernel_rfl
theorem F79_r7:R79 47 1 e V0 hp K=
 K (upd e 4 (sI 0)) V0 hp:= by kernel_rfl
def F79 (x0:OA) (x1:List Value) (hp:HP) (K:Kh):Prop:=
  (ldL (cellsN x1 0 5) fun l1=>CF Tryd.prog 113 [(.pointer x0),(.agg ⟨l1⟩)] hp fun u2 h3=>intV u2 .i64 fun i4=>ite2 (i4 != 0) (K (.int .i64 i4) h3) (ptrN x0 fun b5 o6=>ldV (HP.cell h3 b5 (o6+3)) fun v7=>mapV v7 fun m8=>ldL (cellsN x1 0 5) fun l9=>rdS Tryd.prog (Instr.lookup 182 (.map m8) (.agg ⟨l9⟩) false) h3 fun u10=>boolV u10 fun q11=>ite2 (!q11) (K (.int .i64 4) h3) (ptrN x0 fun b12 o13=>ldV (HP.cell h3 b12 (o13+3)) fun v14=>mapV v14 fun m15=>ldL (cellsN x1 0 5) fun l16=>opS Tryd.prog (Builtin.delete_ #[182,34] 0 ⟨[(.map m15),(.agg ⟨l16⟩)]⟩) h3 fun u17 h18=>K (.int .i64 0) h18)))
noncomputable abbrev o79 (k n:Nat):Code:=.region k (opsAt Tryd.f79 (pth n)) false
noncomputable def F79_code:Code:=(.seq (o79 0 2) (.seq (.seq (o79 1 9) (.seq (o79 2 21) (.cond (.tmp 10) (.seq (o79 3 77) .ret) .skip))) (.seq (.seq (.region 4 (opsAt Tryd.f79 (pth 19)) true) (.cond (.tmp 18) (.seq (o79 5 75) .ret) .skip)) (.seq (.region 6 (opsAt Tryd.f79 (pth 23)) true) (.seq (o79 7 47) .ret)))))
theorem F79_body:Tryd.f79.body=some F79_code:=by kernel_rfl
theorem F79_ok (x0:OA) (x1:List Value) (hp:HP) (K:Kh) (h:F79 x0 x1 hp K):CF Tryd.prog 79 [(.pointer x0),(.agg ⟨x1⟩)] hp K:=by
 refine .inl ⟨by kernel_rfl,AC.intro (N:=24) Tryd.func79 F79_body rfl (Nat.le_of_ble_eq_true rfl) ?_⟩
 unfold F79 at h
 refine Ar F79_r0 ?_ (r2 1 0 Rn) (z2 Sn) Sn
 refine Aq (Ar F79_r1 ?_ (r1 0 (rp 3 3 0 Rn)) (z2 Sn) (z1 Sn))
 refine mL h fun l1 h=>mC h fun u2 h3 h=>mI h fun i4 h=>?_
 refine Ar F79_r2 ?_ (r2 5 0 (rp 3 3 0 Rn)) (z3 Sn) (z1 Sn)
 refine Ac h rfl (fun h=>?_) (fun h=>?_)
 ·refine Ar F79_r3 ?_ (r1 5 Rn) (z1 Sn) Sn
  refine AWP.ret ?_
  exact h
 ·refine AWP.skip (Aq (Aq (AWP.rgnD (by kernel_rfl) (by kernel_rfl) F79_r4 ?_ (r1 0 (rp 3 3 0 Rn)) (z2 Sn) (z1 Sn))))
  refine mN h fun b5 o6 h=>mV h fun v7 h=>mM h fun m8 h=>mL h fun l9 h=>mR h fun u10 h=>mB h fun q11 h=>?_
  refine Ac h rfl (fun h=>?_) (fun h=>?_)
  ·refine Ar F79_r5 ?_ Rn Sn Sn
   refine AWP.ret ?_
   exact h
  ·refine AWP.skip (Aq (AWP.rgnD (by kernel_rfl) (by kernel_rfl) F79_r6 ?_ (r1 0 (rp 3 3 0 Rn)) (z2 Sn) (z1 Sn)))
   refine mN h fun b12 o13 h=>mV h fun v14 h=>mM h fun m15 h=>mL h fun l16 h=>mO h fun u17 h18 h=>?_
   refine Ar F79_r7 ?_ Rn Sn Sn
   refine AWP.ret ?_
   exact h
end
section
variable {e E:Env} {x0:OA} {x3:Int} {x34:Value} {k4:List Value} {hp:HP} {K:Env→PV→HP→Prop}
abbrev R80 (p n:Nat):=RW Tryd.prog 58 [4,39,47] (opsAt Tryd.f80 (pth p)) (List.range n)
theorem F80_r0:R80 2 1 e V0 hp K=
 K (upd e 2 (sI 0)) V0 hp:= by kernel_rfl
theorem F80_r1:R80 37 1 e V0 hp K=
 K (upd e 2 (sI 0)) V0 hp:= by kernel_rfl
theorem F80_r2:R80 11 17 (upd e 0 (sP x0)) V0 hp K=
 ptrN x0 fun b1 o2=>(ldV (HP.cell hp b1 (o2+0)) fun v3=>slcV v3 fun a4 n5 c6=>ptrN x0 fun b7 o8=>ldV (HP.cell hp b7 (o8+2)) fun v9=>intV v9 .i64 fun i10=>ptrN x0 fun b11 o12=>ldV (HP.cell hp b11 (o12+1)) fun v13=>intV v13 .i64 fun i14=>K (w2 (w8 (w8 e 0 (sP x0) 14 (sP x0) 15 (sQ b1 o2) 16 (sQ b1 (o2+0)) 17 (sS a4 n5 c6) 18 (sI ((n5:Nat))) 19 (sP x0) 20 (sQ b7 o8)) 21 (sQ b7 (o8+2)) 22 (sI i10) 23 (sP x0) 24 (sQ b11 o12) 25 (sQ b11 (o12+1)) 26 (sI i14) 27 (sI ((wr (i10-i14)))) 28 (sI ((wr ((wr (i10-i14))+1))))) 29 (sI ((wr ((n5:Nat)*(wr ((wr (i10-i14))+1)))))) 3 (sI ((wr ((n5:Nat)*(wr ((wr (i10-i14))+1))))))) V0 hp):= by kernel_rfl
theorem F80_r3:R80 47 2 (upd e 3 (sI x3)) V0 hp K=
 K (w3 e 3 (sI x3) 57 (sI x3) 2 (sI x3)) V0 hp:= by kernel_rfl
def F80_j2 (x3:Int) (hp:HP) (K:Kh):Prop:=
  (K (.int .i64 x3) hp)
theorem F80_r4:R80 279 2 (upd e 34 (sV x34)) V0 hp K=
 opS Tryd.prog (Instr.next x34 false 0) hp fun u1 h2=>(tupI u1 0 fun v3=>boolV v3 fun q4=>K (w3 e 34 (sV x34) 35 (sV u1) 36 (sB q4)) V0 h2):= by kernel_rfl
theorem F80_r5:R80 2455 4 (upd e 34 (sV x34)) V0 hp K=
    (rdS Tryd.prog (Instr.entry x34) hp fun u1=>tupI u1 0 fun v2=>aggV v2 fun l3=>if List.length l3=5 then (if List.all l3 one=true then (if 0+List.length l3≤List.length [(Value.int .u8 0),.int .u8 0,.int .u8 0,.int .u8 0,.int .i64 0] then (K (w4 e 34 (sV x34) 37 (sV u1) 38 (sA l3) 4 (sR 4 0)) (w2 V0 4 (34,[.int .u8 0,.int .u8 0,.int .u8 0,.int .u8 0,.int .i64 0]) 4 (34,(splice [.int .u8 0,.int .u8 0,.int .u8 0,.int .u8 0,.int .i64 0] 0 l3))) hp) else False) else False) else False):=by kernel_rfl
theorem F80_r6:R80 11671 3 (upd e 3 (sI x3)) V0 hp K=
 K (w4 e 3 (sI x3) 55 (sI x3) 56 (sI ((wr (x3-1)))) 3 (sI ((wr (x3-1))))) V0 hp:= by kernel_rfl
def F80_j5 (x0:OA) (x3:Int) (x34:Value) (x54:Bool) (hp:HP) (I4:(Int)→HP→Prop) (K:Kh):Prop:=
  (ite2 x54 (I4 (IntKind.wrap .i64 (x3-1)) hp) (I4 x3 hp))
theorem F80_r7 (h:E=upd (upd e 4 (sR 4 0)) 0 (sP x0)):R80 5527 16 E (upd V0 4 (34,k4)) hp K=
 ldV (k4)[4]? fun v1=>(intV v1 .i64 fun i2=>ptrN x0 fun b3 o4=>ldV (HP.cell hp b3 (o4+1)) fun v5=>intV v5 .i64 fun i6=>ite2 (decide (i2≥i6)) (ldV (k4)[4]? fun v7=>intV v7 .i64 fun i8=>ptrN x0 fun b9 o10=>ldV (HP.cell hp b9 (o10+2)) fun v11=>intV v11 .i64 fun i12=>K (w8 (w8 E 39 (sR 4 4) 40 (sI i2) 41 (sP x0) 42 (sQ b3 o4) 43 (sQ b3 (o4+1)) 44 (sI i6) 45 (sB (decide (i2≥i6))) 46 (sB true)) 47 (sR 4 4) 48 (sI i8) 49 (sP x0) 50 (sQ b9 o10) 51 (sQ b9 (o10+2)) 52 (sI i12) 53 (sB (decide (i8≤i12))) 54 (sB (decide (i8≤i12)))) (upd V0 4 (34,k4)) hp) (K (w8 (w8 E 39 (sR 4 4) 40 (sI i2) 41 (sP x0) 42 (sQ b3 o4) 43 (sQ b3 (o4+1)) 44 (sI i6) 45 (sB (decide (i2≥i6))) 46 (sB false)) 47 sU 48 sU 49 sU 50 sU 51 sU 52 sU 53 sU 54 (sB false)) (upd V0 4 (34,k4)) hp)):= by subst h; kernel_rfl
def F80_l4 (x0:OA) (x34:Value) (K:Kh) (I4:(Int)→HP→Prop) (x3:Int) (hp:HP):Prop:=
  (opS Tryd.prog (Instr.next x34 false 0) hp fun u15 h16=>tupI u15 0 fun v17=>boolV v17 fun q18=>ite2 q18 (rdS Tryd.prog (Instr.entry x34) h16 fun u19=>tupI u19 0 fun v20=>aggV v20 fun l21=>if List.length l21=5 then (if List.all l21 one=true then (if 0+List.length l21≤List.length [(Value.int .u8 0),.int .u8 0,.int .u8 0,.int .u8 0,.int .i64 0] then (ldV ((splice [.int .u8 0,.int .u8 0,.int .u8 0,.int .u8 0,.int .i64 0] 0 l21))[4]? fun v22=>intV v22 .i64 fun i23=>ptrN x0 fun b24 o25=>ldV (HP.cell h16 b24 (o25+1)) fun v26=>intV v26 .i64 fun i27=>ite2 (decide (i23≥i27)) (ldV ((splice [.int .u8 0,.int .u8 0,.int .u8 0,.int .u8 0,.int .i64 0] 0 l21))[4]? fun v28=>intV v28 .i64 fun i29=>ptrN x0 fun b30 o31=>ldV (HP.cell h16 b30 (o31+2)) fun v32=>intV v32 .i64 fun i33=>F80_j5 x0 x3 x34 (decide (i29≤i33)) h16 I4 K) (F80_j5 x0 x3 x34 false h16 I4 K)) else False) else False) else False) (F80_j2 x3 h16  K))
def F80_j3 (x0:OA) (x3:Int) (x34:Value) (hp:HP) (K:Kh):Prop:=
  (LoopP (σ:=Int) (fun I s hp=>F80_l4 x0 x34  K I s hp) x3 hp)
theorem F80_r8:R80 39 5 (upd e 0 (sP x0)) V0 hp K=
 ptrN x0 fun b1 o2=>(ldV (HP.cell hp b1 (o2+3)) fun v3=>mapV v3 fun m4=>opS Tryd.prog (Instr.range 182 (.map m4)) hp fun u5 h6=>K (w6 e 0 (sP x0) 30 (sP x0) 31 (sQ b1 o2) 32 (sQ b1 (o2+3)) 33 (sV (.map m4)) 34 (sV u5)) V0 h6):= by kernel_rfl
def F80_j1 (x0:OA) (x13:Bool) (hp:HP) (K:Kh):Prop:=
  (ite2 x13 (K (.int .i64 0) hp) (ptrN x0 fun b1 o2=>ldV (HP.cell hp b1 (o2+0)) fun v3=>slcV v3 fun a4 n5 c6=>ptrN x0 fun b7 o8=>ldV (HP.cell hp b7 (o8+2)) fun v9=>intV v9 .i64 fun i10=>ptrN x0 fun b11 o12=>ldV (HP.cell hp b11 (o12+1)) fun v13=>intV v13 .i64 fun i14=>ptrN x0 fun b34 o35=>ldV (HP.cell hp b34 (o35+3)) fun v36=>mapV v36 fun m37=>opS Tryd.prog (Instr.range 182 (.map m37)) hp fun u38 h39=>F80_j3 x0 (IntKind.wrap .i64 ((n5:Nat)*(IntKind.wrap .i64 ((IntKind.wrap .i64 (i10-i14))+1)))) u38 h39  K))
theorem F80_r9:R80 9 9 (upd e 0 (sP x0)) V0 hp K=
 ite2 (Option.isNone x0) (K (w2 (w8 e 0 (sP x0) 5 (sP x0) 6 (sB ((Option.isNone x0))) 7 (sB true) 8 sU 9 sU 10 sU 11 sU) 12 sU 13 (sB true)) V0 hp) (ptrN x0 fun b1 o2=>ldV (HP.cell hp b1 (o2+3)) fun v3=>mapV v3 fun m4=>K (w2 (w8 e 0 (sP x0) 5 (sP x0) 6 (sB ((Option.isNone x0))) 7 (sB false) 8 (sP x0) 9 (sQ b1 o2) 10 (sQ b1 (o2+3)) 11 (sV (.map m4))) 12 (sB ((Option.isNone m4))) 13 (sB ((Option.isNone m4)))) V0 hp):= by kernel_rfl
def F80 (x0:OA) (hp:HP) (K:Kh):Prop:=
  (ite2 (Option.isNone x0) (F80_j1 x0 true hp  K) (ptrN x0 fun b40 o41=>ldV (HP.cell hp b40 (o41+3)) fun v42=>mapV v42 fun m43=>F80_j1 x0 (Option.isNone m43) hp  K))
noncomputable abbrev o80 (k n:Nat):Code:=.region k (opsAt Tryd.f80 (pth n)) false
noncomputable def F80_code:Code:=(.seq (o80 0 2) (.seq (.seq (o80 1 9) (.cond (.tmp 13) (.seq (o80 2 37) .ret) .skip)) (.seq (.region 3 (opsAt Tryd.f80 (pth 11)) true) (.seq (.seq (o80 4 39) (.block 0 (.loop (.seq (o80 5 279) (.seq (.cond (.tmp 36) .skip (.exit 0)) (.block 1 (.seq (o80 6 2455) (.seq (.region 7 (opsAt Tryd.f80 (pth 5527)) true) (.cond (.tmp 54) (o80 8 11671) .skip))))))))) (.seq (o80 9 47) .ret)))))
theorem F80_body:Tryd.f80.body=some F80_code:=by kernel_rfl
theorem F80_ok (x0:OA) (hp:HP) (K:Kh) (h:F80 x0 hp K):CF Tryd.prog 80 [(.pointer x0)] hp K:=by
 refine .inl ⟨by kernel_rfl,AC.intro (N:=58) Tryd.func80 F80_body rfl (Nat.le_of_ble_eq_true rfl) ?_⟩
 unfold F80 at h
 refine Ar F80_r0 ?_ (r1 0 Rn) (z1 Sn) Sn
 refine Aq (As (fun env pv hp=>∃ x0 x13,Sub (w2 E0 13 (sB x13) 0 (sP x0)) env∧Sub V0 pv∧F80_j1 x0 x13 hp  K) ?_ ?_)
 ·refine Ag F80_r9 ?_ (r1 0 Rn) (z1 Sn) Sn
  refine mt h (fun h=>?_) (fun h=>?_)
  ·exact ⟨_,_,(z2 Sn),Sn,h⟩
  ·refine mN h fun b40 o41 h=>mV h fun v42 h=>mM h fun m43 h=>?_
   exact ⟨_,_,(z2 Sn),Sn,h⟩
 ·rintro env pv hp ⟨x0,x13,he,hv,h⟩
  refine Ae ?_ (r2 0 13 Rn) he hv
  unfold F80_j1 at h
  refine Ac h rfl (fun h=>?_) (fun h=>?_)
  ·refine Ar F80_r1 ?_ Rn Sn Sn
   refine AWP.ret ?_
   exact h
  ·refine AWP.skip (Aq (AWP.rgnD (by kernel_rfl) (by kernel_rfl) F80_r2 ?_ (r1 0 Rn) (z1 Sn) Sn))
   refine mN h fun b1 o2 h=>mV h fun v3 h=>mS h fun a4 n5 c6 h=>mN h fun b7 o8 h=>mV h fun v9 h=>mI h fun i10 h=>mN h fun b11 o12 h=>mV h fun v13 h=>mI h fun i14 h=>?_
   refine As (fun env pv hp=>∃ x3,Sub (upd E0 3 (sI x3)) env∧Sub V0 pv∧F80_j2 x3 hp  K) ?_ ?_
   ·refine As (fun env pv hp=>∃ x0 x3 x34,Sub (w3 E0 34 (sV x34) 3 (sI x3) 0 (sP x0)) env∧Sub V0 pv∧F80_j3 x0 x3 x34 hp  K) ?_ ?_
    ·refine Ag F80_r8 ?_ (r2 0 3 Rn) (z2 Sn) Sn
     refine mN h fun b34 o35 h=>mV h fun v36 h=>mM h fun m37 h=>mO h fun u38 h39 h=>?_
     exact ⟨_,_,_,(z3 Sn),Sn,h⟩
    ·rintro env pv hp ⟨x0,x3,x34,he,hv,h⟩
     refine Ae ?_ (r3 0 3 34 Rn) he hv
     unfold F80_j3 at h
     refine AWP.block (AWP.loop (σ:=Int) _ (fun s=>w3 E0 34 (sV x34) 3 (sI s) 0 (sP x0)) (fun s=>V0) x3 h (fun s=>r3 0 3 34 Rn) (z3 Sn) Sn ?_)
     intro I4 x3 hp h
     replace h:F80_l4 x0 x34  K I4 x3 hp:=h
     unfold F80_l4 at h
     refine Ar F80_r4 ?_ (r3 34 0 3 Rn) (z3 Sn) Sn
     refine mO h fun u15 h16 h=>tupI_mono h fun v17 h=>mB h fun q18 h=>?_
     refine Aq (Ac h rfl (fun h=>?_) (fun h=>?_))
     ·refine AWP.skip (AWP.block (Ar F80_r5 ?_ (r3 34 0 3 Rn) (z3 Sn) Sn))
      refine mR h fun u19 h=>tupI_mono h fun v20 h=>mA h fun l21 h=>mf h fun h=>mf h fun h=>mf h fun h=>?_
      refine As (fun env pv hp=>∃ x3 x54,Sub (w4 E0 54 (sB x54) 34 (sV x34) 3 (sI x3) 0 (sP x0)) env∧Sub V0 pv∧F80_j5 x0 x3 x34 x54 hp I4 K) ?_ ?_
      ·refine AWP.rgnD (by kernel_rfl) (by kernel_rfl) (F80_r7 rfl) ?_ (r1 0 (rp 4 4 0 (r2 3 34 Rn))) (z4 Sn) (z1 Sn)
       refine mV h fun v22 h=>mI h fun i23 h=>mN h fun b24 o25 h=>mV h fun v26 h=>mI h fun i27 h=>?_
       refine mt h (fun h=>?_) (fun h=>?_)
       ·refine mV h fun v28 h=>mI h fun i29 h=>mN h fun b30 o31 h=>mV h fun v32 h=>mI h fun i33 h=>?_
        exact ⟨_,_,(z4 Sn),Sn,h⟩
       ·exact ⟨_,_,(z4 Sn),Sn,h⟩
      ·rintro env pv hp ⟨x3,x54,he,hv,h⟩
       refine Ae ?_ (r4 0 3 34 54 Rn) he hv
       unfold F80_j5 at h
       refine Ac h rfl (fun h=>?_) (fun h=>?_)
       ·refine Ag F80_r6 ?_ (r3 3 0 34 Rn) (z3 Sn) Sn
        exact ⟨_,(z3 Sn),Sn,h⟩
       ·refine AWP.skip ?_
        exact ⟨_,(z3 Sn),Sn,h⟩
     ·refine AWP.exit ?_
      exact ⟨_,(z1 Sn),Sn,h⟩
   ·rintro env pv hp ⟨x3,he,hv,h⟩
    refine Ae ?_ (r1 3 Rn) he hv
    unfold F80_j2 at h
    refine Ar F80_r3 ?_ (r1 3 Rn) (z1 Sn) Sn
    refine AWP.ret ?_
    exact h
end
section
variable {e E:Env} {x0:OA} {x1 k3:List Value} {hp:HP} {K:Env→PV→HP→Prop}
abbrev R113 (p n:Nat):=RW Tryd.prog 30 [3,16,25] (opsAt Tryd.f113 (pth p)) (List.range n)
theorem F113_r0:R113 2 2 (upd e 1 (sA x1)) V0 hp K=
 K (w3 e 1 (sA x1) 3 (sR 3 0) 4 (sI 0)) (upd V0 3 (34,x1)) hp:= by kernel_rfl
theorem F113_r1:R113 73 1 e V0 hp K=
 K (upd e 4 (sI 2)) V0 hp:= by kernel_rfl
theorem F113_r2:R113 313 1 e V0 hp K=
 K (upd e 4 (sI 1)) V0 hp:= by kernel_rfl
theorem F113_r3:R113 11 1 e V0 hp K=
 K (upd e 4 (sI 0)) V0 hp:= by kernel_rfl
def F113_j2 (x15:Bool) (hp:HP) (K:Kh):Prop:=
  (ite2 x15 (K (.int .i64 1) hp) (K (.int .i64 0) hp))
theorem F113_r4 (h:E=upd (upd e 3 (sR 3 0)) 0 (sP x0)):R113 89 15 E (upd V0 3 (34,k3)) hp K=
 ldV (k3)[4]? fun v1=>(intV v1 .i64 fun i2=>CF Tryd.prog 106 [(.int .i64 i2)] hp fun u3 h4=>boolV u3 fun q5=>ite2 (!q5) (K (w7 (w8 E 16 (sR 3 4) 17 (sI i2) 18 (sB q5) 19 (sB ((!q5))) 20 (sB true) 21 sU 22 sU 23 sU) 24 sU 25 sU 26 sU 27 sU 28 sU 29 (sB true) 15 (sB true)) (upd V0 3 (34,k3)) h4) (ptrN x0 fun b6 o7=>ldV (HP.cell h4 b6 (o7+0)) fun v8=>slcV v8 fun a9 n10 c11=>ldL (cellsN k3 0 4) fun l12=>CF Tryd.prog 108 [(.slice a9 n10 c11),(.agg ⟨l12⟩)] h4 fun u13 h14=>boolV u13 fun q15=>K (w7 (w8 E 16 (sR 3 4) 17 (sI i2) 18 (sB q5) 19 (sB ((!q5))) 20 (sB false) 21 (sP x0) 22 (sQ b6 o7) 23 (sQ b6 (o7+0))) 24 (sS a9 n10 c11) 25 (sR 3 0) 26 (sA l12) 27 (sB q15) 28 (sB ((!q15))) 29 (sB ((!q15))) 15 (sB ((!q15)))) (upd V0 3 (34,k3)) h14)):= by subst h; kernel_rfl
def F113_j1 (x0:OA) (x5:Bool) (k3:List Value) (hp:HP) (K:Kh):Prop:=
  (ite2 x5 (K (.int .i64 2) hp) (ldV (k3)[4]? fun v1=>intV v1 .i64 fun i2=>CF Tryd.prog 106 [(.int .i64 i2)] hp fun u3 h4=>boolV u3 fun q5=>ite2 (!q5) (F113_j2 true h4  K) (ptrN x0 fun b6 o7=>ldV (HP.cell h4 b6 (o7+0)) fun v8=>slcV v8 fun a9 n10 c11=>ldL (cellsN k3 0 4) fun l12=>CF Tryd.prog 108 [(.slice a9 n10 c11),(.agg ⟨l12⟩)] h4 fun u13 h14=>boolV u13 fun q15=>F113_j2 (!q15) h14  K)))
theorem F113_r5:R113 17 10 (upd e 0 (sP x0)) (upd V0 3 (34,k3)) hp K=
 ite2 (Option.isNone x0) (K (w3 (w8 e 0 (sP x0) 6 (sP x0) 7 (sB ((Option.isNone x0))) 8 (sB true) 9 sU 10 sU 11 sU 12 sU) 13 sU 14 (sB true) 5 (sB true)) (upd V0 3 (34,k3)) hp) (ptrN x0 fun b1 o2=>ldV (HP.cell hp b1 (o2+3)) fun v3=>mapV v3 fun m4=>K (w3 (w8 e 0 (sP x0) 6 (sP x0) 7 (sB ((Option.isNone x0))) 8 (sB false) 9 (sP x0) 10 (sQ b1 o2) 11 (sQ b1 (o2+3)) 12 (sV (.map m4))) 13 (sB ((Option.isNone m4))) 14 (sB ((Option.isNone m4))) 5 (sB ((Option.isNone m4)))) (upd V0 3 (34,k3)) hp):= by kernel_rfl
def F113 (x0:OA) (x1:List Value) (hp:HP) (K:Kh):Prop:=
  (ite2 (Option.isNone x0) (F113_j1 x0 true x1 hp  K) (ptrN x0 fun b16 o17=>ldV (HP.cell hp b16 (o17+3)) fun v18=>mapV v18 fun m19=>F113_j1 x0 (Option.isNone m19) x1 hp  K))
noncomputable abbrev o113 (k n:Nat):Code:=.region k (opsAt Tryd.f113 (pth n)) false
noncomputable def F113_code:Code:=(.seq (o113 0 2) (.seq (.block 0 (.seq (o113 1 17) (.cond (.tmp 5) (.seq (o113 2 73) .ret) (.seq (.region 3 (opsAt Tryd.f113 (pth 89)) true) (.cond (.tmp 15) (.seq (o113 4 313) .ret) .skip))))) (.seq (o113 5 11) .ret)))
theorem F113_body:Tryd.f113.body=some F113_code:=by kernel_rfl
theorem F113_ok (x0:OA) (x1:List Value) (hp:HP) (K:Kh) (h:F113 x0 x1 hp K):CF Tryd.prog 113 [(.pointer x0),(.agg ⟨x1⟩)] hp K:=by
 refine .inl ⟨by kernel_rfl,AC.intro (N:=30) Tryd.func113 F113_body rfl (Nat.le_of_ble_eq_true rfl) ?_⟩
 unfold F113 at h
 refine Ar F113_r0 ?_ (r2 1 0 Rn) (z2 Sn) Sn
 refine Aq (AWP.block (As (fun env pv hp=>∃ x0 x5 k3,Sub (w3 E0 5 (sB x5) 3 (sR 3 0) 0 (sP x0)) env∧Sub (upd V0 3 (34,k3)) pv∧(F113_j1 x0 x5 k3 hp  K)) ?_ ?_))
 ·refine Ag F113_r5 ?_ (r1 0 (rp 3 3 0 Rn)) (z2 Sn) (z1 Sn)
  refine mt h (fun h=>?_) (fun h=>?_)
  ·exact ⟨_,_,_,(z3 Sn),(z1 Sn),h⟩
  ·refine mN h fun b16 o17 h=>mV h fun v18 h=>mM h fun m19 h=>?_
   exact ⟨_,_,_,(z3 Sn),(z1 Sn),h⟩
 ·rintro env pv hp ⟨x0,x5,k3,he,hv,h⟩
  refine Ae ?_ (r1 0 (rp 3 3 0 (r1 5 Rn))) he hv
  unfold F113_j1 at h
  refine Ac h rfl (fun h=>?_) (fun h=>?_)
  ·refine Ar F113_r1 ?_ Rn Sn Sn
   refine AWP.ret ?_
   exact h
  ·refine As (fun env pv hp=>∃ x15,Sub (upd E0 15 (sB x15)) env∧Sub V0 pv∧F113_j2 x15 hp  K) ?_ ?_
   ·refine AWP.rgnD (by kernel_rfl) (by kernel_rfl) (F113_r4 rfl) ?_ (r1 0 (rp 3 3 0 Rn)) (z2 Sn) (z1 Sn)
    refine mV h fun v1 h=>mI h fun i2 h=>mC h fun u3 h4 h=>mB h fun q5 h=>?_
    refine mt h (fun h=>?_) (fun h=>?_)
    ·exact ⟨_,(z1 Sn),Sn,h⟩
    ·refine mN h fun b6 o7 h=>mV h fun v8 h=>mS h fun a9 n10 c11 h=>mL h fun l12 h=>mC h fun u13 h14 h=>mB h fun q15 h=>?_
     exact ⟨_,(z1 Sn),Sn,h⟩
   ·rintro env pv hp ⟨x15,he,hv,h⟩
    refine Ae ?_ (r1 15 Rn) he hv
    unfold F113_j2 at h
    refine Ac h rfl (fun h=>?_) (fun h=>?_)
    ·refine Ar F113_r2 ?_ Rn Sn Sn
     refine AWP.ret ?_
     exact h
    ·refine AWP.skip (Ar F113_r3 ?_ Rn Sn Sn)
     refine AWP.ret ?_
     exact h
end
end Go.Proofs
set_option linter.unusedVariables false
set_option maxRecDepth 20000
namespace Go.Proofs
open Go Go.HL
def mayQ (l:List Q) (t:Q × Int):Int:=if isPort t.2∧t.1∈l then 0 else 1
theorem C113 {p m:Nat} {l:List Q} {low high:Int} {held} {t:Q × Int} {hp:HP} {K:Value→HP→Prop} (hr:PoolR hp p l low high held m) (hlen:l.length≤4)
    (h:K (.int .i64 (mayQ l t)) hp):CF Tryd.prog 113 [ptr p 0,.agg ⟨t4 t⟩] hp K:=by
  refine F113_ok _ (t4 t) hp K ?_
  unfold F113
  obtain ⟨a,c,h1,h2,h3⟩:=hr
  have h1c:∀ o,hp.cell p o=[Value.slice a l.length c,.int .i64 low,.int .i64 high,.map (some m)][o]?:=fun o=>HP.cell_of h1
  simp only [Option.isNone_some,ite2_false,ptrN_some,h1c,Nat.zero_add,List.getElem?_cons_succ,List.getElem?_cons_zero,ldV_some,mapV_map]
  unfold F113_j1
  rw [ite2_false]
  show ldV (some (.int .i64 t.2)) _
  rw [ldV_some,intV_int]
  refine C106 ?_
  rw [boolV_bool]
  unfold mayQ at h
  cases hx:isPort t.2
  · simp only [hx,Bool.false_eq_true,false_and,if_false] at h
    simp only [Bool.not_false,ite2_true]
    unfold F113_j2
    exact h
  · simp only [Bool.not_true,ite2_false,ptrN_some,h1c,Nat.zero_add,List.getElem?_cons_zero,ldV_some,slcV_slice]
    show ldL (some (v4 t.1)) _
    rw [ldL_some]
    refine C108 h2.shows rfl (by omega) ?_
    rw [boolV_bool]
    unfold F113_j2
    by_cases hm:t.1∈l
    · simp only [hx,hm,and_self,if_true] at h
      simpa [hm] using h
    · simp only [hm,and_false,if_false] at h
      simpa [hm] using h
/-! A nil pool. -/
/-! The document's answer. -/
end Go.Proofs
set_option linter.unusedVariables false
set_option maxRecDepth 20000
namespace Go.Proofs
open Go Go.HL
section
variable {p m:Nat} {l:List Q} {low high:Int} {held:List ((Q × Int) × Bool)} {t:Q × Int} {hp:HP} {K:Value→HP→Prop}
theorem PoolR.cellM (hr:PoolR hp p l low high held m):hp.cell p (0+3)=some (.map (some m)):=by
  obtain ⟨a,c,h1,_,_⟩:=hr
  rw [HP.cell_of h1]; rfl
theorem PoolR.mapM (hr:PoolR hp p l low high held m):MapE t4k vb held (hp m):=by
  obtain ⟨a,c,_,_,h3⟩:=hr
  exact h3
theorem mayQ_cases (l:List Q) (t:Q × Int):mayQ l t=0∨mayQ l t=1:=by
  unfold mayQ; split
  · exact .inl rfl
  · exact .inr rfl
def isQ (l:List Q) (held:List ((Q × Int) × Bool)) (t:Q × Int):Bool × Bool:=
  if mayQ l t≠0 then (false,false) else match getL t held with | none=>(false,false) | some r=>(!r,r)
theorem C77 (hr:PoolR hp p l low high held m) (hlen:l.length≤4)
    (h:K (.tuple ⟨[.bool (isQ l held t).1,.bool (isQ l held t).2]⟩) hp):CF Tryd.prog 77 [ptr p 0,.agg ⟨t4 t⟩] hp K:=by
  refine F77_ok _ (t4 t) hp K ?_
  unfold F77
  rw [cellsN_all (t4_len t),ldL_some]
  refine C113 hr hlen ?_
  rw [intV_int]
  unfold isQ at h
  rcases mayQ_cases l t with hm | hm
  · rw [hm] at h ⊢
    show ite2 false _ _
    rw [ite2_false,ptrN_some,hr.cellM,ldV_some,mapV_map,ldL_some]
    refine rdS_lookup u158 enc75 zwb4 hr.mapM t ?_
    simp only [if_true,tup2V_mk]
    cases hg:getL t held with
    | none=>simpa [hg] using h
    | some r=>simpa [hg,vb] using h
  · rw [hm] at h ⊢
    exact h
theorem C76 {q:Q} (hr:PoolR hp p l low high held m) (hlen:l.length≤4)
    (h:K (.bool (decide (q∈l))) hp):CF Tryd.prog 76 [ptr p 0,.agg ⟨v4 q⟩] hp K:=by
  refine F76_ok _ (v4 q) hp K ?_
  unfold F76
  rw [cellsN_all (v4_len q),ldL_some]
  refine ifI rfl ?_
  have hz:splice [(Value.int .u8 0),(Value.int .u8 0),(Value.int .u8 0),(Value.int .u8 0),(Value.int .i64 0)] 0 (v4 q)=t4 (q,0):=rfl
  rw [hz]
  refine C113 hr hlen ?_
  rw [intV_int]
  have:(mayQ l (q,0)==0)=decide (q∈l):=by
    unfold mayQ
    have h0:isPort (0:Int)=true:=by decide
    by_cases hq:q∈l <;> simp [h0,hq]
  rw [this]; exact h
def giveQ (l:List Q) (held:List ((Q × Int) × Bool)) (t:Q × Int):Int:=
  if mayQ l t≠0 then 1 else match getL t held with | none=>4 | some true=>11 | some false=>0
def reserveQ (l:List Q) (held:List ((Q × Int) × Bool)) (t:Q × Int):Int:=
  if mayQ l t≠0 then 1 else if (getL t held).isSome then 5 else 0
def releaseQ (l:List Q) (held:List ((Q × Int) × Bool)) (t:Q × Int):Int:=
  if mayQ l t≠0 then 1 else match getL t held with | some true=>0 | _=>4
theorem C74 (hr:PoolR hp p l low high held m) (hlen:l.length≤4)
    (hno:giveQ l held t≠0→K (.int .i64 (giveQ l held t)) hp)
    (hyes:giveQ l held t=0→∀ e,MapE t4k vb (delL t held) e→K (.int .i64 0) (hp.set m e)):CF Tryd.prog 74 [ptr p 0,.agg ⟨t4 t⟩] hp K:=by
  refine F74_ok _ (t4 t) hp K ?_
  unfold F74
  rw [cellsN_all (t4_len t),ldL_some]
  refine C113 hr hlen ?_
  rw [intV_int]
  unfold giveQ at hno hyes
  rcases mayQ_cases l t with hm | hm
  · rw [hm] at hno hyes ⊢
    show ite2 false _ _
    rw [ite2_false,ptrN_some,hr.cellM,ldV_some,mapV_map,ldL_some]
    refine rdS_lookup u158 enc75 zwb4 hr.mapM t ?_
    simp only [if_true,tup2V_mk]
    cases hg:getL t held with
    | none=>simpa [hg] using hno
    | some r=>
      cases r
      · simp only [Option.map_some,Option.getD_some,vb,boolV_bool,ite2_false,Option.isSome_some,Bool.not_true,ptrN_some,hr.cellM,ldV_some,mapV_map,ldL_some]
        refine opS_delete u158 enc75 hr.mapM t ?_
        intro e he
        exact hyes (by simp [hg]) e he
      · simpa [hg,vb] using hno
  · rw [hm] at hno ⊢
    exact hno (by simp)
theorem C78 (hr:PoolR hp p l low high held m) (hlen:l.length≤4)
    (hno:reserveQ l held t≠0→K (.int .i64 (reserveQ l held t)) hp)
    (hyes:reserveQ l held t=0→∀ e,MapE t4k vb (putL t true held) e→K (.int .i64 0) (hp.set m e)):CF Tryd.prog 78 [ptr p 0,.agg ⟨t4 t⟩] hp K:=by
  refine F78_ok _ (t4 t) hp K ?_
  unfold F78
  rw [cellsN_all (t4_len t),ldL_some]
  refine C113 hr hlen ?_
  rw [intV_int]
  unfold reserveQ at hno hyes
  rcases mayQ_cases l t with hm | hm
  · rw [hm] at hno hyes ⊢
    show ite2 false _ _
    rw [ite2_false,ptrN_some,hr.cellM,ldV_some,mapV_map,ldL_some]
    refine rdS_lookup u158 enc75 zwb4 hr.mapM t ?_
    simp only [if_true,tup2V_mk]
    cases hg:getL t held with
    | none=>
      simp only [Option.map_none,Option.getD_none,boolV_bool,Option.isSome_none,ite2_false,ptrN_some,hr.cellM,ldV_some,mapV_map,ldL_some]
      refine opS_mapUpdate u158 enc75 hr.mapM t true (ev:=vb) ?_
      intro e he
      exact hyes (by simp [hg]) e he
    | some r=>simpa [hg,vb] using hno
  · rw [hm] at hno ⊢
    exact hno (by simp)
theorem C79 (hr:PoolR hp p l low high held m) (hlen:l.length≤4)
    (hno:releaseQ l held t≠0→K (.int .i64 (releaseQ l held t)) hp)
    (hyes:releaseQ l held t=0→∀ e,MapE t4k vb (delL t held) e→K (.int .i64 0) (hp.set m e)):CF Tryd.prog 79 [ptr p 0,.agg ⟨t4 t⟩] hp K:=by
  refine F79_ok _ (t4 t) hp K ?_
  unfold F79
  rw [cellsN_all (t4_len t),ldL_some]
  refine C113 hr hlen ?_
  rw [intV_int]
  unfold releaseQ at hno hyes
  rcases mayQ_cases l t with hm | hm
  · rw [hm] at hno hyes ⊢
    show ite2 false _ _
    rw [ite2_false,ptrN_some,hr.cellM,ldV_some,mapV_map,ldL_some]
    refine rdS_lookup u158 enc75 zwb4 hr.mapM t ?_
    simp only [Bool.false_eq_true,if_false]
    cases hg:getL t held with
    | none=>simpa [hg] using hno
    | some r=>
      cases r
      · simpa [hg,vb] using hno
      · simp only [Option.map_some,Option.getD_some,vb,boolV_bool,Bool.not_true,ite2_false,ptrN_some,hr.cellM,ldV_some,mapV_map,ldL_some]
        refine opS_delete u158 enc75 hr.mapM t ?_
        intro e he
        exact hyes (by simp [hg]) e he
  · rw [hm] at hno ⊢
    exact hno (by simp)
end
end Go.Proofs
set_option linter.unusedVariables false
namespace Go.Proofs
open Go Go.HL
theorem perm_of_map {α β:Type} {f:α→β} (hf:∀ a b,f a=f b→a=b):∀ {l l':List α},(l.map f).Perm (l'.map f)→l.Perm l'
  | [],l',h=>by
    have:=h.length_eq
    simp at this
    rw [List.eq_nil_of_length_eq_zero this.symm]
  | a::l,l',h=>by
    classical
    have hm:f a∈l'.map f:=h.mem_iff.1 (by simp)
    obtain ⟨a',ha',e⟩:=List.mem_map.1 hm
    have:=hf _ _ e
    subst this
    have hp:=List.perm_cons_erase ha'
    refine List.Perm.trans ?_ hp.symm
    refine List.Perm.cons _ (perm_of_map hf ?_)
    have h2:=h.trans (hp.map f)
    simp only [List.map_cons] at h2
    exact h2.cons_inv
def cmpI (x y:Int):Int:=if x<y then -1 else if x > y then 1 else 0
def freeQ (l:List Q) (low high:Int) (held:List ((Q × Int) × Bool)):Int:=
  l.length*(high-low+1)-(held.filter (fun kv=>decide (low≤kv.1.2)&&decide (kv.1.2≤high))).length
end Go.Proofs
set_option linter.unusedVariables false
set_option maxRecDepth 20000
namespace Go.Proofs
open Go Go.HL
section
variable {p m:Nat} {l:List Q} {low high:Int} {held:List ((Q × Int) × Bool)} {hp:HP} {K:Value→HP→Prop}
theorem vb_inj {a b:Bool} (h:vb a=vb b):a=b:=by simpa [vb] using h
theorem C80 (hr:PoolR hp p l low high held m) (hlen:l.length≤4) (hh:held.length≤65535) (hb:0≤low∧low≤65535∧0≤high∧high≤65535) (h:K (.int .i64 (freeQ l low high held)) hp):CF Tryd.prog 80 [ptr p 0] hp K:=by
  refine CF.drop (F80_ok _ hp _ ?_)
  unfold F80
  have hr0:=hr
  obtain ⟨a,c,h1,h2,h3⟩:=hr
  have hc2:∀ o,hp.cell p o=[Value.slice a l.length c,.int .i64 low,.int .i64 high,.map (some m)][o]?:=fun o=>HP.cell_of h1
  simp only [Option.isNone_some,ite2_false,ptrN_some,hc2,Nat.zero_add,List.getElem?_cons_succ,List.getElem?_cons_zero,ldV_some,mapV_map]
  unfold F80_j1
  simp only [ite2_false,ptrN_some,hc2,Nat.zero_add,List.getElem?_cons_succ,List.getElem?_cons_zero,ldV_some,mapV_map,slcV_slice,intV_int]
  refine opS_range u158 h3 fun it e hit hI0=>?_
  have w1:IntKind.wrap .i64 (high-low)=high-low:=w64 (by omega) (by omega)
  have w2:IntKind.wrap .i64 (high-low+1)=high-low+1:=w64 (by omega) (by omega)
  have hmul:((l.length:Nat):Int)*(high-low+1)≤4*65536∧-(4*65536)≤((l.length:Nat):Int)*(high-low+1):=by
    have hl0:l.length=0∨l.length=1∨l.length=2∨l.length=3∨l.length=4:=by omega
    rcases hl0 with e | e | e | e | e <;> rw [e] <;> constructor <;> omega
  have w3:IntKind.wrap .i64 (((l.length:Nat):Int)*(high-low+1))=((l.length:Nat):Int)*(high-low+1):=w64 (by omega) (by omega)
  rw [w1,w2,w3]
  unfold F80_j3
  unfold freeQ at h
  generalize ((l.length:Nat):Int)*(high-low+1)=N at *
  refine LoopP.by (J:=fun k (x:Int) hp'=>∃ done:List ((Q × Int) × Bool),HSub hp hp'∧IterR hp' it m t4k vb held done∧x=N-(done.filter (fun kv=>decide (low≤kv.1.2)&&decide (kv.1.2≤high))).length∧k=held.length-done.length) ?_
    (n:=held.length-0) ⟨[],(HSub.refl hp).up hit e,hI0,by simp,rfl⟩
  rintro I k x hp2 ⟨done,hs,hI,rfl,rfl⟩ hgo
  unfold F80_l4
  have hfl:=List.length_filter_le (fun kv:(Q × Int) × Bool=>decide (low≤kv.1.2)&&decide (kv.1.2≤high)) done
  have hil:=hI.len
  refine opS_next hI ?_ ?_
  · intro hperm
    simp only [tupI]
    show ldV (some (Value.bool false)) _
    rw [ldV_some,boolV_bool,ite2_false]
    unfold F80_j2
    have hpm:done.Perm held:=by
      refine perm_of_map (f:=fun q:(Q × Int) × Bool=>(t4k q.1,vb q.2)) (fun a b e=>?_) hperm
      simp only [Prod.mk.injEq] at e
      exact Prod.ext (enc75.inj _ _ e.1) (vb_inj e.2)
    rw [(hpm.filter _).length_eq]
    exact ⟨hp,hs,h⟩
  · intro kv hkv e2 hI2
    have hlen2:=hI2.step_len
    simp only [tupI]
    show ldV (some (Value.bool true)) _
    rw [ldV_some,boolV_bool,ite2_true]
    refine rdS_entry hI2 ?_
    show ldV (some (t4k kv.1)) _
    rw [ldV_some]
    unfold t4k
    rw [aggV_agg]
    have hz5:[Value.int .u8 0,.int .u8 0,.int .u8 0,.int .u8 0,.int .i64 0]=t4 (q0,0):=rfl
    have s2':HSub hp (hp2.set it e2):=hs.up hit e2
    have hc3:∀ o,(hp2.set it e2).cell p o=[Value.slice a l.length c,.int .i64 low,.int .i64 high,.map (some m)][o]?:=fun o=>HP.cell_of (s2'.cells h1)
    have q2:(t4 kv.1)[4]?=some (.int .i64 kv.1.2):=rfl
    have hsp:splice (t4 (q0,0)) 0 (t4 kv.1)=t4 kv.1:=splice_all rfl
    simp only [t4_len,t4_one,if_true,hz5,hsp,q2,ldV_some,intV_int,ptrN_some,hc3,Nat.zero_add,List.getElem?_cons_succ,List.getElem?_cons_zero]
    refine ifI (by omega) ?_
    have fin:∀ q:Bool,q=(decide (low≤kv.1.2)&&decide (kv.1.2≤high))→F80_j5 (some ⟨p,0,none⟩) (N-(done.filter (fun kv=>decide (low≤kv.1.2)&&decide (kv.1.2≤high))).length) (ptr it 0) q (hp2.set it e2) I (fun v hp'=>∃ hp'',HSub hp'' hp'∧K v hp''):=by
      intro q hq
      unfold F80_j5
      have hf:(done++[kv]).filter (fun kv=>decide (low≤kv.1.2)&&decide (kv.1.2≤high))=done.filter (fun kv=>decide (low≤kv.1.2)&&decide (kv.1.2≤high))++if q then [kv] else []:=by
        rw [List.filter_append,hq,List.filter_cons]
        rfl
      have hgo':=hgo (held.length-(done++[kv]).length) (N-((done++[kv]).filter (fun kv=>decide (low≤kv.1.2)&&decide (kv.1.2≤high))).length) _ (by simp; omega) ⟨done++[kv],s2',hI2,rfl,rfl⟩
      rw [hf] at hgo'
      cases q
      · rw [ite2_false]
        simpa using hgo'
      · rw [ite2_true,w64 (by omega) (by omega)]
        simp only [if_true,List.length_append,List.length_cons,List.length_nil] at hgo'
        have e:N-((List.filter (fun kv:(Q × Int) × Bool=>decide (low≤kv.1.2)&&decide (kv.1.2≤high)) done).length:Int)-1=N-(((List.filter (fun kv:(Q × Int) × Bool=>decide (low≤kv.1.2)&&decide (kv.1.2≤high)) done).length+(0+1):Nat):Int):=by omega
        rw [e]; exact hgo'
    by_cases hlo:kv.1.2≥low
    · rw [decide_eq_true hlo,ite2_true]
      exact fin _ (by rw [decide_eq_true (by omega:low≤kv.1.2),Bool.true_and])
    · rw [decide_eq_false hlo,ite2_false]
      exact fin _ (by rw [decide_eq_false (by omega:¬ low≤kv.1.2),Bool.false_and])
end
end Go.Proofs
set_option linter.unusedVariables false
namespace Go.Proofs
open Go Go.HL
theorem freeAt_some {held:List ((Q × Int) × Bool)} {x:Int} {plain:Bool} {a:Q} {n:Int} {t:Q × Int} (h:freeAt held x plain a n=some t):t=(a,n)∧getL (a,n) held=none∧(plain||cls x n)=true:=by
  unfold freeAt at h
  split at h
  · rename_i hc
    rw [Bool.and_eq_true] at hc
    cases h
    exact ⟨rfl,by simpa using hc.1,hc.2⟩
  · cases h
theorem freeAt_none {held:List ((Q × Int) × Bool)} {x:Int} {plain:Bool} {a:Q} {n:Int} (h:freeAt held x plain a n=none) (hc:(plain||cls x n)=true):(getL (a,n) held).isSome=true:=by
  unfold freeAt at h
  split at h
  · cases h
  · rename_i hn
    rw [hc,Bool.and_true] at hn
    cases hg:getL (a,n) held with
    | none=>rw [hg] at hn; exact absurd rfl hn
    | some v=>rfl
theorem find_ports {held:List ((Q × Int) × Bool)} {x:Int} {plain:Bool} {a:Q} {t:Q × Int}:∀ (k:Nat) (n:Int),(ports k n).findSome? (freeAt held x plain a)=some t →
    t.1=a∧n≤t.2∧t.2<n+k∧freeAt held x plain a t.2=some t∧∀ m,n≤m→m<t.2→freeAt held x plain a m=none
  | 0,n,h=>by simp [ports] at h
  | k+1,n,h=>by
    rw [ports,List.findSome?_cons] at h
    cases hf:freeAt held x plain a n with
    | some u=>
      rw [hf] at h
      simp only [Option.some.injEq] at h
      subst h
      have:=(freeAt_some hf).1
      subst this
      exact ⟨rfl,by simp,by simp; omega,hf,fun m h1 h2=>by simp at h2; omega⟩
    | none=>
      rw [hf] at h
      obtain ⟨h1,h2,h3,h4,h5⟩:=find_ports k (n+1) h
      refine ⟨h1,by omega,by omega,h4,fun m hm hm'=>?_⟩
      by_cases e:m=n
      · rw [e]; exact hf
      · exact h5 m (by omega) hm'
theorem none_ports {held:List ((Q × Int) × Bool)} {x:Int} {plain:Bool} {a:Q}:∀ (k:Nat) (n:Int),(ports k n).findSome? (freeAt held x plain a)=none→∀ m,n≤m→m<n+k→freeAt held x plain a m=none
  | 0,n,h,m,h1,h2=>by omega
  | k+1,n,h,m,h1,h2=>by
    rw [ports,List.findSome?_cons] at h
    cases hf:freeAt held x plain a n with
    | some u=>rw [hf] at h; cases h
    | none=>
      rw [hf] at h
      by_cases e:m=n
      · rw [e]; exact hf
      · exact none_ports k (n+1) h m (by omega) (by omega)
theorem orderQ_mem {first a:Q} {l:List Q} (h:a∈orderQ first l):a∈l:=by
  unfold orderQ at h
  split at h
  · rename_i hi
    have hm:first∈l:=by
      refine Classical.byContradiction fun hn=>?_
      unfold idx at hi; rw [if_neg hn] at hi; omega
    rcases List.mem_cons.1 h with e | h
    · rw [e]; exact hm
    · exact List.mem_of_mem_erase h
  · exact h
theorem orderQ_head {first:Q} {l:List Q} (hm:first∈l):∃ r,orderQ first l=first::r:=by
  unfold orderQ
  split
  · exact ⟨_,rfl⟩
  · rename_i hi
    unfold idx at hi
    rw [if_pos hm] at hi
    cases l with
    | nil=>cases hm
    | cons y l=>
      refine ⟨l,?_⟩
      have:(y::l).idxOf first=0:=by omega
      rw [List.idxOf_cons] at this
      by_cases e:y=first
      · rw [e]
      · have hb:(y==first)=false:=by rw [beq_eq_false_iff_ne]; exact e
        rw [hb] at this
        simp at this
theorem takeQ_some {l:List Q} {low high:Int} {held:List ((Q × Int) × Bool)} {first:Q} {x:Int} {plain:Bool} {t:Q × Int} (h:takeQ l low high held first x plain=some t) :
    t.1∈l∧low≤t.2∧t.2≤high∧getL t held=none∧(plain||cls x t.2)=true ∧
    (∀ n,low≤n→n<t.2→(plain||cls x n)=true→(getL (t.1,n) held).isSome=true) ∧
    (first∈l→t.1≠first→∀ n,low≤n→n≤high→(plain||cls x n)=true→(getL (first,n) held).isSome=true):=by
  unfold takeQ at h
  obtain ⟨l1,a,l2,hl,ha,hbefore⟩:=List.findSome?_eq_some_iff.1 h
  have hmem:a∈orderQ first l:=by rw [hl]; simp
  unfold firstIn at ha
  obtain ⟨h1,h2,h3,h4,h5⟩:=find_ports _ _ ha
  have hf:=freeAt_some h4
  have e:(a,t.2)=t:=hf.1.symm
  refine ⟨by rw [h1]; exact orderQ_mem hmem,h2,by omega,by rw [← e]; exact hf.2.1,hf.2.2,fun n hn hn' hc=>?_,fun hm hne n hn hn' hc=>?_⟩
  · rw [h1]; exact freeAt_none (h5 n hn hn') hc
  · obtain ⟨r,hr⟩:=orderQ_head hm
    rw [hr] at hl
    cases l1 with
    | nil=>
      simp only [List.nil_append,List.cons.injEq] at hl
      exact absurd (h1.trans hl.1.symm) hne
    | cons y l1=>
      simp only [List.cons_append,List.cons.injEq] at hl
      have:=hbefore y (by simp)
      rw [← hl.1] at this
      unfold firstIn at this
      exact freeAt_none (none_ports _ _ this n hn (by omega)) hc
end Go.Proofs
set_option linter.unusedVariables false
set_option maxRecDepth 20000
namespace Go.Proofs
open Go Go.HL
section
variable {e:Env} {x0:OA} {hp:HP} {K:Env→PV→HP→Prop}
abbrev R71 (p n:Nat):=RW Tryd.prog 12 [] (opsAt Tryd.f71 (pth p)) (List.range n)
theorem F71_r0:R71 2 1 e V0 hp K=
 K (upd e 2 (sB false)) V0 hp:= by kernel_rfl
theorem F71_r1:R71 5 10 (upd e 0 (sP x0)) V0 hp K=
 ite2 (Option.isNone x0) (K (w3 (w8 e 0 (sP x0) 3 (sP x0) 4 (sB ((Option.isNone x0))) 5 (sB true) 6 sU 7 sU 8 sU 9 sU) 10 sU 11 (sB true) 2 (sB true)) V0 hp) (ptrN x0 fun b1 o2=>ldV (HP.cell hp b1 (o2+6)) fun v3=>mapV v3 fun m4=>K (w3 (w8 e 0 (sP x0) 3 (sP x0) 4 (sB ((Option.isNone x0))) 5 (sB false) 6 (sP x0) 7 (sQ b1 o2) 8 (sQ b1 (o2+6)) 9 (sV (.map m4))) 10 (sB ((Option.isNone m4))) 11 (sB ((Option.isNone m4))) 2 (sB ((Option.isNone m4)))) V0 hp):= by kernel_rfl
def F71 (x0:OA) (hp:HP) (K:Kh):Prop:=
  (ite2 (Option.isNone x0) (K (.bool true) hp) (ptrN x0 fun b1 o2=>ldV (HP.cell hp b1 (o2+6)) fun v3=>mapV v3 fun m4=>K (.bool (Option.isNone m4)) hp))
noncomputable def F71_code:Code:=(.seq (.region 0 (opsAt Tryd.f71 (pth 2)) false) (.seq (.region 1 (opsAt Tryd.f71 (pth 5)) false) .ret))
theorem F71_body:Tryd.f71.body=some F71_code:=by kernel_rfl
theorem F71_ok (x0:OA) (hp:HP) (K:Kh) (h:F71 x0 hp K):CF Tryd.prog 71 [(.pointer x0)] hp K:=by
 refine .inl ⟨by kernel_rfl,AC.intro (N:=12) Tryd.func71 F71_body rfl (Nat.le_of_ble_eq_true rfl) ?_⟩
 unfold F71 at h
 refine Ar F71_r0 ?_ (r1 0 Rn) (z1 Sn) Sn
 refine Ar F71_r1 ?_ (r1 0 Rn) (z1 Sn) Sn
 refine mt h (fun h=>?_) (fun h=>?_)
 ·refine AWP.ret ?_
  exact h
 ·refine mN h fun b1 o2 h=>mV h fun v3 h=>mM h fun m4 h=>?_
  refine AWP.ret ?_
  exact h
end
section
variable {e:Env} {x0:Int} {hp:HP} {K:Env→PV→HP→Prop}
abbrev R73 (p n:Nat):=RW Tryd.prog 6 [] (opsAt Tryd.f73 (pth p)) (List.range n)
theorem F73_r0:R73 2 1 e V0 hp K=
 K (upd e 2 (sI 0)) V0 hp:= by kernel_rfl
theorem F73_r1:R73 5 4 (upd e 0 (sI x0)) V0 hp K=
    (∀ b1:Nat,hp b1=.none→(CF Tryd.prog 112 [(.slice (some ⟨b1,0,none⟩) 3 3),(.int .i64 x0)] (HP.set hp b1 (.cells 3 [(.int .i64 1),(.int .i64 6),(.int .i64 17)] 0)) fun u2 h3=>intV u2 .i64 fun i4=>K (w5 e 0 (sI x0) 3 (sV (.slice (some ⟨b1,0,none⟩) 3 3)) 4 (sI x0) 5 (sI i4) 2 (sI i4)) V0 h3)):=by kernel_rfl
def F73 (x0:Int) (hp:HP) (K:Kh):Prop:=
  (∀ b1:Nat,hp b1=.none→(CF Tryd.prog 112 [(.slice (some ⟨b1,0,none⟩) 3 3),(.int .i64 x0)] (HP.set hp b1 (.cells 3 [(.int .i64 1),(.int .i64 6),(.int .i64 17)] 0)) fun u2 h3=>intV u2 .i64 fun i4=>K (.int .i64 i4) h3))
noncomputable def F73_code:Code:=(.seq (.region 0 (opsAt Tryd.f73 (pth 2)) false) (.seq (.region 1 (opsAt Tryd.f73 (pth 5)) false) .ret))
theorem F73_body:Tryd.f73.body=some F73_code:=by kernel_rfl
theorem F73_ok (x0:Int) (hp:HP) (K:Kh) (h:F73 x0 hp K):CF Tryd.prog 73 [(.int .i64 x0)] hp K:=by
 refine .inl ⟨by kernel_rfl,AC.intro (N:=6) Tryd.func73 F73_body rfl (Nat.le_of_ble_eq_true rfl) ?_⟩
 unfold F73 at h
 refine Ar F73_r0 ?_ (r1 0 Rn) (z1 Sn) Sn
 refine Ar F73_r1 ?_ (r1 0 Rn) (z1 Sn) Sn
 refine fun b1 hb_b_1=>?_
 replace h:=h b1 hb_b_1
 refine mC h fun u2 h3 h=>mI h fun i4 h=>?_
 refine AWP.ret ?_
 exact h
end
section
variable {e:Env} {x0:Int} {hp:HP} {K:Env→PV→HP→Prop}
abbrev R75 (p n:Nat):=RW Tryd.prog 9 [] (opsAt Tryd.f75 (pth p)) (List.range n)
theorem F75_r0:R75 2 1 e V0 hp K=
 K (upd e 2 (sB false)) V0 hp:= by kernel_rfl
theorem F75_r1:R75 5 7 (upd e 0 (sI x0)) V0 hp K=
 ite2 (decide (x0≥0)) (K (w8 e 0 (sI x0) 3 (sI x0) 4 (sB (decide (x0≥0))) 5 (sB true) 6 (sI x0) 7 (sB (decide (x0≤65535))) 8 (sB (decide (x0≤65535))) 2 (sB (decide (x0≤65535)))) V0 hp) (K (w8 e 0 (sI x0) 3 (sI x0) 4 (sB (decide (x0≥0))) 5 (sB false) 6 sU 7 sU 8 (sB false) 2 (sB false)) V0 hp):= by kernel_rfl
def F75 (x0:Int) (hp:HP) (K:Kh):Prop:=
  (ite2 (decide (x0≥0)) (K (.bool (decide (x0≤65535))) hp) (K (.bool false) hp))
noncomputable def F75_code:Code:=(.seq (.region 0 (opsAt Tryd.f75 (pth 2)) false) (.seq (.region 1 (opsAt Tryd.f75 (pth 5)) false) .ret))
theorem F75_body:Tryd.f75.body=some F75_code:=by kernel_rfl
theorem F75_ok (x0:Int) (hp:HP) (K:Kh) (h:F75 x0 hp K):CF Tryd.prog 75 [(.int .i64 x0)] hp K:=by
 refine .inl ⟨by kernel_rfl,AC.intro (N:=9) Tryd.func75 F75_body rfl (Nat.le_of_ble_eq_true rfl) ?_⟩
 unfold F75 at h
 refine Ar F75_r0 ?_ (r1 0 Rn) (z1 Sn) Sn
 refine Ar F75_r1 ?_ (r1 0 Rn) (z1 Sn) Sn
 refine mt h (fun h=>?_) (fun h=>?_)
 ·refine AWP.ret ?_
  exact h
 ·refine AWP.ret ?_
  exact h
end
section
variable {e E:Env} {x0:OA} {x1:Int} {x2:Bool} {k6:List Value} {hp:HP} {K:Env→PV→HP→Prop}
abbrev R81 (p n:Nat):=RW Tryd.prog 19 [6] (opsAt Tryd.f81 (pth p)) (List.range n)
theorem F81_r0:R81 2 2 e V0 hp K=
 K (w2 e 6 (sR 6 0) 7 (sB false)) (upd V0 6 (36,[.int .i64 0,.int .i64 0,.int .u8 0,.int .u8 0,.int .u8 0,.int .u8 0,.int .u8 0,.int .u8 0,.int .u8 0,.int .u8 0,.int .u8 0,.int .u8 0,.int .u8 0,.int .u8 0,.int .u8 0,.int .u8 0,.int .u8 0,.int .u8 0,.int .i64 0,.int .u8 0,.int .u8 0,.int .u8 0,.int .u8 0,.int .i64 0,.bool false,.int .i64 0])) hp:= by kernel_rfl
theorem F81_r1:R81 9 2 (upd e 2 (sB x2)) (upd V0 6 (36,k6)) hp K=
 K (w3 e 2 (sB x2) 8 (sB x2) 9 (sB ((!x2)))) (upd V0 6 (36,k6)) hp:= by kernel_rfl
theorem F81_r2:R81 37 3 (upd e 6 (sR 6 0)) (upd V0 6 (36,k6)) hp K=
    (if List.length [(Value.int .i64 0),.int .i64 0,.int .u8 0,.int .u8 0,.int .u8 0,.int .u8 0,.int .u8 0,.int .u8 0,.int .u8 0,.int .u8 0,.int .u8 0,.int .u8 0,.int .u8 0,.int .u8 0,.int .u8 0,.int .u8 0,.int .u8 0,.int .u8 0,.int .i64 0,.int .u8 0,.int .u8 0,.int .u8 0,.int .u8 0,.int .i64 0,.bool false,.int .i64 0]=26 then (if List.all [(Value.int .i64 0),.int .i64 0,.int .u8 0,.int .u8 0,.int .u8 0,.int .u8 0,.int .u8 0,.int .u8 0,.int .u8 0,.int .u8 0,.int .u8 0,.int .u8 0,.int .u8 0,.int .u8 0,.int .u8 0,.int .u8 0,.int .u8 0,.int .u8 0,.int .i64 0,.int .u8 0,.int .u8 0,.int .u8 0,.int .u8 0,.int .i64 0,.bool false,.int .i64 0] one=true then (if 0+List.length [(Value.int .i64 0),.int .i64 0,.int .u8 0,.int .u8 0,.int .u8 0,.int .u8 0,.int .u8 0,.int .u8 0,.int .u8 0,.int .u8 0,.int .u8 0,.int .u8 0,.int .u8 0,.int .u8 0,.int .u8 0,.int .u8 0,.int .u8 0,.int .u8 0,.int .i64 0,.int .u8 0,.int .u8 0,.int .u8 0,.int .u8 0,.int .i64 0,.bool false,.int .i64 0]≤List.length k6 then (K (w3 e 6 (sR 6 0) 10 (sV (.agg ⟨[.int .i64 0,.int .i64 0,.int .u8 0,.int .u8 0,.int .u8 0,.int .u8 0,.int .u8 0,.int .u8 0,.int .u8 0,.int .u8 0,.int .u8 0,.int .u8 0,.int .u8 0,.int .u8 0,.int .u8 0,.int .u8 0,.int .u8 0,.int .u8 0,.int .i64 0,.int .u8 0,.int .u8 0,.int .u8 0,.int .u8 0,.int .i64 0,.bool false,.int .i64 0]⟩)) 7 (sB false)) (w2 V0 6 (36,k6) 6 (36,(splice k6 0 [.int .i64 0,.int .i64 0,.int .u8 0,.int .u8 0,.int .u8 0,.int .u8 0,.int .u8 0,.int .u8 0,.int .u8 0,.int .u8 0,.int .u8 0,.int .u8 0,.int .u8 0,.int .u8 0,.int .u8 0,.int .u8 0,.int .u8 0,.int .u8 0,.int .i64 0,.int .u8 0,.int .u8 0,.int .u8 0,.int .u8 0,.int .i64 0,.bool false,.int .i64 0]))) hp) else False) else False) else False):=by kernel_rfl
theorem F81_r3 (h:E=upd (w2 e 6 (sR 6 0) 1 (sI x1)) 0 (sP x0)):R81 11 10 E (upd V0 6 (36,k6)) hp K=
 ptrN x0 fun b1 o2=>(ldV (HP.cell hp b1 (o2+6)) fun v3=>mapV v3 fun m4=>rdS Tryd.prog (Instr.lookup 123 (.map m4) (.int .i64 x1) false) hp fun u5=>ptrV u5 fun p6=>ptrN p6 fun b7 o8=>ldL (HP.cellN hp b7 o8 26) fun l9=>if List.length l9=26 then (if List.all l9 one=true then (if 0+List.length l9≤List.length k6 then (K (upd (w8 E 11 (sP x0) 12 (sQ b1 o2) 13 (sQ b1 (o2+6)) 14 (sV (.map m4)) 15 (sI x1) 16 (sP p6) 17 (sQ b7 o8) 18 (sA l9)) 7 (sB true)) (w2 V0 6 (36,k6) 6 (36,(splice k6 0 l9))) hp) else False) else False) else False):= by subst h; kernel_rfl
def F81 (x0:OA) (x1:Int) (x2:Bool) (hp:HP) (K:Kh):Prop:=
  (ite2 (!x2) (if List.length [(Value.int .i64 0),.int .i64 0,.int .u8 0,.int .u8 0,.int .u8 0,.int .u8 0,.int .u8 0,.int .u8 0,.int .u8 0,.int .u8 0,.int .u8 0,.int .u8 0,.int .u8 0,.int .u8 0,.int .u8 0,.int .u8 0,.int .u8 0,.int .u8 0,.int .i64 0,.int .u8 0,.int .u8 0,.int .u8 0,.int .u8 0,.int .i64 0,.bool false,.int .i64 0]=26 then (if List.all [(Value.int .i64 0),.int .i64 0,.int .u8 0,.int .u8 0,.int .u8 0,.int .u8 0,.int .u8 0,.int .u8 0,.int .u8 0,.int .u8 0,.int .u8 0,.int .u8 0,.int .u8 0,.int .u8 0,.int .u8 0,.int .u8 0,.int .u8 0,.int .u8 0,.int .i64 0,.int .u8 0,.int .u8 0,.int .u8 0,.int .u8 0,.int .i64 0,.bool false,.int .i64 0] one=true then (if 0+List.length [(Value.int .i64 0),.int .i64 0,.int .u8 0,.int .u8 0,.int .u8 0,.int .u8 0,.int .u8 0,.int .u8 0,.int .u8 0,.int .u8 0,.int .u8 0,.int .u8 0,.int .u8 0,.int .u8 0,.int .u8 0,.int .u8 0,.int .u8 0,.int .u8 0,.int .i64 0,.int .u8 0,.int .u8 0,.int .u8 0,.int .u8 0,.int .i64 0,.bool false,.int .i64 0]≤List.length [(Value.int .i64 0),.int .i64 0,.int .u8 0,.int .u8 0,.int .u8 0,.int .u8 0,.int .u8 0,.int .u8 0,.int .u8 0,.int .u8 0,.int .u8 0,.int .u8 0,.int .u8 0,.int .u8 0,.int .u8 0,.int .u8 0,.int .u8 0,.int .u8 0,.int .i64 0,.int .u8 0,.int .u8 0,.int .u8 0,.int .u8 0,.int .i64 0,.bool false,.int .i64 0] then (ldL (cellsN (splice [.int .i64 0,.int .i64 0,.int .u8 0,.int .u8 0,.int .u8 0,.int .u8 0,.int .u8 0,.int .u8 0,.int .u8 0,.int .u8 0,.int .u8 0,.int .u8 0,.int .u8 0,.int .u8 0,.int .u8 0,.int .u8 0,.int .u8 0,.int .u8 0,.int .i64 0,.int .u8 0,.int .u8 0,.int .u8 0,.int .u8 0,.int .i64 0,.bool false,.int .i64 0] 0 [.int .i64 0,.int .i64 0,.int .u8 0,.int .u8 0,.int .u8 0,.int .u8 0,.int .u8 0,.int .u8 0,.int .u8 0,.int .u8 0,.int .u8 0,.int .u8 0,.int .u8 0,.int .u8 0,.int .u8 0,.int .u8 0,.int .u8 0,.int .u8 0,.int .i64 0,.int .u8 0,.int .u8 0,.int .u8 0,.int .u8 0,.int .i64 0,.bool false,.int .i64 0]) 0 26) fun l1=>K (.tuple ⟨[(.agg ⟨l1⟩),.bool false]⟩) hp) else False) else False) else False) (ptrN x0 fun b2 o3=>ldV (HP.cell hp b2 (o3+6)) fun v4=>mapV v4 fun m5=>rdS Tryd.prog (Instr.lookup 123 (.map m5) (.int .i64 x1) false) hp fun u6=>ptrV u6 fun p7=>ptrN p7 fun b8 o9=>ldL (HP.cellN hp b8 o9 26) fun l10=>if List.length l10=26 then (if List.all l10 one=true then (if 0+List.length l10≤List.length [(Value.int .i64 0),.int .i64 0,.int .u8 0,.int .u8 0,.int .u8 0,.int .u8 0,.int .u8 0,.int .u8 0,.int .u8 0,.int .u8 0,.int .u8 0,.int .u8 0,.int .u8 0,.int .u8 0,.int .u8 0,.int .u8 0,.int .u8 0,.int .u8 0,.int .i64 0,.int .u8 0,.int .u8 0,.int .u8 0,.int .u8 0,.int .i64 0,.bool false,.int .i64 0] then (ldL (cellsN (splice [.int .i64 0,.int .i64 0,.int .u8 0,.int .u8 0,.int .u8 0,.int .u8 0,.int .u8 0,.int .u8 0,.int .u8 0,.int .u8 0,.int .u8 0,.int .u8 0,.int .u8 0,.int .u8 0,.int .u8 0,.int .u8 0,.int .u8 0,.int .u8 0,.int .i64 0,.int .u8 0,.int .u8 0,.int .u8 0,.int .u8 0,.int .i64 0,.bool false,.int .i64 0] 0 l10) 0 26) fun l11=>K (.tuple ⟨[(.agg ⟨l11⟩),(.bool true)]⟩) hp) else False) else False) else False))
noncomputable def F81_code:Code:=(.seq (.region 0 (opsAt Tryd.f81 (pth 2)) false) (.seq (.seq (.region 1 (opsAt Tryd.f81 (pth 9)) false) (.cond (.tmp 9) (.seq (.region 2 (opsAt Tryd.f81 (pth 37)) false) .ret) .skip)) (.seq (.region 3 (opsAt Tryd.f81 (pth 11)) false) .ret)))
theorem F81_body:Tryd.f81.body=some F81_code:=by kernel_rfl
theorem F81_ok (x0:OA) (x1:Int) (x2:Bool) (hp:HP) (K:Kh) (h:F81 x0 x1 x2 hp K):CF Tryd.prog 81 [(.pointer x0),(.int .i64 x1),(.bool x2)] hp K:=by
 refine .inl ⟨by kernel_rfl,AC.intro (N:=19) Tryd.func81 F81_body rfl (Nat.le_of_ble_eq_true rfl) ?_⟩
 unfold F81 at h
 refine Ar F81_r0 ?_ (r3 0 1 2 Rn) (z3 Sn) Sn
 refine Aq (Ar F81_r1 ?_ (r3 2 0 1 (rp 6 6 0 Rn)) (z4 Sn) (z1 Sn))
 refine Ac h rfl (fun h=>?_) (fun h=>?_)
 ·refine Ar F81_r2 ?_ (rp 6 6 0 Rn) (z1 Sn) (z1 Sn)
  refine mf h fun h=>mf h fun h=>mf h fun h=>?_
  refine AWP.ret ?_
  exact h
 ·refine AWP.skip (Ar (F81_r3 rfl) ?_ (r2 0 1 (rp 6 6 0 Rn)) (z3 Sn) (z1 Sn))
  refine mN h fun b2 o3 h=>mV h fun v4 h=>mM h fun m5 h=>mR h fun u6 h=>mP h fun p7 h=>mN h fun b8 o9 h=>mL h fun l10 h=>mf h fun h=>mf h fun h=>mf h fun h=>?_
  refine AWP.ret ?_
  exact h
end
section
variable {e:Env} {x1:List Value} {hp:HP} {K:Env→PV→HP→Prop}
abbrev R105 (p n:Nat):=RW Tryd.prog 17 [] (opsAt Tryd.f105 (pth p)) (List.range n)
theorem F105_r0:R105 2 2 (upd e 1 (sA x1)) V0 hp K=
    (∀ b1:Nat,hp b1=.none→(K (w3 e 1 (sA x1) 3 (sQ b1 0) 4 (sV (.string (⟨#[]⟩:ByteArray)))) V0 (HP.set hp b1 (.cells 34 x1 0)))):=by kernel_rfl
theorem F105_r1 {e:Env} {x0:Int} {x3:OA} {hp:HP} {K:Env→PV→HP→Prop}:RW Tryd.prog 17 [] (opsAt Tryd.f105 (pth 5)) [0,1,2,3,4,5,6,7,8,9,10,11,12] (w2 e 3 (sP x3) 0 (sI x0)) V0 hp K=
    (CF Tryd.prog 116 [(.int .i64 x0)] hp fun u1 h2=>strV u1 fun s3=>(ByteArray.size s3+ByteArray.size (⟨#[32]⟩:ByteArray)≤9223372036854775807)∧(ptrN x3 fun b4 o5=>ldV (HP.cell h2 b4 (o5+4)) fun v6=>intV v6 .i64 fun i7=>CF Tryd.prog 116 [(.int .i64 i7)] h2 fun u8 h9=>strV u8 fun s10=>(ByteArray.size (s3++(⟨#[32]⟩:ByteArray))+ByteArray.size s10≤9223372036854775807)∧((ByteArray.size ((s3++(⟨#[32]⟩:ByteArray))++s10)+ByteArray.size (⟨#[32]⟩:ByteArray)≤9223372036854775807)∧(ptrN x3 fun b11 o12=>rdS Tryd.prog (convert 199 9 (.slice (some ⟨b11,(o12+0),none⟩) 4 4)) h9 fun u13=>strV u13 fun s14=>(ByteArray.size (((s3++(⟨#[32]⟩:ByteArray))++s10)++(⟨#[32]⟩:ByteArray))+ByteArray.size s14≤9223372036854775807)∧(K (w7 (w8 e 3 (sP x3) 0 (sI x0) 5 (sI x0) 6 (sT s3) 7 (sV (.string (s3++(⟨#[32]⟩:ByteArray)))) 8 (sQ b4 (o5+4)) 9 (sI i7) 10 (sT s10)) 11 (sV (.string ((s3++(⟨#[32]⟩:ByteArray))++s10))) 12 (sV (.string (((s3++(⟨#[32]⟩:ByteArray))++s10)++(⟨#[32]⟩:ByteArray)))) 13 (sQ b11 (o12+0)) 14 (sV (.slice (some ⟨b11,(o12+0),none⟩) 4 4)) 15 (sT s14) 16 (sV (.string ((((s3++(⟨#[32]⟩:ByteArray))++s10)++(⟨#[32]⟩:ByteArray))++s14))) 4 (sV (.string ((((s3++(⟨#[32]⟩:ByteArray))++s10)++(⟨#[32]⟩:ByteArray))++s14)))) V0 h9))))):=by kernel_rfl
theorem F105_r2 {e:Env} {x0:Int} {x3:OA} {hp:HP} {K:Env→PV→HP→Prop}:RW Tryd.prog 17 [] (opsAt Tryd.f105 (pth 5)) [0,1,2,3,4,8,9,10,5,6,7,11,12] (w2 e 3 (sP x3) 0 (sI x0)) V0 hp K=
    (CF Tryd.prog 116 [(.int .i64 x0)] hp fun u1 h2=>strV u1 fun s3=>(ByteArray.size s3+ByteArray.size (⟨#[32]⟩:ByteArray)≤9223372036854775807)∧(ptrN x3 fun b4 o5=>ldV (HP.cell h2 b4 (o5+4)) fun v6=>intV v6 .i64 fun i7=>ptrN x3 fun b8 o9=>rdS Tryd.prog (convert 199 9 (.slice (some ⟨b8,(o9+0),none⟩) 4 4)) h2 fun u10=>strV u10 fun s11=>CF Tryd.prog 116 [(.int .i64 i7)] h2 fun u12 h13=>strV u12 fun s14=>(ByteArray.size (s3++(⟨#[32]⟩:ByteArray))+ByteArray.size s14≤9223372036854775807)∧((ByteArray.size ((s3++(⟨#[32]⟩:ByteArray))++s14)+ByteArray.size (⟨#[32]⟩:ByteArray)≤9223372036854775807)∧((ByteArray.size (((s3++(⟨#[32]⟩:ByteArray))++s14)++(⟨#[32]⟩:ByteArray))+ByteArray.size s11≤9223372036854775807)∧(K (w7 (w8 e 3 (sP x3) 0 (sI x0) 5 (sI x0) 6 (sT s3) 7 (sV (.string (s3++(⟨#[32]⟩:ByteArray)))) 8 (sQ b4 (o5+4)) 9 (sI i7) 13 (sQ b8 (o9+0))) 14 (sV (.slice (some ⟨b8,(o9+0),none⟩) 4 4)) 15 (sT s11) 10 (sT s14) 11 (sV (.string ((s3++(⟨#[32]⟩:ByteArray))++s14))) 12 (sV (.string (((s3++(⟨#[32]⟩:ByteArray))++s14)++(⟨#[32]⟩:ByteArray)))) 16 (sV (.string ((((s3++(⟨#[32]⟩:ByteArray))++s14)++(⟨#[32]⟩:ByteArray))++s11))) 4 (sV (.string ((((s3++(⟨#[32]⟩:ByteArray))++s14)++(⟨#[32]⟩:ByteArray))++s11)))) V0 h13))))):=by kernel_rfl
theorem F105_r3 {e:Env} {x0:Int} {x3:OA} {hp:HP} {K:Env→PV→HP→Prop}:RW Tryd.prog 17 [] (opsAt Tryd.f105 (pth 5)) [0,3,8,9,10,1,2,4,5,6,7,11,12] (w2 e 3 (sP x3) 0 (sI x0)) V0 hp K=
    (ptrN x3 fun b1 o2=>ptrN x3 fun b3 o4=>rdS Tryd.prog (convert 199 9 (.slice (some ⟨b3,(o4+0),none⟩) 4 4)) hp fun u5=>strV u5 fun s6=>CF Tryd.prog 116 [(.int .i64 x0)] hp fun u7 h8=>strV u7 fun s9=>(ByteArray.size s9+ByteArray.size (⟨#[32]⟩:ByteArray)≤9223372036854775807)∧(ldV (HP.cell h8 b1 (o2+4)) fun v10=>intV v10 .i64 fun i11=>CF Tryd.prog 116 [(.int .i64 i11)] h8 fun u12 h13=>strV u12 fun s14=>(ByteArray.size (s9++(⟨#[32]⟩:ByteArray))+ByteArray.size s14≤9223372036854775807)∧((ByteArray.size ((s9++(⟨#[32]⟩:ByteArray))++s14)+ByteArray.size (⟨#[32]⟩:ByteArray)≤9223372036854775807)∧((ByteArray.size (((s9++(⟨#[32]⟩:ByteArray))++s14)++(⟨#[32]⟩:ByteArray))+ByteArray.size s6≤9223372036854775807)∧(K (w7 (w8 e 3 (sP x3) 0 (sI x0) 5 (sI x0) 8 (sQ b1 (o2+4)) 13 (sQ b3 (o4+0)) 14 (sV (.slice (some ⟨b3,(o4+0),none⟩) 4 4)) 15 (sT s6) 6 (sT s9)) 7 (sV (.string (s9++(⟨#[32]⟩:ByteArray)))) 9 (sI i11) 10 (sT s14) 11 (sV (.string ((s9++(⟨#[32]⟩:ByteArray))++s14))) 12 (sV (.string (((s9++(⟨#[32]⟩:ByteArray))++s14)++(⟨#[32]⟩:ByteArray)))) 16 (sV (.string ((((s9++(⟨#[32]⟩:ByteArray))++s14)++(⟨#[32]⟩:ByteArray))++s6))) 4 (sV (.string ((((s9++(⟨#[32]⟩:ByteArray))++s14)++(⟨#[32]⟩:ByteArray))++s6)))) V0 h13))))):=by kernel_rfl
theorem F105_r4 {e:Env} {x0:Int} {x3:OA} {hp:HP} {K:Env→PV→HP→Prop}:RW Tryd.prog 17 [] (opsAt Tryd.f105 (pth 5)) [0,3,4,1,2,5,6,7,8,9,10,11,12] (w2 e 3 (sP x3) 0 (sI x0)) V0 hp K=
    (ptrN x3 fun b1 o2=>ldV (HP.cell hp b1 (o2+4)) fun v3=>intV v3 .i64 fun i4=>CF Tryd.prog 116 [(.int .i64 x0)] hp fun u5 h6=>strV u5 fun s7=>(ByteArray.size s7+ByteArray.size (⟨#[32]⟩:ByteArray)≤9223372036854775807)∧(CF Tryd.prog 116 [(.int .i64 i4)] h6 fun u8 h9=>strV u8 fun s10=>(ByteArray.size (s7++(⟨#[32]⟩:ByteArray))+ByteArray.size s10≤9223372036854775807)∧((ByteArray.size ((s7++(⟨#[32]⟩:ByteArray))++s10)+ByteArray.size (⟨#[32]⟩:ByteArray)≤9223372036854775807)∧(ptrN x3 fun b11 o12=>rdS Tryd.prog (convert 199 9 (.slice (some ⟨b11,(o12+0),none⟩) 4 4)) h9 fun u13=>strV u13 fun s14=>(ByteArray.size (((s7++(⟨#[32]⟩:ByteArray))++s10)++(⟨#[32]⟩:ByteArray))+ByteArray.size s14≤9223372036854775807)∧(K (w7 (w8 e 3 (sP x3) 0 (sI x0) 5 (sI x0) 8 (sQ b1 (o2+4)) 9 (sI i4) 6 (sT s7) 7 (sV (.string (s7++(⟨#[32]⟩:ByteArray)))) 10 (sT s10)) 11 (sV (.string ((s7++(⟨#[32]⟩:ByteArray))++s10))) 12 (sV (.string (((s7++(⟨#[32]⟩:ByteArray))++s10)++(⟨#[32]⟩:ByteArray)))) 13 (sQ b11 (o12+0)) 14 (sV (.slice (some ⟨b11,(o12+0),none⟩) 4 4)) 15 (sT s14) 16 (sV (.string ((((s7++(⟨#[32]⟩:ByteArray))++s10)++(⟨#[32]⟩:ByteArray))++s14))) 4 (sV (.string ((((s7++(⟨#[32]⟩:ByteArray))++s10)++(⟨#[32]⟩:ByteArray))++s14)))) V0 h9))))):=by kernel_rfl
theorem F105_r5 {e:Env} {x0:Int} {x3:OA} {hp:HP} {K:Env→PV→HP→Prop}:RW Tryd.prog 17 [] (opsAt Tryd.f105 (pth 5)) [0,3,4,1,2,8,9,10,5,6,7,11,12] (w2 e 3 (sP x3) 0 (sI x0)) V0 hp K=
    (ptrN x3 fun b1 o2=>ldV (HP.cell hp b1 (o2+4)) fun v3=>intV v3 .i64 fun i4=>CF Tryd.prog 116 [(.int .i64 x0)] hp fun u5 h6=>strV u5 fun s7=>(ByteArray.size s7+ByteArray.size (⟨#[32]⟩:ByteArray)≤9223372036854775807)∧(ptrN x3 fun b8 o9=>rdS Tryd.prog (convert 199 9 (.slice (some ⟨b8,(o9+0),none⟩) 4 4)) h6 fun u10=>strV u10 fun s11=>CF Tryd.prog 116 [(.int .i64 i4)] h6 fun u12 h13=>strV u12 fun s14=>(ByteArray.size (s7++(⟨#[32]⟩:ByteArray))+ByteArray.size s14≤9223372036854775807)∧((ByteArray.size ((s7++(⟨#[32]⟩:ByteArray))++s14)+ByteArray.size (⟨#[32]⟩:ByteArray)≤9223372036854775807)∧((ByteArray.size (((s7++(⟨#[32]⟩:ByteArray))++s14)++(⟨#[32]⟩:ByteArray))+ByteArray.size s11≤9223372036854775807)∧(K (w7 (w8 e 3 (sP x3) 0 (sI x0) 5 (sI x0) 8 (sQ b1 (o2+4)) 9 (sI i4) 6 (sT s7) 7 (sV (.string (s7++(⟨#[32]⟩:ByteArray)))) 13 (sQ b8 (o9+0))) 14 (sV (.slice (some ⟨b8,(o9+0),none⟩) 4 4)) 15 (sT s11) 10 (sT s14) 11 (sV (.string ((s7++(⟨#[32]⟩:ByteArray))++s14))) 12 (sV (.string (((s7++(⟨#[32]⟩:ByteArray))++s14)++(⟨#[32]⟩:ByteArray)))) 16 (sV (.string ((((s7++(⟨#[32]⟩:ByteArray))++s14)++(⟨#[32]⟩:ByteArray))++s11))) 4 (sV (.string ((((s7++(⟨#[32]⟩:ByteArray))++s14)++(⟨#[32]⟩:ByteArray))++s11)))) V0 h13))))):=by kernel_rfl
theorem F105_r6 {e:Env} {x0:Int} {x3:OA} {hp:HP} {K:Env→PV→HP→Prop}:RW Tryd.prog 17 [] (opsAt Tryd.f105 (pth 5)) [0,3,4,8,9,10,1,2,5,6,7,11,12] (w2 e 3 (sP x3) 0 (sI x0)) V0 hp K=
    (ptrN x3 fun b1 o2=>ldV (HP.cell hp b1 (o2+4)) fun v3=>intV v3 .i64 fun i4=>ptrN x3 fun b5 o6=>rdS Tryd.prog (convert 199 9 (.slice (some ⟨b5,(o6+0),none⟩) 4 4)) hp fun u7=>strV u7 fun s8=>CF Tryd.prog 116 [(.int .i64 x0)] hp fun u9 h10=>strV u9 fun s11=>(ByteArray.size s11+ByteArray.size (⟨#[32]⟩:ByteArray)≤9223372036854775807)∧(CF Tryd.prog 116 [(.int .i64 i4)] h10 fun u12 h13=>strV u12 fun s14=>(ByteArray.size (s11++(⟨#[32]⟩:ByteArray))+ByteArray.size s14≤9223372036854775807)∧((ByteArray.size ((s11++(⟨#[32]⟩:ByteArray))++s14)+ByteArray.size (⟨#[32]⟩:ByteArray)≤9223372036854775807)∧((ByteArray.size (((s11++(⟨#[32]⟩:ByteArray))++s14)++(⟨#[32]⟩:ByteArray))+ByteArray.size s8≤9223372036854775807)∧(K (w7 (w8 e 3 (sP x3) 0 (sI x0) 5 (sI x0) 8 (sQ b1 (o2+4)) 9 (sI i4) 13 (sQ b5 (o6+0)) 14 (sV (.slice (some ⟨b5,(o6+0),none⟩) 4 4)) 15 (sT s8)) 6 (sT s11) 7 (sV (.string (s11++(⟨#[32]⟩:ByteArray)))) 10 (sT s14) 11 (sV (.string ((s11++(⟨#[32]⟩:ByteArray))++s14))) 12 (sV (.string (((s11++(⟨#[32]⟩:ByteArray))++s14)++(⟨#[32]⟩:ByteArray)))) 16 (sV (.string ((((s11++(⟨#[32]⟩:ByteArray))++s14)++(⟨#[32]⟩:ByteArray))++s8))) 4 (sV (.string ((((s11++(⟨#[32]⟩:ByteArray))++s14)++(⟨#[32]⟩:ByteArray))++s8)))) V0 h13))))):=by kernel_rfl
def F105 (x0:Int) (x1:List Value) (hp:HP) (K:Kh):Prop:=
  (∀ b1:Nat,hp b1=.none→((CF Tryd.prog 116 [(.int .i64 x0)] (HP.set hp b1 (.cells 34 x1 0)) fun u2 h3=>strV u2 fun s4=>(ByteArray.size s4+ByteArray.size (⟨#[32]⟩:ByteArray)≤9223372036854775807)∧(ptrN (some ⟨b1,0,none⟩) fun b5 o6=>ldV (HP.cell h3 b5 (o6+4)) fun v7=>intV v7 .i64 fun i8=>CF Tryd.prog 116 [(.int .i64 i8)] h3 fun u9 h10=>strV u9 fun s11=>(ByteArray.size (s4++(⟨#[32]⟩:ByteArray))+ByteArray.size s11≤9223372036854775807)∧((ByteArray.size ((s4++(⟨#[32]⟩:ByteArray))++s11)+ByteArray.size (⟨#[32]⟩:ByteArray)≤9223372036854775807)∧(ptrN (some ⟨b1,0,none⟩) fun b12 o13=>rdS Tryd.prog (convert 199 9 (.slice (some ⟨b12,(o13+0),none⟩) 4 4)) h10 fun u14=>strV u14 fun s15=>(ByteArray.size (((s4++(⟨#[32]⟩:ByteArray))++s11)++(⟨#[32]⟩:ByteArray))+ByteArray.size s15≤9223372036854775807)∧(K (.string ((((s4++(⟨#[32]⟩:ByteArray))++s11)++(⟨#[32]⟩:ByteArray))++s15)) h10)))))∧(CF Tryd.prog 116 [(.int .i64 x0)] (HP.set hp b1 (.cells 34 x1 0)) fun u16 h17=>strV u16 fun s18=>(ByteArray.size s18+ByteArray.size (⟨#[32]⟩:ByteArray)≤9223372036854775807)∧(ptrN (some ⟨b1,0,none⟩) fun b19 o20=>ldV (HP.cell h17 b19 (o20+4)) fun v21=>intV v21 .i64 fun i22=>ptrN (some ⟨b1,0,none⟩) fun b23 o24=>rdS Tryd.prog (convert 199 9 (.slice (some ⟨b23,(o24+0),none⟩) 4 4)) h17 fun u25=>strV u25 fun s26=>CF Tryd.prog 116 [(.int .i64 i22)] h17 fun u27 h28=>strV u27 fun s29=>(ByteArray.size (s18++(⟨#[32]⟩:ByteArray))+ByteArray.size s29≤9223372036854775807)∧((ByteArray.size ((s18++(⟨#[32]⟩:ByteArray))++s29)+ByteArray.size (⟨#[32]⟩:ByteArray)≤9223372036854775807)∧((ByteArray.size (((s18++(⟨#[32]⟩:ByteArray))++s29)++(⟨#[32]⟩:ByteArray))+ByteArray.size s26≤9223372036854775807)∧(K (.string ((((s18++(⟨#[32]⟩:ByteArray))++s29)++(⟨#[32]⟩:ByteArray))++s26)) h28)))))∧(ptrN (some ⟨b1,0,none⟩) fun b30 o31=>ptrN (some ⟨b1,0,none⟩) fun b32 o33=>rdS Tryd.prog (convert 199 9 (.slice (some ⟨b32,(o33+0),none⟩) 4 4)) (HP.set hp b1 (.cells 34 x1 0)) fun u34=>strV u34 fun s35=>CF Tryd.prog 116 [(.int .i64 x0)] (HP.set hp b1 (.cells 34 x1 0)) fun u36 h37=>strV u36 fun s38=>(ByteArray.size s38+ByteArray.size (⟨#[32]⟩:ByteArray)≤9223372036854775807)∧(ldV (HP.cell h37 b30 (o31+4)) fun v39=>intV v39 .i64 fun i40=>CF Tryd.prog 116 [(.int .i64 i40)] h37 fun u41 h42=>strV u41 fun s43=>(ByteArray.size (s38++(⟨#[32]⟩:ByteArray))+ByteArray.size s43≤9223372036854775807)∧((ByteArray.size ((s38++(⟨#[32]⟩:ByteArray))++s43)+ByteArray.size (⟨#[32]⟩:ByteArray)≤9223372036854775807)∧((ByteArray.size (((s38++(⟨#[32]⟩:ByteArray))++s43)++(⟨#[32]⟩:ByteArray))+ByteArray.size s35≤9223372036854775807)∧(K (.string ((((s38++(⟨#[32]⟩:ByteArray))++s43)++(⟨#[32]⟩:ByteArray))++s35)) h42)))))∧(ptrN (some ⟨b1,0,none⟩) fun b44 o45=>ldV (HP.cell (HP.set hp b1 (.cells 34 x1 0)) b44 (o45+4)) fun v46=>intV v46 .i64 fun i47=>CF Tryd.prog 116 [(.int .i64 x0)] (HP.set hp b1 (.cells 34 x1 0)) fun u48 h49=>strV u48 fun s50=>(ByteArray.size s50+ByteArray.size (⟨#[32]⟩:ByteArray)≤9223372036854775807)∧(CF Tryd.prog 116 [(.int .i64 i47)] h49 fun u51 h52=>strV u51 fun s53=>(ByteArray.size (s50++(⟨#[32]⟩:ByteArray))+ByteArray.size s53≤9223372036854775807)∧((ByteArray.size ((s50++(⟨#[32]⟩:ByteArray))++s53)+ByteArray.size (⟨#[32]⟩:ByteArray)≤9223372036854775807)∧(ptrN (some ⟨b1,0,none⟩) fun b54 o55=>rdS Tryd.prog (convert 199 9 (.slice (some ⟨b54,(o55+0),none⟩) 4 4)) h52 fun u56=>strV u56 fun s57=>(ByteArray.size (((s50++(⟨#[32]⟩:ByteArray))++s53)++(⟨#[32]⟩:ByteArray))+ByteArray.size s57≤9223372036854775807)∧(K (.string ((((s50++(⟨#[32]⟩:ByteArray))++s53)++(⟨#[32]⟩:ByteArray))++s57)) h52)))))∧(ptrN (some ⟨b1,0,none⟩) fun b58 o59=>ldV (HP.cell (HP.set hp b1 (.cells 34 x1 0)) b58 (o59+4)) fun v60=>intV v60 .i64 fun i61=>CF Tryd.prog 116 [(.int .i64 x0)] (HP.set hp b1 (.cells 34 x1 0)) fun u62 h63=>strV u62 fun s64=>(ByteArray.size s64+ByteArray.size (⟨#[32]⟩:ByteArray)≤9223372036854775807)∧(ptrN (some ⟨b1,0,none⟩) fun b65 o66=>rdS Tryd.prog (convert 199 9 (.slice (some ⟨b65,(o66+0),none⟩) 4 4)) h63 fun u67=>strV u67 fun s68=>CF Tryd.prog 116 [(.int .i64 i61)] h63 fun u69 h70=>strV u69 fun s71=>(ByteArray.size (s64++(⟨#[32]⟩:ByteArray))+ByteArray.size s71≤9223372036854775807)∧((ByteArray.size ((s64++(⟨#[32]⟩:ByteArray))++s71)+ByteArray.size (⟨#[32]⟩:ByteArray)≤9223372036854775807)∧((ByteArray.size (((s64++(⟨#[32]⟩:ByteArray))++s71)++(⟨#[32]⟩:ByteArray))+ByteArray.size s68≤9223372036854775807)∧(K (.string ((((s64++(⟨#[32]⟩:ByteArray))++s71)++(⟨#[32]⟩:ByteArray))++s68)) h70)))))∧(ptrN (some ⟨b1,0,none⟩) fun b72 o73=>ldV (HP.cell (HP.set hp b1 (.cells 34 x1 0)) b72 (o73+4)) fun v74=>intV v74 .i64 fun i75=>ptrN (some ⟨b1,0,none⟩) fun b76 o77=>rdS Tryd.prog (convert 199 9 (.slice (some ⟨b76,(o77+0),none⟩) 4 4)) (HP.set hp b1 (.cells 34 x1 0)) fun u78=>strV u78 fun s79=>CF Tryd.prog 116 [(.int .i64 x0)] (HP.set hp b1 (.cells 34 x1 0)) fun u80 h81=>strV u80 fun s82=>(ByteArray.size s82+ByteArray.size (⟨#[32]⟩:ByteArray)≤9223372036854775807)∧(CF Tryd.prog 116 [(.int .i64 i75)] h81 fun u83 h84=>strV u83 fun s85=>(ByteArray.size (s82++(⟨#[32]⟩:ByteArray))+ByteArray.size s85≤9223372036854775807)∧((ByteArray.size ((s82++(⟨#[32]⟩:ByteArray))++s85)+ByteArray.size (⟨#[32]⟩:ByteArray)≤9223372036854775807)∧((ByteArray.size (((s82++(⟨#[32]⟩:ByteArray))++s85)++(⟨#[32]⟩:ByteArray))+ByteArray.size s79≤9223372036854775807)∧(K (.string ((((s82++(⟨#[32]⟩:ByteArray))++s85)++(⟨#[32]⟩:ByteArray))++s79)) h84)))))))
noncomputable def F105_code:Code:=(.seq (.region 0 (opsAt Tryd.f105 (pth 2)) false) (.seq (.region 1 (opsAt Tryd.f105 (pth 5)) true) .ret))
theorem F105_body:Tryd.f105.body=some F105_code:=by kernel_rfl
theorem F105_ok (x0:Int) (x1:List Value) (hp:HP) (K:Kh) (h:F105 x0 x1 hp K):CF Tryd.prog 105 [(.int .i64 x0),(.agg ⟨x1⟩)] hp K:=by
 refine .inl ⟨by kernel_rfl,AC.intro (N:=17) Tryd.func105 F105_body rfl (Nat.le_of_ble_eq_true rfl) ?_⟩
 unfold F105 at h
 refine Ar F105_r0 ?_ (r2 1 0 Rn) (z2 Sn) Sn
 refine fun b1 hb_b_1=>?_
 replace h:=h b1 hb_b_1
 refine Aq (AWP.rgnC (cf:=[(1,4),(1,10),(5,10)]) (c:=[([true,true,true],true,[0,1,2,3,4,5,6,7,8,9,10,11,12]),([true,true,false],true,[0,1,2,3,4,8,9,10,5,6,7,11,12]),([true,false,true],false,[1,4,5,10,1]),([true,false,false],true,[0,3,8,9,10,1,2,4,5,6,7,11,12]),([false,true,true],true,[0,3,4,1,2,5,6,7,8,9,10,11,12]),([false,true,false],true,[0,3,4,1,2,8,9,10,5,6,7,11,12]),([false,false,true],false,[1,5,10,1]),([false,false,false],true,[0,3,4,8,9,10,1,2,5,6,7,11,12])]) (by kernel_rfl) (by kernel_rfl) (by kernel_rfl) (by kernel_rfl) (allO_t (Eq.mpr F105_r1 ?_) (allO_t (Eq.mpr F105_r2 ?_) (allO_f (allO_t (Eq.mpr F105_r3 ?_) (allO_t (Eq.mpr F105_r4 ?_) (allO_t (Eq.mpr F105_r5 ?_) (allO_f (allO_t (Eq.mpr F105_r6 ?_) trivial)))))))) (r2 0 3 Rn) (z2 Sn) Sn)
 ·replace h:=h.1
  refine mC h (fun u2 h3 h=>ms h (fun s4 h=>⟨h.1,mN h.2 (fun b5 o6 h=>mV h (fun v7 h=>mI h (fun i8 h=>mC h (fun u9 h10 h=>ms h (fun s11 h=>⟨h.1,?_⟩)))))⟩))
  replace h:=h.2
  refine ⟨h.1,mN h.2 (fun b12 o13 h=>mR h (fun u14 h=>ms h (fun s15 h=>⟨h.1,?_⟩)))⟩
  replace h:=h.2
  refine AWP.ret ?_
  exact h
 ·replace h:=h.2.1
  refine mC h (fun u16 h17 h=>ms h (fun s18 h=>⟨h.1,mN h.2 (fun b19 o20 h=>mV h (fun v21 h=>mI h (fun i22 h=>mN h (fun b23 o24 h=>mR h (fun u25 h=>ms h (fun s26 h=>mC h (fun u27 h28 h=>ms h (fun s29 h=>⟨h.1,?_⟩))))))))⟩))
  replace h:=h.2
  refine ⟨h.1,?_⟩
  replace h:=h.2
  refine ⟨h.1,?_⟩
  replace h:=h.2
  refine AWP.ret ?_
  exact h
 ·replace h:=h.2.2.1
  refine mN h (fun b30 o31 h=>mN h (fun b32 o33 h=>mR h (fun u34 h=>ms h (fun s35 h=>mC h (fun u36 h37 h=>ms h (fun s38 h=>⟨h.1,mV h.2 (fun v39 h=>mI h (fun i40 h=>mC h (fun u41 h42 h=>ms h (fun s43 h=>⟨h.1,?_⟩))))⟩))))))
  replace h:=h.2
  refine ⟨h.1,?_⟩
  replace h:=h.2
  refine ⟨h.1,?_⟩
  replace h:=h.2
  refine AWP.ret ?_
  exact h
 ·replace h:=h.2.2.2.1
  refine mN h (fun b44 o45 h=>mV h (fun v46 h=>mI h (fun i47 h=>mC h (fun u48 h49 h=>ms h (fun s50 h=>⟨h.1,mC h.2 (fun u51 h52 h=>ms h (fun s53 h=>⟨h.1,?_⟩))⟩)))))
  replace h:=h.2
  refine ⟨h.1,mN h.2 (fun b54 o55 h=>mR h (fun u56 h=>ms h (fun s57 h=>⟨h.1,?_⟩)))⟩
  replace h:=h.2
  refine AWP.ret ?_
  exact h
 ·replace h:=h.2.2.2.2.1
  refine mN h (fun b58 o59 h=>mV h (fun v60 h=>mI h (fun i61 h=>mC h (fun u62 h63 h=>ms h (fun s64 h=>⟨h.1,mN h.2 (fun b65 o66 h=>mR h (fun u67 h=>ms h (fun s68 h=>mC h (fun u69 h70 h=>ms h (fun s71 h=>⟨h.1,?_⟩)))))⟩)))))
  replace h:=h.2
  refine ⟨h.1,?_⟩
  replace h:=h.2
  refine ⟨h.1,?_⟩
  replace h:=h.2
  refine AWP.ret ?_
  exact h
 ·replace h:=h.2.2.2.2.2
  refine mN h (fun b72 o73 h=>mV h (fun v74 h=>mI h (fun i75 h=>mN h (fun b76 o77 h=>mR h (fun u78 h=>ms h (fun s79 h=>mC h (fun u80 h81 h=>ms h (fun s82 h=>⟨h.1,mC h.2 (fun u83 h84 h=>ms h (fun s85 h=>⟨h.1,?_⟩))⟩))))))))
  replace h:=h.2
  refine ⟨h.1,?_⟩
  replace h:=h.2
  refine ⟨h.1,?_⟩
  replace h:=h.2
  refine AWP.ret ?_
  exact h
end
section
variable {e:Env} {x1:List Value} {hp:HP} {K:Env→PV→HP→Prop}
abbrev R107 (p n:Nat):=RW Tryd.prog 17 [] (opsAt Tryd.f107 (pth p)) (List.range n)
theorem F107_r0:R107 2 2 (upd e 1 (sA x1)) V0 hp K=
    (∀ b1:Nat,hp b1=.none→(K (w3 e 1 (sA x1) 3 (sQ b1 0) 4 (sV (.string (⟨#[]⟩:ByteArray)))) V0 (HP.set hp b1 (.cells 32 x1 0)))):=by kernel_rfl
theorem F107_r1 {e:Env} {x0:Int} {x3:OA} {hp:HP} {K:Env→PV→HP→Prop}:RW Tryd.prog 17 [] (opsAt Tryd.f107 (pth 5)) [0,1,2,3,4,5,6,7,8,9,10,11,12] (w2 e 3 (sP x3) 0 (sI x0)) V0 hp K=
    (CF Tryd.prog 116 [(.int .i64 x0)] hp fun u1 h2=>strV u1 fun s3=>(ByteArray.size s3+ByteArray.size (⟨#[32]⟩:ByteArray)≤9223372036854775807)∧(ptrN x3 fun b4 o5=>ldV (HP.cell h2 b4 (o5+16)) fun v6=>intV v6 .i64 fun i7=>CF Tryd.prog 116 [(.int .i64 i7)] h2 fun u8 h9=>strV u8 fun s10=>(ByteArray.size (s3++(⟨#[32]⟩:ByteArray))+ByteArray.size s10≤9223372036854775807)∧((ByteArray.size ((s3++(⟨#[32]⟩:ByteArray))++s10)+ByteArray.size (⟨#[32]⟩:ByteArray)≤9223372036854775807)∧(ptrN x3 fun b11 o12=>rdS Tryd.prog (convert 199 9 (.slice (some ⟨b11,(o12+0),none⟩) 16 16)) h9 fun u13=>strV u13 fun s14=>(ByteArray.size (((s3++(⟨#[32]⟩:ByteArray))++s10)++(⟨#[32]⟩:ByteArray))+ByteArray.size s14≤9223372036854775807)∧(K (w7 (w8 e 3 (sP x3) 0 (sI x0) 5 (sI x0) 6 (sT s3) 7 (sV (.string (s3++(⟨#[32]⟩:ByteArray)))) 8 (sQ b4 (o5+16)) 9 (sI i7) 10 (sT s10)) 11 (sV (.string ((s3++(⟨#[32]⟩:ByteArray))++s10))) 12 (sV (.string (((s3++(⟨#[32]⟩:ByteArray))++s10)++(⟨#[32]⟩:ByteArray)))) 13 (sQ b11 (o12+0)) 14 (sV (.slice (some ⟨b11,(o12+0),none⟩) 16 16)) 15 (sT s14) 16 (sV (.string ((((s3++(⟨#[32]⟩:ByteArray))++s10)++(⟨#[32]⟩:ByteArray))++s14))) 4 (sV (.string ((((s3++(⟨#[32]⟩:ByteArray))++s10)++(⟨#[32]⟩:ByteArray))++s14)))) V0 h9))))):=by kernel_rfl
theorem F107_r2 {e:Env} {x0:Int} {x3:OA} {hp:HP} {K:Env→PV→HP→Prop}:RW Tryd.prog 17 [] (opsAt Tryd.f107 (pth 5)) [0,1,2,3,4,8,9,10,5,6,7,11,12] (w2 e 3 (sP x3) 0 (sI x0)) V0 hp K=
    (CF Tryd.prog 116 [(.int .i64 x0)] hp fun u1 h2=>strV u1 fun s3=>(ByteArray.size s3+ByteArray.size (⟨#[32]⟩:ByteArray)≤9223372036854775807)∧(ptrN x3 fun b4 o5=>ldV (HP.cell h2 b4 (o5+16)) fun v6=>intV v6 .i64 fun i7=>ptrN x3 fun b8 o9=>rdS Tryd.prog (convert 199 9 (.slice (some ⟨b8,(o9+0),none⟩) 16 16)) h2 fun u10=>strV u10 fun s11=>CF Tryd.prog 116 [(.int .i64 i7)] h2 fun u12 h13=>strV u12 fun s14=>(ByteArray.size (s3++(⟨#[32]⟩:ByteArray))+ByteArray.size s14≤9223372036854775807)∧((ByteArray.size ((s3++(⟨#[32]⟩:ByteArray))++s14)+ByteArray.size (⟨#[32]⟩:ByteArray)≤9223372036854775807)∧((ByteArray.size (((s3++(⟨#[32]⟩:ByteArray))++s14)++(⟨#[32]⟩:ByteArray))+ByteArray.size s11≤9223372036854775807)∧(K (w7 (w8 e 3 (sP x3) 0 (sI x0) 5 (sI x0) 6 (sT s3) 7 (sV (.string (s3++(⟨#[32]⟩:ByteArray)))) 8 (sQ b4 (o5+16)) 9 (sI i7) 13 (sQ b8 (o9+0))) 14 (sV (.slice (some ⟨b8,(o9+0),none⟩) 16 16)) 15 (sT s11) 10 (sT s14) 11 (sV (.string ((s3++(⟨#[32]⟩:ByteArray))++s14))) 12 (sV (.string (((s3++(⟨#[32]⟩:ByteArray))++s14)++(⟨#[32]⟩:ByteArray)))) 16 (sV (.string ((((s3++(⟨#[32]⟩:ByteArray))++s14)++(⟨#[32]⟩:ByteArray))++s11))) 4 (sV (.string ((((s3++(⟨#[32]⟩:ByteArray))++s14)++(⟨#[32]⟩:ByteArray))++s11)))) V0 h13))))):=by kernel_rfl
theorem F107_r3 {e:Env} {x0:Int} {x3:OA} {hp:HP} {K:Env→PV→HP→Prop}:RW Tryd.prog 17 [] (opsAt Tryd.f107 (pth 5)) [0,3,8,9,10,1,2,4,5,6,7,11,12] (w2 e 3 (sP x3) 0 (sI x0)) V0 hp K=
    (ptrN x3 fun b1 o2=>ptrN x3 fun b3 o4=>rdS Tryd.prog (convert 199 9 (.slice (some ⟨b3,(o4+0),none⟩) 16 16)) hp fun u5=>strV u5 fun s6=>CF Tryd.prog 116 [(.int .i64 x0)] hp fun u7 h8=>strV u7 fun s9=>(ByteArray.size s9+ByteArray.size (⟨#[32]⟩:ByteArray)≤9223372036854775807)∧(ldV (HP.cell h8 b1 (o2+16)) fun v10=>intV v10 .i64 fun i11=>CF Tryd.prog 116 [(.int .i64 i11)] h8 fun u12 h13=>strV u12 fun s14=>(ByteArray.size (s9++(⟨#[32]⟩:ByteArray))+ByteArray.size s14≤9223372036854775807)∧((ByteArray.size ((s9++(⟨#[32]⟩:ByteArray))++s14)+ByteArray.size (⟨#[32]⟩:ByteArray)≤9223372036854775807)∧((ByteArray.size (((s9++(⟨#[32]⟩:ByteArray))++s14)++(⟨#[32]⟩:ByteArray))+ByteArray.size s6≤9223372036854775807)∧(K (w7 (w8 e 3 (sP x3) 0 (sI x0) 5 (sI x0) 8 (sQ b1 (o2+16)) 13 (sQ b3 (o4+0)) 14 (sV (.slice (some ⟨b3,(o4+0),none⟩) 16 16)) 15 (sT s6) 6 (sT s9)) 7 (sV (.string (s9++(⟨#[32]⟩:ByteArray)))) 9 (sI i11) 10 (sT s14) 11 (sV (.string ((s9++(⟨#[32]⟩:ByteArray))++s14))) 12 (sV (.string (((s9++(⟨#[32]⟩:ByteArray))++s14)++(⟨#[32]⟩:ByteArray)))) 16 (sV (.string ((((s9++(⟨#[32]⟩:ByteArray))++s14)++(⟨#[32]⟩:ByteArray))++s6))) 4 (sV (.string ((((s9++(⟨#[32]⟩:ByteArray))++s14)++(⟨#[32]⟩:ByteArray))++s6)))) V0 h13))))):=by kernel_rfl
theorem F107_r4 {e:Env} {x0:Int} {x3:OA} {hp:HP} {K:Env→PV→HP→Prop}:RW Tryd.prog 17 [] (opsAt Tryd.f107 (pth 5)) [0,3,4,1,2,5,6,7,8,9,10,11,12] (w2 e 3 (sP x3) 0 (sI x0)) V0 hp K=
    (ptrN x3 fun b1 o2=>ldV (HP.cell hp b1 (o2+16)) fun v3=>intV v3 .i64 fun i4=>CF Tryd.prog 116 [(.int .i64 x0)] hp fun u5 h6=>strV u5 fun s7=>(ByteArray.size s7+ByteArray.size (⟨#[32]⟩:ByteArray)≤9223372036854775807)∧(CF Tryd.prog 116 [(.int .i64 i4)] h6 fun u8 h9=>strV u8 fun s10=>(ByteArray.size (s7++(⟨#[32]⟩:ByteArray))+ByteArray.size s10≤9223372036854775807)∧((ByteArray.size ((s7++(⟨#[32]⟩:ByteArray))++s10)+ByteArray.size (⟨#[32]⟩:ByteArray)≤9223372036854775807)∧(ptrN x3 fun b11 o12=>rdS Tryd.prog (convert 199 9 (.slice (some ⟨b11,(o12+0),none⟩) 16 16)) h9 fun u13=>strV u13 fun s14=>(ByteArray.size (((s7++(⟨#[32]⟩:ByteArray))++s10)++(⟨#[32]⟩:ByteArray))+ByteArray.size s14≤9223372036854775807)∧(K (w7 (w8 e 3 (sP x3) 0 (sI x0) 5 (sI x0) 8 (sQ b1 (o2+16)) 9 (sI i4) 6 (sT s7) 7 (sV (.string (s7++(⟨#[32]⟩:ByteArray)))) 10 (sT s10)) 11 (sV (.string ((s7++(⟨#[32]⟩:ByteArray))++s10))) 12 (sV (.string (((s7++(⟨#[32]⟩:ByteArray))++s10)++(⟨#[32]⟩:ByteArray)))) 13 (sQ b11 (o12+0)) 14 (sV (.slice (some ⟨b11,(o12+0),none⟩) 16 16)) 15 (sT s14) 16 (sV (.string ((((s7++(⟨#[32]⟩:ByteArray))++s10)++(⟨#[32]⟩:ByteArray))++s14))) 4 (sV (.string ((((s7++(⟨#[32]⟩:ByteArray))++s10)++(⟨#[32]⟩:ByteArray))++s14)))) V0 h9))))):=by kernel_rfl
theorem F107_r5 {e:Env} {x0:Int} {x3:OA} {hp:HP} {K:Env→PV→HP→Prop}:RW Tryd.prog 17 [] (opsAt Tryd.f107 (pth 5)) [0,3,4,1,2,8,9,10,5,6,7,11,12] (w2 e 3 (sP x3) 0 (sI x0)) V0 hp K=
    (ptrN x3 fun b1 o2=>ldV (HP.cell hp b1 (o2+16)) fun v3=>intV v3 .i64 fun i4=>CF Tryd.prog 116 [(.int .i64 x0)] hp fun u5 h6=>strV u5 fun s7=>(ByteArray.size s7+ByteArray.size (⟨#[32]⟩:ByteArray)≤9223372036854775807)∧(ptrN x3 fun b8 o9=>rdS Tryd.prog (convert 199 9 (.slice (some ⟨b8,(o9+0),none⟩) 16 16)) h6 fun u10=>strV u10 fun s11=>CF Tryd.prog 116 [(.int .i64 i4)] h6 fun u12 h13=>strV u12 fun s14=>(ByteArray.size (s7++(⟨#[32]⟩:ByteArray))+ByteArray.size s14≤9223372036854775807)∧((ByteArray.size ((s7++(⟨#[32]⟩:ByteArray))++s14)+ByteArray.size (⟨#[32]⟩:ByteArray)≤9223372036854775807)∧((ByteArray.size (((s7++(⟨#[32]⟩:ByteArray))++s14)++(⟨#[32]⟩:ByteArray))+ByteArray.size s11≤9223372036854775807)∧(K (w7 (w8 e 3 (sP x3) 0 (sI x0) 5 (sI x0) 8 (sQ b1 (o2+16)) 9 (sI i4) 6 (sT s7) 7 (sV (.string (s7++(⟨#[32]⟩:ByteArray)))) 13 (sQ b8 (o9+0))) 14 (sV (.slice (some ⟨b8,(o9+0),none⟩) 16 16)) 15 (sT s11) 10 (sT s14) 11 (sV (.string ((s7++(⟨#[32]⟩:ByteArray))++s14))) 12 (sV (.string (((s7++(⟨#[32]⟩:ByteArray))++s14)++(⟨#[32]⟩:ByteArray)))) 16 (sV (.string ((((s7++(⟨#[32]⟩:ByteArray))++s14)++(⟨#[32]⟩:ByteArray))++s11))) 4 (sV (.string ((((s7++(⟨#[32]⟩:ByteArray))++s14)++(⟨#[32]⟩:ByteArray))++s11)))) V0 h13))))):=by kernel_rfl
theorem F107_r6 {e:Env} {x0:Int} {x3:OA} {hp:HP} {K:Env→PV→HP→Prop}:RW Tryd.prog 17 [] (opsAt Tryd.f107 (pth 5)) [0,3,4,8,9,10,1,2,5,6,7,11,12] (w2 e 3 (sP x3) 0 (sI x0)) V0 hp K=
    (ptrN x3 fun b1 o2=>ldV (HP.cell hp b1 (o2+16)) fun v3=>intV v3 .i64 fun i4=>ptrN x3 fun b5 o6=>rdS Tryd.prog (convert 199 9 (.slice (some ⟨b5,(o6+0),none⟩) 16 16)) hp fun u7=>strV u7 fun s8=>CF Tryd.prog 116 [(.int .i64 x0)] hp fun u9 h10=>strV u9 fun s11=>(ByteArray.size s11+ByteArray.size (⟨#[32]⟩:ByteArray)≤9223372036854775807)∧(CF Tryd.prog 116 [(.int .i64 i4)] h10 fun u12 h13=>strV u12 fun s14=>(ByteArray.size (s11++(⟨#[32]⟩:ByteArray))+ByteArray.size s14≤9223372036854775807)∧((ByteArray.size ((s11++(⟨#[32]⟩:ByteArray))++s14)+ByteArray.size (⟨#[32]⟩:ByteArray)≤9223372036854775807)∧((ByteArray.size (((s11++(⟨#[32]⟩:ByteArray))++s14)++(⟨#[32]⟩:ByteArray))+ByteArray.size s8≤9223372036854775807)∧(K (w7 (w8 e 3 (sP x3) 0 (sI x0) 5 (sI x0) 8 (sQ b1 (o2+16)) 9 (sI i4) 13 (sQ b5 (o6+0)) 14 (sV (.slice (some ⟨b5,(o6+0),none⟩) 16 16)) 15 (sT s8)) 6 (sT s11) 7 (sV (.string (s11++(⟨#[32]⟩:ByteArray)))) 10 (sT s14) 11 (sV (.string ((s11++(⟨#[32]⟩:ByteArray))++s14))) 12 (sV (.string (((s11++(⟨#[32]⟩:ByteArray))++s14)++(⟨#[32]⟩:ByteArray)))) 16 (sV (.string ((((s11++(⟨#[32]⟩:ByteArray))++s14)++(⟨#[32]⟩:ByteArray))++s8))) 4 (sV (.string ((((s11++(⟨#[32]⟩:ByteArray))++s14)++(⟨#[32]⟩:ByteArray))++s8)))) V0 h13))))):=by kernel_rfl
def F107 (x0:Int) (x1:List Value) (hp:HP) (K:Kh):Prop:=
  (∀ b1:Nat,hp b1=.none→((CF Tryd.prog 116 [(.int .i64 x0)] (HP.set hp b1 (.cells 32 x1 0)) fun u2 h3=>strV u2 fun s4=>(ByteArray.size s4+ByteArray.size (⟨#[32]⟩:ByteArray)≤9223372036854775807)∧(ptrN (some ⟨b1,0,none⟩) fun b5 o6=>ldV (HP.cell h3 b5 (o6+16)) fun v7=>intV v7 .i64 fun i8=>CF Tryd.prog 116 [(.int .i64 i8)] h3 fun u9 h10=>strV u9 fun s11=>(ByteArray.size (s4++(⟨#[32]⟩:ByteArray))+ByteArray.size s11≤9223372036854775807)∧((ByteArray.size ((s4++(⟨#[32]⟩:ByteArray))++s11)+ByteArray.size (⟨#[32]⟩:ByteArray)≤9223372036854775807)∧(ptrN (some ⟨b1,0,none⟩) fun b12 o13=>rdS Tryd.prog (convert 199 9 (.slice (some ⟨b12,(o13+0),none⟩) 16 16)) h10 fun u14=>strV u14 fun s15=>(ByteArray.size (((s4++(⟨#[32]⟩:ByteArray))++s11)++(⟨#[32]⟩:ByteArray))+ByteArray.size s15≤9223372036854775807)∧(K (.string ((((s4++(⟨#[32]⟩:ByteArray))++s11)++(⟨#[32]⟩:ByteArray))++s15)) h10)))))∧(CF Tryd.prog 116 [(.int .i64 x0)] (HP.set hp b1 (.cells 32 x1 0)) fun u16 h17=>strV u16 fun s18=>(ByteArray.size s18+ByteArray.size (⟨#[32]⟩:ByteArray)≤9223372036854775807)∧(ptrN (some ⟨b1,0,none⟩) fun b19 o20=>ldV (HP.cell h17 b19 (o20+16)) fun v21=>intV v21 .i64 fun i22=>ptrN (some ⟨b1,0,none⟩) fun b23 o24=>rdS Tryd.prog (convert 199 9 (.slice (some ⟨b23,(o24+0),none⟩) 16 16)) h17 fun u25=>strV u25 fun s26=>CF Tryd.prog 116 [(.int .i64 i22)] h17 fun u27 h28=>strV u27 fun s29=>(ByteArray.size (s18++(⟨#[32]⟩:ByteArray))+ByteArray.size s29≤9223372036854775807)∧((ByteArray.size ((s18++(⟨#[32]⟩:ByteArray))++s29)+ByteArray.size (⟨#[32]⟩:ByteArray)≤9223372036854775807)∧((ByteArray.size (((s18++(⟨#[32]⟩:ByteArray))++s29)++(⟨#[32]⟩:ByteArray))+ByteArray.size s26≤9223372036854775807)∧(K (.string ((((s18++(⟨#[32]⟩:ByteArray))++s29)++(⟨#[32]⟩:ByteArray))++s26)) h28)))))∧(ptrN (some ⟨b1,0,none⟩) fun b30 o31=>ptrN (some ⟨b1,0,none⟩) fun b32 o33=>rdS Tryd.prog (convert 199 9 (.slice (some ⟨b32,(o33+0),none⟩) 16 16)) (HP.set hp b1 (.cells 32 x1 0)) fun u34=>strV u34 fun s35=>CF Tryd.prog 116 [(.int .i64 x0)] (HP.set hp b1 (.cells 32 x1 0)) fun u36 h37=>strV u36 fun s38=>(ByteArray.size s38+ByteArray.size (⟨#[32]⟩:ByteArray)≤9223372036854775807)∧(ldV (HP.cell h37 b30 (o31+16)) fun v39=>intV v39 .i64 fun i40=>CF Tryd.prog 116 [(.int .i64 i40)] h37 fun u41 h42=>strV u41 fun s43=>(ByteArray.size (s38++(⟨#[32]⟩:ByteArray))+ByteArray.size s43≤9223372036854775807)∧((ByteArray.size ((s38++(⟨#[32]⟩:ByteArray))++s43)+ByteArray.size (⟨#[32]⟩:ByteArray)≤9223372036854775807)∧((ByteArray.size (((s38++(⟨#[32]⟩:ByteArray))++s43)++(⟨#[32]⟩:ByteArray))+ByteArray.size s35≤9223372036854775807)∧(K (.string ((((s38++(⟨#[32]⟩:ByteArray))++s43)++(⟨#[32]⟩:ByteArray))++s35)) h42)))))∧(ptrN (some ⟨b1,0,none⟩) fun b44 o45=>ldV (HP.cell (HP.set hp b1 (.cells 32 x1 0)) b44 (o45+16)) fun v46=>intV v46 .i64 fun i47=>CF Tryd.prog 116 [(.int .i64 x0)] (HP.set hp b1 (.cells 32 x1 0)) fun u48 h49=>strV u48 fun s50=>(ByteArray.size s50+ByteArray.size (⟨#[32]⟩:ByteArray)≤9223372036854775807)∧(CF Tryd.prog 116 [(.int .i64 i47)] h49 fun u51 h52=>strV u51 fun s53=>(ByteArray.size (s50++(⟨#[32]⟩:ByteArray))+ByteArray.size s53≤9223372036854775807)∧((ByteArray.size ((s50++(⟨#[32]⟩:ByteArray))++s53)+ByteArray.size (⟨#[32]⟩:ByteArray)≤9223372036854775807)∧(ptrN (some ⟨b1,0,none⟩) fun b54 o55=>rdS Tryd.prog (convert 199 9 (.slice (some ⟨b54,(o55+0),none⟩) 16 16)) h52 fun u56=>strV u56 fun s57=>(ByteArray.size (((s50++(⟨#[32]⟩:ByteArray))++s53)++(⟨#[32]⟩:ByteArray))+ByteArray.size s57≤9223372036854775807)∧(K (.string ((((s50++(⟨#[32]⟩:ByteArray))++s53)++(⟨#[32]⟩:ByteArray))++s57)) h52)))))∧(ptrN (some ⟨b1,0,none⟩) fun b58 o59=>ldV (HP.cell (HP.set hp b1 (.cells 32 x1 0)) b58 (o59+16)) fun v60=>intV v60 .i64 fun i61=>CF Tryd.prog 116 [(.int .i64 x0)] (HP.set hp b1 (.cells 32 x1 0)) fun u62 h63=>strV u62 fun s64=>(ByteArray.size s64+ByteArray.size (⟨#[32]⟩:ByteArray)≤9223372036854775807)∧(ptrN (some ⟨b1,0,none⟩) fun b65 o66=>rdS Tryd.prog (convert 199 9 (.slice (some ⟨b65,(o66+0),none⟩) 16 16)) h63 fun u67=>strV u67 fun s68=>CF Tryd.prog 116 [(.int .i64 i61)] h63 fun u69 h70=>strV u69 fun s71=>(ByteArray.size (s64++(⟨#[32]⟩:ByteArray))+ByteArray.size s71≤9223372036854775807)∧((ByteArray.size ((s64++(⟨#[32]⟩:ByteArray))++s71)+ByteArray.size (⟨#[32]⟩:ByteArray)≤9223372036854775807)∧((ByteArray.size (((s64++(⟨#[32]⟩:ByteArray))++s71)++(⟨#[32]⟩:ByteArray))+ByteArray.size s68≤9223372036854775807)∧(K (.string ((((s64++(⟨#[32]⟩:ByteArray))++s71)++(⟨#[32]⟩:ByteArray))++s68)) h70)))))∧(ptrN (some ⟨b1,0,none⟩) fun b72 o73=>ldV (HP.cell (HP.set hp b1 (.cells 32 x1 0)) b72 (o73+16)) fun v74=>intV v74 .i64 fun i75=>ptrN (some ⟨b1,0,none⟩) fun b76 o77=>rdS Tryd.prog (convert 199 9 (.slice (some ⟨b76,(o77+0),none⟩) 16 16)) (HP.set hp b1 (.cells 32 x1 0)) fun u78=>strV u78 fun s79=>CF Tryd.prog 116 [(.int .i64 x0)] (HP.set hp b1 (.cells 32 x1 0)) fun u80 h81=>strV u80 fun s82=>(ByteArray.size s82+ByteArray.size (⟨#[32]⟩:ByteArray)≤9223372036854775807)∧(CF Tryd.prog 116 [(.int .i64 i75)] h81 fun u83 h84=>strV u83 fun s85=>(ByteArray.size (s82++(⟨#[32]⟩:ByteArray))+ByteArray.size s85≤9223372036854775807)∧((ByteArray.size ((s82++(⟨#[32]⟩:ByteArray))++s85)+ByteArray.size (⟨#[32]⟩:ByteArray)≤9223372036854775807)∧((ByteArray.size (((s82++(⟨#[32]⟩:ByteArray))++s85)++(⟨#[32]⟩:ByteArray))+ByteArray.size s79≤9223372036854775807)∧(K (.string ((((s82++(⟨#[32]⟩:ByteArray))++s85)++(⟨#[32]⟩:ByteArray))++s79)) h84)))))))
noncomputable def F107_code:Code:=(.seq (.region 0 (opsAt Tryd.f107 (pth 2)) false) (.seq (.region 1 (opsAt Tryd.f107 (pth 5)) true) .ret))
theorem F107_body:Tryd.f107.body=some F107_code:=by kernel_rfl
theorem F107_ok (x0:Int) (x1:List Value) (hp:HP) (K:Kh) (h:F107 x0 x1 hp K):CF Tryd.prog 107 [(.int .i64 x0),(.agg ⟨x1⟩)] hp K:=by
 refine .inl ⟨by kernel_rfl,AC.intro (N:=17) Tryd.func107 F107_body rfl (Nat.le_of_ble_eq_true rfl) ?_⟩
 unfold F107 at h
 refine Ar F107_r0 ?_ (r2 1 0 Rn) (z2 Sn) Sn
 refine fun b1 hb_b_1=>?_
 replace h:=h b1 hb_b_1
 refine Aq (AWP.rgnC (cf:=[(1,4),(1,10),(5,10)]) (c:=[([true,true,true],true,[0,1,2,3,4,5,6,7,8,9,10,11,12]),([true,true,false],true,[0,1,2,3,4,8,9,10,5,6,7,11,12]),([true,false,true],false,[1,4,5,10,1]),([true,false,false],true,[0,3,8,9,10,1,2,4,5,6,7,11,12]),([false,true,true],true,[0,3,4,1,2,5,6,7,8,9,10,11,12]),([false,true,false],true,[0,3,4,1,2,8,9,10,5,6,7,11,12]),([false,false,true],false,[1,5,10,1]),([false,false,false],true,[0,3,4,8,9,10,1,2,5,6,7,11,12])]) (by kernel_rfl) (by kernel_rfl) (by kernel_rfl) (by kernel_rfl) (allO_t (Eq.mpr F107_r1 ?_) (allO_t (Eq.mpr F107_r2 ?_) (allO_f (allO_t (Eq.mpr F107_r3 ?_) (allO_t (Eq.mpr F107_r4 ?_) (allO_t (Eq.mpr F107_r5 ?_) (allO_f (allO_t (Eq.mpr F107_r6 ?_) trivial)))))))) (r2 0 3 Rn) (z2 Sn) Sn)
 ·replace h:=h.1
  refine mC h (fun u2 h3 h=>ms h (fun s4 h=>⟨h.1,mN h.2 (fun b5 o6 h=>mV h (fun v7 h=>mI h (fun i8 h=>mC h (fun u9 h10 h=>ms h (fun s11 h=>⟨h.1,?_⟩)))))⟩))
  replace h:=h.2
  refine ⟨h.1,mN h.2 (fun b12 o13 h=>mR h (fun u14 h=>ms h (fun s15 h=>⟨h.1,?_⟩)))⟩
  replace h:=h.2
  refine AWP.ret ?_
  exact h
 ·replace h:=h.2.1
  refine mC h (fun u16 h17 h=>ms h (fun s18 h=>⟨h.1,mN h.2 (fun b19 o20 h=>mV h (fun v21 h=>mI h (fun i22 h=>mN h (fun b23 o24 h=>mR h (fun u25 h=>ms h (fun s26 h=>mC h (fun u27 h28 h=>ms h (fun s29 h=>⟨h.1,?_⟩))))))))⟩))
  replace h:=h.2
  refine ⟨h.1,?_⟩
  replace h:=h.2
  refine ⟨h.1,?_⟩
  replace h:=h.2
  refine AWP.ret ?_
  exact h
 ·replace h:=h.2.2.1
  refine mN h (fun b30 o31 h=>mN h (fun b32 o33 h=>mR h (fun u34 h=>ms h (fun s35 h=>mC h (fun u36 h37 h=>ms h (fun s38 h=>⟨h.1,mV h.2 (fun v39 h=>mI h (fun i40 h=>mC h (fun u41 h42 h=>ms h (fun s43 h=>⟨h.1,?_⟩))))⟩))))))
  replace h:=h.2
  refine ⟨h.1,?_⟩
  replace h:=h.2
  refine ⟨h.1,?_⟩
  replace h:=h.2
  refine AWP.ret ?_
  exact h
 ·replace h:=h.2.2.2.1
  refine mN h (fun b44 o45 h=>mV h (fun v46 h=>mI h (fun i47 h=>mC h (fun u48 h49 h=>ms h (fun s50 h=>⟨h.1,mC h.2 (fun u51 h52 h=>ms h (fun s53 h=>⟨h.1,?_⟩))⟩)))))
  replace h:=h.2
  refine ⟨h.1,mN h.2 (fun b54 o55 h=>mR h (fun u56 h=>ms h (fun s57 h=>⟨h.1,?_⟩)))⟩
  replace h:=h.2
  refine AWP.ret ?_
  exact h
 ·replace h:=h.2.2.2.2.1
  refine mN h (fun b58 o59 h=>mV h (fun v60 h=>mI h (fun i61 h=>mC h (fun u62 h63 h=>ms h (fun s64 h=>⟨h.1,mN h.2 (fun b65 o66 h=>mR h (fun u67 h=>ms h (fun s68 h=>mC h (fun u69 h70 h=>ms h (fun s71 h=>⟨h.1,?_⟩)))))⟩)))))
  replace h:=h.2
  refine ⟨h.1,?_⟩
  replace h:=h.2
  refine ⟨h.1,?_⟩
  replace h:=h.2
  refine AWP.ret ?_
  exact h
 ·replace h:=h.2.2.2.2.2
  refine mN h (fun b72 o73 h=>mV h (fun v74 h=>mI h (fun i75 h=>mN h (fun b76 o77 h=>mR h (fun u78 h=>ms h (fun s79 h=>mC h (fun u80 h81 h=>ms h (fun s82 h=>⟨h.1,mC h.2 (fun u83 h84 h=>ms h (fun s85 h=>⟨h.1,?_⟩))⟩))))))))
  replace h:=h.2
  refine ⟨h.1,?_⟩
  replace h:=h.2
  refine ⟨h.1,?_⟩
  replace h:=h.2
  refine AWP.ret ?_
  exact h
end
section
variable {e E:Env} {x0a:OA} {x0n x0c:Nat} {x1 x5 x7 x8:Int} {hp:HP} {K:Env→PV→HP→Prop}
abbrev R112 (p n:Nat):=RW Tryd.prog 19 [] (opsAt Tryd.f112 (pth p)) (List.range n)
theorem F112_r0:R112 2 1 e V0 hp K=
 K (upd e 4 (sI 0)) V0 hp:= by kernel_rfl
theorem F112_r1:R112 69 1 (w2 e 8 (sI x8) 7 (sI x7)) V0 hp K=
 K (w3 e 8 (sI x8) 7 (sI x7) 9 (sB (decide (x8<x7)))) V0 hp:= by kernel_rfl
theorem F112_r2:R112 1125 2 (upd e 8 (sI x8)) V0 hp K=
 K (w3 e 8 (sI x8) 10 (sI x8) 5 (sI x8)) V0 hp:= by kernel_rfl
theorem F112_r3 (h:E=upd (w2 e 5 (sI x5) 1 (sI x1)) 0 (sS x0a x0n x0c)):R112 2661 6 E V0 hp K=
    ((0≤x5)∧(x5<x0n)∧(ptrN x0a fun b1 o2=>ldV (HP.cell hp b1 (o2+Int.toNat x5*1)) fun v3=>intV v3 .i64 fun i4=>K (w6 E 11 (sI x1) 12 (sS x0a x0n x0c) 13 (sI x5) 14 (sQ b1 (o2+Int.toNat x5*1)) 15 (sI i4) 16 (sB ((x1==i4)))) V0 hp)):=by subst h; kernel_rfl
theorem F112_r4:R112 9829 2 (upd e 5 (sI x5)) V0 hp K=
 K (w3 e 5 (sI x5) 17 (sI x5) 4 (sI x5)) V0 hp:= by kernel_rfl
theorem F112_r5:R112 485 2 (upd e 8 (sI x8)) V0 hp K=
 K (w3 e 8 (sI x8) 18 (sI ((wr (x8+1)))) 8 (sI ((wr (x8+1))))) V0 hp:= by kernel_rfl
theorem F112_r6:R112 11 1 e V0 hp K=
 K (upd e 4 (sI ((-1)))) V0 hp:= by kernel_rfl
def F112_l2 (x0a:OA) (x0n x0c:Nat) (x1 x7:Int) (K:Kh) (I2:(Int)→HP→Prop) (x8:Int) (hp:HP):Prop:=
  (ite2 (decide (x8<x7)) ((0≤x8)∧(x8<x0n)∧(ptrN x0a fun b1 o2=>ldV (HP.cell hp b1 (o2+Int.toNat x8*1)) fun v3=>intV v3 .i64 fun i4=>ite2 (x1==i4) (K (.int .i64 x8) hp) (I2 (IntKind.wrap .i64 (x8+1)) hp))) (K (.int .i64 (-1)) hp))
def F112_j1 (x0a:OA) (x0n x0c:Nat) (x1 x7 x8:Int) (hp:HP) (K:Kh):Prop:=
  (LoopP (σ:=Int) (fun I s hp=>F112_l2 x0a x0n x0c x1 x7  K I s hp) x8 hp)
theorem F112_r7:R112 9 3 (upd e 0 (sS x0a x0n x0c)) V0 hp K=
 K (w4 e 0 (sS x0a x0n x0c) 6 (sS x0a x0n x0c) 7 (sI ((x0n:Nat))) 8 (sI 0)) V0 hp:= by kernel_rfl
def F112 (x0a:OA) (x0n x0c:Nat) (x1:Int) (hp:HP) (K:Kh):Prop:=
  (F112_j1 x0a x0n x0c x1 (x0n:Nat) 0 hp  K)
noncomputable abbrev o112 (k n:Nat):Code:=.region k (opsAt Tryd.f112 (pth n)) false
noncomputable def F112_code:Code:=(.seq (o112 0 2) (.seq (.seq (o112 1 9) (.block 0 (.loop (.seq (o112 2 69) (.seq (.cond (.tmp 9) .skip (.exit 0)) (.seq (.block 1 (.seq (o112 3 1125) (.seq (o112 4 2661) (.cond (.tmp 16) (.seq (o112 5 9829) .ret) .skip)))) (o112 6 485))))))) (.seq (o112 7 11) .ret)))
theorem F112_body:Tryd.f112.body=some F112_code:=by kernel_rfl
theorem F112_ok (x0a:OA) (x0n x0c:Nat) (x1:Int) (hp:HP) (K:Kh) (h:F112 x0a x0n x0c x1 hp K):CF Tryd.prog 112 [(.slice x0a x0n x0c),(.int .i64 x1)] hp K:=by
 refine .inl ⟨by kernel_rfl,AC.intro (N:=19) Tryd.func112 F112_body rfl (Nat.le_of_ble_eq_true rfl) ?_⟩
 unfold F112 at h
 refine Ar F112_r0 ?_ (r2 0 1 Rn) (z2 Sn) Sn
 refine Aq (As (fun env pv hp=>∃ x0a x0n x0c x1 x7 x8,Sub (w4 E0 8 (sI x8) 7 (sI x7) 1 (sI x1) 0 (sS x0a x0n x0c)) env∧Sub V0 pv∧F112_j1 x0a x0n x0c x1 x7 x8 hp  K) ?_ ?_)
 ·refine Ag F112_r7 ?_ (r2 0 1 Rn) (z2 Sn) Sn
  exact ⟨_,_,_,_,_,_,(z4 Sn),Sn,h⟩
 ·rintro env pv hp ⟨x0a,x0n,x0c,x1,x7,x8,he,hv,h⟩
  refine Ae ?_ (r4 0 1 7 8 Rn) he hv
  unfold F112_j1 at h
  refine AWP.block (AWP.loop (σ:=Int) _ (fun s=>w4 E0 8 (sI s) 7 (sI x7) 1 (sI x1) 0 (sS x0a x0n x0c)) (fun s=>V0) x8 h (fun s=>r4 0 1 7 8 Rn) (z4 Sn) Sn ?_)
  intro I2 x8 hp h
  replace h:F112_l2 x0a x0n x0c x1 x7  K I2 x8 hp:=h
  unfold F112_l2 at h
  refine Ar F112_r1 ?_ (r4 7 8 0 1 Rn) (z4 Sn) Sn
  refine Aq (Ac h rfl (fun h=>?_) (fun h=>?_))
  ·refine AWP.skip (Aq (AWP.block (Ar F112_r2 ?_ (r4 8 0 1 7 Rn) (z4 Sn) Sn)))
   refine Ar (F112_r3 rfl) ?_ (r5 0 1 5 7 8 Rn) (z5 Sn) Sn
   refine ⟨h.1,h.2.1,mN h.2.2 fun b1 o2 h=>mV h fun v3 h=>mI h fun i4 h=>?_⟩
   refine Ac h rfl (fun h=>?_) (fun h=>?_)
   ·refine Ar F112_r4 ?_ (r1 5 Rn) (z1 Sn) Sn
    refine AWP.ret ?_
    exact h
   ·refine AWP.skip (Ag F112_r5 ?_ (r4 8 0 1 7 Rn) (z4 Sn) Sn)
    exact ⟨_,(z4 Sn),Sn,h⟩
  ·refine AWP.exit ?_
   refine Ar F112_r6 ?_ Rn Sn Sn
   refine AWP.ret ?_
   exact h
end
section
variable {e:Env} {x0:OA} {x2 k5 k6:List Value} {hp:HP} {K:Env→PV→HP→Prop}
abbrev R65 (p n:Nat):=RW Tryd.prog 25 [5,6] (opsAt Tryd.f65 (pth p)) (List.range n)
theorem F65_r0:R65 2 3 (upd e 2 (sA x2)) V0 hp K=
 K (w4 e 2 (sA x2) 5 (sR 5 0) 6 (sR 6 0) 7 (sB false)) (w2 V0 5 (32,x2) 6 (36,[.int .i64 0,.int .i64 0,.int .u8 0,.int .u8 0,.int .u8 0,.int .u8 0,.int .u8 0,.int .u8 0,.int .u8 0,.int .u8 0,.int .u8 0,.int .u8 0,.int .u8 0,.int .u8 0,.int .u8 0,.int .u8 0,.int .u8 0,.int .u8 0,.int .i64 0,.int .u8 0,.int .u8 0,.int .u8 0,.int .u8 0,.int .i64 0,.bool false,.int .i64 0])) hp:= by kernel_rfl
theorem F65_r1:R65 9 2 (upd e 0 (sP x0)) (w2 V0 6 (36,k6) 5 (32,k5)) hp K=
 CF Tryd.prog 71 [(.pointer x0)] hp fun u1 h2=>(boolV u1 fun q3=>K (w3 e 0 (sP x0) 8 (sP x0) 9 (sB q3)) (w2 V0 6 (36,k6) 5 (32,k5)) h2):= by kernel_rfl
theorem F65_r2:R65 37 3 (upd e 6 (sR 6 0)) (upd V0 6 (36,k6)) hp K=
    (if List.length [(Value.int .i64 0),.int .i64 0,.int .u8 0,.int .u8 0,.int .u8 0,.int .u8 0,.int .u8 0,.int .u8 0,.int .u8 0,.int .u8 0,.int .u8 0,.int .u8 0,.int .u8 0,.int .u8 0,.int .u8 0,.int .u8 0,.int .u8 0,.int .u8 0,.int .i64 0,.int .u8 0,.int .u8 0,.int .u8 0,.int .u8 0,.int .i64 0,.bool false,.int .i64 0]=26 then (if List.all [(Value.int .i64 0),.int .i64 0,.int .u8 0,.int .u8 0,.int .u8 0,.int .u8 0,.int .u8 0,.int .u8 0,.int .u8 0,.int .u8 0,.int .u8 0,.int .u8 0,.int .u8 0,.int .u8 0,.int .u8 0,.int .u8 0,.int .u8 0,.int .u8 0,.int .i64 0,.int .u8 0,.int .u8 0,.int .u8 0,.int .u8 0,.int .i64 0,.bool false,.int .i64 0] one=true then (if 0+List.length [(Value.int .i64 0),.int .i64 0,.int .u8 0,.int .u8 0,.int .u8 0,.int .u8 0,.int .u8 0,.int .u8 0,.int .u8 0,.int .u8 0,.int .u8 0,.int .u8 0,.int .u8 0,.int .u8 0,.int .u8 0,.int .u8 0,.int .u8 0,.int .u8 0,.int .i64 0,.int .u8 0,.int .u8 0,.int .u8 0,.int .u8 0,.int .i64 0,.bool false,.int .i64 0]≤List.length k6 then (K (w3 e 6 (sR 6 0) 10 (sV (.agg ⟨[.int .i64 0,.int .i64 0,.int .u8 0,.int .u8 0,.int .u8 0,.int .u8 0,.int .u8 0,.int .u8 0,.int .u8 0,.int .u8 0,.int .u8 0,.int .u8 0,.int .u8 0,.int .u8 0,.int .u8 0,.int .u8 0,.int .u8 0,.int .u8 0,.int .i64 0,.int .u8 0,.int .u8 0,.int .u8 0,.int .u8 0,.int .i64 0,.bool false,.int .i64 0]⟩)) 7 (sB false)) (w2 V0 6 (36,k6) 6 (36,(splice k6 0 [.int .i64 0,.int .i64 0,.int .u8 0,.int .u8 0,.int .u8 0,.int .u8 0,.int .u8 0,.int .u8 0,.int .u8 0,.int .u8 0,.int .u8 0,.int .u8 0,.int .u8 0,.int .u8 0,.int .u8 0,.int .u8 0,.int .u8 0,.int .u8 0,.int .i64 0,.int .u8 0,.int .u8 0,.int .u8 0,.int .u8 0,.int .i64 0,.bool false,.int .i64 0]))) hp) else False) else False) else False):=by kernel_rfl
theorem F65_r3 {e:Env} {x0:OA} {x1:Int} {k5:List Value} {k6:List Value} {hp:HP} {K:Env→PV→HP→Prop}:RW Tryd.prog 25 [5,6] (opsAt Tryd.f65 (pth 11)) [0,1,2,3,4,5,6,7,8,9,10,11,12,13,14,15] (w4 e 6 (sR 6 0) 5 (sR 5 0) 1 (sI x1) 0 (sP x0)) (w2 V0 6 (36,k6) 5 (32,k5)) hp K=
 ptrN x0 fun b1 o2=>(ldV (HP.cell hp b1 (o2+7)) fun v3=>ptrV v3 fun p4=>ldL (cellsN k5 0 17) fun l5=>CF Tryd.prog 107 [(.int .i64 x1),(.agg ⟨l5⟩)] hp fun u6 h7=>strV u6 fun s8=>CF Tryd.prog 84 [(.pointer p4),(.string s8)] h7 fun u9 h10=>tup2V u9 fun u11 u12=>intV u11 .i64 fun i13=>boolV u12 fun q14=>CF Tryd.prog 81 [(.pointer x0),(.int .i64 i13),(.bool q14)] h10 fun u15 h16=>tup2V u15 fun u17 u18=>aggV u17 fun l19=>boolV u18 fun q20=>if List.length l19=26 then (if List.all l19 one=true then (if 0+List.length l19≤List.length k6 then (K (w3 (w8 (w8 e 6 (sR 6 0) 5 (sR 5 0) 1 (sI x1) 0 (sP x0) 11 (sP x0) 12 (sP x0) 13 (sQ b1 o2) 14 (sQ b1 (o2+7))) 15 (sP p4) 16 (sI x1) 17 (sA l5) 18 (sT s8) 19 (sV (.tuple ⟨[(.int .i64 i13),(.bool q14)]⟩)) 20 (sI i13) 21 (sB q14) 22 (sV (.tuple ⟨[(.agg ⟨l19⟩),(.bool q20)]⟩))) 23 (sA l19) 24 (sB q20) 7 (sB q20)) (w3 V0 6 (36,k6) 5 (32,k5) 6 (36,(splice k6 0 l19))) h16) else False) else False) else False):= by kernel_rfl
theorem F65_r4 {e:Env} {x0:OA} {x1:Int} {k5:List Value} {k6:List Value} {hp:HP} {K:Env→PV→HP→Prop}:RW Tryd.prog 25 [5,6] (opsAt Tryd.f65 (pth 11)) [0,1,2,3,5,6,7,4,8,9,10,11,12,13,14,15] (w4 e 6 (sR 6 0) 5 (sR 5 0) 1 (sI x1) 0 (sP x0)) (w2 V0 6 (36,k6) 5 (32,k5)) hp K=
 ptrN x0 fun b1 o2=>(ldL (cellsN k5 0 17) fun l3=>CF Tryd.prog 107 [(.int .i64 x1),(.agg ⟨l3⟩)] hp fun u4 h5=>strV u4 fun s6=>ldV (HP.cell h5 b1 (o2+7)) fun v7=>ptrV v7 fun p8=>CF Tryd.prog 84 [(.pointer p8),(.string s6)] h5 fun u9 h10=>tup2V u9 fun u11 u12=>intV u11 .i64 fun i13=>boolV u12 fun q14=>CF Tryd.prog 81 [(.pointer x0),(.int .i64 i13),(.bool q14)] h10 fun u15 h16=>tup2V u15 fun u17 u18=>aggV u17 fun l19=>boolV u18 fun q20=>if List.length l19=26 then (if List.all l19 one=true then (if 0+List.length l19≤List.length k6 then (K (w3 (w8 (w8 e 6 (sR 6 0) 5 (sR 5 0) 1 (sI x1) 0 (sP x0) 11 (sP x0) 12 (sP x0) 13 (sQ b1 o2) 14 (sQ b1 (o2+7))) 16 (sI x1) 17 (sA l3) 18 (sT s6) 15 (sP p8) 19 (sV (.tuple ⟨[(.int .i64 i13),(.bool q14)]⟩)) 20 (sI i13) 21 (sB q14) 22 (sV (.tuple ⟨[(.agg ⟨l19⟩),(.bool q20)]⟩))) 23 (sA l19) 24 (sB q20) 7 (sB q20)) (w3 V0 6 (36,k6) 5 (32,k5) 6 (36,(splice k6 0 l19))) h16) else False) else False) else False):= by kernel_rfl
def F65 (x0:OA) (x1:Int) (x2:List Value) (hp:HP) (K:Kh):Prop:=
  (CF Tryd.prog 71 [(.pointer x0)] hp fun u1 h2=>boolV u1 fun q3=>ite2 q3 (if List.length [(Value.int .i64 0),.int .i64 0,.int .u8 0,.int .u8 0,.int .u8 0,.int .u8 0,.int .u8 0,.int .u8 0,.int .u8 0,.int .u8 0,.int .u8 0,.int .u8 0,.int .u8 0,.int .u8 0,.int .u8 0,.int .u8 0,.int .u8 0,.int .u8 0,.int .i64 0,.int .u8 0,.int .u8 0,.int .u8 0,.int .u8 0,.int .i64 0,.bool false,.int .i64 0]=26 then (if List.all [(Value.int .i64 0),.int .i64 0,.int .u8 0,.int .u8 0,.int .u8 0,.int .u8 0,.int .u8 0,.int .u8 0,.int .u8 0,.int .u8 0,.int .u8 0,.int .u8 0,.int .u8 0,.int .u8 0,.int .u8 0,.int .u8 0,.int .u8 0,.int .u8 0,.int .i64 0,.int .u8 0,.int .u8 0,.int .u8 0,.int .u8 0,.int .i64 0,.bool false,.int .i64 0] one=true then (if 0+List.length [(Value.int .i64 0),.int .i64 0,.int .u8 0,.int .u8 0,.int .u8 0,.int .u8 0,.int .u8 0,.int .u8 0,.int .u8 0,.int .u8 0,.int .u8 0,.int .u8 0,.int .u8 0,.int .u8 0,.int .u8 0,.int .u8 0,.int .u8 0,.int .u8 0,.int .i64 0,.int .u8 0,.int .u8 0,.int .u8 0,.int .u8 0,.int .i64 0,.bool false,.int .i64 0]≤List.length [(Value.int .i64 0),.int .i64 0,.int .u8 0,.int .u8 0,.int .u8 0,.int .u8 0,.int .u8 0,.int .u8 0,.int .u8 0,.int .u8 0,.int .u8 0,.int .u8 0,.int .u8 0,.int .u8 0,.int .u8 0,.int .u8 0,.int .u8 0,.int .u8 0,.int .i64 0,.int .u8 0,.int .u8 0,.int .u8 0,.int .u8 0,.int .i64 0,.bool false,.int .i64 0] then (ldL (cellsN (splice [.int .i64 0,.int .i64 0,.int .u8 0,.int .u8 0,.int .u8 0,.int .u8 0,.int .u8 0,.int .u8 0,.int .u8 0,.int .u8 0,.int .u8 0,.int .u8 0,.int .u8 0,.int .u8 0,.int .u8 0,.int .u8 0,.int .u8 0,.int .u8 0,.int .i64 0,.int .u8 0,.int .u8 0,.int .u8 0,.int .u8 0,.int .i64 0,.bool false,.int .i64 0] 0 [.int .i64 0,.int .i64 0,.int .u8 0,.int .u8 0,.int .u8 0,.int .u8 0,.int .u8 0,.int .u8 0,.int .u8 0,.int .u8 0,.int .u8 0,.int .u8 0,.int .u8 0,.int .u8 0,.int .u8 0,.int .u8 0,.int .u8 0,.int .u8 0,.int .i64 0,.int .u8 0,.int .u8 0,.int .u8 0,.int .u8 0,.int .i64 0,.bool false,.int .i64 0]) 0 26) fun l4=>K (.tuple ⟨[(.agg ⟨l4⟩),.bool false]⟩) h2) else False) else False) else False) ((ptrN x0 fun b5 o6=>ldV (HP.cell h2 b5 (o6+7)) fun v7=>ptrV v7 fun p8=>ldL (cellsN x2 0 17) fun l9=>CF Tryd.prog 107 [(.int .i64 x1),(.agg ⟨l9⟩)] h2 fun u10 h11=>strV u10 fun s12=>CF Tryd.prog 84 [(.pointer p8),(.string s12)] h11 fun u13 h14=>tup2V u13 fun u15 u16=>intV u15 .i64 fun i17=>boolV u16 fun q18=>CF Tryd.prog 81 [(.pointer x0),(.int .i64 i17),(.bool q18)] h14 fun u19 h20=>tup2V u19 fun u21 u22=>aggV u21 fun l23=>boolV u22 fun q24=>if List.length l23=26 then (if List.all l23 one=true then (if 0+List.length l23≤List.length [(Value.int .i64 0),.int .i64 0,.int .u8 0,.int .u8 0,.int .u8 0,.int .u8 0,.int .u8 0,.int .u8 0,.int .u8 0,.int .u8 0,.int .u8 0,.int .u8 0,.int .u8 0,.int .u8 0,.int .u8 0,.int .u8 0,.int .u8 0,.int .u8 0,.int .i64 0,.int .u8 0,.int .u8 0,.int .u8 0,.int .u8 0,.int .i64 0,.bool false,.int .i64 0] then (ldL (cellsN (splice [.int .i64 0,.int .i64 0,.int .u8 0,.int .u8 0,.int .u8 0,.int .u8 0,.int .u8 0,.int .u8 0,.int .u8 0,.int .u8 0,.int .u8 0,.int .u8 0,.int .u8 0,.int .u8 0,.int .u8 0,.int .u8 0,.int .u8 0,.int .u8 0,.int .i64 0,.int .u8 0,.int .u8 0,.int .u8 0,.int .u8 0,.int .i64 0,.bool false,.int .i64 0] 0 l23) 0 26) fun l45=>K (.tuple ⟨[(.agg ⟨l45⟩),(.bool q24)]⟩) h20) else False) else False) else False)∧(ptrN x0 fun b25 o26=>ldL (cellsN x2 0 17) fun l27=>CF Tryd.prog 107 [(.int .i64 x1),(.agg ⟨l27⟩)] h2 fun u28 h29=>strV u28 fun s30=>ldV (HP.cell h29 b25 (o26+7)) fun v31=>ptrV v31 fun p32=>CF Tryd.prog 84 [(.pointer p32),(.string s30)] h29 fun u33 h34=>tup2V u33 fun u35 u36=>intV u35 .i64 fun i37=>boolV u36 fun q38=>CF Tryd.prog 81 [(.pointer x0),(.int .i64 i37),(.bool q38)] h34 fun u39 h40=>tup2V u39 fun u41 u42=>aggV u41 fun l43=>boolV u42 fun q44=>if List.length l43=26 then (if List.all l43 one=true then (if 0+List.length l43≤List.length [(Value.int .i64 0),.int .i64 0,.int .u8 0,.int .u8 0,.int .u8 0,.int .u8 0,.int .u8 0,.int .u8 0,.int .u8 0,.int .u8 0,.int .u8 0,.int .u8 0,.int .u8 0,.int .u8 0,.int .u8 0,.int .u8 0,.int .u8 0,.int .u8 0,.int .i64 0,.int .u8 0,.int .u8 0,.int .u8 0,.int .u8 0,.int .i64 0,.bool false,.int .i64 0] then (ldL (cellsN (splice [.int .i64 0,.int .i64 0,.int .u8 0,.int .u8 0,.int .u8 0,.int .u8 0,.int .u8 0,.int .u8 0,.int .u8 0,.int .u8 0,.int .u8 0,.int .u8 0,.int .u8 0,.int .u8 0,.int .u8 0,.int .u8 0,.int .u8 0,.int .u8 0,.int .i64 0,.int .u8 0,.int .u8 0,.int .u8 0,.int .u8 0,.int .i64 0,.bool false,.int .i64 0] 0 l43) 0 26) fun l46=>K (.tuple ⟨[(.agg ⟨l46⟩),(.bool q44)]⟩) h40) else False) else False) else False)))
noncomputable def F65_code:Code:=(.seq (.region 0 (opsAt Tryd.f65 (pth 2)) false) (.seq (.seq (.region 1 (opsAt Tryd.f65 (pth 9)) false) (.cond (.tmp 9) (.seq (.region 2 (opsAt Tryd.f65 (pth 37)) false) .ret) .skip)) (.seq (.region 3 (opsAt Tryd.f65 (pth 11)) true) .ret)))
theorem F65_body:Tryd.f65.body=some F65_code:=by kernel_rfl
theorem F65_ok (x0:OA) (x1:Int) (x2:List Value) (hp:HP) (K:Kh) (h:F65 x0 x1 x2 hp K):CF Tryd.prog 65 [(.pointer x0),(.int .i64 x1),(.agg ⟨x2⟩)] hp K:=by
 refine .inl ⟨by kernel_rfl,AC.intro (N:=25) Tryd.func65 F65_body rfl (Nat.le_of_ble_eq_true rfl) ?_⟩
 unfold F65 at h
 refine Ar F65_r0 ?_ (r3 2 0 1 Rn) (z3 Sn) Sn
 refine Aq (Ar F65_r1 ?_ (r2 0 1 (rp 5 5 0 (rp 6 6 0 Rn))) (z4 Sn) (z2 Sn))
 refine mC h fun u1 h2 h=>mB h fun q3 h=>?_
 refine Ac h rfl (fun h=>?_) (fun h=>?_)
 ·refine Ar F65_r2 ?_ (rp 6 6 0 Rn) (z1 Sn) (z1 Sn)
  refine mf h fun h=>mf h fun h=>mf h fun h=>?_
  refine AWP.ret ?_
  exact h
 ·refine AWP.skip (Aq (AWP.rgnC (cf:=[(4,7)]) (c:=[([true],true,[0,1,2,3,4,5,6,7,8,9,10,11,12,13,14,15]),([false],true,[0,1,2,3,5,6,7,4,8,9,10,11,12,13,14,15])]) (by kernel_rfl) (by kernel_rfl) (by kernel_rfl) (by kernel_rfl) (allO_t (Eq.mpr F65_r3 ?_) (allO_t (Eq.mpr F65_r4 ?_) trivial)) (r2 0 1 (rp 5 5 0 (rp 6 6 0 Rn))) (z4 Sn) (z2 Sn)))
  ·replace h:=h.1
   refine mN h fun b5 o6 h=>mV h fun v7 h=>mP h fun p8 h=>mL h fun l9 h=>mC h fun u10 h11 h=>ms h fun s12 h=>mC h fun u13 h14 h=>mT h fun u15 u16 h=>mI h fun i17 h=>mB h fun q18 h=>mC h fun u19 h20 h=>mT h fun u21 u22 h=>mA h fun l23 h=>mB h fun q24 h=>mf h fun h=>mf h fun h=>mf h fun h=>?_
   refine AWP.ret ?_
   exact h
  ·replace h:=h.2
   refine mN h fun b25 o26 h=>mL h fun l27 h=>mC h fun u28 h29 h=>ms h fun s30 h=>mV h fun v31 h=>mP h fun p32 h=>mC h fun u33 h34 h=>mT h fun u35 u36 h=>mI h fun i37 h=>mB h fun q38 h=>mC h fun u39 h40 h=>mT h fun u41 u42 h=>mA h fun l43 h=>mB h fun q44 h=>mf h fun h=>mf h fun h=>mf h fun h=>?_
   refine AWP.ret ?_
   exact h
end
section
variable {e:Env} {x0:OA} {x2 k5 k6:List Value} {hp:HP} {K:Env→PV→HP→Prop}
abbrev R63 (p n:Nat):=RW Tryd.prog 25 [5,6] (opsAt Tryd.f63 (pth p)) (List.range n)
theorem F63_r0:R63 2 3 (upd e 2 (sA x2)) V0 hp K=
 K (w4 e 2 (sA x2) 5 (sR 5 0) 6 (sR 6 0) 7 (sB false)) (w2 V0 5 (34,x2) 6 (36,[.int .i64 0,.int .i64 0,.int .u8 0,.int .u8 0,.int .u8 0,.int .u8 0,.int .u8 0,.int .u8 0,.int .u8 0,.int .u8 0,.int .u8 0,.int .u8 0,.int .u8 0,.int .u8 0,.int .u8 0,.int .u8 0,.int .u8 0,.int .u8 0,.int .i64 0,.int .u8 0,.int .u8 0,.int .u8 0,.int .u8 0,.int .i64 0,.bool false,.int .i64 0])) hp:= by kernel_rfl
theorem F63_r1:R63 9 2 (upd e 0 (sP x0)) (w2 V0 6 (36,k6) 5 (34,k5)) hp K=
 CF Tryd.prog 71 [(.pointer x0)] hp fun u1 h2=>(boolV u1 fun q3=>K (w3 e 0 (sP x0) 8 (sP x0) 9 (sB q3)) (w2 V0 6 (36,k6) 5 (34,k5)) h2):= by kernel_rfl
theorem F63_r2:R63 37 3 (upd e 6 (sR 6 0)) (upd V0 6 (36,k6)) hp K=
    (if List.length [(Value.int .i64 0),.int .i64 0,.int .u8 0,.int .u8 0,.int .u8 0,.int .u8 0,.int .u8 0,.int .u8 0,.int .u8 0,.int .u8 0,.int .u8 0,.int .u8 0,.int .u8 0,.int .u8 0,.int .u8 0,.int .u8 0,.int .u8 0,.int .u8 0,.int .i64 0,.int .u8 0,.int .u8 0,.int .u8 0,.int .u8 0,.int .i64 0,.bool false,.int .i64 0]=26 then (if List.all [(Value.int .i64 0),.int .i64 0,.int .u8 0,.int .u8 0,.int .u8 0,.int .u8 0,.int .u8 0,.int .u8 0,.int .u8 0,.int .u8 0,.int .u8 0,.int .u8 0,.int .u8 0,.int .u8 0,.int .u8 0,.int .u8 0,.int .u8 0,.int .u8 0,.int .i64 0,.int .u8 0,.int .u8 0,.int .u8 0,.int .u8 0,.int .i64 0,.bool false,.int .i64 0] one=true then (if 0+List.length [(Value.int .i64 0),.int .i64 0,.int .u8 0,.int .u8 0,.int .u8 0,.int .u8 0,.int .u8 0,.int .u8 0,.int .u8 0,.int .u8 0,.int .u8 0,.int .u8 0,.int .u8 0,.int .u8 0,.int .u8 0,.int .u8 0,.int .u8 0,.int .u8 0,.int .i64 0,.int .u8 0,.int .u8 0,.int .u8 0,.int .u8 0,.int .i64 0,.bool false,.int .i64 0]≤List.length k6 then (K (w3 e 6 (sR 6 0) 10 (sV (.agg ⟨[.int .i64 0,.int .i64 0,.int .u8 0,.int .u8 0,.int .u8 0,.int .u8 0,.int .u8 0,.int .u8 0,.int .u8 0,.int .u8 0,.int .u8 0,.int .u8 0,.int .u8 0,.int .u8 0,.int .u8 0,.int .u8 0,.int .u8 0,.int .u8 0,.int .i64 0,.int .u8 0,.int .u8 0,.int .u8 0,.int .u8 0,.int .i64 0,.bool false,.int .i64 0]⟩)) 7 (sB false)) (w2 V0 6 (36,k6) 6 (36,(splice k6 0 [.int .i64 0,.int .i64 0,.int .u8 0,.int .u8 0,.int .u8 0,.int .u8 0,.int .u8 0,.int .u8 0,.int .u8 0,.int .u8 0,.int .u8 0,.int .u8 0,.int .u8 0,.int .u8 0,.int .u8 0,.int .u8 0,.int .u8 0,.int .u8 0,.int .i64 0,.int .u8 0,.int .u8 0,.int .u8 0,.int .u8 0,.int .i64 0,.bool false,.int .i64 0]))) hp) else False) else False) else False):=by kernel_rfl
theorem F63_r3 {e:Env} {x0:OA} {x1:Int} {k5:List Value} {k6:List Value} {hp:HP} {K:Env→PV→HP→Prop}:RW Tryd.prog 25 [5,6] (opsAt Tryd.f63 (pth 11)) [0,1,2,3,4,5,6,7,8,9,10,11,12,13,14,15] (w4 e 6 (sR 6 0) 5 (sR 5 0) 1 (sI x1) 0 (sP x0)) (w2 V0 6 (36,k6) 5 (34,k5)) hp K=
 ptrN x0 fun b1 o2=>(ldV (HP.cell hp b1 (o2+8)) fun v3=>ptrV v3 fun p4=>ldL (cellsN k5 0 5) fun l5=>CF Tryd.prog 105 [(.int .i64 x1),(.agg ⟨l5⟩)] hp fun u6 h7=>strV u6 fun s8=>CF Tryd.prog 84 [(.pointer p4),(.string s8)] h7 fun u9 h10=>tup2V u9 fun u11 u12=>intV u11 .i64 fun i13=>boolV u12 fun q14=>CF Tryd.prog 81 [(.pointer x0),(.int .i64 i13),(.bool q14)] h10 fun u15 h16=>tup2V u15 fun u17 u18=>aggV u17 fun l19=>boolV u18 fun q20=>if List.length l19=26 then (if List.all l19 one=true then (if 0+List.length l19≤List.length k6 then (K (w3 (w8 (w8 e 6 (sR 6 0) 5 (sR 5 0) 1 (sI x1) 0 (sP x0) 11 (sP x0) 12 (sP x0) 13 (sQ b1 o2) 14 (sQ b1 (o2+8))) 15 (sP p4) 16 (sI x1) 17 (sA l5) 18 (sT s8) 19 (sV (.tuple ⟨[(.int .i64 i13),(.bool q14)]⟩)) 20 (sI i13) 21 (sB q14) 22 (sV (.tuple ⟨[(.agg ⟨l19⟩),(.bool q20)]⟩))) 23 (sA l19) 24 (sB q20) 7 (sB q20)) (w3 V0 6 (36,k6) 5 (34,k5) 6 (36,(splice k6 0 l19))) h16) else False) else False) else False):= by kernel_rfl
theorem F63_r4 {e:Env} {x0:OA} {x1:Int} {k5:List Value} {k6:List Value} {hp:HP} {K:Env→PV→HP→Prop}:RW Tryd.prog 25 [5,6] (opsAt Tryd.f63 (pth 11)) [0,1,2,3,5,6,7,4,8,9,10,11,12,13,14,15] (w4 e 6 (sR 6 0) 5 (sR 5 0) 1 (sI x1) 0 (sP x0)) (w2 V0 6 (36,k6) 5 (34,k5)) hp K=
 ptrN x0 fun b1 o2=>(ldL (cellsN k5 0 5) fun l3=>CF Tryd.prog 105 [(.int .i64 x1),(.agg ⟨l3⟩)] hp fun u4 h5=>strV u4 fun s6=>ldV (HP.cell h5 b1 (o2+8)) fun v7=>ptrV v7 fun p8=>CF Tryd.prog 84 [(.pointer p8),(.string s6)] h5 fun u9 h10=>tup2V u9 fun u11 u12=>intV u11 .i64 fun i13=>boolV u12 fun q14=>CF Tryd.prog 81 [(.pointer x0),(.int .i64 i13),(.bool q14)] h10 fun u15 h16=>tup2V u15 fun u17 u18=>aggV u17 fun l19=>boolV u18 fun q20=>if List.length l19=26 then (if List.all l19 one=true then (if 0+List.length l19≤List.length k6 then (K (w3 (w8 (w8 e 6 (sR 6 0) 5 (sR 5 0) 1 (sI x1) 0 (sP x0) 11 (sP x0) 12 (sP x0) 13 (sQ b1 o2) 14 (sQ b1 (o2+8))) 16 (sI x1) 17 (sA l3) 18 (sT s6) 15 (sP p8) 19 (sV (.tuple ⟨[(.int .i64 i13),(.bool q14)]⟩)) 20 (sI i13) 21 (sB q14) 22 (sV (.tuple ⟨[(.agg ⟨l19⟩),(.bool q20)]⟩))) 23 (sA l19) 24 (sB q20) 7 (sB q20)) (w3 V0 6 (36,k6) 5 (34,k5) 6 (36,(splice k6 0 l19))) h16) else False) else False) else False):= by kernel_rfl
def F63 (x0:OA) (x1:Int) (x2:List Value) (hp:HP) (K:Kh):Prop:=
  (CF Tryd.prog 71 [(.pointer x0)] hp fun u1 h2=>boolV u1 fun q3=>ite2 q3 (if List.length [(Value.int .i64 0),.int .i64 0,.int .u8 0,.int .u8 0,.int .u8 0,.int .u8 0,.int .u8 0,.int .u8 0,.int .u8 0,.int .u8 0,.int .u8 0,.int .u8 0,.int .u8 0,.int .u8 0,.int .u8 0,.int .u8 0,.int .u8 0,.int .u8 0,.int .i64 0,.int .u8 0,.int .u8 0,.int .u8 0,.int .u8 0,.int .i64 0,.bool false,.int .i64 0]=26 then (if List.all [(Value.int .i64 0),.int .i64 0,.int .u8 0,.int .u8 0,.int .u8 0,.int .u8 0,.int .u8 0,.int .u8 0,.int .u8 0,.int .u8 0,.int .u8 0,.int .u8 0,.int .u8 0,.int .u8 0,.int .u8 0,.int .u8 0,.int .u8 0,.int .u8 0,.int .i64 0,.int .u8 0,.int .u8 0,.int .u8 0,.int .u8 0,.int .i64 0,.bool false,.int .i64 0] one=true then (if 0+List.length [(Value.int .i64 0),.int .i64 0,.int .u8 0,.int .u8 0,.int .u8 0,.int .u8 0,.int .u8 0,.int .u8 0,.int .u8 0,.int .u8 0,.int .u8 0,.int .u8 0,.int .u8 0,.int .u8 0,.int .u8 0,.int .u8 0,.int .u8 0,.int .u8 0,.int .i64 0,.int .u8 0,.int .u8 0,.int .u8 0,.int .u8 0,.int .i64 0,.bool false,.int .i64 0]≤List.length [(Value.int .i64 0),.int .i64 0,.int .u8 0,.int .u8 0,.int .u8 0,.int .u8 0,.int .u8 0,.int .u8 0,.int .u8 0,.int .u8 0,.int .u8 0,.int .u8 0,.int .u8 0,.int .u8 0,.int .u8 0,.int .u8 0,.int .u8 0,.int .u8 0,.int .i64 0,.int .u8 0,.int .u8 0,.int .u8 0,.int .u8 0,.int .i64 0,.bool false,.int .i64 0] then (ldL (cellsN (splice [.int .i64 0,.int .i64 0,.int .u8 0,.int .u8 0,.int .u8 0,.int .u8 0,.int .u8 0,.int .u8 0,.int .u8 0,.int .u8 0,.int .u8 0,.int .u8 0,.int .u8 0,.int .u8 0,.int .u8 0,.int .u8 0,.int .u8 0,.int .u8 0,.int .i64 0,.int .u8 0,.int .u8 0,.int .u8 0,.int .u8 0,.int .i64 0,.bool false,.int .i64 0] 0 [.int .i64 0,.int .i64 0,.int .u8 0,.int .u8 0,.int .u8 0,.int .u8 0,.int .u8 0,.int .u8 0,.int .u8 0,.int .u8 0,.int .u8 0,.int .u8 0,.int .u8 0,.int .u8 0,.int .u8 0,.int .u8 0,.int .u8 0,.int .u8 0,.int .i64 0,.int .u8 0,.int .u8 0,.int .u8 0,.int .u8 0,.int .i64 0,.bool false,.int .i64 0]) 0 26) fun l4=>K (.tuple ⟨[(.agg ⟨l4⟩),.bool false]⟩) h2) else False) else False) else False) ((ptrN x0 fun b5 o6=>ldV (HP.cell h2 b5 (o6+8)) fun v7=>ptrV v7 fun p8=>ldL (cellsN x2 0 5) fun l9=>CF Tryd.prog 105 [(.int .i64 x1),(.agg ⟨l9⟩)] h2 fun u10 h11=>strV u10 fun s12=>CF Tryd.prog 84 [(.pointer p8),(.string s12)] h11 fun u13 h14=>tup2V u13 fun u15 u16=>intV u15 .i64 fun i17=>boolV u16 fun q18=>CF Tryd.prog 81 [(.pointer x0),(.int .i64 i17),(.bool q18)] h14 fun u19 h20=>tup2V u19 fun u21 u22=>aggV u21 fun l23=>boolV u22 fun q24=>if List.length l23=26 then (if List.all l23 one=true then (if 0+List.length l23≤List.length [(Value.int .i64 0),.int .i64 0,.int .u8 0,.int .u8 0,.int .u8 0,.int .u8 0,.int .u8 0,.int .u8 0,.int .u8 0,.int .u8 0,.int .u8 0,.int .u8 0,.int .u8 0,.int .u8 0,.int .u8 0,.int .u8 0,.int .u8 0,.int .u8 0,.int .i64 0,.int .u8 0,.int .u8 0,.int .u8 0,.int .u8 0,.int .i64 0,.bool false,.int .i64 0] then (ldL (cellsN (splice [.int .i64 0,.int .i64 0,.int .u8 0,.int .u8 0,.int .u8 0,.int .u8 0,.int .u8 0,.int .u8 0,.int .u8 0,.int .u8 0,.int .u8 0,.int .u8 0,.int .u8 0,.int .u8 0,.int .u8 0,.int .u8 0,.int .u8 0,.int .u8 0,.int .i64 0,.int .u8 0,.int .u8 0,.int .u8 0,.int .u8 0,.int .i64 0,.bool false,.int .i64 0] 0 l23) 0 26) fun l45=>K (.tuple ⟨[(.agg ⟨l45⟩),(.bool q24)]⟩) h20) else False) else False) else False)∧(ptrN x0 fun b25 o26=>ldL (cellsN x2 0 5) fun l27=>CF Tryd.prog 105 [(.int .i64 x1),(.agg ⟨l27⟩)] h2 fun u28 h29=>strV u28 fun s30=>ldV (HP.cell h29 b25 (o26+8)) fun v31=>ptrV v31 fun p32=>CF Tryd.prog 84 [(.pointer p32),(.string s30)] h29 fun u33 h34=>tup2V u33 fun u35 u36=>intV u35 .i64 fun i37=>boolV u36 fun q38=>CF Tryd.prog 81 [(.pointer x0),(.int .i64 i37),(.bool q38)] h34 fun u39 h40=>tup2V u39 fun u41 u42=>aggV u41 fun l43=>boolV u42 fun q44=>if List.length l43=26 then (if List.all l43 one=true then (if 0+List.length l43≤List.length [(Value.int .i64 0),.int .i64 0,.int .u8 0,.int .u8 0,.int .u8 0,.int .u8 0,.int .u8 0,.int .u8 0,.int .u8 0,.int .u8 0,.int .u8 0,.int .u8 0,.int .u8 0,.int .u8 0,.int .u8 0,.int .u8 0,.int .u8 0,.int .u8 0,.int .i64 0,.int .u8 0,.int .u8 0,.int .u8 0,.int .u8 0,.int .i64 0,.bool false,.int .i64 0] then (ldL (cellsN (splice [.int .i64 0,.int .i64 0,.int .u8 0,.int .u8 0,.int .u8 0,.int .u8 0,.int .u8 0,.int .u8 0,.int .u8 0,.int .u8 0,.int .u8 0,.int .u8 0,.int .u8 0,.int .u8 0,.int .u8 0,.int .u8 0,.int .u8 0,.int .u8 0,.int .i64 0,.int .u8 0,.int .u8 0,.int .u8 0,.int .u8 0,.int .i64 0,.bool false,.int .i64 0] 0 l43) 0 26) fun l46=>K (.tuple ⟨[(.agg ⟨l46⟩),(.bool q44)]⟩) h40) else False) else False) else False)))
noncomputable def F63_code:Code:=(.seq (.region 0 (opsAt Tryd.f63 (pth 2)) false) (.seq (.seq (.region 1 (opsAt Tryd.f63 (pth 9)) false) (.cond (.tmp 9) (.seq (.region 2 (opsAt Tryd.f63 (pth 37)) false) .ret) .skip)) (.seq (.region 3 (opsAt Tryd.f63 (pth 11)) true) .ret)))
theorem F63_body:Tryd.f63.body=some F63_code:=by kernel_rfl
theorem F63_ok (x0:OA) (x1:Int) (x2:List Value) (hp:HP) (K:Kh) (h:F63 x0 x1 x2 hp K):CF Tryd.prog 63 [(.pointer x0),(.int .i64 x1),(.agg ⟨x2⟩)] hp K:=by
 refine .inl ⟨by kernel_rfl,AC.intro (N:=25) Tryd.func63 F63_body rfl (Nat.le_of_ble_eq_true rfl) ?_⟩
 unfold F63 at h
 refine Ar F63_r0 ?_ (r3 2 0 1 Rn) (z3 Sn) Sn
 refine Aq (Ar F63_r1 ?_ (r2 0 1 (rp 5 5 0 (rp 6 6 0 Rn))) (z4 Sn) (z2 Sn))
 refine mC h fun u1 h2 h=>mB h fun q3 h=>?_
 refine Ac h rfl (fun h=>?_) (fun h=>?_)
 ·refine Ar F63_r2 ?_ (rp 6 6 0 Rn) (z1 Sn) (z1 Sn)
  refine mf h fun h=>mf h fun h=>mf h fun h=>?_
  refine AWP.ret ?_
  exact h
 ·refine AWP.skip (Aq (AWP.rgnC (cf:=[(4,7)]) (c:=[([true],true,[0,1,2,3,4,5,6,7,8,9,10,11,12,13,14,15]),([false],true,[0,1,2,3,5,6,7,4,8,9,10,11,12,13,14,15])]) (by kernel_rfl) (by kernel_rfl) (by kernel_rfl) (by kernel_rfl) (allO_t (Eq.mpr F63_r3 ?_) (allO_t (Eq.mpr F63_r4 ?_) trivial)) (r2 0 1 (rp 5 5 0 (rp 6 6 0 Rn))) (z4 Sn) (z2 Sn)))
  ·replace h:=h.1
   refine mN h fun b5 o6 h=>mV h fun v7 h=>mP h fun p8 h=>mL h fun l9 h=>mC h fun u10 h11 h=>ms h fun s12 h=>mC h fun u13 h14 h=>mT h fun u15 u16 h=>mI h fun i17 h=>mB h fun q18 h=>mC h fun u19 h20 h=>mT h fun u21 u22 h=>mA h fun l23 h=>mB h fun q24 h=>mf h fun h=>mf h fun h=>mf h fun h=>?_
   refine AWP.ret ?_
   exact h
  ·replace h:=h.2
   refine mN h fun b25 o26 h=>mL h fun l27 h=>mC h fun u28 h29 h=>ms h fun s30 h=>mV h fun v31 h=>mP h fun p32 h=>mC h fun u33 h34 h=>mT h fun u35 u36 h=>mI h fun i37 h=>mB h fun q38 h=>mC h fun u39 h40 h=>mT h fun u41 u42 h=>mA h fun l43 h=>mB h fun q44 h=>mf h fun h=>mf h fun h=>mf h fun h=>?_
   refine AWP.ret ?_
   exact h
end
end Go.Proofs
set_option linter.unusedVariables false
set_option linter.unusedSimpArgs false
set_option maxRecDepth 20000
namespace Go.Proofs
open Go Go.HL
abbrev V6:=Q × Q × Q × Q
theorem pq (p:Nat) (c:Option Addr→Prop):ptrV (ptr p 0) c=c (some ⟨p,0,none⟩):=rfl
theorem t4_all (t:Q × Int):cellsN (t4 t) 0 5=some (t4 t):=rfl
set_option synthInstance.maxSize 2000 in
set_option synthInstance.maxHeartbeats 400000 in
instance instV6:DecidableEq V6:=inferInstance
instance instT6:DecidableEq (V6 × Int):=instDecidableEqProd
def v6 (a:V6):List Value:=v4 a.1++(v4 a.2.1++(v4 a.2.2.1++v4 a.2.2.2))
def t6 (t:V6 × Int):List Value:=v6 t.1++[.int .i64 t.2]
theorem t6_len (t:V6 × Int):(t6 t).length=17:=rfl
theorem t6_cells (t:V6 × Int):cellsN (t6 t) 0 17=some (t6 t):=rfl
theorem t6_addr (t:V6 × Int):cellsN (t6 t) 0 16=some (v6 t.1):=rfl
theorem t6_port (t:V6 × Int):(t6 t)[16]?=some (.int .i64 t.2):=rfl
theorem v6_cells (a:V6):cellsN (v6 a) 0 16=some (v6 a):=rfl
theorem v6_inj {a b:V6}:v6 a=v6 b↔a=b:=by
  constructor
  · intro h
    obtain ⟨⟨a1,a2,a3,a4⟩,⟨a5,a6,a7,a8⟩,⟨a9,a10,a11,a12⟩,⟨a13,a14,a15,a16⟩⟩:=a
    obtain ⟨⟨b1,b2,b3,b4⟩,⟨b5,b6,b7,b8⟩,⟨b9,b10,b11,b12⟩,⟨b13,b14,b15,b16⟩⟩:=b
    simp only [v6,v4,List.cons_append,List.nil_append,List.cons.injEq,Value.int.injEq,true_and,and_true] at h
    obtain ⟨rfl,rfl,rfl,rfl,rfl,rfl,rfl,rfl,rfl,rfl,rfl,rfl,rfl,rfl,rfl,rfl⟩:=h
    rfl
  · rintro rfl; rfl
theorem t6_inj {a b:V6 × Int}:t6 a=t6 b↔a=b:=by
  constructor
  · intro h
    unfold t6 at h
    obtain ⟨h1,h2⟩:=List.append_inj h rfl
    simp only [List.cons.injEq,Value.int.injEq,true_and,and_true] at h2
    exact Prod.ext (v6_inj.1 h1) h2
  · rintro rfl; rfl
theorem v6_shaped (a:V6):shaped Tryd.prog 4 30 (v6 a)=true:=by kernel_rfl
theorem eq30 {a b:V6} {c:Bool→Prop} (h:c (decide (a=b))):eqAgg Tryd.prog 30 (v6 a) (v6 b) c:=
  eqAgg_of (m:=4) (D:=4) (by kernel_rfl) (v6_shaped a) (v6_shaped b) (by simp [v6_inj]) h
def qi6 (a:V6):List Int:=qi a.1++(qi a.2.1++(qi a.2.2.1++qi a.2.2.2))
def bs6 (a:V6):List UInt8:=(qi6 a).map u8
def ok6 (a:V6):Prop:=okQ a.1∧okQ a.2.1∧okQ a.2.2.1∧okQ a.2.2.2
def okT6 (t:V6 × Int):Prop:=ok6 t.1∧okZ t.2
theorem bs6_inj {a b:V6} (ha:ok6 a) (hb:ok6 b) (h:bs6 a=bs6 b):a=b:=by
  simp only [bs6,qi6,List.map_append] at h
  obtain ⟨h1,h⟩:=List.append_inj h rfl
  obtain ⟨h2,h⟩:=List.append_inj h rfl
  obtain ⟨h3,h4⟩:=List.append_inj h rfl
  exact Prod.ext (bs_inj ha.1 hb.1 h1) (Prod.ext (bs_inj ha.2.1 hb.2.1 h2) (Prod.ext (bs_inj ha.2.2.1 hb.2.2.1 h3) (bs_inj ha.2.2.2 hb.2.2.2 h4)))
def key6 (p:Int) (t:V6 × Int):ByteArray:=⟨(keyL p t.2 (bs6 t.1)).toArray⟩
def key4 (p:Int) (t:Q × Int):ByteArray:=⟨(keyL p t.2 (bs t.1)).toArray⟩
theorem keyA_inj {a b c d:Int} {l m:List UInt8} (h:(⟨(keyL a b l).toArray⟩:ByteArray)=⟨(keyL c d m).toArray⟩):a=c∧b=d∧l=m:=by
  refine keyL_inj ?_
  have:=congrArg ByteArray.data h
  have:=congrArg Array.toList this
  simpa using this
theorem key6_inj {p q:Int} {s t:V6 × Int} (hs:okT6 s) (ht:okT6 t) (h:key6 p s=key6 q t):p=q∧s=t:=by
  obtain ⟨a,b,c⟩:=keyA_inj h
  exact ⟨a,Prod.ext (bs6_inj hs.1 ht.1 c) b⟩
theorem key4_inj {p q:Int} {s t:Q × Int} (hs:okT s) (ht:okT t) (h:key4 p s=key4 q t):p=q∧s=t:=by
  obtain ⟨a,b,c⟩:=keyA_inj h
  exact ⟨a,Prod.ext (bs_inj hs.1 ht.1 c) b⟩
theorem keyA_app (a b:Int) (l:List UInt8):((((itS a++(⟨#[32]⟩:ByteArray))++itS b)++(⟨#[32]⟩:ByteArray))++byS l)=⟨(keyL a b l).toArray⟩:=by
  have e:(⟨#[32]⟩:ByteArray)=byS [32]:=rfl
  have e2:∀ n,itS n=byS (Lib.itoa n):=fun _=>rfl
  have e3:(⟨(keyL a b l).toArray⟩:ByteArray)=byS (keyL a b l):=rfl
  rw [e,e2,e2,e3,byS_app,byS_app,byS_app,byS_app]
  congr 1
  simp [keyL]
set_option maxHeartbeats 2000000 in
theorem C107 {tb:Obj} {p:Int} {o:V6 × Int} {hp:HP} {K:Value→HP→Prop} (ht:TabR tb hp) (hp':okZ p) (ho:okZ o.2) (hK:K (.string (key6 p o)) hp):CF Tryd.prog 107 [.int .i64 p,.agg ⟨t6 o⟩] hp K:=by
  refine CF.drop (F107_ok p (t6 o) hp _ ?_)
  unfold F107
  intro b1 hb1
  have ht2:TabR tb (hp.set b1 (.cells 32 (t6 o) 0)):=ht.set hb1 _
  have hs2:HSub hp (hp.set b1 (.cells 32 (t6 o) 0)):=HSub.set_fresh hp _ hb1
  have x1:(hp.set b1 (.cells 32 (t6 o) 0)) b1=.cells 32 (t6 o) 0:=HP.set_eq ..
  generalize hp.set b1 (.cells 32 (t6 o) 0)=hp2 at *
  have y1:hp2.cell b1 16=some (.int .i64 o.2):=HP.cell_of x1
  have z1:hp2.cellN b1 0 16=some ((qi6 o.1).map (Value.int .u8)):=by rw [HP.cellN_of x1]; rfl
  have i1:=itS_size ho
  have i2:=itS_size hp'
  have b1s:(byS (bs6 o.1)).size=16:=rfl
  have e32:(⟨#[32]⟩:ByteArray).size=1:=rfl
  have c1:∀ {K:Value→HP→Prop},K (.string (itS o.2)) hp2→CF Tryd.prog 116 [.int .i64 o.2] hp2 K:=fun h=>C116 ht2 ho h
  have c2:∀ {K:Value→HP→Prop},K (.string (itS p)) hp2→CF Tryd.prog 116 [.int .i64 p] hp2 K:=fun h=>C116 ht2 hp' h
  have r1:∀ {c:Value→Prop},c (.string (byS (bs6 o.1)))→rdS Tryd.prog (convert 199 9 (.slice (some ⟨b1,0,none⟩) 16 16)) hp2 c:=fun h=>rdS_bytes (e:=5) (by kernel_rfl) (by kernel_rfl) (by kernel_rfl) rfl z1 h
  have fin:∃ hp'',HSub hp'' hp2∧K (.string ((((itS p++(⟨#[32]⟩:ByteArray))++itS o.2)++(⟨#[32]⟩:ByteArray))++byS (bs6 o.1))) hp'':=⟨hp,hs2,by rw [keyA_app]; exact hK⟩
  clear x1 z1 ht2 ht hs2 hb1 hK
  generalize itS o.2=s1 at *
  generalize itS p=s2 at *
  generalize byS (bs6 o.1)=s3 at *
  simp only [ptrN_some,Nat.zero_add,y1,ldV_some,intV_int]
  repeat' apply And.intro
  all_goals repeat (first
    | exact fin
    | (refine c1 ?_; rw [strV_string])
    | (refine c2 ?_; rw [strV_string])
    | (refine r1 ?_; rw [strV_string])
    | (refine ⟨by first | omega | (simp only [str_app]; omega),?_⟩)
    | (simp only [y1,ldV_some,intV_int,ptrN_some,Nat.zero_add])
    | omega
    | (simp only [str_app]; omega))
set_option maxHeartbeats 2000000 in
theorem C105 {tb:Obj} {p:Int} {o:Q × Int} {hp:HP} {K:Value→HP→Prop} (ht:TabR tb hp) (hp':okZ p) (ho:okZ o.2) (hK:K (.string (key4 p o)) hp):CF Tryd.prog 105 [.int .i64 p,.agg ⟨t4 o⟩] hp K:=by
  refine CF.drop (F105_ok p (t4 o) hp _ ?_)
  unfold F105
  intro b1 hb1
  have ht2:TabR tb (hp.set b1 (.cells 34 (t4 o) 0)):=ht.set hb1 _
  have hs2:HSub hp (hp.set b1 (.cells 34 (t4 o) 0)):=HSub.set_fresh hp _ hb1
  have x1:(hp.set b1 (.cells 34 (t4 o) 0)) b1=.cells 34 (t4 o) 0:=HP.set_eq ..
  generalize hp.set b1 (.cells 34 (t4 o) 0)=hp2 at *
  have y1:hp2.cell b1 4=some (.int .i64 o.2):=HP.cell_of x1
  have z1:hp2.cellN b1 0 4=some ((qi o.1).map (Value.int .u8)):=by rw [HP.cellN_of x1]; rfl
  have i1:=itS_size ho
  have i2:=itS_size hp'
  have b1s:(byS (bs o.1)).size=4:=rfl
  have e32:(⟨#[32]⟩:ByteArray).size=1:=rfl
  have c1:∀ {K:Value→HP→Prop},K (.string (itS o.2)) hp2→CF Tryd.prog 116 [.int .i64 o.2] hp2 K:=fun h=>C116 ht2 ho h
  have c2:∀ {K:Value→HP→Prop},K (.string (itS p)) hp2→CF Tryd.prog 116 [.int .i64 p] hp2 K:=fun h=>C116 ht2 hp' h
  have r1:∀ {c:Value→Prop},c (.string (byS (bs o.1)))→rdS Tryd.prog (convert 199 9 (.slice (some ⟨b1,0,none⟩) 4 4)) hp2 c:=fun h=>rdS_bytes (e:=5) (by kernel_rfl) (by kernel_rfl) (by kernel_rfl) rfl z1 h
  have fin:∃ hp'',HSub hp'' hp2∧K (.string ((((itS p++(⟨#[32]⟩:ByteArray))++itS o.2)++(⟨#[32]⟩:ByteArray))++byS (bs o.1))) hp'':=⟨hp,hs2,by rw [keyA_app]; exact hK⟩
  clear x1 z1 ht2 ht hs2 hb1 hK
  generalize itS o.2=s1 at *
  generalize itS p=s2 at *
  generalize byS (bs o.1)=s3 at *
  simp only [ptrN_some,Nat.zero_add,y1,ldV_some,intV_int]
  repeat' apply And.intro
  all_goals repeat (first
    | exact fin
    | (refine c1 ?_; rw [strV_string])
    | (refine c2 ?_; rw [strV_string])
    | (refine r1 ?_; rw [strV_string])
    | (refine ⟨by first | omega | (simp only [str_app]; omega),?_⟩)
    | (simp only [y1,ldV_some,intV_int,ptrN_some,Nat.zero_add])
    | omega
    | (simp only [str_app]; omega))
def kindB (p:Int):Int:=if p=1 then 0 else if p=6 then 1 else if p=17 then 2 else -1
theorem C112 {b:Nat} {x:Int} {hp:HP} {K:Value→HP→Prop} (hb:hp b=.cells 3 [.int .i64 1,.int .i64 6,.int .i64 17] 0) (h:K (.int .i64 (kindB x)) hp):CF Tryd.prog 112 [.slice (some ⟨b,0,none⟩) 3 3,.int .i64 x] hp K:=by
  refine F112_ok _ 3 3 x hp K ?_
  unfold F112 F112_j1
  have hc:∀ t,hp.cell b t=_:=fun t=>HP.cell_of hb
  have hc0:hp.cell b 0=some (.int .i64 1):=hc 0
  have hc1:hp.cell b 1=some (.int .i64 6):=hc 1
  have hc2:hp.cell b 2=some (.int .i64 17):=hc 2
  refine LoopP.by (J:=fun k (i:Int) hp'=>hp'=hp∧((i=0∧k=3)∨(i=1∧k=2∧x≠1)∨(i=2∧k=1∧x≠1∧x≠6)∨(i=3∧k=0∧x≠1∧x≠6∧x≠17))) ?_ (n:=3) ⟨rfl,.inl ⟨rfl,rfl⟩⟩
  rintro I k i hp' ⟨rfl,hcs⟩ hI
  unfold F112_l2
  rcases hcs with ⟨rfl,rfl⟩ | ⟨rfl,rfl,h1⟩ | ⟨rfl,rfl,h1,h2⟩ | ⟨rfl,rfl,h1,h2,h3⟩
  · rw [decide_eq_true (by omega),ite2_true]
    refine ⟨by omega,by omega,?_⟩
    show ldV (hp'.cell b 0) _
    rw [hc0,ldV_some,intV_int]
    by_cases e:x=1
    · rw [show (x==1)=true from by simp [e],ite2_true]
      simpa [kindB,e] using h
    · rw [show (x==1)=false from by simp [e],ite2_false]
      exact hI 2 _ _ (by omega) ⟨rfl,.inr (.inl ⟨rfl,rfl,e⟩)⟩
  · rw [decide_eq_true (by omega),ite2_true]
    refine ⟨by omega,by omega,?_⟩
    show ldV (hp'.cell b 1) _
    rw [hc1,ldV_some,intV_int]
    by_cases e:x=6
    · rw [show (x==6)=true from by simp [e],ite2_true]
      simpa [kindB,e] using h
    · rw [show (x==6)=false from by simp [e],ite2_false]
      exact hI 1 _ _ (by omega) ⟨rfl,.inr (.inr (.inl ⟨rfl,rfl,h1,e⟩))⟩
  · rw [decide_eq_true (by omega),ite2_true]
    refine ⟨by omega,by omega,?_⟩
    show ldV (hp'.cell b 2) _
    rw [hc2,ldV_some,intV_int]
    by_cases e:x=17
    · rw [show (x==17)=true from by simp [e],ite2_true]
      simpa [kindB,e] using h
    · rw [show (x==17)=false from by simp [e],ite2_false]
      exact hI 0 _ _ (by omega) ⟨rfl,.inr (.inr (.inr ⟨rfl,rfl,h1,h2,e⟩))⟩
  · rw [decide_eq_false (by omega),ite2_false]
    simpa [kindB,h1,h2,h3] using h
theorem C73 {x:Int} {hp:HP} {K:Value→HP→Prop} (h:K (.int .i64 (kindB x)) hp):CF Tryd.prog 73 [.int .i64 x] hp K:=by
  refine CF.drop (F73_ok x hp _ ?_)
  unfold F73
  intro b hb
  refine C112 (HP.set_eq ..) ?_
  rw [intV_int]
  exact ⟨hp,HSub.set_fresh hp _ hb,h⟩
theorem C75 {x:Int} {hp:HP} {K:Value→HP→Prop} (h:K (.bool (isPort x)) hp):CF Tryd.prog 75 [.int .i64 x] hp K:=by
  refine F75_ok x hp K ?_
  unfold F75
  unfold isPort at h
  by_cases h0:0≤x
  · simpa [h0] using h
  · simpa [h0] using h
end Go.Proofs
set_option linter.unusedVariables false
set_option linter.unusedSimpArgs false
set_option maxRecDepth 20000
namespace Go.Proofs
open Go Go.HL
structure Bd where
  id:Int
  proto:Int
  inn:V6 × Int
  out:Q × Int
  st:Bool
  ses:Int
deriving DecidableEq
def zq4:Q:=(0,0,0,0)
def bd0:Bd:=⟨0,0,((zq4,zq4,zq4,zq4),0),(zq4,0),false,0⟩
instance:Inhabited Bd:=⟨bd0⟩
def bdc (x:Bd):List Value:=.int .i64 x.id::.int .i64 x.proto::(t6 x.inn++(t4 x.out++[.bool x.st,.int .i64 x.ses]))
theorem bdc_len (x:Bd):(bdc x).length=26:=rfl
theorem bdc_one (x:Bd):(bdc x).all one=true:=rfl
theorem bd_spl {zs:List Value} {y:Bd} (h:zs.length=26):splice zs 0 (bdc y)=bdc y:=splice_all h.symm
theorem bdc_id (x:Bd):(bdc x)[0]?=some (.int .i64 x.id):=rfl
theorem bdc_proto (x:Bd):(bdc x)[1]?=some (.int .i64 x.proto):=rfl
theorem bdc_st (x:Bd):(bdc x)[24]?=some (.bool x.st):=rfl
theorem bdc_inn (x:Bd):cellsN (bdc x) 2 17=some (t6 x.inn):=rfl
theorem bdc_out (x:Bd):cellsN (bdc x) 19 5=some (t4 x.out):=rfl
theorem bdc_cells (x:Bd):cellsN (bdc x) 0 26=some (bdc x):=rfl
theorem bdc_splice (x y:Bd):splice (bdc x) 0 (bdc y)=bdc y:=splice_all rfl
theorem bdc_inj {x y:Bd}:bdc x=bdc y↔x=y:=by
  constructor
  · intro h
    obtain ⟨i,p,a,o,s,n⟩:=x
    obtain ⟨i',p',a',o',s',n'⟩:=y
    unfold bdc at h
    simp only [List.cons.injEq,Value.int.injEq,true_and] at h
    obtain ⟨rfl,rfl,h⟩:=h
    obtain ⟨h1,h⟩:=List.append_inj h rfl
    obtain ⟨h2,h⟩:=List.append_inj h rfl
    simp only [List.cons.injEq,Value.int.injEq,Value.bool.injEq,true_and,and_true] at h
    obtain ⟨rfl,rfl⟩:=h
    rw [t6_inj.1 h1,t4_inj.1 h2]
  · rintro rfl; rfl
def Bd.k6 (x:Bd):ByteArray:=key6 x.proto x.inn
def Bd.k4 (x:Bd):ByteArray:=key4 x.proto x.out
def heldB (L:List Bd) (k:Int):List ((Q × Int) × Bool):=(L.filter fun b=>decide (kindB b.proto=k)).map fun b=>(b.out,b.st)
structure InvB (l:List Q) (low high:Int) (mx last n:Nat) (L:List Bd):Prop where
  asc:(L.map (·.id)).Pairwise (· < ·)
  rng:∀ x∈L,1≤x.id∧x.id≤last
  keys6:(L.map fun x=>(x.proto,x.inn)).Nodup
  keys4:(L.map fun x=>(x.proto,x.out)).Nodup
  ok:∀ x∈L,0≤kindB x.proto∧okT6 x.inn∧okT x.out∧0≤x.ses∧x.ses≤n
  pool:∀ x∈L,x.out.1∈l∧isPort x.out.2=true∧isPort x.inn.2=true
  len:L.length≤mx
  mx:mx≤65536
  last:last≤n
  n:n≤1000000
  new:newOk l low high=true
  okl:∀ q∈l,okQ q
section
variable {l:List Q} {low high:Int} {mx last n:Nat} {L:List Bd}
theorem InvB.ids (h:InvB l low high mx last n L):(L.map (·.id)).Nodup:=h.asc.imp fun h e=>by omega
theorem okZ_kind {p:Int} (h:0≤kindB p):okZ p:=by
  unfold kindB at h
  unfold okZ
  split at h
  · omega
  · split at h
    · omega
    · split at h
      · omega
      · omega
theorem kind_cases {p:Int} (h:0≤kindB p):(p=1∧kindB p=0)∨(p=6∧kindB p=1)∨(p=17∧kindB p=2):=by
  unfold kindB at *
  split
  · rename_i e; exact .inl ⟨e,rfl⟩
  · rename_i e
    rw [if_neg e] at h
    split
    · rename_i e2; exact .inr (.inl ⟨e2,rfl⟩)
    · rename_i e2
      rw [if_neg e2] at h
      split
      · rename_i e3; exact .inr (.inr ⟨e3,rfl⟩)
      · rename_i e3
        rw [if_neg e3] at h; omega
theorem kind_inj {p q:Int} (h:0≤kindB p) (e:kindB p=kindB q):p=q:=by
  have h2:0≤kindB q:=by omega
  rcases kind_cases h with ⟨a,b⟩ | ⟨a,b⟩ | ⟨a,b⟩ <;> rcases kind_cases h2 with ⟨c,d⟩ | ⟨c,d⟩ | ⟨c,d⟩ <;> omega
theorem kind_lt {p:Int}:kindB p<3∧-1≤kindB p:=by
  unfold kindB
  split
  · omega
  · split
    · omega
    · split <;> omega
def find6 (p:Int) (a:V6 × Int) (L:List Bd):Option Bd:=L.find? fun x=>decide (x.proto=p∧x.inn=a)
def find4 (p:Int) (o:Q × Int) (L:List Bd):Option Bd:=L.find? fun x=>decide (x.proto=p∧x.out=o)
def findI (i:Int) (L:List Bd):Option Bd:=L.find? fun x=>decide (x.id=i)
theorem find_congr {α:Type} {p q:α→Bool}:∀ {L:List α},(∀ x∈L,p x=q x)→L.find? p=L.find? q
  | [],_=>rfl
  | x::L,h=>by
    rw [List.find?_cons,List.find?_cons,h x (by simp),find_congr fun y hy=>h y (by simp [hy])]
theorem find6_key (h:InvB l low high mx last n L) {p:Int} {a:V6 × Int} (ha:okT6 a):(L.find? fun x=>decide (x.k6=key6 p a))=find6 p a L:=by
  refine find_congr fun x hx=>decide_eq_decide.2 ⟨fun e=>key6_inj (h.ok x hx).2.1 ha e,fun ⟨e1,e2⟩=>?_⟩
  unfold Bd.k6; rw [e1,e2]
theorem find4_key (h:InvB l low high mx last n L) {p:Int} {o:Q × Int} (ho:okT o):(L.find? fun x=>decide (x.k4=key4 p o))=find4 p o L:=by
  refine find_congr fun x hx=>decide_eq_decide.2 ⟨fun e=>key4_inj (h.ok x hx).2.2.1 ho e,fun ⟨e1,e2⟩=>?_⟩
  unfold Bd.k4; rw [e1,e2]
theorem InvB.nd6 (h:InvB l low high mx last n L):(L.map Bd.k6).Nodup:=by
  have h1:=h.keys6
  unfold List.Nodup at h1 ⊢
  rw [List.pairwise_map] at h1 ⊢
  refine h1.imp_of_mem fun {a b} ha hb hab e=>hab ?_
  obtain ⟨e1,e2⟩:=key6_inj (h.ok a ha).2.1 (h.ok b hb).2.1 e
  rw [e1,e2]
theorem InvB.nd4 (h:InvB l low high mx last n L):(L.map Bd.k4).Nodup:=by
  have h1:=h.keys4
  unfold List.Nodup at h1 ⊢
  rw [List.pairwise_map] at h1 ⊢
  refine h1.imp_of_mem fun {a b} ha hb hab e=>hab ?_
  obtain ⟨e1,e2⟩:=key4_inj (h.ok a ha).2.2.1 (h.ok b hb).2.2.1 e
  rw [e1,e2]
theorem find6_mem {p:Int} {a:V6 × Int} {x:Bd} (h:find6 p a L=some x):x∈L∧x.proto=p∧x.inn=a:=by
  obtain ⟨h1,h2⟩:=find_mem h
  exact ⟨h1,of_decide_eq_true h2⟩
theorem find4_mem {p:Int} {a:Q × Int} {x:Bd} (h:find4 p a L=some x):x∈L∧x.proto=p∧x.out=a:=by
  obtain ⟨h1,h2⟩:=find_mem h
  exact ⟨h1,of_decide_eq_true h2⟩
end
def tabC (mx last:Nat) (f:Q) (m x o:Nat) (pl:Nat→Nat):List Value:=.int .i64 mx::.int .i64 last::(v4 f++[.map (some m),ptr x 0,ptr o 0,ptr (pl 0) 0,ptr (pl 1) 0,ptr (pl 2) 0])
structure BdM (tb:Obj) (h:HP) (t mx last:Nat) (f:Q) (E:List (Bd × Nat)) (m x o:Nat) (pl:Nat→Nat):Prop where
  tab:h t=.cells 127 (tabC mx last f m x o pl) 0
  map:MapE iw (fun k:Nat=>ptr k 0) (E.map fun e=>(e.1.id,e.2)) (h m)
  blk:∀ e∈E,h e.2=.cells 36 (bdc e.1) 0
  dig:TabR tb h
structure BdP (tb:Obj) (hq:HP) (t:Nat) (l:List Q) (low high:Int) (mx last n:Nat) (E:List (Bd × Nat)) (ps:Nat→HP) (m x o:Nat) (pl pm:Nat→Nat) (H:Nat→List ((Q × Int) × Bool)):Prop where
  parts:Parts hq ps
  main:BdM tb (ps 0) t mx last (l.headD zq4) E m x o pl
  six:IdxR (ps 1) x mx ((E.map (·.1)).map fun b=>(b.k6,b.id))
  four:IdxR (ps 2) o mx ((E.map (·.1)).map fun b=>(b.k4,b.id))
  pool:∀ k:Nat,k<3→PoolR (ps (3+k)) (pl k) l low high (H k) (pm k)
  inv:InvB l low high mx last n (E.map (·.1))
def BdW (tb:Obj) (hq:HP) (t:Nat) (l:List Q) (low high:Int) (mx last n:Nat) (L:List Bd):Prop:=
  ∃ (E:List (Bd × Nat)) (ps:Nat→HP) (m x o:Nat) (pl pm:Nat→Nat),L=E.map (·.1)∧BdP tb hq t l low high mx last n E ps m x o pl pm fun k=>heldB L k
theorem u123:Tryd.prog.underlying 123=some (.map 3 133):=by kernel_rfl
section
variable {tb:Obj} {hq:HP} {t:Nat} {l:List Q} {low high:Int} {mx last n:Nat} {L:List Bd} {E:List (Bd × Nat)} {ps:Nat→HP} {m x o:Nat} {pl pm:Nat→Nat} {H:Nat→List ((Q × Int) × Bool)} {K:Value→HP→Prop}
theorem BdP.cells (h:BdP tb hq t l low high mx last n E ps m x o pl pm H):hq t=.cells 127 (tabC mx last (l.headD zq4) m x o pl) 0:=(h.parts.sub 0).cells h.main.tab
theorem BdP.c0 (h:BdP tb hq t l low high mx last n E ps m x o pl pm H):hq.cell t 0=some (.int .i64 mx):=HP.cell_of h.cells
theorem BdP.c6 (h:BdP tb hq t l low high mx last n E ps m x o pl pm H):hq.cell t 6=some (.map (some m)):=HP.cell_of h.cells
theorem BdP.c7 (h:BdP tb hq t l low high mx last n E ps m x o pl pm H):hq.cell t 7=some (ptr x 0):=HP.cell_of h.cells
theorem BdP.c8 (h:BdP tb hq t l low high mx last n E ps m x o pl pm H):hq.cell t 8=some (ptr o 0):=HP.cell_of h.cells
theorem BdP.c9 (h:BdP tb hq t l low high mx last n E ps m x o pl pm H) {k:Nat} (hk:k<3):hq.cell t (9+k)=some (ptr (pl k) 0):=by
  rw [HP.cell_of h.cells]
  match k,hk with
  | 0,_=>rfl
  | 1,_=>rfl
  | 2,_=>rfl
theorem BdP.tabr (h:BdP tb hq t l low high mx last n E ps m x o pl pm H):TabR tb hq:=h.main.dig.sub (h.parts.sub 0)
theorem BdP.mapq (h:BdP tb hq t l low high mx last n E ps m x o pl pm H):MapE iw (fun k:Nat=>ptr k 0) (E.map fun e=>(e.1.id,e.2)) (hq m):=h.main.map.sub (h.parts.sub 0)
theorem BdP.blkq (h:BdP tb hq t l low high mx last n E ps m x o pl pm H) {e:Bd × Nat} (he:e∈E):hq e.2=.cells 36 (bdc e.1) 0:=(h.parts.sub 0).cells (h.main.blk e he)
theorem BdP.poolq (h:BdP tb hq t l low high mx last n E ps m x o pl pm H) {k:Nat} (hk:k<3):PoolR hq (pl k) l low high (H k) (pm k):=(h.pool k hk).sub (h.parts.sub (3+k))
theorem BdP.ids (h:BdP tb hq t l low high mx last n E ps m x o pl pm H):(E.map fun e=>e.1.id).Nodup:=by
  have:=h.inv.ids
  rwa [List.map_map] at this
theorem BdP.get (h:BdP tb hq t l low high mx last n E ps m x o pl pm H) (i:Int):getL i (E.map fun e=>(e.1.id,e.2))=(E.find? fun e=>decide (e.1.id=i)).map (·.2):=getL_mapK (fun e:Bd × Nat=>e.1.id) (fun e=>e.2) i E
theorem findE (i:Int):∀ E:List (Bd × Nat),(E.find? fun e=>decide (e.1.id=i)).map (·.1)=findI i (E.map (·.1))
  | []=>rfl
  | e::E=>by
    unfold findI
    rw [List.map_cons,List.find?_cons,List.find?_cons]
    by_cases h:e.1.id=i
    · rw [decide_eq_true h]; rfl
    · rw [decide_eq_false h]; exact findE i E
theorem BdW.sub {hp:HP} (h:BdW tb hq t l low high mx last n L) (hs:HSub hq hp):BdW tb hp t l low high mx last n L:=by
  obtain ⟨E,ps,m,x,o,pl,pm,e,h⟩:=h
  exact ⟨E,ps,m,x,o,pl,pm,e,⟨h.parts.weak hs,h.main,h.six,h.four,h.pool,h.inv⟩⟩
theorem BdW.inv (h:BdW tb hq t l low high mx last n L):InvB l low high mx last n L:=by
  obtain ⟨E,ps,m,x,o,pl,pm,rfl,h⟩:=h
  exact h.inv
theorem BdW.tab (h:BdW tb hq t l low high mx last n L):TabR tb hq:=by
  obtain ⟨E,ps,m,x,o,pl,pm,rfl,h⟩:=h
  exact h.tabr
theorem C71 (h:BdP tb hq t l low high mx last n E ps m x o pl pm H) (hK:K (.bool false) hq):CF Tryd.prog 71 [ptr t 0] hq K:=by
  refine F71_ok _ hq K ?_
  unfold F71
  simp only [Option.isNone_some,ite2_false,ptrN_some,Nat.reduceAdd,h.c6,ldV_some,mapV_map]
  exact hK
def toldV (r:Option Bd):Value:=.tuple ⟨[.agg ⟨bdc (r.getD bd0)⟩,.bool r.isSome]⟩
set_option maxHeartbeats 400000 in
theorem C81 (h:BdP tb hq t l low high mx last n E ps m x o pl pm H) {i:Int} {ok:Bool} (hok:ok=(findI i (E.map (·.1))).isSome) (hK:K (toldV (findI i (E.map (·.1)))) hq):CF Tryd.prog 81 [ptr t 0,.int .i64 i,.bool ok] hq K:=by
  subst hok
  refine F81_ok _ i _ hq K ?_
  unfold F81
  cases hf:E.find? fun e=>decide (e.1.id=i) with
  | none=>
    have hi:findI i (E.map (·.1))=none:=by rw [← findE,hf]; rfl
    rw [hi] at hK ⊢
    show ite2 true _ _
    rw [ite2_true]
    exact ifI rfl (ifI rfl (ifI (Nat.le_refl 26) hK))
  | some e=>
    have hi:findI i (E.map (·.1))=some e.1:=by rw [← findE,hf]; rfl
    obtain ⟨he,_⟩:=find_mem hf
    rw [hi] at hK ⊢
    show ite2 false _ _
    simp only [ite2_false,ptrN_some,Nat.reduceAdd,h.c6,ldV_some,mapV_map]
    refine rdS_lookup (l:=E.map fun e=>(e.1.id,e.2)) u123 enc3 (z:=.pointer none) (fun w=>itoa_zero (by kernel_rfl) w) h.mapq i (ev:=fun k:Nat=>ptr k 0) (cm:=false) ?_
    rw [h.get,hf]
    show ptrV (ptr e.2 0) _
    rw [pq,ptrN_some,HP.cellN_of (h.blkq he),bdc_cells,ldL_some]
    rw [if_pos (bdc_len _),if_pos (bdc_one _),if_pos (by simp [bdc_len])]
    rw [bd_spl rfl,bdc_cells,ldL_some]
    exact hK
theorem found6 (h:BdP tb hq t l low high mx last n E ps m x o pl pm H) {p:Int} {a:V6 × Int} (ha:okT6 a):getL (key6 p a) ((E.map (·.1)).map fun b=>(b.k6,b.id))=(find6 p a (E.map (·.1))).map (·.id):=by
  rw [getL_mapK Bd.k6 Bd.id,find6_key h.inv ha]
theorem found4 (h:BdP tb hq t l low high mx last n E ps m x o pl pm H) {p:Int} {a:Q × Int} (ha:okT a):getL (key4 p a) ((E.map (·.1)).map fun b=>(b.k4,b.id))=(find4 p a (E.map (·.1))).map (·.id):=by
  rw [getL_mapK Bd.k4 Bd.id,find4_key h.inv ha]
theorem findI_of {L:List Bd} (hn:(L.map (·.id)).Nodup) {b:Bd} (hb:b∈L):findI b.id L=some b:=find_of (g:=Bd.id) hn hb
theorem told_of {L:List Bd} (hn:(L.map (·.id)).Nodup) (h0:∀ b∈L,1≤b.id) {r:Option Bd} (hr:∀ b,r=some b→b∈L):findI ((r.map (·.id)).getD 0) L=r:=by
  cases r with
  | none=>
    refine find_none.2 fun b hb=>?_
    have:=h0 b hb
    exact decide_eq_false (by show ¬ b.id=0; omega)
  | some b=>exact findI_of hn (hr b rfl)
set_option maxHeartbeats 400000 in
theorem P65 (h:BdP tb hq t l low high mx last n E ps m x o pl pm H) {p:Int} {a:V6 × Int} (hp:okZ p) (ha:okT6 a) (hK:K (toldV (find6 p a (E.map (·.1)))) hq):CF Tryd.prog 65 [ptr t 0,.int .i64 p,.agg ⟨t6 a⟩] hq K:=by
  refine F65_ok _ p (t6 a) hq K ?_
  unfold F65
  refine C71 h ?_
  simp only [boolV_bool,ite2_false]
  have hr:findI (((find6 p a (E.map (·.1))).map (·.id)).getD 0) (E.map (·.1))=find6 p a (E.map (·.1)):=told_of h.inv.ids (fun b hb=>(h.inv.rng b hb).1) fun b hb=>(find6_mem hb).1
  have fin:∀ K':Value→HP→Prop,K' (toldV (find6 p a (E.map (·.1)))) hq→CF Tryd.prog 81 [ptr t 0,.int .i64 (((find6 p a (E.map (·.1))).map (·.id)).getD 0),.bool ((find6 p a (E.map (·.1))).map (·.id)).isSome] hq K':=fun K' hK'=>by
    refine C81 h (by rw [hr]; simp) ?_
    rw [hr]; exact hK'
  constructor
  all_goals
    simp only [ptrN_some,Nat.reduceAdd,h.c7,ldV_some,pq,t6_cells,ldL_some]
    refine C107 h.tabr hp ha.2 ?_
    simp only [strV_string,ptrN_some,Nat.reduceAdd,h.c7,ldV_some,pq]
    refine C84 (h.six.sub (h.parts.sub 1)) ?_
    rw [found6 h ha]
    simp only [tup2V_mk,intV_int,boolV_bool]
    refine fin _ ?_
    unfold toldV
    simp only [tup2V_mk,aggV_agg,boolV_bool]
    rw [if_pos (bdc_len _),if_pos (bdc_one _),if_pos (by simp [bdc_len])]
    rw [bd_spl rfl,bdc_cells,ldL_some]
    exact hK
set_option maxHeartbeats 400000 in
theorem P63 (h:BdP tb hq t l low high mx last n E ps m x o pl pm H) {p:Int} {a:Q × Int} (hp:okZ p) (ha:okT a) (hK:K (toldV (find4 p a (E.map (·.1)))) hq):CF Tryd.prog 63 [ptr t 0,.int .i64 p,.agg ⟨t4 a⟩] hq K:=by
  refine F63_ok _ p (t4 a) hq K ?_
  unfold F63
  refine C71 h ?_
  simp only [boolV_bool,ite2_false]
  have hr:findI (((find4 p a (E.map (·.1))).map (·.id)).getD 0) (E.map (·.1))=find4 p a (E.map (·.1)):=told_of h.inv.ids (fun b hb=>(h.inv.rng b hb).1) fun b hb=>(find4_mem hb).1
  have fin:∀ K':Value→HP→Prop,K' (toldV (find4 p a (E.map (·.1)))) hq→CF Tryd.prog 81 [ptr t 0,.int .i64 (((find4 p a (E.map (·.1))).map (·.id)).getD 0),.bool ((find4 p a (E.map (·.1))).map (·.id)).isSome] hq K':=fun K' hK'=>by
    refine C81 h (by rw [hr]; simp) ?_
    rw [hr]; exact hK'
  constructor
  all_goals
    simp only [ptrN_some,Nat.reduceAdd,h.c8,ldV_some,pq,t4_all,ldL_some]
    refine C105 h.tabr hp ha.2 ?_
    simp only [strV_string,ptrN_some,Nat.reduceAdd,h.c8,ldV_some,pq]
    refine C84 (h.four.sub (h.parts.sub 2)) ?_
    rw [found4 h ha]
    simp only [tup2V_mk,intV_int,boolV_bool]
    refine fin _ ?_
    unfold toldV
    simp only [tup2V_mk,aggV_agg,boolV_bool]
    rw [if_pos (bdc_len _),if_pos (bdc_one _),if_pos (by simp [bdc_len])]
    rw [bd_spl rfl,bdc_cells,ldL_some]
    exact hK
end
end Go.Proofs
set_option linter.unusedVariables false
set_option linter.unusedSimpArgs false
namespace Go.Proofs
open Go Go.HL
section
variable {l:List Q} {low high:Int} {mx last n:Nat} {L:List Bd}
theorem InvB.filter (h:InvB l low high mx last n L) (p:Bd→Bool):InvB l low high mx last n (L.filter p) where
  asc:=h.asc.sublist (List.filter_sublist.map _)
  rng x hx:=h.rng x (List.mem_filter.1 hx).1
  keys6:=h.keys6.sublist (List.filter_sublist.map _)
  keys4:=h.keys4.sublist (List.filter_sublist.map _)
  ok x hx:=h.ok x (List.mem_filter.1 hx).1
  pool x hx:=h.pool x (List.mem_filter.1 hx).1
  len:=Nat.le_trans (List.length_filter_le _ _) h.len
  mx:=h.mx
  last:=h.last
  n:=h.n
  new:=h.new
  okl:=h.okl
theorem InvB.mono {n':Nat} (h:InvB l low high mx last n L) (hn:n≤n') (hn':n'≤1000000):InvB l low high mx last n' L:=
  { h with ok:=fun x hx=>by obtain ⟨a,b,c,d,e⟩:=h.ok x hx; exact ⟨a,b,c,d,by omega⟩,last:=Nat.le_trans h.last hn,n:=hn' }
theorem nodup_snoc {α β:Type} {f:α→β} {L:List α} {x:α} (h:(L.map f).Nodup) (hx:∀ y∈L,f y≠f x):((L++[x]).map f).Nodup:=by
  rw [List.map_append]
  refine List.nodup_append.2 ⟨h,by simp,fun a ha b hb e=>?_⟩
  obtain ⟨y,hy,rfl⟩:=List.mem_map.1 ha
  simp only [List.map_cons,List.map_nil,List.mem_singleton] at hb
  subst hb
  exact hx y hy e
theorem InvB.put (h:InvB l low high mx last n L) {x:Bd} (hid:x.id=((last+1:Nat):Int)) (hk:0≤kindB x.proto) (h6:okT6 x.inn) (h4:okT x.out) (hs:x.ses=0)
    (hp:x.out.1∈l∧isPort x.out.2=true∧isPort x.inn.2=true) (f6:find6 x.proto x.inn L=none) (f4:find4 x.proto x.out L=none) (hl:L.length<mx) (hn:n<1000000) :
    InvB l low high mx (last+1) (n+1) (L++[x]) where
  asc:=by
    rw [List.map_append]
    refine List.pairwise_append.2 ⟨h.asc,by simp,fun a ha b hb=>?_⟩
    obtain ⟨y,hy,rfl⟩:=List.mem_map.1 ha
    have:=(h.rng y hy).2
    simp only [List.map_cons,List.map_nil,List.mem_singleton] at hb
    subst hb; rw [hid]; omega
  rng y hy:=by
    rcases List.mem_append.1 hy with hy | hy
    · have:=h.rng y hy; omega
    · rw [List.mem_singleton.1 hy,hid]; omega
  keys6:=nodup_snoc h.keys6 fun y hy e=>by
    have:=(find_none.1 f6) y hy
    simp only [decide_eq_false_iff_not] at this
    simp only [Prod.mk.injEq] at e
    exact this e
  keys4:=nodup_snoc h.keys4 fun y hy e=>by
    have:=(find_none.1 f4) y hy
    simp only [decide_eq_false_iff_not] at this
    simp only [Prod.mk.injEq] at e
    exact this e
  ok y hy:=by
    rcases List.mem_append.1 hy with hy | hy
    · obtain ⟨a,b,c,d,e⟩:=h.ok y hy; exact ⟨a,b,c,d,by omega⟩
    · rw [List.mem_singleton.1 hy]; exact ⟨hk,h6,h4,by omega,by omega⟩
  pool y hy:=by
    rcases List.mem_append.1 hy with hy | hy
    · exact h.pool y hy
    · rw [List.mem_singleton.1 hy]; exact hp
  len:=by rw [List.length_append]; simp; omega
  mx:=h.mx
  last:=by have:=h.last; omega
  n:=by omega
  new:=h.new
  okl:=h.okl
def setS (i s:Int) (x:Bd):Bd:=if x.id=i then { x with ses:=s } else x
def updB (i s:Int) (L:List Bd):List Bd:=L.map (setS i s)
theorem setS_id (i s:Int) (x:Bd):(setS i s x).id=x.id:=by unfold setS; split <;> rfl
theorem setS_proto (i s:Int) (x:Bd):(setS i s x).proto=x.proto:=by unfold setS; split <;> rfl
theorem setS_inn (i s:Int) (x:Bd):(setS i s x).inn=x.inn:=by unfold setS; split <;> rfl
theorem setS_out (i s:Int) (x:Bd):(setS i s x).out=x.out:=by unfold setS; split <;> rfl
theorem setS_st (i s:Int) (x:Bd):(setS i s x).st=x.st:=by unfold setS; split <;> rfl
theorem setS_ses (i s:Int) (x:Bd):(setS i s x).ses=x.ses∨(setS i s x).ses=s:=by
  unfold setS; split
  · exact .inr rfl
  · exact .inl rfl
theorem upd_map {β:Type} (f:Bd→β) (i s:Int) (hf:∀ x,f (setS i s x)=f x):(updB i s L).map f=L.map f:=by
  unfold updB
  rw [List.map_map]
  exact List.map_congr_left fun x _=>hf x
theorem InvB.upd (h:InvB l low high mx last n L) {i s:Int} (hs:0≤s∧s≤n):InvB l low high mx last n (updB i s L) where
  asc:=by rw [upd_map (·.id) i s (setS_id i s)]; exact h.asc
  rng y hy:=by
    obtain ⟨x,hx,rfl⟩:=List.mem_map.1 hy
    rw [setS_id]; exact h.rng x hx
  keys6:=by rw [upd_map _ i s fun x=>by rw [setS_proto,setS_inn]]; exact h.keys6
  keys4:=by rw [upd_map _ i s fun x=>by rw [setS_proto,setS_out]]; exact h.keys4
  ok y hy:=by
    obtain ⟨x,hx,rfl⟩:=List.mem_map.1 hy
    obtain ⟨a,b,c,d,e⟩:=h.ok x hx
    rw [setS_proto,setS_inn,setS_out]
    refine ⟨a,b,c,?_⟩
    rcases setS_ses i s x with e' | e' <;> rw [e'] <;> omega
  pool y hy:=by
    obtain ⟨x,hx,rfl⟩:=List.mem_map.1 hy
    rw [setS_inn,setS_out]; exact h.pool x hx
  len:=by unfold updB; rw [List.length_map]; exact h.len
  mx:=h.mx
  last:=h.last
  n:=h.n
  new:=h.new
  okl:=h.okl
theorem held_put (x:Bd) (k:Int):heldB (L++[x]) k=if kindB x.proto=k then heldB L k++[(x.out,x.st)] else heldB L k:=by
  unfold heldB
  rw [List.filter_append,List.map_append]
  by_cases h:kindB x.proto=k
  · rw [if_pos h]
    simp [h]
  · rw [if_neg h]
    simp [h]
theorem held_upd (i s k:Int):heldB (updB i s L) k=heldB L k:=by
  unfold heldB updB
  rw [List.filter_map,List.map_map]
  have e:((fun b=>decide (kindB b.proto=k)) ∘ setS i s)=fun b:Bd=>decide (kindB b.proto=k):=funext fun x=>by
    simp only [Function.comp,setS_proto]
  rw [e]
  exact List.map_congr_left fun x _=>by simp only [Function.comp,setS_out,setS_st]
theorem InvB.outs (h:InvB l low high mx last n L) (k:Int):((L.filter fun b=>decide (kindB b.proto=k)).map (·.out)).Nodup:=by
  have h4:=(h.keys4).sublist ((List.filter_sublist (p:=fun b:Bd=>decide (kindB b.proto=k)) (l:=L)).map fun x=>(x.proto,x.out))
  unfold List.Nodup at h4 ⊢
  rw [List.pairwise_map] at h4 ⊢
  refine h4.imp_of_mem fun {a b} ha hb hab e=>hab ?_
  have ka:=of_decide_eq_true (List.mem_filter.1 ha).2
  have kb:=of_decide_eq_true (List.mem_filter.1 hb).2
  rw [kind_inj (h.ok a (List.mem_filter.1 ha).1).1 (ka.trans kb.symm),e]
theorem held_del (h:InvB l low high mx last n L) {x:Bd} (hx:x∈L):delL x.out (heldB L (kindB x.proto))=heldB (L.filter fun y=>decide (y.id≠x.id)) (kindB x.proto):=by
  unfold heldB
  rw [delL_mapK (fun b:Bd=>b.out) (fun b=>b.st) x.out (h.outs _),List.filter_filter,List.filter_filter]
  congr 1
  refine List.filter_congr fun y hy=>?_
  by_cases hk:kindB y.proto=kindB x.proto
  · rw [decide_eq_true hk,Bool.and_true,Bool.true_and]
    refine decide_eq_decide.2 ⟨fun e e'=>e ?_,fun e e'=>e ?_⟩
    · rw [inj_of h.ids hy hx e']
    · have hp:=kind_inj (h.ok y hy).1 hk
      rw [inj_of h.keys4 hy hx (by rw [hp,e'])]
  · rw [decide_eq_false hk,Bool.and_false,Bool.false_and]
theorem held_del_ne {x:Bd} (hx:x∈L) (hid:(L.map (·.id)).Nodup) {k:Int} (hk:kindB x.proto≠k):heldB (L.filter fun y=>decide (y.id≠x.id)) k=heldB L k:=by
  unfold heldB
  rw [List.filter_filter]
  congr 1
  refine List.filter_congr fun y hy=>?_
  by_cases hky:kindB y.proto=k
  · have:y.id≠x.id:=fun e=>hk (by rw [← inj_of hid hy hx e]; exact hky)
    simp [hky,this]
  · simp [hky]
theorem held_get (h:InvB l low high mx last n L) {p:Int} (hp:0≤kindB p) (o:Q × Int):getL o (heldB L (kindB p))=(find4 p o L).map (·.st):=by
  unfold heldB
  rw [getL_mapK (fun b:Bd=>b.out) (fun b=>b.st),List.find?_filter]
  congr 1
  refine find_congr fun x hx=>?_
  refine decide_eq_decide.2 ⟨fun ⟨a,b⟩=>⟨kind_inj (h.ok x hx).1 (of_decide_eq_true a),of_decide_eq_true b⟩,fun ⟨a,b⟩=>⟨decide_eq_true (by rw [a]),decide_eq_true b⟩⟩
theorem held_len (k:Int):(heldB L k).length≤L.length:=by
  unfold heldB
  rw [List.length_map]
  exact List.length_filter_le _ _
theorem putL_none {α β:Type} [DecidableEq α] {k:α} {v:β} {L:List (α × β)} (h:getL k L=none):putL k v L=L++[(k,v)]:=put_new h
end
end Go.Proofs
set_option linter.unusedVariables false
set_option maxRecDepth 20000
set_option maxHeartbeats 4000000
namespace Go.Proofs
open Go Go.HL
section
variable {e:Env} {x0:OA} {x1:List Value} {x3:OA} {k4:List Value} {hp:HP} {K:Env→PV→HP→Prop}
abbrev R70 (p n:Nat):=RW Tryd.prog 48 [4] (opsAt Tryd.f70 (pth p)) (List.range n)
theorem F70_r0:R70 2 2 (upd e 1 (sA x1)) V0 hp K=
    (∀ b1:Nat,hp b1=.none→(K (w3 e 1 (sA x1) 3 (sQ b1 0) 4 (sR 4 0)) (upd V0 4 (36,[.int .i64 0,.int .i64 0,.int .u8 0,.int .u8 0,.int .u8 0,.int .u8 0,.int .u8 0,.int .u8 0,.int .u8 0,.int .u8 0,.int .u8 0,.int .u8 0,.int .u8 0,.int .u8 0,.int .u8 0,.int .u8 0,.int .u8 0,.int .u8 0,.int .i64 0,.int .u8 0,.int .u8 0,.int .u8 0,.int .u8 0,.int .i64 0,.bool false,.int .i64 0])) (HP.set hp b1 (.cells 36 x1 0)))):=by kernel_rfl
theorem F70_r1:R70 5 8 (upd e 0 (sP x0)) (upd V0 4 (36,k4)) hp K=
 ptrN x0 fun b1 o2=>(ldV (HP.cell hp b1 (o2+1)) fun v3=>intV v3 .i64 fun i4=>ptrN x0 fun b5 o6=>HP.st hp b5 (o6+1) (.int .i64 (wr (i4+1))) fun h7=>K (w8 e 0 (sP x0) 5 (sP x0) 6 (sQ b1 o2) 7 (sQ b1 (o2+1)) 8 (sI i4) 9 (sI ((wr (i4+1)))) 10 (sQ b5 o6) 11 (sQ b5 (o6+1))) (upd V0 4 (36,k4)) h7):= by kernel_rfl
theorem F70_r2:R70 11 6 (w2 e 3 (sP x3) 0 (sP x0)) (upd V0 4 (36,k4)) hp K=
 ptrN x0 fun b1 o2=>(ldV (HP.cell hp b1 (o2+1)) fun v3=>intV v3 .i64 fun i4=>ptrN x3 fun b5 o6=>HP.st hp b5 (o6+0) (.int .i64 i4) fun h7=>K (w7 e 3 (sP x3) 0 (sP x0) 12 (sP x0) 13 (sQ b1 o2) 14 (sQ b1 (o2+1)) 15 (sI i4) 16 (sQ b5 (o6+0))) (upd V0 4 (36,k4)) h7):= by kernel_rfl
theorem F70_r3:R70 23 7 (w2 e 3 (sP x3) 0 (sP x0)) (upd V0 4 (36,k4)) hp K=
 ptrN x0 fun b1 o2=>(ldV (HP.cell hp b1 (o2+6)) fun v3=>mapV v3 fun m4=>ptrN x3 fun b5 o6=>ldV (HP.cell hp b5 (o6+0)) fun v7=>intV v7 .i64 fun i8=>opS Tryd.prog (Instr.mapUpdate 123 (.map m4) (.int .i64 i8) (.pointer x3)) hp fun u9 h10=>K (w8 e 3 (sP x3) 0 (sP x0) 17 (sP x0) 18 (sQ b1 o2) 19 (sQ b1 (o2+6)) 20 (sV (.map m4)) 21 (sQ b5 (o6+0)) 22 (sI i8)) (upd V0 4 (36,k4)) h10):= by kernel_rfl
theorem F70_r4:R70 191 2 (w2 e 4 (sR 4 0) 3 (sP x3)) (upd V0 4 (36,k4)) hp K=
 ptrN x3 fun b1 o2=>(ldL (HP.cellN hp b1 o2 26) fun l3=>if List.length l3=26 then (if List.all l3 one=true then (if 0+List.length l3≤List.length k4 then (K (w3 e 4 (sR 4 0) 3 (sP x3) 47 (sA l3)) (w2 V0 4 (36,k4) 4 (36,(splice k4 0 l3))) hp) else False) else False) else False):= by kernel_rfl
def F70_j2 (x3:OA) (k4:List Value) (hp:HP) (K:Kh):Prop:=
  (ptrN x3 fun b26 o27=>ldL (HP.cellN hp b26 o27 26) fun l28=>if List.length l28=26 then (if List.all l28 one=true then (if 0+List.length l28≤List.length k4 then (ldL (cellsN (splice k4 0 l28) 0 26) fun l29=>K (.agg ⟨l29⟩) hp) else False) else False) else False)
theorem F70_r5 {e:Env} {x0:OA} {x3:OA} {k4:List Value} {hp:HP} {K:Env→PV→HP→Prop}:RW Tryd.prog 48 [4] (opsAt Tryd.f70 (pth 95)) [0,1,2,3,4,5,6,7,8,9,10,11] (w2 e 3 (sP x3) 0 (sP x0)) (upd V0 4 (36,k4)) hp K=
 ptrN x0 fun b1 o2=>(ldV (HP.cell hp b1 (o2+8)) fun v3=>ptrV v3 fun p4=>ptrN x3 fun b5 o6=>ldV (HP.cell hp b5 (o6+1)) fun v7=>intV v7 .i64 fun i8=>ptrN x3 fun b9 o10=>ldL (HP.cellN hp b9 (o10+19) 5) fun l11=>CF Tryd.prog 105 [(.int .i64 i8),(.agg ⟨l11⟩)] hp fun u12 h13=>strV u12 fun s14=>ptrN x3 fun b15 o16=>ldV (HP.cell h13 b15 (o16+0)) fun v17=>intV v17 .i64 fun i18=>CF Tryd.prog 86 [(.pointer p4),(.string s14),(.int .i64 i18)] h13 fun u19 h20=>intV u19 .i64 fun i21=>K (w6 (w8 e 3 (sP x3) 0 (sP x0) 35 (sP x0) 36 (sQ b1 o2) 37 (sQ b1 (o2+8)) 38 (sP p4) 39 (sQ b5 (o6+1)) 40 (sI i8)) 41 (sQ b9 (o10+19)) 42 (sA l11) 43 (sT s14) 44 (sQ b15 (o16+0)) 45 (sI i18) 46 (sI i21)) (upd V0 4 (36,k4)) h20):= by kernel_rfl
theorem F70_r6 {e:Env} {x0:OA} {x3:OA} {k4:List Value} {hp:HP} {K:Env→PV→HP→Prop}:RW Tryd.prog 48 [4] (opsAt Tryd.f70 (pth 95)) [0,1,2,3,4,5,6,7,9,10,8,11] (w2 e 3 (sP x3) 0 (sP x0)) (upd V0 4 (36,k4)) hp K=
 ptrN x0 fun b1 o2=>(ldV (HP.cell hp b1 (o2+8)) fun v3=>ptrV v3 fun p4=>ptrN x3 fun b5 o6=>ldV (HP.cell hp b5 (o6+1)) fun v7=>intV v7 .i64 fun i8=>ptrN x3 fun b9 o10=>ldL (HP.cellN hp b9 (o10+19) 5) fun l11=>ptrN x3 fun b12 o13=>ldV (HP.cell hp b12 (o13+0)) fun v14=>intV v14 .i64 fun i15=>CF Tryd.prog 105 [(.int .i64 i8),(.agg ⟨l11⟩)] hp fun u16 h17=>strV u16 fun s18=>CF Tryd.prog 86 [(.pointer p4),(.string s18),(.int .i64 i15)] h17 fun u19 h20=>intV u19 .i64 fun i21=>K (w6 (w8 e 3 (sP x3) 0 (sP x0) 35 (sP x0) 36 (sQ b1 o2) 37 (sQ b1 (o2+8)) 38 (sP p4) 39 (sQ b5 (o6+1)) 40 (sI i8)) 41 (sQ b9 (o10+19)) 42 (sA l11) 44 (sQ b12 (o13+0)) 45 (sI i15) 43 (sT s18) 46 (sI i21)) (upd V0 4 (36,k4)) h20):= by kernel_rfl
theorem F70_r7 {e:Env} {x0:OA} {x3:OA} {k4:List Value} {hp:HP} {K:Env→PV→HP→Prop}:RW Tryd.prog 48 [4] (opsAt Tryd.f70 (pth 95)) [0,1,2,4,5,6,7,8,3,9,10,11] (w2 e 3 (sP x3) 0 (sP x0)) (upd V0 4 (36,k4)) hp K=
 ptrN x0 fun b1 o2=>(ptrN x3 fun b3 o4=>ldV (HP.cell hp b3 (o4+1)) fun v5=>intV v5 .i64 fun i6=>ptrN x3 fun b7 o8=>ldL (HP.cellN hp b7 (o8+19) 5) fun l9=>CF Tryd.prog 105 [(.int .i64 i6),(.agg ⟨l9⟩)] hp fun u10 h11=>strV u10 fun s12=>ldV (HP.cell h11 b1 (o2+8)) fun v13=>ptrV v13 fun p14=>ptrN x3 fun b15 o16=>ldV (HP.cell h11 b15 (o16+0)) fun v17=>intV v17 .i64 fun i18=>CF Tryd.prog 86 [(.pointer p14),(.string s12),(.int .i64 i18)] h11 fun u19 h20=>intV u19 .i64 fun i21=>K (w6 (w8 e 3 (sP x3) 0 (sP x0) 35 (sP x0) 36 (sQ b1 o2) 37 (sQ b1 (o2+8)) 39 (sQ b3 (o4+1)) 40 (sI i6) 41 (sQ b7 (o8+19))) 42 (sA l9) 43 (sT s12) 38 (sP p14) 44 (sQ b15 (o16+0)) 45 (sI i18) 46 (sI i21)) (upd V0 4 (36,k4)) h20):= by kernel_rfl
theorem F70_r8 {e:Env} {x0:OA} {x3:OA} {k4:List Value} {hp:HP} {K:Env→PV→HP→Prop}:RW Tryd.prog 48 [4] (opsAt Tryd.f70 (pth 95)) [0,1,2,4,5,6,7,9,10,8,3,11] (w2 e 3 (sP x3) 0 (sP x0)) (upd V0 4 (36,k4)) hp K=
 ptrN x0 fun b1 o2=>(ptrN x3 fun b3 o4=>ldV (HP.cell hp b3 (o4+1)) fun v5=>intV v5 .i64 fun i6=>ptrN x3 fun b7 o8=>ldL (HP.cellN hp b7 (o8+19) 5) fun l9=>ptrN x3 fun b10 o11=>ldV (HP.cell hp b10 (o11+0)) fun v12=>intV v12 .i64 fun i13=>CF Tryd.prog 105 [(.int .i64 i6),(.agg ⟨l9⟩)] hp fun u14 h15=>strV u14 fun s16=>ldV (HP.cell h15 b1 (o2+8)) fun v17=>ptrV v17 fun p18=>CF Tryd.prog 86 [(.pointer p18),(.string s16),(.int .i64 i13)] h15 fun u19 h20=>intV u19 .i64 fun i21=>K (w6 (w8 e 3 (sP x3) 0 (sP x0) 35 (sP x0) 36 (sQ b1 o2) 37 (sQ b1 (o2+8)) 39 (sQ b3 (o4+1)) 40 (sI i6) 41 (sQ b7 (o8+19))) 42 (sA l9) 44 (sQ b10 (o11+0)) 45 (sI i13) 43 (sT s16) 38 (sP p18) 46 (sI i21)) (upd V0 4 (36,k4)) h20):= by kernel_rfl
def F70_j1 (x0 x3:OA) (k4:List Value) (hp:HP) (K:Kh):Prop:=
  ((ptrN x0 fun b30 o31=>ldV (HP.cell hp b30 (o31+8)) fun v32=>ptrV v32 fun p33=>ptrN x3 fun b34 o35=>ldV (HP.cell hp b34 (o35+1)) fun v36=>intV v36 .i64 fun i37=>ptrN x3 fun b38 o39=>ldL (HP.cellN hp b38 (o39+19) 5) fun l40=>CF Tryd.prog 105 [(.int .i64 i37),(.agg ⟨l40⟩)] hp fun u41 h42=>strV u41 fun s43=>ptrN x3 fun b44 o45=>ldV (HP.cell h42 b44 (o45+0)) fun v46=>intV v46 .i64 fun i47=>CF Tryd.prog 86 [(.pointer p33),(.string s43),(.int .i64 i47)] h42 fun u48 h49=>intV u48 .i64 fun i50=>F70_j2 x3 k4 h49  K)∧(ptrN x0 fun b51 o52=>ldV (HP.cell hp b51 (o52+8)) fun v53=>ptrV v53 fun p54=>ptrN x3 fun b55 o56=>ldV (HP.cell hp b55 (o56+1)) fun v57=>intV v57 .i64 fun i58=>ptrN x3 fun b59 o60=>ldL (HP.cellN hp b59 (o60+19) 5) fun l61=>ptrN x3 fun b62 o63=>ldV (HP.cell hp b62 (o63+0)) fun v64=>intV v64 .i64 fun i65=>CF Tryd.prog 105 [(.int .i64 i58),(.agg ⟨l61⟩)] hp fun u66 h67=>strV u66 fun s68=>CF Tryd.prog 86 [(.pointer p54),(.string s68),(.int .i64 i65)] h67 fun u69 h70=>intV u69 .i64 fun i71=>F70_j2 x3 k4 h70  K)∧(ptrN x0 fun b72 o73=>ptrN x3 fun b74 o75=>ldV (HP.cell hp b74 (o75+1)) fun v76=>intV v76 .i64 fun i77=>ptrN x3 fun b78 o79=>ldL (HP.cellN hp b78 (o79+19) 5) fun l80=>CF Tryd.prog 105 [(.int .i64 i77),(.agg ⟨l80⟩)] hp fun u81 h82=>strV u81 fun s83=>ldV (HP.cell h82 b72 (o73+8)) fun v84=>ptrV v84 fun p85=>ptrN x3 fun b86 o87=>ldV (HP.cell h82 b86 (o87+0)) fun v88=>intV v88 .i64 fun i89=>CF Tryd.prog 86 [(.pointer p85),(.string s83),(.int .i64 i89)] h82 fun u90 h91=>intV u90 .i64 fun i92=>F70_j2 x3 k4 h91  K)∧(ptrN x0 fun b93 o94=>ptrN x3 fun b95 o96=>ldV (HP.cell hp b95 (o96+1)) fun v97=>intV v97 .i64 fun i98=>ptrN x3 fun b99 o100=>ldL (HP.cellN hp b99 (o100+19) 5) fun l101=>ptrN x3 fun b102 o103=>ldV (HP.cell hp b102 (o103+0)) fun v104=>intV v104 .i64 fun i105=>CF Tryd.prog 105 [(.int .i64 i98),(.agg ⟨l101⟩)] hp fun u106 h107=>strV u106 fun s108=>ldV (HP.cell h107 b93 (o94+8)) fun v109=>ptrV v109 fun p110=>CF Tryd.prog 86 [(.pointer p110),(.string s108),(.int .i64 i105)] h107 fun u111 h112=>intV u111 .i64 fun i113=>F70_j2 x3 k4 h112  K))
theorem F70_r9 {e:Env} {x0:OA} {x3:OA} {k4:List Value} {hp:HP} {K:Env→PV→HP→Prop}:RW Tryd.prog 48 [4] (opsAt Tryd.f70 (pth 47)) [0,1,2,3,4,5,6,7,8,9,10,11] (w2 e 3 (sP x3) 0 (sP x0)) (upd V0 4 (36,k4)) hp K=
 ptrN x0 fun b1 o2=>(ldV (HP.cell hp b1 (o2+7)) fun v3=>ptrV v3 fun p4=>ptrN x3 fun b5 o6=>ldV (HP.cell hp b5 (o6+1)) fun v7=>intV v7 .i64 fun i8=>ptrN x3 fun b9 o10=>ldL (HP.cellN hp b9 (o10+2) 17) fun l11=>CF Tryd.prog 107 [(.int .i64 i8),(.agg ⟨l11⟩)] hp fun u12 h13=>strV u12 fun s14=>ptrN x3 fun b15 o16=>ldV (HP.cell h13 b15 (o16+0)) fun v17=>intV v17 .i64 fun i18=>CF Tryd.prog 86 [(.pointer p4),(.string s14),(.int .i64 i18)] h13 fun u19 h20=>intV u19 .i64 fun i21=>K (w6 (w8 e 3 (sP x3) 0 (sP x0) 23 (sP x0) 24 (sQ b1 o2) 25 (sQ b1 (o2+7)) 26 (sP p4) 27 (sQ b5 (o6+1)) 28 (sI i8)) 29 (sQ b9 (o10+2)) 30 (sA l11) 31 (sT s14) 32 (sQ b15 (o16+0)) 33 (sI i18) 34 (sI i21)) (upd V0 4 (36,k4)) h20):= by kernel_rfl
theorem F70_r10 {e:Env} {x0:OA} {x3:OA} {k4:List Value} {hp:HP} {K:Env→PV→HP→Prop}:RW Tryd.prog 48 [4] (opsAt Tryd.f70 (pth 47)) [0,1,2,3,4,5,6,7,9,10,8,11] (w2 e 3 (sP x3) 0 (sP x0)) (upd V0 4 (36,k4)) hp K=
 ptrN x0 fun b1 o2=>(ldV (HP.cell hp b1 (o2+7)) fun v3=>ptrV v3 fun p4=>ptrN x3 fun b5 o6=>ldV (HP.cell hp b5 (o6+1)) fun v7=>intV v7 .i64 fun i8=>ptrN x3 fun b9 o10=>ldL (HP.cellN hp b9 (o10+2) 17) fun l11=>ptrN x3 fun b12 o13=>ldV (HP.cell hp b12 (o13+0)) fun v14=>intV v14 .i64 fun i15=>CF Tryd.prog 107 [(.int .i64 i8),(.agg ⟨l11⟩)] hp fun u16 h17=>strV u16 fun s18=>CF Tryd.prog 86 [(.pointer p4),(.string s18),(.int .i64 i15)] h17 fun u19 h20=>intV u19 .i64 fun i21=>K (w6 (w8 e 3 (sP x3) 0 (sP x0) 23 (sP x0) 24 (sQ b1 o2) 25 (sQ b1 (o2+7)) 26 (sP p4) 27 (sQ b5 (o6+1)) 28 (sI i8)) 29 (sQ b9 (o10+2)) 30 (sA l11) 32 (sQ b12 (o13+0)) 33 (sI i15) 31 (sT s18) 34 (sI i21)) (upd V0 4 (36,k4)) h20):= by kernel_rfl
theorem F70_r11 {e:Env} {x0:OA} {x3:OA} {k4:List Value} {hp:HP} {K:Env→PV→HP→Prop}:RW Tryd.prog 48 [4] (opsAt Tryd.f70 (pth 47)) [0,1,2,4,5,6,7,8,3,9,10,11] (w2 e 3 (sP x3) 0 (sP x0)) (upd V0 4 (36,k4)) hp K=
 ptrN x0 fun b1 o2=>(ptrN x3 fun b3 o4=>ldV (HP.cell hp b3 (o4+1)) fun v5=>intV v5 .i64 fun i6=>ptrN x3 fun b7 o8=>ldL (HP.cellN hp b7 (o8+2) 17) fun l9=>CF Tryd.prog 107 [(.int .i64 i6),(.agg ⟨l9⟩)] hp fun u10 h11=>strV u10 fun s12=>ldV (HP.cell h11 b1 (o2+7)) fun v13=>ptrV v13 fun p14=>ptrN x3 fun b15 o16=>ldV (HP.cell h11 b15 (o16+0)) fun v17=>intV v17 .i64 fun i18=>CF Tryd.prog 86 [(.pointer p14),(.string s12),(.int .i64 i18)] h11 fun u19 h20=>intV u19 .i64 fun i21=>K (w6 (w8 e 3 (sP x3) 0 (sP x0) 23 (sP x0) 24 (sQ b1 o2) 25 (sQ b1 (o2+7)) 27 (sQ b3 (o4+1)) 28 (sI i6) 29 (sQ b7 (o8+2))) 30 (sA l9) 31 (sT s12) 26 (sP p14) 32 (sQ b15 (o16+0)) 33 (sI i18) 34 (sI i21)) (upd V0 4 (36,k4)) h20):= by kernel_rfl
theorem F70_r12 {e:Env} {x0:OA} {x3:OA} {k4:List Value} {hp:HP} {K:Env→PV→HP→Prop}:RW Tryd.prog 48 [4] (opsAt Tryd.f70 (pth 47)) [0,1,2,4,5,6,7,9,10,8,3,11] (w2 e 3 (sP x3) 0 (sP x0)) (upd V0 4 (36,k4)) hp K=
 ptrN x0 fun b1 o2=>(ptrN x3 fun b3 o4=>ldV (HP.cell hp b3 (o4+1)) fun v5=>intV v5 .i64 fun i6=>ptrN x3 fun b7 o8=>ldL (HP.cellN hp b7 (o8+2) 17) fun l9=>ptrN x3 fun b10 o11=>ldV (HP.cell hp b10 (o11+0)) fun v12=>intV v12 .i64 fun i13=>CF Tryd.prog 107 [(.int .i64 i6),(.agg ⟨l9⟩)] hp fun u14 h15=>strV u14 fun s16=>ldV (HP.cell h15 b1 (o2+7)) fun v17=>ptrV v17 fun p18=>CF Tryd.prog 86 [(.pointer p18),(.string s16),(.int .i64 i13)] h15 fun u19 h20=>intV u19 .i64 fun i21=>K (w6 (w8 e 3 (sP x3) 0 (sP x0) 23 (sP x0) 24 (sQ b1 o2) 25 (sQ b1 (o2+7)) 27 (sQ b3 (o4+1)) 28 (sI i6) 29 (sQ b7 (o8+2))) 30 (sA l9) 32 (sQ b10 (o11+0)) 33 (sI i13) 31 (sT s16) 26 (sP p18) 34 (sI i21)) (upd V0 4 (36,k4)) h20):= by kernel_rfl
def F70 (x0:OA) (x1:List Value) (hp:HP) (K:Kh):Prop:=
  (∀ b1:Nat,hp b1=.none→(ptrN x0 fun b2 o3=>ldV (HP.cell (HP.set hp b1 (.cells 36 x1 0)) b2 (o3+1)) fun v4=>intV v4 .i64 fun i5=>ptrN x0 fun b6 o7=>HP.st (HP.set hp b1 (.cells 36 x1 0)) b6 (o7+1) (.int .i64 (IntKind.wrap .i64 (i5+1))) fun h8=>ptrN x0 fun b9 o10=>ldV (HP.cell h8 b9 (o10+1)) fun v11=>intV v11 .i64 fun i12=>ptrN (some ⟨b1,0,none⟩) fun b13 o14=>HP.st h8 b13 (o14+0) (.int .i64 i12) fun h15=>ptrN x0 fun b16 o17=>ldV (HP.cell h15 b16 (o17+6)) fun v18=>mapV v18 fun m19=>ptrN (some ⟨b1,0,none⟩) fun b20 o21=>ldV (HP.cell h15 b20 (o21+0)) fun v22=>intV v22 .i64 fun i23=>opS Tryd.prog (Instr.mapUpdate 123 (.map m19) (.int .i64 i23) (.pointer (some ⟨b1,0,none⟩))) h15 fun u24 h25=>(ptrN x0 fun b114 o115=>ldV (HP.cell h25 b114 (o115+7)) fun v116=>ptrV v116 fun p117=>ptrN (some ⟨b1,0,none⟩) fun b118 o119=>ldV (HP.cell h25 b118 (o119+1)) fun v120=>intV v120 .i64 fun i121=>ptrN (some ⟨b1,0,none⟩) fun b122 o123=>ldL (HP.cellN h25 b122 (o123+2) 17) fun l124=>CF Tryd.prog 107 [(.int .i64 i121),(.agg ⟨l124⟩)] h25 fun u125 h126=>strV u125 fun s127=>ptrN (some ⟨b1,0,none⟩) fun b128 o129=>ldV (HP.cell h126 b128 (o129+0)) fun v130=>intV v130 .i64 fun i131=>CF Tryd.prog 86 [(.pointer p117),(.string s127),(.int .i64 i131)] h126 fun u132 h133=>intV u132 .i64 fun i134=>F70_j1 x0 (some ⟨b1,0,none⟩) [.int .i64 0,.int .i64 0,.int .u8 0,.int .u8 0,.int .u8 0,.int .u8 0,.int .u8 0,.int .u8 0,.int .u8 0,.int .u8 0,.int .u8 0,.int .u8 0,.int .u8 0,.int .u8 0,.int .u8 0,.int .u8 0,.int .u8 0,.int .u8 0,.int .i64 0,.int .u8 0,.int .u8 0,.int .u8 0,.int .u8 0,.int .i64 0,.bool false,.int .i64 0] h133  K)∧(ptrN x0 fun b135 o136=>ldV (HP.cell h25 b135 (o136+7)) fun v137=>ptrV v137 fun p138=>ptrN (some ⟨b1,0,none⟩) fun b139 o140=>ldV (HP.cell h25 b139 (o140+1)) fun v141=>intV v141 .i64 fun i142=>ptrN (some ⟨b1,0,none⟩) fun b143 o144=>ldL (HP.cellN h25 b143 (o144+2) 17) fun l145=>ptrN (some ⟨b1,0,none⟩) fun b146 o147=>ldV (HP.cell h25 b146 (o147+0)) fun v148=>intV v148 .i64 fun i149=>CF Tryd.prog 107 [(.int .i64 i142),(.agg ⟨l145⟩)] h25 fun u150 h151=>strV u150 fun s152=>CF Tryd.prog 86 [(.pointer p138),(.string s152),(.int .i64 i149)] h151 fun u153 h154=>intV u153 .i64 fun i155=>F70_j1 x0 (some ⟨b1,0,none⟩) [.int .i64 0,.int .i64 0,.int .u8 0,.int .u8 0,.int .u8 0,.int .u8 0,.int .u8 0,.int .u8 0,.int .u8 0,.int .u8 0,.int .u8 0,.int .u8 0,.int .u8 0,.int .u8 0,.int .u8 0,.int .u8 0,.int .u8 0,.int .u8 0,.int .i64 0,.int .u8 0,.int .u8 0,.int .u8 0,.int .u8 0,.int .i64 0,.bool false,.int .i64 0] h154  K)∧(ptrN x0 fun b156 o157=>ptrN (some ⟨b1,0,none⟩) fun b158 o159=>ldV (HP.cell h25 b158 (o159+1)) fun v160=>intV v160 .i64 fun i161=>ptrN (some ⟨b1,0,none⟩) fun b162 o163=>ldL (HP.cellN h25 b162 (o163+2) 17) fun l164=>CF Tryd.prog 107 [(.int .i64 i161),(.agg ⟨l164⟩)] h25 fun u165 h166=>strV u165 fun s167=>ldV (HP.cell h166 b156 (o157+7)) fun v168=>ptrV v168 fun p169=>ptrN (some ⟨b1,0,none⟩) fun b170 o171=>ldV (HP.cell h166 b170 (o171+0)) fun v172=>intV v172 .i64 fun i173=>CF Tryd.prog 86 [(.pointer p169),(.string s167),(.int .i64 i173)] h166 fun u174 h175=>intV u174 .i64 fun i176=>F70_j1 x0 (some ⟨b1,0,none⟩) [.int .i64 0,.int .i64 0,.int .u8 0,.int .u8 0,.int .u8 0,.int .u8 0,.int .u8 0,.int .u8 0,.int .u8 0,.int .u8 0,.int .u8 0,.int .u8 0,.int .u8 0,.int .u8 0,.int .u8 0,.int .u8 0,.int .u8 0,.int .u8 0,.int .i64 0,.int .u8 0,.int .u8 0,.int .u8 0,.int .u8 0,.int .i64 0,.bool false,.int .i64 0] h175  K)∧(ptrN x0 fun b177 o178=>ptrN (some ⟨b1,0,none⟩) fun b179 o180=>ldV (HP.cell h25 b179 (o180+1)) fun v181=>intV v181 .i64 fun i182=>ptrN (some ⟨b1,0,none⟩) fun b183 o184=>ldL (HP.cellN h25 b183 (o184+2) 17) fun l185=>ptrN (some ⟨b1,0,none⟩) fun b186 o187=>ldV (HP.cell h25 b186 (o187+0)) fun v188=>intV v188 .i64 fun i189=>CF Tryd.prog 107 [(.int .i64 i182),(.agg ⟨l185⟩)] h25 fun u190 h191=>strV u190 fun s192=>ldV (HP.cell h191 b177 (o178+7)) fun v193=>ptrV v193 fun p194=>CF Tryd.prog 86 [(.pointer p194),(.string s192),(.int .i64 i189)] h191 fun u195 h196=>intV u195 .i64 fun i197=>F70_j1 x0 (some ⟨b1,0,none⟩) [.int .i64 0,.int .i64 0,.int .u8 0,.int .u8 0,.int .u8 0,.int .u8 0,.int .u8 0,.int .u8 0,.int .u8 0,.int .u8 0,.int .u8 0,.int .u8 0,.int .u8 0,.int .u8 0,.int .u8 0,.int .u8 0,.int .u8 0,.int .u8 0,.int .i64 0,.int .u8 0,.int .u8 0,.int .u8 0,.int .u8 0,.int .i64 0,.bool false,.int .i64 0] h196  K)))
noncomputable abbrev o70 (k n:Nat):Code:=.region k (opsAt Tryd.f70 (pth n)) false
noncomputable def F70_code:Code:=(.seq (o70 0 2) (.seq (o70 1 5) (.seq (o70 2 11) (.seq (.region 3 (opsAt Tryd.f70 (pth 23)) true) (.seq (.region 4 (opsAt Tryd.f70 (pth 47)) true) (.seq (.region 5 (opsAt Tryd.f70 (pth 95)) true) (.seq (o70 6 191) .ret)))))))
theorem F70_body:Tryd.f70.body=some F70_code:=by kernel_rfl
theorem F70_ok (x0:OA) (x1:List Value) (hp:HP) (K:Kh) (h:F70 x0 x1 hp K):CF Tryd.prog 70 [(.pointer x0),(.agg ⟨x1⟩)] hp K:=by
 refine .inl ⟨by kernel_rfl,AC.intro (N:=48) Tryd.func70 F70_body rfl (Nat.le_of_ble_eq_true rfl) ?_⟩
 unfold F70 at h
 refine Ar F70_r0 ?_ (r2 1 0 Rn) (z2 Sn) Sn
 refine fun b1 hb_b_1=>?_
 replace h:=h b1 hb_b_1
 refine Ar F70_r1 ?_ (r2 0 3 (rp 4 4 0 Rn)) (z3 Sn) (z1 Sn)
 refine mN h fun b2 o3 h=>mV h fun v4 h=>mI h fun i5 h=>mN h fun b6 o7 h=>mw h fun h8 h=>?_
 refine Ar F70_r2 ?_ (r2 0 3 (rp 4 4 0 Rn)) (z3 Sn) (z1 Sn)
 refine mN h fun b9 o10 h=>mV h fun v11 h=>mI h fun i12 h=>mN h fun b13 o14 h=>mw h fun h15 h=>?_
 refine Aq (AWP.rgnD (by kernel_rfl) (by kernel_rfl) F70_r3 ?_ (r2 0 3 (rp 4 4 0 Rn)) (z3 Sn) (z1 Sn))
 refine mN h fun b16 o17 h=>mV h fun v18 h=>mM h fun m19 h=>mN h fun b20 o21 h=>mV h fun v22 h=>mI h fun i23 h=>mO h fun u24 h25 h=>?_
 refine As (fun env pv hp=>∃ x0 x3 k4,Sub (w3 E0 4 (sR 4 0) 3 (sP x3) 0 (sP x0)) env∧Sub (upd V0 4 (36,k4)) pv∧(F70_j1 x0 x3 k4 hp  K)) ?_ ?_
 ·refine AWP.rgnC (cf:=[(3,8),(8,10)]) (c:=[([true,true],true,[0,1,2,3,4,5,6,7,8,9,10,11]),([true,false],true,[0,1,2,3,4,5,6,7,9,10,8,11]),([false,true],true,[0,1,2,4,5,6,7,8,3,9,10,11]),([false,false],true,[0,1,2,4,5,6,7,9,10,8,3,11])]) (by kernel_rfl) (by kernel_rfl) (by kernel_rfl) (by kernel_rfl) (allO_t (Eq.mpr F70_r9 ?_) (allO_t (Eq.mpr F70_r10 ?_) (allO_t (Eq.mpr F70_r11 ?_) (allO_t (Eq.mpr F70_r12 ?_) trivial)))) (r2 0 3 (rp 4 4 0 Rn)) (z3 Sn) (z1 Sn)
  ·replace h:=h.1
   refine mN h fun b114 o115 h=>mV h fun v116 h=>mP h fun p117 h=>mN h fun b118 o119 h=>mV h fun v120 h=>mI h fun i121 h=>mN h fun b122 o123 h=>mL h fun l124 h=>mC h fun u125 h126 h=>ms h fun s127 h=>mN h fun b128 o129 h=>mV h fun v130 h=>mI h fun i131 h=>mC h fun u132 h133 h=>mI h fun i134 h=>?_
   exact ⟨_,_,_,(z3 Sn),(z1 Sn),h⟩
  ·replace h:=h.2.1
   refine mN h fun b135 o136 h=>mV h fun v137 h=>mP h fun p138 h=>mN h fun b139 o140 h=>mV h fun v141 h=>mI h fun i142 h=>mN h fun b143 o144 h=>mL h fun l145 h=>mN h fun b146 o147 h=>mV h fun v148 h=>mI h fun i149 h=>mC h fun u150 h151 h=>ms h fun s152 h=>mC h fun u153 h154 h=>mI h fun i155 h=>?_
   exact ⟨_,_,_,(z3 Sn),(z1 Sn),h⟩
  ·replace h:=h.2.2.1
   refine mN h fun b156 o157 h=>mN h fun b158 o159 h=>mV h fun v160 h=>mI h fun i161 h=>mN h fun b162 o163 h=>mL h fun l164 h=>mC h fun u165 h166 h=>ms h fun s167 h=>mV h fun v168 h=>mP h fun p169 h=>mN h fun b170 o171 h=>mV h fun v172 h=>mI h fun i173 h=>mC h fun u174 h175 h=>mI h fun i176 h=>?_
   exact ⟨_,_,_,(z3 Sn),(z1 Sn),h⟩
  ·replace h:=h.2.2.2
   refine mN h fun b177 o178 h=>mN h fun b179 o180 h=>mV h fun v181 h=>mI h fun i182 h=>mN h fun b183 o184 h=>mL h fun l185 h=>mN h fun b186 o187 h=>mV h fun v188 h=>mI h fun i189 h=>mC h fun u190 h191 h=>ms h fun s192 h=>mV h fun v193 h=>mP h fun p194 h=>mC h fun u195 h196 h=>mI h fun i197 h=>?_
   exact ⟨_,_,_,(z3 Sn),(z1 Sn),h⟩
 ·rintro env pv hp ⟨x0,x3,k4,he,hv,h⟩
  refine Ae ?_ (r2 0 3 (rp 4 4 0 Rn)) he hv
  unfold F70_j1 at h
  refine As (fun env pv hp=>∃ x3 k4,Sub (w2 E0 4 (sR 4 0) 3 (sP x3)) env∧Sub (upd V0 4 (36,k4)) pv∧(F70_j2 x3 k4 hp  K)) ?_ ?_
  ·refine AWP.rgnC (cf:=[(3,8),(8,10)]) (c:=[([true,true],true,[0,1,2,3,4,5,6,7,8,9,10,11]),([true,false],true,[0,1,2,3,4,5,6,7,9,10,8,11]),([false,true],true,[0,1,2,4,5,6,7,8,3,9,10,11]),([false,false],true,[0,1,2,4,5,6,7,9,10,8,3,11])]) (by kernel_rfl) (by kernel_rfl) (by kernel_rfl) (by kernel_rfl) (allO_t (Eq.mpr F70_r5 ?_) (allO_t (Eq.mpr F70_r6 ?_) (allO_t (Eq.mpr F70_r7 ?_) (allO_t (Eq.mpr F70_r8 ?_) trivial)))) (r2 0 3 (rp 4 4 0 Rn)) (z3 Sn) (z1 Sn)
   ·replace h:=h.1
    refine mN h fun b30 o31 h=>mV h fun v32 h=>mP h fun p33 h=>mN h fun b34 o35 h=>mV h fun v36 h=>mI h fun i37 h=>mN h fun b38 o39 h=>mL h fun l40 h=>mC h fun u41 h42 h=>ms h fun s43 h=>mN h fun b44 o45 h=>mV h fun v46 h=>mI h fun i47 h=>mC h fun u48 h49 h=>mI h fun i50 h=>?_
    exact ⟨_,_,(z2 Sn),(z1 Sn),h⟩
   ·replace h:=h.2.1
    refine mN h fun b51 o52 h=>mV h fun v53 h=>mP h fun p54 h=>mN h fun b55 o56 h=>mV h fun v57 h=>mI h fun i58 h=>mN h fun b59 o60 h=>mL h fun l61 h=>mN h fun b62 o63 h=>mV h fun v64 h=>mI h fun i65 h=>mC h fun u66 h67 h=>ms h fun s68 h=>mC h fun u69 h70 h=>mI h fun i71 h=>?_
    exact ⟨_,_,(z2 Sn),(z1 Sn),h⟩
   ·replace h:=h.2.2.1
    refine mN h fun b72 o73 h=>mN h fun b74 o75 h=>mV h fun v76 h=>mI h fun i77 h=>mN h fun b78 o79 h=>mL h fun l80 h=>mC h fun u81 h82 h=>ms h fun s83 h=>mV h fun v84 h=>mP h fun p85 h=>mN h fun b86 o87 h=>mV h fun v88 h=>mI h fun i89 h=>mC h fun u90 h91 h=>mI h fun i92 h=>?_
    exact ⟨_,_,(z2 Sn),(z1 Sn),h⟩
   ·replace h:=h.2.2.2
    refine mN h fun b93 o94 h=>mN h fun b95 o96 h=>mV h fun v97 h=>mI h fun i98 h=>mN h fun b99 o100 h=>mL h fun l101 h=>mN h fun b102 o103 h=>mV h fun v104 h=>mI h fun i105 h=>mC h fun u106 h107 h=>ms h fun s108 h=>mV h fun v109 h=>mP h fun p110 h=>mC h fun u111 h112 h=>mI h fun i113 h=>?_
    exact ⟨_,_,(z2 Sn),(z1 Sn),h⟩
  ·rintro env pv hp ⟨x3,k4,he,hv,h⟩
   refine Ae ?_ (r1 3 (rp 4 4 0 Rn)) he hv
   unfold F70_j2 at h
   refine Ar F70_r4 ?_ (r1 3 (rp 4 4 0 Rn)) (z2 Sn) (z1 Sn)
   refine mN h fun b26 o27 h=>mL h fun l28 h=>mf h fun h=>mf h fun h=>mf h fun h=>?_
   refine AWP.ret ?_
   exact h
end
section
variable {e:Env} {x0:OA} {x1 k3:List Value} {hp:HP} {K:Env→PV→HP→Prop}
abbrev R72 (p n:Nat):=RW Tryd.prog 30 [3,8,14,16,24,26] (opsAt Tryd.f72 (pth p)) (List.range n)
theorem F72_r0:R72 2 1 (upd e 1 (sA x1)) V0 hp K=
 K (w2 e 1 (sA x1) 3 (sR 3 0)) (upd V0 3 (36,x1)) hp:= by kernel_rfl
theorem F72_r1:R72 5 7 (w2 e 3 (sR 3 0) 0 (sP x0)) (upd V0 3 (36,k3)) hp K=
 ptrN x0 fun b1 o2=>(ldV (HP.cell hp b1 (o2+6)) fun v3=>mapV v3 fun m4=>ldV (k3)[0]? fun v5=>intV v5 .i64 fun i6=>opS Tryd.prog (Builtin.delete_ #[123,3] 0 ⟨[(.map m4),(.int .i64 i6)]⟩) hp fun u7 h8=>K (w8 e 3 (sR 3 0) 0 (sP x0) 4 (sP x0) 5 (sQ b1 o2) 6 (sQ b1 (o2+6)) 7 (sV (.map m4)) 8 (sR 3 0) 9 (sI i6)) (upd V0 3 (36,k3)) h8):= by kernel_rfl
theorem F72_r2 {e:Env} {x0:OA} {k3:List Value} {hp:HP} {K:Env→PV→HP→Prop}:RW Tryd.prog 30 [3,8,14,16,24,26] (opsAt Tryd.f72 (pth 15)) [0,1,2,3,4,5,6,7,8,9] (w2 e 3 (sR 3 0) 0 (sP x0)) (upd V0 3 (36,k3)) hp K=
 ptrN x0 fun b1 o2=>(ldV (HP.cell hp b1 (o2+8)) fun v3=>ptrV v3 fun p4=>ldV (k3)[1]? fun v5=>intV v5 .i64 fun i6=>ldL (cellsN k3 19 5) fun l7=>CF Tryd.prog 105 [(.int .i64 i6),(.agg ⟨l7⟩)] hp fun u8 h9=>strV u8 fun s10=>CF Tryd.prog 92 [(.pointer p4),(.string s10)] h9 fun u11 h12=>boolV u11 fun q13=>K (w4 (w8 e 3 (sR 3 0) 0 (sP x0) 20 (sP x0) 21 (sQ b1 o2) 22 (sQ b1 (o2+8)) 23 (sP p4) 24 (sR 3 1) 25 (sI i6)) 26 (sR 3 19) 27 (sA l7) 28 (sT s10) 29 (sB q13)) (upd V0 3 (36,k3)) h12):= by kernel_rfl
theorem F72_r3 {e:Env} {x0:OA} {k3:List Value} {hp:HP} {K:Env→PV→HP→Prop}:RW Tryd.prog 30 [3,8,14,16,24,26] (opsAt Tryd.f72 (pth 15)) [0,1,2,4,5,6,7,8,3,9] (w2 e 3 (sR 3 0) 0 (sP x0)) (upd V0 3 (36,k3)) hp K=
 ptrN x0 fun b1 o2=>(ldV (k3)[1]? fun v3=>intV v3 .i64 fun i4=>ldL (cellsN k3 19 5) fun l5=>CF Tryd.prog 105 [(.int .i64 i4),(.agg ⟨l5⟩)] hp fun u6 h7=>strV u6 fun s8=>ldV (HP.cell h7 b1 (o2+8)) fun v9=>ptrV v9 fun p10=>CF Tryd.prog 92 [(.pointer p10),(.string s8)] h7 fun u11 h12=>boolV u11 fun q13=>K (w4 (w8 e 3 (sR 3 0) 0 (sP x0) 20 (sP x0) 21 (sQ b1 o2) 22 (sQ b1 (o2+8)) 24 (sR 3 1) 25 (sI i4) 26 (sR 3 19)) 27 (sA l5) 28 (sT s8) 23 (sP p10) 29 (sB q13)) (upd V0 3 (36,k3)) h12):= by kernel_rfl
def F72_j1 (x0:OA) (k3:List Value) (hp:HP) (K:Kh):Prop:=
  ((ptrN x0 fun b9 o10=>ldV (HP.cell hp b9 (o10+8)) fun v11=>ptrV v11 fun p12=>ldV (k3)[1]? fun v13=>intV v13 .i64 fun i14=>ldL (cellsN k3 19 5) fun l15=>CF Tryd.prog 105 [(.int .i64 i14),(.agg ⟨l15⟩)] hp fun u16 h17=>strV u16 fun s18=>CF Tryd.prog 92 [(.pointer p12),(.string s18)] h17 fun u19 h20=>boolV u19 fun q21=>K (.tuple ⟨[]⟩) h20)∧(ptrN x0 fun b22 o23=>ldV (k3)[1]? fun v24=>intV v24 .i64 fun i25=>ldL (cellsN k3 19 5) fun l26=>CF Tryd.prog 105 [(.int .i64 i25),(.agg ⟨l26⟩)] hp fun u27 h28=>strV u27 fun s29=>ldV (HP.cell h28 b22 (o23+8)) fun v30=>ptrV v30 fun p31=>CF Tryd.prog 92 [(.pointer p31),(.string s29)] h28 fun u32 h33=>boolV u32 fun q34=>K (.tuple ⟨[]⟩) h33))
theorem F72_r4 {e:Env} {x0:OA} {k3:List Value} {hp:HP} {K:Env→PV→HP→Prop}:RW Tryd.prog 30 [3,8,14,16,24,26] (opsAt Tryd.f72 (pth 11)) [0,1,2,3,4,5,6,7,8,9] (w2 e 3 (sR 3 0) 0 (sP x0)) (upd V0 3 (36,k3)) hp K=
 ptrN x0 fun b1 o2=>(ldV (HP.cell hp b1 (o2+7)) fun v3=>ptrV v3 fun p4=>ldV (k3)[1]? fun v5=>intV v5 .i64 fun i6=>ldL (cellsN k3 2 17) fun l7=>CF Tryd.prog 107 [(.int .i64 i6),(.agg ⟨l7⟩)] hp fun u8 h9=>strV u8 fun s10=>CF Tryd.prog 92 [(.pointer p4),(.string s10)] h9 fun u11 h12=>boolV u11 fun q13=>K (w4 (w8 e 3 (sR 3 0) 0 (sP x0) 10 (sP x0) 11 (sQ b1 o2) 12 (sQ b1 (o2+7)) 13 (sP p4) 14 (sR 3 1) 15 (sI i6)) 16 (sR 3 2) 17 (sA l7) 18 (sT s10) 19 (sB q13)) (upd V0 3 (36,k3)) h12):= by kernel_rfl
theorem F72_r5 {e:Env} {x0:OA} {k3:List Value} {hp:HP} {K:Env→PV→HP→Prop}:RW Tryd.prog 30 [3,8,14,16,24,26] (opsAt Tryd.f72 (pth 11)) [0,1,2,4,5,6,7,8,3,9] (w2 e 3 (sR 3 0) 0 (sP x0)) (upd V0 3 (36,k3)) hp K=
 ptrN x0 fun b1 o2=>(ldV (k3)[1]? fun v3=>intV v3 .i64 fun i4=>ldL (cellsN k3 2 17) fun l5=>CF Tryd.prog 107 [(.int .i64 i4),(.agg ⟨l5⟩)] hp fun u6 h7=>strV u6 fun s8=>ldV (HP.cell h7 b1 (o2+7)) fun v9=>ptrV v9 fun p10=>CF Tryd.prog 92 [(.pointer p10),(.string s8)] h7 fun u11 h12=>boolV u11 fun q13=>K (w4 (w8 e 3 (sR 3 0) 0 (sP x0) 10 (sP x0) 11 (sQ b1 o2) 12 (sQ b1 (o2+7)) 14 (sR 3 1) 15 (sI i4) 16 (sR 3 2)) 17 (sA l5) 18 (sT s8) 13 (sP p10) 19 (sB q13)) (upd V0 3 (36,k3)) h12):= by kernel_rfl
def F72 (x0:OA) (x1:List Value) (hp:HP) (K:Kh):Prop:=
  (ptrN x0 fun b1 o2=>ldV (HP.cell hp b1 (o2+6)) fun v3=>mapV v3 fun m4=>ldV (x1)[0]? fun v5=>intV v5 .i64 fun i6=>opS Tryd.prog (Builtin.delete_ #[123,3] 0 ⟨[(.map m4),(.int .i64 i6)]⟩) hp fun u7 h8=>(ptrN x0 fun b35 o36=>ldV (HP.cell h8 b35 (o36+7)) fun v37=>ptrV v37 fun p38=>ldV (x1)[1]? fun v39=>intV v39 .i64 fun i40=>ldL (cellsN x1 2 17) fun l41=>CF Tryd.prog 107 [(.int .i64 i40),(.agg ⟨l41⟩)] h8 fun u42 h43=>strV u42 fun s44=>CF Tryd.prog 92 [(.pointer p38),(.string s44)] h43 fun u45 h46=>boolV u45 fun q47=>F72_j1 x0 x1 h46  K)∧(ptrN x0 fun b48 o49=>ldV (x1)[1]? fun v50=>intV v50 .i64 fun i51=>ldL (cellsN x1 2 17) fun l52=>CF Tryd.prog 107 [(.int .i64 i51),(.agg ⟨l52⟩)] h8 fun u53 h54=>strV u53 fun s55=>ldV (HP.cell h54 b48 (o49+7)) fun v56=>ptrV v56 fun p57=>CF Tryd.prog 92 [(.pointer p57),(.string s55)] h54 fun u58 h59=>boolV u58 fun q60=>F72_j1 x0 x1 h59  K))
noncomputable def F72_code:Code:=(.seq (.region 0 (opsAt Tryd.f72 (pth 2)) false) (.seq (.region 1 (opsAt Tryd.f72 (pth 5)) true) (.seq (.region 2 (opsAt Tryd.f72 (pth 11)) true) (.region 3 (opsAt Tryd.f72 (pth 15)) true))))
theorem F72_body:Tryd.f72.body=some F72_code:=by kernel_rfl
theorem F72_ok (x0:OA) (x1:List Value) (hp:HP) (K:Kh) (h:F72 x0 x1 hp K):CF Tryd.prog 72 [(.pointer x0),(.agg ⟨x1⟩)] hp K:=by
 refine .inl ⟨by kernel_rfl,AC.intro (N:=30) Tryd.func72 F72_body rfl (Nat.le_of_ble_eq_true rfl) ?_⟩
 unfold F72 at h
 refine Ar F72_r0 ?_ (r2 1 0 Rn) (z2 Sn) Sn
 refine Aq (AWP.rgnD (by kernel_rfl) (by kernel_rfl) F72_r1 ?_ (r1 0 (rp 3 3 0 Rn)) (z2 Sn) (z1 Sn))
 refine mN h fun b1 o2 h=>mV h fun v3 h=>mM h fun m4 h=>mV h fun v5 h=>mI h fun i6 h=>mO h fun u7 h8 h=>?_
 refine As (fun env pv hp=>∃ x0 k3,Sub (w2 E0 3 (sR 3 0) 0 (sP x0)) env∧Sub (upd V0 3 (36,k3)) pv∧(F72_j1 x0 k3 hp  K)) ?_ ?_
 ·refine AWP.rgnC (cf:=[(3,8)]) (c:=[([true],true,[0,1,2,3,4,5,6,7,8,9]),([false],true,[0,1,2,4,5,6,7,8,3,9])]) (by kernel_rfl) (by kernel_rfl) (by kernel_rfl) (by kernel_rfl) (allO_t (Eq.mpr F72_r4 ?_) (allO_t (Eq.mpr F72_r5 ?_) trivial)) (r1 0 (rp 3 3 0 Rn)) (z2 Sn) (z1 Sn)
  ·replace h:=h.1
   refine mN h fun b35 o36 h=>mV h fun v37 h=>mP h fun p38 h=>mV h fun v39 h=>mI h fun i40 h=>mL h fun l41 h=>mC h fun u42 h43 h=>ms h fun s44 h=>mC h fun u45 h46 h=>mB h fun q47 h=>?_
   exact ⟨_,_,(z2 Sn),(z1 Sn),h⟩
  ·replace h:=h.2
   refine mN h fun b48 o49 h=>mV h fun v50 h=>mI h fun i51 h=>mL h fun l52 h=>mC h fun u53 h54 h=>ms h fun s55 h=>mV h fun v56 h=>mP h fun p57 h=>mC h fun u58 h59 h=>mB h fun q60 h=>?_
   exact ⟨_,_,(z2 Sn),(z1 Sn),h⟩
 ·rintro env pv hp ⟨x0,k3,he,hv,h⟩
  refine Ae ?_ (r1 0 (rp 3 3 0 Rn)) he hv
  unfold F72_j1 at h
  refine AWP.rgnC (cf:=[(3,8)]) (c:=[([true],true,[0,1,2,3,4,5,6,7,8,9]),([false],true,[0,1,2,4,5,6,7,8,3,9])]) (by kernel_rfl) (by kernel_rfl) (by kernel_rfl) (by kernel_rfl) (allO_t (Eq.mpr F72_r2 ?_) (allO_t (Eq.mpr F72_r3 ?_) trivial)) (r1 0 (rp 3 3 0 Rn)) (z2 Sn) (z1 Sn)
  ·replace h:=h.1
   refine mN h fun b9 o10 h=>mV h fun v11 h=>mP h fun p12 h=>mV h fun v13 h=>mI h fun i14 h=>mL h fun l15 h=>mC h fun u16 h17 h=>ms h fun s18 h=>mC h fun u19 h20 h=>mB h fun q21 h=>?_
   exact h
  ·replace h:=h.2
   refine mN h fun b22 o23 h=>mV h fun v24 h=>mI h fun i25 h=>mL h fun l26 h=>mC h fun u27 h28 h=>ms h fun s29 h=>mV h fun v30 h=>mP h fun p31 h=>mC h fun u32 h33 h=>mB h fun q34 h=>?_
   exact h
end
section
variable {e E:Env} {x0:OA} {x1:Int} {x2:List Value} {x8:Bool} {k5:List Value} {hp:HP} {K:Env→PV→HP→Prop}
abbrev R68 (p n:Nat):=RW Tryd.prog 39 [5,7,17] (opsAt Tryd.f68 (pth p)) (List.range n)
theorem F68_r0:R68 2 2 (upd e 2 (sA x2)) V0 hp K=
 K (w3 e 2 (sA x2) 5 (sR 5 0) 6 (sI 0)) (upd V0 5 (32,x2)) hp:= by kernel_rfl
theorem F68_r1:R68 17 3 (upd e 0 (sP x0)) (upd V0 5 (32,k5)) hp K=
 CF Tryd.prog 71 [(.pointer x0)] hp fun u1 h2=>(boolV u1 fun q3=>K (w4 e 0 (sP x0) 10 (sP x0) 11 (sB q3) 9 (sB q3)) (upd V0 5 (32,k5)) h2):= by kernel_rfl
theorem F68_r2:R68 73 1 e V0 hp K=
 K (upd e 6 (sI 2)) V0 hp:= by kernel_rfl
theorem F68_r3:R68 89 4 (upd e 1 (sI x1)) (upd V0 5 (32,k5)) hp K=
 CF Tryd.prog 73 [(.int .i64 x1)] hp fun u1 h2=>(intV u1 .i64 fun i3=>K (w5 e 1 (sI x1) 13 (sI x1) 14 (sI i3) 15 (sB (decide (i3<0))) 12 (sB (decide (i3<0)))) (upd V0 5 (32,k5)) h2):= by kernel_rfl
theorem F68_r4:R68 313 1 e V0 hp K=
 K (upd e 6 (sI 10)) V0 hp:= by kernel_rfl
theorem F68_r5:R68 377 5 (upd e 5 (sR 5 0)) (upd V0 5 (32,k5)) hp K=
 ldV (k5)[16]? fun v1=>(intV v1 .i64 fun i2=>CF Tryd.prog 75 [(.int .i64 i2)] hp fun u3 h4=>boolV u3 fun q5=>K (w6 e 5 (sR 5 0) 17 (sR 5 16) 18 (sI i2) 19 (sB q5) 20 (sB ((!q5))) 16 (sB ((!q5)))) (upd V0 5 (32,k5)) h4):= by kernel_rfl
theorem F68_r6:R68 1273 1 e V0 hp K=
 K (upd e 6 (sI 1)) V0 hp:= by kernel_rfl
theorem F68_r7 (h:E=upd (w2 e 5 (sR 5 0) 1 (sI x1)) 0 (sP x0)):R68 19 10 E (upd V0 5 (32,k5)) hp K=
 ldL (cellsN k5 0 17) fun l1=>(CF Tryd.prog 65 [(.pointer x0),(.int .i64 x1),(.agg ⟨l1⟩)] hp fun u2 h3=>tup2V u2 fun u4 u5=>aggV u4 fun l6=>boolV u5 fun q7=>if List.length l6=26 then (if List.all l6 one=true then (if 0+List.length l6≤List.length [(Value.int .i64 0),.int .i64 0,.int .u8 0,.int .u8 0,.int .u8 0,.int .u8 0,.int .u8 0,.int .u8 0,.int .u8 0,.int .u8 0,.int .u8 0,.int .u8 0,.int .u8 0,.int .u8 0,.int .u8 0,.int .u8 0,.int .u8 0,.int .u8 0,.int .i64 0,.int .u8 0,.int .u8 0,.int .u8 0,.int .u8 0,.int .i64 0,.bool false,.int .i64 0] then (K (upd (w8 E 22 (sP x0) 23 (sI x1) 24 (sA l1) 25 (sV (.tuple ⟨[(.agg ⟨l6⟩),(.bool q7)]⟩)) 21 (sV (.tuple ⟨[(.agg ⟨l6⟩),(.bool q7)]⟩)) 26 (sA l6) 27 (sB q7) 7 (sR 7 0)) 8 (sB q7)) (w3 V0 5 (32,k5) 7 (36,[.int .i64 0,.int .i64 0,.int .u8 0,.int .u8 0,.int .u8 0,.int .u8 0,.int .u8 0,.int .u8 0,.int .u8 0,.int .u8 0,.int .u8 0,.int .u8 0,.int .u8 0,.int .u8 0,.int .u8 0,.int .u8 0,.int .u8 0,.int .u8 0,.int .i64 0,.int .u8 0,.int .u8 0,.int .u8 0,.int .u8 0,.int .i64 0,.bool false,.int .i64 0]) 7 (36,(splice [.int .i64 0,.int .i64 0,.int .u8 0,.int .u8 0,.int .u8 0,.int .u8 0,.int .u8 0,.int .u8 0,.int .u8 0,.int .u8 0,.int .u8 0,.int .u8 0,.int .u8 0,.int .u8 0,.int .u8 0,.int .u8 0,.int .u8 0,.int .u8 0,.int .i64 0,.int .u8 0,.int .u8 0,.int .u8 0,.int .u8 0,.int .i64 0,.bool false,.int .i64 0] 0 l6))) h3) else False) else False) else False):= by subst h; kernel_rfl
theorem F68_r8:R68 43 1 (upd e 8 (sB x8)) V0 hp K=
 K (w2 e 8 (sB x8) 28 (sB x8)) V0 hp:= by kernel_rfl
theorem F68_r9:R68 155 1 e V0 hp K=
 K (upd e 6 (sI 5)) V0 hp:= by kernel_rfl
theorem F68_r10:R68 151 1 e V0 hp K=
 K (upd e 6 (sI 6)) V0 hp:= by kernel_rfl
theorem F68_r11:R68 47 1 e V0 hp K=
 K (upd e 6 (sI 0)) V0 hp:= by kernel_rfl
def F68_j1 (x38:Bool) (hp:HP) (K:Kh):Prop:=
  (ite2 x38 (K (.int .i64 6) hp) (K (.int .i64 0) hp))
theorem F68_r12 {e:Env} {x0:OA} {hp:HP} {K:Env→PV→HP→Prop}:RW Tryd.prog 39 [5,7,17] (opsAt Tryd.f68 (pth 39)) [0,1,2,3,4,5,6,7,8,9] (upd e 0 (sP x0)) V0 hp K=
 ptrN x0 fun b1 o2=>(ldV (HP.cell hp b1 (o2+6)) fun v3=>mapV v3 fun m4=>rdS Tryd.prog (Builtin.len_ #[123] 3 #[.map m4]) hp fun u5=>intV u5 .i64 fun i6=>ptrN x0 fun b7 o8=>ldV (HP.cell hp b7 (o8+0)) fun v9=>intV v9 .i64 fun i10=>K (w3 (w8 e 0 (sP x0) 29 (sP x0) 30 (sQ b1 o2) 31 (sQ b1 (o2+6)) 32 (sV (.map m4)) 33 (sI i6) 34 (sP x0) 35 (sQ b7 o8)) 36 (sQ b7 (o8+0)) 37 (sI i10) 38 (sB (decide (i6≥i10)))) V0 hp):= by kernel_rfl
theorem F68_r13 {e:Env} {x0:OA} {hp:HP} {K:Env→PV→HP→Prop}:RW Tryd.prog 39 [5,7,17] (opsAt Tryd.f68 (pth 39)) [0,1,2,3,5,6,7,8,4,9] (upd e 0 (sP x0)) V0 hp K=
 ptrN x0 fun b1 o2=>(ldV (HP.cell hp b1 (o2+6)) fun v3=>mapV v3 fun m4=>ptrN x0 fun b5 o6=>ldV (HP.cell hp b5 (o6+0)) fun v7=>intV v7 .i64 fun i8=>rdS Tryd.prog (Builtin.len_ #[123] 3 #[.map m4]) hp fun u9=>intV u9 .i64 fun i10=>K (w3 (w8 e 0 (sP x0) 29 (sP x0) 30 (sQ b1 o2) 31 (sQ b1 (o2+6)) 32 (sV (.map m4)) 34 (sP x0) 35 (sQ b5 o6) 36 (sQ b5 (o6+0))) 37 (sI i8) 33 (sI i10) 38 (sB (decide (i10≥i8)))) V0 hp):= by kernel_rfl
def F68 (x0:OA) (x1:Int) (x2:List Value) (hp:HP) (K:Kh):Prop:=
  (CF Tryd.prog 71 [(.pointer x0)] hp fun u1 h2=>boolV u1 fun q3=>ite2 q3 (K (.int .i64 2) h2) (CF Tryd.prog 73 [(.int .i64 x1)] h2 fun u4 h5=>intV u4 .i64 fun i6=>ite2 (decide (i6<0)) (K (.int .i64 10) h5) (ldV (x2)[16]? fun v7=>intV v7 .i64 fun i8=>CF Tryd.prog 75 [(.int .i64 i8)] h5 fun u9 h10=>boolV u9 fun q11=>ite2 (!q11) (K (.int .i64 1) h10) (ldL (cellsN x2 0 17) fun l12=>CF Tryd.prog 65 [(.pointer x0),(.int .i64 x1),(.agg ⟨l12⟩)] h10 fun u13 h14=>tup2V u13 fun u15 u16=>aggV u15 fun l17=>boolV u16 fun q18=>if List.length l17=26 then (if List.all l17 one=true then (if 0+List.length l17≤List.length [(Value.int .i64 0),.int .i64 0,.int .u8 0,.int .u8 0,.int .u8 0,.int .u8 0,.int .u8 0,.int .u8 0,.int .u8 0,.int .u8 0,.int .u8 0,.int .u8 0,.int .u8 0,.int .u8 0,.int .u8 0,.int .u8 0,.int .u8 0,.int .u8 0,.int .i64 0,.int .u8 0,.int .u8 0,.int .u8 0,.int .u8 0,.int .i64 0,.bool false,.int .i64 0] then (ite2 q18 (K (.int .i64 5) h14) ((ptrN x0 fun b19 o20=>ldV (HP.cell h14 b19 (o20+6)) fun v21=>mapV v21 fun m22=>rdS Tryd.prog (Builtin.len_ #[123] 3 #[.map m22]) h14 fun u23=>intV u23 .i64 fun i24=>ptrN x0 fun b25 o26=>ldV (HP.cell h14 b25 (o26+0)) fun v27=>intV v27 .i64 fun i28=>F68_j1 (decide (i24≥i28)) h14  K)∧(ptrN x0 fun b29 o30=>ldV (HP.cell h14 b29 (o30+6)) fun v31=>mapV v31 fun m32=>ptrN x0 fun b33 o34=>ldV (HP.cell h14 b33 (o34+0)) fun v35=>intV v35 .i64 fun i36=>rdS Tryd.prog (Builtin.len_ #[123] 3 #[.map m32]) h14 fun u37=>intV u37 .i64 fun i38=>F68_j1 (decide (i38≥i36)) h14  K))) else False) else False) else False))))
noncomputable abbrev o68 (k n:Nat):Code:=.region k (opsAt Tryd.f68 (pth n)) false
noncomputable def F68_code:Code:=(.seq (o68 0 2) (.seq (.block 0 (.seq (o68 1 17) (.cond (.tmp 9) (.seq (o68 2 73) .ret) (.seq (o68 3 89) (.cond (.tmp 12) (.seq (o68 4 313) .ret) (.seq (o68 5 377) (.cond (.tmp 16) (.seq (o68 6 1273) .ret) .skip))))))) (.seq (.seq (o68 7 19) (.seq (o68 8 43) (.cond (.tmp 28) (.seq (o68 9 155) .ret) .skip))) (.seq (.seq (.region 10 (opsAt Tryd.f68 (pth 39)) true) (.cond (.tmp 38) (.seq (o68 11 151) .ret) .skip)) (.seq (o68 12 47) .ret)))))
theorem F68_body:Tryd.f68.body=some F68_code:=by kernel_rfl
theorem F68_ok (x0:OA) (x1:Int) (x2:List Value) (hp:HP) (K:Kh) (h:F68 x0 x1 x2 hp K):CF Tryd.prog 68 [(.pointer x0),(.int .i64 x1),(.agg ⟨x2⟩)] hp K:=by
 refine .inl ⟨by kernel_rfl,AC.intro (N:=39) Tryd.func68 F68_body rfl (Nat.le_of_ble_eq_true rfl) ?_⟩
 unfold F68 at h
 refine Ar F68_r0 ?_ (r3 2 0 1 Rn) (z3 Sn) Sn
 refine Aq (AWP.block (Ar F68_r1 ?_ (r2 0 1 (rp 5 5 0 Rn)) (z3 Sn) (z1 Sn)))
 refine mC h fun u1 h2 h=>mB h fun q3 h=>?_
 refine Ac h rfl (fun h=>?_) (fun h=>?_)
 ·refine Ar F68_r2 ?_ Rn Sn Sn
  refine AWP.ret ?_
  exact h
 ·refine Ar F68_r3 ?_ (r2 1 0 (rp 5 5 0 Rn)) (z3 Sn) (z1 Sn)
  refine mC h fun u4 h5 h=>mI h fun i6 h=>?_
  refine Ac h rfl (fun h=>?_) (fun h=>?_)
  ·refine Ar F68_r4 ?_ Rn Sn Sn
   refine AWP.ret ?_
   exact h
  ·refine Ar F68_r5 ?_ (rp 5 5 0 (r2 0 1 Rn)) (z3 Sn) (z1 Sn)
   refine mV h fun v7 h=>mI h fun i8 h=>mC h fun u9 h10 h=>mB h fun q11 h=>?_
   refine Ac h rfl (fun h=>?_) (fun h=>?_)
   ·refine Ar F68_r6 ?_ Rn Sn Sn
    refine AWP.ret ?_
    exact h
   ·refine AWP.skip (Aq (Ar (F68_r7 rfl) ?_ (r2 0 1 (rp 5 5 0 Rn)) (z3 Sn) (z1 Sn)))
    refine mL h fun l12 h=>mC h fun u13 h14 h=>mT h fun u15 u16 h=>mA h fun l17 h=>mB h fun q18 h=>mf h fun h=>mf h fun h=>mf h fun h=>?_
    refine Ar F68_r8 ?_ (r2 8 0 Rn) (z2 Sn) Sn
    refine Ac h rfl (fun h=>?_) (fun h=>?_)
    ·refine Ar F68_r9 ?_ Rn Sn Sn
     refine AWP.ret ?_
     exact h
    ·refine AWP.skip (Aq (As (fun env pv hp=>∃ x38,Sub (upd E0 38 (sB x38)) env∧Sub V0 pv∧F68_j1 x38 hp  K) ?_ ?_))
     ·refine AWP.rgnC (cf:=[(4,8)]) (c:=[([true],true,[0,1,2,3,4,5,6,7,8,9]),([false],true,[0,1,2,3,5,6,7,8,4,9])]) (by kernel_rfl) (by kernel_rfl) (by kernel_rfl) (by kernel_rfl) (allO_t (Eq.mpr F68_r12 ?_) (allO_t (Eq.mpr F68_r13 ?_) trivial)) (r1 0 Rn) (z1 Sn) Sn
      ·replace h:=h.1
       refine mN h fun b19 o20 h=>mV h fun v21 h=>mM h fun m22 h=>mR h fun u23 h=>mI h fun i24 h=>mN h fun b25 o26 h=>mV h fun v27 h=>mI h fun i28 h=>?_
       exact ⟨_,(z1 Sn),Sn,h⟩
      ·replace h:=h.2
       refine mN h fun b29 o30 h=>mV h fun v31 h=>mM h fun m32 h=>mN h fun b33 o34 h=>mV h fun v35 h=>mI h fun i36 h=>mR h fun u37 h=>mI h fun i38 h=>?_
       exact ⟨_,(z1 Sn),Sn,h⟩
     ·rintro env pv hp ⟨x38,he,hv,h⟩
      refine Ae ?_ (r1 38 Rn) he hv
      unfold F68_j1 at h
      refine Ac h rfl (fun h=>?_) (fun h=>?_)
      ·refine Ar F68_r10 ?_ Rn Sn Sn
       refine AWP.ret ?_
       exact h
      ·refine AWP.skip (Ar F68_r11 ?_ Rn Sn Sn)
       refine AWP.ret ?_
       exact h
end
end Go.Proofs
set_option linter.unusedVariables false
set_option linter.unusedSimpArgs false
set_option maxRecDepth 20000
namespace Go.Proofs
open Go Go.HL
section
variable {tb:Obj} {hq:HP} {t:Nat} {l:List Q} {low high:Int} {mx last n:Nat} {L:List Bd} {E:List (Bd × Nat)} {ps:Nat→HP} {m x o:Nat} {pl pm:Nat→Nat} {H:Nat→List ((Q × Int) × Bool)} {K:Value→HP→Prop}
theorem BdM.mt {h:HP} {f:Q} (hm:BdM tb h t mx last f E m x o pl):m≠t:=fun e=>by
  obtain ⟨es,clock,e1,_⟩:=hm.map
  rw [e,hm.tab] at e1; cases e1
theorem BdM.m0 {h:HP} {f:Q} (hm:BdM tb h t mx last f E m x o pl):m≠0:=fun e=>by
  obtain ⟨es,clock,e1,_⟩:=hm.map
  obtain ⟨g1,a,z,g2⟩:=hm.dig
  rw [e,g1,g2] at e1; cases e1
theorem BdM.t0 {h:HP} {f:Q} (hm:BdM tb h t mx last f E m x o pl):t≠0:=fun e=>by
  have:=hm.tab
  obtain ⟨g1,a,z,g2⟩:=hm.dig
  rw [e,g1] at this; cases this
theorem BdM.bt {h:HP} {f:Q} (hm:BdM tb h t mx last f E m x o pl) {e:Bd × Nat} (he:e∈E):e.2≠t:=fun e'=>by
  have:=hm.blk e he
  rw [e',hm.tab] at this; cases this
theorem BdM.bm {h:HP} {f:Q} (hm:BdM tb h t mx last f E m x o pl) {e:Bd × Nat} (he:e∈E):e.2≠m:=fun e'=>by
  have:=hm.blk e he
  obtain ⟨es,clock,e1,_⟩:=hm.map
  rw [e',e1] at this; cases this
theorem BdM.b0 {h:HP} {f:Q} (hm:BdM tb h t mx last f E m x o pl) {e:Bd × Nat} (he:e∈E):e.2≠0:=fun e'=>by
  have:=hm.blk e he
  obtain ⟨g1,a,z,g2⟩:=hm.dig
  rw [e',g1] at this; cases this
theorem pu_pu (ps:Nat→HP) (i:Nat) (a b:HP):pu (pu ps i a) i b=pu ps i b:=funext fun j=>by
  by_cases h:j=i
  · rw [h,pu_eq,pu_eq]
  · rw [pu_ne _ _ h,pu_ne _ _ h,pu_ne _ _ h]
theorem BdM.reads {A hp:HP} {f:Q} {qs:Nat→HP} (hm:BdM tb A t mx last f E m x o pl) (P:Parts hp qs) (hA:qs 0=A) :
    TabR tb hp∧hp.cell t 0=some (.int .i64 mx)∧hp.cell t 1=some (.int .i64 last)∧hp.cell t 6=some (.map (some m))∧hp.cell t 7=some (ptr x 0)∧hp.cell t 8=some (ptr o 0):=by
  have hs:HSub A hp:=hA▸P.sub 0
  have hc:=hs.cells hm.tab
  exact ⟨hm.dig.sub hs,HP.cell_of hc,HP.cell_of hc,HP.cell_of hc,HP.cell_of hc,HP.cell_of hc⟩
theorem BdM.readb {A hp:HP} {f:Q} {qs:Nat→HP} (hm:BdM tb A t mx last f E m x o pl) (P:Parts hp qs) (hA:qs 0=A) {y:Bd} {b:Nat} (hb:A b=.cells 36 (bdc y) 0) :
    hp.cell b 0=some (.int .i64 y.id)∧hp.cell b 1=some (.int .i64 y.proto)∧hp.cellN b 2 17=some (t6 y.inn)∧hp.cellN b 19 5=some (t4 y.out)∧hp.cellN b 0 26=some (bdc y):=by
  have hs:HSub A hp:=hA▸P.sub 0
  have hc:=hs.cells hb
  exact ⟨HP.cell_of hc,HP.cell_of hc,HP.cellN_of hc,HP.cellN_of hc,HP.cellN_of hc⟩
set_option maxHeartbeats 1000000 in
theorem P70 (h:BdP tb hq t l low high mx last n E ps m x o pl pm H) {y:Bd} (hk:0≤kindB y.proto) (h6:okT6 y.inn) (h4:okT y.out) (hs:y.ses=0)
    (hp:y.out.1∈l∧isPort y.out.2=true∧isPort y.inn.2=true) (f6:find6 y.proto y.inn (E.map (·.1))=none) (f4:find4 y.proto y.out (E.map (·.1))=none) (hl:E.length<mx) (hn:n<1000000)
    (hK:∀ hq' ps' b,BdP tb hq' t l low high mx (last+1) (n+1) (E++[({ y with id:=((last+1:Nat):Int) },b)]) ps' m x o pl pm H→K (.agg ⟨bdc { y with id:=((last+1:Nat):Int) }⟩) hq') :
    CF Tryd.prog 70 [ptr t 0,.agg ⟨bdc y⟩] hq K:=by
  refine F70_ok _ (bdc y) hq K ?_
  unfold F70
  refine fun (b:Nat) (hb:hq b=Ent.none)=>?_
  have hbq:∀ i,ps i b=.none:=fun i=>by
    rcases h.parts.sub i b with e | e
    · exact e
    · rw [e]; exact hb
  have htb:t≠b:=fun e=>by have:=hbq 0; rw [← e,h.main.tab] at this; cases this
  have hmb:m≠b:=fun e=>by
    obtain ⟨es,clock,e1,_⟩:=h.main.map
    have:=hbq 0; rw [← e,e1] at this; cases this
  have P1:=h.parts.new 0 hb (.cells 36 (bdc y) 0)
  have g1:(hq.set b (.cells 36 (bdc y) 0)) t=.cells 127 (tabC mx last (l.headD zq4) m x o pl) 0:=by rw [HP.set_ne _ _ htb]; exact h.cells
  have g2:(hq.set b (.cells 36 (bdc y) 0)) b=.cells 36 (bdc y) 0:=HP.set_eq ..
  have g3:((hq.set b (.cells 36 (bdc y) 0)) m)=hq m:=HP.set_ne _ _ hmb
  have c1:(hq.set b (.cells 36 (bdc y) 0)).cell t 1=some (.int .i64 last):=HP.cell_of g1
  simp only [ptrN_some,Nat.reduceAdd,c1,ldV_some,intV_int]
  have hla:=h.inv.last
  have w1:IntKind.wrap .i64 ((last:Int)+1)=((last+1:Nat):Int):=wi (by omega) (by omega)
  rw [w1]
  refine HP.st_at g1 (by simp [tabC,v4]) ?_
  have P2:=P1.put 0 (b:=t) (by rw [pu_eq,HP.set_ne _ _ htb,h.main.tab]; simp) (.cells 127 (tabC mx (last+1) (l.headD zq4) m x o pl) 0)
  rw [pu_eq,pu_pu] at P2
  rw [show (tabC mx last (l.headD zq4) m x o pl).set 1 (.int .i64 ((last+1:Nat):Int))=tabC mx (last+1) (l.headD zq4) m x o pl from rfl]
  have g4:((hq.set b (.cells 36 (bdc y) 0)).set t (.cells 127 (tabC mx (last+1) (l.headD zq4) m x o pl) 0)) t=.cells 127 (tabC mx (last+1) (l.headD zq4) m x o pl) 0:=HP.set_eq ..
  have g5:((hq.set b (.cells 36 (bdc y) 0)).set t (.cells 127 (tabC mx (last+1) (l.headD zq4) m x o pl) 0)) b=.cells 36 (bdc y) 0:=by rw [HP.set_ne _ _ htb.symm]; exact g2
  have g6:((hq.set b (.cells 36 (bdc y) 0)).set t (.cells 127 (tabC mx (last+1) (l.headD zq4) m x o pl) 0)) m=hq m:=by rw [HP.set_ne _ _ h.main.mt]; exact g3
  have c2:((hq.set b (.cells 36 (bdc y) 0)).set t (.cells 127 (tabC mx (last+1) (l.headD zq4) m x o pl) 0)).cell t 1=some (.int .i64 ((last+1:Nat):Int)):=HP.cell_of g4
  simp only [c2,ldV_some,intV_int]
  refine HP.st_at g5 (by simp [bdc_len]) ?_
  rw [show (bdc y).set 0 (.int .i64 ((last+1:Nat):Int))=bdc { y with id:=((last+1:Nat):Int) } from rfl]
  have P3:=P2.put 0 (b:=b) (by rw [pu_eq,HP.set_ne _ _ htb.symm,HP.set_eq]; simp) (.cells 36 (bdc { y with id:=((last+1:Nat):Int) }) 0)
  rw [pu_eq,pu_pu] at P3
  obtain ⟨y',hy'⟩:∃ y':Bd,y'={ y with id:=((last+1:Nat):Int) }:=⟨_,rfl⟩
  have ey:y'.id=((last+1:Nat):Int):=by rw [hy']
  have e6:y'.inn=y.inn:=by rw [hy']
  have e4:y'.out=y.out:=by rw [hy']
  have ep:y'.proto=y.proto:=by rw [hy']
  have es:y'.ses=y.ses:=by rw [hy']
  rw [← hy'] at P3 hK ⊢
  have hy0:∀ e∈E,e.1.id≠y'.id:=fun e he h'=>by
    have:=(h.inv.rng e.1 (List.mem_map.2 ⟨e,he,rfl⟩)).2
    rw [h',ey] at this; omega
  have htm:=h.main.mt.symm
  have q1:(((hq.set b (.cells 36 (bdc y) 0)).set t (.cells 127 (tabC mx (last+1) (l.headD zq4) m x o pl) 0)).set b (.cells 36 (bdc y') 0)) t=.cells 127 (tabC mx (last+1) (l.headD zq4) m x o pl) 0:=by rw [HP.set_ne _ _ htb]; exact g4
  have q2:(((hq.set b (.cells 36 (bdc y) 0)).set t (.cells 127 (tabC mx (last+1) (l.headD zq4) m x o pl) 0)).set b (.cells 36 (bdc y') 0)) b=.cells 36 (bdc y') 0:=HP.set_eq ..
  have q3:(((hq.set b (.cells 36 (bdc y) 0)).set t (.cells 127 (tabC mx (last+1) (l.headD zq4) m x o pl) 0)).set b (.cells 36 (bdc y') 0)) m=hq m:=by rw [HP.set_ne _ _ hmb]; exact g6
  have eA:∀ (e:Ent),MapE iw (fun k:Nat=>ptr k 0) (putL y'.id b (E.map fun e=>(e.1.id,e.2))) e→BdM tb (((((ps 0).set b (.cells 36 (bdc y) 0)).set t (.cells 127 (tabC mx (last+1) (l.headD zq4) m x o pl) 0)).set b (.cells 36 (bdc y') 0)).set m e) t mx (last+1) (l.headD zq4) (E++[(y',b)]) m x o pl:=by
    intro e he
    refine ⟨?_,?_,?_,?_⟩
    · rw [HP.set_ne _ _ htm,HP.set_ne _ _ htb,HP.set_eq]
    · rw [HP.set_eq]
      rw [put_new (getL_none.2 (by
        rw [List.map_map]
        intro hmem
        obtain ⟨e,hme,e2⟩:=List.mem_map.1 hmem
        exact hy0 e hme e2))] at he
      rw [List.map_append]
      exact he
    · intro e hme
      rcases List.mem_append.1 hme with hme | hme
      · have hbe:e.2≠b:=fun e'=>by
          have:=h.main.blk e hme
          rw [e',hbq 0] at this; cases this
        rw [HP.set_ne _ _ (h.main.bm hme),HP.set_ne _ _ hbe,HP.set_ne _ _ (h.main.bt hme),HP.set_ne _ _ hbe]
        exact h.main.blk e hme
      · rw [List.mem_singleton.1 hme]
        simp only
        rw [HP.set_ne _ _ hmb.symm,HP.set_eq]
    · refine ⟨?_,h.main.dig.2⟩
      have hb0:(0:Nat)≠b:=fun e'=>by
        have:=hbq 0
        rw [← e',h.main.dig.1] at this; cases this
      rw [HP.set_ne _ _ h.main.m0.symm,HP.set_ne _ _ hb0,HP.set_ne _ _ h.main.t0.symm,HP.set_ne _ _ hb0]
      exact h.main.dig.1
  have n1:((((ps 0).set b (.cells 36 (bdc y) 0)).set t (.cells 127 (tabC mx (last+1) (l.headD zq4) m x o pl) 0)).set b (.cells 36 (bdc y') 0)) m≠.none:=by
    rw [HP.set_ne _ _ hmb,HP.set_ne _ _ h.main.mt,HP.set_ne _ _ hmb]; exact h.main.map.ne
  have x1:ps 1=pu ps 0 ((((ps 0).set b (.cells 36 (bdc y) 0)).set t (.cells 127 (tabC mx (last+1) (l.headD zq4) m x o pl) 0)).set b (.cells 36 (bdc y') 0)) 1:=(pu_ne _ _ (by omega)).symm
  clear g1 g2 g3 g4 g5 g6 c1 c2 P1 P2
  generalize ((hq.set b (.cells 36 (bdc y) 0)).set t (.cells 127 (tabC mx (last+1) (l.headD zq4) m x o pl) 0)).set b (.cells 36 (bdc y') 0)=hq3 at *
  generalize hA3:((((ps 0).set b (.cells 36 (bdc y) 0)).set t (.cells 127 (tabC mx (last+1) (l.headD zq4) m x o pl) 0)).set b (.cells 36 (bdc y') 0))=A3 at *
  have c6:hq3.cell t 6=some (.map (some m)):=HP.cell_of q1
  have b0:hq3.cell b 0=some (.int .i64 y'.id):=HP.cell_of q2
  simp only [c6,b0,ldV_some,mapV_map,intV_int]
  refine opS_mapUpdate u123 enc3 (l:=E.map fun e=>(e.1.id,e.2)) (q3▸h.mapq) y'.id (ev:=fun k:Nat=>ptr k 0) b fun e he=>?_
  have hm:=eA e he
  have P4:=P3.put 0 (b:=m) (by rw [pu_eq]; exact n1) e
  rw [pu_eq,pu_pu] at P4
  generalize hq3.set m e=hq4 at *
  generalize A3.set m e=A at *
  have hAb:A b=.cells 36 (bdc y') 0:=hm.blk (y',b) (by simp)
  obtain ⟨r0,_,_,_,r7,r8⟩:=hm.reads P4 (pu_eq ..)
  obtain ⟨s0,s1,s2,s3,s4⟩:=hm.readb P4 (pu_eq ..) hAb
  have okp:okZ y'.proto:=by rw [ep]; exact okZ_kind hk
  have ok6':okT6 y'.inn:=by rw [e6]; exact h6
  have ok4':okT y'.out:=by rw [e4]; exact h4
  have new6:getL (key6 y'.proto y'.inn) ((E.map (·.1)).map fun b=>(b.k6,b.id))=none:=by rw [found6 h ok6',ep,e6,f6]; rfl
  have new4:getL (key4 y'.proto y'.out) ((E.map (·.1)).map fun b=>(b.k4,b.id))=none:=by rw [found4 h ok4',ep,e4,f4]; rfl
  have six:IdxR (pu ps 0 A 1) x mx ((E.map (·.1)).map fun b=>(b.k6,b.id)):=h.six
  have four:∀ l1,IdxR (pu (pu ps 0 A) 1 l1 2) o mx ((E.map (·.1)).map fun b=>(b.k4,b.id)):=fun l1=>h.four
  have inv':InvB l low high mx (last+1) (n+1) ((E++[(y',b)]).map (·.1)):=by
    rw [List.map_append]
    refine h.inv.put ey (by rw [ep]; exact hk) ok6' ok4' (by rw [es,hs]) (by rw [e4,e6]; exact hp) (by rw [ep,e6]; exact f6) (by rw [ep,e4]; exact f4) (by rw [List.length_map]; exact hl) hn
  have mid:∀ l1 hp',IdxR l1 x mx (((E.map (·.1)).map fun b=>(b.k6,b.id))++[(key6 y'.proto y'.inn,y'.id)])→Parts hp' (pu (pu ps 0 A) 1 l1)→F70_j1 (some ⟨t,0,none⟩) (some ⟨b,0,none⟩) (bdc bd0) hp' K:=by
    intro l1 hp' hl1 P5
    obtain ⟨v0,_,_,_,v7,v8⟩:=hm.reads P5 rfl
    obtain ⟨w0,w1,w2,w3,w4⟩:=hm.readb P5 rfl hAb
    unfold F70_j1
    have fin:∀ l2 hp2,IdxR l2 o mx (((E.map (·.1)).map fun b=>(b.k4,b.id))++[(key4 y'.proto y'.out,y'.id)])→Parts hp2 (pu (pu (pu ps 0 A) 1 l1) 2 l2)→F70_j2 (some ⟨b,0,none⟩) (bdc bd0) hp2 K:=by
      intro l2 hp2 hl2 P6
      obtain ⟨_,_,_,_,u4⟩:=hm.readb P6 rfl hAb
      unfold F70_j2
      simp only [ptrN_some,u4,ldL_some]
      rw [if_pos (bdc_len _),if_pos (bdc_one _),if_pos (by simp [bdc_len]),bdc_splice,bdc_cells,ldL_some]
      refine hK hp2 _ b ⟨P6,hm,?_,?_,fun k hk3=>?_,inv'⟩
      · rw [List.map_append,List.map_append]; exact hl1
      · rw [List.map_append,List.map_append]; exact hl2
      · have:pu (pu (pu ps 0 A) 1 l1) 2 l2 (3+k)=ps (3+k):=by
          rw [pu_ne _ _ (by omega),pu_ne _ _ (by omega),pu_ne _ _ (by omega)]
        rw [this]; exact h.pool k hk3
    have put4:∀ K':Value→HP→Prop,(∀ l2 hp2,IdxR l2 o mx (((E.map (·.1)).map fun b=>(b.k4,b.id))++[(key4 y'.proto y'.out,y'.id)])→Parts hp2 (pu (pu (pu ps 0 A) 1 l1) 2 l2)→K' (.int .i64 0) hp2)→CF Tryd.prog 86 [ptr o 0,.string (key4 y'.proto y'.out),.int .i64 y'.id] hp' K':=fun K' hK'=>
      N86 P5 2 (M:=(E.map (·.1)).map fun b=>(b.k4,b.id)) (four l1) new4 (by simpa using hl) h.inv.mx hK'
    refine ⟨?_,?_,?_,?_⟩
    all_goals
      simp only [ptrN_some,Nat.reduceAdd,v8,w0,w1,w3,ldV_some,ldL_some,pq,intV_int]
      refine C105 v0 okp ok4'.2 ?_
      simp only [strV_string,ptrN_some,Nat.reduceAdd,v8,w0,ldV_some,pq,intV_int]
      refine put4 _ fun l2 hp2 hl2 P6=>?_
      rw [intV_int]
      exact fin l2 hp2 hl2 P6
  have put6:∀ K':Value→HP→Prop,(∀ l1 hp',IdxR l1 x mx (((E.map (·.1)).map fun b=>(b.k6,b.id))++[(key6 y'.proto y'.inn,y'.id)])→Parts hp' (pu (pu ps 0 A) 1 l1)→K' (.int .i64 0) hp')→CF Tryd.prog 86 [ptr x 0,.string (key6 y'.proto y'.inn),.int .i64 y'.id] hq4 K':=fun K' hK'=>
    N86 P4 1 (M:=(E.map (·.1)).map fun b=>(b.k6,b.id)) six new6 (by simpa using hl) h.inv.mx hK'
  refine ⟨?_,?_,?_,?_⟩
  all_goals
    simp only [ptrN_some,Nat.reduceAdd,r7,s0,s1,s2,ldV_some,ldL_some,pq,intV_int]
    refine C107 r0 okp ok6'.2 ?_
    simp only [strV_string,ptrN_some,Nat.reduceAdd,r7,s0,ldV_some,pq,intV_int]
    refine put6 _ fun l1 hp' hl1 P5=>?_
    rw [intV_int]
    exact mid l1 hp' hl1 P5
theorem InvB.in6 {L:List Bd} (h:InvB l low high mx last n L) {y:Bd} (hy:y∈L):getL (key6 y.proto y.inn) (L.map fun b=>(b.k6,b.id))=some y.id∧delL (key6 y.proto y.inn) (L.map fun b=>(b.k6,b.id))=(L.filter fun z=>decide (z.id≠y.id)).map fun b=>(b.k6,b.id):=by
  constructor
  · have:=find_of (g:=Bd.k6) h.nd6 hy
    rw [getL_mapK Bd.k6 Bd.id]
    show (L.find? fun x=>decide (x.k6=y.k6)).map Bd.id=_
    rw [this]; rfl
  · rw [delL_mapK Bd.k6 Bd.id _ h.nd6]
    congr 1
    exact filter_congr_key (g:=Bd.k6) (f:=Bd.id) h.nd6 h.ids hy
theorem InvB.in4 {L:List Bd} (h:InvB l low high mx last n L) {y:Bd} (hy:y∈L):getL (key4 y.proto y.out) (L.map fun b=>(b.k4,b.id))=some y.id∧delL (key4 y.proto y.out) (L.map fun b=>(b.k4,b.id))=(L.filter fun z=>decide (z.id≠y.id)).map fun b=>(b.k4,b.id):=by
  constructor
  · have:=find_of (g:=Bd.k4) h.nd4 hy
    rw [getL_mapK Bd.k4 Bd.id]
    show (L.find? fun x=>decide (x.k4=y.k4)).map Bd.id=_
    rw [this]; rfl
  · rw [delL_mapK Bd.k4 Bd.id _ h.nd4]
    congr 1
    exact filter_congr_key (g:=Bd.k4) (f:=Bd.id) h.nd4 h.ids hy
theorem fst_filter (i:Int) (E:List (Bd × Nat)):(E.filter fun z=>decide (z.1.id≠i)).map (·.1)=(E.map (·.1)).filter fun z=>decide (z.id≠i):=by
  rw [List.filter_map]; rfl
set_option maxHeartbeats 1000000 in
theorem P72 (h:BdP tb hq t l low high mx last n E ps m x o pl pm H) {e:Bd × Nat} (he:e∈E)
    (hK:∀ hq' ps',BdP tb hq' t l low high mx last n (E.filter fun z=>decide (z.1.id≠e.1.id)) ps' m x o pl pm H→ps' 0 e.2=.cells 36 (bdc e.1) 0→K (.tuple ⟨[]⟩) hq') :
    CF Tryd.prog 72 [ptr t 0,.agg ⟨bdc e.1⟩] hq K:=by
  refine F72_ok _ (bdc e.1) hq K ?_
  unfold F72
  have hmem:e.1∈E.map (·.1):=List.mem_map.2 ⟨e,he,rfl⟩
  obtain ⟨k1,k2,k3,_,_⟩:=h.inv.ok e.1 hmem
  simp only [ptrN_some,Nat.reduceAdd,h.c6,ldV_some,mapV_map,bdc_id,intV_int]
  refine opS_delete u123 enc3 h.mapq e.1.id (ev:=fun k:Nat=>ptr k 0) fun ent hent=>?_
  rw [delL_mapK (fun z:Bd × Nat=>z.1.id) (fun z=>z.2) e.1.id h.ids] at hent
  have P1:=h.parts.put 0 (b:=m) h.main.map.ne ent
  have hm:BdM tb ((ps 0).set m ent) t mx last (l.headD zq4) (E.filter fun z=>decide (z.1.id≠e.1.id)) m x o pl:=by
    refine ⟨?_,?_,?_,?_⟩
    · rw [HP.set_ne _ _ h.main.mt.symm]; exact h.main.tab
    · rw [HP.set_eq]; exact hent
    · intro z hz
      have hz:=(List.mem_filter.1 hz).1
      rw [HP.set_ne _ _ (h.main.bm hz)]; exact h.main.blk z hz
    · exact ⟨by rw [HP.set_ne _ _ h.main.m0.symm]; exact h.main.dig.1,h.main.dig.2⟩
  have hblk:((ps 0).set m ent) e.2=.cells 36 (bdc e.1) 0:=by rw [HP.set_ne _ _ (h.main.bm he)]; exact h.main.blk e he
  generalize hq.set m ent=hq1 at *
  generalize (ps 0).set m ent=A at *
  obtain ⟨r0,_,_,_,r7,r8⟩:=hm.reads P1 (pu_eq ..)
  obtain ⟨i6,d6⟩:=h.inv.in6 hmem
  obtain ⟨i4,d4⟩:=h.inv.in4 hmem
  have six:IdxR (pu ps 0 A 1) x mx ((E.map (·.1)).map fun b=>(b.k6,b.id)):=h.six
  have four:∀ l1,IdxR (pu (pu ps 0 A) 1 l1 2) o mx ((E.map (·.1)).map fun b=>(b.k4,b.id)):=fun l1=>h.four
  have okp:okZ e.1.proto:=okZ_kind k1
  have mid:∀ l1 hp',IdxR l1 x mx (delL (key6 e.1.proto e.1.inn) ((E.map (·.1)).map fun b=>(b.k6,b.id)))→Parts hp' (pu (pu ps 0 A) 1 l1)→F72_j1 (some ⟨t,0,none⟩) (bdc e.1) hp' K:=by
    intro l1 hp' hl1 P5
    obtain ⟨v0,_,_,_,v7,v8⟩:=hm.reads P5 rfl
    unfold F72_j1
    have fin:∀ l2 hp2,IdxR l2 o mx (delL (key4 e.1.proto e.1.out) ((E.map (·.1)).map fun b=>(b.k4,b.id)))→Parts hp2 (pu (pu (pu ps 0 A) 1 l1) 2 l2)→K (.tuple ⟨[]⟩) hp2:=by
      intro l2 hp2 hl2 P6
      refine hK hp2 _ ⟨P6,hm,?_,?_,fun k hk3=>?_,?_⟩ hblk
      · rw [fst_filter,← d6]; exact hl1
      · rw [fst_filter,← d4]; exact hl2
      · have:pu (pu (pu ps 0 A) 1 l1) 2 l2 (3+k)=ps (3+k):=by
          rw [pu_ne _ _ (by omega),pu_ne _ _ (by omega),pu_ne _ _ (by omega)]
        rw [this]; exact h.pool k hk3
      · rw [fst_filter]; exact h.inv.filter _
    refine ⟨?_,?_⟩
    all_goals
      simp only [ptrN_some,Nat.reduceAdd,v8,bdc_proto,bdc_out,ldV_some,ldL_some,pq,intV_int]
      refine C105 v0 okp k3.2 ?_
      simp only [strV_string,ptrN_some,Nat.reduceAdd,v8,ldV_some,pq]
      refine N92 P5 2 (four l1) i4 h.inv.mx fun l2 hp2 hl2 P6=>?_
      rw [boolV_bool]
      exact fin l2 hp2 hl2 P6
  refine ⟨?_,?_⟩
  all_goals
    simp only [ptrN_some,Nat.reduceAdd,r7,bdc_proto,bdc_inn,ldV_some,ldL_some,pq,intV_int]
    refine C107 r0 okp k2.2 ?_
    simp only [strV_string,ptrN_some,Nat.reduceAdd,r7,ldV_some,pq]
    refine N92 P1 1 six i6 h.inv.mx fun l1 hp' hl1 P5=>?_
    rw [boolV_bool]
    exact mid l1 hp' hl1 P5
def mayB (p:Int) (a:V6 × Int) (L:List Bd) (mx:Nat):Int:=
  if kindB p<0 then 10 else if isPort a.2=false then 1 else if (find6 p a L).isSome then 5 else if L.length≥mx then 6 else 0
set_option maxHeartbeats 1000000 in
theorem P68 (h:BdP tb hq t l low high mx last n E ps m x o pl pm H) {p:Int} {a:V6 × Int} (hp:okZ p) (ha:okT6 a) (hK:K (.int .i64 (mayB p a (E.map (·.1)) mx)) hq):CF Tryd.prog 68 [ptr t 0,.int .i64 p,.agg ⟨t6 a⟩] hq K:=by
  refine F68_ok _ p (t6 a) hq K ?_
  unfold F68
  refine C71 h ?_
  rw [boolV_bool,ite2_false]
  refine C73 ?_
  rw [intV_int]
  by_cases c1:kindB p<0
  · rw [decide_eq_true c1,ite2_true]
    rw [show mayB p a (E.map (·.1)) mx=10 from if_pos c1] at hK
    exact hK
  rw [decide_eq_false c1,ite2_false,t6_port,ldV_some,intV_int]
  refine C75 ?_
  rw [boolV_bool]
  cases c2:isPort a.2 with
  | false=>
    rw [Bool.not_false,ite2_true]
    rw [show mayB p a (E.map (·.1)) mx=1 from by unfold mayB; rw [if_neg c1,if_pos c2]] at hK
    exact hK
  | true=>
    rw [Bool.not_true,ite2_false,t6_cells,ldL_some]
    refine P65 h hp ha ?_
    unfold toldV
    simp only [tup2V_mk,aggV_agg,boolV_bool]
    rw [if_pos (bdc_len _),if_pos (bdc_one _),if_pos (by simp [bdc_len])]
    have c2':¬ isPort a.2=false:=by rw [c2]; decide
    cases c3:(find6 p a (E.map (·.1))).isSome with
    | true=>
      rw [ite2_true]
      rw [show mayB p a (E.map (·.1)) mx=5 from by unfold mayB; rw [if_neg c1,if_neg c2',if_pos c3]] at hK
      exact hK
    | false=>
      rw [ite2_false]
      have c3':¬ (find6 p a (E.map (·.1))).isSome=true:=by rw [c3]; decide
      have hlen:∀ {c:Value→Prop},c (.int .i64 ((E.map (·.1)).length:Nat))→rdS Tryd.prog (Builtin.len_ #[123] 3 #[.map (some m)]) hq c:=fun hc=>by
        refine rdS_mapLen u123 h.mapq ?_
        rw [List.length_map] at hc ⊢
        exact hc
      have fin:F68_j1 (decide ((((E.map (·.1)).length:Nat):Int)≥(mx:Nat))) hq K:=by
        unfold F68_j1
        by_cases c4:(E.map (·.1)).length≥mx
        · rw [decide_eq_true (by omega),ite2_true]
          rw [show mayB p a (E.map (·.1)) mx=6 from by unfold mayB; rw [if_neg c1,if_neg c2',if_neg c3',if_pos c4]] at hK
          exact hK
        · rw [decide_eq_false (by omega),ite2_false]
          rw [show mayB p a (E.map (·.1)) mx=0 from by unfold mayB; rw [if_neg c1,if_neg c2',if_neg c3',if_neg c4]] at hK
          exact hK
      refine ⟨?_,?_⟩
      · simp only [ptrN_some,Nat.reduceAdd,h.c6,ldV_some,mapV_map]
        refine hlen ?_
        simp only [intV_int,h.c0,ldV_some]
        exact fin
      · simp only [ptrN_some,Nat.reduceAdd,h.c6,h.c0,ldV_some,mapV_map,intV_int]
        refine hlen ?_
        rw [intV_int]
        exact fin
end
end Go.Proofs
