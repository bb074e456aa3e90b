/- Parts of the proof of BibOnceProof: the logic of what is known of memory, functions' contracts. -/
import Derived.Test.YtpkhoemonibajaaDoorQBibOnceProofB
import Derived.Test.YtpkhoemonibajaaDoorHlAbb
import Derived.Test.YtpkhoemonibajaaDoorProg
import Derived.Test.YtpkhoemonibajaaDoorHlRange
set_option linter.unusedVariables false
set_option linter.unusedSimpArgs false
set_option linter.unusedVariables false
set_option maxRecDepth 20000
set_option maxHeartbeats 4000000
namespace Go.Proofs
open Go Go.HL
section
variable {e E:Env} {x0:OA} {x1:List Value} {x5 x7:Int} {x8:OA} {x17:Value} {k3 k4 k6:List Value} {hp:HP} {K:Env→PV→HP→Prop}
abbrev R111 (p n:Nat):=RW Tryd.prog 46 [3,4,6] (opsAt Tryd.f111 (pth p)) (List.range n)
theorem F111_r0:R111 2 2 (upd e 1 (sA x1)) V0 hp K=
 K (w3 e 1 (sA x1) 3 (sR 3 0) 4 (sR 4 0)) (w2 V0 3 (30,x1) 4 (27,[.int .u8 0,.int .u8 0,.int .u8 0,.int .u8 0])) hp:= by kernel_rfl
theorem F111_r1:R111 5 7 (upd e 0 (sP x0)) (w2 V0 4 (27,k4) 3 (30,k3)) hp K=
 ptrN x0 fun b1 o2=>(ldL (HP.cellN hp b1 (o2+2) 4) fun l3=>if List.length l3=4 then (if List.all l3 one=true then (if 0+List.length l3≤List.length [(Value.int .u8 0),.int .u8 0,.int .u8 0,.int .u8 0] then (K (w7 e 0 (sP x0) 9 (sP x0) 10 (sQ b1 o2) 11 (sQ b1 (o2+2)) 12 (sA l3) 6 (sR 6 0) 5 (sI 0)) (w4 V0 4 (27,k4) 3 (30,k3) 6 (27,[.int .u8 0,.int .u8 0,.int .u8 0,.int .u8 0]) 6 (27,(splice [.int .u8 0,.int .u8 0,.int .u8 0,.int .u8 0] 0 l3))) hp) else False) else False) else False):= by kernel_rfl
theorem F111_r2:R111 23 2 (w2 e 6 (sR 6 0) 4 (sR 4 0)) (w2 V0 6 (27,k6) 4 (27,k4)) hp K=
 ldL (cellsN k6 0 4) fun l1=>(if List.length l1=4 then (if List.all l1 one=true then (if 0+List.length l1≤List.length k4 then (K (w3 e 6 (sR 6 0) 4 (sR 4 0) 45 (sA l1)) (w3 V0 6 (27,k6) 4 (27,k4) 4 (27,(splice k4 0 l1))) hp) else False) else False) else False):= by kernel_rfl
def F111_j1 (k4 k6:List Value) (hp:HP) (K:Kh):Prop:=
  (ldL (cellsN k6 0 4) fun l4=>if List.length l4=4 then (if List.all l4 one=true then (if 0+List.length l4≤List.length k4 then (ldL (cellsN (splice k4 0 l4) 0 4) fun l5=>K (.agg ⟨l5⟩) hp) else False) else False) else False)
theorem F111_r3:R111 139 2 (upd e 17 (sV x17)) (w3 V0 6 (27,k6) 4 (27,k4) 3 (30,k3)) hp K=
 opS Tryd.prog (Instr.next x17 false 0) hp fun u1 h2=>(tupI u1 0 fun v3=>boolV v3 fun q4=>K (w3 e 17 (sV x17) 18 (sV u1) 19 (sB q4)) (w3 V0 6 (27,k6) 4 (27,k4) 3 (30,k3)) h2):= by kernel_rfl
theorem F111_r4:R111 1227 5 (upd e 17 (sV x17)) (w3 V0 6 (27,k6) 4 (27,k4) 3 (30,k3)) hp K=
    (rdS Tryd.prog (Instr.entry x17) hp fun u1=>tupI u1 0 fun v2=>intV v2 .i64 fun i3=>tupI u1 1 fun v4=>ptrV v4 fun p5=>K (w6 e 17 (sV x17) 20 (sV u1) 21 (sI i3) 22 (sP p5) 7 (sI i3) 8 (sP p5)) (w3 V0 6 (27,k6) 4 (27,k4) 3 (30,k3)) hp):=by kernel_rfl
theorem F111_r5 (h:E=upd (w2 e 8 (sP x8) 7 (sI x7)) 6 (sR 6 0)):R111 5835 8 E (w3 V0 6 (27,k6) 4 (27,k4) 3 (30,k3)) hp K=
 ptrN x8 fun b1 o2=>(ldL (HP.cellN hp b1 ((o2+19)+0) 4) fun l3=>if List.length l3=4 then (if List.all l3 one=true then (if 0+List.length l3≤List.length k6 then (K (w7 E 39 (sI x7) 40 (sP x8) 41 (sQ b1 o2) 42 (sQ b1 (o2+19)) 43 (sQ b1 ((o2+19)+0)) 44 (sA l3) 5 (sI x7)) (w4 V0 6 (27,k6) 4 (27,k4) 3 (30,k3) 6 (27,(splice k6 0 l3))) hp) else False) else False) else False):= by subst h; kernel_rfl
def F111_j4 (x5 x7:Int) (x8:OA) (x17:Value) (x38:Bool) (k3 k4 k6:List Value) (hp:HP) (I3:(Int × (List Value))→HP→Prop) (K:Kh):Prop:=
  (ite2 x38 (ptrN x8 fun b15 o16=>ldL (HP.cellN hp b15 ((o16+19)+0) 4) fun l17=>if List.length l17=4 then (if List.all l17 one=true then (if 0+List.length l17≤List.length k6 then (I3 (x7,(splice k6 0 l17)) hp) else False) else False) else False) (I3 (x5,k6) hp))
theorem F111_r6 (h:E=upd (w3 e 8 (sP x8) 7 (sI x7) 5 (sI x5)) 3 (sR 3 0)):R111 2763 16 E (w3 V0 6 (27,k6) 4 (27,k4) 3 (30,k3)) hp K=
 ptrN x8 fun b1 o2=>(ldL (HP.cellN hp b1 ((o2+2)+0) 16) fun l3=>ldL (cellsN k3 0 16) fun l4=>eqAgg Tryd.prog 30 l3 l4 fun q5=>ite2 q5 (ite2 (x5==0) (K (w8 (w8 E 23 (sP x8) 24 (sQ b1 o2) 25 (sQ b1 (o2+2)) 26 (sQ b1 ((o2+2)+0)) 27 (sA l3) 28 (sA l4) 29 (sB q5) 30 (sB true)) 31 (sI x5) 32 (sB ((x5==0))) 33 (sB true) 34 sU 35 sU 36 sU 37 (sB true) 38 (sB true)) (w3 V0 6 (27,k6) 4 (27,k4) 3 (30,k3)) hp) (K (w8 (w8 E 23 (sP x8) 24 (sQ b1 o2) 25 (sQ b1 (o2+2)) 26 (sQ b1 ((o2+2)+0)) 27 (sA l3) 28 (sA l4) 29 (sB q5) 30 (sB true)) 31 (sI x5) 32 (sB ((x5==0))) 33 (sB false) 34 (sI x7) 35 (sI x5) 36 (sB (decide (x7<x5))) 37 (sB (decide (x7<x5))) 38 (sB (decide (x7<x5)))) (w3 V0 6 (27,k6) 4 (27,k4) 3 (30,k3)) hp)) (K (w8 (w8 E 23 (sP x8) 24 (sQ b1 o2) 25 (sQ b1 (o2+2)) 26 (sQ b1 ((o2+2)+0)) 27 (sA l3) 28 (sA l4) 29 (sB q5) 30 (sB false)) 31 sU 32 sU 33 sU 34 sU 35 sU 36 sU 37 sU 38 (sB false)) (w3 V0 6 (27,k6) 4 (27,k4) 3 (30,k3)) hp)):= by subst h; kernel_rfl
def F111_l3 (x17:Value) (k3 k4:List Value) (K:Kh) (I3:(Int × (List Value))→HP→Prop) (x5:Int) (k6:List Value) (hp:HP):Prop:=
  (opS Tryd.prog (Instr.next x17 false 0) hp fun u6 h7=>tupI u6 0 fun v8=>boolV v8 fun q9=>ite2 q9 (rdS Tryd.prog (Instr.entry x17) h7 fun u10=>tupI u10 0 fun v11=>intV v11 .i64 fun i12=>tupI u10 1 fun v13=>ptrV v13 fun p14=>ptrN p14 fun b18 o19=>ldL (HP.cellN h7 b18 ((o19+2)+0) 16) fun l20=>ldL (cellsN k3 0 16) fun l21=>eqAgg Tryd.prog 30 l20 l21 fun q22=>ite2 q22 (ite2 (x5==0) (F111_j4 x5 i12 p14 x17 true k3 k4 k6 h7 I3 K) (F111_j4 x5 i12 p14 x17 (decide (i12<x5)) k3 k4 k6 h7 I3 K)) (F111_j4 x5 i12 p14 x17 false k3 k4 k6 h7 I3 K)) (F111_j1 k4 k6 h7  K))
def F111_j2 (x5:Int) (x17:Value) (k3 k4 k6:List Value) (hp:HP) (K:Kh):Prop:=
  (LoopP (σ:=Int × (List Value)) (fun I s hp=>F111_l3 x17 k3 k4  K I s.1 s.2 hp) (x5,k6) hp)
theorem F111_r7:R111 19 5 (upd e 0 (sP x0)) (w3 V0 6 (27,k6) 4 (27,k4) 3 (30,k3)) hp K=
 ptrN x0 fun b1 o2=>(ldV (HP.cell hp b1 (o2+6)) fun v3=>mapV v3 fun m4=>opS Tryd.prog (Instr.range 123 (.map m4)) hp fun u5 h6=>K (w6 e 0 (sP x0) 13 (sP x0) 14 (sQ b1 o2) 15 (sQ b1 (o2+6)) 16 (sV (.map m4)) 17 (sV u5)) (w3 V0 6 (27,k6) 4 (27,k4) 3 (30,k3)) h6):= by kernel_rfl
def F111 (x0:OA) (x1:List Value) (hp:HP) (K:Kh):Prop:=
  (ptrN x0 fun b1 o2=>ldL (HP.cellN hp b1 (o2+2) 4) fun l3=>if List.length l3=4 then (if List.all l3 one=true then (if 0+List.length l3≤List.length [(Value.int .u8 0),.int .u8 0,.int .u8 0,.int .u8 0] then (ptrN x0 fun b23 o24=>ldV (HP.cell hp b23 (o24+6)) fun v25=>mapV v25 fun m26=>opS Tryd.prog (Instr.range 123 (.map m26)) hp fun u27 h28=>F111_j2 0 u27 x1 [.int .u8 0,.int .u8 0,.int .u8 0,.int .u8 0] (splice [.int .u8 0,.int .u8 0,.int .u8 0,.int .u8 0] 0 l3) h28  K) else False) else False) else False)
noncomputable abbrev o111 (k n:Nat):Code:=.region k (opsAt Tryd.f111 (pth n)) false
noncomputable def F111_code:Code:=(.seq (o111 0 2) (.seq (.region 1 (opsAt Tryd.f111 (pth 5)) true) (.seq (.seq (o111 2 19) (.block 0 (.loop (.seq (o111 3 139) (.seq (.cond (.tmp 19) .skip (.exit 0)) (.block 1 (.seq (o111 4 1227) (.seq (.region 5 (opsAt Tryd.f111 (pth 2763)) true) (.cond (.tmp 38) (.region 6 (opsAt Tryd.f111 (pth 5835)) true) .skip))))))))) (.seq (o111 7 23) .ret))))
theorem F111_body:Tryd.f111.body=some F111_code:=by kernel_rfl
theorem F111_ok (x0:OA) (x1:List Value) (hp:HP) (K:Kh) (h:F111 x0 x1 hp K):CF Tryd.prog 111 [(.pointer x0),(.agg ⟨x1⟩)] hp K:=by
 refine .inl ⟨by kernel_rfl,AC.intro (N:=46) Tryd.func111 F111_body rfl (Nat.le_of_ble_eq_true rfl) ?_⟩
 unfold F111 at h
 refine Ar F111_r0 ?_ (r2 1 0 Rn) (z2 Sn) Sn
 refine Aq (AWP.rgnD (by kernel_rfl) (by kernel_rfl) F111_r1 ?_ (r1 0 (rp 3 3 0 (rp 4 4 0 Rn))) (z3 Sn) (z2 Sn))
 refine mN h fun b1 o2 h=>mL h fun l3 h=>mf h fun h=>mf h fun h=>mf h fun h=>?_
 refine As (fun env pv hp=>∃ k4 k6,Sub (w2 E0 6 (sR 6 0) 4 (sR 4 0)) env∧Sub (w2 V0 6 (27,k6) 4 (27,k4)) pv∧(F111_j1 k4 k6 hp  K)) ?_ ?_
 ·refine As (fun env pv hp=>∃ x5 x17 k3 k4 k6,Sub (w5 E0 17 (sV x17) 6 (sR 6 0) 5 (sI x5) 4 (sR 4 0) 3 (sR 3 0)) env∧Sub (w3 V0 6 (27,k6) 4 (27,k4) 3 (30,k3)) pv∧(F111_j2 x5 x17 k3 k4 k6 hp  K)) ?_ ?_
  ·refine Ag F111_r7 ?_ (r1 0 (rp 3 3 0 (rp 4 4 0 (r1 5 (rp 6 6 0 Rn))))) (z5 Sn) (z3 Sn)
   refine mN h fun b23 o24 h=>mV h fun v25 h=>mM h fun m26 h=>mO h fun u27 h28 h=>?_
   exact ⟨_,_,_,_,_,(z5 Sn),(z3 Sn),h⟩
  ·rintro env pv hp ⟨x5,x17,k3,k4,k6,he,hv,h⟩
   refine Ae ?_ (rp 3 3 0 (rp 4 4 0 (r1 5 (rp 6 6 0 (r1 17 Rn))))) he hv
   unfold F111_j2 at h
   refine AWP.block (AWP.loop (σ:=Int × (List Value)) _ (fun s=>w5 E0 17 (sV x17) 6 (sR 6 0) 5 (sI (s.1)) 4 (sR 4 0) 3 (sR 3 0)) (fun s=>w3 V0 6 (27,s.2) 4 (27,k4) 3 (30,k3)) (x5,k6) h (fun s=>rp 3 3 0 (rp 4 4 0 (r1 5 (rp 6 6 0 (r1 17 Rn))))) (z5 Sn) (z3 Sn) ?_)
   intro I3 s hp h
   obtain ⟨x5,k6⟩:=s
   replace h:F111_l3 x17 k3 k4  K I3 x5 k6 hp:=h
   unfold F111_l3 at h
   refine Ar F111_r3 ?_ (r1 17 (rp 3 3 0 (rp 4 4 0 (r1 5 (rp 6 6 0 Rn))))) (z5 Sn) (z3 Sn)
   refine mO h fun u6 h7 h=>tupI_mono h fun v8 h=>mB h fun q9 h=>?_
   refine Aq (Ac h rfl (fun h=>?_) (fun h=>?_))
   ·refine AWP.skip (AWP.block (Ar F111_r4 ?_ (r1 17 (rp 3 3 0 (rp 4 4 0 (r1 5 (rp 6 6 0 Rn))))) (z5 Sn) (z3 Sn)))
    refine mR h fun u10 h=>tupI_mono h fun v11 h=>mI h fun i12 h=>tupI_mono h fun v13 h=>mP h fun p14 h=>?_
    refine As (fun env pv hp=>∃ x5 x7 x8 x38 k6,Sub (w8 E0 38 (sB x38) 17 (sV x17) 8 (sP x8) 7 (sI x7) 6 (sR 6 0) 5 (sI x5) 4 (sR 4 0) 3 (sR 3 0)) env∧Sub (w3 V0 6 (27,k6) 4 (27,k4) 3 (30,k3)) pv∧(F111_j4 x5 x7 x8 x17 x38 k3 k4 k6 hp I3 K)) ?_ ?_
    ·refine AWP.rgnD (by kernel_rfl) (by kernel_rfl) (F111_r6 rfl) ?_ (rp 3 3 0 (r3 5 7 8 (rp 4 4 0 (rp 6 6 0 (r1 17 Rn))))) (z7 Sn) (z3 Sn)
     refine mN h fun b18 o19 h=>mL h fun l20 h=>mL h fun l21 h=>mE h fun q22 h=>?_
     refine mt h (fun h=>?_) (fun h=>?_)
     ·refine mt h (fun h=>?_) (fun h=>?_)
      ·exact ⟨_,_,_,_,_,(z8 Sn),(z3 Sn),h⟩
      ·exact ⟨_,_,_,_,_,(z8 Sn),(z3 Sn),h⟩
     ·exact ⟨_,_,_,_,_,(z8 Sn),(z3 Sn),h⟩
    ·rintro env pv hp ⟨x5,x7,x8,x38,k6,he,hv,h⟩
     refine Ae ?_ (rp 3 3 0 (rp 4 4 0 (r1 5 (rp 6 6 0 (r4 7 8 17 38 Rn))))) he hv
     unfold F111_j4 at h
     refine Ac h rfl (fun h=>?_) (fun h=>?_)
     ·refine AWP.rgnD (by kernel_rfl) (by kernel_rfl) (F111_r5 rfl) ?_ (rp 6 6 0 (r2 7 8 (rp 3 3 0 (rp 4 4 0 (r1 17 Rn))))) (z6 Sn) (z3 Sn)
      refine mN h fun b15 o16 h=>mL h fun l17 h=>mf h fun h=>mf h fun h=>mf h fun h=>?_
      exact ⟨_,(z5 Sn),(z3 Sn),h⟩
     ·refine AWP.skip ?_
      exact ⟨_,(z5 Sn),(z3 Sn),h⟩
   ·refine AWP.exit ?_
    exact ⟨_,_,(z2 Sn),(z2 Sn),h⟩
 ·rintro env pv hp ⟨k4,k6,he,hv,h⟩
  refine Ae ?_ (rp 4 4 0 (rp 6 6 0 Rn)) he hv
  unfold F111_j1 at h
  refine Ar F111_r2 ?_ (rp 4 4 0 (rp 6 6 0 Rn)) (z2 Sn) (z2 Sn)
  refine mL h fun l4 h=>mf h fun h=>mf h fun h=>mf h fun h=>?_
  refine AWP.ret ?_
  exact h
end
section
variable {e:Env} {x2:List Value} {x9:Int} {k6 k8:List Value} {hp:HP} {K:Env→PV→HP→Prop}
abbrev R69 (p n:Nat):=RW Tryd.prog 33 [5,6,8,19,22] (opsAt Tryd.f69 (pth p)) (List.range n)
theorem F69_r0:R69 2 3 (upd e 2 (sA x2)) V0 hp K=
 K (w4 e 2 (sA x2) 5 (sR 5 0) 6 (sR 6 0) 7 (sI 0)) (w2 V0 5 (32,x2) 6 (34,[.int .u8 0,.int .u8 0,.int .u8 0,.int .u8 0,.int .i64 0])) hp:= by kernel_rfl
theorem F69_r1:R69 19 2 (upd e 9 (sI x9)) (w2 V0 8 (34,k8) 6 (34,k6)) hp K=
 K (w3 e 9 (sI x9) 29 (sI x9) 30 (sB ((x9 != 0)))) (w2 V0 8 (34,k8) 6 (34,k6)) hp:= by kernel_rfl
theorem F69_r2:R69 75 3 (upd e 6 (sR 6 0)) (upd V0 6 (34,k6)) hp K=
    (if List.length [(Value.int .u8 0),.int .u8 0,.int .u8 0,.int .u8 0,.int .i64 0]=5 then (if List.all [(Value.int .u8 0),.int .u8 0,.int .u8 0,.int .u8 0,.int .i64 0] one=true then (if 0+List.length [(Value.int .u8 0),.int .u8 0,.int .u8 0,.int .u8 0,.int .i64 0]≤List.length k6 then (K (w3 e 6 (sR 6 0) 31 (sV (.agg ⟨[.int .u8 0,.int .u8 0,.int .u8 0,.int .u8 0,.int .i64 0]⟩)) 7 (sI 13)) (w2 V0 6 (34,k6) 6 (34,(splice k6 0 [.int .u8 0,.int .u8 0,.int .u8 0,.int .u8 0,.int .i64 0]))) hp) else False) else False) else False):=by kernel_rfl
theorem F69_r3:R69 23 3 (w2 e 8 (sR 8 0) 6 (sR 6 0)) (w2 V0 8 (34,k8) 6 (34,k6)) hp K=
 ldL (cellsN k8 0 5) fun l1=>(if List.length l1=5 then (if List.all l1 one=true then (if 0+List.length l1≤List.length k6 then (K (w4 e 8 (sR 8 0) 6 (sR 6 0) 32 (sA l1) 7 (sI 0)) (w3 V0 8 (34,k8) 6 (34,k6) 6 (34,(splice k6 0 l1))) hp) else False) else False) else False):= by kernel_rfl
def F69_j1 (x9:Int) (k6 k8:List Value) (hp:HP) (K:Kh):Prop:=
  (ite2 (x9 != 0) (if List.length [(Value.int .u8 0),.int .u8 0,.int .u8 0,.int .u8 0,.int .i64 0]=5 then (if List.all [(Value.int .u8 0),.int .u8 0,.int .u8 0,.int .u8 0,.int .i64 0] one=true then (if 0+List.length [(Value.int .u8 0),.int .u8 0,.int .u8 0,.int .u8 0,.int .i64 0]≤List.length k6 then (ldL (cellsN (splice k6 0 [.int .u8 0,.int .u8 0,.int .u8 0,.int .u8 0,.int .i64 0]) 0 5) fun l1=>K (.tuple ⟨[(.agg ⟨l1⟩),(.int .i64 13)]⟩) hp) else False) else False) else False) (ldL (cellsN k8 0 5) fun l2=>if List.length l2=5 then (if List.all l2 one=true then (if 0+List.length l2≤List.length k6 then (ldL (cellsN (splice k6 0 l2) 0 5) fun l3=>K (.tuple ⟨[(.agg ⟨l3⟩),.int .i64 0]⟩) hp) else False) else False) else False))
theorem F69_r4 {e:Env} {x0:OA} {x1:Int} {k5:List Value} {k6:List Value} {hp:HP} {K:Env→PV→HP→Prop}:RW Tryd.prog 33 [5,6,8,19,22] (opsAt Tryd.f69 (pth 5)) [0,1,2,3,4,5,6,7,8,9,10,11,12,13,14,15,16,17,18,19,20,21] (w3 e 5 (sR 5 0) 1 (sI x1) 0 (sP x0)) (w2 V0 6 (34,k6) 5 (32,k5)) hp K=
    (CF Tryd.prog 73 [(.int .i64 x1)] hp fun u1 h2=>intV u1 .i64 fun i3=>ptrN x0 fun b4 o5=>(0≤i3)∧(i3<(3:Nat))∧(ldV (HP.cell h2 b4 ((o5+9)+Int.toNat i3*1)) fun v6=>ptrV v6 fun p7=>ldL (cellsN k5 0 16) fun l8=>CF Tryd.prog 111 [(.pointer x0),(.agg ⟨l8⟩)] h2 fun u9 h10=>aggV u9 fun l11=>ldV (k5)[16]? fun v12=>intV v12 .i64 fun i13=>CF Tryd.prog 110 [(.pointer p7),(.agg ⟨l11⟩),(.int .i64 i13),(.bool (x1==1))] h10 fun u14 h15=>tup2V u14 fun u16 u17=>aggV u16 fun l18=>intV u17 .i64 fun i19=>if List.length l18=5 then (if List.all l18 one=true then (if 0+List.length l18≤List.length [(Value.int .u8 0),.int .u8 0,.int .u8 0,.int .u8 0,.int .i64 0] then (K (w8 (w8 (w8 e 5 (sR 5 0) 1 (sI x1) 0 (sP x0) 11 (sP x0) 12 (sI x1) 13 (sI i3) 14 (sQ b4 o5) 15 (sQ b4 (o5+9))) 16 (sQ b4 ((o5+9)+Int.toNat i3*1)) 17 (sP p7) 18 (sP x0) 19 (sR 5 0) 20 (sA l8) 21 (sA l11) 22 (sR 5 16) 23 (sI i13)) 24 (sI x1) 25 (sB ((x1==1))) 26 (sV (.tuple ⟨[(.agg ⟨l18⟩),(.int .i64 i19)]⟩)) 10 (sV (.tuple ⟨[(.agg ⟨l18⟩),(.int .i64 i19)]⟩)) 27 (sA l18) 28 (sI i19) 8 (sR 8 0) 9 (sI i19)) (w4 V0 6 (34,k6) 5 (32,k5) 8 (34,[.int .u8 0,.int .u8 0,.int .u8 0,.int .u8 0,.int .i64 0]) 8 (34,(splice [.int .u8 0,.int .u8 0,.int .u8 0,.int .u8 0,.int .i64 0] 0 l18))) h15) else False) else False) else False)):=by kernel_rfl
theorem F69_r5 {e:Env} {x0:OA} {x1:Int} {k5:List Value} {k6:List Value} {hp:HP} {K:Env→PV→HP→Prop}:RW Tryd.prog 33 [5,6,8,19,22] (opsAt Tryd.f69 (pth 5)) [0,1,2,3,4,5,6,7,8,9,10,11,13,14,19,12,15,16,17,18,20,21] (w3 e 5 (sR 5 0) 1 (sI x1) 0 (sP x0)) (w2 V0 6 (34,k6) 5 (32,k5)) hp K=
    (CF Tryd.prog 73 [(.int .i64 x1)] hp fun u1 h2=>intV u1 .i64 fun i3=>ptrN x0 fun b4 o5=>(0≤i3)∧(i3<(3:Nat))∧(ldV (HP.cell h2 b4 ((o5+9)+Int.toNat i3*1)) fun v6=>ptrV v6 fun p7=>ldL (cellsN k5 0 16) fun l8=>CF Tryd.prog 111 [(.pointer x0),(.agg ⟨l8⟩)] h2 fun u9 h10=>aggV u9 fun l11=>ldV (k5)[16]? fun v12=>intV v12 .i64 fun i13=>CF Tryd.prog 110 [(.pointer p7),(.agg ⟨l11⟩),(.int .i64 i13),(.bool (x1==1))] h10 fun u14 h15=>tup2V u14 fun u16 u17=>aggV u16 fun l18=>intV u17 .i64 fun i19=>if List.length l18=5 then (if List.all l18 one=true then (if 0+List.length l18≤List.length [(Value.int .u8 0),.int .u8 0,.int .u8 0,.int .u8 0,.int .i64 0] then (K (w8 (w8 (w8 e 5 (sR 5 0) 1 (sI x1) 0 (sP x0) 11 (sP x0) 12 (sI x1) 13 (sI i3) 14 (sQ b4 o5) 15 (sQ b4 (o5+9))) 16 (sQ b4 ((o5+9)+Int.toNat i3*1)) 17 (sP p7) 18 (sP x0) 19 (sR 5 0) 20 (sA l8) 21 (sA l11) 22 (sR 5 16) 24 (sI x1)) 25 (sB ((x1==1))) 8 (sR 8 0) 23 (sI i13) 26 (sV (.tuple ⟨[(.agg ⟨l18⟩),(.int .i64 i19)]⟩)) 10 (sV (.tuple ⟨[(.agg ⟨l18⟩),(.int .i64 i19)]⟩)) 27 (sA l18) 28 (sI i19) 9 (sI i19)) (w4 V0 6 (34,k6) 5 (32,k5) 8 (34,[.int .u8 0,.int .u8 0,.int .u8 0,.int .u8 0,.int .i64 0]) 8 (34,(splice [.int .u8 0,.int .u8 0,.int .u8 0,.int .u8 0,.int .i64 0] 0 l18))) h15) else False) else False) else False)):=by kernel_rfl
theorem F69_r6 {e:Env} {x0:OA} {x1:Int} {k5:List Value} {k6:List Value} {hp:HP} {K:Env→PV→HP→Prop}:RW Tryd.prog 33 [5,6,8,19,22] (opsAt Tryd.f69 (pth 5)) [0,1,2,3,4,5,6,7,8,11,12,13,14,19,9,10,15,16,17,18,20,21] (w3 e 5 (sR 5 0) 1 (sI x1) 0 (sP x0)) (w2 V0 6 (34,k6) 5 (32,k5)) hp K=
    (CF Tryd.prog 73 [(.int .i64 x1)] hp fun u1 h2=>intV u1 .i64 fun i3=>ptrN x0 fun b4 o5=>(0≤i3)∧(i3<(3:Nat))∧(ldV (HP.cell h2 b4 ((o5+9)+Int.toNat i3*1)) fun v6=>ptrV v6 fun p7=>ldV (k5)[16]? fun v8=>intV v8 .i64 fun i9=>ldL (cellsN k5 0 16) fun l10=>CF Tryd.prog 111 [(.pointer x0),(.agg ⟨l10⟩)] h2 fun u11 h12=>aggV u11 fun l13=>CF Tryd.prog 110 [(.pointer p7),(.agg ⟨l13⟩),(.int .i64 i9),(.bool (x1==1))] h12 fun u14 h15=>tup2V u14 fun u16 u17=>aggV u16 fun l18=>intV u17 .i64 fun i19=>if List.length l18=5 then (if List.all l18 one=true then (if 0+List.length l18≤List.length [(Value.int .u8 0),.int .u8 0,.int .u8 0,.int .u8 0,.int .i64 0] then (K (w8 (w8 (w8 e 5 (sR 5 0) 1 (sI x1) 0 (sP x0) 11 (sP x0) 12 (sI x1) 13 (sI i3) 14 (sQ b4 o5) 15 (sQ b4 (o5+9))) 16 (sQ b4 ((o5+9)+Int.toNat i3*1)) 17 (sP p7) 18 (sP x0) 19 (sR 5 0) 22 (sR 5 16) 23 (sI i9) 24 (sI x1) 25 (sB ((x1==1)))) 8 (sR 8 0) 20 (sA l10) 21 (sA l13) 26 (sV (.tuple ⟨[(.agg ⟨l18⟩),(.int .i64 i19)]⟩)) 10 (sV (.tuple ⟨[(.agg ⟨l18⟩),(.int .i64 i19)]⟩)) 27 (sA l18) 28 (sI i19) 9 (sI i19)) (w4 V0 6 (34,k6) 5 (32,k5) 8 (34,[.int .u8 0,.int .u8 0,.int .u8 0,.int .u8 0,.int .i64 0]) 8 (34,(splice [.int .u8 0,.int .u8 0,.int .u8 0,.int .u8 0,.int .i64 0] 0 l18))) h15) else False) else False) else False)):=by kernel_rfl
theorem F69_r7 {e:Env} {x0:OA} {x1:Int} {k5:List Value} {k6:List Value} {hp:HP} {K:Env→PV→HP→Prop}:RW Tryd.prog 33 [5,6,8,19,22] (opsAt Tryd.f69 (pth 5)) [0,1,2,3,4,5,6,7,8,11,13,14,19,9,10,12,15,16,17,18,20,21] (w3 e 5 (sR 5 0) 1 (sI x1) 0 (sP x0)) (w2 V0 6 (34,k6) 5 (32,k5)) hp K=
    (CF Tryd.prog 73 [(.int .i64 x1)] hp fun u1 h2=>intV u1 .i64 fun i3=>ptrN x0 fun b4 o5=>(0≤i3)∧(i3<(3:Nat))∧(ldV (HP.cell h2 b4 ((o5+9)+Int.toNat i3*1)) fun v6=>ptrV v6 fun p7=>ldL (cellsN k5 0 16) fun l8=>CF Tryd.prog 111 [(.pointer x0),(.agg ⟨l8⟩)] h2 fun u9 h10=>aggV u9 fun l11=>ldV (k5)[16]? fun v12=>intV v12 .i64 fun i13=>CF Tryd.prog 110 [(.pointer p7),(.agg ⟨l11⟩),(.int .i64 i13),(.bool (x1==1))] h10 fun u14 h15=>tup2V u14 fun u16 u17=>aggV u16 fun l18=>intV u17 .i64 fun i19=>if List.length l18=5 then (if List.all l18 one=true then (if 0+List.length l18≤List.length [(Value.int .u8 0),.int .u8 0,.int .u8 0,.int .u8 0,.int .i64 0] then (K (w8 (w8 (w8 e 5 (sR 5 0) 1 (sI x1) 0 (sP x0) 11 (sP x0) 12 (sI x1) 13 (sI i3) 14 (sQ b4 o5) 15 (sQ b4 (o5+9))) 16 (sQ b4 ((o5+9)+Int.toNat i3*1)) 17 (sP p7) 18 (sP x0) 19 (sR 5 0) 22 (sR 5 16) 24 (sI x1) 25 (sB ((x1==1))) 8 (sR 8 0)) 20 (sA l8) 21 (sA l11) 23 (sI i13) 26 (sV (.tuple ⟨[(.agg ⟨l18⟩),(.int .i64 i19)]⟩)) 10 (sV (.tuple ⟨[(.agg ⟨l18⟩),(.int .i64 i19)]⟩)) 27 (sA l18) 28 (sI i19) 9 (sI i19)) (w4 V0 6 (34,k6) 5 (32,k5) 8 (34,[.int .u8 0,.int .u8 0,.int .u8 0,.int .u8 0,.int .i64 0]) 8 (34,(splice [.int .u8 0,.int .u8 0,.int .u8 0,.int .u8 0,.int .i64 0] 0 l18))) h15) else False) else False) else False)):=by kernel_rfl
theorem F69_r8 {e:Env} {x0:OA} {x1:Int} {k5:List Value} {k6:List Value} {hp:HP} {K:Env→PV→HP→Prop}:RW Tryd.prog 33 [5,6,8,19,22] (opsAt Tryd.f69 (pth 5)) [0,1,2,3,4,5,7,8,9,10,6,11,12,13,14,15,16,17,18,19,20,21] (w3 e 5 (sR 5 0) 1 (sI x1) 0 (sP x0)) (w2 V0 6 (34,k6) 5 (32,k5)) hp K=
    (CF Tryd.prog 73 [(.int .i64 x1)] hp fun u1 h2=>intV u1 .i64 fun i3=>ptrN x0 fun b4 o5=>(0≤i3)∧(i3<(3:Nat))∧(ldL (cellsN k5 0 16) fun l6=>CF Tryd.prog 111 [(.pointer x0),(.agg ⟨l6⟩)] h2 fun u7 h8=>aggV u7 fun l9=>ldV (HP.cell h8 b4 ((o5+9)+Int.toNat i3*1)) fun v10=>ptrV v10 fun p11=>ldV (k5)[16]? fun v12=>intV v12 .i64 fun i13=>CF Tryd.prog 110 [(.pointer p11),(.agg ⟨l9⟩),(.int .i64 i13),(.bool (x1==1))] h8 fun u14 h15=>tup2V u14 fun u16 u17=>aggV u16 fun l18=>intV u17 .i64 fun i19=>if List.length l18=5 then (if List.all l18 one=true then (if 0+List.length l18≤List.length [(Value.int .u8 0),.int .u8 0,.int .u8 0,.int .u8 0,.int .i64 0] then (K (w8 (w8 (w8 e 5 (sR 5 0) 1 (sI x1) 0 (sP x0) 11 (sP x0) 12 (sI x1) 13 (sI i3) 14 (sQ b4 o5) 15 (sQ b4 (o5+9))) 16 (sQ b4 ((o5+9)+Int.toNat i3*1)) 18 (sP x0) 19 (sR 5 0) 20 (sA l6) 21 (sA l9) 17 (sP p11) 22 (sR 5 16) 23 (sI i13)) 24 (sI x1) 25 (sB ((x1==1))) 26 (sV (.tuple ⟨[(.agg ⟨l18⟩),(.int .i64 i19)]⟩)) 10 (sV (.tuple ⟨[(.agg ⟨l18⟩),(.int .i64 i19)]⟩)) 27 (sA l18) 28 (sI i19) 8 (sR 8 0) 9 (sI i19)) (w4 V0 6 (34,k6) 5 (32,k5) 8 (34,[.int .u8 0,.int .u8 0,.int .u8 0,.int .u8 0,.int .i64 0]) 8 (34,(splice [.int .u8 0,.int .u8 0,.int .u8 0,.int .u8 0,.int .i64 0] 0 l18))) h15) else False) else False) else False)):=by kernel_rfl
theorem F69_r9 {e:Env} {x0:OA} {x1:Int} {k5:List Value} {k6:List Value} {hp:HP} {K:Env→PV→HP→Prop}:RW Tryd.prog 33 [5,6,8,19,22] (opsAt Tryd.f69 (pth 5)) [0,1,2,3,4,5,7,8,9,10,6,11,13,14,19,12,15,16,17,18,20,21] (w3 e 5 (sR 5 0) 1 (sI x1) 0 (sP x0)) (w2 V0 6 (34,k6) 5 (32,k5)) hp K=
    (CF Tryd.prog 73 [(.int .i64 x1)] hp fun u1 h2=>intV u1 .i64 fun i3=>ptrN x0 fun b4 o5=>(0≤i3)∧(i3<(3:Nat))∧(ldL (cellsN k5 0 16) fun l6=>CF Tryd.prog 111 [(.pointer x0),(.agg ⟨l6⟩)] h2 fun u7 h8=>aggV u7 fun l9=>ldV (HP.cell h8 b4 ((o5+9)+Int.toNat i3*1)) fun v10=>ptrV v10 fun p11=>ldV (k5)[16]? fun v12=>intV v12 .i64 fun i13=>CF Tryd.prog 110 [(.pointer p11),(.agg ⟨l9⟩),(.int .i64 i13),(.bool (x1==1))] h8 fun u14 h15=>tup2V u14 fun u16 u17=>aggV u16 fun l18=>intV u17 .i64 fun i19=>if List.length l18=5 then (if List.all l18 one=true then (if 0+List.length l18≤List.length [(Value.int .u8 0),.int .u8 0,.int .u8 0,.int .u8 0,.int .i64 0] then (K (w8 (w8 (w8 e 5 (sR 5 0) 1 (sI x1) 0 (sP x0) 11 (sP x0) 12 (sI x1) 13 (sI i3) 14 (sQ b4 o5) 15 (sQ b4 (o5+9))) 16 (sQ b4 ((o5+9)+Int.toNat i3*1)) 18 (sP x0) 19 (sR 5 0) 20 (sA l6) 21 (sA l9) 17 (sP p11) 22 (sR 5 16) 24 (sI x1)) 25 (sB ((x1==1))) 8 (sR 8 0) 23 (sI i13) 26 (sV (.tuple ⟨[(.agg ⟨l18⟩),(.int .i64 i19)]⟩)) 10 (sV (.tuple ⟨[(.agg ⟨l18⟩),(.int .i64 i19)]⟩)) 27 (sA l18) 28 (sI i19) 9 (sI i19)) (w4 V0 6 (34,k6) 5 (32,k5) 8 (34,[.int .u8 0,.int .u8 0,.int .u8 0,.int .u8 0,.int .i64 0]) 8 (34,(splice [.int .u8 0,.int .u8 0,.int .u8 0,.int .u8 0,.int .i64 0] 0 l18))) h15) else False) else False) else False)):=by kernel_rfl
theorem F69_r10 {e:Env} {x0:OA} {x1:Int} {k5:List Value} {k6:List Value} {hp:HP} {K:Env→PV→HP→Prop}:RW Tryd.prog 33 [5,6,8,19,22] (opsAt Tryd.f69 (pth 5)) [0,1,2,3,4,5,7,8,11,12,13,14,19,9,10,6,15,16,17,18,20,21] (w3 e 5 (sR 5 0) 1 (sI x1) 0 (sP x0)) (w2 V0 6 (34,k6) 5 (32,k5)) hp K=
    (CF Tryd.prog 73 [(.int .i64 x1)] hp fun u1 h2=>intV u1 .i64 fun i3=>ptrN x0 fun b4 o5=>(0≤i3)∧(i3<(3:Nat))∧(ldV (k5)[16]? fun v6=>intV v6 .i64 fun i7=>ldL (cellsN k5 0 16) fun l8=>CF Tryd.prog 111 [(.pointer x0),(.agg ⟨l8⟩)] h2 fun u9 h10=>aggV u9 fun l11=>ldV (HP.cell h10 b4 ((o5+9)+Int.toNat i3*1)) fun v12=>ptrV v12 fun p13=>CF Tryd.prog 110 [(.pointer p13),(.agg ⟨l11⟩),(.int .i64 i7),(.bool (x1==1))] h10 fun u14 h15=>tup2V u14 fun u16 u17=>aggV u16 fun l18=>intV u17 .i64 fun i19=>if List.length l18=5 then (if List.all l18 one=true then (if 0+List.length l18≤List.length [(Value.int .u8 0),.int .u8 0,.int .u8 0,.int .u8 0,.int .i64 0] then (K (w8 (w8 (w8 e 5 (sR 5 0) 1 (sI x1) 0 (sP x0) 11 (sP x0) 12 (sI x1) 13 (sI i3) 14 (sQ b4 o5) 15 (sQ b4 (o5+9))) 16 (sQ b4 ((o5+9)+Int.toNat i3*1)) 18 (sP x0) 19 (sR 5 0) 22 (sR 5 16) 23 (sI i7) 24 (sI x1) 25 (sB ((x1==1))) 8 (sR 8 0)) 20 (sA l8) 21 (sA l11) 17 (sP p13) 26 (sV (.tuple ⟨[(.agg ⟨l18⟩),(.int .i64 i19)]⟩)) 10 (sV (.tuple ⟨[(.agg ⟨l18⟩),(.int .i64 i19)]⟩)) 27 (sA l18) 28 (sI i19) 9 (sI i19)) (w4 V0 6 (34,k6) 5 (32,k5) 8 (34,[.int .u8 0,.int .u8 0,.int .u8 0,.int .u8 0,.int .i64 0]) 8 (34,(splice [.int .u8 0,.int .u8 0,.int .u8 0,.int .u8 0,.int .i64 0] 0 l18))) h15) else False) else False) else False)):=by kernel_rfl
theorem F69_r11 {e:Env} {x0:OA} {x1:Int} {k5:List Value} {k6:List Value} {hp:HP} {K:Env→PV→HP→Prop}:RW Tryd.prog 33 [5,6,8,19,22] (opsAt Tryd.f69 (pth 5)) [0,1,2,3,4,5,7,8,11,13,14,19,9,10,6,12,15,16,17,18,20,21] (w3 e 5 (sR 5 0) 1 (sI x1) 0 (sP x0)) (w2 V0 6 (34,k6) 5 (32,k5)) hp K=
    (CF Tryd.prog 73 [(.int .i64 x1)] hp fun u1 h2=>intV u1 .i64 fun i3=>ptrN x0 fun b4 o5=>(0≤i3)∧(i3<(3:Nat))∧(ldL (cellsN k5 0 16) fun l6=>CF Tryd.prog 111 [(.pointer x0),(.agg ⟨l6⟩)] h2 fun u7 h8=>aggV u7 fun l9=>ldV (HP.cell h8 b4 ((o5+9)+Int.toNat i3*1)) fun v10=>ptrV v10 fun p11=>ldV (k5)[16]? fun v12=>intV v12 .i64 fun i13=>CF Tryd.prog 110 [(.pointer p11),(.agg ⟨l9⟩),(.int .i64 i13),(.bool (x1==1))] h8 fun u14 h15=>tup2V u14 fun u16 u17=>aggV u16 fun l18=>intV u17 .i64 fun i19=>if List.length l18=5 then (if List.all l18 one=true then (if 0+List.length l18≤List.length [(Value.int .u8 0),.int .u8 0,.int .u8 0,.int .u8 0,.int .i64 0] then (K (w8 (w8 (w8 e 5 (sR 5 0) 1 (sI x1) 0 (sP x0) 11 (sP x0) 12 (sI x1) 13 (sI i3) 14 (sQ b4 o5) 15 (sQ b4 (o5+9))) 16 (sQ b4 ((o5+9)+Int.toNat i3*1)) 18 (sP x0) 19 (sR 5 0) 22 (sR 5 16) 24 (sI x1) 25 (sB ((x1==1))) 8 (sR 8 0) 20 (sA l6)) 21 (sA l9) 17 (sP p11) 23 (sI i13) 26 (sV (.tuple ⟨[(.agg ⟨l18⟩),(.int .i64 i19)]⟩)) 10 (sV (.tuple ⟨[(.agg ⟨l18⟩),(.int .i64 i19)]⟩)) 27 (sA l18) 28 (sI i19) 9 (sI i19)) (w4 V0 6 (34,k6) 5 (32,k5) 8 (34,[.int .u8 0,.int .u8 0,.int .u8 0,.int .u8 0,.int .i64 0]) 8 (34,(splice [.int .u8 0,.int .u8 0,.int .u8 0,.int .u8 0,.int .i64 0] 0 l18))) h15) else False) else False) else False)):=by kernel_rfl
def F69 (x0:OA) (x1:Int) (x2:List Value) (hp:HP) (K:Kh):Prop:=
  ((CF Tryd.prog 73 [(.int .i64 x1)] hp fun u4 h5=>intV u4 .i64 fun i6=>ptrN x0 fun b7 o8=>(0≤i6)∧(i6<(3:Nat))∧(ldV (HP.cell h5 b7 ((o8+9)+Int.toNat i6*1)) fun v9=>ptrV v9 fun p10=>ldL (cellsN x2 0 16) fun l11=>CF Tryd.prog 111 [(.pointer x0),(.agg ⟨l11⟩)] h5 fun u12 h13=>aggV u12 fun l14=>ldV (x2)[16]? fun v15=>intV v15 .i64 fun i16=>CF Tryd.prog 110 [(.pointer p10),(.agg ⟨l14⟩),(.int .i64 i16),(.bool (x1==1))] h13 fun u17 h18=>tup2V u17 fun u19 u20=>aggV u19 fun l21=>intV u20 .i64 fun i22=>if List.length l21=5 then (if List.all l21 one=true then (if 0+List.length l21≤List.length [(Value.int .u8 0),.int .u8 0,.int .u8 0,.int .u8 0,.int .i64 0] then (F69_j1 i22 [.int .u8 0,.int .u8 0,.int .u8 0,.int .u8 0,.int .i64 0] (splice [.int .u8 0,.int .u8 0,.int .u8 0,.int .u8 0,.int .i64 0] 0 l21) h18  K) else False) else False) else False))∧(CF Tryd.prog 73 [(.int .i64 x1)] hp fun u23 h24=>intV u23 .i64 fun i25=>ptrN x0 fun b26 o27=>(0≤i25)∧(i25<(3:Nat))∧(ldV (HP.cell h24 b26 ((o27+9)+Int.toNat i25*1)) fun v28=>ptrV v28 fun p29=>ldL (cellsN x2 0 16) fun l30=>CF Tryd.prog 111 [(.pointer x0),(.agg ⟨l30⟩)] h24 fun u31 h32=>aggV u31 fun l33=>ldV (x2)[16]? fun v34=>intV v34 .i64 fun i35=>CF Tryd.prog 110 [(.pointer p29),(.agg ⟨l33⟩),(.int .i64 i35),(.bool (x1==1))] h32 fun u36 h37=>tup2V u36 fun u38 u39=>aggV u38 fun l40=>intV u39 .i64 fun i41=>if List.length l40=5 then (if List.all l40 one=true then (if 0+List.length l40≤List.length [(Value.int .u8 0),.int .u8 0,.int .u8 0,.int .u8 0,.int .i64 0] then (F69_j1 i41 [.int .u8 0,.int .u8 0,.int .u8 0,.int .u8 0,.int .i64 0] (splice [.int .u8 0,.int .u8 0,.int .u8 0,.int .u8 0,.int .i64 0] 0 l40) h37  K) else False) else False) else False))∧(CF Tryd.prog 73 [(.int .i64 x1)] hp fun u42 h43=>intV u42 .i64 fun i44=>ptrN x0 fun b45 o46=>(0≤i44)∧(i44<(3:Nat))∧(ldV (HP.cell h43 b45 ((o46+9)+Int.toNat i44*1)) fun v47=>ptrV v47 fun p48=>ldV (x2)[16]? fun v49=>intV v49 .i64 fun i50=>ldL (cellsN x2 0 16) fun l51=>CF Tryd.prog 111 [(.pointer x0),(.agg ⟨l51⟩)] h43 fun u52 h53=>aggV u52 fun l54=>CF Tryd.prog 110 [(.pointer p48),(.agg ⟨l54⟩),(.int .i64 i50),(.bool (x1==1))] h53 fun u55 h56=>tup2V u55 fun u57 u58=>aggV u57 fun l59=>intV u58 .i64 fun i60=>if List.length l59=5 then (if List.all l59 one=true then (if 0+List.length l59≤List.length [(Value.int .u8 0),.int .u8 0,.int .u8 0,.int .u8 0,.int .i64 0] then (F69_j1 i60 [.int .u8 0,.int .u8 0,.int .u8 0,.int .u8 0,.int .i64 0] (splice [.int .u8 0,.int .u8 0,.int .u8 0,.int .u8 0,.int .i64 0] 0 l59) h56  K) else False) else False) else False))∧(CF Tryd.prog 73 [(.int .i64 x1)] hp fun u61 h62=>intV u61 .i64 fun i63=>ptrN x0 fun b64 o65=>(0≤i63)∧(i63<(3:Nat))∧(ldV (HP.cell h62 b64 ((o65+9)+Int.toNat i63*1)) fun v66=>ptrV v66 fun p67=>ldL (cellsN x2 0 16) fun l68=>CF Tryd.prog 111 [(.pointer x0),(.agg ⟨l68⟩)] h62 fun u69 h70=>aggV u69 fun l71=>ldV (x2)[16]? fun v72=>intV v72 .i64 fun i73=>CF Tryd.prog 110 [(.pointer p67),(.agg ⟨l71⟩),(.int .i64 i73),(.bool (x1==1))] h70 fun u74 h75=>tup2V u74 fun u76 u77=>aggV u76 fun l78=>intV u77 .i64 fun i79=>if List.length l78=5 then (if List.all l78 one=true then (if 0+List.length l78≤List.length [(Value.int .u8 0),.int .u8 0,.int .u8 0,.int .u8 0,.int .i64 0] then (F69_j1 i79 [.int .u8 0,.int .u8 0,.int .u8 0,.int .u8 0,.int .i64 0] (splice [.int .u8 0,.int .u8 0,.int .u8 0,.int .u8 0,.int .i64 0] 0 l78) h75  K) else False) else False) else False))∧(CF Tryd.prog 73 [(.int .i64 x1)] hp fun u80 h81=>intV u80 .i64 fun i82=>ptrN x0 fun b83 o84=>(0≤i82)∧(i82<(3:Nat))∧(ldL (cellsN x2 0 16) fun l85=>CF Tryd.prog 111 [(.pointer x0),(.agg ⟨l85⟩)] h81 fun u86 h87=>aggV u86 fun l88=>ldV (HP.cell h87 b83 ((o84+9)+Int.toNat i82*1)) fun v89=>ptrV v89 fun p90=>ldV (x2)[16]? fun v91=>intV v91 .i64 fun i92=>CF Tryd.prog 110 [(.pointer p90),(.agg ⟨l88⟩),(.int .i64 i92),(.bool (x1==1))] h87 fun u93 h94=>tup2V u93 fun u95 u96=>aggV u95 fun l97=>intV u96 .i64 fun i98=>if List.length l97=5 then (if List.all l97 one=true then (if 0+List.length l97≤List.length [(Value.int .u8 0),.int .u8 0,.int .u8 0,.int .u8 0,.int .i64 0] then (F69_j1 i98 [.int .u8 0,.int .u8 0,.int .u8 0,.int .u8 0,.int .i64 0] (splice [.int .u8 0,.int .u8 0,.int .u8 0,.int .u8 0,.int .i64 0] 0 l97) h94  K) else False) else False) else False))∧(CF Tryd.prog 73 [(.int .i64 x1)] hp fun u99 h100=>intV u99 .i64 fun i101=>ptrN x0 fun b102 o103=>(0≤i101)∧(i101<(3:Nat))∧(ldL (cellsN x2 0 16) fun l104=>CF Tryd.prog 111 [(.pointer x0),(.agg ⟨l104⟩)] h100 fun u105 h106=>aggV u105 fun l107=>ldV (HP.cell h106 b102 ((o103+9)+Int.toNat i101*1)) fun v108=>ptrV v108 fun p109=>ldV (x2)[16]? fun v110=>intV v110 .i64 fun i111=>CF Tryd.prog 110 [(.pointer p109),(.agg ⟨l107⟩),(.int .i64 i111),(.bool (x1==1))] h106 fun u112 h113=>tup2V u112 fun u114 u115=>aggV u114 fun l116=>intV u115 .i64 fun i117=>if List.length l116=5 then (if List.all l116 one=true then (if 0+List.length l116≤List.length [(Value.int .u8 0),.int .u8 0,.int .u8 0,.int .u8 0,.int .i64 0] then (F69_j1 i117 [.int .u8 0,.int .u8 0,.int .u8 0,.int .u8 0,.int .i64 0] (splice [.int .u8 0,.int .u8 0,.int .u8 0,.int .u8 0,.int .i64 0] 0 l116) h113  K) else False) else False) else False))∧(CF Tryd.prog 73 [(.int .i64 x1)] hp fun u118 h119=>intV u118 .i64 fun i120=>ptrN x0 fun b121 o122=>(0≤i120)∧(i120<(3:Nat))∧(ldV (x2)[16]? fun v123=>intV v123 .i64 fun i124=>ldL (cellsN x2 0 16) fun l125=>CF Tryd.prog 111 [(.pointer x0),(.agg ⟨l125⟩)] h119 fun u126 h127=>aggV u126 fun l128=>ldV (HP.cell h127 b121 ((o122+9)+Int.toNat i120*1)) fun v129=>ptrV v129 fun p130=>CF Tryd.prog 110 [(.pointer p130),(.agg ⟨l128⟩),(.int .i64 i124),(.bool (x1==1))] h127 fun u131 h132=>tup2V u131 fun u133 u134=>aggV u133 fun l135=>intV u134 .i64 fun i136=>if List.length l135=5 then (if List.all l135 one=true then (if 0+List.length l135≤List.length [(Value.int .u8 0),.int .u8 0,.int .u8 0,.int .u8 0,.int .i64 0] then (F69_j1 i136 [.int .u8 0,.int .u8 0,.int .u8 0,.int .u8 0,.int .i64 0] (splice [.int .u8 0,.int .u8 0,.int .u8 0,.int .u8 0,.int .i64 0] 0 l135) h132  K) else False) else False) else False))∧(CF Tryd.prog 73 [(.int .i64 x1)] hp fun u137 h138=>intV u137 .i64 fun i139=>ptrN x0 fun b140 o141=>(0≤i139)∧(i139<(3:Nat))∧(ldL (cellsN x2 0 16) fun l142=>CF Tryd.prog 111 [(.pointer x0),(.agg ⟨l142⟩)] h138 fun u143 h144=>aggV u143 fun l145=>ldV (HP.cell h144 b140 ((o141+9)+Int.toNat i139*1)) fun v146=>ptrV v146 fun p147=>ldV (x2)[16]? fun v148=>intV v148 .i64 fun i149=>CF Tryd.prog 110 [(.pointer p147),(.agg ⟨l145⟩),(.int .i64 i149),(.bool (x1==1))] h144 fun u150 h151=>tup2V u150 fun u152 u153=>aggV u152 fun l154=>intV u153 .i64 fun i155=>if List.length l154=5 then (if List.all l154 one=true then (if 0+List.length l154≤List.length [(Value.int .u8 0),.int .u8 0,.int .u8 0,.int .u8 0,.int .i64 0] then (F69_j1 i155 [.int .u8 0,.int .u8 0,.int .u8 0,.int .u8 0,.int .i64 0] (splice [.int .u8 0,.int .u8 0,.int .u8 0,.int .u8 0,.int .i64 0] 0 l154) h151  K) else False) else False) else False)))
noncomputable def F69_code:Code:=(.seq (.region 0 (opsAt Tryd.f69 (pth 2)) false) (.seq (.region 1 (opsAt Tryd.f69 (pth 5)) true) (.seq (.seq (.region 2 (opsAt Tryd.f69 (pth 19)) false) (.cond (.tmp 30) (.seq (.region 3 (opsAt Tryd.f69 (pth 75)) false) .ret) .skip)) (.seq (.region 4 (opsAt Tryd.f69 (pth 23)) false) .ret))))
theorem F69_body:Tryd.f69.body=some F69_code:=by kernel_rfl
theorem F69_ok (x0:OA) (x1:Int) (x2:List Value) (hp:HP) (K:Kh) (h:F69 x0 x1 x2 hp K):CF Tryd.prog 69 [(.pointer x0),(.int .i64 x1),(.agg ⟨x2⟩)] hp K:=by
 refine .inl ⟨by kernel_rfl,AC.intro (N:=33) Tryd.func69 F69_body rfl (Nat.le_of_ble_eq_true rfl) ?_⟩
 unfold F69 at h
 refine Ar F69_r0 ?_ (r3 2 0 1 Rn) (z3 Sn) Sn
 refine As (fun env pv hp=>∃ x9 k6 k8,Sub (w3 E0 9 (sI x9) 8 (sR 8 0) 6 (sR 6 0)) env∧Sub (w2 V0 8 (34,k8) 6 (34,k6)) pv∧(F69_j1 x9 k6 k8 hp  K)) ?_ ?_
 ·refine AWP.rgnC (cf:=[(6,10),(9,19),(12,19)]) (c:=[([true,true,true],true,[0,1,2,3,4,5,6,7,8,9,10,11,12,13,14,15,16,17,18,19,20,21]),([true,true,false],true,[0,1,2,3,4,5,6,7,8,9,10,11,13,14,19,12,15,16,17,18,20,21]),([true,false,true],true,[0,1,2,3,4,5,6,7,8,11,12,13,14,19,9,10,15,16,17,18,20,21]),([true,false,false],true,[0,1,2,3,4,5,6,7,8,11,13,14,19,9,10,12,15,16,17,18,20,21]),([false,true,true],true,[0,1,2,3,4,5,7,8,9,10,6,11,12,13,14,15,16,17,18,19,20,21]),([false,true,false],true,[0,1,2,3,4,5,7,8,9,10,6,11,13,14,19,12,15,16,17,18,20,21]),([false,false,true],true,[0,1,2,3,4,5,7,8,11,12,13,14,19,9,10,6,15,16,17,18,20,21]),([false,false,false],true,[0,1,2,3,4,5,7,8,11,13,14,19,9,10,6,12,15,16,17,18,20,21])]) (by kernel_rfl) (by kernel_rfl) (by kernel_rfl) (by kernel_rfl) (allO_t (Eq.mpr F69_r4 ?_) (allO_t (Eq.mpr F69_r5 ?_) (allO_t (Eq.mpr F69_r6 ?_) (allO_t (Eq.mpr F69_r7 ?_) (allO_t (Eq.mpr F69_r8 ?_) (allO_t (Eq.mpr F69_r9 ?_) (allO_t (Eq.mpr F69_r10 ?_) (allO_t (Eq.mpr F69_r11 ?_) trivial)))))))) (r2 0 1 (rp 5 5 0 (rp 6 6 0 Rn))) (z4 Sn) (z2 Sn)
  ·replace h:=h.1
   refine mC h (fun u4 h5 h=>mI h (fun i6 h=>mN h (fun b7 o8 h=>⟨h.1,h.2.1,mV h.2.2 fun v9 h=>mP h fun p10 h=>mL h fun l11 h=>mC h fun u12 h13 h=>mA h fun l14 h=>mV h fun v15 h=>mI h fun i16 h=>mC h fun u17 h18 h=>mT h fun u19 u20 h=>mA h fun l21 h=>mI h fun i22 h=>mf h fun h=>mf h fun h=>mf h fun h=>?_⟩)))
   exact ⟨_,_,_,(z3 Sn),(z2 Sn),h⟩
  ·replace h:=h.2.1
   refine mC h (fun u23 h24 h=>mI h (fun i25 h=>mN h (fun b26 o27 h=>⟨h.1,h.2.1,mV h.2.2 fun v28 h=>mP h fun p29 h=>mL h fun l30 h=>mC h fun u31 h32 h=>mA h fun l33 h=>mV h fun v34 h=>mI h fun i35 h=>mC h fun u36 h37 h=>mT h fun u38 u39 h=>mA h fun l40 h=>mI h fun i41 h=>mf h fun h=>mf h fun h=>mf h fun h=>?_⟩)))
   exact ⟨_,_,_,(z3 Sn),(z2 Sn),h⟩
  ·replace h:=h.2.2.1
   refine mC h (fun u42 h43 h=>mI h (fun i44 h=>mN h (fun b45 o46 h=>⟨h.1,h.2.1,mV h.2.2 fun v47 h=>mP h fun p48 h=>mV h fun v49 h=>mI h fun i50 h=>mL h fun l51 h=>mC h fun u52 h53 h=>mA h fun l54 h=>mC h fun u55 h56 h=>mT h fun u57 u58 h=>mA h fun l59 h=>mI h fun i60 h=>mf h fun h=>mf h fun h=>mf h fun h=>?_⟩)))
   exact ⟨_,_,_,(z3 Sn),(z2 Sn),h⟩
  ·replace h:=h.2.2.2.1
   refine mC h (fun u61 h62 h=>mI h (fun i63 h=>mN h (fun b64 o65 h=>⟨h.1,h.2.1,mV h.2.2 fun v66 h=>mP h fun p67 h=>mL h fun l68 h=>mC h fun u69 h70 h=>mA h fun l71 h=>mV h fun v72 h=>mI h fun i73 h=>mC h fun u74 h75 h=>mT h fun u76 u77 h=>mA h fun l78 h=>mI h fun i79 h=>mf h fun h=>mf h fun h=>mf h fun h=>?_⟩)))
   exact ⟨_,_,_,(z3 Sn),(z2 Sn),h⟩
  ·replace h:=h.2.2.2.2.1
   refine mC h (fun u80 h81 h=>mI h (fun i82 h=>mN h (fun b83 o84 h=>⟨h.1,h.2.1,mL h.2.2 fun l85 h=>mC h fun u86 h87 h=>mA h fun l88 h=>mV h fun v89 h=>mP h fun p90 h=>mV h fun v91 h=>mI h fun i92 h=>mC h fun u93 h94 h=>mT h fun u95 u96 h=>mA h fun l97 h=>mI h fun i98 h=>mf h fun h=>mf h fun h=>mf h fun h=>?_⟩)))
   exact ⟨_,_,_,(z3 Sn),(z2 Sn),h⟩
  ·replace h:=h.2.2.2.2.2.1
   refine mC h (fun u99 h100 h=>mI h (fun i101 h=>mN h (fun b102 o103 h=>⟨h.1,h.2.1,mL h.2.2 fun l104 h=>mC h fun u105 h106 h=>mA h fun l107 h=>mV h fun v108 h=>mP h fun p109 h=>mV h fun v110 h=>mI h fun i111 h=>mC h fun u112 h113 h=>mT h fun u114 u115 h=>mA h fun l116 h=>mI h fun i117 h=>mf h fun h=>mf h fun h=>mf h fun h=>?_⟩)))
   exact ⟨_,_,_,(z3 Sn),(z2 Sn),h⟩
  ·replace h:=h.2.2.2.2.2.2.1
   refine mC h (fun u118 h119 h=>mI h (fun i120 h=>mN h (fun b121 o122 h=>⟨h.1,h.2.1,mV h.2.2 fun v123 h=>mI h fun i124 h=>mL h fun l125 h=>mC h fun u126 h127 h=>mA h fun l128 h=>mV h fun v129 h=>mP h fun p130 h=>mC h fun u131 h132 h=>mT h fun u133 u134 h=>mA h fun l135 h=>mI h fun i136 h=>mf h fun h=>mf h fun h=>mf h fun h=>?_⟩)))
   exact ⟨_,_,_,(z3 Sn),(z2 Sn),h⟩
  ·replace h:=h.2.2.2.2.2.2.2
   refine mC h (fun u137 h138 h=>mI h (fun i139 h=>mN h (fun b140 o141 h=>⟨h.1,h.2.1,mL h.2.2 fun l142 h=>mC h fun u143 h144 h=>mA h fun l145 h=>mV h fun v146 h=>mP h fun p147 h=>mV h fun v148 h=>mI h fun i149 h=>mC h fun u150 h151 h=>mT h fun u152 u153 h=>mA h fun l154 h=>mI h fun i155 h=>mf h fun h=>mf h fun h=>mf h fun h=>?_⟩)))
   exact ⟨_,_,_,(z3 Sn),(z2 Sn),h⟩
 ·rintro env pv hp ⟨x9,k6,k8,he,hv,h⟩
  refine Ae ?_ (rp 6 6 0 (rp 8 8 0 (r1 9 Rn))) he hv
  unfold F69_j1 at h
  refine Aq (Ar F69_r1 ?_ (r1 9 (rp 6 6 0 (rp 8 8 0 Rn))) (z3 Sn) (z2 Sn))
  refine Ac h rfl (fun h=>?_) (fun h=>?_)
  ·refine Ar F69_r2 ?_ (rp 6 6 0 Rn) (z1 Sn) (z1 Sn)
   refine mf h fun h=>mf h fun h=>mf h fun h=>?_
   refine AWP.ret ?_
   exact h
  ·refine AWP.skip (Ar F69_r3 ?_ (rp 6 6 0 (rp 8 8 0 Rn)) (z2 Sn) (z2 Sn))
   refine mL h fun l2 h=>mf h fun h=>mf h fun h=>mf h fun h=>?_
   refine AWP.ret ?_
   exact h
end
section
variable {e E:Env} {x0:OA} {x1:Int} {x2:List Value} {x8 x10:Int} {k5 k6 k9:List Value} {hp:HP} {K:Env→PV→HP→Prop}
abbrev R18 (p n:Nat):=RW Tryd.prog 36 [5,6,9] (opsAt Tryd.f18 (pth p)) (List.range n)
theorem F18_r0:R18 2 3 (upd e 2 (sA x2)) V0 hp K=
 K (w4 e 2 (sA x2) 5 (sR 5 0) 6 (sR 6 0) 7 (sI 0)) (w2 V0 5 (32,x2) 6 (36,[.int .i64 0,.int .i64 0,.int .u8 0,.int .u8 0,.int .u8 0,.int .u8 0,.int .u8 0,.int .u8 0,.int .u8 0,.int .u8 0,.int .u8 0,.int .u8 0,.int .u8 0,.int .u8 0,.int .u8 0,.int .u8 0,.int .u8 0,.int .u8 0,.int .i64 0,.int .u8 0,.int .u8 0,.int .u8 0,.int .u8 0,.int .i64 0,.bool false,.int .i64 0])) hp:= by kernel_rfl
theorem F18_r1 (h:E=upd (w2 e 5 (sR 5 0) 1 (sI x1)) 0 (sP x0)):R18 9 5 E (w2 V0 6 (36,k6) 5 (32,k5)) hp K=
 ldL (cellsN k5 0 17) fun l1=>(CF Tryd.prog 68 [(.pointer x0),(.int .i64 x1),(.agg ⟨l1⟩)] hp fun u2 h3=>intV u2 .i64 fun i4=>K (w5 E 11 (sP x0) 12 (sI x1) 13 (sA l1) 14 (sI i4) 8 (sI i4)) (w2 V0 6 (36,k6) 5 (32,k5)) h3):= by subst h; kernel_rfl
theorem F18_r2:R18 21 2 (upd e 8 (sI x8)) (w2 V0 6 (36,k6) 5 (32,k5)) hp K=
 K (w3 e 8 (sI x8) 15 (sI x8) 16 (sB ((x8 != 0)))) (w2 V0 6 (36,k6) 5 (32,k5)) hp:= by kernel_rfl
theorem F18_r3:R18 77 4 (w2 e 8 (sI x8) 6 (sR 6 0)) (upd V0 6 (36,k6)) hp K=
    (if List.length [(Value.int .i64 0),.int .i64 0,.int .u8 0,.int .u8 0,.int .u8 0,.int .u8 0,.int .u8 0,.int .u8 0,.int .u8 0,.int .u8 0,.int .u8 0,.int .u8 0,.int .u8 0,.int .u8 0,.int .u8 0,.int .u8 0,.int .u8 0,.int .u8 0,.int .i64 0,.int .u8 0,.int .u8 0,.int .u8 0,.int .u8 0,.int .i64 0,.bool false,.int .i64 0]=26 then (if List.all [(Value.int .i64 0),.int .i64 0,.int .u8 0,.int .u8 0,.int .u8 0,.int .u8 0,.int .u8 0,.int .u8 0,.int .u8 0,.int .u8 0,.int .u8 0,.int .u8 0,.int .u8 0,.int .u8 0,.int .u8 0,.int .u8 0,.int .u8 0,.int .u8 0,.int .i64 0,.int .u8 0,.int .u8 0,.int .u8 0,.int .u8 0,.int .i64 0,.bool false,.int .i64 0] one=true then (if 0+List.length [(Value.int .i64 0),.int .i64 0,.int .u8 0,.int .u8 0,.int .u8 0,.int .u8 0,.int .u8 0,.int .u8 0,.int .u8 0,.int .u8 0,.int .u8 0,.int .u8 0,.int .u8 0,.int .u8 0,.int .u8 0,.int .u8 0,.int .u8 0,.int .u8 0,.int .i64 0,.int .u8 0,.int .u8 0,.int .u8 0,.int .u8 0,.int .i64 0,.bool false,.int .i64 0]≤List.length k6 then (K (w5 e 8 (sI x8) 6 (sR 6 0) 17 (sV (.agg ⟨[.int .i64 0,.int .i64 0,.int .u8 0,.int .u8 0,.int .u8 0,.int .u8 0,.int .u8 0,.int .u8 0,.int .u8 0,.int .u8 0,.int .u8 0,.int .u8 0,.int .u8 0,.int .u8 0,.int .u8 0,.int .u8 0,.int .u8 0,.int .u8 0,.int .i64 0,.int .u8 0,.int .u8 0,.int .u8 0,.int .u8 0,.int .i64 0,.bool false,.int .i64 0]⟩)) 18 (sI x8) 7 (sI x8)) (w2 V0 6 (36,k6) 6 (36,(splice k6 0 [.int .i64 0,.int .i64 0,.int .u8 0,.int .u8 0,.int .u8 0,.int .u8 0,.int .u8 0,.int .u8 0,.int .u8 0,.int .u8 0,.int .u8 0,.int .u8 0,.int .u8 0,.int .u8 0,.int .u8 0,.int .u8 0,.int .u8 0,.int .u8 0,.int .i64 0,.int .u8 0,.int .u8 0,.int .u8 0,.int .u8 0,.int .i64 0,.bool false,.int .i64 0]))) hp) else False) else False) else False):=by kernel_rfl
theorem F18_r4 (h:E=upd (w2 e 5 (sR 5 0) 1 (sI x1)) 0 (sP x0)):R18 11 10 E (w2 V0 6 (36,k6) 5 (32,k5)) hp K=
 ldL (cellsN k5 0 17) fun l1=>(CF Tryd.prog 69 [(.pointer x0),(.int .i64 x1),(.agg ⟨l1⟩)] hp fun u2 h3=>tup2V u2 fun u4 u5=>aggV u4 fun l6=>intV u5 .i64 fun i7=>if List.length l6=5 then (if List.all l6 one=true then (if 0+List.length l6≤List.length [(Value.int .u8 0),.int .u8 0,.int .u8 0,.int .u8 0,.int .i64 0] then (K (upd (w8 E 20 (sP x0) 21 (sI x1) 22 (sA l1) 23 (sV (.tuple ⟨[(.agg ⟨l6⟩),(.int .i64 i7)]⟩)) 19 (sV (.tuple ⟨[(.agg ⟨l6⟩),(.int .i64 i7)]⟩)) 24 (sA l6) 25 (sI i7) 9 (sR 9 0)) 10 (sI i7)) (w4 V0 6 (36,k6) 5 (32,k5) 9 (34,[.int .u8 0,.int .u8 0,.int .u8 0,.int .u8 0,.int .i64 0]) 9 (34,(splice [.int .u8 0,.int .u8 0,.int .u8 0,.int .u8 0,.int .i64 0] 0 l6))) h3) else False) else False) else False):= by subst h; kernel_rfl
theorem F18_r5:R18 39 2 (upd e 10 (sI x10)) (w3 V0 9 (34,k9) 6 (36,k6) 5 (32,k5)) hp K=
 K (w3 e 10 (sI x10) 26 (sI x10) 27 (sB ((x10 != 0)))) (w3 V0 9 (34,k9) 6 (36,k6) 5 (32,k5)) hp:= by kernel_rfl
theorem F18_r6:R18 151 4 (w2 e 10 (sI x10) 6 (sR 6 0)) (upd V0 6 (36,k6)) hp K=
    (if List.length [(Value.int .i64 0),.int .i64 0,.int .u8 0,.int .u8 0,.int .u8 0,.int .u8 0,.int .u8 0,.int .u8 0,.int .u8 0,.int .u8 0,.int .u8 0,.int .u8 0,.int .u8 0,.int .u8 0,.int .u8 0,.int .u8 0,.int .u8 0,.int .u8 0,.int .i64 0,.int .u8 0,.int .u8 0,.int .u8 0,.int .u8 0,.int .i64 0,.bool false,.int .i64 0]=26 then (if List.all [(Value.int .i64 0),.int .i64 0,.int .u8 0,.int .u8 0,.int .u8 0,.int .u8 0,.int .u8 0,.int .u8 0,.int .u8 0,.int .u8 0,.int .u8 0,.int .u8 0,.int .u8 0,.int .u8 0,.int .u8 0,.int .u8 0,.int .u8 0,.int .u8 0,.int .i64 0,.int .u8 0,.int .u8 0,.int .u8 0,.int .u8 0,.int .i64 0,.bool false,.int .i64 0] one=true then (if 0+List.length [(Value.int .i64 0),.int .i64 0,.int .u8 0,.int .u8 0,.int .u8 0,.int .u8 0,.int .u8 0,.int .u8 0,.int .u8 0,.int .u8 0,.int .u8 0,.int .u8 0,.int .u8 0,.int .u8 0,.int .u8 0,.int .u8 0,.int .u8 0,.int .u8 0,.int .i64 0,.int .u8 0,.int .u8 0,.int .u8 0,.int .u8 0,.int .i64 0,.bool false,.int .i64 0]≤List.length k6 then (K (w5 e 10 (sI x10) 6 (sR 6 0) 28 (sV (.agg ⟨[.int .i64 0,.int .i64 0,.int .u8 0,.int .u8 0,.int .u8 0,.int .u8 0,.int .u8 0,.int .u8 0,.int .u8 0,.int .u8 0,.int .u8 0,.int .u8 0,.int .u8 0,.int .u8 0,.int .u8 0,.int .u8 0,.int .u8 0,.int .u8 0,.int .i64 0,.int .u8 0,.int .u8 0,.int .u8 0,.int .u8 0,.int .i64 0,.bool false,.int .i64 0]⟩)) 29 (sI x10) 7 (sI x10)) (w2 V0 6 (36,k6) 6 (36,(splice k6 0 [.int .i64 0,.int .i64 0,.int .u8 0,.int .u8 0,.int .u8 0,.int .u8 0,.int .u8 0,.int .u8 0,.int .u8 0,.int .u8 0,.int .u8 0,.int .u8 0,.int .u8 0,.int .u8 0,.int .u8 0,.int .u8 0,.int .u8 0,.int .u8 0,.int .i64 0,.int .u8 0,.int .u8 0,.int .u8 0,.int .u8 0,.int .i64 0,.bool false,.int .i64 0]))) hp) else False) else False) else False):=by kernel_rfl
theorem F18_r7 (h:E=upd (w4 e 9 (sR 9 0) 6 (sR 6 0) 5 (sR 5 0) 1 (sI x1)) 0 (sP x0)):R18 47 8 E (w3 V0 9 (34,k9) 6 (36,k6) 5 (32,k5)) hp K=
 ldL (cellsN k5 0 17) fun l1=>(ldL (cellsN k9 0 5) fun l2=>if List.length l1=17 then (if List.length l2=5 then (CF Tryd.prog 70 [(.pointer x0),(.agg ⟨(splice (splice [.int .i64 0,(.int .i64 x1),.int .u8 0,.int .u8 0,.int .u8 0,.int .u8 0,.int .u8 0,.int .u8 0,.int .u8 0,.int .u8 0,.int .u8 0,.int .u8 0,.int .u8 0,.int .u8 0,.int .u8 0,.int .u8 0,.int .u8 0,.int .u8 0,.int .i64 0,.int .u8 0,.int .u8 0,.int .u8 0,.int .u8 0,.int .i64 0,.bool false,.int .i64 0] 2 l1) 19 l2)⟩)] hp fun u3 h4=>aggV u3 fun l5=>if List.length l5=26 then (if List.all l5 one=true then (if 0+List.length l5≤List.length k6 then (K (w7 E 30 (sP x0) 31 (sI x1) 32 (sA l1) 33 (sA l2) 34 (sV (.agg ⟨(splice (splice [.int .i64 0,(.int .i64 x1),.int .u8 0,.int .u8 0,.int .u8 0,.int .u8 0,.int .u8 0,.int .u8 0,.int .u8 0,.int .u8 0,.int .u8 0,.int .u8 0,.int .u8 0,.int .u8 0,.int .u8 0,.int .u8 0,.int .u8 0,.int .u8 0,.int .i64 0,.int .u8 0,.int .u8 0,.int .u8 0,.int .u8 0,.int .i64 0,.bool false,.int .i64 0] 2 l1) 19 l2)⟩)) 35 (sA l5) 7 (sI 0)) (w4 V0 9 (34,k9) 6 (36,k6) 5 (32,k5) 6 (36,(splice k6 0 l5))) h4) else False) else False) else False) else False) else False):= by subst h; kernel_rfl
def F18 (x0:OA) (x1:Int) (x2:List Value) (hp:HP) (K:Kh):Prop:=
  (ldL (cellsN x2 0 17) fun l1=>CF Tryd.prog 68 [(.pointer x0),(.int .i64 x1),(.agg ⟨l1⟩)] hp fun u2 h3=>intV u2 .i64 fun i4=>ite2 (i4 != 0) (if List.length [(Value.int .i64 0),.int .i64 0,.int .u8 0,.int .u8 0,.int .u8 0,.int .u8 0,.int .u8 0,.int .u8 0,.int .u8 0,.int .u8 0,.int .u8 0,.int .u8 0,.int .u8 0,.int .u8 0,.int .u8 0,.int .u8 0,.int .u8 0,.int .u8 0,.int .i64 0,.int .u8 0,.int .u8 0,.int .u8 0,.int .u8 0,.int .i64 0,.bool false,.int .i64 0]=26 then (if List.all [(Value.int .i64 0),.int .i64 0,.int .u8 0,.int .u8 0,.int .u8 0,.int .u8 0,.int .u8 0,.int .u8 0,.int .u8 0,.int .u8 0,.int .u8 0,.int .u8 0,.int .u8 0,.int .u8 0,.int .u8 0,.int .u8 0,.int .u8 0,.int .u8 0,.int .i64 0,.int .u8 0,.int .u8 0,.int .u8 0,.int .u8 0,.int .i64 0,.bool false,.int .i64 0] one=true then (if 0+List.length [(Value.int .i64 0),.int .i64 0,.int .u8 0,.int .u8 0,.int .u8 0,.int .u8 0,.int .u8 0,.int .u8 0,.int .u8 0,.int .u8 0,.int .u8 0,.int .u8 0,.int .u8 0,.int .u8 0,.int .u8 0,.int .u8 0,.int .u8 0,.int .u8 0,.int .i64 0,.int .u8 0,.int .u8 0,.int .u8 0,.int .u8 0,.int .i64 0,.bool false,.int .i64 0]≤List.length [(Value.int .i64 0),.int .i64 0,.int .u8 0,.int .u8 0,.int .u8 0,.int .u8 0,.int .u8 0,.int .u8 0,.int .u8 0,.int .u8 0,.int .u8 0,.int .u8 0,.int .u8 0,.int .u8 0,.int .u8 0,.int .u8 0,.int .u8 0,.int .u8 0,.int .i64 0,.int .u8 0,.int .u8 0,.int .u8 0,.int .u8 0,.int .i64 0,.bool false,.int .i64 0] then (ldL (cellsN (splice [.int .i64 0,.int .i64 0,.int .u8 0,.int .u8 0,.int .u8 0,.int .u8 0,.int .u8 0,.int .u8 0,.int .u8 0,.int .u8 0,.int .u8 0,.int .u8 0,.int .u8 0,.int .u8 0,.int .u8 0,.int .u8 0,.int .u8 0,.int .u8 0,.int .i64 0,.int .u8 0,.int .u8 0,.int .u8 0,.int .u8 0,.int .i64 0,.bool false,.int .i64 0] 0 [.int .i64 0,.int .i64 0,.int .u8 0,.int .u8 0,.int .u8 0,.int .u8 0,.int .u8 0,.int .u8 0,.int .u8 0,.int .u8 0,.int .u8 0,.int .u8 0,.int .u8 0,.int .u8 0,.int .u8 0,.int .u8 0,.int .u8 0,.int .u8 0,.int .i64 0,.int .u8 0,.int .u8 0,.int .u8 0,.int .u8 0,.int .i64 0,.bool false,.int .i64 0]) 0 26) fun l5=>K (.tuple ⟨[(.agg ⟨l5⟩),(.int .i64 i4)]⟩) h3) else False) else False) else False) (ldL (cellsN x2 0 17) fun l6=>CF Tryd.prog 69 [(.pointer x0),(.int .i64 x1),(.agg ⟨l6⟩)] h3 fun u7 h8=>tup2V u7 fun u9 u10=>aggV u9 fun l11=>intV u10 .i64 fun i12=>if List.length l11=5 then (if List.all l11 one=true then (if 0+List.length l11≤List.length [(Value.int .u8 0),.int .u8 0,.int .u8 0,.int .u8 0,.int .i64 0] then (ite2 (i12 != 0) (if List.length [(Value.int .i64 0),.int .i64 0,.int .u8 0,.int .u8 0,.int .u8 0,.int .u8 0,.int .u8 0,.int .u8 0,.int .u8 0,.int .u8 0,.int .u8 0,.int .u8 0,.int .u8 0,.int .u8 0,.int .u8 0,.int .u8 0,.int .u8 0,.int .u8 0,.int .i64 0,.int .u8 0,.int .u8 0,.int .u8 0,.int .u8 0,.int .i64 0,.bool false,.int .i64 0]=26 then (if List.all [(Value.int .i64 0),.int .i64 0,.int .u8 0,.int .u8 0,.int .u8 0,.int .u8 0,.int .u8 0,.int .u8 0,.int .u8 0,.int .u8 0,.int .u8 0,.int .u8 0,.int .u8 0,.int .u8 0,.int .u8 0,.int .u8 0,.int .u8 0,.int .u8 0,.int .i64 0,.int .u8 0,.int .u8 0,.int .u8 0,.int .u8 0,.int .i64 0,.bool false,.int .i64 0] one=true then (if 0+List.length [(Value.int .i64 0),.int .i64 0,.int .u8 0,.int .u8 0,.int .u8 0,.int .u8 0,.int .u8 0,.int .u8 0,.int .u8 0,.int .u8 0,.int .u8 0,.int .u8 0,.int .u8 0,.int .u8 0,.int .u8 0,.int .u8 0,.int .u8 0,.int .u8 0,.int .i64 0,.int .u8 0,.int .u8 0,.int .u8 0,.int .u8 0,.int .i64 0,.bool false,.int .i64 0]≤List.length [(Value.int .i64 0),.int .i64 0,.int .u8 0,.int .u8 0,.int .u8 0,.int .u8 0,.int .u8 0,.int .u8 0,.int .u8 0,.int .u8 0,.int .u8 0,.int .u8 0,.int .u8 0,.int .u8 0,.int .u8 0,.int .u8 0,.int .u8 0,.int .u8 0,.int .i64 0,.int .u8 0,.int .u8 0,.int .u8 0,.int .u8 0,.int .i64 0,.bool false,.int .i64 0] then (ldL (cellsN (splice [.int .i64 0,.int .i64 0,.int .u8 0,.int .u8 0,.int .u8 0,.int .u8 0,.int .u8 0,.int .u8 0,.int .u8 0,.int .u8 0,.int .u8 0,.int .u8 0,.int .u8 0,.int .u8 0,.int .u8 0,.int .u8 0,.int .u8 0,.int .u8 0,.int .i64 0,.int .u8 0,.int .u8 0,.int .u8 0,.int .u8 0,.int .i64 0,.bool false,.int .i64 0] 0 [.int .i64 0,.int .i64 0,.int .u8 0,.int .u8 0,.int .u8 0,.int .u8 0,.int .u8 0,.int .u8 0,.int .u8 0,.int .u8 0,.int .u8 0,.int .u8 0,.int .u8 0,.int .u8 0,.int .u8 0,.int .u8 0,.int .u8 0,.int .u8 0,.int .i64 0,.int .u8 0,.int .u8 0,.int .u8 0,.int .u8 0,.int .i64 0,.bool false,.int .i64 0]) 0 26) fun l13=>K (.tuple ⟨[(.agg ⟨l13⟩),(.int .i64 i12)]⟩) h8) else False) else False) else False) (ldL (cellsN x2 0 17) fun l14=>ldL (cellsN (splice [.int .u8 0,.int .u8 0,.int .u8 0,.int .u8 0,.int .i64 0] 0 l11) 0 5) fun l15=>if List.length l14=17 then (if List.length l15=5 then (CF Tryd.prog 70 [(.pointer x0),(.agg ⟨(splice (splice [.int .i64 0,(.int .i64 x1),.int .u8 0,.int .u8 0,.int .u8 0,.int .u8 0,.int .u8 0,.int .u8 0,.int .u8 0,.int .u8 0,.int .u8 0,.int .u8 0,.int .u8 0,.int .u8 0,.int .u8 0,.int .u8 0,.int .u8 0,.int .u8 0,.int .i64 0,.int .u8 0,.int .u8 0,.int .u8 0,.int .u8 0,.int .i64 0,.bool false,.int .i64 0] 2 l14) 19 l15)⟩)] h8 fun u16 h17=>aggV u16 fun l18=>if List.length l18=26 then (if List.all l18 one=true then (if 0+List.length l18≤List.length [(Value.int .i64 0),.int .i64 0,.int .u8 0,.int .u8 0,.int .u8 0,.int .u8 0,.int .u8 0,.int .u8 0,.int .u8 0,.int .u8 0,.int .u8 0,.int .u8 0,.int .u8 0,.int .u8 0,.int .u8 0,.int .u8 0,.int .u8 0,.int .u8 0,.int .i64 0,.int .u8 0,.int .u8 0,.int .u8 0,.int .u8 0,.int .i64 0,.bool false,.int .i64 0] then (ldL (cellsN (splice [.int .i64 0,.int .i64 0,.int .u8 0,.int .u8 0,.int .u8 0,.int .u8 0,.int .u8 0,.int .u8 0,.int .u8 0,.int .u8 0,.int .u8 0,.int .u8 0,.int .u8 0,.int .u8 0,.int .u8 0,.int .u8 0,.int .u8 0,.int .u8 0,.int .i64 0,.int .u8 0,.int .u8 0,.int .u8 0,.int .u8 0,.int .i64 0,.bool false,.int .i64 0] 0 l18) 0 26) fun l19=>K (.tuple ⟨[(.agg ⟨l19⟩),.int .i64 0]⟩) h17) else False) else False) else False) else False) else False)) else False) else False) else False))
noncomputable abbrev o18 (k n:Nat):Code:=.region k (opsAt Tryd.f18 (pth n)) false
noncomputable def F18_code:Code:=(.seq (o18 0 2) (.seq (.seq (o18 1 9) (.seq (o18 2 21) (.cond (.tmp 16) (.seq (o18 3 77) .ret) .skip))) (.seq (o18 4 11) (.seq (.seq (o18 5 39) (.cond (.tmp 27) (.seq (o18 6 151) .ret) .skip)) (.seq (o18 7 47) .ret)))))
theorem F18_body:Tryd.f18.body=some F18_code:=by kernel_rfl
theorem F18_ok (x0:OA) (x1:Int) (x2:List Value) (hp:HP) (K:Kh) (h:F18 x0 x1 x2 hp K):CF Tryd.prog 18 [(.pointer x0),(.int .i64 x1),(.agg ⟨x2⟩)] hp K:=by
 refine .inl ⟨by kernel_rfl,AC.intro (N:=36) Tryd.func18 F18_body rfl (Nat.le_of_ble_eq_true rfl) ?_⟩
 unfold F18 at h
 refine Ar F18_r0 ?_ (r3 2 0 1 Rn) (z3 Sn) Sn
 refine Aq (Ar (F18_r1 rfl) ?_ (r2 0 1 (rp 5 5 0 (rp 6 6 0 Rn))) (z4 Sn) (z2 Sn))
 refine mL h fun l1 h=>mC h fun u2 h3 h=>mI h fun i4 h=>?_
 refine Ar F18_r2 ?_ (r3 8 0 1 (rp 5 5 0 (rp 6 6 0 Rn))) (z5 Sn) (z2 Sn)
 refine Ac h rfl (fun h=>?_) (fun h=>?_)
 ·refine Ar F18_r3 ?_ (rp 6 6 0 (r1 8 Rn)) (z2 Sn) (z1 Sn)
  refine mf h fun h=>mf h fun h=>mf h fun h=>?_
  refine AWP.ret ?_
  exact h
 ·refine AWP.skip (Ar (F18_r4 rfl) ?_ (r2 0 1 (rp 5 5 0 (rp 6 6 0 Rn))) (z4 Sn) (z2 Sn))
  refine mL h fun l6 h=>mC h fun u7 h8 h=>mT h fun u9 u10 h=>mA h fun l11 h=>mI h fun i12 h=>mf h fun h=>mf h fun h=>mf h fun h=>?_
  refine Aq (Ar F18_r5 ?_ (r3 10 0 1 (rp 5 5 0 (rp 6 6 0 (rp 9 9 0 Rn)))) (z6 Sn) (z3 Sn))
  refine Ac h rfl (fun h=>?_) (fun h=>?_)
  ·refine Ar F18_r6 ?_ (rp 6 6 0 (r1 10 Rn)) (z2 Sn) (z1 Sn)
   refine mf h fun h=>mf h fun h=>mf h fun h=>?_
   refine AWP.ret ?_
   exact h
  ·refine AWP.skip (Ar (F18_r7 rfl) ?_ (r2 0 1 (rp 5 5 0 (rp 6 6 0 (rp 9 9 0 Rn)))) (z5 Sn) (z3 Sn))
   refine mL h fun l14 h=>mL h fun l15 h=>mf h fun h=>mf h fun h=>mC h fun u16 h17 h=>mA h fun l18 h=>mf h fun h=>mf h fun h=>mf h fun h=>?_
   refine AWP.ret ?_
   exact h
end
end Go.Proofs
set_option linter.unusedVariables false
set_option linter.unusedSimpArgs false
set_option maxRecDepth 20000
namespace Go.Proofs
open Go Go.HL
section
variable {tb:Obj} {hq:HP} {t:Nat} {l:List Q} {low high:Int} {mx last n:Nat} {L:List Bd} {E:List (Bd × Nat)} {ps:Nat→HP} {m x o:Nat} {pl pm:Nat→Nat} {H:Nat→List ((Q × Int) × Bool)} {K:Value→HP→Prop}
theorem BdP.hold (h:BdP tb hq t l low high mx last n E ps m x o pl pm H) {k:Nat} (hk:k<3) {held':List ((Q × Int) × Bool)} {e:Ent} (he:MapE t4k vb held' e) :
    BdP tb (hq.set (pm k) e) t l low high mx last n E (pu ps (3+k) ((ps (3+k)).set (pm k) e)) m x o pl pm (fun j=>if j=k then held' else H j) where
  parts:=h.parts.put (3+k) (by obtain ⟨a,c,_,_,hm⟩:=h.pool k hk; exact hm.ne) e
  main:=by rw [pu_ne _ _ (by omega)]; exact h.main
  six:=by rw [pu_ne _ _ (by omega)]; exact h.six
  four:=by rw [pu_ne _ _ (by omega)]; exact h.four
  pool j hj:=by
    by_cases hjk:j=k
    · subst hjk
      rw [pu_eq,if_pos rfl]
      exact (h.pool j hj).upd he
    · rw [pu_ne _ _ (by omega),if_neg hjk]
      exact h.pool j hj
  inv:=h.inv
theorem InvB.len4 {L:List Bd} (h:InvB l low high mx last n L):l.length≤4:=by
  have:=h.new
  simp only [newOk,Bool.and_eq_true,decide_eq_true_eq] at this
  omega
theorem InvB.ports {L:List Bd} (h:InvB l low high mx last n L):0≤low∧low≤65535∧0≤high∧high≤65535:=by
  have:=h.new
  simp only [newOk,isPort,Bool.and_eq_true,decide_eq_true_eq] at this
  omega
def pairB (a:V6) (f:Q) (L:List Bd):Q:=((L.find? fun b=>decide (b.inn.1=a)).map (·.out.1)).getD f
theorem find_least {p:Bd→Bool} {y:Bd} {L:List Bd} (ha:(L.map (·.id)).Pairwise (· < ·)) (hy:y∈L) (hp:p y=true) (hl:∀ z∈L,p z=true→y.id≤z.id):L.find? p=some y:=by
  induction L with
  | nil=>cases hy
  | cons z L ih=>
    rw [List.map_cons,List.pairwise_cons] at ha
    rw [List.find?_cons]
    cases hz:p z with
    | true=>
      rcases List.mem_cons.1 hy with e | hy
      · rw [e]
      · have h1:=ha.1 y.id (List.mem_map.2 ⟨y,hy,rfl⟩)
        have h2:=hl z (by simp) hz
        omega
    | false=>
      rcases List.mem_cons.1 hy with e | hy
      · rw [e,hz] at hp; cases hp
      · exact ih ha.2 hy fun w hw hpw=>hl w (by simp [hw]) hpw
def bestB (a:V6) (f:Q) (D:List (Bd × Nat)) (least:Int) (q:Q):Prop:=
  (least=0∧q=f∧∀ e∈D,e.1.inn.1≠a)∨(∃ e∈D,e.1.inn.1=a∧least=e.1.id∧q=e.1.out.1∧∀ e'∈D,e'.1.inn.1=a→e.1.id≤e'.1.id)
theorem tupJ_end (c:Value→Prop):tupI (.tuple #[.bool false]) 0 c=c (.bool false):=rfl
theorem tupJ_go (a b:Value) (c:Value→Prop):tupI (.tuple #[.bool true,a,b]) 0 c=c (.bool true):=rfl
theorem tupJ_snd (a b:Value) (c:Value→Prop):tupI (.tuple #[a,b]) 1 c=c b:=rfl
theorem tupJ_fst (a b:Value) (c:Value→Prop):tupI (.tuple #[a,b]) 0 c=c a:=rfl
theorem v4_spl {zs:List Value} {q:Q} (h:zs.length=4):splice zs 0 (v4 q)=v4 q:=splice_all h.symm
theorem v4_cells (q:Q):cellsN (v4 q) 0 4=some (v4 q):=rfl
set_option maxHeartbeats 1000000 in
theorem P111 (h:BdP tb hq t l low high mx last n E ps m x o pl pm H) {a:V6} (hK:K (.agg ⟨v4 (pairB a (l.headD zq4) (E.map (·.1)))⟩) hq):CF Tryd.prog 111 [ptr t 0,.agg ⟨v6 a⟩] hq K:=by
  refine CF.drop (F111_ok _ (v6 a) hq _ ?_)
  unfold F111
  have hf:hq.cellN t 2 4=some (v4 (l.headD zq4)):=by rw [HP.cellN_of h.cells]; rfl
  simp only [ptrN_some,Nat.reduceAdd,hf,ldL_some]
  rw [if_pos (v4_len _),if_pos (v4_one _),if_pos (by simp [v4_len]),v4_spl rfl]
  simp only [h.c6,ldV_some,mapV_map]
  refine opS_range u123 h.mapq fun it e0 hit hI0=>?_
  unfold F111_j2
  generalize hz:([(Value.int .u8 0),(Value.int .u8 0),(Value.int .u8 0),(Value.int .u8 0)]:List Value)=zz
  have hzl:zz.length=4:=by rw [← hz]; rfl
  refine LoopP.by (J:=fun k (st:Int × List Value) hp=>∃ (D:List (Bd × Nat)) (q:Q),HSub hq hp∧(∀ e∈D,e∈E)∧IterR hp it m iw (fun k:Nat=>ptr k 0) (E.map fun e=>(e.1.id,e.2)) (D.map fun e=>(e.1.id,e.2))∧st.2=v4 q∧bestB a (l.headD zq4) D st.1 q∧k=E.length-D.length) ?_
    (n:=E.length) ⟨[],_,(HSub.refl hq).up hit e0,fun e he=>absurd he (by simp),hI0,rfl,.inl ⟨rfl,rfl,fun e he=>absurd he (by simp)⟩,by simp⟩
  rintro I k ⟨least,k6⟩ hp ⟨D,q,hs,hD,hI,rfl,hb,rfl⟩ hgo
  unfold F111_l3
  refine opS_next hI ?_ ?_
  · intro hperm
    rw [tupJ_end,boolV_bool,ite2_false]
    unfold F111_j1
    rw [v4_cells,ldL_some,if_pos (v4_len _),if_pos (v4_one _),if_pos (by simp [v4_len,hzl]),v4_spl hzl,v4_cells,ldL_some]
    refine ⟨hq,hs,?_⟩
    have hall:∀ e∈E,e∈D:=fun e he=>by
      have h1:(iw e.1.id,ptr e.2 0)∈((D.map fun e=>(e.1.id,e.2)).map fun p:Int × Nat=>(iw p.1,ptr p.2 0)):=by
        refine hperm.mem_iff.2 ?_
        exact List.mem_map.2 ⟨(e.1.id,e.2),List.mem_map.2 ⟨e,he,rfl⟩,rfl⟩
      obtain ⟨p,hp1,hp2⟩:=List.mem_map.1 h1
      obtain ⟨e',he',rfl⟩:=List.mem_map.1 hp1
      simp only [Prod.mk.injEq,iw,Value.int.injEq,true_and] at hp2
      have:=inj_of (g:=fun e:Bd × Nat=>e.1.id) h.ids he (hD e' he') hp2.1.symm
      rw [this]; exact he'
    have:q=pairB a (l.headD zq4) (E.map (·.1)):=by
      unfold pairB
      rcases hb with ⟨_,rfl,hno⟩ | ⟨e,he,ha,_,rfl,hmin⟩
      · have:((E.map (·.1)).find? fun b=>decide (b.inn.1=a))=none:=find_none.2 fun b hb=>by
          obtain ⟨e,he,rfl⟩:=List.mem_map.1 hb
          exact decide_eq_false (hno e (hall e he))
        rw [this]; rfl
      · have:((E.map (·.1)).find? fun b=>decide (b.inn.1=a))=some e.1:=find_least h.inv.asc (List.mem_map.2 ⟨e,hD e he,rfl⟩) (decide_eq_true ha) fun z hz hpz=>by
          obtain ⟨e',he',rfl⟩:=List.mem_map.1 hz
          exact hmin e' (hall e' he') (of_decide_eq_true hpz)
        rw [this]; rfl
    rw [this]; exact hK
  · intro kv hkv e2 hI2
    obtain ⟨e,he,rfl⟩:=List.mem_map.1 hkv
    have hlen2:=hI2.step_len
    rw [List.length_map,List.length_map] at hlen2
    rw [tupJ_go,boolV_bool,ite2_true]
    refine rdS_entry hI2 ?_
    rw [tupJ_fst]
    show intV (.int .i64 e.1.id) .i64 _
    rw [intV_int,tupJ_snd]
    show ptrV (ptr e.2 0) _
    have s2:HSub hq (hp.set it e2):=hs.up hit e2
    have hblk:=s2.cells (h.blkq he)
    have r1:(hp.set it e2).cellN e.2 2 16=some (v6 e.1.inn.1):=by rw [HP.cellN_of hblk]; rfl
    have r2:(hp.set it e2).cellN e.2 19 4=some (v4 e.1.out.1):=by rw [HP.cellN_of hblk]; rfl
    rw [pq,ptrN_some,show (0+2+0:Nat)=2 from rfl,r1,ldL_some,v6_cells,ldL_some]
    refine eq30 ?_
    have hid:=h.inv.rng e.1 (List.mem_map.2 ⟨e,he,rfl⟩)
    have step:∀ st' q',st'=st'→bestB a (l.headD zq4) (D++[e]) st' q'→I (st',v4 q') (hp.set it e2):=fun st' q' _ hb'=>by
      refine hgo (E.length-(D++[e]).length) _ _ (by rw [List.length_append]; simp at hlen2 ⊢; omega) ⟨D++[e],q',s2,?_,?_,rfl,hb',rfl⟩
      · intro z hz
        rcases List.mem_append.1 hz with hz | hz
        · exact hD z hz
        · rw [List.mem_singleton.1 hz]; exact he
      · rw [List.map_append]; exact hI2
    have old:(e.1.inn.1=a→least≠0∧least≤e.1.id)→I (least,v4 q) (hp.set it e2):=fun hne=>by
      refine step _ _ rfl ?_
      rcases hb with ⟨b1,b2,b3⟩ | ⟨z,hz,b1,b2,b3,b4⟩
      · refine .inl ⟨b1,b2,fun z hz=>?_⟩
        rcases List.mem_append.1 hz with hz | hz
        · exact b3 z hz
        · rw [List.mem_singleton.1 hz]
          exact fun ea=>(hne ea).1 b1
      · refine .inr ⟨z,by simp [hz],b1,b2,b3,fun w hw ha=>?_⟩
        rcases List.mem_append.1 hw with hw | hw
        · exact b4 w hw ha
        · rw [List.mem_singleton.1 hw] at ha ⊢
          rw [← b2]; exact (hne ha).2
    have new:e.1.inn.1=a→(least=0∨e.1.id<least)→I (e.1.id,v4 e.1.out.1) (hp.set it e2):=fun ea hlt=>by
      refine step _ _ rfl (.inr ⟨e,by simp,ea,rfl,rfl,fun w hw ha=>?_⟩)
      rcases List.mem_append.1 hw with hw | hw
      · rcases hb with ⟨b1,b2,b3⟩ | ⟨z,hz,b1,b2,b3,b4⟩
        · exact absurd ha (b3 w hw)
        · have h1:=b4 w hw ha
          have h2:=(h.inv.rng z.1 (List.mem_map.2 ⟨z,hD z hz,rfl⟩)).1
          omega
      · rw [List.mem_singleton.1 hw]; omega
    by_cases ea:e.1.inn.1=a
    · rw [decide_eq_true ea,ite2_true]
      by_cases hl0:least=0
      · rw [show (least==0)=true by simp [hl0],ite2_true]
        unfold F111_j4
        rw [ite2_true]
        rw [ptrN_some,show (0+19+0:Nat)=19 from rfl,r2,ldL_some,if_pos (v4_len _),if_pos (v4_one _),if_pos (by simp [v4_len]),v4_spl (v4_len q)]
        exact new ea (.inl hl0)
      · rw [show (least==0)=false by simp [hl0],ite2_false]
        unfold F111_j4
        by_cases hlt:e.1.id<least
        · rw [decide_eq_true hlt,ite2_true]
          rw [ptrN_some,show (0+19+0:Nat)=19 from rfl,r2,ldL_some,if_pos (v4_len _),if_pos (v4_one _),if_pos (by simp [v4_len]),v4_spl (v4_len q)]
          exact new ea (.inr hlt)
        · rw [decide_eq_false hlt,ite2_false]
          exact old fun _=>⟨hl0,by omega⟩
    · rw [decide_eq_false ea,ite2_false]
      unfold F111_j4
      rw [ite2_false]
      exact old fun e'=>absurd e' ea
theorem kind_nat {p:Int} (h:0≤kindB p):(kindB p).toNat<3∧(((kindB p).toNat:Nat):Int)=kindB p:=by
  have:=(kind_lt (p:=p)).1
  omega
theorem BdP.ck (h:BdP tb hq t l low high mx last n E ps m x o pl pm H) {p:Int} (hk:0≤kindB p):hq.cell t (0+9+(kindB p).toNat*1)=some (ptr (pl (kindB p).toNat) 0):=by
  rw [Nat.mul_one,Nat.zero_add]; exact h.c9 (kind_nat hk).1
theorem t4_spl {zs:List Value} {q:Q × Int} (h:zs.length=5):splice zs 0 (t4 q)=t4 q:=splice_all h.symm
def takeB (l:List Q) (low high:Int) (L:List Bd) (held:List ((Q × Int) × Bool)) (p:Int) (a:V6 × Int):Option (Q × Int):=
  takeQ l low high held (pairB a.1 (l.headD zq4) L) a.2 (p==1)
set_option maxHeartbeats 2000000 in
theorem P69 (h:BdP tb hq t l low high mx last n E ps m x o pl pm H) {p:Int} {a:V6 × Int} (hk:0≤kindB p) (hport:isPort a.2=true)
    (hno:takeB l low high (E.map (·.1)) (H (kindB p).toNat) p a=none→K (.tuple ⟨[.agg ⟨t4 (q0,0)⟩,.int .i64 13]⟩) hq)
    (hyes:∀ u,takeB l low high (E.map (·.1)) (H (kindB p).toNat) p a=some u→∀ hq' ps',BdP tb hq' t l low high mx last n E ps' m x o pl pm (fun j=>if j=(kindB p).toNat then putL u false (H (kindB p).toNat) else H j)→K (.tuple ⟨[.agg ⟨t4 u⟩,.int .i64 0]⟩) hq') :
    CF Tryd.prog 69 [ptr t 0,.int .i64 p,.agg ⟨t6 a⟩] hq K:=by
  refine F69_ok _ p (t6 a) hq K ?_
  unfold F69
  have hlt:=(kind_nat hk).1
  have hk3:=(kind_lt (p:=p)).1
  generalize hz:([(Value.int .u8 0),(Value.int .u8 0),(Value.int .u8 0),(Value.int .u8 0),(Value.int .i64 0)]:List Value)=z5
  have hzz:z5=t4 (q0,0):=by rw [← hz]; rfl
  have hzl:z5.length=5:=by rw [hzz]; rfl
  clear hz
  have c73:∀ {K':Value→HP→Prop},K' (.int .i64 (kindB p)) hq→CF Tryd.prog 73 [.int .i64 p] hq K':=fun hh=>C73 hh
  have c111:∀ {K':Value→HP→Prop},K' (.agg ⟨v4 (pairB a.1 (l.headD zq4) (E.map (·.1)))⟩) hq→CF Tryd.prog 111 [ptr t 0,.agg ⟨v6 a.1⟩] hq K':=fun hh=>P111 h hh
  have ck:=h.ck hk
  have fin:CF Tryd.prog 110 [ptr (pl (kindB p).toNat) 0,.agg ⟨v4 (pairB a.1 (l.headD zq4) (E.map (·.1)))⟩,.int .i64 a.2,.bool (p==1)] hq
      fun u_17 h_18=>tup2V u_17 fun u_19 u_20=>aggV u_19 fun l_21=>intV u_20 .i64 fun i_22=>if List.length l_21=5 then (if List.all l_21 one=true then (if 0+List.length l_21≤List.length z5 then F69_j1 i_22 z5 (splice z5 0 l_21) h_18 K else False) else False) else False:=by
    refine C110 (h.poolq hlt) h.inv.len4 h.inv.ports (fun e=>by rw [hport] at e; cases e) (fun _ e=>?_) (fun _ u e ent hent=>?_)
    · simp only [tup2V_mk,aggV_agg,intV_int]
      rw [if_pos (t4_len _),if_pos (t4_one _),if_pos (by simp [t4_len,hzl]),t4_spl hzl]
      unfold F69_j1
      rw [show ((6:Int) != 0)=true from rfl,ite2_true]
      simp only [hzz]
      exact ifI rfl (ifI rfl (ifI (Nat.le_refl 5) (hno e)))
    · simp only [tup2V_mk,aggV_agg,intV_int]
      rw [if_pos (t4_len _),if_pos (t4_one _),if_pos (by simp [t4_len,hzl]),t4_spl hzl]
      unfold F69_j1
      rw [show ((0:Int) != 0)=false from rfl,ite2_false,t4_all,ldL_some,if_pos (t4_len _),if_pos (t4_one _),if_pos (by simp [t4_len,hzl]),t4_spl hzl,t4_all,ldL_some]
      exact hyes u e _ _ (h.hold hlt hent)
  repeat' apply And.intro
  all_goals repeat (first
    | exact fin
    | (refine c73 ?_; rw [intV_int])
    | (rw [ptrN_some])
    | (refine ⟨hk,hk3,?_⟩)
    | (rw [ck,ldV_some,pq])
    | (rw [t6_addr,ldL_some])
    | (rw [t6_port,ldV_some,intV_int])
    | (refine c111 ?_; rw [aggV_agg]))
end
end Go.Proofs
set_option linter.unusedVariables false
set_option linter.unusedSimpArgs false
set_option maxRecDepth 20000
namespace Go.Proofs
open Go Go.HL
section
variable {tb:Obj} {hq:HP} {t:Nat} {l:List Q} {low high:Int} {mx last n:Nat} {L:List Bd} {E:List (Bd × Nat)} {ps:Nat→HP} {m x o:Nat} {pl pm:Nat→Nat} {H:Nat→List ((Q × Int) × Bool)} {K:Value→HP→Prop}
theorem BdW.of (h:BdP tb hq t l low high mx last n E ps m x o pl pm H) (hH:∀ k,k<3→H k=heldB (E.map (·.1)) k):BdW tb hq t l low high mx last n (E.map (·.1)):=
  ⟨E,ps,m,x,o,pl,pm,rfl,h.parts,h.main,h.six,h.four,fun k hk=>hH k hk▸h.pool k hk,h.inv⟩
def tkB (l:List Q) (low high:Int) (L:List Bd) (p:Int) (a:V6 × Int):Option (Q × Int):=takeB l low high L (heldB L (kindB p)) p a
def roomB (l:List Q) (low high:Int) (mx:Nat) (L:List Bd) (p:Int) (a:V6 × Int):Int:=
  if mayB p a L mx≠0 then mayB p a L mx else if (tkB l low high L p a).isNone then 13 else 0
theorem mayB_0 {p:Int} {a:V6 × Int} {mx:Nat} (h:mayB p a L mx=0):0≤kindB p∧isPort a.2=true∧find6 p a L=none∧L.length<mx:=by
  unfold mayB at h
  by_cases c1:kindB p<0
  · rw [if_pos c1] at h; cases h
  · rw [if_neg c1] at h
    by_cases c2:isPort a.2=false
    · rw [if_pos c2] at h; cases h
    · rw [if_neg c2] at h
      by_cases c3:(find6 p a L).isSome=true
      · rw [if_pos c3] at h; cases h
      · rw [if_neg c3] at h
        by_cases c4:L.length≥mx
        · rw [if_pos c4] at h; cases h
        · refine ⟨by omega,by simpa using c2,?_,by omega⟩
          simpa using c3
theorem tkB_some (hi:InvB l low high mx last n L) {p:Int} {a:V6 × Int} (hk:0≤kindB p) {u:Q × Int} (h:tkB l low high L p a=some u) :
    u.1∈l∧low≤u.2∧u.2≤high∧isPort u.2=true∧okT u∧find4 p u L=none∧getL u (heldB L (kindB p))=none:=by
  obtain ⟨h1,h2,h3,h4,_⟩:=takeQ_some h
  have hp:=hi.ports
  have ok:=hi.okl u.1 h1
  have h5:=h4
  rw [held_get hi hk,Option.map_eq_none_iff] at h5
  refine ⟨h1,h2,h3,?_,⟨ok,by unfold okZ; omega⟩,h5,h4⟩
  unfold isPort
  exact decide_eq_true (by omega)
theorem bd_new (p:Int) (a:V6 × Int) (u:Q × Int):splice (splice [(.int .i64 0),(.int .i64 p),(.int .u8 0),(.int .u8 0),(.int .u8 0),(.int .u8 0),(.int .u8 0),(.int .u8 0),(.int .u8 0),(.int .u8 0),(.int .u8 0),(.int .u8 0),(.int .u8 0),(.int .u8 0),(.int .u8 0),(.int .u8 0),(.int .u8 0),(.int .u8 0),(.int .i64 0),(.int .u8 0),(.int .u8 0),(.int .u8 0),(.int .u8 0),(.int .i64 0),(.bool false),(.int .i64 0)] 2 (t6 a)) 19 (t4 u)=bdc ⟨0,p,a,u,false,0⟩:=by kernel_rfl
theorem bd_newS (p:Int) (a:V6 × Int) (u:Q × Int):List.set (splice (splice [(.int .i64 0),(.int .i64 p),(.int .u8 0),(.int .u8 0),(.int .u8 0),(.int .u8 0),(.int .u8 0),(.int .u8 0),(.int .u8 0),(.int .u8 0),(.int .u8 0),(.int .u8 0),(.int .u8 0),(.int .u8 0),(.int .u8 0),(.int .u8 0),(.int .u8 0),(.int .u8 0),(.int .i64 0),(.int .u8 0),(.int .u8 0),(.int .u8 0),(.int .u8 0),(.int .i64 0),(.bool false),(.int .i64 0)] 2 (t6 a)) 19 (t4 u)) 24 (.bool true)=bdc ⟨0,p,a,u,true,0⟩:=by kernel_rfl
set_option maxHeartbeats 1000000 in
theorem P18 (h:BdW tb hq t l low high mx last n L) {p:Int} {a:V6 × Int} (hp:okZ p) (ha:okT6 a) (hn:n<1000000)
    (hno:roomB l low high mx L p a≠0→K (.tuple ⟨[.agg ⟨bdc bd0⟩,.int .i64 (roomB l low high mx L p a)]⟩) hq)
    (hyes:roomB l low high mx L p a=0→∀ u,tkB l low high L p a=some u→∀ hq',BdW tb hq' t l low high mx (last+1) (n+1) (L++[⟨((last+1:Nat):Int),p,a,u,false,0⟩])→K (.tuple ⟨[.agg ⟨bdc ⟨((last+1:Nat):Int),p,a,u,false,0⟩⟩,.int .i64 0]⟩) hq') :
    CF Tryd.prog 18 [ptr t 0,.int .i64 p,.agg ⟨t6 a⟩] hq K:=by
  have hinv:=h.inv
  obtain ⟨E,ps,m,x,o,pl,pm,rfl,h⟩:=h
  refine F18_ok _ p (t6 a) hq K ?_
  unfold F18
  rw [t6_cells,ldL_some]
  refine P68 h hp ha ?_
  rw [intV_int]
  by_cases c1:mayB p a (E.map (·.1)) mx=0
  rotate_left
  · rw [show (mayB p a (E.map (·.1)) mx != 0)=true by simp [c1],ite2_true]
    have er:roomB l low high mx (E.map (·.1)) p a=mayB p a (E.map (·.1)) mx:=by unfold roomB; rw [if_pos c1]
    rw [er] at hno
    exact ifI rfl (ifI rfl (ifI (Nat.le_refl 26) (hno c1)))
  rw [show (mayB p a (E.map (·.1)) mx != 0)=false by simp [c1],ite2_false,ldL_some]
  obtain ⟨hk,hport,f6,hlt⟩:=mayB_0 c1
  obtain ⟨k3,kn⟩:=kind_nat hk
  refine P69 h hk hport (fun e=>?_) (fun u e hq' ps' h'=>?_)
  · rw [kn] at e
    simp only [tup2V_mk,aggV_agg,intV_int]
    rw [if_pos (t4_len _),if_pos (t4_one _),if_pos (by simp [t4_len]),show ((13:Int) != 0)=true from rfl,ite2_true]
    have er:roomB l low high mx (E.map (·.1)) p a=13:=by unfold roomB tkB; rw [if_neg (by simp [c1]),e]; rfl
    rw [er] at hno
    exact ifI rfl (ifI rfl (ifI (Nat.le_refl 26) (hno (by decide))))
  · rw [kn] at e
    simp only [tup2V_mk,aggV_agg,intV_int]
    rw [if_pos (t4_len _),if_pos (t4_one _),if_pos (by simp [t4_len]),show ((0:Int) != 0)=false from rfl,ite2_false,t4_spl rfl,t4_all,ldL_some,ldL_some,if_pos (t6_len _),if_pos (t4_len _),bd_new]
    obtain ⟨u1,u2,u3,u4,u5,u6,u7⟩:=tkB_some hinv hk e
    have er:roomB l low high mx (E.map (·.1)) p a=0:=by unfold roomB tkB; rw [if_neg (by simp [c1]),e]; rfl
    refine P70 h' (y:=⟨0,p,a,u,false,0⟩) hk ha u5 rfl ⟨u1,u4,hport⟩ f6 u6 (by simpa using hlt) hn fun hq2 ps2 b h2=>?_
    rw [aggV_agg,if_pos (bdc_len _),if_pos (bdc_one _),if_pos (by simp [bdc_len]),bd_spl rfl,bdc_cells,ldL_some]
    refine hyes er u e hq2 ?_
    have:=BdW.of h2 fun k hk'=>by
      rw [List.map_append]
      show _=heldB (E.map (·.1)++[⟨((last+1:Nat):Int),p,a,u,false,0⟩]) k
      rw [held_put]
      by_cases hkk:k=(kindB p).toNat
      · rw [if_pos hkk,if_pos (by rw [hkk]; exact kn.symm),hkk,kn]
        exact putL_none u7
      · rw [if_neg hkk,if_neg (fun e=>hkk (by show k=(kindB p).toNat; simp only at e; omega))]
    rw [List.map_append] at this
    exact this
end
end Go.Proofs
set_option linter.unusedVariables false
set_option maxRecDepth 20000
set_option maxHeartbeats 2000000
namespace Go.Proofs
open Go Go.HL
section
variable {e:Env} {x0:OA} {x1:Int} {x5:OA} {x6:Bool} {hp:HP} {K:Env→PV→HP→Prop}
abbrev R21 (p n:Nat):=RW Tryd.prog 27 [] (opsAt Tryd.f21 (pth p)) (List.range n)
theorem F21_r0:R21 2 1 e V0 hp K=
 K (upd e 4 (sI 0)) V0 hp:= by kernel_rfl
theorem F21_r1:R21 9 2 (upd e 0 (sP x0)) V0 hp K=
 CF Tryd.prog 71 [(.pointer x0)] hp fun u1 h2=>(boolV u1 fun q3=>K (w3 e 0 (sP x0) 7 (sP x0) 8 (sB q3)) V0 h2):= by kernel_rfl
theorem F21_r2:R21 37 1 e V0 hp K=
 K (upd e 4 (sI 2)) V0 hp:= by kernel_rfl
theorem F21_r3:R21 11 11 (w2 e 1 (sI x1) 0 (sP x0)) V0 hp K=
 ptrN x0 fun b1 o2=>(ldV (HP.cell hp b1 (o2+6)) fun v3=>mapV v3 fun m4=>rdS Tryd.prog (Instr.lookup 123 (.map m4) (.int .i64 x1) true) hp fun u5=>tup2V u5 fun u6 u7=>ptrV u6 fun p8=>boolV u7 fun q9=>K (w5 (w8 e 1 (sI x1) 0 (sP x0) 10 (sP x0) 11 (sQ b1 o2) 12 (sQ b1 (o2+6)) 13 (sV (.map m4)) 14 (sI x1) 15 (sV (.tuple ⟨[(.pointer p8),(.bool q9)]⟩))) 9 (sV (.tuple ⟨[(.pointer p8),(.bool q9)]⟩)) 16 (sP p8) 17 (sB q9) 5 (sP p8) 6 (sB q9)) V0 hp):= by kernel_rfl
theorem F21_r4:R21 39 2 (upd e 6 (sB x6)) V0 hp K=
 K (w3 e 6 (sB x6) 18 (sB x6) 19 (sB ((!x6)))) V0 hp:= by kernel_rfl
theorem F21_r5:R21 151 1 e V0 hp K=
 K (upd e 4 (sI 4)) V0 hp:= by kernel_rfl
theorem F21_r6:R21 47 8 (upd e 5 (sP x5)) V0 hp K=
 ptrN x5 fun b1 o2=>(ldV (HP.cell hp b1 (o2+25)) fun v3=>intV v3 .i64 fun i4=>ptrN x5 fun b5 o6=>HP.st hp b5 (o6+25) (.int .i64 (wr (i4+1))) fun h7=>K (w8 e 5 (sP x5) 20 (sP x5) 21 (sQ b1 o2) 22 (sQ b1 (o2+25)) 23 (sI i4) 24 (sI ((wr (i4+1)))) 25 (sQ b5 o6) 26 (sQ b5 (o6+25))) V0 h7):= by kernel_rfl
theorem F21_r7:R21 95 1 e V0 hp K=
 K (upd e 4 (sI 0)) V0 hp:= by kernel_rfl
def F21 (x0:OA) (x1:Int) (hp:HP) (K:Kh):Prop:=
  (CF Tryd.prog 71 [(.pointer x0)] hp fun u1 h2=>boolV u1 fun q3=>ite2 q3 (K (.int .i64 2) h2) (ptrN x0 fun b4 o5=>ldV (HP.cell h2 b4 (o5+6)) fun v6=>mapV v6 fun m7=>rdS Tryd.prog (Instr.lookup 123 (.map m7) (.int .i64 x1) true) h2 fun u8=>tup2V u8 fun u9 u10=>ptrV u9 fun p11=>boolV u10 fun q12=>ite2 (!q12) (K (.int .i64 4) h2) (ptrN p11 fun b13 o14=>ldV (HP.cell h2 b13 (o14+25)) fun v15=>intV v15 .i64 fun i16=>ptrN p11 fun b17 o18=>HP.st h2 b17 (o18+25) (.int .i64 (IntKind.wrap .i64 (i16+1))) fun h19=>K (.int .i64 0) h19)))
noncomputable abbrev o21 (k n:Nat):Code:=.region k (opsAt Tryd.f21 (pth n)) false
noncomputable def F21_code:Code:=(.seq (o21 0 2) (.seq (.seq (o21 1 9) (.cond (.tmp 8) (.seq (o21 2 37) .ret) .skip)) (.seq (o21 3 11) (.seq (.seq (o21 4 39) (.cond (.tmp 19) (.seq (o21 5 151) .ret) .skip)) (.seq (o21 6 47) (.seq (o21 7 95) .ret))))))
theorem F21_body:Tryd.f21.body=some F21_code:=by kernel_rfl
theorem F21_ok (x0:OA) (x1:Int) (hp:HP) (K:Kh) (h:F21 x0 x1 hp K):CF Tryd.prog 21 [(.pointer x0),(.int .i64 x1)] hp K:=by
 refine .inl ⟨by kernel_rfl,AC.intro (N:=27) Tryd.func21 F21_body rfl (Nat.le_of_ble_eq_true rfl) ?_⟩
 unfold F21 at h
 refine Ar F21_r0 ?_ (r2 0 1 Rn) (z2 Sn) Sn
 refine Aq (Ar F21_r1 ?_ (r2 0 1 Rn) (z2 Sn) Sn)
 refine mC h fun u1 h2 h=>mB h fun q3 h=>?_
 refine Ac h rfl (fun h=>?_) (fun h=>?_)
 ·refine Ar F21_r2 ?_ Rn Sn Sn
  refine AWP.ret ?_
  exact h
 ·refine AWP.skip (Ar F21_r3 ?_ (r2 0 1 Rn) (z2 Sn) Sn)
  refine mN h fun b4 o5 h=>mV h fun v6 h=>mM h fun m7 h=>mR h fun u8 h=>mT h fun u9 u10 h=>mP h fun p11 h=>mB h fun q12 h=>?_
  refine Aq (Ar F21_r4 ?_ (r2 6 5 Rn) (z2 Sn) Sn)
  refine Ac h rfl (fun h=>?_) (fun h=>?_)
  ·refine Ar F21_r5 ?_ Rn Sn Sn
   refine AWP.ret ?_
   exact h
  ·refine AWP.skip (Ar F21_r6 ?_ (r1 5 Rn) (z1 Sn) Sn)
   refine mN h fun b13 o14 h=>mV h fun v15 h=>mI h fun i16 h=>mN h fun b17 o18 h=>mw h fun h19 h=>?_
   refine Ar F21_r7 ?_ Rn Sn Sn
   refine AWP.ret ?_
   exact h
end
section
variable {e:Env} {x0:OA} {x1:Int} {x6:OA} {x7:Bool} {hp:HP} {K:Env→PV→HP→Prop}
abbrev R22 (p n:Nat):=RW Tryd.prog 66 [] (opsAt Tryd.f22 (pth p)) (List.range n)
theorem F22_r0:R22 2 2 e V0 hp K=
 K (w2 e 4 (sB false) 5 (sI 0)) V0 hp:= by kernel_rfl
theorem F22_r1:R22 9 2 (upd e 0 (sP x0)) V0 hp K=
 CF Tryd.prog 71 [(.pointer x0)] hp fun u1 h2=>(boolV u1 fun q3=>K (w3 e 0 (sP x0) 8 (sP x0) 9 (sB q3)) V0 h2):= by kernel_rfl
theorem F22_r2:R22 37 2 e V0 hp K=
 K (w2 e 4 (sB false) 5 (sI 2)) V0 hp:= by kernel_rfl
theorem F22_r3:R22 11 11 (w2 e 1 (sI x1) 0 (sP x0)) V0 hp K=
 ptrN x0 fun b1 o2=>(ldV (HP.cell hp b1 (o2+6)) fun v3=>mapV v3 fun m4=>rdS Tryd.prog (Instr.lookup 123 (.map m4) (.int .i64 x1) true) hp fun u5=>tup2V u5 fun u6 u7=>ptrV u6 fun p8=>boolV u7 fun q9=>K (w5 (w8 e 1 (sI x1) 0 (sP x0) 11 (sP x0) 12 (sQ b1 o2) 13 (sQ b1 (o2+6)) 14 (sV (.map m4)) 15 (sI x1) 16 (sV (.tuple ⟨[(.pointer p8),(.bool q9)]⟩))) 10 (sV (.tuple ⟨[(.pointer p8),(.bool q9)]⟩)) 17 (sP p8) 18 (sB q9) 6 (sP p8) 7 (sB q9)) V0 hp):= by kernel_rfl
theorem F22_r4:R22 71 3 (upd e 7 (sB x7)) V0 hp K=
 K (w4 e 7 (sB x7) 20 (sB x7) 21 (sB ((!x7))) 19 (sB ((!x7)))) V0 hp:= by kernel_rfl
theorem F22_r5:R22 295 2 e V0 hp K=
 K (w2 e 4 (sB false) 5 (sI 4)) V0 hp:= by kernel_rfl
theorem F22_r6:R22 359 6 (upd e 6 (sP x6)) V0 hp K=
 ptrN x6 fun b1 o2=>(ldV (HP.cell hp b1 (o2+25)) fun v3=>intV v3 .i64 fun i4=>K (w7 e 6 (sP x6) 23 (sP x6) 24 (sQ b1 o2) 25 (sQ b1 (o2+25)) 26 (sI i4) 27 (sB ((i4==0))) 22 (sB ((i4==0)))) V0 hp):= by kernel_rfl
theorem F22_r7:R22 1255 2 e V0 hp K=
 K (w2 e 4 (sB false) 5 (sI 11)) V0 hp:= by kernel_rfl
theorem F22_r8:R22 47 8 (upd e 6 (sP x6)) V0 hp K=
 ptrN x6 fun b1 o2=>(ldV (HP.cell hp b1 (o2+25)) fun v3=>intV v3 .i64 fun i4=>ptrN x6 fun b5 o6=>HP.st hp b5 (o6+25) (.int .i64 (wr (i4-1))) fun h7=>K (w8 e 6 (sP x6) 28 (sP x6) 29 (sQ b1 o2) 30 (sQ b1 (o2+25)) 31 (sI i4) 32 (sI ((wr (i4-1)))) 33 (sQ b5 o6) 34 (sQ b5 (o6+25))) V0 h7):= by kernel_rfl
theorem F22_r9:R22 607 2 e V0 hp K=
 K (w2 e 4 (sB false) 5 (sI 0)) V0 hp:= by kernel_rfl
theorem F22_r10:R22 191 5 (w2 e 6 (sP x6) 0 (sP x0)) V0 hp K=
 ptrN x6 fun b1 o2=>(ldL (HP.cellN hp b1 o2 26) fun l3=>CF Tryd.prog 72 [(.pointer x0),(.agg ⟨l3⟩)] hp fun u4 h5=>K (w7 e 6 (sP x6) 0 (sP x0) 46 (sP x0) 47 (sP x6) 48 (sQ b1 o2) 49 (sA l3) 50 (sV u4)) V0 h5):= by kernel_rfl
theorem F22_r11 {e:Env} {x0:OA} {x6:OA} {hp:HP} {K:Env→PV→HP→Prop}:RW Tryd.prog 66 [] (opsAt Tryd.f22 (pth 383)) [0,1,2,3,4,5,6,7,8,9,10,11,12,13,14,15,16] (w2 e 6 (sP x6) 0 (sP x0)) V0 hp K=
    (ptrN x6 fun b1 o2=>ldV (HP.cell hp b1 (o2+1)) fun v3=>intV v3 .i64 fun i4=>CF Tryd.prog 73 [(.int .i64 i4)] hp fun u5 h6=>intV u5 .i64 fun i7=>ptrN x0 fun b8 o9=>(0≤i7)∧(i7<(3:Nat))∧(ldV (HP.cell h6 b8 ((o9+9)+Int.toNat i7*1)) fun v10=>ptrV v10 fun p11=>ptrN x6 fun b12 o13=>ldL (HP.cellN h6 b12 (o13+19) 5) fun l14=>CF Tryd.prog 74 [(.pointer p11),(.agg ⟨l14⟩)] h6 fun u15 h16=>intV u15 .i64 fun i17=>K (w3 (w8 (w8 e 6 (sP x6) 0 (sP x0) 51 (sP x0) 52 (sP x6) 53 (sQ b1 o2) 54 (sQ b1 (o2+1)) 55 (sI i4) 56 (sI i7)) 57 (sQ b8 o9) 58 (sQ b8 (o9+9)) 59 (sQ b8 ((o9+9)+Int.toNat i7*1)) 60 (sP p11) 61 (sP x6) 62 (sQ b12 o13) 63 (sQ b12 (o13+19)) 64 (sA l14)) 65 (sI i17) 4 (sB true) 5 (sI i17)) V0 h16)):=by kernel_rfl
theorem F22_r12 {e:Env} {x0:OA} {x6:OA} {hp:HP} {K:Env→PV→HP→Prop}:RW Tryd.prog 66 [] (opsAt Tryd.f22 (pth 383)) [0,1,2,3,4,6,7,10,11,12,13,5,8,9,14,15,16] (w2 e 6 (sP x6) 0 (sP x0)) V0 hp K=
    (ptrN x6 fun b1 o2=>ldV (HP.cell hp b1 (o2+1)) fun v3=>intV v3 .i64 fun i4=>ptrN x0 fun b5 o6=>ptrN x6 fun b7 o8=>ldL (HP.cellN hp b7 (o8+19) 5) fun l9=>CF Tryd.prog 73 [(.int .i64 i4)] hp fun u10 h11=>intV u10 .i64 fun i12=>(0≤i12)∧(i12<(3:Nat))∧(ldV (HP.cell h11 b5 ((o6+9)+Int.toNat i12*1)) fun v13=>ptrV v13 fun p14=>CF Tryd.prog 74 [(.pointer p14),(.agg ⟨l9⟩)] h11 fun u15 h16=>intV u15 .i64 fun i17=>K (w3 (w8 (w8 e 6 (sP x6) 0 (sP x0) 51 (sP x0) 52 (sP x6) 53 (sQ b1 o2) 54 (sQ b1 (o2+1)) 55 (sI i4) 57 (sQ b5 o6)) 58 (sQ b5 (o6+9)) 61 (sP x6) 62 (sQ b7 o8) 63 (sQ b7 (o8+19)) 64 (sA l9) 56 (sI i12) 59 (sQ b5 ((o6+9)+Int.toNat i12*1)) 60 (sP p14)) 65 (sI i17) 4 (sB true) 5 (sI i17)) V0 h16)):=by kernel_rfl
def F22_j1 (x0 x6:OA) (x45:Bool) (hp:HP) (K:Kh):Prop:=
  (ite2 x45 (K (.tuple ⟨[.bool false,.int .i64 0]⟩) hp) (ptrN x6 fun b24 o25=>ldL (HP.cellN hp b24 o25 26) fun l26=>CF Tryd.prog 72 [(.pointer x0),(.agg ⟨l26⟩)] hp fun u27 h28=>(ptrN x6 fun b29 o30=>ldV (HP.cell h28 b29 (o30+1)) fun v31=>intV v31 .i64 fun i32=>CF Tryd.prog 73 [(.int .i64 i32)] h28 fun u33 h34=>intV u33 .i64 fun i35=>ptrN x0 fun b36 o37=>(0≤i35)∧(i35<(3:Nat))∧(ldV (HP.cell h34 b36 ((o37+9)+Int.toNat i35*1)) fun v38=>ptrV v38 fun p39=>ptrN x6 fun b40 o41=>ldL (HP.cellN h34 b40 (o41+19) 5) fun l42=>CF Tryd.prog 74 [(.pointer p39),(.agg ⟨l42⟩)] h34 fun u43 h44=>intV u43 .i64 fun i45=>K (.tuple ⟨[(.bool true),(.int .i64 i45)]⟩) h44))∧(ptrN x6 fun b46 o47=>ldV (HP.cell h28 b46 (o47+1)) fun v48=>intV v48 .i64 fun i49=>ptrN x0 fun b50 o51=>ptrN x6 fun b52 o53=>ldL (HP.cellN h28 b52 (o53+19) 5) fun l54=>CF Tryd.prog 73 [(.int .i64 i49)] h28 fun u55 h56=>intV u55 .i64 fun i57=>(0≤i57)∧(i57<(3:Nat))∧(ldV (HP.cell h56 b50 ((o51+9)+Int.toNat i57*1)) fun v58=>ptrV v58 fun p59=>CF Tryd.prog 74 [(.pointer p59),(.agg ⟨l54⟩)] h56 fun u60 h61=>intV u60 .i64 fun i62=>K (.tuple ⟨[(.bool true),(.int .i64 i62)]⟩) h61))))
theorem F22_r13:R22 159 11 (upd e 6 (sP x6)) V0 hp K=
 ptrN x6 fun b1 o2=>(ldV (HP.cell hp b1 (o2+24)) fun v3=>boolV v3 fun q4=>ite2 q4 (K (w4 (w8 e 6 (sP x6) 35 (sP x6) 36 (sQ b1 o2) 37 (sQ b1 (o2+24)) 38 (sB q4) 39 (sB true) 40 sU 41 sU) 42 sU 43 sU 44 sU 45 (sB true)) V0 hp) (ptrN x6 fun b5 o6=>ldV (HP.cell hp b5 (o6+25)) fun v7=>intV v7 .i64 fun i8=>K (w4 (w8 e 6 (sP x6) 35 (sP x6) 36 (sQ b1 o2) 37 (sQ b1 (o2+24)) 38 (sB q4) 39 (sB false) 40 (sP x6) 41 (sQ b5 o6)) 42 (sQ b5 (o6+25)) 43 (sI i8) 44 (sB (decide (i8 > 0))) 45 (sB (decide (i8 > 0)))) V0 hp)):= by kernel_rfl
def F22 (x0:OA) (x1:Int) (hp:HP) (K:Kh):Prop:=
  (CF Tryd.prog 71 [(.pointer x0)] hp fun u1 h2=>boolV u1 fun q3=>ite2 q3 (K (.tuple ⟨[.bool false,(.int .i64 2)]⟩) h2) (ptrN x0 fun b4 o5=>ldV (HP.cell h2 b4 (o5+6)) fun v6=>mapV v6 fun m7=>rdS Tryd.prog (Instr.lookup 123 (.map m7) (.int .i64 x1) true) h2 fun u8=>tup2V u8 fun u9 u10=>ptrV u9 fun p11=>boolV u10 fun q12=>ite2 (!q12) (K (.tuple ⟨[.bool false,(.int .i64 4)]⟩) h2) (ptrN p11 fun b13 o14=>ldV (HP.cell h2 b13 (o14+25)) fun v15=>intV v15 .i64 fun i16=>ite2 (i16==0) (K (.tuple ⟨[.bool false,(.int .i64 11)]⟩) h2) (ptrN p11 fun b17 o18=>ldV (HP.cell h2 b17 (o18+25)) fun v19=>intV v19 .i64 fun i20=>ptrN p11 fun b21 o22=>HP.st h2 b21 (o22+25) (.int .i64 (IntKind.wrap .i64 (i20-1))) fun h23=>ptrN p11 fun b63 o64=>ldV (HP.cell h23 b63 (o64+24)) fun v65=>boolV v65 fun q66=>ite2 q66 (F22_j1 x0 p11 true h23  K) (ptrN p11 fun b67 o68=>ldV (HP.cell h23 b67 (o68+25)) fun v69=>intV v69 .i64 fun i70=>F22_j1 x0 p11 (decide (i70 > 0)) h23  K)))))
noncomputable abbrev o22 (k n:Nat):Code:=.region k (opsAt Tryd.f22 (pth n)) false
noncomputable def F22_code:Code:=(.seq (o22 0 2) (.seq (.seq (o22 1 9) (.cond (.tmp 9) (.seq (o22 2 37) .ret) .skip)) (.seq (o22 3 11) (.seq (.block 0 (.seq (o22 4 71) (.cond (.tmp 19) (.seq (o22 5 295) .ret) (.seq (o22 6 359) (.cond (.tmp 22) (.seq (o22 7 1255) .ret) .skip))))) (.seq (o22 8 47) (.seq (.seq (o22 9 159) (.cond (.tmp 45) (.seq (o22 10 607) .ret) .skip)) (.seq (o22 11 191) (.seq (.region 12 (opsAt Tryd.f22 (pth 383)) true) .ret))))))))
theorem F22_body:Tryd.f22.body=some F22_code:=by kernel_rfl
theorem F22_ok (x0:OA) (x1:Int) (hp:HP) (K:Kh) (h:F22 x0 x1 hp K):CF Tryd.prog 22 [(.pointer x0),(.int .i64 x1)] hp K:=by
 refine .inl ⟨by kernel_rfl,AC.intro (N:=66) Tryd.func22 F22_body rfl (Nat.le_of_ble_eq_true rfl) ?_⟩
 unfold F22 at h
 refine Ar F22_r0 ?_ (r2 0 1 Rn) (z2 Sn) Sn
 refine Aq (Ar F22_r1 ?_ (r2 0 1 Rn) (z2 Sn) Sn)
 refine mC h fun u1 h2 h=>mB h fun q3 h=>?_
 refine Ac h rfl (fun h=>?_) (fun h=>?_)
 ·refine Ar F22_r2 ?_ Rn Sn Sn
  refine AWP.ret ?_
  exact h
 ·refine AWP.skip (Ar F22_r3 ?_ (r2 0 1 Rn) (z2 Sn) Sn)
  refine mN h fun b4 o5 h=>mV h fun v6 h=>mM h fun m7 h=>mR h fun u8 h=>mT h fun u9 u10 h=>mP h fun p11 h=>mB h fun q12 h=>?_
  refine Aq (AWP.block (Ar F22_r4 ?_ (r3 7 0 6 Rn) (z3 Sn) Sn))
  refine Ac h rfl (fun h=>?_) (fun h=>?_)
  ·refine Ar F22_r5 ?_ Rn Sn Sn
   refine AWP.ret ?_
   exact h
  ·refine Ar F22_r6 ?_ (r2 6 0 Rn) (z2 Sn) Sn
   refine mN h fun b13 o14 h=>mV h fun v15 h=>mI h fun i16 h=>?_
   refine Ac h rfl (fun h=>?_) (fun h=>?_)
   ·refine Ar F22_r7 ?_ Rn Sn Sn
    refine AWP.ret ?_
    exact h
   ·refine AWP.skip (Ar F22_r8 ?_ (r2 6 0 Rn) (z2 Sn) Sn)
    refine mN h fun b17 o18 h=>mV h fun v19 h=>mI h fun i20 h=>mN h fun b21 o22 h=>mw h fun h23 h=>?_
    refine Aq (As (fun env pv hp=>∃ x0 x6 x45,Sub (w3 E0 45 (sB x45) 6 (sP x6) 0 (sP x0)) env∧Sub V0 pv∧F22_j1 x0 x6 x45 hp  K) ?_ ?_)
    ·refine Ag F22_r13 ?_ (r2 6 0 Rn) (z2 Sn) Sn
     refine mN h fun b63 o64 h=>mV h fun v65 h=>mB h fun q66 h=>?_
     refine mt h (fun h=>?_) (fun h=>?_)
     ·exact ⟨_,_,_,(z3 Sn),Sn,h⟩
     ·refine mN h fun b67 o68 h=>mV h fun v69 h=>mI h fun i70 h=>?_
      exact ⟨_,_,_,(z3 Sn),Sn,h⟩
    ·rintro env pv hp ⟨x0,x6,x45,he,hv,h⟩
     refine Ae ?_ (r3 0 6 45 Rn) he hv
     unfold F22_j1 at h
     refine Ac h rfl (fun h=>?_) (fun h=>?_)
     ·refine Ar F22_r9 ?_ Rn Sn Sn
      refine AWP.ret ?_
      exact h
     ·refine AWP.skip (Ar F22_r10 ?_ (r2 0 6 Rn) (z2 Sn) Sn)
      refine mN h fun b24 o25 h=>mL h fun l26 h=>mC h fun u27 h28 h=>?_
      refine Aq (AWP.rgnC (cf:=[(5,13)]) (c:=[([true],true,[0,1,2,3,4,5,6,7,8,9,10,11,12,13,14,15,16]),([false],true,[0,1,2,3,4,6,7,10,11,12,13,5,8,9,14,15,16])]) (by kernel_rfl) (by kernel_rfl) (by kernel_rfl) (by kernel_rfl) (allO_t (Eq.mpr F22_r11 ?_) (allO_t (Eq.mpr F22_r12 ?_) trivial)) (r2 0 6 Rn) (z2 Sn) Sn)
      ·replace h:=h.1
       refine mN h (fun b29 o30 h=>mV h (fun v31 h=>mI h (fun i32 h=>mC h (fun u33 h34 h=>mI h (fun i35 h=>mN h (fun b36 o37 h=>⟨h.1,h.2.1,mV h.2.2 fun v38 h=>mP h fun p39 h=>mN h fun b40 o41 h=>mL h fun l42 h=>mC h fun u43 h44 h=>mI h fun i45 h=>?_⟩))))))
       refine AWP.ret ?_
       exact h
      ·replace h:=h.2
       refine mN h (fun b46 o47 h=>mV h (fun v48 h=>mI h (fun i49 h=>mN h (fun b50 o51 h=>mN h (fun b52 o53 h=>mL h (fun l54 h=>mC h (fun u55 h56 h=>mI h (fun i57 h=>⟨h.1,h.2.1,mV h.2.2 fun v58 h=>mP h fun p59 h=>mC h fun u60 h61 h=>mI h fun i62 h=>?_⟩))))))))
       refine AWP.ret ?_
       exact h
end
end Go.Proofs
set_option linter.unusedVariables false
set_option maxRecDepth 20000
set_option maxHeartbeats 4000000
namespace Go.Proofs
open Go Go.HL
section
variable {e:Env} {x0 x3a:OA} {x3n x3c:Nat} {x5:OA} {x12:Value} {hp:HP} {K:Env→PV→HP→Prop}
abbrev R61 (p n:Nat):=RW Tryd.prog 26 [] (opsAt Tryd.f61 (pth p)) (List.range n)
theorem F61_r0:R61 2 1 e V0 hp K=
 K (upd e 2 (sS none 0 0)) V0 hp:= by kernel_rfl
theorem F61_r1:R61 9 2 (upd e 0 (sP x0)) V0 hp K=
 CF Tryd.prog 71 [(.pointer x0)] hp fun u1 h2=>(boolV u1 fun q3=>K (w3 e 0 (sP x0) 6 (sP x0) 7 (sB q3)) V0 h2):= by kernel_rfl
theorem F61_r2:R61 37 1 e V0 hp K=
 K (upd e 2 (sS none 0 0)) V0 hp:= by kernel_rfl
theorem F61_r3:R61 11 1 e V0 hp K=
 K (upd e 3 (sS none 0 0)) V0 hp:= by kernel_rfl
theorem F61_r4:R61 47 2 (upd e 3 (sS x3a x3n x3c)) V0 hp K=
 CF Tryd.prog 103 [(.slice x3a x3n x3c),(.func (.func 104) ⟨[]⟩ ⟨[]⟩)] hp fun u1 h2=>(K (w3 e 3 (sS x3a x3n x3c) 23 (sS x3a x3n x3c) 24 (sV u1)) V0 h2):= by kernel_rfl
theorem F61_r5:R61 95 2 (upd e 3 (sS x3a x3n x3c)) V0 hp K=
 K (w3 e 3 (sS x3a x3n x3c) 25 (sS x3a x3n x3c) 2 (sS x3a x3n x3c)) V0 hp:= by kernel_rfl
def F61_j1 (x3a:OA) (x3n x3c:Nat) (hp:HP) (K:Kh):Prop:=
  (CF Tryd.prog 103 [(.slice x3a x3n x3c),(.func (.func 104) ⟨[]⟩ ⟨[]⟩)] hp fun u4 h5=>K (.slice x3a x3n x3c) h5)
theorem F61_r6:R61 279 2 (upd e 12 (sV x12)) V0 hp K=
 opS Tryd.prog (Instr.next x12 false 0) hp fun u1 h2=>(tupI u1 0 fun v3=>boolV v3 fun q4=>K (w3 e 12 (sV x12) 13 (sV u1) 14 (sB q4)) V0 h2):= by kernel_rfl
theorem F61_r7:R61 2455 3 (upd e 12 (sV x12)) V0 hp K=
    (rdS Tryd.prog (Instr.entry x12) hp fun u1=>tupI u1 1 fun v2=>ptrV v2 fun p3=>K (w4 e 12 (sV x12) 15 (sV u1) 16 (sP p3) 5 (sP p3)) V0 hp):=by kernel_rfl
theorem F61_r8:R61 3479 7 (w2 e 5 (sP x5) 3 (sS x3a x3n x3c)) V0 hp K=
 ptrN x5 fun b1 o2=>(ldL (HP.cellN hp b1 o2 26) fun l3=>if List.length l3=26 then (∀ b4:Nat,hp b4=.none→(opS Tryd.prog (Builtin.append_ #[110,110] 110 ⟨[(.slice x3a x3n x3c),(.slice (some ⟨b4,0,none⟩) 1 1)]⟩) (HP.set hp b4 (.cells 36 (splice [.int .i64 0,.int .i64 0,.int .u8 0,.int .u8 0,.int .u8 0,.int .u8 0,.int .u8 0,.int .u8 0,.int .u8 0,.int .u8 0,.int .u8 0,.int .u8 0,.int .u8 0,.int .u8 0,.int .u8 0,.int .u8 0,.int .u8 0,.int .u8 0,.int .i64 0,.int .u8 0,.int .u8 0,.int .u8 0,.int .u8 0,.int .i64 0,.bool false,.int .i64 0] 0 l3) 0)) fun u5 h6=>slcV u5 fun a7 n8 c9=>K (upd (w8 e 5 (sP x5) 3 (sS x3a x3n x3c) 17 (sS x3a x3n x3c) 18 (sP x5) 19 (sQ b1 o2) 20 (sA l3) 21 (sV (.slice (some ⟨b4,0,none⟩) 1 1)) 22 (sS a7 n8 c9)) 3 (sS a7 n8 c9)) V0 h6)) else False):= by kernel_rfl
def F61_l3 (x12:Value) (K:Kh) (I3:(OA × Nat × Nat)→HP→Prop) (x3a:OA) (x3n x3c:Nat) (hp:HP):Prop:=
  (opS Tryd.prog (Instr.next x12 false 0) hp fun u6 h7=>tupI u6 0 fun v8=>boolV v8 fun q9=>ite2 q9 (rdS Tryd.prog (Instr.entry x12) h7 fun u10=>tupI u10 1 fun v11=>ptrV v11 fun p12=>ptrN p12 fun b13 o14=>ldL (HP.cellN h7 b13 o14 26) fun l15=>if List.length l15=26 then (∀ b16:Nat,h7 b16=.none→(opS Tryd.prog (Builtin.append_ #[110,110] 110 ⟨[(.slice x3a x3n x3c),(.slice (some ⟨b16,0,none⟩) 1 1)]⟩) (HP.set h7 b16 (.cells 36 (splice [.int .i64 0,.int .i64 0,.int .u8 0,.int .u8 0,.int .u8 0,.int .u8 0,.int .u8 0,.int .u8 0,.int .u8 0,.int .u8 0,.int .u8 0,.int .u8 0,.int .u8 0,.int .u8 0,.int .u8 0,.int .u8 0,.int .u8 0,.int .u8 0,.int .i64 0,.int .u8 0,.int .u8 0,.int .u8 0,.int .u8 0,.int .i64 0,.bool false,.int .i64 0] 0 l15) 0)) fun u17 h18=>slcV u17 fun a19 n20 c21=>I3 (a19,n20,c21) h18)) else False) (F61_j1 x3a x3n x3c h7  K))
def F61_j2 (x3a:OA) (x3n x3c:Nat) (x12:Value) (hp:HP) (K:Kh):Prop:=
  (LoopP (σ:=OA × Nat × Nat) (fun I s hp=>F61_l3 x12  K I s.1 s.2.1 s.2.2 hp) (x3a,x3n,x3c) hp)
theorem F61_r9:R61 39 5 (upd e 0 (sP x0)) V0 hp K=
 ptrN x0 fun b1 o2=>(ldV (HP.cell hp b1 (o2+6)) fun v3=>mapV v3 fun m4=>opS Tryd.prog (Instr.range 123 (.map m4)) hp fun u5 h6=>K (w6 e 0 (sP x0) 8 (sP x0) 9 (sQ b1 o2) 10 (sQ b1 (o2+6)) 11 (sV (.map m4)) 12 (sV u5)) V0 h6):= by kernel_rfl
def F61 (x0:OA) (hp:HP) (K:Kh):Prop:=
  (CF Tryd.prog 71 [(.pointer x0)] hp fun u1 h2=>boolV u1 fun q3=>ite2 q3 (K (.slice none 0 0) h2) (ptrN x0 fun b22 o23=>ldV (HP.cell h2 b22 (o23+6)) fun v24=>mapV v24 fun m25=>opS Tryd.prog (Instr.range 123 (.map m25)) h2 fun u26 h27=>F61_j2 none 0 0 u26 h27  K))
noncomputable abbrev o61 (k n:Nat):Code:=.region k (opsAt Tryd.f61 (pth n)) false
noncomputable def F61_code:Code:=(.seq (o61 0 2) (.seq (.seq (o61 1 9) (.cond (.tmp 7) (.seq (o61 2 37) .ret) .skip)) (.seq (o61 3 11) (.seq (.seq (o61 4 39) (.block 0 (.loop (.seq (o61 5 279) (.seq (.cond (.tmp 14) .skip (.exit 0)) (.block 1 (.seq (o61 6 2455) (o61 7 3479)))))))) (.seq (o61 8 47) (.seq (o61 9 95) .ret))))))
theorem F61_body:Tryd.f61.body=some F61_code:=by kernel_rfl
theorem F61_ok (x0:OA) (hp:HP) (K:Kh) (h:F61 x0 hp K):CF Tryd.prog 61 [(.pointer x0)] hp K:=by
 refine .inl ⟨by kernel_rfl,AC.intro (N:=26) Tryd.func61 F61_body rfl (Nat.le_of_ble_eq_true rfl) ?_⟩
 unfold F61 at h
 refine Ar F61_r0 ?_ (r1 0 Rn) (z1 Sn) Sn
 refine Aq (Ar F61_r1 ?_ (r1 0 Rn) (z1 Sn) Sn)
 refine mC h fun u1 h2 h=>mB h fun q3 h=>?_
 refine Ac h rfl (fun h=>?_) (fun h=>?_)
 ·refine Ar F61_r2 ?_ Rn Sn Sn
  refine AWP.ret ?_
  exact h
 ·refine AWP.skip (Ar F61_r3 ?_ (r1 0 Rn) (z1 Sn) Sn)
  refine As (fun env pv hp=>∃ x3a x3n x3c,Sub (upd E0 3 (sS x3a x3n x3c)) env∧Sub V0 pv∧F61_j1 x3a x3n x3c hp  K) ?_ ?_
  ·refine As (fun env pv hp=>∃ x3a x3n x3c x12,Sub (w2 E0 12 (sV x12) 3 (sS x3a x3n x3c)) env∧Sub V0 pv∧F61_j2 x3a x3n x3c x12 hp  K) ?_ ?_
   ·refine Ag F61_r9 ?_ (r2 0 3 Rn) (z2 Sn) Sn
    refine mN h fun b22 o23 h=>mV h fun v24 h=>mM h fun m25 h=>mO h fun u26 h27 h=>?_
    exact ⟨_,_,_,_,(z2 Sn),Sn,h⟩
   ·rintro env pv hp ⟨x3a,x3n,x3c,x12,he,hv,h⟩
    refine Ae ?_ (r2 3 12 Rn) he hv
    unfold F61_j2 at h
    refine AWP.block (AWP.loop (σ:=OA × Nat × Nat) _ (fun s=>w2 E0 12 (sV x12) 3 (sV (.slice s.1 s.2.1 s.2.2))) (fun s=>V0) (x3a,x3n,x3c) h (fun s=>r2 3 12 Rn) (z2 Sn) Sn ?_)
    intro I3 s hp h
    obtain ⟨x3a,x3n,x3c⟩:=s
    replace h:F61_l3 x12  K I3 x3a x3n x3c hp:=h
    unfold F61_l3 at h
    refine Ar F61_r6 ?_ (r2 12 3 Rn) (z2 Sn) Sn
    refine mO h fun u6 h7 h=>tupI_mono h fun v8 h=>mB h fun q9 h=>?_
    refine Aq (Ac h rfl (fun h=>?_) (fun h=>?_))
    ·refine AWP.skip (AWP.block (Ar F61_r7 ?_ (r2 12 3 Rn) (z2 Sn) Sn))
     refine mR h fun u10 h=>tupI_mono h fun v11 h=>mP h fun p12 h=>?_
     refine Ag F61_r8 ?_ (r3 3 5 12 Rn) (z3 Sn) Sn
     refine mN h fun b13 o14 h=>mL h fun l15 h=>mf h fun h=>?_
     refine fun b16 hb_b_16=>?_
     replace h:=h b16 hb_b_16
     refine mO h fun u17 h18 h=>mS h fun a19 n20 c21 h=>?_
     exact ⟨_,(z2 Sn),Sn,h⟩
    ·refine AWP.exit ?_
     exact ⟨_,_,_,(z1 Sn),Sn,h⟩
  ·rintro env pv hp ⟨x3a,x3n,x3c,he,hv,h⟩
   refine Ae ?_ (r1 3 Rn) he hv
   unfold F61_j1 at h
   refine Ar F61_r4 ?_ (r1 3 Rn) (z1 Sn) Sn
   refine mC h fun u4 h5 h=>?_
   refine Ar F61_r5 ?_ (r1 3 Rn) (z1 Sn) Sn
   refine AWP.ret ?_
   exact h
end
section
variable {e:Env} {x0:OA} {hp:HP} {K:Env→PV→HP→Prop}
abbrev R23 (p n:Nat):=RW Tryd.prog 10 [] (opsAt Tryd.f23 (pth p)) (List.range n)
theorem F23_r0:R23 2 1 e V0 hp K=
 K (upd e 2 (sI 0)) V0 hp:= by kernel_rfl
theorem F23_r1:R23 9 2 (upd e 0 (sP x0)) V0 hp K=
 CF Tryd.prog 71 [(.pointer x0)] hp fun u1 h2=>(boolV u1 fun q3=>K (w3 e 0 (sP x0) 3 (sP x0) 4 (sB q3)) V0 h2):= by kernel_rfl
theorem F23_r2:R23 37 1 e V0 hp K=
 K (upd e 2 (sI 0)) V0 hp:= by kernel_rfl
theorem F23_r3:R23 11 6 (upd e 0 (sP x0)) V0 hp K=
 ptrN x0 fun b1 o2=>(ldV (HP.cell hp b1 (o2+6)) fun v3=>mapV v3 fun m4=>rdS Tryd.prog (Builtin.len_ #[123] 3 #[.map m4]) hp fun u5=>intV u5 .i64 fun i6=>K (w7 e 0 (sP x0) 5 (sP x0) 6 (sQ b1 o2) 7 (sQ b1 (o2+6)) 8 (sV (.map m4)) 9 (sI i6) 2 (sI i6)) V0 hp):= by kernel_rfl
def F23 (x0:OA) (hp:HP) (K:Kh):Prop:=
  (CF Tryd.prog 71 [(.pointer x0)] hp fun u1 h2=>boolV u1 fun q3=>ite2 q3 (K (.int .i64 0) h2) (ptrN x0 fun b4 o5=>ldV (HP.cell h2 b4 (o5+6)) fun v6=>mapV v6 fun m7=>rdS Tryd.prog (Builtin.len_ #[123] 3 #[.map m7]) h2 fun u8=>intV u8 .i64 fun i9=>K (.int .i64 i9) h2))
noncomputable def F23_code:Code:=(.seq (.region 0 (opsAt Tryd.f23 (pth 2)) false) (.seq (.seq (.region 1 (opsAt Tryd.f23 (pth 9)) false) (.cond (.tmp 4) (.seq (.region 2 (opsAt Tryd.f23 (pth 37)) false) .ret) .skip)) (.seq (.region 3 (opsAt Tryd.f23 (pth 11)) false) .ret)))
theorem F23_body:Tryd.f23.body=some F23_code:=by kernel_rfl
theorem F23_ok (x0:OA) (hp:HP) (K:Kh) (h:F23 x0 hp K):CF Tryd.prog 23 [(.pointer x0)] hp K:=by
 refine .inl ⟨by kernel_rfl,AC.intro (N:=10) Tryd.func23 F23_body rfl (Nat.le_of_ble_eq_true rfl) ?_⟩
 unfold F23 at h
 refine Ar F23_r0 ?_ (r1 0 Rn) (z1 Sn) Sn
 refine Aq (Ar F23_r1 ?_ (r1 0 Rn) (z1 Sn) Sn)
 refine mC h fun u1 h2 h=>mB h fun q3 h=>?_
 refine Ac h rfl (fun h=>?_) (fun h=>?_)
 ·refine Ar F23_r2 ?_ Rn Sn Sn
  refine AWP.ret ?_
  exact h
 ·refine AWP.skip (Ar F23_r3 ?_ (r1 0 Rn) (z1 Sn) Sn)
  refine mN h fun b4 o5 h=>mV h fun v6 h=>mM h fun m7 h=>mR h fun u8 h=>mI h fun i9 h=>?_
  refine AWP.ret ?_
  exact h
end
section
variable {e E:Env} {x0:OA} {x1:Int} {hp:HP} {K:Env→PV→HP→Prop}
abbrev R26 (p n:Nat):=RW Tryd.prog 20 [] (opsAt Tryd.f26 (pth p)) (List.range n)
theorem F26_r0:R26 2 1 e V0 hp K=
 K (upd e 4 (sI 0)) V0 hp:= by kernel_rfl
theorem F26_r1:R26 37 1 e V0 hp K=
 K (upd e 4 (sI 0)) V0 hp:= by kernel_rfl
theorem F26_r2:R26 11 9 (w2 e 1 (sI x1) 0 (sP x0)) V0 hp K=
    (CF Tryd.prog 73 [(.int .i64 x1)] hp fun u1 h2=>intV u1 .i64 fun i3=>ptrN x0 fun b4 o5=>(0≤i3)∧(i3<(3:Nat))∧(ldV (HP.cell h2 b4 ((o5+9)+Int.toNat i3*1)) fun v6=>ptrV v6 fun p7=>CF Tryd.prog 80 [(.pointer p7)] h2 fun u8 h9=>intV u8 .i64 fun i10=>K (w3 (w8 e 1 (sI x1) 0 (sP x0) 12 (sP x0) 13 (sI x1) 14 (sI i3) 15 (sQ b4 o5) 16 (sQ b4 (o5+9)) 17 (sQ b4 ((o5+9)+Int.toNat i3*1))) 18 (sP p7) 19 (sI i10) 4 (sI i10)) V0 h9)):=by kernel_rfl
def F26_j1 (x0:OA) (x1:Int) (x11:Bool) (hp:HP) (K:Kh):Prop:=
  (ite2 x11 (K (.int .i64 0) hp) (CF Tryd.prog 73 [(.int .i64 x1)] hp fun u1 h2=>intV u1 .i64 fun i3=>ptrN x0 fun b4 o5=>(0≤i3)∧(i3<(3:Nat))∧(ldV (HP.cell h2 b4 ((o5+9)+Int.toNat i3*1)) fun v6=>ptrV v6 fun p7=>CF Tryd.prog 80 [(.pointer p7)] h2 fun u8 h9=>intV u8 .i64 fun i10=>K (.int .i64 i10) h9)))
theorem F26_r3 (h:E=upd (upd e 1 (sI x1)) 0 (sP x0)):R26 9 7 E V0 hp K=
 CF Tryd.prog 71 [(.pointer x0)] hp fun u1 h2=>(boolV u1 fun q3=>ite2 q3 (K (w7 E 5 (sP x0) 6 (sB q3) 7 (sB true) 8 sU 9 sU 10 sU 11 (sB true)) V0 h2) (CF Tryd.prog 73 [(.int .i64 x1)] h2 fun u4 h5=>intV u4 .i64 fun i6=>K (w7 E 5 (sP x0) 6 (sB q3) 7 (sB false) 8 (sI x1) 9 (sI i6) 10 (sB (decide (i6<0))) 11 (sB (decide (i6<0)))) V0 h5)):= by subst h; kernel_rfl
def F26 (x0:OA) (x1:Int) (hp:HP) (K:Kh):Prop:=
  (CF Tryd.prog 71 [(.pointer x0)] hp fun u11 h12=>boolV u11 fun q13=>ite2 q13 (F26_j1 x0 x1 true h12  K) (CF Tryd.prog 73 [(.int .i64 x1)] h12 fun u14 h15=>intV u14 .i64 fun i16=>F26_j1 x0 x1 (decide (i16<0)) h15  K))
noncomputable def F26_code:Code:=(.seq (.region 0 (opsAt Tryd.f26 (pth 2)) false) (.seq (.seq (.region 1 (opsAt Tryd.f26 (pth 9)) false) (.cond (.tmp 11) (.seq (.region 2 (opsAt Tryd.f26 (pth 37)) false) .ret) .skip)) (.seq (.region 3 (opsAt Tryd.f26 (pth 11)) true) .ret)))
theorem F26_body:Tryd.f26.body=some F26_code:=by kernel_rfl
theorem F26_ok (x0:OA) (x1:Int) (hp:HP) (K:Kh) (h:F26 x0 x1 hp K):CF Tryd.prog 26 [(.pointer x0),(.int .i64 x1)] hp K:=by
 refine .inl ⟨by kernel_rfl,AC.intro (N:=20) Tryd.func26 F26_body rfl (Nat.le_of_ble_eq_true rfl) ?_⟩
 unfold F26 at h
 refine Ar F26_r0 ?_ (r2 0 1 Rn) (z2 Sn) Sn
 refine Aq (As (fun env pv hp=>∃ x0 x1 x11,Sub (w3 E0 11 (sB x11) 1 (sI x1) 0 (sP x0)) env∧Sub V0 pv∧F26_j1 x0 x1 x11 hp  K) ?_ ?_)
 ·refine Ag (F26_r3 rfl) ?_ (r2 0 1 Rn) (z2 Sn) Sn
  refine mC h fun u11 h12 h=>mB h fun q13 h=>?_
  refine mt h (fun h=>?_) (fun h=>?_)
  ·exact ⟨_,_,_,(z3 Sn),Sn,h⟩
  ·refine mC h fun u14 h15 h=>mI h fun i16 h=>?_
   exact ⟨_,_,_,(z3 Sn),Sn,h⟩
 ·rintro env pv hp ⟨x0,x1,x11,he,hv,h⟩
  refine Ae ?_ (r3 0 1 11 Rn) he hv
  unfold F26_j1 at h
  refine Ac h rfl (fun h=>?_) (fun h=>?_)
  ·refine Ar F26_r1 ?_ Rn Sn Sn
   refine AWP.ret ?_
   exact h
  ·refine AWP.skip (Aq (AWP.rgnD (by kernel_rfl) (by kernel_rfl) F26_r2 ?_ (r2 0 1 Rn) (z2 Sn) Sn))
   refine mC h (fun u1 h2 h=>mI h (fun i3 h=>mN h (fun b4 o5 h=>⟨h.1,h.2.1,mV h.2.2 fun v6 h=>mP h fun p7 h=>mC h fun u8 h9 h=>mI h fun i10 h=>?_⟩)))
   refine AWP.ret ?_
   exact h
end
section
variable {e E:Env} {x0a:OA} {x0n x0c:Nat} {x1 x2 x3:Int} {x10:OA} {x11:Int} {x12:OA} {x13:Int} {x14:OA} {x15:Int} {x16:OA} {x17 x40:Int} {hp:HP} {K:Env→PV→HP→Prop}
abbrev R17 (p n:Nat):=RW Tryd.prog 67 [] (opsAt Tryd.f17 (pth p)) (List.range n)
theorem F17_r0:R17 2 2 e V0 hp K=
 K (w2 e 8 (sP none) 9 (sI 0)) V0 hp:= by kernel_rfl
theorem F17_r1:R17 5 7 (upd e 3 (sI x3)) V0 hp K=
 CF Tryd.prog 66 [(.int .i64 x3)] hp fun u1 h2=>(tup2V u1 fun u3 u4=>ptrV u3 fun p5=>intV u4 .i64 fun i6=>K (w8 e 3 (sI x3) 19 (sI x3) 20 (sV (.tuple ⟨[(.pointer p5),(.int .i64 i6)]⟩)) 18 (sV (.tuple ⟨[(.pointer p5),(.int .i64 i6)]⟩)) 21 (sP p5) 22 (sI i6) 10 (sP p5) 11 (sI i6)) V0 h2):= by kernel_rfl
theorem F17_r2:R17 11 7 (upd e 3 (sI x3)) V0 hp K=
 CF Tryd.prog 66 [(.int .i64 x3)] hp fun u1 h2=>(tup2V u1 fun u3 u4=>ptrV u3 fun p5=>intV u4 .i64 fun i6=>K (w8 e 3 (sI x3) 24 (sI x3) 25 (sV (.tuple ⟨[(.pointer p5),(.int .i64 i6)]⟩)) 23 (sV (.tuple ⟨[(.pointer p5),(.int .i64 i6)]⟩)) 26 (sP p5) 27 (sI i6) 12 (sP p5) 13 (sI i6)) V0 h2):= by kernel_rfl
theorem F17_r3:R17 151 2 e V0 hp K=
 K (w2 e 8 (sP none) 9 (sI 1)) V0 hp:= by kernel_rfl
theorem F17_r4 (h:E=upd (w2 e 12 (sP x12) 10 (sP x10)) 3 (sI x3)):R17 47 7 E V0 hp K=
    (∀ b1:Nat,hp b1=.none→(∀ b2:Nat,(HP.set hp b1 (.obj (.map #[] 0))) b2=.none→(K (w7 E 34 (sI x3) 35 (sV (.map (some b1))) 36 (sP x10) 37 (sP x12) 38 (sV (.agg ⟨[(.int .i64 x3),.int .i64 0,.int .u8 0,.int .u8 0,.int .u8 0,.int .u8 0,(.map (some b1)),(.pointer x10),(.pointer x12),(.pointer none),(.pointer none),(.pointer none)]⟩)) 39 (sQ b2 0) 14 (sQ b2 0)) V0 (HP.set (HP.set hp b1 (.obj (.map #[] 0))) b2 (.cells 127 [(.int .i64 x3),.int .i64 0,.int .u8 0,.int .u8 0,.int .u8 0,.int .u8 0,(.map (some b1)),(.pointer x10),(.pointer x12),(.pointer none),(.pointer none),(.pointer none)] 0))))):=by subst h; kernel_rfl
theorem F17_r5:R17 191 7 (w2 e 14 (sP x14) 0 (sS x0a x0n x0c)) V0 hp K=
    ((0≤(0:Int))∧((0:Int)<x0n)∧(ptrN x0a fun b1 o2=>ldL (HP.cellN hp b1 (o2+Int.toNat 0*4) 4) fun l3=>ptrN x14 fun b4 o5=>(List.length l3=4)∧(HP.stN hp b4 (o5+2) l3 fun h6=>K (w8 e 14 (sP x14) 0 (sS x0a x0n x0c) 60 (sP x14) 61 (sS x0a x0n x0c) 62 (sQ b1 (o2+Int.toNat 0*4)) 63 (sA l3) 64 (sQ b4 o5) 65 (sQ b4 (o5+2))) V0 h6))):=by kernel_rfl
theorem F17_r6:R17 383 3 (upd e 14 (sP x14)) V0 hp K=
 K (w4 e 14 (sP x14) 66 (sP x14) 8 (sP x14) 9 (sI 0)) V0 hp:= by kernel_rfl
def F17_j2 (x0a:OA) (x0n x0c:Nat) (x14:OA) (hp:HP) (K:Kh):Prop:=
  ((0≤(0:Int))∧((0:Int)<x0n)∧(ptrN x0a fun b15 o16=>ldL (HP.cellN hp b15 (o16+Int.toNat 0*4) 4) fun l17=>ptrN x14 fun b18 o19=>(List.length l17=4)∧(HP.stN hp b18 (o19+2) l17 fun h20=>K (.tuple ⟨[(.pointer x14),.int .i64 0]⟩) h20)))
theorem F17_r7:R17 1119 1 (upd e 40 (sI x40)) V0 hp K=
 K (w2 e 40 (sI x40) 41 (sB (decide (x40<3)))) V0 hp:= by kernel_rfl
theorem F17_r8:R17 18015 2 (upd e 40 (sI x40)) V0 hp K=
 K (w3 e 40 (sI x40) 42 (sI x40) 15 (sI x40)) V0 hp:= by kernel_rfl
theorem F17_r9 (h:E=upd (w2 e 2 (sI x2) 1 (sI x1)) 0 (sS x0a x0n x0c)):R17 42591 9 E V0 hp K=
 CF Tryd.prog 67 [(.slice x0a x0n x0c),(.int .i64 x1),(.int .i64 x2)] hp fun u1 h2=>(tup2V u1 fun u3 u4=>ptrV u3 fun p5=>intV u4 .i64 fun i6=>K (upd (w8 E 44 (sS x0a x0n x0c) 45 (sI x1) 46 (sI x2) 47 (sV (.tuple ⟨[(.pointer p5),(.int .i64 i6)]⟩)) 43 (sV (.tuple ⟨[(.pointer p5),(.int .i64 i6)]⟩)) 48 (sP p5) 49 (sI i6) 16 (sP p5)) 17 (sI i6)) V0 h2):= by subst h; kernel_rfl
theorem F17_r10:R17 157279 2 (upd e 17 (sI x17)) V0 hp K=
 K (w3 e 17 (sI x17) 50 (sI x17) 51 (sB ((x17 != 0)))) V0 hp:= by kernel_rfl
theorem F17_r11:R17 616031 3 (upd e 17 (sI x17)) V0 hp K=
 K (w4 e 17 (sI x17) 52 (sI x17) 8 (sP none) 9 (sI x17)) V0 hp:= by kernel_rfl
theorem F17_r12 (h:E=upd (w2 e 16 (sP x16) 15 (sI x15)) 14 (sP x14)):R17 124511 7 E V0 hp K=
    (ptrN x14 fun b1 o2=>(0≤x15)∧(x15<(3:Nat))∧(HP.st hp b1 ((o2+9)+Int.toNat x15*1) (.pointer x16) fun h3=>K (w6 E 53 (sP x14) 54 (sI x15) 55 (sP x16) 56 (sQ b1 o2) 57 (sQ b1 (o2+9)) 58 (sQ b1 ((o2+9)+Int.toNat x15*1))) V0 h3)):=by subst h; kernel_rfl
theorem F17_r13:R17 7775 2 (upd e 40 (sI x40)) V0 hp K=
 K (w3 e 40 (sI x40) 59 (sI ((wr (x40+1)))) 40 (sI ((wr (x40+1))))) V0 hp:= by kernel_rfl
def F17_l4 (x0a:OA) (x0n x0c:Nat) (x1 x2:Int) (x14:OA) (K:Kh) (I4:(Int)→HP→Prop) (x40:Int) (hp:HP):Prop:=
  (ite2 (decide (x40<3)) (CF Tryd.prog 67 [(.slice x0a x0n x0c),(.int .i64 x1),(.int .i64 x2)] hp fun u21 h22=>tup2V u21 fun u23 u24=>ptrV u23 fun p25=>intV u24 .i64 fun i26=>ite2 (i26 != 0) (K (.tuple ⟨[(.pointer none),(.int .i64 i26)]⟩) h22) (ptrN x14 fun b27 o28=>(0≤x40)∧(x40<(3:Nat))∧(HP.st h22 b27 ((o28+9)+Int.toNat x40*1) (.pointer p25) fun h29=>I4 (IntKind.wrap .i64 (x40+1)) h29))) (F17_j2 x0a x0n x0c x14 hp  K))
def F17_j3 (x0a:OA) (x0n x0c:Nat) (x1 x2:Int) (x14:OA) (x40:Int) (hp:HP) (K:Kh):Prop:=
  (LoopP (σ:=Int) (fun I s hp=>F17_l4 x0a x0n x0c x1 x2 x14  K I s hp) x40 hp)
theorem F17_r14:R17 159 1 e V0 hp K=
 K (upd e 40 (sI 0)) V0 hp:= by kernel_rfl
def F17_j1 (x0a:OA) (x0n x0c:Nat) (x1 x2 x3:Int) (x10 x12:OA) (x33:Bool) (hp:HP) (K:Kh):Prop:=
  (ite2 x33 (K (.tuple ⟨[(.pointer none),(.int .i64 1)]⟩) hp) (∀ b13:Nat,hp b13=.none→(∀ b14:Nat,(HP.set hp b13 (.obj (.map #[] 0))) b14=.none→(F17_j3 x0a x0n x0c x1 x2 (some ⟨b14,0,none⟩) 0 (HP.set (HP.set hp b13 (.obj (.map #[] 0))) b14 (.cells 127 [(.int .i64 x3),.int .i64 0,.int .u8 0,.int .u8 0,.int .u8 0,.int .u8 0,(.map (some b13)),(.pointer x10),(.pointer x12),(.pointer none),(.pointer none),(.pointer none)] 0))  K))))
theorem F17_r15 (h:E=upd (upd e 13 (sI x13)) 11 (sI x11)):R17 39 6 E V0 hp K=
 ite2 (x11 != 0) (K (w6 E 28 (sI x11) 29 (sB ((x11 != 0))) 30 (sB true) 31 sU 32 sU 33 (sB true)) V0 hp) (K (w6 E 28 (sI x11) 29 (sB ((x11 != 0))) 30 (sB false) 31 (sI x13) 32 (sB ((x13 != 0))) 33 (sB ((x13 != 0)))) V0 hp):= by subst h; kernel_rfl
def F17 (x0a:OA) (x0n x0c:Nat) (x1 x2 x3:Int) (hp:HP) (K:Kh):Prop:=
  (CF Tryd.prog 66 [(.int .i64 x3)] hp fun u1 h2=>tup2V u1 fun u3 u4=>ptrV u3 fun p5=>intV u4 .i64 fun i6=>CF Tryd.prog 66 [(.int .i64 x3)] h2 fun u7 h8=>tup2V u7 fun u9 u10=>ptrV u9 fun p11=>intV u10 .i64 fun i12=>ite2 (i6 != 0) (F17_j1 x0a x0n x0c x1 x2 x3 p5 p11 true h8  K) (F17_j1 x0a x0n x0c x1 x2 x3 p5 p11 (i12 != 0) h8  K))
noncomputable abbrev o17 (k n:Nat):Code:=.region k (opsAt Tryd.f17 (pth n)) false
noncomputable def F17_code:Code:=(.seq (o17 0 2) (.seq (o17 1 5) (.seq (o17 2 11) (.seq (.seq (o17 3 39) (.cond (.tmp 33) (.seq (o17 4 151) .ret) .skip)) (.seq (o17 5 47) (.seq (.seq (o17 6 159) (.block 0 (.loop (.seq (o17 7 1119) (.seq (.cond (.tmp 41) .skip (.exit 0)) (.seq (.block 1 (.seq (o17 8 18015) (.seq (o17 9 42591) (.seq (.seq (o17 10 157279) (.cond (.tmp 51) (.seq (o17 11 616031) .ret) .skip)) (o17 12 124511))))) (o17 13 7775))))))) (.seq (o17 14 191) (.seq (o17 15 383) .ret))))))))
theorem F17_body:Tryd.f17.body=some F17_code:=by kernel_rfl
theorem F17_ok (x0a:OA) (x0n x0c:Nat) (x1 x2 x3:Int) (hp:HP) (K:Kh) (h:F17 x0a x0n x0c x1 x2 x3 hp K):CF Tryd.prog 17 [(.slice x0a x0n x0c),(.int .i64 x1),(.int .i64 x2),(.int .i64 x3)] hp K:=by
 refine .inl ⟨by kernel_rfl,AC.intro (N:=67) Tryd.func17 F17_body rfl (Nat.le_of_ble_eq_true rfl) ?_⟩
 unfold F17 at h
 refine Ar F17_r0 ?_ (r4 0 1 2 3 Rn) (z4 Sn) Sn
 refine Ar F17_r1 ?_ (r4 3 0 1 2 Rn) (z4 Sn) Sn
 refine mC h fun u1 h2 h=>mT h fun u3 u4 h=>mP h fun p5 h=>mI h fun i6 h=>?_
 refine Ar F17_r2 ?_ (r6 3 0 1 2 10 11 Rn) (z6 Sn) Sn
 refine mC h fun u7 h8 h=>mT h fun u9 u10 h=>mP h fun p11 h=>mI h fun i12 h=>?_
 refine Aq (As (fun env pv hp=>∃ x0a x0n x0c x1 x2 x3 x10 x12 x33,Sub (w7 E0 33 (sB x33) 12 (sP x12) 10 (sP x10) 3 (sI x3) 2 (sI x2) 1 (sI x1) 0 (sS x0a x0n x0c)) env∧Sub V0 pv∧F17_j1 x0a x0n x0c x1 x2 x3 x10 x12 x33 hp  K) ?_ ?_)
 ·refine Ag (F17_r15 rfl) ?_ (r8 11 13 0 1 2 3 10 12 Rn) (z8 Sn) Sn
  refine mt h (fun h=>?_) (fun h=>?_)
  ·exact ⟨_,_,_,_,_,_,_,_,_,(z7 Sn),Sn,h⟩
  ·exact ⟨_,_,_,_,_,_,_,_,_,(z7 Sn),Sn,h⟩
 ·rintro env pv hp ⟨x0a,x0n,x0c,x1,x2,x3,x10,x12,x33,he,hv,h⟩
  refine Ae ?_ (r7 0 1 2 3 10 12 33 Rn) he hv
  unfold F17_j1 at h
  refine Ac h rfl (fun h=>?_) (fun h=>?_)
  ·refine Ar F17_r3 ?_ Rn Sn Sn
   refine AWP.ret ?_
   exact h
  ·refine AWP.skip (Ar (F17_r4 rfl) ?_ (r6 3 10 12 0 1 2 Rn) (z6 Sn) Sn)
   refine fun b13 hb_b_13=>?_
   replace h:=h b13 hb_b_13
   refine fun b14 hb_b_14=>?_
   replace h:=h b14 hb_b_14
   refine As (fun env pv hp=>∃ x0a x0n x0c x14,Sub (w2 E0 14 (sP x14) 0 (sS x0a x0n x0c)) env∧Sub V0 pv∧F17_j2 x0a x0n x0c x14 hp  K) ?_ ?_
   ·refine As (fun env pv hp=>∃ x0a x0n x0c x1 x2 x14 x40,Sub (w5 E0 40 (sI x40) 14 (sP x14) 2 (sI x2) 1 (sI x1) 0 (sS x0a x0n x0c)) env∧Sub V0 pv∧F17_j3 x0a x0n x0c x1 x2 x14 x40 hp  K) ?_ ?_
    ·refine Ag F17_r14 ?_ (r4 0 1 2 14 Rn) (z4 Sn) Sn
     exact ⟨_,_,_,_,_,_,_,(z5 Sn),Sn,h⟩
    ·rintro env pv hp ⟨x0a,x0n,x0c,x1,x2,x14,x40,he,hv,h⟩
     refine Ae ?_ (r5 0 1 2 14 40 Rn) he hv
     unfold F17_j3 at h
     refine AWP.block (AWP.loop (σ:=Int) _ (fun s=>w5 E0 40 (sI s) 14 (sP x14) 2 (sI x2) 1 (sI x1) 0 (sS x0a x0n x0c)) (fun s=>V0) x40 h (fun s=>r5 0 1 2 14 40 Rn) (z5 Sn) Sn ?_)
     intro I4 x40 hp h
     replace h:F17_l4 x0a x0n x0c x1 x2 x14  K I4 x40 hp:=h
     unfold F17_l4 at h
     refine Ar F17_r7 ?_ (r5 40 0 1 2 14 Rn) (z5 Sn) Sn
     refine Aq (Ac h rfl (fun h=>?_) (fun h=>?_))
     ·refine AWP.skip (Aq (AWP.block (Ar F17_r8 ?_ (r5 40 0 1 2 14 Rn) (z5 Sn) Sn)))
      refine Ar (F17_r9 rfl) ?_ (r6 0 1 2 14 15 40 Rn) (z6 Sn) Sn
      refine mC h fun u21 h22 h=>mT h fun u23 u24 h=>mP h fun p25 h=>mI h fun i26 h=>?_
      refine Aq (Ar F17_r10 ?_ (r8 17 0 1 2 14 15 16 40 Rn) (z8 Sn) Sn)
      refine Ac h rfl (fun h=>?_) (fun h=>?_)
      ·refine Ar F17_r11 ?_ (r1 17 Rn) (z1 Sn) Sn
       refine AWP.ret ?_
       exact h
      ·refine AWP.skip (Ag (F17_r12 rfl) ?_ (r7 14 15 16 0 1 2 40 Rn) (z7 Sn) Sn)
       refine mN h (fun b27 o28 h=>⟨h.1,h.2.1,mw h.2.2 fun h29 h=>?_⟩)
       refine Ag F17_r13 ?_ (r5 40 0 1 2 14 Rn) (z5 Sn) Sn
       exact ⟨_,(z5 Sn),Sn,h⟩
     ·refine AWP.exit ?_
      exact ⟨_,_,_,_,(z2 Sn),Sn,h⟩
   ·rintro env pv hp ⟨x0a,x0n,x0c,x14,he,hv,h⟩
    refine Ae ?_ (r2 0 14 Rn) he hv
    unfold F17_j2 at h
    refine Ar F17_r5 ?_ (r2 0 14 Rn) (z2 Sn) Sn
    refine ⟨h.1,h.2.1,mN h.2.2 (fun b15 o16 h=>mL h (fun l17 h=>mN h (fun b18 o19 h=>⟨h.1,mW h.2 fun h20 h=>?_⟩)))⟩
    refine Ar F17_r6 ?_ (r1 14 Rn) (z1 Sn) Sn
    refine AWP.ret ?_
    exact h
end
section
variable {e:Env} {x0 x1 k2 k3:List Value} {hp:HP} {K:Env→PV→HP→Prop}
abbrev R104 (p n:Nat):=RW Tryd.prog 10 [2,3,5,7] (opsAt Tryd.f104 (pth p)) (List.range n)
theorem F104_r0:R104 2 3 (w2 e 1 (sA x1) 0 (sA x0)) V0 hp K=
 K (w5 e 1 (sA x1) 0 (sA x0) 2 (sR 2 0) 3 (sR 3 0) 4 (sI 0)) (w2 V0 2 (36,x0) 3 (36,x1)) hp:= by kernel_rfl
theorem F104_r1:R104 5 6 (w2 e 3 (sR 3 0) 2 (sR 2 0)) (w2 V0 3 (36,k3) 2 (36,k2)) hp K=
 ldV (k2)[0]? fun v1=>(intV v1 .i64 fun i2=>ldV (k3)[0]? fun v3=>intV v3 .i64 fun i4=>CF Tryd.prog 101 [(.int .i64 i2),(.int .i64 i4)] hp fun u5 h6=>intV u5 .i64 fun i7=>K (w8 e 3 (sR 3 0) 2 (sR 2 0) 5 (sR 2 0) 6 (sI i2) 7 (sR 3 0) 8 (sI i4) 9 (sI i7) 4 (sI i7)) (w2 V0 3 (36,k3) 2 (36,k2)) h6):= by kernel_rfl
def F104 (x0 x1:List Value) (hp:HP) (K:Kh):Prop:=
  (ldV (x0)[0]? fun v1=>intV v1 .i64 fun i2=>ldV (x1)[0]? fun v3=>intV v3 .i64 fun i4=>CF Tryd.prog 101 [(.int .i64 i2),(.int .i64 i4)] hp fun u5 h6=>intV u5 .i64 fun i7=>K (.int .i64 i7) h6)
noncomputable def F104_code:Code:=(.seq (.region 0 (opsAt Tryd.f104 (pth 2)) false) (.seq (.region 1 (opsAt Tryd.f104 (pth 5)) false) .ret))
theorem F104_body:Tryd.f104.body=some F104_code:=by kernel_rfl
theorem F104_ok (x0 x1:List Value) (hp:HP) (K:Kh) (h:F104 x0 x1 hp K):CF Tryd.prog 104 [(.agg ⟨x0⟩),(.agg ⟨x1⟩)] hp K:=by
 refine .inl ⟨by kernel_rfl,AC.intro (N:=10) Tryd.func104 F104_body rfl (Nat.le_of_ble_eq_true rfl) ?_⟩
 unfold F104 at h
 refine Ar F104_r0 ?_ (r2 0 1 Rn) (z2 Sn) Sn
 refine Ar F104_r1 ?_ (rp 2 2 0 (rp 3 3 0 Rn)) (z2 Sn) (z2 Sn)
 refine mV h fun v1 h=>mI h fun i2 h=>mV h fun v3 h=>mI h fun i4 h=>mC h fun u5 h6 h=>mI h fun i7 h=>?_
 refine AWP.ret ?_
 exact h
end
end Go.Proofs
set_option linter.unusedVariables false
set_option linter.unusedSimpArgs false
set_option maxRecDepth 20000
namespace Go.Proofs
open Go Go.HL
section
variable {tb:Obj} {hq:HP} {t:Nat} {l:List Q} {low high:Int} {mx last n:Nat} {L:List Bd} {E:List (Bd × Nat)} {ps:Nat→HP} {m x o:Nat} {pl pm:Nat→Nat} {H:Nat→List ((Q × Int) × Bool)} {K:Value→HP→Prop}
theorem W65 (h:BdW tb hq t l low high mx last n L) {p:Int} {a:V6 × Int} (hp:okZ p) (ha:okT6 a) (hK:K (toldV (find6 p a L)) hq):CF Tryd.prog 65 [ptr t 0,.int .i64 p,.agg ⟨t6 a⟩] hq K:=by
  obtain ⟨E,ps,m,x,o,pl,pm,rfl,h⟩:=h
  exact P65 h hp ha hK
theorem W63 (h:BdW tb hq t l low high mx last n L) {p:Int} {a:Q × Int} (hp:okZ p) (ha:okT a) (hK:K (toldV (find4 p a L)) hq):CF Tryd.prog 63 [ptr t 0,.int .i64 p,.agg ⟨t4 a⟩] hq K:=by
  obtain ⟨E,ps,m,x,o,pl,pm,rfl,h⟩:=h
  exact P63 h hp ha hK
theorem W23 (h:BdW tb hq t l low high mx last n L) (hK:K (.int .i64 (L.length:Nat)) hq):CF Tryd.prog 23 [ptr t 0] hq K:=by
  obtain ⟨E,ps,m,x,o,pl,pm,rfl,h⟩:=h
  refine F23_ok _ hq K ?_
  unfold F23
  refine C71 h ?_
  simp only [boolV_bool,ite2_false,ptrN_some,Nat.reduceAdd,h.c6,ldV_some,mapV_map]
  refine rdS_mapLen u123 h.mapq ?_
  rw [intV_int]
  rw [List.length_map] at hK ⊢
  exact hK
def updE (i s:Int) (E:List (Bd × Nat)):List (Bd × Nat):=E.map fun e=>(setS i s e.1,e.2)
theorem updE_fst (i s:Int) (E:List (Bd × Nat)):(updE i s E).map (·.1)=updB i s (E.map (·.1)):=by
  unfold updE updB
  rw [List.map_map,List.map_map]
  rfl
theorem BdP.ses (h:BdP tb hq t l low high mx last n E ps m x o pl pm H) {e:Bd × Nat} (he:e∈E) {s:Int} (hs:0≤s∧s≤n) :
    BdP tb (hq.set e.2 (.cells 36 (bdc { e.1 with ses:=s }) 0)) t l low high mx last n (updE e.1.id s E) (pu ps 0 ((ps 0).set e.2 (.cells 36 (bdc { e.1 with ses:=s }) 0))) m x o pl pm H where
  parts:=h.parts.put 0 (by rw [h.main.blk e he]; simp) _
  main:=by
    rw [pu_eq]
    refine ⟨?_,?_,?_,?_⟩
    · rw [HP.set_ne _ _ (h.main.bt he).symm]; exact h.main.tab
    · rw [HP.set_ne _ _ (h.main.bm he).symm]
      have:(updE e.1.id s E).map (fun z=>(z.1.id,z.2))=E.map fun z=>(z.1.id,z.2):=by
        unfold updE
        rw [List.map_map]
        exact List.map_congr_left fun z _=>by simp only [Function.comp,setS_id]
      rw [this]; exact h.main.map
    · intro z hz
      obtain ⟨w,hw,rfl⟩:=List.mem_map.1 hz
      by_cases hwe:w.1.id=e.1.id
      · have:w=e:=inj_of (g:=fun z:Bd × Nat=>z.1.id) h.ids hw he hwe
        subst this
        simp only
        rw [HP.set_eq]
        unfold setS
        rw [if_pos rfl]
      · have hne:w.2≠e.2:=fun e'=>hwe (by
          have a:=h.main.blk w hw
          have b:=h.main.blk e he
          rw [e',b] at a
          simp only [Ent.cells.injEq,true_and,and_true] at a
          rw [bdc_inj.1 a])
        simp only
        rw [HP.set_ne _ _ hne]
        unfold setS
        rw [if_neg hwe]
        exact h.main.blk w hw
    · exact ⟨by rw [HP.set_ne _ _ (h.main.b0 he).symm]; exact h.main.dig.1,h.main.dig.2⟩
  six:=by
    rw [pu_ne _ _ (by omega),updE_fst,upd_map _ _ _ fun b=>by unfold Bd.k6; rw [setS_proto,setS_inn,setS_id]]
    exact h.six
  four:=by
    rw [pu_ne _ _ (by omega),updE_fst,upd_map _ _ _ fun b=>by unfold Bd.k4; rw [setS_proto,setS_out,setS_id]]
    exact h.four
  pool k hk:=by rw [pu_ne _ _ (by omega)]; exact h.pool k hk
  inv:=by rw [updE_fst]; exact h.inv.upd hs
theorem findE_some {i:Int} (h:BdP tb hq t l low high mx last n E ps m x o pl pm H) {b:Bd} (hb:findI i (E.map (·.1))=some b):∃ e,e∈E∧e.1=b∧b.id=i∧(E.find? fun e=>decide (e.1.id=i))=some e:=by
  rw [← findE] at hb
  cases hf:E.find? fun e=>decide (e.1.id=i) with
  | none=>rw [hf] at hb; cases hb
  | some e=>
    rw [hf] at hb
    simp only [Option.map_some,Option.some.injEq] at hb
    obtain ⟨h1,h2⟩:=find_mem hf
    have:=of_decide_eq_true h2
    exact ⟨e,h1,hb,by rw [← hb]; exact this,rfl⟩
set_option maxHeartbeats 800000 in
theorem W21 (h:BdW tb hq t l low high mx last n L) {i:Int} (hn:n<1000000) (hno:findI i L=none→K (.int .i64 4) hq)
    (hyes:∀ b,findI i L=some b→∀ hq',BdW tb hq' t l low high mx last (n+1) (updB i (b.ses+1) L)→K (.int .i64 0) hq'):CF Tryd.prog 21 [ptr t 0,.int .i64 i] hq K:=by
  obtain ⟨E,ps,m,x,o,pl,pm,rfl,h⟩:=h
  refine F21_ok _ i hq K ?_
  unfold F21
  refine C71 h ?_
  simp only [boolV_bool,ite2_false,ptrN_some,Nat.reduceAdd,h.c6,ldV_some,mapV_map]
  refine rdS_lookup (l:=E.map fun e=>(e.1.id,e.2)) u123 enc3 (z:=.pointer none) (fun w=>itoa_zero (by kernel_rfl) w) h.mapq i (ev:=fun k:Nat=>ptr k 0) (cm:=true) ?_
  rw [h.get]
  cases hf:findI i (E.map (·.1)) with
  | none=>
    have he:(E.find? fun e=>decide (e.1.id=i))=none:=by
      rw [← findE] at hf
      simpa using hf
    rw [he]
    exact hno hf
  | some b=>
    obtain ⟨e,he,rfl,hid,hfe⟩:=findE_some h hf
    rw [hfe]
    have hc:=h.blkq he
    have h25:hq.cell e.2 25=some (.int .i64 e.1.ses):=HP.cell_of hc
    suffices hg:ptrN (some ⟨e.2,0,none⟩) fun b_13 o_14=>ldV (hq.cell b_13 (o_14+25)) fun v_15=>intV v_15 .i64 fun i_16=>ptrN (some ⟨e.2,0,none⟩) fun b_17 o_18=>hq.st b_17 (o_18+25) (.int .i64 (IntKind.wrap .i64 (i_16+1))) fun h_19=>K (.int .i64 0) h_19 from hg
    simp only [ptrN_some,Nat.reduceAdd,h25,ldV_some,intV_int]
    obtain ⟨_,_,_,s0,s1⟩:=h.inv.ok e.1 (List.mem_map.2 ⟨e,he,rfl⟩)
    have hn1:=h.inv.n
    have w1:IntKind.wrap .i64 (e.1.ses+1)=e.1.ses+1:=w64 (by omega) (by omega)
    rw [w1]
    refine HP.st_at hc (by simp [bdc_len]) ?_
    have h1:BdP tb hq t l low high mx last (n+1) E ps m x o pl pm fun k=>heldB (E.map (·.1)) k:={ h with inv:=h.inv.mono (n':=n+1) (by omega) (by omega) }
    have h2:=h1.ses he (s:=e.1.ses+1) ⟨by omega,by omega⟩
    have h3:=BdW.of h2 fun k _=>by rw [updE_fst,held_upd]
    rw [updE_fst,hid] at h3
    exact hyes e.1 hf _ h3
end
end Go.Proofs
set_option linter.unusedVariables false
set_option linter.unusedSimpArgs false
set_option maxRecDepth 20000
namespace Go.Proofs
open Go Go.HL
section
variable {tb:Obj} {hq:HP} {t:Nat} {l:List Q} {low high:Int} {mx last n:Nat} {L:List Bd} {E:List (Bd × Nat)} {ps:Nat→HP} {m x o:Nat} {pl pm:Nat→Nat} {H:Nat→List ((Q × Int) × Bool)} {K:Value→HP→Prop}
theorem upd_cut (i s:Int) (L:List Bd):(updB i s L).filter (fun z=>decide (z.id≠i))=L.filter fun z=>decide (z.id≠i):=by
  induction L with
  | nil=>rfl
  | cons y L ih=>
    show ((setS i s y)::updB i s L).filter _=_
    rw [List.filter_cons,List.filter_cons,ih,setS_id]
    by_cases hy:y.id=i
    · simp [hy]
    · simp only [hy,ne_eq,not_false_eq_true,decide_true,if_true]
      unfold setS
      rw [if_neg hy]
theorem find4_of {L:List Bd} (h:InvB l low high mx last n L) {y:Bd} (hy:y∈L):find4 y.proto y.out L=some y:=by
  have:=find_of (g:=fun x:Bd=>(x.proto,x.out)) h.keys4 hy
  rw [← this]
  refine find_congr fun x _=>decide_eq_decide.2 ?_
  simp only [Prod.mk.injEq]
theorem find6_of {L:List Bd} (h:InvB l low high mx last n L) {y:Bd} (hy:y∈L):find6 y.proto y.inn L=some y:=by
  have:=find_of (g:=fun x:Bd=>(x.proto,x.inn)) h.keys6 hy
  rw [← this]
  refine find_congr fun x _=>decide_eq_decide.2 ?_
  simp only [Prod.mk.injEq]
def dropB (b:Bd) (L:List Bd):List Bd:=if b.st=true∨1<b.ses then updB b.id (b.ses-1) L else L.filter fun z=>decide (z.id≠b.id)
set_option maxHeartbeats 1600000 in
theorem W22 (h:BdW tb hq t l low high mx last n L) {i:Int} (hno:findI i L=none→K (.tuple ⟨[.bool false,.int .i64 4]⟩) hq)
    (hz:∀ b,findI i L=some b→b.ses=0→K (.tuple ⟨[.bool false,.int .i64 11]⟩) hq)
    (hyes:∀ b,findI i L=some b→1≤b.ses→∀ hq',BdW tb hq' t l low high mx last n (dropB b L)→K (.tuple ⟨[.bool (!(b.st||decide (1<b.ses))),.int .i64 0]⟩) hq'):CF Tryd.prog 22 [ptr t 0,.int .i64 i] hq K:=by
  have hinv:=h.inv
  obtain ⟨E,ps,m,x,o,pl,pm,rfl,h⟩:=h
  refine F22_ok _ i hq K ?_
  unfold F22
  refine C71 h ?_
  simp only [boolV_bool,ite2_false,ptrN_some,Nat.reduceAdd,h.c6,ldV_some,mapV_map]
  refine rdS_lookup (l:=E.map fun e=>(e.1.id,e.2)) u123 enc3 (z:=.pointer none) (fun w=>itoa_zero (by kernel_rfl) w) h.mapq i (ev:=fun k:Nat=>ptr k 0) (cm:=true) ?_
  rw [h.get]
  cases hf:findI i (E.map (·.1)) with
  | none=>
    have he:(E.find? fun e=>decide (e.1.id=i))=none:=by
      rw [← findE] at hf
      simpa using hf
    rw [he]
    exact hno hf
  | some b=>
    obtain ⟨e,he,rfl,hid,hfe⟩:=findE_some h hf
    rw [hfe]
    simp only [if_true,Option.map_some,Option.getD_some,Option.isSome_some,tup2V_mk,pq,boolV_bool,Bool.not_true,ite2_false,ptrN_some,Nat.reduceAdd]
    have hc:=h.blkq he
    have h25:hq.cell e.2 25=some (.int .i64 e.1.ses):=HP.cell_of hc
    have hmem:e.1∈E.map (·.1):=List.mem_map.2 ⟨e,he,rfl⟩
    obtain ⟨k1,_,k4,s0,s1⟩:=h.inv.ok e.1 hmem
    have hn1:=h.inv.n
    rw [h25,ldV_some,intV_int]
    by_cases hz0:e.1.ses=0
    · rw [show (e.1.ses==0)=true by simp [hz0],ite2_true]
      exact hz e.1 hf hz0
    rw [show (e.1.ses==0)=false by simp [hz0],ite2_false,ldV_some,intV_int]
    have w1:IntKind.wrap .i64 (e.1.ses-1)=e.1.ses-1:=w64 (by omega) (by omega)
    rw [w1]
    refine HP.st_at hc (by simp [bdc_len]) ?_
    have h2:=h.ses he (s:=e.1.ses-1) ⟨by omega,by omega⟩
    rw [show (bdc e.1).set 25 (.int .i64 (e.1.ses-1))=bdc { e.1 with ses:=e.1.ses-1 } from by kernel_rfl]
    obtain ⟨y,hy⟩:∃ y:Bd,y={ e.1 with ses:=e.1.ses-1 }:=⟨_,rfl⟩
    have yid:y.id=e.1.id:=by rw [hy]
    have yp:y.proto=e.1.proto:=by rw [hy]
    have yo:y.out=e.1.out:=by rw [hy]
    have yst:y.st=e.1.st:=by rw [hy]
    have yses:y.ses=e.1.ses-1:=by rw [hy]
    rw [← hy] at h2 ⊢
    generalize hq.set e.2 (.cells 36 (bdc y) 0)=hq2 at *
    generalize pu ps 0 ((ps 0).set e.2 (.cells 36 (bdc y) 0))=ps2 at *
    have he':((y,e.2):Bd × Nat)∈updE e.1.id (e.1.ses-1) E:=by
      refine List.mem_map.2 ⟨e,he,?_⟩
      unfold setS
      rw [if_pos rfl,hy]
    have hc2:hq2 e.2=.cells 36 (bdc y) 0:=h2.blkq he'
    have r24:hq2.cell e.2 24=some (.bool e.1.st):=by rw [← yst]; exact HP.cell_of hc2
    have r25:hq2.cell e.2 25=some (.int .i64 (e.1.ses-1)):=by rw [← yses]; exact HP.cell_of hc2
    have rall:hq2.cellN e.2 0 26=some (bdc y):=HP.cellN_of hc2
    have keep:(e.1.st=true∨1<e.1.ses)→K (.tuple ⟨[.bool false,.int .i64 0]⟩) hq2:=fun hk=>by
      have:=BdW.of h2 fun k _=>by rw [updE_fst,held_upd]
      rw [updE_fst] at this
      have h3:=hyes e.1 hf (by omega) hq2 (by unfold dropB; rw [if_pos hk]; exact this)
      have:(!(e.1.st||decide (1<e.1.ses)))=false:=by
        rcases hk with hk | hk <;> simp [hk]
      rw [this] at h3; exact h3
    have gone:¬ (e.1.st=true∨1<e.1.ses)→F22_j1 (some ⟨t,0,none⟩) (some ⟨e.2,0,none⟩) false hq2 K:=fun hk=>by
      unfold F22_j1
      rw [ite2_false,ptrN_some,rall,ldL_some]
      refine P72 (e:=(y,e.2)) h2 he' fun hq3 ps3 h3 hb3=>?_
      obtain ⟨k3,kn⟩:=kind_nat k1
      have hk3:=(kind_lt (p:=e.1.proto)).1
      simp only [yid] at h3
      have hb4:hq3 e.2=.cells 36 (bdc y) 0:=(h3.parts.sub 0).cells hb3
      have q1:hq3.cell e.2 1=some (.int .i64 e.1.proto):=by rw [← yp]; exact HP.cell_of hb4
      have q19:hq3.cellN e.2 19 5=some (t4 e.1.out):=by rw [← yo]; exact HP.cellN_of hb4
      have hm2:(updE e.1.id (e.1.ses-1) E).map (·.1)=updB e.1.id (e.1.ses-1) (E.map (·.1)):=updE_fst _ _ _
      have hL:((updE e.1.id (e.1.ses-1) E).filter fun z=>decide (z.1.id≠e.1.id)).map (·.1)=(E.map (·.1)).filter fun z=>decide (z.id≠e.1.id):=by
        rw [fst_filter,hm2,upd_cut]
      have hst:e.1.st=false:=by
        cases hs:e.1.st with
        | false=>rfl
        | true=>exact absurd (.inl hs) hk
      have hg:giveQ l (heldB (E.map (·.1)) (kindB e.1.proto)) e.1.out=0:=by
        obtain ⟨g1,g2,_⟩:=h.inv.pool e.1 hmem
        have hm:mayQ l e.1.out=0:=by unfold mayQ; exact if_pos ⟨g2,g1⟩
        unfold giveQ
        rw [if_neg (by rw [hm]; simp),held_get h.inv k1,find4_of h.inv hmem,Option.map_some,hst]
      have hd:dropB e.1 (E.map (·.1))=(E.map (·.1)).filter fun z=>decide (z.id≠e.1.id):=if_neg hk
      have hv:(!(e.1.st||decide (1<e.1.ses)))=true:=by
        rw [hst,Bool.false_or,decide_eq_false fun hh=>hk (.inr hh)]; rfl
      have fin:CF Tryd.prog 74 [ptr (pl (kindB e.1.proto).toNat) 0,.agg ⟨t4 e.1.out⟩] hq3 fun u h=>intV u .i64 fun i=>K (.tuple ⟨[.bool true,.int .i64 i]⟩) h:=by
        have hpool:=h3.poolq k3
        simp only [kn] at hpool
        refine C74 hpool hinv.len4 (fun hne=>absurd hg hne) (fun _ ent hent=>?_)
        rw [intV_int]
        have h4:=h3.hold k3 hent
        have h5:=BdW.of h4 fun k hk'=>by
          rw [hL]
          by_cases hkk:k=(kindB e.1.proto).toNat
          · rw [if_pos hkk,hkk,kn]; exact held_del h.inv hmem
          · rw [if_neg hkk]; exact (held_del_ne hmem h.inv.ids (by omega)).symm
        rw [hL,← hd] at h5
        have h6:=hyes e.1 hf (by omega) _ h5
        rw [hv] at h6; exact h6
      have c73:∀ {K':Value→HP→Prop},K' (.int .i64 (kindB e.1.proto)) hq3→CF Tryd.prog 73 [.int .i64 e.1.proto] hq3 K':=fun hh=>C73 hh
      have ck:=h3.ck k1
      clear hyes keep hz hno
      repeat' apply And.intro
      all_goals repeat (first
        | exact fin
        | (refine c73 ?_; rw [intV_int])
        | (rw [ptrN_some])
        | (refine ⟨k1,hk3,?_⟩)
        | (rw [ck,ldV_some,pq])
        | (rw [show (0+1:Nat)=1 from rfl,q1,ldV_some,intV_int])
        | (rw [show (0+19:Nat)=19 from rfl,q19,ldL_some]))
    have fin:∀ q:Bool,q=(e.1.st||decide (1<e.1.ses))→F22_j1 (some ⟨t,0,none⟩) (some ⟨e.2,0,none⟩) q hq2 K:=fun q hq'=>by
      cases q with
      | true=>
        unfold F22_j1
        rw [ite2_true]
        exact keep (by simpa using hq'.symm)
      | false=>exact gone (by simpa using hq'.symm)
    rw [r24,ldV_some,boolV_bool]
    cases hst:e.1.st with
    | true=>rw [ite2_true]; exact fin true (by simp [hst])
    | false=>
      rw [ite2_false,r25,ldV_some,intV_int]
      refine fin _ ?_
      rw [hst,Bool.false_or]
      exact decide_eq_decide.2 ⟨fun _=>by omega,fun _=>by omega⟩
end
end Go.Proofs
set_option linter.unusedVariables false
set_option linter.constructorNameAsVariable false
set_option maxRecDepth 20000
set_option maxHeartbeats 8000000
namespace Go.Proofs
open Go Go.HL
section
variable {e E:Env} {x0:OA} {x1:Int} {x2 x3:List Value} {x10:Int} {x11 x12:Bool} {x13 x14:Int} {k6 k7 k8:List Value} {hp:HP} {K:Env→PV→HP→Prop}
abbrev R24 (p n:Nat):=RW Tryd.prog 90 [6,7,8,25,30,42] (opsAt Tryd.f24 (pth p)) (List.range n)
theorem F24_r0:R24 2 4 (w2 e 3 (sA x3) 2 (sA x2)) V0 hp K=
 K (w6 e 3 (sA x3) 2 (sA x2) 6 (sR 6 0) 7 (sR 7 0) 8 (sR 8 0) 9 (sI 0)) (w3 V0 6 (32,x2) 7 (34,x3) 8 (36,[.int .i64 0,.int .i64 0,.int .u8 0,.int .u8 0,.int .u8 0,.int .u8 0,.int .u8 0,.int .u8 0,.int .u8 0,.int .u8 0,.int .u8 0,.int .u8 0,.int .u8 0,.int .u8 0,.int .u8 0,.int .u8 0,.int .u8 0,.int .u8 0,.int .i64 0,.int .u8 0,.int .u8 0,.int .u8 0,.int .u8 0,.int .i64 0,.bool false,.int .i64 0])) hp:= by kernel_rfl
theorem F24_r1:R24 9 2 (upd e 0 (sP x0)) (w3 V0 8 (36,k8) 7 (34,k7) 6 (32,k6)) hp K=
 CF Tryd.prog 71 [(.pointer x0)] hp fun u1 h2=>(boolV u1 fun q3=>K (w3 e 0 (sP x0) 15 (sP x0) 16 (sB q3)) (w3 V0 8 (36,k8) 7 (34,k7) 6 (32,k6)) h2):= by kernel_rfl
theorem F24_r2:R24 37 3 (upd e 8 (sR 8 0)) (upd V0 8 (36,k8)) hp K=
    (if List.length [(Value.int .i64 0),.int .i64 0,.int .u8 0,.int .u8 0,.int .u8 0,.int .u8 0,.int .u8 0,.int .u8 0,.int .u8 0,.int .u8 0,.int .u8 0,.int .u8 0,.int .u8 0,.int .u8 0,.int .u8 0,.int .u8 0,.int .u8 0,.int .u8 0,.int .i64 0,.int .u8 0,.int .u8 0,.int .u8 0,.int .u8 0,.int .i64 0,.bool false,.int .i64 0]=26 then (if List.all [(Value.int .i64 0),.int .i64 0,.int .u8 0,.int .u8 0,.int .u8 0,.int .u8 0,.int .u8 0,.int .u8 0,.int .u8 0,.int .u8 0,.int .u8 0,.int .u8 0,.int .u8 0,.int .u8 0,.int .u8 0,.int .u8 0,.int .u8 0,.int .u8 0,.int .i64 0,.int .u8 0,.int .u8 0,.int .u8 0,.int .u8 0,.int .i64 0,.bool false,.int .i64 0] one=true then (if 0+List.length [(Value.int .i64 0),.int .i64 0,.int .u8 0,.int .u8 0,.int .u8 0,.int .u8 0,.int .u8 0,.int .u8 0,.int .u8 0,.int .u8 0,.int .u8 0,.int .u8 0,.int .u8 0,.int .u8 0,.int .u8 0,.int .u8 0,.int .u8 0,.int .u8 0,.int .i64 0,.int .u8 0,.int .u8 0,.int .u8 0,.int .u8 0,.int .i64 0,.bool false,.int .i64 0]≤List.length k8 then (K (w3 e 8 (sR 8 0) 17 (sV (.agg ⟨[.int .i64 0,.int .i64 0,.int .u8 0,.int .u8 0,.int .u8 0,.int .u8 0,.int .u8 0,.int .u8 0,.int .u8 0,.int .u8 0,.int .u8 0,.int .u8 0,.int .u8 0,.int .u8 0,.int .u8 0,.int .u8 0,.int .u8 0,.int .u8 0,.int .i64 0,.int .u8 0,.int .u8 0,.int .u8 0,.int .u8 0,.int .i64 0,.bool false,.int .i64 0]⟩)) 9 (sI 2)) (w2 V0 8 (36,k8) 8 (36,(splice k8 0 [.int .i64 0,.int .i64 0,.int .u8 0,.int .u8 0,.int .u8 0,.int .u8 0,.int .u8 0,.int .u8 0,.int .u8 0,.int .u8 0,.int .u8 0,.int .u8 0,.int .u8 0,.int .u8 0,.int .u8 0,.int .u8 0,.int .u8 0,.int .u8 0,.int .i64 0,.int .u8 0,.int .u8 0,.int .u8 0,.int .u8 0,.int .i64 0,.bool false,.int .i64 0]))) hp) else False) else False) else False):=by kernel_rfl
theorem F24_r3:R24 11 3 (upd e 1 (sI x1)) (w3 V0 8 (36,k8) 7 (34,k7) 6 (32,k6)) hp K=
 CF Tryd.prog 73 [(.int .i64 x1)] hp fun u1 h2=>(intV u1 .i64 fun i3=>K (w4 e 1 (sI x1) 18 (sI x1) 19 (sI i3) 10 (sI i3)) (w3 V0 8 (36,k8) 7 (34,k7) 6 (32,k6)) h2):= by kernel_rfl
theorem F24_r4:R24 71 3 (upd e 10 (sI x10)) (w3 V0 8 (36,k8) 7 (34,k7) 6 (32,k6)) hp K=
 K (w4 e 10 (sI x10) 21 (sI x10) 22 (sB (decide (x10<0))) 20 (sB (decide (x10<0)))) (w3 V0 8 (36,k8) 7 (34,k7) 6 (32,k6)) hp:= by kernel_rfl
theorem F24_r5:R24 295 3 (upd e 8 (sR 8 0)) (upd V0 8 (36,k8)) hp K=
    (if List.length [(Value.int .i64 0),.int .i64 0,.int .u8 0,.int .u8 0,.int .u8 0,.int .u8 0,.int .u8 0,.int .u8 0,.int .u8 0,.int .u8 0,.int .u8 0,.int .u8 0,.int .u8 0,.int .u8 0,.int .u8 0,.int .u8 0,.int .u8 0,.int .u8 0,.int .i64 0,.int .u8 0,.int .u8 0,.int .u8 0,.int .u8 0,.int .i64 0,.bool false,.int .i64 0]=26 then (if List.all [(Value.int .i64 0),.int .i64 0,.int .u8 0,.int .u8 0,.int .u8 0,.int .u8 0,.int .u8 0,.int .u8 0,.int .u8 0,.int .u8 0,.int .u8 0,.int .u8 0,.int .u8 0,.int .u8 0,.int .u8 0,.int .u8 0,.int .u8 0,.int .u8 0,.int .i64 0,.int .u8 0,.int .u8 0,.int .u8 0,.int .u8 0,.int .i64 0,.bool false,.int .i64 0] one=true then (if 0+List.length [(Value.int .i64 0),.int .i64 0,.int .u8 0,.int .u8 0,.int .u8 0,.int .u8 0,.int .u8 0,.int .u8 0,.int .u8 0,.int .u8 0,.int .u8 0,.int .u8 0,.int .u8 0,.int .u8 0,.int .u8 0,.int .u8 0,.int .u8 0,.int .u8 0,.int .i64 0,.int .u8 0,.int .u8 0,.int .u8 0,.int .u8 0,.int .i64 0,.bool false,.int .i64 0]≤List.length k8 then (K (w3 e 8 (sR 8 0) 23 (sV (.agg ⟨[.int .i64 0,.int .i64 0,.int .u8 0,.int .u8 0,.int .u8 0,.int .u8 0,.int .u8 0,.int .u8 0,.int .u8 0,.int .u8 0,.int .u8 0,.int .u8 0,.int .u8 0,.int .u8 0,.int .u8 0,.int .u8 0,.int .u8 0,.int .u8 0,.int .i64 0,.int .u8 0,.int .u8 0,.int .u8 0,.int .u8 0,.int .i64 0,.bool false,.int .i64 0]⟩)) 9 (sI 10)) (w2 V0 8 (36,k8) 8 (36,(splice k8 0 [.int .i64 0,.int .i64 0,.int .u8 0,.int .u8 0,.int .u8 0,.int .u8 0,.int .u8 0,.int .u8 0,.int .u8 0,.int .u8 0,.int .u8 0,.int .u8 0,.int .u8 0,.int .u8 0,.int .u8 0,.int .u8 0,.int .u8 0,.int .u8 0,.int .i64 0,.int .u8 0,.int .u8 0,.int .u8 0,.int .u8 0,.int .i64 0,.bool false,.int .i64 0]))) hp) else False) else False) else False):=by kernel_rfl
theorem F24_r6:R24 1255 3 (upd e 8 (sR 8 0)) (upd V0 8 (36,k8)) hp K=
    (if List.length [(Value.int .i64 0),.int .i64 0,.int .u8 0,.int .u8 0,.int .u8 0,.int .u8 0,.int .u8 0,.int .u8 0,.int .u8 0,.int .u8 0,.int .u8 0,.int .u8 0,.int .u8 0,.int .u8 0,.int .u8 0,.int .u8 0,.int .u8 0,.int .u8 0,.int .i64 0,.int .u8 0,.int .u8 0,.int .u8 0,.int .u8 0,.int .i64 0,.bool false,.int .i64 0]=26 then (if List.all [(Value.int .i64 0),.int .i64 0,.int .u8 0,.int .u8 0,.int .u8 0,.int .u8 0,.int .u8 0,.int .u8 0,.int .u8 0,.int .u8 0,.int .u8 0,.int .u8 0,.int .u8 0,.int .u8 0,.int .u8 0,.int .u8 0,.int .u8 0,.int .u8 0,.int .i64 0,.int .u8 0,.int .u8 0,.int .u8 0,.int .u8 0,.int .i64 0,.bool false,.int .i64 0] one=true then (if 0+List.length [(Value.int .i64 0),.int .i64 0,.int .u8 0,.int .u8 0,.int .u8 0,.int .u8 0,.int .u8 0,.int .u8 0,.int .u8 0,.int .u8 0,.int .u8 0,.int .u8 0,.int .u8 0,.int .u8 0,.int .u8 0,.int .u8 0,.int .u8 0,.int .u8 0,.int .i64 0,.int .u8 0,.int .u8 0,.int .u8 0,.int .u8 0,.int .i64 0,.bool false,.int .i64 0]≤List.length k8 then (K (w3 e 8 (sR 8 0) 47 (sV (.agg ⟨[.int .i64 0,.int .i64 0,.int .u8 0,.int .u8 0,.int .u8 0,.int .u8 0,.int .u8 0,.int .u8 0,.int .u8 0,.int .u8 0,.int .u8 0,.int .u8 0,.int .u8 0,.int .u8 0,.int .u8 0,.int .u8 0,.int .u8 0,.int .u8 0,.int .i64 0,.int .u8 0,.int .u8 0,.int .u8 0,.int .u8 0,.int .i64 0,.bool false,.int .i64 0]⟩)) 9 (sI 1)) (w2 V0 8 (36,k8) 8 (36,(splice k8 0 [.int .i64 0,.int .i64 0,.int .u8 0,.int .u8 0,.int .u8 0,.int .u8 0,.int .u8 0,.int .u8 0,.int .u8 0,.int .u8 0,.int .u8 0,.int .u8 0,.int .u8 0,.int .u8 0,.int .u8 0,.int .u8 0,.int .u8 0,.int .u8 0,.int .i64 0,.int .u8 0,.int .u8 0,.int .u8 0,.int .u8 0,.int .i64 0,.bool false,.int .i64 0]))) hp) else False) else False) else False):=by kernel_rfl
theorem F24_r7 (h:E=upd (w2 e 10 (sI x10) 7 (sR 7 0)) 0 (sP x0)):R24 79 13 E (w3 V0 8 (36,k8) 7 (34,k7) 6 (32,k6)) hp K=
    (ptrN x0 fun b1 o2=>(0≤x10)∧(x10<(3:Nat))∧(ldV (HP.cell hp b1 ((o2+9)+Int.toNat x10*1)) fun v3=>ptrV v3 fun p4=>ldL (cellsN k7 0 5) fun l5=>CF Tryd.prog 77 [(.pointer p4),(.agg ⟨l5⟩)] hp fun u6 h7=>tup2V u6 fun u8 u9=>boolV u8 fun q10=>boolV u9 fun q11=>K (w5 (w8 E 49 (sP x0) 50 (sI x10) 51 (sQ b1 o2) 52 (sQ b1 (o2+9)) 53 (sQ b1 ((o2+9)+Int.toNat x10*1)) 54 (sP p4) 55 (sA l5) 56 (sV (.tuple ⟨[(.bool q10),(.bool q11)]⟩))) 48 (sV (.tuple ⟨[(.bool q10),(.bool q11)]⟩)) 57 (sB q10) 58 (sB q11) 11 (sB q10) 12 (sB q11)) (w3 V0 8 (36,k8) 7 (34,k7) 6 (32,k6)) h7)):=by subst h; kernel_rfl
theorem F24_r8:R24 623 3 (upd e 8 (sR 8 0)) (upd V0 8 (36,k8)) hp K=
    (if List.length [(Value.int .i64 0),.int .i64 0,.int .u8 0,.int .u8 0,.int .u8 0,.int .u8 0,.int .u8 0,.int .u8 0,.int .u8 0,.int .u8 0,.int .u8 0,.int .u8 0,.int .u8 0,.int .u8 0,.int .u8 0,.int .u8 0,.int .u8 0,.int .u8 0,.int .i64 0,.int .u8 0,.int .u8 0,.int .u8 0,.int .u8 0,.int .i64 0,.bool false,.int .i64 0]=26 then (if List.all [(Value.int .i64 0),.int .i64 0,.int .u8 0,.int .u8 0,.int .u8 0,.int .u8 0,.int .u8 0,.int .u8 0,.int .u8 0,.int .u8 0,.int .u8 0,.int .u8 0,.int .u8 0,.int .u8 0,.int .u8 0,.int .u8 0,.int .u8 0,.int .u8 0,.int .i64 0,.int .u8 0,.int .u8 0,.int .u8 0,.int .u8 0,.int .i64 0,.bool false,.int .i64 0] one=true then (if 0+List.length [(Value.int .i64 0),.int .i64 0,.int .u8 0,.int .u8 0,.int .u8 0,.int .u8 0,.int .u8 0,.int .u8 0,.int .u8 0,.int .u8 0,.int .u8 0,.int .u8 0,.int .u8 0,.int .u8 0,.int .u8 0,.int .u8 0,.int .u8 0,.int .u8 0,.int .i64 0,.int .u8 0,.int .u8 0,.int .u8 0,.int .u8 0,.int .i64 0,.bool false,.int .i64 0]≤List.length k8 then (K (w3 e 8 (sR 8 0) 63 (sV (.agg ⟨[.int .i64 0,.int .i64 0,.int .u8 0,.int .u8 0,.int .u8 0,.int .u8 0,.int .u8 0,.int .u8 0,.int .u8 0,.int .u8 0,.int .u8 0,.int .u8 0,.int .u8 0,.int .u8 0,.int .u8 0,.int .u8 0,.int .u8 0,.int .u8 0,.int .i64 0,.int .u8 0,.int .u8 0,.int .u8 0,.int .u8 0,.int .i64 0,.bool false,.int .i64 0]⟩)) 9 (sI 5)) (w2 V0 8 (36,k8) 8 (36,(splice k8 0 [.int .i64 0,.int .i64 0,.int .u8 0,.int .u8 0,.int .u8 0,.int .u8 0,.int .u8 0,.int .u8 0,.int .u8 0,.int .u8 0,.int .u8 0,.int .u8 0,.int .u8 0,.int .u8 0,.int .u8 0,.int .u8 0,.int .u8 0,.int .u8 0,.int .i64 0,.int .u8 0,.int .u8 0,.int .u8 0,.int .u8 0,.int .i64 0,.bool false,.int .i64 0]))) hp) else False) else False) else False):=by kernel_rfl
theorem F24_r9 (h:E=upd (w2 e 6 (sR 6 0) 1 (sI x1)) 0 (sP x0)):R24 159 5 E (w3 V0 8 (36,k8) 7 (34,k7) 6 (32,k6)) hp K=
 ldL (cellsN k6 0 17) fun l1=>(CF Tryd.prog 68 [(.pointer x0),(.int .i64 x1),(.agg ⟨l1⟩)] hp fun u2 h3=>intV u2 .i64 fun i4=>K (w5 E 64 (sP x0) 65 (sI x1) 66 (sA l1) 67 (sI i4) 13 (sI i4)) (w3 V0 8 (36,k8) 7 (34,k7) 6 (32,k6)) h3):= by subst h; kernel_rfl
theorem F24_r10:R24 351 2 (upd e 13 (sI x13)) (w3 V0 8 (36,k8) 7 (34,k7) 6 (32,k6)) hp K=
 K (w3 e 13 (sI x13) 68 (sI x13) 69 (sB ((x13 != 0)))) (w3 V0 8 (36,k8) 7 (34,k7) 6 (32,k6)) hp:= by kernel_rfl
theorem F24_r11:R24 1247 4 (w2 e 13 (sI x13) 8 (sR 8 0)) (upd V0 8 (36,k8)) hp K=
    (if List.length [(Value.int .i64 0),.int .i64 0,.int .u8 0,.int .u8 0,.int .u8 0,.int .u8 0,.int .u8 0,.int .u8 0,.int .u8 0,.int .u8 0,.int .u8 0,.int .u8 0,.int .u8 0,.int .u8 0,.int .u8 0,.int .u8 0,.int .u8 0,.int .u8 0,.int .i64 0,.int .u8 0,.int .u8 0,.int .u8 0,.int .u8 0,.int .i64 0,.bool false,.int .i64 0]=26 then (if List.all [(Value.int .i64 0),.int .i64 0,.int .u8 0,.int .u8 0,.int .u8 0,.int .u8 0,.int .u8 0,.int .u8 0,.int .u8 0,.int .u8 0,.int .u8 0,.int .u8 0,.int .u8 0,.int .u8 0,.int .u8 0,.int .u8 0,.int .u8 0,.int .u8 0,.int .i64 0,.int .u8 0,.int .u8 0,.int .u8 0,.int .u8 0,.int .i64 0,.bool false,.int .i64 0] one=true then (if 0+List.length [(Value.int .i64 0),.int .i64 0,.int .u8 0,.int .u8 0,.int .u8 0,.int .u8 0,.int .u8 0,.int .u8 0,.int .u8 0,.int .u8 0,.int .u8 0,.int .u8 0,.int .u8 0,.int .u8 0,.int .u8 0,.int .u8 0,.int .u8 0,.int .u8 0,.int .i64 0,.int .u8 0,.int .u8 0,.int .u8 0,.int .u8 0,.int .i64 0,.bool false,.int .i64 0]≤List.length k8 then (K (w5 e 13 (sI x13) 8 (sR 8 0) 70 (sV (.agg ⟨[.int .i64 0,.int .i64 0,.int .u8 0,.int .u8 0,.int .u8 0,.int .u8 0,.int .u8 0,.int .u8 0,.int .u8 0,.int .u8 0,.int .u8 0,.int .u8 0,.int .u8 0,.int .u8 0,.int .u8 0,.int .u8 0,.int .u8 0,.int .u8 0,.int .i64 0,.int .u8 0,.int .u8 0,.int .u8 0,.int .u8 0,.int .i64 0,.bool false,.int .i64 0]⟩)) 71 (sI x13) 9 (sI x13)) (w2 V0 8 (36,k8) 8 (36,(splice k8 0 [.int .i64 0,.int .i64 0,.int .u8 0,.int .u8 0,.int .u8 0,.int .u8 0,.int .u8 0,.int .u8 0,.int .u8 0,.int .u8 0,.int .u8 0,.int .u8 0,.int .u8 0,.int .u8 0,.int .u8 0,.int .u8 0,.int .u8 0,.int .u8 0,.int .i64 0,.int .u8 0,.int .u8 0,.int .u8 0,.int .u8 0,.int .i64 0,.bool false,.int .i64 0]))) hp) else False) else False) else False):=by kernel_rfl
theorem F24_r12 (h:E=upd (w2 e 10 (sI x10) 7 (sR 7 0)) 0 (sP x0)):R24 319 9 E (w3 V0 8 (36,k8) 7 (34,k7) 6 (32,k6)) hp K=
    (ptrN x0 fun b1 o2=>(0≤x10)∧(x10<(3:Nat))∧(ldV (HP.cell hp b1 ((o2+9)+Int.toNat x10*1)) fun v3=>ptrV v3 fun p4=>ldL (cellsN k7 0 5) fun l5=>CF Tryd.prog 78 [(.pointer p4),(.agg ⟨l5⟩)] hp fun u6 h7=>intV u6 .i64 fun i8=>K (upd (w8 E 72 (sP x0) 73 (sI x10) 74 (sQ b1 o2) 75 (sQ b1 (o2+9)) 76 (sQ b1 ((o2+9)+Int.toNat x10*1)) 77 (sP p4) 78 (sA l5) 79 (sI i8)) 14 (sI i8)) (w3 V0 8 (36,k8) 7 (34,k7) 6 (32,k6)) h7)):=by subst h; kernel_rfl
theorem F24_r13:R24 703 2 (upd e 14 (sI x14)) (w3 V0 8 (36,k8) 7 (34,k7) 6 (32,k6)) hp K=
 K (w3 e 14 (sI x14) 80 (sI x14) 81 (sB ((x14 != 0)))) (w3 V0 8 (36,k8) 7 (34,k7) 6 (32,k6)) hp:= by kernel_rfl
theorem F24_r14:R24 2495 4 (w2 e 14 (sI x14) 8 (sR 8 0)) (upd V0 8 (36,k8)) hp K=
    (if List.length [(Value.int .i64 0),.int .i64 0,.int .u8 0,.int .u8 0,.int .u8 0,.int .u8 0,.int .u8 0,.int .u8 0,.int .u8 0,.int .u8 0,.int .u8 0,.int .u8 0,.int .u8 0,.int .u8 0,.int .u8 0,.int .u8 0,.int .u8 0,.int .u8 0,.int .i64 0,.int .u8 0,.int .u8 0,.int .u8 0,.int .u8 0,.int .i64 0,.bool false,.int .i64 0]=26 then (if List.all [(Value.int .i64 0),.int .i64 0,.int .u8 0,.int .u8 0,.int .u8 0,.int .u8 0,.int .u8 0,.int .u8 0,.int .u8 0,.int .u8 0,.int .u8 0,.int .u8 0,.int .u8 0,.int .u8 0,.int .u8 0,.int .u8 0,.int .u8 0,.int .u8 0,.int .i64 0,.int .u8 0,.int .u8 0,.int .u8 0,.int .u8 0,.int .i64 0,.bool false,.int .i64 0] one=true then (if 0+List.length [(Value.int .i64 0),.int .i64 0,.int .u8 0,.int .u8 0,.int .u8 0,.int .u8 0,.int .u8 0,.int .u8 0,.int .u8 0,.int .u8 0,.int .u8 0,.int .u8 0,.int .u8 0,.int .u8 0,.int .u8 0,.int .u8 0,.int .u8 0,.int .u8 0,.int .i64 0,.int .u8 0,.int .u8 0,.int .u8 0,.int .u8 0,.int .i64 0,.bool false,.int .i64 0]≤List.length k8 then (K (w5 e 14 (sI x14) 8 (sR 8 0) 82 (sV (.agg ⟨[.int .i64 0,.int .i64 0,.int .u8 0,.int .u8 0,.int .u8 0,.int .u8 0,.int .u8 0,.int .u8 0,.int .u8 0,.int .u8 0,.int .u8 0,.int .u8 0,.int .u8 0,.int .u8 0,.int .u8 0,.int .u8 0,.int .u8 0,.int .u8 0,.int .i64 0,.int .u8 0,.int .u8 0,.int .u8 0,.int .u8 0,.int .i64 0,.bool false,.int .i64 0]⟩)) 83 (sI x14) 9 (sI x14)) (w2 V0 8 (36,k8) 8 (36,(splice k8 0 [.int .i64 0,.int .i64 0,.int .u8 0,.int .u8 0,.int .u8 0,.int .u8 0,.int .u8 0,.int .u8 0,.int .u8 0,.int .u8 0,.int .u8 0,.int .u8 0,.int .u8 0,.int .u8 0,.int .u8 0,.int .u8 0,.int .u8 0,.int .u8 0,.int .i64 0,.int .u8 0,.int .u8 0,.int .u8 0,.int .u8 0,.int .i64 0,.bool false,.int .i64 0]))) hp) else False) else False) else False):=by kernel_rfl
theorem F24_r15 (h:E=upd (w4 e 8 (sR 8 0) 7 (sR 7 0) 6 (sR 6 0) 1 (sI x1)) 0 (sP x0)):R24 383 8 E (w3 V0 8 (36,k8) 7 (34,k7) 6 (32,k6)) hp K=
 ldL (cellsN k6 0 17) fun l1=>(ldL (cellsN k7 0 5) fun l2=>if List.length l1=17 then (if List.length l2=5 then (CF Tryd.prog 70 [(.pointer x0),(.agg ⟨(List.set (splice (splice [.int .i64 0,(.int .i64 x1),.int .u8 0,.int .u8 0,.int .u8 0,.int .u8 0,.int .u8 0,.int .u8 0,.int .u8 0,.int .u8 0,.int .u8 0,.int .u8 0,.int .u8 0,.int .u8 0,.int .u8 0,.int .u8 0,.int .u8 0,.int .u8 0,.int .i64 0,.int .u8 0,.int .u8 0,.int .u8 0,.int .u8 0,.int .i64 0,.bool false,.int .i64 0] 2 l1) 19 l2) 24 (.bool true))⟩)] hp fun u3 h4=>aggV u3 fun l5=>if List.length l5=26 then (if List.all l5 one=true then (if 0+List.length l5≤List.length k8 then (K (w7 E 84 (sP x0) 85 (sI x1) 86 (sA l1) 87 (sA l2) 88 (sV (.agg ⟨(List.set (splice (splice [.int .i64 0,(.int .i64 x1),.int .u8 0,.int .u8 0,.int .u8 0,.int .u8 0,.int .u8 0,.int .u8 0,.int .u8 0,.int .u8 0,.int .u8 0,.int .u8 0,.int .u8 0,.int .u8 0,.int .u8 0,.int .u8 0,.int .u8 0,.int .u8 0,.int .i64 0,.int .u8 0,.int .u8 0,.int .u8 0,.int .u8 0,.int .i64 0,.bool false,.int .i64 0] 2 l1) 19 l2) 24 (.bool true))⟩)) 89 (sA l5) 9 (sI 0)) (w4 V0 8 (36,k8) 7 (34,k7) 6 (32,k6) 8 (36,(splice k8 0 l5))) h4) else False) else False) else False) else False) else False):= by subst h; kernel_rfl
def F24_j2 (x0:OA) (x1 x10:Int) (x62:Bool) (k6 k7 k8:List Value) (hp:HP) (K:Kh):Prop:=
  (ite2 x62 (if List.length [(Value.int .i64 0),.int .i64 0,.int .u8 0,.int .u8 0,.int .u8 0,.int .u8 0,.int .u8 0,.int .u8 0,.int .u8 0,.int .u8 0,.int .u8 0,.int .u8 0,.int .u8 0,.int .u8 0,.int .u8 0,.int .u8 0,.int .u8 0,.int .u8 0,.int .i64 0,.int .u8 0,.int .u8 0,.int .u8 0,.int .u8 0,.int .i64 0,.bool false,.int .i64 0]=26 then (if List.all [(Value.int .i64 0),.int .i64 0,.int .u8 0,.int .u8 0,.int .u8 0,.int .u8 0,.int .u8 0,.int .u8 0,.int .u8 0,.int .u8 0,.int .u8 0,.int .u8 0,.int .u8 0,.int .u8 0,.int .u8 0,.int .u8 0,.int .u8 0,.int .u8 0,.int .i64 0,.int .u8 0,.int .u8 0,.int .u8 0,.int .u8 0,.int .i64 0,.bool false,.int .i64 0] one=true then (if 0+List.length [(Value.int .i64 0),.int .i64 0,.int .u8 0,.int .u8 0,.int .u8 0,.int .u8 0,.int .u8 0,.int .u8 0,.int .u8 0,.int .u8 0,.int .u8 0,.int .u8 0,.int .u8 0,.int .u8 0,.int .u8 0,.int .u8 0,.int .u8 0,.int .u8 0,.int .i64 0,.int .u8 0,.int .u8 0,.int .u8 0,.int .u8 0,.int .i64 0,.bool false,.int .i64 0]≤List.length k8 then (ldL (cellsN (splice k8 0 [.int .i64 0,.int .i64 0,.int .u8 0,.int .u8 0,.int .u8 0,.int .u8 0,.int .u8 0,.int .u8 0,.int .u8 0,.int .u8 0,.int .u8 0,.int .u8 0,.int .u8 0,.int .u8 0,.int .u8 0,.int .u8 0,.int .u8 0,.int .u8 0,.int .i64 0,.int .u8 0,.int .u8 0,.int .u8 0,.int .u8 0,.int .i64 0,.bool false,.int .i64 0]) 0 26) fun l21=>K (.tuple ⟨[(.agg ⟨l21⟩),(.int .i64 5)]⟩) hp) else False) else False) else False) (ldL (cellsN k6 0 17) fun l22=>CF Tryd.prog 68 [(.pointer x0),(.int .i64 x1),(.agg ⟨l22⟩)] hp fun u23 h24=>intV u23 .i64 fun i25=>ite2 (i25 != 0) (if List.length [(Value.int .i64 0),.int .i64 0,.int .u8 0,.int .u8 0,.int .u8 0,.int .u8 0,.int .u8 0,.int .u8 0,.int .u8 0,.int .u8 0,.int .u8 0,.int .u8 0,.int .u8 0,.int .u8 0,.int .u8 0,.int .u8 0,.int .u8 0,.int .u8 0,.int .i64 0,.int .u8 0,.int .u8 0,.int .u8 0,.int .u8 0,.int .i64 0,.bool false,.int .i64 0]=26 then (if List.all [(Value.int .i64 0),.int .i64 0,.int .u8 0,.int .u8 0,.int .u8 0,.int .u8 0,.int .u8 0,.int .u8 0,.int .u8 0,.int .u8 0,.int .u8 0,.int .u8 0,.int .u8 0,.int .u8 0,.int .u8 0,.int .u8 0,.int .u8 0,.int .u8 0,.int .i64 0,.int .u8 0,.int .u8 0,.int .u8 0,.int .u8 0,.int .i64 0,.bool false,.int .i64 0] one=true then (if 0+List.length [(Value.int .i64 0),.int .i64 0,.int .u8 0,.int .u8 0,.int .u8 0,.int .u8 0,.int .u8 0,.int .u8 0,.int .u8 0,.int .u8 0,.int .u8 0,.int .u8 0,.int .u8 0,.int .u8 0,.int .u8 0,.int .u8 0,.int .u8 0,.int .u8 0,.int .i64 0,.int .u8 0,.int .u8 0,.int .u8 0,.int .u8 0,.int .i64 0,.bool false,.int .i64 0]≤List.length k8 then (ldL (cellsN (splice k8 0 [.int .i64 0,.int .i64 0,.int .u8 0,.int .u8 0,.int .u8 0,.int .u8 0,.int .u8 0,.int .u8 0,.int .u8 0,.int .u8 0,.int .u8 0,.int .u8 0,.int .u8 0,.int .u8 0,.int .u8 0,.int .u8 0,.int .u8 0,.int .u8 0,.int .i64 0,.int .u8 0,.int .u8 0,.int .u8 0,.int .u8 0,.int .i64 0,.bool false,.int .i64 0]) 0 26) fun l26=>K (.tuple ⟨[(.agg ⟨l26⟩),(.int .i64 i25)]⟩) h24) else False) else False) else False) (ptrN x0 fun b27 o28=>(0≤x10)∧(x10<(3:Nat))∧(ldV (HP.cell h24 b27 ((o28+9)+Int.toNat x10*1)) fun v29=>ptrV v29 fun p30=>ldL (cellsN k7 0 5) fun l31=>CF Tryd.prog 78 [(.pointer p30),(.agg ⟨l31⟩)] h24 fun u32 h33=>intV u32 .i64 fun i34=>ite2 (i34 != 0) (if List.length [(Value.int .i64 0),.int .i64 0,.int .u8 0,.int .u8 0,.int .u8 0,.int .u8 0,.int .u8 0,.int .u8 0,.int .u8 0,.int .u8 0,.int .u8 0,.int .u8 0,.int .u8 0,.int .u8 0,.int .u8 0,.int .u8 0,.int .u8 0,.int .u8 0,.int .i64 0,.int .u8 0,.int .u8 0,.int .u8 0,.int .u8 0,.int .i64 0,.bool false,.int .i64 0]=26 then (if List.all [(Value.int .i64 0),.int .i64 0,.int .u8 0,.int .u8 0,.int .u8 0,.int .u8 0,.int .u8 0,.int .u8 0,.int .u8 0,.int .u8 0,.int .u8 0,.int .u8 0,.int .u8 0,.int .u8 0,.int .u8 0,.int .u8 0,.int .u8 0,.int .u8 0,.int .i64 0,.int .u8 0,.int .u8 0,.int .u8 0,.int .u8 0,.int .i64 0,.bool false,.int .i64 0] one=true then (if 0+List.length [(Value.int .i64 0),.int .i64 0,.int .u8 0,.int .u8 0,.int .u8 0,.int .u8 0,.int .u8 0,.int .u8 0,.int .u8 0,.int .u8 0,.int .u8 0,.int .u8 0,.int .u8 0,.int .u8 0,.int .u8 0,.int .u8 0,.int .u8 0,.int .u8 0,.int .i64 0,.int .u8 0,.int .u8 0,.int .u8 0,.int .u8 0,.int .i64 0,.bool false,.int .i64 0]≤List.length k8 then (ldL (cellsN (splice k8 0 [.int .i64 0,.int .i64 0,.int .u8 0,.int .u8 0,.int .u8 0,.int .u8 0,.int .u8 0,.int .u8 0,.int .u8 0,.int .u8 0,.int .u8 0,.int .u8 0,.int .u8 0,.int .u8 0,.int .u8 0,.int .u8 0,.int .u8 0,.int .u8 0,.int .i64 0,.int .u8 0,.int .u8 0,.int .u8 0,.int .u8 0,.int .i64 0,.bool false,.int .i64 0]) 0 26) fun l35=>K (.tuple ⟨[(.agg ⟨l35⟩),(.int .i64 i34)]⟩) h33) else False) else False) else False) (ldL (cellsN k6 0 17) fun l36=>ldL (cellsN k7 0 5) fun l37=>if List.length l36=17 then (if List.length l37=5 then (CF Tryd.prog 70 [(.pointer x0),(.agg ⟨(List.set (splice (splice [.int .i64 0,(.int .i64 x1),.int .u8 0,.int .u8 0,.int .u8 0,.int .u8 0,.int .u8 0,.int .u8 0,.int .u8 0,.int .u8 0,.int .u8 0,.int .u8 0,.int .u8 0,.int .u8 0,.int .u8 0,.int .u8 0,.int .u8 0,.int .u8 0,.int .i64 0,.int .u8 0,.int .u8 0,.int .u8 0,.int .u8 0,.int .i64 0,.bool false,.int .i64 0] 2 l36) 19 l37) 24 (.bool true))⟩)] h33 fun u38 h39=>aggV u38 fun l40=>if List.length l40=26 then (if List.all l40 one=true then (if 0+List.length l40≤List.length k8 then (ldL (cellsN (splice k8 0 l40) 0 26) fun l41=>K (.tuple ⟨[(.agg ⟨l41⟩),.int .i64 0]⟩) h39) else False) else False) else False) else False) else False)))))
theorem F24_r16 (h:E=upd (upd e 12 (sB x12)) 11 (sB x11)):R24 175 4 E (w3 V0 8 (36,k8) 7 (34,k7) 6 (32,k6)) hp K=
 ite2 x11 (K (w4 E 59 (sB x11) 60 (sB true) 61 sU 62 (sB true)) (w3 V0 8 (36,k8) 7 (34,k7) 6 (32,k6)) hp) (K (w4 E 59 (sB x11) 60 (sB false) 61 (sB x12) 62 (sB x12)) (w3 V0 8 (36,k8) 7 (34,k7) 6 (32,k6)) hp):= by subst h; kernel_rfl
def F24_j1 (x0:OA) (x1 x10:Int) (x24:Bool) (k6 k7 k8:List Value) (hp:HP) (K:Kh):Prop:=
  (ite2 x24 (if List.length [(Value.int .i64 0),.int .i64 0,.int .u8 0,.int .u8 0,.int .u8 0,.int .u8 0,.int .u8 0,.int .u8 0,.int .u8 0,.int .u8 0,.int .u8 0,.int .u8 0,.int .u8 0,.int .u8 0,.int .u8 0,.int .u8 0,.int .u8 0,.int .u8 0,.int .i64 0,.int .u8 0,.int .u8 0,.int .u8 0,.int .u8 0,.int .i64 0,.bool false,.int .i64 0]=26 then (if List.all [(Value.int .i64 0),.int .i64 0,.int .u8 0,.int .u8 0,.int .u8 0,.int .u8 0,.int .u8 0,.int .u8 0,.int .u8 0,.int .u8 0,.int .u8 0,.int .u8 0,.int .u8 0,.int .u8 0,.int .u8 0,.int .u8 0,.int .u8 0,.int .u8 0,.int .i64 0,.int .u8 0,.int .u8 0,.int .u8 0,.int .u8 0,.int .i64 0,.bool false,.int .i64 0] one=true then (if 0+List.length [(Value.int .i64 0),.int .i64 0,.int .u8 0,.int .u8 0,.int .u8 0,.int .u8 0,.int .u8 0,.int .u8 0,.int .u8 0,.int .u8 0,.int .u8 0,.int .u8 0,.int .u8 0,.int .u8 0,.int .u8 0,.int .u8 0,.int .u8 0,.int .u8 0,.int .i64 0,.int .u8 0,.int .u8 0,.int .u8 0,.int .u8 0,.int .i64 0,.bool false,.int .i64 0]≤List.length k8 then (ldL (cellsN (splice k8 0 [.int .i64 0,.int .i64 0,.int .u8 0,.int .u8 0,.int .u8 0,.int .u8 0,.int .u8 0,.int .u8 0,.int .u8 0,.int .u8 0,.int .u8 0,.int .u8 0,.int .u8 0,.int .u8 0,.int .u8 0,.int .u8 0,.int .u8 0,.int .u8 0,.int .i64 0,.int .u8 0,.int .u8 0,.int .u8 0,.int .u8 0,.int .i64 0,.bool false,.int .i64 0]) 0 26) fun l9=>K (.tuple ⟨[(.agg ⟨l9⟩),(.int .i64 1)]⟩) hp) else False) else False) else False) (ptrN x0 fun b10 o11=>(0≤x10)∧(x10<(3:Nat))∧(ldV (HP.cell hp b10 ((o11+9)+Int.toNat x10*1)) fun v12=>ptrV v12 fun p13=>ldL (cellsN k7 0 5) fun l14=>CF Tryd.prog 77 [(.pointer p13),(.agg ⟨l14⟩)] hp fun u15 h16=>tup2V u15 fun u17 u18=>boolV u17 fun q19=>boolV u18 fun q20=>ite2 q19 (F24_j2 x0 x1 x10 true k6 k7 k8 h16  K) (F24_j2 x0 x1 x10 q20 k6 k7 k8 h16  K))))
theorem F24_r17 (h:E=upd (w3 e 10 (sI x10) 7 (sR 7 0) 6 (sR 6 0)) 0 (sP x0)):R24 359 23 E (w3 V0 8 (36,k8) 7 (34,k7) 6 (32,k6)) hp K=
    (ldV (k6)[16]? fun v1=>intV v1 .i64 fun i2=>CF Tryd.prog 75 [(.int .i64 i2)] hp fun u3 h4=>boolV u3 fun q5=>ite2 (!q5) (K (w7 (w8 (w8 E 25 (sR 6 16) 26 (sI i2) 27 (sB q5) 28 (sB ((!q5))) 29 (sB true) 30 sU 31 sU 32 sU) 33 sU 34 (sB true) 35 (sB true) 36 sU 37 sU 38 sU 39 sU 40 sU) 41 sU 42 sU 43 sU 44 sU 45 sU 46 (sB true) 24 (sB true)) (w3 V0 8 (36,k8) 7 (34,k7) 6 (32,k6)) h4) (ldV (k7)[4]? fun v6=>intV v6 .i64 fun i7=>CF Tryd.prog 75 [(.int .i64 i7)] h4 fun u8 h9=>boolV u8 fun q10=>ite2 (!q10) (K (w7 (w8 (w8 E 25 (sR 6 16) 26 (sI i2) 27 (sB q5) 28 (sB ((!q5))) 29 (sB false) 30 (sR 7 4) 31 (sI i7) 32 (sB q10)) 33 (sB ((!q10))) 34 (sB ((!q10))) 35 (sB true) 36 sU 37 sU 38 sU 39 sU 40 sU) 41 sU 42 sU 43 sU 44 sU 45 sU 46 (sB true) 24 (sB true)) (w3 V0 8 (36,k8) 7 (34,k7) 6 (32,k6)) h9) (ptrN x0 fun b11 o12=>(0≤x10)∧(x10<(3:Nat))∧(ldV (HP.cell h9 b11 ((o12+9)+Int.toNat x10*1)) fun v13=>ptrV v13 fun p14=>ldL (cellsN k7 0 4) fun l15=>CF Tryd.prog 76 [(.pointer p14),(.agg ⟨l15⟩)] h9 fun u16 h17=>boolV u16 fun q18=>K (w7 (w8 (w8 E 25 (sR 6 16) 26 (sI i2) 27 (sB q5) 28 (sB ((!q5))) 29 (sB false) 30 (sR 7 4) 31 (sI i7) 32 (sB q10)) 33 (sB ((!q10))) 34 (sB ((!q10))) 35 (sB false) 36 (sP x0) 37 (sI x10) 38 (sQ b11 o12) 39 (sQ b11 (o12+9)) 40 (sQ b11 ((o12+9)+Int.toNat x10*1))) 41 (sP p14) 42 (sR 7 0) 43 (sA l15) 44 (sB q18) 45 (sB ((!q18))) 46 (sB ((!q18))) 24 (sB ((!q18)))) (w3 V0 8 (36,k8) 7 (34,k7) 6 (32,k6)) h17)))):=by subst h; kernel_rfl
def F24 (x0:OA) (x1:Int) (x2 x3:List Value) (hp:HP) (K:Kh):Prop:=
  (CF Tryd.prog 71 [(.pointer x0)] hp fun u1 h2=>boolV u1 fun q3=>ite2 q3 (if List.length [(Value.int .i64 0),.int .i64 0,.int .u8 0,.int .u8 0,.int .u8 0,.int .u8 0,.int .u8 0,.int .u8 0,.int .u8 0,.int .u8 0,.int .u8 0,.int .u8 0,.int .u8 0,.int .u8 0,.int .u8 0,.int .u8 0,.int .u8 0,.int .u8 0,.int .i64 0,.int .u8 0,.int .u8 0,.int .u8 0,.int .u8 0,.int .i64 0,.bool false,.int .i64 0]=26 then (if List.all [(Value.int .i64 0),.int .i64 0,.int .u8 0,.int .u8 0,.int .u8 0,.int .u8 0,.int .u8 0,.int .u8 0,.int .u8 0,.int .u8 0,.int .u8 0,.int .u8 0,.int .u8 0,.int .u8 0,.int .u8 0,.int .u8 0,.int .u8 0,.int .u8 0,.int .i64 0,.int .u8 0,.int .u8 0,.int .u8 0,.int .u8 0,.int .i64 0,.bool false,.int .i64 0] one=true then (if 0+List.length [(Value.int .i64 0),.int .i64 0,.int .u8 0,.int .u8 0,.int .u8 0,.int .u8 0,.int .u8 0,.int .u8 0,.int .u8 0,.int .u8 0,.int .u8 0,.int .u8 0,.int .u8 0,.int .u8 0,.int .u8 0,.int .u8 0,.int .u8 0,.int .u8 0,.int .i64 0,.int .u8 0,.int .u8 0,.int .u8 0,.int .u8 0,.int .i64 0,.bool false,.int .i64 0]≤List.length [(Value.int .i64 0),.int .i64 0,.int .u8 0,.int .u8 0,.int .u8 0,.int .u8 0,.int .u8 0,.int .u8 0,.int .u8 0,.int .u8 0,.int .u8 0,.int .u8 0,.int .u8 0,.int .u8 0,.int .u8 0,.int .u8 0,.int .u8 0,.int .u8 0,.int .i64 0,.int .u8 0,.int .u8 0,.int .u8 0,.int .u8 0,.int .i64 0,.bool false,.int .i64 0] then (ldL (cellsN (splice [.int .i64 0,.int .i64 0,.int .u8 0,.int .u8 0,.int .u8 0,.int .u8 0,.int .u8 0,.int .u8 0,.int .u8 0,.int .u8 0,.int .u8 0,.int .u8 0,.int .u8 0,.int .u8 0,.int .u8 0,.int .u8 0,.int .u8 0,.int .u8 0,.int .i64 0,.int .u8 0,.int .u8 0,.int .u8 0,.int .u8 0,.int .i64 0,.bool false,.int .i64 0] 0 [.int .i64 0,.int .i64 0,.int .u8 0,.int .u8 0,.int .u8 0,.int .u8 0,.int .u8 0,.int .u8 0,.int .u8 0,.int .u8 0,.int .u8 0,.int .u8 0,.int .u8 0,.int .u8 0,.int .u8 0,.int .u8 0,.int .u8 0,.int .u8 0,.int .i64 0,.int .u8 0,.int .u8 0,.int .u8 0,.int .u8 0,.int .i64 0,.bool false,.int .i64 0]) 0 26) fun l4=>K (.tuple ⟨[(.agg ⟨l4⟩),(.int .i64 2)]⟩) h2) else False) else False) else False) (CF Tryd.prog 73 [(.int .i64 x1)] h2 fun u5 h6=>intV u5 .i64 fun i7=>ite2 (decide (i7<0)) (if List.length [(Value.int .i64 0),.int .i64 0,.int .u8 0,.int .u8 0,.int .u8 0,.int .u8 0,.int .u8 0,.int .u8 0,.int .u8 0,.int .u8 0,.int .u8 0,.int .u8 0,.int .u8 0,.int .u8 0,.int .u8 0,.int .u8 0,.int .u8 0,.int .u8 0,.int .i64 0,.int .u8 0,.int .u8 0,.int .u8 0,.int .u8 0,.int .i64 0,.bool false,.int .i64 0]=26 then (if List.all [(Value.int .i64 0),.int .i64 0,.int .u8 0,.int .u8 0,.int .u8 0,.int .u8 0,.int .u8 0,.int .u8 0,.int .u8 0,.int .u8 0,.int .u8 0,.int .u8 0,.int .u8 0,.int .u8 0,.int .u8 0,.int .u8 0,.int .u8 0,.int .u8 0,.int .i64 0,.int .u8 0,.int .u8 0,.int .u8 0,.int .u8 0,.int .i64 0,.bool false,.int .i64 0] one=true then (if 0+List.length [(Value.int .i64 0),.int .i64 0,.int .u8 0,.int .u8 0,.int .u8 0,.int .u8 0,.int .u8 0,.int .u8 0,.int .u8 0,.int .u8 0,.int .u8 0,.int .u8 0,.int .u8 0,.int .u8 0,.int .u8 0,.int .u8 0,.int .u8 0,.int .u8 0,.int .i64 0,.int .u8 0,.int .u8 0,.int .u8 0,.int .u8 0,.int .i64 0,.bool false,.int .i64 0]≤List.length [(Value.int .i64 0),.int .i64 0,.int .u8 0,.int .u8 0,.int .u8 0,.int .u8 0,.int .u8 0,.int .u8 0,.int .u8 0,.int .u8 0,.int .u8 0,.int .u8 0,.int .u8 0,.int .u8 0,.int .u8 0,.int .u8 0,.int .u8 0,.int .u8 0,.int .i64 0,.int .u8 0,.int .u8 0,.int .u8 0,.int .u8 0,.int .i64 0,.bool false,.int .i64 0] then (ldL (cellsN (splice [.int .i64 0,.int .i64 0,.int .u8 0,.int .u8 0,.int .u8 0,.int .u8 0,.int .u8 0,.int .u8 0,.int .u8 0,.int .u8 0,.int .u8 0,.int .u8 0,.int .u8 0,.int .u8 0,.int .u8 0,.int .u8 0,.int .u8 0,.int .u8 0,.int .i64 0,.int .u8 0,.int .u8 0,.int .u8 0,.int .u8 0,.int .i64 0,.bool false,.int .i64 0] 0 [.int .i64 0,.int .i64 0,.int .u8 0,.int .u8 0,.int .u8 0,.int .u8 0,.int .u8 0,.int .u8 0,.int .u8 0,.int .u8 0,.int .u8 0,.int .u8 0,.int .u8 0,.int .u8 0,.int .u8 0,.int .u8 0,.int .u8 0,.int .u8 0,.int .i64 0,.int .u8 0,.int .u8 0,.int .u8 0,.int .u8 0,.int .i64 0,.bool false,.int .i64 0]) 0 26) fun l8=>K (.tuple ⟨[(.agg ⟨l8⟩),(.int .i64 10)]⟩) h6) else False) else False) else False) (ldV (x2)[16]? fun v42=>intV v42 .i64 fun i43=>CF Tryd.prog 75 [(.int .i64 i43)] h6 fun u44 h45=>boolV u44 fun q46=>ite2 (!q46) (F24_j1 x0 x1 i7 true x2 x3 [.int .i64 0,.int .i64 0,.int .u8 0,.int .u8 0,.int .u8 0,.int .u8 0,.int .u8 0,.int .u8 0,.int .u8 0,.int .u8 0,.int .u8 0,.int .u8 0,.int .u8 0,.int .u8 0,.int .u8 0,.int .u8 0,.int .u8 0,.int .u8 0,.int .i64 0,.int .u8 0,.int .u8 0,.int .u8 0,.int .u8 0,.int .i64 0,.bool false,.int .i64 0] h45  K) (ldV (x3)[4]? fun v47=>intV v47 .i64 fun i48=>CF Tryd.prog 75 [(.int .i64 i48)] h45 fun u49 h50=>boolV u49 fun q51=>ite2 (!q51) (F24_j1 x0 x1 i7 true x2 x3 [.int .i64 0,.int .i64 0,.int .u8 0,.int .u8 0,.int .u8 0,.int .u8 0,.int .u8 0,.int .u8 0,.int .u8 0,.int .u8 0,.int .u8 0,.int .u8 0,.int .u8 0,.int .u8 0,.int .u8 0,.int .u8 0,.int .u8 0,.int .u8 0,.int .i64 0,.int .u8 0,.int .u8 0,.int .u8 0,.int .u8 0,.int .i64 0,.bool false,.int .i64 0] h50  K) (ptrN x0 fun b52 o53=>(0≤i7)∧(i7<(3:Nat))∧(ldV (HP.cell h50 b52 ((o53+9)+Int.toNat i7*1)) fun v54=>ptrV v54 fun p55=>ldL (cellsN x3 0 4) fun l56=>CF Tryd.prog 76 [(.pointer p55),(.agg ⟨l56⟩)] h50 fun u57 h58=>boolV u57 fun q59=>F24_j1 x0 x1 i7 (!q59) x2 x3 [.int .i64 0,.int .i64 0,.int .u8 0,.int .u8 0,.int .u8 0,.int .u8 0,.int .u8 0,.int .u8 0,.int .u8 0,.int .u8 0,.int .u8 0,.int .u8 0,.int .u8 0,.int .u8 0,.int .u8 0,.int .u8 0,.int .u8 0,.int .u8 0,.int .i64 0,.int .u8 0,.int .u8 0,.int .u8 0,.int .u8 0,.int .i64 0,.bool false,.int .i64 0] h58  K))))))
noncomputable abbrev o24 (k n:Nat):Code:=.region k (opsAt Tryd.f24 (pth n)) false
noncomputable def F24_code:Code:=(.seq (o24 0 2) (.seq (.seq (o24 1 9) (.cond (.tmp 16) (.seq (o24 2 37) .ret) .skip)) (.seq (o24 3 11) (.seq (.block 0 (.seq (o24 4 71) (.cond (.tmp 20) (.seq (o24 5 295) .ret) (.seq (.region 6 (opsAt Tryd.f24 (pth 359)) true) (.cond (.tmp 24) (.seq (o24 7 1255) .ret) .skip))))) (.seq (.seq (.region 8 (opsAt Tryd.f24 (pth 79)) true) (.seq (o24 9 175) (.cond (.tmp 62) (.seq (o24 10 623) .ret) .skip))) (.seq (.seq (o24 11 159) (.seq (o24 12 351) (.cond (.tmp 69) (.seq (o24 13 1247) .ret) .skip))) (.seq (.seq (.region 14 (opsAt Tryd.f24 (pth 319)) true) (.seq (o24 15 703) (.cond (.tmp 81) (.seq (o24 16 2495) .ret) .skip))) (.seq (o24 17 383) .ret))))))))
theorem F24_body:Tryd.f24.body=some F24_code:=by kernel_rfl
theorem F24_ok (x0:OA) (x1:Int) (x2 x3:List Value) (hp:HP) (K:Kh) (h:F24 x0 x1 x2 x3 hp K):CF Tryd.prog 24 [(.pointer x0),(.int .i64 x1),(.agg ⟨x2⟩),(.agg ⟨x3⟩)] hp K:=by
 refine .inl ⟨by kernel_rfl,AC.intro (N:=90) Tryd.func24 F24_body rfl (Nat.le_of_ble_eq_true rfl) ?_⟩
 unfold F24 at h
 refine Ar F24_r0 ?_ (r4 2 3 0 1 Rn) (z4 Sn) Sn
 refine Aq (Ar F24_r1 ?_ (r2 0 1 (rp 6 6 0 (rp 7 7 0 (rp 8 8 0 Rn)))) (z5 Sn) (z3 Sn))
 refine mC h fun u1 h2 h=>mB h fun q3 h=>?_
 refine Ac h rfl (fun h=>?_) (fun h=>?_)
 ·refine Ar F24_r2 ?_ (rp 8 8 0 Rn) (z1 Sn) (z1 Sn)
  refine mf h fun h=>mf h fun h=>mf h fun h=>?_
  generalize splice _ 0 _=kk at h ⊢
  refine AWP.ret ?_
  exact h
 ·refine AWP.skip (Ar F24_r3 ?_ (r2 1 0 (rp 6 6 0 (rp 7 7 0 (rp 8 8 0 Rn)))) (z5 Sn) (z3 Sn))
  refine mC h fun u5 h6 h=>mI h fun i7 h=>?_
  refine Aq (AWP.block (Ar F24_r4 ?_ (r3 10 0 1 (rp 6 6 0 (rp 7 7 0 (rp 8 8 0 Rn)))) (z6 Sn) (z3 Sn)))
  refine Ac h rfl (fun h=>?_) (fun h=>?_)
  ·refine Ar F24_r5 ?_ (rp 8 8 0 Rn) (z1 Sn) (z1 Sn)
   refine mf h fun h=>mf h fun h=>mf h fun h=>?_
   generalize splice _ 0 _=kk at h ⊢
   refine AWP.ret ?_
   exact h
  ·refine As (fun env pv hp=>∃ x0 x1 x10 x24 k6 k7 k8,Sub (w7 E0 24 (sB x24) 10 (sI x10) 8 (sR 8 0) 7 (sR 7 0) 6 (sR 6 0) 1 (sI x1) 0 (sP x0)) env∧Sub (w3 V0 8 (36,k8) 7 (34,k7) 6 (32,k6)) pv∧(F24_j1 x0 x1 x10 x24 k6 k7 k8 hp  K)) ?_ ?_
   ·refine AWP.rgnD (by kernel_rfl) (by kernel_rfl) (F24_r17 rfl) ?_ (r1 0 (rp 6 6 0 (rp 7 7 0 (r2 10 1 (rp 8 8 0 Rn))))) (z6 Sn) (z3 Sn)
    refine mV h fun v42 h=>mI h fun i43 h=>mC h fun u44 h45 h=>mB h fun q46 h=>?_
    refine mt h (fun h=>?_) (fun h=>?_)
    ·exact ⟨_,_,_,_,_,_,_,(z7 Sn),(z3 Sn),h⟩
    ·refine mV h fun v47 h=>mI h fun i48 h=>mC h fun u49 h50 h=>mB h fun q51 h=>?_
     refine mt h (fun h=>?_) (fun h=>?_)
     ·exact ⟨_,_,_,_,_,_,_,(z7 Sn),(z3 Sn),h⟩
     ·refine mN h (fun b52 o53 h=>⟨h.1,h.2.1,mV h.2.2 fun v54 h=>mP h fun p55 h=>mL h fun l56 h=>mC h fun u57 h58 h=>mB h fun q59 h=>?_⟩)
      exact ⟨_,_,_,_,_,_,_,(z7 Sn),(z3 Sn),h⟩
   ·rintro env pv hp ⟨x0,x1,x10,x24,k6,k7,k8,he,hv,h⟩
    refine Ae ?_ (r2 0 1 (rp 6 6 0 (rp 7 7 0 (rp 8 8 0 (r2 10 24 Rn))))) he hv
    unfold F24_j1 at h
    refine Ac h rfl (fun h=>?_) (fun h=>?_)
    ·refine Ar F24_r6 ?_ (rp 8 8 0 Rn) (z1 Sn) (z1 Sn)
     refine mf h fun h=>mf h fun h=>mf h fun h=>?_
     generalize splice _ 0 _=kk at h ⊢
     refine AWP.ret ?_
     exact h
    ·refine AWP.skip (Aq (Aq (AWP.rgnD (by kernel_rfl) (by kernel_rfl) (F24_r7 rfl) ?_ (r1 0 (rp 7 7 0 (r2 10 1 (rp 6 6 0 (rp 8 8 0 Rn))))) (z6 Sn) (z3 Sn))))
     refine mN h (fun b10 o11 h=>⟨h.1,h.2.1,mV h.2.2 fun v12 h=>mP h fun p13 h=>mL h fun l14 h=>mC h fun u15 h16 h=>mT h fun u17 u18 h=>mB h fun q19 h=>mB h fun q20 h=>?_⟩)
     refine As (fun env pv hp=>∃ x0 x1 x10 x62 k6 k7 k8,Sub (w7 E0 62 (sB x62) 10 (sI x10) 8 (sR 8 0) 7 (sR 7 0) 6 (sR 6 0) 1 (sI x1) 0 (sP x0)) env∧Sub (w3 V0 8 (36,k8) 7 (34,k7) 6 (32,k6)) pv∧(F24_j2 x0 x1 x10 x62 k6 k7 k8 hp  K)) ?_ ?_
     ·refine Ag (F24_r16 rfl) ?_ (r4 11 12 0 1 (rp 6 6 0 (rp 7 7 0 (rp 8 8 0 (r1 10 Rn))))) (z8 Sn) (z3 Sn)
      refine mt h (fun h=>?_) (fun h=>?_)
      ·exact ⟨_,_,_,_,_,_,_,(z7 Sn),(z3 Sn),h⟩
      ·exact ⟨_,_,_,_,_,_,_,(z7 Sn),(z3 Sn),h⟩
     ·rintro env pv hp ⟨x0,x1,x10,x62,k6,k7,k8,he,hv,h⟩
      refine Ae ?_ (r2 0 1 (rp 6 6 0 (rp 7 7 0 (rp 8 8 0 (r2 10 62 Rn))))) he hv
      unfold F24_j2 at h
      refine Ac h rfl (fun h=>?_) (fun h=>?_)
      ·refine Ar F24_r8 ?_ (rp 8 8 0 Rn) (z1 Sn) (z1 Sn)
       refine mf h fun h=>mf h fun h=>mf h fun h=>?_
       generalize splice _ 0 _=kk at h ⊢
       refine AWP.ret ?_
       exact h
      ·refine AWP.skip (Aq (Ar (F24_r9 rfl) ?_ (r2 0 1 (rp 6 6 0 (rp 7 7 0 (rp 8 8 0 (r1 10 Rn))))) (z6 Sn) (z3 Sn)))
       refine mL h fun l22 h=>mC h fun u23 h24 h=>mI h fun i25 h=>?_
       refine Ar F24_r10 ?_ (r3 13 0 1 (rp 6 6 0 (rp 7 7 0 (rp 8 8 0 (r1 10 Rn))))) (z7 Sn) (z3 Sn)
       refine Ac h rfl (fun h=>?_) (fun h=>?_)
       ·refine Ar F24_r11 ?_ (rp 8 8 0 (r1 13 Rn)) (z2 Sn) (z1 Sn)
        refine mf h fun h=>mf h fun h=>mf h fun h=>?_
        generalize splice _ 0 _=kk at h ⊢
        refine AWP.ret ?_
        exact h
       ·refine AWP.skip (Aq (Aq (AWP.rgnD (by kernel_rfl) (by kernel_rfl) (F24_r12 rfl) ?_ (r1 0 (rp 7 7 0 (r2 10 1 (rp 6 6 0 (rp 8 8 0 Rn))))) (z6 Sn) (z3 Sn))))
        refine mN h (fun b27 o28 h=>⟨h.1,h.2.1,mV h.2.2 fun v29 h=>mP h fun p30 h=>mL h fun l31 h=>mC h fun u32 h33 h=>mI h fun i34 h=>?_⟩)
        refine Ar F24_r13 ?_ (r3 14 0 1 (rp 6 6 0 (rp 7 7 0 (rp 8 8 0 Rn)))) (z6 Sn) (z3 Sn)
        refine Ac h rfl (fun h=>?_) (fun h=>?_)
        ·refine Ar F24_r14 ?_ (rp 8 8 0 (r1 14 Rn)) (z2 Sn) (z1 Sn)
         refine mf h fun h=>mf h fun h=>mf h fun h=>?_
         generalize splice _ 0 _=kk at h ⊢
         refine AWP.ret ?_
         exact h
        ·refine AWP.skip (Ar (F24_r15 rfl) ?_ (r2 0 1 (rp 6 6 0 (rp 7 7 0 (rp 8 8 0 Rn)))) (z5 Sn) (z3 Sn))
         refine mL h fun l36 h=>mL h fun l37 h=>mf h fun h=>mf h fun h=>mC h fun u38 h39 h=>mA h fun l40 h=>mf h fun h=>mf h fun h=>mf h fun h=>?_
         generalize splice _ 0 _=kk at h ⊢
         refine AWP.ret ?_
         exact h
end
end Go.Proofs
set_option linter.unusedVariables false
set_option linter.constructorNameAsVariable false
set_option maxRecDepth 20000
set_option maxHeartbeats 2000000
namespace Go.Proofs
open Go Go.HL
section
variable {e E:Env} {x0:OA} {x1:Int} {x2:List Value} {x9:Bool} {k5 k6 k8:List Value} {hp:HP} {K:Env→PV→HP→Prop}
abbrev R25 (p n:Nat):=RW Tryd.prog 48 [5,6,8,29,45] (opsAt Tryd.f25 (pth p)) (List.range n)
theorem F25_r0:R25 2 3 (upd e 2 (sA x2)) V0 hp K=
 K (w4 e 2 (sA x2) 5 (sR 5 0) 6 (sR 6 0) 7 (sI 0)) (w2 V0 5 (32,x2) 6 (36,[.int .i64 0,.int .i64 0,.int .u8 0,.int .u8 0,.int .u8 0,.int .u8 0,.int .u8 0,.int .u8 0,.int .u8 0,.int .u8 0,.int .u8 0,.int .u8 0,.int .u8 0,.int .u8 0,.int .u8 0,.int .u8 0,.int .u8 0,.int .u8 0,.int .i64 0,.int .u8 0,.int .u8 0,.int .u8 0,.int .u8 0,.int .i64 0,.bool false,.int .i64 0])) hp:= by kernel_rfl
theorem F25_r1:R25 17 3 (upd e 0 (sP x0)) (w2 V0 6 (36,k6) 5 (32,k5)) hp K=
 CF Tryd.prog 71 [(.pointer x0)] hp fun u1 h2=>(boolV u1 fun q3=>K (w4 e 0 (sP x0) 11 (sP x0) 12 (sB q3) 10 (sB q3)) (w2 V0 6 (36,k6) 5 (32,k5)) h2):= by kernel_rfl
theorem F25_r2:R25 73 3 (upd e 6 (sR 6 0)) (upd V0 6 (36,k6)) hp K=
    (if List.length [(Value.int .i64 0),.int .i64 0,.int .u8 0,.int .u8 0,.int .u8 0,.int .u8 0,.int .u8 0,.int .u8 0,.int .u8 0,.int .u8 0,.int .u8 0,.int .u8 0,.int .u8 0,.int .u8 0,.int .u8 0,.int .u8 0,.int .u8 0,.int .u8 0,.int .i64 0,.int .u8 0,.int .u8 0,.int .u8 0,.int .u8 0,.int .i64 0,.bool false,.int .i64 0]=26 then (if List.all [(Value.int .i64 0),.int .i64 0,.int .u8 0,.int .u8 0,.int .u8 0,.int .u8 0,.int .u8 0,.int .u8 0,.int .u8 0,.int .u8 0,.int .u8 0,.int .u8 0,.int .u8 0,.int .u8 0,.int .u8 0,.int .u8 0,.int .u8 0,.int .u8 0,.int .i64 0,.int .u8 0,.int .u8 0,.int .u8 0,.int .u8 0,.int .i64 0,.bool false,.int .i64 0] one=true then (if 0+List.length [(Value.int .i64 0),.int .i64 0,.int .u8 0,.int .u8 0,.int .u8 0,.int .u8 0,.int .u8 0,.int .u8 0,.int .u8 0,.int .u8 0,.int .u8 0,.int .u8 0,.int .u8 0,.int .u8 0,.int .u8 0,.int .u8 0,.int .u8 0,.int .u8 0,.int .i64 0,.int .u8 0,.int .u8 0,.int .u8 0,.int .u8 0,.int .i64 0,.bool false,.int .i64 0]≤List.length k6 then (K (w3 e 6 (sR 6 0) 13 (sV (.agg ⟨[.int .i64 0,.int .i64 0,.int .u8 0,.int .u8 0,.int .u8 0,.int .u8 0,.int .u8 0,.int .u8 0,.int .u8 0,.int .u8 0,.int .u8 0,.int .u8 0,.int .u8 0,.int .u8 0,.int .u8 0,.int .u8 0,.int .u8 0,.int .u8 0,.int .i64 0,.int .u8 0,.int .u8 0,.int .u8 0,.int .u8 0,.int .i64 0,.bool false,.int .i64 0]⟩)) 7 (sI 2)) (w2 V0 6 (36,k6) 6 (36,(splice k6 0 [.int .i64 0,.int .i64 0,.int .u8 0,.int .u8 0,.int .u8 0,.int .u8 0,.int .u8 0,.int .u8 0,.int .u8 0,.int .u8 0,.int .u8 0,.int .u8 0,.int .u8 0,.int .u8 0,.int .u8 0,.int .u8 0,.int .u8 0,.int .u8 0,.int .i64 0,.int .u8 0,.int .u8 0,.int .u8 0,.int .u8 0,.int .i64 0,.bool false,.int .i64 0]))) hp) else False) else False) else False):=by kernel_rfl
theorem F25_r3:R25 89 4 (upd e 1 (sI x1)) (w2 V0 6 (36,k6) 5 (32,k5)) hp K=
 CF Tryd.prog 73 [(.int .i64 x1)] hp fun u1 h2=>(intV u1 .i64 fun i3=>K (w5 e 1 (sI x1) 15 (sI x1) 16 (sI i3) 17 (sB (decide (i3<0))) 14 (sB (decide (i3<0)))) (w2 V0 6 (36,k6) 5 (32,k5)) h2):= by kernel_rfl
theorem F25_r4:R25 313 3 (upd e 6 (sR 6 0)) (upd V0 6 (36,k6)) hp K=
    (if List.length [(Value.int .i64 0),.int .i64 0,.int .u8 0,.int .u8 0,.int .u8 0,.int .u8 0,.int .u8 0,.int .u8 0,.int .u8 0,.int .u8 0,.int .u8 0,.int .u8 0,.int .u8 0,.int .u8 0,.int .u8 0,.int .u8 0,.int .u8 0,.int .u8 0,.int .i64 0,.int .u8 0,.int .u8 0,.int .u8 0,.int .u8 0,.int .i64 0,.bool false,.int .i64 0]=26 then (if List.all [(Value.int .i64 0),.int .i64 0,.int .u8 0,.int .u8 0,.int .u8 0,.int .u8 0,.int .u8 0,.int .u8 0,.int .u8 0,.int .u8 0,.int .u8 0,.int .u8 0,.int .u8 0,.int .u8 0,.int .u8 0,.int .u8 0,.int .u8 0,.int .u8 0,.int .i64 0,.int .u8 0,.int .u8 0,.int .u8 0,.int .u8 0,.int .i64 0,.bool false,.int .i64 0] one=true then (if 0+List.length [(Value.int .i64 0),.int .i64 0,.int .u8 0,.int .u8 0,.int .u8 0,.int .u8 0,.int .u8 0,.int .u8 0,.int .u8 0,.int .u8 0,.int .u8 0,.int .u8 0,.int .u8 0,.int .u8 0,.int .u8 0,.int .u8 0,.int .u8 0,.int .u8 0,.int .i64 0,.int .u8 0,.int .u8 0,.int .u8 0,.int .u8 0,.int .i64 0,.bool false,.int .i64 0]≤List.length k6 then (K (w3 e 6 (sR 6 0) 18 (sV (.agg ⟨[.int .i64 0,.int .i64 0,.int .u8 0,.int .u8 0,.int .u8 0,.int .u8 0,.int .u8 0,.int .u8 0,.int .u8 0,.int .u8 0,.int .u8 0,.int .u8 0,.int .u8 0,.int .u8 0,.int .u8 0,.int .u8 0,.int .u8 0,.int .u8 0,.int .i64 0,.int .u8 0,.int .u8 0,.int .u8 0,.int .u8 0,.int .i64 0,.bool false,.int .i64 0]⟩)) 7 (sI 10)) (w2 V0 6 (36,k6) 6 (36,(splice k6 0 [.int .i64 0,.int .i64 0,.int .u8 0,.int .u8 0,.int .u8 0,.int .u8 0,.int .u8 0,.int .u8 0,.int .u8 0,.int .u8 0,.int .u8 0,.int .u8 0,.int .u8 0,.int .u8 0,.int .u8 0,.int .u8 0,.int .u8 0,.int .u8 0,.int .i64 0,.int .u8 0,.int .u8 0,.int .u8 0,.int .u8 0,.int .i64 0,.bool false,.int .i64 0]))) hp) else False) else False) else False):=by kernel_rfl
theorem F25_r5 (h:E=upd (w2 e 5 (sR 5 0) 1 (sI x1)) 0 (sP x0)):R25 11 10 E (w2 V0 6 (36,k6) 5 (32,k5)) hp K=
 ldL (cellsN k5 0 17) fun l1=>(CF Tryd.prog 65 [(.pointer x0),(.int .i64 x1),(.agg ⟨l1⟩)] hp fun u2 h3=>tup2V u2 fun u4 u5=>aggV u4 fun l6=>boolV u5 fun q7=>if List.length l6=26 then (if List.all l6 one=true then (if 0+List.length l6≤List.length [(Value.int .i64 0),.int .i64 0,.int .u8 0,.int .u8 0,.int .u8 0,.int .u8 0,.int .u8 0,.int .u8 0,.int .u8 0,.int .u8 0,.int .u8 0,.int .u8 0,.int .u8 0,.int .u8 0,.int .u8 0,.int .u8 0,.int .u8 0,.int .u8 0,.int .i64 0,.int .u8 0,.int .u8 0,.int .u8 0,.int .u8 0,.int .i64 0,.bool false,.int .i64 0] then (K (upd (w8 E 20 (sP x0) 21 (sI x1) 22 (sA l1) 23 (sV (.tuple ⟨[(.agg ⟨l6⟩),(.bool q7)]⟩)) 19 (sV (.tuple ⟨[(.agg ⟨l6⟩),(.bool q7)]⟩)) 24 (sA l6) 25 (sB q7) 8 (sR 8 0)) 9 (sB q7)) (w4 V0 6 (36,k6) 5 (32,k5) 8 (36,[.int .i64 0,.int .i64 0,.int .u8 0,.int .u8 0,.int .u8 0,.int .u8 0,.int .u8 0,.int .u8 0,.int .u8 0,.int .u8 0,.int .u8 0,.int .u8 0,.int .u8 0,.int .u8 0,.int .u8 0,.int .u8 0,.int .u8 0,.int .u8 0,.int .i64 0,.int .u8 0,.int .u8 0,.int .u8 0,.int .u8 0,.int .i64 0,.bool false,.int .i64 0]) 8 (36,(splice [.int .i64 0,.int .i64 0,.int .u8 0,.int .u8 0,.int .u8 0,.int .u8 0,.int .u8 0,.int .u8 0,.int .u8 0,.int .u8 0,.int .u8 0,.int .u8 0,.int .u8 0,.int .u8 0,.int .u8 0,.int .u8 0,.int .u8 0,.int .u8 0,.int .i64 0,.int .u8 0,.int .u8 0,.int .u8 0,.int .u8 0,.int .i64 0,.bool false,.int .i64 0] 0 l6))) h3) else False) else False) else False):= by subst h; kernel_rfl
theorem F25_r6:R25 151 3 (upd e 6 (sR 6 0)) (upd V0 6 (36,k6)) hp K=
    (if List.length [(Value.int .i64 0),.int .i64 0,.int .u8 0,.int .u8 0,.int .u8 0,.int .u8 0,.int .u8 0,.int .u8 0,.int .u8 0,.int .u8 0,.int .u8 0,.int .u8 0,.int .u8 0,.int .u8 0,.int .u8 0,.int .u8 0,.int .u8 0,.int .u8 0,.int .i64 0,.int .u8 0,.int .u8 0,.int .u8 0,.int .u8 0,.int .i64 0,.bool false,.int .i64 0]=26 then (if List.all [(Value.int .i64 0),.int .i64 0,.int .u8 0,.int .u8 0,.int .u8 0,.int .u8 0,.int .u8 0,.int .u8 0,.int .u8 0,.int .u8 0,.int .u8 0,.int .u8 0,.int .u8 0,.int .u8 0,.int .u8 0,.int .u8 0,.int .u8 0,.int .u8 0,.int .i64 0,.int .u8 0,.int .u8 0,.int .u8 0,.int .u8 0,.int .i64 0,.bool false,.int .i64 0] one=true then (if 0+List.length [(Value.int .i64 0),.int .i64 0,.int .u8 0,.int .u8 0,.int .u8 0,.int .u8 0,.int .u8 0,.int .u8 0,.int .u8 0,.int .u8 0,.int .u8 0,.int .u8 0,.int .u8 0,.int .u8 0,.int .u8 0,.int .u8 0,.int .u8 0,.int .u8 0,.int .i64 0,.int .u8 0,.int .u8 0,.int .u8 0,.int .u8 0,.int .i64 0,.bool false,.int .i64 0]≤List.length k6 then (K (w3 e 6 (sR 6 0) 33 (sV (.agg ⟨[.int .i64 0,.int .i64 0,.int .u8 0,.int .u8 0,.int .u8 0,.int .u8 0,.int .u8 0,.int .u8 0,.int .u8 0,.int .u8 0,.int .u8 0,.int .u8 0,.int .u8 0,.int .u8 0,.int .u8 0,.int .u8 0,.int .u8 0,.int .u8 0,.int .i64 0,.int .u8 0,.int .u8 0,.int .u8 0,.int .u8 0,.int .i64 0,.bool false,.int .i64 0]⟩)) 7 (sI 4)) (w2 V0 6 (36,k6) 6 (36,(splice k6 0 [.int .i64 0,.int .i64 0,.int .u8 0,.int .u8 0,.int .u8 0,.int .u8 0,.int .u8 0,.int .u8 0,.int .u8 0,.int .u8 0,.int .u8 0,.int .u8 0,.int .u8 0,.int .u8 0,.int .u8 0,.int .u8 0,.int .u8 0,.int .u8 0,.int .i64 0,.int .u8 0,.int .u8 0,.int .u8 0,.int .u8 0,.int .i64 0,.bool false,.int .i64 0]))) hp) else False) else False) else False):=by kernel_rfl
theorem F25_r7:R25 47 3 (w2 e 8 (sR 8 0) 0 (sP x0)) (w2 V0 8 (36,k8) 6 (36,k6)) hp K=
 ldL (cellsN k8 0 26) fun l1=>(CF Tryd.prog 72 [(.pointer x0),(.agg ⟨l1⟩)] hp fun u2 h3=>K (w5 e 8 (sR 8 0) 0 (sP x0) 34 (sP x0) 35 (sA l1) 36 (sV u2)) (w2 V0 8 (36,k8) 6 (36,k6)) h3):= by kernel_rfl
theorem F25_r8 (h:E=upd (w3 e 8 (sR 8 0) 6 (sR 6 0) 1 (sI x1)) 0 (sP x0)):R25 95 13 E (w2 V0 8 (36,k8) 6 (36,k6)) hp K=
    (ldL (cellsN k8 0 26) fun l1=>CF Tryd.prog 73 [(.int .i64 x1)] hp fun u2 h3=>intV u2 .i64 fun i4=>ptrN x0 fun b5 o6=>(0≤i4)∧(i4<(3:Nat))∧(ldV (HP.cell h3 b5 ((o6+9)+Int.toNat i4*1)) fun v7=>ptrV v7 fun p8=>ldL (cellsN k8 19 5) fun l9=>CF Tryd.prog 79 [(.pointer p8),(.agg ⟨l9⟩)] h3 fun u10 h11=>intV u10 .i64 fun i12=>if List.length l1=26 then (if List.all l1 one=true then (if 0+List.length l1≤List.length k6 then (K (w4 (w8 E 37 (sA l1) 38 (sP x0) 39 (sI x1) 40 (sI i4) 41 (sQ b5 o6) 42 (sQ b5 (o6+9)) 43 (sQ b5 ((o6+9)+Int.toNat i4*1)) 44 (sP p8)) 45 (sR 8 19) 46 (sA l9) 47 (sI i12) 7 (sI i12)) (w3 V0 8 (36,k8) 6 (36,k6) 6 (36,(splice k6 0 l1))) h11) else False) else False) else False)):=by subst h; kernel_rfl
def F25_j1 (x0:OA) (x1:Int) (x32:Bool) (k6 k8:List Value) (hp:HP) (K:Kh):Prop:=
  (ite2 x32 (if List.length [(Value.int .i64 0),.int .i64 0,.int .u8 0,.int .u8 0,.int .u8 0,.int .u8 0,.int .u8 0,.int .u8 0,.int .u8 0,.int .u8 0,.int .u8 0,.int .u8 0,.int .u8 0,.int .u8 0,.int .u8 0,.int .u8 0,.int .u8 0,.int .u8 0,.int .i64 0,.int .u8 0,.int .u8 0,.int .u8 0,.int .u8 0,.int .i64 0,.bool false,.int .i64 0]=26 then (if List.all [(Value.int .i64 0),.int .i64 0,.int .u8 0,.int .u8 0,.int .u8 0,.int .u8 0,.int .u8 0,.int .u8 0,.int .u8 0,.int .u8 0,.int .u8 0,.int .u8 0,.int .u8 0,.int .u8 0,.int .u8 0,.int .u8 0,.int .u8 0,.int .u8 0,.int .i64 0,.int .u8 0,.int .u8 0,.int .u8 0,.int .u8 0,.int .i64 0,.bool false,.int .i64 0] one=true then (if 0+List.length [(Value.int .i64 0),.int .i64 0,.int .u8 0,.int .u8 0,.int .u8 0,.int .u8 0,.int .u8 0,.int .u8 0,.int .u8 0,.int .u8 0,.int .u8 0,.int .u8 0,.int .u8 0,.int .u8 0,.int .u8 0,.int .u8 0,.int .u8 0,.int .u8 0,.int .i64 0,.int .u8 0,.int .u8 0,.int .u8 0,.int .u8 0,.int .i64 0,.bool false,.int .i64 0]≤List.length k6 then (ldL (cellsN (splice k6 0 [.int .i64 0,.int .i64 0,.int .u8 0,.int .u8 0,.int .u8 0,.int .u8 0,.int .u8 0,.int .u8 0,.int .u8 0,.int .u8 0,.int .u8 0,.int .u8 0,.int .u8 0,.int .u8 0,.int .u8 0,.int .u8 0,.int .u8 0,.int .u8 0,.int .i64 0,.int .u8 0,.int .u8 0,.int .u8 0,.int .u8 0,.int .i64 0,.bool false,.int .i64 0]) 0 26) fun l16=>K (.tuple ⟨[(.agg ⟨l16⟩),(.int .i64 4)]⟩) hp) else False) else False) else False) (ldL (cellsN k8 0 26) fun l17=>CF Tryd.prog 72 [(.pointer x0),(.agg ⟨l17⟩)] hp fun u18 h19=>ldL (cellsN k8 0 26) fun l20=>CF Tryd.prog 73 [(.int .i64 x1)] h19 fun u21 h22=>intV u21 .i64 fun i23=>ptrN x0 fun b24 o25=>(0≤i23)∧(i23<(3:Nat))∧(ldV (HP.cell h22 b24 ((o25+9)+Int.toNat i23*1)) fun v26=>ptrV v26 fun p27=>ldL (cellsN k8 19 5) fun l28=>CF Tryd.prog 79 [(.pointer p27),(.agg ⟨l28⟩)] h22 fun u29 h30=>intV u29 .i64 fun i31=>if List.length l20=26 then (if List.all l20 one=true then (if 0+List.length l20≤List.length k6 then (ldL (cellsN (splice k6 0 l20) 0 26) fun l32=>K (.tuple ⟨[(.agg ⟨l32⟩),(.int .i64 i31)]⟩) h30) else False) else False) else False)))
theorem F25_r9 (h:E=upd (upd e 9 (sB x9)) 8 (sR 8 0)):R25 39 7 E (w2 V0 8 (36,k8) 6 (36,k6)) hp K=
 ite2 (!x9) (K (w7 E 26 (sB x9) 27 (sB ((!x9))) 28 (sB true) 29 sU 30 sU 31 sU 32 (sB true)) (w2 V0 8 (36,k8) 6 (36,k6)) hp) (ldV (k8)[24]? fun v1=>boolV v1 fun q2=>K (w7 E 26 (sB x9) 27 (sB ((!x9))) 28 (sB false) 29 (sR 8 24) 30 (sB q2) 31 (sB ((!q2))) 32 (sB ((!q2)))) (w2 V0 8 (36,k8) 6 (36,k6)) hp):= by subst h; kernel_rfl
def F25 (x0:OA) (x1:Int) (x2:List Value) (hp:HP) (K:Kh):Prop:=
  (CF Tryd.prog 71 [(.pointer x0)] hp fun u1 h2=>boolV u1 fun q3=>ite2 q3 (if List.length [(Value.int .i64 0),.int .i64 0,.int .u8 0,.int .u8 0,.int .u8 0,.int .u8 0,.int .u8 0,.int .u8 0,.int .u8 0,.int .u8 0,.int .u8 0,.int .u8 0,.int .u8 0,.int .u8 0,.int .u8 0,.int .u8 0,.int .u8 0,.int .u8 0,.int .i64 0,.int .u8 0,.int .u8 0,.int .u8 0,.int .u8 0,.int .i64 0,.bool false,.int .i64 0]=26 then (if List.all [(Value.int .i64 0),.int .i64 0,.int .u8 0,.int .u8 0,.int .u8 0,.int .u8 0,.int .u8 0,.int .u8 0,.int .u8 0,.int .u8 0,.int .u8 0,.int .u8 0,.int .u8 0,.int .u8 0,.int .u8 0,.int .u8 0,.int .u8 0,.int .u8 0,.int .i64 0,.int .u8 0,.int .u8 0,.int .u8 0,.int .u8 0,.int .i64 0,.bool false,.int .i64 0] one=true then (if 0+List.length [(Value.int .i64 0),.int .i64 0,.int .u8 0,.int .u8 0,.int .u8 0,.int .u8 0,.int .u8 0,.int .u8 0,.int .u8 0,.int .u8 0,.int .u8 0,.int .u8 0,.int .u8 0,.int .u8 0,.int .u8 0,.int .u8 0,.int .u8 0,.int .u8 0,.int .i64 0,.int .u8 0,.int .u8 0,.int .u8 0,.int .u8 0,.int .i64 0,.bool false,.int .i64 0]≤List.length [(Value.int .i64 0),.int .i64 0,.int .u8 0,.int .u8 0,.int .u8 0,.int .u8 0,.int .u8 0,.int .u8 0,.int .u8 0,.int .u8 0,.int .u8 0,.int .u8 0,.int .u8 0,.int .u8 0,.int .u8 0,.int .u8 0,.int .u8 0,.int .u8 0,.int .i64 0,.int .u8 0,.int .u8 0,.int .u8 0,.int .u8 0,.int .i64 0,.bool false,.int .i64 0] then (ldL (cellsN (splice [.int .i64 0,.int .i64 0,.int .u8 0,.int .u8 0,.int .u8 0,.int .u8 0,.int .u8 0,.int .u8 0,.int .u8 0,.int .u8 0,.int .u8 0,.int .u8 0,.int .u8 0,.int .u8 0,.int .u8 0,.int .u8 0,.int .u8 0,.int .u8 0,.int .i64 0,.int .u8 0,.int .u8 0,.int .u8 0,.int .u8 0,.int .i64 0,.bool false,.int .i64 0] 0 [.int .i64 0,.int .i64 0,.int .u8 0,.int .u8 0,.int .u8 0,.int .u8 0,.int .u8 0,.int .u8 0,.int .u8 0,.int .u8 0,.int .u8 0,.int .u8 0,.int .u8 0,.int .u8 0,.int .u8 0,.int .u8 0,.int .u8 0,.int .u8 0,.int .i64 0,.int .u8 0,.int .u8 0,.int .u8 0,.int .u8 0,.int .i64 0,.bool false,.int .i64 0]) 0 26) fun l4=>K (.tuple ⟨[(.agg ⟨l4⟩),(.int .i64 2)]⟩) h2) else False) else False) else False) (CF Tryd.prog 73 [(.int .i64 x1)] h2 fun u5 h6=>intV u5 .i64 fun i7=>ite2 (decide (i7<0)) (if List.length [(Value.int .i64 0),.int .i64 0,.int .u8 0,.int .u8 0,.int .u8 0,.int .u8 0,.int .u8 0,.int .u8 0,.int .u8 0,.int .u8 0,.int .u8 0,.int .u8 0,.int .u8 0,.int .u8 0,.int .u8 0,.int .u8 0,.int .u8 0,.int .u8 0,.int .i64 0,.int .u8 0,.int .u8 0,.int .u8 0,.int .u8 0,.int .i64 0,.bool false,.int .i64 0]=26 then (if List.all [(Value.int .i64 0),.int .i64 0,.int .u8 0,.int .u8 0,.int .u8 0,.int .u8 0,.int .u8 0,.int .u8 0,.int .u8 0,.int .u8 0,.int .u8 0,.int .u8 0,.int .u8 0,.int .u8 0,.int .u8 0,.int .u8 0,.int .u8 0,.int .u8 0,.int .i64 0,.int .u8 0,.int .u8 0,.int .u8 0,.int .u8 0,.int .i64 0,.bool false,.int .i64 0] one=true then (if 0+List.length [(Value.int .i64 0),.int .i64 0,.int .u8 0,.int .u8 0,.int .u8 0,.int .u8 0,.int .u8 0,.int .u8 0,.int .u8 0,.int .u8 0,.int .u8 0,.int .u8 0,.int .u8 0,.int .u8 0,.int .u8 0,.int .u8 0,.int .u8 0,.int .u8 0,.int .i64 0,.int .u8 0,.int .u8 0,.int .u8 0,.int .u8 0,.int .i64 0,.bool false,.int .i64 0]≤List.length [(Value.int .i64 0),.int .i64 0,.int .u8 0,.int .u8 0,.int .u8 0,.int .u8 0,.int .u8 0,.int .u8 0,.int .u8 0,.int .u8 0,.int .u8 0,.int .u8 0,.int .u8 0,.int .u8 0,.int .u8 0,.int .u8 0,.int .u8 0,.int .u8 0,.int .i64 0,.int .u8 0,.int .u8 0,.int .u8 0,.int .u8 0,.int .i64 0,.bool false,.int .i64 0] then (ldL (cellsN (splice [.int .i64 0,.int .i64 0,.int .u8 0,.int .u8 0,.int .u8 0,.int .u8 0,.int .u8 0,.int .u8 0,.int .u8 0,.int .u8 0,.int .u8 0,.int .u8 0,.int .u8 0,.int .u8 0,.int .u8 0,.int .u8 0,.int .u8 0,.int .u8 0,.int .i64 0,.int .u8 0,.int .u8 0,.int .u8 0,.int .u8 0,.int .i64 0,.bool false,.int .i64 0] 0 [.int .i64 0,.int .i64 0,.int .u8 0,.int .u8 0,.int .u8 0,.int .u8 0,.int .u8 0,.int .u8 0,.int .u8 0,.int .u8 0,.int .u8 0,.int .u8 0,.int .u8 0,.int .u8 0,.int .u8 0,.int .u8 0,.int .u8 0,.int .u8 0,.int .i64 0,.int .u8 0,.int .u8 0,.int .u8 0,.int .u8 0,.int .i64 0,.bool false,.int .i64 0]) 0 26) fun l8=>K (.tuple ⟨[(.agg ⟨l8⟩),(.int .i64 10)]⟩) h6) else False) else False) else False) (ldL (cellsN x2 0 17) fun l9=>CF Tryd.prog 65 [(.pointer x0),(.int .i64 x1),(.agg ⟨l9⟩)] h6 fun u10 h11=>tup2V u10 fun u12 u13=>aggV u12 fun l14=>boolV u13 fun q15=>if List.length l14=26 then (if List.all l14 one=true then (if 0+List.length l14≤List.length [(Value.int .i64 0),.int .i64 0,.int .u8 0,.int .u8 0,.int .u8 0,.int .u8 0,.int .u8 0,.int .u8 0,.int .u8 0,.int .u8 0,.int .u8 0,.int .u8 0,.int .u8 0,.int .u8 0,.int .u8 0,.int .u8 0,.int .u8 0,.int .u8 0,.int .i64 0,.int .u8 0,.int .u8 0,.int .u8 0,.int .u8 0,.int .i64 0,.bool false,.int .i64 0] then (ite2 (!q15) (F25_j1 x0 x1 true [.int .i64 0,.int .i64 0,.int .u8 0,.int .u8 0,.int .u8 0,.int .u8 0,.int .u8 0,.int .u8 0,.int .u8 0,.int .u8 0,.int .u8 0,.int .u8 0,.int .u8 0,.int .u8 0,.int .u8 0,.int .u8 0,.int .u8 0,.int .u8 0,.int .i64 0,.int .u8 0,.int .u8 0,.int .u8 0,.int .u8 0,.int .i64 0,.bool false,.int .i64 0] (splice [.int .i64 0,.int .i64 0,.int .u8 0,.int .u8 0,.int .u8 0,.int .u8 0,.int .u8 0,.int .u8 0,.int .u8 0,.int .u8 0,.int .u8 0,.int .u8 0,.int .u8 0,.int .u8 0,.int .u8 0,.int .u8 0,.int .u8 0,.int .u8 0,.int .i64 0,.int .u8 0,.int .u8 0,.int .u8 0,.int .u8 0,.int .i64 0,.bool false,.int .i64 0] 0 l14) h11  K) (ldV ((splice [.int .i64 0,.int .i64 0,.int .u8 0,.int .u8 0,.int .u8 0,.int .u8 0,.int .u8 0,.int .u8 0,.int .u8 0,.int .u8 0,.int .u8 0,.int .u8 0,.int .u8 0,.int .u8 0,.int .u8 0,.int .u8 0,.int .u8 0,.int .u8 0,.int .i64 0,.int .u8 0,.int .u8 0,.int .u8 0,.int .u8 0,.int .i64 0,.bool false,.int .i64 0] 0 l14))[24]? fun v33=>boolV v33 fun q34=>F25_j1 x0 x1 (!q34) [.int .i64 0,.int .i64 0,.int .u8 0,.int .u8 0,.int .u8 0,.int .u8 0,.int .u8 0,.int .u8 0,.int .u8 0,.int .u8 0,.int .u8 0,.int .u8 0,.int .u8 0,.int .u8 0,.int .u8 0,.int .u8 0,.int .u8 0,.int .u8 0,.int .i64 0,.int .u8 0,.int .u8 0,.int .u8 0,.int .u8 0,.int .i64 0,.bool false,.int .i64 0] (splice [.int .i64 0,.int .i64 0,.int .u8 0,.int .u8 0,.int .u8 0,.int .u8 0,.int .u8 0,.int .u8 0,.int .u8 0,.int .u8 0,.int .u8 0,.int .u8 0,.int .u8 0,.int .u8 0,.int .u8 0,.int .u8 0,.int .u8 0,.int .u8 0,.int .i64 0,.int .u8 0,.int .u8 0,.int .u8 0,.int .u8 0,.int .i64 0,.bool false,.int .i64 0] 0 l14) h11  K)) else False) else False) else False)))
noncomputable abbrev o25 (k n:Nat):Code:=.region k (opsAt Tryd.f25 (pth n)) false
noncomputable def F25_code:Code:=(.seq (o25 0 2) (.seq (.block 0 (.seq (o25 1 17) (.cond (.tmp 10) (.seq (o25 2 73) .ret) (.seq (o25 3 89) (.cond (.tmp 14) (.seq (o25 4 313) .ret) .skip))))) (.seq (o25 5 11) (.seq (.seq (o25 6 39) (.cond (.tmp 32) (.seq (o25 7 151) .ret) .skip)) (.seq (o25 8 47) (.seq (.region 9 (opsAt Tryd.f25 (pth 95)) true) .ret))))))
theorem F25_body:Tryd.f25.body=some F25_code:=by kernel_rfl
theorem F25_ok (x0:OA) (x1:Int) (x2:List Value) (hp:HP) (K:Kh) (h:F25 x0 x1 x2 hp K):CF Tryd.prog 25 [(.pointer x0),(.int .i64 x1),(.agg ⟨x2⟩)] hp K:=by
 refine .inl ⟨by kernel_rfl,AC.intro (N:=48) Tryd.func25 F25_body rfl (Nat.le_of_ble_eq_true rfl) ?_⟩
 unfold F25 at h
 refine Ar F25_r0 ?_ (r3 2 0 1 Rn) (z3 Sn) Sn
 refine Aq (AWP.block (Ar F25_r1 ?_ (r2 0 1 (rp 5 5 0 (rp 6 6 0 Rn))) (z4 Sn) (z2 Sn)))
 refine mC h fun u1 h2 h=>mB h fun q3 h=>?_
 refine Ac h rfl (fun h=>?_) (fun h=>?_)
 ·refine Ar F25_r2 ?_ (rp 6 6 0 Rn) (z1 Sn) (z1 Sn)
  refine mf h fun h=>mf h fun h=>mf h fun h=>?_
  generalize splice _ 0 _=kk at h ⊢
  refine AWP.ret ?_
  exact h
 ·refine Ar F25_r3 ?_ (r2 1 0 (rp 5 5 0 (rp 6 6 0 Rn))) (z4 Sn) (z2 Sn)
  refine mC h fun u5 h6 h=>mI h fun i7 h=>?_
  refine Ac h rfl (fun h=>?_) (fun h=>?_)
  ·refine Ar F25_r4 ?_ (rp 6 6 0 Rn) (z1 Sn) (z1 Sn)
   refine mf h fun h=>mf h fun h=>mf h fun h=>?_
   generalize splice _ 0 _=kk at h ⊢
   refine AWP.ret ?_
   exact h
  ·refine AWP.skip (Ar (F25_r5 rfl) ?_ (r2 0 1 (rp 5 5 0 (rp 6 6 0 Rn))) (z4 Sn) (z2 Sn))
   refine mL h fun l9 h=>mC h fun u10 h11 h=>mT h fun u12 u13 h=>mA h fun l14 h=>mB h fun q15 h=>mf h fun h=>mf h fun h=>mf h fun h=>?_
   refine Aq (As (fun env pv hp=>∃ x0 x1 x32 k6 k8,Sub (w5 E0 32 (sB x32) 8 (sR 8 0) 6 (sR 6 0) 1 (sI x1) 0 (sP x0)) env∧Sub (w2 V0 8 (36,k8) 6 (36,k6)) pv∧(F25_j1 x0 x1 x32 k6 k8 hp  K)) ?_ ?_)
   ·refine Ag (F25_r9 rfl) ?_ (rp 8 8 0 (r3 9 0 1 (rp 6 6 0 Rn))) (z5 Sn) (z2 Sn)
    refine mt h (fun h=>?_) (fun h=>?_)
    ·exact ⟨_,_,_,_,_,(z5 Sn),(z2 Sn),h⟩
    ·refine mV h fun v33 h=>mB h fun q34 h=>?_
     exact ⟨_,_,_,_,_,(z5 Sn),(z2 Sn),h⟩
   ·rintro env pv hp ⟨x0,x1,x32,k6,k8,he,hv,h⟩
    refine Ae ?_ (r2 0 1 (rp 6 6 0 (rp 8 8 0 (r1 32 Rn)))) he hv
    unfold F25_j1 at h
    refine Ac h rfl (fun h=>?_) (fun h=>?_)
    ·refine Ar F25_r6 ?_ (rp 6 6 0 Rn) (z1 Sn) (z1 Sn)
     refine mf h fun h=>mf h fun h=>mf h fun h=>?_
     generalize splice _ 0 _=kk at h ⊢
     refine AWP.ret ?_
     exact h
    ·refine AWP.skip (Ar F25_r7 ?_ (r1 0 (rp 8 8 0 (r1 1 (rp 6 6 0 Rn)))) (z4 Sn) (z2 Sn))
     refine mL h fun l17 h=>mC h fun u18 h19 h=>?_
     refine Aq (AWP.rgnD (by kernel_rfl) (by kernel_rfl) (F25_r8 rfl) ?_ (r2 0 1 (rp 6 6 0 (rp 8 8 0 Rn))) (z4 Sn) (z2 Sn))
     refine mL h (fun l20 h=>mC h (fun u21 h22 h=>mI h (fun i23 h=>mN h (fun b24 o25 h=>⟨h.1,h.2.1,mV h.2.2 fun v26 h=>mP h fun p27 h=>mL h fun l28 h=>mC h fun u29 h30 h=>mI h fun i31 h=>mf h fun h=>mf h fun h=>mf h fun h=>?_⟩))))
     generalize splice _ 0 _=kk at h ⊢
     refine AWP.ret ?_
     exact h
end
end Go.Proofs
set_option linter.unusedVariables false
set_option linter.unusedSimpArgs false
set_option maxRecDepth 20000
namespace Go.Proofs
open Go Go.HL
section
variable {tb:Obj} {hq:HP} {t:Nat} {l:List Q} {low high:Int} {mx last n:Nat} {L:List Bd} {E:List (Bd × Nat)} {ps:Nat→HP} {m x o:Nat} {pl pm:Nat→Nat} {H:Nat→List ((Q × Int) × Bool)} {K:Value→HP→Prop}
theorem C79y {hp:HP} {p m:Nat} {held} {t:Q × Int} (hr:PoolR hp p l low high held m) (hlen:l.length≤4) (h0:releaseQ l held t=0)
    (hyes:∀ e,MapE t4k vb (delL t held) e→K (.int .i64 0) (hp.set m e)):CF Tryd.prog 79 [ptr p 0,.agg ⟨t4 t⟩] hp K:=C79 hr hlen (fun h=>absurd h0 h) fun _=>hyes
theorem C78y {hp:HP} {p m:Nat} {held} {t:Q × Int} (hr:PoolR hp p l low high held m) (hlen:l.length≤4) (h0:reserveQ l held t=0)
    (hyes:∀ e,MapE t4k vb (putL t true held) e→K (.int .i64 0) (hp.set m e)):CF Tryd.prog 78 [ptr p 0,.agg ⟨t4 t⟩] hp K:=C78 hr hlen (fun h=>absurd h0 h) fun _=>hyes
theorem t4_adr (u:Q × Int):cellsN (t4 u) 0 4=some (v4 u.1):=rfl
theorem t4_prt (u:Q × Int):(t4 u)[4]?=some (.int .i64 u.2):=rfl
def freeB (l:List Q) (low high:Int) (L:List Bd) (p:Int):Int:=if kindB p<0 then 0 else freeQ l low high (heldB L (kindB p))
theorem W26 (h:BdW tb hq t l low high mx last n L) (hl:L.length≤65535) {p:Int} (hK:K (.int .i64 (freeB l low high L p)) hq):CF Tryd.prog 26 [ptr t 0,.int .i64 p] hq K:=by
  obtain ⟨E,ps,m,x,o,pl,pm,rfl,h⟩:=h
  refine F26_ok _ p hq K ?_
  unfold F26
  refine C71 h ?_
  rw [boolV_bool,ite2_false]
  refine C73 ?_
  rw [intV_int]
  unfold F26_j1
  by_cases c1:kindB p<0
  · rw [decide_eq_true c1,ite2_true]
    have e:freeB l low high (E.map (·.1)) p=0:=if_pos c1
    rw [e] at hK
    exact hK
  rw [decide_eq_false c1,ite2_false]
  have hk:0≤kindB p:=by omega
  obtain ⟨k3,kn⟩:=kind_nat hk
  have hk3:=(kind_lt (p:=p)).1
  refine C73 ?_
  rw [intV_int,ptrN_some]
  refine ⟨hk,hk3,?_⟩
  rw [h.ck hk,ldV_some,pq]
  have hpool:=h.poolq k3
  simp only [kn] at hpool
  refine C80 hpool h.inv.len4 (Nat.le_trans (held_len _) hl) h.inv.ports ?_
  rw [intV_int]
  have e:freeB l low high (E.map (·.1)) p=freeQ l low high (heldB (E.map (·.1)) (kindB p)):=if_neg c1
  rw [e] at hK
  exact hK
def unbB (L:List Bd) (p:Int) (a:V6 × Int):Int:=if kindB p<0 then 10 else if ((find6 p a L).map (·.st))=some true then 0 else 4
set_option maxHeartbeats 400000 in
theorem W25 (h:BdW tb hq t l low high mx last n L) {p:Int} {a:V6 × Int} (hp:okZ p) (ha:okT6 a)
    (hno:unbB L p a≠0→K (.tuple ⟨[.agg ⟨bdc bd0⟩,.int .i64 (unbB L p a)]⟩) hq)
    (hyes:∀ b,find6 p a L=some b→unbB L p a=0→b.st=true→∀ hq',BdW tb hq' t l low high mx last n (L.filter fun z=>decide (z.id≠b.id))→K (.tuple ⟨[.agg ⟨bdc b⟩,.int .i64 0]⟩) hq') :
    CF Tryd.prog 25 [ptr t 0,.int .i64 p,.agg ⟨t6 a⟩] hq K:=by
  have hinv:=h.inv
  obtain ⟨E,ps,m,x,o,pl,pm,rfl,h⟩:=h
  refine F25_ok _ p (t6 a) hq K ?_
  unfold F25
  refine C71 h ?_
  rw [boolV_bool,ite2_false]
  refine C73 ?_
  rw [intV_int]
  by_cases c1:kindB p<0
  · rw [decide_eq_true c1,ite2_true]
    have e:unbB (E.map (·.1)) p a=10:=if_pos c1
    rw [e] at hno
    exact ifI rfl (ifI rfl (ifI (Nat.le_refl 26) (hno (by decide))))
  rw [decide_eq_false c1,ite2_false,t6_cells,ldL_some]
  have hk:0≤kindB p:=by omega
  obtain ⟨k3,kn⟩:=kind_nat hk
  have hk3:=(kind_lt (p:=p)).1
  have no:∀ y:Bd,¬ ((find6 p a (E.map (·.1))).map (·.st))=some true→F25_j1 (some ⟨t,0,none⟩) p true (bdc bd0) (bdc y) hq K:=fun y hne=>by
    have e:unbB (E.map (·.1)) p a=4:=by unfold unbB; rw [if_neg c1,if_neg hne]
    rw [e] at hno
    unfold F25_j1
    rw [ite2_true]
    exact ifI rfl (ifI rfl (ifI (Nat.le_refl 26) (hno (by decide))))
  refine P65 h hp ha ?_
  unfold toldV
  rw [tup2V_mk,aggV_agg,boolV_bool,if_pos (bdc_len _),if_pos (bdc_one _),if_pos (by simp [bdc_len]),bd_spl rfl]
  cases hf:find6 p a (E.map (·.1)) with
  | none=>
    exact no bd0 (by rw [hf]; simp)
  | some b=>
    obtain ⟨hb,b1,b2⟩:=find6_mem hf
    simp only [Option.isSome_some,Bool.not_true,ite2_false,Option.getD_some]
    rw [bdc_st,ldV_some,boolV_bool]
    cases hst:b.st with
    | false=>exact no b (by rw [hf]; simp [hst])
    | true=>
      have eu:unbB (E.map (·.1)) p a=0:=by unfold unbB; rw [if_neg c1,if_pos (by rw [hf]; simp [hst])]
      obtain ⟨e,he,he1⟩:=List.mem_map.1 hb
      have he1:e.1=b:=he1
      subst he1
      show F25_j1 (some ⟨t,0,none⟩) p false (bdc bd0) (bdc e.1) hq K
      unfold F25_j1
      rw [ite2_false,bdc_cells,ldL_some]
      refine P72 h he fun hq3 ps3 h3 hb3=>?_
      rw [ldL_some]
      refine C73 ?_
      rw [intV_int,ptrN_some]
      refine ⟨hk,hk3,?_⟩
      rw [h3.ck hk,ldV_some,pq,bdc_out,ldL_some]
      have hpool:=h3.poolq k3
      simp only [kn] at hpool
      have hg:releaseQ l (heldB (E.map (·.1)) (kindB p)) e.1.out=0:=by
        obtain ⟨g1,g2,_⟩:=h.inv.pool e.1 hb
        have hm:mayQ l e.1.out=0:=by unfold mayQ; exact if_pos ⟨g2,g1⟩
        unfold releaseQ
        rw [if_neg (by rw [hm]; simp),held_get h.inv hk,← b1,find4_of h.inv hb,Option.map_some,hst]
      refine C79y (t:=e.1.out) hpool hinv.len4 hg fun ent hent=>?_
      rw [intV_int,if_pos (bdc_len _),if_pos (bdc_one _),if_pos (by simp [bdc_len]),bd_spl rfl,bdc_cells,ldL_some]
      have h4:=h3.hold k3 hent
      have h5:=BdW.of h4 fun k hk'=>by
        rw [fst_filter]
        by_cases hkk:k=(kindB p).toNat
        · rw [if_pos hkk,hkk,kn,← b1]; exact held_del h.inv hb
        · rw [if_neg hkk]; exact (held_del_ne hb h.inv.ids (by rw [b1]; omega)).symm
      rw [fst_filter] at h5
      exact hyes e.1 hf eu hst _ h5
def bindB (l:List Q) (mx:Nat) (L:List Bd) (p:Int) (a:V6 × Int) (u:Q × Int):Int:=
  if kindB p<0 then 10 else if ¬ (isPort a.2=true∧isPort u.2=true∧u.1∈l) then 1 else if (find4 p u L).isSome then 5 else mayB p a L mx
set_option maxHeartbeats 1600000 in
theorem W24 (h:BdW tb hq t l low high mx last n L) {p:Int} {a:V6 × Int} {u:Q × Int} (hp:okZ p) (ha:okT6 a) (hu:okT u) (hn:n<1000000)
    (hno:bindB l mx L p a u≠0→K (.tuple ⟨[.agg ⟨bdc bd0⟩,.int .i64 (bindB l mx L p a u)]⟩) hq)
    (hyes:bindB l mx L p a u=0→∀ hq',BdW tb hq' t l low high mx (last+1) (n+1) (L++[⟨((last+1:Nat):Int),p,a,u,true,0⟩])→K (.tuple ⟨[.agg ⟨bdc ⟨((last+1:Nat):Int),p,a,u,true,0⟩⟩,.int .i64 0]⟩) hq') :
    CF Tryd.prog 24 [ptr t 0,.int .i64 p,.agg ⟨t6 a⟩,.agg ⟨t4 u⟩] hq K:=by
  have hinv:=h.inv
  obtain ⟨E,ps,m,x,o,pl,pm,rfl,h⟩:=h
  refine F24_ok _ p (t6 a) (t4 u) hq K ?_
  unfold F24
  refine C71 h ?_
  rw [boolV_bool,ite2_false]
  refine C73 ?_
  rw [intV_int]
  by_cases c1:kindB p<0
  · rw [decide_eq_true c1,ite2_true]
    have e:bindB l mx (E.map (·.1)) p a u=10:=if_pos c1
    rw [e] at hno
    exact ifI rfl (ifI rfl (ifI (Nat.le_refl 26) (hno (by decide))))
  rw [decide_eq_false c1,ite2_false,t6_port,ldV_some,intV_int]
  have hk:0≤kindB p:=by omega
  obtain ⟨k3,kn⟩:=kind_nat hk
  have hk3:=(kind_lt (p:=p)).1
  have no1:¬ (isPort a.2=true∧isPort u.2=true∧u.1∈l)→F24_j1 (some ⟨t,0,none⟩) p (kindB p) true (t6 a) (t4 u) (bdc bd0) hq K:=fun hne=>by
    have e:bindB l mx (E.map (·.1)) p a u=1:=by unfold bindB; rw [if_neg c1,if_pos hne]
    rw [e] at hno
    unfold F24_j1
    rw [ite2_true]
    exact ifI rfl (ifI rfl (ifI (Nat.le_refl 26) (hno (by decide))))
  refine C75 ?_
  rw [boolV_bool]
  cases c2:isPort a.2 with
  | false=>exact no1 fun hh=>by rw [c2] at hh; cases hh.1
  | true=>
  rw [show (!true)=false from rfl,ite2_false,t4_prt,ldV_some,intV_int]
  refine C75 ?_
  rw [boolV_bool]
  cases c3:isPort u.2 with
  | false=>exact no1 fun hh=>by rw [c3] at hh; cases hh.2.1
  | true=>
  rw [show (!true)=false from rfl,ite2_false,ptrN_some]
  refine ⟨hk,hk3,?_⟩
  rw [h.ck hk,ldV_some,pq,t4_adr,ldL_some]
  have hpool:=h.poolq k3
  simp only [kn] at hpool
  refine C76 hpool hinv.len4 ?_
  rw [boolV_bool]
  by_cases c4:u.1∈l
  rotate_left
  · rw [decide_eq_false c4]
    exact no1 fun hh=>c4 hh.2.2
  rw [decide_eq_true c4]
  show F24_j1 (some ⟨t,0,none⟩) p (kindB p) false (t6 a) (t4 u) (bdc bd0) hq K
  have hall:¬ ¬ (isPort a.2=true∧isPort u.2=true∧u.1∈l):=fun hh=>hh ⟨c2,c3,c4⟩
  have hmq:mayQ l u=0:=by unfold mayQ; exact if_pos ⟨c3,c4⟩
  unfold F24_j1
  rw [ite2_false,ptrN_some]
  refine ⟨hk,hk3,?_⟩
  rw [h.ck hk,ldV_some,pq,t4_all,ldL_some]
  refine C77 hpool hinv.len4 ?_
  rw [tup2V_mk,boolV_bool,boolV_bool]
  have hget:=held_get h.inv hk u
  cases c5:find4 p u (E.map (·.1)) with
  | some b=>
    have e:bindB l mx (E.map (·.1)) p a u=5:=by unfold bindB; rw [if_neg c1,if_neg hall,c5]; rfl
    rw [e] at hno
    have no2:F24_j2 (some ⟨t,0,none⟩) p (kindB p) true (t6 a) (t4 u) (bdc bd0) hq K:=by
      unfold F24_j2
      rw [ite2_true]
      exact ifI rfl (ifI rfl (ifI (Nat.le_refl 26) (hno (by decide))))
    have eq:isQ l (heldB (E.map (·.1)) (kindB p)) u=(!b.st,b.st):=by
      unfold isQ
      rw [if_neg (by rw [hmq]; simp),hget,c5]; rfl
    rw [eq]
    cases b.st with
    | true=>exact no2
    | false=>exact no2
  | none=>
  have hnone:getL u (heldB (E.map (·.1)) (kindB p))=none:=by rw [hget,c5]; rfl
  have eq:isQ l (heldB (E.map (·.1)) (kindB p)) u=(false,false):=by
    unfold isQ
    rw [if_neg (by rw [hmq]; simp),hnone]
  rw [eq]
  have eb:bindB l mx (E.map (·.1)) p a u=mayB p a (E.map (·.1)) mx:=by unfold bindB; rw [if_neg c1,if_neg hall,c5]; rfl
  rw [ite2_false]
  unfold F24_j2
  rw [ite2_false,t6_cells,ldL_some]
  refine P68 h hp ha ?_
  rw [intV_int]
  by_cases c6:mayB p a (E.map (·.1)) mx=0
  rotate_left
  · rw [show (mayB p a (E.map (·.1)) mx != 0)=true by simp [c6],ite2_true]
    rw [eb] at hno
    exact ifI rfl (ifI rfl (ifI (Nat.le_refl 26) (hno c6)))
  rw [show (mayB p a (E.map (·.1)) mx != 0)=false by simp [c6],ite2_false,ptrN_some]
  obtain ⟨_,hport,f6,hlt⟩:=mayB_0 c6
  refine ⟨hk,hk3,?_⟩
  rw [h.ck hk,ldV_some,pq,t4_all,ldL_some]
  have hrq:reserveQ l (heldB (E.map (·.1)) (kindB p)) u=0:=by
    unfold reserveQ
    rw [if_neg (by rw [hmq]; simp),hnone]; rfl
  refine C78y hpool hinv.len4 hrq fun ent hent=>?_
  rw [intV_int,show ((0:Int) != 0)=false from rfl,ite2_false,ldL_some,ldL_some,if_pos (t6_len _),if_pos (t4_len _),bd_newS]
  have h2:=h.hold k3 hent
  refine P70 h2 (y:=⟨0,p,a,u,true,0⟩) hk ha hu rfl ⟨c4,c3,hport⟩ f6 c5 (by simpa using hlt) hn fun hq2 ps2 b h3=>?_
  rw [aggV_agg,if_pos (bdc_len _),if_pos (bdc_one _),if_pos (by simp [bdc_len]),bd_spl rfl,bdc_cells,ldL_some]
  refine hyes (by rw [eb]; exact c6) hq2 ?_
  have:=BdW.of h3 fun k hk'=>by
    rw [List.map_append]
    show _=heldB (E.map (·.1)++[⟨((last+1:Nat):Int),p,a,u,true,0⟩]) k
    rw [held_put]
    by_cases hkk:k=(kindB p).toNat
    · rw [if_pos hkk,if_pos (by rw [hkk]; exact kn.symm),hkk,kn]
      exact putL_none hnone
    · rw [if_neg hkk,if_neg (fun e=>hkk (by show k=(kindB p).toNat; simp only at e; omega))]
  rw [List.map_append] at this
  exact this
end
end Go.Proofs
set_option linter.unusedVariables false
set_option linter.unusedSimpArgs false
set_option maxRecDepth 20000
namespace Go.Proofs
open Go Go.HL
theorem PoolR.off {q F:HP} {p m:Nat} {l:List Q} {low high:Int} (h:PoolR q p l low high [] m) (hp:F p=.none) (hm:F m=.none)
    (hf:∀ s c,q p=.cells 184 [.slice s l.length c,.int .i64 low,.int .i64 high,.map (some m)] 0→∀ b,s=some ⟨b,0,none⟩→F b=.none):PoolR (HP.off q F) p l low high [] m:=by
  obtain ⟨a,c,h1,h2,h3⟩:=h
  refine ⟨a,c,by rw [HP.off_none hp]; exact h1,?_,by rw [HP.off_none hm]; exact h3⟩
  have hb:=hf a c h1
  rcases h2 with h2 | ⟨b,rfl,e2,e3,e4⟩
  · exact .inl h2
  · exact .inr ⟨b,rfl,e2,e3,by rw [HP.off_none (hb b rfl)]; exact e4⟩
theorem HSub.join {hp hp' T:HP} (hT:HSub T hp) (h1:HSub (HP.off hp T) hp') (h2:HSub T hp'):HSub hp hp':=fun x=>by
  by_cases ht:T x=.none
  · have:=h1 x
    rw [HP.off_none ht] at this
    exact this
  · right
    have e1:hp' x=T x:=h2.some rfl ht
    have e2:hp x=T x:=hT.some rfl ht
    rw [e1,e2]
section
variable {tb:Obj} {hp:HP} {ps:Nat→HP} {K:Value→HP→Prop}
theorem N67 {a:Option Addr} {n c:Nat} {l:List Q} {low high:Int} (hP:Parts hp ps) (i j:Nat) (hij:i≠j) (hi:∀ b,ps i b=.none) (hs:Shows (ps j) a n 4 (l.flatMap v4)) (hl:l.length=n) (hnc:n≤c) (h1:okZ low) (h2:okZ high)
    (hbad:newOk l low high=false→∀ hp',Parts hp' ps→K (.tuple ⟨[.pointer none,.int .i64 1]⟩) hp')
    (hok:newOk l low high=true→∀ p m r hp',PoolR r p l low high [] m→Parts hp' (pu ps i r)→K (.tuple ⟨[ptr p 0,.int .i64 0]⟩) hp') :
    CF Tryd.prog 67 [.slice a n c,.int .i64 low,.int .i64 high] hp K:=by
  refine CF.part hP j (C67 (K:=fun v q=>(v=.tuple ⟨[.pointer none,.int .i64 1]⟩∧q=ps j∧newOk l low high=false)∨(newOk l low high=true∧∃ p m,v=.tuple ⟨[ptr p 0,.int .i64 0]⟩∧HSub (ps j) q∧PoolR (HP.off q (ps j)) p l low high [] m)) hs hl hnc h1 h2
    (fun e=>.inl ⟨rfl,rfl,e⟩) fun e p m q hsub hp0 hm0 hr hf=>.inr ⟨e,p,m,rfl,hsub,hr.off hp0 hm0 hf⟩) ?_
  rintro u q hp' (⟨rfl,rfl,e⟩ | ⟨e,p,m,rfl,hsub,hr⟩) hP'
  · have:pu ps j (ps j)=ps:=funext fun k=>by
      by_cases hk:k=j
      · subst hk; rw [pu_eq]
      · rw [pu_ne _ _ hk]
    rw [this] at hP'
    exact hbad e hp' hP'
  · refine hok e p m _ hp' hr ?_
    have:=hP'.split (i:=j) (j:=i) hij (fun b=>by rw [pu_ne _ _ hij]; exact hi b) (l:=ps j) (r:=HP.off q (ps j)) (by rw [pu_eq]; exact hsub) (by rw [pu_eq]; exact HSub.off _ _) (Disj.off _ _)
    have e:pu (pu (pu ps j q) j (ps j)) i (HP.off q (ps j))=pu ps i (HP.off q (ps j)):=by
      funext k
      by_cases h1:k=i
      · subst h1; rw [pu_eq,pu_eq]
      · rw [pu_ne _ _ h1,pu_ne _ _ h1]
        by_cases h2:k=j
        · subst h2; rw [pu_eq]
        · rw [pu_ne _ _ h2,pu_ne _ _ h2]
    rw [e] at this
    exact this
def newBOk (l:List Q) (low high mx:Int):Prop:=newOk l low high=true∧1≤mx∧mx≤65536
theorem InvB.nil {l:List Q} {low high:Int} {mx:Nat} (h:newOk l low high=true) (hm:mx≤65536) (hl:∀ q∈l,okQ q):InvB l low high mx 0 0 [] where
  asc:=by simp
  rng:=by simp
  keys6:=by simp
  keys4:=by simp
  ok:=by simp
  pool:=by simp
  len:=by simp
  mx:=hm
  last:=Nat.le_refl _
  n:=by omega
  new:=h
  okl:=hl
def nt (mx:Nat) (f:Q) (m x o:Nat) (A B C:Value):List Value:=.int .i64 mx::.int .i64 0::(v4 f++[.map (some m),ptr x 0,ptr o 0,A,B,C])
def poolV (pl:Nat→Nat) (i k:Nat):Value:=if k<i then ptr (pl k) 0 else .pointer none
theorem nt_set (mx:Nat) (f:Q) (m x o:Nat) (pl:Nat→Nat) (i p:Nat) (hi:i<3) :
    (nt mx f m x o (poolV pl i 0) (poolV pl i 1) (poolV pl i 2)).set (0+9+i*1) (ptr p 0)=nt mx f m x o (poolV (fun k=>if k=i then p else pl k) (i+1) 0) (poolV (fun k=>if k=i then p else pl k) (i+1) 1) (poolV (fun k=>if k=i then p else pl k) (i+1) 2):=by
  match i,hi with
  | 0,_=>rfl
  | 1,_=>rfl
  | 2,_=>rfl
set_option maxHeartbeats 2000000 in
theorem N17 {a:Option Addr} {n c:Nat} {l:List Q} {low high mx:Int} (hP:Parts hp ps) (hs:Shows (ps 0) a n 4 (l.flatMap v4)) (ht:TabR tb (ps 1)) (hl:l.length=n) (hnc:n≤c) (h1:okZ low) (h2:okZ high) (hq:∀ q∈l,okQ q)
    (hbad:¬ newBOk l low high mx→K (.tuple ⟨[.pointer none,.int .i64 1]⟩) hp)
    (hok:newBOk l low high mx→∀ t r hp',BdW tb r t l low high mx.toNat 0 0 []→Parts hp' (pu ps 1 r)→K (.tuple ⟨[ptr t 0,.int .i64 0]⟩) hp') :
    CF Tryd.prog 17 [.slice a n c,.int .i64 low,.int .i64 high,.int .i64 mx] hp K:=by
  refine CF.drop (F17_ok a n c low high mx hp _ ?_)
  unfold F17
  have bad:∀ x o,¬ newBOk l low high mx→F17_j1 a n c low high mx x o true hp fun v hp'=>∃ hp'',HSub hp'' hp'∧K v hp'':=fun x o hne=>by
    unfold F17_j1
    rw [ite2_true]
    exact ⟨hp,HSub.refl _,hbad hne⟩
  have hT:HSub (ps 1) hp:=hP.sub 1
  have hF0:HSub (ps 0) (HP.off hp (ps 1)):=(hP.sub 0).off_of (hP.dis 1 0 (by omega))
  have P0:Parts hp (pu (pu (fun _ _=>.none) 1 (ps 1)) 0 (HP.off hp (ps 1))):=Parts.of_two (HSub.off _ _) hT (Disj.off _ _).symm
  generalize hF:HP.off hp (ps 1)=F at *
  have f0:∀ i,2≤i→∀ b,(pu (pu (fun _ _=>Ent.none) 1 (ps 1)) 0 F) i b=.none:=fun i hi b=>by
    rw [pu_ne _ _ (by omega),pu_ne _ _ (by omega)]
  refine N66 P0 2 (f0 2 (by omega)) (fun hm=>?_) fun hm x l1 hp1 hx1 P1 hs1=>?_
  · simp only [tup2V_mk,intV_int]
    rw [ptrV_pointer]
    refine N66 P0 2 (f0 2 (by omega)) (fun _=>?_) (fun hm'=>absurd hm hm')
    simp only [tup2V_mk,intV_int]
    rw [ptrV_pointer]
    exact bad none none fun hh=>by have:=hh.2; omega
  rw [tup2V_mk,pq,intV_int]
  have f1:∀ i,3≤i→∀ b,(pu (pu (pu (fun _ _=>Ent.none) 1 (ps 1)) 0 F) 2 l1) i b=.none:=fun i hi b=>by
    rw [pu_ne _ _ (by omega)]; exact f0 i (by omega) b
  refine N66 P1 3 (f1 3 (by omega)) (fun hm'=>absurd hm' hm) fun _ o l2 hp2 hx2 P2 hs2=>?_
  rw [tup2V_mk,pq,intV_int,show ((0:Int) != 0)=false from rfl,ite2_false]
  unfold F17_j1
  rw [ite2_false]
  refine fun (b13:Nat) (hb13:hp2 b13=Ent.none)=>?_
  refine fun (b14:Nat) (hb14:(hp2.set b13 (.obj (.map #[] 0))) b14=Ent.none)=>?_
  have hne:b14≠b13:=fun e=>by rw [e,HP.set_eq] at hb14; cases hb14
  have hmx:((mx.toNat:Nat):Int)=mx:=by omega
  have e1:(pu (pu (pu (pu (fun _ _=>Ent.none) 1 (ps 1)) 0 F) 2 l1) 3 l2) 1=ps 1:=by
    rw [pu_ne _ _ (by omega),pu_ne _ _ (by omega),pu_ne _ _ (by omega),pu_eq]
  have P3:=P2.new 1 hb13 (.obj (.map #[] 0))
  rw [e1] at P3
  have P4:=P3.new 1 hb14 (.cells 127 [(.int .i64 mx),(.int .i64 0),(.int .u8 0),(.int .u8 0),(.int .u8 0),(.int .u8 0),(.map (some b13)),(ptr x 0),(ptr o 0),(.pointer none),(.pointer none),(.pointer none)] 0)
  rw [pu_eq,pu_pu] at P4
  have ht14:(ps 1) b14=.none:=by
    rw [HP.set_ne _ _ hne] at hb14
    exact (e1▸P2.sub 1:HSub (ps 1) hp2).none hb14
  have hT1:HSub (ps 1) ((((ps 1).set b13 (.obj (.map #[] 0))).set b14 (.cells 127 [(.int .i64 mx),(.int .i64 0),(.int .u8 0),(.int .u8 0),(.int .u8 0),(.int .u8 0),(.map (some b13)),(ptr x 0),(ptr o 0),(.pointer none),(.pointer none),(.pointer none)] 0))):=by
    have g1:(ps 1) b13=.none:=by
      have:=(e1▸P2.sub 1:HSub (ps 1) hp2); exact this.none hb13
    have g2:((ps 1).set b13 (.obj (.map #[] 0))) b14=.none:=by
      rw [HP.set_ne _ _ hne]; exact ht14
    exact (HSub.set_fresh _ _ g1).trans (HSub.set_fresh _ _ g2)
  have m1:MapE iw (fun k:Nat=>ptr k 0) [] (((((ps 1).set b13 (.obj (.map #[] 0))).set b14 (.cells 127 [(.int .i64 mx),(.int .i64 0),(.int .u8 0),(.int .u8 0),(.int .u8 0),(.int .u8 0),(.map (some b13)),(ptr x 0),(ptr o 0),(.pointer none),(.pointer none),(.pointer none)] 0))) b13):=by
    rw [HP.set_ne _ _ hne.symm,HP.set_eq]; exact MapE.empty _ _
  have t1:((((ps 1).set b13 (.obj (.map #[] 0))).set b14 (.cells 127 [(.int .i64 mx),(.int .i64 0),(.int .u8 0),(.int .u8 0),(.int .u8 0),(.int .u8 0),(.map (some b13)),(ptr x 0),(ptr o 0),(.pointer none),(.pointer none),(.pointer none)] 0))) b14=.cells 127 (nt mx.toNat zq4 b13 x o (poolV (fun _=>0) 0 0) (poolV (fun _=>0) 0 1) (poolV (fun _=>0) 0 2)) 0:=by
    rw [HP.set_eq]; unfold nt; rw [hmx]; rfl
  generalize (((ps 1).set b13 (.obj (.map #[] 0))).set b14 (.cells 127 [(.int .i64 mx),(.int .i64 0),(.int .u8 0),(.int .u8 0),(.int .u8 0),(.int .u8 0),(.map (some b13)),(ptr x 0),(ptr o 0),(.pointer none),(.pointer none),(.pointer none)] 0))=A at *
  have dig:∀ {A':HP},HSub (ps 1) A'→TabR tb A':=fun hh=>ht.sub hh
  unfold F17_j3
  refine LoopP.by (J:=fun k (z:Int) hp'=>∃ (i:Nat) (A':HP) (pl pm:Nat→Nat) (qs:Nat→HP),z=i∧k=3-i∧i≤3∧Parts hp' qs∧qs 0=F∧qs 1=A'∧qs 2=l1∧qs 3=l2∧(∀ j,4+i≤j→∀ b,qs j b=.none)∧(∀ j,j<i→PoolR (qs (4+j)) (pl j) l low high [] (pm j)) ∧
      HSub (ps 1) A'∧MapE iw (fun k:Nat=>ptr k 0) [] (A' b13)∧A' b14=.cells 127 (nt mx.toNat zq4 b13 x o (poolV pl i 0) (poolV pl i 1) (poolV pl i 2)) 0∧(0<i→newOk l low high=true)) ?_
    (n:=3) ⟨0,A,fun _=>0,fun _=>0,_,rfl,rfl,by omega,P4,by rw [pu_ne _ _ (by omega),pu_ne _ _ (by omega),pu_ne _ _ (by omega),pu_eq],pu_eq ..,by rw [pu_ne _ _ (by omega),pu_ne _ _ (by omega),pu_eq],by rw [pu_ne _ _ (by omega),pu_eq],?_,fun j hj=>absurd hj (by omega),hT1,m1,t1,fun hh=>absurd hh (by omega)⟩
  rotate_left
  · intro j hj b
    rw [pu_ne _ _ (by omega),pu_ne _ _ (by omega)]; exact f1 j (by omega) b
  rintro I k z hp' ⟨i,A',pl,pm,qs,rfl,rfl,hi3,PP,q0,q1,q2,q3,qf,qp,hTA,hm,hta,hnew⟩ hI
  have hdrop:∀ hp'',Parts hp'' qs→HSub hp hp'':=fun hp'' PP'=>HSub.join hT (by rw [hF]; exact PP'.at 0 q0) (hTA.trans (PP'.at 1 q1))
  unfold F17_l4
  by_cases hi:i<3
  · rw [decide_eq_true (by omega),ite2_true]
    refine N67 PP (4+i) 0 (by omega) (qf (4+i) (Nat.le_refl _)) (by rw [q0]; exact hs.sub hF0) hl hnc h1 h2 (fun e hp'' PP'=>?_) fun e p m r hp'' hr PP'=>?_
    · rw [tup2V_mk,ptrV_pointer,intV_int,show ((1:Int) != 0)=true from rfl,ite2_true]
      exact ⟨hp,hdrop hp'' PP',hbad fun hh=>by rw [hh.1] at e; cases e⟩
    · rw [tup2V_mk,pq,intV_int,show ((0:Int) != 0)=false from rfl,ite2_false,ptrN_some]
      refine ⟨by omega,by omega,?_⟩
      have hta':hp'' b14=.cells 127 (nt mx.toNat zq4 b13 x o (poolV pl i 0) (poolV pl i 1) (poolV pl i 2)) 0:=(PP'.at 1 (by rw [pu_ne _ _ (by omega)]; exact q1)).cells hta
      rw [Int.toNat_natCast]
      refine HP.st_at hta' (by simp [nt,v4]; omega) ?_
      have hset:=nt_set mx.toNat zq4 b13 x o pl i p hi
      rw [show (Value.pointer (some ⟨p,0,none⟩))=ptr p 0 from rfl,hset]
      have P5:=PP'.put 1 (b:=b14) (by rw [pu_ne _ _ (by omega),q1,hta]; simp) (.cells 127 (nt mx.toNat zq4 b13 x o (poolV (fun k=>if k=i then p else pl k) (i+1) 0) (poolV (fun k=>if k=i then p else pl k) (i+1) 1) (poolV (fun k=>if k=i then p else pl k) (i+1) 2)) 0)
      rw [w64 (by omega) (by omega)]
      have hbm:b13≠b14:=hne.symm
      refine hI (3-(i+1)) _ _ (by omega) ⟨i+1,_,fun k=>if k=i then p else pl k,fun k=>if k=i then m else pm k,_,by omega,rfl,by omega,P5,by rw [pu_ne _ _ (by omega),pu_ne _ _ (by omega)]; exact q0,pu_eq ..,by rw [pu_ne _ _ (by omega),pu_ne _ _ (by omega)]; exact q2,by rw [pu_ne _ _ (by omega),pu_ne _ _ (by omega)]; exact q3,?_,?_,?_,?_,?_,fun _=>e⟩
      · intro j hj b
        rw [pu_ne _ _ (by omega),pu_ne _ _ (by omega)]; exact qf j (by omega) b
      · intro j hj
        rw [pu_ne _ _ (by omega)]
        by_cases hji:j=i
        · subst hji
          rw [pu_eq]
          show PoolR r (if j=j then p else pl j) l low high [] (if j=j then m else pm j)
          rw [if_pos rfl,if_pos rfl]; exact hr
        · rw [pu_ne _ _ (by omega)]
          show PoolR (qs (4+j)) (if j=i then p else pl j) l low high [] (if j=i then m else pm j)
          rw [if_neg hji,if_neg hji]; exact qp j (by omega)
      · rw [pu_ne _ _ (by omega),q1]
        exact hTA.up ht14 _
      · rw [pu_ne _ _ (by omega),q1,HP.set_ne _ _ hbm]; exact hm
      · rw [HP.set_eq]
  · have hi':i=3:=by omega
    subst hi'
    rw [decide_eq_false (by omega),ite2_false]
    have hnew':=hnew (by omega)
    have hlen:1≤l.length:=by
      have:=hnew'
      simp only [newOk,Bool.and_eq_true,decide_eq_true_eq] at this
      omega
    unfold F17_j2
    have hrow:Shows hp' a n 4 (l.flatMap v4):=(hs.sub hF0).sub (PP.at 0 q0)
    obtain ⟨b,oo,rfl,hc⟩:=hrow.get v4_len hl (by omega:0<n)
    refine ⟨by omega,by omega,?_⟩
    rw [ptrN_some,show oo+Int.toNat 0*4=oo+0*4 from rfl,hc,ldL_some,ptrN_some]
    refine ⟨v4_len _,?_⟩
    have hta':hp' b14=.cells 127 (nt mx.toNat zq4 b13 x o (poolV pl 3 0) (poolV pl 3 1) (poolV pl 3 2)) 0:=(PP.at 1 q1).cells hta
    refine HP.stN_at hta' (by simp [nt,v4]) (v4_one _) ?_
    have hhd:l[0]=l.headD zq4:=by
      cases l with
      | nil=>simp at hlen
      | cons y l=>rfl
    have hsp:splice (nt mx.toNat zq4 b13 x o (poolV pl 3 0) (poolV pl 3 1) (poolV pl 3 2)) (0+2) (v4 l[0])=tabC mx.toNat 0 (l.headD zq4) b13 x o pl:=by
      rw [← hhd]; rfl
    rw [hsp]
    have P5:=PP.put 1 (b:=b14) (by rw [q1,hta]; simp) (.cells 127 (tabC mx.toNat 0 (l.headD zq4) b13 x o pl) 0)
    rw [q1] at P5
    have hbm:b13≠b14:=hne.symm
    have hnb:newBOk l low high mx:=⟨hnew',by omega,by omega⟩
    have ht0:b14≠0:=fun e'=>by
      have:=(dig hTA).1
      rw [← e',hta] at this; cases this
    refine ⟨_,HSub.refl _,hok hnb b14 (HP.off (hp'.set b14 (.cells 127 (tabC mx.toNat 0 (l.headD zq4) b13 x o pl) 0)) F) _ ?_ ?_⟩
    · have Pr:Parts (HP.off (hp'.set b14 (.cells 127 (tabC mx.toNat 0 (l.headD zq4) b13 x o pl) 0)) F) (fun j=>(pu qs 1 (A'.set b14 (.cells 127 (tabC mx.toNat 0 (l.headD zq4) b13 x o pl) 0))) (j+1)):=by
        refine ⟨fun j=>?_,fun j k hjk=>P5.dis (j+1) (k+1) (by omega)⟩
        have hd:=P5.dis 0 (j+1) (by omega)
        rw [pu_ne _ _ (by omega:(0:Nat)≠1),q0] at hd
        exact (P5.sub (j+1)).off_of hd
      refine ⟨[],_,b13,x,o,pl,pm,rfl,Pr,?_,?_,?_,fun k hk=>?_,InvB.nil hnew' (by omega) hq⟩
      · show BdM tb (pu qs 1 _ 1) _ _ _ _ _ _ _ _ _
        rw [pu_eq]
        refine ⟨HP.set_eq ..,by rw [HP.set_ne _ _ hbm]; exact hm,fun e he=>absurd he (by simp),?_⟩
        exact ⟨by rw [HP.set_ne _ _ ht0.symm]; exact (dig hTA).1,ht.2⟩
      · show IdxR (pu qs 1 _ 2) _ _ _
        rw [pu_ne _ _ (by omega),q2]; exact hx1
      · show IdxR (pu qs 1 _ 3) _ _ _
        rw [pu_ne _ _ (by omega),q3]; exact hx2
      · show PoolR (pu qs 1 _ (3+k+1)) _ _ _ _ _ _
        rw [pu_ne _ _ (by omega),show 3+k+1=4+k by omega]
        exact qp k hk
    · refine ⟨fun j=>?_,fun j k hjk=>?_⟩
      · by_cases hj:j=1
        · subst hj; rw [pu_eq]; exact HSub.off _ _
        · rw [pu_ne _ _ hj]
          have h3:HSub (ps j) F:=by rw [← hF]; exact (hP.sub j).off_of (hP.dis 1 j (fun e=>hj e.symm))
          exact h3.trans (P5.at 0 (by rw [pu_ne _ _ (by omega)]; exact q0))
      · have key:∀ j,j≠1→Disj (ps j) (HP.off (hp'.set b14 (.cells 127 (tabC mx.toNat 0 (l.headD zq4) b13 x o pl) 0)) F):=fun j hj=>by
          have h3:HSub (ps j) F:=by rw [← hF]; exact (hP.sub j).off_of (hP.dis 1 j (fun e=>hj e.symm))
          exact (Disj.off _ _).sub h3
        by_cases hj:j=1
        · subst hj
          rw [pu_eq,pu_ne _ _ (fun e=>hjk e.symm)]
          exact (key k (fun e=>hjk e.symm)).symm
        · rw [pu_ne _ _ hj]
          by_cases hk:k=1
          · subst hk; rw [pu_eq]; exact key j hj
          · rw [pu_ne _ _ hk]; exact hP.dis j k hjk
end
end Go.Proofs
