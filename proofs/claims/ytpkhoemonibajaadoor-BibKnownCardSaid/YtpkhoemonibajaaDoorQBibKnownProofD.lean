/- Parts of the proof of BibKnownProof: the logic of what is known of memory, functions' contracts. -/
import Derived.Test.YtpkhoemonibajaaDoorQBibKnownProofC
import Derived.Test.YtpkhoemonibajaaDoorHlAbb
import Derived.Test.YtpkhoemonibajaaDoorProg
import Derived.Test.YtpkhoemonibajaaDoorHlOrd2
import Derived.Test.YtpkhoemonibajaaDoorRows
import Derived.Test.YtpkhoemonibajaaDoorHlLaid
import Derived.Test.YtpkhoemonibajaaDoorHlArg
import Derived.ProofKit
import Derived.LaidLaws
set_option linter.unusedVariables false
set_option linter.unusedSimpArgs false
set_option linter.unusedVariables false
set_option maxRecDepth 20000
namespace Go.Proofs
open Go Go.HL
section
variable {e E:Env} {x0 x1:Int} {k4:List Value} {hp:HP} {K:Env→PV→HP→Prop}
abbrev R19 (p n:Nat):=RW Tryd.prog 9 [4] (opsAt Tryd.f19 (pth p)) (List.range n)
theorem F19_r0:R19 2 1 e V0 hp K=
 K (upd e 4 (sR 4 0)) (upd V0 4 (32,[.int .u8 0,.int .u8 0,.int .u8 0,.int .u8 0,.int .u8 0,.int .u8 0,.int .u8 0,.int .u8 0,.int .u8 0,.int .u8 0,.int .u8 0,.int .u8 0,.int .u8 0,.int .u8 0,.int .u8 0,.int .u8 0,.int .i64 0])) hp:= by kernel_rfl
theorem F19_r1 (h:E=upd (w2 e 4 (sR 4 0) 1 (sI x1)) 0 (sV (.int .u8 x0))):R19 5 5 E (upd V0 4 (32,k4)) hp K=
    (if List.length [(Value.int .u8 32),(.int .u8 1),.int .u8 0,.int .u8 0,.int .u8 0,.int .u8 0,.int .u8 0,.int .u8 0,.int .u8 0,.int .u8 0,.int .u8 0,.int .u8 0,.int .u8 0,.int .u8 0,.int .u8 0,(.int .u8 x0)]=16 then (if List.length (List.set (splice [.int .u8 0,.int .u8 0,.int .u8 0,.int .u8 0,.int .u8 0,.int .u8 0,.int .u8 0,.int .u8 0,.int .u8 0,.int .u8 0,.int .u8 0,.int .u8 0,.int .u8 0,.int .u8 0,.int .u8 0,.int .u8 0,.int .i64 0] 0 [(.int .u8 32),(.int .u8 1),.int .u8 0,.int .u8 0,.int .u8 0,.int .u8 0,.int .u8 0,.int .u8 0,.int .u8 0,.int .u8 0,.int .u8 0,.int .u8 0,.int .u8 0,.int .u8 0,.int .u8 0,(.int .u8 x0)]) 16 (.int .i64 x1))=17 then (if List.all (List.set (splice [.int .u8 0,.int .u8 0,.int .u8 0,.int .u8 0,.int .u8 0,.int .u8 0,.int .u8 0,.int .u8 0,.int .u8 0,.int .u8 0,.int .u8 0,.int .u8 0,.int .u8 0,.int .u8 0,.int .u8 0,.int .u8 0,.int .i64 0] 0 [(.int .u8 32),(.int .u8 1),.int .u8 0,.int .u8 0,.int .u8 0,.int .u8 0,.int .u8 0,.int .u8 0,.int .u8 0,.int .u8 0,.int .u8 0,.int .u8 0,.int .u8 0,.int .u8 0,.int .u8 0,(.int .u8 x0)]) 16 (.int .i64 x1)) one=true then (if 0+List.length (List.set (splice [.int .u8 0,.int .u8 0,.int .u8 0,.int .u8 0,.int .u8 0,.int .u8 0,.int .u8 0,.int .u8 0,.int .u8 0,.int .u8 0,.int .u8 0,.int .u8 0,.int .u8 0,.int .u8 0,.int .u8 0,.int .u8 0,.int .i64 0] 0 [(.int .u8 32),(.int .u8 1),.int .u8 0,.int .u8 0,.int .u8 0,.int .u8 0,.int .u8 0,.int .u8 0,.int .u8 0,.int .u8 0,.int .u8 0,.int .u8 0,.int .u8 0,.int .u8 0,.int .u8 0,(.int .u8 x0)]) 16 (.int .i64 x1))≤List.length k4 then (K (w4 E 5 (sV (.int .u8 x0)) 6 (sV (.agg ⟨[(.int .u8 32),(.int .u8 1),.int .u8 0,.int .u8 0,.int .u8 0,.int .u8 0,.int .u8 0,.int .u8 0,.int .u8 0,.int .u8 0,.int .u8 0,.int .u8 0,.int .u8 0,.int .u8 0,.int .u8 0,(.int .u8 x0)]⟩)) 7 (sI x1) 8 (sV (.agg ⟨(List.set (splice [.int .u8 0,.int .u8 0,.int .u8 0,.int .u8 0,.int .u8 0,.int .u8 0,.int .u8 0,.int .u8 0,.int .u8 0,.int .u8 0,.int .u8 0,.int .u8 0,.int .u8 0,.int .u8 0,.int .u8 0,.int .u8 0,.int .i64 0] 0 [(.int .u8 32),(.int .u8 1),.int .u8 0,.int .u8 0,.int .u8 0,.int .u8 0,.int .u8 0,.int .u8 0,.int .u8 0,.int .u8 0,.int .u8 0,.int .u8 0,.int .u8 0,.int .u8 0,.int .u8 0,(.int .u8 x0)]) 16 (.int .i64 x1))⟩))) (w2 V0 4 (32,k4) 4 (32,(splice k4 0 (List.set (splice [.int .u8 0,.int .u8 0,.int .u8 0,.int .u8 0,.int .u8 0,.int .u8 0,.int .u8 0,.int .u8 0,.int .u8 0,.int .u8 0,.int .u8 0,.int .u8 0,.int .u8 0,.int .u8 0,.int .u8 0,.int .u8 0,.int .i64 0] 0 [(.int .u8 32),(.int .u8 1),.int .u8 0,.int .u8 0,.int .u8 0,.int .u8 0,.int .u8 0,.int .u8 0,.int .u8 0,.int .u8 0,.int .u8 0,.int .u8 0,.int .u8 0,.int .u8 0,.int .u8 0,(.int .u8 x0)]) 16 (.int .i64 x1))))) hp) else False) else False) else False) else False):=by subst h; kernel_rfl
def F19 (x0 x1:Int) (hp:HP) (K:Kh):Prop:=
  (if List.length [(Value.int .u8 32),(.int .u8 1),.int .u8 0,.int .u8 0,.int .u8 0,.int .u8 0,.int .u8 0,.int .u8 0,.int .u8 0,.int .u8 0,.int .u8 0,.int .u8 0,.int .u8 0,.int .u8 0,.int .u8 0,(.int .u8 x0)]=16 then (if List.length (List.set (splice [.int .u8 0,.int .u8 0,.int .u8 0,.int .u8 0,.int .u8 0,.int .u8 0,.int .u8 0,.int .u8 0,.int .u8 0,.int .u8 0,.int .u8 0,.int .u8 0,.int .u8 0,.int .u8 0,.int .u8 0,.int .u8 0,.int .i64 0] 0 [(.int .u8 32),(.int .u8 1),.int .u8 0,.int .u8 0,.int .u8 0,.int .u8 0,.int .u8 0,.int .u8 0,.int .u8 0,.int .u8 0,.int .u8 0,.int .u8 0,.int .u8 0,.int .u8 0,.int .u8 0,(.int .u8 x0)]) 16 (.int .i64 x1))=17 then (if List.all (List.set (splice [.int .u8 0,.int .u8 0,.int .u8 0,.int .u8 0,.int .u8 0,.int .u8 0,.int .u8 0,.int .u8 0,.int .u8 0,.int .u8 0,.int .u8 0,.int .u8 0,.int .u8 0,.int .u8 0,.int .u8 0,.int .u8 0,.int .i64 0] 0 [(.int .u8 32),(.int .u8 1),.int .u8 0,.int .u8 0,.int .u8 0,.int .u8 0,.int .u8 0,.int .u8 0,.int .u8 0,.int .u8 0,.int .u8 0,.int .u8 0,.int .u8 0,.int .u8 0,.int .u8 0,(.int .u8 x0)]) 16 (.int .i64 x1)) one=true then (if 0+List.length (List.set (splice [.int .u8 0,.int .u8 0,.int .u8 0,.int .u8 0,.int .u8 0,.int .u8 0,.int .u8 0,.int .u8 0,.int .u8 0,.int .u8 0,.int .u8 0,.int .u8 0,.int .u8 0,.int .u8 0,.int .u8 0,.int .u8 0,.int .i64 0] 0 [(.int .u8 32),(.int .u8 1),.int .u8 0,.int .u8 0,.int .u8 0,.int .u8 0,.int .u8 0,.int .u8 0,.int .u8 0,.int .u8 0,.int .u8 0,.int .u8 0,.int .u8 0,.int .u8 0,.int .u8 0,(.int .u8 x0)]) 16 (.int .i64 x1))≤List.length [(Value.int .u8 0),.int .u8 0,.int .u8 0,.int .u8 0,.int .u8 0,.int .u8 0,.int .u8 0,.int .u8 0,.int .u8 0,.int .u8 0,.int .u8 0,.int .u8 0,.int .u8 0,.int .u8 0,.int .u8 0,.int .u8 0,.int .i64 0] then (ldL (cellsN (splice [.int .u8 0,.int .u8 0,.int .u8 0,.int .u8 0,.int .u8 0,.int .u8 0,.int .u8 0,.int .u8 0,.int .u8 0,.int .u8 0,.int .u8 0,.int .u8 0,.int .u8 0,.int .u8 0,.int .u8 0,.int .u8 0,.int .i64 0] 0 (List.set (splice [.int .u8 0,.int .u8 0,.int .u8 0,.int .u8 0,.int .u8 0,.int .u8 0,.int .u8 0,.int .u8 0,.int .u8 0,.int .u8 0,.int .u8 0,.int .u8 0,.int .u8 0,.int .u8 0,.int .u8 0,.int .u8 0,.int .i64 0] 0 [(.int .u8 32),(.int .u8 1),.int .u8 0,.int .u8 0,.int .u8 0,.int .u8 0,.int .u8 0,.int .u8 0,.int .u8 0,.int .u8 0,.int .u8 0,.int .u8 0,.int .u8 0,.int .u8 0,.int .u8 0,(.int .u8 x0)]) 16 (.int .i64 x1))) 0 17) fun l1=>K (.agg ⟨l1⟩) hp) else False) else False) else False) else False)
noncomputable def F19_code:Code:=(.seq (.region 0 (opsAt Tryd.f19 (pth 2)) false) (.seq (.region 1 (opsAt Tryd.f19 (pth 5)) false) .ret))
theorem F19_body:Tryd.f19.body=some F19_code:=by kernel_rfl
theorem F19_ok (x0 x1:Int) (hp:HP) (K:Kh) (h:F19 x0 x1 hp K):CF Tryd.prog 19 [(.int .u8 x0),(.int .i64 x1)] hp K:=by
 refine .inl ⟨by kernel_rfl,AC.intro (N:=9) Tryd.func19 F19_body rfl (Nat.le_of_ble_eq_true rfl) ?_⟩
 unfold F19 at h
 refine Ar F19_r0 ?_ (r2 0 1 Rn) (z2 Sn) Sn
 refine Ar (F19_r1 rfl) ?_ (r2 0 1 (rp 4 4 0 Rn)) (z3 Sn) (z1 Sn)
 refine mf h fun h=>mf h fun h=>mf h fun h=>mf h fun h=>?_
 refine AWP.ret ?_
 exact h
end
section
variable {e E:Env} {x0 x1:Int} {k4:List Value} {hp:HP} {K:Env→PV→HP→Prop}
abbrev R20 (p n:Nat):=RW Tryd.prog 9 [4] (opsAt Tryd.f20 (pth p)) (List.range n)
theorem F20_r0:R20 2 1 e V0 hp K=
 K (upd e 4 (sR 4 0)) (upd V0 4 (34,[.int .u8 0,.int .u8 0,.int .u8 0,.int .u8 0,.int .i64 0])) hp:= by kernel_rfl
theorem F20_r1 (h:E=upd (w2 e 4 (sR 4 0) 1 (sI x1)) 0 (sV (.int .u8 x0))):R20 5 5 E (upd V0 4 (34,k4)) hp K=
    (if List.length [(Value.int .u8 1),.int .u8 0,.int .u8 0,(.int .u8 x0)]=4 then (if List.length (List.set (splice [.int .u8 0,.int .u8 0,.int .u8 0,.int .u8 0,.int .i64 0] 0 [(.int .u8 1),.int .u8 0,.int .u8 0,(.int .u8 x0)]) 4 (.int .i64 x1))=5 then (if List.all (List.set (splice [.int .u8 0,.int .u8 0,.int .u8 0,.int .u8 0,.int .i64 0] 0 [(.int .u8 1),.int .u8 0,.int .u8 0,(.int .u8 x0)]) 4 (.int .i64 x1)) one=true then (if 0+List.length (List.set (splice [.int .u8 0,.int .u8 0,.int .u8 0,.int .u8 0,.int .i64 0] 0 [(.int .u8 1),.int .u8 0,.int .u8 0,(.int .u8 x0)]) 4 (.int .i64 x1))≤List.length k4 then (K (w4 E 5 (sV (.int .u8 x0)) 6 (sV (.agg ⟨[(.int .u8 1),.int .u8 0,.int .u8 0,(.int .u8 x0)]⟩)) 7 (sI x1) 8 (sV (.agg ⟨(List.set (splice [.int .u8 0,.int .u8 0,.int .u8 0,.int .u8 0,.int .i64 0] 0 [(.int .u8 1),.int .u8 0,.int .u8 0,(.int .u8 x0)]) 4 (.int .i64 x1))⟩))) (w2 V0 4 (34,k4) 4 (34,(splice k4 0 (List.set (splice [.int .u8 0,.int .u8 0,.int .u8 0,.int .u8 0,.int .i64 0] 0 [(.int .u8 1),.int .u8 0,.int .u8 0,(.int .u8 x0)]) 4 (.int .i64 x1))))) hp) else False) else False) else False) else False):=by subst h; kernel_rfl
def F20 (x0 x1:Int) (hp:HP) (K:Kh):Prop:=
  (if List.length [(Value.int .u8 1),.int .u8 0,.int .u8 0,(.int .u8 x0)]=4 then (if List.length (List.set (splice [.int .u8 0,.int .u8 0,.int .u8 0,.int .u8 0,.int .i64 0] 0 [(.int .u8 1),.int .u8 0,.int .u8 0,(.int .u8 x0)]) 4 (.int .i64 x1))=5 then (if List.all (List.set (splice [.int .u8 0,.int .u8 0,.int .u8 0,.int .u8 0,.int .i64 0] 0 [(.int .u8 1),.int .u8 0,.int .u8 0,(.int .u8 x0)]) 4 (.int .i64 x1)) one=true then (if 0+List.length (List.set (splice [.int .u8 0,.int .u8 0,.int .u8 0,.int .u8 0,.int .i64 0] 0 [(.int .u8 1),.int .u8 0,.int .u8 0,(.int .u8 x0)]) 4 (.int .i64 x1))≤List.length [(Value.int .u8 0),.int .u8 0,.int .u8 0,.int .u8 0,.int .i64 0] then (ldL (cellsN (splice [.int .u8 0,.int .u8 0,.int .u8 0,.int .u8 0,.int .i64 0] 0 (List.set (splice [.int .u8 0,.int .u8 0,.int .u8 0,.int .u8 0,.int .i64 0] 0 [(.int .u8 1),.int .u8 0,.int .u8 0,(.int .u8 x0)]) 4 (.int .i64 x1))) 0 5) fun l1=>K (.agg ⟨l1⟩) hp) else False) else False) else False) else False)
noncomputable def F20_code:Code:=(.seq (.region 0 (opsAt Tryd.f20 (pth 2)) false) (.seq (.region 1 (opsAt Tryd.f20 (pth 5)) false) .ret))
theorem F20_body:Tryd.f20.body=some F20_code:=by kernel_rfl
theorem F20_ok (x0 x1:Int) (hp:HP) (K:Kh) (h:F20 x0 x1 hp K):CF Tryd.prog 20 [(.int .u8 x0),(.int .i64 x1)] hp K:=by
 refine .inl ⟨by kernel_rfl,AC.intro (N:=9) Tryd.func20 F20_body rfl (Nat.le_of_ble_eq_true rfl) ?_⟩
 unfold F20 at h
 refine Ar F20_r0 ?_ (r2 0 1 Rn) (z2 Sn) Sn
 refine Ar (F20_r1 rfl) ?_ (r2 0 1 (rp 4 4 0 Rn)) (z3 Sn) (z1 Sn)
 refine mf h fun h=>mf h fun h=>mf h fun h=>mf h fun h=>?_
 refine AWP.ret ?_
 exact h
end
section
variable {e E:Env} {x1:OA} {x2 x4 x6:Int} {x8:Bool} {k3 k7:List Value} {hp:HP} {K:Env→PV→HP→Prop}
abbrev R27 (p n:Nat):=RW Tryd.prog 69 [3,5,7,46,51] (opsAt Tryd.f27 (pth p)) (List.range n)
theorem F27_r0:R27 2 1 e V0 hp K=
 K (upd e 0 (sB false)) V0 hp:= by kernel_rfl
theorem F27_r1:R27 5 8 e V0 hp K=
    (if List.length [(Value.int .u8 1),.int .u8 0,.int .u8 0,(.int .u8 1)]=4 then (∀ b1:Nat,hp b1=.none→(CF Tryd.prog 17 [(.slice (some ⟨b1,0,none⟩) 1 1),(.int .i64 1024),(.int .i64 1027),(.int .i64 3)] (HP.set hp b1 (.cells 27 (splice [.int .u8 0,.int .u8 0,.int .u8 0,.int .u8 0] 0 [(.int .u8 1),.int .u8 0,.int .u8 0,(.int .u8 1)]) 0)) fun u2 h3=>tup2V u2 fun u4 u5=>ptrV u4 fun p6=>intV u5 .i64 fun i7=>K (w8 e 10 (sV (.agg ⟨[(.int .u8 1),.int .u8 0,.int .u8 0,(.int .u8 1)]⟩)) 11 (sV (.slice (some ⟨b1,0,none⟩) 1 1)) 12 (sV (.tuple ⟨[(.pointer p6),(.int .i64 i7)]⟩)) 9 (sV (.tuple ⟨[(.pointer p6),(.int .i64 i7)]⟩)) 13 (sP p6) 14 (sI i7) 1 (sP p6) 2 (sI i7)) V0 h3)) else False):=by kernel_rfl
theorem F27_r2:R27 75 1 e V0 hp K=
 K (upd e 0 (sB false)) V0 hp:= by kernel_rfl
theorem F27_r3:R27 23 9 (upd e 1 (sP x1)) V0 hp K=
 CF Tryd.prog 19 [(.int .u8 1),(.int .i64 5000)] hp fun u1 h2=>(aggV u1 fun l3=>CF Tryd.prog 18 [(.pointer x1),(.int .i64 17),(.agg ⟨l3⟩)] h2 fun u4 h5=>tup2V u4 fun u6 u7=>aggV u6 fun l8=>intV u7 .i64 fun i9=>if List.length l8=26 then (if List.all l8 one=true then (if 0+List.length l8≤List.length [(Value.int .i64 0),.int .i64 0,.int .u8 0,.int .u8 0,.int .u8 0,.int .u8 0,.int .u8 0,.int .u8 0,.int .u8 0,.int .u8 0,.int .u8 0,.int .u8 0,.int .u8 0,.int .u8 0,.int .u8 0,.int .u8 0,.int .u8 0,.int .u8 0,.int .i64 0,.int .u8 0,.int .u8 0,.int .u8 0,.int .u8 0,.int .i64 0,.bool false,.int .i64 0] then (K (upd (w8 e 1 (sP x1) 22 (sP x1) 23 (sA l3) 24 (sV (.tuple ⟨[(.agg ⟨l8⟩),(.int .i64 i9)]⟩)) 21 (sV (.tuple ⟨[(.agg ⟨l8⟩),(.int .i64 i9)]⟩)) 25 (sA l8) 26 (sI i9) 3 (sR 3 0)) 4 (sI i9)) (w2 V0 3 (36,[.int .i64 0,.int .i64 0,.int .u8 0,.int .u8 0,.int .u8 0,.int .u8 0,.int .u8 0,.int .u8 0,.int .u8 0,.int .u8 0,.int .u8 0,.int .u8 0,.int .u8 0,.int .u8 0,.int .u8 0,.int .u8 0,.int .u8 0,.int .u8 0,.int .i64 0,.int .u8 0,.int .u8 0,.int .u8 0,.int .u8 0,.int .i64 0,.bool false,.int .i64 0]) 3 (36,(splice [.int .i64 0,.int .i64 0,.int .u8 0,.int .u8 0,.int .u8 0,.int .u8 0,.int .u8 0,.int .u8 0,.int .u8 0,.int .u8 0,.int .u8 0,.int .u8 0,.int .u8 0,.int .u8 0,.int .u8 0,.int .u8 0,.int .u8 0,.int .u8 0,.int .i64 0,.int .u8 0,.int .u8 0,.int .u8 0,.int .u8 0,.int .i64 0,.bool false,.int .i64 0] 0 l8))) h5) else False) else False) else False):= by kernel_rfl
theorem F27_r4:R27 47 9 (upd e 1 (sP x1)) (upd V0 3 (36,k3)) hp K=
 CF Tryd.prog 19 [(.int .u8 1),(.int .i64 5000)] hp fun u1 h2=>(aggV u1 fun l3=>CF Tryd.prog 18 [(.pointer x1),(.int .i64 17),(.agg ⟨l3⟩)] h2 fun u4 h5=>tup2V u4 fun u6 u7=>aggV u6 fun l8=>intV u7 .i64 fun i9=>if List.length l8=26 then (if List.all l8 one=true then (if 0+List.length l8≤List.length [(Value.int .i64 0),.int .i64 0,.int .u8 0,.int .u8 0,.int .u8 0,.int .u8 0,.int .u8 0,.int .u8 0,.int .u8 0,.int .u8 0,.int .u8 0,.int .u8 0,.int .u8 0,.int .u8 0,.int .u8 0,.int .u8 0,.int .u8 0,.int .u8 0,.int .i64 0,.int .u8 0,.int .u8 0,.int .u8 0,.int .u8 0,.int .i64 0,.bool false,.int .i64 0] then (K (upd (w8 e 1 (sP x1) 28 (sP x1) 29 (sA l3) 30 (sV (.tuple ⟨[(.agg ⟨l8⟩),(.int .i64 i9)]⟩)) 27 (sV (.tuple ⟨[(.agg ⟨l8⟩),(.int .i64 i9)]⟩)) 31 (sA l8) 32 (sI i9) 5 (sR 5 0)) 6 (sI i9)) (w3 V0 3 (36,k3) 5 (36,[.int .i64 0,.int .i64 0,.int .u8 0,.int .u8 0,.int .u8 0,.int .u8 0,.int .u8 0,.int .u8 0,.int .u8 0,.int .u8 0,.int .u8 0,.int .u8 0,.int .u8 0,.int .u8 0,.int .u8 0,.int .u8 0,.int .u8 0,.int .u8 0,.int .i64 0,.int .u8 0,.int .u8 0,.int .u8 0,.int .u8 0,.int .i64 0,.bool false,.int .i64 0]) 5 (36,(splice [.int .i64 0,.int .i64 0,.int .u8 0,.int .u8 0,.int .u8 0,.int .u8 0,.int .u8 0,.int .u8 0,.int .u8 0,.int .u8 0,.int .u8 0,.int .u8 0,.int .u8 0,.int .u8 0,.int .u8 0,.int .u8 0,.int .u8 0,.int .u8 0,.int .i64 0,.int .u8 0,.int .u8 0,.int .u8 0,.int .u8 0,.int .i64 0,.bool false,.int .i64 0] 0 l8))) h5) else False) else False) else False):= by kernel_rfl
theorem F27_r5:R27 95 9 (upd e 1 (sP x1)) (upd V0 3 (36,k3)) hp K=
 CF Tryd.prog 20 [(.int .u8 1),(.int .i64 1024)] hp fun u1 h2=>(aggV u1 fun l3=>CF Tryd.prog 63 [(.pointer x1),(.int .i64 17),(.agg ⟨l3⟩)] h2 fun u4 h5=>tup2V u4 fun u6 u7=>aggV u6 fun l8=>boolV u7 fun q9=>if List.length l8=26 then (if List.all l8 one=true then (if 0+List.length l8≤List.length [(Value.int .i64 0),.int .i64 0,.int .u8 0,.int .u8 0,.int .u8 0,.int .u8 0,.int .u8 0,.int .u8 0,.int .u8 0,.int .u8 0,.int .u8 0,.int .u8 0,.int .u8 0,.int .u8 0,.int .u8 0,.int .u8 0,.int .u8 0,.int .u8 0,.int .i64 0,.int .u8 0,.int .u8 0,.int .u8 0,.int .u8 0,.int .i64 0,.bool false,.int .i64 0] then (K (upd (w8 e 1 (sP x1) 34 (sP x1) 35 (sA l3) 36 (sV (.tuple ⟨[(.agg ⟨l8⟩),(.bool q9)]⟩)) 33 (sV (.tuple ⟨[(.agg ⟨l8⟩),(.bool q9)]⟩)) 37 (sA l8) 38 (sB q9) 7 (sR 7 0)) 8 (sB q9)) (w3 V0 3 (36,k3) 7 (36,[.int .i64 0,.int .i64 0,.int .u8 0,.int .u8 0,.int .u8 0,.int .u8 0,.int .u8 0,.int .u8 0,.int .u8 0,.int .u8 0,.int .u8 0,.int .u8 0,.int .u8 0,.int .u8 0,.int .u8 0,.int .u8 0,.int .u8 0,.int .u8 0,.int .i64 0,.int .u8 0,.int .u8 0,.int .u8 0,.int .u8 0,.int .i64 0,.bool false,.int .i64 0]) 7 (36,(splice [.int .i64 0,.int .i64 0,.int .u8 0,.int .u8 0,.int .u8 0,.int .u8 0,.int .u8 0,.int .u8 0,.int .u8 0,.int .u8 0,.int .u8 0,.int .u8 0,.int .u8 0,.int .u8 0,.int .u8 0,.int .u8 0,.int .u8 0,.int .u8 0,.int .i64 0,.int .u8 0,.int .u8 0,.int .u8 0,.int .u8 0,.int .i64 0,.bool false,.int .i64 0] 0 l8))) h5) else False) else False) else False):= by kernel_rfl
theorem F27_r6 (h:E=upd (w5 e 8 (sB x8) 7 (sR 7 0) 6 (sI x6) 4 (sI x4) 3 (sR 3 0)) 1 (sP x1)):R27 191 31 E (w2 V0 7 (36,k7) 3 (36,k3)) hp K=
 ite2 (x4==0) (ite2 (x6==5) (ldV (k3)[0]? fun v1=>intV v1 .i64 fun i2=>ite2 (i2==1) (ldL (cellsN k3 19 5) fun l3=>CF Tryd.prog 20 [(.int .u8 1),(.int .i64 1024)] hp fun u4 h5=>aggV u4 fun l6=>eqAgg Tryd.prog 34 l3 l6 fun q7=>ite2 q7 (ite2 x8 (ldL (cellsN k7 0 26) fun l8=>ldL (cellsN k3 0 26) fun l9=>eqAgg Tryd.prog 36 l8 l9 fun q10=>ite2 q10 (CF Tryd.prog 23 [(.pointer x1)] h5 fun u11 h12=>intV u11 .i64 fun i13=>K (w7 (w8 (w8 (w8 E 39 (sI x4) 40 (sB ((x4==0))) 41 (sB true) 42 (sI x6) 43 (sB ((x6==5))) 44 (sB ((x6==5))) 45 (sB true) 46 (sR 3 0)) 47 (sI i2) 48 (sB ((i2==1))) 49 (sB ((i2==1))) 50 (sB true) 51 (sR 3 19) 52 (sA l3) 53 (sA l6) 54 (sB q7)) 55 (sB q7) 56 (sB true) 57 (sB x8) 58 (sB x8) 59 (sB true) 60 (sA l8) 61 (sA l9) 62 (sB q10)) 63 (sB q10) 64 (sB true) 65 (sP x1) 66 (sI i13) 67 (sB ((i13==1))) 68 (sB ((i13==1))) 0 (sB ((i13==1)))) (w2 V0 7 (36,k7) 3 (36,k3)) h12) (K (w7 (w8 (w8 (w8 E 39 (sI x4) 40 (sB ((x4==0))) 41 (sB true) 42 (sI x6) 43 (sB ((x6==5))) 44 (sB ((x6==5))) 45 (sB true) 46 (sR 3 0)) 47 (sI i2) 48 (sB ((i2==1))) 49 (sB ((i2==1))) 50 (sB true) 51 (sR 3 19) 52 (sA l3) 53 (sA l6) 54 (sB q7)) 55 (sB q7) 56 (sB true) 57 (sB x8) 58 (sB x8) 59 (sB true) 60 (sA l8) 61 (sA l9) 62 (sB q10)) 63 (sB q10) 64 (sB false) 65 sU 66 sU 67 sU 68 (sB false) 0 (sB false)) (w2 V0 7 (36,k7) 3 (36,k3)) h5)) (K (w7 (w8 (w8 (w8 E 39 (sI x4) 40 (sB ((x4==0))) 41 (sB true) 42 (sI x6) 43 (sB ((x6==5))) 44 (sB ((x6==5))) 45 (sB true) 46 (sR 3 0)) 47 (sI i2) 48 (sB ((i2==1))) 49 (sB ((i2==1))) 50 (sB true) 51 (sR 3 19) 52 (sA l3) 53 (sA l6) 54 (sB q7)) 55 (sB q7) 56 (sB true) 57 (sB x8) 58 (sB x8) 59 (sB false) 60 sU 61 sU 62 sU) 63 (sB false) 64 (sB false) 65 sU 66 sU 67 sU 68 (sB false) 0 (sB false)) (w2 V0 7 (36,k7) 3 (36,k3)) h5)) (K (w7 (w8 (w8 (w8 E 39 (sI x4) 40 (sB ((x4==0))) 41 (sB true) 42 (sI x6) 43 (sB ((x6==5))) 44 (sB ((x6==5))) 45 (sB true) 46 (sR 3 0)) 47 (sI i2) 48 (sB ((i2==1))) 49 (sB ((i2==1))) 50 (sB true) 51 (sR 3 19) 52 (sA l3) 53 (sA l6) 54 (sB q7)) 55 (sB q7) 56 (sB false) 57 sU 58 (sB false) 59 (sB false) 60 sU 61 sU 62 sU) 63 (sB false) 64 (sB false) 65 sU 66 sU 67 sU 68 (sB false) 0 (sB false)) (w2 V0 7 (36,k7) 3 (36,k3)) h5)) (K (w7 (w8 (w8 (w8 E 39 (sI x4) 40 (sB ((x4==0))) 41 (sB true) 42 (sI x6) 43 (sB ((x6==5))) 44 (sB ((x6==5))) 45 (sB true) 46 (sR 3 0)) 47 (sI i2) 48 (sB ((i2==1))) 49 (sB ((i2==1))) 50 (sB false) 51 sU 52 sU 53 sU 54 sU) 55 (sB false) 56 (sB false) 57 sU 58 (sB false) 59 (sB false) 60 sU 61 sU 62 sU) 63 (sB false) 64 (sB false) 65 sU 66 sU 67 sU 68 (sB false) 0 (sB false)) (w2 V0 7 (36,k7) 3 (36,k3)) hp)) (K (w7 (w8 (w8 (w8 E 39 (sI x4) 40 (sB ((x4==0))) 41 (sB true) 42 (sI x6) 43 (sB ((x6==5))) 44 (sB ((x6==5))) 45 (sB false) 46 sU) 47 sU 48 sU 49 (sB false) 50 (sB false) 51 sU 52 sU 53 sU 54 sU) 55 (sB false) 56 (sB false) 57 sU 58 (sB false) 59 (sB false) 60 sU 61 sU 62 sU) 63 (sB false) 64 (sB false) 65 sU 66 sU 67 sU 68 (sB false) 0 (sB false)) (w2 V0 7 (36,k7) 3 (36,k3)) hp)) (K (w7 (w8 (w8 (w8 E 39 (sI x4) 40 (sB ((x4==0))) 41 (sB false) 42 sU 43 sU 44 (sB false) 45 (sB false) 46 sU) 47 sU 48 sU 49 (sB false) 50 (sB false) 51 sU 52 sU 53 sU 54 sU) 55 (sB false) 56 (sB false) 57 sU 58 (sB false) 59 (sB false) 60 sU 61 sU 62 sU) 63 (sB false) 64 (sB false) 65 sU 66 sU 67 sU 68 (sB false) 0 (sB false)) (w2 V0 7 (36,k7) 3 (36,k3)) hp):= by subst h; kernel_rfl
def F27_j1 (x1:OA) (x20:Bool) (hp:HP) (K:Kh):Prop:=
  (ite2 x20 (K (.bool false) hp) (CF Tryd.prog 19 [(.int .u8 1),(.int .i64 5000)] hp fun u8 h9=>aggV u8 fun l10=>CF Tryd.prog 18 [(.pointer x1),(.int .i64 17),(.agg ⟨l10⟩)] h9 fun u11 h12=>tup2V u11 fun u13 u14=>aggV u13 fun l15=>intV u14 .i64 fun i16=>if List.length l15=26 then (if List.all l15 one=true then (if 0+List.length l15≤List.length [(Value.int .i64 0),.int .i64 0,.int .u8 0,.int .u8 0,.int .u8 0,.int .u8 0,.int .u8 0,.int .u8 0,.int .u8 0,.int .u8 0,.int .u8 0,.int .u8 0,.int .u8 0,.int .u8 0,.int .u8 0,.int .u8 0,.int .u8 0,.int .u8 0,.int .i64 0,.int .u8 0,.int .u8 0,.int .u8 0,.int .u8 0,.int .i64 0,.bool false,.int .i64 0] then (CF Tryd.prog 19 [(.int .u8 1),(.int .i64 5000)] h12 fun u17 h18=>aggV u17 fun l19=>CF Tryd.prog 18 [(.pointer x1),(.int .i64 17),(.agg ⟨l19⟩)] h18 fun u20 h21=>tup2V u20 fun u22 u23=>aggV u22 fun l24=>intV u23 .i64 fun i25=>if List.length l24=26 then (if List.all l24 one=true then (if 0+List.length l24≤List.length [(Value.int .i64 0),.int .i64 0,.int .u8 0,.int .u8 0,.int .u8 0,.int .u8 0,.int .u8 0,.int .u8 0,.int .u8 0,.int .u8 0,.int .u8 0,.int .u8 0,.int .u8 0,.int .u8 0,.int .u8 0,.int .u8 0,.int .u8 0,.int .u8 0,.int .i64 0,.int .u8 0,.int .u8 0,.int .u8 0,.int .u8 0,.int .i64 0,.bool false,.int .i64 0] then (CF Tryd.prog 20 [(.int .u8 1),(.int .i64 1024)] h21 fun u26 h27=>aggV u26 fun l28=>CF Tryd.prog 63 [(.pointer x1),(.int .i64 17),(.agg ⟨l28⟩)] h27 fun u29 h30=>tup2V u29 fun u31 u32=>aggV u31 fun l33=>boolV u32 fun q34=>if List.length l33=26 then (if List.all l33 one=true then (if 0+List.length l33≤List.length [(Value.int .i64 0),.int .i64 0,.int .u8 0,.int .u8 0,.int .u8 0,.int .u8 0,.int .u8 0,.int .u8 0,.int .u8 0,.int .u8 0,.int .u8 0,.int .u8 0,.int .u8 0,.int .u8 0,.int .u8 0,.int .u8 0,.int .u8 0,.int .u8 0,.int .i64 0,.int .u8 0,.int .u8 0,.int .u8 0,.int .u8 0,.int .i64 0,.bool false,.int .i64 0] then (ite2 (i16==0) (ite2 (i25==5) (ldV ((splice [.int .i64 0,.int .i64 0,.int .u8 0,.int .u8 0,.int .u8 0,.int .u8 0,.int .u8 0,.int .u8 0,.int .u8 0,.int .u8 0,.int .u8 0,.int .u8 0,.int .u8 0,.int .u8 0,.int .u8 0,.int .u8 0,.int .u8 0,.int .u8 0,.int .i64 0,.int .u8 0,.int .u8 0,.int .u8 0,.int .u8 0,.int .i64 0,.bool false,.int .i64 0] 0 l15))[0]? fun v35=>intV v35 .i64 fun i36=>ite2 (i36==1) (ldL (cellsN (splice [.int .i64 0,.int .i64 0,.int .u8 0,.int .u8 0,.int .u8 0,.int .u8 0,.int .u8 0,.int .u8 0,.int .u8 0,.int .u8 0,.int .u8 0,.int .u8 0,.int .u8 0,.int .u8 0,.int .u8 0,.int .u8 0,.int .u8 0,.int .u8 0,.int .i64 0,.int .u8 0,.int .u8 0,.int .u8 0,.int .u8 0,.int .i64 0,.bool false,.int .i64 0] 0 l15) 19 5) fun l37=>CF Tryd.prog 20 [(.int .u8 1),(.int .i64 1024)] h30 fun u38 h39=>aggV u38 fun l40=>eqAgg Tryd.prog 34 l37 l40 fun q41=>ite2 q41 (ite2 q34 (ldL (cellsN (splice [.int .i64 0,.int .i64 0,.int .u8 0,.int .u8 0,.int .u8 0,.int .u8 0,.int .u8 0,.int .u8 0,.int .u8 0,.int .u8 0,.int .u8 0,.int .u8 0,.int .u8 0,.int .u8 0,.int .u8 0,.int .u8 0,.int .u8 0,.int .u8 0,.int .i64 0,.int .u8 0,.int .u8 0,.int .u8 0,.int .u8 0,.int .i64 0,.bool false,.int .i64 0] 0 l33) 0 26) fun l42=>ldL (cellsN (splice [.int .i64 0,.int .i64 0,.int .u8 0,.int .u8 0,.int .u8 0,.int .u8 0,.int .u8 0,.int .u8 0,.int .u8 0,.int .u8 0,.int .u8 0,.int .u8 0,.int .u8 0,.int .u8 0,.int .u8 0,.int .u8 0,.int .u8 0,.int .u8 0,.int .i64 0,.int .u8 0,.int .u8 0,.int .u8 0,.int .u8 0,.int .i64 0,.bool false,.int .i64 0] 0 l15) 0 26) fun l43=>eqAgg Tryd.prog 36 l42 l43 fun q44=>ite2 q44 (CF Tryd.prog 23 [(.pointer x1)] h39 fun u45 h46=>intV u45 .i64 fun i47=>K (.bool (i47==1)) h46) (K (.bool false) h39)) (K (.bool false) h39)) (K (.bool false) h39)) (K (.bool false) h30)) (K (.bool false) h30)) (K (.bool false) h30)) else False) else False) else False) else False) else False) else False) else False) else False) else False))
theorem F27_r7 (h:E=upd (upd e 2 (sI x2)) 1 (sP x1)):R27 19 6 E V0 hp K=
 ite2 (x2 != 0) (K (w6 E 15 (sI x2) 16 (sB ((x2 != 0))) 17 (sB true) 18 sU 19 sU 20 (sB true)) V0 hp) (K (w6 E 15 (sI x2) 16 (sB ((x2 != 0))) 17 (sB false) 18 (sP x1) 19 (sB ((Option.isNone x1))) 20 (sB ((Option.isNone x1)))) V0 hp):= by subst h; kernel_rfl
def F27 (hp:HP) (K:Kh):Prop:=
  (if List.length [(Value.int .u8 1),.int .u8 0,.int .u8 0,(.int .u8 1)]=4 then (∀ b1:Nat,hp b1=.none→(CF Tryd.prog 17 [(.slice (some ⟨b1,0,none⟩) 1 1),(.int .i64 1024),(.int .i64 1027),(.int .i64 3)] (HP.set hp b1 (.cells 27 (splice [.int .u8 0,.int .u8 0,.int .u8 0,.int .u8 0] 0 [(.int .u8 1),.int .u8 0,.int .u8 0,(.int .u8 1)]) 0)) fun u2 h3=>tup2V u2 fun u4 u5=>ptrV u4 fun p6=>intV u5 .i64 fun i7=>ite2 (i7 != 0) (F27_j1 p6 true h3  K) (F27_j1 p6 (Option.isNone p6) h3  K))) else False)
noncomputable abbrev o27 (k n:Nat):Code:=.region k (opsAt Tryd.f27 (pth n)) false
noncomputable def F27_code:Code:=(.seq (o27 0 2) (.seq (o27 1 5) (.seq (.seq (o27 2 19) (.cond (.tmp 20) (.seq (o27 3 75) .ret) .skip)) (.seq (o27 4 23) (.seq (o27 5 47) (.seq (o27 6 95) (.seq (.region 7 (opsAt Tryd.f27 (pth 191)) true) .ret)))))))
theorem F27_body:Tryd.f27.body=some F27_code:=by kernel_rfl
theorem F27_ok (hp:HP) (K:Kh) (h:F27  hp K):CF Tryd.prog 27 [] hp K:=by
 refine .inl ⟨by kernel_rfl,AC.intro (N:=69) Tryd.func27 F27_body rfl (Nat.le_of_ble_eq_true rfl) ?_⟩
 unfold F27 at h
 refine Ar F27_r0 ?_ Rn Sn Sn
 refine Ar F27_r1 ?_ Rn Sn Sn
 refine mf h fun h=>?_
 refine fun b1 hb_b_1=>?_
 replace h:=h b1 hb_b_1
 refine mC h fun u2 h3 h=>mT h fun u4 u5 h=>mP h fun p6 h=>mI h fun i7 h=>?_
 refine Aq (As (fun env pv hp=>∃ x1 x20,Sub (w2 E0 20 (sB x20) 1 (sP x1)) env∧Sub V0 pv∧F27_j1 x1 x20 hp  K) ?_ ?_)
 ·refine Ag (F27_r7 rfl) ?_ (r2 1 2 Rn) (z2 Sn) Sn
  refine mt h (fun h=>?_) (fun h=>?_)
  ·exact ⟨_,_,(z2 Sn),Sn,h⟩
  ·exact ⟨_,_,(z2 Sn),Sn,h⟩
 ·rintro env pv hp ⟨x1,x20,he,hv,h⟩
  refine Ae ?_ (r2 1 20 Rn) he hv
  unfold F27_j1 at h
  refine Ac h rfl (fun h=>?_) (fun h=>?_)
  ·refine Ar F27_r2 ?_ Rn Sn Sn
   refine AWP.ret ?_
   exact h
  ·refine AWP.skip (Ar F27_r3 ?_ (r1 1 Rn) (z1 Sn) Sn)
   refine mC h fun u8 h9 h=>mA h fun l10 h=>mC h fun u11 h12 h=>mT h fun u13 u14 h=>mA h fun l15 h=>mI h fun i16 h=>mf h fun h=>mf h fun h=>mf h fun h=>?_
   refine Ar F27_r4 ?_ (r1 1 (rp 3 3 0 (r1 4 Rn))) (z3 Sn) (z1 Sn)
   refine mC h fun u17 h18 h=>mA h fun l19 h=>mC h fun u20 h21 h=>mT h fun u22 u23 h=>mA h fun l24 h=>mI h fun i25 h=>mf h fun h=>mf h fun h=>mf h fun h=>?_
   refine Ar F27_r5 ?_ (r1 1 (rp 3 3 0 (r2 4 6 Rn))) (z4 Sn) (z1 Sn)
   refine mC h fun u26 h27 h=>mA h fun l28 h=>mC h fun u29 h30 h=>mT h fun u31 u32 h=>mA h fun l33 h=>mB h fun q34 h=>mf h fun h=>mf h fun h=>mf h fun h=>?_
   refine Aq (AWP.rgnD (by kernel_rfl) (by kernel_rfl) (F27_r6 rfl) ?_ (r1 1 (rp 3 3 0 (r2 4 6 (rp 7 7 0 (r1 8 Rn))))) (z6 Sn) (z2 Sn))
   refine mt h (fun h=>?_) (fun h=>?_)
   ·refine mt h (fun h=>?_) (fun h=>?_)
    ·refine mV h fun v35 h=>mI h fun i36 h=>?_
     refine mt h (fun h=>?_) (fun h=>?_)
     ·refine mL h fun l37 h=>mC h fun u38 h39 h=>mA h fun l40 h=>mE h fun q41 h=>?_
      refine mt h (fun h=>?_) (fun h=>?_)
      ·refine mt h (fun h=>?_) (fun h=>?_)
       ·refine mL h fun l42 h=>mL h fun l43 h=>mE h fun q44 h=>?_
        refine mt h (fun h=>?_) (fun h=>?_)
        ·refine mC h fun u45 h46 h=>mI h fun i47 h=>?_
         refine AWP.ret ?_
         exact h
        ·refine AWP.ret ?_
         exact h
       ·refine AWP.ret ?_
        exact h
      ·refine AWP.ret ?_
       exact h
     ·refine AWP.ret ?_
      exact h
    ·refine AWP.ret ?_
     exact h
   ·refine AWP.ret ?_
    exact h
end
end Go.Proofs
namespace Go.Proofs
open Go Go.HL
abbrev zb36:List Value:=[(Value.int .i64 0),(Value.int .i64 0),(Value.int .u8 0),(Value.int .u8 0),(Value.int .u8 0),(Value.int .u8 0),(Value.int .u8 0),(Value.int .u8 0),(Value.int .u8 0),(Value.int .u8 0),(Value.int .u8 0),(Value.int .u8 0),(Value.int .u8 0),(Value.int .u8 0),(Value.int .u8 0),(Value.int .u8 0),(Value.int .u8 0),(Value.int .u8 0),(Value.int .i64 0),(Value.int .u8 0),(Value.int .u8 0),(Value.int .u8 0),(Value.int .u8 0),(Value.int .i64 0),(Value.bool false),(Value.int .i64 0)]
@[simp] theorem zb36_len:zb36.length=26:=rfl
end Go.Proofs
set_option linter.unusedVariables false
set_option maxRecDepth 20000
set_option maxHeartbeats 4000000
namespace Go.Proofs
open Go Go.HL
section
variable {e E:Env} {x1:OA} {x2 x4 x6 x8 x10 x12 x14:Int} {x15:Bool} {x16:Int} {x17:Bool} {x18 x20 x22:Int} {x23:Bool} {x25 x27 x29 x31 x33 x35 x37 x39:Int} {x40:Bool} {k3 k7 k24 k32 k36:List Value} {hp:HP} {K:Env→PV→HP→Prop}
abbrev R3 (p n:Nat):=RW Tryd.prog 299 [3,5,7,9,11,13,24,26,28,30,32,34,36,38,92,97,111,116,227,231,252] (opsAt Tryd.f3 (pth p)) (List.range n)
theorem F3_r0:R3 2 1 e V0 hp K=
 K (upd e 0 (sB false)) V0 hp:= by kernel_rfl
theorem F3_r1:R3 5 8 e V0 hp K=
    (if List.length [(Value.int .u8 1),.int .u8 0,.int .u8 0,(.int .u8 1)]=4 then (∀ b1:Nat,hp b1=.none→(CF Tryd.prog 17 [(.slice (some ⟨b1,0,none⟩) 1 1),(.int .i64 1024),(.int .i64 1027),(.int .i64 3)] (HP.set hp b1 (.cells 27 (splice [.int .u8 0,.int .u8 0,.int .u8 0,.int .u8 0] 0 [(.int .u8 1),.int .u8 0,.int .u8 0,(.int .u8 1)]) 0)) fun u2 h3=>tup2V u2 fun u4 u5=>ptrV u4 fun p6=>intV u5 .i64 fun i7=>K (w8 e 42 (sV (.agg ⟨[(.int .u8 1),.int .u8 0,.int .u8 0,(.int .u8 1)]⟩)) 43 (sV (.slice (some ⟨b1,0,none⟩) 1 1)) 44 (sV (.tuple ⟨[(.pointer p6),(.int .i64 i7)]⟩)) 41 (sV (.tuple ⟨[(.pointer p6),(.int .i64 i7)]⟩)) 45 (sP p6) 46 (sI i7) 1 (sP p6) 2 (sI i7)) V0 h3)) else False):=by kernel_rfl
theorem F3_r2:R3 75 1 e V0 hp K=
 K (upd e 0 (sB false)) V0 hp:= by kernel_rfl
theorem F3_r3:R3 23 9 (upd e 1 (sP x1)) V0 hp K=
 CF Tryd.prog 19 [(.int .u8 1),(.int .i64 5000)] hp fun u1 h2=>(aggV u1 fun l3=>CF Tryd.prog 18 [(.pointer x1),(.int .i64 17),(.agg ⟨l3⟩)] h2 fun u4 h5=>tup2V u4 fun u6 u7=>aggV u6 fun l8=>intV u7 .i64 fun i9=>if List.length l8=26 then (if List.all l8 one=true then (if 0+List.length l8≤List.length zb36 then (K (upd (w8 e 1 (sP x1) 54 (sP x1) 55 (sA l3) 56 (sV (.tuple ⟨[(.agg ⟨l8⟩),(.int .i64 i9)]⟩)) 53 (sV (.tuple ⟨[(.agg ⟨l8⟩),(.int .i64 i9)]⟩)) 57 (sA l8) 58 (sI i9) 3 (sR 3 0)) 4 (sI i9)) (w2 V0 3 (36,zb36) 3 (36,(splice zb36 0 l8))) h5) else False) else False) else False):= by kernel_rfl
theorem F3_r4:R3 47 9 (upd e 1 (sP x1)) (upd V0 3 (36,k3)) hp K=
 CF Tryd.prog 19 [(.int .u8 1),(.int .i64 5000)] hp fun u1 h2=>(aggV u1 fun l3=>CF Tryd.prog 18 [(.pointer x1),(.int .i64 17),(.agg ⟨l3⟩)] h2 fun u4 h5=>tup2V u4 fun u6 u7=>aggV u6 fun l8=>intV u7 .i64 fun i9=>if List.length l8=26 then (if List.all l8 one=true then (if 0+List.length l8≤List.length zb36 then (K (upd (w8 e 1 (sP x1) 60 (sP x1) 61 (sA l3) 62 (sV (.tuple ⟨[(.agg ⟨l8⟩),(.int .i64 i9)]⟩)) 59 (sV (.tuple ⟨[(.agg ⟨l8⟩),(.int .i64 i9)]⟩)) 63 (sA l8) 64 (sI i9) 5 (sR 5 0)) 6 (sI i9)) (w3 V0 3 (36,k3) 5 (36,zb36) 5 (36,(splice zb36 0 l8))) h5) else False) else False) else False):= by kernel_rfl
theorem F3_r5:R3 95 9 (upd e 1 (sP x1)) (upd V0 3 (36,k3)) hp K=
 CF Tryd.prog 19 [(.int .u8 1),(.int .i64 5001)] hp fun u1 h2=>(aggV u1 fun l3=>CF Tryd.prog 18 [(.pointer x1),(.int .i64 6),(.agg ⟨l3⟩)] h2 fun u4 h5=>tup2V u4 fun u6 u7=>aggV u6 fun l8=>intV u7 .i64 fun i9=>if List.length l8=26 then (if List.all l8 one=true then (if 0+List.length l8≤List.length zb36 then (K (upd (w8 e 1 (sP x1) 66 (sP x1) 67 (sA l3) 68 (sV (.tuple ⟨[(.agg ⟨l8⟩),(.int .i64 i9)]⟩)) 65 (sV (.tuple ⟨[(.agg ⟨l8⟩),(.int .i64 i9)]⟩)) 69 (sA l8) 70 (sI i9) 7 (sR 7 0)) 8 (sI i9)) (w3 V0 3 (36,k3) 7 (36,zb36) 7 (36,(splice zb36 0 l8))) h5) else False) else False) else False):= by kernel_rfl
theorem F3_r6:R3 191 9 (upd e 1 (sP x1)) (w2 V0 7 (36,k7) 3 (36,k3)) hp K=
 CF Tryd.prog 19 [(.int .u8 1),(.int .i64 80)] hp fun u1 h2=>(aggV u1 fun l3=>CF Tryd.prog 18 [(.pointer x1),(.int .i64 17),(.agg ⟨l3⟩)] h2 fun u4 h5=>tup2V u4 fun u6 u7=>aggV u6 fun l8=>intV u7 .i64 fun i9=>if List.length l8=26 then (if List.all l8 one=true then (if 0+List.length l8≤List.length zb36 then (K (upd (w8 e 1 (sP x1) 72 (sP x1) 73 (sA l3) 74 (sV (.tuple ⟨[(.agg ⟨l8⟩),(.int .i64 i9)]⟩)) 71 (sV (.tuple ⟨[(.agg ⟨l8⟩),(.int .i64 i9)]⟩)) 75 (sA l8) 76 (sI i9) 9 (sR 9 0)) 10 (sI i9)) (w4 V0 7 (36,k7) 3 (36,k3) 9 (36,zb36) 9 (36,(splice zb36 0 l8))) h5) else False) else False) else False):= by kernel_rfl
theorem F3_r7:R3 383 9 (upd e 1 (sP x1)) (w2 V0 7 (36,k7) 3 (36,k3)) hp K=
 CF Tryd.prog 19 [(.int .u8 1),(.int .i64 80)] hp fun u1 h2=>(aggV u1 fun l3=>CF Tryd.prog 18 [(.pointer x1),(.int .i64 2),(.agg ⟨l3⟩)] h2 fun u4 h5=>tup2V u4 fun u6 u7=>aggV u6 fun l8=>intV u7 .i64 fun i9=>if List.length l8=26 then (if List.all l8 one=true then (if 0+List.length l8≤List.length zb36 then (K (upd (w8 e 1 (sP x1) 78 (sP x1) 79 (sA l3) 80 (sV (.tuple ⟨[(.agg ⟨l8⟩),(.int .i64 i9)]⟩)) 77 (sV (.tuple ⟨[(.agg ⟨l8⟩),(.int .i64 i9)]⟩)) 81 (sA l8) 82 (sI i9) 11 (sR 11 0)) 12 (sI i9)) (w4 V0 7 (36,k7) 3 (36,k3) 11 (36,zb36) 11 (36,(splice zb36 0 l8))) h5) else False) else False) else False):= by kernel_rfl
theorem F3_r8:R3 767 9 (upd e 1 (sP x1)) (w2 V0 7 (36,k7) 3 (36,k3)) hp K=
 CF Tryd.prog 19 [(.int .u8 1),(.int .i64 65536)] hp fun u1 h2=>(aggV u1 fun l3=>CF Tryd.prog 18 [(.pointer x1),(.int .i64 17),(.agg ⟨l3⟩)] h2 fun u4 h5=>tup2V u4 fun u6 u7=>aggV u6 fun l8=>intV u7 .i64 fun i9=>if List.length l8=26 then (if List.all l8 one=true then (if 0+List.length l8≤List.length zb36 then (K (upd (w8 e 1 (sP x1) 84 (sP x1) 85 (sA l3) 86 (sV (.tuple ⟨[(.agg ⟨l8⟩),(.int .i64 i9)]⟩)) 83 (sV (.tuple ⟨[(.agg ⟨l8⟩),(.int .i64 i9)]⟩)) 87 (sA l8) 88 (sI i9) 13 (sR 13 0)) 14 (sI i9)) (w4 V0 7 (36,k7) 3 (36,k3) 13 (36,zb36) 13 (36,(splice zb36 0 l8))) h5) else False) else False) else False):= by kernel_rfl
theorem F3_r9:R3 3071 3 (upd e 1 (sP x1)) V0 hp K=
 CF Tryd.prog 21 [(.pointer x1),(.int .i64 1)] hp fun u1 h2=>(intV u1 .i64 fun i3=>K (w4 e 1 (sP x1) 133 (sP x1) 134 (sI i3) 16 (sI i3)) V0 h2):= by kernel_rfl
theorem F3_r10:R3 6143 7 (upd e 1 (sP x1)) V0 hp K=
 CF Tryd.prog 22 [(.pointer x1),(.int .i64 1)] hp fun u1 h2=>(tup2V u1 fun u3 u4=>boolV u3 fun q5=>intV u4 .i64 fun i6=>K (w8 e 1 (sP x1) 136 (sP x1) 137 (sV (.tuple ⟨[(.bool q5),(.int .i64 i6)]⟩)) 135 (sV (.tuple ⟨[(.bool q5),(.int .i64 i6)]⟩)) 138 (sB q5) 139 (sI i6) 17 (sB q5) 18 (sI i6)) V0 h2):= by kernel_rfl
theorem F3_r11:R3 12287 7 (upd e 1 (sP x1)) V0 hp K=
 CF Tryd.prog 22 [(.pointer x1),(.int .i64 1)] hp fun u1 h2=>(tup2V u1 fun u3 u4=>boolV u3 fun q5=>intV u4 .i64 fun i6=>K (w8 e 1 (sP x1) 141 (sP x1) 142 (sV (.tuple ⟨[(.bool q5),(.int .i64 i6)]⟩)) 140 (sV (.tuple ⟨[(.bool q5),(.int .i64 i6)]⟩)) 143 (sB q5) 144 (sI i6) 19 (sB q5) 20 (sI i6)) V0 h2):= by kernel_rfl
theorem F3_r12:R3 24575 7 (upd e 1 (sP x1)) V0 hp K=
 CF Tryd.prog 22 [(.pointer x1),(.int .i64 2)] hp fun u1 h2=>(tup2V u1 fun u3 u4=>boolV u3 fun q5=>intV u4 .i64 fun i6=>K (w8 e 1 (sP x1) 146 (sP x1) 147 (sV (.tuple ⟨[(.bool q5),(.int .i64 i6)]⟩)) 145 (sV (.tuple ⟨[(.bool q5),(.int .i64 i6)]⟩)) 148 (sB q5) 149 (sI i6) 21 (sB q5) 22 (sI i6)) V0 h2):= by kernel_rfl
theorem F3_r13:R3 98303 10 (upd e 1 (sP x1)) V0 hp K=
 CF Tryd.prog 19 [(.int .u8 1),(.int .i64 80)] hp fun u1 h2=>(aggV u1 fun l3=>CF Tryd.prog 20 [(.int .u8 1),(.int .i64 80)] h2 fun u4 h5=>aggV u4 fun l6=>CF Tryd.prog 24 [(.pointer x1),(.int .i64 17),(.agg ⟨l3⟩),(.agg ⟨l6⟩)] h5 fun u7 h8=>tup2V u7 fun u9 u10=>aggV u9 fun l11=>intV u10 .i64 fun i12=>if List.length l11=26 then (if List.all l11 one=true then (if 0+List.length l11≤List.length zb36 then (K (w2 (w8 e 1 (sP x1) 173 (sP x1) 174 (sA l3) 175 (sA l6) 176 (sV (.tuple ⟨[(.agg ⟨l11⟩),(.int .i64 i12)]⟩)) 172 (sV (.tuple ⟨[(.agg ⟨l11⟩),(.int .i64 i12)]⟩)) 177 (sA l11) 178 (sI i12)) 24 (sR 24 0) 25 (sI i12)) (w2 V0 24 (36,zb36) 24 (36,(splice zb36 0 l11))) h8) else False) else False) else False):= by kernel_rfl
theorem F3_r14:R3 196607 10 (upd e 1 (sP x1)) (upd V0 24 (36,k24)) hp K=
 CF Tryd.prog 19 [(.int .u8 2),(.int .i64 80)] hp fun u1 h2=>(aggV u1 fun l3=>CF Tryd.prog 20 [(.int .u8 1),(.int .i64 80)] h2 fun u4 h5=>aggV u4 fun l6=>CF Tryd.prog 24 [(.pointer x1),(.int .i64 17),(.agg ⟨l3⟩),(.agg ⟨l6⟩)] h5 fun u7 h8=>tup2V u7 fun u9 u10=>aggV u9 fun l11=>intV u10 .i64 fun i12=>if List.length l11=26 then (if List.all l11 one=true then (if 0+List.length l11≤List.length zb36 then (K (w2 (w8 e 1 (sP x1) 180 (sP x1) 181 (sA l3) 182 (sA l6) 183 (sV (.tuple ⟨[(.agg ⟨l11⟩),(.int .i64 i12)]⟩)) 179 (sV (.tuple ⟨[(.agg ⟨l11⟩),(.int .i64 i12)]⟩)) 184 (sA l11) 185 (sI i12)) 26 (sR 26 0) 27 (sI i12)) (w3 V0 24 (36,k24) 26 (36,zb36) 26 (36,(splice zb36 0 l11))) h8) else False) else False) else False):= by kernel_rfl
theorem F3_r15:R3 393215 10 (upd e 1 (sP x1)) (upd V0 24 (36,k24)) hp K=
 CF Tryd.prog 19 [(.int .u8 2),(.int .i64 80)] hp fun u1 h2=>(aggV u1 fun l3=>CF Tryd.prog 20 [(.int .u8 2),(.int .i64 80)] h2 fun u4 h5=>aggV u4 fun l6=>CF Tryd.prog 24 [(.pointer x1),(.int .i64 17),(.agg ⟨l3⟩),(.agg ⟨l6⟩)] h5 fun u7 h8=>tup2V u7 fun u9 u10=>aggV u9 fun l11=>intV u10 .i64 fun i12=>if List.length l11=26 then (if List.all l11 one=true then (if 0+List.length l11≤List.length zb36 then (K (w2 (w8 e 1 (sP x1) 187 (sP x1) 188 (sA l3) 189 (sA l6) 190 (sV (.tuple ⟨[(.agg ⟨l11⟩),(.int .i64 i12)]⟩)) 186 (sV (.tuple ⟨[(.agg ⟨l11⟩),(.int .i64 i12)]⟩)) 191 (sA l11) 192 (sI i12)) 28 (sR 28 0) 29 (sI i12)) (w3 V0 24 (36,k24) 28 (36,zb36) 28 (36,(splice zb36 0 l11))) h8) else False) else False) else False):= by kernel_rfl
theorem F3_r16:R3 786431 10 (upd e 1 (sP x1)) (upd V0 24 (36,k24)) hp K=
 CF Tryd.prog 19 [(.int .u8 2),(.int .i64 80)] hp fun u1 h2=>(aggV u1 fun l3=>CF Tryd.prog 20 [(.int .u8 1),(.int .i64 1025)] h2 fun u4 h5=>aggV u4 fun l6=>CF Tryd.prog 24 [(.pointer x1),(.int .i64 6),(.agg ⟨l3⟩),(.agg ⟨l6⟩)] h5 fun u7 h8=>tup2V u7 fun u9 u10=>aggV u9 fun l11=>intV u10 .i64 fun i12=>if List.length l11=26 then (if List.all l11 one=true then (if 0+List.length l11≤List.length zb36 then (K (w2 (w8 e 1 (sP x1) 194 (sP x1) 195 (sA l3) 196 (sA l6) 197 (sV (.tuple ⟨[(.agg ⟨l11⟩),(.int .i64 i12)]⟩)) 193 (sV (.tuple ⟨[(.agg ⟨l11⟩),(.int .i64 i12)]⟩)) 198 (sA l11) 199 (sI i12)) 30 (sR 30 0) 31 (sI i12)) (w3 V0 24 (36,k24) 30 (36,zb36) 30 (36,(splice zb36 0 l11))) h8) else False) else False) else False):= by kernel_rfl
theorem F3_r17:R3 1572863 9 (upd e 1 (sP x1)) (upd V0 24 (36,k24)) hp K=
 CF Tryd.prog 19 [(.int .u8 2),(.int .i64 7)] hp fun u1 h2=>(aggV u1 fun l3=>CF Tryd.prog 18 [(.pointer x1),(.int .i64 1),(.agg ⟨l3⟩)] h2 fun u4 h5=>tup2V u4 fun u6 u7=>aggV u6 fun l8=>intV u7 .i64 fun i9=>if List.length l8=26 then (if List.all l8 one=true then (if 0+List.length l8≤List.length zb36 then (K (upd (w8 e 1 (sP x1) 201 (sP x1) 202 (sA l3) 203 (sV (.tuple ⟨[(.agg ⟨l8⟩),(.int .i64 i9)]⟩)) 200 (sV (.tuple ⟨[(.agg ⟨l8⟩),(.int .i64 i9)]⟩)) 204 (sA l8) 205 (sI i9) 32 (sR 32 0)) 33 (sI i9)) (w3 V0 24 (36,k24) 32 (36,zb36) 32 (36,(splice zb36 0 l8))) h5) else False) else False) else False):= by kernel_rfl
theorem F3_r18:R3 3145727 9 (upd e 1 (sP x1)) (w2 V0 32 (36,k32) 24 (36,k24)) hp K=
 CF Tryd.prog 19 [(.int .u8 3),(.int .i64 7)] hp fun u1 h2=>(aggV u1 fun l3=>CF Tryd.prog 18 [(.pointer x1),(.int .i64 1),(.agg ⟨l3⟩)] h2 fun u4 h5=>tup2V u4 fun u6 u7=>aggV u6 fun l8=>intV u7 .i64 fun i9=>if List.length l8=26 then (if List.all l8 one=true then (if 0+List.length l8≤List.length zb36 then (K (upd (w8 e 1 (sP x1) 207 (sP x1) 208 (sA l3) 209 (sV (.tuple ⟨[(.agg ⟨l8⟩),(.int .i64 i9)]⟩)) 206 (sV (.tuple ⟨[(.agg ⟨l8⟩),(.int .i64 i9)]⟩)) 210 (sA l8) 211 (sI i9) 34 (sR 34 0)) 35 (sI i9)) (w4 V0 32 (36,k32) 24 (36,k24) 34 (36,zb36) 34 (36,(splice zb36 0 l8))) h5) else False) else False) else False):= by kernel_rfl
theorem F3_r19:R3 6291455 9 (upd e 1 (sP x1)) (w2 V0 32 (36,k32) 24 (36,k24)) hp K=
 CF Tryd.prog 19 [(.int .u8 1),(.int .i64 80)] hp fun u1 h2=>(aggV u1 fun l3=>CF Tryd.prog 25 [(.pointer x1),(.int .i64 17),(.agg ⟨l3⟩)] h2 fun u4 h5=>tup2V u4 fun u6 u7=>aggV u6 fun l8=>intV u7 .i64 fun i9=>if List.length l8=26 then (if List.all l8 one=true then (if 0+List.length l8≤List.length zb36 then (K (upd (w8 e 1 (sP x1) 213 (sP x1) 214 (sA l3) 215 (sV (.tuple ⟨[(.agg ⟨l8⟩),(.int .i64 i9)]⟩)) 212 (sV (.tuple ⟨[(.agg ⟨l8⟩),(.int .i64 i9)]⟩)) 216 (sA l8) 217 (sI i9) 36 (sR 36 0)) 37 (sI i9)) (w4 V0 32 (36,k32) 24 (36,k24) 36 (36,zb36) 36 (36,(splice zb36 0 l8))) h5) else False) else False) else False):= by kernel_rfl
theorem F3_r20:R3 12582911 9 (upd e 1 (sP x1)) (w3 V0 36 (36,k36) 32 (36,k32) 24 (36,k24)) hp K=
 CF Tryd.prog 19 [(.int .u8 1),(.int .i64 5001)] hp fun u1 h2=>(aggV u1 fun l3=>CF Tryd.prog 25 [(.pointer x1),(.int .i64 6),(.agg ⟨l3⟩)] h2 fun u4 h5=>tup2V u4 fun u6 u7=>aggV u6 fun l8=>intV u7 .i64 fun i9=>if List.length l8=26 then (if List.all l8 one=true then (if 0+List.length l8≤List.length zb36 then (K (upd (w8 e 1 (sP x1) 219 (sP x1) 220 (sA l3) 221 (sV (.tuple ⟨[(.agg ⟨l8⟩),(.int .i64 i9)]⟩)) 218 (sV (.tuple ⟨[(.agg ⟨l8⟩),(.int .i64 i9)]⟩)) 222 (sA l8) 223 (sI i9) 38 (sR 38 0)) 39 (sI i9)) (w5 V0 36 (36,k36) 32 (36,k32) 24 (36,k24) 38 (36,zb36) 38 (36,(splice zb36 0 l8))) h5) else False) else False) else False):= by kernel_rfl
theorem F3_r21 (h:E=upd (w3 e 40 (sB x40) 23 (sB x23) 15 (sB x15)) 1 (sP x1)):R3 50331647 26 E V0 hp K=
 ite2 x15 (ite2 x23 (ite2 x40 (CF Tryd.prog 26 [(.pointer x1),(.int .i64 17)] hp fun u1 h2=>intV u1 .i64 fun i3=>ite2 (i3==4) (CF Tryd.prog 26 [(.pointer x1),(.int .i64 6)] h2 fun u4 h5=>intV u4 .i64 fun i6=>ite2 (i6==3) (CF Tryd.prog 26 [(.pointer x1),(.int .i64 9)] h5 fun u7 h8=>intV u7 .i64 fun i9=>ite2 (i9==0) (CF Tryd.prog 27 [] h8 fun u10 h11=>boolV u10 fun q12=>K (w2 (w8 (w8 (w8 E 274 (sB x15) 275 (sB true) 276 (sB x23) 277 (sB x23) 278 (sB true) 279 (sB x40) 280 (sB x40) 281 (sB true)) 282 (sP x1) 283 (sI i3) 284 (sB ((i3==4))) 285 (sB ((i3==4))) 286 (sB true) 287 (sP x1) 288 (sI i6) 289 (sB ((i6==3)))) 290 (sB ((i6==3))) 291 (sB true) 292 (sP x1) 293 (sI i9) 294 (sB ((i9==0))) 295 (sB ((i9==0))) 296 (sB true) 297 (sB q12)) 298 (sB q12) 0 (sB q12)) V0 h11) (K (w2 (w8 (w8 (w8 E 274 (sB x15) 275 (sB true) 276 (sB x23) 277 (sB x23) 278 (sB true) 279 (sB x40) 280 (sB x40) 281 (sB true)) 282 (sP x1) 283 (sI i3) 284 (sB ((i3==4))) 285 (sB ((i3==4))) 286 (sB true) 287 (sP x1) 288 (sI i6) 289 (sB ((i6==3)))) 290 (sB ((i6==3))) 291 (sB true) 292 (sP x1) 293 (sI i9) 294 (sB ((i9==0))) 295 (sB ((i9==0))) 296 (sB false) 297 sU) 298 (sB false) 0 (sB false)) V0 h8)) (K (w2 (w8 (w8 (w8 E 274 (sB x15) 275 (sB true) 276 (sB x23) 277 (sB x23) 278 (sB true) 279 (sB x40) 280 (sB x40) 281 (sB true)) 282 (sP x1) 283 (sI i3) 284 (sB ((i3==4))) 285 (sB ((i3==4))) 286 (sB true) 287 (sP x1) 288 (sI i6) 289 (sB ((i6==3)))) 290 (sB ((i6==3))) 291 (sB false) 292 sU 293 sU 294 sU 295 (sB false) 296 (sB false) 297 sU) 298 (sB false) 0 (sB false)) V0 h5)) (K (w2 (w8 (w8 (w8 E 274 (sB x15) 275 (sB true) 276 (sB x23) 277 (sB x23) 278 (sB true) 279 (sB x40) 280 (sB x40) 281 (sB true)) 282 (sP x1) 283 (sI i3) 284 (sB ((i3==4))) 285 (sB ((i3==4))) 286 (sB false) 287 sU 288 sU 289 sU) 290 (sB false) 291 (sB false) 292 sU 293 sU 294 sU 295 (sB false) 296 (sB false) 297 sU) 298 (sB false) 0 (sB false)) V0 h2)) (K (w2 (w8 (w8 (w8 E 274 (sB x15) 275 (sB true) 276 (sB x23) 277 (sB x23) 278 (sB true) 279 (sB x40) 280 (sB x40) 281 (sB false)) 282 sU 283 sU 284 sU 285 (sB false) 286 (sB false) 287 sU 288 sU 289 sU) 290 (sB false) 291 (sB false) 292 sU 293 sU 294 sU 295 (sB false) 296 (sB false) 297 sU) 298 (sB false) 0 (sB false)) V0 hp)) (K (w2 (w8 (w8 (w8 E 274 (sB x15) 275 (sB true) 276 (sB x23) 277 (sB x23) 278 (sB false) 279 sU 280 (sB false) 281 (sB false)) 282 sU 283 sU 284 sU 285 (sB false) 286 (sB false) 287 sU 288 sU 289 sU) 290 (sB false) 291 (sB false) 292 sU 293 sU 294 sU 295 (sB false) 296 (sB false) 297 sU) 298 (sB false) 0 (sB false)) V0 hp)) (K (w2 (w8 (w8 (w8 E 274 (sB x15) 275 (sB false) 276 sU 277 (sB false) 278 (sB false) 279 sU 280 (sB false) 281 (sB false)) 282 sU 283 sU 284 sU 285 (sB false) 286 (sB false) 287 sU 288 sU 289 sU) 290 (sB false) 291 (sB false) 292 sU 293 sU 294 sU 295 (sB false) 296 (sB false) 297 sU) 298 (sB false) 0 (sB false)) V0 hp):= by subst h; kernel_rfl
def F3_j4 (x1:OA) (x15 x23 x40:Bool) (hp:HP) (K:Kh):Prop:=
  (ite2 x15 (ite2 x23 (ite2 x40 (CF Tryd.prog 26 [(.pointer x1),(.int .i64 17)] hp fun u167 h168=>intV u167 .i64 fun i169=>ite2 (i169==4) (CF Tryd.prog 26 [(.pointer x1),(.int .i64 6)] h168 fun u170 h171=>intV u170 .i64 fun i172=>ite2 (i172==3) (CF Tryd.prog 26 [(.pointer x1),(.int .i64 9)] h171 fun u173 h174=>intV u173 .i64 fun i175=>ite2 (i175==0) (CF Tryd.prog 27 [] h174 fun u176 h177=>boolV u176 fun q178=>K (.bool q178) h177) (K (.bool false) h174)) (K (.bool false) h171)) (K (.bool false) h168)) (K (.bool false) hp)) (K (.bool false) hp)) (K (.bool false) hp))
theorem F3_r22 (h:E=upd (w2 (w8 e 39 (sI x39) 37 (sI x37) 36 (sR 36 0) 35 (sI x35) 33 (sI x33) 32 (sR 32 0) 31 (sI x31) 29 (sI x29)) 27 (sI x27) 25 (sI x25)) 24 (sR 24 0)):R3 25165823 51 E (w3 V0 36 (36,k36) 32 (36,k32) 24 (36,k24)) hp K=
 ite2 (x25==0) (ldV (k24)[24]? fun v1=>boolV v1 fun q2=>ite2 q2 (ldV (k24)[0]? fun v3=>intV v3 .i64 fun i4=>ite2 (i4==3) (ite2 (x27==5) (ite2 (x29==1) (ite2 (x31==5) (ite2 (x33==0) (ldL (cellsN k32 19 5) fun l5=>CF Tryd.prog 20 [(.int .u8 1),(.int .i64 1024)] hp fun u6 h7=>aggV u6 fun l8=>eqAgg Tryd.prog 34 l5 l8 fun q9=>ite2 q9 (ite2 (x35==6) (ite2 (x37==0) (ldL (cellsN k36 0 26) fun l10=>ldL (cellsN k24 0 26) fun l11=>eqAgg Tryd.prog 36 l10 l11 fun q12=>ite2 q12 (K (w3 (w8 (w8 (w8 (w8 (w8 (w8 E 224 (sI x25) 225 (sB ((x25==0))) 226 (sB true) 227 (sR 24 24) 228 (sB q2) 229 (sB q2) 230 (sB true) 231 (sR 24 0)) 232 (sI i4) 233 (sB ((i4==3))) 234 (sB ((i4==3))) 235 (sB true) 236 (sI x27) 237 (sB ((x27==5))) 238 (sB ((x27==5))) 239 (sB true)) 240 (sI x29) 241 (sB ((x29==1))) 242 (sB ((x29==1))) 243 (sB true) 244 (sI x31) 245 (sB ((x31==5))) 246 (sB ((x31==5))) 247 (sB true)) 248 (sI x33) 249 (sB ((x33==0))) 250 (sB ((x33==0))) 251 (sB true) 252 (sR 32 19) 253 (sA l5) 254 (sA l8) 255 (sB q9)) 256 (sB q9) 257 (sB true) 258 (sI x35) 259 (sB ((x35==6))) 260 (sB ((x35==6))) 261 (sB true) 262 (sI x37) 263 (sB ((x37==0)))) 264 (sB ((x37==0))) 265 (sB true) 266 (sA l10) 267 (sA l11) 268 (sB q12) 269 (sB q12) 270 (sB true) 271 (sI x39)) 272 (sB ((x39==4))) 273 (sB ((x39==4))) 40 (sB ((x39==4)))) (w3 V0 36 (36,k36) 32 (36,k32) 24 (36,k24)) h7) (K (w3 (w8 (w8 (w8 (w8 (w8 (w8 E 224 (sI x25) 225 (sB ((x25==0))) 226 (sB true) 227 (sR 24 24) 228 (sB q2) 229 (sB q2) 230 (sB true) 231 (sR 24 0)) 232 (sI i4) 233 (sB ((i4==3))) 234 (sB ((i4==3))) 235 (sB true) 236 (sI x27) 237 (sB ((x27==5))) 238 (sB ((x27==5))) 239 (sB true)) 240 (sI x29) 241 (sB ((x29==1))) 242 (sB ((x29==1))) 243 (sB true) 244 (sI x31) 245 (sB ((x31==5))) 246 (sB ((x31==5))) 247 (sB true)) 248 (sI x33) 249 (sB ((x33==0))) 250 (sB ((x33==0))) 251 (sB true) 252 (sR 32 19) 253 (sA l5) 254 (sA l8) 255 (sB q9)) 256 (sB q9) 257 (sB true) 258 (sI x35) 259 (sB ((x35==6))) 260 (sB ((x35==6))) 261 (sB true) 262 (sI x37) 263 (sB ((x37==0)))) 264 (sB ((x37==0))) 265 (sB true) 266 (sA l10) 267 (sA l11) 268 (sB q12) 269 (sB q12) 270 (sB false) 271 sU) 272 sU 273 (sB false) 40 (sB false)) (w3 V0 36 (36,k36) 32 (36,k32) 24 (36,k24)) h7)) (K (w3 (w8 (w8 (w8 (w8 (w8 (w8 E 224 (sI x25) 225 (sB ((x25==0))) 226 (sB true) 227 (sR 24 24) 228 (sB q2) 229 (sB q2) 230 (sB true) 231 (sR 24 0)) 232 (sI i4) 233 (sB ((i4==3))) 234 (sB ((i4==3))) 235 (sB true) 236 (sI x27) 237 (sB ((x27==5))) 238 (sB ((x27==5))) 239 (sB true)) 240 (sI x29) 241 (sB ((x29==1))) 242 (sB ((x29==1))) 243 (sB true) 244 (sI x31) 245 (sB ((x31==5))) 246 (sB ((x31==5))) 247 (sB true)) 248 (sI x33) 249 (sB ((x33==0))) 250 (sB ((x33==0))) 251 (sB true) 252 (sR 32 19) 253 (sA l5) 254 (sA l8) 255 (sB q9)) 256 (sB q9) 257 (sB true) 258 (sI x35) 259 (sB ((x35==6))) 260 (sB ((x35==6))) 261 (sB true) 262 (sI x37) 263 (sB ((x37==0)))) 264 (sB ((x37==0))) 265 (sB false) 266 sU 267 sU 268 sU 269 (sB false) 270 (sB false) 271 sU) 272 sU 273 (sB false) 40 (sB false)) (w3 V0 36 (36,k36) 32 (36,k32) 24 (36,k24)) h7)) (K (w3 (w8 (w8 (w8 (w8 (w8 (w8 E 224 (sI x25) 225 (sB ((x25==0))) 226 (sB true) 227 (sR 24 24) 228 (sB q2) 229 (sB q2) 230 (sB true) 231 (sR 24 0)) 232 (sI i4) 233 (sB ((i4==3))) 234 (sB ((i4==3))) 235 (sB true) 236 (sI x27) 237 (sB ((x27==5))) 238 (sB ((x27==5))) 239 (sB true)) 240 (sI x29) 241 (sB ((x29==1))) 242 (sB ((x29==1))) 243 (sB true) 244 (sI x31) 245 (sB ((x31==5))) 246 (sB ((x31==5))) 247 (sB true)) 248 (sI x33) 249 (sB ((x33==0))) 250 (sB ((x33==0))) 251 (sB true) 252 (sR 32 19) 253 (sA l5) 254 (sA l8) 255 (sB q9)) 256 (sB q9) 257 (sB true) 258 (sI x35) 259 (sB ((x35==6))) 260 (sB ((x35==6))) 261 (sB false) 262 sU 263 sU) 264 (sB false) 265 (sB false) 266 sU 267 sU 268 sU 269 (sB false) 270 (sB false) 271 sU) 272 sU 273 (sB false) 40 (sB false)) (w3 V0 36 (36,k36) 32 (36,k32) 24 (36,k24)) h7)) (K (w3 (w8 (w8 (w8 (w8 (w8 (w8 E 224 (sI x25) 225 (sB ((x25==0))) 226 (sB true) 227 (sR 24 24) 228 (sB q2) 229 (sB q2) 230 (sB true) 231 (sR 24 0)) 232 (sI i4) 233 (sB ((i4==3))) 234 (sB ((i4==3))) 235 (sB true) 236 (sI x27) 237 (sB ((x27==5))) 238 (sB ((x27==5))) 239 (sB true)) 240 (sI x29) 241 (sB ((x29==1))) 242 (sB ((x29==1))) 243 (sB true) 244 (sI x31) 245 (sB ((x31==5))) 246 (sB ((x31==5))) 247 (sB true)) 248 (sI x33) 249 (sB ((x33==0))) 250 (sB ((x33==0))) 251 (sB true) 252 (sR 32 19) 253 (sA l5) 254 (sA l8) 255 (sB q9)) 256 (sB q9) 257 (sB false) 258 sU 259 sU 260 (sB false) 261 (sB false) 262 sU 263 sU) 264 (sB false) 265 (sB false) 266 sU 267 sU 268 sU 269 (sB false) 270 (sB false) 271 sU) 272 sU 273 (sB false) 40 (sB false)) (w3 V0 36 (36,k36) 32 (36,k32) 24 (36,k24)) h7)) (K (w3 (w8 (w8 (w8 (w8 (w8 (w8 E 224 (sI x25) 225 (sB ((x25==0))) 226 (sB true) 227 (sR 24 24) 228 (sB q2) 229 (sB q2) 230 (sB true) 231 (sR 24 0)) 232 (sI i4) 233 (sB ((i4==3))) 234 (sB ((i4==3))) 235 (sB true) 236 (sI x27) 237 (sB ((x27==5))) 238 (sB ((x27==5))) 239 (sB true)) 240 (sI x29) 241 (sB ((x29==1))) 242 (sB ((x29==1))) 243 (sB true) 244 (sI x31) 245 (sB ((x31==5))) 246 (sB ((x31==5))) 247 (sB true)) 248 (sI x33) 249 (sB ((x33==0))) 250 (sB ((x33==0))) 251 (sB false) 252 sU 253 sU 254 sU 255 sU) 256 (sB false) 257 (sB false) 258 sU 259 sU 260 (sB false) 261 (sB false) 262 sU 263 sU) 264 (sB false) 265 (sB false) 266 sU 267 sU 268 sU 269 (sB false) 270 (sB false) 271 sU) 272 sU 273 (sB false) 40 (sB false)) (w3 V0 36 (36,k36) 32 (36,k32) 24 (36,k24)) hp)) (K (w3 (w8 (w8 (w8 (w8 (w8 (w8 E 224 (sI x25) 225 (sB ((x25==0))) 226 (sB true) 227 (sR 24 24) 228 (sB q2) 229 (sB q2) 230 (sB true) 231 (sR 24 0)) 232 (sI i4) 233 (sB ((i4==3))) 234 (sB ((i4==3))) 235 (sB true) 236 (sI x27) 237 (sB ((x27==5))) 238 (sB ((x27==5))) 239 (sB true)) 240 (sI x29) 241 (sB ((x29==1))) 242 (sB ((x29==1))) 243 (sB true) 244 (sI x31) 245 (sB ((x31==5))) 246 (sB ((x31==5))) 247 (sB false)) 248 sU 249 sU 250 (sB false) 251 (sB false) 252 sU 253 sU 254 sU 255 sU) 256 (sB false) 257 (sB false) 258 sU 259 sU 260 (sB false) 261 (sB false) 262 sU 263 sU) 264 (sB false) 265 (sB false) 266 sU 267 sU 268 sU 269 (sB false) 270 (sB false) 271 sU) 272 sU 273 (sB false) 40 (sB false)) (w3 V0 36 (36,k36) 32 (36,k32) 24 (36,k24)) hp)) (K (w3 (w8 (w8 (w8 (w8 (w8 (w8 E 224 (sI x25) 225 (sB ((x25==0))) 226 (sB true) 227 (sR 24 24) 228 (sB q2) 229 (sB q2) 230 (sB true) 231 (sR 24 0)) 232 (sI i4) 233 (sB ((i4==3))) 234 (sB ((i4==3))) 235 (sB true) 236 (sI x27) 237 (sB ((x27==5))) 238 (sB ((x27==5))) 239 (sB true)) 240 (sI x29) 241 (sB ((x29==1))) 242 (sB ((x29==1))) 243 (sB false) 244 sU 245 sU 246 (sB false) 247 (sB false)) 248 sU 249 sU 250 (sB false) 251 (sB false) 252 sU 253 sU 254 sU 255 sU) 256 (sB false) 257 (sB false) 258 sU 259 sU 260 (sB false) 261 (sB false) 262 sU 263 sU) 264 (sB false) 265 (sB false) 266 sU 267 sU 268 sU 269 (sB false) 270 (sB false) 271 sU) 272 sU 273 (sB false) 40 (sB false)) (w3 V0 36 (36,k36) 32 (36,k32) 24 (36,k24)) hp)) (K (w3 (w8 (w8 (w8 (w8 (w8 (w8 E 224 (sI x25) 225 (sB ((x25==0))) 226 (sB true) 227 (sR 24 24) 228 (sB q2) 229 (sB q2) 230 (sB true) 231 (sR 24 0)) 232 (sI i4) 233 (sB ((i4==3))) 234 (sB ((i4==3))) 235 (sB true) 236 (sI x27) 237 (sB ((x27==5))) 238 (sB ((x27==5))) 239 (sB false)) 240 sU 241 sU 242 (sB false) 243 (sB false) 244 sU 245 sU 246 (sB false) 247 (sB false)) 248 sU 249 sU 250 (sB false) 251 (sB false) 252 sU 253 sU 254 sU 255 sU) 256 (sB false) 257 (sB false) 258 sU 259 sU 260 (sB false) 261 (sB false) 262 sU 263 sU) 264 (sB false) 265 (sB false) 266 sU 267 sU 268 sU 269 (sB false) 270 (sB false) 271 sU) 272 sU 273 (sB false) 40 (sB false)) (w3 V0 36 (36,k36) 32 (36,k32) 24 (36,k24)) hp)) (K (w3 (w8 (w8 (w8 (w8 (w8 (w8 E 224 (sI x25) 225 (sB ((x25==0))) 226 (sB true) 227 (sR 24 24) 228 (sB q2) 229 (sB q2) 230 (sB true) 231 (sR 24 0)) 232 (sI i4) 233 (sB ((i4==3))) 234 (sB ((i4==3))) 235 (sB false) 236 sU 237 sU 238 (sB false) 239 (sB false)) 240 sU 241 sU 242 (sB false) 243 (sB false) 244 sU 245 sU 246 (sB false) 247 (sB false)) 248 sU 249 sU 250 (sB false) 251 (sB false) 252 sU 253 sU 254 sU 255 sU) 256 (sB false) 257 (sB false) 258 sU 259 sU 260 (sB false) 261 (sB false) 262 sU 263 sU) 264 (sB false) 265 (sB false) 266 sU 267 sU 268 sU 269 (sB false) 270 (sB false) 271 sU) 272 sU 273 (sB false) 40 (sB false)) (w3 V0 36 (36,k36) 32 (36,k32) 24 (36,k24)) hp)) (K (w3 (w8 (w8 (w8 (w8 (w8 (w8 E 224 (sI x25) 225 (sB ((x25==0))) 226 (sB true) 227 (sR 24 24) 228 (sB q2) 229 (sB q2) 230 (sB false) 231 sU) 232 sU 233 sU 234 (sB false) 235 (sB false) 236 sU 237 sU 238 (sB false) 239 (sB false)) 240 sU 241 sU 242 (sB false) 243 (sB false) 244 sU 245 sU 246 (sB false) 247 (sB false)) 248 sU 249 sU 250 (sB false) 251 (sB false) 252 sU 253 sU 254 sU 255 sU) 256 (sB false) 257 (sB false) 258 sU 259 sU 260 (sB false) 261 (sB false) 262 sU 263 sU) 264 (sB false) 265 (sB false) 266 sU 267 sU 268 sU 269 (sB false) 270 (sB false) 271 sU) 272 sU 273 (sB false) 40 (sB false)) (w3 V0 36 (36,k36) 32 (36,k32) 24 (36,k24)) hp)) (K (w3 (w8 (w8 (w8 (w8 (w8 (w8 E 224 (sI x25) 225 (sB ((x25==0))) 226 (sB false) 227 sU 228 sU 229 (sB false) 230 (sB false) 231 sU) 232 sU 233 sU 234 (sB false) 235 (sB false) 236 sU 237 sU 238 (sB false) 239 (sB false)) 240 sU 241 sU 242 (sB false) 243 (sB false) 244 sU 245 sU 246 (sB false) 247 (sB false)) 248 sU 249 sU 250 (sB false) 251 (sB false) 252 sU 253 sU 254 sU 255 sU) 256 (sB false) 257 (sB false) 258 sU 259 sU 260 (sB false) 261 (sB false) 262 sU 263 sU) 264 (sB false) 265 (sB false) 266 sU 267 sU 268 sU 269 (sB false) 270 (sB false) 271 sU) 272 sU 273 (sB false) 40 (sB false)) (w3 V0 36 (36,k36) 32 (36,k32) 24 (36,k24)) hp):= by subst h; kernel_rfl
def F3_j3 (x1:OA) (x15 x23:Bool) (hp:HP) (K:Kh):Prop:=
  (CF Tryd.prog 19 [(.int .u8 1),(.int .i64 80)] hp fun u83 h84=>aggV u83 fun l85=>CF Tryd.prog 20 [(.int .u8 1),(.int .i64 80)] h84 fun u86 h87=>aggV u86 fun l88=>CF Tryd.prog 24 [(.pointer x1),(.int .i64 17),(.agg ⟨l85⟩),(.agg ⟨l88⟩)] h87 fun u89 h90=>tup2V u89 fun u91 u92=>aggV u91 fun l93=>intV u92 .i64 fun i94=>if List.length l93=26 then (if List.all l93 one=true then (if 0+List.length l93≤List.length zb36 then (CF Tryd.prog 19 [(.int .u8 2),(.int .i64 80)] h90 fun u95 h96=>aggV u95 fun l97=>CF Tryd.prog 20 [(.int .u8 1),(.int .i64 80)] h96 fun u98 h99=>aggV u98 fun l100=>CF Tryd.prog 24 [(.pointer x1),(.int .i64 17),(.agg ⟨l97⟩),(.agg ⟨l100⟩)] h99 fun u101 h102=>tup2V u101 fun u103 u104=>aggV u103 fun l105=>intV u104 .i64 fun i106=>if List.length l105=26 then (if List.all l105 one=true then (if 0+List.length l105≤List.length zb36 then (CF Tryd.prog 19 [(.int .u8 2),(.int .i64 80)] h102 fun u107 h108=>aggV u107 fun l109=>CF Tryd.prog 20 [(.int .u8 2),(.int .i64 80)] h108 fun u110 h111=>aggV u110 fun l112=>CF Tryd.prog 24 [(.pointer x1),(.int .i64 17),(.agg ⟨l109⟩),(.agg ⟨l112⟩)] h111 fun u113 h114=>tup2V u113 fun u115 u116=>aggV u115 fun l117=>intV u116 .i64 fun i118=>if List.length l117=26 then (if List.all l117 one=true then (if 0+List.length l117≤List.length zb36 then (CF Tryd.prog 19 [(.int .u8 2),(.int .i64 80)] h114 fun u119 h120=>aggV u119 fun l121=>CF Tryd.prog 20 [(.int .u8 1),(.int .i64 1025)] h120 fun u122 h123=>aggV u122 fun l124=>CF Tryd.prog 24 [(.pointer x1),(.int .i64 6),(.agg ⟨l121⟩),(.agg ⟨l124⟩)] h123 fun u125 h126=>tup2V u125 fun u127 u128=>aggV u127 fun l129=>intV u128 .i64 fun i130=>if List.length l129=26 then (if List.all l129 one=true then (if 0+List.length l129≤List.length zb36 then (CF Tryd.prog 19 [(.int .u8 2),(.int .i64 7)] h126 fun u131 h132=>aggV u131 fun l133=>CF Tryd.prog 18 [(.pointer x1),(.int .i64 1),(.agg ⟨l133⟩)] h132 fun u134 h135=>tup2V u134 fun u136 u137=>aggV u136 fun l138=>intV u137 .i64 fun i139=>if List.length l138=26 then (if List.all l138 one=true then (if 0+List.length l138≤List.length zb36 then (CF Tryd.prog 19 [(.int .u8 3),(.int .i64 7)] h135 fun u140 h141=>aggV u140 fun l142=>CF Tryd.prog 18 [(.pointer x1),(.int .i64 1),(.agg ⟨l142⟩)] h141 fun u143 h144=>tup2V u143 fun u145 u146=>aggV u145 fun l147=>intV u146 .i64 fun i148=>if List.length l147=26 then (if List.all l147 one=true then (if 0+List.length l147≤List.length zb36 then (CF Tryd.prog 19 [(.int .u8 1),(.int .i64 80)] h144 fun u149 h150=>aggV u149 fun l151=>CF Tryd.prog 25 [(.pointer x1),(.int .i64 17),(.agg ⟨l151⟩)] h150 fun u152 h153=>tup2V u152 fun u154 u155=>aggV u154 fun l156=>intV u155 .i64 fun i157=>if List.length l156=26 then (if List.all l156 one=true then (if 0+List.length l156≤List.length zb36 then (CF Tryd.prog 19 [(.int .u8 1),(.int .i64 5001)] h153 fun u158 h159=>aggV u158 fun l160=>CF Tryd.prog 25 [(.pointer x1),(.int .i64 6),(.agg ⟨l160⟩)] h159 fun u161 h162=>tup2V u161 fun u163 u164=>aggV u163 fun l165=>intV u164 .i64 fun i166=>if List.length l165=26 then (if List.all l165 one=true then (if 0+List.length l165≤List.length zb36 then (ite2 (i94==0) (ldV ((splice zb36 0 l93))[24]? fun v179=>boolV v179 fun q180=>ite2 q180 (ldV ((splice zb36 0 l93))[0]? fun v181=>intV v181 .i64 fun i182=>ite2 (i182==3) (ite2 (i106==5) (ite2 (i118==1) (ite2 (i130==5) (ite2 (i139==0) (ldL (cellsN (splice zb36 0 l138) 19 5) fun l183=>CF Tryd.prog 20 [(.int .u8 1),(.int .i64 1024)] h162 fun u184 h185=>aggV u184 fun l186=>eqAgg Tryd.prog 34 l183 l186 fun q187=>ite2 q187 (ite2 (i148==6) (ite2 (i157==0) (ldL (cellsN (splice zb36 0 l156) 0 26) fun l188=>ldL (cellsN (splice zb36 0 l93) 0 26) fun l189=>eqAgg Tryd.prog 36 l188 l189 fun q190=>ite2 q190 (F3_j4 x1 x15 x23 (i166==4) h185  K) (F3_j4 x1 x15 x23 false h185  K)) (F3_j4 x1 x15 x23 false h185  K)) (F3_j4 x1 x15 x23 false h185  K)) (F3_j4 x1 x15 x23 false h185  K)) (F3_j4 x1 x15 x23 false h162  K)) (F3_j4 x1 x15 x23 false h162  K)) (F3_j4 x1 x15 x23 false h162  K)) (F3_j4 x1 x15 x23 false h162  K)) (F3_j4 x1 x15 x23 false h162  K)) (F3_j4 x1 x15 x23 false h162  K)) (F3_j4 x1 x15 x23 false h162  K)) else False) else False) else False) else False) else False) else False) else False) else False) else False) else False) else False) else False) else False) else False) else False) else False) else False) else False) else False) else False) else False) else False) else False) else False)
theorem F3_r23 (h:E=upd (w5 e 22 (sI x22) 20 (sI x20) 18 (sI x18) 17 (sB x17) 16 (sI x16)) 1 (sP x1)):R3 49151 23 E V0 hp K=
 ite2 (x16==0) (ite2 x17 (ite2 (x18==0) (ite2 (x20==4) (ite2 (x22==11) (CF Tryd.prog 23 [(.pointer x1)] hp fun u1 h2=>intV u1 .i64 fun i3=>K (w7 (w8 (w8 E 150 (sI x16) 151 (sB ((x16==0))) 152 (sB true) 153 (sB x17) 154 (sB x17) 155 (sB true) 156 (sI x18) 157 (sB ((x18==0)))) 158 (sB ((x18==0))) 159 (sB true) 160 (sI x20) 161 (sB ((x20==4))) 162 (sB ((x20==4))) 163 (sB true) 164 (sI x22) 165 (sB ((x22==11)))) 166 (sB ((x22==11))) 167 (sB true) 168 (sP x1) 169 (sI i3) 170 (sB ((i3==1))) 171 (sB ((i3==1))) 23 (sB ((i3==1)))) V0 h2) (K (w7 (w8 (w8 E 150 (sI x16) 151 (sB ((x16==0))) 152 (sB true) 153 (sB x17) 154 (sB x17) 155 (sB true) 156 (sI x18) 157 (sB ((x18==0)))) 158 (sB ((x18==0))) 159 (sB true) 160 (sI x20) 161 (sB ((x20==4))) 162 (sB ((x20==4))) 163 (sB true) 164 (sI x22) 165 (sB ((x22==11)))) 166 (sB ((x22==11))) 167 (sB false) 168 sU 169 sU 170 sU 171 (sB false) 23 (sB false)) V0 hp)) (K (w7 (w8 (w8 E 150 (sI x16) 151 (sB ((x16==0))) 152 (sB true) 153 (sB x17) 154 (sB x17) 155 (sB true) 156 (sI x18) 157 (sB ((x18==0)))) 158 (sB ((x18==0))) 159 (sB true) 160 (sI x20) 161 (sB ((x20==4))) 162 (sB ((x20==4))) 163 (sB false) 164 sU 165 sU) 166 (sB false) 167 (sB false) 168 sU 169 sU 170 sU 171 (sB false) 23 (sB false)) V0 hp)) (K (w7 (w8 (w8 E 150 (sI x16) 151 (sB ((x16==0))) 152 (sB true) 153 (sB x17) 154 (sB x17) 155 (sB true) 156 (sI x18) 157 (sB ((x18==0)))) 158 (sB ((x18==0))) 159 (sB false) 160 sU 161 sU 162 (sB false) 163 (sB false) 164 sU 165 sU) 166 (sB false) 167 (sB false) 168 sU 169 sU 170 sU 171 (sB false) 23 (sB false)) V0 hp)) (K (w7 (w8 (w8 E 150 (sI x16) 151 (sB ((x16==0))) 152 (sB true) 153 (sB x17) 154 (sB x17) 155 (sB false) 156 sU 157 sU) 158 (sB false) 159 (sB false) 160 sU 161 sU 162 (sB false) 163 (sB false) 164 sU 165 sU) 166 (sB false) 167 (sB false) 168 sU 169 sU 170 sU 171 (sB false) 23 (sB false)) V0 hp)) (K (w7 (w8 (w8 E 150 (sI x16) 151 (sB ((x16==0))) 152 (sB false) 153 sU 154 (sB false) 155 (sB false) 156 sU 157 sU) 158 (sB false) 159 (sB false) 160 sU 161 sU 162 (sB false) 163 (sB false) 164 sU 165 sU) 166 (sB false) 167 (sB false) 168 sU 169 sU 170 sU 171 (sB false) 23 (sB false)) V0 hp):= by subst h; kernel_rfl
def F3_j2 (x1:OA) (x15:Bool) (hp:HP) (K:Kh):Prop:=
  (CF Tryd.prog 21 [(.pointer x1),(.int .i64 1)] hp fun u62 h63=>intV u62 .i64 fun i64=>CF Tryd.prog 22 [(.pointer x1),(.int .i64 1)] h63 fun u65 h66=>tup2V u65 fun u67 u68=>boolV u67 fun q69=>intV u68 .i64 fun i70=>CF Tryd.prog 22 [(.pointer x1),(.int .i64 1)] h66 fun u71 h72=>tup2V u71 fun u73 u74=>boolV u73 fun q75=>intV u74 .i64 fun i76=>CF Tryd.prog 22 [(.pointer x1),(.int .i64 2)] h72 fun u77 h78=>tup2V u77 fun u79 u80=>boolV u79 fun q81=>intV u80 .i64 fun i82=>ite2 (i64==0) (ite2 q69 (ite2 (i70==0) (ite2 (i76==4) (ite2 (i82==11) (CF Tryd.prog 23 [(.pointer x1)] h78 fun u191 h192=>intV u191 .i64 fun i193=>F3_j3 x1 x15 (i193==1) h192  K) (F3_j3 x1 x15 false h78  K)) (F3_j3 x1 x15 false h78  K)) (F3_j3 x1 x15 false h78  K)) (F3_j3 x1 x15 false h78  K)) (F3_j3 x1 x15 false h78  K))
theorem F3_r24 (h:E=upd (w7 e 14 (sI x14) 12 (sI x12) 10 (sI x10) 8 (sI x8) 7 (sR 7 0) 6 (sI x6) 4 (sI x4)) 3 (sR 3 0)):R3 1535 45 E (w2 V0 7 (36,k7) 3 (36,k3)) hp K=
 ite2 (x4==0) (ldV (k3)[0]? fun v1=>intV v1 .i64 fun i2=>ite2 (i2==1) (ldL (cellsN k3 19 5) fun l3=>CF Tryd.prog 20 [(.int .u8 1),(.int .i64 1024)] hp fun u4 h5=>aggV u4 fun l6=>eqAgg Tryd.prog 34 l3 l6 fun q7=>ite2 q7 (ite2 (x6==5) (ite2 (x8==0) (ldV (k7)[0]? fun v8=>intV v8 .i64 fun i9=>ite2 (i9==2) (ldL (cellsN k7 19 5) fun l10=>CF Tryd.prog 20 [(.int .u8 1),(.int .i64 1025)] h5 fun u11 h12=>aggV u11 fun l13=>eqAgg Tryd.prog 34 l10 l13 fun q14=>ite2 q14 (ite2 (x10==13) (ite2 (x12==10) (K (w5 (w8 (w8 (w8 (w8 (w8 E 89 (sI x4) 90 (sB ((x4==0))) 91 (sB true) 92 (sR 3 0) 93 (sI i2) 94 (sB ((i2==1))) 95 (sB ((i2==1))) 96 (sB true)) 97 (sR 3 19) 98 (sA l3) 99 (sA l6) 100 (sB q7) 101 (sB q7) 102 (sB true) 103 (sI x6) 104 (sB ((x6==5)))) 105 (sB ((x6==5))) 106 (sB true) 107 (sI x8) 108 (sB ((x8==0))) 109 (sB ((x8==0))) 110 (sB true) 111 (sR 7 0) 112 (sI i9)) 113 (sB ((i9==2))) 114 (sB ((i9==2))) 115 (sB true) 116 (sR 7 19) 117 (sA l10) 118 (sA l13) 119 (sB q14) 120 (sB q14)) 121 (sB true) 122 (sI x10) 123 (sB ((x10==13))) 124 (sB ((x10==13))) 125 (sB true) 126 (sI x12) 127 (sB ((x12==10))) 128 (sB ((x12==10)))) 129 (sB true) 130 (sI x14) 131 (sB ((x14==1))) 132 (sB ((x14==1))) 15 (sB ((x14==1)))) (w2 V0 7 (36,k7) 3 (36,k3)) h12) (K (w5 (w8 (w8 (w8 (w8 (w8 E 89 (sI x4) 90 (sB ((x4==0))) 91 (sB true) 92 (sR 3 0) 93 (sI i2) 94 (sB ((i2==1))) 95 (sB ((i2==1))) 96 (sB true)) 97 (sR 3 19) 98 (sA l3) 99 (sA l6) 100 (sB q7) 101 (sB q7) 102 (sB true) 103 (sI x6) 104 (sB ((x6==5)))) 105 (sB ((x6==5))) 106 (sB true) 107 (sI x8) 108 (sB ((x8==0))) 109 (sB ((x8==0))) 110 (sB true) 111 (sR 7 0) 112 (sI i9)) 113 (sB ((i9==2))) 114 (sB ((i9==2))) 115 (sB true) 116 (sR 7 19) 117 (sA l10) 118 (sA l13) 119 (sB q14) 120 (sB q14)) 121 (sB true) 122 (sI x10) 123 (sB ((x10==13))) 124 (sB ((x10==13))) 125 (sB true) 126 (sI x12) 127 (sB ((x12==10))) 128 (sB ((x12==10)))) 129 (sB false) 130 sU 131 sU 132 (sB false) 15 (sB false)) (w2 V0 7 (36,k7) 3 (36,k3)) h12)) (K (w5 (w8 (w8 (w8 (w8 (w8 E 89 (sI x4) 90 (sB ((x4==0))) 91 (sB true) 92 (sR 3 0) 93 (sI i2) 94 (sB ((i2==1))) 95 (sB ((i2==1))) 96 (sB true)) 97 (sR 3 19) 98 (sA l3) 99 (sA l6) 100 (sB q7) 101 (sB q7) 102 (sB true) 103 (sI x6) 104 (sB ((x6==5)))) 105 (sB ((x6==5))) 106 (sB true) 107 (sI x8) 108 (sB ((x8==0))) 109 (sB ((x8==0))) 110 (sB true) 111 (sR 7 0) 112 (sI i9)) 113 (sB ((i9==2))) 114 (sB ((i9==2))) 115 (sB true) 116 (sR 7 19) 117 (sA l10) 118 (sA l13) 119 (sB q14) 120 (sB q14)) 121 (sB true) 122 (sI x10) 123 (sB ((x10==13))) 124 (sB ((x10==13))) 125 (sB false) 126 sU 127 sU 128 (sB false)) 129 (sB false) 130 sU 131 sU 132 (sB false) 15 (sB false)) (w2 V0 7 (36,k7) 3 (36,k3)) h12)) (K (w5 (w8 (w8 (w8 (w8 (w8 E 89 (sI x4) 90 (sB ((x4==0))) 91 (sB true) 92 (sR 3 0) 93 (sI i2) 94 (sB ((i2==1))) 95 (sB ((i2==1))) 96 (sB true)) 97 (sR 3 19) 98 (sA l3) 99 (sA l6) 100 (sB q7) 101 (sB q7) 102 (sB true) 103 (sI x6) 104 (sB ((x6==5)))) 105 (sB ((x6==5))) 106 (sB true) 107 (sI x8) 108 (sB ((x8==0))) 109 (sB ((x8==0))) 110 (sB true) 111 (sR 7 0) 112 (sI i9)) 113 (sB ((i9==2))) 114 (sB ((i9==2))) 115 (sB true) 116 (sR 7 19) 117 (sA l10) 118 (sA l13) 119 (sB q14) 120 (sB q14)) 121 (sB false) 122 sU 123 sU 124 (sB false) 125 (sB false) 126 sU 127 sU 128 (sB false)) 129 (sB false) 130 sU 131 sU 132 (sB false) 15 (sB false)) (w2 V0 7 (36,k7) 3 (36,k3)) h12)) (K (w5 (w8 (w8 (w8 (w8 (w8 E 89 (sI x4) 90 (sB ((x4==0))) 91 (sB true) 92 (sR 3 0) 93 (sI i2) 94 (sB ((i2==1))) 95 (sB ((i2==1))) 96 (sB true)) 97 (sR 3 19) 98 (sA l3) 99 (sA l6) 100 (sB q7) 101 (sB q7) 102 (sB true) 103 (sI x6) 104 (sB ((x6==5)))) 105 (sB ((x6==5))) 106 (sB true) 107 (sI x8) 108 (sB ((x8==0))) 109 (sB ((x8==0))) 110 (sB true) 111 (sR 7 0) 112 (sI i9)) 113 (sB ((i9==2))) 114 (sB ((i9==2))) 115 (sB false) 116 sU 117 sU 118 sU 119 sU 120 (sB false)) 121 (sB false) 122 sU 123 sU 124 (sB false) 125 (sB false) 126 sU 127 sU 128 (sB false)) 129 (sB false) 130 sU 131 sU 132 (sB false) 15 (sB false)) (w2 V0 7 (36,k7) 3 (36,k3)) h5)) (K (w5 (w8 (w8 (w8 (w8 (w8 E 89 (sI x4) 90 (sB ((x4==0))) 91 (sB true) 92 (sR 3 0) 93 (sI i2) 94 (sB ((i2==1))) 95 (sB ((i2==1))) 96 (sB true)) 97 (sR 3 19) 98 (sA l3) 99 (sA l6) 100 (sB q7) 101 (sB q7) 102 (sB true) 103 (sI x6) 104 (sB ((x6==5)))) 105 (sB ((x6==5))) 106 (sB true) 107 (sI x8) 108 (sB ((x8==0))) 109 (sB ((x8==0))) 110 (sB false) 111 sU 112 sU) 113 sU 114 (sB false) 115 (sB false) 116 sU 117 sU 118 sU 119 sU 120 (sB false)) 121 (sB false) 122 sU 123 sU 124 (sB false) 125 (sB false) 126 sU 127 sU 128 (sB false)) 129 (sB false) 130 sU 131 sU 132 (sB false) 15 (sB false)) (w2 V0 7 (36,k7) 3 (36,k3)) h5)) (K (w5 (w8 (w8 (w8 (w8 (w8 E 89 (sI x4) 90 (sB ((x4==0))) 91 (sB true) 92 (sR 3 0) 93 (sI i2) 94 (sB ((i2==1))) 95 (sB ((i2==1))) 96 (sB true)) 97 (sR 3 19) 98 (sA l3) 99 (sA l6) 100 (sB q7) 101 (sB q7) 102 (sB true) 103 (sI x6) 104 (sB ((x6==5)))) 105 (sB ((x6==5))) 106 (sB false) 107 sU 108 sU 109 (sB false) 110 (sB false) 111 sU 112 sU) 113 sU 114 (sB false) 115 (sB false) 116 sU 117 sU 118 sU 119 sU 120 (sB false)) 121 (sB false) 122 sU 123 sU 124 (sB false) 125 (sB false) 126 sU 127 sU 128 (sB false)) 129 (sB false) 130 sU 131 sU 132 (sB false) 15 (sB false)) (w2 V0 7 (36,k7) 3 (36,k3)) h5)) (K (w5 (w8 (w8 (w8 (w8 (w8 E 89 (sI x4) 90 (sB ((x4==0))) 91 (sB true) 92 (sR 3 0) 93 (sI i2) 94 (sB ((i2==1))) 95 (sB ((i2==1))) 96 (sB true)) 97 (sR 3 19) 98 (sA l3) 99 (sA l6) 100 (sB q7) 101 (sB q7) 102 (sB false) 103 sU 104 sU) 105 (sB false) 106 (sB false) 107 sU 108 sU 109 (sB false) 110 (sB false) 111 sU 112 sU) 113 sU 114 (sB false) 115 (sB false) 116 sU 117 sU 118 sU 119 sU 120 (sB false)) 121 (sB false) 122 sU 123 sU 124 (sB false) 125 (sB false) 126 sU 127 sU 128 (sB false)) 129 (sB false) 130 sU 131 sU 132 (sB false) 15 (sB false)) (w2 V0 7 (36,k7) 3 (36,k3)) h5)) (K (w5 (w8 (w8 (w8 (w8 (w8 E 89 (sI x4) 90 (sB ((x4==0))) 91 (sB true) 92 (sR 3 0) 93 (sI i2) 94 (sB ((i2==1))) 95 (sB ((i2==1))) 96 (sB false)) 97 sU 98 sU 99 sU 100 sU 101 (sB false) 102 (sB false) 103 sU 104 sU) 105 (sB false) 106 (sB false) 107 sU 108 sU 109 (sB false) 110 (sB false) 111 sU 112 sU) 113 sU 114 (sB false) 115 (sB false) 116 sU 117 sU 118 sU 119 sU 120 (sB false)) 121 (sB false) 122 sU 123 sU 124 (sB false) 125 (sB false) 126 sU 127 sU 128 (sB false)) 129 (sB false) 130 sU 131 sU 132 (sB false) 15 (sB false)) (w2 V0 7 (36,k7) 3 (36,k3)) hp)) (K (w5 (w8 (w8 (w8 (w8 (w8 E 89 (sI x4) 90 (sB ((x4==0))) 91 (sB false) 92 sU 93 sU 94 sU 95 (sB false) 96 (sB false)) 97 sU 98 sU 99 sU 100 sU 101 (sB false) 102 (sB false) 103 sU 104 sU) 105 (sB false) 106 (sB false) 107 sU 108 sU 109 (sB false) 110 (sB false) 111 sU 112 sU) 113 sU 114 (sB false) 115 (sB false) 116 sU 117 sU 118 sU 119 sU 120 (sB false)) 121 (sB false) 122 sU 123 sU 124 (sB false) 125 (sB false) 126 sU 127 sU 128 (sB false)) 129 (sB false) 130 sU 131 sU 132 (sB false) 15 (sB false)) (w2 V0 7 (36,k7) 3 (36,k3)) hp):= by subst h; kernel_rfl
def F3_j1 (x1:OA) (x52:Bool) (hp:HP) (K:Kh):Prop:=
  (ite2 x52 (K (.bool false) hp) (CF Tryd.prog 19 [(.int .u8 1),(.int .i64 5000)] hp fun u8 h9=>aggV u8 fun l10=>CF Tryd.prog 18 [(.pointer x1),(.int .i64 17),(.agg ⟨l10⟩)] h9 fun u11 h12=>tup2V u11 fun u13 u14=>aggV u13 fun l15=>intV u14 .i64 fun i16=>if List.length l15=26 then (if List.all l15 one=true then (if 0+List.length l15≤List.length zb36 then (CF Tryd.prog 19 [(.int .u8 1),(.int .i64 5000)] h12 fun u17 h18=>aggV u17 fun l19=>CF Tryd.prog 18 [(.pointer x1),(.int .i64 17),(.agg ⟨l19⟩)] h18 fun u20 h21=>tup2V u20 fun u22 u23=>aggV u22 fun l24=>intV u23 .i64 fun i25=>if List.length l24=26 then (if List.all l24 one=true then (if 0+List.length l24≤List.length zb36 then (CF Tryd.prog 19 [(.int .u8 1),(.int .i64 5001)] h21 fun u26 h27=>aggV u26 fun l28=>CF Tryd.prog 18 [(.pointer x1),(.int .i64 6),(.agg ⟨l28⟩)] h27 fun u29 h30=>tup2V u29 fun u31 u32=>aggV u31 fun l33=>intV u32 .i64 fun i34=>if List.length l33=26 then (if List.all l33 one=true then (if 0+List.length l33≤List.length zb36 then (CF Tryd.prog 19 [(.int .u8 1),(.int .i64 80)] h30 fun u35 h36=>aggV u35 fun l37=>CF Tryd.prog 18 [(.pointer x1),(.int .i64 17),(.agg ⟨l37⟩)] h36 fun u38 h39=>tup2V u38 fun u40 u41=>aggV u40 fun l42=>intV u41 .i64 fun i43=>if List.length l42=26 then (if List.all l42 one=true then (if 0+List.length l42≤List.length zb36 then (CF Tryd.prog 19 [(.int .u8 1),(.int .i64 80)] h39 fun u44 h45=>aggV u44 fun l46=>CF Tryd.prog 18 [(.pointer x1),(.int .i64 2),(.agg ⟨l46⟩)] h45 fun u47 h48=>tup2V u47 fun u49 u50=>aggV u49 fun l51=>intV u50 .i64 fun i52=>if List.length l51=26 then (if List.all l51 one=true then (if 0+List.length l51≤List.length zb36 then (CF Tryd.prog 19 [(.int .u8 1),(.int .i64 65536)] h48 fun u53 h54=>aggV u53 fun l55=>CF Tryd.prog 18 [(.pointer x1),(.int .i64 17),(.agg ⟨l55⟩)] h54 fun u56 h57=>tup2V u56 fun u58 u59=>aggV u58 fun l60=>intV u59 .i64 fun i61=>if List.length l60=26 then (if List.all l60 one=true then (if 0+List.length l60≤List.length zb36 then (ite2 (i16==0) (ldV ((splice zb36 0 l15))[0]? fun v194=>intV v194 .i64 fun i195=>ite2 (i195==1) (ldL (cellsN (splice zb36 0 l15) 19 5) fun l196=>CF Tryd.prog 20 [(.int .u8 1),(.int .i64 1024)] h57 fun u197 h198=>aggV u197 fun l199=>eqAgg Tryd.prog 34 l196 l199 fun q200=>ite2 q200 (ite2 (i25==5) (ite2 (i34==0) (ldV ((splice zb36 0 l33))[0]? fun v201=>intV v201 .i64 fun i202=>ite2 (i202==2) (ldL (cellsN (splice zb36 0 l33) 19 5) fun l203=>CF Tryd.prog 20 [(.int .u8 1),(.int .i64 1025)] h198 fun u204 h205=>aggV u204 fun l206=>eqAgg Tryd.prog 34 l203 l206 fun q207=>ite2 q207 (ite2 (i43==13) (ite2 (i52==10) (F3_j2 x1 (i61==1) h205  K) (F3_j2 x1 false h205  K)) (F3_j2 x1 false h205  K)) (F3_j2 x1 false h205  K)) (F3_j2 x1 false h198  K)) (F3_j2 x1 false h198  K)) (F3_j2 x1 false h198  K)) (F3_j2 x1 false h198  K)) (F3_j2 x1 false h57  K)) (F3_j2 x1 false h57  K)) else False) else False) else False) else False) else False) else False) else False) else False) else False) else False) else False) else False) else False) else False) else False) else False) else False) else False))
theorem F3_r25 (h:E=upd (upd e 2 (sI x2)) 1 (sP x1)):R3 19 6 E V0 hp K=
 ite2 (x2 != 0) (K (w6 E 47 (sI x2) 48 (sB ((x2 != 0))) 49 (sB true) 50 sU 51 sU 52 (sB true)) V0 hp) (K (w6 E 47 (sI x2) 48 (sB ((x2 != 0))) 49 (sB false) 50 (sP x1) 51 (sB ((Option.isNone x1))) 52 (sB ((Option.isNone x1)))) V0 hp):= by subst h; kernel_rfl
def F3 (hp:HP) (K:Kh):Prop:=
  (if List.length [(Value.int .u8 1),.int .u8 0,.int .u8 0,(.int .u8 1)]=4 then (∀ b1:Nat,hp b1=.none→(CF Tryd.prog 17 [(.slice (some ⟨b1,0,none⟩) 1 1),(.int .i64 1024),(.int .i64 1027),(.int .i64 3)] (HP.set hp b1 (.cells 27 (splice [.int .u8 0,.int .u8 0,.int .u8 0,.int .u8 0] 0 [(.int .u8 1),.int .u8 0,.int .u8 0,(.int .u8 1)]) 0)) fun u2 h3=>tup2V u2 fun u4 u5=>ptrV u4 fun p6=>intV u5 .i64 fun i7=>ite2 (i7 != 0) (F3_j1 p6 true h3  K) (F3_j1 p6 (Option.isNone p6) h3  K))) else False)
noncomputable abbrev o3 (k n:Nat):Code:=.region k (opsAt Tryd.f3 (pth n)) false
noncomputable def F3_code:Code:=(.seq (o3 0 2) (.seq (o3 1 5) (.seq (.seq (o3 2 19) (.cond (.tmp 52) (.seq (o3 3 75) .ret) .skip)) (.seq (o3 4 23) (.seq (o3 5 47) (.seq (o3 6 95) (.seq (o3 7 191) (.seq (o3 8 383) (.seq (o3 9 767) (.seq (.region 10 (opsAt Tryd.f3 (pth 1535)) true) (.seq (o3 11 3071) (.seq (o3 12 6143) (.seq (o3 13 12287) (.seq (o3 14 24575) (.seq (o3 15 49151) (.seq (o3 16 98303) (.seq (o3 17 196607) (.seq (o3 18 393215) (.seq (o3 19 786431) (.seq (o3 20 1572863) (.seq (o3 21 3145727) (.seq (o3 22 6291455) (.seq (o3 23 12582911) (.seq (.region 24 (opsAt Tryd.f3 (pth 25165823)) true) (.seq (o3 25 50331647) .ret)))))))))))))))))))))))))
theorem F3_body:Tryd.f3.body=some F3_code:=by kernel_rfl
theorem F3_ok (hp:HP) (K:Kh) (h:F3  hp K):CF Tryd.prog 3 [] hp K:=by
 refine .inl ⟨by kernel_rfl,AC.intro (N:=299) Tryd.func3 F3_body rfl (Nat.le_of_ble_eq_true rfl) ?_⟩
 unfold F3 at h
 refine Ar F3_r0 ?_ Rn Sn Sn
 refine Ar F3_r1 ?_ Rn Sn Sn
 refine mf h fun h=>?_
 refine fun b1 hb_b_1=>?_
 replace h:=h b1 hb_b_1
 refine mC h fun u2 h3 h=>mT h fun u4 u5 h=>mP h fun p6 h=>mI h fun i7 h=>?_
 refine Aq (As (fun env pv hp=>∃ x1 x52,Sub (w2 E0 52 (sB x52) 1 (sP x1)) env∧Sub V0 pv∧F3_j1 x1 x52 hp  K) ?_ ?_)
 ·refine Ag (F3_r25 rfl) ?_ (r2 1 2 Rn) (z2 Sn) Sn
  refine mt h (fun h=>?_) (fun h=>?_)
  ·exact ⟨_,_,(z2 Sn),Sn,h⟩
  ·exact ⟨_,_,(z2 Sn),Sn,h⟩
 ·rintro env pv hp ⟨x1,x52,he,hv,h⟩
  refine Ae ?_ (r2 1 52 Rn) he hv
  unfold F3_j1 at h
  refine Ac h rfl (fun h=>?_) (fun h=>?_)
  ·refine Ar F3_r2 ?_ Rn Sn Sn
   refine AWP.ret ?_
   exact h
  ·refine AWP.skip (Ar F3_r3 ?_ (r1 1 Rn) (z1 Sn) Sn)
   refine mC h fun u8 h9 h=>mA h fun l10 h=>mC h fun u11 h12 h=>mT h fun u13 u14 h=>mA h fun l15 h=>mI h fun i16 h=>mf h fun h=>mf h fun h=>mf h fun h=>?_
   refine Ar F3_r4 ?_ (r1 1 (rp 3 3 0 (r1 4 Rn))) (z3 Sn) (z1 Sn)
   refine mC h fun u17 h18 h=>mA h fun l19 h=>mC h fun u20 h21 h=>mT h fun u22 u23 h=>mA h fun l24 h=>mI h fun i25 h=>mf h fun h=>mf h fun h=>mf h fun h=>?_
   refine Ar F3_r5 ?_ (r1 1 (rp 3 3 0 (r2 4 6 Rn))) (z4 Sn) (z1 Sn)
   refine mC h fun u26 h27 h=>mA h fun l28 h=>mC h fun u29 h30 h=>mT h fun u31 u32 h=>mA h fun l33 h=>mI h fun i34 h=>mf h fun h=>mf h fun h=>mf h fun h=>?_
   refine Ar F3_r6 ?_ (r1 1 (rp 3 3 0 (r2 4 6 (rp 7 7 0 (r1 8 Rn))))) (z6 Sn) (z2 Sn)
   refine mC h fun u35 h36 h=>mA h fun l37 h=>mC h fun u38 h39 h=>mT h fun u40 u41 h=>mA h fun l42 h=>mI h fun i43 h=>mf h fun h=>mf h fun h=>mf h fun h=>?_
   refine Ar F3_r7 ?_ (r1 1 (rp 3 3 0 (r2 4 6 (rp 7 7 0 (r2 8 10 Rn))))) (z7 Sn) (z2 Sn)
   refine mC h fun u44 h45 h=>mA h fun l46 h=>mC h fun u47 h48 h=>mT h fun u49 u50 h=>mA h fun l51 h=>mI h fun i52 h=>mf h fun h=>mf h fun h=>mf h fun h=>?_
   refine Ar F3_r8 ?_ (r1 1 (rp 3 3 0 (r2 4 6 (rp 7 7 0 (r3 8 10 12 Rn))))) (z8 Sn) (z2 Sn)
   refine mC h fun u53 h54 h=>mA h fun l55 h=>mC h fun u56 h57 h=>mT h fun u58 u59 h=>mA h fun l60 h=>mI h fun i61 h=>mf h fun h=>mf h fun h=>mf h fun h=>?_
   refine As (fun env pv hp=>∃ x1 x15,Sub (w2 E0 15 (sB x15) 1 (sP x1)) env∧Sub V0 pv∧F3_j2 x1 x15 hp  K) ?_ ?_
   ·refine AWP.rgnE (by kernel_rfl) (by kernel_rfl) (F3_r24 rfl) ?_ (rp 3 3 0 (r2 4 6 (rp 7 7 0 (r5 8 10 12 14 1 Rn)))) (z1 (z8 Sn)) (z2 Sn)
    refine mt h (fun h=>?_) (fun h=>?_)
    ·refine mV h fun v194 h=>mI h fun i195 h=>?_
     refine mt h (fun h=>?_) (fun h=>?_)
     ·refine mL h fun l196 h=>mC h fun u197 h198 h=>mA h fun l199 h=>mE h fun q200 h=>?_
      refine mt h (fun h=>?_) (fun h=>?_)
      ·refine mt h (fun h=>?_) (fun h=>?_)
       ·refine mt h (fun h=>?_) (fun h=>?_)
        ·refine mV h fun v201 h=>mI h fun i202 h=>?_
         refine mt h (fun h=>?_) (fun h=>?_)
         ·refine mL h fun l203 h=>mC h fun u204 h205 h=>mA h fun l206 h=>mE h fun q207 h=>?_
          refine mt h (fun h=>?_) (fun h=>?_)
          ·refine mt h (fun h=>?_) (fun h=>?_)
           ·refine mt h (fun h=>?_) (fun h=>?_)
            ·exact ⟨_,_,(z2 Sn),Sn,h⟩
            ·exact ⟨_,_,(z2 Sn),Sn,h⟩
           ·exact ⟨_,_,(z2 Sn),Sn,h⟩
          ·exact ⟨_,_,(z2 Sn),Sn,h⟩
         ·exact ⟨_,_,(z2 Sn),Sn,h⟩
        ·exact ⟨_,_,(z2 Sn),Sn,h⟩
       ·exact ⟨_,_,(z2 Sn),Sn,h⟩
      ·exact ⟨_,_,(z2 Sn),Sn,h⟩
     ·exact ⟨_,_,(z2 Sn),Sn,h⟩
    ·exact ⟨_,_,(z2 Sn),Sn,h⟩
   ·rintro env pv hp ⟨x1,x15,he,hv,h⟩
    refine Ae ?_ (r2 1 15 Rn) he hv
    unfold F3_j2 at h
    refine Ar F3_r9 ?_ (r2 1 15 Rn) (z2 Sn) Sn
    refine mC h fun u62 h63 h=>mI h fun i64 h=>?_
    refine Ar F3_r10 ?_ (r3 1 15 16 Rn) (z3 Sn) Sn
    refine mC h fun u65 h66 h=>mT h fun u67 u68 h=>mB h fun q69 h=>mI h fun i70 h=>?_
    refine Ar F3_r11 ?_ (r5 1 15 16 17 18 Rn) (z5 Sn) Sn
    refine mC h fun u71 h72 h=>mT h fun u73 u74 h=>mB h fun q75 h=>mI h fun i76 h=>?_
    refine Ar F3_r12 ?_ (r6 1 15 16 17 18 20 Rn) (z6 Sn) Sn
    refine mC h fun u77 h78 h=>mT h fun u79 u80 h=>mB h fun q81 h=>mI h fun i82 h=>?_
    refine As (fun env pv hp=>∃ x1 x15 x23,Sub (w3 E0 23 (sB x23) 15 (sB x15) 1 (sP x1)) env∧Sub V0 pv∧F3_j3 x1 x15 x23 hp  K) ?_ ?_
    ·refine Ag (F3_r23 rfl) ?_ (r7 1 16 17 18 20 22 15 Rn) (z7 Sn) Sn
     refine mt h (fun h=>?_) (fun h=>?_)
     ·refine mt h (fun h=>?_) (fun h=>?_)
      ·refine mt h (fun h=>?_) (fun h=>?_)
       ·refine mt h (fun h=>?_) (fun h=>?_)
        ·refine mt h (fun h=>?_) (fun h=>?_)
         ·refine mC h fun u191 h192 h=>mI h fun i193 h=>?_
          exact ⟨_,_,_,(z3 Sn),Sn,h⟩
         ·exact ⟨_,_,_,(z3 Sn),Sn,h⟩
        ·exact ⟨_,_,_,(z3 Sn),Sn,h⟩
       ·exact ⟨_,_,_,(z3 Sn),Sn,h⟩
      ·exact ⟨_,_,_,(z3 Sn),Sn,h⟩
     ·exact ⟨_,_,_,(z3 Sn),Sn,h⟩
    ·rintro env pv hp ⟨x1,x15,x23,he,hv,h⟩
     refine Ae ?_ (r3 1 15 23 Rn) he hv
     unfold F3_j3 at h
     refine Ar F3_r13 ?_ (r3 1 15 23 Rn) (z3 Sn) Sn
     refine mC h fun u83 h84 h=>mA h fun l85 h=>mC h fun u86 h87 h=>mA h fun l88 h=>mC h fun u89 h90 h=>mT h fun u91 u92 h=>mA h fun l93 h=>mI h fun i94 h=>mf h fun h=>mf h fun h=>mf h fun h=>?_
     refine Ar F3_r14 ?_ (r3 1 15 23 (rp 24 24 0 (r1 25 Rn))) (z5 Sn) (z1 Sn)
     refine mC h fun u95 h96 h=>mA h fun l97 h=>mC h fun u98 h99 h=>mA h fun l100 h=>mC h fun u101 h102 h=>mT h fun u103 u104 h=>mA h fun l105 h=>mI h fun i106 h=>mf h fun h=>mf h fun h=>mf h fun h=>?_
     refine Ar F3_r15 ?_ (r3 1 15 23 (rp 24 24 0 (r2 25 27 Rn))) (z6 Sn) (z1 Sn)
     refine mC h fun u107 h108 h=>mA h fun l109 h=>mC h fun u110 h111 h=>mA h fun l112 h=>mC h fun u113 h114 h=>mT h fun u115 u116 h=>mA h fun l117 h=>mI h fun i118 h=>mf h fun h=>mf h fun h=>mf h fun h=>?_
     refine Ar F3_r16 ?_ (r3 1 15 23 (rp 24 24 0 (r3 25 27 29 Rn))) (z7 Sn) (z1 Sn)
     refine mC h fun u119 h120 h=>mA h fun l121 h=>mC h fun u122 h123 h=>mA h fun l124 h=>mC h fun u125 h126 h=>mT h fun u127 u128 h=>mA h fun l129 h=>mI h fun i130 h=>mf h fun h=>mf h fun h=>mf h fun h=>?_
     refine Ar F3_r17 ?_ (r3 1 15 23 (rp 24 24 0 (r4 25 27 29 31 Rn))) (z8 Sn) (z1 Sn)
     refine mC h fun u131 h132 h=>mA h fun l133 h=>mC h fun u134 h135 h=>mT h fun u136 u137 h=>mA h fun l138 h=>mI h fun i139 h=>mf h fun h=>mf h fun h=>mf h fun h=>?_
     refine Ar F3_r18 ?_ (r3 1 15 23 (rp 24 24 0 (r4 25 27 29 31 (rp 32 32 0 (r1 33 Rn))))) (z2 (z8 Sn)) (z2 Sn)
     refine mC h fun u140 h141 h=>mA h fun l142 h=>mC h fun u143 h144 h=>mT h fun u145 u146 h=>mA h fun l147 h=>mI h fun i148 h=>mf h fun h=>mf h fun h=>mf h fun h=>?_
     refine Ar F3_r19 ?_ (r3 1 15 23 (rp 24 24 0 (r4 25 27 29 31 (rp 32 32 0 (r2 33 35 Rn))))) (z3 (z8 Sn)) (z2 Sn)
     refine mC h fun u149 h150 h=>mA h fun l151 h=>mC h fun u152 h153 h=>mT h fun u154 u155 h=>mA h fun l156 h=>mI h fun i157 h=>mf h fun h=>mf h fun h=>mf h fun h=>?_
     refine Ar F3_r20 ?_ (r3 1 15 23 (rp 24 24 0 (r4 25 27 29 31 (rp 32 32 0 (r2 33 35 (rp 36 36 0 (r1 37 Rn))))))) (z5 (z8 Sn)) (z3 Sn)
     refine mC h fun u158 h159 h=>mA h fun l160 h=>mC h fun u161 h162 h=>mT h fun u163 u164 h=>mA h fun l165 h=>mI h fun i166 h=>mf h fun h=>mf h fun h=>mf h fun h=>?_
     refine As (fun env pv hp=>∃ x1 x15 x23 x40,Sub (w4 E0 40 (sB x40) 23 (sB x23) 15 (sB x15) 1 (sP x1)) env∧Sub V0 pv∧F3_j4 x1 x15 x23 x40 hp  K) ?_ ?_
     ·refine AWP.rgnE (by kernel_rfl) (by kernel_rfl) (F3_r22 rfl) ?_ (rp 24 24 0 (r4 25 27 29 31 (rp 32 32 0 (r2 33 35 (rp 36 36 0 (r5 37 39 1 15 23 Rn)))))) (z6 (z8 Sn)) (z3 Sn)
      refine mt h (fun h=>?_) (fun h=>?_)
      ·refine mV h fun v179 h=>mB h fun q180 h=>?_
       refine mt h (fun h=>?_) (fun h=>?_)
       ·refine mV h fun v181 h=>mI h fun i182 h=>?_
        refine mt h (fun h=>?_) (fun h=>?_)
        ·refine mt h (fun h=>?_) (fun h=>?_)
         ·refine mt h (fun h=>?_) (fun h=>?_)
          ·refine mt h (fun h=>?_) (fun h=>?_)
           ·refine mt h (fun h=>?_) (fun h=>?_)
            ·refine mL h fun l183 h=>mC h fun u184 h185 h=>mA h fun l186 h=>mE h fun q187 h=>?_
             refine mt h (fun h=>?_) (fun h=>?_)
             ·refine mt h (fun h=>?_) (fun h=>?_)
              ·refine mt h (fun h=>?_) (fun h=>?_)
               ·refine mL h fun l188 h=>mL h fun l189 h=>mE h fun q190 h=>?_
                refine mt h (fun h=>?_) (fun h=>?_)
                ·exact ⟨_,_,_,_,(z4 Sn),Sn,h⟩
                ·exact ⟨_,_,_,_,(z4 Sn),Sn,h⟩
               ·exact ⟨_,_,_,_,(z4 Sn),Sn,h⟩
              ·exact ⟨_,_,_,_,(z4 Sn),Sn,h⟩
             ·exact ⟨_,_,_,_,(z4 Sn),Sn,h⟩
            ·exact ⟨_,_,_,_,(z4 Sn),Sn,h⟩
           ·exact ⟨_,_,_,_,(z4 Sn),Sn,h⟩
          ·exact ⟨_,_,_,_,(z4 Sn),Sn,h⟩
         ·exact ⟨_,_,_,_,(z4 Sn),Sn,h⟩
        ·exact ⟨_,_,_,_,(z4 Sn),Sn,h⟩
       ·exact ⟨_,_,_,_,(z4 Sn),Sn,h⟩
      ·exact ⟨_,_,_,_,(z4 Sn),Sn,h⟩
     ·rintro env pv hp ⟨x1,x15,x23,x40,he,hv,h⟩
      refine Ae ?_ (r4 1 15 23 40 Rn) he hv
      unfold F3_j4 at h
      refine Ar (F3_r21 rfl) ?_ (r4 1 15 23 40 Rn) (z4 Sn) Sn
      refine mt h (fun h=>?_) (fun h=>?_)
      ·refine mt h (fun h=>?_) (fun h=>?_)
       ·refine mt h (fun h=>?_) (fun h=>?_)
        ·refine mC h fun u167 h168 h=>mI h fun i169 h=>?_
         refine mt h (fun h=>?_) (fun h=>?_)
         ·refine mC h fun u170 h171 h=>mI h fun i172 h=>?_
          refine mt h (fun h=>?_) (fun h=>?_)
          ·refine mC h fun u173 h174 h=>mI h fun i175 h=>?_
           refine mt h (fun h=>?_) (fun h=>?_)
           ·refine mC h fun u176 h177 h=>mB h fun q178 h=>?_
            refine AWP.ret ?_
            exact h
           ·refine AWP.ret ?_
            exact h
          ·refine AWP.ret ?_
           exact h
         ·refine AWP.ret ?_
          exact h
        ·refine AWP.ret ?_
         exact h
       ·refine AWP.ret ?_
        exact h
      ·refine AWP.ret ?_
       exact h
end
end Go.Proofs
set_option linter.unusedVariables false
set_option linter.unusedSimpArgs false
set_option maxRecDepth 20000
namespace Go.Proofs
open Go Go.HL
open Go.Exp (Th tlt Ord setW dropW insW)
section
variable {tb:Obj} {hp:HP} {K:Value→HP→Prop}
end
end Go.Proofs
set_option linter.unusedVariables false
set_option linter.unusedSimpArgs false
set_option maxRecDepth 20000
namespace Go.Proofs
open Go Go.HL
open Go.Exp (Th tlt Ord setW dropW insW)
section
variable {hq hp:HP} {r:Nat} {mx:Int} {last:Nat} {L:List Sy} {K:Value→HP→Prop}
theorem eq34 {p q:Q × Int} {c:Bool→Prop} (h:c (decide (p=q))):eqAgg Tryd.prog 34 (t4 p) (t4 q) c:=eq75 h
end
end Go.Proofs
set_option linter.unusedVariables false
set_option linter.unusedSimpArgs false
set_option maxRecDepth 20000
namespace Go.Proofs
open Go Go.HL
theorem bdc_shaped (x:Bd):shaped Tryd.prog 5 36 (bdc x)=true:=by kernel_rfl
theorem eq36 {x y:Bd} {c:Bool→Prop} (h:c (decide (x=y))):eqAgg Tryd.prog 36 (bdc x) (bdc y) c:=
  eqAgg_of (m:=5) (D:=5) (by kernel_rfl) (bdc_shaped x) (bdc_shaped y) (by simp [bdc_inj]) h
/-- An inner address of few. -/
def inT (a port:Int):V6 × Int:=(((32,1,0,0),(0,0,0,0),(0,0,0,0),(0,0,0,a)),port)
theorem inT_ok {a port:Int} (ha:okB a) (hz:okZ port):okT6 (inT a port):=by
  have b0:okB 0:=okBc rfl
  exact ⟨⟨⟨okBc rfl,okBc rfl,b0,b0⟩,⟨b0,b0,b0,b0⟩,⟨b0,b0,b0,b0⟩,⟨b0,b0,b0,ha⟩⟩,hz⟩
section
variable {tb:Obj} {hp:HP} {K:Value→HP→Prop}
theorem C19 {a port:Int} (h:K (.agg ⟨t6 (inT a port)⟩) hp):CF Tryd.prog 19 [.int .u8 a,.int .i64 port] hp K:=by
  refine F19_ok a port hp K ?_
  unfold F19
  exact ifI rfl (ifI rfl (ifI rfl (ifI (Nat.le_refl 17) h)))
theorem C20 {a port:Int} (h:K (.agg ⟨t4 (ta a port)⟩) hp):CF Tryd.prog 20 [.int .u8 a,.int .i64 port] hp K:=by
  refine F20_ok a port hp K ?_
  unfold F20
  exact ifI rfl (ifI rfl (ifI rfl (ifI (Nat.le_refl 5) h)))
def qB:Q:=(1,0,0,1)
theorem okqB:∀ q∈[qB],okQ q:=fun q hq=>by
  rw [List.mem_singleton.1 hq]
  exact ⟨okBc rfl,okBc rfl,okBc rfl,okBc rfl⟩
theorem newOkB:newBOk [qB] 1024 1027 3:=⟨by decide,by decide,by decide⟩
/-- The row of one address at the start of a law of examples. -/
theorem rowB {b1:Nat} (hb0:b1≠0) (hp:HP):Shows (hp.set b1 (.cells 27 (v4 qB) 0)) (some ⟨b1,0,none⟩) 1 4 ([qB].flatMap v4):=
  .inr ⟨b1,0,rfl,by rw [HP.cellN_of (HP.set_eq ..)]; rfl⟩
set_option maxHeartbeats 1000000 in
theorem C27 (ht:TabR tb hp) (hK:∀ hp',HSub hp hp'→K (.bool true) hp'):CF Tryd.prog 27 [] hp K:=by
  refine F27_ok hp K ?_
  unfold F27
  refine ifI rfl ?_
  refine fun (b1:Nat) (hb1:hp b1=Ent.none)=>?_
  have ht0:TabR tb (hp.set b1 (.cells 27 (v4 qB) 0)):=ht.set hb1 _
  have hs0:HSub hp (hp.set b1 (.cells 27 (v4 qB) 0)):=HSub.set_fresh hp _ hb1
  have hb0:b1≠0:=fun e=>by rw [e,ht.1] at hb1; cases hb1
  have hrow:=rowB hb0 hp
  show CF Tryd.prog 17 _ (hp.set b1 (.cells 27 (v4 qB) 0)) _
  generalize hp.set b1 (.cells 27 (v4 qB) 0)=hp0 at *
  refine S17 ht0 (l:=[qB]) hrow rfl (Nat.le_refl _) (okZc rfl) (okZc rfl) okqB (fun hne=>absurd newOkB hne) fun _ t hp1 h1=>?_
  rw [tup2V_mk,pq,intV_int,show ((0:Int) != 0)=false from rfl,ite2_false]
  show F27_j1 (some ⟨t,0,none⟩) false hp1 K
  unfold F27_j1
  rw [ite2_false]
  have o1:okT6 (inT 1 5000):=inT_ok (okBc rfl) (okZc rfl)
  refine C19 ?_
  rw [aggV_agg]
  refine S18 h1 (okZc rfl) o1 (by decide) (fun hne=>absurd (by kernel_rfl) hne) fun _ u hu hp2 h2=>?_
  have eu:u=ta 1 1024:=by
    have:tkB [qB] 1024 1027 [] 17 (inT 1 5000)=some (ta 1 1024):=by kernel_rfl
    rw [this] at hu; exact (Option.some.inj hu).symm
  subst eu
  rw [tup2V_mk,aggV_agg,intV_int,if_pos (bdc_len _),if_pos (bdc_one _),if_pos (by simp [bdc_len]),bd_spl rfl]
  refine C19 ?_
  rw [aggV_agg]
  refine S18 h2 (okZc rfl) o1 (by decide) (fun _ hp3 h3=>?_) fun e=>absurd e (by decide +kernel)
  rw [tup2V_mk,aggV_agg,intV_int,if_pos (bdc_len _),if_pos (bdc_one _),if_pos (by simp [bdc_len])]
  refine C20 ?_
  rw [aggV_agg]
  refine W63 h3.w (okZc rfl) (ta_ok (okBc rfl) (okZc rfl)) ?_
  have ef:find4 17 (ta 1 1024) ([]++[(⟨((0+1:Nat):Int),17,inT 1 5000,ta 1 1024,false,0⟩:Bd)])=some ⟨1,17,inT 1 5000,ta 1 1024,false,0⟩:=by kernel_rfl
  rw [ef]
  unfold toldV
  rw [tup2V_mk,aggV_agg,boolV_bool,if_pos (bdc_len _),if_pos (bdc_one _),if_pos (by simp [bdc_len])]
  simp only [Option.getD_some]
  rw [bd_spl rfl]
  rw [show ((0:Int)==0)=true from rfl,ite2_true,show (roomB [qB] 1024 1027 (3:Int).toNat ([]++[(⟨((0+1:Nat):Int),17,inT 1 5000,ta 1 1024,false,0⟩:Bd)]) 17 (inT 1 5000)==5)=true by kernel_rfl,ite2_true,bdc_id,ldV_some,intV_int]
  show ite2 true _ _
  rw [ite2_true,bdc_out,ldL_some]
  refine C20 ?_
  rw [aggV_agg]
  refine eq34 ?_
  rw [decide_eq_true rfl,ite2_true]
  show ite2 true _ _
  rw [ite2_true,bdc_cells,ldL_some,bdc_cells,ldL_some]
  refine eq36 ?_
  rw [show (⟨((0+1:Nat):Int),17,inT 1 5000,ta 1 1024,false,0⟩:Bd)=⟨1,17,inT 1 5000,ta 1 1024,false,0⟩ from rfl,decide_eq_true rfl,ite2_true]
  refine W23 h3.w ?_
  rw [intV_int]
  exact hK hp3 (hs0.trans (h3.fin ht0))
end
end Go.Proofs
set_option linter.unusedVariables false
set_option linter.unusedSimpArgs false
set_option maxRecDepth 20000
namespace Go.Proofs
open Go Go.HL
def kb1:Bd:=⟨1,17,inT 1 5000,ta 1 1024,false,0⟩
def kb2:Bd:=⟨2,6,inT 1 5001,ta 1 1025,false,0⟩
def kb3:Bd:=⟨3,17,inT 1 80,ta 1 80,true,0⟩
def kb4:Bd:=⟨4,1,inT 2 7,ta 1 1024,false,0⟩
section
variable {tb:Obj} {hp0 hp:HP} {K:Value→HP→Prop} {t:Nat}
/-- Where the examples stand. -/
abbrev KS (tb:Obj) (hp0 hp:HP) (t last n:Nat) (L:List Bd):Prop:=BdS tb hp0 hp t [qB] 1024 1027 3 last n L
set_option maxHeartbeats 2000000 in
theorem knownC (ht:TabR tb hp0) (h:KS tb hp0 hp t 2 3 [kb2]) (hK:∀ hp',HSub hp0 hp'→K (.bool true) hp'):F3_j3 (some ⟨t,0,none⟩) true true hp K:=by
  have b1:okB 1:=okBc rfl
  have b2:okB 2:=okBc rfl
  have o1:okT6 (inT 1 80):=inT_ok b1 (okZc rfl)
  have o2:okT6 (inT 2 80):=inT_ok b2 (okZc rfl)
  have p1:okT (ta 1 80):=ta_ok b1 (okZc rfl)
  have p2:okT (ta 2 80):=ta_ok b2 (okZc rfl)
  unfold F3_j3
  refine C19 ?_
  rw [aggV_agg]
  refine C20 ?_
  rw [aggV_agg]
  refine S24 h (okZc rfl) o1 p1 (by decide) (fun e=>absurd (by kernel_rfl) e) fun _ hp1 h1=>?_
  have h1:KS tb hp0 hp1 t 3 4 [kb2,kb3]:=h1
  rw [show (⟨((2+1:Nat):Int),17,inT 1 80,ta 1 80,true,0⟩:Bd)=kb3 from rfl]
  rw [tup2V_mk,aggV_agg,intV_int,if_pos (bdc_len _),if_pos (bdc_one _),if_pos (by simp [bdc_len]),bd_spl rfl]
  refine C19 ?_
  rw [aggV_agg]
  refine C20 ?_
  rw [aggV_agg]
  refine S24 h1 (okZc rfl) o2 p1 (by decide) (fun _ hp2 h2=>?_) fun e=>absurd e (by decide +kernel)
  rw [show bindB [qB] 3 [kb2,kb3] 17 (inT 2 80) (ta 1 80)=5 by kernel_rfl]
  rw [tup2V_mk,aggV_agg,intV_int,if_pos (bdc_len _),if_pos (bdc_one _),if_pos (by simp [bdc_len])]
  refine C19 ?_
  rw [aggV_agg]
  refine C20 ?_
  rw [aggV_agg]
  refine S24 h2 (okZc rfl) o2 p2 (by decide) (fun _ hp3 h3=>?_) fun e=>absurd e (by decide +kernel)
  rw [show bindB [qB] 3 [kb2,kb3] 17 (inT 2 80) (ta 2 80)=1 by kernel_rfl]
  rw [tup2V_mk,aggV_agg,intV_int,if_pos (bdc_len _),if_pos (bdc_one _),if_pos (by simp [bdc_len])]
  refine C19 ?_
  rw [aggV_agg]
  refine C20 ?_
  rw [aggV_agg]
  refine S24 h3 (okZc rfl) o2 (ta_ok b1 (okZc rfl)) (by decide) (fun _ hp4 h4=>?_) fun e=>absurd e (by decide +kernel)
  rw [show bindB [qB] 3 [kb2,kb3] 6 (inT 2 80) (ta 1 1025)=5 by kernel_rfl]
  rw [tup2V_mk,aggV_agg,intV_int,if_pos (bdc_len _),if_pos (bdc_one _),if_pos (by simp [bdc_len])]
  refine C19 ?_
  rw [aggV_agg]
  refine S18 h4 (okZc rfl) (inT_ok b2 (okZc rfl)) (by decide) (fun e=>absurd (by kernel_rfl) e) fun _ u hu hp5 h5=>?_
  have eu:u=ta 1 1024:=by
    have:tkB [qB] 1024 1027 [kb2,kb3] 1 (inT 2 7)=some (ta 1 1024):=by kernel_rfl
    rw [this] at hu; exact (Option.some.inj hu).symm
  subst eu
  have h5:KS tb hp0 hp5 t 4 5 [kb2,kb3,kb4]:=h5
  rw [show (⟨((3+1:Nat):Int),1,inT 2 7,ta 1 1024,false,0⟩:Bd)=kb4 from rfl]
  rw [tup2V_mk,aggV_agg,intV_int,if_pos (bdc_len _),if_pos (bdc_one _),if_pos (by simp [bdc_len]),bd_spl rfl]
  refine C19 ?_
  rw [aggV_agg]
  refine S18 h5 (okZc rfl) (inT_ok (okBc rfl) (okZc rfl)) (by decide) (fun _ hp6 h6=>?_) fun e=>absurd e (by decide +kernel)
  rw [show roomB [qB] 1024 1027 3 [kb2,kb3,kb4] 1 (inT 3 7)=6 by kernel_rfl]
  rw [tup2V_mk,aggV_agg,intV_int,if_pos (bdc_len _),if_pos (bdc_one _),if_pos (by simp [bdc_len])]
  refine C19 ?_
  rw [aggV_agg]
  refine S25 h6 (okZc rfl) o1 (fun e=>absurd (by kernel_rfl) e) fun b hb _ _ hp7 h7=>?_
  have eb:b=kb3:=by
    have:find6 17 (inT 1 80) [kb2,kb3,kb4]=some kb3:=by kernel_rfl
    rw [this] at hb; exact (Option.some.inj hb).symm
  subst eb
  have h7:KS tb hp0 hp7 t 4 5 [kb2,kb4]:=h7
  rw [tup2V_mk,aggV_agg,intV_int,if_pos (bdc_len _),if_pos (bdc_one _),if_pos (by simp [bdc_len])]
  refine C19 ?_
  rw [aggV_agg]
  refine S25 h7 (okZc rfl) (inT_ok b1 (okZc rfl)) (fun _ hp8 h8=>?_) fun b hb e=>absurd e (by decide +kernel)
  rw [show unbB [kb2,kb4] 6 (inT 1 5001)=4 by kernel_rfl]
  rw [tup2V_mk,aggV_agg,intV_int,if_pos (bdc_len _),if_pos (bdc_one _),if_pos (by simp [bdc_len])]
  rw [show ((0:Int)==0)=true from rfl,ite2_true,bdc_st,ldV_some,boolV_bool,show kb3.st=true from rfl,ite2_true,bdc_id,ldV_some,intV_int,show (kb3.id==3)=true from rfl,ite2_true,show ((5:Int)==5)=true from rfl,ite2_true,show ((1:Int)==1)=true from rfl,ite2_true,ite2_true,ite2_true,bdc_out,ldL_some]
  refine C20 ?_
  rw [aggV_agg]
  refine eq34 ?_
  rw [decide_eq_true (show kb4.out=ta 1 1024 from rfl),ite2_true,show ((6:Int)==6)=true from rfl,ite2_true,ite2_true,bd_spl rfl,bdc_cells,ldL_some,ldL_some]
  refine eq36 ?_
  rw [decide_eq_true rfl,ite2_true]
  show F3_j4 _ true true true _ _
  unfold F3_j4
  rw [ite2_true,ite2_true,ite2_true]
  refine W26 h8.w (by decide) ?_
  rw [intV_int,show (freeB [qB] 1024 1027 [kb2,kb4] 17==4)=true by kernel_rfl,ite2_true]
  refine W26 h8.w (by decide) ?_
  rw [intV_int,show (freeB [qB] 1024 1027 [kb2,kb4] 6==3)=true by kernel_rfl,ite2_true]
  refine W26 h8.w (by decide) ?_
  rw [intV_int,show (freeB [qB] 1024 1027 [kb2,kb4] 9==0)=true by kernel_rfl,ite2_true]
  refine C27 h8.w.tab fun hp9 hs9=>?_
  rw [boolV_bool]
  exact hK hp9 ((h8.fin ht).trans hs9)
set_option maxHeartbeats 2000000 in
theorem knownB (ht:TabR tb hp0) (h:KS tb hp0 hp t 2 2 [kb1,kb2]) (hK:∀ hp',HSub hp0 hp'→K (.bool true) hp'):F3_j2 (some ⟨t,0,none⟩) true hp K:=by
  unfold F3_j2
  have f1:findI 1 [kb1,kb2]=some kb1:=by kernel_rfl
  refine S21 h (by decide) (fun e=>by rw [f1] at e; cases e) fun b hb hp1 h1=>?_
  rw [f1] at hb; cases hb
  have h1:KS tb hp0 hp1 t 2 3 [{ kb1 with ses:=1 },kb2]:=h1
  rw [intV_int]
  have f2:findI 1 [{ kb1 with ses:=1 },kb2]=some { kb1 with ses:=1 }:=by kernel_rfl
  refine S22 h1 (fun e=>by rw [f2] at e; cases e) (fun b hb e=>by rw [f2] at hb; cases hb; cases e) fun b hb _ hp2 h2=>?_
  rw [f2] at hb; cases hb
  have h2:KS tb hp0 hp2 t 2 3 [kb2]:=h2
  rw [tup2V_mk,boolV_bool,intV_int]
  refine S22 h2 (fun _ hp3 h3=>?_) (fun b hb=>by rw [show findI 1 [kb2]=none by kernel_rfl] at hb; cases hb) fun b hb=>by rw [show findI 1 [kb2]=none by kernel_rfl] at hb; cases hb
  rw [tup2V_mk,boolV_bool,intV_int]
  have f3:findI 2 [kb2]=some kb2:=by kernel_rfl
  refine S22 h3 (fun e=>by rw [f3] at e; cases e) (fun b hb _ hp4 h4=>?_) fun b hb e=>by rw [f3] at hb; cases hb; cases e
  rw [tup2V_mk,boolV_bool,intV_int]
  show ite2 true _ _
  rw [ite2_true]
  show ite2 true _ _
  rw [ite2_true]
  show ite2 true _ _
  rw [ite2_true]
  show ite2 true _ _
  rw [ite2_true]
  show ite2 true _ _
  rw [ite2_true]
  refine W23 h4.w ?_
  rw [intV_int]
  exact knownC ht h4 hK
set_option maxHeartbeats 2000000 in
theorem C3 (ht:TabR tb hp0) (hK:K (.bool true) hp0):CF Tryd.prog 3 [] hp0 K:=by
  refine CF.drop (F3_ok hp0 _ ?_)
  unfold F3
  refine ifI rfl ?_
  refine fun (b1:Nat) (hb1:hp0 b1=Ent.none)=>?_
  have ht0:TabR tb (hp0.set b1 (.cells 27 (v4 qB) 0)):=ht.set hb1 _
  have hs0:HSub hp0 (hp0.set b1 (.cells 27 (v4 qB) 0)):=HSub.set_fresh hp0 _ hb1
  have hb0:b1≠0:=fun e=>by rw [e,ht.1] at hb1; cases hb1
  have hrow:=rowB hb0 hp0
  show CF Tryd.prog 17 _ (hp0.set b1 (.cells 27 (v4 qB) 0)) _
  generalize hp0.set b1 (.cells 27 (v4 qB) 0)=hpr at *
  refine S17 ht0 (l:=[qB]) hrow rfl (Nat.le_refl _) (okZc rfl) (okZc rfl) okqB (fun hne=>absurd newOkB hne) fun _ t hp1 h=>?_
  rw [tup2V_mk,pq,intV_int,show ((0:Int) != 0)=false from rfl,ite2_false]
  show F3_j1 (some ⟨t,0,none⟩) false hp1 _
  unfold F3_j1
  rw [ite2_false]
  have h:KS tb hpr hp1 t 0 0 []:=h
  have b1:okB 1:=okBc rfl
  have o1:okT6 (inT 1 5000):=inT_ok b1 (okZc rfl)
  refine C19 ?_
  rw [aggV_agg]
  refine S18 h (okZc rfl) o1 (by decide) (fun e=>absurd (by kernel_rfl) e) fun _ u hu hp2 h2=>?_
  have eu:u=ta 1 1024:=by
    have:tkB [qB] 1024 1027 [] 17 (inT 1 5000)=some (ta 1 1024):=by kernel_rfl
    rw [this] at hu; exact (Option.some.inj hu).symm
  subst eu
  have h2:KS tb hpr hp2 t 1 1 [kb1]:=h2
  rw [show (⟨((0+1:Nat):Int),17,inT 1 5000,ta 1 1024,false,0⟩:Bd)=kb1 from rfl]
  rw [tup2V_mk,aggV_agg,intV_int,if_pos (bdc_len _),if_pos (bdc_one _),if_pos (by simp [bdc_len]),bd_spl rfl]
  refine C19 ?_
  rw [aggV_agg]
  refine S18 h2 (okZc rfl) o1 (by decide) (fun _ hp3 h3=>?_) fun e=>absurd e (by decide +kernel)
  rw [show roomB [qB] 1024 1027 3 [kb1] 17 (inT 1 5000)=5 by kernel_rfl]
  rw [tup2V_mk,aggV_agg,intV_int,if_pos (bdc_len _),if_pos (bdc_one _),if_pos (by simp [bdc_len])]
  refine C19 ?_
  rw [aggV_agg]
  refine S18 h3 (okZc rfl) (inT_ok b1 (okZc rfl)) (by decide) (fun e=>absurd (by kernel_rfl) e) fun _ u hu hp4 h4=>?_
  have eu:u=ta 1 1025:=by
    have:tkB [qB] 1024 1027 [kb1] 6 (inT 1 5001)=some (ta 1 1025):=by kernel_rfl
    rw [this] at hu; exact (Option.some.inj hu).symm
  subst eu
  have h4:KS tb hpr hp4 t 2 2 [kb1,kb2]:=h4
  rw [show (⟨((1+1:Nat):Int),6,inT 1 5001,ta 1 1025,false,0⟩:Bd)=kb2 from rfl]
  rw [tup2V_mk,aggV_agg,intV_int,if_pos (bdc_len _),if_pos (bdc_one _),if_pos (by simp [bdc_len])]
  rw [show splice _ 0 (bdc kb2)=bdc kb2 from bd_spl rfl]
  refine C19 ?_
  rw [aggV_agg]
  refine S18 h4 (okZc rfl) (inT_ok b1 (okZc rfl)) (by decide) (fun _ hp5 h5=>?_) fun e=>absurd e (by decide +kernel)
  rw [show roomB [qB] 1024 1027 3 [kb1,kb2] 17 (inT 1 80)=13 by kernel_rfl]
  rw [tup2V_mk,aggV_agg,intV_int,if_pos (bdc_len _),if_pos (bdc_one _),if_pos (by simp [bdc_len])]
  refine C19 ?_
  rw [aggV_agg]
  refine S18 h5 (okZc rfl) (inT_ok b1 (okZc rfl)) (by decide) (fun _ hp6 h6=>?_) fun e=>absurd e (by decide +kernel)
  rw [show roomB [qB] 1024 1027 3 [kb1,kb2] 2 (inT 1 80)=10 by kernel_rfl]
  rw [tup2V_mk,aggV_agg,intV_int,if_pos (bdc_len _),if_pos (bdc_one _),if_pos (by simp [bdc_len])]
  refine C19 ?_
  rw [aggV_agg]
  refine S18 h6 (okZc rfl) (inT_ok b1 (okZc rfl)) (by decide) (fun _ hp7 h7=>?_) fun e=>absurd e (by decide +kernel)
  rw [show roomB [qB] 1024 1027 3 [kb1,kb2] 17 (inT 1 65536)=1 by kernel_rfl]
  rw [tup2V_mk,aggV_agg,intV_int,if_pos (bdc_len _),if_pos (bdc_one _),if_pos (by simp [bdc_len])]
  rw [show ((0:Int)==0)=true from rfl,ite2_true,bdc_id,ldV_some,intV_int,show (kb1.id==1)=true from rfl,ite2_true,bdc_out,ldL_some]
  refine C20 ?_
  rw [aggV_agg]
  refine eq34 ?_
  rw [decide_eq_true (show kb1.out=ta 1 1024 from rfl),ite2_true,show ((5:Int)==5)=true from rfl,ite2_true,ite2_true,bdc_id,ldV_some,intV_int,show (kb2.id==2)=true from rfl,ite2_true,bdc_out,ldL_some]
  refine C20 ?_
  rw [aggV_agg]
  refine eq34 ?_
  rw [decide_eq_true (show kb2.out=ta 1 1025 from rfl),ite2_true,show ((13:Int)==13)=true from rfl,ite2_true,show ((10:Int)==10)=true from rfl,ite2_true]
  show F3_j2 _ true _ _
  exact knownB ht0 h7 fun hp' hs=>⟨hp0,hs0.trans hs,hK⟩
end
end Go.Proofs
namespace Go.Proofs.YtpkhoemonibajaaDoor
open Go Go.HL Go.Proofs
def theLaid : List (String × DataW Unit) := [("math/bits.deBruijn32tab", Rows.laid_math_bits_deBruijn32tab), ("math/bits.deBruijn64tab", Rows.laid_math_bits_deBruijn64tab), ("internal/strconv.uint64pow10", Rows.laid_internal_strconv_uint64pow10)]
theorem tabOf {W:World} (h:laidMetH Tryd.prog theLaid W):∃ o,hpAll W 0=.obj o∧TabO o:=by
  have h':laidMet Tryd.prog theLaid W:=h
  obtain ⟨ps,hv,_⟩:=h'
  obtain ⟨q1,h1⟩:=laidVars_tail hv
  obtain ⟨q2,h2⟩:=laidVars_tail h1
  have ht : Lib.TabIs Tryd.prog W "internal/strconv.uint64pow10" .u64 Lib.pow10Tab :=
    tabIs_of_vars (rest:=[]) (g:=0) (t:=267) (e:=233) (n:=20) (by kernel_rfl) (by kernel_rfl) (by kernel_rfl) (by kernel_rfl) (by kernel_rfl) (by kernel_rfl) h2
  obtain ⟨o,ho,hO⟩:=tabO_of ht
  exact ⟨o,by unfold hpAll; rw [ho],hO⟩
/-- What a table's cells are. -/
def cellsLaid:DataW Unit→Array Value
  | .agg ps=>(ps.map fun d=>match d with | .lit (.int k n)=>Value.int k n | _=>.int .i64 0).toArray
  | _=>#[]
def layAt (b:Nat) (d:DataW Unit) (h:Array Obj):Array Obj:=h.modify b fun | .cells _ t fz=>.cells (cellsLaid d) t fz | o=>o
noncomputable def laidWorld (os:Os) (I:Input):World:=
  { World.holding Tryd.prog os I with heap:=layAt 0 Rows.laid_internal_strconv_uint64pow10 (layAt 1 Rows.laid_math_bits_deBruijn32tab (layAt 2 Rows.laid_math_bits_deBruijn64tab (World.holding Tryd.prog os I).heap)) }
end Go.Proofs.YtpkhoemonibajaaDoor
