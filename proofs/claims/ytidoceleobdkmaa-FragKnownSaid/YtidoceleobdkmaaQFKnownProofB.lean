/- Parts of the proof of FKnownProof: the logic of what is known of memory, functions' contracts. -/
import Derived.Test.YtidoceleobdkmaaQFKnownProofA
import Derived.Test.YtidoceleobdkmaaHlAbb
import Derived.Test.YtidoceleobdkmaaProg
import Derived.Test.YtidoceleobdkmaaHlStr
import Derived.Test.YtidoceleobdkmaaHlApp
import Derived.KernelRfl
import Derived.Sort.LotA
import Derived.Test.YtidoceleobdkmaaHlLib
import Derived.Sort.LotD3
set_option linter.unusedVariables false
set_option linter.unusedSimpArgs false
set_option linter.unusedVariables false
set_option maxRecDepth 20000
namespace Go.Proofs
open Go Go.HL
section
variable {e E:Env} {x0 x1:Int} {hp:HP} {K:Env→PV→HP→Prop}
abbrev R25 (p n:Nat):=RW Try.prog 26 [] (opsAt Try.f25 (pth p)) (List.range n)
theorem F25_r0:R25 2 2 e V0 hp K=
 K (w2 e 4 (sP none) 5 (sI 0)) V0 hp:= by kernel_rfl
theorem F25_r1:R25 37 2 e V0 hp K=
 K (w2 e 4 (sP none) 5 (sI 1)) V0 hp:= by kernel_rfl
theorem F25_r2:R25 11 8 (w2 e 1 (sI x1) 0 (sI x0)) V0 hp K=
    (∀ b1:Nat,hp b1=.none→(∀ b2:Nat,(HP.set hp b1 (.obj (.map #[] 0))) b2=.none→(∀ b3:Nat,(HP.set (HP.set hp b1 (.obj (.map #[] 0))) b2 (.obj (.map #[] 0))) b3=.none→(K (w2 (w8 e 1 (sI x1) 0 (sI x0) 20 (sI x0) 21 (sI x1) 22 (sV (.map (some b1))) 23 (sV (.map (some b2))) 24 (sV (.agg ⟨[(.int .i64 x0),(.int .i64 x1),.int .i64 0,.int .i64 0,(.map (some b1)),(.map (some b2))]⟩)) 25 (sQ b3 0)) 4 (sQ b3 0) 5 (sI 0)) V0 (HP.set (HP.set (HP.set hp b1 (.obj (.map #[] 0))) b2 (.obj (.map #[] 0))) b3 (.cells 130 [(.int .i64 x0),(.int .i64 x1),.int .i64 0,.int .i64 0,(.map (some b1)),(.map (some b2))] 0)))))):=by kernel_rfl
def F25_j1 (x0 x1:Int) (x19:Bool) (hp:HP) (K:Kh):Prop:=
  (ite2 x19 (K (.tuple ⟨[(.pointer none),(.int .i64 1)]⟩) hp) (∀ b1:Nat,hp b1=.none→(∀ b2:Nat,(HP.set hp b1 (.obj (.map #[] 0))) b2=.none→(∀ b3:Nat,(HP.set (HP.set hp b1 (.obj (.map #[] 0))) b2 (.obj (.map #[] 0))) b3=.none→(K (.tuple ⟨[(ptr b3 0),.int .i64 0]⟩) (HP.set (HP.set (HP.set hp b1 (.obj (.map #[] 0))) b2 (.obj (.map #[] 0))) b3 (.cells 130 [(.int .i64 x0),(.int .i64 x1),.int .i64 0,.int .i64 0,(.map (some b1)),(.map (some b2))] 0)))))))
theorem F25_r3 (h:E=upd (upd e 1 (sI x1)) 0 (sI x0)):R25 9 14 E V0 hp K=
 ite2 (decide (x0<1)) (K (w6 (w8 E 6 (sI x0) 7 (sB (decide (x0<1))) 8 (sB true) 9 sU 10 sU 11 (sB true) 12 (sB true) 13 sU) 14 sU 15 (sB true) 16 (sB true) 17 sU 18 sU 19 (sB true)) V0 hp) (ite2 (decide (x0 > 65536)) (K (w6 (w8 E 6 (sI x0) 7 (sB (decide (x0<1))) 8 (sB false) 9 (sI x0) 10 (sB (decide (x0 > 65536))) 11 (sB (decide (x0 > 65536))) 12 (sB true) 13 sU) 14 sU 15 (sB true) 16 (sB true) 17 sU 18 sU 19 (sB true)) V0 hp) (ite2 (decide (x1<1)) (K (w6 (w8 E 6 (sI x0) 7 (sB (decide (x0<1))) 8 (sB false) 9 (sI x0) 10 (sB (decide (x0 > 65536))) 11 (sB (decide (x0 > 65536))) 12 (sB false) 13 (sI x1)) 14 (sB (decide (x1<1))) 15 (sB (decide (x1<1))) 16 (sB true) 17 sU 18 sU 19 (sB true)) V0 hp) (K (w6 (w8 E 6 (sI x0) 7 (sB (decide (x0<1))) 8 (sB false) 9 (sI x0) 10 (sB (decide (x0 > 65536))) 11 (sB (decide (x0 > 65536))) 12 (sB false) 13 (sI x1)) 14 (sB (decide (x1<1))) 15 (sB (decide (x1<1))) 16 (sB false) 17 (sI x1) 18 (sB (decide (x1 > 65536))) 19 (sB (decide (x1 > 65536)))) V0 hp))):= by subst h; kernel_rfl
def F25 (x0 x1:Int) (hp:HP) (K:Kh):Prop:=
  (ite2 (decide (x0<1)) (F25_j1 x0 x1 true hp  K) (ite2 (decide (x0 > 65536)) (F25_j1 x0 x1 true hp  K) (ite2 (decide (x1<1)) (F25_j1 x0 x1 true hp  K) (F25_j1 x0 x1 (decide (x1 > 65536)) hp  K))))
noncomputable def F25_code:Code:=(.seq (.region 0 (opsAt Try.f25 (pth 2)) false) (.seq (.seq (.region 1 (opsAt Try.f25 (pth 9)) false) (.cond (.tmp 19) (.seq (.region 2 (opsAt Try.f25 (pth 37)) false) .ret) .skip)) (.seq (.region 3 (opsAt Try.f25 (pth 11)) false) .ret)))
theorem F25_body:Try.f25.body=some F25_code:=by kernel_rfl
theorem F25_ok (x0 x1:Int) (hp:HP) (K:Kh) (h:F25 x0 x1 hp K):CF Try.prog 25 [(.int .i64 x0),(.int .i64 x1)] hp K:=by
 refine .inl ⟨by kernel_rfl,AC.intro (N:=26) Try.func25 F25_body rfl (Nat.le_of_ble_eq_true rfl) ?_⟩
 unfold F25 at h
 refine Ar F25_r0 ?_ (r2 0 1 Rn) (z2 Sn) Sn
 refine Aq (As (fun env pv hp=>∃ x0 x1 x19,Sub (w3 E0 19 (sB x19) 1 (sI x1) 0 (sI x0)) env∧Sub V0 pv∧F25_j1 x0 x1 x19 hp  K) ?_ ?_)
 ·refine Ag (F25_r3 rfl) ?_ (r2 0 1 Rn) (z2 Sn) Sn
  refine mt h (fun h=>?_) (fun h=>?_)
  ·exact ⟨_,_,_,(z3 Sn),Sn,h⟩
  ·refine mt h (fun h=>?_) (fun h=>?_)
   ·exact ⟨_,_,_,(z3 Sn),Sn,h⟩
   ·refine mt h (fun h=>?_) (fun h=>?_)
    ·exact ⟨_,_,_,(z3 Sn),Sn,h⟩
    ·exact ⟨_,_,_,(z3 Sn),Sn,h⟩
 ·rintro env pv hp ⟨x0,x1,x19,he,hv,h⟩
  refine Ae ?_ (r3 0 1 19 Rn) he hv
  unfold F25_j1 at h
  refine Ac h rfl (fun h=>?_) (fun h=>?_)
  ·refine Ar F25_r1 ?_ Rn Sn Sn
   refine AWP.ret ?_
   exact h
  ·refine AWP.skip (Ar F25_r2 ?_ (r2 0 1 Rn) (z2 Sn) Sn)
   refine fun b1 hb_b_1=>?_
   replace h:=h b1 hb_b_1
   refine fun b2 hb_b_2=>?_
   replace h:=h b2 hb_b_2
   refine fun b3 hb_b_3=>?_
   replace h:=h b3 hb_b_3
   refine AWP.ret ?_
   exact h
end
section
variable {e E:Env} {x0:OA} {x1:List Value} {x2:Int} {x7:Bool} {x9:OA} {x10:Bool} {k4 k6:List Value} {hp:HP} {K:Env→PV→HP→Prop}
abbrev R26 (p n:Nat):=RW Try.prog 129 [4,6,33,57,64,69,73,75,77,96,114,117,124] (opsAt Try.f26 (pth p)) (List.range n)
theorem F26_r0:R26 2 4 (upd e 1 (sA x1)) V0 hp K=
 K (w5 e 1 (sA x1) 4 (sR 4 0) 6 (sR 6 0) 7 (sB false) 8 (sI 0)) (w2 V0 4 (29,x1) 6 (36,[.string ⟨#[]⟩,.string ⟨#[]⟩,.string ⟨#[]⟩,.int .i64 0])) hp:= by kernel_rfl
theorem F26_r1:R26 17 3 (upd e 0 (sP x0)) (w2 V0 6 (36,k6) 4 (29,k4)) hp K=
 CF Try.prog 75 [(.pointer x0)] hp fun u1 h2=>(boolV u1 fun q3=>K (w4 e 0 (sP x0) 12 (sP x0) 13 (sB q3) 11 (sB q3)) (w2 V0 6 (36,k6) 4 (29,k4)) h2):= by kernel_rfl
theorem F26_r2:R26 73 4 (upd e 6 (sR 6 0)) (upd V0 6 (36,k6)) hp K=
    (if List.length [(Value.string ⟨#[]⟩),.string ⟨#[]⟩,.string ⟨#[]⟩,.int .i64 0]=4 then (if List.all [(Value.string ⟨#[]⟩),.string ⟨#[]⟩,.string ⟨#[]⟩,.int .i64 0] one=true then (if 0+List.length [(Value.string ⟨#[]⟩),.string ⟨#[]⟩,.string ⟨#[]⟩,.int .i64 0]≤List.length k6 then (K (w4 e 6 (sR 6 0) 14 (sV (.agg ⟨[.string ⟨#[]⟩,.string ⟨#[]⟩,.string ⟨#[]⟩,.int .i64 0]⟩)) 7 (sB false) 8 (sI 2)) (w2 V0 6 (36,k6) 6 (36,(splice k6 0 [.string ⟨#[]⟩,.string ⟨#[]⟩,.string ⟨#[]⟩,.int .i64 0]))) hp) else False) else False) else False):=by kernel_rfl
theorem F26_r3:R26 313 4 (upd e 6 (sR 6 0)) (upd V0 6 (36,k6)) hp K=
    (if List.length [(Value.string ⟨#[]⟩),.string ⟨#[]⟩,.string ⟨#[]⟩,.int .i64 0]=4 then (if List.all [(Value.string ⟨#[]⟩),.string ⟨#[]⟩,.string ⟨#[]⟩,.int .i64 0] one=true then (if 0+List.length [(Value.string ⟨#[]⟩),.string ⟨#[]⟩,.string ⟨#[]⟩,.int .i64 0]≤List.length k6 then (K (w4 e 6 (sR 6 0) 22 (sV (.agg ⟨[.string ⟨#[]⟩,.string ⟨#[]⟩,.string ⟨#[]⟩,.int .i64 0]⟩)) 7 (sB false) 8 (sI 1)) (w2 V0 6 (36,k6) 6 (36,(splice k6 0 [.string ⟨#[]⟩,.string ⟨#[]⟩,.string ⟨#[]⟩,.int .i64 0]))) hp) else False) else False) else False):=by kernel_rfl
theorem F26_r4:R26 377 4 (upd e 4 (sR 4 0)) (w2 V0 6 (36,k6) 4 (29,k4)) hp K=
 ldL (cellsN k4 0 6) fun l1=>(CF Try.prog 67 [(.agg ⟨l1⟩)] hp fun u2 h3=>boolV u2 fun q4=>K (w5 e 4 (sR 4 0) 24 (sA l1) 25 (sB q4) 26 (sB ((!q4))) 23 (sB ((!q4)))) (w2 V0 6 (36,k6) 4 (29,k4)) h3):= by kernel_rfl
theorem F26_r5:R26 1273 4 (upd e 6 (sR 6 0)) (upd V0 6 (36,k6)) hp K=
    (if List.length [(Value.string ⟨#[]⟩),.string ⟨#[]⟩,.string ⟨#[]⟩,.int .i64 0]=4 then (if List.all [(Value.string ⟨#[]⟩),.string ⟨#[]⟩,.string ⟨#[]⟩,.int .i64 0] one=true then (if 0+List.length [(Value.string ⟨#[]⟩),.string ⟨#[]⟩,.string ⟨#[]⟩,.int .i64 0]≤List.length k6 then (K (w4 e 6 (sR 6 0) 27 (sV (.agg ⟨[.string ⟨#[]⟩,.string ⟨#[]⟩,.string ⟨#[]⟩,.int .i64 0]⟩)) 7 (sB false) 8 (sI 8)) (w2 V0 6 (36,k6) 6 (36,(splice k6 0 [.string ⟨#[]⟩,.string ⟨#[]⟩,.string ⟨#[]⟩,.int .i64 0]))) hp) else False) else False) else False):=by kernel_rfl
theorem F26_r6:R26 11 12 (w2 e 4 (sR 4 0) 0 (sP x0)) (w2 V0 6 (36,k6) 4 (29,k4)) hp K=
 ptrN x0 fun b1 o2=>(ldV (HP.cell hp b1 (o2+4)) fun v3=>mapV v3 fun m4=>ldV (k4)[0]? fun v5=>strV v5 fun s6=>rdS Try.prog (Instr.lookup 128 (.map m4) (.string s6) true) hp fun u7=>tup2V u7 fun u8 u9=>ptrV u8 fun p10=>boolV u9 fun q11=>K (w6 (w8 e 4 (sR 4 0) 0 (sP x0) 29 (sP x0) 30 (sQ b1 o2) 31 (sQ b1 (o2+4)) 32 (sV (.map m4)) 33 (sR 4 0) 34 (sT s6)) 35 (sV (.tuple ⟨[(.pointer p10),(.bool q11)]⟩)) 28 (sV (.tuple ⟨[(.pointer p10),(.bool q11)]⟩)) 36 (sP p10) 37 (sB q11) 9 (sP p10) 10 (sB q11)) (w2 V0 6 (36,k6) 4 (29,k4)) hp):= by kernel_rfl
theorem F26_r7:R26 151 4 (upd e 6 (sR 6 0)) (upd V0 6 (36,k6)) hp K=
    (if List.length [(Value.string ⟨#[]⟩),.string ⟨#[]⟩,.string ⟨#[]⟩,.int .i64 0]=4 then (if List.all [(Value.string ⟨#[]⟩),.string ⟨#[]⟩,.string ⟨#[]⟩,.int .i64 0] one=true then (if 0+List.length [(Value.string ⟨#[]⟩),.string ⟨#[]⟩,.string ⟨#[]⟩,.int .i64 0]≤List.length k6 then (K (w4 e 6 (sR 6 0) 48 (sV (.agg ⟨[.string ⟨#[]⟩,.string ⟨#[]⟩,.string ⟨#[]⟩,.int .i64 0]⟩)) 7 (sB false) 8 (sI 0)) (w2 V0 6 (36,k6) 6 (36,(splice k6 0 [.string ⟨#[]⟩,.string ⟨#[]⟩,.string ⟨#[]⟩,.int .i64 0]))) hp) else False) else False) else False):=by kernel_rfl
theorem F26_r8:R26 303 4 (w2 e 4 (sR 4 0) 0 (sP x0)) (w2 V0 6 (36,k6) 4 (29,k4)) hp K=
 ldV (k4)[0]? fun v1=>(strV v1 fun s2=>CF Try.prog 79 [(.pointer x0),(.string s2)] hp fun u3 h4=>K (w6 e 4 (sR 4 0) 0 (sP x0) 56 (sP x0) 57 (sR 4 0) 58 (sT s2) 59 (sV u3)) (w2 V0 6 (36,k6) 4 (29,k4)) h4):= by kernel_rfl
theorem F26_r9:R26 687 4 (upd e 6 (sR 6 0)) (upd V0 6 (36,k6)) hp K=
    (if List.length [(Value.string ⟨#[]⟩),.string ⟨#[]⟩,.string ⟨#[]⟩,.int .i64 0]=4 then (if List.all [(Value.string ⟨#[]⟩),.string ⟨#[]⟩,.string ⟨#[]⟩,.int .i64 0] one=true then (if 0+List.length [(Value.string ⟨#[]⟩),.string ⟨#[]⟩,.string ⟨#[]⟩,.int .i64 0]≤List.length k6 then (K (w4 e 6 (sR 6 0) 60 (sV (.agg ⟨[.string ⟨#[]⟩,.string ⟨#[]⟩,.string ⟨#[]⟩,.int .i64 0]⟩)) 7 (sB false) 8 (sI 5)) (w2 V0 6 (36,k6) 6 (36,(splice k6 0 [.string ⟨#[]⟩,.string ⟨#[]⟩,.string ⟨#[]⟩,.int .i64 0]))) hp) else False) else False) else False):=by kernel_rfl
theorem F26_r10:R26 607 10 (w2 e 6 (sR 6 0) 4 (sR 4 0)) (w2 V0 6 (36,k6) 4 (29,k4)) hp K=
 ldV (k4)[0]? fun v1=>(strV v1 fun s2=>ldV (k4)[5]? fun v3=>strV v3 fun s4=>ldV (k4)[4]? fun v5=>strV v5 fun s6=>if List.length [(Value.string s2),(.string s4),(.string s6),(.int .i64 1)]=4 then (if List.all [(Value.string s2),(.string s4),(.string s6),(.int .i64 1)] one=true then (if 0+List.length [(Value.string s2),(.string s4),(.string s6),(.int .i64 1)]≤List.length k6 then (K (w3 (w8 e 6 (sR 6 0) 4 (sR 4 0) 73 (sR 4 0) 74 (sT s2) 75 (sR 4 5) 76 (sT s4) 77 (sR 4 4) 78 (sT s6)) 79 (sV (.agg ⟨[(.string s2),(.string s4),(.string s6),(.int .i64 1)]⟩)) 7 (sB true) 8 (sI 0)) (w3 V0 6 (36,k6) 4 (29,k4) 6 (36,(splice k6 0 [(.string s2),(.string s4),(.string s6),(.int .i64 1)]))) hp) else False) else False) else False):= by kernel_rfl
theorem F26_r11:R26 575 10 (upd e 0 (sP x0)) (w2 V0 6 (36,k6) 4 (29,k4)) hp K=
 ptrN x0 fun b1 o2=>(ldV (HP.cell hp b1 (o2+3)) fun v3=>intV v3 .i64 fun i4=>ptrN x0 fun b5 o6=>ldV (HP.cell hp b5 (o6+0)) fun v7=>intV v7 .i64 fun i8=>K (w3 (w8 e 0 (sP x0) 81 (sP x0) 82 (sQ b1 o2) 83 (sQ b1 (o2+3)) 84 (sI i4) 85 (sP x0) 86 (sQ b5 o6) 87 (sQ b5 (o6+0))) 88 (sI i8) 89 (sB (decide (i4≥i8))) 80 (sB (decide (i4≥i8)))) (w2 V0 6 (36,k6) 4 (29,k4)) hp):= by kernel_rfl
theorem F26_r12:R26 2367 4 (upd e 6 (sR 6 0)) (upd V0 6 (36,k6)) hp K=
    (if List.length [(Value.string ⟨#[]⟩),.string ⟨#[]⟩,.string ⟨#[]⟩,.int .i64 0]=4 then (if List.all [(Value.string ⟨#[]⟩),.string ⟨#[]⟩,.string ⟨#[]⟩,.int .i64 0] one=true then (if 0+List.length [(Value.string ⟨#[]⟩),.string ⟨#[]⟩,.string ⟨#[]⟩,.int .i64 0]≤List.length k6 then (K (w4 e 6 (sR 6 0) 90 (sV (.agg ⟨[.string ⟨#[]⟩,.string ⟨#[]⟩,.string ⟨#[]⟩,.int .i64 0]⟩)) 7 (sB false) 8 (sI 6)) (w2 V0 6 (36,k6) 6 (36,(splice k6 0 [.string ⟨#[]⟩,.string ⟨#[]⟩,.string ⟨#[]⟩,.int .i64 0]))) hp) else False) else False) else False):=by kernel_rfl
theorem F26_r13:R26 2879 13 (w2 e 4 (sR 4 0) 0 (sP x0)) (w2 V0 6 (36,k6) 4 (29,k4)) hp K=
 ptrN x0 fun b1 o2=>(ldV (HP.cell hp b1 (o2+5)) fun v3=>mapV v3 fun m4=>ldV (k4)[1]? fun v5=>strV v5 fun s6=>rdS Try.prog (Instr.lookup 97 (.map m4) (.string s6) false) hp fun u7=>intV u7 .i64 fun i8=>ptrN x0 fun b9 o10=>ldV (HP.cell hp b9 (o10+1)) fun v11=>intV v11 .i64 fun i12=>K (w7 (w8 e 4 (sR 4 0) 0 (sP x0) 92 (sP x0) 93 (sQ b1 o2) 94 (sQ b1 (o2+5)) 95 (sV (.map m4)) 96 (sR 4 1) 97 (sT s6)) 98 (sI i8) 99 (sP x0) 100 (sQ b9 o10) 101 (sQ b9 (o10+1)) 102 (sI i12) 103 (sB (decide (i8≥i12))) 91 (sB (decide (i8≥i12)))) (w2 V0 6 (36,k6) 4 (29,k4)) hp):= by kernel_rfl
theorem F26_r14:R26 10047 4 (upd e 6 (sR 6 0)) (upd V0 6 (36,k6)) hp K=
    (if List.length [(Value.string ⟨#[]⟩),.string ⟨#[]⟩,.string ⟨#[]⟩,.int .i64 0]=4 then (if List.all [(Value.string ⟨#[]⟩),.string ⟨#[]⟩,.string ⟨#[]⟩,.int .i64 0] one=true then (if 0+List.length [(Value.string ⟨#[]⟩),.string ⟨#[]⟩,.string ⟨#[]⟩,.int .i64 0]≤List.length k6 then (K (w4 e 6 (sR 6 0) 104 (sV (.agg ⟨[.string ⟨#[]⟩,.string ⟨#[]⟩,.string ⟨#[]⟩,.int .i64 0]⟩)) 7 (sB false) 8 (sI 11)) (w2 V0 6 (36,k6) 6 (36,(splice k6 0 [.string ⟨#[]⟩,.string ⟨#[]⟩,.string ⟨#[]⟩,.int .i64 0]))) hp) else False) else False) else False):=by kernel_rfl
theorem F26_r15 (h:E=upd (w2 e 4 (sR 4 0) 2 (sI x2)) 0 (sP x0)):R26 383 4 E (w2 V0 6 (36,k6) 4 (29,k4)) hp K=
 ldL (cellsN k4 0 6) fun l1=>(CF Try.prog 80 [(.pointer x0),(.agg ⟨l1⟩),(.int .i64 x2)] hp fun u2 h3=>K (w4 E 105 (sP x0) 106 (sA l1) 107 (sI x2) 108 (sV u2)) (w2 V0 6 (36,k6) 4 (29,k4)) h3):= by subst h; kernel_rfl
theorem F26_r16:R26 1535 5 (w2 e 7 (sB x7) 6 (sR 6 0)) (upd V0 6 (36,k6)) hp K=
 ldL (cellsN k6 0 4) fun l1=>(if List.length l1=4 then (if List.all l1 one=true then (if 0+List.length l1≤List.length k6 then (K (w6 e 7 (sB x7) 6 (sR 6 0) 127 (sA l1) 128 (sB x7) 7 (sB x7) 8 (sI 0)) (w2 V0 6 (36,k6) 6 (36,(splice k6 0 l1))) hp) else False) else False) else False):= by kernel_rfl
def F26_j5 (x7:Bool) (k6:List Value) (hp:HP) (K:Kh):Prop:=
  (ldL (cellsN k6 0 4) fun l60=>if List.length l60=4 then (if List.all l60 one=true then (if 0+List.length l60≤List.length k6 then (ldL (cellsN (splice k6 0 l60) 0 4) fun l61=>K (.tuple ⟨[(.agg ⟨l61⟩),(.bool x7),.int .i64 0]⟩) hp) else False) else False) else False)
theorem F26_r17 (h:E=upd (w2 e 6 (sR 6 0) 4 (sR 4 0)) 0 (sP x0)):R26 1279 15 E (w2 V0 6 (36,k6) 4 (29,k4)) hp K=
 ptrN x0 fun b1 o2=>(ldV (HP.cell hp b1 (o2+4)) fun v3=>mapV v3 fun m4=>ldV (k4)[0]? fun v5=>strV v5 fun s6=>rdS Try.prog (Instr.lookup 128 (.map m4) (.string s6) false) hp fun u7=>ptrV u7 fun p8=>ldV (k4)[0]? fun v9=>strV v9 fun s10=>CF Try.prog 81 [(.pointer p8),(.string s10)] hp fun u11 h12=>tup2V u11 fun u13 u14=>aggV u13 fun l15=>boolV u14 fun q16=>if List.length l15=4 then (if List.all l15 one=true then (if 0+List.length l15≤List.length k6 then (K (w6 (w8 E 110 (sP x0) 111 (sQ b1 o2) 112 (sQ b1 (o2+4)) 113 (sV (.map m4)) 114 (sR 4 0) 115 (sT s6) 116 (sP p8) 117 (sR 4 0)) 118 (sT s10) 119 (sV (.tuple ⟨[(.agg ⟨l15⟩),(.bool q16)]⟩)) 109 (sV (.tuple ⟨[(.agg ⟨l15⟩),(.bool q16)]⟩)) 120 (sA l15) 121 (sB q16) 7 (sB q16)) (w3 V0 6 (36,k6) 4 (29,k4) 6 (36,(splice k6 0 l15))) h12) else False) else False) else False):= by subst h; kernel_rfl
theorem F26_r18:R26 2815 1 (upd e 7 (sB x7)) (w2 V0 6 (36,k6) 4 (29,k4)) hp K=
 K (w2 e 7 (sB x7) 122 (sB x7)) (w2 V0 6 (36,k6) 4 (29,k4)) hp:= by kernel_rfl
theorem F26_r19:R26 5887 4 (w2 e 4 (sR 4 0) 0 (sP x0)) (w2 V0 6 (36,k6) 4 (29,k4)) hp K=
 ldV (k4)[0]? fun v1=>(strV v1 fun s2=>CF Try.prog 79 [(.pointer x0),(.string s2)] hp fun u3 h4=>K (w6 e 4 (sR 4 0) 0 (sP x0) 123 (sP x0) 124 (sR 4 0) 125 (sT s2) 126 (sV u3)) (w2 V0 6 (36,k6) 4 (29,k4)) h4):= by kernel_rfl
def F26_j4 (x0:OA) (x2:Int) (x72:Bool) (k4 k6:List Value) (hp:HP) (K:Kh):Prop:=
  (ite2 x72 (ldV (k4)[0]? fun v28=>strV v28 fun s29=>ldV (k4)[5]? fun v30=>strV v30 fun s31=>ldV (k4)[4]? fun v32=>strV v32 fun s33=>if List.length [(Value.string s29),(.string s31),(.string s33),(.int .i64 1)]=4 then (if List.all [(Value.string s29),(.string s31),(.string s33),(.int .i64 1)] one=true then (if 0+List.length [(Value.string s29),(.string s31),(.string s33),(.int .i64 1)]≤List.length k6 then (ldL (cellsN (splice k6 0 [(.string s29),(.string s31),(.string s33),(.int .i64 1)]) 0 4) fun l34=>K (.tuple ⟨[(.agg ⟨l34⟩),(.bool true),.int .i64 0]⟩) hp) else False) else False) else False) (ptrN x0 fun b35 o36=>ldV (HP.cell hp b35 (o36+3)) fun v37=>intV v37 .i64 fun i38=>ptrN x0 fun b39 o40=>ldV (HP.cell hp b39 (o40+0)) fun v41=>intV v41 .i64 fun i42=>ite2 (decide (i38≥i42)) (if List.length [(Value.string ⟨#[]⟩),.string ⟨#[]⟩,.string ⟨#[]⟩,.int .i64 0]=4 then (if List.all [(Value.string ⟨#[]⟩),.string ⟨#[]⟩,.string ⟨#[]⟩,.int .i64 0] one=true then (if 0+List.length [(Value.string ⟨#[]⟩),.string ⟨#[]⟩,.string ⟨#[]⟩,.int .i64 0]≤List.length k6 then (ldL (cellsN (splice k6 0 [.string ⟨#[]⟩,.string ⟨#[]⟩,.string ⟨#[]⟩,.int .i64 0]) 0 4) fun l43=>K (.tuple ⟨[(.agg ⟨l43⟩),.bool false,(.int .i64 6)]⟩) hp) else False) else False) else False) (ptrN x0 fun b44 o45=>ldV (HP.cell hp b44 (o45+5)) fun v46=>mapV v46 fun m47=>ldV (k4)[1]? fun v48=>strV v48 fun s49=>rdS Try.prog (Instr.lookup 97 (.map m47) (.string s49) false) hp fun u50=>intV u50 .i64 fun i51=>ptrN x0 fun b52 o53=>ldV (HP.cell hp b52 (o53+1)) fun v54=>intV v54 .i64 fun i55=>ite2 (decide (i51≥i55)) (if List.length [(Value.string ⟨#[]⟩),.string ⟨#[]⟩,.string ⟨#[]⟩,.int .i64 0]=4 then (if List.all [(Value.string ⟨#[]⟩),.string ⟨#[]⟩,.string ⟨#[]⟩,.int .i64 0] one=true then (if 0+List.length [(Value.string ⟨#[]⟩),.string ⟨#[]⟩,.string ⟨#[]⟩,.int .i64 0]≤List.length k6 then (ldL (cellsN (splice k6 0 [.string ⟨#[]⟩,.string ⟨#[]⟩,.string ⟨#[]⟩,.int .i64 0]) 0 4) fun l56=>K (.tuple ⟨[(.agg ⟨l56⟩),.bool false,(.int .i64 11)]⟩) hp) else False) else False) else False) (ldL (cellsN k4 0 6) fun l57=>CF Try.prog 80 [(.pointer x0),(.agg ⟨l57⟩),(.int .i64 x2)] hp fun u58 h59=>ptrN x0 fun b62 o63=>ldV (HP.cell h59 b62 (o63+4)) fun v64=>mapV v64 fun m65=>ldV (k4)[0]? fun v66=>strV v66 fun s67=>rdS Try.prog (Instr.lookup 128 (.map m65) (.string s67) false) h59 fun u68=>ptrV u68 fun p69=>ldV (k4)[0]? fun v70=>strV v70 fun s71=>CF Try.prog 81 [(.pointer p69),(.string s71)] h59 fun u72 h73=>tup2V u72 fun u74 u75=>aggV u74 fun l76=>boolV u75 fun q77=>if List.length l76=4 then (if List.all l76 one=true then (if 0+List.length l76≤List.length k6 then (ite2 q77 (ldV (k4)[0]? fun v78=>strV v78 fun s79=>CF Try.prog 79 [(.pointer x0),(.string s79)] h73 fun u80 h81=>F26_j5 q77 (splice k6 0 l76) h81  K) (F26_j5 q77 (splice k6 0 l76) h73  K)) else False) else False) else False))))
theorem F26_r20 (h:E=upd (upd e 10 (sB x10)) 4 (sR 4 0)):R26 159 12 E (w2 V0 6 (36,k6) 4 (29,k4)) hp K=
 ite2 (!x10) (ldV (k4)[2]? fun v1=>intV v1 .i64 fun i2=>ite2 (i2==0) (ldV (k4)[3]? fun v3=>boolV v3 fun q4=>K (w4 (w8 E 61 (sB x10) 62 (sB ((!x10))) 63 (sB true) 64 (sR 4 2) 65 (sI i2) 66 (sB ((i2==0))) 67 (sB ((i2==0))) 68 (sB true)) 69 (sR 4 3) 70 (sB q4) 71 (sB ((!q4))) 72 (sB ((!q4)))) (w2 V0 6 (36,k6) 4 (29,k4)) hp) (K (w4 (w8 E 61 (sB x10) 62 (sB ((!x10))) 63 (sB true) 64 (sR 4 2) 65 (sI i2) 66 (sB ((i2==0))) 67 (sB ((i2==0))) 68 (sB false)) 69 sU 70 sU 71 sU 72 (sB false)) (w2 V0 6 (36,k6) 4 (29,k4)) hp)) (K (w4 (w8 E 61 (sB x10) 62 (sB ((!x10))) 63 (sB false) 64 sU 65 sU 66 sU 67 (sB false) 68 (sB false)) 69 sU 70 sU 71 sU 72 (sB false)) (w2 V0 6 (36,k6) 4 (29,k4)) hp):= by subst h; kernel_rfl
def F26_j3 (x0:OA) (x2:Int) (x10 x55:Bool) (k4 k6:List Value) (hp:HP) (K:Kh):Prop:=
  (ite2 x55 (ldV (k4)[0]? fun v23=>strV v23 fun s24=>CF Try.prog 79 [(.pointer x0),(.string s24)] hp fun u25 h26=>if List.length [(Value.string ⟨#[]⟩),.string ⟨#[]⟩,.string ⟨#[]⟩,.int .i64 0]=4 then (if List.all [(Value.string ⟨#[]⟩),.string ⟨#[]⟩,.string ⟨#[]⟩,.int .i64 0] one=true then (if 0+List.length [(Value.string ⟨#[]⟩),.string ⟨#[]⟩,.string ⟨#[]⟩,.int .i64 0]≤List.length k6 then (ldL (cellsN (splice k6 0 [.string ⟨#[]⟩,.string ⟨#[]⟩,.string ⟨#[]⟩,.int .i64 0]) 0 4) fun l27=>K (.tuple ⟨[(.agg ⟨l27⟩),.bool false,(.int .i64 5)]⟩) h26) else False) else False) else False) (ite2 (!x10) (ldV (k4)[2]? fun v82=>intV v82 .i64 fun i83=>ite2 (i83==0) (ldV (k4)[3]? fun v84=>boolV v84 fun q85=>F26_j4 x0 x2 (!q85) k4 k6 hp  K) (F26_j4 x0 x2 false k4 k6 hp  K)) (F26_j4 x0 x2 false k4 k6 hp  K)))
theorem F26_r21 (h:E=upd (w2 e 10 (sB x10) 9 (sP x9)) 4 (sR 4 0)):R26 79 7 E (w2 V0 6 (36,k6) 4 (29,k4)) hp K=
 ite2 x10 (ldL (cellsN k4 0 6) fun l1=>CF Try.prog 78 [(.pointer x9),(.agg ⟨l1⟩)] hp fun u2 h3=>boolV u2 fun q4=>K (w7 E 49 (sB x10) 50 (sB true) 51 (sP x9) 52 (sA l1) 53 (sB q4) 54 (sB ((!q4))) 55 (sB ((!q4)))) (w2 V0 6 (36,k6) 4 (29,k4)) h3) (K (w7 E 49 (sB x10) 50 (sB false) 51 sU 52 sU 53 sU 54 sU 55 (sB false)) (w2 V0 6 (36,k6) 4 (29,k4)) hp):= by subst h; kernel_rfl
def F26_j2 (x0:OA) (x2:Int) (x9:OA) (x10 x47:Bool) (k4 k6:List Value) (hp:HP) (K:Kh):Prop:=
  (ite2 x47 (if List.length [(Value.string ⟨#[]⟩),.string ⟨#[]⟩,.string ⟨#[]⟩,.int .i64 0]=4 then (if List.all [(Value.string ⟨#[]⟩),.string ⟨#[]⟩,.string ⟨#[]⟩,.int .i64 0] one=true then (if 0+List.length [(Value.string ⟨#[]⟩),.string ⟨#[]⟩,.string ⟨#[]⟩,.int .i64 0]≤List.length k6 then (ldL (cellsN (splice k6 0 [.string ⟨#[]⟩,.string ⟨#[]⟩,.string ⟨#[]⟩,.int .i64 0]) 0 4) fun l22=>K (.tuple ⟨[(.agg ⟨l22⟩),.bool false,.int .i64 0]⟩) hp) else False) else False) else False) (ite2 x10 (ldL (cellsN k4 0 6) fun l86=>CF Try.prog 78 [(.pointer x9),(.agg ⟨l86⟩)] hp fun u87 h88=>boolV u87 fun q89=>F26_j3 x0 x2 x10 (!q89) k4 k6 h88  K) (F26_j3 x0 x2 x10 false k4 k6 hp  K)))
theorem F26_r22 (h:E=upd (w2 e 10 (sB x10) 9 (sP x9)) 4 (sR 4 0)):R26 39 10 E (w2 V0 6 (36,k6) 4 (29,k4)) hp K=
 ite2 x10 (ptrN x9 fun b1 o2=>ldV (HP.cell hp b1 (o2+3)) fun v3=>slcV v3 fun a4 n5 c6=>ldL (cellsN k4 0 6) fun l7=>CF Try.prog 76 [(.slice a4 n5 c6),(.func (.func 77) ⟨[(.agg ⟨l7⟩)]⟩ ⟨[]⟩)] hp fun u8 h9=>boolV u8 fun q10=>K (w2 (w8 E 38 (sB x10) 39 (sB true) 40 (sP x9) 41 (sQ b1 o2) 42 (sQ b1 (o2+3)) 43 (sS a4 n5 c6) 44 (sA l7) 45 (sV (.func (.func 77) ⟨[(.agg ⟨l7⟩)]⟩ ⟨[]⟩))) 46 (sB q10) 47 (sB q10)) (w2 V0 6 (36,k6) 4 (29,k4)) h9) (K (w2 (w8 E 38 (sB x10) 39 (sB false) 40 sU 41 sU 42 sU 43 sU 44 sU 45 sU) 46 sU 47 (sB false)) (w2 V0 6 (36,k6) 4 (29,k4)) hp):= by subst h; kernel_rfl
def F26_j1 (x0:OA) (x2:Int) (x15:Bool) (k4 k6:List Value) (hp:HP) (K:Kh):Prop:=
  (ite2 x15 (if List.length [(Value.string ⟨#[]⟩),.string ⟨#[]⟩,.string ⟨#[]⟩,.int .i64 0]=4 then (if List.all [(Value.string ⟨#[]⟩),.string ⟨#[]⟩,.string ⟨#[]⟩,.int .i64 0] one=true then (if 0+List.length [(Value.string ⟨#[]⟩),.string ⟨#[]⟩,.string ⟨#[]⟩,.int .i64 0]≤List.length k6 then (ldL (cellsN (splice k6 0 [.string ⟨#[]⟩,.string ⟨#[]⟩,.string ⟨#[]⟩,.int .i64 0]) 0 4) fun l5=>K (.tuple ⟨[(.agg ⟨l5⟩),.bool false,(.int .i64 1)]⟩) hp) else False) else False) else False) (ldL (cellsN k4 0 6) fun l6=>CF Try.prog 67 [(.agg ⟨l6⟩)] hp fun u7 h8=>boolV u7 fun q9=>ite2 (!q9) (if List.length [(Value.string ⟨#[]⟩),.string ⟨#[]⟩,.string ⟨#[]⟩,.int .i64 0]=4 then (if List.all [(Value.string ⟨#[]⟩),.string ⟨#[]⟩,.string ⟨#[]⟩,.int .i64 0] one=true then (if 0+List.length [(Value.string ⟨#[]⟩),.string ⟨#[]⟩,.string ⟨#[]⟩,.int .i64 0]≤List.length k6 then (ldL (cellsN (splice k6 0 [.string ⟨#[]⟩,.string ⟨#[]⟩,.string ⟨#[]⟩,.int .i64 0]) 0 4) fun l10=>K (.tuple ⟨[(.agg ⟨l10⟩),.bool false,(.int .i64 8)]⟩) h8) else False) else False) else False) (ptrN x0 fun b11 o12=>ldV (HP.cell h8 b11 (o12+4)) fun v13=>mapV v13 fun m14=>ldV (k4)[0]? fun v15=>strV v15 fun s16=>rdS Try.prog (Instr.lookup 128 (.map m14) (.string s16) true) h8 fun u17=>tup2V u17 fun u18 u19=>ptrV u18 fun p20=>boolV u19 fun q21=>ite2 q21 (ptrN p20 fun b90 o91=>ldV (HP.cell h8 b90 (o91+3)) fun v92=>slcV v92 fun a93 n94 c95=>ldL (cellsN k4 0 6) fun l96=>CF Try.prog 76 [(.slice a93 n94 c95),(.func (.func 77) ⟨[(.agg ⟨l96⟩)]⟩ ⟨[]⟩)] h8 fun u97 h98=>boolV u97 fun q99=>F26_j2 x0 x2 p20 q21 q99 k4 k6 h98  K) (F26_j2 x0 x2 p20 q21 false k4 k6 h8  K))))
theorem F26_r23:R26 89 7 (upd e 2 (sI x2)) (w2 V0 6 (36,k6) 4 (29,k4)) hp K=
 ite2 (decide (x2<0)) (K (w8 e 2 (sI x2) 16 (sI x2) 17 (sB (decide (x2<0))) 18 (sB true) 19 sU 20 sU 21 (sB true) 15 (sB true)) (w2 V0 6 (36,k6) 4 (29,k4)) hp) (K (w8 e 2 (sI x2) 16 (sI x2) 17 (sB (decide (x2<0))) 18 (sB false) 19 (sI x2) 20 (sB (decide (x2 > 4611686018427387904))) 21 (sB (decide (x2 > 4611686018427387904))) 15 (sB (decide (x2 > 4611686018427387904)))) (w2 V0 6 (36,k6) 4 (29,k4)) hp):= by kernel_rfl
def F26 (x0:OA) (x1:List Value) (x2:Int) (hp:HP) (K:Kh):Prop:=
  (CF Try.prog 75 [(.pointer x0)] hp fun u1 h2=>boolV u1 fun q3=>ite2 q3 (if List.length [(Value.string ⟨#[]⟩),.string ⟨#[]⟩,.string ⟨#[]⟩,.int .i64 0]=4 then (if List.all [(Value.string ⟨#[]⟩),.string ⟨#[]⟩,.string ⟨#[]⟩,.int .i64 0] one=true then (if 0+List.length [(Value.string ⟨#[]⟩),.string ⟨#[]⟩,.string ⟨#[]⟩,.int .i64 0]≤List.length [(Value.string ⟨#[]⟩),.string ⟨#[]⟩,.string ⟨#[]⟩,.int .i64 0] then (ldL (cellsN (splice [.string ⟨#[]⟩,.string ⟨#[]⟩,.string ⟨#[]⟩,.int .i64 0] 0 [.string ⟨#[]⟩,.string ⟨#[]⟩,.string ⟨#[]⟩,.int .i64 0]) 0 4) fun l4=>K (.tuple ⟨[(.agg ⟨l4⟩),.bool false,(.int .i64 2)]⟩) h2) else False) else False) else False) (ite2 (decide (x2<0)) (F26_j1 x0 x2 true x1 [.string ⟨#[]⟩,.string ⟨#[]⟩,.string ⟨#[]⟩,.int .i64 0] h2  K) (F26_j1 x0 x2 (decide (x2 > 4611686018427387904)) x1 [.string ⟨#[]⟩,.string ⟨#[]⟩,.string ⟨#[]⟩,.int .i64 0] h2  K)))
noncomputable abbrev o26 (k n:Nat):Code:=.region k (opsAt Try.f26 (pth n)) false
noncomputable def F26_code:Code:=(.seq (o26 0 2) (.seq (.block 0 (.seq (o26 1 17) (.cond (.tmp 11) (.seq (o26 2 73) .ret) (.seq (o26 3 89) (.cond (.tmp 15) (.seq (o26 4 313) .ret) (.seq (o26 5 377) (.cond (.tmp 23) (.seq (o26 6 1273) .ret) .skip))))))) (.seq (.region 7 (opsAt Try.f26 (pth 11)) true) (.seq (.seq (.region 8 (opsAt Try.f26 (pth 39)) true) (.cond (.tmp 47) (.seq (o26 9 151) .ret) .skip)) (.seq (.seq (o26 10 79) (.cond (.tmp 55) (.seq (o26 11 303) (.seq (o26 12 687) .ret)) .skip)) (.seq (.seq (o26 13 159) (.cond (.tmp 72) (.seq (o26 14 607) .ret) .skip)) (.seq (.block 1 (.seq (.region 15 (opsAt Try.f26 (pth 575)) true) (.cond (.tmp 80) (.seq (o26 16 2367) .ret) (.seq (.region 17 (opsAt Try.f26 (pth 2879)) true) (.cond (.tmp 91) (.seq (o26 18 10047) .ret) .skip))))) (.seq (o26 19 383) (.seq (.seq (.region 20 (opsAt Try.f26 (pth 1279)) true) (.seq (o26 21 2815) (.cond (.tmp 122) (o26 22 5887) .skip))) (.seq (o26 23 1535) .ret))))))))))
theorem F26_body:Try.f26.body=some F26_code:=by kernel_rfl
theorem F26_ok (x0:OA) (x1:List Value) (x2:Int) (hp:HP) (K:Kh) (h:F26 x0 x1 x2 hp K):CF Try.prog 26 [(.pointer x0),(.agg ⟨x1⟩),(.int .i64 x2)] hp K:=by
 refine .inl ⟨by kernel_rfl,AC.intro (N:=129) Try.func26 F26_body rfl (Nat.le_of_ble_eq_true rfl) ?_⟩
 unfold F26 at h
 refine Ar F26_r0 ?_ (r3 1 0 2 Rn) (z3 Sn) Sn
 refine Aq (AWP.block (Ar F26_r1 ?_ (r2 0 2 (rp 4 4 0 (rp 6 6 0 Rn))) (z4 Sn) (z2 Sn)))
 refine mC h fun u1 h2 h=>mB h fun q3 h=>?_
 refine Ac h rfl (fun h=>?_) (fun h=>?_)
 ·refine Ar F26_r2 ?_ (rp 6 6 0 Rn) (z1 Sn) (z1 Sn)
  refine mf h fun h=>mf h fun h=>mf h fun h=>?_
  refine AWP.ret ?_
  exact h
 ·refine As (fun env pv hp=>∃ x0 x2 x15 k4 k6,Sub (w5 E0 15 (sB x15) 6 (sR 6 0) 4 (sR 4 0) 2 (sI x2) 0 (sP x0)) env∧Sub (w2 V0 6 (36,k6) 4 (29,k4)) pv∧(F26_j1 x0 x2 x15 k4 k6 hp  K)) ?_ ?_
  ·refine Ag F26_r23 ?_ (r2 2 0 (rp 4 4 0 (rp 6 6 0 Rn))) (z4 Sn) (z2 Sn)
   refine mt h (fun h=>?_) (fun h=>?_)
   ·exact ⟨_,_,_,_,_,(z5 Sn),(z2 Sn),h⟩
   ·exact ⟨_,_,_,_,_,(z5 Sn),(z2 Sn),h⟩
  ·rintro env pv hp ⟨x0,x2,x15,k4,k6,he,hv,h⟩
   refine Ae ?_ (r2 0 2 (rp 4 4 0 (rp 6 6 0 (r1 15 Rn)))) he hv
   unfold F26_j1 at h
   refine Ac h rfl (fun h=>?_) (fun h=>?_)
   ·refine Ar F26_r3 ?_ (rp 6 6 0 Rn) (z1 Sn) (z1 Sn)
    refine mf h fun h=>mf h fun h=>mf h fun h=>?_
    refine AWP.ret ?_
    exact h
   ·refine Ar F26_r4 ?_ (rp 4 4 0 (r2 0 2 (rp 6 6 0 Rn))) (z4 Sn) (z2 Sn)
    refine mL h fun l6 h=>mC h fun u7 h8 h=>mB h fun q9 h=>?_
    refine Ac h rfl (fun h=>?_) (fun h=>?_)
    ·refine Ar F26_r5 ?_ (rp 6 6 0 Rn) (z1 Sn) (z1 Sn)
     refine mf h fun h=>mf h fun h=>mf h fun h=>?_
     refine AWP.ret ?_
     exact h
    ·refine AWP.skip (Aq (AWP.rgnD (by kernel_rfl) (by kernel_rfl) F26_r6 ?_ (r1 0 (rp 4 4 0 (r1 2 (rp 6 6 0 Rn)))) (z4 Sn) (z2 Sn)))
     refine mN h fun b11 o12 h=>mV h fun v13 h=>mM h fun m14 h=>mV h fun v15 h=>ms h fun s16 h=>mR h fun u17 h=>mT h fun u18 u19 h=>mP h fun p20 h=>mB h fun q21 h=>?_
     refine Aq (As (fun env pv hp=>∃ x0 x2 x9 x10 x47 k4 k6,Sub (w7 E0 47 (sB x47) 10 (sB x10) 9 (sP x9) 6 (sR 6 0) 4 (sR 4 0) 2 (sI x2) 0 (sP x0)) env∧Sub (w2 V0 6 (36,k6) 4 (29,k4)) pv∧(F26_j2 x0 x2 x9 x10 x47 k4 k6 hp  K)) ?_ ?_)
     ·refine AWP.rgnD (by kernel_rfl) (by kernel_rfl) (F26_r22 rfl) ?_ (rp 4 4 0 (r4 9 10 0 2 (rp 6 6 0 Rn))) (z6 Sn) (z2 Sn)
      refine mt h (fun h=>?_) (fun h=>?_)
      ·refine mN h fun b90 o91 h=>mV h fun v92 h=>mS h fun a93 n94 c95 h=>mL h fun l96 h=>mC h fun u97 h98 h=>mB h fun q99 h=>?_
       exact ⟨_,_,_,_,_,_,_,(z7 Sn),(z2 Sn),h⟩
      ·exact ⟨_,_,_,_,_,_,_,(z7 Sn),(z2 Sn),h⟩
     ·rintro env pv hp ⟨x0,x2,x9,x10,x47,k4,k6,he,hv,h⟩
      refine Ae ?_ (r2 0 2 (rp 4 4 0 (rp 6 6 0 (r3 9 10 47 Rn)))) he hv
      unfold F26_j2 at h
      refine Ac h rfl (fun h=>?_) (fun h=>?_)
      ·refine Ar F26_r7 ?_ (rp 6 6 0 Rn) (z1 Sn) (z1 Sn)
       refine mf h fun h=>mf h fun h=>mf h fun h=>?_
       refine AWP.ret ?_
       exact h
      ·refine AWP.skip (Aq (As (fun env pv hp=>∃ x0 x2 x10 x55 k4 k6,Sub (w6 E0 55 (sB x55) 10 (sB x10) 6 (sR 6 0) 4 (sR 4 0) 2 (sI x2) 0 (sP x0)) env∧Sub (w2 V0 6 (36,k6) 4 (29,k4)) pv∧(F26_j3 x0 x2 x10 x55 k4 k6 hp  K)) ?_ ?_))
       ·refine Ag (F26_r21 rfl) ?_ (rp 4 4 0 (r4 9 10 0 2 (rp 6 6 0 Rn))) (z6 Sn) (z2 Sn)
        refine mt h (fun h=>?_) (fun h=>?_)
        ·refine mL h fun l86 h=>mC h fun u87 h88 h=>mB h fun q89 h=>?_
         exact ⟨_,_,_,_,_,_,(z6 Sn),(z2 Sn),h⟩
        ·exact ⟨_,_,_,_,_,_,(z6 Sn),(z2 Sn),h⟩
       ·rintro env pv hp ⟨x0,x2,x10,x55,k4,k6,he,hv,h⟩
        refine Ae ?_ (r2 0 2 (rp 4 4 0 (rp 6 6 0 (r2 10 55 Rn)))) he hv
        unfold F26_j3 at h
        refine Ac h rfl (fun h=>?_) (fun h=>?_)
        ·refine Ar F26_r8 ?_ (r1 0 (rp 4 4 0 (rp 6 6 0 Rn))) (z3 Sn) (z2 Sn)
         refine mV h fun v23 h=>ms h fun s24 h=>mC h fun u25 h26 h=>?_
         refine Ar F26_r9 ?_ (rp 6 6 0 Rn) (z1 Sn) (z1 Sn)
         refine mf h fun h=>mf h fun h=>mf h fun h=>?_
         refine AWP.ret ?_
         exact h
        ·refine AWP.skip (Aq (As (fun env pv hp=>∃ x0 x2 x72 k4 k6,Sub (w5 E0 72 (sB x72) 6 (sR 6 0) 4 (sR 4 0) 2 (sI x2) 0 (sP x0)) env∧Sub (w2 V0 6 (36,k6) 4 (29,k4)) pv∧(F26_j4 x0 x2 x72 k4 k6 hp  K)) ?_ ?_))
         ·refine Ag (F26_r20 rfl) ?_ (rp 4 4 0 (r3 10 0 2 (rp 6 6 0 Rn))) (z5 Sn) (z2 Sn)
          refine mt h (fun h=>?_) (fun h=>?_)
          ·refine mV h fun v82 h=>mI h fun i83 h=>?_
           refine mt h (fun h=>?_) (fun h=>?_)
           ·refine mV h fun v84 h=>mB h fun q85 h=>?_
            exact ⟨_,_,_,_,_,(z5 Sn),(z2 Sn),h⟩
           ·exact ⟨_,_,_,_,_,(z5 Sn),(z2 Sn),h⟩
          ·exact ⟨_,_,_,_,_,(z5 Sn),(z2 Sn),h⟩
         ·rintro env pv hp ⟨x0,x2,x72,k4,k6,he,hv,h⟩
          refine Ae ?_ (r2 0 2 (rp 4 4 0 (rp 6 6 0 (r1 72 Rn)))) he hv
          unfold F26_j4 at h
          refine Ac h rfl (fun h=>?_) (fun h=>?_)
          ·refine Ar F26_r10 ?_ (rp 4 4 0 (rp 6 6 0 Rn)) (z2 Sn) (z2 Sn)
           refine mV h fun v28 h=>ms h fun s29 h=>mV h fun v30 h=>ms h fun s31 h=>mV h fun v32 h=>ms h fun s33 h=>mf h fun h=>mf h fun h=>mf h fun h=>?_
           refine AWP.ret ?_
           exact h
          ·refine AWP.skip (Aq (AWP.block (Aq (AWP.rgnD (by kernel_rfl) (by kernel_rfl) F26_r11 ?_ (r2 0 2 (rp 4 4 0 (rp 6 6 0 Rn))) (z4 Sn) (z2 Sn)))))
           refine mN h fun b35 o36 h=>mV h fun v37 h=>mI h fun i38 h=>mN h fun b39 o40 h=>mV h fun v41 h=>mI h fun i42 h=>?_
           refine Ac h rfl (fun h=>?_) (fun h=>?_)
           ·refine Ar F26_r12 ?_ (rp 6 6 0 Rn) (z1 Sn) (z1 Sn)
            refine mf h fun h=>mf h fun h=>mf h fun h=>?_
            refine AWP.ret ?_
            exact h
           ·refine Aq (AWP.rgnD (by kernel_rfl) (by kernel_rfl) F26_r13 ?_ (r1 0 (rp 4 4 0 (r1 2 (rp 6 6 0 Rn)))) (z4 Sn) (z2 Sn))
            refine mN h fun b44 o45 h=>mV h fun v46 h=>mM h fun m47 h=>mV h fun v48 h=>ms h fun s49 h=>mR h fun u50 h=>mI h fun i51 h=>mN h fun b52 o53 h=>mV h fun v54 h=>mI h fun i55 h=>?_
            refine Ac h rfl (fun h=>?_) (fun h=>?_)
            ·refine Ar F26_r14 ?_ (rp 6 6 0 Rn) (z1 Sn) (z1 Sn)
             refine mf h fun h=>mf h fun h=>mf h fun h=>?_
             refine AWP.ret ?_
             exact h
            ·refine AWP.skip (Ar (F26_r15 rfl) ?_ (r2 0 2 (rp 4 4 0 (rp 6 6 0 Rn))) (z4 Sn) (z2 Sn))
             refine mL h fun l57 h=>mC h fun u58 h59 h=>?_
             refine As (fun env pv hp=>∃ x7 k6,Sub (w2 E0 7 (sB x7) 6 (sR 6 0)) env∧Sub (upd V0 6 (36,k6)) pv∧(F26_j5 x7 k6 hp  K)) ?_ ?_
             ·refine Aq (AWP.rgnD (by kernel_rfl) (by kernel_rfl) (F26_r17 rfl) ?_ (r1 0 (rp 4 4 0 (rp 6 6 0 Rn))) (z3 Sn) (z2 Sn))
              refine mN h fun b62 o63 h=>mV h fun v64 h=>mM h fun m65 h=>mV h fun v66 h=>ms h fun s67 h=>mR h fun u68 h=>mP h fun p69 h=>mV h fun v70 h=>ms h fun s71 h=>mC h fun u72 h73 h=>mT h fun u74 u75 h=>mA h fun l76 h=>mB h fun q77 h=>mf h fun h=>mf h fun h=>mf h fun h=>?_
              refine Ar F26_r18 ?_ (r2 7 0 (rp 4 4 0 (rp 6 6 0 Rn))) (z4 Sn) (z2 Sn)
              refine Ac h rfl (fun h=>?_) (fun h=>?_)
              ·refine Ag F26_r19 ?_ (r1 0 (rp 4 4 0 (rp 6 6 0 (r1 7 Rn)))) (z4 Sn) (z2 Sn)
               refine mV h fun v78 h=>ms h fun s79 h=>mC h fun u80 h81 h=>?_
               exact ⟨_,_,(z2 Sn),(z1 Sn),h⟩
              ·refine AWP.skip ?_
               exact ⟨_,_,(z2 Sn),(z1 Sn),h⟩
             ·rintro env pv hp ⟨x7,k6,he,hv,h⟩
              refine Ae ?_ (rp 6 6 0 (r1 7 Rn)) he hv
              unfold F26_j5 at h
              refine Ar F26_r16 ?_ (rp 6 6 0 (r1 7 Rn)) (z2 Sn) (z1 Sn)
              refine mL h fun l60 h=>mf h fun h=>mf h fun h=>mf h fun h=>?_
              refine AWP.ret ?_
              exact h
end
section
variable {e:Env} {x0:OA} {hp:HP} {K:Env→PV→HP→Prop}
abbrev R27 (p n:Nat):=RW Try.prog 9 [] (opsAt Try.f27 (pth p)) (List.range n)
theorem F27_r0:R27 2 1 e V0 hp K=
 K (upd e 2 (sI 0)) V0 hp:= by kernel_rfl
theorem F27_r1:R27 9 2 (upd e 0 (sP x0)) V0 hp K=
 CF Try.prog 75 [(.pointer x0)] hp fun u1 h2=>(boolV u1 fun q3=>K (w3 e 0 (sP x0) 3 (sP x0) 4 (sB q3)) V0 h2):= by kernel_rfl
theorem F27_r2:R27 37 1 e V0 hp K=
 K (upd e 2 (sI 0)) V0 hp:= by kernel_rfl
theorem F27_r3:R27 11 5 (upd e 0 (sP x0)) V0 hp K=
 ptrN x0 fun b1 o2=>(ldV (HP.cell hp b1 (o2+3)) fun v3=>intV v3 .i64 fun i4=>K (w6 e 0 (sP x0) 5 (sP x0) 6 (sQ b1 o2) 7 (sQ b1 (o2+3)) 8 (sI i4) 2 (sI i4)) V0 hp):= by kernel_rfl
def F27 (x0:OA) (hp:HP) (K:Kh):Prop:=
  (CF Try.prog 75 [(.pointer x0)] hp fun u1 h2=>boolV u1 fun q3=>ite2 q3 (K (.int .i64 0) h2) (ptrN x0 fun b4 o5=>ldV (HP.cell h2 b4 (o5+3)) fun v6=>intV v6 .i64 fun i7=>K (.int .i64 i7) h2))
noncomputable def F27_code:Code:=(.seq (.region 0 (opsAt Try.f27 (pth 2)) false) (.seq (.seq (.region 1 (opsAt Try.f27 (pth 9)) false) (.cond (.tmp 4) (.seq (.region 2 (opsAt Try.f27 (pth 37)) false) .ret) .skip)) (.seq (.region 3 (opsAt Try.f27 (pth 11)) false) .ret)))
theorem F27_body:Try.f27.body=some F27_code:=by kernel_rfl
theorem F27_ok (x0:OA) (hp:HP) (K:Kh) (h:F27 x0 hp K):CF Try.prog 27 [(.pointer x0)] hp K:=by
 refine .inl ⟨by kernel_rfl,AC.intro (N:=9) Try.func27 F27_body rfl (Nat.le_of_ble_eq_true rfl) ?_⟩
 unfold F27 at h
 refine Ar F27_r0 ?_ (r1 0 Rn) (z1 Sn) Sn
 refine Aq (Ar F27_r1 ?_ (r1 0 Rn) (z1 Sn) Sn)
 refine mC h fun u1 h2 h=>mB h fun q3 h=>?_
 refine Ac h rfl (fun h=>?_) (fun h=>?_)
 ·refine Ar F27_r2 ?_ Rn Sn Sn
  refine AWP.ret ?_
  exact h
 ·refine AWP.skip (Ar F27_r3 ?_ (r1 0 Rn) (z1 Sn) Sn)
  refine mN h fun b4 o5 h=>mV h fun v6 h=>mI h fun i7 h=>?_
  refine AWP.ret ?_
  exact h
end
section
variable {e E:Env} {x0 k1:List Value} {hp:HP} {K:Env→PV→HP→Prop}
abbrev R67 (p n:Nat):=RW Try.prog 42 [1,3,7,12,18,21,26,30,35] (opsAt Try.f67 (pth p)) (List.range n)
theorem F67_r0:R67 2 2 (upd e 0 (sA x0)) V0 hp K=
 K (w3 e 0 (sA x0) 1 (sR 1 0) 2 (sB false)) (upd V0 1 (29,x0)) hp:= by kernel_rfl
theorem F67_r1:R67 37 1 e V0 hp K=
 K (upd e 2 (sB false)) V0 hp:= by kernel_rfl
theorem F67_r2 (h:E=upd e 1 (sR 1 0)):R67 11 17 E (upd V0 1 (29,k1)) hp K=
    (ldV (k1)[3]? fun v1=>boolV v1 fun q2=>ite2 (!q2) (K (upd (w8 (w8 E 26 (sR 1 3) 27 (sB q2) 28 (sB ((!q2))) 29 (sB true) 30 sU 31 sU 32 sU 33 sU) 34 sU 35 sU 36 sU 37 sU 38 sU 39 sU 40 sU 41 (sB true)) 2 (sB true)) (upd V0 1 (29,k1)) hp) (ldV (k1)[4]? fun v3=>strV v3 fun s4=>ite2 (decide (((ByteArray.size s4:Nat):Int) > 0)) (ldV (k1)[4]? fun v5=>strV v5 fun s6=>((8:Int)≠0)∧(K (upd (w8 (w8 E 26 (sR 1 3) 27 (sB q2) 28 (sB ((!q2))) 29 (sB false) 30 (sR 1 4) 31 (sT s4) 32 (sI ((ByteArray.size s4:Nat))) 33 (sB ((decide (((ByteArray.size s4:Nat):Int) > 0))))) 34 (sB true) 35 (sR 1 4) 36 (sT s6) 37 (sI ((ByteArray.size s6:Nat))) 38 (sI ((Int.tmod (ByteArray.size s6:Nat) 8))) 39 (sB ((((Int.tmod (ByteArray.size s6:Nat) 8):Int)==0))) 40 (sB ((((Int.tmod (ByteArray.size s6:Nat) 8):Int)==0))) 41 (sB ((((Int.tmod (ByteArray.size s6:Nat) 8):Int)==0)))) 2 (sB ((((Int.tmod (ByteArray.size s6:Nat) 8):Int)==0)))) (upd V0 1 (29,k1)) hp)) (K (upd (w8 (w8 E 26 (sR 1 3) 27 (sB q2) 28 (sB ((!q2))) 29 (sB false) 30 (sR 1 4) 31 (sT s4) 32 (sI ((ByteArray.size s4:Nat))) 33 (sB ((decide (((ByteArray.size s4:Nat):Int) > 0))))) 34 (sB false) 35 sU 36 sU 37 sU 38 sU 39 sU 40 (sB false) 41 (sB false)) 2 (sB false)) (upd V0 1 (29,k1)) hp))):=by subst h; kernel_rfl
def F67_j1 (x25:Bool) (k1:List Value) (hp:HP) (K:Kh):Prop:=
  (ite2 x25 (K (.bool false) hp) (ldV (k1)[3]? fun v1=>boolV v1 fun q2=>ite2 (!q2) (K (.bool true) hp) (ldV (k1)[4]? fun v3=>strV v3 fun s4=>ite2 (decide (((ByteArray.size s4:Nat):Int) > 0)) (ldV (k1)[4]? fun v5=>strV v5 fun s6=>((8:Int)≠0)∧(K (.bool (((Int.tmod (ByteArray.size s6:Nat) 8):Int)==0)) hp)) (K (.bool false) hp))))
theorem F67_r3 (h:E=upd e 1 (sR 1 0)):R67 9 23 E (upd V0 1 (29,k1)) hp K=
    (ldV (k1)[2]? fun v1=>intV v1 .i64 fun i2=>ite2 (decide (i2<0)) (K (w7 (w8 (w8 E 3 (sR 1 2) 4 (sI i2) 5 (sB (decide (i2<0))) 6 (sB true) 7 sU 8 sU 9 sU 10 (sB true)) 11 (sB true) 12 sU 13 sU 14 sU 15 sU 16 (sB true) 17 (sB true) 18 sU) 19 sU 20 sU 21 sU 22 sU 23 sU 24 sU 25 (sB true)) (upd V0 1 (29,k1)) hp) (ldV (k1)[2]? fun v3=>intV v3 .i64 fun i4=>ite2 (decide (i4 > 65535)) (K (w7 (w8 (w8 E 3 (sR 1 2) 4 (sI i2) 5 (sB (decide (i2<0))) 6 (sB false) 7 (sR 1 2) 8 (sI i4) 9 (sB (decide (i4 > 65535))) 10 (sB (decide (i4 > 65535)))) 11 (sB true) 12 sU 13 sU 14 sU 15 sU 16 (sB true) 17 (sB true) 18 sU) 19 sU 20 sU 21 sU 22 sU 23 sU 24 sU 25 (sB true)) (upd V0 1 (29,k1)) hp) (ldV (k1)[2]? fun v5=>intV v5 .i64 fun i6=>((8:Int)≠0)∧(ite2 (((Int.tmod i6 8):Int) != 0) (K (w7 (w8 (w8 E 3 (sR 1 2) 4 (sI i2) 5 (sB (decide (i2<0))) 6 (sB false) 7 (sR 1 2) 8 (sI i4) 9 (sB (decide (i4 > 65535))) 10 (sB (decide (i4 > 65535)))) 11 (sB false) 12 (sR 1 2) 13 (sI i6) 14 (sI ((Int.tmod i6 8))) 15 (sB ((((Int.tmod i6 8):Int) != 0))) 16 (sB ((((Int.tmod i6 8):Int) != 0))) 17 (sB true) 18 sU) 19 sU 20 sU 21 sU 22 sU 23 sU 24 sU 25 (sB true)) (upd V0 1 (29,k1)) hp) (ldV (k1)[4]? fun v7=>strV v7 fun s8=>ldV (k1)[2]? fun v9=>intV v9 .i64 fun i10=>K (w7 (w8 (w8 E 3 (sR 1 2) 4 (sI i2) 5 (sB (decide (i2<0))) 6 (sB false) 7 (sR 1 2) 8 (sI i4) 9 (sB (decide (i4 > 65535))) 10 (sB (decide (i4 > 65535)))) 11 (sB false) 12 (sR 1 2) 13 (sI i6) 14 (sI ((Int.tmod i6 8))) 15 (sB ((((Int.tmod i6 8):Int) != 0))) 16 (sB ((((Int.tmod i6 8):Int) != 0))) 17 (sB false) 18 (sR 1 4)) 19 (sT s8) 20 (sI ((ByteArray.size s8:Nat))) 21 (sR 1 2) 22 (sI i10) 23 (sI ((wr (65535-i10)))) 24 (sB ((decide (((ByteArray.size s8:Nat):Int) > (wr (65535-i10)))))) 25 (sB ((decide (((ByteArray.size s8:Nat):Int) > (wr (65535-i10))))))) (upd V0 1 (29,k1)) hp))))):=by subst h; kernel_rfl
def F67 (x0:List Value) (hp:HP) (K:Kh):Prop:=
  (ldV (x0)[2]? fun v7=>intV v7 .i64 fun i8=>ite2 (decide (i8<0)) (F67_j1 true x0 hp  K) (ldV (x0)[2]? fun v9=>intV v9 .i64 fun i10=>ite2 (decide (i10 > 65535)) (F67_j1 true x0 hp  K) (ldV (x0)[2]? fun v11=>intV v11 .i64 fun i12=>((8:Int)≠0)∧(ite2 (((Int.tmod i12 8):Int) != 0) (F67_j1 true x0 hp  K) (ldV (x0)[4]? fun v13=>strV v13 fun s14=>ldV (x0)[2]? fun v15=>intV v15 .i64 fun i16=>F67_j1 (decide (((ByteArray.size s14:Nat):Int) > (IntKind.wrap .i64 (65535-i16)))) x0 hp  K)))))
noncomputable def F67_code:Code:=(.seq (.region 0 (opsAt Try.f67 (pth 2)) false) (.seq (.seq (.region 1 (opsAt Try.f67 (pth 9)) false) (.cond (.tmp 25) (.seq (.region 2 (opsAt Try.f67 (pth 37)) false) .ret) .skip)) (.seq (.region 3 (opsAt Try.f67 (pth 11)) false) .ret)))
theorem F67_body:Try.f67.body=some F67_code:=by kernel_rfl
theorem F67_ok (x0:List Value) (hp:HP) (K:Kh) (h:F67 x0 hp K):CF Try.prog 67 [(.agg ⟨x0⟩)] hp K:=by
 refine .inl ⟨by kernel_rfl,AC.intro (N:=42) Try.func67 F67_body rfl (Nat.le_of_ble_eq_true rfl) ?_⟩
 unfold F67 at h
 refine Ar F67_r0 ?_ (r1 0 Rn) (z1 Sn) Sn
 refine Aq (As (fun env pv hp=>∃ x25 k1,Sub (w2 E0 25 (sB x25) 1 (sR 1 0)) env∧Sub (upd V0 1 (29,k1)) pv∧(F67_j1 x25 k1 hp  K)) ?_ ?_)
 ·refine Ag (F67_r3 rfl) ?_ (rp 1 1 0 Rn) (z1 Sn) (z1 Sn)
  refine mV h fun v7 h=>mI h fun i8 h=>?_
  refine mt h (fun h=>?_) (fun h=>?_)
  ·exact ⟨_,_,(z2 Sn),(z1 Sn),h⟩
  ·refine mV h fun v9 h=>mI h fun i10 h=>?_
   refine mt h (fun h=>?_) (fun h=>?_)
   ·exact ⟨_,_,(z2 Sn),(z1 Sn),h⟩
   ·refine mV h fun v11 h=>mI h fun i12 h=>?_
    refine ⟨h.1,mt h.2 (fun h=>?_) (fun h=>?_)⟩
    ·exact ⟨_,_,(z2 Sn),(z1 Sn),h⟩
    ·refine mV h fun v13 h=>ms h fun s14 h=>mV h fun v15 h=>mI h fun i16 h=>?_
     exact ⟨_,_,(z2 Sn),(z1 Sn),h⟩
 ·rintro env pv hp ⟨x25,k1,he,hv,h⟩
  refine Ae ?_ (rp 1 1 0 (r1 25 Rn)) he hv
  unfold F67_j1 at h
  refine Ac h rfl (fun h=>?_) (fun h=>?_)
  ·refine Ar F67_r1 ?_ Rn Sn Sn
   refine AWP.ret ?_
   exact h
  ·refine AWP.skip (Ar (F67_r2 rfl) ?_ (rp 1 1 0 Rn) (z1 Sn) (z1 Sn))
   refine mV h fun v1 h=>mB h fun q2 h=>?_
   refine mt h (fun h=>?_) (fun h=>?_)
   ·refine AWP.ret ?_
    exact h
   ·refine mV h fun v3 h=>ms h fun s4 h=>?_
    refine mt h (fun h=>?_) (fun h=>?_)
    ·refine mV h (fun v5 h=>ms h (fun s6 h=>⟨h.1,?_⟩))
     replace h:=h.2
     refine AWP.ret ?_
     exact h
    ·refine AWP.ret ?_
     exact h
end
section
variable {e:Env} {x0:OA} {hp:HP} {K:Env→PV→HP→Prop}
abbrev R75 (p n:Nat):=RW Try.prog 12 [] (opsAt Try.f75 (pth p)) (List.range n)
theorem F75_r0:R75 2 1 e V0 hp K=
 K (upd e 2 (sB false)) V0 hp:= by kernel_rfl
theorem F75_r1:R75 5 10 (upd e 0 (sP x0)) V0 hp K=
 ite2 (Option.isNone x0) (K (w3 (w8 e 0 (sP x0) 3 (sP x0) 4 (sB ((Option.isNone x0))) 5 (sB true) 6 sU 7 sU 8 sU 9 sU) 10 sU 11 (sB true) 2 (sB true)) V0 hp) (ptrN x0 fun b1 o2=>ldV (HP.cell hp b1 (o2+4)) fun v3=>mapV v3 fun m4=>K (w3 (w8 e 0 (sP x0) 3 (sP x0) 4 (sB ((Option.isNone x0))) 5 (sB false) 6 (sP x0) 7 (sQ b1 o2) 8 (sQ b1 (o2+4)) 9 (sV (.map m4))) 10 (sB ((Option.isNone m4))) 11 (sB ((Option.isNone m4))) 2 (sB ((Option.isNone m4)))) V0 hp):= by kernel_rfl
def F75 (x0:OA) (hp:HP) (K:Kh):Prop:=
  (ite2 (Option.isNone x0) (K (.bool true) hp) (ptrN x0 fun b1 o2=>ldV (HP.cell hp b1 (o2+4)) fun v3=>mapV v3 fun m4=>K (.bool (Option.isNone m4)) hp))
noncomputable def F75_code:Code:=(.seq (.region 0 (opsAt Try.f75 (pth 2)) false) (.seq (.region 1 (opsAt Try.f75 (pth 5)) false) .ret))
theorem F75_body:Try.f75.body=some F75_code:=by kernel_rfl
theorem F75_ok (x0:OA) (hp:HP) (K:Kh) (h:F75 x0 hp K):CF Try.prog 75 [(.pointer x0)] hp K:=by
 refine .inl ⟨by kernel_rfl,AC.intro (N:=12) Try.func75 F75_body rfl (Nat.le_of_ble_eq_true rfl) ?_⟩
 unfold F75 at h
 refine Ar F75_r0 ?_ (r1 0 Rn) (z1 Sn) Sn
 refine Ar F75_r1 ?_ (r1 0 Rn) (z1 Sn) Sn
 refine mt h (fun h=>?_) (fun h=>?_)
 ·refine AWP.ret ?_
  exact h
 ·refine mN h fun b1 o2 h=>mV h fun v3 h=>mM h fun m4 h=>?_
  refine AWP.ret ?_
  exact h
end
section
variable {e:Env} {x0a:OA} {x0n x0c:Nat} {x1:Value} {hp:HP} {K:Env→PV→HP→Prop}
abbrev R76 (p n:Nat):=RW Try.prog 9 [] (opsAt Try.f76 (pth p)) (List.range n)
theorem F76_r0:R76 2 1 e V0 hp K=
 K (upd e 4 (sB false)) V0 hp:= by kernel_rfl
theorem F76_r1:R76 5 5 (w2 e 1 (sV x1) 0 (sS x0a x0n x0c)) V0 hp K=
 CF Try.prog 121 [(.slice x0a x0n x0c),x1] hp fun u1 h2=>(intV u1 .i64 fun i3=>K (w7 e 1 (sV x1) 0 (sS x0a x0n x0c) 5 (sS x0a x0n x0c) 6 (sV x1) 7 (sI i3) 8 (sB (decide (i3≥0))) 4 (sB (decide (i3≥0)))) V0 h2):= by kernel_rfl
def F76 (x0a:OA) (x0n x0c:Nat) (x1:Value) (hp:HP) (K:Kh):Prop:=
  (CF Try.prog 121 [(.slice x0a x0n x0c),x1] hp fun u1 h2=>intV u1 .i64 fun i3=>K (.bool (decide (i3≥0))) h2)
noncomputable def F76_code:Code:=(.seq (.region 0 (opsAt Try.f76 (pth 2)) false) (.seq (.region 1 (opsAt Try.f76 (pth 5)) false) .ret))
theorem F76_body:Try.f76.body=some F76_code:=by kernel_rfl
theorem F76_ok (x0a:OA) (x0n x0c:Nat) (x1:Value) (hp:HP) (K:Kh) (h:F76 x0a x0n x0c x1 hp K):CF Try.prog 76 [(.slice x0a x0n x0c),x1] hp K:=by
 refine .inl ⟨by kernel_rfl,AC.intro (N:=9) Try.func76 F76_body rfl (Nat.le_of_ble_eq_true rfl) ?_⟩
 unfold F76 at h
 refine Ar F76_r0 ?_ (r2 0 1 Rn) (z2 Sn) Sn
 refine Ar F76_r1 ?_ (r2 0 1 Rn) (z2 Sn) Sn
 refine mC h fun u1 h2 h=>mI h fun i3 h=>?_
 refine AWP.ret ?_
 exact h
end
section
variable {e E:Env} {x0 x1 k2 k3:List Value} {hp:HP} {K:Env→PV→HP→Prop}
abbrev R77 (p n:Nat):=RW Try.prog 24 [2,3,5,7,11,13,18,20] (opsAt Try.f77 (pth p)) (List.range n)
theorem F77_r0:R77 2 3 (w2 e 1 (sA x1) 0 (sA x0)) V0 hp K=
 K (w5 e 1 (sA x1) 0 (sA x0) 2 (sR 2 0) 3 (sR 3 0) 4 (sB false)) (w2 V0 2 (29,x0) 3 (29,x1)) hp:= by kernel_rfl
theorem F77_r1 (h:E=upd (upd e 3 (sR 3 0)) 2 (sR 2 0)):R77 5 20 E (w2 V0 3 (29,k3) 2 (29,k2)) hp K=
 ldV (k2)[2]? fun v1=>(intV v1 .i64 fun i2=>ldV (k3)[2]? fun v3=>intV v3 .i64 fun i4=>ite2 (i2==i4) (ldV (k2)[3]? fun v5=>boolV v5 fun q6=>ldV (k3)[3]? fun v7=>boolV v7 fun q8=>ite2 (q6==q8) (ldV (k2)[4]? fun v9=>strV v9 fun s10=>ldV (k3)[4]? fun v11=>strV v11 fun s12=>K (w4 (w8 (w8 E 5 (sR 2 2) 6 (sI i2) 7 (sR 3 2) 8 (sI i4) 9 (sB ((i2==i4))) 10 (sB true) 11 (sR 2 3) 12 (sB q6)) 13 (sR 3 3) 14 (sB q8) 15 (sB ((q6==q8))) 16 (sB ((q6==q8))) 17 (sB true) 18 (sR 2 4) 19 (sT s10) 20 (sR 3 4)) 21 (sT s12) 22 (sB (((ByteArray.toList s10)==(ByteArray.toList s12)))) 23 (sB (((ByteArray.toList s10)==(ByteArray.toList s12)))) 4 (sB (((ByteArray.toList s10)==(ByteArray.toList s12))))) (w2 V0 3 (29,k3) 2 (29,k2)) hp) (K (w4 (w8 (w8 E 5 (sR 2 2) 6 (sI i2) 7 (sR 3 2) 8 (sI i4) 9 (sB ((i2==i4))) 10 (sB true) 11 (sR 2 3) 12 (sB q6)) 13 (sR 3 3) 14 (sB q8) 15 (sB ((q6==q8))) 16 (sB ((q6==q8))) 17 (sB false) 18 sU 19 sU 20 sU) 21 sU 22 sU 23 (sB false) 4 (sB false)) (w2 V0 3 (29,k3) 2 (29,k2)) hp)) (K (w4 (w8 (w8 E 5 (sR 2 2) 6 (sI i2) 7 (sR 3 2) 8 (sI i4) 9 (sB ((i2==i4))) 10 (sB false) 11 sU 12 sU) 13 sU 14 sU 15 sU 16 (sB false) 17 (sB false) 18 sU 19 sU 20 sU) 21 sU 22 sU 23 (sB false) 4 (sB false)) (w2 V0 3 (29,k3) 2 (29,k2)) hp)):= by subst h; kernel_rfl
def F77 (x0 x1:List Value) (hp:HP) (K:Kh):Prop:=
  (ldV (x0)[2]? fun v1=>intV v1 .i64 fun i2=>ldV (x1)[2]? fun v3=>intV v3 .i64 fun i4=>ite2 (i2==i4) (ldV (x0)[3]? fun v5=>boolV v5 fun q6=>ldV (x1)[3]? fun v7=>boolV v7 fun q8=>ite2 (q6==q8) (ldV (x0)[4]? fun v9=>strV v9 fun s10=>ldV (x1)[4]? fun v11=>strV v11 fun s12=>K (.bool ((ByteArray.toList s10)==(ByteArray.toList s12))) hp) (K (.bool false) hp)) (K (.bool false) hp))
noncomputable def F77_code:Code:=(.seq (.region 0 (opsAt Try.f77 (pth 2)) false) (.seq (.region 1 (opsAt Try.f77 (pth 5)) false) .ret))
theorem F77_body:Try.f77.body=some F77_code:=by kernel_rfl
theorem F77_ok (x0 x1:List Value) (hp:HP) (K:Kh) (h:F77 x0 x1 hp K):CF Try.prog 77 [(.agg ⟨x0⟩),(.agg ⟨x1⟩)] hp K:=by
 refine .inl ⟨by kernel_rfl,AC.intro (N:=24) Try.func77 F77_body rfl (Nat.le_of_ble_eq_true rfl) ?_⟩
 unfold F77 at h
 refine Ar F77_r0 ?_ (r2 0 1 Rn) (z2 Sn) Sn
 refine Ar (F77_r1 rfl) ?_ (rp 2 2 0 (rp 3 3 0 Rn)) (z2 Sn) (z2 Sn)
 refine mV h fun v1 h=>mI h fun i2 h=>mV h fun v3 h=>mI h fun i4 h=>?_
 refine mt h (fun h=>?_) (fun h=>?_)
 ·refine mV h fun v5 h=>mB h fun q6 h=>mV h fun v7 h=>mB h fun q8 h=>?_
  refine mt h (fun h=>?_) (fun h=>?_)
  ·refine mV h fun v9 h=>ms h fun s10 h=>mV h fun v11 h=>ms h fun s12 h=>?_
   refine AWP.ret ?_
   exact h
  ·refine AWP.ret ?_
   exact h
 ·refine AWP.ret ?_
  exact h
end
section
variable {e:Env} {x0:OA} {x1:List Value} {x3:OA} {hp:HP} {K:Env→PV→HP→Prop}
abbrev R78 (p n:Nat):=RW Try.prog 31 [] (opsAt Try.f78 (pth p)) (List.range n)
theorem F78_r0:R78 2 2 (upd e 1 (sA x1)) V0 hp K=
    (∀ b1:Nat,hp b1=.none→(K (w3 e 1 (sA x1) 3 (sQ b1 0) 4 (sB false)) V0 (HP.set hp b1 (.cells 29 x1 0)))):=by kernel_rfl
theorem F78_r1:R78 37 1 e V0 hp K=
 K (upd e 4 (sB false)) V0 hp:= by kernel_rfl
theorem F78_r2:R78 11 8 (w2 e 3 (sP x3) 0 (sP x0)) V0 hp K=
 ptrN x0 fun b1 o2=>(ldV (HP.cell hp b1 (o2+3)) fun v3=>slcV v3 fun a4 n5 c6=>CF Try.prog 76 [(.slice a4 n5 c6),(.func (.func 123) ⟨[]⟩ ⟨[(.pointer x3)]⟩)] hp fun u7 h8=>boolV u7 fun q9=>K (w2 (w8 e 3 (sP x3) 0 (sP x0) 24 (sP x0) 25 (sQ b1 o2) 26 (sQ b1 (o2+3)) 27 (sS a4 n5 c6) 28 (sV (.func (.func 123) ⟨[]⟩ ⟨[(.pointer x3)]⟩)) 29 (sB q9)) 30 (sB ((!q9))) 4 (sB ((!q9)))) V0 h8):= by kernel_rfl
def F78_j1 (x0 x3:OA) (x23:Bool) (hp:HP) (K:Kh):Prop:=
  (ite2 x23 (K (.bool false) hp) (ptrN x0 fun b2 o3=>ldV (HP.cell hp b2 (o3+3)) fun v4=>slcV v4 fun a5 n6 c7=>CF Try.prog 76 [(.slice a5 n6 c7),(.func (.func 123) ⟨[]⟩ ⟨[(.pointer x3)]⟩)] hp fun u8 h9=>boolV u8 fun q10=>K (.bool (!q10)) h9))
theorem F78_r3 {e:Env} {x0:OA} {x3:OA} {hp:HP} {K:Env→PV→HP→Prop}:RW Try.prog 31 [] (opsAt Try.f78 (pth 9)) [0,1,2,3,4,5,6,7,8,9,10,11,12,13,14,15,16,17,18] (w2 e 3 (sP x3) 0 (sP x0)) V0 hp K=
 ptrN x0 fun b1 o2=>(ldV (HP.cell hp b1 (o2+2)) fun v3=>intV v3 .i64 fun i4=>ite2 (decide (i4≥0)) (ptrN x3 fun b5 o6=>ldV (HP.cell hp b5 (o6+3)) fun v7=>boolV v7 fun q8=>ite2 (!q8) (K (w5 (w8 (w8 e 3 (sP x3) 0 (sP x0) 5 (sP x0) 6 (sQ b1 o2) 7 (sQ b1 (o2+2)) 8 (sI i4) 9 (sB (decide (i4≥0))) 10 (sB true)) 11 (sQ b5 (o6+3)) 12 (sB q8) 13 (sB ((!q8))) 14 (sB true) 15 sU 16 sU 17 sU 18 sU) 19 sU 20 sU 21 sU 22 (sB true) 23 (sB true)) V0 hp) (ptrN x3 fun b9 o10=>ldL (HP.cellN hp b9 o10 6) fun l11=>CF Try.prog 122 [(.agg ⟨l11⟩)] hp fun u12 h13=>intV u12 .i64 fun i14=>ptrN x0 fun b15 o16=>ldV (HP.cell h13 b15 (o16+2)) fun v17=>intV v17 .i64 fun i18=>K (w5 (w8 (w8 e 3 (sP x3) 0 (sP x0) 5 (sP x0) 6 (sQ b1 o2) 7 (sQ b1 (o2+2)) 8 (sI i4) 9 (sB (decide (i4≥0))) 10 (sB true)) 11 (sQ b5 (o6+3)) 12 (sB q8) 13 (sB ((!q8))) 14 (sB false) 15 (sA l11) 16 (sI i14) 17 (sP x0) 18 (sQ b15 o16)) 19 (sQ b15 (o16+2)) 20 (sI i18) 21 (sB (decide (i14 > i18))) 22 (sB (decide (i14 > i18))) 23 (sB (decide (i14 > i18)))) V0 h13)) (K (w5 (w8 (w8 e 3 (sP x3) 0 (sP x0) 5 (sP x0) 6 (sQ b1 o2) 7 (sQ b1 (o2+2)) 8 (sI i4) 9 (sB (decide (i4≥0))) 10 (sB false)) 11 sU 12 sU 13 sU 14 sU 15 sU 16 sU 17 sU 18 sU) 19 sU 20 sU 21 sU 22 sU 23 (sB false)) V0 hp)):= by kernel_rfl
theorem F78_r4 {e:Env} {x0:OA} {x3:OA} {hp:HP} {K:Env→PV→HP→Prop}:RW Try.prog 31 [] (opsAt Try.f78 (pth 9)) [0,1,2,3,4,5,6,7,8,9,10,12,13,14,15,11,16,17,18] (w2 e 3 (sP x3) 0 (sP x0)) V0 hp K=
 ptrN x0 fun b1 o2=>(ldV (HP.cell hp b1 (o2+2)) fun v3=>intV v3 .i64 fun i4=>ite2 (decide (i4≥0)) (ptrN x3 fun b5 o6=>ldV (HP.cell hp b5 (o6+3)) fun v7=>boolV v7 fun q8=>ite2 (!q8) (K (w5 (w8 (w8 e 3 (sP x3) 0 (sP x0) 5 (sP x0) 6 (sQ b1 o2) 7 (sQ b1 (o2+2)) 8 (sI i4) 9 (sB (decide (i4≥0))) 10 (sB true)) 11 (sQ b5 (o6+3)) 12 (sB q8) 13 (sB ((!q8))) 14 (sB true) 15 sU 17 sU 18 sU 19 sU) 20 sU 16 sU 21 sU 22 (sB true) 23 (sB true)) V0 hp) (ptrN x3 fun b9 o10=>ldL (HP.cellN hp b9 o10 6) fun l11=>ptrN x0 fun b12 o13=>ldV (HP.cell hp b12 (o13+2)) fun v14=>intV v14 .i64 fun i15=>CF Try.prog 122 [(.agg ⟨l11⟩)] hp fun u16 h17=>intV u16 .i64 fun i18=>K (w5 (w8 (w8 e 3 (sP x3) 0 (sP x0) 5 (sP x0) 6 (sQ b1 o2) 7 (sQ b1 (o2+2)) 8 (sI i4) 9 (sB (decide (i4≥0))) 10 (sB true)) 11 (sQ b5 (o6+3)) 12 (sB q8) 13 (sB ((!q8))) 14 (sB false) 15 (sA l11) 17 (sP x0) 18 (sQ b12 o13) 19 (sQ b12 (o13+2))) 20 (sI i15) 16 (sI i18) 21 (sB (decide (i18 > i15))) 22 (sB (decide (i18 > i15))) 23 (sB (decide (i18 > i15)))) V0 h17)) (K (w5 (w8 (w8 e 3 (sP x3) 0 (sP x0) 5 (sP x0) 6 (sQ b1 o2) 7 (sQ b1 (o2+2)) 8 (sI i4) 9 (sB (decide (i4≥0))) 10 (sB false)) 11 sU 12 sU 13 sU 14 sU 15 sU 17 sU 18 sU 19 sU) 20 sU 16 sU 21 sU 22 sU 23 (sB false)) V0 hp)):= by kernel_rfl
def F78 (x0:OA) (x1:List Value) (hp:HP) (K:Kh):Prop:=
  (∀ b1:Nat,hp b1=.none→((ptrN x0 fun b11 o12=>ldV (HP.cell (HP.set hp b1 (.cells 29 x1 0)) b11 (o12+2)) fun v13=>intV v13 .i64 fun i14=>ite2 (decide (i14≥0)) (ptrN (some ⟨b1,0,none⟩) fun b15 o16=>ldV (HP.cell (HP.set hp b1 (.cells 29 x1 0)) b15 (o16+3)) fun v17=>boolV v17 fun q18=>ite2 (!q18) (F78_j1 x0 (some ⟨b1,0,none⟩) true (HP.set hp b1 (.cells 29 x1 0))  K) (ptrN (some ⟨b1,0,none⟩) fun b19 o20=>ldL (HP.cellN (HP.set hp b1 (.cells 29 x1 0)) b19 o20 6) fun l21=>CF Try.prog 122 [(.agg ⟨l21⟩)] (HP.set hp b1 (.cells 29 x1 0)) fun u22 h23=>intV u22 .i64 fun i24=>ptrN x0 fun b25 o26=>ldV (HP.cell h23 b25 (o26+2)) fun v27=>intV v27 .i64 fun i28=>F78_j1 x0 (some ⟨b1,0,none⟩) (decide (i24 > i28)) h23  K)) (F78_j1 x0 (some ⟨b1,0,none⟩) false (HP.set hp b1 (.cells 29 x1 0))  K))∧(ptrN x0 fun b29 o30=>ldV (HP.cell (HP.set hp b1 (.cells 29 x1 0)) b29 (o30+2)) fun v31=>intV v31 .i64 fun i32=>ite2 (decide (i32≥0)) (ptrN (some ⟨b1,0,none⟩) fun b33 o34=>ldV (HP.cell (HP.set hp b1 (.cells 29 x1 0)) b33 (o34+3)) fun v35=>boolV v35 fun q36=>ite2 (!q36) (F78_j1 x0 (some ⟨b1,0,none⟩) true (HP.set hp b1 (.cells 29 x1 0))  K) (ptrN (some ⟨b1,0,none⟩) fun b37 o38=>ldL (HP.cellN (HP.set hp b1 (.cells 29 x1 0)) b37 o38 6) fun l39=>ptrN x0 fun b40 o41=>ldV (HP.cell (HP.set hp b1 (.cells 29 x1 0)) b40 (o41+2)) fun v42=>intV v42 .i64 fun i43=>CF Try.prog 122 [(.agg ⟨l39⟩)] (HP.set hp b1 (.cells 29 x1 0)) fun u44 h45=>intV u44 .i64 fun i46=>F78_j1 x0 (some ⟨b1,0,none⟩) (decide (i46 > i43)) h45  K)) (F78_j1 x0 (some ⟨b1,0,none⟩) false (HP.set hp b1 (.cells 29 x1 0))  K))))
noncomputable def F78_code:Code:=(.seq (.region 0 (opsAt Try.f78 (pth 2)) false) (.seq (.seq (.region 1 (opsAt Try.f78 (pth 9)) true) (.cond (.tmp 23) (.seq (.region 2 (opsAt Try.f78 (pth 37)) false) .ret) .skip)) (.seq (.region 3 (opsAt Try.f78 (pth 11)) false) .ret)))
theorem F78_body:Try.f78.body=some F78_code:=by kernel_rfl
theorem F78_ok (x0:OA) (x1:List Value) (hp:HP) (K:Kh) (h:F78 x0 x1 hp K):CF Try.prog 78 [(.pointer x0),(.agg ⟨x1⟩)] hp K:=by
 refine .inl ⟨by kernel_rfl,AC.intro (N:=31) Try.func78 F78_body rfl (Nat.le_of_ble_eq_true rfl) ?_⟩
 unfold F78 at h
 refine Ar F78_r0 ?_ (r2 1 0 Rn) (z2 Sn) Sn
 refine fun b1 hb_b_1=>?_
 replace h:=h b1 hb_b_1
 refine Aq (As (fun env pv hp=>∃ x0 x3 x23,Sub (w3 E0 23 (sB x23) 3 (sP x3) 0 (sP x0)) env∧Sub V0 pv∧F78_j1 x0 x3 x23 hp  K) ?_ ?_)
 ·refine AWP.rgnC (cf:=[(11,15)]) (c:=[([true],true,[0,1,2,3,4,5,6,7,8,9,10,11,12,13,14,15,16,17,18]),([false],true,[0,1,2,3,4,5,6,7,8,9,10,12,13,14,15,11,16,17,18])]) (by kernel_rfl) (by kernel_rfl) (by kernel_rfl) (by kernel_rfl) (allO_t (Eq.mpr F78_r3 ?_) (allO_t (Eq.mpr F78_r4 ?_) trivial)) (r2 0 3 Rn) (z2 Sn) Sn
  ·replace h:=h.1
   refine mN h fun b11 o12 h=>mV h fun v13 h=>mI h fun i14 h=>?_
   refine mt h (fun h=>?_) (fun h=>?_)
   ·refine mN h fun b15 o16 h=>mV h fun v17 h=>mB h fun q18 h=>?_
    refine mt h (fun h=>?_) (fun h=>?_)
    ·exact ⟨_,_,_,(z3 Sn),Sn,h⟩
    ·refine mN h fun b19 o20 h=>mL h fun l21 h=>mC h fun u22 h23 h=>mI h fun i24 h=>mN h fun b25 o26 h=>mV h fun v27 h=>mI h fun i28 h=>?_
     exact ⟨_,_,_,(z3 Sn),Sn,h⟩
   ·exact ⟨_,_,_,(z3 Sn),Sn,h⟩
  ·replace h:=h.2
   refine mN h fun b29 o30 h=>mV h fun v31 h=>mI h fun i32 h=>?_
   refine mt h (fun h=>?_) (fun h=>?_)
   ·refine mN h fun b33 o34 h=>mV h fun v35 h=>mB h fun q36 h=>?_
    refine mt h (fun h=>?_) (fun h=>?_)
    ·exact ⟨_,_,_,(z3 Sn),Sn,h⟩
    ·refine mN h fun b37 o38 h=>mL h fun l39 h=>mN h fun b40 o41 h=>mV h fun v42 h=>mI h fun i43 h=>mC h fun u44 h45 h=>mI h fun i46 h=>?_
     exact ⟨_,_,_,(z3 Sn),Sn,h⟩
   ·exact ⟨_,_,_,(z3 Sn),Sn,h⟩
 ·rintro env pv hp ⟨x0,x3,x23,he,hv,h⟩
  refine Ae ?_ (r3 0 3 23 Rn) he hv
  unfold F78_j1 at h
  refine Ac h rfl (fun h=>?_) (fun h=>?_)
  ·refine Ar F78_r1 ?_ Rn Sn Sn
   refine AWP.ret ?_
   exact h
  ·refine AWP.skip (Ar F78_r2 ?_ (r2 0 3 Rn) (z2 Sn) Sn)
   refine mN h fun b2 o3 h=>mV h fun v4 h=>mS h fun a5 n6 c7 h=>mC h fun u8 h9 h=>mB h fun q10 h=>?_
   refine AWP.ret ?_
   exact h
end
section
variable {e E:Env} {x0:OA} {x1:ByteArray} {x14a:OA} {x14n x14c:Nat} {x15 x16:Int} {k5:List Value} {hp:HP} {K:Env→PV→HP→Prop}
abbrev R79 (p n:Nat):=RW Try.prog 55 [5,31,39,47] (opsAt Try.f79 (pth p)) (List.range n)
theorem F79_r0:R79 3 6 (w2 e 1 (sT x1) 0 (sP x0)) V0 hp K=
 ptrN x0 fun b1 o2=>(ldV (HP.cell hp b1 (o2+4)) fun v3=>mapV v3 fun m4=>opS Try.prog (Builtin.delete_ #[128,9] 0 ⟨[(.map m4),(.string x1)]⟩) hp fun u5 h6=>K (w7 e 1 (sT x1) 0 (sP x0) 50 (sP x0) 51 (sQ b1 o2) 52 (sQ b1 (o2+4)) 53 (sV (.map m4)) 54 (sT x1)) V0 h6):= by kernel_rfl
def F79_j1 (x0:OA) (x1:ByteArray) (hp:HP) (K:Kh):Prop:=
  (ptrN x0 fun b1 o2=>ldV (HP.cell hp b1 (o2+4)) fun v3=>mapV v3 fun m4=>opS Try.prog (Builtin.delete_ #[128,9] 0 ⟨[(.map m4),(.string x1)]⟩) hp fun u5 h6=>K (.tuple ⟨[]⟩) h6)
theorem F79_r1:R79 34 1 (w2 e 16 (sI x16) 15 (sI x15)) V0 hp K=
 K (w3 e 16 (sI x16) 15 (sI x15) 17 (sB (decide (x16<x15)))) V0 hp:= by kernel_rfl
theorem F79_r2:R79 242 2 (upd e 16 (sI x16)) V0 hp K=
 K (w3 e 16 (sI x16) 49 (sI ((wr (x16+1)))) 16 (sI ((wr (x16+1))))) V0 hp:= by kernel_rfl
def F79_j4 (x0:OA) (x1:ByteArray) (x14a:OA) (x14n x14c:Nat) (x15 x16:Int) (hp:HP) (I3:(Int)→HP→Prop) (K:Kh):Prop:=
  (I3 (IntKind.wrap .i64 (x16+1)) hp)
theorem F79_r3 (h:E=upd (upd e 16 (sI x16)) 14 (sS x14a x14n x14c)):R79 562 4 E V0 hp K=
    ((0≤x16)∧(x16<x14n)∧(ptrN x14a fun b1 o2=>ldL (HP.cellN hp b1 (o2+Int.toNat x16*6) 6) fun l3=>if List.length l3=6 then (if List.all l3 one=true then (if 0+List.length l3≤List.length [(Value.string ⟨#[]⟩),.string ⟨#[]⟩,.int .i64 0,.bool false,.string ⟨#[]⟩,.string ⟨#[]⟩] then (K (w3 E 18 (sQ b1 (o2+Int.toNat x16*6)) 19 (sA l3) 5 (sR 5 0)) (w2 V0 5 (29,[.string ⟨#[]⟩,.string ⟨#[]⟩,.int .i64 0,.bool false,.string ⟨#[]⟩,.string ⟨#[]⟩]) 5 (29,(splice [.string ⟨#[]⟩,.string ⟨#[]⟩,.int .i64 0,.bool false,.string ⟨#[]⟩,.string ⟨#[]⟩] 0 l3))) hp) else False) else False) else False)):=by subst h; kernel_rfl
theorem F79_r4:R79 1330 8 (upd e 0 (sP x0)) (upd V0 5 (29,k5)) hp K=
 ptrN x0 fun b1 o2=>(ldV (HP.cell hp b1 (o2+3)) fun v3=>intV v3 .i64 fun i4=>ptrN x0 fun b5 o6=>HP.st hp b5 (o6+3) (.int .i64 (wr (i4-1))) fun h7=>K (w8 e 0 (sP x0) 20 (sP x0) 21 (sQ b1 o2) 22 (sQ b1 (o2+3)) 23 (sI i4) 24 (sI ((wr (i4-1)))) 25 (sQ b5 o6) 26 (sQ b5 (o6+3))) (upd V0 5 (29,k5)) h7):= by kernel_rfl
theorem F79_r5:R79 2866 9 (w2 e 5 (sR 5 0) 0 (sP x0)) (upd V0 5 (29,k5)) hp K=
 ptrN x0 fun b1 o2=>(ldV (HP.cell hp b1 (o2+5)) fun v3=>mapV v3 fun m4=>ldV (k5)[1]? fun v5=>strV v5 fun s6=>rdS Try.prog (Instr.lookup 97 (.map m4) (.string s6) false) hp fun u7=>intV u7 .i64 fun i8=>opS Try.prog (Instr.mapUpdate 97 (.map m4) (.string s6) (.int .i64 (wr (i8-1)))) hp fun u9 h10=>K (w2 (w8 e 5 (sR 5 0) 0 (sP x0) 27 (sP x0) 28 (sQ b1 o2) 29 (sQ b1 (o2+5)) 30 (sV (.map m4)) 31 (sR 5 1) 32 (sT s6)) 33 (sI i8) 34 (sI ((wr (i8-1))))) (upd V0 5 (29,k5)) h10):= by kernel_rfl
theorem F79_r6:R79 5938 8 (w2 e 5 (sR 5 0) 0 (sP x0)) (upd V0 5 (29,k5)) hp K=
 ptrN x0 fun b1 o2=>(ldV (HP.cell hp b1 (o2+5)) fun v3=>mapV v3 fun m4=>ldV (k5)[1]? fun v5=>strV v5 fun s6=>rdS Try.prog (Instr.lookup 97 (.map m4) (.string s6) false) hp fun u7=>intV u7 .i64 fun i8=>K (w2 (w8 e 5 (sR 5 0) 0 (sP x0) 35 (sP x0) 36 (sQ b1 o2) 37 (sQ b1 (o2+5)) 38 (sV (.map m4)) 39 (sR 5 1) 40 (sT s6)) 41 (sI i8) 42 (sB ((i8==0)))) (upd V0 5 (29,k5)) hp):= by kernel_rfl
theorem F79_r7:R79 12082 7 (w2 e 5 (sR 5 0) 0 (sP x0)) (upd V0 5 (29,k5)) hp K=
 ptrN x0 fun b1 o2=>(ldV (HP.cell hp b1 (o2+5)) fun v3=>mapV v3 fun m4=>ldV (k5)[1]? fun v5=>strV v5 fun s6=>opS Try.prog (Builtin.delete_ #[97,9] 0 ⟨[(.map m4),(.string s6)]⟩) hp fun u7 h8=>K (w8 e 5 (sR 5 0) 0 (sP x0) 43 (sP x0) 44 (sQ b1 o2) 45 (sQ b1 (o2+5)) 46 (sV (.map m4)) 47 (sR 5 1) 48 (sT s6)) (upd V0 5 (29,k5)) h8):= by kernel_rfl
def F79_l3 (x0:OA) (x1:ByteArray) (x14a:OA) (x14n x14c:Nat) (x15:Int) (K:Kh) (I3:(Int)→HP→Prop) (x16:Int) (hp:HP):Prop:=
  (ite2 (decide (x16<x15)) ((0≤x16)∧(x16<x14n)∧(ptrN x14a fun b7 o8=>ldL (HP.cellN hp b7 (o8+Int.toNat x16*6) 6) fun l9=>if List.length l9=6 then (if List.all l9 one=true then (if 0+List.length l9≤List.length [(Value.string ⟨#[]⟩),.string ⟨#[]⟩,.int .i64 0,.bool false,.string ⟨#[]⟩,.string ⟨#[]⟩] then (ptrN x0 fun b10 o11=>ldV (HP.cell hp b10 (o11+3)) fun v12=>intV v12 .i64 fun i13=>ptrN x0 fun b14 o15=>HP.st hp b14 (o15+3) (.int .i64 (IntKind.wrap .i64 (i13-1))) fun h16=>ptrN x0 fun b17 o18=>ldV (HP.cell h16 b17 (o18+5)) fun v19=>mapV v19 fun m20=>ldV ((splice [.string ⟨#[]⟩,.string ⟨#[]⟩,.int .i64 0,.bool false,.string ⟨#[]⟩,.string ⟨#[]⟩] 0 l9))[1]? fun v21=>strV v21 fun s22=>rdS Try.prog (Instr.lookup 97 (.map m20) (.string s22) false) h16 fun u23=>intV u23 .i64 fun i24=>opS Try.prog (Instr.mapUpdate 97 (.map m20) (.string s22) (.int .i64 (IntKind.wrap .i64 (i24-1)))) h16 fun u25 h26=>ptrN x0 fun b27 o28=>ldV (HP.cell h26 b27 (o28+5)) fun v29=>mapV v29 fun m30=>ldV ((splice [.string ⟨#[]⟩,.string ⟨#[]⟩,.int .i64 0,.bool false,.string ⟨#[]⟩,.string ⟨#[]⟩] 0 l9))[1]? fun v31=>strV v31 fun s32=>rdS Try.prog (Instr.lookup 97 (.map m30) (.string s32) false) h26 fun u33=>intV u33 .i64 fun i34=>ite2 (i34==0) (ptrN x0 fun b35 o36=>ldV (HP.cell h26 b35 (o36+5)) fun v37=>mapV v37 fun m38=>ldV ((splice [.string ⟨#[]⟩,.string ⟨#[]⟩,.int .i64 0,.bool false,.string ⟨#[]⟩,.string ⟨#[]⟩] 0 l9))[1]? fun v39=>strV v39 fun s40=>opS Try.prog (Builtin.delete_ #[97,9] 0 ⟨[(.map m38),(.string s40)]⟩) h26 fun u41 h42=>F79_j4 x0 x1 x14a x14n x14c x15 x16 h42 I3 K) (F79_j4 x0 x1 x14a x14n x14c x15 x16 h26 I3 K)) else False) else False) else False)) (F79_j1 x0 x1 hp  K))
def F79_j2 (x0:OA) (x1:ByteArray) (x14a:OA) (x14n x14c:Nat) (x15 x16:Int) (hp:HP) (K:Kh):Prop:=
  (LoopP (σ:=Int) (fun I s hp=>F79_l3 x0 x1 x14a x14n x14c x15  K I s hp) x16 hp)
theorem F79_r8:R79 4 11 (w2 e 1 (sT x1) 0 (sP x0)) V0 hp K=
 ptrN x0 fun b1 o2=>(ldV (HP.cell hp b1 (o2+4)) fun v3=>mapV v3 fun m4=>rdS Try.prog (Instr.lookup 128 (.map m4) (.string x1) false) hp fun u5=>ptrV u5 fun p6=>ptrN p6 fun b7 o8=>ldV (HP.cell hp b7 (o8+3)) fun v9=>slcV v9 fun a10 n11 c12=>K (w5 (w8 e 1 (sT x1) 0 (sP x0) 6 (sP x0) 7 (sQ b1 o2) 8 (sQ b1 (o2+4)) 9 (sV (.map m4)) 10 (sT x1) 11 (sP p6)) 12 (sQ b7 o8) 13 (sQ b7 (o8+3)) 14 (sS a10 n11 c12) 15 (sI ((n11:Nat))) 16 (sI 0)) V0 hp):= by kernel_rfl
def F79 (x0:OA) (x1:ByteArray) (hp:HP) (K:Kh):Prop:=
  (ptrN x0 fun b43 o44=>ldV (HP.cell hp b43 (o44+4)) fun v45=>mapV v45 fun m46=>rdS Try.prog (Instr.lookup 128 (.map m46) (.string x1) false) hp fun u47=>ptrV u47 fun p48=>ptrN p48 fun b49 o50=>ldV (HP.cell hp b49 (o50+3)) fun v51=>slcV v51 fun a52 n53 c54=>F79_j2 x0 x1 a52 n53 c54 (n53:Nat) 0 hp  K)
noncomputable abbrev o79 (k n:Nat):Code:=.region k (opsAt Try.f79 (pth n)) false
noncomputable def F79_code:Code:=(.seq (.seq (o79 0 4) (.block 0 (.loop (.seq (o79 1 34) (.seq (.cond (.tmp 17) .skip (.exit 0)) (.seq (.block 1 (.seq (o79 2 562) (.seq (o79 3 1330) (.seq (.region 4 (opsAt Try.f79 (pth 2866)) true) (.seq (.region 5 (opsAt Try.f79 (pth 5938)) true) (.cond (.tmp 42) (.region 6 (opsAt Try.f79 (pth 12082)) true) .skip)))))) (o79 7 242))))))) (o79 8 3))
theorem F79_body:Try.f79.body=some F79_code:=by kernel_rfl
theorem F79_ok (x0:OA) (x1:ByteArray) (hp:HP) (K:Kh) (h:F79 x0 x1 hp K):CF Try.prog 79 [(.pointer x0),(.string x1)] hp K:=by
 refine .inl ⟨by kernel_rfl,AC.intro (N:=55) Try.func79 F79_body rfl (Nat.le_of_ble_eq_true rfl) ?_⟩
 unfold F79 at h
 refine As (fun env pv hp=>∃ x0 x1,Sub (w2 E0 1 (sT x1) 0 (sP x0)) env∧Sub V0 pv∧F79_j1 x0 x1 hp  K) ?_ ?_
 ·refine As (fun env pv hp=>∃ x0 x1 x14a x14n x14c x15 x16,Sub (w5 E0 16 (sI x16) 15 (sI x15) 14 (sS x14a x14n x14c) 1 (sT x1) 0 (sP x0)) env∧Sub V0 pv∧F79_j2 x0 x1 x14a x14n x14c x15 x16 hp  K) ?_ ?_
  ·refine Ag F79_r8 ?_ (r2 0 1 Rn) (z2 Sn) Sn
   refine mN h fun b43 o44 h=>mV h fun v45 h=>mM h fun m46 h=>mR h fun u47 h=>mP h fun p48 h=>mN h fun b49 o50 h=>mV h fun v51 h=>mS h fun a52 n53 c54 h=>?_
   exact ⟨_,_,_,_,_,_,_,(z5 Sn),Sn,h⟩
  ·rintro env pv hp ⟨x0,x1,x14a,x14n,x14c,x15,x16,he,hv,h⟩
   refine Ae ?_ (r5 0 1 14 15 16 Rn) he hv
   unfold F79_j2 at h
   refine AWP.block (AWP.loop (σ:=Int) _ (fun s=>w5 E0 16 (sI s) 15 (sI x15) 14 (sS x14a x14n x14c) 1 (sT x1) 0 (sP x0)) (fun s=>V0) x16 h (fun s=>r5 0 1 14 15 16 Rn) (z5 Sn) Sn ?_)
   intro I3 x16 hp h
   replace h:F79_l3 x0 x1 x14a x14n x14c x15  K I3 x16 hp:=h
   unfold F79_l3 at h
   refine Ar F79_r1 ?_ (r5 15 16 0 1 14 Rn) (z5 Sn) Sn
   refine Aq (Ac h rfl (fun h=>?_) (fun h=>?_))
   ·refine AWP.skip (As (fun env pv hp=>∃ x16,Sub (w5 E0 16 (sI x16) 15 (sI x15) 14 (sS x14a x14n x14c) 1 (sT x1) 0 (sP x0)) env∧Sub V0 pv∧F79_j4 x0 x1 x14a x14n x14c x15 x16 hp I3 K) ?_ ?_)
    ·refine AWP.block (Ar (F79_r3 rfl) ?_ (r5 14 16 0 1 15 Rn) (z5 Sn) Sn)
     refine ⟨h.1,h.2.1,mN h.2.2 fun b7 o8 h=>mL h fun l9 h=>mf h fun h=>mf h fun h=>mf h fun h=>?_⟩
     refine Ar F79_r4 ?_ (r2 0 1 (rp 5 5 0 (r3 14 15 16 Rn))) (z6 Sn) (z1 Sn)
     refine mN h fun b10 o11 h=>mV h fun v12 h=>mI h fun i13 h=>mN h fun b14 o15 h=>mw h fun h16 h=>?_
     refine Aq (AWP.rgnD (by kernel_rfl) (by kernel_rfl) F79_r5 ?_ (r1 0 (rp 5 5 0 (r4 1 14 15 16 Rn))) (z6 Sn) (z1 Sn))
     refine mN h fun b17 o18 h=>mV h fun v19 h=>mM h fun m20 h=>mV h fun v21 h=>ms h fun s22 h=>mR h fun u23 h=>mI h fun i24 h=>mO h fun u25 h26 h=>?_
     refine Aq (AWP.rgnD (by kernel_rfl) (by kernel_rfl) F79_r6 ?_ (r1 0 (rp 5 5 0 (r4 1 14 15 16 Rn))) (z6 Sn) (z1 Sn))
     refine mN h fun b27 o28 h=>mV h fun v29 h=>mM h fun m30 h=>mV h fun v31 h=>ms h fun s32 h=>mR h fun u33 h=>mI h fun i34 h=>?_
     refine Ac h rfl (fun h=>?_) (fun h=>?_)
     ·refine AWP.rgnD (by kernel_rfl) (by kernel_rfl) F79_r7 ?_ (r1 0 (rp 5 5 0 (r4 1 14 15 16 Rn))) (z6 Sn) (z1 Sn)
      refine mN h fun b35 o36 h=>mV h fun v37 h=>mM h fun m38 h=>mV h fun v39 h=>ms h fun s40 h=>mO h fun u41 h42 h=>?_
      exact ⟨_,(z5 Sn),Sn,h⟩
     ·refine AWP.skip ?_
      exact ⟨_,(z5 Sn),Sn,h⟩
    ·rintro env pv hp ⟨x16,he,hv,h⟩
     refine Ae ?_ (r5 0 1 14 15 16 Rn) he hv
     unfold F79_j4 at h
     refine Ag F79_r2 ?_ (r5 16 0 1 14 15 Rn) (z5 Sn) Sn
     exact ⟨_,(z5 Sn),Sn,h⟩
   ·refine AWP.exit ?_
    exact ⟨_,_,(z2 Sn),Sn,h⟩
 ·rintro env pv hp ⟨x0,x1,he,hv,h⟩
  refine Ae ?_ (r2 0 1 Rn) he hv
  unfold F79_j1 at h
  refine Ag F79_r0 ?_ (r2 0 1 Rn) (z2 Sn) Sn
  refine mN h fun b1 o2 h=>mV h fun v3 h=>mM h fun m4 h=>mO h fun u5 h6 h=>?_
  exact h
end
section
variable {e E:Env} {x0:OA} {x1:List Value} {x2:Int} {x6:OA} {x7:Bool} {k4:List Value} {hp:HP} {K:Env→PV→HP→Prop}
abbrev R80 (p n:Nat):=RW Try.prog 74 [4,13,38,51,70] (opsAt Try.f80 (pth p)) (List.range n)
theorem F80_r0:R80 2 1 (upd e 1 (sA x1)) V0 hp K=
 K (w2 e 1 (sA x1) 4 (sR 4 0)) (upd V0 4 (29,x1)) hp:= by kernel_rfl
theorem F80_r1:R80 5 12 (w2 e 4 (sR 4 0) 0 (sP x0)) (upd V0 4 (29,k4)) hp K=
 ptrN x0 fun b1 o2=>(ldV (HP.cell hp b1 (o2+4)) fun v3=>mapV v3 fun m4=>ldV (k4)[0]? fun v5=>strV v5 fun s6=>rdS Try.prog (Instr.lookup 128 (.map m4) (.string s6) true) hp fun u7=>tup2V u7 fun u8 u9=>ptrV u8 fun p10=>boolV u9 fun q11=>K (w6 (w8 e 4 (sR 4 0) 0 (sP x0) 9 (sP x0) 10 (sQ b1 o2) 11 (sQ b1 (o2+4)) 12 (sV (.map m4)) 13 (sR 4 0) 14 (sT s6)) 15 (sV (.tuple ⟨[(.pointer p10),(.bool q11)]⟩)) 8 (sV (.tuple ⟨[(.pointer p10),(.bool q11)]⟩)) 16 (sP p10) 17 (sB q11) 6 (sP p10) 7 (sB q11)) (upd V0 4 (29,k4)) hp):= by kernel_rfl
theorem F80_r2:R80 95 8 (upd e 0 (sP x0)) (upd V0 4 (29,k4)) hp K=
 ptrN x0 fun b1 o2=>(ldV (HP.cell hp b1 (o2+3)) fun v3=>intV v3 .i64 fun i4=>ptrN x0 fun b5 o6=>HP.st hp b5 (o6+3) (.int .i64 (wr (i4+1))) fun h7=>K (w8 e 0 (sP x0) 59 (sP x0) 60 (sQ b1 o2) 61 (sQ b1 (o2+3)) 62 (sI i4) 63 (sI ((wr (i4+1)))) 64 (sQ b5 o6) 65 (sQ b5 (o6+3))) (upd V0 4 (29,k4)) h7):= by kernel_rfl
theorem F80_r3:R80 127 9 (w2 e 4 (sR 4 0) 0 (sP x0)) (upd V0 4 (29,k4)) hp K=
 ptrN x0 fun b1 o2=>(ldV (HP.cell hp b1 (o2+5)) fun v3=>mapV v3 fun m4=>ldV (k4)[1]? fun v5=>strV v5 fun s6=>rdS Try.prog (Instr.lookup 97 (.map m4) (.string s6) false) hp fun u7=>intV u7 .i64 fun i8=>opS Try.prog (Instr.mapUpdate 97 (.map m4) (.string s6) (.int .i64 (wr (i8+1)))) hp fun u9 h10=>K (w2 (w8 e 4 (sR 4 0) 0 (sP x0) 66 (sP x0) 67 (sQ b1 o2) 68 (sQ b1 (o2+5)) 69 (sV (.map m4)) 70 (sR 4 1) 71 (sT s6)) 72 (sI i8) 73 (sI ((wr (i8+1))))) (upd V0 4 (29,k4)) h10):= by kernel_rfl
def F80_j3 (x0:OA) (k4:List Value) (hp:HP) (K:Kh):Prop:=
  (ptrN x0 fun b12 o13=>ldV (HP.cell hp b12 (o13+3)) fun v14=>intV v14 .i64 fun i15=>ptrN x0 fun b16 o17=>HP.st hp b16 (o17+3) (.int .i64 (IntKind.wrap .i64 (i15+1))) fun h18=>ptrN x0 fun b19 o20=>ldV (HP.cell h18 b19 (o20+5)) fun v21=>mapV v21 fun m22=>ldV (k4)[1]? fun v23=>strV v23 fun s24=>rdS Try.prog (Instr.lookup 97 (.map m22) (.string s24) false) h18 fun u25=>intV u25 .i64 fun i26=>opS Try.prog (Instr.mapUpdate 97 (.map m22) (.string s24) (.int .i64 (IntKind.wrap .i64 (i26+1)))) h18 fun u27 h28=>K (.tuple ⟨[]⟩) h28)
theorem F80_r4:R80 79 3 (upd e 4 (sR 4 0)) (upd V0 4 (29,k4)) hp K=
 ldV (k4)[3]? fun v1=>(boolV v1 fun q2=>K (w4 e 4 (sR 4 0) 51 (sR 4 3) 52 (sB q2) 53 (sB ((!q2)))) (upd V0 4 (29,k4)) hp):= by kernel_rfl
theorem F80_r5:R80 175 6 (w2 e 6 (sP x6) 4 (sR 4 0)) (upd V0 4 (29,k4)) hp K=
 ldL (cellsN k4 0 6) fun l1=>(CF Try.prog 122 [(.agg ⟨l1⟩)] hp fun u2 h3=>intV u2 .i64 fun i4=>ptrN x6 fun b5 o6=>HP.st h3 b5 (o6+2) (.int .i64 i4) fun h7=>K (w7 e 6 (sP x6) 4 (sR 4 0) 54 (sP x6) 55 (sA l1) 56 (sI i4) 57 (sQ b5 o6) 58 (sQ b5 (o6+2))) (upd V0 4 (29,k4)) h7):= by kernel_rfl
def F80_j2 (x0 x6:OA) (k4:List Value) (hp:HP) (K:Kh):Prop:=
  (ldV (k4)[3]? fun v29=>boolV v29 fun q30=>ite2 (!q30) (ldL (cellsN k4 0 6) fun l31=>CF Try.prog 122 [(.agg ⟨l31⟩)] hp fun u32 h33=>intV u32 .i64 fun i34=>ptrN x6 fun b35 o36=>HP.st h33 b35 (o36+2) (.int .i64 i34) fun h37=>F80_j3 x0 k4 h37  K) (F80_j3 x0 k4 hp  K))
theorem F80_r6 {e:Env} {x6:OA} {k4:List Value} {hp:HP} {K:Env→PV→HP→Prop}:RW Try.prog 74 [4,13,38,51,70] (opsAt Try.f80 (pth 23)) [0,1,2,3,4,5,6,7,8,9,10] (w2 e 6 (sP x6) 4 (sR 4 0)) (upd V0 4 (29,k4)) hp K=
 ptrN x6 fun b1 o2=>(ldV (HP.cell hp b1 (o2+3)) fun v3=>slcV v3 fun a4 n5 c6=>ldL (cellsN k4 0 6) fun l7=>if List.length l7=6 then (∀ b8:Nat,hp b8=.none→(opS Try.prog (Builtin.append_ #[26,26] 26 ⟨[(.slice a4 n5 c6),(.slice (some ⟨b8,0,none⟩) 1 1)]⟩) (HP.set hp b8 (.cells 29 (splice [.string ⟨#[]⟩,.string ⟨#[]⟩,.int .i64 0,.bool false,.string ⟨#[]⟩,.string ⟨#[]⟩] 0 l7) 0)) fun u9 h10=>slcV u9 fun a11 n12 c13=>ptrN x6 fun b14 o15=>HP.st h10 b14 (o15+3) (.slice a11 n12 c13) fun h16=>K (w4 (w8 e 6 (sP x6) 4 (sR 4 0) 41 (sP x6) 42 (sP x6) 43 (sQ b1 o2) 44 (sQ b1 (o2+3)) 45 (sS a4 n5 c6) 46 (sA l7)) 47 (sV (.slice (some ⟨b8,0,none⟩) 1 1)) 48 (sS a11 n12 c13) 49 (sQ b14 o15) 50 (sQ b14 (o15+3))) (upd V0 4 (29,k4)) h16)) else False):= by kernel_rfl
theorem F80_r7 {e:Env} {x6:OA} {k4:List Value} {hp:HP} {K:Env→PV→HP→Prop}:RW Try.prog 74 [4,13,38,51,70] (opsAt Try.f80 (pth 23)) [0,1,2,3,5,6,4,7,8,9,10] (w2 e 6 (sP x6) 4 (sR 4 0)) (upd V0 4 (29,k4)) hp K=
 ptrN x6 fun b1 o2=>(ldL (cellsN k4 0 6) fun l3=>if List.length l3=6 then (∀ b4:Nat,hp b4=.none→(ldV (HP.cell (HP.set hp b4 (.cells 29 (splice [.string ⟨#[]⟩,.string ⟨#[]⟩,.int .i64 0,.bool false,.string ⟨#[]⟩,.string ⟨#[]⟩] 0 l3) 0)) b1 (o2+3)) fun v5=>slcV v5 fun a6 n7 c8=>opS Try.prog (Builtin.append_ #[26,26] 26 ⟨[(.slice a6 n7 c8),(.slice (some ⟨b4,0,none⟩) 1 1)]⟩) (HP.set hp b4 (.cells 29 (splice [.string ⟨#[]⟩,.string ⟨#[]⟩,.int .i64 0,.bool false,.string ⟨#[]⟩,.string ⟨#[]⟩] 0 l3) 0)) fun u9 h10=>slcV u9 fun a11 n12 c13=>ptrN x6 fun b14 o15=>HP.st h10 b14 (o15+3) (.slice a11 n12 c13) fun h16=>K (w4 (w8 e 6 (sP x6) 4 (sR 4 0) 41 (sP x6) 42 (sP x6) 43 (sQ b1 o2) 44 (sQ b1 (o2+3)) 46 (sA l3) 47 (sV (.slice (some ⟨b4,0,none⟩) 1 1))) 45 (sS a6 n7 c8) 48 (sS a11 n12 c13) 49 (sQ b14 o15) 50 (sQ b14 (o15+3))) (upd V0 4 (29,k4)) h16)) else False):= by kernel_rfl
def F80_j1 (x0 x6:OA) (k4:List Value) (hp:HP) (K:Kh):Prop:=
  ((ptrN x6 fun b38 o39=>ldV (HP.cell hp b38 (o39+3)) fun v40=>slcV v40 fun a41 n42 c43=>ldL (cellsN k4 0 6) fun l44=>if List.length l44=6 then (∀ b45:Nat,hp b45=.none→(opS Try.prog (Builtin.append_ #[26,26] 26 ⟨[(.slice a41 n42 c43),(.slice (some ⟨b45,0,none⟩) 1 1)]⟩) (HP.set hp b45 (.cells 29 (splice [.string ⟨#[]⟩,.string ⟨#[]⟩,.int .i64 0,.bool false,.string ⟨#[]⟩,.string ⟨#[]⟩] 0 l44) 0)) fun u46 h47=>slcV u46 fun a48 n49 c50=>ptrN x6 fun b51 o52=>HP.st h47 b51 (o52+3) (.slice a48 n49 c50) fun h53=>F80_j2 x0 x6 k4 h53  K)) else False)∧(ptrN x6 fun b54 o55=>ldL (cellsN k4 0 6) fun l56=>if List.length l56=6 then (∀ b57:Nat,hp b57=.none→(ldV (HP.cell (HP.set hp b57 (.cells 29 (splice [.string ⟨#[]⟩,.string ⟨#[]⟩,.int .i64 0,.bool false,.string ⟨#[]⟩,.string ⟨#[]⟩] 0 l56) 0)) b54 (o55+3)) fun v58=>slcV v58 fun a59 n60 c61=>opS Try.prog (Builtin.append_ #[26,26] 26 ⟨[(.slice a59 n60 c61),(.slice (some ⟨b57,0,none⟩) 1 1)]⟩) (HP.set hp b57 (.cells 29 (splice [.string ⟨#[]⟩,.string ⟨#[]⟩,.int .i64 0,.bool false,.string ⟨#[]⟩,.string ⟨#[]⟩] 0 l56) 0)) fun u62 h63=>slcV u62 fun a64 n65 c66=>ptrN x6 fun b67 o68=>HP.st h63 b67 (o68+3) (.slice a64 n65 c66) fun h69=>F80_j2 x0 x6 k4 h69  K)) else False))
theorem F80_r8:R80 19 2 (upd e 7 (sB x7)) (upd V0 4 (29,k4)) hp K=
 K (w3 e 7 (sB x7) 18 (sB x7) 19 (sB ((!x7)))) (upd V0 4 (29,k4)) hp:= by kernel_rfl
theorem F80_r9:R80 75 8 (upd e 0 (sP x0)) (upd V0 4 (29,k4)) hp K=
 ptrN x0 fun b1 o2=>(ldV (HP.cell hp b1 (o2+2)) fun v3=>intV v3 .i64 fun i4=>ptrN x0 fun b5 o6=>HP.st hp b5 (o6+2) (.int .i64 (wr (i4+1))) fun h7=>K (w8 e 0 (sP x0) 20 (sP x0) 21 (sQ b1 o2) 22 (sQ b1 (o2+2)) 23 (sI i4) 24 (sI ((wr (i4+1)))) 25 (sQ b5 o6) 26 (sQ b5 (o6+2))) (upd V0 4 (29,k4)) h7):= by kernel_rfl
theorem F80_r10:R80 171 8 (w2 e 2 (sI x2) 0 (sP x0)) (upd V0 4 (29,k4)) hp K=
 ptrN x0 fun b1 o2=>(ldV (HP.cell hp b1 (o2+2)) fun v3=>intV v3 .i64 fun i4=>∀ b5:Nat,hp b5=.none→(K (w2 (w8 e 2 (sI x2) 0 (sP x0) 27 (sP x0) 28 (sQ b1 o2) 29 (sQ b1 (o2+2)) 30 (sI i4) 31 (sI x2) 32 (sV (.agg ⟨[(.int .i64 i4),(.int .i64 x2),(.int .i64 (-1)),(.slice none 0 0)]⟩))) 33 (sQ b5 0) 6 (sQ b5 0)) (upd V0 4 (29,k4)) (HP.set hp b5 (.cells 135 [(.int .i64 i4),(.int .i64 x2),(.int .i64 (-1)),(.slice none 0 0)] 0)))):= by kernel_rfl
theorem F80_r11 (h:E=upd (w2 e 6 (sP x6) 4 (sR 4 0)) 0 (sP x0)):R80 235 8 E (upd V0 4 (29,k4)) hp K=
 ptrN x0 fun b1 o2=>(ldV (HP.cell hp b1 (o2+4)) fun v3=>mapV v3 fun m4=>ldV (k4)[0]? fun v5=>strV v5 fun s6=>opS Try.prog (Instr.mapUpdate 128 (.map m4) (.string s6) (.pointer x6)) hp fun u7 h8=>K (w7 E 34 (sP x0) 35 (sQ b1 o2) 36 (sQ b1 (o2+4)) 37 (sV (.map m4)) 38 (sR 4 0) 39 (sT s6) 40 (sP x6)) (upd V0 4 (29,k4)) h8):= by subst h; kernel_rfl
def F80 (x0:OA) (x1:List Value) (x2:Int) (hp:HP) (K:Kh):Prop:=
  (ptrN x0 fun b1 o2=>ldV (HP.cell hp b1 (o2+4)) fun v3=>mapV v3 fun m4=>ldV (x1)[0]? fun v5=>strV v5 fun s6=>rdS Try.prog (Instr.lookup 128 (.map m4) (.string s6) true) hp fun u7=>tup2V u7 fun u8 u9=>ptrV u8 fun p10=>boolV u9 fun q11=>ite2 (!q11) (ptrN x0 fun b70 o71=>ldV (HP.cell hp b70 (o71+2)) fun v72=>intV v72 .i64 fun i73=>ptrN x0 fun b74 o75=>HP.st hp b74 (o75+2) (.int .i64 (IntKind.wrap .i64 (i73+1))) fun h76=>ptrN x0 fun b77 o78=>ldV (HP.cell h76 b77 (o78+2)) fun v79=>intV v79 .i64 fun i80=>∀ b81:Nat,h76 b81=.none→(ptrN x0 fun b82 o83=>ldV (HP.cell (HP.set h76 b81 (.cells 135 [(.int .i64 i80),(.int .i64 x2),(.int .i64 (-1)),(.slice none 0 0)] 0)) b82 (o83+4)) fun v84=>mapV v84 fun m85=>ldV (x1)[0]? fun v86=>strV v86 fun s87=>opS Try.prog (Instr.mapUpdate 128 (.map m85) (.string s87) (.pointer (some ⟨b81,0,none⟩))) (HP.set h76 b81 (.cells 135 [(.int .i64 i80),(.int .i64 x2),(.int .i64 (-1)),(.slice none 0 0)] 0)) fun u88 h89=>F80_j1 x0 (some ⟨b81,0,none⟩) x1 h89  K)) (F80_j1 x0 p10 x1 hp  K))
noncomputable abbrev o80 (k n:Nat):Code:=.region k (opsAt Try.f80 (pth n)) false
noncomputable def F80_code:Code:=(.seq (o80 0 2) (.seq (.region 1 (opsAt Try.f80 (pth 5)) true) (.seq (.seq (o80 2 19) (.cond (.tmp 19) (.seq (o80 3 75) (.seq (o80 4 171) (.region 5 (opsAt Try.f80 (pth 235)) true))) .skip)) (.seq (.region 6 (opsAt Try.f80 (pth 23)) true) (.seq (.seq (o80 7 79) (.cond (.tmp 53) (o80 8 175) .skip)) (.seq (o80 9 95) (.region 10 (opsAt Try.f80 (pth 127)) true)))))))
theorem F80_body:Try.f80.body=some F80_code:=by kernel_rfl
theorem F80_ok (x0:OA) (x1:List Value) (x2:Int) (hp:HP) (K:Kh) (h:F80 x0 x1 x2 hp K):CF Try.prog 80 [(.pointer x0),(.agg ⟨x1⟩),(.int .i64 x2)] hp K:=by
 refine .inl ⟨by kernel_rfl,AC.intro (N:=74) Try.func80 F80_body rfl (Nat.le_of_ble_eq_true rfl) ?_⟩
 unfold F80 at h
 refine Ar F80_r0 ?_ (r3 1 0 2 Rn) (z3 Sn) Sn
 refine Aq (AWP.rgnD (by kernel_rfl) (by kernel_rfl) F80_r1 ?_ (r1 0 (rp 4 4 0 (r1 2 Rn))) (z3 Sn) (z1 Sn))
 refine mN h fun b1 o2 h=>mV h fun v3 h=>mM h fun m4 h=>mV h fun v5 h=>ms h fun s6 h=>mR h fun u7 h=>mT h fun u8 u9 h=>mP h fun p10 h=>mB h fun q11 h=>?_
 refine As (fun env pv hp=>∃ x0 x6 k4,Sub (w3 E0 6 (sP x6) 4 (sR 4 0) 0 (sP x0)) env∧Sub (upd V0 4 (29,k4)) pv∧(F80_j1 x0 x6 k4 hp  K)) ?_ ?_
 ·refine Ar F80_r8 ?_ (r3 7 0 2 (rp 4 4 0 (r1 6 Rn))) (z5 Sn) (z1 Sn)
  refine Ac h rfl (fun h=>?_) (fun h=>?_)
  ·refine Ar F80_r9 ?_ (r2 0 2 (rp 4 4 0 Rn)) (z3 Sn) (z1 Sn)
   refine mN h fun b70 o71 h=>mV h fun v72 h=>mI h fun i73 h=>mN h fun b74 o75 h=>mw h fun h76 h=>?_
   refine Ar F80_r10 ?_ (r2 0 2 (rp 4 4 0 Rn)) (z3 Sn) (z1 Sn)
   refine mN h fun b77 o78 h=>mV h fun v79 h=>mI h fun i80 h=>?_
   refine fun b81 hb_b_81=>?_
   replace h:=h b81 hb_b_81
   refine AWP.rgnD (by kernel_rfl) (by kernel_rfl) (F80_r11 rfl) ?_ (r1 0 (rp 4 4 0 (r1 6 Rn))) (z3 Sn) (z1 Sn)
   refine mN h fun b82 o83 h=>mV h fun v84 h=>mM h fun m85 h=>mV h fun v86 h=>ms h fun s87 h=>mO h fun u88 h89 h=>?_
   exact ⟨_,_,_,(z3 Sn),(z1 Sn),h⟩
  ·refine AWP.skip ?_
   exact ⟨_,_,_,(z3 Sn),(z1 Sn),h⟩
 ·rintro env pv hp ⟨x0,x6,k4,he,hv,h⟩
  refine Ae ?_ (r1 0 (rp 4 4 0 (r1 6 Rn))) he hv
  unfold F80_j1 at h
  refine As (fun env pv hp=>∃ x0 x6 k4,Sub (w3 E0 6 (sP x6) 4 (sR 4 0) 0 (sP x0)) env∧Sub (upd V0 4 (29,k4)) pv∧(F80_j2 x0 x6 k4 hp  K)) ?_ ?_
  ·refine AWP.rgnC (cf:=[(4,6)]) (c:=[([true],true,[0,1,2,3,4,5,6,7,8,9,10]),([false],true,[0,1,2,3,5,6,4,7,8,9,10])]) (by kernel_rfl) (by kernel_rfl) (by kernel_rfl) (by kernel_rfl) (allO_t (Eq.mpr F80_r6 ?_) (allO_t (Eq.mpr F80_r7 ?_) trivial)) (rp 4 4 0 (r2 6 0 Rn)) (z3 Sn) (z1 Sn)
   ·replace h:=h.1
    refine mN h fun b38 o39 h=>mV h fun v40 h=>mS h fun a41 n42 c43 h=>mL h fun l44 h=>mf h fun h=>?_
    refine fun b45 hb_b_45=>?_
    replace h:=h b45 hb_b_45
    refine mO h fun u46 h47 h=>mS h fun a48 n49 c50 h=>mN h fun b51 o52 h=>mw h fun h53 h=>?_
    exact ⟨_,_,_,(z3 Sn),(z1 Sn),h⟩
   ·replace h:=h.2
    refine mN h fun b54 o55 h=>mL h fun l56 h=>mf h fun h=>?_
    refine fun b57 hb_b_57=>?_
    replace h:=h b57 hb_b_57
    refine mV h fun v58 h=>mS h fun a59 n60 c61 h=>mO h fun u62 h63 h=>mS h fun a64 n65 c66 h=>mN h fun b67 o68 h=>mw h fun h69 h=>?_
    exact ⟨_,_,_,(z3 Sn),(z1 Sn),h⟩
  ·rintro env pv hp ⟨x0,x6,k4,he,hv,h⟩
   refine Ae ?_ (r1 0 (rp 4 4 0 (r1 6 Rn))) he hv
   unfold F80_j2 at h
   refine As (fun env pv hp=>∃ x0 k4,Sub (w2 E0 4 (sR 4 0) 0 (sP x0)) env∧Sub (upd V0 4 (29,k4)) pv∧(F80_j3 x0 k4 hp  K)) ?_ ?_
   ·refine Ar F80_r4 ?_ (rp 4 4 0 (r2 0 6 Rn)) (z3 Sn) (z1 Sn)
    refine mV h fun v29 h=>mB h fun q30 h=>?_
    refine Ac h rfl (fun h=>?_) (fun h=>?_)
    ·refine Ag F80_r5 ?_ (rp 4 4 0 (r2 6 0 Rn)) (z3 Sn) (z1 Sn)
     refine mL h fun l31 h=>mC h fun u32 h33 h=>mI h fun i34 h=>mN h fun b35 o36 h=>mw h fun h37 h=>?_
     exact ⟨_,_,(z2 Sn),(z1 Sn),h⟩
    ·refine AWP.skip ?_
     exact ⟨_,_,(z2 Sn),(z1 Sn),h⟩
   ·rintro env pv hp ⟨x0,k4,he,hv,h⟩
    refine Ae ?_ (r1 0 (rp 4 4 0 Rn)) he hv
    unfold F80_j3 at h
    refine Ar F80_r2 ?_ (r1 0 (rp 4 4 0 Rn)) (z2 Sn) (z1 Sn)
    refine mN h fun b12 o13 h=>mV h fun v14 h=>mI h fun i15 h=>mN h fun b16 o17 h=>mw h fun h18 h=>?_
    refine AWP.rgnD (by kernel_rfl) (by kernel_rfl) F80_r3 ?_ (r1 0 (rp 4 4 0 Rn)) (z2 Sn) (z1 Sn)
    refine mN h fun b19 o20 h=>mV h fun v21 h=>mM h fun m22 h=>mV h fun v23 h=>ms h fun s24 h=>mR h fun u25 h=>mI h fun i26 h=>mO h fun u27 h28 h=>?_
    exact h
end
section
variable {e E:Env} {x0 x32a:OA} {x32n x32c:Nat} {x33 x34:Int} {k4 k6 k8:List Value} {hp:HP} {K:Env→PV→HP→Prop}
abbrev R81 (p n:Nat):=RW Try.prog 62 [4,6,8,38,40,45,47,50,52] (opsAt Try.f81 (pth p)) (List.range n)
theorem F81_r0:R81 2 2 e V0 hp K=
 K (w2 e 4 (sR 4 0) 5 (sB false)) (upd V0 4 (36,[.string ⟨#[]⟩,.string ⟨#[]⟩,.string ⟨#[]⟩,.int .i64 0])) hp:= by kernel_rfl
theorem F81_r1:R81 9 5 (upd e 0 (sP x0)) (upd V0 4 (36,k4)) hp K=
 ptrN x0 fun b1 o2=>(ldV (HP.cell hp b1 (o2+2)) fun v3=>intV v3 .i64 fun i4=>K (w6 e 0 (sP x0) 9 (sP x0) 10 (sQ b1 o2) 11 (sQ b1 (o2+2)) 12 (sI i4) 13 (sB (decide (i4<0)))) (upd V0 4 (36,k4)) hp):= by kernel_rfl
theorem F81_r2:R81 37 3 (upd e 4 (sR 4 0)) (upd V0 4 (36,k4)) hp K=
    (if List.length [(Value.string ⟨#[]⟩),.string ⟨#[]⟩,.string ⟨#[]⟩,.int .i64 0]=4 then (if List.all [(Value.string ⟨#[]⟩),.string ⟨#[]⟩,.string ⟨#[]⟩,.int .i64 0] one=true then (if 0+List.length [(Value.string ⟨#[]⟩),.string ⟨#[]⟩,.string ⟨#[]⟩,.int .i64 0]≤List.length k4 then (K (w3 e 4 (sR 4 0) 14 (sV (.agg ⟨[.string ⟨#[]⟩,.string ⟨#[]⟩,.string ⟨#[]⟩,.int .i64 0]⟩)) 5 (sB false)) (w2 V0 4 (36,k4) 4 (36,(splice k4 0 [.string ⟨#[]⟩,.string ⟨#[]⟩,.string ⟨#[]⟩,.int .i64 0]))) hp) else False) else False) else False):=by kernel_rfl
theorem F81_r3:R81 23 5 (upd e 0 (sP x0)) (w2 V0 6 (36,k6) 4 (36,k4)) hp K=
 ptrN x0 fun b1 o2=>(ldV (HP.cell hp b1 (o2+3)) fun v3=>slcV v3 fun a4 n5 c6=>CF Try.prog 124 [(.slice a4 n5 c6),(.func (.func 125) ⟨[]⟩ ⟨[]⟩)] hp fun u7 h8=>K (w6 e 0 (sP x0) 24 (sP x0) 25 (sQ b1 o2) 26 (sQ b1 (o2+3)) 27 (sS a4 n5 c6) 28 (sV u7)) (w2 V0 6 (36,k6) 4 (36,k4)) h8):= by kernel_rfl
theorem F81_r4:R81 159 8 (w2 e 6 (sR 6 0) 0 (sP x0)) (w2 V0 6 (36,k6) 4 (36,k4)) hp K=
 ldV (k6)[2]? fun v1=>(strV v1 fun s2=>ptrN x0 fun b3 o4=>ldV (HP.cell hp b3 (o4+2)) fun v5=>intV v5 .i64 fun i6=>K (w2 (w8 e 6 (sR 6 0) 0 (sP x0) 52 (sR 6 2) 53 (sT s2) 54 (sI ((ByteArray.size s2:Nat))) 55 (sP x0) 56 (sQ b3 o4) 57 (sQ b3 (o4+2))) 58 (sI i6) 59 (sB ((((ByteArray.size s2:Nat):Int) != i6)))) (w2 V0 6 (36,k6) 4 (36,k4)) hp):= by kernel_rfl
theorem F81_r5:R81 607 3 (upd e 4 (sR 4 0)) (upd V0 4 (36,k4)) hp K=
    (if List.length [(Value.string ⟨#[]⟩),.string ⟨#[]⟩,.string ⟨#[]⟩,.int .i64 0]=4 then (if List.all [(Value.string ⟨#[]⟩),.string ⟨#[]⟩,.string ⟨#[]⟩,.int .i64 0] one=true then (if 0+List.length [(Value.string ⟨#[]⟩),.string ⟨#[]⟩,.string ⟨#[]⟩,.int .i64 0]≤List.length k4 then (K (w3 e 4 (sR 4 0) 60 (sV (.agg ⟨[.string ⟨#[]⟩,.string ⟨#[]⟩,.string ⟨#[]⟩,.int .i64 0]⟩)) 5 (sB false)) (w2 V0 4 (36,k4) 4 (36,(splice k4 0 [.string ⟨#[]⟩,.string ⟨#[]⟩,.string ⟨#[]⟩,.int .i64 0]))) hp) else False) else False) else False):=by kernel_rfl
theorem F81_r6:R81 191 3 (w2 e 6 (sR 6 0) 4 (sR 4 0)) (w2 V0 6 (36,k6) 4 (36,k4)) hp K=
 ldL (cellsN k6 0 4) fun l1=>(if List.length l1=4 then (if List.all l1 one=true then (if 0+List.length l1≤List.length k4 then (K (w4 e 6 (sR 6 0) 4 (sR 4 0) 61 (sA l1) 5 (sB true)) (w3 V0 6 (36,k6) 4 (36,k4) 4 (36,(splice k4 0 l1))) hp) else False) else False) else False):= by kernel_rfl
def F81_j2 (x0:OA) (k4 k6:List Value) (hp:HP) (K:Kh):Prop:=
  (ldV (k6)[2]? fun v14=>strV v14 fun s15=>ptrN x0 fun b16 o17=>ldV (HP.cell hp b16 (o17+2)) fun v18=>intV v18 .i64 fun i19=>ite2 (((ByteArray.size s15:Nat):Int) != i19) (if List.length [(Value.string ⟨#[]⟩),.string ⟨#[]⟩,.string ⟨#[]⟩,.int .i64 0]=4 then (if List.all [(Value.string ⟨#[]⟩),.string ⟨#[]⟩,.string ⟨#[]⟩,.int .i64 0] one=true then (if 0+List.length [(Value.string ⟨#[]⟩),.string ⟨#[]⟩,.string ⟨#[]⟩,.int .i64 0]≤List.length k4 then (ldL (cellsN (splice k4 0 [.string ⟨#[]⟩,.string ⟨#[]⟩,.string ⟨#[]⟩,.int .i64 0]) 0 4) fun l20=>K (.tuple ⟨[(.agg ⟨l20⟩),.bool false]⟩) hp) else False) else False) else False) (ldL (cellsN k6 0 4) fun l21=>if List.length l21=4 then (if List.all l21 one=true then (if 0+List.length l21≤List.length k4 then (ldL (cellsN (splice k4 0 l21) 0 4) fun l22=>K (.tuple ⟨[(.agg ⟨l22⟩),(.bool true)]⟩) hp) else False) else False) else False))
theorem F81_r7:R81 559 1 (w2 e 34 (sI x34) 33 (sI x33)) (w2 V0 6 (36,k6) 4 (36,k4)) hp K=
 K (w3 e 34 (sI x34) 33 (sI x33) 35 (sB (decide (x34<x33)))) (w2 V0 6 (36,k6) 4 (36,k4)) hp:= by kernel_rfl
theorem F81_r8 (h:E=upd (upd e 34 (sI x34)) 32 (sS x32a x32n x32c)):R81 9007 4 E (w2 V0 6 (36,k6) 4 (36,k4)) hp K=
    ((0≤x34)∧(x34<x32n)∧(ptrN x32a fun b1 o2=>ldL (HP.cellN hp b1 (o2+Int.toNat x34*6) 6) fun l3=>if List.length l3=6 then (if List.all l3 one=true then (if 0+List.length l3≤List.length [(Value.string ⟨#[]⟩),.string ⟨#[]⟩,.int .i64 0,.bool false,.string ⟨#[]⟩,.string ⟨#[]⟩] then (K (w3 E 36 (sQ b1 (o2+Int.toNat x34*6)) 37 (sA l3) 8 (sR 8 0)) (w4 V0 6 (36,k6) 4 (36,k4) 8 (29,[.string ⟨#[]⟩,.string ⟨#[]⟩,.int .i64 0,.bool false,.string ⟨#[]⟩,.string ⟨#[]⟩]) 8 (29,(splice [.string ⟨#[]⟩,.string ⟨#[]⟩,.int .i64 0,.bool false,.string ⟨#[]⟩,.string ⟨#[]⟩] 0 l3))) hp) else False) else False) else False)):=by subst h; kernel_rfl
theorem F81_r9:R81 37679 6 (w2 e 8 (sR 8 0) 6 (sR 6 0)) (w3 V0 8 (29,k8) 6 (36,k6) 4 (36,k4)) hp K=
 ldV (k8)[2]? fun v1=>(intV v1 .i64 fun i2=>ldV (k6)[2]? fun v3=>strV v3 fun s4=>K (w8 e 8 (sR 8 0) 6 (sR 6 0) 38 (sR 8 2) 39 (sI i2) 40 (sR 6 2) 41 (sT s4) 42 (sI ((ByteArray.size s4:Nat))) 43 (sB ((i2 != (ByteArray.size s4:Nat))))) (w3 V0 8 (29,k8) 6 (36,k6) 4 (36,k4)) hp):= by kernel_rfl
theorem F81_r10:R81 152367 3 (upd e 4 (sR 4 0)) (upd V0 4 (36,k4)) hp K=
    (if List.length [(Value.string ⟨#[]⟩),.string ⟨#[]⟩,.string ⟨#[]⟩,.int .i64 0]=4 then (if List.all [(Value.string ⟨#[]⟩),.string ⟨#[]⟩,.string ⟨#[]⟩,.int .i64 0] one=true then (if 0+List.length [(Value.string ⟨#[]⟩),.string ⟨#[]⟩,.string ⟨#[]⟩,.int .i64 0]≤List.length k4 then (K (w3 e 4 (sR 4 0) 44 (sV (.agg ⟨[.string ⟨#[]⟩,.string ⟨#[]⟩,.string ⟨#[]⟩,.int .i64 0]⟩)) 5 (sB false)) (w2 V0 4 (36,k4) 4 (36,(splice k4 0 [.string ⟨#[]⟩,.string ⟨#[]⟩,.string ⟨#[]⟩,.int .i64 0]))) hp) else False) else False) else False):=by kernel_rfl
theorem F81_r11:R81 29487 7 (w2 e 8 (sR 8 0) 6 (sR 6 0)) (w3 V0 8 (29,k8) 6 (36,k6) 4 (36,k4)) hp K=
    (ldV (k6)[2]? fun v1=>strV v1 fun s2=>ldV (k8)[4]? fun v3=>strV v3 fun s4=>(ByteArray.size s2+ByteArray.size s4≤9223372036854775807)∧(if 2<List.length k6 then (K (w8 e 8 (sR 8 0) 6 (sR 6 0) 45 (sR 6 2) 46 (sT s2) 47 (sR 8 4) 48 (sT s4) 49 (sV (.string (s2++s4))) 50 (sR 6 2)) (w4 V0 8 (29,k8) 6 (36,k6) 4 (36,k4) 6 (36,(List.set k6 2 (.string (s2++s4))))) hp) else False)):=by kernel_rfl
theorem F81_r12:R81 3887 2 (upd e 34 (sI x34)) (w2 V0 6 (36,k6) 4 (36,k4)) hp K=
 K (w3 e 34 (sI x34) 51 (sI ((wr (x34+1)))) 34 (sI ((wr (x34+1))))) (w2 V0 6 (36,k6) 4 (36,k4)) hp:= by kernel_rfl
def F81_l4 (x0 x32a:OA) (x32n x32c:Nat) (x33:Int) (K:Kh) (I4:(Int × (List Value) × (List Value))→HP→Prop) (x34:Int) (k4 k6:List Value) (hp:HP):Prop:=
  (ite2 (decide (x34<x33)) ((0≤x34)∧(x34<x32n)∧(ptrN x32a fun b23 o24=>ldL (HP.cellN hp b23 (o24+Int.toNat x34*6) 6) fun l25=>if List.length l25=6 then (if List.all l25 one=true then (if 0+List.length l25≤List.length [(Value.string ⟨#[]⟩),.string ⟨#[]⟩,.int .i64 0,.bool false,.string ⟨#[]⟩,.string ⟨#[]⟩] then (ldV ((splice [.string ⟨#[]⟩,.string ⟨#[]⟩,.int .i64 0,.bool false,.string ⟨#[]⟩,.string ⟨#[]⟩] 0 l25))[2]? fun v26=>intV v26 .i64 fun i27=>ldV (k6)[2]? fun v28=>strV v28 fun s29=>ite2 (i27 != (ByteArray.size s29:Nat)) (if List.length [(Value.string ⟨#[]⟩),.string ⟨#[]⟩,.string ⟨#[]⟩,.int .i64 0]=4 then (if List.all [(Value.string ⟨#[]⟩),.string ⟨#[]⟩,.string ⟨#[]⟩,.int .i64 0] one=true then (if 0+List.length [(Value.string ⟨#[]⟩),.string ⟨#[]⟩,.string ⟨#[]⟩,.int .i64 0]≤List.length k4 then (ldL (cellsN (splice k4 0 [.string ⟨#[]⟩,.string ⟨#[]⟩,.string ⟨#[]⟩,.int .i64 0]) 0 4) fun l30=>K (.tuple ⟨[(.agg ⟨l30⟩),.bool false]⟩) hp) else False) else False) else False) (ldV (k6)[2]? fun v31=>strV v31 fun s32=>ldV ((splice [.string ⟨#[]⟩,.string ⟨#[]⟩,.int .i64 0,.bool false,.string ⟨#[]⟩,.string ⟨#[]⟩] 0 l25))[4]? fun v33=>strV v33 fun s34=>(ByteArray.size s32+ByteArray.size s34≤9223372036854775807)∧(if 2<List.length k6 then (I4 ((IntKind.wrap .i64 (x34+1)),k4,(List.set k6 2 (.string (s32++s34)))) hp) else False))) else False) else False) else False)) (F81_j2 x0 k4 k6 hp  K))
def F81_j3 (x0 x32a:OA) (x32n x32c:Nat) (x33 x34:Int) (k4 k6:List Value) (hp:HP) (K:Kh):Prop:=
  (LoopP (σ:=Int × (List Value) × (List Value)) (fun I s hp=>F81_l4 x0 x32a x32n x32c x33  K I s.1 s.2.1 s.2.2 hp) (x34,k4,k6) hp)
theorem F81_r13:R81 79 6 (upd e 0 (sP x0)) (w2 V0 6 (36,k6) 4 (36,k4)) hp K=
 ptrN x0 fun b1 o2=>(ldV (HP.cell hp b1 (o2+3)) fun v3=>slcV v3 fun a4 n5 c6=>K (w7 e 0 (sP x0) 29 (sP x0) 30 (sQ b1 o2) 31 (sQ b1 (o2+3)) 32 (sS a4 n5 c6) 33 (sI ((n5:Nat))) 34 (sI 0)) (w2 V0 6 (36,k6) 4 (36,k4)) hp):= by kernel_rfl
def F81_j1 (x0:OA) (k4 k6:List Value) (hp:HP) (K:Kh):Prop:=
  (ptrN x0 fun b6 o7=>ldV (HP.cell hp b6 (o7+3)) fun v8=>slcV v8 fun a9 n10 c11=>CF Try.prog 124 [(.slice a9 n10 c11),(.func (.func 125) ⟨[]⟩ ⟨[]⟩)] hp fun u12 h13=>ptrN x0 fun b35 o36=>ldV (HP.cell h13 b35 (o36+3)) fun v37=>slcV v37 fun a38 n39 c40=>F81_j3 x0 a38 n39 c40 (n39:Nat) 0 k4 k6 h13  K)
theorem F81_r14 {e:Env} {x0:OA} {x1:ByteArray} {k4:List Value} {hp:HP} {K:Env→PV→HP→Prop}:RW Try.prog 62 [4,6,8,38,40,45,47,50,52] (opsAt Try.f81 (pth 11)) [0,1,2,3,4,5,6,7,8,9,10] (w2 e 1 (sT x1) 0 (sP x0)) (upd V0 4 (36,k4)) hp K=
 ptrN x0 fun b1 o2=>(ldV (HP.cell hp b1 (o2+3)) fun v3=>slcV v3 fun a4 n5 c6=>CF Try.prog 110 [(.pointer x0)] hp fun u7 h8=>strV u7 fun s9=>if List.length [(Value.string x1),(.string s9),.string ⟨#[]⟩,(.int .i64 (n5:Nat))]=4 then (if List.all [(Value.string x1),(.string s9),.string ⟨#[]⟩,(.int .i64 (n5:Nat))] one=true then (if 0+List.length [(Value.string x1),(.string s9),.string ⟨#[]⟩,(.int .i64 (n5:Nat))]≤List.length [(Value.string ⟨#[]⟩),.string ⟨#[]⟩,.string ⟨#[]⟩,.int .i64 0] then (K (w4 (w8 e 1 (sT x1) 0 (sP x0) 15 (sT x1) 16 (sP x0) 17 (sQ b1 o2) 18 (sQ b1 (o2+3)) 19 (sS a4 n5 c6) 20 (sI ((n5:Nat)))) 21 (sP x0) 22 (sT s9) 23 (sV (.agg ⟨[(.string x1),(.string s9),.string ⟨#[]⟩,(.int .i64 (n5:Nat))]⟩)) 6 (sR 6 0)) (w3 V0 4 (36,k4) 6 (36,[.string ⟨#[]⟩,.string ⟨#[]⟩,.string ⟨#[]⟩,.int .i64 0]) 6 (36,(splice [.string ⟨#[]⟩,.string ⟨#[]⟩,.string ⟨#[]⟩,.int .i64 0] 0 [(.string x1),(.string s9),.string ⟨#[]⟩,(.int .i64 (n5:Nat))]))) h8) else False) else False) else False):= by kernel_rfl
theorem F81_r15 {e:Env} {x0:OA} {x1:ByteArray} {k4:List Value} {hp:HP} {K:Env→PV→HP→Prop}:RW Try.prog 62 [4,6,8,38,40,45,47,50,52] (opsAt Try.f81 (pth 11)) [0,1,2,3,6,7,4,5,8,9,10] (w2 e 1 (sT x1) 0 (sP x0)) (upd V0 4 (36,k4)) hp K=
 ptrN x0 fun b1 o2=>(CF Try.prog 110 [(.pointer x0)] hp fun u3 h4=>strV u3 fun s5=>ldV (HP.cell h4 b1 (o2+3)) fun v6=>slcV v6 fun a7 n8 c9=>if List.length [(Value.string x1),(.string s5),.string ⟨#[]⟩,(.int .i64 (n8:Nat))]=4 then (if List.all [(Value.string x1),(.string s5),.string ⟨#[]⟩,(.int .i64 (n8:Nat))] one=true then (if 0+List.length [(Value.string x1),(.string s5),.string ⟨#[]⟩,(.int .i64 (n8:Nat))]≤List.length [(Value.string ⟨#[]⟩),.string ⟨#[]⟩,.string ⟨#[]⟩,.int .i64 0] then (K (w4 (w8 e 1 (sT x1) 0 (sP x0) 15 (sT x1) 16 (sP x0) 17 (sQ b1 o2) 18 (sQ b1 (o2+3)) 21 (sP x0) 22 (sT s5)) 19 (sS a7 n8 c9) 20 (sI ((n8:Nat))) 23 (sV (.agg ⟨[(.string x1),(.string s5),.string ⟨#[]⟩,(.int .i64 (n8:Nat))]⟩)) 6 (sR 6 0)) (w3 V0 4 (36,k4) 6 (36,[.string ⟨#[]⟩,.string ⟨#[]⟩,.string ⟨#[]⟩,.int .i64 0]) 6 (36,(splice [.string ⟨#[]⟩,.string ⟨#[]⟩,.string ⟨#[]⟩,.int .i64 0] 0 [(.string x1),(.string s5),.string ⟨#[]⟩,(.int .i64 (n8:Nat))]))) h4) else False) else False) else False):= by kernel_rfl
def F81 (x0:OA) (x1:ByteArray) (hp:HP) (K:Kh):Prop:=
  (ptrN x0 fun b1 o2=>ldV (HP.cell hp b1 (o2+2)) fun v3=>intV v3 .i64 fun i4=>ite2 (decide (i4<0)) (if List.length [(Value.string ⟨#[]⟩),.string ⟨#[]⟩,.string ⟨#[]⟩,.int .i64 0]=4 then (if List.all [(Value.string ⟨#[]⟩),.string ⟨#[]⟩,.string ⟨#[]⟩,.int .i64 0] one=true then (if 0+List.length [(Value.string ⟨#[]⟩),.string ⟨#[]⟩,.string ⟨#[]⟩,.int .i64 0]≤List.length [(Value.string ⟨#[]⟩),.string ⟨#[]⟩,.string ⟨#[]⟩,.int .i64 0] then (ldL (cellsN (splice [.string ⟨#[]⟩,.string ⟨#[]⟩,.string ⟨#[]⟩,.int .i64 0] 0 [.string ⟨#[]⟩,.string ⟨#[]⟩,.string ⟨#[]⟩,.int .i64 0]) 0 4) fun l5=>K (.tuple ⟨[(.agg ⟨l5⟩),.bool false]⟩) hp) else False) else False) else False) ((ptrN x0 fun b41 o42=>ldV (HP.cell hp b41 (o42+3)) fun v43=>slcV v43 fun a44 n45 c46=>CF Try.prog 110 [(.pointer x0)] hp fun u47 h48=>strV u47 fun s49=>if List.length [(Value.string x1),(.string s49),.string ⟨#[]⟩,(.int .i64 (n45:Nat))]=4 then (if List.all [(Value.string x1),(.string s49),.string ⟨#[]⟩,(.int .i64 (n45:Nat))] one=true then (if 0+List.length [(Value.string x1),(.string s49),.string ⟨#[]⟩,(.int .i64 (n45:Nat))]≤List.length [(Value.string ⟨#[]⟩),.string ⟨#[]⟩,.string ⟨#[]⟩,.int .i64 0] then (F81_j1 x0 [.string ⟨#[]⟩,.string ⟨#[]⟩,.string ⟨#[]⟩,.int .i64 0] (splice [.string ⟨#[]⟩,.string ⟨#[]⟩,.string ⟨#[]⟩,.int .i64 0] 0 [(.string x1),(.string s49),.string ⟨#[]⟩,(.int .i64 (n45:Nat))]) h48  K) else False) else False) else False)∧(ptrN x0 fun b50 o51=>CF Try.prog 110 [(.pointer x0)] hp fun u52 h53=>strV u52 fun s54=>ldV (HP.cell h53 b50 (o51+3)) fun v55=>slcV v55 fun a56 n57 c58=>if List.length [(Value.string x1),(.string s54),.string ⟨#[]⟩,(.int .i64 (n57:Nat))]=4 then (if List.all [(Value.string x1),(.string s54),.string ⟨#[]⟩,(.int .i64 (n57:Nat))] one=true then (if 0+List.length [(Value.string x1),(.string s54),.string ⟨#[]⟩,(.int .i64 (n57:Nat))]≤List.length [(Value.string ⟨#[]⟩),.string ⟨#[]⟩,.string ⟨#[]⟩,.int .i64 0] then (F81_j1 x0 [.string ⟨#[]⟩,.string ⟨#[]⟩,.string ⟨#[]⟩,.int .i64 0] (splice [.string ⟨#[]⟩,.string ⟨#[]⟩,.string ⟨#[]⟩,.int .i64 0] 0 [(.string x1),(.string s54),.string ⟨#[]⟩,(.int .i64 (n57:Nat))]) h53  K) else False) else False) else False)))
noncomputable abbrev o81 (k n:Nat):Code:=.region k (opsAt Try.f81 (pth n)) false
noncomputable def F81_code:Code:=(.seq (o81 0 2) (.seq (.seq (o81 1 9) (.cond (.tmp 13) (.seq (o81 2 37) .ret) .skip)) (.seq (.region 3 (opsAt Try.f81 (pth 11)) true) (.seq (o81 4 23) (.seq (.seq (o81 5 79) (.block 0 (.loop (.seq (o81 6 559) (.seq (.cond (.tmp 35) .skip (.exit 0)) (.seq (.block 1 (.seq (o81 7 9007) (.seq (.seq (o81 8 37679) (.cond (.tmp 43) (.seq (o81 9 152367) .ret) .skip)) (o81 10 29487)))) (o81 11 3887))))))) (.seq (.seq (.region 12 (opsAt Try.f81 (pth 159)) true) (.cond (.tmp 59) (.seq (o81 13 607) .ret) .skip)) (.seq (o81 14 191) .ret)))))))
theorem F81_body:Try.f81.body=some F81_code:=by kernel_rfl
theorem F81_ok (x0:OA) (x1:ByteArray) (hp:HP) (K:Kh) (h:F81 x0 x1 hp K):CF Try.prog 81 [(.pointer x0),(.string x1)] hp K:=by
 refine .inl ⟨by kernel_rfl,AC.intro (N:=62) Try.func81 F81_body rfl (Nat.le_of_ble_eq_true rfl) ?_⟩
 unfold F81 at h
 refine Ar F81_r0 ?_ (r2 0 1 Rn) (z2 Sn) Sn
 refine Aq (Ar F81_r1 ?_ (r2 0 1 (rp 4 4 0 Rn)) (z3 Sn) (z1 Sn))
 refine mN h fun b1 o2 h=>mV h fun v3 h=>mI h fun i4 h=>?_
 refine Ac h rfl (fun h=>?_) (fun h=>?_)
 ·refine Ar F81_r2 ?_ (rp 4 4 0 Rn) (z1 Sn) (z1 Sn)
  refine mf h fun h=>mf h fun h=>mf h fun h=>?_
  refine AWP.ret ?_
  exact h
 ·refine AWP.skip (As (fun env pv hp=>∃ x0 k4 k6,Sub (w3 E0 6 (sR 6 0) 4 (sR 4 0) 0 (sP x0)) env∧Sub (w2 V0 6 (36,k6) 4 (36,k4)) pv∧(F81_j1 x0 k4 k6 hp  K)) ?_ ?_)
  ·refine AWP.rgnC (cf:=[(4,7)]) (c:=[([true],true,[0,1,2,3,4,5,6,7,8,9,10]),([false],true,[0,1,2,3,6,7,4,5,8,9,10])]) (by kernel_rfl) (by kernel_rfl) (by kernel_rfl) (by kernel_rfl) (allO_t (Eq.mpr F81_r14 ?_) (allO_t (Eq.mpr F81_r15 ?_) trivial)) (r2 0 1 (rp 4 4 0 Rn)) (z3 Sn) (z1 Sn)
   ·replace h:=h.1
    refine mN h fun b41 o42 h=>mV h fun v43 h=>mS h fun a44 n45 c46 h=>mC h fun u47 h48 h=>ms h fun s49 h=>mf h fun h=>mf h fun h=>mf h fun h=>?_
    exact ⟨_,_,_,(z3 Sn),(z2 Sn),h⟩
   ·replace h:=h.2
    refine mN h fun b50 o51 h=>mC h fun u52 h53 h=>ms h fun s54 h=>mV h fun v55 h=>mS h fun a56 n57 c58 h=>mf h fun h=>mf h fun h=>mf h fun h=>?_
    exact ⟨_,_,_,(z3 Sn),(z2 Sn),h⟩
  ·rintro env pv hp ⟨x0,k4,k6,he,hv,h⟩
   refine Ae ?_ (r1 0 (rp 4 4 0 (rp 6 6 0 Rn))) he hv
   unfold F81_j1 at h
   refine Ar F81_r3 ?_ (r1 0 (rp 4 4 0 (rp 6 6 0 Rn))) (z3 Sn) (z2 Sn)
   refine mN h fun b6 o7 h=>mV h fun v8 h=>mS h fun a9 n10 c11 h=>mC h fun u12 h13 h=>?_
   refine As (fun env pv hp=>∃ x0 k4 k6,Sub (w3 E0 6 (sR 6 0) 4 (sR 4 0) 0 (sP x0)) env∧Sub (w2 V0 6 (36,k6) 4 (36,k4)) pv∧(F81_j2 x0 k4 k6 hp  K)) ?_ ?_
   ·refine As (fun env pv hp=>∃ x0 x32a x32n x32c x33 x34 k4 k6,Sub (w6 E0 34 (sI x34) 33 (sI x33) 32 (sS x32a x32n x32c) 6 (sR 6 0) 4 (sR 4 0) 0 (sP x0)) env∧Sub (w2 V0 6 (36,k6) 4 (36,k4)) pv∧(F81_j3 x0 x32a x32n x32c x33 x34 k4 k6 hp  K)) ?_ ?_
    ·refine Ag F81_r13 ?_ (r1 0 (rp 4 4 0 (rp 6 6 0 Rn))) (z3 Sn) (z2 Sn)
     refine mN h fun b35 o36 h=>mV h fun v37 h=>mS h fun a38 n39 c40 h=>?_
     exact ⟨_,_,_,_,_,_,_,_,(z6 Sn),(z2 Sn),h⟩
    ·rintro env pv hp ⟨x0,x32a,x32n,x32c,x33,x34,k4,k6,he,hv,h⟩
     refine Ae ?_ (r1 0 (rp 4 4 0 (rp 6 6 0 (r3 32 33 34 Rn)))) he hv
     unfold F81_j3 at h
     refine AWP.block (AWP.loop (σ:=Int × (List Value) × (List Value)) _ (fun s=>w6 E0 34 (sI (s.1)) 33 (sI x33) 32 (sS x32a x32n x32c) 6 (sR 6 0) 4 (sR 4 0) 0 (sP x0)) (fun s=>w2 V0 6 (36,s.2.2) 4 (36,s.2.1)) (x34,k4,k6) h (fun s=>r1 0 (rp 4 4 0 (rp 6 6 0 (r3 32 33 34 Rn)))) (z6 Sn) (z2 Sn) ?_)
     intro I4 s hp h
     obtain ⟨x34,k4,k6⟩:=s
     replace h:F81_l4 x0 x32a x32n x32c x33  K I4 x34 k4 k6 hp:=h
     unfold F81_l4 at h
     refine Ar F81_r7 ?_ (r3 33 34 0 (rp 4 4 0 (rp 6 6 0 (r1 32 Rn)))) (z6 Sn) (z2 Sn)
     refine Aq (Ac h rfl (fun h=>?_) (fun h=>?_))
     ·refine AWP.skip (Aq (AWP.block (Ar (F81_r8 rfl) ?_ (r3 32 34 0 (rp 4 4 0 (rp 6 6 0 (r1 33 Rn)))) (z6 Sn) (z2 Sn))))
      refine ⟨h.1,h.2.1,mN h.2.2 fun b23 o24 h=>mL h fun l25 h=>mf h fun h=>mf h fun h=>mf h fun h=>?_⟩
      refine Aq (Ar F81_r9 ?_ (rp 6 6 0 (rp 8 8 0 (r1 0 (rp 4 4 0 (r3 32 33 34 Rn))))) (z7 Sn) (z3 Sn))
      refine mV h fun v26 h=>mI h fun i27 h=>mV h fun v28 h=>ms h fun s29 h=>?_
      refine Ac h rfl (fun h=>?_) (fun h=>?_)
      ·refine Ar F81_r10 ?_ (rp 4 4 0 Rn) (z1 Sn) (z1 Sn)
       refine mf h fun h=>mf h fun h=>mf h fun h=>?_
       refine AWP.ret ?_
       exact h
      ·refine AWP.skip (Ag F81_r11 ?_ (rp 6 6 0 (rp 8 8 0 (r1 0 (rp 4 4 0 (r3 32 33 34 Rn))))) (z7 Sn) (z3 Sn))
       refine mV h (fun v31 h=>ms h (fun s32 h=>mV h (fun v33 h=>ms h (fun s34 h=>⟨h.1,mf h.2 fun h=>?_⟩))))
       refine Ag F81_r12 ?_ (r2 34 0 (rp 4 4 0 (rp 6 6 0 (r2 32 33 Rn)))) (z6 Sn) (z2 Sn)
       exact ⟨_,(z6 Sn),(z2 Sn),h⟩
     ·refine AWP.exit ?_
      exact ⟨_,_,_,(z3 Sn),(z2 Sn),h⟩
   ·rintro env pv hp ⟨x0,k4,k6,he,hv,h⟩
    refine Ae ?_ (r1 0 (rp 4 4 0 (rp 6 6 0 Rn))) he hv
    unfold F81_j2 at h
    refine Aq (Aq (AWP.rgnD (by kernel_rfl) (by kernel_rfl) F81_r4 ?_ (r1 0 (rp 6 6 0 (rp 4 4 0 Rn))) (z3 Sn) (z2 Sn)))
    refine mV h fun v14 h=>ms h fun s15 h=>mN h fun b16 o17 h=>mV h fun v18 h=>mI h fun i19 h=>?_
    refine Ac h rfl (fun h=>?_) (fun h=>?_)
    ·refine Ar F81_r5 ?_ (rp 4 4 0 Rn) (z1 Sn) (z1 Sn)
     refine mf h fun h=>mf h fun h=>mf h fun h=>?_
     refine AWP.ret ?_
     exact h
    ·refine AWP.skip (Ar F81_r6 ?_ (rp 4 4 0 (rp 6 6 0 Rn)) (z2 Sn) (z2 Sn))
     refine mL h fun l21 h=>mf h fun h=>mf h fun h=>mf h fun h=>?_
     refine AWP.ret ?_
     exact h
end
section
variable {e:Env} {x0 x8a:OA} {x8n x8c:Nat} {x9 x10:Int} {k4:List Value} {hp:HP} {K:Env→PV→HP→Prop}
abbrev R110 (p n:Nat):=RW Try.prog 20 [4,14,17] (opsAt Try.f110 (pth p)) (List.range n)
theorem F110_r0:R110 2 1 e V0 hp K=
 K (upd e 2 (sV (.string (⟨#[]⟩:ByteArray)))) V0 hp:= by kernel_rfl
theorem F110_r1:R110 69 1 (w2 e 10 (sI x10) 9 (sI x9)) V0 hp K=
 K (w3 e 10 (sI x10) 9 (sI x9) 11 (sB (decide (x10<x9)))) V0 hp:= by kernel_rfl
theorem F110_r2:R110 1125 4 (w2 e 10 (sI x10) 8 (sS x8a x8n x8c)) V0 hp K=
    ((0≤x10)∧(x10<x8n)∧(ptrN x8a fun b1 o2=>ldL (HP.cellN hp b1 (o2+Int.toNat x10*6) 6) fun l3=>if List.length l3=6 then (if List.all l3 one=true then (if 0+List.length l3≤List.length [(Value.string ⟨#[]⟩),.string ⟨#[]⟩,.int .i64 0,.bool false,.string ⟨#[]⟩,.string ⟨#[]⟩] then (K (w5 e 10 (sI x10) 8 (sS x8a x8n x8c) 12 (sQ b1 (o2+Int.toNat x10*6)) 13 (sA l3) 4 (sR 4 0)) (w2 V0 4 (29,[.string ⟨#[]⟩,.string ⟨#[]⟩,.int .i64 0,.bool false,.string ⟨#[]⟩,.string ⟨#[]⟩]) 4 (29,(splice [.string ⟨#[]⟩,.string ⟨#[]⟩,.int .i64 0,.bool false,.string ⟨#[]⟩,.string ⟨#[]⟩] 0 l3))) hp) else False) else False) else False)):=by kernel_rfl
theorem F110_r3:R110 2661 3 (upd e 4 (sR 4 0)) (upd V0 4 (29,k4)) hp K=
 ldV (k4)[2]? fun v1=>(intV v1 .i64 fun i2=>K (w4 e 4 (sR 4 0) 14 (sR 4 2) 15 (sI i2) 16 (sB ((i2==0)))) (upd V0 4 (29,k4)) hp):= by kernel_rfl
theorem F110_r4:R110 9829 3 (upd e 4 (sR 4 0)) (upd V0 4 (29,k4)) hp K=
 ldV (k4)[5]? fun v1=>(strV v1 fun s2=>K (w4 e 4 (sR 4 0) 17 (sR 4 5) 18 (sT s2) 2 (sT s2)) (upd V0 4 (29,k4)) hp):= by kernel_rfl
theorem F110_r5:R110 485 2 (upd e 10 (sI x10)) V0 hp K=
 K (w3 e 10 (sI x10) 19 (sI ((wr (x10+1)))) 10 (sI ((wr (x10+1))))) V0 hp:= by kernel_rfl
theorem F110_r6:R110 11 1 e V0 hp K=
 K (upd e 2 (sV (.string (⟨#[]⟩:ByteArray)))) V0 hp:= by kernel_rfl
def F110_l2 (x8a:OA) (x8n x8c:Nat) (x9:Int) (K:Kh) (I2:(Int)→HP→Prop) (x10:Int) (hp:HP):Prop:=
  (ite2 (decide (x10<x9)) ((0≤x10)∧(x10<x8n)∧(ptrN x8a fun b1 o2=>ldL (HP.cellN hp b1 (o2+Int.toNat x10*6) 6) fun l3=>if List.length l3=6 then (if List.all l3 one=true then (if 0+List.length l3≤List.length [(Value.string ⟨#[]⟩),.string ⟨#[]⟩,.int .i64 0,.bool false,.string ⟨#[]⟩,.string ⟨#[]⟩] then (ldV ((splice [.string ⟨#[]⟩,.string ⟨#[]⟩,.int .i64 0,.bool false,.string ⟨#[]⟩,.string ⟨#[]⟩] 0 l3))[2]? fun v4=>intV v4 .i64 fun i5=>ite2 (i5==0) (ldV ((splice [.string ⟨#[]⟩,.string ⟨#[]⟩,.int .i64 0,.bool false,.string ⟨#[]⟩,.string ⟨#[]⟩] 0 l3))[5]? fun v6=>strV v6 fun s7=>K (.string s7) hp) (I2 (IntKind.wrap .i64 (x10+1)) hp)) else False) else False) else False)) (K (.string (⟨#[]⟩:ByteArray)) hp))
def F110_j1 (x8a:OA) (x8n x8c:Nat) (x9 x10:Int) (hp:HP) (K:Kh):Prop:=
  (LoopP (σ:=Int) (fun I s hp=>F110_l2 x8a x8n x8c x9  K I s hp) x10 hp)
theorem F110_r7:R110 9 6 (upd e 0 (sP x0)) V0 hp K=
 ptrN x0 fun b1 o2=>(ldV (HP.cell hp b1 (o2+3)) fun v3=>slcV v3 fun a4 n5 c6=>K (w7 e 0 (sP x0) 5 (sP x0) 6 (sQ b1 o2) 7 (sQ b1 (o2+3)) 8 (sS a4 n5 c6) 9 (sI ((n5:Nat))) 10 (sI 0)) V0 hp):= by kernel_rfl
def F110 (x0:OA) (hp:HP) (K:Kh):Prop:=
  (ptrN x0 fun b8 o9=>ldV (HP.cell hp b8 (o9+3)) fun v10=>slcV v10 fun a11 n12 c13=>F110_j1 a11 n12 c13 (n12:Nat) 0 hp  K)
noncomputable abbrev o110 (k n:Nat):Code:=.region k (opsAt Try.f110 (pth n)) false
noncomputable def F110_code:Code:=(.seq (o110 0 2) (.seq (.seq (o110 1 9) (.block 0 (.loop (.seq (o110 2 69) (.seq (.cond (.tmp 11) .skip (.exit 0)) (.seq (.block 1 (.seq (o110 3 1125) (.seq (o110 4 2661) (.cond (.tmp 16) (.seq (o110 5 9829) .ret) .skip)))) (o110 6 485))))))) (.seq (o110 7 11) .ret)))
theorem F110_body:Try.f110.body=some F110_code:=by kernel_rfl
theorem F110_ok (x0:OA) (hp:HP) (K:Kh) (h:F110 x0 hp K):CF Try.prog 110 [(.pointer x0)] hp K:=by
 refine .inl ⟨by kernel_rfl,AC.intro (N:=20) Try.func110 F110_body rfl (Nat.le_of_ble_eq_true rfl) ?_⟩
 unfold F110 at h
 refine Ar F110_r0 ?_ (r1 0 Rn) (z1 Sn) Sn
 refine Aq (As (fun env pv hp=>∃ x8a x8n x8c x9 x10,Sub (w3 E0 10 (sI x10) 9 (sI x9) 8 (sS x8a x8n x8c)) env∧Sub V0 pv∧F110_j1 x8a x8n x8c x9 x10 hp  K) ?_ ?_)
 ·refine Ag F110_r7 ?_ (r1 0 Rn) (z1 Sn) Sn
  refine mN h fun b8 o9 h=>mV h fun v10 h=>mS h fun a11 n12 c13 h=>?_
  exact ⟨_,_,_,_,_,(z3 Sn),Sn,h⟩
 ·rintro env pv hp ⟨x8a,x8n,x8c,x9,x10,he,hv,h⟩
  refine Ae ?_ (r3 8 9 10 Rn) he hv
  unfold F110_j1 at h
  refine AWP.block (AWP.loop (σ:=Int) _ (fun s=>w3 E0 10 (sI s) 9 (sI x9) 8 (sS x8a x8n x8c)) (fun s=>V0) x10 h (fun s=>r3 8 9 10 Rn) (z3 Sn) Sn ?_)
  intro I2 x10 hp h
  replace h:F110_l2 x8a x8n x8c x9  K I2 x10 hp:=h
  unfold F110_l2 at h
  refine Ar F110_r1 ?_ (r3 9 10 8 Rn) (z3 Sn) Sn
  refine Aq (Ac h rfl (fun h=>?_) (fun h=>?_))
  ·refine AWP.skip (Aq (AWP.block (Ar F110_r2 ?_ (r3 8 10 9 Rn) (z3 Sn) Sn)))
   refine ⟨h.1,h.2.1,mN h.2.2 fun b1 o2 h=>mL h fun l3 h=>mf h fun h=>mf h fun h=>mf h fun h=>?_⟩
   refine Ar F110_r3 ?_ (rp 4 4 0 (r3 8 9 10 Rn)) (z4 Sn) (z1 Sn)
   refine mV h fun v4 h=>mI h fun i5 h=>?_
   refine Ac h rfl (fun h=>?_) (fun h=>?_)
   ·refine Ar F110_r4 ?_ (rp 4 4 0 Rn) (z1 Sn) (z1 Sn)
    refine mV h fun v6 h=>ms h fun s7 h=>?_
    refine AWP.ret ?_
    exact h
   ·refine AWP.skip (Ag F110_r5 ?_ (r3 10 8 9 Rn) (z3 Sn) Sn)
    exact ⟨_,(z3 Sn),Sn,h⟩
  ·refine AWP.exit ?_
   refine Ar F110_r6 ?_ Rn Sn Sn
   refine AWP.ret ?_
   exact h
end
section
variable {e E:Env} {x0a:OA} {x0n x0c:Nat} {x1:Value} {x5 x7 x8:Int} {hp:HP} {K:Env→PV→HP→Prop}
abbrev R121 (p n:Nat):=RW Try.prog 19 [] (opsAt Try.f121 (pth p)) (List.range n)
theorem F121_r0:R121 2 1 e V0 hp K=
 K (upd e 4 (sI 0)) V0 hp:= by kernel_rfl
theorem F121_r1:R121 69 1 (w2 e 8 (sI x8) 7 (sI x7)) V0 hp K=
 K (w3 e 8 (sI x8) 7 (sI x7) 9 (sB (decide (x8<x7)))) V0 hp:= by kernel_rfl
theorem F121_r2:R121 1125 2 (upd e 8 (sI x8)) V0 hp K=
 K (w3 e 8 (sI x8) 10 (sI x8) 5 (sI x8)) V0 hp:= by kernel_rfl
theorem F121_r3 (h:E=upd (w2 e 5 (sI x5) 1 (sV x1)) 0 (sS x0a x0n x0c)):R121 2661 6 E V0 hp K=
    ((0≤x5)∧(x5<x0n)∧(ptrN x0a fun b1 o2=>ldL (HP.cellN hp b1 (o2+Int.toNat x5*6) 6) fun l3=>fnV x1 fun f4 ga5 gb6=>CF Try.prog f4 (ga5++[(Value.agg ⟨l3⟩)]++gb6) hp fun u7 h8=>boolV u7 fun q9=>K (w6 E 11 (sV x1) 12 (sS x0a x0n x0c) 13 (sI x5) 14 (sQ b1 (o2+Int.toNat x5*6)) 15 (sA l3) 16 (sB q9)) V0 h8)):=by subst h; kernel_rfl
theorem F121_r4:R121 9829 2 (upd e 5 (sI x5)) V0 hp K=
 K (w3 e 5 (sI x5) 17 (sI x5) 4 (sI x5)) V0 hp:= by kernel_rfl
theorem F121_r5:R121 485 2 (upd e 8 (sI x8)) V0 hp K=
 K (w3 e 8 (sI x8) 18 (sI ((wr (x8+1)))) 8 (sI ((wr (x8+1))))) V0 hp:= by kernel_rfl
theorem F121_r6:R121 11 1 e V0 hp K=
 K (upd e 4 (sI ((-1)))) V0 hp:= by kernel_rfl
def F121_l2 (x0a:OA) (x0n x0c:Nat) (x1:Value) (x7:Int) (K:Kh) (I2:(Int)→HP→Prop) (x8:Int) (hp:HP):Prop:=
  (ite2 (decide (x8<x7)) ((0≤x8)∧(x8<x0n)∧(ptrN x0a fun b1 o2=>ldL (HP.cellN hp b1 (o2+Int.toNat x8*6) 6) fun l3=>fnV x1 fun f4 ga_5 gb_6=>CF Try.prog f4 (ga_5++[(Value.agg ⟨l3⟩)]++gb_6) hp fun u7 h8=>boolV u7 fun q9=>ite2 q9 (K (.int .i64 x8) h8) (I2 (IntKind.wrap .i64 (x8+1)) h8))) (K (.int .i64 (-1)) hp))
def F121_j1 (x0a:OA) (x0n x0c:Nat) (x1:Value) (x7 x8:Int) (hp:HP) (K:Kh):Prop:=
  (LoopP (σ:=Int) (fun I s hp=>F121_l2 x0a x0n x0c x1 x7  K I s hp) x8 hp)
theorem F121_r7:R121 9 3 (upd e 0 (sS x0a x0n x0c)) V0 hp K=
 K (w4 e 0 (sS x0a x0n x0c) 6 (sS x0a x0n x0c) 7 (sI ((x0n:Nat))) 8 (sI 0)) V0 hp:= by kernel_rfl
def F121 (x0a:OA) (x0n x0c:Nat) (x1:Value) (hp:HP) (K:Kh):Prop:=
  (F121_j1 x0a x0n x0c x1 (x0n:Nat) 0 hp  K)
noncomputable abbrev o121 (k n:Nat):Code:=.region k (opsAt Try.f121 (pth n)) false
noncomputable def F121_code:Code:=(.seq (o121 0 2) (.seq (.seq (o121 1 9) (.block 0 (.loop (.seq (o121 2 69) (.seq (.cond (.tmp 9) .skip (.exit 0)) (.seq (.block 1 (.seq (o121 3 1125) (.seq (o121 4 2661) (.cond (.tmp 16) (.seq (o121 5 9829) .ret) .skip)))) (o121 6 485))))))) (.seq (o121 7 11) .ret)))
theorem F121_body:Try.f121.body=some F121_code:=by kernel_rfl
theorem F121_ok (x0a:OA) (x0n x0c:Nat) (x1:Value) (hp:HP) (K:Kh) (h:F121 x0a x0n x0c x1 hp K):CF Try.prog 121 [(.slice x0a x0n x0c),x1] hp K:=by
 refine .inl ⟨by kernel_rfl,AC.intro (N:=19) Try.func121 F121_body rfl (Nat.le_of_ble_eq_true rfl) ?_⟩
 unfold F121 at h
 refine Ar F121_r0 ?_ (r2 0 1 Rn) (z2 Sn) Sn
 refine Aq (As (fun env pv hp=>∃ x0a x0n x0c x1 x7 x8,Sub (w4 E0 8 (sI x8) 7 (sI x7) 1 (sV x1) 0 (sS x0a x0n x0c)) env∧Sub V0 pv∧F121_j1 x0a x0n x0c x1 x7 x8 hp  K) ?_ ?_)
 ·refine Ag F121_r7 ?_ (r2 0 1 Rn) (z2 Sn) Sn
  exact ⟨_,_,_,_,_,_,(z4 Sn),Sn,h⟩
 ·rintro env pv hp ⟨x0a,x0n,x0c,x1,x7,x8,he,hv,h⟩
  refine Ae ?_ (r4 0 1 7 8 Rn) he hv
  unfold F121_j1 at h
  refine AWP.block (AWP.loop (σ:=Int) _ (fun s=>w4 E0 8 (sI s) 7 (sI x7) 1 (sV x1) 0 (sS x0a x0n x0c)) (fun s=>V0) x8 h (fun s=>r4 0 1 7 8 Rn) (z4 Sn) Sn ?_)
  intro I2 x8 hp h
  replace h:F121_l2 x0a x0n x0c x1 x7  K I2 x8 hp:=h
  unfold F121_l2 at h
  refine Ar F121_r1 ?_ (r4 7 8 0 1 Rn) (z4 Sn) Sn
  refine Aq (Ac h rfl (fun h=>?_) (fun h=>?_))
  ·refine AWP.skip (Aq (AWP.block (Ar F121_r2 ?_ (r4 8 0 1 7 Rn) (z4 Sn) Sn)))
   refine Ar (F121_r3 rfl) ?_ (r5 0 1 5 7 8 Rn) (z5 Sn) Sn
   refine ⟨h.1,h.2.1,mN h.2.2 fun b1 o2 h=>mL h fun l3 h=>mF h fun f4 ga_5 gb_6 h=>mC h fun u7 h8 h=>mB h fun q9 h=>?_⟩
   refine Ac h rfl (fun h=>?_) (fun h=>?_)
   ·refine Ar F121_r4 ?_ (r1 5 Rn) (z1 Sn) Sn
    refine AWP.ret ?_
    exact h
   ·refine AWP.skip (Ag F121_r5 ?_ (r4 8 0 1 7 Rn) (z4 Sn) Sn)
    exact ⟨_,(z4 Sn),Sn,h⟩
  ·refine AWP.exit ?_
   refine Ar F121_r6 ?_ Rn Sn Sn
   refine AWP.ret ?_
   exact h
end
section
variable {e:Env} {x0 k1:List Value} {hp:HP} {K:Env→PV→HP→Prop}
abbrev R122 (p n:Nat):=RW Try.prog 9 [1,3,5] (opsAt Try.f122 (pth p)) (List.range n)
theorem F122_r0:R122 2 2 (upd e 0 (sA x0)) V0 hp K=
 K (w3 e 0 (sA x0) 1 (sR 1 0) 2 (sI 0)) (upd V0 1 (29,x0)) hp:= by kernel_rfl
theorem F122_r1:R122 5 7 (upd e 1 (sR 1 0)) (upd V0 1 (29,k1)) hp K=
 ldV (k1)[2]? fun v1=>(intV v1 .i64 fun i2=>ldV (k1)[4]? fun v3=>strV v3 fun s4=>K (w8 e 1 (sR 1 0) 3 (sR 1 2) 4 (sI i2) 5 (sR 1 4) 6 (sT s4) 7 (sI ((ByteArray.size s4:Nat))) 8 (sI ((wr (i2+(ByteArray.size s4:Nat))))) 2 (sI ((wr (i2+(ByteArray.size s4:Nat)))))) (upd V0 1 (29,k1)) hp):= by kernel_rfl
def F122 (x0:List Value) (hp:HP) (K:Kh):Prop:=
  (ldV (x0)[2]? fun v1=>intV v1 .i64 fun i2=>ldV (x0)[4]? fun v3=>strV v3 fun s4=>K (.int .i64 (IntKind.wrap .i64 (i2+(ByteArray.size s4:Nat)))) hp)
noncomputable def F122_code:Code:=(.seq (.region 0 (opsAt Try.f122 (pth 2)) false) (.seq (.region 1 (opsAt Try.f122 (pth 5)) false) .ret))
theorem F122_body:Try.f122.body=some F122_code:=by kernel_rfl
theorem F122_ok (x0:List Value) (hp:HP) (K:Kh) (h:F122 x0 hp K):CF Try.prog 122 [(.agg ⟨x0⟩)] hp K:=by
 refine .inl ⟨by kernel_rfl,AC.intro (N:=9) Try.func122 F122_body rfl (Nat.le_of_ble_eq_true rfl) ?_⟩
 unfold F122 at h
 refine Ar F122_r0 ?_ (r1 0 Rn) (z1 Sn) Sn
 refine Ar F122_r1 ?_ (rp 1 1 0 Rn) (z1 Sn) (z1 Sn)
 refine mV h fun v1 h=>mI h fun i2 h=>mV h fun v3 h=>ms h fun s4 h=>?_
 refine AWP.ret ?_
 exact h
end
section
variable {e:Env} {x0:List Value} {hp:HP} {K:Env→PV→HP→Prop}
abbrev R123 (p n:Nat):=RW Try.prog 28 [2,10] (opsAt Try.f123 (pth p)) (List.range n)
theorem F123_r0:R123 2 2 (upd e 0 (sA x0)) V0 hp K=
 K (w3 e 0 (sA x0) 2 (sR 2 0) 3 (sB false)) (upd V0 2 (29,x0)) hp:= by kernel_rfl
theorem F123_r1 {e:Env} {x1:OA} {k2:List Value} {hp:HP} {K:Env→PV→HP→Prop}:RW Try.prog 28 [2,10] (opsAt Try.f123 (pth 5)) [0,1,2,3,4,5,6,7,8,9,10,11,12,13,14,15,16,17,18,19,20,21,22,23,24] (w2 e 2 (sR 2 0) 1 (sP x1)) (upd V0 2 (29,k2)) hp K=
 ptrN x1 fun b1 o2=>(ldV (HP.cell hp b1 (o2+2)) fun v3=>intV v3 .i64 fun i4=>ldL (cellsN k2 0 6) fun l5=>CF Try.prog 122 [(.agg ⟨l5⟩)] hp fun u6 h7=>intV u6 .i64 fun i8=>ite2 (decide (i4<i8)) (ldV (k2)[2]? fun v9=>intV v9 .i64 fun i10=>ptrN x1 fun b11 o12=>ldL (HP.cellN h7 b11 o12 6) fun l13=>CF Try.prog 122 [(.agg ⟨l13⟩)] h7 fun u14 h15=>intV u14 .i64 fun i16=>ite2 (decide (i10<i16)) (K (w3 (w8 (w8 (w8 e 2 (sR 2 0) 1 (sP x1) 4 (sQ b1 (o2+2)) 5 (sI i4) 6 (sA l5) 7 (sI i8) 8 (sB (decide (i4<i8))) 9 (sB true)) 10 (sR 2 2) 11 (sI i10) 12 (sA l13) 13 (sI i16) 14 (sB (decide (i10<i16))) 15 (sB (decide (i10<i16))) 16 (sB true) 17 sU) 18 sU 19 sU 20 sU 21 sU 22 sU 23 sU 24 sU 25 sU) 26 sU 27 (sB true) 3 (sB true)) (upd V0 2 (29,k2)) h15) (ptrN x1 fun b17 o18=>ldV (HP.cell h15 b17 (o18+3)) fun v19=>boolV v19 fun q20=>ite2 (!q20) (ldL (cellsN k2 0 6) fun l21=>CF Try.prog 122 [(.agg ⟨l21⟩)] h15 fun u22 h23=>intV u22 .i64 fun i24=>ptrN x1 fun b25 o26=>ldL (HP.cellN h23 b25 o26 6) fun l27=>CF Try.prog 122 [(.agg ⟨l27⟩)] h23 fun u28 h29=>intV u28 .i64 fun i30=>K (w3 (w8 (w8 (w8 e 2 (sR 2 0) 1 (sP x1) 4 (sQ b1 (o2+2)) 5 (sI i4) 6 (sA l5) 7 (sI i8) 8 (sB (decide (i4<i8))) 9 (sB true)) 10 (sR 2 2) 11 (sI i10) 12 (sA l13) 13 (sI i16) 14 (sB (decide (i10<i16))) 15 (sB (decide (i10<i16))) 16 (sB false) 17 (sQ b17 (o18+3))) 18 (sB q20) 19 (sB ((!q20))) 20 (sB true) 21 (sA l21) 22 (sI i24) 23 (sA l27) 24 (sI i30) 25 (sB (decide (i24 > i30)))) 26 (sB (decide (i24 > i30))) 27 (sB (decide (i24 > i30))) 3 (sB (decide (i24 > i30)))) (upd V0 2 (29,k2)) h29) (K (w3 (w8 (w8 (w8 e 2 (sR 2 0) 1 (sP x1) 4 (sQ b1 (o2+2)) 5 (sI i4) 6 (sA l5) 7 (sI i8) 8 (sB (decide (i4<i8))) 9 (sB true)) 10 (sR 2 2) 11 (sI i10) 12 (sA l13) 13 (sI i16) 14 (sB (decide (i10<i16))) 15 (sB (decide (i10<i16))) 16 (sB false) 17 (sQ b17 (o18+3))) 18 (sB q20) 19 (sB ((!q20))) 20 (sB false) 21 sU 22 sU 23 sU 24 sU 25 sU) 26 (sB false) 27 (sB false) 3 (sB false)) (upd V0 2 (29,k2)) h15))) (ptrN x1 fun b31 o32=>ldV (HP.cell h7 b31 (o32+3)) fun v33=>boolV v33 fun q34=>ite2 (!q34) (ldL (cellsN k2 0 6) fun l35=>CF Try.prog 122 [(.agg ⟨l35⟩)] h7 fun u36 h37=>intV u36 .i64 fun i38=>ptrN x1 fun b39 o40=>ldL (HP.cellN h37 b39 o40 6) fun l41=>CF Try.prog 122 [(.agg ⟨l41⟩)] h37 fun u42 h43=>intV u42 .i64 fun i44=>K (w3 (w8 (w8 (w8 e 2 (sR 2 0) 1 (sP x1) 4 (sQ b1 (o2+2)) 5 (sI i4) 6 (sA l5) 7 (sI i8) 8 (sB (decide (i4<i8))) 9 (sB false)) 10 sU 11 sU 12 sU 13 sU 14 sU 15 (sB false) 16 (sB false) 17 (sQ b31 (o32+3))) 18 (sB q34) 19 (sB ((!q34))) 20 (sB true) 21 (sA l35) 22 (sI i38) 23 (sA l41) 24 (sI i44) 25 (sB (decide (i38 > i44)))) 26 (sB (decide (i38 > i44))) 27 (sB (decide (i38 > i44))) 3 (sB (decide (i38 > i44)))) (upd V0 2 (29,k2)) h43) (K (w3 (w8 (w8 (w8 e 2 (sR 2 0) 1 (sP x1) 4 (sQ b1 (o2+2)) 5 (sI i4) 6 (sA l5) 7 (sI i8) 8 (sB (decide (i4<i8))) 9 (sB false)) 10 sU 11 sU 12 sU 13 sU 14 sU 15 (sB false) 16 (sB false) 17 (sQ b31 (o32+3))) 18 (sB q34) 19 (sB ((!q34))) 20 (sB false) 21 sU 22 sU 23 sU 24 sU 25 sU) 26 (sB false) 27 (sB false) 3 (sB false)) (upd V0 2 (29,k2)) h7))):= by kernel_rfl
theorem F123_r2 {e:Env} {x1:OA} {k2:List Value} {hp:HP} {K:Env→PV→HP→Prop}:RW Try.prog 28 [2,10] (opsAt Try.f123 (pth 5)) [0,1,2,3,4,5,6,7,8,9,10,11,12,13,14,15,16,17,19,18,20,21,22,23,24] (w2 e 2 (sR 2 0) 1 (sP x1)) (upd V0 2 (29,k2)) hp K=
 ptrN x1 fun b1 o2=>(ldV (HP.cell hp b1 (o2+2)) fun v3=>intV v3 .i64 fun i4=>ldL (cellsN k2 0 6) fun l5=>CF Try.prog 122 [(.agg ⟨l5⟩)] hp fun u6 h7=>intV u6 .i64 fun i8=>ite2 (decide (i4<i8)) (ldV (k2)[2]? fun v9=>intV v9 .i64 fun i10=>ptrN x1 fun b11 o12=>ldL (HP.cellN h7 b11 o12 6) fun l13=>CF Try.prog 122 [(.agg ⟨l13⟩)] h7 fun u14 h15=>intV u14 .i64 fun i16=>ite2 (decide (i10<i16)) (K (w3 (w8 (w8 (w8 e 2 (sR 2 0) 1 (sP x1) 4 (sQ b1 (o2+2)) 5 (sI i4) 6 (sA l5) 7 (sI i8) 8 (sB (decide (i4<i8))) 9 (sB true)) 10 (sR 2 2) 11 (sI i10) 12 (sA l13) 13 (sI i16) 14 (sB (decide (i10<i16))) 15 (sB (decide (i10<i16))) 16 (sB true) 17 sU) 18 sU 19 sU 20 sU 21 sU 23 sU 22 sU 24 sU 25 sU) 26 sU 27 (sB true) 3 (sB true)) (upd V0 2 (29,k2)) h15) (ptrN x1 fun b17 o18=>ldV (HP.cell h15 b17 (o18+3)) fun v19=>boolV v19 fun q20=>ite2 (!q20) (ldL (cellsN k2 0 6) fun l21=>ptrN x1 fun b22 o23=>ldL (HP.cellN h15 b22 o23 6) fun l24=>CF Try.prog 122 [(.agg ⟨l21⟩)] h15 fun u25 h26=>intV u25 .i64 fun i27=>CF Try.prog 122 [(.agg ⟨l24⟩)] h26 fun u28 h29=>intV u28 .i64 fun i30=>K (w3 (w8 (w8 (w8 e 2 (sR 2 0) 1 (sP x1) 4 (sQ b1 (o2+2)) 5 (sI i4) 6 (sA l5) 7 (sI i8) 8 (sB (decide (i4<i8))) 9 (sB true)) 10 (sR 2 2) 11 (sI i10) 12 (sA l13) 13 (sI i16) 14 (sB (decide (i10<i16))) 15 (sB (decide (i10<i16))) 16 (sB false) 17 (sQ b17 (o18+3))) 18 (sB q20) 19 (sB ((!q20))) 20 (sB true) 21 (sA l21) 23 (sA l24) 22 (sI i27) 24 (sI i30) 25 (sB (decide (i27 > i30)))) 26 (sB (decide (i27 > i30))) 27 (sB (decide (i27 > i30))) 3 (sB (decide (i27 > i30)))) (upd V0 2 (29,k2)) h29) (K (w3 (w8 (w8 (w8 e 2 (sR 2 0) 1 (sP x1) 4 (sQ b1 (o2+2)) 5 (sI i4) 6 (sA l5) 7 (sI i8) 8 (sB (decide (i4<i8))) 9 (sB true)) 10 (sR 2 2) 11 (sI i10) 12 (sA l13) 13 (sI i16) 14 (sB (decide (i10<i16))) 15 (sB (decide (i10<i16))) 16 (sB false) 17 (sQ b17 (o18+3))) 18 (sB q20) 19 (sB ((!q20))) 20 (sB false) 21 sU 23 sU 22 sU 24 sU 25 sU) 26 (sB false) 27 (sB false) 3 (sB false)) (upd V0 2 (29,k2)) h15))) (ptrN x1 fun b31 o32=>ldV (HP.cell h7 b31 (o32+3)) fun v33=>boolV v33 fun q34=>ite2 (!q34) (ldL (cellsN k2 0 6) fun l35=>ptrN x1 fun b36 o37=>ldL (HP.cellN h7 b36 o37 6) fun l38=>CF Try.prog 122 [(.agg ⟨l35⟩)] h7 fun u39 h40=>intV u39 .i64 fun i41=>CF Try.prog 122 [(.agg ⟨l38⟩)] h40 fun u42 h43=>intV u42 .i64 fun i44=>K (w3 (w8 (w8 (w8 e 2 (sR 2 0) 1 (sP x1) 4 (sQ b1 (o2+2)) 5 (sI i4) 6 (sA l5) 7 (sI i8) 8 (sB (decide (i4<i8))) 9 (sB false)) 10 sU 11 sU 12 sU 13 sU 14 sU 15 (sB false) 16 (sB false) 17 (sQ b31 (o32+3))) 18 (sB q34) 19 (sB ((!q34))) 20 (sB true) 21 (sA l35) 23 (sA l38) 22 (sI i41) 24 (sI i44) 25 (sB (decide (i41 > i44)))) 26 (sB (decide (i41 > i44))) 27 (sB (decide (i41 > i44))) 3 (sB (decide (i41 > i44)))) (upd V0 2 (29,k2)) h43) (K (w3 (w8 (w8 (w8 e 2 (sR 2 0) 1 (sP x1) 4 (sQ b1 (o2+2)) 5 (sI i4) 6 (sA l5) 7 (sI i8) 8 (sB (decide (i4<i8))) 9 (sB false)) 10 sU 11 sU 12 sU 13 sU 14 sU 15 (sB false) 16 (sB false) 17 (sQ b31 (o32+3))) 18 (sB q34) 19 (sB ((!q34))) 20 (sB false) 21 sU 23 sU 22 sU 24 sU 25 sU) 26 (sB false) 27 (sB false) 3 (sB false)) (upd V0 2 (29,k2)) h7))):= by kernel_rfl
theorem F123_r3 {e:Env} {x1:OA} {k2:List Value} {hp:HP} {K:Env→PV→HP→Prop}:RW Try.prog 28 [2,10] (opsAt Try.f123 (pth 5)) [0,2,3,1,4,5,6,7,8,9,10,11,12,13,14,15,16,17,18,19,20,21,22,23,24] (w2 e 2 (sR 2 0) 1 (sP x1)) (upd V0 2 (29,k2)) hp K=
 ptrN x1 fun b1 o2=>(ldL (cellsN k2 0 6) fun l3=>CF Try.prog 122 [(.agg ⟨l3⟩)] hp fun u4 h5=>intV u4 .i64 fun i6=>ldV (HP.cell h5 b1 (o2+2)) fun v7=>intV v7 .i64 fun i8=>ite2 (decide (i8<i6)) (ldV (k2)[2]? fun v9=>intV v9 .i64 fun i10=>ptrN x1 fun b11 o12=>ldL (HP.cellN h5 b11 o12 6) fun l13=>CF Try.prog 122 [(.agg ⟨l13⟩)] h5 fun u14 h15=>intV u14 .i64 fun i16=>ite2 (decide (i10<i16)) (K (w3 (w8 (w8 (w8 e 2 (sR 2 0) 1 (sP x1) 4 (sQ b1 (o2+2)) 6 (sA l3) 7 (sI i6) 5 (sI i8) 8 (sB (decide (i8<i6))) 9 (sB true)) 10 (sR 2 2) 11 (sI i10) 12 (sA l13) 13 (sI i16) 14 (sB (decide (i10<i16))) 15 (sB (decide (i10<i16))) 16 (sB true) 17 sU) 18 sU 19 sU 20 sU 21 sU 22 sU 23 sU 24 sU 25 sU) 26 sU 27 (sB true) 3 (sB true)) (upd V0 2 (29,k2)) h15) (ptrN x1 fun b17 o18=>ldV (HP.cell h15 b17 (o18+3)) fun v19=>boolV v19 fun q20=>ite2 (!q20) (ldL (cellsN k2 0 6) fun l21=>CF Try.prog 122 [(.agg ⟨l21⟩)] h15 fun u22 h23=>intV u22 .i64 fun i24=>ptrN x1 fun b25 o26=>ldL (HP.cellN h23 b25 o26 6) fun l27=>CF Try.prog 122 [(.agg ⟨l27⟩)] h23 fun u28 h29=>intV u28 .i64 fun i30=>K (w3 (w8 (w8 (w8 e 2 (sR 2 0) 1 (sP x1) 4 (sQ b1 (o2+2)) 6 (sA l3) 7 (sI i6) 5 (sI i8) 8 (sB (decide (i8<i6))) 9 (sB true)) 10 (sR 2 2) 11 (sI i10) 12 (sA l13) 13 (sI i16) 14 (sB (decide (i10<i16))) 15 (sB (decide (i10<i16))) 16 (sB false) 17 (sQ b17 (o18+3))) 18 (sB q20) 19 (sB ((!q20))) 20 (sB true) 21 (sA l21) 22 (sI i24) 23 (sA l27) 24 (sI i30) 25 (sB (decide (i24 > i30)))) 26 (sB (decide (i24 > i30))) 27 (sB (decide (i24 > i30))) 3 (sB (decide (i24 > i30)))) (upd V0 2 (29,k2)) h29) (K (w3 (w8 (w8 (w8 e 2 (sR 2 0) 1 (sP x1) 4 (sQ b1 (o2+2)) 6 (sA l3) 7 (sI i6) 5 (sI i8) 8 (sB (decide (i8<i6))) 9 (sB true)) 10 (sR 2 2) 11 (sI i10) 12 (sA l13) 13 (sI i16) 14 (sB (decide (i10<i16))) 15 (sB (decide (i10<i16))) 16 (sB false) 17 (sQ b17 (o18+3))) 18 (sB q20) 19 (sB ((!q20))) 20 (sB false) 21 sU 22 sU 23 sU 24 sU 25 sU) 26 (sB false) 27 (sB false) 3 (sB false)) (upd V0 2 (29,k2)) h15))) (ptrN x1 fun b31 o32=>ldV (HP.cell h5 b31 (o32+3)) fun v33=>boolV v33 fun q34=>ite2 (!q34) (ldL (cellsN k2 0 6) fun l35=>CF Try.prog 122 [(.agg ⟨l35⟩)] h5 fun u36 h37=>intV u36 .i64 fun i38=>ptrN x1 fun b39 o40=>ldL (HP.cellN h37 b39 o40 6) fun l41=>CF Try.prog 122 [(.agg ⟨l41⟩)] h37 fun u42 h43=>intV u42 .i64 fun i44=>K (w3 (w8 (w8 (w8 e 2 (sR 2 0) 1 (sP x1) 4 (sQ b1 (o2+2)) 6 (sA l3) 7 (sI i6) 5 (sI i8) 8 (sB (decide (i8<i6))) 9 (sB false)) 10 sU 11 sU 12 sU 13 sU 14 sU 15 (sB false) 16 (sB false) 17 (sQ b31 (o32+3))) 18 (sB q34) 19 (sB ((!q34))) 20 (sB true) 21 (sA l35) 22 (sI i38) 23 (sA l41) 24 (sI i44) 25 (sB (decide (i38 > i44)))) 26 (sB (decide (i38 > i44))) 27 (sB (decide (i38 > i44))) 3 (sB (decide (i38 > i44)))) (upd V0 2 (29,k2)) h43) (K (w3 (w8 (w8 (w8 e 2 (sR 2 0) 1 (sP x1) 4 (sQ b1 (o2+2)) 6 (sA l3) 7 (sI i6) 5 (sI i8) 8 (sB (decide (i8<i6))) 9 (sB false)) 10 sU 11 sU 12 sU 13 sU 14 sU 15 (sB false) 16 (sB false) 17 (sQ b31 (o32+3))) 18 (sB q34) 19 (sB ((!q34))) 20 (sB false) 21 sU 22 sU 23 sU 24 sU 25 sU) 26 (sB false) 27 (sB false) 3 (sB false)) (upd V0 2 (29,k2)) h5))):= by kernel_rfl
theorem F123_r4 {e:Env} {x1:OA} {k2:List Value} {hp:HP} {K:Env→PV→HP→Prop}:RW Try.prog 28 [2,10] (opsAt Try.f123 (pth 5)) [0,2,3,1,4,5,6,7,8,9,10,11,12,13,14,15,16,17,19,18,20,21,22,23,24] (w2 e 2 (sR 2 0) 1 (sP x1)) (upd V0 2 (29,k2)) hp K=
 ptrN x1 fun b1 o2=>(ldL (cellsN k2 0 6) fun l3=>CF Try.prog 122 [(.agg ⟨l3⟩)] hp fun u4 h5=>intV u4 .i64 fun i6=>ldV (HP.cell h5 b1 (o2+2)) fun v7=>intV v7 .i64 fun i8=>ite2 (decide (i8<i6)) (ldV (k2)[2]? fun v9=>intV v9 .i64 fun i10=>ptrN x1 fun b11 o12=>ldL (HP.cellN h5 b11 o12 6) fun l13=>CF Try.prog 122 [(.agg ⟨l13⟩)] h5 fun u14 h15=>intV u14 .i64 fun i16=>ite2 (decide (i10<i16)) (K (w3 (w8 (w8 (w8 e 2 (sR 2 0) 1 (sP x1) 4 (sQ b1 (o2+2)) 6 (sA l3) 7 (sI i6) 5 (sI i8) 8 (sB (decide (i8<i6))) 9 (sB true)) 10 (sR 2 2) 11 (sI i10) 12 (sA l13) 13 (sI i16) 14 (sB (decide (i10<i16))) 15 (sB (decide (i10<i16))) 16 (sB true) 17 sU) 18 sU 19 sU 20 sU 21 sU 23 sU 22 sU 24 sU 25 sU) 26 sU 27 (sB true) 3 (sB true)) (upd V0 2 (29,k2)) h15) (ptrN x1 fun b17 o18=>ldV (HP.cell h15 b17 (o18+3)) fun v19=>boolV v19 fun q20=>ite2 (!q20) (ldL (cellsN k2 0 6) fun l21=>ptrN x1 fun b22 o23=>ldL (HP.cellN h15 b22 o23 6) fun l24=>CF Try.prog 122 [(.agg ⟨l21⟩)] h15 fun u25 h26=>intV u25 .i64 fun i27=>CF Try.prog 122 [(.agg ⟨l24⟩)] h26 fun u28 h29=>intV u28 .i64 fun i30=>K (w3 (w8 (w8 (w8 e 2 (sR 2 0) 1 (sP x1) 4 (sQ b1 (o2+2)) 6 (sA l3) 7 (sI i6) 5 (sI i8) 8 (sB (decide (i8<i6))) 9 (sB true)) 10 (sR 2 2) 11 (sI i10) 12 (sA l13) 13 (sI i16) 14 (sB (decide (i10<i16))) 15 (sB (decide (i10<i16))) 16 (sB false) 17 (sQ b17 (o18+3))) 18 (sB q20) 19 (sB ((!q20))) 20 (sB true) 21 (sA l21) 23 (sA l24) 22 (sI i27) 24 (sI i30) 25 (sB (decide (i27 > i30)))) 26 (sB (decide (i27 > i30))) 27 (sB (decide (i27 > i30))) 3 (sB (decide (i27 > i30)))) (upd V0 2 (29,k2)) h29) (K (w3 (w8 (w8 (w8 e 2 (sR 2 0) 1 (sP x1) 4 (sQ b1 (o2+2)) 6 (sA l3) 7 (sI i6) 5 (sI i8) 8 (sB (decide (i8<i6))) 9 (sB true)) 10 (sR 2 2) 11 (sI i10) 12 (sA l13) 13 (sI i16) 14 (sB (decide (i10<i16))) 15 (sB (decide (i10<i16))) 16 (sB false) 17 (sQ b17 (o18+3))) 18 (sB q20) 19 (sB ((!q20))) 20 (sB false) 21 sU 23 sU 22 sU 24 sU 25 sU) 26 (sB false) 27 (sB false) 3 (sB false)) (upd V0 2 (29,k2)) h15))) (ptrN x1 fun b31 o32=>ldV (HP.cell h5 b31 (o32+3)) fun v33=>boolV v33 fun q34=>ite2 (!q34) (ldL (cellsN k2 0 6) fun l35=>ptrN x1 fun b36 o37=>ldL (HP.cellN h5 b36 o37 6) fun l38=>CF Try.prog 122 [(.agg ⟨l35⟩)] h5 fun u39 h40=>intV u39 .i64 fun i41=>CF Try.prog 122 [(.agg ⟨l38⟩)] h40 fun u42 h43=>intV u42 .i64 fun i44=>K (w3 (w8 (w8 (w8 e 2 (sR 2 0) 1 (sP x1) 4 (sQ b1 (o2+2)) 6 (sA l3) 7 (sI i6) 5 (sI i8) 8 (sB (decide (i8<i6))) 9 (sB false)) 10 sU 11 sU 12 sU 13 sU 14 sU 15 (sB false) 16 (sB false) 17 (sQ b31 (o32+3))) 18 (sB q34) 19 (sB ((!q34))) 20 (sB true) 21 (sA l35) 23 (sA l38) 22 (sI i41) 24 (sI i44) 25 (sB (decide (i41 > i44)))) 26 (sB (decide (i41 > i44))) 27 (sB (decide (i41 > i44))) 3 (sB (decide (i41 > i44)))) (upd V0 2 (29,k2)) h43) (K (w3 (w8 (w8 (w8 e 2 (sR 2 0) 1 (sP x1) 4 (sQ b1 (o2+2)) 6 (sA l3) 7 (sI i6) 5 (sI i8) 8 (sB (decide (i8<i6))) 9 (sB false)) 10 sU 11 sU 12 sU 13 sU 14 sU 15 (sB false) 16 (sB false) 17 (sQ b31 (o32+3))) 18 (sB q34) 19 (sB ((!q34))) 20 (sB false) 21 sU 23 sU 22 sU 24 sU 25 sU) 26 (sB false) 27 (sB false) 3 (sB false)) (upd V0 2 (29,k2)) h5))):= by kernel_rfl
def F123 (x0:List Value) (x1:OA) (hp:HP) (K:Kh):Prop:=
  ((ptrN x1 fun b1 o2=>ldV (HP.cell hp b1 (o2+2)) fun v3=>intV v3 .i64 fun i4=>ldL (cellsN x0 0 6) fun l5=>CF Try.prog 122 [(.agg ⟨l5⟩)] hp fun u6 h7=>intV u6 .i64 fun i8=>ite2 (decide (i4<i8)) (ldV (x0)[2]? fun v9=>intV v9 .i64 fun i10=>ptrN x1 fun b11 o12=>ldL (HP.cellN h7 b11 o12 6) fun l13=>CF Try.prog 122 [(.agg ⟨l13⟩)] h7 fun u14 h15=>intV u14 .i64 fun i16=>ite2 (decide (i10<i16)) (K (.bool true) h15) (ptrN x1 fun b17 o18=>ldV (HP.cell h15 b17 (o18+3)) fun v19=>boolV v19 fun q20=>ite2 (!q20) (ldL (cellsN x0 0 6) fun l21=>CF Try.prog 122 [(.agg ⟨l21⟩)] h15 fun u22 h23=>intV u22 .i64 fun i24=>ptrN x1 fun b25 o26=>ldL (HP.cellN h23 b25 o26 6) fun l27=>CF Try.prog 122 [(.agg ⟨l27⟩)] h23 fun u28 h29=>intV u28 .i64 fun i30=>K (.bool (decide (i24 > i30))) h29) (K (.bool false) h15))) (ptrN x1 fun b31 o32=>ldV (HP.cell h7 b31 (o32+3)) fun v33=>boolV v33 fun q34=>ite2 (!q34) (ldL (cellsN x0 0 6) fun l35=>CF Try.prog 122 [(.agg ⟨l35⟩)] h7 fun u36 h37=>intV u36 .i64 fun i38=>ptrN x1 fun b39 o40=>ldL (HP.cellN h37 b39 o40 6) fun l41=>CF Try.prog 122 [(.agg ⟨l41⟩)] h37 fun u42 h43=>intV u42 .i64 fun i44=>K (.bool (decide (i38 > i44))) h43) (K (.bool false) h7)))∧(ptrN x1 fun b45 o46=>ldV (HP.cell hp b45 (o46+2)) fun v47=>intV v47 .i64 fun i48=>ldL (cellsN x0 0 6) fun l49=>CF Try.prog 122 [(.agg ⟨l49⟩)] hp fun u50 h51=>intV u50 .i64 fun i52=>ite2 (decide (i48<i52)) (ldV (x0)[2]? fun v53=>intV v53 .i64 fun i54=>ptrN x1 fun b55 o56=>ldL (HP.cellN h51 b55 o56 6) fun l57=>CF Try.prog 122 [(.agg ⟨l57⟩)] h51 fun u58 h59=>intV u58 .i64 fun i60=>ite2 (decide (i54<i60)) (K (.bool true) h59) (ptrN x1 fun b61 o62=>ldV (HP.cell h59 b61 (o62+3)) fun v63=>boolV v63 fun q64=>ite2 (!q64) (ldL (cellsN x0 0 6) fun l65=>ptrN x1 fun b66 o67=>ldL (HP.cellN h59 b66 o67 6) fun l68=>CF Try.prog 122 [(.agg ⟨l65⟩)] h59 fun u69 h70=>intV u69 .i64 fun i71=>CF Try.prog 122 [(.agg ⟨l68⟩)] h70 fun u72 h73=>intV u72 .i64 fun i74=>K (.bool (decide (i71 > i74))) h73) (K (.bool false) h59))) (ptrN x1 fun b75 o76=>ldV (HP.cell h51 b75 (o76+3)) fun v77=>boolV v77 fun q78=>ite2 (!q78) (ldL (cellsN x0 0 6) fun l79=>ptrN x1 fun b80 o81=>ldL (HP.cellN h51 b80 o81 6) fun l82=>CF Try.prog 122 [(.agg ⟨l79⟩)] h51 fun u83 h84=>intV u83 .i64 fun i85=>CF Try.prog 122 [(.agg ⟨l82⟩)] h84 fun u86 h87=>intV u86 .i64 fun i88=>K (.bool (decide (i85 > i88))) h87) (K (.bool false) h51)))∧(ptrN x1 fun b89 o90=>ldL (cellsN x0 0 6) fun l91=>CF Try.prog 122 [(.agg ⟨l91⟩)] hp fun u92 h93=>intV u92 .i64 fun i94=>ldV (HP.cell h93 b89 (o90+2)) fun v95=>intV v95 .i64 fun i96=>ite2 (decide (i96<i94)) (ldV (x0)[2]? fun v97=>intV v97 .i64 fun i98=>ptrN x1 fun b99 o100=>ldL (HP.cellN h93 b99 o100 6) fun l101=>CF Try.prog 122 [(.agg ⟨l101⟩)] h93 fun u102 h103=>intV u102 .i64 fun i104=>ite2 (decide (i98<i104)) (K (.bool true) h103) (ptrN x1 fun b105 o106=>ldV (HP.cell h103 b105 (o106+3)) fun v107=>boolV v107 fun q108=>ite2 (!q108) (ldL (cellsN x0 0 6) fun l109=>CF Try.prog 122 [(.agg ⟨l109⟩)] h103 fun u110 h111=>intV u110 .i64 fun i112=>ptrN x1 fun b113 o114=>ldL (HP.cellN h111 b113 o114 6) fun l115=>CF Try.prog 122 [(.agg ⟨l115⟩)] h111 fun u116 h117=>intV u116 .i64 fun i118=>K (.bool (decide (i112 > i118))) h117) (K (.bool false) h103))) (ptrN x1 fun b119 o120=>ldV (HP.cell h93 b119 (o120+3)) fun v121=>boolV v121 fun q122=>ite2 (!q122) (ldL (cellsN x0 0 6) fun l123=>CF Try.prog 122 [(.agg ⟨l123⟩)] h93 fun u124 h125=>intV u124 .i64 fun i126=>ptrN x1 fun b127 o128=>ldL (HP.cellN h125 b127 o128 6) fun l129=>CF Try.prog 122 [(.agg ⟨l129⟩)] h125 fun u130 h131=>intV u130 .i64 fun i132=>K (.bool (decide (i126 > i132))) h131) (K (.bool false) h93)))∧(ptrN x1 fun b133 o134=>ldL (cellsN x0 0 6) fun l135=>CF Try.prog 122 [(.agg ⟨l135⟩)] hp fun u136 h137=>intV u136 .i64 fun i138=>ldV (HP.cell h137 b133 (o134+2)) fun v139=>intV v139 .i64 fun i140=>ite2 (decide (i140<i138)) (ldV (x0)[2]? fun v141=>intV v141 .i64 fun i142=>ptrN x1 fun b143 o144=>ldL (HP.cellN h137 b143 o144 6) fun l145=>CF Try.prog 122 [(.agg ⟨l145⟩)] h137 fun u146 h147=>intV u146 .i64 fun i148=>ite2 (decide (i142<i148)) (K (.bool true) h147) (ptrN x1 fun b149 o150=>ldV (HP.cell h147 b149 (o150+3)) fun v151=>boolV v151 fun q152=>ite2 (!q152) (ldL (cellsN x0 0 6) fun l153=>ptrN x1 fun b154 o155=>ldL (HP.cellN h147 b154 o155 6) fun l156=>CF Try.prog 122 [(.agg ⟨l153⟩)] h147 fun u157 h158=>intV u157 .i64 fun i159=>CF Try.prog 122 [(.agg ⟨l156⟩)] h158 fun u160 h161=>intV u160 .i64 fun i162=>K (.bool (decide (i159 > i162))) h161) (K (.bool false) h147))) (ptrN x1 fun b163 o164=>ldV (HP.cell h137 b163 (o164+3)) fun v165=>boolV v165 fun q166=>ite2 (!q166) (ldL (cellsN x0 0 6) fun l167=>ptrN x1 fun b168 o169=>ldL (HP.cellN h137 b168 o169 6) fun l170=>CF Try.prog 122 [(.agg ⟨l167⟩)] h137 fun u171 h172=>intV u171 .i64 fun i173=>CF Try.prog 122 [(.agg ⟨l170⟩)] h172 fun u174 h175=>intV u174 .i64 fun i176=>K (.bool (decide (i173 > i176))) h175) (K (.bool false) h137))))
noncomputable def F123_code:Code:=(.seq (.region 0 (opsAt Try.f123 (pth 2)) false) (.seq (.region 1 (opsAt Try.f123 (pth 5)) true) .ret))
theorem F123_body:Try.f123.body=some F123_code:=by kernel_rfl
theorem F123_ok (x0:List Value) (x1:OA) (hp:HP) (K:Kh) (h:F123 x0 x1 hp K):CF Try.prog 123 [(.agg ⟨x0⟩),(.pointer x1)] hp K:=by
 refine .inl ⟨by kernel_rfl,AC.intro (N:=28) Try.func123 F123_body rfl (Nat.le_of_ble_eq_true rfl) ?_⟩
 unfold F123 at h
 refine Ar F123_r0 ?_ (r2 0 1 Rn) (z2 Sn) Sn
 refine Aq (AWP.rgnC (cf:=[(1,3),(18,19)]) (c:=[([true,true],true,[0,1,2,3,4,5,6,7,8,9,10,11,12,13,14,15,16,17,18,19,20,21,22,23,24]),([true,false],true,[0,1,2,3,4,5,6,7,8,9,10,11,12,13,14,15,16,17,19,18,20,21,22,23,24]),([false,true],true,[0,2,3,1,4,5,6,7,8,9,10,11,12,13,14,15,16,17,18,19,20,21,22,23,24]),([false,false],true,[0,2,3,1,4,5,6,7,8,9,10,11,12,13,14,15,16,17,19,18,20,21,22,23,24])]) (by kernel_rfl) (by kernel_rfl) (by kernel_rfl) (by kernel_rfl) (allO_t (Eq.mpr F123_r1 ?_) (allO_t (Eq.mpr F123_r2 ?_) (allO_t (Eq.mpr F123_r3 ?_) (allO_t (Eq.mpr F123_r4 ?_) trivial)))) (r1 1 (rp 2 2 0 Rn)) (z2 Sn) (z1 Sn))
 ·replace h:=h.1
  refine mN h fun b1 o2 h=>mV h fun v3 h=>mI h fun i4 h=>mL h fun l5 h=>mC h fun u6 h7 h=>mI h fun i8 h=>?_
  refine mt h (fun h=>?_) (fun h=>?_)
  ·refine mV h fun v9 h=>mI h fun i10 h=>mN h fun b11 o12 h=>mL h fun l13 h=>mC h fun u14 h15 h=>mI h fun i16 h=>?_
   refine mt h (fun h=>?_) (fun h=>?_)
   ·refine AWP.ret ?_
    exact h
   ·refine mN h fun b17 o18 h=>mV h fun v19 h=>mB h fun q20 h=>?_
    refine mt h (fun h=>?_) (fun h=>?_)
    ·refine mL h fun l21 h=>mC h fun u22 h23 h=>mI h fun i24 h=>mN h fun b25 o26 h=>mL h fun l27 h=>mC h fun u28 h29 h=>mI h fun i30 h=>?_
     refine AWP.ret ?_
     exact h
    ·refine AWP.ret ?_
     exact h
  ·refine mN h fun b31 o32 h=>mV h fun v33 h=>mB h fun q34 h=>?_
   refine mt h (fun h=>?_) (fun h=>?_)
   ·refine mL h fun l35 h=>mC h fun u36 h37 h=>mI h fun i38 h=>mN h fun b39 o40 h=>mL h fun l41 h=>mC h fun u42 h43 h=>mI h fun i44 h=>?_
    refine AWP.ret ?_
    exact h
   ·refine AWP.ret ?_
    exact h
 ·replace h:=h.2.1
  refine mN h fun b45 o46 h=>mV h fun v47 h=>mI h fun i48 h=>mL h fun l49 h=>mC h fun u50 h51 h=>mI h fun i52 h=>?_
  refine mt h (fun h=>?_) (fun h=>?_)
  ·refine mV h fun v53 h=>mI h fun i54 h=>mN h fun b55 o56 h=>mL h fun l57 h=>mC h fun u58 h59 h=>mI h fun i60 h=>?_
   refine mt h (fun h=>?_) (fun h=>?_)
   ·refine AWP.ret ?_
    exact h
   ·refine mN h fun b61 o62 h=>mV h fun v63 h=>mB h fun q64 h=>?_
    refine mt h (fun h=>?_) (fun h=>?_)
    ·refine mL h fun l65 h=>mN h fun b66 o67 h=>mL h fun l68 h=>mC h fun u69 h70 h=>mI h fun i71 h=>mC h fun u72 h73 h=>mI h fun i74 h=>?_
     refine AWP.ret ?_
     exact h
    ·refine AWP.ret ?_
     exact h
  ·refine mN h fun b75 o76 h=>mV h fun v77 h=>mB h fun q78 h=>?_
   refine mt h (fun h=>?_) (fun h=>?_)
   ·refine mL h fun l79 h=>mN h fun b80 o81 h=>mL h fun l82 h=>mC h fun u83 h84 h=>mI h fun i85 h=>mC h fun u86 h87 h=>mI h fun i88 h=>?_
    refine AWP.ret ?_
    exact h
   ·refine AWP.ret ?_
    exact h
 ·replace h:=h.2.2.1
  refine mN h fun b89 o90 h=>mL h fun l91 h=>mC h fun u92 h93 h=>mI h fun i94 h=>mV h fun v95 h=>mI h fun i96 h=>?_
  refine mt h (fun h=>?_) (fun h=>?_)
  ·refine mV h fun v97 h=>mI h fun i98 h=>mN h fun b99 o100 h=>mL h fun l101 h=>mC h fun u102 h103 h=>mI h fun i104 h=>?_
   refine mt h (fun h=>?_) (fun h=>?_)
   ·refine AWP.ret ?_
    exact h
   ·refine mN h fun b105 o106 h=>mV h fun v107 h=>mB h fun q108 h=>?_
    refine mt h (fun h=>?_) (fun h=>?_)
    ·refine mL h fun l109 h=>mC h fun u110 h111 h=>mI h fun i112 h=>mN h fun b113 o114 h=>mL h fun l115 h=>mC h fun u116 h117 h=>mI h fun i118 h=>?_
     refine AWP.ret ?_
     exact h
    ·refine AWP.ret ?_
     exact h
  ·refine mN h fun b119 o120 h=>mV h fun v121 h=>mB h fun q122 h=>?_
   refine mt h (fun h=>?_) (fun h=>?_)
   ·refine mL h fun l123 h=>mC h fun u124 h125 h=>mI h fun i126 h=>mN h fun b127 o128 h=>mL h fun l129 h=>mC h fun u130 h131 h=>mI h fun i132 h=>?_
    refine AWP.ret ?_
    exact h
   ·refine AWP.ret ?_
    exact h
 ·replace h:=h.2.2.2
  refine mN h fun b133 o134 h=>mL h fun l135 h=>mC h fun u136 h137 h=>mI h fun i138 h=>mV h fun v139 h=>mI h fun i140 h=>?_
  refine mt h (fun h=>?_) (fun h=>?_)
  ·refine mV h fun v141 h=>mI h fun i142 h=>mN h fun b143 o144 h=>mL h fun l145 h=>mC h fun u146 h147 h=>mI h fun i148 h=>?_
   refine mt h (fun h=>?_) (fun h=>?_)
   ·refine AWP.ret ?_
    exact h
   ·refine mN h fun b149 o150 h=>mV h fun v151 h=>mB h fun q152 h=>?_
    refine mt h (fun h=>?_) (fun h=>?_)
    ·refine mL h fun l153 h=>mN h fun b154 o155 h=>mL h fun l156 h=>mC h fun u157 h158 h=>mI h fun i159 h=>mC h fun u160 h161 h=>mI h fun i162 h=>?_
     refine AWP.ret ?_
     exact h
    ·refine AWP.ret ?_
     exact h
  ·refine mN h fun b163 o164 h=>mV h fun v165 h=>mB h fun q166 h=>?_
   refine mt h (fun h=>?_) (fun h=>?_)
   ·refine mL h fun l167 h=>mN h fun b168 o169 h=>mL h fun l170 h=>mC h fun u171 h172 h=>mI h fun i173 h=>mC h fun u174 h175 h=>mI h fun i176 h=>?_
    refine AWP.ret ?_
    exact h
   ·refine AWP.ret ?_
    exact h
end
section
variable {e:Env} {x0a:OA} {x0n x0c:Nat} {x1:Value} {hp:HP} {K:Env→PV→HP→Prop}
abbrev R124 (p n:Nat):=RW Try.prog 9 [] (opsAt Try.f124 (pth p)) (List.range n)
theorem F124_r0:R124 1 5 (w2 e 1 (sV x1) 0 (sS x0a x0n x0c)) V0 hp K=
 CF Try.prog 145 [(.slice x0a x0n x0c),(.int .i64 (x0n:Nat)),x1] hp fun u1 h2=>(K (w7 e 1 (sV x1) 0 (sS x0a x0n x0c) 4 (sS x0a x0n x0c) 5 (sS x0a x0n x0c) 6 (sI ((x0n:Nat))) 7 (sV x1) 8 (sV u1)) V0 h2):= by kernel_rfl
def F124 (x0a:OA) (x0n x0c:Nat) (x1:Value) (hp:HP) (K:Kh):Prop:=
  (CF Try.prog 145 [(.slice x0a x0n x0c),(.int .i64 (x0n:Nat)),x1] hp fun u1 h2=>K (.tuple ⟨[]⟩) h2)
noncomputable def F124_code:Code:=(.region 0 (opsAt Try.f124 (pth 1)) false)
theorem F124_body:Try.f124.body=some F124_code:=by kernel_rfl
theorem F124_ok (x0a:OA) (x0n x0c:Nat) (x1:Value) (hp:HP) (K:Kh) (h:F124 x0a x0n x0c x1 hp K):CF Try.prog 124 [(.slice x0a x0n x0c),x1] hp K:=by
 refine .inl ⟨by kernel_rfl,AC.intro (N:=9) Try.func124 F124_body rfl (Nat.le_of_ble_eq_true rfl) ?_⟩
 unfold F124 at h
 refine Ag F124_r0 ?_ (r2 0 1 Rn) (z2 Sn) Sn
 refine mC h fun u1 h2 h=>?_
 exact h
end
section
variable {e:Env} {x0 x1 k2 k3:List Value} {hp:HP} {K:Env→PV→HP→Prop}
abbrev R125 (p n:Nat):=RW Try.prog 17 [2,3,5,7] (opsAt Try.f125 (pth p)) (List.range n)
theorem F125_r0:R125 2 3 (w2 e 1 (sA x1) 0 (sA x0)) V0 hp K=
 K (w5 e 1 (sA x1) 0 (sA x0) 2 (sR 2 0) 3 (sR 3 0) 4 (sI 0)) (w2 V0 2 (29,x0) 3 (29,x1)) hp:= by kernel_rfl
theorem F125_r1:R125 5 13 (w2 e 3 (sR 3 0) 2 (sR 2 0)) (w2 V0 3 (29,k3) 2 (29,k2)) hp K=
 ldV (k2)[2]? fun v1=>(intV v1 .i64 fun i2=>ldV (k3)[2]? fun v3=>intV v3 .i64 fun i4=>CF Try.prog 97 [(.int .i64 i2),(.int .i64 i4)] hp fun u5 h6=>intV u5 .i64 fun i7=>ldL (cellsN k2 0 6) fun l8=>CF Try.prog 122 [(.agg ⟨l8⟩)] h6 fun u9 h10=>intV u9 .i64 fun i11=>ldL (cellsN k3 0 6) fun l12=>CF Try.prog 122 [(.agg ⟨l12⟩)] h10 fun u13 h14=>intV u13 .i64 fun i15=>CF Try.prog 97 [(.int .i64 i11),(.int .i64 i15)] h14 fun u16 h17=>intV u16 .i64 fun i18=>∀ b19:Nat,h17 b19=.none→(CF Try.prog 96 [(.slice (some ⟨b19,0,none⟩) 2 2)] (HP.set h17 b19 (.cells 3 [(.int .i64 i7),(.int .i64 i18)] 0)) fun u20 h21=>intV u20 .i64 fun i22=>K (w7 (w8 e 3 (sR 3 0) 2 (sR 2 0) 5 (sR 2 2) 6 (sI i2) 7 (sR 3 2) 8 (sI i4) 9 (sI i7) 10 (sA l8)) 11 (sI i11) 12 (sA l12) 13 (sI i15) 14 (sI i18) 15 (sV (.slice (some ⟨b19,0,none⟩) 2 2)) 16 (sI i22) 4 (sI i22)) (w2 V0 3 (29,k3) 2 (29,k2)) h21)):= by kernel_rfl
def F125 (x0 x1:List Value) (hp:HP) (K:Kh):Prop:=
  (ldV (x0)[2]? fun v1=>intV v1 .i64 fun i2=>ldV (x1)[2]? fun v3=>intV v3 .i64 fun i4=>CF Try.prog 97 [(.int .i64 i2),(.int .i64 i4)] hp fun u5 h6=>intV u5 .i64 fun i7=>ldL (cellsN x0 0 6) fun l8=>CF Try.prog 122 [(.agg ⟨l8⟩)] h6 fun u9 h10=>intV u9 .i64 fun i11=>ldL (cellsN x1 0 6) fun l12=>CF Try.prog 122 [(.agg ⟨l12⟩)] h10 fun u13 h14=>intV u13 .i64 fun i15=>CF Try.prog 97 [(.int .i64 i11),(.int .i64 i15)] h14 fun u16 h17=>intV u16 .i64 fun i18=>∀ b19:Nat,h17 b19=.none→(CF Try.prog 96 [(.slice (some ⟨b19,0,none⟩) 2 2)] (HP.set h17 b19 (.cells 3 [(.int .i64 i7),(.int .i64 i18)] 0)) fun u20 h21=>intV u20 .i64 fun i22=>K (.int .i64 i22) h21))
noncomputable def F125_code:Code:=(.seq (.region 0 (opsAt Try.f125 (pth 2)) false) (.seq (.region 1 (opsAt Try.f125 (pth 5)) true) .ret))
theorem F125_body:Try.f125.body=some F125_code:=by kernel_rfl
theorem F125_ok (x0 x1:List Value) (hp:HP) (K:Kh) (h:F125 x0 x1 hp K):CF Try.prog 125 [(.agg ⟨x0⟩),(.agg ⟨x1⟩)] hp K:=by
 refine .inl ⟨by kernel_rfl,AC.intro (N:=17) Try.func125 F125_body rfl (Nat.le_of_ble_eq_true rfl) ?_⟩
 unfold F125 at h
 refine Ar F125_r0 ?_ (r2 0 1 Rn) (z2 Sn) Sn
 refine Aq (AWP.rgnD (by kernel_rfl) (by kernel_rfl) F125_r1 ?_ (rp 2 2 0 (rp 3 3 0 Rn)) (z2 Sn) (z2 Sn))
 refine mV h fun v1 h=>mI h fun i2 h=>mV h fun v3 h=>mI h fun i4 h=>mC h fun u5 h6 h=>mI h fun i7 h=>mL h fun l8 h=>mC h fun u9 h10 h=>mI h fun i11 h=>mL h fun l12 h=>mC h fun u13 h14 h=>mI h fun i15 h=>mC h fun u16 h17 h=>mI h fun i18 h=>?_
 refine fun b19 hb_b_19=>?_
 replace h:=h b19 hb_b_19
 refine mC h fun u20 h21 h=>mI h fun i22 h=>?_
 refine AWP.ret ?_
 exact h
end
section
variable {e E:Env} {x0a:OA} {x0n x0c:Nat} {x1:Int} {x2:Value} {x6 x7 x8 x9:Int} {hp:HP} {K:Env→PV→HP→Prop}
abbrev R145 (p n:Nat):=RW Try.prog 63 [] (opsAt Try.f145 (pth p)) (List.range n)
theorem F145_r0:R145 2 1 e V0 hp K=
 K (upd e 6 (sI 20)) V0 hp:= by kernel_rfl
theorem F145_r1:R145 271 3 (w2 e 6 (sI x6) 1 (sI x1)) V0 hp K=
 K (w5 e 6 (sI x6) 1 (sI x1) 28 (sI x6) 29 (sI x1) 30 (sB (decide (x6<x1)))) V0 hp:= by kernel_rfl
theorem F145_r2:R145 3919 3 (upd e 6 (sI x6)) V0 hp K=
 K (w4 e 6 (sI x6) 61 (sI x6) 62 (sI ((wr (x6*2)))) 6 (sI ((wr (x6*2))))) V0 hp:= by kernel_rfl
def F145_j7 (x0a:OA) (x0n x0c:Nat) (x1:Int) (x2:Value) (x6:Int) (hp:HP) (I4:(Int)→HP→Prop) (K:Kh):Prop:=
  (I4 (IntKind.wrap .i64 (x6*2)) hp)
theorem F145_r3:R145 4943 4 (w2 e 7 (sI x7) 6 (sI x6)) V0 hp K=
 K (w6 e 7 (sI x7) 6 (sI x6) 49 (sI x7) 50 (sI x6) 51 (sI ((wr (x7+x6)))) 9 (sI ((wr (x7+x6))))) V0 hp:= by kernel_rfl
theorem F145_r4:R145 11087 3 (w2 e 9 (sI x9) 1 (sI x1)) V0 hp K=
 K (w5 e 9 (sI x9) 1 (sI x1) 52 (sI x9) 53 (sI x1) 54 (sB (decide (x9<x1)))) V0 hp:= by kernel_rfl
theorem F145_r5 (h:E=upd (w4 e 9 (sI x9) 7 (sI x7) 2 (sV x2) 1 (sI x1)) 0 (sS x0a x0n x0c)):R145 23375 6 E V0 hp K=
 CF Try.prog 170 [(.slice x0a x0n x0c),(.int .i64 x7),(.int .i64 x9),(.int .i64 x1),x2] hp fun u1 h2=>(K (w6 E 55 (sS x0a x0n x0c) 56 (sI x7) 57 (sI x9) 58 (sI x1) 59 (sV x2) 60 (sV u1)) V0 h2):= by subst h; kernel_rfl
def F145_j6 (x0a:OA) (x0n x0c:Nat) (x1:Int) (x2:Value) (x6 x7:Int) (hp:HP) (I4:(Int)→HP→Prop) (K:Kh):Prop:=
  (ite2 (decide (((IntKind.wrap .i64 (x7+x6)):Int)<x1)) (CF Try.prog 170 [(.slice x0a x0n x0c),(.int .i64 x7),(.int .i64 (IntKind.wrap .i64 (x7+x6))),(.int .i64 x1),x2] hp fun u1 h2=>F145_j7 x0a x0n x0c x1 x2 x6 h2 I4 K) (F145_j7 x0a x0n x0c x1 x2 x6 hp I4 K))
theorem F145_r6:R145 16719 3 (w2 e 8 (sI x8) 1 (sI x1)) V0 hp K=
 K (w5 e 8 (sI x8) 1 (sI x1) 33 (sI x8) 34 (sI x1) 35 (sB (decide (x8≤x1)))) V0 hp:= by kernel_rfl
theorem F145_r7 (h:E=upd (w4 e 8 (sI x8) 7 (sI x7) 6 (sI x6) 2 (sV x2)) 0 (sS x0a x0n x0c)):R145 37199 8 E V0 hp K=
 CF Try.prog 170 [(.slice x0a x0n x0c),(.int .i64 x7),(.int .i64 (wr (x7+x6))),(.int .i64 x8),x2] hp fun u1 h2=>(K (w8 E 36 (sS x0a x0n x0c) 37 (sI x7) 38 (sI x7) 39 (sI x6) 40 (sI ((wr (x7+x6)))) 41 (sI x8) 42 (sV x2) 43 (sV u1)) V0 h2):= by subst h; kernel_rfl
theorem F145_r8:R145 86351 2 (upd e 8 (sI x8)) V0 hp K=
 K (w3 e 8 (sI x8) 44 (sI x8) 7 (sI x8)) V0 hp:= by kernel_rfl
theorem F145_r9:R145 119119 5 (w2 e 8 (sI x8) 6 (sI x6)) V0 hp K=
 K (w7 e 8 (sI x8) 6 (sI x6) 45 (sI x8) 46 (sI x6) 47 (sI ((wr (2*x6)))) 48 (sI ((wr (x8+(wr (2*x6)))))) 8 (sI ((wr (x8+(wr (2*x6))))))) V0 hp:= by kernel_rfl
def F145_l8 (x0a:OA) (x0n x0c:Nat) (x1:Int) (x2:Value) (x6:Int) (I4:(Int)→HP→Prop) (K:Kh) (I8:(Int × Int)→HP→Prop) (x7 x8:Int) (hp:HP):Prop:=
  (ite2 (decide (x8≤x1)) (CF Try.prog 170 [(.slice x0a x0n x0c),(.int .i64 x7),(.int .i64 (IntKind.wrap .i64 (x7+x6))),(.int .i64 x8),x2] hp fun u3 h4=>I8 (x8,(IntKind.wrap .i64 (x8+(IntKind.wrap .i64 (2*x6))))) h4) (F145_j6 x0a x0n x0c x1 x2 x6 x7 hp I4 K))
def F145_j5 (x0a:OA) (x0n x0c:Nat) (x1:Int) (x2:Value) (x6 x7 x8:Int) (hp:HP) (I4:(Int)→HP→Prop) (K:Kh):Prop:=
  (LoopP (σ:=Int × Int) (fun I s hp=>F145_l8 x0a x0n x0c x1 x2 x6 I4 K I s.1 s.2 hp) (x7,x8) hp)
theorem F145_r10:R145 591 4 (upd e 6 (sI x6)) V0 hp K=
 K (w5 e 6 (sI x6) 31 (sI x6) 32 (sI ((wr (2*x6)))) 7 (sI 0) 8 (sI ((wr (2*x6))))) V0 hp:= by kernel_rfl
def F145_l4 (x0a:OA) (x0n x0c:Nat) (x1:Int) (x2:Value) (K:Kh) (I4:(Int)→HP→Prop) (x6:Int) (hp:HP):Prop:=
  (ite2 (decide (x6<x1)) (F145_j5 x0a x0n x0c x1 x2 x6 0 (IntKind.wrap .i64 (2*x6)) hp I4 K) (K (.tuple ⟨[]⟩) hp))
def F145_j3 (x0a:OA) (x0n x0c:Nat) (x1:Int) (x2:Value) (x6:Int) (hp:HP) (K:Kh):Prop:=
  (LoopP (σ:=Int) (fun I s hp=>F145_l4 x0a x0n x0c x1 x2  K I s hp) x6 hp)
theorem F145_r11 (h:E=upd (w3 e 7 (sI x7) 2 (sV x2) 1 (sI x1)) 0 (sS x0a x0n x0c)):R145 23 5 E V0 hp K=
 CF Try.prog 169 [(.slice x0a x0n x0c),(.int .i64 x7),(.int .i64 x1),x2] hp fun u1 h2=>(K (w5 E 23 (sS x0a x0n x0c) 24 (sI x7) 25 (sI x1) 26 (sV x2) 27 (sV u1)) V0 h2):= by subst h; kernel_rfl
def F145_j2 (x0a:OA) (x0n x0c:Nat) (x1:Int) (x2:Value) (x6 x7:Int) (hp:HP) (K:Kh):Prop:=
  (CF Try.prog 169 [(.slice x0a x0n x0c),(.int .i64 x7),(.int .i64 x1),x2] hp fun u5 h6=>F145_j3 x0a x0n x0c x1 x2 x6 h6  K)
theorem F145_r12:R145 131 3 (w2 e 8 (sI x8) 1 (sI x1)) V0 hp K=
 K (w5 e 8 (sI x8) 1 (sI x1) 11 (sI x8) 12 (sI x1) 13 (sB (decide (x8≤x1)))) V0 hp:= by kernel_rfl
theorem F145_r13 (h:E=upd (w3 e 8 (sI x8) 7 (sI x7) 2 (sV x2)) 0 (sS x0a x0n x0c)):R145 291 5 E V0 hp K=
 CF Try.prog 169 [(.slice x0a x0n x0c),(.int .i64 x7),(.int .i64 x8),x2] hp fun u1 h2=>(K (w5 E 14 (sS x0a x0n x0c) 15 (sI x7) 16 (sI x8) 17 (sV x2) 18 (sV u1)) V0 h2):= by subst h; kernel_rfl
theorem F145_r14:R145 675 2 (upd e 8 (sI x8)) V0 hp K=
 K (w3 e 8 (sI x8) 19 (sI x8) 7 (sI x8)) V0 hp:= by kernel_rfl
theorem F145_r15:R145 931 4 (w2 e 8 (sI x8) 6 (sI x6)) V0 hp K=
 K (w6 e 8 (sI x8) 6 (sI x6) 20 (sI x8) 21 (sI x6) 22 (sI ((wr (x8+x6)))) 8 (sI ((wr (x8+x6))))) V0 hp:= by kernel_rfl
def F145_l9 (x0a:OA) (x0n x0c:Nat) (x1:Int) (x2:Value) (x6:Int) (K:Kh) (I9:(Int × Int)→HP→Prop) (x7 x8:Int) (hp:HP):Prop:=
  (ite2 (decide (x8≤x1)) (CF Try.prog 169 [(.slice x0a x0n x0c),(.int .i64 x7),(.int .i64 x8),x2] hp fun u7 h8=>I9 (x8,(IntKind.wrap .i64 (x8+x6))) h8) (F145_j2 x0a x0n x0c x1 x2 x6 x7 hp  K))
def F145_j1 (x0a:OA) (x0n x0c:Nat) (x1:Int) (x2:Value) (x6 x7 x8:Int) (hp:HP) (K:Kh):Prop:=
  (LoopP (σ:=Int × Int) (fun I s hp=>F145_l9 x0a x0n x0c x1 x2 x6  K I s.1 s.2 hp) (x7,x8) hp)
theorem F145_r16:R145 5 3 (upd e 6 (sI x6)) V0 hp K=
 K (w4 e 6 (sI x6) 10 (sI x6) 7 (sI 0) 8 (sI x6)) V0 hp:= by kernel_rfl
def F145 (x0a:OA) (x0n x0c:Nat) (x1:Int) (x2:Value) (hp:HP) (K:Kh):Prop:=
  (F145_j1 x0a x0n x0c x1 x2 20 0 20 hp  K)
noncomputable abbrev o145 (k n:Nat):Code:=.region k (opsAt Try.f145 (pth n)) false
noncomputable def F145_code:Code:=(.seq (o145 0 2) (.seq (o145 1 5) (.seq (.block 0 (.loop (.seq (.seq (o145 2 131) (.cond (.tmp 13) .skip (.exit 0))) (.block 1 (.seq (o145 3 291) (.seq (o145 4 675) (o145 5 931))))))) (.seq (o145 6 23) (.block 2 (.loop (.seq (.seq (o145 7 271) (.cond (.tmp 30) .skip (.exit 2))) (.block 3 (.seq (o145 8 591) (.seq (.block 4 (.loop (.seq (.seq (o145 9 16719) (.cond (.tmp 35) .skip (.exit 4))) (.block 5 (.seq (o145 10 37199) (.seq (o145 11 86351) (o145 12 119119))))))) (.seq (.seq (o145 13 4943) (.seq (o145 14 11087) (.cond (.tmp 54) (o145 15 23375) .skip))) (o145 16 3919))))))))))))
theorem F145_body:Try.f145.body=some F145_code:=by kernel_rfl
theorem F145_ok (x0a:OA) (x0n x0c:Nat) (x1:Int) (x2:Value) (hp:HP) (K:Kh) (h:F145 x0a x0n x0c x1 x2 hp K):CF Try.prog 145 [(.slice x0a x0n x0c),(.int .i64 x1),x2] hp K:=by
 refine .inl ⟨by kernel_rfl,AC.intro (N:=63) Try.func145 F145_body rfl (Nat.le_of_ble_eq_true rfl) ?_⟩
 unfold F145 at h
 refine Ar F145_r0 ?_ (r3 0 1 2 Rn) (z3 Sn) Sn
 refine As (fun env pv hp=>∃ x0a x0n x0c x1 x2 x6 x7 x8,Sub (w6 E0 8 (sI x8) 7 (sI x7) 6 (sI x6) 2 (sV x2) 1 (sI x1) 0 (sS x0a x0n x0c)) env∧Sub V0 pv∧F145_j1 x0a x0n x0c x1 x2 x6 x7 x8 hp  K) ?_ ?_
 ·refine Ag F145_r16 ?_ (r4 6 0 1 2 Rn) (z4 Sn) Sn
  exact ⟨_,_,_,_,_,_,_,_,(z6 Sn),Sn,h⟩
 ·rintro env pv hp ⟨x0a,x0n,x0c,x1,x2,x6,x7,x8,he,hv,h⟩
  refine Ae ?_ (r6 0 1 2 6 7 8 Rn) he hv
  unfold F145_j1 at h
  refine As (fun env pv hp=>∃ x0a x0n x0c x1 x2 x6 x7,Sub (w5 E0 7 (sI x7) 6 (sI x6) 2 (sV x2) 1 (sI x1) 0 (sS x0a x0n x0c)) env∧Sub V0 pv∧F145_j2 x0a x0n x0c x1 x2 x6 x7 hp  K) ?_ ?_
  ·refine AWP.block (AWP.loop (σ:=Int × Int) _ (fun s=>w6 E0 8 (sI (s.2)) 7 (sI (s.1)) 6 (sI x6) 2 (sV x2) 1 (sI x1) 0 (sS x0a x0n x0c)) (fun s=>V0) (x7,x8) h (fun s=>r6 0 1 2 6 7 8 Rn) (z6 Sn) Sn ?_)
   intro I9 s hp h
   obtain ⟨x7,x8⟩:=s
   replace h:F145_l9 x0a x0n x0c x1 x2 x6  K I9 x7 x8 hp:=h
   unfold F145_l9 at h
   refine Aq (Ar F145_r12 ?_ (r6 1 8 0 2 6 7 Rn) (z6 Sn) Sn)
   refine Ac h rfl (fun h=>?_) (fun h=>?_)
   ·refine AWP.skip (AWP.block (Ar (F145_r13 rfl) ?_ (r6 0 2 7 8 1 6 Rn) (z6 Sn) Sn))
    refine mC h fun u7 h8 h=>?_
    refine Ar F145_r14 ?_ (r5 8 0 1 2 6 Rn) (z5 Sn) Sn
    refine Ag F145_r15 ?_ (r6 6 8 0 1 2 7 Rn) (z6 Sn) Sn
    exact ⟨_,(z6 Sn),Sn,h⟩
   ·refine AWP.exit ?_
    exact ⟨_,_,_,_,_,_,_,(z5 Sn),Sn,h⟩
  ·rintro env pv hp ⟨x0a,x0n,x0c,x1,x2,x6,x7,he,hv,h⟩
   refine Ae ?_ (r5 0 1 2 6 7 Rn) he hv
   unfold F145_j2 at h
   refine As (fun env pv hp=>∃ x0a x0n x0c x1 x2 x6,Sub (w4 E0 6 (sI x6) 2 (sV x2) 1 (sI x1) 0 (sS x0a x0n x0c)) env∧Sub V0 pv∧F145_j3 x0a x0n x0c x1 x2 x6 hp  K) ?_ ?_
   ·refine Ag (F145_r11 rfl) ?_ (r5 0 1 2 7 6 Rn) (z5 Sn) Sn
    refine mC h fun u5 h6 h=>?_
    exact ⟨_,_,_,_,_,_,(z4 Sn),Sn,h⟩
   ·rintro env pv hp ⟨x0a,x0n,x0c,x1,x2,x6,he,hv,h⟩
    refine Ae ?_ (r4 0 1 2 6 Rn) he hv
    unfold F145_j3 at h
    refine AWP.block (AWP.loop (σ:=Int) _ (fun s=>w4 E0 6 (sI s) 2 (sV x2) 1 (sI x1) 0 (sS x0a x0n x0c)) (fun s=>V0) x6 h (fun s=>r4 0 1 2 6 Rn) (z4 Sn) Sn ?_)
    intro I4 x6 hp h
    replace h:F145_l4 x0a x0n x0c x1 x2  K I4 x6 hp:=h
    unfold F145_l4 at h
    refine Aq (Ar F145_r1 ?_ (r4 1 6 0 2 Rn) (z4 Sn) Sn)
    refine Ac h rfl (fun h=>?_) (fun h=>?_)
    ·refine AWP.skip (AWP.block (As (fun env pv hp=>∃ x6 x7 x8,Sub (w6 E0 8 (sI x8) 7 (sI x7) 6 (sI x6) 2 (sV x2) 1 (sI x1) 0 (sS x0a x0n x0c)) env∧Sub V0 pv∧F145_j5 x0a x0n x0c x1 x2 x6 x7 x8 hp I4 K) ?_ ?_))
     ·refine Ag F145_r10 ?_ (r4 6 0 1 2 Rn) (z4 Sn) Sn
      exact ⟨_,_,_,(z6 Sn),Sn,h⟩
     ·rintro env pv hp ⟨x6,x7,x8,he,hv,h⟩
      refine Ae ?_ (r6 0 1 2 6 7 8 Rn) he hv
      unfold F145_j5 at h
      refine As (fun env pv hp=>∃ x6 x7,Sub (w5 E0 7 (sI x7) 6 (sI x6) 2 (sV x2) 1 (sI x1) 0 (sS x0a x0n x0c)) env∧Sub V0 pv∧F145_j6 x0a x0n x0c x1 x2 x6 x7 hp I4 K) ?_ ?_
      ·refine AWP.block (AWP.loop (σ:=Int × Int) _ (fun s=>w6 E0 8 (sI (s.2)) 7 (sI (s.1)) 6 (sI x6) 2 (sV x2) 1 (sI x1) 0 (sS x0a x0n x0c)) (fun s=>V0) (x7,x8) h (fun s=>r6 0 1 2 6 7 8 Rn) (z6 Sn) Sn ?_)
       intro I8 s hp h
       obtain ⟨x7,x8⟩:=s
       replace h:F145_l8 x0a x0n x0c x1 x2 x6 I4 K I8 x7 x8 hp:=h
       unfold F145_l8 at h
       refine Aq (Ar F145_r6 ?_ (r6 1 8 0 2 6 7 Rn) (z6 Sn) Sn)
       refine Ac h rfl (fun h=>?_) (fun h=>?_)
       ·refine AWP.skip (AWP.block (Ar (F145_r7 rfl) ?_ (r6 0 2 6 7 8 1 Rn) (z6 Sn) Sn))
        refine mC h fun u3 h4 h=>?_
        refine Ar F145_r8 ?_ (r5 8 0 1 2 6 Rn) (z5 Sn) Sn
        refine Ag F145_r9 ?_ (r6 6 8 0 1 2 7 Rn) (z6 Sn) Sn
        exact ⟨_,(z6 Sn),Sn,h⟩
       ·refine AWP.exit ?_
        exact ⟨_,_,(z5 Sn),Sn,h⟩
      ·rintro env pv hp ⟨x6,x7,he,hv,h⟩
       refine Ae ?_ (r5 0 1 2 6 7 Rn) he hv
       unfold F145_j6 at h
       refine As (fun env pv hp=>∃ x6,Sub (w4 E0 6 (sI x6) 2 (sV x2) 1 (sI x1) 0 (sS x0a x0n x0c)) env∧Sub V0 pv∧F145_j7 x0a x0n x0c x1 x2 x6 hp I4 K) ?_ ?_
       ·refine Ar F145_r3 ?_ (r5 6 7 0 1 2 Rn) (z5 Sn) Sn
        refine Ar F145_r4 ?_ (r6 1 9 0 2 6 7 Rn) (z6 Sn) Sn
        refine Ac h rfl (fun h=>?_) (fun h=>?_)
        ·refine Ag (F145_r5 rfl) ?_ (r6 0 1 2 7 9 6 Rn) (z6 Sn) Sn
         refine mC h fun u1 h2 h=>?_
         exact ⟨_,(z4 Sn),Sn,h⟩
        ·refine AWP.skip ?_
         exact ⟨_,(z4 Sn),Sn,h⟩
       ·rintro env pv hp ⟨x6,he,hv,h⟩
        refine Ae ?_ (r4 0 1 2 6 Rn) he hv
        unfold F145_j7 at h
        refine Ag F145_r2 ?_ (r4 6 0 1 2 Rn) (z4 Sn) Sn
        exact ⟨_,(z4 Sn),Sn,h⟩
    ·refine AWP.exit ?_
     exact h
end
section
variable {e E:Env} {x0a:OA} {x0n x0c:Nat} {x1 x2:Int} {x3:Value} {x8 x9:Int} {hp:HP} {K:Env→PV→HP→Prop}
abbrev R169 (p n:Nat):=RW Try.prog 53 [] (opsAt Try.f169 (pth p)) (List.range n)
theorem F169_r0:R169 33 3 (w2 e 8 (sI x8) 2 (sI x2)) V0 hp K=
 K (w5 e 8 (sI x8) 2 (sI x2) 12 (sI x8) 13 (sI x2) 14 (sB (decide (x8<x2)))) V0 hp:= by kernel_rfl
theorem F169_r1:R169 57 3 (upd e 8 (sI x8)) V0 hp K=
 K (w4 e 8 (sI x8) 15 (sI x8) 16 (sI ((wr (x8+1)))) 8 (sI ((wr (x8+1))))) V0 hp:= by kernel_rfl
def F169_j3 (x0a:OA) (x0n x0c:Nat) (x1 x2:Int) (x3:Value) (x8:Int) (hp:HP) (I2:(Int)→HP→Prop) (K:Kh):Prop:=
  (I2 (IntKind.wrap .i64 (x8+1)) hp)
theorem F169_r2:R169 4681 18 (w2 e 9 (sI x9) 0 (sS x0a x0n x0c)) V0 hp K=
    ((0≤((wr (x9-1)):Int))∧(((wr (x9-1)):Int)<x0n)∧(ptrN x0a fun b1 o2=>ldL (HP.cellN hp b1 (o2+Int.toNat (wr (x9-1))*6) 6) fun l3=>(0≤x9)∧(x9<x0n)∧(ptrN x0a fun b4 o5=>ldL (HP.cellN hp b4 (o5+Int.toNat x9*6) 6) fun l6=>(0≤x9)∧(x9<x0n)∧(ptrN x0a fun b7 o8=>(List.length l3=6)∧(HP.stN hp b7 (o8+Int.toNat x9*6) l3 fun h9=>(0≤((wr (x9-1)):Int))∧(((wr (x9-1)):Int)<x0n)∧(ptrN x0a fun b10 o11=>(List.length l6=6)∧(HP.stN h9 b10 (o11+Int.toNat (wr (x9-1))*6) l6 fun h12=>K (w2 (w8 (w8 e 9 (sI x9) 0 (sS x0a x0n x0c) 37 (sS x0a x0n x0c) 38 (sI x9) 39 (sS x0a x0n x0c) 40 (sI x9) 41 (sI ((wr (x9-1)))) 42 (sS x0a x0n x0c)) 43 (sI x9) 44 (sI ((wr (x9-1)))) 45 (sV (ptr b1 (o2+Int.toNat (wr (x9-1))*6))) 46 (sA l3) 47 (sS x0a x0n x0c) 48 (sI x9) 49 (sQ b4 (o5+Int.toNat x9*6)) 50 (sA l6)) 51 (sQ b7 (o8+Int.toNat x9*6)) 52 (sV (ptr b10 (o11+Int.toNat (wr (x9-1))*6)))) V0 h12))))))):=by kernel_rfl
theorem F169_r3:R169 3657 3 (upd e 9 (sI x9)) V0 hp K=
 K (w4 e 9 (sI x9) 35 (sI x9) 36 (sI ((wr (x9-1)))) 9 (sI ((wr (x9-1))))) V0 hp:= by kernel_rfl
def F169_j6 (x0a:OA) (x0n x0c:Nat) (x1 x2:Int) (x3:Value) (x8 x9:Int) (x34:Bool) (hp:HP) (I2 I5:(Int)→HP→Prop) (K:Kh):Prop:=
  (ite2 x34 ((0≤((IntKind.wrap .i64 (x9-1)):Int))∧(((IntKind.wrap .i64 (x9-1)):Int)<x0n)∧(ptrN x0a fun b1 o2=>ldL (HP.cellN hp b1 (o2+Int.toNat (IntKind.wrap .i64 (x9-1))*6) 6) fun l3=>(0≤x9)∧(x9<x0n)∧(ptrN x0a fun b4 o5=>ldL (HP.cellN hp b4 (o5+Int.toNat x9*6) 6) fun l6=>(0≤x9)∧(x9<x0n)∧(ptrN x0a fun b7 o8=>(List.length l3=6)∧(HP.stN hp b7 (o8+Int.toNat x9*6) l3 fun h9=>(0≤((IntKind.wrap .i64 (x9-1)):Int))∧(((IntKind.wrap .i64 (x9-1)):Int)<x0n)∧(ptrN x0a fun b10 o11=>(List.length l6=6)∧(HP.stN h9 b10 (o11+Int.toNat (IntKind.wrap .i64 (x9-1))*6) l6 fun h12=>I5 (IntKind.wrap .i64 (x9-1)) h12))))))) (F169_j3 x0a x0n x0c x1 x2 x3 x8 hp I2 K))
theorem F169_r4 (h:E=upd (w3 e 9 (sI x9) 3 (sV x3) 1 (sI x1)) 0 (sS x0a x0n x0c)):R169 2121 17 E V0 hp K=
    (ite2 (decide (x9 > x1)) ((0≤x9)∧(x9<x0n)∧(ptrN x0a fun b1 o2=>ldL (HP.cellN hp b1 (o2+Int.toNat x9*6) 6) fun l3=>(0≤((wr (x9-1)):Int))∧(((wr (x9-1)):Int)<x0n)∧(ptrN x0a fun b4 o5=>ldL (HP.cellN hp b4 (o5+Int.toNat (wr (x9-1))*6) 6) fun l6=>fnV x3 fun f7 ga8 gb9=>CF Try.prog f7 (ga8++[(Value.agg ⟨l3⟩),(.agg ⟨l6⟩)]++gb9) hp fun u10 h11=>intV u10 .i64 fun i12=>K (upd (w8 (w8 E 18 (sI x9) 19 (sI x1) 20 (sB (decide (x9 > x1))) 21 (sB true) 22 (sV x3) 23 (sS x0a x0n x0c) 24 (sI x9) 25 (sQ b1 (o2+Int.toNat x9*6))) 26 (sA l3) 27 (sS x0a x0n x0c) 28 (sI x9) 29 (sI ((wr (x9-1)))) 30 (sV (ptr b4 (o5+Int.toNat (wr (x9-1))*6))) 31 (sA l6) 32 (sI i12) 33 (sB (decide (i12<0)))) 34 (sB (decide (i12<0)))) V0 h11))) (K (upd (w8 (w8 E 18 (sI x9) 19 (sI x1) 20 (sB (decide (x9 > x1))) 21 (sB false) 22 sU 23 sU 24 sU 25 sU) 26 sU 27 sU 28 sU 29 sU 30 sU 31 sU 32 sU 33 sU) 34 (sB false)) V0 hp)):=by subst h; kernel_rfl
def F169_l5 (x0a:OA) (x0n x0c:Nat) (x1 x2:Int) (x3:Value) (x8:Int) (I2:(Int)→HP→Prop) (K:Kh) (I5:(Int)→HP→Prop) (x9:Int) (hp:HP):Prop:=
  (ite2 (decide (x9 > x1)) ((0≤x9)∧(x9<x0n)∧(ptrN x0a fun b13 o14=>ldL (HP.cellN hp b13 (o14+Int.toNat x9*6) 6) fun l15=>(0≤((IntKind.wrap .i64 (x9-1)):Int))∧(((IntKind.wrap .i64 (x9-1)):Int)<x0n)∧(ptrN x0a fun b16 o17=>ldL (HP.cellN hp b16 (o17+Int.toNat (IntKind.wrap .i64 (x9-1))*6) 6) fun l18=>fnV x3 fun f19 ga_20 gb_21=>CF Try.prog f19 (ga_20++[(Value.agg ⟨l15⟩),(.agg ⟨l18⟩)]++gb_21) hp fun u22 h23=>intV u22 .i64 fun i24=>F169_j6 x0a x0n x0c x1 x2 x3 x8 x9 (decide (i24<0)) h23 I2 I5 K))) (F169_j6 x0a x0n x0c x1 x2 x3 x8 x9 false hp I2 I5 K))
def F169_j4 (x0a:OA) (x0n x0c:Nat) (x1 x2:Int) (x3:Value) (x8 x9:Int) (hp:HP) (I2:(Int)→HP→Prop) (K:Kh):Prop:=
  (LoopP (σ:=Int) (fun I s hp=>F169_l5 x0a x0n x0c x1 x2 x3 x8 I2 K I s hp) x9 hp)
theorem F169_r5:R169 137 2 (upd e 8 (sI x8)) V0 hp K=
 K (w3 e 8 (sI x8) 17 (sI x8) 9 (sI x8)) V0 hp:= by kernel_rfl
def F169_l2 (x0a:OA) (x0n x0c:Nat) (x1 x2:Int) (x3:Value) (K:Kh) (I2:(Int)→HP→Prop) (x8:Int) (hp:HP):Prop:=
  (ite2 (decide (x8<x2)) (F169_j4 x0a x0n x0c x1 x2 x3 x8 x8 hp I2 K) (K (.tuple ⟨[]⟩) hp))
def F169_j1 (x0a:OA) (x0n x0c:Nat) (x1 x2:Int) (x3:Value) (x8:Int) (hp:HP) (K:Kh):Prop:=
  (LoopP (σ:=Int) (fun I s hp=>F169_l2 x0a x0n x0c x1 x2 x3  K I s hp) x8 hp)
theorem F169_r6:R169 2 3 (upd e 1 (sI x1)) V0 hp K=
 K (w4 e 1 (sI x1) 10 (sI x1) 11 (sI ((wr (x1+1)))) 8 (sI ((wr (x1+1))))) V0 hp:= by kernel_rfl
def F169 (x0a:OA) (x0n x0c:Nat) (x1 x2:Int) (x3:Value) (hp:HP) (K:Kh):Prop:=
  (F169_j1 x0a x0n x0c x1 x2 x3 (IntKind.wrap .i64 (x1+1)) hp  K)
noncomputable abbrev o169 (k n:Nat):Code:=.region k (opsAt Try.f169 (pth n)) false
noncomputable def F169_code:Code:=(.seq (o169 0 2) (.block 0 (.loop (.seq (.seq (o169 1 33) (.cond (.tmp 14) .skip (.exit 0))) (.seq (.block 1 (.seq (o169 3 137) (.block 2 (.loop (.seq (.seq (.region 4 (opsAt Try.f169 (pth 2121)) true) (.cond (.tmp 34) .skip (.exit 2))) (.seq (.block 3 (.region 6 (opsAt Try.f169 (pth 4681)) true)) (o169 5 3657))))))) (o169 2 57))))))
theorem F169_body:Try.f169.body=some F169_code:=by kernel_rfl
theorem F169_ok (x0a:OA) (x0n x0c:Nat) (x1 x2:Int) (x3:Value) (hp:HP) (K:Kh) (h:F169 x0a x0n x0c x1 x2 x3 hp K):CF Try.prog 169 [(.slice x0a x0n x0c),(.int .i64 x1),(.int .i64 x2),x3] hp K:=by
 refine .inl ⟨by kernel_rfl,AC.intro (N:=53) Try.func169 F169_body rfl (Nat.le_of_ble_eq_true rfl) ?_⟩
 unfold F169 at h
 refine As (fun env pv hp=>∃ x0a x0n x0c x1 x2 x3 x8,Sub (w5 E0 8 (sI x8) 3 (sV x3) 2 (sI x2) 1 (sI x1) 0 (sS x0a x0n x0c)) env∧Sub V0 pv∧F169_j1 x0a x0n x0c x1 x2 x3 x8 hp  K) ?_ ?_
 ·refine Ag F169_r6 ?_ (r4 1 0 2 3 Rn) (z4 Sn) Sn
  exact ⟨_,_,_,_,_,_,_,(z5 Sn),Sn,h⟩
 ·rintro env pv hp ⟨x0a,x0n,x0c,x1,x2,x3,x8,he,hv,h⟩
  refine Ae ?_ (r5 0 1 2 3 8 Rn) he hv
  unfold F169_j1 at h
  refine AWP.block (AWP.loop (σ:=Int) _ (fun s=>w5 E0 8 (sI s) 3 (sV x3) 2 (sI x2) 1 (sI x1) 0 (sS x0a x0n x0c)) (fun s=>V0) x8 h (fun s=>r5 0 1 2 3 8 Rn) (z5 Sn) Sn ?_)
  intro I2 x8 hp h
  replace h:F169_l2 x0a x0n x0c x1 x2 x3  K I2 x8 hp:=h
  unfold F169_l2 at h
  refine Aq (Ar F169_r0 ?_ (r5 2 8 0 1 3 Rn) (z5 Sn) Sn)
  refine Ac h rfl (fun h=>?_) (fun h=>?_)
  ·refine AWP.skip (As (fun env pv hp=>∃ x8,Sub (w5 E0 8 (sI x8) 3 (sV x3) 2 (sI x2) 1 (sI x1) 0 (sS x0a x0n x0c)) env∧Sub V0 pv∧F169_j3 x0a x0n x0c x1 x2 x3 x8 hp I2 K) ?_ ?_)
   ·refine AWP.block (As (fun env pv hp=>∃ x8 x9,Sub (w6 E0 9 (sI x9) 8 (sI x8) 3 (sV x3) 2 (sI x2) 1 (sI x1) 0 (sS x0a x0n x0c)) env∧Sub V0 pv∧F169_j4 x0a x0n x0c x1 x2 x3 x8 x9 hp I2 K) ?_ ?_)
    ·refine Ag F169_r5 ?_ (r5 8 0 1 2 3 Rn) (z5 Sn) Sn
     exact ⟨_,_,(z6 Sn),Sn,h⟩
    ·rintro env pv hp ⟨x8,x9,he,hv,h⟩
     refine Ae ?_ (r6 0 1 2 3 8 9 Rn) he hv
     unfold F169_j4 at h
     refine AWP.block (AWP.loop (σ:=Int) _ (fun s=>w6 E0 9 (sI s) 8 (sI x8) 3 (sV x3) 2 (sI x2) 1 (sI x1) 0 (sS x0a x0n x0c)) (fun s=>V0) x9 h (fun s=>r6 0 1 2 3 8 9 Rn) (z6 Sn) Sn ?_)
     intro I5 x9 hp h
     replace h:F169_l5 x0a x0n x0c x1 x2 x3 x8 I2 K I5 x9 hp:=h
     unfold F169_l5 at h
     refine Aq (As (fun env pv hp=>∃ x9 x34,Sub (w7 E0 34 (sB x34) 9 (sI x9) 8 (sI x8) 3 (sV x3) 2 (sI x2) 1 (sI x1) 0 (sS x0a x0n x0c)) env∧Sub V0 pv∧F169_j6 x0a x0n x0c x1 x2 x3 x8 x9 x34 hp I2 I5 K) ?_ ?_)
     ·refine AWP.rgnD (by kernel_rfl) (by kernel_rfl) (F169_r4 rfl) ?_ (r6 0 1 3 9 2 8 Rn) (z6 Sn) Sn
      refine mt h (fun h=>?_) (fun h=>?_)
      ·refine ⟨h.1,h.2.1,mN h.2.2 (fun b13 o14 h=>mL h (fun l15 h=>⟨h.1,h.2.1,mN h.2.2 fun b16 o17 h=>mL h fun l18 h=>mF h fun f19 ga_20 gb_21 h=>mC h fun u22 h23 h=>mI h fun i24 h=>?_⟩))⟩
       exact ⟨_,_,(z7 Sn),Sn,h⟩
      ·exact ⟨_,_,(z7 Sn),Sn,h⟩
     ·rintro env pv hp ⟨x9,x34,he,hv,h⟩
      refine Ae ?_ (r7 0 1 2 3 8 9 34 Rn) he hv
      unfold F169_j6 at h
      refine Ac h rfl (fun h=>?_) (fun h=>?_)
      ·refine AWP.skip (Aq (AWP.block (AWP.rgnD (by kernel_rfl) (by kernel_rfl) F169_r2 ?_ (r6 0 9 1 2 3 8 Rn) (z6 Sn) Sn)))
       refine ⟨h.1,h.2.1,mN h.2.2 (fun b1 o2 h=>mL h (fun l3 h=>⟨h.1,h.2.1,mN h.2.2 (fun b4 o5 h=>mL h (fun l6 h=>⟨h.1,h.2.1,mN h.2.2 (fun b7 o8 h=>⟨h.1,mW h.2 (fun h9 h=>⟨h.1,h.2.1,mN h.2.2 (fun b10 o11 h=>⟨h.1,mW h.2 fun h12 h=>?_⟩)⟩)⟩)⟩))⟩))⟩
       refine Ag F169_r3 ?_ (r6 9 0 1 2 3 8 Rn) (z6 Sn) Sn
       exact ⟨_,(z6 Sn),Sn,h⟩
      ·refine AWP.exit ?_
       exact ⟨_,(z5 Sn),Sn,h⟩
   ·rintro env pv hp ⟨x8,he,hv,h⟩
    refine Ae ?_ (r5 0 1 2 3 8 Rn) he hv
    unfold F169_j3 at h
    refine Ag F169_r1 ?_ (r5 8 0 1 2 3 Rn) (z5 Sn) Sn
    exact ⟨_,(z5 Sn),Sn,h⟩
  ·refine AWP.exit ?_
   exact h
end
end Go.Proofs
set_option linter.unusedVariables false
set_option maxRecDepth 20000
namespace Go.Proofs
open Go Go.HL
theorem wiN {x:Int} {i:Nat} (h:x=i) (hb:i≤9223372036854775807):IntKind.wrap .i64 x=i:=by rw [h]; exact w64 (by omega) (by omega)
structure Pc where
  key:ByteArray
  src:ByteArray
  at_:Int
  more:Bool
  data:ByteArray
  head:ByteArray
deriving DecidableEq
instance:Inhabited Pc:=⟨⟨ByteArray.empty,ByteArray.empty,0,false,ByteArray.empty,ByteArray.empty⟩⟩
def pc (p:Pc):List Value:=[.string p.key,.string p.src,.int .i64 p.at_,.bool p.more,.string p.data,.string p.head]
theorem pc_len (p:Pc):(pc p).length=6:=rfl
theorem pc_one (p:Pc):(pc p).all one=true:=rfl
def okP (p:Pc):Prop:=(-9223372036854775808≤p.at_∧p.at_≤9223372036854775807)∧p.data.size≤1000000
def Pc.to (p:Pc):Int:=p.at_+p.data.size
def rightP (p:Pc):Bool:=decide (0≤p.at_)&&decide (p.at_≤65535)&&decide (p.at_.tmod 8=0)&&decide (p.at_+p.data.size≤65535)&&(!p.more||(decide (0<p.data.size)&&decide (p.data.size % 8=0)))
theorem rightP_iff {p:Pc}:rightP p=true↔0≤p.at_∧p.at_≤65535∧p.at_.tmod 8=0∧p.at_+p.data.size≤65535∧(p.more=true→0<p.data.size∧p.data.size % 8=0):=by
  unfold rightP
  simp only [Bool.and_eq_true,decide_eq_true_eq,Bool.or_eq_true,Bool.not_eq_true']
  cases p.more <;> simp [and_assoc]
def sameP (p q:Pc):Bool:=decide (p.at_=q.at_)&&decide (p.more=q.more)&&decide (p.data=q.data)
theorem enc9:EncK Try.prog 9 sw where
  inj a b h:=by simpa [sw] using h
  law:=(KeyLaw.flat (d:=.string) (by kernel_rfl)).weaken fun v ⟨k,hk⟩=>by subst hk; exact trivial
theorem u97:Try.prog.underlying 97=some (.map 9 3):=by kernel_rfl
theorem u128:Try.prog.underlying 128=some (.map 9 131):=by kernel_rfl
def cmpN (x y:Int):Int:=if x<y then -1 else if x > y then 1 else 0
theorem D131 {x:Int} {hp:HP} {K:Value→HP→Prop} (h:K (.bool false) hp):CF Try.prog 131 [.int .i64 x] hp K:=by
  refine F131_ok x hp K ?_
  unfold F131
  simpa using h
theorem D97 {x y:Int} {hp:HP} {K:Value→HP→Prop} (h:K (.int .i64 (cmpN x y)) hp):CF Try.prog 97 [.int .i64 x,.int .i64 y] hp K:=by
  refine F97_ok x y hp K ?_
  unfold F97
  refine D131 ?_
  rw [boolV_bool]
  refine D131 ?_
  rw [boolV_bool,ite2_false,ite2_false]
  unfold cmpN at h
  by_cases h1:x<y
  · rw [if_pos h1] at h
    rw [decide_eq_true h1,ite2_true]; exact h
  rw [if_neg h1] at h
  rw [decide_eq_false h1,ite2_false]
  by_cases h2:x > y
  · rw [if_pos h2] at h
    rw [decide_eq_true h2,ite2_true]; exact h
  · rw [if_neg h2] at h
    rw [decide_eq_false h2,ite2_false]; exact h
theorem D96 {r:Nat} {x y:Int} {hp:HP} {K:Value→HP→Prop} (hr:hp r=.cells 3 [.int .i64 x,.int .i64 y] 0) (h:K (.int .i64 (if x≠0 then x else y)) hp):CF Try.prog 96 [.slice (some ⟨r,0,none⟩) 2 2] hp K:=by
  refine F96_ok _ 2 2 hp K ?_
  unfold F96 F96_j2
  have hc:∀ o,hp.cell r o=[Value.int .i64 x,.int .i64 y][o]?:=fun o=>HP.cell_of hr
  intro I hI
  refine hI 0 hp ?_
  unfold F96_l3
  simp only [ptrN_some,hc,Nat.zero_add]
  show ite2 (decide ((0:Int)<2)) _ _
  rw [decide_eq_true (by omega:(0:Int)<2),ite2_true]
  refine ⟨by omega,by omega,?_⟩
  show ldV (some (Value.int .i64 x)) _
  rw [ldV_some,intV_int]
  by_cases hx:x=0
  · rw [if_neg (by simpa using hx)] at h
    have e:(x != 0)=false:=by simpa using hx
    rw [e,ite2_false]
    have w:IntKind.wrap .i64 ((0:Int)+1)=1:=by rw [w64 (by omega) (by omega)]; rfl
    rw [w]
    refine hI 1 hp ?_
    unfold F96_l3
    simp only [ptrN_some,hc,Nat.zero_add]
    rw [decide_eq_true (by omega:(1:Int)<((2:Nat):Int)),ite2_true]
    refine ⟨by omega,by omega,?_⟩
    show ldV (some (Value.int .i64 y)) _
    rw [ldV_some,intV_int]
    by_cases hy:y=0
    · have e:(y != 0)=false:=by simpa using hy
      rw [e,ite2_false]
      have w:IntKind.wrap .i64 ((1:Int)+1)=2:=by rw [w64 (by omega) (by omega)]; rfl
      rw [w]
      refine hI 2 hp ?_
      unfold F96_l3
      simp only [ptrN_some,hc,Nat.zero_add]
      rw [decide_eq_false (by omega:¬ (2:Int)<((2:Nat):Int)),ite2_false]
      unfold F96_j1
      rw [hy] at h; exact h
    · have e:(y != 0)=true:=by simpa using hy
      rw [e,ite2_true]; exact h
  · rw [if_pos (by simpa using hx)] at h
    have e:(x != 0)=true:=by simpa using hx
    rw [e,ite2_true]; exact h
section
variable {p q:Pc} {hp:HP} {K:Value→HP→Prop}
def Pc.toW (p:Pc):Int:=IntKind.wrap .i64 (p.at_+p.data.size)
theorem Pc.toW_eq {p:Pc} (h0:0≤p.at_) (h1:p.at_≤1000000000) (h2:p.data.size≤1000000000):p.toW=p.to:=by
  unfold Pc.toW Pc.to; rw [w64 (by omega) (by omega)]
theorem C122 (h:K (.int .i64 p.toW) hp):CF Try.prog 122 [.agg ⟨pc p⟩] hp K:=by
  refine F122_ok (pc p) hp K ?_
  unfold F122
  exact h
theorem C77 (h:K (.bool (sameP p q)) hp):CF Try.prog 77 [.agg ⟨pc p⟩,.agg ⟨pc q⟩] hp K:=by
  refine F77_ok (pc p) (pc q) hp K ?_
  unfold F77
  have k2:∀ p:Pc,(pc p)[2]?=some (.int .i64 p.at_):=fun _=>rfl
  have k3:∀ p:Pc,(pc p)[3]?=some (.bool p.more):=fun _=>rfl
  have k4:∀ p:Pc,(pc p)[4]?=some (.string p.data):=fun _=>rfl
  simp only [k2,k3,k4,ldV_some,intV_int,boolV_bool,strV_string]
  unfold sameP at h
  by_cases h1:p.at_=q.at_
  · have e:(p.at_==q.at_)=true:=by simpa using h1
    rw [e,ite2_true]
    rw [decide_eq_true h1,Bool.true_and] at h
    by_cases h2:p.more=q.more
    · have e:(p.more==q.more)=true:=by simpa using h2
      rw [e,ite2_true]
      rw [str_eq]
      rw [decide_eq_true h2,Bool.true_and] at h
      exact h
    · have e:(p.more==q.more)=false:=by simpa using h2
      rw [e,ite2_false]
      rw [decide_eq_false h2,Bool.false_and] at h
      exact h
  · have e:(p.at_==q.at_)=false:=by simpa using h1
    rw [e,ite2_false]
    rw [decide_eq_false h1,Bool.false_and,Bool.false_and] at h
    exact h
theorem C67 (hp':okP p) (h:K (.bool (rightP p)) hp):CF Try.prog 67 [.agg ⟨pc p⟩] hp K:=by
  refine F67_ok (pc p) hp K ?_
  unfold F67
  have k2:(pc p)[2]?=some (.int .i64 p.at_):=rfl
  have k3:(pc p)[3]?=some (.bool p.more):=rfl
  have k4:(pc p)[4]?=some (.string p.data):=rfl
  simp only [k2,k4,ldV_some,intV_int,strV_string]
  have hno:rightP p=false→F67_j1 true (pc p) hp K:=fun e=>by
    unfold F67_j1; rw [ite2_true]; rw [e] at h; exact h
  have no:(¬ (0≤p.at_∧p.at_≤65535∧p.at_.tmod 8=0∧p.at_+p.data.size≤65535))→F67_j1 true (pc p) hp K:=fun hn=>hno (by
    cases hr:rightP p with
    | false=>rfl
    | true=>obtain ⟨a,b,c,d,_⟩:=rightP_iff.1 hr; exact absurd ⟨a,b,c,d⟩ hn)
  by_cases h1:p.at_<0
  · rw [decide_eq_true h1,ite2_true]; exact no (by omega)
  rw [decide_eq_false h1,ite2_false]
  by_cases h2:p.at_ > 65535
  · rw [decide_eq_true h2,ite2_true]; exact no (by omega)
  rw [decide_eq_false h2,ite2_false]
  refine ⟨by decide,?_⟩
  by_cases h3:p.at_.tmod 8=0
  rotate_left
  · have e:(p.at_.tmod 8 != 0)=true:=by simpa using h3
    rw [e,ite2_true]; exact no (fun x=>h3 x.2.2.1)
  have e:(p.at_.tmod 8 != 0)=false:=by simpa using h3
  rw [e,ite2_false,w64 (by omega) (by omega)]
  by_cases h4:(p.data.size:Int) > 65535-p.at_
  · rw [decide_eq_true h4]; exact no (by omega)
  rw [decide_eq_false h4]
  unfold F67_j1
  rw [ite2_false]
  simp only [k3,k4,ldV_some,boolV_bool,strV_string]
  have hx:rightP p=(!p.more||(decide (0<p.data.size)&&decide (p.data.size % 8=0))):=by
    unfold rightP
    rw [decide_eq_true (by omega:0≤p.at_),decide_eq_true (by omega:p.at_≤65535),decide_eq_true h3,decide_eq_true (by omega:p.at_+p.data.size≤65535)]
    simp
  rw [hx] at h
  cases hm:p.more
  · rw [hm] at h; exact h
  · rw [hm] at h
    show ite2 false _ _
    rw [ite2_false]
    by_cases h5:0<p.data.size
    · rw [decide_eq_true (by omega:((p.data.size:Nat):Int) > 0),ite2_true]
      refine ⟨by decide,?_⟩
      have e2:(Int.tmod ((p.data.size:Nat):Int) 8==0)=decide (p.data.size % 8=0):=by
        have:Int.tmod ((p.data.size:Nat):Int) 8=((p.data.size % 8:Nat):Int):=rfl
        rw [this,Bool.eq_iff_iff,beq_iff_eq,decide_eq_true_iff]; omega
      rw [e2]
      rw [decide_eq_true h5] at h
      simpa using h
    · rw [decide_eq_false (by omega:¬ ((p.data.size:Nat):Int) > 0),ite2_false]
      rw [decide_eq_false h5] at h
      simpa using h
variable {s:Option Addr} {n c:Nat} {l:List Pc}
theorem C121 {f:FuncId} {ga gb:List Value} {g:Pc→Bool} (hs:Shows hp s n 6 (l.flatMap pc)) (hl:l.length=n) (hn:n≤1000000000)
    (hf:∀ x∈l,∀ K:Value→HP→Prop,K (.bool (g x)) hp→CF Try.prog f (ga++[.agg ⟨pc x⟩]++gb) hp K)
    (h:∀ v:Int,(decide (v≥0)=l.any g)→K (.int .i64 v) hp):CF Try.prog 121 [.slice s n c,.func (.func f) ⟨ga⟩ ⟨gb⟩] hp K:=by
  refine F121_ok s n c _ hp K ?_
  unfold F121 F121_j1
  refine LoopP.by (J:=fun m (y:Int) hp'=>hp'=hp∧∃ i:Nat,y=i∧i+m=n∧(l.take i).any g=false) ?_ (n:=n) ⟨rfl,0,rfl,by omega,rfl⟩
  rintro I m y hp' ⟨rfl,i,rfl,him,hno⟩ hI
  unfold F121_l2
  by_cases hi:i<n
  · rw [decide_eq_true (by omega:(i:Int)<(n:Int)),ite2_true]
    have hil:i<l.length:=by omega
    obtain ⟨b,o,hao,hc⟩:=hs.get pc_len hl hi
    simp only [hao,ptrN_some,Int.toNat_natCast,hc,ldL_some,fnV_mk]
    refine ⟨by omega,by omega,?_⟩
    refine hf _ (List.getElem_mem hil) _ ?_
    rw [boolV_bool]
    have ht:(l.take (i+1)).any g=((l.take i).any g||g l[i]):=by
      rw [List.take_succ_eq_append_getElem hil,List.any_append]; simp
    cases hg:g l[i]
    · have w1:IntKind.wrap .i64 ((i:Int)+1)=((i+1:Nat):Int):=wiN (by omega) (by omega)
      rw [ite2_false,w1]
      refine hI (m-1) _ _ (by omega) ⟨rfl,i+1,rfl,by omega,?_⟩
      rw [ht,hno,hg]; rfl
    · rw [ite2_true]
      refine h _ ?_
      rw [decide_eq_true (by omega:(i:Int)≥0)]
      exact (List.any_eq_true.2 ⟨_,List.getElem_mem hil,hg⟩).symm
  · rw [decide_eq_false (by omega:¬ (i:Int)<(n:Int)),ite2_false]
    rw [List.take_of_length_le (by omega)] at hno
    exact h _ (by rw [hno]; rfl)
theorem C76 {f:FuncId} {ga gb:List Value} {g:Pc→Bool} (hs:Shows hp s n 6 (l.flatMap pc)) (hl:l.length=n) (hn:n≤1000000000)
    (hf:∀ x∈l,∀ K:Value→HP→Prop,K (.bool (g x)) hp→CF Try.prog f (ga++[.agg ⟨pc x⟩]++gb) hp K)
    (h:K (.bool (l.any g)) hp):CF Try.prog 76 [.slice s n c,.func (.func f) ⟨ga⟩ ⟨gb⟩] hp K:=by
  refine F76_ok s n c _ hp K ?_
  unfold F76
  refine C121 hs hl hn hf fun v hv=>?_
  rw [intV_int,hv]
  exact h
end
section
variable {f:FuncId} {ga gb:List Value} {hp0:HP} {b sp n c:Nat} {cf:Pc→Pc→Int}
theorem S169 (hc:CmpOk Try.prog f ga gb hp0 b 29 sp pc n cf) {d:Array Pc} {lo hi:Nat} {K:Value→HP→Prop} (hs:d.size=n) (hlo:lo≤hi) (hhi:hi≤n) (hn:n≤1000000000)
    (h:K (.tuple ⟨[]⟩) (HA hp0 b 29 sp pc (Sort.insertionSort (ltC cf) d lo hi))) :
    CF Try.prog 169 [.slice (some ⟨b,0,none⟩) n c,.int .i64 lo,.int .i64 hi,.func (.func f) ⟨ga⟩ ⟨gb⟩] (HA hp0 b 29 sp pc d) K:=by
  refine F169_ok _ n c lo hi _ _ K ?_
  unfold F169 F169_j1
  rw [w64 (by omega) (by omega)]
  refine LoopP.by (J:=fun k (x:Int) hp=>∃ (i:Nat) (d':Array Pc),x=i∧hp=HA hp0 b 29 sp pc d'∧d'.size=n∧lo<i∧k=hi-i∧Sort.insOuter (ltC cf) lo hi i d'=Sort.insertionSort (ltC cf) d lo hi) ?_
    (n:=hi-(lo+1)) ⟨lo+1,d,by omega,rfl,hs,by omega,rfl,rfl⟩
  rintro I k x hp ⟨i,d',rfl,rfl,hs',hli,rfl,he⟩ hI
  unfold F169_l2
  rw [Sort.insOuter] at he
  by_cases hi':i<hi
  · rw [decide_eq_true (by omega:(i:Int)<(hi:Int)),ite2_true]
    rw [if_pos hi'] at he
    unfold F169_j4
    refine LoopP.by (J:=fun k (y:Int) hp=>∃ (j:Nat) (d2:Array Pc),y=j∧hp=HA hp0 b 29 sp pc d2∧d2.size=n∧j<n∧k=j∧Sort.insInner (ltC cf) lo j d2=Sort.insInner (ltC cf) lo i d') ?_
      (n:=i) ⟨i,d',rfl,rfl,hs',by omega,rfl,rfl⟩
    rintro I2 k2 y hp2 ⟨j,d2,rfl,rfl,hs2,hj,hk2,he2⟩ hI2
    unfold F169_l5
    have out:Sort.insInner (ltC cf) lo i d'=d2→F169_j6 (some ⟨b,0,none⟩) n c lo hi (.func (.func f) ⟨ga⟩ ⟨gb⟩) i j false (HA hp0 b 29 sp pc d2) I I2 K:=by
      intro heq
      unfold F169_j6 F169_j3
      rw [ite2_false,w64 (by omega) (by omega)]
      exact hI (hi-(i+1)) _ _ (by omega) ⟨i+1,d2,by omega,rfl,hs2,by omega,rfl,by rw [← heq]; exact he⟩
    by_cases hjl:lo<j
    · rw [decide_eq_true (by omega:(j:Int) > (lo:Int)),ite2_true]
      obtain ⟨j',rfl⟩:∃ j',j=j'+1:=⟨j-1,by omega⟩
      have w1:IntKind.wrap .i64 (((j'+1:Nat):Int)-1)=(j':Int):=by rw [w64 (by omega) (by omega)]; omega
      have g1:=HA.get (hp0:=hp0) (b:=b) (e:=29) (sp:=sp) pc_len (d:=d2) (i:=j'+1) (by omega)
      have g0:=HA.get (hp0:=hp0) (b:=b) (e:=29) (sp:=sp) pc_len (d:=d2) (i:=j') (by omega)
      simp only [w1,ptrN_some,Int.toNat_natCast,g1,g0,ldL_some,fnV_mk]
      refine ⟨by omega,by omega,by omega,by omega,?_⟩
      refine hc d2 _ _ _ hs2 ?_
      rw [intV_int]
      rw [Sort.insInner] at he2
      have hgt:decide (j'+1 > lo)=true:=decide_eq_true (by omega)
      cases hlt:decide (cf d2[j'+1]! d2[j']!<0)
      · have:ltC cf d2[j'+1]! d2[j']! = false:=hlt
        rw [hgt,this] at he2
        exact out (by simpa using he2.symm)
      · have:ltC cf d2[j'+1]! d2[j']! = true:=hlt
        rw [hgt,this] at he2
        simp only [Bool.and_self,if_true] at he2
        unfold F169_j6
        simp only [ite2_true,w1,ptrN_some,Int.toNat_natCast,g0,g1,ldL_some]
        refine ⟨by omega,by omega,by omega,by omega,by omega,by omega,rfl,?_⟩
        refine HA.st pc_len pc_one (by omega) _ ?_
        refine ⟨by omega,by omega,rfl,?_⟩
        refine HA.st pc_len pc_one (by rw [Array.size_setIfInBounds]; omega) _ ?_
        exact hI2 j' _ _ (by omega) ⟨j',_,rfl,rfl,by rw [Array.size_setIfInBounds,Array.size_setIfInBounds]; exact hs2,by omega,rfl,he2⟩
    · rw [decide_eq_false (by omega:¬ (j:Int) > (lo:Int)),ite2_false]
      refine out ?_
      cases j with
      | zero=>rw [Sort.insInner] at he2; exact he2.symm
      | succ j=>
        rw [Sort.insInner] at he2
        have hgt:decide (j+1 > lo)=false:=decide_eq_false (by omega)
        rw [hgt] at he2
        simpa using he2.symm
  · rw [decide_eq_false (by omega:¬ (i:Int)<(hi:Int)),ite2_false]
    rw [if_neg hi'] at he
    rw [he]
    exact h
end
end Go.Proofs
set_option linter.unusedVariables false
set_option maxRecDepth 20000
namespace Go.Proofs
open Go Go.HL
def clash (p q:Pc):Bool:=(decide (p.at_<q.toW)&&decide (q.at_<p.toW))||(!p.more&&decide (q.toW > p.toW))
def fitsQ (fin:Int) (l:List Pc) (p:Pc):Bool:=!(decide (fin≥0)&&(!p.more||decide (p.toW > fin)))&&!(l.any (clash p))
structure Dg where
  blk:Nat
  rblk:Nat
  id:Int
  due:Int
  fin:Int
  l:List Pc
def DgR (hp:HP) (d:Dg):Prop:=
  d.l≠[]∧∃ c,d.l.length≤c∧hp d.blk=.cells 135 [.int .i64 d.id,.int .i64 d.due,.int .i64 d.fin,.slice (some ⟨d.rblk,0,none⟩) d.l.length c] 0∧hp d.rblk=.cells 29 (d.l.flatMap pc) ((c-d.l.length)*6)
theorem DgR.sub {hp hp':HP} {d:Dg} (h:DgR hp d) (hs:HSub hp hp'):DgR hp' d:=by
  obtain ⟨h0,c,h1,h2,h3⟩:=h
  exact ⟨h0,c,h1,hs.cells h2,hs.cells h3⟩
section
variable {p q:Pc} {hp:HP} {K:Value→HP→Prop} {d:Dg}
theorem C123 {b:Nat} (hb:hp b=.cells 29 (pc p) 0) (h:K (.bool (clash p q)) hp):CF Try.prog 123 [.agg ⟨pc q⟩,.pointer (some ⟨b,0,none⟩)] hp K:=by
  refine F123_ok (pc q) _ hp K ?_
  unfold F123
  have k2:∀ p:Pc,(pc p)[2]?=some (.int .i64 p.at_):=fun _=>rfl
  have c2:hp.cell b 2=some (.int .i64 p.at_):=by rw [HP.cell_of hb]; rfl
  have c3:hp.cell b 3=some (.bool p.more):=by rw [HP.cell_of hb]; rfl
  have cN:hp.cellN b 0 6=some (pc p):=by rw [HP.cellN_of hb]; exact cellsN_all rfl
  unfold clash at h
  have call:∀ (x:Pc) (X:Int→HP→Prop),X x.toW hp→CF Try.prog 122 [.agg ⟨pc x⟩] hp fun u h=>intV u .i64 fun i=>X i h:=fun x X hx=>C122 (by rw [intV_int]; exact hx)
  cases hA:decide (p.at_<q.toW) <;> cases hB:decide (q.at_<p.toW) <;> cases hC:p.more
  all_goals
    rw [hA,hB,hC] at h
    repeat' apply And.intro
    all_goals
      repeat (first | (refine call _ _ ?_) | (simp only [ptrN_some,Nat.zero_add,c2,c3,cN,k2,ldV_some,ldL_some,intV_int,boolV_bool,cellsN_all (pc_len _),hA,hB,hC,ite2_true,ite2_false,Bool.not_true,Bool.not_false]))
      simpa using h
theorem C78 (hd:DgR hp d) (hn:d.l.length≤1000000) (h:K (.bool (fitsQ d.fin d.l p)) hp):CF Try.prog 78 [ptr d.blk 0,.agg ⟨pc p⟩] hp K:=by
  refine CF.drop (F78_ok _ (pc p) hp _ ?_)
  unfold F78
  intro b hb
  have sb:=HSub.set_fresh hp (.cells 29 (pc p) 0) hb
  have hd1:=hd.sub sb
  have hpb:(hp.set b (.cells 29 (pc p) 0)) b=.cells 29 (pc p) 0:=HP.set_eq ..
  generalize hp.set b (.cells 29 (pc p) 0)=hp1 at *
  obtain ⟨h0,c,h1,h2,h3⟩:=hd1
  have hc:∀ o,hp1.cell d.blk o=[Value.int .i64 d.id,.int .i64 d.due,.int .i64 d.fin,.slice (some ⟨d.rblk,0,none⟩) d.l.length c][o]?:=fun o=>HP.cell_of h2
  have c3:hp1.cell b 3=some (.bool p.more):=by rw [HP.cell_of hpb]; rfl
  have cN:hp1.cellN b 0 6=some (pc p):=by rw [HP.cellN_of hpb]; exact cellsN_all rfl
  have sh:Shows hp1 (some ⟨d.rblk,0,none⟩) d.l.length 6 (d.l.flatMap pc):=.inr ⟨d.rblk,0,rfl,by rw [HP.cellN_of h3]; exact cellsN_all (by rw [flat_len pc_len])⟩
  have call:∀ (x:Pc) (X:Int→HP→Prop),X x.toW hp1→CF Try.prog 122 [.agg ⟨pc x⟩] hp1 fun u h=>intV u .i64 fun i=>X i h:=fun x X hx=>C122 (by rw [intV_int]; exact hx)
  have no:(decide (d.fin≥0)&&(!p.more||decide (p.toW > d.fin)))=true→F78_j1 (some ⟨d.blk,0,none⟩) (some ⟨b,0,none⟩) true hp1 (fun v hp'=>∃ hp'',HSub hp'' hp'∧K v hp''):=by
    intro e
    unfold F78_j1
    rw [ite2_true]
    unfold fitsQ at h
    rw [e] at h
    exact ⟨hp,sb,h⟩
  have yes:(decide (d.fin≥0)&&(!p.more||decide (p.toW > d.fin)))=false→F78_j1 (some ⟨d.blk,0,none⟩) (some ⟨b,0,none⟩) false hp1 (fun v hp'=>∃ hp'',HSub hp'' hp'∧K v hp''):=by
    intro e
    unfold F78_j1
    rw [ite2_false]
    simp only [ptrN_some,hc,Nat.zero_add,List.getElem?_cons_succ,List.getElem?_cons_zero,ldV_some,slcV_slice]
    refine C76 (g:=clash p) sh rfl (by omega) (fun x _ K' hK'=>C123 hpb hK') ?_
    rw [boolV_bool]
    unfold fitsQ at h
    rw [e] at h
    exact ⟨hp,sb,by simpa using h⟩
  cases hA:decide (d.fin≥0) <;> cases hB:p.more <;> cases hC:decide (p.toW > d.fin)
  all_goals
    rw [hA,hB,hC] at no yes
    apply And.intro
    all_goals
      repeat (first | (refine call _ _ ?_) | (simp only [ptrN_some,hc,c3,cN,Nat.zero_add,List.getElem?_cons_succ,List.getElem?_cons_zero,ldV_some,ldL_some,intV_int,boolV_bool,hA,hB,hC,ite2_true,ite2_false,Bool.not_true,Bool.not_false]))
      first | exact yes rfl | exact no rfl
def headQ:List Pc→ByteArray
  | []=>⟨#[]⟩
  | p::l=>if p.at_=0 then p.head else headQ l
theorem C110 (hd:DgR hp d) (hn:d.l.length≤1000000) (h:K (.string (headQ d.l)) hp):CF Try.prog 110 [ptr d.blk 0] hp K:=by
  refine F110_ok _ hp K ?_
  unfold F110
  obtain ⟨h0,c,h1,h2,h3⟩:=hd
  have hc:∀ o,hp.cell d.blk o=[Value.int .i64 d.id,.int .i64 d.due,.int .i64 d.fin,.slice (some ⟨d.rblk,0,none⟩) d.l.length c][o]?:=fun o=>HP.cell_of h2
  have sh:Shows hp (some ⟨d.rblk,0,none⟩) d.l.length 6 (d.l.flatMap pc):=.inr ⟨d.rblk,0,rfl,by rw [HP.cellN_of h3]; exact cellsN_all (by rw [flat_len pc_len])⟩
  simp only [ptrN_some,hc,Nat.zero_add,List.getElem?_cons_succ,List.getElem?_cons_zero,ldV_some,slcV_slice]
  unfold F110_j1
  refine LoopP.by (J:=fun m (y:Int) hp'=>hp'=hp∧∃ i:Nat,y=i∧i+m=d.l.length∧headQ d.l=headQ (d.l.drop i)) ?_ (n:=d.l.length) ⟨rfl,0,rfl,by omega,by simp⟩
  rintro I m y hp' ⟨rfl,i,rfl,him,hh⟩ hI
  unfold F110_l2
  by_cases hi:i<d.l.length
  · rw [decide_eq_true (by omega:(i:Int)<(d.l.length:Int)),ite2_true]
    obtain ⟨b,o,hao,hg⟩:=sh.get pc_len rfl hi
    have hz:splice [(Value.string ⟨#[]⟩),(Value.string ⟨#[]⟩),(Value.int .i64 0),(Value.bool false),(Value.string ⟨#[]⟩),(Value.string ⟨#[]⟩)] 0 (pc d.l[i])=pc d.l[i]:=splice_all rfl
    have k2:(pc d.l[i])[2]?=some (.int .i64 d.l[i].at_):=rfl
    have k5:(pc d.l[i])[5]?=some (.string d.l[i].head):=rfl
    cases hao
    simp only [ptrN_some,Int.toNat_natCast,hg,ldL_some,pc_len,pc_one,if_true,hz,k2,k5,ldV_some,intV_int,strV_string]
    refine ⟨by omega,by omega,?_⟩
    refine ifI (Nat.le_refl _) ?_
    rw [List.drop_eq_getElem_cons hi,headQ] at hh
    by_cases h0:d.l[i].at_=0
    · have e:(d.l[i].at_==0)=true:=by simpa using h0
      rw [e,ite2_true]
      rw [if_pos h0] at hh
      rw [hh] at h; exact h
    · have e:(d.l[i].at_==0)=false:=by simpa using h0
      have w1:IntKind.wrap .i64 ((i:Int)+1)=((i+1:Nat):Int):=wiN (by omega) (by omega)
      rw [e,ite2_false,w1]
      rw [if_neg h0] at hh
      exact hI (m-1) _ _ (by omega) ⟨rfl,i+1,rfl,by omega,hh⟩
  · rw [decide_eq_false (by omega:¬ (i:Int)<(d.l.length:Int)),ite2_false]
    rw [List.drop_of_length_le (by omega),headQ] at hh
    rw [hh] at h; exact h
end
/-! The sort of a datagram's pieces. -/
def cfP (x y:Pc):Int:=if cmpN x.at_ y.at_≠0 then cmpN x.at_ y.at_ else cmpN x.toW y.toW
theorem cfP_lt {a b:Pc}:ltC cfP a b=true↔a.at_<b.at_∨(a.at_=b.at_∧a.toW<b.toW):=by
  unfold ltC cfP cmpN
  rw [decide_eq_true_iff]
  repeat' split
  all_goals omega
theorem cfP_ltf {a b:Pc}:ltC cfP a b=false↔¬ (a.at_<b.at_∨(a.at_=b.at_∧a.toW<b.toW)):=by
  rw [← cfP_lt]; simp
theorem swo_cfP:Sort.SWO (ltC cfP) where
  irrefl x:=by rw [cfP_ltf]; omega
  trans x y z:=by simp only [cfP_lt]; omega
  ntrans x y z:=by simp only [cfP_ltf]; omega
theorem C125 {x y:Pc} {hp:HP} {K:Value→HP→Prop} (h:K (.int .i64 (cfP x y)) hp):CF Try.prog 125 [.agg ⟨pc x⟩,.agg ⟨pc y⟩] hp K:=by
  refine CF.drop (F125_ok (pc x) (pc y) hp _ ?_)
  unfold F125
  have k2:∀ p:Pc,(pc p)[2]?=some (.int .i64 p.at_):=fun _=>rfl
  simp only [k2,ldV_some,intV_int,cellsN_all (pc_len _),ldL_some]
  refine D97 ?_
  rw [intV_int]
  refine C122 ?_
  rw [intV_int]
  refine C122 ?_
  rw [intV_int]
  refine D97 ?_
  rw [intV_int]
  intro b hb
  refine D96 (HP.set_eq ..) ?_
  rw [intV_int]
  exact ⟨hp,HSub.set_fresh hp _ hb,h⟩
theorem list_sorted {α:Type} [Inhabited α] {lt:α→α→Bool} {l:List α} {n:Nat} {d':Array α} (hl:l.length=n) (hpm:Sort.PermIn 0 n l.toArray d') (hst:Sort.SortedIn lt 0 n d'):d'.toList.Perm l∧d'.toList.Pairwise (fun x y=>lt y x=false):=by
  have hsz:d'.size=n:=by rw [hpm.1]; simpa using hl
  refine ⟨?_,?_⟩
  · have h3:=hpm.2.2
    have e1:d'.extract 0 n=d':=by rw [← hsz]; simp
    have e2:l.toArray.extract 0 n=l.toArray:=by rw [← hl]; simp
    rw [e1,e2] at h3
    exact h3
  · rw [List.pairwise_iff_getElem]
    intro i j hi hj hij
    have:=hst i j (Nat.zero_le _) hij (by simpa [hsz] using hj)
    rw [getElem!_pos d' j (by simpa using hj),getElem!_pos d' i (by simpa using hi)] at this
    simpa using this
end Go.Proofs
namespace Go.HL
open Go
theorem wi {x:Int} {i:Nat} (h:x=i) (hb:i≤9223372036854775807):IntKind.wrap .i64 x=i:=by rw [h]; exact w64 (by omega) (by omega)
section
variable {α:Type} {hp0:HP} {b:Nat} {e:TypeId} {sp:Nat} {en:α→List Value} {d:Array α}
theorem HA.set_comm {r:Nat} (hr:r≠b) (x:Ent):(HA hp0 b e sp en d).set r x=HA (hp0.set r x) b e sp en d:=by
  unfold HA; rw [HP.set_comm _ _ _ hr]
theorem HA.ne_of_none {r:Nat} (h:HA hp0 b e sp en d r=.none):r≠b∧hp0 r=.none:=by
  have hb:r≠b:=fun e=>by unfold HA at h; rw [e,HP.set_eq] at h; cases h
  refine ⟨hb,?_⟩
  unfold HA at h
  rwa [HP.set_ne _ _ hb] at h
theorem HA.ne {r:Nat} (h:r≠b):HA hp0 b e sp en d r=hp0 r:=by
  unfold HA; rw [HP.set_ne _ _ h]
end
section
variable {α:Type} [Inhabited α] {P:Program} {f:FuncId} {ga gb:List Value} {hp0:HP} {b:Nat} {e:TypeId} {sp size:Nat} {en:α→List Value} {n:Nat} {cf:α→α→Int} {d:Array α}
theorem cmpP (hc:CmpOk P f ga gb hp0 b e sp en n cf) (he:∀ x,(en x).length=size) {I J:Int} {i j:Nat} {X:Int→HP→Prop} (hs:d.size=n) (hI:I=i) (hJ:J=j) (hi:i<n) (hj:j<n)
    (h:X (cf d[i]! d[j]!) (HA hp0 b e sp en d)) :
    ((0≤I)∧(I<(n:Nat))∧(ptrN (some ⟨b,0,none⟩) fun b1 o2=>(ldL (HP.cellN (HA hp0 b e sp en d) b1 (o2+Int.toNat I*size) size) fun l3=>((0≤J)∧(J<(n:Nat))∧(ptrN (some ⟨b,0,none⟩) fun b4 o5=>(ldL (HP.cellN (HA hp0 b e sp en d) b4 (o5+Int.toNat J*size) size) fun l6=>
      (fnV (.func (.func f) ⟨ga⟩ ⟨gb⟩) fun f7 ga8 gb9=>(CF P f7 (ga8++[(Value.agg ⟨l3⟩),(Value.agg ⟨l6⟩)]++gb9) (HA hp0 b e sp en d) fun u10 h11=>(intV u10 .i64 fun i12=>X i12 h11))))))))):=by
  subst hI hJ
  have g1:=HA.get (hp0:=hp0) (b:=b) (e:=e) (sp:=sp) he (d:=d) (i:=i) (by omega)
  have g2:=HA.get (hp0:=hp0) (b:=b) (e:=e) (sp:=sp) he (d:=d) (i:=j) (by omega)
  simp only [ptrN_some,Int.toNat_natCast,g1,g2,ldL_some,fnV_mk]
  refine ⟨by omega,by omega,by omega,by omega,?_⟩
  refine hc d _ _ _ hs ?_
  rw [intV_int]
  exact h
theorem swapP (he:∀ x,(en x).length=size) (h1:∀ x,(en x).all one=true) {I J:Int} {i j:Nat} {X:HP→Prop} (hs:d.size=n) (hI:I=i) (hJ:J=j) (hi:i<n) (hj:j<n)
    (h:X (HA hp0 b e sp en (Sort.swp d i j))) :
    ((0≤J)∧(J<(n:Nat))∧(ptrN (some ⟨b,0,none⟩) fun b1 o2=>(ldL (HP.cellN (HA hp0 b e sp en d) b1 (o2+Int.toNat J*size) size) fun l3=>((0≤I)∧(I<(n:Nat))∧(ptrN (some ⟨b,0,none⟩) fun b4 o5=>(ldL (HP.cellN (HA hp0 b e sp en d) b4 (o5+Int.toNat I*size) size) fun l6=>
      ((0≤I)∧(I<(n:Nat))∧(ptrN (some ⟨b,0,none⟩) fun b7 o8=>((List.length l3=size)∧(HP.stN (HA hp0 b e sp en d) b7 (o8+Int.toNat I*size) l3 fun h9=>((0≤J)∧(J<(n:Nat))∧(ptrN (some ⟨b,0,none⟩) fun b10 o11=>((List.length l6=size)∧(HP.stN h9 b10 (o11+Int.toNat J*size) l6 fun h12=>X h12)))))))))))))):=by
  subst hI hJ
  have g1:=HA.get (hp0:=hp0) (b:=b) (e:=e) (sp:=sp) he (d:=d) (i:=i) (by omega)
  have g2:=HA.get (hp0:=hp0) (b:=b) (e:=e) (sp:=sp) he (d:=d) (i:=j) (by omega)
  simp only [ptrN_some,Int.toNat_natCast,g1,g2,ldL_some]
  refine ⟨by omega,by omega,by omega,by omega,by omega,by omega,he _,?_⟩
  refine HA.st he h1 (by omega) _ ?_
  refine ⟨by omega,by omega,he _,?_⟩
  refine HA.st he h1 (by rw [Array.size_setIfInBounds]; omega) _ ?_
  exact h
end
end Go.HL
set_option linter.unusedVariables false
set_option maxRecDepth 20000
namespace Go.Proofs
open Go Go.HL
theorem half {x y:Nat} (hx:x≤1000000000) (hy:y≤1000000000):IntKind.wrap .i64 (Int.fdiv (IntKind.wrap .u64 (IntKind.wrap .i64 ((x:Int)+(y:Int)))) (2 ^ (min (Int.toNat 1) (IntKind.bits .u64))))=(((x+y) / 2:Nat):Int):=by
  have e1:IntKind.wrap .i64 ((x:Int)+(y:Int))=((x+y:Nat):Int):=wiN (by omega) (by omega)
  have e2:(2:Int) ^ (min (Int.toNat 1) (IntKind.bits .u64))=2:=rfl
  have e3:IntKind.wrap .u64 ((x+y:Nat):Int)=((x+y:Nat):Int):=by
    exact wu64 (by omega) (by omega)
  rw [e1,e2,e3]
  have e4:Int.fdiv ((x+y:Nat):Int) 2=(((x+y) / 2:Nat):Int):=by
    rw [Int.fdiv_eq_ediv_of_nonneg _ (by omega)]; omega
  rw [e4]
  exact wiN rfl (by omega)
theorem swf_zero {α:Type} (g:Nat→α) (a b:Nat):swf g a b 0=g:=by
  funext k; unfold swf; rw [if_neg (by omega),if_neg (by omega)]
theorem upf_zero {α:Type} (g:Nat→α) (a:Nat):upf g a a=g:=by
  funext k; unfold upf; rw [if_neg (by omega)]; split
  · rename_i h; rw [h]
  · rfl
theorem dnf_zero {α:Type} (g:Nat→α) (m:Nat):dnf g m m=g:=by
  funext k; unfold dnf; rw [if_neg (by omega)]; split
  · rename_i h; rw [h]
  · rfl
section
variable {f:FuncId} {ga gb:List Value} {hp0:HP} {b sp n c:Nat} {cf:Pc→Pc→Int}
theorem S195 {v:Value} {d:Array Pc} {x y k:Nat} {K:Value→HP→Prop} (hs:d.size=n) (hxy:x+k≤y) (hy:y+k≤n) (hn:n≤1000000)
    (h:∀ d',d'.size=n→gA d'=swf (gA d) x y k→Sort.PermIn x (y+k) d d'→K (.tuple ⟨[]⟩) (HA hp0 b 29 sp pc d')) :
    CF Try.prog 195 [.slice (some ⟨b,0,none⟩) n c,.int .i64 x,.int .i64 y,.int .i64 k,v] (HA hp0 b 29 sp pc d) K:=by
  refine F195_ok _ n c x y k v _ K ?_
  unfold F195 F195_j1
  refine LoopP.by (J:=fun r (z:Int) hp=>∃ (i:Nat) (d':Array Pc),z=i∧hp=HA hp0 b 29 sp pc d'∧d'.size=n∧i+r=k∧gA d'=swf (gA d) x y i∧Sort.PermIn x (y+k) d d') ?_
    (n:=k) ⟨0,d,rfl,rfl,hs,by omega,(swf_zero _ _ _).symm,Sort.permIn_refl d _ _⟩
  rintro I r z hp ⟨i,d',rfl,rfl,hs',hir,hg,hp'⟩ hI
  unfold F195_l2
  by_cases hi:i<k
  · rw [decide_eq_true (by omega:(i:Int)<(k:Int)),ite2_true]
    have w1:IntKind.wrap .i64 ((x:Int)+(i:Int))=((x+i:Nat):Int):=wiN (by omega) (by omega)
    have w2:IntKind.wrap .i64 ((y:Int)+(i:Int))=((y+i:Nat):Int):=wiN (by omega) (by omega)
    have w3:IntKind.wrap .i64 ((i:Int)+1)=((i+1:Nat):Int):=wiN (by omega) (by omega)
    rw [w1,w2,w3]
    refine swapP pc_len pc_one hs' rfl rfl (i:=x+i) (j:=y+i) (by omega) (by omega) ?_
    refine hI (r-1) _ _ (by omega) ⟨i+1,_,rfl,rfl,by rw [swp_size]; exact hs',by omega,swf_step hg (by omega) (by omega),?_⟩
    exact Sort.permIn_trans _ _ _ _ _ hp' (Sort.swp_permIn d' _ _ _ _ (by omega) (by omega) (by omega) (by omega) (by omega))
  · rw [decide_eq_false (by omega:¬ (i:Int)<(k:Int)),ite2_false]
    have:i=k:=by omega
    subst this
    exact h d' hs' hg hp'
theorem S188 {v:Value} {d:Array Pc} {x m y:Nat} {K:Value→HP→Prop} (hs:d.size=n) (hxm:x<m) (hmy:m<y) (hy:y≤n) (hn:n≤1000000)
    (h:∀ d',d'.size=n→gA d'=rotf (gA d) x m y→Sort.PermIn x y d d'→K (.tuple ⟨[]⟩) (HA hp0 b 29 sp pc d')) :
    CF Try.prog 188 [.slice (some ⟨b,0,none⟩) n c,.int .i64 x,.int .i64 m,.int .i64 y,v] (HA hp0 b 29 sp pc d) K:=by
  refine F188_ok _ n c x m y v _ K ?_
  unfold F188 F188_j1
  have w1:IntKind.wrap .i64 ((m:Int)-(x:Int))=((m-x:Nat):Int):=wiN (by omega) (by omega)
  have w2:IntKind.wrap .i64 ((y:Int)-(m:Int))=((y-m:Nat):Int):=wiN (by omega) (by omega)
  rw [w1,w2]
  refine LoopP.by (J:=fun r (z:Int × Int) hp=>∃ (i j:Nat) (d':Array Pc),z=((i:Int),(j:Int))∧hp=HA hp0 b 29 sp pc d'∧d'.size=n∧r=i+j∧0<i∧0<j∧x+i≤m∧m+j≤y∧rotf (gA d') (m-i) m (m+j)=rotf (gA d) x m y∧Sort.PermIn x y d d') ?_
    (n:=(m-x)+(y-m)) ⟨m-x,y-m,d,rfl,rfl,hs,rfl,by omega,by omega,by omega,by omega,by congr 1 <;> omega,Sort.permIn_refl d _ _⟩
  rintro I r z hp ⟨i,j,d',rfl,rfl,hs',hr,hi0,hj0,hi,hj,hg,hp'⟩ hI
  unfold F188_l3
  simp only []
  have w3:IntKind.wrap .i64 ((m:Int)-(i:Int))=((m-i:Nat):Int):=wiN (by omega) (by omega)
  have w4:IntKind.wrap .i64 ((m:Int)+(j:Int))=((m+j:Nat):Int):=wiN (by omega) (by omega)
  have w5:IntKind.wrap .i64 (((m+j:Nat):Int)-(i:Int))=((m+j-i:Nat):Int):=wiN (by omega) (by omega)
  rw [w3,w4,w5]
  by_cases hij:i=j
  · have e:((i:Int) != (j:Int))=false:=by rw [hij]; simp
    rw [e,ite2_false]
    unfold F188_j2
    rw [w3]
    refine S195 hs' (by omega) (by omega) hn ?_
    intro d2 hs2 hg2 hp2
    refine h d2 hs2 ?_ (Sort.permIn_trans _ _ _ _ _ hp' (Sort.permIn_mono _ _ _ _ _ _ (by omega) (by omega) (by omega) hp2))
    rw [hg2,rot_same (by omega),← hg,hij]
  · have e:((i:Int) != (j:Int))=true:=by rw [bne_iff_ne]; omega
    rw [e,ite2_true]
    by_cases hgt:i > j
    · rw [decide_eq_true (by omega:(i:Int) > (j:Int)),ite2_true]
      have w6:IntKind.wrap .i64 ((i:Int)-(j:Int))=((i-j:Nat):Int):=wiN (by omega) (by omega)
      rw [w6]
      refine S195 hs' (by omega) (by omega) hn ?_
      intro d2 hs2 hg2 hp2
      refine hI (i-j+j) _ _ (by omega) ⟨i-j,j,d2,rfl,rfl,hs2,rfl,by omega,hj0,by omega,hj,?_,Sort.permIn_trans _ _ _ _ _ hp' (Sort.permIn_mono _ _ _ _ _ _ (by omega) (by omega) (by omega) hp2)⟩
      rw [hg2,rot_left (by omega) hgt hj0,hg]
    · rw [decide_eq_false (by omega:¬ (i:Int) > (j:Int)),ite2_false]
      have w6:IntKind.wrap .i64 ((j:Int)-(i:Int))=((j-i:Nat):Int):=wiN (by omega) (by omega)
      rw [w6]
      refine S195 hs' (by omega) (by omega) hn ?_
      intro d2 hs2 hg2 hp2
      refine hI (i+(j-i)) _ _ (by omega) ⟨i,j-i,d2,rfl,rfl,hs2,rfl,hi0,by omega,hi,by omega,?_,Sort.permIn_trans _ _ _ _ _ hp' (Sort.permIn_mono _ _ _ _ _ _ (by omega) (by omega) (by omega) hp2)⟩
      rw [hg2,rot_right (by omega) (by omega) hi0,hg]
theorem S170 (hc:CmpOk Try.prog f ga gb hp0 b 29 sp pc n cf) (hS:Sort.SWO (ltC cf)) (hn:n≤1000000):∀ (N:Nat) {d:Array Pc} {x m y:Nat} {K:Value→HP→Prop},y-x≤N→d.size=n→x<m→m<y→y≤n →
    (∀ d',d'.size=n→Sort.PermIn x y d d'→(Sort.SortedIn (ltC cf) x m d→Sort.SortedIn (ltC cf) m y d→Sort.SortedIn (ltC cf) x y d')→K (.tuple ⟨[]⟩) (HA hp0 b 29 sp pc d')) →
    CF Try.prog 170 [.slice (some ⟨b,0,none⟩) n c,.int .i64 x,.int .i64 m,.int .i64 y,.func (.func f) ⟨ga⟩ ⟨gb⟩] (HA hp0 b 29 sp pc d) K:=by
  intro N
  induction N with
  | zero=>intro d x m y K h0 _ h1 h2; omega
  | succ N ih=>
  intro d x m y K hN hs hxm hmy hy h
  refine F170_ok _ n c x m y _ _ K ?_
  unfold F170
  have w1:IntKind.wrap .i64 ((m:Int)-(x:Int))=((m-x:Nat):Int):=wiN (by omega) (by omega)
  have w2:IntKind.wrap .i64 ((y:Int)-(m:Int))=((y-m:Nat):Int):=wiN (by omega) (by omega)
  rw [w1]
  by_cases h1:m=x+1
  ·
    have e:(((m-x:Nat):Int)==1)=true:=by rw [beq_iff_eq]; omega
    rw [e,ite2_true]
    unfold F170_j17
    refine LoopP.by (J:=fun r (z:Int × Int) hp=>∃ (i j:Nat),z=((i:Int),(j:Int))∧hp=HA hp0 b 29 sp pc d∧r=j-i∧m≤i∧i≤j∧j≤y∧(i=m∨ltC cf d[i-1]! d[x]! = true)∧(j=y∨ltC cf d[j]! d[x]! = false)) ?_
      (n:=y-m) ⟨m,y,rfl,rfl,rfl,by omega,by omega,by omega,.inl rfl,.inl rfl⟩
    rintro I r z hp ⟨i,j,rfl,rfl,rfl,hmi,hij,hjy,q1,q2⟩ hI
    unfold F170_l21
    simp only []
    by_cases hlt:i<j
    · rw [decide_eq_true (by omega:(i:Int)<(j:Int)),ite2_true,half (by omega) (by omega)]
      refine ⟨by decide,?_⟩
      have w3:IntKind.wrap .i64 ((((i+j) / 2:Nat):Int)+1)=(((i+j) / 2+1:Nat):Int):=wiN (by omega) (by omega)
      rw [w3]
      refine cmpP hc pc_len hs rfl rfl (i:=(i+j) / 2) (j:=x) (by omega) (by omega) ?_
      cases hl:ltC cf d[(i+j) / 2]! d[x]!
      · have e2:decide (cf d[(i+j) / 2]! d[x]!<0)=false:=hl
        rw [e2,ite2_false]
        exact hI _ _ _ (by omega) ⟨i,(i+j) / 2,rfl,rfl,rfl,hmi,by omega,by omega,q1,.inr hl⟩
      · have e2:decide (cf d[(i+j) / 2]! d[x]!<0)=true:=hl
        rw [e2,ite2_true]
        exact hI _ _ _ (by omega) ⟨(i+j) / 2+1,j,rfl,rfl,rfl,by omega,by omega,hjy,.inr (by simpa using hl),q2⟩
    · rw [decide_eq_false (by omega:¬ (i:Int)<(j:Int)),ite2_false]
      have hji:j=i:=by omega
      subst hji
      unfold F170_j18 F170_j19
      have hf:HL.Found (fun h=>ltC cf d[h]! d[x]!) (x+1) y j:=⟨by omega,hjy,by rw [← h1]; exact q1,q2⟩
      refine LoopP.by (J:=fun r (z:Int) hp=>∃ (k:Nat) (d':Array Pc),z=k∧hp=HA hp0 b 29 sp pc d'∧d'.size=n∧x≤k∧k+r=j-1∧gA d'=upf (gA d) x k∧Sort.PermIn x y d d') ?_
        (n:=j-1-x) ⟨x,d,rfl,rfl,hs,Nat.le_refl _,by omega,(upf_zero _ _).symm,Sort.permIn_refl d _ _⟩
      rintro I2 r2 z2 hp2 ⟨k,d',rfl,rfl,hs',hxk,hkr,hg,hp'⟩ hI2
      unfold F170_l20
      have w3:IntKind.wrap .i64 ((j:Int)-1)=((j-1:Nat):Int):=wiN (by omega) (by omega)
      have w4:IntKind.wrap .i64 ((k:Int)+1)=((k+1:Nat):Int):=wiN (by omega) (by omega)
      rw [w3]
      by_cases hk:k<j-1
      · rw [decide_eq_true (by omega:(k:Int)<((j-1:Nat):Int)),ite2_true,w4]
        refine swapP pc_len pc_one hs' rfl rfl (i:=k) (j:=k+1) (by omega) (by omega) ?_
        refine hI2 (r2-1) _ _ (by omega) ⟨k+1,_,rfl,rfl,by rw [swp_size]; exact hs',by omega,by omega,upf_step hxk hg (by omega),?_⟩
        exact Sort.permIn_trans _ _ _ _ _ hp' (Sort.swp_permIn d' _ _ _ _ (by omega) (by omega) (by omega) (by omega) (by omega))
      · rw [decide_eq_false (by omega:¬ (k:Int)<((j-1:Nat):Int)),ite2_false]
        have hkj:k=j-1:=by omega
        subst hkj
        exact h d' hs' hp' fun _ s2=>up_sorted hS (by omega) (by rw [← h1]; exact s2) hf hg
  have e:(((m-x:Nat):Int)==1)=false:=by rw [beq_eq_false_iff_ne]; omega
  rw [e,ite2_false]
  unfold F170_j1
  rw [w2]
  by_cases h2:y=m+1
  ·
    have e:(((y-m:Nat):Int)==1)=true:=by rw [beq_iff_eq]; omega
    rw [e,ite2_true]
    unfold F170_j12
    refine LoopP.by (J:=fun r (z:Int × Int) hp=>∃ (i j:Nat),z=((i:Int),(j:Int))∧hp=HA hp0 b 29 sp pc d∧r=j-i∧x≤i∧i≤j∧j≤m∧(i=x∨(!ltC cf d[m]! d[i-1]!)=true)∧(j=m∨(!ltC cf d[m]! d[j]!)=false)) ?_
      (n:=m-x) ⟨x,m,rfl,rfl,rfl,by omega,by omega,by omega,.inl rfl,.inl rfl⟩
    rintro I r z hp ⟨i,j,rfl,rfl,rfl,hmi,hij,hjy,q1,q2⟩ hI
    unfold F170_l16
    simp only []
    by_cases hlt:i<j
    · rw [decide_eq_true (by omega:(i:Int)<(j:Int)),ite2_true,half (by omega) (by omega)]
      refine ⟨by decide,?_⟩
      have w3:IntKind.wrap .i64 ((((i+j) / 2:Nat):Int)+1)=(((i+j) / 2+1:Nat):Int):=wiN (by omega) (by omega)
      rw [w3]
      refine cmpP hc pc_len hs rfl rfl (i:=m) (j:=(i+j) / 2) (by omega) (by omega) ?_
      cases hl:ltC cf d[m]! d[(i+j) / 2]!
      · have e2:decide (cf d[m]! d[(i+j) / 2]!<0)=false:=hl
        rw [e2,Bool.not_false,ite2_true]
        exact hI _ _ _ (by omega) ⟨(i+j) / 2+1,j,rfl,rfl,rfl,by omega,by omega,hjy,.inr (by simp [hl]),q2⟩
      · have e2:decide (cf d[m]! d[(i+j) / 2]!<0)=true:=hl
        rw [e2,Bool.not_true,ite2_false]
        exact hI _ _ _ (by omega) ⟨i,(i+j) / 2,rfl,rfl,rfl,hmi,by omega,by omega,q1,.inr (by simp [hl])⟩
    · rw [decide_eq_false (by omega:¬ (i:Int)<(j:Int)),ite2_false]
      have hji:j=i:=by omega
      subst hji
      unfold F170_j13 F170_j14
      have hf:HL.Found (fun h=>!ltC cf d[m]! d[h]!) x m j:=⟨hmi,hjy,q1,q2⟩
      refine LoopP.by (J:=fun r (z:Int) hp=>∃ (k:Nat) (d':Array Pc),z=k∧hp=HA hp0 b 29 sp pc d'∧d'.size=n∧k≤m∧k=j+r∧gA d'=dnf (gA d) k m∧Sort.PermIn x y d d') ?_
        (n:=m-j) ⟨m,d,rfl,rfl,hs,Nat.le_refl _,by omega,(dnf_zero _ _).symm,Sort.permIn_refl d _ _⟩
      rintro I2 r2 z2 hp2 ⟨k,d',rfl,rfl,hs',hxk,hkr,hg,hp'⟩ hI2
      unfold F170_l15
      by_cases hk:j<k
      · rw [decide_eq_true (by omega:(k:Int) > (j:Int)),ite2_true]
        obtain ⟨k',rfl⟩:∃ k',k=k'+1:=⟨k-1,by omega⟩
        have w4:IntKind.wrap .i64 (((k'+1:Nat):Int)-1)=(k':Int):=wiN (by omega) (by omega)
        rw [w4]
        refine swapP pc_len pc_one hs' rfl rfl (i:=k'+1) (j:=k') (by omega) (by omega) ?_
        refine hI2 (r2-1) _ _ (by omega) ⟨k',_,rfl,rfl,by rw [swp_size]; exact hs',by omega,by omega,dnf_step hxk hg (by omega),?_⟩
        exact Sort.permIn_trans _ _ _ _ _ hp' (Sort.swp_permIn d' _ _ _ _ (by omega) (by omega) (by omega) (by omega) (by omega))
      · rw [decide_eq_false (by omega:¬ (k:Int) > (j:Int)),ite2_false]
        have hkj:k=j:=by omega
        subst hkj
        exact h d' hs' hp' fun s1 _=>by rw [h2]; exact dn_sorted hS (by omega) s1 hf hg
  have e:(((y-m:Nat):Int)==1)=false:=by rw [beq_eq_false_iff_ne]; omega
  rw [e,ite2_false]
  unfold F170_j2
  rw [half (by omega) (by omega)]
  refine ⟨by decide,?_⟩
  have hmid0:x+1<(x+y) / 2:=by omega
  generalize hmid:(x+y) / 2=mid at *
  have w3:IntKind.wrap .i64 ((mid:Int)+(m:Int))=((mid+m:Nat):Int):=wiN (by omega) (by omega)
  rw [w3]
  have go:∀ lo hi:Nat,(lo=if m > mid then mid+m-y else x)→(hi=if m > mid then mid else m)→F170_j3 (some ⟨b,0,none⟩) n c x m y (.func (.func f) ⟨ga⟩ ⟨gb⟩) mid ((mid+m:Nat):Int) lo hi (HA hp0 b 29 sp pc d) K:=by
    intro lo hi hlo hhi
    have hb0:x≤lo∧lo≤hi∧hi≤m∧hi≤mid∧mid+m-lo≤y∧m≤mid+m-lo:=by split at hlo <;> split at hhi <;> omega
    obtain ⟨b1,b2,b3,b4,b5,b6⟩:=hb0
    unfold F170_j3 F170_j4
    have w4:IntKind.wrap .i64 (((mid+m:Nat):Int)-1)=((mid+m-1:Nat):Int):=wiN (by omega) (by omega)
    rw [w4]
    refine LoopP.by (J:=fun r (z:Int × Int) hp=>∃ (i j:Nat),z=((i:Int),(j:Int))∧hp=HA hp0 b 29 sp pc d∧r=j-i∧lo≤i∧i≤j∧j≤hi∧(i=lo∨(!ltC cf d[mid+m-1-(i-1)]! d[i-1]!)=true)∧(j=hi∨(!ltC cf d[mid+m-1-j]! d[j]!)=false)) ?_
      (n:=hi-lo) ⟨lo,hi,rfl,rfl,rfl,by omega,by omega,by omega,.inl rfl,.inl rfl⟩
    rintro I r z hp ⟨i,j,rfl,rfl,rfl,hmi,hij,hjy,q1,q2⟩ hI
    unfold F170_l11
    simp only []
    by_cases hlt:i<j
    · rw [decide_eq_true (by omega:(i:Int)<(j:Int)),ite2_true,half (by omega) (by omega)]
      refine ⟨by decide,?_⟩
      have w5:IntKind.wrap .i64 ((((i+j) / 2:Nat):Int)+1)=(((i+j) / 2+1:Nat):Int):=wiN (by omega) (by omega)
      have w6:IntKind.wrap .i64 (((mid+m-1:Nat):Int)-(((i+j) / 2:Nat):Int))=((mid+m-1-(i+j) / 2:Nat):Int):=wiN (by omega) (by omega)
      rw [w5,w6]
      refine cmpP hc pc_len hs rfl rfl (i:=mid+m-1-(i+j) / 2) (j:=(i+j) / 2) (by omega) (by omega) ?_
      cases hl:ltC cf d[mid+m-1-(i+j) / 2]! d[(i+j) / 2]!
      · have e2:decide (cf d[mid+m-1-(i+j) / 2]! d[(i+j) / 2]!<0)=false:=hl
        rw [e2,Bool.not_false,ite2_true]
        exact hI _ _ _ (by omega) ⟨(i+j) / 2+1,j,rfl,rfl,rfl,by omega,by omega,hjy,.inr (by simp [hl]),q2⟩
      · have e2:decide (cf d[mid+m-1-(i+j) / 2]! d[(i+j) / 2]!<0)=true:=hl
        rw [e2,Bool.not_true,ite2_false]
        exact hI _ _ _ (by omega) ⟨i,(i+j) / 2,rfl,rfl,rfl,hmi,by omega,by omega,q1,.inr (by simp [hl])⟩
    rw [decide_eq_false (by omega:¬ (i:Int)<(j:Int)),ite2_false]
    have hji:j=i:=by omega
    subst hji
    have hf:HL.Found (fun c=>!ltC cf d[mid+m-1-c]! d[c]!) lo hi j:=⟨hmi,hjy,q1,q2⟩
    clear hI
    unfold F170_j5
    have w5:IntKind.wrap .i64 (((mid+m:Nat):Int)-(j:Int))=((mid+m-j:Nat):Int):=wiN (by omega) (by omega)
    rw [w5]
    generalize he:mid+m-j=e' at *
    have c1:x≤j∧j≤mid∧j≤m∧m≤e'∧mid≤e'∧e'≤y:=by omega
    obtain ⟨c1,c2,c3,c4,c5,c6⟩:=c1
    have fin:∀ d1:Array Pc,d1.size=n→gA d1=rotf (gA d) j m e'→Sort.PermIn x y d d1→F170_j6 (some ⟨b,0,none⟩) n c x y (.func (.func f) ⟨ga⟩ ⟨gb⟩) mid j e' (HA hp0 b 29 sp pc d1) K:=by
      intro d1 hs1 hg1 hp1
      have rgt:∀ d2:Array Pc,d2.size=n→Sort.PermIn x mid d1 d2→(Sort.SortedIn (ltC cf) x j d1→Sort.SortedIn (ltC cf) j mid d1→Sort.SortedIn (ltC cf) x mid d2)→F170_j7 (some ⟨b,0,none⟩) n c y (.func (.func f) ⟨ga⟩ ⟨gb⟩) mid e' (HA hp0 b 29 sp pc d2) K:=by
        intro d2 hs2 hp2 hq2
        have done:∀ d3:Array Pc,d3.size=n→Sort.PermIn mid y d2 d3→(Sort.SortedIn (ltC cf) mid e' d2→Sort.SortedIn (ltC cf) e' y d2→Sort.SortedIn (ltC cf) mid y d3)→K (.tuple ⟨[]⟩) (HA hp0 b 29 sp pc d3):=by
          intro d3 hs3 hp3 hq3
          refine h d3 hs3 ?_ ?_
          · exact Sort.permIn_trans _ _ _ _ _ hp1 (Sort.permIn_trans _ _ _ _ _ (Sort.permIn_mono _ _ _ _ _ _ (by omega) (by omega) (by omega) hp2) (Sort.permIn_mono _ _ _ _ _ _ (by omega) (by omega) (by omega) hp3))
          · intro s1 s2
            obtain ⟨p1,p2,p3,p4,p5⟩:=sym_parts hS hxm hmy s1 s2 hmid.symm hlo hhi hf he.symm hg1
            exact sym_done (by omega) c1 c2 c5 c6 p1 p2 p3 p4 p5 hp2 hq2 hp3 hq3
        have none:¬ (mid<e'∧e'<y)→K (.tuple ⟨[]⟩) (HA hp0 b 29 sp pc d2):=by
          intro hno
          refine done d2 hs2 (Sort.permIn_refl d2 _ _) fun t1 t2=>?_
          rcases Nat.lt_or_ge mid e' with g | g
          · have:e'=y:=by omega
            rw [← this]; exact t1
          · have:e'=mid:=by omega
            rw [← this]; exact t2
        unfold F170_j7 F170_j8
        by_cases g1:mid<e'
        · rw [decide_eq_true (by omega:(mid:Int)<(e':Int)),ite2_true]
          by_cases g2:e'<y
          · rw [decide_eq_true (by omega:(e':Int)<(y:Int)),ite2_true]
            exact ih (by omega) hs2 g1 g2 hy done
          · rw [decide_eq_false (by omega:¬ (e':Int)<(y:Int)),ite2_false]
            exact none (fun x=>g2 x.2)
        · rw [decide_eq_false (by omega:¬ (mid:Int)<(e':Int)),ite2_false,ite2_false]
          exact none (fun x=>g1 x.1)
      have none:¬ (x<j∧j<mid)→F170_j7 (some ⟨b,0,none⟩) n c y (.func (.func f) ⟨ga⟩ ⟨gb⟩) mid e' (HA hp0 b 29 sp pc d1) K:=by
        intro hno
        refine rgt d1 hs1 (Sort.permIn_refl d1 _ _) fun t1 t2=>?_
        rcases Nat.lt_or_ge x j with g | g
        · have:j=mid:=by omega
          rw [← this]; exact t1
        · have:j=x:=by omega
          rw [← this]; exact t2
      unfold F170_j6 F170_j9
      by_cases g1:x<j
      · rw [decide_eq_true (by omega:(x:Int)<(j:Int)),ite2_true]
        by_cases g2:j<mid
        · rw [decide_eq_true (by omega:(j:Int)<(mid:Int)),ite2_true]
          exact ih (by omega) hs1 g1 g2 (by omega) rgt
        · rw [decide_eq_false (by omega:¬ (j:Int)<(mid:Int)),ite2_false]
          exact none (fun x=>g2 x.2)
      · rw [decide_eq_false (by omega:¬ (x:Int)<(j:Int)),ite2_false,ite2_false]
        exact none (fun x=>g1 x.1)
    have stay:¬ (j<m∧m<e')→F170_j6 (some ⟨b,0,none⟩) n c x y (.func (.func f) ⟨ga⟩ ⟨gb⟩) mid j e' (HA hp0 b 29 sp pc d) K:=fun hno=>
      fin d hs (rot_id (by omega) c3 c4).symm (Sort.permIn_refl d _ _)
    unfold F170_j10
    by_cases g1:j<m
    · rw [decide_eq_true (by omega:(j:Int)<(m:Int)),ite2_true]
      by_cases g2:m<e'
      · rw [decide_eq_true (by omega:(m:Int)<(e':Int)),ite2_true]
        refine S188 hs g1 g2 (by omega) hn ?_
        intro d1 hs1 hg1 hp1
        exact fin d1 hs1 hg1 (Sort.permIn_mono _ _ _ _ _ _ (by omega) (by omega) (by omega) hp1)
      · rw [decide_eq_false (by omega:¬ (m:Int)<(e':Int)),ite2_false]
        exact stay (fun x=>g2 x.2)
    · rw [decide_eq_false (by omega:¬ (j:Int)<(m:Int)),ite2_false,ite2_false]
      exact stay (fun x=>g1 x.1)
  by_cases hgt:m > mid
  · rw [decide_eq_true (by omega:(m:Int) > (mid:Int)),ite2_true]
    have w4:IntKind.wrap .i64 (((mid+m:Nat):Int)-(y:Int))=((mid+m-y:Nat):Int):=wiN (by omega) (by omega)
    rw [w4]
    exact go _ _ (if_pos hgt).symm (if_pos hgt).symm
  · rw [decide_eq_false (by omega:¬ (m:Int) > (mid:Int)),ite2_false]
    exact go _ _ (if_neg hgt).symm (if_neg hgt).symm
end
theorem S145 {hp:HP} {b c n:Nat} {l:List Pc} {K:Value→HP→Prop} (hb:hp b=.cells 29 (l.flatMap pc) ((c-n)*6)) (hl:l.length=n) (hn:n≤100000)
    (h:∀ l':List Pc,l'.Perm l→l'.Pairwise (fun x y=>ltC cfP y x=false)→K (.tuple ⟨[]⟩) (hp.set b (.cells 29 (l'.flatMap pc) ((c-n)*6)))) :
    CF Try.prog 124 [.slice (some ⟨b,0,none⟩) n c,.func (.func 125) ⟨[]⟩ ⟨[]⟩] hp K:=by
  refine F124_ok _ n c _ hp K ?_
  unfold F124
  refine F145_ok _ n c (n:Int) _ hp _ ?_
  unfold F145 F145_j1
  have hc:CmpOk Try.prog 125 [] [] hp b 29 ((c-n)*6) pc n cfP:=fun d x y K _ hK=>C125 hK
  have hH:hp=HA hp b 29 ((c-n)*6) pc l.toArray:=by
    unfold HA; exact (HP.set_self hp b _ (by simpa using hb)).symm
  have hls:l.toArray.size=n:=by simpa using hl
  have fin:∀ d':Array Pc,Sort.PermIn 0 n l.toArray d'→Sort.SortedIn (ltC cfP) 0 n d'→K (.tuple ⟨[]⟩) (HA hp b 29 ((c-n)*6) pc d'):=by
    intro d' i1 i2
    obtain ⟨g1,g2⟩:=list_sorted hl i1 i2
    exact h _ g1 g2
  have mrg:∀ d0:Array Pc,d0.size=n→Sort.PermIn 0 n l.toArray d0→Lev (ltC cfP) 20 0 n d0→F145_j3 (some ⟨b,0,none⟩) n c n (.func (.func 125) ⟨[]⟩ ⟨[]⟩) 20 (HA hp b 29 ((c-n)*6) pc d0) (fun u_1 h_2=>K (.tuple ⟨[]⟩) h_2):=by
    intro d0 hs0 hp0 hl0
    unfold F145_j3
    refine LoopP.by (J:=fun r (z:Int) hp'=>∃ (w:Nat) (d':Array Pc),z=w∧hp'=HA hp b 29 ((c-n)*6) pc d'∧d'.size=n∧0<w∧w≤200000∧r=n-w∧Sort.PermIn 0 n l.toArray d'∧Lev (ltC cfP) w 0 n d') ?_
      (n:=n-20) ⟨20,d0,rfl,rfl,hs0,by omega,by omega,rfl,hp0,hl0⟩
    rintro I r z hp' ⟨w,d1,rfl,rfl,hs1,hw0,hw1,rfl,hp1,hl1⟩ hI
    unfold F145_l4
    by_cases hwn:w<n
    rotate_left
    · rw [decide_eq_false (by omega:¬ (w:Int)<(n:Int)),ite2_false]
      exact fin d1 hp1 (hl1.all (by omega))
    rw [decide_eq_true (by omega:(w:Int)<(n:Int)),ite2_true]
    have w1:IntKind.wrap .i64 (2*(w:Int))=((2*w:Nat):Int):=wiN (by omega) (by omega)
    rw [w1]
    unfold F145_j5
    refine LoopP.by (J:=fun r (z:Int × Int) hp'=>∃ (t:Nat) (d':Array Pc),z=(((2*w*t:Nat):Int),((2*w*t+2*w:Nat):Int))∧hp'=HA hp b 29 ((c-n)*6) pc d'∧d'.size=n∧2*w*t≤n∧r=n-2*w*t∧Sort.PermIn 0 n l.toArray d'∧Lev (ltC cfP) (2*w) 0 (2*w*t) d'∧Lev (ltC cfP) w (2*w*t) n d') ?_
      (n:=n) ⟨0,d1,by simp,rfl,hs1,by omega,by omega,hp1,Lev.nil,by simpa using hl1⟩
    rintro I2 r2 z2 hp2 ⟨t,d2,rfl,rfl,hs2,ht,rfl,hp2',hla,hlb⟩ hI2
    unfold F145_l8
    simp only []
    have e2w:2*w*t=w*(2*t):=by rw [Nat.mul_comm 2 w,Nat.mul_assoc]
    have e2w1:2*w*t+w=w*(2*t+1):=by rw [e2w,Nat.mul_succ]
    have e2w2:2*w*t+2*w=w*(2*t+1+1):=by rw [Nat.mul_succ,← e2w1]; omega
    have e2w3:2*w*t+2*w=2*w*(t+1):=(Nat.mul_succ _ _).symm
    have w2:IntKind.wrap .i64 (((2*w*t:Nat):Int)+(w:Int))=((2*w*t+w:Nat):Int):=wiN (by omega) (by omega)
    rw [w2]
    by_cases hb2:2*w*t+2*w≤n
    · rw [decide_eq_true (by omega:((2*w*t+2*w:Nat):Int)≤(n:Int)),ite2_true]
      have w3:IntKind.wrap .i64 (((2*w*t+2*w:Nat):Int)+((2*w:Nat):Int))=((2*w*t+2*w+2*w:Nat):Int):=wiN (by omega) (by omega)
      rw [w1,w3]
      refine S170 hc swo_cfP (by omega) (2*w) (by omega) hs2 (by omega) (by omega) hb2 ?_
      intro d3 hs3 hp3 hq3
      have k1:Sort.SortedIn (ltC cfP) (2*w*t) (2*w*t+w) d2:=by
        have:=hlb.part (t:=2*t) (hi:=2*w*t+w) hw0 (by omega) (by omega) (by omega)
        rw [← e2w] at this; exact this
      have k2:Sort.SortedIn (ltC cfP) (2*w*t+w) (2*w*t+2*w) d2:=by
        have:=hlb.part (t:=2*t+1) (hi:=2*w*t+2*w) hw0 (by omega) (by omega) (by omega)
        rw [← e2w1] at this; exact this
      have k3:=hq3 k1 k2
      have k4:=(hla.off hp3 (.inl (Nat.le_refl _))).add (by omega) k3
      have k5:=(hlb.up (show 2*w*t≤2*w*t+2*w by omega)).off hp3 (.inr (Nat.le_refl _))
      refine hI2 (n-2*w*(t+1)) _ _ (by omega) ⟨t+1,d3,by rw [← e2w3],rfl,hs3,by omega,rfl,Sort.permIn_trans _ _ _ _ _ hp2' (Sort.permIn_mono _ _ _ _ _ _ (by omega) hb2 (by omega) hp3),by rw [← e2w3]; exact k4,by rw [← e2w3]; exact k5⟩
    rw [decide_eq_false (by omega:¬ ((2*w*t+2*w:Nat):Int)≤(n:Int)),ite2_false]
    have last:∀ d3:Array Pc,d3.size=n→Sort.PermIn (2*w*t) n d2 d3→Sort.SortedIn (ltC cfP) (2*w*t) n d3→F145_j7 (some ⟨b,0,none⟩) n c n (.func (.func 125) ⟨[]⟩ ⟨[]⟩) w (HA hp b 29 ((c-n)*6) pc d3) I (fun u_1 h_2=>K (.tuple ⟨[]⟩) h_2):=by
      intro d3 hs3 hp3 hq3
      unfold F145_j7
      have w3:IntKind.wrap .i64 ((w:Int)*2)=((2*w:Nat):Int):=wiN (by omega) (by omega)
      rw [w3]
      refine hI (n-2*w) _ _ (by omega) ⟨2*w,d3,rfl,rfl,hs3,by omega,by omega,rfl,Sort.permIn_trans _ _ _ _ _ hp2' (Sort.permIn_mono _ _ _ _ _ _ (by omega) (Nat.le_refl _) (by omega) hp3),?_⟩
      exact (hla.off hp3 (.inl (Nat.le_refl _))).add (by omega) hq3
    unfold F145_j6
    rw [w2]
    by_cases hm:2*w*t+w<n
    · rw [decide_eq_true (by omega:((2*w*t+w:Nat):Int)<(n:Int)),ite2_true]
      refine S170 hc swo_cfP (by omega) (2*w) (by omega) hs2 (by omega) hm (Nat.le_refl _) ?_
      intro d3 hs3 hp3 hq3
      have k1:Sort.SortedIn (ltC cfP) (2*w*t) (2*w*t+w) d2:=by
        have:=hlb.part (t:=2*t) (hi:=2*w*t+w) hw0 (by omega) (by omega) (by omega)
        rw [← e2w] at this; exact this
      have k2:Sort.SortedIn (ltC cfP) (2*w*t+w) n d2:=by
        have:=hlb.part (t:=2*t+1) (hi:=n) hw0 (by omega) (by omega) (by omega)
        rw [← e2w1] at this; exact this
      exact last d3 hs3 hp3 (hq3 k1 k2)
    · rw [decide_eq_false (by omega:¬ ((2*w*t+w:Nat):Int)<(n:Int)),ite2_false]
      refine last d2 hs2 (Sort.permIn_refl d2 _ _) ?_
      have:=hlb.part (t:=2*t) (hi:=n) hw0 (by omega) (by omega) (by omega)
      rw [← e2w] at this; exact this
  have z0:((0:Int),(20:Int))=(((20*0:Nat):Int),((20*0+20:Nat):Int)):=rfl
  rw [z0]
  refine LoopP.by (J:=fun r (y:Int × Int) hp'=>∃ (t:Nat) (d':Array Pc),y=(((20*t:Nat):Int),((20*t+20:Nat):Int))∧hp'=HA hp b 29 ((c-n)*6) pc d'∧d'.size=n∧20*t≤n∧r=n-20*t∧Sort.PermIn 0 n l.toArray d'∧Lev (ltC cfP) 20 0 (20*t) d') ?_
    (n:=n) ⟨0,l.toArray,rfl,hH,hls,by omega,by omega,Sort.permIn_refl _ _ _,Lev.nil⟩
  rintro I r y hp' ⟨t,d1,rfl,rfl,hs1,ht,rfl,hp1,hl1⟩ hI
  unfold F145_l9
  simp only []
  by_cases hb2:20*t+20≤n
  · rw [decide_eq_true (by omega:((20*t+20:Nat):Int)≤(n:Int)),ite2_true]
    have w3:IntKind.wrap .i64 (((20*t+20:Nat):Int)+20)=((20*(t+1)+20:Nat):Int):=wiN (by omega) (by omega)
    rw [w3]
    refine S169 hc hs1 (by omega) hb2 (by omega) ?_
    obtain ⟨i1,i2⟩:=Sort.insertionSort_holds swo_cfP d1 (20*t) (20*t+20) (by omega) (by omega)
    have k4:=(hl1.off i1 (.inl (Nat.le_refl _))).add (by omega) i2
    exact hI (n-20*(t+1)) _ _ (by omega) ⟨t+1,_,rfl,rfl,by rw [i1.1]; exact hs1,by omega,rfl,Sort.permIn_trans _ _ _ _ _ hp1 (Sort.permIn_mono _ _ _ _ _ _ (by omega) hb2 (by omega) i1),k4⟩
  · rw [decide_eq_false (by omega:¬ ((20*t+20:Nat):Int)≤(n:Int)),ite2_false]
    unfold F145_j2
    refine S169 hc hs1 ht (Nat.le_refl _) (by omega) ?_
    obtain ⟨i1,i2⟩:=Sort.insertionSort_holds swo_cfP d1 (20*t) n ht (by omega)
    exact mrg _ (by rw [i1.1]; exact hs1) (Sort.permIn_trans _ _ _ _ _ hp1 (Sort.permIn_mono _ _ _ _ _ _ (by omega) (Nat.le_refl _) (by omega) i1)) ((hl1.off i1 (.inl (Nat.le_refl _))).add (by omega) i2)
end Go.Proofs
set_option linter.unusedVariables false
set_option maxRecDepth 20000
namespace Go.Proofs
open Go Go.HL
def e0s:ByteArray:=⟨#[]⟩
def wh (key head data:ByteArray) (n:Int):List Value:=[.string key,.string head,.string data,.int .i64 n]
def joinG:List Pc→ByteArray→Option ByteArray
  | [],w=>some w
  | p::l,w=>if p.at_=w.size then joinG l (w++p.data) else none
def wholeQ (fin:Int) (l:List Pc):Option ByteArray:=(joinG l e0s).bind fun w=>if (w.size:Int)=fin then some w else none
def whO (key head:ByteArray) (n:Int):Option ByteArray→List Value
  | some w=>wh key head w n
  | none=>wh e0s e0s e0s 0
theorem DgR.setl {hp:HP} {d:Dg} {l':List Pc} {c:Nat} (hne:d.rblk≠d.blk) (hd:DgR hp d) (hp':l'.Perm d.l) (hb:hp d.blk=.cells 135 [.int .i64 d.id,.int .i64 d.due,.int .i64 d.fin,.slice (some ⟨d.rblk,0,none⟩) d.l.length c] 0) (hc:d.l.length≤c) :
    DgR (hp.set d.rblk (.cells 29 (l'.flatMap pc) ((c-d.l.length)*6))) { d with l:=l' }:=by
  have hl:=hp'.length_eq
  refine ⟨fun e=>hd.1 ?_,c,by simpa [hl] using hc,?_,?_⟩
  · simp only at e; rw [e] at hl; exact List.eq_nil_of_length_eq_zero hl.symm
  · simp only; rw [HP.set_ne _ _ hne.symm,hl]; exact hb
  · simp only; rw [HP.set_eq,hl]
section
variable {hp:HP} {K:Value→HP→Prop} {d:Dg} {key:ByteArray}
theorem C81 (hd:DgR hp d) (hn:d.l.length≤100000) (hok:∀ p∈d.l,rightP p=true)
    (hneg:d.fin<0→K (.tuple ⟨[.agg ⟨wh e0s e0s e0s 0⟩,.bool false]⟩) hp)
    (hpos:0≤d.fin→∀ (l':List Pc) (x:Ent),l'.Perm d.l→l'.Pairwise (fun x y=>ltC cfP y x=false)→DgR (hp.set d.rblk x) { d with l:=l' } →
      K (.tuple ⟨[.agg ⟨whO key (headQ d.l) d.l.length (wholeQ d.fin l')⟩,.bool (wholeQ d.fin l').isSome]⟩) (hp.set d.rblk x)) :
    CF Try.prog 81 [ptr d.blk 0,.string key] hp K:=by
  refine F81_ok _ key hp K ?_
  unfold F81
  have hd0:=hd
  obtain ⟨h0,c,h1,h2,h3⟩:=hd
  have hne:d.rblk≠d.blk:=fun e=>by rw [e,h2] at h3; cases h3
  have hc:∀ o,hp.cell d.blk o=[Value.int .i64 d.id,.int .i64 d.due,.int .i64 d.fin,.slice (some ⟨d.rblk,0,none⟩) d.l.length c][o]?:=fun o=>HP.cell_of h2
  have hz:splice [(Value.string ⟨#[]⟩),(Value.string ⟨#[]⟩),(Value.string ⟨#[]⟩),(Value.int .i64 0)] 0 [(Value.string ⟨#[]⟩),(Value.string ⟨#[]⟩),(Value.string ⟨#[]⟩),(Value.int .i64 0)]=wh e0s e0s e0s 0:=splice_all rfl
  have whl:∀ a b c d,(wh a b c d).length=4:=fun _ _ _ _=>rfl
  have who:∀ a b c d,(wh a b c d).all one=true:=fun _ _ _ _=>rfl
  have hz0:[(Value.string ⟨#[]⟩),(Value.string ⟨#[]⟩),(Value.string ⟨#[]⟩),(Value.int .i64 0)]=wh e0s e0s e0s 0:=rfl
  have hsp:∀ a b c d a' b' c' d',splice (wh a b c d) 0 (wh a' b' c' d')=wh a' b' c' d':=fun _ _ _ _ _ _ _ _=>splice_all rfl
  simp only [ptrN_some,hc,Nat.zero_add,List.getElem?_cons_succ,List.getElem?_cons_zero,ldV_some,intV_int,slcV_slice,hz0,whl,who,if_true,hsp,cellsN_all (whl _ _ _ _),ldL_some]
  by_cases hf:d.fin<0
  · rw [decide_eq_true hf,ite2_true]
    exact ifI (Nat.le_refl _) (hneg hf)
  rw [decide_eq_false hf,ite2_false]
  have one:F81_j1 (some ⟨d.blk,0,none⟩) (wh e0s e0s e0s 0) (wh key (headQ d.l) e0s d.l.length) hp K:=by
    unfold F81_j1
    simp only [ptrN_some,hc,Nat.zero_add,List.getElem?_cons_succ,List.getElem?_cons_zero,ldV_some,slcV_slice]
    refine S145 h3 rfl hn fun l' hperm hsort=>?_
    have hK:=hpos (by omega) l' _ hperm hsort (hd0.setl hne hperm h2 h1)
    generalize hh1:hp.set d.rblk (.cells 29 (l'.flatMap pc) ((c-d.l.length)*6))=hp1 at hK ⊢
    have hc1:∀ o,hp1.cell d.blk o=[Value.int .i64 d.id,.int .i64 d.due,.int .i64 d.fin,.slice (some ⟨d.rblk,0,none⟩) d.l.length c][o]?:=fun o=>by
      rw [← hh1]; exact HP.cell_of (by rw [HP.set_ne _ _ hne.symm]; exact h2)
    have hll:=hperm.length_eq
    have sh:Shows hp1 (some ⟨d.rblk,0,none⟩) d.l.length 6 (l'.flatMap pc):=.inr ⟨d.rblk,0,rfl,by rw [← hh1,HP.cellN_of (HP.set_eq ..)]; exact cellsN_all (by rw [flat_len pc_len,hll])⟩
    simp only [ptrN_some,hc1,Nat.zero_add,List.getElem?_cons_succ,List.getElem?_cons_zero,ldV_some,slcV_slice]
    unfold F81_j3
    have hwq:wholeQ d.fin l'=(joinG l' e0s).bind fun w=>if (w.size:Int)=d.fin then some w else none:=rfl
    have no:wholeQ d.fin l'=none→K (.tuple ⟨[.agg ⟨wh e0s e0s e0s 0⟩,.bool false]⟩) hp1:=fun e=>by rw [e] at hK; exact hK
    refine LoopP.by (J:=fun m (y:Int × List Value × List Value) hp'=>hp'=hp1∧∃ (i:Nat) (w:ByteArray),y.1=i∧i+m=d.l.length∧y.2.1=wh e0s e0s e0s 0∧y.2.2=wh key (headQ d.l) w d.l.length∧joinG l' e0s=joinG (l'.drop i) w) ?_ (n:=d.l.length)
      ⟨rfl,0,e0s,rfl,by omega,rfl,rfl,by simp⟩
    rintro I m ⟨y,k4,k6⟩ hp' ⟨rfl,i,w,hy,him,hk4,hk6,hj⟩ hI
    simp only at hy hk4 hk6
    subst hy hk4 hk6
    unfold F81_l4
    simp only []
    have w2:∀ a b c d,(wh a b c d)[2]?=some (.string c):=fun _ _ _ _=>rfl
    by_cases hi:i<d.l.length
    · have hil:i<l'.length:=by omega
      rw [decide_eq_true (by omega:(i:Int)<(d.l.length:Int)),ite2_true]
      obtain ⟨b,o,hao,hg⟩:=sh.get pc_len hll hi
      have hzp:splice [(Value.string ⟨#[]⟩),(Value.string ⟨#[]⟩),(Value.int .i64 0),(Value.bool false),(Value.string ⟨#[]⟩),(Value.string ⟨#[]⟩)] 0 (pc l'[i])=pc l'[i]:=splice_all rfl
      have k2:(pc l'[i])[2]?=some (.int .i64 l'[i].at_):=rfl
      have k4:(pc l'[i])[4]?=some (.string l'[i].data):=rfl
      cases hao
      simp only [ptrN_some,Int.toNat_natCast,hg,ldL_some,pc_len,pc_one,if_true,hzp,k2,k4,w2,ldV_some,intV_int,strV_string,hz0,whl,who,hsp,cellsN_all (whl _ _ _ _)]
      refine ⟨by omega,by omega,?_⟩
      refine ifI (Nat.le_refl _) ?_
      rw [List.drop_eq_getElem_cons hil,joinG] at hj
      have hr:=rightP_iff.1 (hok l'[i] (hperm.mem_iff.1 (List.getElem_mem hil)))
      by_cases ha:l'[i].at_=w.size
      · have e:(l'[i].at_ != (w.size:Int))=false:=by simpa using ha
        have w1:IntKind.wrap .i64 ((i:Int)+1)=((i+1:Nat):Int):=wiN (by omega) (by omega)
        rw [e,ite2_false,w1]
        rw [if_pos ha] at hj
        refine ⟨by omega,?_⟩
        rw [if_pos (by decide)]
        exact hI (m-1) _ _ (by omega) ⟨rfl,i+1,w++l'[i].data,rfl,by omega,rfl,rfl,hj⟩
      · have e:(l'[i].at_ != (w.size:Int))=true:=by simpa using ha
        rw [e,ite2_true]
        rw [if_neg ha] at hj
        refine ifI (Nat.le_refl _) (no ?_)
        rw [hwq,hj]; rfl
    · rw [decide_eq_false (by omega:¬ (i:Int)<(d.l.length:Int)),ite2_false]
      rw [List.drop_of_length_le (by omega),joinG] at hj
      unfold F81_j2
      simp only [w2,ldV_some,strV_string,ptrN_some,hc1,Nat.zero_add,List.getElem?_cons_succ,List.getElem?_cons_zero,intV_int,hz0,whl,who,if_true,hsp,cellsN_all (whl _ _ _ _),ldL_some]
      by_cases hwf:(w.size:Int)=d.fin
      · have e:((w.size:Int) != d.fin)=false:=by simpa using hwf
        rw [e,ite2_false]
        have hq:wholeQ d.fin l'=some w:=by rw [hwq,hj]; simp [hwf]
        rw [hq] at hK
        exact ifI (Nat.le_refl _) hK
      · have e:((w.size:Int) != d.fin)=true:=by simpa using hwf
        rw [e,ite2_true]
        refine ifI (Nat.le_refl _) (no ?_)
        rw [hwq,hj]; simp [hwf]
  have hz2:∀ (s:ByteArray) (x:Int),[Value.string key,.string s,.string ⟨#[]⟩,.int .i64 x]=wh key s e0s x:=fun _ _=>rfl
  refine ⟨?_,?_⟩
  · refine C110 hd0 (by omega) ?_
    simp only [strV_string,hz2,whl,who,if_true,hsp]
    exact ifI (Nat.le_refl _) one
  · refine C110 hd0 (by omega) ?_
    simp only [strV_string,hc,Nat.zero_add,List.getElem?_cons_succ,List.getElem?_cons_zero,ldV_some,slcV_slice,hz2,whl,who,if_true,hsp]
    exact ifI (Nat.le_refl _) one
end
end Go.Proofs
