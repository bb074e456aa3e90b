/- Parts of the proof of SynsOnceProof: the logic of what is known of memory, functions' contracts. -/
import Derived.Test.YtpkhoemonibajaaDoorQSynsOnceProofB
import Derived.Sort.LotD3
import Derived.Sort.LotA
import Derived.Test.YtpkhoemonibajaaDoorHlArg
import Derived.DataShut
import Derived.Test.YtpkhoemonibajaaDoorHlAbb
import Derived.Test.YtpkhoemonibajaaDoorProg
import Derived.Test.YtpkhoemonibajaaDoorHlDec
import Derived.Test.YtpkhoemonibajaaDoorHlOrd2
import Derived.Test.YtpkhoemonibajaaDoorRows
import Derived.Test.YtpkhoemonibajaaDoorHlLaid
import Derived.ProofKit
import Derived.LaidLaws
set_option linter.unusedVariables false
set_option linter.unusedSimpArgs false
set_option linter.unusedVariables false
set_option maxRecDepth 20000
namespace Go.Proofs
open Go Go.HL
section
variable {f:FuncId} {ga gb:List Value} {hp0:HP} {b sp n c:Nat} {cf:Sy→Sy→Int}
end
end Go.Proofs
set_option linter.unusedVariables false
namespace Go.HL
open Go
end Go.HL
set_option linter.unusedVariables false
set_option linter.unusedSimpArgs false
set_option maxRecDepth 20000
namespace Go.Proofs
open Go Go.HL
open Go.Exp (Th tlt Ord setW dropW insW)
theorem tupI_end (c:Value→Prop):tupI (.tuple #[.bool false]) 0 c=c (.bool false):=rfl
theorem tupI_go (a b:Value) (c:Value→Prop):tupI (.tuple #[.bool true,a,b]) 0 c=c (.bool true):=rfl
theorem tupI_snd (a b:Value) (c:Value→Prop):tupI (.tuple #[a,b]) 1 c=c b:=rfl
section
variable {tb:Obj} {hq:HP} {s mx last:Nat} {L:List Sy} {w:List Th} {K:Value→HP→Prop}
end
end Go.Proofs
set_option linter.unusedVariables false
set_option maxRecDepth 20000
namespace Go.Proofs
open Go Go.HL
theorem dec5 {D:Nat} {cs:List Value} (h:wellS Tryd.prog D 5 cs=true):∃ n:Int,(0≤n∧n≤255)∧cs=[.int .u8 n]:=by
  cases D with
  | zero=>cases h
  | succ D=>
    unfold wellS at h
    rw [show Tryd.prog.underlying 5=some (.int .u8) by kernel_rfl] at h
    simp only at h
    split at h
    · rename_i q n
      simp only [Bool.and_eq_true,decide_eq_true_eq] at h
      obtain ⟨rfl,hw⟩:=h
      exact ⟨n,(Go.Lit.wf_int_iff _ _).1 hw,rfl⟩
    · cases h
theorem dec3 {D:Nat} {cs:List Value} (h:wellS Tryd.prog D 3 cs=true):∃ n:Int,(-9223372036854775808≤n∧n≤9223372036854775807)∧cs=[.int .i64 n]:=by
  cases D with
  | zero=>cases h
  | succ D=>
    unfold wellS at h
    rw [show Tryd.prog.underlying 3=some (.int .i64) by kernel_rfl] at h
    simp only at h
    split at h
    · rename_i q n
      simp only [Bool.and_eq_true,decide_eq_true_eq] at h
      obtain ⟨rfl,hw⟩:=h
      exact ⟨n,(Go.Lit.wf_int_iff _ _).1 hw,rfl⟩
    · cases h
end Go.Proofs
set_option linter.unusedVariables false
set_option maxRecDepth 20000
namespace Go.Proofs
open Go Go.HL
section
variable {e:Env} {x0a:OA} {x0n x0c:Nat} {x3:Int} {hp:HP} {K:Env→PV→HP→Prop}
abbrev R30 (p n:Nat):=RW Tryd.prog 20 [] (opsAt Tryd.f30 (pth p)) (List.range n)
theorem F30_r0:R30 2 1 e V0 hp K=
 K (upd e 2 (sB false)) V0 hp:= by kernel_rfl
theorem F30_r1:R30 9 3 (upd e 0 (sS x0a x0n x0c)) V0 hp K=
 K (w4 e 0 (sS x0a x0n x0c) 4 (sS x0a x0n x0c) 5 (sI ((x0n:Nat))) 6 (sB ((decide (((x0n:Nat):Int) > 150))))) V0 hp:= by kernel_rfl
theorem F30_r2:R30 37 1 e V0 hp K=
 K (upd e 2 (sB true)) V0 hp:= by kernel_rfl
theorem F30_r3:R30 267 4 (w2 e 3 (sI x3) 0 (sS x0a x0n x0c)) V0 hp K=
 K (w6 e 3 (sI x3) 0 (sS x0a x0n x0c) 7 (sI x3) 8 (sS x0a x0n x0c) 9 (sI ((x0n:Nat))) 10 (sB ((decide (x3<x0n))))) V0 hp:= by kernel_rfl
theorem F30_r4:R30 1099 7 (w2 e 3 (sI x3) 0 (sS x0a x0n x0c)) V0 hp K=
    ((0≤x3)∧(x3<x0n)∧(ptrN x0a fun b1 o2=>ldV (HP.cell hp b1 ((o2+Int.toNat x3*6)+5)) fun v3=>strV v3 fun s4=>K (upd (w8 e 3 (sI x3) 0 (sS x0a x0n x0c) 13 (sS x0a x0n x0c) 14 (sI x3) 15 (sQ b1 (o2+Int.toNat x3*6)) 16 (sQ b1 ((o2+Int.toNat x3*6)+5)) 17 (sT s4) 18 (sI ((ByteArray.size s4:Nat)))) 19 (sB ((decide (((ByteArray.size s4:Nat):Int) > 100))))) V0 hp)):=by kernel_rfl
theorem F30_r5:R30 4683 1 e V0 hp K=
 K (upd e 2 (sB true)) V0 hp:= by kernel_rfl
theorem F30_r6:R30 459 3 (upd e 3 (sI x3)) V0 hp K=
 K (w4 e 3 (sI x3) 11 (sI x3) 12 (sI ((wr (x3+1)))) 3 (sI ((wr (x3+1))))) V0 hp:= by kernel_rfl
theorem F30_r7:R30 23 1 e V0 hp K=
 K (upd e 2 (sB false)) V0 hp:= by kernel_rfl
def F30_l2 (x0a:OA) (x0n x0c:Nat) (K:Kh) (I2:(Int)→HP→Prop) (x3:Int) (hp:HP):Prop:=
  (ite2 (decide (x3<x0n)) ((0≤x3)∧(x3<x0n)∧(ptrN x0a fun b1 o2=>ldV (HP.cell hp b1 ((o2+Int.toNat x3*6)+5)) fun v3=>strV v3 fun s4=>ite2 (decide (((ByteArray.size s4:Nat):Int) > 100)) (K (.bool true) hp) (I2 (IntKind.wrap .i64 (x3+1)) hp))) (K (.bool false) hp))
def F30_j1 (x0a:OA) (x0n x0c:Nat) (x3:Int) (hp:HP) (K:Kh):Prop:=
  (LoopP (σ:=Int) (fun I s hp=>F30_l2 x0a x0n x0c  K I s hp) x3 hp)
theorem F30_r8:R30 19 1 e V0 hp K=
 K (upd e 3 (sI 0)) V0 hp:= by kernel_rfl
def F30 (x0a:OA) (x0n x0c:Nat) (hp:HP) (K:Kh):Prop:=
  (ite2 (decide (((x0n:Nat):Int) > 150)) (K (.bool true) hp) (F30_j1 x0a x0n x0c 0 hp  K))
noncomputable abbrev o30 (k n:Nat):Code:=.region k (opsAt Tryd.f30 (pth n)) false
noncomputable def F30_code:Code:=(.seq (o30 0 2) (.seq (.seq (o30 1 9) (.cond (.tmp 6) (.seq (o30 2 37) .ret) .skip)) (.seq (.seq (o30 3 19) (.block 0 (.loop (.seq (.seq (o30 4 267) (.cond (.tmp 10) .skip (.exit 0))) (.seq (.block 1 (.seq (o30 6 1099) (.cond (.tmp 19) (.seq (o30 7 4683) .ret) .skip))) (o30 5 459)))))) (.seq (o30 8 23) .ret))))
theorem F30_body:Tryd.f30.body=some F30_code:=by kernel_rfl
theorem F30_ok (x0a:OA) (x0n x0c:Nat) (hp:HP) (K:Kh) (h:F30 x0a x0n x0c hp K):CF Tryd.prog 30 [(.slice x0a x0n x0c)] hp K:=by
 refine .inl ⟨by kernel_rfl,AC.intro (N:=20) Tryd.func30 F30_body rfl (Nat.le_of_ble_eq_true rfl) ?_⟩
 unfold F30 at h
 refine Ar F30_r0 ?_ (r1 0 Rn) (z1 Sn) Sn
 refine Aq (Ar F30_r1 ?_ (r1 0 Rn) (z1 Sn) Sn)
 refine Ac h rfl (fun h=>?_) (fun h=>?_)
 ·refine Ar F30_r2 ?_ Rn Sn Sn
  refine AWP.ret ?_
  exact h
 ·refine AWP.skip (Aq (As (fun env pv hp=>∃ x0a x0n x0c x3,Sub (w2 E0 3 (sI x3) 0 (sS x0a x0n x0c)) env∧Sub V0 pv∧F30_j1 x0a x0n x0c x3 hp  K) ?_ ?_))
  ·refine Ag F30_r8 ?_ (r1 0 Rn) (z1 Sn) Sn
   exact ⟨_,_,_,_,(z2 Sn),Sn,h⟩
  ·rintro env pv hp ⟨x0a,x0n,x0c,x3,he,hv,h⟩
   refine Ae ?_ (r2 0 3 Rn) he hv
   unfold F30_j1 at h
   refine AWP.block (AWP.loop (σ:=Int) _ (fun s=>w2 E0 3 (sI s) 0 (sS x0a x0n x0c)) (fun s=>V0) x3 h (fun s=>r2 0 3 Rn) (z2 Sn) Sn ?_)
   intro I2 x3 hp h
   replace h:F30_l2 x0a x0n x0c  K I2 x3 hp:=h
   unfold F30_l2 at h
   refine Aq (Ar F30_r3 ?_ (r2 0 3 Rn) (z2 Sn) Sn)
   refine Ac h rfl (fun h=>?_) (fun h=>?_)
   ·refine AWP.skip (Aq (AWP.block (Ar F30_r4 ?_ (r2 0 3 Rn) (z2 Sn) Sn)))
    refine ⟨h.1,h.2.1,mN h.2.2 fun b1 o2 h=>mV h fun v3 h=>ms h fun s4 h=>?_⟩
    refine Ac h rfl (fun h=>?_) (fun h=>?_)
    ·refine Ar F30_r5 ?_ Rn Sn Sn
     refine AWP.ret ?_
     exact h
    ·refine AWP.skip (Ag F30_r6 ?_ (r2 3 0 Rn) (z2 Sn) Sn)
     exact ⟨_,(z2 Sn),Sn,h⟩
   ·refine AWP.exit ?_
    refine Ar F30_r7 ?_ Rn Sn Sn
    refine AWP.ret ?_
    exact h
end
end Go.Proofs
set_option linter.unusedVariables false
set_option linter.unusedSimpArgs false
set_option maxRecDepth 20000
namespace Go.Proofs
open Go Go.HL
theorem dec9 {D:Nat} {cs:List Value} (h:wellS Tryd.prog D 9 cs=true):∃ s:ByteArray,cs=[.string s]:=by
  cases D with
  | zero=>cases h
  | succ D=>
    unfold wellS at h
    rw [show Tryd.prog.underlying 9=some .string by kernel_rfl] at h
    simp only at h
    split at h
    · exact ⟨_,rfl⟩
    · cases h
/-- An act: what, two bytes, a port, a due, a text. -/
structure A24 where
  what:Int
  a:Int
  b:Int
  port:Int
  due:Int
  text:ByteArray
def a24 (x:A24):List Value:=[.int .u8 x.what,.int .u8 x.a,.int .u8 x.b,.int .i64 x.port,.int .i64 x.due,.string x.text]
theorem a24_len (x:A24):(a24 x).length=6:=rfl
theorem a24_one (x:A24):(a24 x).all one=true:=rfl
def okA24 (x:A24):Prop:=okB x.a∧okB x.b∧okZ x.port∧okZ x.due
def a240:A24:=⟨0,0,0,0,0,⟨#[]⟩⟩
theorem a24z:([(Value.int .u8 0),(Value.int .u8 0),(Value.int .u8 0),(Value.int .i64 0),(Value.int .i64 0),(Value.string ⟨#[]⟩)]:List Value)=a24 a240:=rfl
theorem a24_splice (x y:A24):splice (a24 x) 0 (a24 y)=a24 y:=splice_all rfl
theorem a24_0 (x:A24):(a24 x)[0]?=some (.int .u8 x.what):=rfl
theorem a24_1 (x:A24):(a24 x)[1]?=some (.int .u8 x.a):=rfl
theorem a24_2 (x:A24):(a24 x)[2]?=some (.int .u8 x.b):=rfl
theorem a24_3 (x:A24):(a24 x)[3]?=some (.int .i64 x.port):=rfl
theorem a24_4 (x:A24):(a24 x)[4]?=some (.int .i64 x.due):=rfl
theorem a24_5 (x:A24):(a24 x)[5]?=some (.string x.text):=rfl
theorem dec59:∀ (D:Nat) (cs:List Value),wellS Tryd.prog D 59 cs=true→∃ a:A24,okA24 a∧cs=a24 a:=by
  intro D cs h
  cases D with
  | zero=>cases h
  | succ D=>
    obtain ⟨hl,hf⟩:=wellS_struct (fs0:=[(5,0),(5,1),(5,2),(3,3),(3,4),(9,5)]) (by kernel_rfl) (by simp) h
    rw [show Tryd.prog.cellsOf 59=6 by kernel_rfl] at hl
    have f0:=hf (5,0) (by simp)
    have f1:=hf (5,1) (by simp)
    have f2:=hf (5,2) (by simp)
    have f3:=hf (3,3) (by simp)
    have f4:=hf (3,4) (by simp)
    have f5:=hf (9,5) (by simp)
    simp only [show Tryd.prog.cellsOf 5=1 by kernel_rfl,show Tryd.prog.cellsOf 3=1 by kernel_rfl,show Tryd.prog.cellsOf 9=1 by kernel_rfl] at f0 f1 f2 f3 f4 f5
    obtain ⟨n0,h0,e0⟩:=dec5 f0
    obtain ⟨n1,h1,e1⟩:=dec5 f1
    obtain ⟨n2,h2,e2⟩:=dec5 f2
    obtain ⟨n3,h3,e3⟩:=dec3 f3
    obtain ⟨n4,h4,e4⟩:=dec3 f4
    obtain ⟨s5,e5⟩:=dec9 f5
    match cs,hl with
    | [c0,c1,c2,c3,c4,c5],_=>
      simp only [List.drop_zero,List.drop_succ_cons,List.take_succ_cons,List.take_zero,List.cons.injEq,and_true] at e0 e1 e2 e3 e4 e5
      subst e0; subst e1; subst e2; subst e3; subst e4; subst e5
      exact ⟨⟨n0,n1,n2,n3,n4,s5⟩,⟨h1,h2,h3,h4⟩,rfl⟩
section
variable {hp:HP} {K:Value→HP→Prop}
theorem C30 {s:Option Addr} {n c:Nat} {l:List A24} (hs:Shows hp s n 6 (l.flatMap a24)) (hl:l.length=n) (h:∀ b:Bool,(b=false→n≤150∧∀ x∈l,x.text.size≤100)→K (.bool b) hp):CF Tryd.prog 30 [.slice s n c] hp K:=by
  refine F30_ok s n c hp K ?_
  unfold F30
  have yes:K (.bool true) hp:=h true (fun e=>by cases e)
  by_cases h1:n > 150
  · rw [decide_eq_true (by omega:((n:Nat):Int) > 150),ite2_true]; exact yes
  rw [decide_eq_false (by omega:¬ ((n:Nat):Int) > 150),ite2_false]
  unfold F30_j1
  refine LoopP.by (J:=fun k (x:Int) hp'=>hp'=hp∧∃ i:Nat,x=i∧i+k=n∧∀ y∈l.take i,y.text.size≤100) ?_ (n:=n) ⟨rfl,0,rfl,by omega,fun y hy=>by simp at hy⟩
  rintro I k x hp' ⟨rfl,i,rfl,hik,ha⟩ hI
  unfold F30_l2
  by_cases hi:i<n
  · rw [decide_eq_true (by omega:(i:Int)<(n:Int)),ite2_true]
    obtain ⟨b,o,rfl,hc⟩:=hs.get a24_len hl hi
    have hc5:=HP.cell_cellN hc (a24_5 _)
    simp only [ptrN_some,Int.toNat_natCast,hc5,ldV_some,strV_string]
    refine ⟨by omega,by omega,?_⟩
    by_cases h2:(l[i]'(hl▸hi)).text.size > 100
    · rw [decide_eq_true (by omega),ite2_true]; exact yes
    · have w1:IntKind.wrap .i64 ((i:Int)+1)=((i+1:Nat):Int):=wi (by omega) (by omega)
      rw [decide_eq_false (by omega),ite2_false,w1]
      refine hI (k-1) _ _ (by omega) ⟨rfl,i+1,rfl,by omega,fun y hy=>?_⟩
      rw [List.take_succ_eq_append_getElem (hl▸hi)] at hy
      rcases List.mem_append.1 hy with hy | hy
      · exact ha y hy
      · rw [List.mem_singleton.1 hy]; omega
  · rw [decide_eq_false (by omega:¬ (i:Int)<(n:Int)),ite2_false]
    refine h false fun _=>⟨by omega,?_⟩
    rw [List.take_of_length_le (by omega)] at ha
    exact ha
end
end Go.Proofs
set_option linter.unusedVariables false
set_option linter.unusedSimpArgs false
set_option maxRecDepth 20000
namespace Go.Proofs
open Go Go.HL
open Go.Exp (Th tlt Ord setW dropW insW)
section
variable {tb:Obj} {hp:HP} {K:Value→HP→Prop}
end
end Go.Proofs
set_option linter.unusedVariables false
set_option linter.unusedSimpArgs false
set_option maxRecDepth 20000
namespace Go.Proofs
open Go Go.HL
open Go.Exp (Th tlt Ord setW dropW insW)
section
variable {hq hp:HP} {r:Nat} {mx:Int} {last:Nat} {L:List Sy} {K:Value→HP→Prop}
theorem Shows.at {hp:HP} {a:Option Addr} {n i:Nat} {l:List Sy} (h:Shows hp a n 13 (l.flatMap syc)) (hl:l.length=n) (hi:i<n) :
    ∃ b o,a=some ⟨b,o,none⟩∧hp.cellN b (o+i*13) 13=some (syc (l[i]'(hl▸hi)))∧∀ t v,(syc (l[i]'(hl▸hi)))[t]?=some v→hp.cell b (o+i*13+t)=some v:=by
  obtain ⟨b,o,e,hc⟩:=h.get syc_len hl hi
  exact ⟨b,o,e,hc,fun t v hv=>HP.cell_cellN hc hv⟩
theorem eq34 {p q:Q × Int} {c:Bool→Prop} (h:c (decide (p=q))):eqAgg Tryd.prog 34 (t4 p) (t4 q) c:=eq75 h
end
end Go.Proofs
set_option linter.unusedVariables false
set_option maxRecDepth 20000
namespace Go.Proofs
open Go Go.HL
section
variable {e E:Env} {x0a:OA} {x0n x0c:Nat} {x1:Option Nat} {x2 x7:Int} {x90:Value} {k9:List Value} {hp:HP} {K:Env→PV→HP→Prop}
abbrev R36 (p n:Nat):=RW Tryd.prog 99 [9,95] (opsAt Tryd.f36 (pth p)) (List.range n)
theorem F36_r0:R36 2 1 e V0 hp K=
 K (upd e 6 (sB false)) V0 hp:= by kernel_rfl
theorem F36_r1:R36 139 2 (upd e 90 (sV x90)) V0 hp K=
 opS Tryd.prog (Instr.next x90 false 0) hp fun u1 h2=>(tupI u1 0 fun v3=>boolV v3 fun q4=>K (w3 e 90 (sV x90) 91 (sV u1) 92 (sB q4)) V0 h2):= by kernel_rfl
theorem F36_r2:R36 1227 4 (upd e 90 (sV x90)) V0 hp K=
    (rdS Tryd.prog (Instr.entry x90) hp fun u1=>tupI u1 1 fun v2=>aggV v2 fun l3=>if List.length l3=13 then (if List.all l3 one=true then (if 0+List.length l3≤List.length [(Value.int .i64 0),.int .u8 0,.int .u8 0,.int .u8 0,.int .u8 0,.int .i64 0,.int .u8 0,.int .u8 0,.int .u8 0,.int .u8 0,.int .i64 0,.int .i64 0,.string ⟨#[]⟩] then (K (w4 e 90 (sV x90) 93 (sV u1) 94 (sA l3) 9 (sR 9 0)) (w2 V0 9 (62,[.int .i64 0,.int .u8 0,.int .u8 0,.int .u8 0,.int .u8 0,.int .i64 0,.int .u8 0,.int .u8 0,.int .u8 0,.int .u8 0,.int .i64 0,.int .i64 0,.string ⟨#[]⟩]) 9 (62,(splice [.int .i64 0,.int .u8 0,.int .u8 0,.int .u8 0,.int .u8 0,.int .i64 0,.int .u8 0,.int .u8 0,.int .u8 0,.int .u8 0,.int .i64 0,.int .i64 0,.string ⟨#[]⟩] 0 l3))) hp) else False) else False) else False):=by kernel_rfl
theorem F36_r3:R36 2763 4 (w2 e 9 (sR 9 0) 2 (sI x2)) (upd V0 9 (62,k9)) hp K=
 ldV (k9)[11]? fun v1=>(intV v1 .i64 fun i2=>K (w6 e 9 (sR 9 0) 2 (sI x2) 95 (sR 9 11) 96 (sI i2) 97 (sI x2) 98 (sB (decide (i2≤x2)))) (upd V0 9 (62,k9)) hp):= by kernel_rfl
theorem F36_r4:R36 9931 1 e V0 hp K=
 K (upd e 6 (sB false)) V0 hp:= by kernel_rfl
theorem F36_r5:R36 23 1 e V0 hp K=
 K (upd e 6 (sB true)) V0 hp:= by kernel_rfl
def F36_l3 (x2:Int) (x90:Value) (K:Kh) (I3:(Unit)→HP→Prop) (hp:HP):Prop:=
  (opS Tryd.prog (Instr.next x90 false 0) hp fun u1 h2=>tupI u1 0 fun v3=>boolV v3 fun q4=>ite2 q4 (rdS Tryd.prog (Instr.entry x90) h2 fun u5=>tupI u5 1 fun v6=>aggV v6 fun l7=>if List.length l7=13 then (if List.all l7 one=true then (if 0+List.length l7≤List.length [(Value.int .i64 0),.int .u8 0,.int .u8 0,.int .u8 0,.int .u8 0,.int .i64 0,.int .u8 0,.int .u8 0,.int .u8 0,.int .u8 0,.int .i64 0,.int .i64 0,.string ⟨#[]⟩] then (ldV ((splice [.int .i64 0,.int .u8 0,.int .u8 0,.int .u8 0,.int .u8 0,.int .i64 0,.int .u8 0,.int .u8 0,.int .u8 0,.int .u8 0,.int .i64 0,.int .i64 0,.string ⟨#[]⟩] 0 l7))[11]? fun v8=>intV v8 .i64 fun i9=>ite2 (decide (i9≤x2)) (K (.bool false) h2) (I3 () h2)) else False) else False) else False) (K (.bool true) h2))
def F36_j2 (x2:Int) (x90:Value) (hp:HP) (K:Kh):Prop:=
  (LoopP (σ:=Unit) (fun I s hp=>F36_l3 x2 x90  K I  hp) () hp)
theorem F36_r6:R36 19 2 (upd e 1 (sV (.map x1))) V0 hp K=
 opS Tryd.prog (Instr.range 57 (.map x1)) hp fun u1 h2=>(K (w3 e 1 (sV (.map x1)) 89 (sV (.map x1)) 90 (sV u1)) V0 h2):= by kernel_rfl
def F36_j1 (x1:Option Nat) (x2:Int) (hp:HP) (K:Kh):Prop:=
  (opS Tryd.prog (Instr.range 57 (.map x1)) hp fun u10 h11=>F36_j2 x2 u10 h11  K)
theorem F36_r7:R36 133 4 (w2 e 7 (sI x7) 0 (sS x0a x0n x0c)) V0 hp K=
 K (w6 e 7 (sI x7) 0 (sS x0a x0n x0c) 10 (sI x7) 11 (sS x0a x0n x0c) 12 (sI ((x0n:Nat))) 13 (sB ((decide (x7<x0n))))) V0 hp:= by kernel_rfl
theorem F36_r8:R36 4645 1 e V0 hp K=
 K (upd e 6 (sB false)) V0 hp:= by kernel_rfl
theorem F36_r9 (h:E=upd (w2 e 7 (sI x7) 1 (sV (.map x1))) 0 (sS x0a x0n x0c)):R36 805 7 E V0 hp K=
    ((0≤x7)∧(x7<x0n)∧(ptrN x0a fun b1 o2=>ldV (HP.cell hp b1 ((o2+Int.toNat x7*13)+0)) fun v3=>intV v3 .i64 fun i4=>opS Tryd.prog (Builtin.delete_ #[57,3] 0 ⟨[(.map x1),(.int .i64 i4)]⟩) hp fun u5 h6=>K (w6 E 83 (sV (.map x1)) 84 (sS x0a x0n x0c) 85 (sI x7) 86 (sQ b1 (o2+Int.toNat x7*13)) 87 (sQ b1 ((o2+Int.toNat x7*13)+0)) 88 (sI i4)) V0 h6)):=by subst h; kernel_rfl
theorem F36_r10:R36 229 3 (upd e 7 (sI x7)) V0 hp K=
 K (w4 e 7 (sI x7) 14 (sI x7) 15 (sI ((wr (x7+1)))) 7 (sI ((wr (x7+1))))) V0 hp:= by kernel_rfl
def F36_j6 (x0a:OA) (x0n x0c:Nat) (x1:Option Nat) (x2 x7:Int) (x82:Bool) (hp:HP) (I5:(Int)→HP→Prop) (K:Kh):Prop:=
  (ite2 x82 (K (.bool false) hp) ((0≤x7)∧(x7<x0n)∧(ptrN x0a fun b12 o13=>ldV (HP.cell hp b12 ((o13+Int.toNat x7*13)+0)) fun v14=>intV v14 .i64 fun i15=>opS Tryd.prog (Builtin.delete_ #[57,3] 0 ⟨[(.map x1),(.int .i64 i15)]⟩) hp fun u16 h17=>I5 (IntKind.wrap .i64 (x7+1)) h17)))
theorem F36_r11 (h:E=upd (w3 e 7 (sI x7) 2 (sI x2) 1 (sV (.map x1))) 0 (sS x0a x0n x0c)):R36 1061 67 E V0 hp K=
    ((0≤x7)∧(x7<x0n)∧(ptrN x0a fun b1 o2=>ldL (HP.cellN hp b1 (o2+Int.toNat x7*13) 13) fun l3=>(0≤x7)∧(x7<x0n)∧(ptrN x0a fun b4 o5=>ldV (HP.cell hp b4 ((o5+Int.toNat x7*13)+0)) fun v6=>intV v6 .i64 fun i7=>rdS Tryd.prog (Instr.lookup 57 (.map x1) (.int .i64 i7) false) hp fun u8=>aggV u8 fun l9=>eqAgg Tryd.prog 62 l3 l9 fun q10=>ite2 (!q10) (K (w3 (w8 (w8 (w8 (w8 (w8 (w8 (w8 (w8 E 16 (sS x0a x0n x0c) 17 (sI x7) 18 (sQ b1 (o2+Int.toNat x7*13)) 19 (sA l3) 20 (sV (.map x1)) 21 (sS x0a x0n x0c) 22 (sI x7) 23 (sQ b4 (o5+Int.toNat x7*13))) 24 (sQ b4 ((o5+Int.toNat x7*13)+0)) 25 (sI i7) 26 (sA l9) 27 (sB ((!q10))) 28 (sB true) 29 sU 30 sU 31 sU) 32 sU 33 sU 34 sU 35 sU 36 (sB true) 37 (sB true) 38 sU 39 sU) 40 sU 41 sU 42 sU 43 sU 44 sU 45 sU 46 sU 47 sU) 48 sU 49 sU 50 sU 51 sU 52 sU 53 sU 54 sU 55 sU) 56 sU 57 sU 58 sU 59 sU 60 sU 61 sU 62 sU 63 sU) 64 sU 65 sU 66 sU 67 sU 68 sU 69 sU 70 sU 71 sU) 72 sU 73 sU 74 sU 75 sU 76 sU 77 sU 78 sU 79 sU) 80 sU 81 sU 82 (sB true)) V0 hp) ((0≤x7)∧(x7<x0n)∧(ptrN x0a fun b11 o12=>ldV (HP.cell hp b11 ((o12+Int.toNat x7*13)+11)) fun v13=>intV v13 .i64 fun i14=>ite2 (decide (i14 > x2)) (K (w3 (w8 (w8 (w8 (w8 (w8 (w8 (w8 (w8 E 16 (sS x0a x0n x0c) 17 (sI x7) 18 (sQ b1 (o2+Int.toNat x7*13)) 19 (sA l3) 20 (sV (.map x1)) 21 (sS x0a x0n x0c) 22 (sI x7) 23 (sQ b4 (o5+Int.toNat x7*13))) 24 (sQ b4 ((o5+Int.toNat x7*13)+0)) 25 (sI i7) 26 (sA l9) 27 (sB ((!q10))) 28 (sB false) 29 (sS x0a x0n x0c) 30 (sI x7) 31 (sQ b11 (o12+Int.toNat x7*13))) 32 (sQ b11 ((o12+Int.toNat x7*13)+11)) 33 (sI i14) 34 (sI x2) 35 (sB (decide (i14 > x2))) 36 (sB (decide (i14 > x2))) 37 (sB true) 38 sU 39 sU) 40 sU 41 sU 42 sU 43 sU 44 sU 45 sU 46 sU 47 sU) 48 sU 49 sU 50 sU 51 sU 52 sU 53 sU 54 sU 55 sU) 56 sU 57 sU 58 sU 59 sU 60 sU 61 sU 62 sU 63 sU) 64 sU 65 sU 66 sU 67 sU 68 sU 69 sU 70 sU 71 sU) 72 sU 73 sU 74 sU 75 sU 76 sU 77 sU 78 sU 79 sU) 80 sU 81 sU 82 (sB true)) V0 hp) (ite2 (decide (x7 > 0)) ((0≤((wr (x7-1)):Int))∧(((wr (x7-1)):Int)<x0n)∧(ptrN x0a fun b15 o16=>ldV (HP.cell hp b15 ((o16+Int.toNat (wr (x7-1))*13)+11)) fun v17=>intV v17 .i64 fun i18=>(0≤x7)∧(x7<x0n)∧(ptrN x0a fun b19 o20=>ldV (HP.cell hp b19 ((o20+Int.toNat x7*13)+11)) fun v21=>intV v21 .i64 fun i22=>ite2 (decide (i18 > i22)) (K (w3 (w8 (w8 (w8 (w8 (w8 (w8 (w8 (w8 E 16 (sS x0a x0n x0c) 17 (sI x7) 18 (sQ b1 (o2+Int.toNat x7*13)) 19 (sA l3) 20 (sV (.map x1)) 21 (sS x0a x0n x0c) 22 (sI x7) 23 (sQ b4 (o5+Int.toNat x7*13))) 24 (sQ b4 ((o5+Int.toNat x7*13)+0)) 25 (sI i7) 26 (sA l9) 27 (sB ((!q10))) 28 (sB false) 29 (sS x0a x0n x0c) 30 (sI x7) 31 (sQ b11 (o12+Int.toNat x7*13))) 32 (sQ b11 ((o12+Int.toNat x7*13)+11)) 33 (sI i14) 34 (sI x2) 35 (sB (decide (i14 > x2))) 36 (sB (decide (i14 > x2))) 37 (sB false) 38 (sI x7) 39 (sB (decide (x7 > 0)))) 40 (sB true) 41 (sS x0a x0n x0c) 42 (sI x7) 43 (sI ((wr (x7-1)))) 44 (sV (ptr b15 (o16+Int.toNat (wr (x7-1))*13))) 45 (sV (ptr b15 ((o16+Int.toNat (wr (x7-1))*13)+11))) 46 (sI i18) 47 (sS x0a x0n x0c)) 48 (sI x7) 49 (sQ b19 (o20+Int.toNat x7*13)) 50 (sQ b19 ((o20+Int.toNat x7*13)+11)) 51 (sI i22) 52 (sB (decide (i18 > i22))) 53 (sB true) 54 sU 55 sU) 56 sU 57 sU 58 sU 59 sU 60 sU 61 sU 62 sU 63 sU) 64 sU 65 sU 66 sU 67 sU 68 sU 69 sU 70 sU 71 sU) 72 sU 73 sU 74 sU 75 sU 76 sU 77 sU 78 sU 79 sU) 80 (sB true) 81 (sB true) 82 (sB true)) V0 hp) ((0≤((wr (x7-1)):Int))∧(((wr (x7-1)):Int)<x0n)∧(ptrN x0a fun b23 o24=>ldV (HP.cell hp b23 ((o24+Int.toNat (wr (x7-1))*13)+11)) fun v25=>intV v25 .i64 fun i26=>(0≤x7)∧(x7<x0n)∧(ptrN x0a fun b27 o28=>ldV (HP.cell hp b27 ((o28+Int.toNat x7*13)+11)) fun v29=>intV v29 .i64 fun i30=>ite2 (i26==i30) ((0≤((wr (x7-1)):Int))∧(((wr (x7-1)):Int)<x0n)∧(ptrN x0a fun b31 o32=>ldV (HP.cell hp b31 ((o32+Int.toNat (wr (x7-1))*13)+0)) fun v33=>intV v33 .i64 fun i34=>(0≤x7)∧(x7<x0n)∧(ptrN x0a fun b35 o36=>ldV (HP.cell hp b35 ((o36+Int.toNat x7*13)+0)) fun v37=>intV v37 .i64 fun i38=>K (w3 (w8 (w8 (w8 (w8 (w8 (w8 (w8 (w8 E 16 (sS x0a x0n x0c) 17 (sI x7) 18 (sQ b1 (o2+Int.toNat x7*13)) 19 (sA l3) 20 (sV (.map x1)) 21 (sS x0a x0n x0c) 22 (sI x7) 23 (sQ b4 (o5+Int.toNat x7*13))) 24 (sQ b4 ((o5+Int.toNat x7*13)+0)) 25 (sI i7) 26 (sA l9) 27 (sB ((!q10))) 28 (sB false) 29 (sS x0a x0n x0c) 30 (sI x7) 31 (sQ b11 (o12+Int.toNat x7*13))) 32 (sQ b11 ((o12+Int.toNat x7*13)+11)) 33 (sI i14) 34 (sI x2) 35 (sB (decide (i14 > x2))) 36 (sB (decide (i14 > x2))) 37 (sB false) 38 (sI x7) 39 (sB (decide (x7 > 0)))) 40 (sB true) 41 (sS x0a x0n x0c) 42 (sI x7) 43 (sI ((wr (x7-1)))) 44 (sV (ptr b15 (o16+Int.toNat (wr (x7-1))*13))) 45 (sV (ptr b15 ((o16+Int.toNat (wr (x7-1))*13)+11))) 46 (sI i18) 47 (sS x0a x0n x0c)) 48 (sI x7) 49 (sQ b19 (o20+Int.toNat x7*13)) 50 (sQ b19 ((o20+Int.toNat x7*13)+11)) 51 (sI i22) 52 (sB (decide (i18 > i22))) 53 (sB false) 54 (sS x0a x0n x0c) 55 (sI x7)) 56 (sI ((wr (x7-1)))) 57 (sV (ptr b23 (o24+Int.toNat (wr (x7-1))*13))) 58 (sV (ptr b23 ((o24+Int.toNat (wr (x7-1))*13)+11))) 59 (sI i26) 60 (sS x0a x0n x0c) 61 (sI x7) 62 (sQ b27 (o28+Int.toNat x7*13)) 63 (sQ b27 ((o28+Int.toNat x7*13)+11))) 64 (sI i30) 65 (sB ((i26==i30))) 66 (sB true) 67 (sS x0a x0n x0c) 68 (sI x7) 69 (sI ((wr (x7-1)))) 70 (sV (ptr b31 (o32+Int.toNat (wr (x7-1))*13))) 71 (sV (ptr b31 ((o32+Int.toNat (wr (x7-1))*13)+0)))) 72 (sI i34) 73 (sS x0a x0n x0c) 74 (sI x7) 75 (sQ b35 (o36+Int.toNat x7*13)) 76 (sQ b35 ((o36+Int.toNat x7*13)+0)) 77 (sI i38) 78 (sB (decide (i34≥i38))) 79 (sB (decide (i34≥i38)))) 80 (sB (decide (i34≥i38))) 81 (sB (decide (i34≥i38))) 82 (sB (decide (i34≥i38)))) V0 hp))) (K (w3 (w8 (w8 (w8 (w8 (w8 (w8 (w8 (w8 E 16 (sS x0a x0n x0c) 17 (sI x7) 18 (sQ b1 (o2+Int.toNat x7*13)) 19 (sA l3) 20 (sV (.map x1)) 21 (sS x0a x0n x0c) 22 (sI x7) 23 (sQ b4 (o5+Int.toNat x7*13))) 24 (sQ b4 ((o5+Int.toNat x7*13)+0)) 25 (sI i7) 26 (sA l9) 27 (sB ((!q10))) 28 (sB false) 29 (sS x0a x0n x0c) 30 (sI x7) 31 (sQ b11 (o12+Int.toNat x7*13))) 32 (sQ b11 ((o12+Int.toNat x7*13)+11)) 33 (sI i14) 34 (sI x2) 35 (sB (decide (i14 > x2))) 36 (sB (decide (i14 > x2))) 37 (sB false) 38 (sI x7) 39 (sB (decide (x7 > 0)))) 40 (sB true) 41 (sS x0a x0n x0c) 42 (sI x7) 43 (sI ((wr (x7-1)))) 44 (sV (ptr b15 (o16+Int.toNat (wr (x7-1))*13))) 45 (sV (ptr b15 ((o16+Int.toNat (wr (x7-1))*13)+11))) 46 (sI i18) 47 (sS x0a x0n x0c)) 48 (sI x7) 49 (sQ b19 (o20+Int.toNat x7*13)) 50 (sQ b19 ((o20+Int.toNat x7*13)+11)) 51 (sI i22) 52 (sB (decide (i18 > i22))) 53 (sB false) 54 (sS x0a x0n x0c) 55 (sI x7)) 56 (sI ((wr (x7-1)))) 57 (sV (ptr b23 (o24+Int.toNat (wr (x7-1))*13))) 58 (sV (ptr b23 ((o24+Int.toNat (wr (x7-1))*13)+11))) 59 (sI i26) 60 (sS x0a x0n x0c) 61 (sI x7) 62 (sQ b27 (o28+Int.toNat x7*13)) 63 (sQ b27 ((o28+Int.toNat x7*13)+11))) 64 (sI i30) 65 (sB ((i26==i30))) 66 (sB false) 67 sU 68 sU 69 sU 70 sU 71 sU) 72 sU 73 sU 74 sU 75 sU 76 sU 77 sU 78 sU 79 (sB false)) 80 (sB false) 81 (sB false) 82 (sB false)) V0 hp))))))) (K (w3 (w8 (w8 (w8 (w8 (w8 (w8 (w8 (w8 E 16 (sS x0a x0n x0c) 17 (sI x7) 18 (sQ b1 (o2+Int.toNat x7*13)) 19 (sA l3) 20 (sV (.map x1)) 21 (sS x0a x0n x0c) 22 (sI x7) 23 (sQ b4 (o5+Int.toNat x7*13))) 24 (sQ b4 ((o5+Int.toNat x7*13)+0)) 25 (sI i7) 26 (sA l9) 27 (sB ((!q10))) 28 (sB false) 29 (sS x0a x0n x0c) 30 (sI x7) 31 (sQ b11 (o12+Int.toNat x7*13))) 32 (sQ b11 ((o12+Int.toNat x7*13)+11)) 33 (sI i14) 34 (sI x2) 35 (sB (decide (i14 > x2))) 36 (sB (decide (i14 > x2))) 37 (sB false) 38 (sI x7) 39 (sB (decide (x7 > 0)))) 40 (sB false) 41 sU 42 sU 43 sU 44 sU 45 sU 46 sU 47 sU) 48 sU 49 sU 50 sU 51 sU 52 sU 53 sU 54 sU 55 sU) 56 sU 57 sU 58 sU 59 sU 60 sU 61 sU 62 sU 63 sU) 64 sU 65 sU 66 sU 67 sU 68 sU 69 sU 70 sU 71 sU) 72 sU 73 sU 74 sU 75 sU 76 sU 77 sU 78 sU 79 sU) 80 sU 81 (sB false) 82 (sB false)) V0 hp))))))):=by subst h; kernel_rfl
def F36_l5 (x0a:OA) (x0n x0c:Nat) (x1:Option Nat) (x2:Int) (K:Kh) (I5:(Int)→HP→Prop) (x7:Int) (hp:HP):Prop:=
  (ite2 (decide (x7<x0n)) ((0≤x7)∧(x7<x0n)∧(ptrN x0a fun b18 o19=>ldL (HP.cellN hp b18 (o19+Int.toNat x7*13) 13) fun l20=>(0≤x7)∧(x7<x0n)∧(ptrN x0a fun b21 o22=>ldV (HP.cell hp b21 ((o22+Int.toNat x7*13)+0)) fun v23=>intV v23 .i64 fun i24=>rdS Tryd.prog (Instr.lookup 57 (.map x1) (.int .i64 i24) false) hp fun u25=>aggV u25 fun l26=>eqAgg Tryd.prog 62 l20 l26 fun q27=>ite2 (!q27) (F36_j6 x0a x0n x0c x1 x2 x7 true hp I5 K) ((0≤x7)∧(x7<x0n)∧(ptrN x0a fun b28 o29=>ldV (HP.cell hp b28 ((o29+Int.toNat x7*13)+11)) fun v30=>intV v30 .i64 fun i31=>ite2 (decide (i31 > x2)) (F36_j6 x0a x0n x0c x1 x2 x7 true hp I5 K) (ite2 (decide (x7 > 0)) ((0≤((IntKind.wrap .i64 (x7-1)):Int))∧(((IntKind.wrap .i64 (x7-1)):Int)<x0n)∧(ptrN x0a fun b32 o33=>ldV (HP.cell hp b32 ((o33+Int.toNat (IntKind.wrap .i64 (x7-1))*13)+11)) fun v34=>intV v34 .i64 fun i35=>(0≤x7)∧(x7<x0n)∧(ptrN x0a fun b36 o37=>ldV (HP.cell hp b36 ((o37+Int.toNat x7*13)+11)) fun v38=>intV v38 .i64 fun i39=>ite2 (decide (i35 > i39)) (F36_j6 x0a x0n x0c x1 x2 x7 true hp I5 K) ((0≤((IntKind.wrap .i64 (x7-1)):Int))∧(((IntKind.wrap .i64 (x7-1)):Int)<x0n)∧(ptrN x0a fun b40 o41=>ldV (HP.cell hp b40 ((o41+Int.toNat (IntKind.wrap .i64 (x7-1))*13)+11)) fun v42=>intV v42 .i64 fun i43=>(0≤x7)∧(x7<x0n)∧(ptrN x0a fun b44 o45=>ldV (HP.cell hp b44 ((o45+Int.toNat x7*13)+11)) fun v46=>intV v46 .i64 fun i47=>ite2 (i43==i47) ((0≤((IntKind.wrap .i64 (x7-1)):Int))∧(((IntKind.wrap .i64 (x7-1)):Int)<x0n)∧(ptrN x0a fun b48 o49=>ldV (HP.cell hp b48 ((o49+Int.toNat (IntKind.wrap .i64 (x7-1))*13)+0)) fun v50=>intV v50 .i64 fun i51=>(0≤x7)∧(x7<x0n)∧(ptrN x0a fun b52 o53=>ldV (HP.cell hp b52 ((o53+Int.toNat x7*13)+0)) fun v54=>intV v54 .i64 fun i55=>F36_j6 x0a x0n x0c x1 x2 x7 (decide (i51≥i55)) hp I5 K))) (F36_j6 x0a x0n x0c x1 x2 x7 false hp I5 K))))))) (F36_j6 x0a x0n x0c x1 x2 x7 false hp I5 K))))))) (F36_j1 x1 x2 hp  K))
def F36_j4 (x0a:OA) (x0n x0c:Nat) (x1:Option Nat) (x2 x7:Int) (hp:HP) (K:Kh):Prop:=
  (LoopP (σ:=Int) (fun I s hp=>F36_l5 x0a x0n x0c x1 x2  K I s hp) x7 hp)
theorem F36_r12:R36 9 1 e V0 hp K=
 K (upd e 7 (sI 0)) V0 hp:= by kernel_rfl
def F36 (x0a:OA) (x0n x0c:Nat) (x1:Option Nat) (x2:Int) (hp:HP) (K:Kh):Prop:=
  (F36_j4 x0a x0n x0c x1 x2 0 hp  K)
noncomputable abbrev o36 (k n:Nat):Code:=.region k (opsAt Tryd.f36 (pth n)) false
noncomputable def F36_code:Code:=(.seq (o36 0 2) (.seq (.seq (o36 1 9) (.block 0 (.loop (.seq (.seq (o36 2 133) (.cond (.tmp 13) .skip (.exit 0))) (.seq (.block 1 (.seq (.seq (.region 4 (opsAt Tryd.f36 (pth 1061)) true) (.cond (.tmp 82) (.seq (o36 5 4645) .ret) .skip)) (o36 6 805))) (o36 3 229)))))) (.seq (.seq (o36 7 19) (.block 2 (.loop (.seq (o36 8 139) (.seq (.cond (.tmp 92) .skip (.exit 2)) (.block 3 (.seq (o36 9 1227) (.seq (o36 10 2763) (.cond (.tmp 98) (.seq (o36 11 9931) .ret) .skip))))))))) (.seq (o36 12 23) .ret))))
theorem F36_body:Tryd.f36.body=some F36_code:=by kernel_rfl
theorem F36_ok (x0a:OA) (x0n x0c:Nat) (x1:Option Nat) (x2:Int) (hp:HP) (K:Kh) (h:F36 x0a x0n x0c x1 x2 hp K):CF Tryd.prog 36 [(.slice x0a x0n x0c),(.map x1),(.int .i64 x2)] hp K:=by
 refine .inl ⟨by kernel_rfl,AC.intro (N:=99) Tryd.func36 F36_body rfl (Nat.le_of_ble_eq_true rfl) ?_⟩
 unfold F36 at h
 refine Ar F36_r0 ?_ (r3 0 1 2 Rn) (z3 Sn) Sn
 refine As (fun env pv hp=>∃ x1 x2,Sub (w2 E0 2 (sI x2) 1 (sV (.map x1))) env∧Sub V0 pv∧F36_j1 x1 x2 hp  K) ?_ ?_
 ·refine As (fun env pv hp=>∃ x0a x0n x0c x1 x2 x7,Sub (w4 E0 7 (sI x7) 2 (sI x2) 1 (sV (.map x1)) 0 (sS x0a x0n x0c)) env∧Sub V0 pv∧F36_j4 x0a x0n x0c x1 x2 x7 hp  K) ?_ ?_
  ·refine Ag F36_r12 ?_ (r3 0 1 2 Rn) (z3 Sn) Sn
   exact ⟨_,_,_,_,_,_,(z4 Sn),Sn,h⟩
  ·rintro env pv hp ⟨x0a,x0n,x0c,x1,x2,x7,he,hv,h⟩
   refine Ae ?_ (r4 0 1 2 7 Rn) he hv
   unfold F36_j4 at h
   refine AWP.block (AWP.loop (σ:=Int) _ (fun s=>w4 E0 7 (sI s) 2 (sI x2) 1 (sV (.map x1)) 0 (sS x0a x0n x0c)) (fun s=>V0) x7 h (fun s=>r4 0 1 2 7 Rn) (z4 Sn) Sn ?_)
   intro I5 x7 hp h
   replace h:F36_l5 x0a x0n x0c x1 x2  K I5 x7 hp:=h
   unfold F36_l5 at h
   refine Aq (Ar F36_r7 ?_ (r4 0 7 1 2 Rn) (z4 Sn) Sn)
   refine Ac h rfl (fun h=>?_) (fun h=>?_)
   ·refine AWP.skip (Aq (AWP.block (Aq (As (fun env pv hp=>∃ x7 x82,Sub (w5 E0 82 (sB x82) 7 (sI x7) 2 (sI x2) 1 (sV (.map x1)) 0 (sS x0a x0n x0c)) env∧Sub V0 pv∧F36_j6 x0a x0n x0c x1 x2 x7 x82 hp I5 K) ?_ ?_))))
    ·refine AWP.rgnE (by kernel_rfl) (by kernel_rfl) (F36_r11 rfl) ?_ (r4 0 1 2 7 Rn) (z4 Sn) Sn
     refine ⟨h.1,h.2.1,mN h.2.2 (fun b18 o19 h=>mL h (fun l20 h=>⟨h.1,h.2.1,mN h.2.2 fun b21 o22 h=>mV h fun v23 h=>mI h fun i24 h=>mR h fun u25 h=>mA h fun l26 h=>mE h fun q27 h=>?_⟩))⟩
     refine mt h (fun h=>?_) (fun h=>?_)
     ·exact ⟨_,_,(z5 Sn),Sn,h⟩
     ·refine ⟨h.1,h.2.1,mN h.2.2 fun b28 o29 h=>mV h fun v30 h=>mI h fun i31 h=>?_⟩
      refine mt h (fun h=>?_) (fun h=>?_)
      ·exact ⟨_,_,(z5 Sn),Sn,h⟩
      ·refine mt h (fun h=>?_) (fun h=>?_)
       ·refine ⟨h.1,h.2.1,mN h.2.2 (fun b32 o33 h=>mV h (fun v34 h=>mI h (fun i35 h=>⟨h.1,h.2.1,mN h.2.2 fun b36 o37 h=>mV h fun v38 h=>mI h fun i39 h=>?_⟩)))⟩
        refine mt h (fun h=>?_) (fun h=>?_)
        ·exact ⟨_,_,(z5 Sn),Sn,h⟩
        ·refine ⟨h.1,h.2.1,mN h.2.2 (fun b40 o41 h=>mV h (fun v42 h=>mI h (fun i43 h=>⟨h.1,h.2.1,mN h.2.2 fun b44 o45 h=>mV h fun v46 h=>mI h fun i47 h=>?_⟩)))⟩
         refine mt h (fun h=>?_) (fun h=>?_)
         ·refine ⟨h.1,h.2.1,mN h.2.2 (fun b48 o49 h=>mV h (fun v50 h=>mI h (fun i51 h=>⟨h.1,h.2.1,mN h.2.2 fun b52 o53 h=>mV h fun v54 h=>mI h fun i55 h=>?_⟩)))⟩
          exact ⟨_,_,(z5 Sn),Sn,h⟩
         ·exact ⟨_,_,(z5 Sn),Sn,h⟩
       ·exact ⟨_,_,(z5 Sn),Sn,h⟩
    ·rintro env pv hp ⟨x7,x82,he,hv,h⟩
     refine Ae ?_ (r5 0 1 2 7 82 Rn) he hv
     unfold F36_j6 at h
     refine Ac h rfl (fun h=>?_) (fun h=>?_)
     ·refine Ar F36_r8 ?_ Rn Sn Sn
      refine AWP.ret ?_
      exact h
     ·refine AWP.skip (Ag (F36_r9 rfl) ?_ (r4 0 1 7 2 Rn) (z4 Sn) Sn)
      refine ⟨h.1,h.2.1,mN h.2.2 fun b12 o13 h=>mV h fun v14 h=>mI h fun i15 h=>mO h fun u16 h17 h=>?_⟩
      refine Ag F36_r10 ?_ (r4 7 0 1 2 Rn) (z4 Sn) Sn
      exact ⟨_,(z4 Sn),Sn,h⟩
   ·refine AWP.exit ?_
    exact ⟨_,_,(z2 Sn),Sn,h⟩
 ·rintro env pv hp ⟨x1,x2,he,hv,h⟩
  refine Ae ?_ (r2 1 2 Rn) he hv
  unfold F36_j1 at h
  refine Aq (As (fun env pv hp=>∃ x2 x90,Sub (w2 E0 90 (sV x90) 2 (sI x2)) env∧Sub V0 pv∧F36_j2 x2 x90 hp  K) ?_ ?_)
  ·refine Ag F36_r6 ?_ (r2 1 2 Rn) (z2 Sn) Sn
   refine mO h fun u10 h11 h=>?_
   exact ⟨_,_,(z2 Sn),Sn,h⟩
  ·rintro env pv hp ⟨x2,x90,he,hv,h⟩
   refine Ae ?_ (r2 2 90 Rn) he hv
   unfold F36_j2 at h
   refine AWP.block (AWP.loop (σ:=Unit) _ (fun s=>w2 E0 90 (sV x90) 2 (sI x2)) (fun s=>V0) () h (fun s=>r2 2 90 Rn) (z2 Sn) Sn ?_)
   intro I3 s hp h
   replace h:F36_l3 x2 x90  K I3  hp:=h
   unfold F36_l3 at h
   refine Ar F36_r1 ?_ (r2 90 2 Rn) (z2 Sn) Sn
   refine mO h fun u1 h2 h=>tupI_mono h fun v3 h=>mB h fun q4 h=>?_
   refine Aq (Ac h rfl (fun h=>?_) (fun h=>?_))
   ·refine AWP.skip (AWP.block (Ar F36_r2 ?_ (r2 90 2 Rn) (z2 Sn) Sn))
    refine mR h fun u5 h=>tupI_mono h fun v6 h=>mA h fun l7 h=>mf h fun h=>mf h fun h=>mf h fun h=>?_
    refine Ar F36_r3 ?_ (r1 2 (rp 9 9 0 (r1 90 Rn))) (z3 Sn) (z1 Sn)
    refine mV h fun v8 h=>mI h fun i9 h=>?_
    refine Ac h rfl (fun h=>?_) (fun h=>?_)
    ·refine Ar F36_r4 ?_ Rn Sn Sn
     refine AWP.ret ?_
     exact h
    ·refine AWP.skip ?_
     exact ⟨_,(z2 Sn),Sn,h⟩
   ·refine AWP.exit ?_
    refine Ar F36_r5 ?_ Rn Sn Sn
    refine AWP.ret ?_
    exact h
end
end Go.Proofs
set_option linter.unusedVariables false
set_option maxRecDepth 20000
set_option maxHeartbeats 4000000
namespace Go.Proofs
open Go Go.HL
section
variable {e E:Env} {x0:Int} {x1a:OA} {x1n x1c:Nat} {x5:OA} {x6:Int} {x7:Option Nat} {x8 x9 x12 x43:Int} {k10 k11:List Value} {hp:HP} {K:Env→PV→HP→Prop}
abbrev R5 (p n:Nat):=RW Tryd.prog 164 [10,11,42,47,49,52,55,57,66,68,71,74,76,83,85,88,99,104,106,108,114,116,123,128,132] (opsAt Tryd.f5 (pth p)) (List.range n)
theorem F5_r0:R5 2 1 e V0 hp K=
 K (upd e 4 (sB false)) V0 hp:= by kernel_rfl
theorem F5_r1:R5 37 2 e V0 hp K=
 CF Tryd.prog 31 [] hp fun u1 h2=>(boolV u1 fun q3=>K (w2 e 23 (sB q3) 4 (sB q3)) V0 h2):= by kernel_rfl
theorem F5_r2:R5 11 7 (upd e 0 (sI x0)) V0 hp K=
 CF Tryd.prog 32 [(.int .i64 x0)] hp fun u1 h2=>(tup2V u1 fun u3 u4=>ptrV u3 fun p5=>intV u4 .i64 fun i6=>K (w8 e 0 (sI x0) 25 (sI x0) 26 (sV (.tuple ⟨[(.pointer p5),(.int .i64 i6)]⟩)) 24 (sV (.tuple ⟨[(.pointer p5),(.int .i64 i6)]⟩)) 27 (sP p5) 28 (sI i6) 5 (sP p5) 6 (sI i6)) V0 h2):= by kernel_rfl
theorem F5_r3:R5 39 2 (upd e 6 (sI x6)) V0 hp K=
 K (w3 e 6 (sI x6) 29 (sI x6) 30 (sB ((x6 != 0)))) V0 hp:= by kernel_rfl
theorem F5_r4:R5 151 1 e V0 hp K=
 K (upd e 4 (sB false)) V0 hp:= by kernel_rfl
theorem F5_r5:R5 47 2 e V0 hp K=
    (∀ b1:Nat,hp b1=.none→(K (w2 e 31 (sV (.map (some b1))) 7 (sV (.map (some b1)))) V0 (HP.set hp b1 (.obj (.map #[] 0))))):=by kernel_rfl
theorem F5_r6:R5 95 1 e V0 hp K=
 K (upd e 8 (sI 0)) V0 hp:= by kernel_rfl
theorem F5_r7 (h:E=upd (upd e 7 (sV (.map x7))) 5 (sP x5)):R5 383 18 E V0 hp K=
 CF Tryd.prog 37 [(.pointer x5),(.int .i64 4611686018427387904)] hp fun u1 h2=>(slcV u1 fun a3 n4 c5=>CF Tryd.prog 36 [(.slice a3 n4 c5),(.map x7),(.int .i64 4611686018427387904)] h2 fun u6 h7=>boolV u6 fun q8=>ite2 q8 (rdS Tryd.prog (Builtin.len_ #[57] 3 #[.map x7]) h7 fun u9=>intV u9 .i64 fun i10=>ite2 (i10==0) (CF Tryd.prog 38 [(.pointer x5)] h7 fun u11 h12=>intV u11 .i64 fun i13=>ite2 (i13==0) (CF Tryd.prog 31 [] h12 fun u14 h15=>boolV u14 fun q16=>K (w2 (w8 (w8 E 147 (sP x5) 148 (sS a3 n4 c5) 149 (sV (.map x7)) 150 (sB q8) 151 (sB true) 152 (sV (.map x7)) 153 (sI i10) 154 (sB ((i10==0)))) 155 (sB ((i10==0))) 156 (sB true) 157 (sP x5) 158 (sI i13) 159 (sB ((i13==0))) 160 (sB ((i13==0))) 161 (sB true) 162 (sB q16)) 163 (sB q16) 4 (sB q16)) V0 h15) (K (w2 (w8 (w8 E 147 (sP x5) 148 (sS a3 n4 c5) 149 (sV (.map x7)) 150 (sB q8) 151 (sB true) 152 (sV (.map x7)) 153 (sI i10) 154 (sB ((i10==0)))) 155 (sB ((i10==0))) 156 (sB true) 157 (sP x5) 158 (sI i13) 159 (sB ((i13==0))) 160 (sB ((i13==0))) 161 (sB false) 162 sU) 163 (sB false) 4 (sB false)) V0 h12)) (K (w2 (w8 (w8 E 147 (sP x5) 148 (sS a3 n4 c5) 149 (sV (.map x7)) 150 (sB q8) 151 (sB true) 152 (sV (.map x7)) 153 (sI i10) 154 (sB ((i10==0)))) 155 (sB ((i10==0))) 156 (sB false) 157 sU 158 sU 159 sU 160 (sB false) 161 (sB false) 162 sU) 163 (sB false) 4 (sB false)) V0 h7)) (K (w2 (w8 (w8 E 147 (sP x5) 148 (sS a3 n4 c5) 149 (sV (.map x7)) 150 (sB q8) 151 (sB false) 152 sU 153 sU 154 sU) 155 (sB false) 156 (sB false) 157 sU 158 sU 159 sU 160 (sB false) 161 (sB false) 162 sU) 163 (sB false) 4 (sB false)) V0 h7)):= by subst h; kernel_rfl
def F5_j2 (x5:OA) (x7:Option Nat) (hp:HP) (K:Kh):Prop:=
  (CF Tryd.prog 37 [(.pointer x5),(.int .i64 4611686018427387904)] hp fun u11 h12=>slcV u11 fun a13 n14 c15=>CF Tryd.prog 36 [(.slice a13 n14 c15),(.map x7),(.int .i64 4611686018427387904)] h12 fun u16 h17=>boolV u16 fun q18=>ite2 q18 (rdS Tryd.prog (Builtin.len_ #[57] 3 #[.map x7]) h17 fun u19=>intV u19 .i64 fun i20=>ite2 (i20==0) (CF Tryd.prog 38 [(.pointer x5)] h17 fun u21 h22=>intV u21 .i64 fun i23=>ite2 (i23==0) (CF Tryd.prog 31 [] h22 fun u24 h25=>boolV u24 fun q26=>K (.bool q26) h25) (K (.bool false) h22)) (K (.bool false) h17)) (K (.bool false) h17))
theorem F5_r8:R5 4287 4 (w2 e 9 (sI x9) 1 (sS x1a x1n x1c)) V0 hp K=
 K (w6 e 9 (sI x9) 1 (sS x1a x1n x1c) 32 (sI x9) 33 (sS x1a x1n x1c) 34 (sI ((x1n:Nat))) 35 (sB ((decide (x9<x1n))))) V0 hp:= by kernel_rfl
theorem F5_r9:R5 17599 6 (w2 e 9 (sI x9) 1 (sS x1a x1n x1c)) V0 hp K=
    ((0≤x9)∧(x9<x1n)∧(ptrN x1a fun b1 o2=>ldL (HP.cellN hp b1 (o2+Int.toNat x9*6) 6) fun l3=>if List.length l3=6 then (if List.all l3 one=true then (if 0+List.length l3≤List.length [(Value.int .u8 0),.int .u8 0,.int .u8 0,.int .i64 0,.int .i64 0,.string ⟨#[]⟩] then (K (w7 e 9 (sI x9) 1 (sS x1a x1n x1c) 38 (sS x1a x1n x1c) 39 (sI x9) 40 (sQ b1 (o2+Int.toNat x9*6)) 41 (sA l3) 10 (sR 10 0)) (w2 V0 10 (59,[.int .u8 0,.int .u8 0,.int .u8 0,.int .i64 0,.int .i64 0,.string ⟨#[]⟩]) 10 (59,(splice [.int .u8 0,.int .u8 0,.int .u8 0,.int .i64 0,.int .i64 0,.string ⟨#[]⟩] 0 l3))) hp) else False) else False) else False)):=by kernel_rfl
theorem F5_r10:R5 320703 1 e V0 hp K=
 K (upd e 4 (sB false)) V0 hp:= by kernel_rfl
theorem F5_r11:R5 7359 3 (upd e 9 (sI x9)) V0 hp K=
 K (w4 e 9 (sI x9) 36 (sI x9) 37 (sI ((wr (x9+1)))) 9 (sI ((wr (x9+1))))) V0 hp:= by kernel_rfl
def F5_j6 (x0:Int) (x1a:OA) (x1n x1c:Nat) (x5:OA) (x7:Option Nat) (x8 x9:Int) (x146:Bool) (hp:HP) (I4:(Int × Int)→HP→Prop) (K:Kh):Prop:=
  (ite2 x146 (K (.bool false) hp) (I4 (x8,(IntKind.wrap .i64 (x9+1))) hp))
theorem F5_r12 (h:E=upd (w2 e 7 (sV (.map x7)) 5 (sP x5)) 0 (sI x0)):R5 91327 11 E V0 hp K=
 CF Tryd.prog 38 [(.pointer x5)] hp fun u1 h2=>(intV u1 .i64 fun i3=>rdS Tryd.prog (Builtin.len_ #[57] 3 #[.map x7]) h2 fun u4=>intV u4 .i64 fun i5=>ite2 (i3 != i5) (K (w3 (w8 E 136 (sP x5) 137 (sI i3) 138 (sV (.map x7)) 139 (sI i5) 140 (sB ((i3 != i5))) 141 (sB true) 142 sU 143 sU) 144 sU 145 sU 146 (sB true)) V0 h2) (rdS Tryd.prog (Builtin.len_ #[57] 3 #[.map x7]) h2 fun u6=>intV u6 .i64 fun i7=>K (w3 (w8 E 136 (sP x5) 137 (sI i3) 138 (sV (.map x7)) 139 (sI i5) 140 (sB ((i3 != i5))) 141 (sB false) 142 (sV (.map x7)) 143 (sI i7)) 144 (sI x0) 145 (sB (decide (i7 > x0))) 146 (sB (decide (i7 > x0)))) V0 h2)):= by subst h; kernel_rfl
def F5_j5 (x0:Int) (x1a:OA) (x1n x1c:Nat) (x5:OA) (x7:Option Nat) (x8 x9:Int) (hp:HP) (I4:(Int × Int)→HP→Prop) (K:Kh):Prop:=
  (CF Tryd.prog 38 [(.pointer x5)] hp fun u30 h31=>intV u30 .i64 fun i32=>rdS Tryd.prog (Builtin.len_ #[57] 3 #[.map x7]) h31 fun u33=>intV u33 .i64 fun i34=>ite2 (i32 != i34) (F5_j6 x0 x1a x1n x1c x5 x7 x8 x9 true h31 I4 K) (rdS Tryd.prog (Builtin.len_ #[57] 3 #[.map x7]) h31 fun u35=>intV u35 .i64 fun i36=>F5_j6 x0 x1a x1n x1c x5 x7 x8 x9 (decide (i36 > x0)) h31 I4 K))
theorem F5_r13:R5 74943 2 (upd e 10 (sR 10 0)) (upd V0 10 (59,k10)) hp K=
 ldV (k10)[0]? fun v1=>(intV v1 .u8 fun i2=>K (w3 e 10 (sR 10 0) 42 (sR 10 0) 43 (sV (.int .u8 i2))) (upd V0 10 (59,k10)) hp):= by kernel_rfl
theorem F5_r14:R5 304319 2 (upd e 43 (sV (.int .u8 x43))) (upd V0 10 (59,k10)) hp K=
 K (w3 e 43 (sV (.int .u8 x43)) 45 (sB ((x43==0))) 44 (sB ((x43==0)))) (upd V0 10 (59,k10)) hp:= by kernel_rfl
theorem F5_r15:R5 1221823 15 (w2 e 10 (sR 10 0) 5 (sP x5)) (upd V0 10 (59,k10)) hp K=
 ldV (k10)[1]? fun v1=>(intV v1 .u8 fun i2=>ldV (k10)[3]? fun v3=>intV v3 .i64 fun i4=>CF Tryd.prog 34 [(.int .u8 i2),(.int .i64 i4)] hp fun u5 h6=>aggV u5 fun l7=>ldV (k10)[2]? fun v8=>intV v8 .u8 fun i9=>CF Tryd.prog 34 [(.int .u8 i9),(.int .i64 9)] h6 fun u10 h11=>aggV u10 fun l12=>ldV (k10)[4]? fun v13=>intV v13 .i64 fun i14=>ldV (k10)[5]? fun v15=>strV v15 fun s16=>CF Tryd.prog 33 [(.pointer x5),(.agg ⟨l7⟩),(.agg ⟨l12⟩),(.int .i64 i14),(.string s16)] h11 fun u17 h18=>intV u17 .i64 fun i19=>K (upd (w8 (w8 e 10 (sR 10 0) 5 (sP x5) 46 (sP x5) 47 (sR 10 1) 48 (sV (.int .u8 i2)) 49 (sR 10 3) 50 (sI i4) 51 (sA l7)) 52 (sR 10 2) 53 (sV (.int .u8 i9)) 54 (sA l12) 55 (sR 10 4) 56 (sI i14) 57 (sR 10 5) 58 (sT s16) 59 (sI i19)) 60 (sB ((i19==0)))) (upd V0 10 (59,k10)) h18):= by kernel_rfl
theorem F5_r16:R5 4891839 3 (upd e 8 (sI x8)) (upd V0 10 (59,k10)) hp K=
 K (w4 e 8 (sI x8) 61 (sI x8) 62 (sI ((wr (x8+1)))) 8 (sI ((wr (x8+1))))) (upd V0 10 (59,k10)) hp:= by kernel_rfl
theorem F5_r17 (h:E=upd (w2 e 10 (sR 10 0) 8 (sI x8)) 7 (sV (.map x7))):R5 6988991 17 E (upd V0 10 (59,k10)) hp K=
 ldV (k10)[1]? fun v1=>(intV v1 .u8 fun i2=>ldV (k10)[3]? fun v3=>intV v3 .i64 fun i4=>CF Tryd.prog 34 [(.int .u8 i2),(.int .i64 i4)] hp fun u5 h6=>aggV u5 fun l7=>ldV (k10)[2]? fun v8=>intV v8 .u8 fun i9=>CF Tryd.prog 34 [(.int .u8 i9),(.int .i64 9)] h6 fun u10 h11=>aggV u10 fun l12=>ldV (k10)[4]? fun v13=>intV v13 .i64 fun i14=>ldV (k10)[5]? fun v15=>strV v15 fun s16=>if List.length l7=5 then (if List.length l12=5 then (opS Tryd.prog (Instr.mapUpdate 57 (.map x7) (.int .i64 x8) (.agg ⟨(List.set (List.set (splice (splice [(.int .i64 x8),.int .u8 0,.int .u8 0,.int .u8 0,.int .u8 0,.int .i64 0,.int .u8 0,.int .u8 0,.int .u8 0,.int .u8 0,.int .i64 0,.int .i64 0,.string ⟨#[]⟩] 1 l7) 6 l12) 11 (.int .i64 i14)) 12 (.string s16))⟩)) h11 fun u17 h18=>K (w8 (w8 E 63 (sV (.map x7)) 64 (sI x8) 65 (sI x8) 66 (sR 10 1) 67 (sV (.int .u8 i2)) 68 (sR 10 3) 69 (sI i4) 70 (sA l7)) 71 (sR 10 2) 72 (sV (.int .u8 i9)) 73 (sA l12) 74 (sR 10 4) 75 (sI i14) 76 (sR 10 5) 77 (sT s16) 78 (sV (.agg ⟨(List.set (List.set (splice (splice [(.int .i64 x8),.int .u8 0,.int .u8 0,.int .u8 0,.int .u8 0,.int .i64 0,.int .u8 0,.int .u8 0,.int .u8 0,.int .u8 0,.int .i64 0,.int .i64 0,.string ⟨#[]⟩] 1 l7) 6 l12) 11 (.int .i64 i14)) 12 (.string s16))⟩))) (upd V0 10 (59,k10)) h18) else False) else False):= by subst h; kernel_rfl
theorem F5_r18:R5 1483967 2 (upd e 43 (sV (.int .u8 x43))) (upd V0 10 (59,k10)) hp K=
 K (w3 e 43 (sV (.int .u8 x43)) 80 (sB ((x43==1))) 79 (sB ((x43==1)))) (upd V0 10 (59,k10)) hp:= by kernel_rfl
theorem F5_r19:R5 78554303 1 e V0 hp K=
 K (upd e 4 (sB false)) V0 hp:= by kernel_rfl
theorem F5_r20:R5 15639743 4 (w2 e 11 (sR 11 0) 7 (sV (.map x7))) (upd V0 11 (62,k11)) hp K=
 ldV (k11)[0]? fun v1=>(intV v1 .i64 fun i2=>opS Tryd.prog (Builtin.delete_ #[57,3] 0 ⟨[(.map x7),(.int .i64 i2)]⟩) hp fun u3 h4=>K (w5 e 11 (sR 11 0) 7 (sV (.map x7)) 122 (sV (.map x7)) 123 (sR 11 0) 124 (sI i2)) (upd V0 11 (62,k11)) h4):= by kernel_rfl
def F5_j8 (x0:Int) (x1a:OA) (x1n x1c:Nat) (x5:OA) (x7:Option Nat) (x8 x9:Int) (x121:Bool) (k11:List Value) (hp:HP) (I4:(Int × Int)→HP→Prop) (K:Kh):Prop:=
  (ite2 x121 (K (.bool false) hp) (ldV (k11)[0]? fun v76=>intV v76 .i64 fun i77=>opS Tryd.prog (Builtin.delete_ #[57,3] 0 ⟨[(.map x7),(.int .i64 i77)]⟩) hp fun u78 h79=>F5_j5 x0 x1a x1n x1c x5 x7 x8 x9 h79 I4 K))
theorem F5_r21 (h:E=upd (w3 e 12 (sI x12) 11 (sR 11 0) 10 (sR 10 0)) 7 (sV (.map x7))):R5 19834047 28 E (w2 V0 11 (62,k11) 10 (59,k10)) hp K=
 ite2 (x12==0) (ldL (cellsN k11 0 13) fun l1=>ldV (k11)[0]? fun v2=>intV v2 .i64 fun i3=>rdS Tryd.prog (Instr.lookup 57 (.map x7) (.int .i64 i3) false) hp fun u4=>aggV u4 fun l5=>eqAgg Tryd.prog 62 l1 l5 fun q6=>ite2 (!q6) (K (w4 (w8 (w8 (w8 E 94 (sI x12) 95 (sB ((x12==0))) 96 (sB true) 97 (sA l1) 98 (sV (.map x7)) 99 (sR 11 0) 100 (sI i3) 101 (sA l5)) 102 (sB ((!q6))) 103 (sB true) 104 sU 105 sU 106 sU 107 sU 108 sU 109 sU) 110 sU 111 sU 112 (sB true) 113 (sB true) 114 sU 115 sU 116 sU 117 sU) 118 sU 119 sU 120 (sB true) 121 (sB true)) (w2 V0 11 (62,k11) 10 (59,k10)) hp) (ldL (cellsN k11 1 5) fun l7=>ldV (k10)[1]? fun v8=>intV v8 .u8 fun i9=>ldV (k10)[3]? fun v10=>intV v10 .i64 fun i11=>CF Tryd.prog 34 [(.int .u8 i9),(.int .i64 i11)] hp fun u12 h13=>aggV u12 fun l14=>eqAgg Tryd.prog 34 l7 l14 fun q15=>ite2 (!q15) (K (w4 (w8 (w8 (w8 E 94 (sI x12) 95 (sB ((x12==0))) 96 (sB true) 97 (sA l1) 98 (sV (.map x7)) 99 (sR 11 0) 100 (sI i3) 101 (sA l5)) 102 (sB ((!q6))) 103 (sB false) 104 (sR 11 1) 105 (sA l7) 106 (sR 10 1) 107 (sV (.int .u8 i9)) 108 (sR 10 3) 109 (sI i11)) 110 (sA l14) 111 (sB ((!q15))) 112 (sB ((!q15))) 113 (sB true) 114 sU 115 sU 116 sU 117 sU) 118 sU 119 sU 120 (sB true) 121 (sB true)) (w2 V0 11 (62,k11) 10 (59,k10)) h13) (ldL (cellsN k11 6 5) fun l16=>ldV (k10)[2]? fun v17=>intV v17 .u8 fun i18=>CF Tryd.prog 34 [(.int .u8 i18),(.int .i64 9)] h13 fun u19 h20=>aggV u19 fun l21=>eqAgg Tryd.prog 34 l16 l21 fun q22=>K (w4 (w8 (w8 (w8 E 94 (sI x12) 95 (sB ((x12==0))) 96 (sB true) 97 (sA l1) 98 (sV (.map x7)) 99 (sR 11 0) 100 (sI i3) 101 (sA l5)) 102 (sB ((!q6))) 103 (sB false) 104 (sR 11 1) 105 (sA l7) 106 (sR 10 1) 107 (sV (.int .u8 i9)) 108 (sR 10 3) 109 (sI i11)) 110 (sA l14) 111 (sB ((!q15))) 112 (sB ((!q15))) 113 (sB false) 114 (sR 11 6) 115 (sA l16) 116 (sR 10 2) 117 (sV (.int .u8 i18))) 118 (sA l21) 119 (sB ((!q22))) 120 (sB ((!q22))) 121 (sB ((!q22)))) (w2 V0 11 (62,k11) 10 (59,k10)) h20))) (K (w4 (w8 (w8 (w8 E 94 (sI x12) 95 (sB ((x12==0))) 96 (sB false) 97 sU 98 sU 99 sU 100 sU 101 sU) 102 sU 103 sU 104 sU 105 sU 106 sU 107 sU 108 sU 109 sU) 110 sU 111 sU 112 sU 113 sU 114 sU 115 sU 116 sU 117 sU) 118 sU 119 sU 120 sU 121 (sB false)) (w2 V0 11 (62,k11) 10 (59,k10)) hp):= by subst h; kernel_rfl
def F5_j7 (x0:Int) (x1a:OA) (x1n x1c:Nat) (x5:OA) (x7:Option Nat) (x8 x9 x12:Int) (k10 k11:List Value) (hp:HP) (I4:(Int × Int)→HP→Prop) (K:Kh):Prop:=
  (ite2 (x12==0) (ldL (cellsN k11 0 13) fun l80=>ldV (k11)[0]? fun v81=>intV v81 .i64 fun i82=>rdS Tryd.prog (Instr.lookup 57 (.map x7) (.int .i64 i82) false) hp fun u83=>aggV u83 fun l84=>eqAgg Tryd.prog 62 l80 l84 fun q85=>ite2 (!q85) (F5_j8 x0 x1a x1n x1c x5 x7 x8 x9 true k11 hp I4 K) (ldL (cellsN k11 1 5) fun l86=>ldV (k10)[1]? fun v87=>intV v87 .u8 fun i88=>ldV (k10)[3]? fun v89=>intV v89 .i64 fun i90=>CF Tryd.prog 34 [(.int .u8 i88),(.int .i64 i90)] hp fun u91 h92=>aggV u91 fun l93=>eqAgg Tryd.prog 34 l86 l93 fun q94=>ite2 (!q94) (F5_j8 x0 x1a x1n x1c x5 x7 x8 x9 true k11 h92 I4 K) (ldL (cellsN k11 6 5) fun l95=>ldV (k10)[2]? fun v96=>intV v96 .u8 fun i97=>CF Tryd.prog 34 [(.int .u8 i97),(.int .i64 9)] h92 fun u98 h99=>aggV u98 fun l100=>eqAgg Tryd.prog 34 l95 l100 fun q101=>F5_j8 x0 x1a x1n x1c x5 x7 x8 x9 (!q101) k11 h99 I4 K))) (F5_j8 x0 x1a x1n x1c x5 x7 x8 x9 false k11 hp I4 K))
theorem F5_r22 {e:Env} {x5:OA} {k10:List Value} {hp:HP} {K:Env→PV→HP→Prop}:RW Tryd.prog 164 [10,11,42,47,49,52,55,57,66,68,71,74,76,83,85,88,99,104,106,108,114,116,123,128,132] (opsAt Tryd.f5 (pth 5153983)) [0,1,2,3,4,5,6,7,8,9,10,11,12,13,14,15] (w2 e 10 (sR 10 0) 5 (sP x5)) (upd V0 10 (59,k10)) hp K=
 ldV (k10)[1]? fun v1=>(intV v1 .u8 fun i2=>ldV (k10)[3]? fun v3=>intV v3 .i64 fun i4=>CF Tryd.prog 34 [(.int .u8 i2),(.int .i64 i4)] hp fun u5 h6=>aggV u5 fun l7=>ldV (k10)[2]? fun v8=>intV v8 .u8 fun i9=>CF Tryd.prog 34 [(.int .u8 i9),(.int .i64 9)] h6 fun u10 h11=>aggV u10 fun l12=>CF Tryd.prog 35 [(.pointer x5),(.agg ⟨l7⟩),(.agg ⟨l12⟩)] h11 fun u13 h14=>tup2V u13 fun u15 u16=>aggV u15 fun l17=>intV u16 .i64 fun i18=>if List.length l17=13 then (if List.all l17 one=true then (if 0+List.length l17≤List.length [(Value.int .i64 0),.int .u8 0,.int .u8 0,.int .u8 0,.int .u8 0,.int .i64 0,.int .u8 0,.int .u8 0,.int .u8 0,.int .u8 0,.int .i64 0,.int .i64 0,.string ⟨#[]⟩] then (K (upd (w8 (w8 e 10 (sR 10 0) 5 (sP x5) 82 (sP x5) 83 (sR 10 1) 84 (sV (.int .u8 i2)) 85 (sR 10 3) 86 (sI i4) 87 (sA l7)) 88 (sR 10 2) 89 (sV (.int .u8 i9)) 90 (sA l12) 91 (sV (.tuple ⟨[(.agg ⟨l17⟩),(.int .i64 i18)]⟩)) 81 (sV (.tuple ⟨[(.agg ⟨l17⟩),(.int .i64 i18)]⟩)) 92 (sA l17) 93 (sI i18) 11 (sR 11 0)) 12 (sI i18)) (w3 V0 10 (59,k10) 11 (62,[.int .i64 0,.int .u8 0,.int .u8 0,.int .u8 0,.int .u8 0,.int .i64 0,.int .u8 0,.int .u8 0,.int .u8 0,.int .u8 0,.int .i64 0,.int .i64 0,.string ⟨#[]⟩]) 11 (62,(splice [.int .i64 0,.int .u8 0,.int .u8 0,.int .u8 0,.int .u8 0,.int .i64 0,.int .u8 0,.int .u8 0,.int .u8 0,.int .u8 0,.int .i64 0,.int .i64 0,.string ⟨#[]⟩] 0 l17))) h14) else False) else False) else False):= by kernel_rfl
theorem F5_r23 {e:Env} {x5:OA} {k10:List Value} {hp:HP} {K:Env→PV→HP→Prop}:RW Tryd.prog 164 [10,11,42,47,49,52,55,57,66,68,71,74,76,83,85,88,99,104,106,108,114,116,123,128,132] (opsAt Tryd.f5 (pth 5153983)) [0,1,2,3,4,5,6,13,7,8,9,10,11,12,14,15] (w2 e 10 (sR 10 0) 5 (sP x5)) (upd V0 10 (59,k10)) hp K=
 ldV (k10)[1]? fun v1=>(intV v1 .u8 fun i2=>ldV (k10)[3]? fun v3=>intV v3 .i64 fun i4=>CF Tryd.prog 34 [(.int .u8 i2),(.int .i64 i4)] hp fun u5 h6=>aggV u5 fun l7=>ldV (k10)[2]? fun v8=>intV v8 .u8 fun i9=>CF Tryd.prog 34 [(.int .u8 i9),(.int .i64 9)] h6 fun u10 h11=>aggV u10 fun l12=>CF Tryd.prog 35 [(.pointer x5),(.agg ⟨l7⟩),(.agg ⟨l12⟩)] h11 fun u13 h14=>tup2V u13 fun u15 u16=>aggV u15 fun l17=>intV u16 .i64 fun i18=>if List.length l17=13 then (if List.all l17 one=true then (if 0+List.length l17≤List.length [(Value.int .i64 0),.int .u8 0,.int .u8 0,.int .u8 0,.int .u8 0,.int .i64 0,.int .u8 0,.int .u8 0,.int .u8 0,.int .u8 0,.int .i64 0,.int .i64 0,.string ⟨#[]⟩] then (K (upd (w8 (w8 e 10 (sR 10 0) 5 (sP x5) 82 (sP x5) 83 (sR 10 1) 84 (sV (.int .u8 i2)) 85 (sR 10 3) 86 (sI i4) 87 (sA l7)) 88 (sR 10 2) 11 (sR 11 0) 89 (sV (.int .u8 i9)) 90 (sA l12) 91 (sV (.tuple ⟨[(.agg ⟨l17⟩),(.int .i64 i18)]⟩)) 81 (sV (.tuple ⟨[(.agg ⟨l17⟩),(.int .i64 i18)]⟩)) 92 (sA l17) 93 (sI i18)) 12 (sI i18)) (w3 V0 10 (59,k10) 11 (62,[.int .i64 0,.int .u8 0,.int .u8 0,.int .u8 0,.int .u8 0,.int .i64 0,.int .u8 0,.int .u8 0,.int .u8 0,.int .u8 0,.int .i64 0,.int .i64 0,.string ⟨#[]⟩]) 11 (62,(splice [.int .i64 0,.int .u8 0,.int .u8 0,.int .u8 0,.int .u8 0,.int .i64 0,.int .u8 0,.int .u8 0,.int .u8 0,.int .u8 0,.int .i64 0,.int .i64 0,.string ⟨#[]⟩] 0 l17))) h14) else False) else False) else False):= by kernel_rfl
theorem F5_r24 {e:Env} {x5:OA} {k10:List Value} {hp:HP} {K:Env→PV→HP→Prop}:RW Tryd.prog 164 [10,11,42,47,49,52,55,57,66,68,71,74,76,83,85,88,99,104,106,108,114,116,123,128,132] (opsAt Tryd.f5 (pth 5153983)) [0,1,2,3,6,7,13,4,5,8,9,10,11,12,14,15] (w2 e 10 (sR 10 0) 5 (sP x5)) (upd V0 10 (59,k10)) hp K=
 ldV (k10)[1]? fun v1=>(intV v1 .u8 fun i2=>ldV (k10)[2]? fun v3=>intV v3 .u8 fun i4=>ldV (k10)[3]? fun v5=>intV v5 .i64 fun i6=>CF Tryd.prog 34 [(.int .u8 i2),(.int .i64 i6)] hp fun u7 h8=>aggV u7 fun l9=>CF Tryd.prog 34 [(.int .u8 i4),(.int .i64 9)] h8 fun u10 h11=>aggV u10 fun l12=>CF Tryd.prog 35 [(.pointer x5),(.agg ⟨l9⟩),(.agg ⟨l12⟩)] h11 fun u13 h14=>tup2V u13 fun u15 u16=>aggV u15 fun l17=>intV u16 .i64 fun i18=>if List.length l17=13 then (if List.all l17 one=true then (if 0+List.length l17≤List.length [(Value.int .i64 0),.int .u8 0,.int .u8 0,.int .u8 0,.int .u8 0,.int .i64 0,.int .u8 0,.int .u8 0,.int .u8 0,.int .u8 0,.int .i64 0,.int .i64 0,.string ⟨#[]⟩] then (K (upd (w8 (w8 e 10 (sR 10 0) 5 (sP x5) 82 (sP x5) 83 (sR 10 1) 84 (sV (.int .u8 i2)) 85 (sR 10 3) 88 (sR 10 2) 89 (sV (.int .u8 i4))) 11 (sR 11 0) 86 (sI i6) 87 (sA l9) 90 (sA l12) 91 (sV (.tuple ⟨[(.agg ⟨l17⟩),(.int .i64 i18)]⟩)) 81 (sV (.tuple ⟨[(.agg ⟨l17⟩),(.int .i64 i18)]⟩)) 92 (sA l17) 93 (sI i18)) 12 (sI i18)) (w3 V0 10 (59,k10) 11 (62,[.int .i64 0,.int .u8 0,.int .u8 0,.int .u8 0,.int .u8 0,.int .i64 0,.int .u8 0,.int .u8 0,.int .u8 0,.int .u8 0,.int .i64 0,.int .i64 0,.string ⟨#[]⟩]) 11 (62,(splice [.int .i64 0,.int .u8 0,.int .u8 0,.int .u8 0,.int .u8 0,.int .i64 0,.int .u8 0,.int .u8 0,.int .u8 0,.int .u8 0,.int .i64 0,.int .i64 0,.string ⟨#[]⟩] 0 l17))) h14) else False) else False) else False):= by kernel_rfl
theorem F5_r25 {e:Env} {x5:OA} {k10:List Value} {hp:HP} {K:Env→PV→HP→Prop}:RW Tryd.prog 164 [10,11,42,47,49,52,55,57,66,68,71,74,76,83,85,88,99,104,106,108,114,116,123,128,132] (opsAt Tryd.f5 (pth 5153983)) [0,1,2,3,6,13,4,5,7,8,9,10,11,12,14,15] (w2 e 10 (sR 10 0) 5 (sP x5)) (upd V0 10 (59,k10)) hp K=
 ldV (k10)[1]? fun v1=>(intV v1 .u8 fun i2=>ldV (k10)[3]? fun v3=>intV v3 .i64 fun i4=>CF Tryd.prog 34 [(.int .u8 i2),(.int .i64 i4)] hp fun u5 h6=>aggV u5 fun l7=>ldV (k10)[2]? fun v8=>intV v8 .u8 fun i9=>CF Tryd.prog 34 [(.int .u8 i9),(.int .i64 9)] h6 fun u10 h11=>aggV u10 fun l12=>CF Tryd.prog 35 [(.pointer x5),(.agg ⟨l7⟩),(.agg ⟨l12⟩)] h11 fun u13 h14=>tup2V u13 fun u15 u16=>aggV u15 fun l17=>intV u16 .i64 fun i18=>if List.length l17=13 then (if List.all l17 one=true then (if 0+List.length l17≤List.length [(Value.int .i64 0),.int .u8 0,.int .u8 0,.int .u8 0,.int .u8 0,.int .i64 0,.int .u8 0,.int .u8 0,.int .u8 0,.int .u8 0,.int .i64 0,.int .i64 0,.string ⟨#[]⟩] then (K (upd (w8 (w8 e 10 (sR 10 0) 5 (sP x5) 82 (sP x5) 83 (sR 10 1) 84 (sV (.int .u8 i2)) 85 (sR 10 3) 88 (sR 10 2) 11 (sR 11 0)) 86 (sI i4) 87 (sA l7) 89 (sV (.int .u8 i9)) 90 (sA l12) 91 (sV (.tuple ⟨[(.agg ⟨l17⟩),(.int .i64 i18)]⟩)) 81 (sV (.tuple ⟨[(.agg ⟨l17⟩),(.int .i64 i18)]⟩)) 92 (sA l17) 93 (sI i18)) 12 (sI i18)) (w3 V0 10 (59,k10) 11 (62,[.int .i64 0,.int .u8 0,.int .u8 0,.int .u8 0,.int .u8 0,.int .i64 0,.int .u8 0,.int .u8 0,.int .u8 0,.int .u8 0,.int .i64 0,.int .i64 0,.string ⟨#[]⟩]) 11 (62,(splice [.int .i64 0,.int .u8 0,.int .u8 0,.int .u8 0,.int .u8 0,.int .i64 0,.int .u8 0,.int .u8 0,.int .u8 0,.int .u8 0,.int .i64 0,.int .i64 0,.string ⟨#[]⟩] 0 l17))) h14) else False) else False) else False):= by kernel_rfl
theorem F5_r26 {e:Env} {x5:OA} {k10:List Value} {hp:HP} {K:Env→PV→HP→Prop}:RW Tryd.prog 164 [10,11,42,47,49,52,55,57,66,68,71,74,76,83,85,88,99,104,106,108,114,116,123,128,132] (opsAt Tryd.f5 (pth 5153983)) [0,1,3,4,6,7,13,2,5,8,9,10,11,12,14,15] (w2 e 10 (sR 10 0) 5 (sP x5)) (upd V0 10 (59,k10)) hp K=
 ldV (k10)[3]? fun v1=>(intV v1 .i64 fun i2=>ldV (k10)[2]? fun v3=>intV v3 .u8 fun i4=>ldV (k10)[1]? fun v5=>intV v5 .u8 fun i6=>CF Tryd.prog 34 [(.int .u8 i6),(.int .i64 i2)] hp fun u7 h8=>aggV u7 fun l9=>CF Tryd.prog 34 [(.int .u8 i4),(.int .i64 9)] h8 fun u10 h11=>aggV u10 fun l12=>CF Tryd.prog 35 [(.pointer x5),(.agg ⟨l9⟩),(.agg ⟨l12⟩)] h11 fun u13 h14=>tup2V u13 fun u15 u16=>aggV u15 fun l17=>intV u16 .i64 fun i18=>if List.length l17=13 then (if List.all l17 one=true then (if 0+List.length l17≤List.length [(Value.int .i64 0),.int .u8 0,.int .u8 0,.int .u8 0,.int .u8 0,.int .i64 0,.int .u8 0,.int .u8 0,.int .u8 0,.int .u8 0,.int .i64 0,.int .i64 0,.string ⟨#[]⟩] then (K (upd (w8 (w8 e 10 (sR 10 0) 5 (sP x5) 82 (sP x5) 83 (sR 10 1) 85 (sR 10 3) 86 (sI i2) 88 (sR 10 2) 89 (sV (.int .u8 i4))) 11 (sR 11 0) 84 (sV (.int .u8 i6)) 87 (sA l9) 90 (sA l12) 91 (sV (.tuple ⟨[(.agg ⟨l17⟩),(.int .i64 i18)]⟩)) 81 (sV (.tuple ⟨[(.agg ⟨l17⟩),(.int .i64 i18)]⟩)) 92 (sA l17) 93 (sI i18)) 12 (sI i18)) (w3 V0 10 (59,k10) 11 (62,[.int .i64 0,.int .u8 0,.int .u8 0,.int .u8 0,.int .u8 0,.int .i64 0,.int .u8 0,.int .u8 0,.int .u8 0,.int .u8 0,.int .i64 0,.int .i64 0,.string ⟨#[]⟩]) 11 (62,(splice [.int .i64 0,.int .u8 0,.int .u8 0,.int .u8 0,.int .u8 0,.int .i64 0,.int .u8 0,.int .u8 0,.int .u8 0,.int .u8 0,.int .i64 0,.int .i64 0,.string ⟨#[]⟩] 0 l17))) h14) else False) else False) else False):= by kernel_rfl
theorem F5_r27 {e:Env} {x5:OA} {k10:List Value} {hp:HP} {K:Env→PV→HP→Prop}:RW Tryd.prog 164 [10,11,42,47,49,52,55,57,66,68,71,74,76,83,85,88,99,104,106,108,114,116,123,128,132] (opsAt Tryd.f5 (pth 5153983)) [0,1,3,4,6,13,2,5,7,8,9,10,11,12,14,15] (w2 e 10 (sR 10 0) 5 (sP x5)) (upd V0 10 (59,k10)) hp K=
 ldV (k10)[3]? fun v1=>(intV v1 .i64 fun i2=>ldV (k10)[1]? fun v3=>intV v3 .u8 fun i4=>CF Tryd.prog 34 [(.int .u8 i4),(.int .i64 i2)] hp fun u5 h6=>aggV u5 fun l7=>ldV (k10)[2]? fun v8=>intV v8 .u8 fun i9=>CF Tryd.prog 34 [(.int .u8 i9),(.int .i64 9)] h6 fun u10 h11=>aggV u10 fun l12=>CF Tryd.prog 35 [(.pointer x5),(.agg ⟨l7⟩),(.agg ⟨l12⟩)] h11 fun u13 h14=>tup2V u13 fun u15 u16=>aggV u15 fun l17=>intV u16 .i64 fun i18=>if List.length l17=13 then (if List.all l17 one=true then (if 0+List.length l17≤List.length [(Value.int .i64 0),.int .u8 0,.int .u8 0,.int .u8 0,.int .u8 0,.int .i64 0,.int .u8 0,.int .u8 0,.int .u8 0,.int .u8 0,.int .i64 0,.int .i64 0,.string ⟨#[]⟩] then (K (upd (w8 (w8 e 10 (sR 10 0) 5 (sP x5) 82 (sP x5) 83 (sR 10 1) 85 (sR 10 3) 86 (sI i2) 88 (sR 10 2) 11 (sR 11 0)) 84 (sV (.int .u8 i4)) 87 (sA l7) 89 (sV (.int .u8 i9)) 90 (sA l12) 91 (sV (.tuple ⟨[(.agg ⟨l17⟩),(.int .i64 i18)]⟩)) 81 (sV (.tuple ⟨[(.agg ⟨l17⟩),(.int .i64 i18)]⟩)) 92 (sA l17) 93 (sI i18)) 12 (sI i18)) (w3 V0 10 (59,k10) 11 (62,[.int .i64 0,.int .u8 0,.int .u8 0,.int .u8 0,.int .u8 0,.int .i64 0,.int .u8 0,.int .u8 0,.int .u8 0,.int .u8 0,.int .i64 0,.int .i64 0,.string ⟨#[]⟩]) 11 (62,(splice [.int .i64 0,.int .u8 0,.int .u8 0,.int .u8 0,.int .u8 0,.int .i64 0,.int .u8 0,.int .u8 0,.int .u8 0,.int .u8 0,.int .i64 0,.int .i64 0,.string ⟨#[]⟩] 0 l17))) h14) else False) else False) else False):= by kernel_rfl
theorem F5_r28 {e:Env} {x5:OA} {k10:List Value} {hp:HP} {K:Env→PV→HP→Prop}:RW Tryd.prog 164 [10,11,42,47,49,52,55,57,66,68,71,74,76,83,85,88,99,104,106,108,114,116,123,128,132] (opsAt Tryd.f5 (pth 5153983)) [0,1,3,6,7,13,2,4,5,8,9,10,11,12,14,15] (w2 e 10 (sR 10 0) 5 (sP x5)) (upd V0 10 (59,k10)) hp K=
 ldV (k10)[2]? fun v1=>(intV v1 .u8 fun i2=>ldV (k10)[1]? fun v3=>intV v3 .u8 fun i4=>ldV (k10)[3]? fun v5=>intV v5 .i64 fun i6=>CF Tryd.prog 34 [(.int .u8 i4),(.int .i64 i6)] hp fun u7 h8=>aggV u7 fun l9=>CF Tryd.prog 34 [(.int .u8 i2),(.int .i64 9)] h8 fun u10 h11=>aggV u10 fun l12=>CF Tryd.prog 35 [(.pointer x5),(.agg ⟨l9⟩),(.agg ⟨l12⟩)] h11 fun u13 h14=>tup2V u13 fun u15 u16=>aggV u15 fun l17=>intV u16 .i64 fun i18=>if List.length l17=13 then (if List.all l17 one=true then (if 0+List.length l17≤List.length [(Value.int .i64 0),.int .u8 0,.int .u8 0,.int .u8 0,.int .u8 0,.int .i64 0,.int .u8 0,.int .u8 0,.int .u8 0,.int .u8 0,.int .i64 0,.int .i64 0,.string ⟨#[]⟩] then (K (upd (w8 (w8 e 10 (sR 10 0) 5 (sP x5) 82 (sP x5) 83 (sR 10 1) 85 (sR 10 3) 88 (sR 10 2) 89 (sV (.int .u8 i2)) 11 (sR 11 0)) 84 (sV (.int .u8 i4)) 86 (sI i6) 87 (sA l9) 90 (sA l12) 91 (sV (.tuple ⟨[(.agg ⟨l17⟩),(.int .i64 i18)]⟩)) 81 (sV (.tuple ⟨[(.agg ⟨l17⟩),(.int .i64 i18)]⟩)) 92 (sA l17) 93 (sI i18)) 12 (sI i18)) (w3 V0 10 (59,k10) 11 (62,[.int .i64 0,.int .u8 0,.int .u8 0,.int .u8 0,.int .u8 0,.int .i64 0,.int .u8 0,.int .u8 0,.int .u8 0,.int .u8 0,.int .i64 0,.int .i64 0,.string ⟨#[]⟩]) 11 (62,(splice [.int .i64 0,.int .u8 0,.int .u8 0,.int .u8 0,.int .u8 0,.int .i64 0,.int .u8 0,.int .u8 0,.int .u8 0,.int .u8 0,.int .i64 0,.int .i64 0,.string ⟨#[]⟩] 0 l17))) h14) else False) else False) else False):= by kernel_rfl
theorem F5_r29 {e:Env} {x5:OA} {k10:List Value} {hp:HP} {K:Env→PV→HP→Prop}:RW Tryd.prog 164 [10,11,42,47,49,52,55,57,66,68,71,74,76,83,85,88,99,104,106,108,114,116,123,128,132] (opsAt Tryd.f5 (pth 5153983)) [0,1,3,6,13,2,4,5,7,8,9,10,11,12,14,15] (w2 e 10 (sR 10 0) 5 (sP x5)) (upd V0 10 (59,k10)) hp K=
 ldV (k10)[1]? fun v1=>(intV v1 .u8 fun i2=>ldV (k10)[3]? fun v3=>intV v3 .i64 fun i4=>CF Tryd.prog 34 [(.int .u8 i2),(.int .i64 i4)] hp fun u5 h6=>aggV u5 fun l7=>ldV (k10)[2]? fun v8=>intV v8 .u8 fun i9=>CF Tryd.prog 34 [(.int .u8 i9),(.int .i64 9)] h6 fun u10 h11=>aggV u10 fun l12=>CF Tryd.prog 35 [(.pointer x5),(.agg ⟨l7⟩),(.agg ⟨l12⟩)] h11 fun u13 h14=>tup2V u13 fun u15 u16=>aggV u15 fun l17=>intV u16 .i64 fun i18=>if List.length l17=13 then (if List.all l17 one=true then (if 0+List.length l17≤List.length [(Value.int .i64 0),.int .u8 0,.int .u8 0,.int .u8 0,.int .u8 0,.int .i64 0,.int .u8 0,.int .u8 0,.int .u8 0,.int .u8 0,.int .i64 0,.int .i64 0,.string ⟨#[]⟩] then (K (upd (w8 (w8 e 10 (sR 10 0) 5 (sP x5) 82 (sP x5) 83 (sR 10 1) 85 (sR 10 3) 88 (sR 10 2) 11 (sR 11 0) 84 (sV (.int .u8 i2))) 86 (sI i4) 87 (sA l7) 89 (sV (.int .u8 i9)) 90 (sA l12) 91 (sV (.tuple ⟨[(.agg ⟨l17⟩),(.int .i64 i18)]⟩)) 81 (sV (.tuple ⟨[(.agg ⟨l17⟩),(.int .i64 i18)]⟩)) 92 (sA l17) 93 (sI i18)) 12 (sI i18)) (w3 V0 10 (59,k10) 11 (62,[.int .i64 0,.int .u8 0,.int .u8 0,.int .u8 0,.int .u8 0,.int .i64 0,.int .u8 0,.int .u8 0,.int .u8 0,.int .u8 0,.int .i64 0,.int .i64 0,.string ⟨#[]⟩]) 11 (62,(splice [.int .i64 0,.int .u8 0,.int .u8 0,.int .u8 0,.int .u8 0,.int .i64 0,.int .u8 0,.int .u8 0,.int .u8 0,.int .u8 0,.int .i64 0,.int .i64 0,.string ⟨#[]⟩] 0 l17))) h14) else False) else False) else False):= by kernel_rfl
theorem F5_r30:R5 6202559 2 (upd e 43 (sV (.int .u8 x43))) (upd V0 10 (59,k10)) hp K=
 K (w3 e 43 (sV (.int .u8 x43)) 126 (sB ((x43==2))) 125 (sB ((x43==2)))) (upd V0 10 (59,k10)) hp:= by kernel_rfl
theorem F5_r31 (h:E=upd (w2 e 10 (sR 10 0) 7 (sV (.map x7))) 5 (sP x5)):R5 20882623 9 E (upd V0 10 (59,k10)) hp K=
 ldV (k10)[4]? fun v1=>(intV v1 .i64 fun i2=>CF Tryd.prog 37 [(.pointer x5),(.int .i64 i2)] hp fun u3 h4=>slcV u3 fun a5 n6 c7=>ldV (k10)[4]? fun v8=>intV v8 .i64 fun i9=>CF Tryd.prog 36 [(.slice a5 n6 c7),(.map x7),(.int .i64 i9)] h4 fun u10 h11=>boolV u10 fun q12=>K (upd (w8 E 127 (sP x5) 128 (sR 10 4) 129 (sI i2) 130 (sS a5 n6 c7) 131 (sV (.map x7)) 132 (sR 10 4) 133 (sI i9) 134 (sB q12)) 135 (sB ((!q12)))) (upd V0 10 (59,k10)) h11):= by subst h; kernel_rfl
theorem F5_r32:R5 79602879 1 e V0 hp K=
 K (upd e 4 (sB false)) V0 hp:= by kernel_rfl
def F5_l4 (x0:Int) (x1a:OA) (x1n x1c:Nat) (x5:OA) (x7:Option Nat) (K:Kh) (I4:(Int × Int)→HP→Prop) (x8 x9:Int) (hp:HP):Prop:=
  (ite2 (decide (x9<x1n)) ((0≤x9)∧(x9<x1n)∧(ptrN x1a fun b27 o28=>ldL (HP.cellN hp b27 (o28+Int.toNat x9*6) 6) fun l29=>if List.length l29=6 then (if List.all l29 one=true then (if 0+List.length l29≤List.length [(Value.int .u8 0),.int .u8 0,.int .u8 0,.int .i64 0,.int .i64 0,.string ⟨#[]⟩] then (ldV ((splice [.int .u8 0,.int .u8 0,.int .u8 0,.int .i64 0,.int .i64 0,.string ⟨#[]⟩] 0 l29))[0]? fun v37=>intV v37 .u8 fun i38=>ite2 (i38==0) (ldV ((splice [.int .u8 0,.int .u8 0,.int .u8 0,.int .i64 0,.int .i64 0,.string ⟨#[]⟩] 0 l29))[1]? fun v39=>intV v39 .u8 fun i40=>ldV ((splice [.int .u8 0,.int .u8 0,.int .u8 0,.int .i64 0,.int .i64 0,.string ⟨#[]⟩] 0 l29))[3]? fun v41=>intV v41 .i64 fun i42=>CF Tryd.prog 34 [(.int .u8 i40),(.int .i64 i42)] hp fun u43 h44=>aggV u43 fun l45=>ldV ((splice [.int .u8 0,.int .u8 0,.int .u8 0,.int .i64 0,.int .i64 0,.string ⟨#[]⟩] 0 l29))[2]? fun v46=>intV v46 .u8 fun i47=>CF Tryd.prog 34 [(.int .u8 i47),(.int .i64 9)] h44 fun u48 h49=>aggV u48 fun l50=>ldV ((splice [.int .u8 0,.int .u8 0,.int .u8 0,.int .i64 0,.int .i64 0,.string ⟨#[]⟩] 0 l29))[4]? fun v51=>intV v51 .i64 fun i52=>ldV ((splice [.int .u8 0,.int .u8 0,.int .u8 0,.int .i64 0,.int .i64 0,.string ⟨#[]⟩] 0 l29))[5]? fun v53=>strV v53 fun s54=>CF Tryd.prog 33 [(.pointer x5),(.agg ⟨l45⟩),(.agg ⟨l50⟩),(.int .i64 i52),(.string s54)] h49 fun u55 h56=>intV u55 .i64 fun i57=>ite2 (i57==0) (ldV ((splice [.int .u8 0,.int .u8 0,.int .u8 0,.int .i64 0,.int .i64 0,.string ⟨#[]⟩] 0 l29))[1]? fun v58=>intV v58 .u8 fun i59=>ldV ((splice [.int .u8 0,.int .u8 0,.int .u8 0,.int .i64 0,.int .i64 0,.string ⟨#[]⟩] 0 l29))[3]? fun v60=>intV v60 .i64 fun i61=>CF Tryd.prog 34 [(.int .u8 i59),(.int .i64 i61)] h56 fun u62 h63=>aggV u62 fun l64=>ldV ((splice [.int .u8 0,.int .u8 0,.int .u8 0,.int .i64 0,.int .i64 0,.string ⟨#[]⟩] 0 l29))[2]? fun v65=>intV v65 .u8 fun i66=>CF Tryd.prog 34 [(.int .u8 i66),(.int .i64 9)] h63 fun u67 h68=>aggV u67 fun l69=>ldV ((splice [.int .u8 0,.int .u8 0,.int .u8 0,.int .i64 0,.int .i64 0,.string ⟨#[]⟩] 0 l29))[4]? fun v70=>intV v70 .i64 fun i71=>ldV ((splice [.int .u8 0,.int .u8 0,.int .u8 0,.int .i64 0,.int .i64 0,.string ⟨#[]⟩] 0 l29))[5]? fun v72=>strV v72 fun s73=>if List.length l64=5 then (if List.length l69=5 then (opS Tryd.prog (Instr.mapUpdate 57 (.map x7) (.int .i64 (IntKind.wrap .i64 (x8+1))) (.agg ⟨(List.set (List.set (splice (splice [(.int .i64 (IntKind.wrap .i64 (x8+1))),.int .u8 0,.int .u8 0,.int .u8 0,.int .u8 0,.int .i64 0,.int .u8 0,.int .u8 0,.int .u8 0,.int .u8 0,.int .i64 0,.int .i64 0,.string ⟨#[]⟩] 1 l64) 6 l69) 11 (.int .i64 i71)) 12 (.string s73))⟩)) h68 fun u74 h75=>F5_j5 x0 x1a x1n x1c x5 x7 (IntKind.wrap .i64 (x8+1)) x9 h75 I4 K) else False) else False) (F5_j5 x0 x1a x1n x1c x5 x7 x8 x9 h56 I4 K)) (ite2 (i38==1) ((ldV ((splice [.int .u8 0,.int .u8 0,.int .u8 0,.int .i64 0,.int .i64 0,.string ⟨#[]⟩] 0 l29))[1]? fun v102=>intV v102 .u8 fun i103=>ldV ((splice [.int .u8 0,.int .u8 0,.int .u8 0,.int .i64 0,.int .i64 0,.string ⟨#[]⟩] 0 l29))[3]? fun v104=>intV v104 .i64 fun i105=>CF Tryd.prog 34 [(.int .u8 i103),(.int .i64 i105)] hp fun u106 h107=>aggV u106 fun l108=>ldV ((splice [.int .u8 0,.int .u8 0,.int .u8 0,.int .i64 0,.int .i64 0,.string ⟨#[]⟩] 0 l29))[2]? fun v109=>intV v109 .u8 fun i110=>CF Tryd.prog 34 [(.int .u8 i110),(.int .i64 9)] h107 fun u111 h112=>aggV u111 fun l113=>CF Tryd.prog 35 [(.pointer x5),(.agg ⟨l108⟩),(.agg ⟨l113⟩)] h112 fun u114 h115=>tup2V u114 fun u116 u117=>aggV u116 fun l118=>intV u117 .i64 fun i119=>if List.length l118=13 then (if List.all l118 one=true then (if 0+List.length l118≤List.length [(Value.int .i64 0),.int .u8 0,.int .u8 0,.int .u8 0,.int .u8 0,.int .i64 0,.int .u8 0,.int .u8 0,.int .u8 0,.int .u8 0,.int .i64 0,.int .i64 0,.string ⟨#[]⟩] then (F5_j7 x0 x1a x1n x1c x5 x7 x8 x9 i119 (splice [.int .u8 0,.int .u8 0,.int .u8 0,.int .i64 0,.int .i64 0,.string ⟨#[]⟩] 0 l29) (splice [.int .i64 0,.int .u8 0,.int .u8 0,.int .u8 0,.int .u8 0,.int .i64 0,.int .u8 0,.int .u8 0,.int .u8 0,.int .u8 0,.int .i64 0,.int .i64 0,.string ⟨#[]⟩] 0 l118) h115 I4 K) else False) else False) else False)∧(ldV ((splice [.int .u8 0,.int .u8 0,.int .u8 0,.int .i64 0,.int .i64 0,.string ⟨#[]⟩] 0 l29))[1]? fun v120=>intV v120 .u8 fun i121=>ldV ((splice [.int .u8 0,.int .u8 0,.int .u8 0,.int .i64 0,.int .i64 0,.string ⟨#[]⟩] 0 l29))[3]? fun v122=>intV v122 .i64 fun i123=>CF Tryd.prog 34 [(.int .u8 i121),(.int .i64 i123)] hp fun u124 h125=>aggV u124 fun l126=>ldV ((splice [.int .u8 0,.int .u8 0,.int .u8 0,.int .i64 0,.int .i64 0,.string ⟨#[]⟩] 0 l29))[2]? fun v127=>intV v127 .u8 fun i128=>CF Tryd.prog 34 [(.int .u8 i128),(.int .i64 9)] h125 fun u129 h130=>aggV u129 fun l131=>CF Tryd.prog 35 [(.pointer x5),(.agg ⟨l126⟩),(.agg ⟨l131⟩)] h130 fun u132 h133=>tup2V u132 fun u134 u135=>aggV u134 fun l136=>intV u135 .i64 fun i137=>if List.length l136=13 then (if List.all l136 one=true then (if 0+List.length l136≤List.length [(Value.int .i64 0),.int .u8 0,.int .u8 0,.int .u8 0,.int .u8 0,.int .i64 0,.int .u8 0,.int .u8 0,.int .u8 0,.int .u8 0,.int .i64 0,.int .i64 0,.string ⟨#[]⟩] then (F5_j7 x0 x1a x1n x1c x5 x7 x8 x9 i137 (splice [.int .u8 0,.int .u8 0,.int .u8 0,.int .i64 0,.int .i64 0,.string ⟨#[]⟩] 0 l29) (splice [.int .i64 0,.int .u8 0,.int .u8 0,.int .u8 0,.int .u8 0,.int .i64 0,.int .u8 0,.int .u8 0,.int .u8 0,.int .u8 0,.int .i64 0,.int .i64 0,.string ⟨#[]⟩] 0 l136) h133 I4 K) else False) else False) else False)∧(ldV ((splice [.int .u8 0,.int .u8 0,.int .u8 0,.int .i64 0,.int .i64 0,.string ⟨#[]⟩] 0 l29))[1]? fun v138=>intV v138 .u8 fun i139=>ldV ((splice [.int .u8 0,.int .u8 0,.int .u8 0,.int .i64 0,.int .i64 0,.string ⟨#[]⟩] 0 l29))[2]? fun v140=>intV v140 .u8 fun i141=>ldV ((splice [.int .u8 0,.int .u8 0,.int .u8 0,.int .i64 0,.int .i64 0,.string ⟨#[]⟩] 0 l29))[3]? fun v142=>intV v142 .i64 fun i143=>CF Tryd.prog 34 [(.int .u8 i139),(.int .i64 i143)] hp fun u144 h145=>aggV u144 fun l146=>CF Tryd.prog 34 [(.int .u8 i141),(.int .i64 9)] h145 fun u147 h148=>aggV u147 fun l149=>CF Tryd.prog 35 [(.pointer x5),(.agg ⟨l146⟩),(.agg ⟨l149⟩)] h148 fun u150 h151=>tup2V u150 fun u152 u153=>aggV u152 fun l154=>intV u153 .i64 fun i155=>if List.length l154=13 then (if List.all l154 one=true then (if 0+List.length l154≤List.length [(Value.int .i64 0),.int .u8 0,.int .u8 0,.int .u8 0,.int .u8 0,.int .i64 0,.int .u8 0,.int .u8 0,.int .u8 0,.int .u8 0,.int .i64 0,.int .i64 0,.string ⟨#[]⟩] then (F5_j7 x0 x1a x1n x1c x5 x7 x8 x9 i155 (splice [.int .u8 0,.int .u8 0,.int .u8 0,.int .i64 0,.int .i64 0,.string ⟨#[]⟩] 0 l29) (splice [.int .i64 0,.int .u8 0,.int .u8 0,.int .u8 0,.int .u8 0,.int .i64 0,.int .u8 0,.int .u8 0,.int .u8 0,.int .u8 0,.int .i64 0,.int .i64 0,.string ⟨#[]⟩] 0 l154) h151 I4 K) else False) else False) else False)∧(ldV ((splice [.int .u8 0,.int .u8 0,.int .u8 0,.int .i64 0,.int .i64 0,.string ⟨#[]⟩] 0 l29))[1]? fun v156=>intV v156 .u8 fun i157=>ldV ((splice [.int .u8 0,.int .u8 0,.int .u8 0,.int .i64 0,.int .i64 0,.string ⟨#[]⟩] 0 l29))[3]? fun v158=>intV v158 .i64 fun i159=>CF Tryd.prog 34 [(.int .u8 i157),(.int .i64 i159)] hp fun u160 h161=>aggV u160 fun l162=>ldV ((splice [.int .u8 0,.int .u8 0,.int .u8 0,.int .i64 0,.int .i64 0,.string ⟨#[]⟩] 0 l29))[2]? fun v163=>intV v163 .u8 fun i164=>CF Tryd.prog 34 [(.int .u8 i164),(.int .i64 9)] h161 fun u165 h166=>aggV u165 fun l167=>CF Tryd.prog 35 [(.pointer x5),(.agg ⟨l162⟩),(.agg ⟨l167⟩)] h166 fun u168 h169=>tup2V u168 fun u170 u171=>aggV u170 fun l172=>intV u171 .i64 fun i173=>if List.length l172=13 then (if List.all l172 one=true then (if 0+List.length l172≤List.length [(Value.int .i64 0),.int .u8 0,.int .u8 0,.int .u8 0,.int .u8 0,.int .i64 0,.int .u8 0,.int .u8 0,.int .u8 0,.int .u8 0,.int .i64 0,.int .i64 0,.string ⟨#[]⟩] then (F5_j7 x0 x1a x1n x1c x5 x7 x8 x9 i173 (splice [.int .u8 0,.int .u8 0,.int .u8 0,.int .i64 0,.int .i64 0,.string ⟨#[]⟩] 0 l29) (splice [.int .i64 0,.int .u8 0,.int .u8 0,.int .u8 0,.int .u8 0,.int .i64 0,.int .u8 0,.int .u8 0,.int .u8 0,.int .u8 0,.int .i64 0,.int .i64 0,.string ⟨#[]⟩] 0 l172) h169 I4 K) else False) else False) else False)∧(ldV ((splice [.int .u8 0,.int .u8 0,.int .u8 0,.int .i64 0,.int .i64 0,.string ⟨#[]⟩] 0 l29))[3]? fun v174=>intV v174 .i64 fun i175=>ldV ((splice [.int .u8 0,.int .u8 0,.int .u8 0,.int .i64 0,.int .i64 0,.string ⟨#[]⟩] 0 l29))[2]? fun v176=>intV v176 .u8 fun i177=>ldV ((splice [.int .u8 0,.int .u8 0,.int .u8 0,.int .i64 0,.int .i64 0,.string ⟨#[]⟩] 0 l29))[1]? fun v178=>intV v178 .u8 fun i179=>CF Tryd.prog 34 [(.int .u8 i179),(.int .i64 i175)] hp fun u180 h181=>aggV u180 fun l182=>CF Tryd.prog 34 [(.int .u8 i177),(.int .i64 9)] h181 fun u183 h184=>aggV u183 fun l185=>CF Tryd.prog 35 [(.pointer x5),(.agg ⟨l182⟩),(.agg ⟨l185⟩)] h184 fun u186 h187=>tup2V u186 fun u188 u189=>aggV u188 fun l190=>intV u189 .i64 fun i191=>if List.length l190=13 then (if List.all l190 one=true then (if 0+List.length l190≤List.length [(Value.int .i64 0),.int .u8 0,.int .u8 0,.int .u8 0,.int .u8 0,.int .i64 0,.int .u8 0,.int .u8 0,.int .u8 0,.int .u8 0,.int .i64 0,.int .i64 0,.string ⟨#[]⟩] then (F5_j7 x0 x1a x1n x1c x5 x7 x8 x9 i191 (splice [.int .u8 0,.int .u8 0,.int .u8 0,.int .i64 0,.int .i64 0,.string ⟨#[]⟩] 0 l29) (splice [.int .i64 0,.int .u8 0,.int .u8 0,.int .u8 0,.int .u8 0,.int .i64 0,.int .u8 0,.int .u8 0,.int .u8 0,.int .u8 0,.int .i64 0,.int .i64 0,.string ⟨#[]⟩] 0 l190) h187 I4 K) else False) else False) else False)∧(ldV ((splice [.int .u8 0,.int .u8 0,.int .u8 0,.int .i64 0,.int .i64 0,.string ⟨#[]⟩] 0 l29))[3]? fun v192=>intV v192 .i64 fun i193=>ldV ((splice [.int .u8 0,.int .u8 0,.int .u8 0,.int .i64 0,.int .i64 0,.string ⟨#[]⟩] 0 l29))[1]? fun v194=>intV v194 .u8 fun i195=>CF Tryd.prog 34 [(.int .u8 i195),(.int .i64 i193)] hp fun u196 h197=>aggV u196 fun l198=>ldV ((splice [.int .u8 0,.int .u8 0,.int .u8 0,.int .i64 0,.int .i64 0,.string ⟨#[]⟩] 0 l29))[2]? fun v199=>intV v199 .u8 fun i200=>CF Tryd.prog 34 [(.int .u8 i200),(.int .i64 9)] h197 fun u201 h202=>aggV u201 fun l203=>CF Tryd.prog 35 [(.pointer x5),(.agg ⟨l198⟩),(.agg ⟨l203⟩)] h202 fun u204 h205=>tup2V u204 fun u206 u207=>aggV u206 fun l208=>intV u207 .i64 fun i209=>if List.length l208=13 then (if List.all l208 one=true then (if 0+List.length l208≤List.length [(Value.int .i64 0),.int .u8 0,.int .u8 0,.int .u8 0,.int .u8 0,.int .i64 0,.int .u8 0,.int .u8 0,.int .u8 0,.int .u8 0,.int .i64 0,.int .i64 0,.string ⟨#[]⟩] then (F5_j7 x0 x1a x1n x1c x5 x7 x8 x9 i209 (splice [.int .u8 0,.int .u8 0,.int .u8 0,.int .i64 0,.int .i64 0,.string ⟨#[]⟩] 0 l29) (splice [.int .i64 0,.int .u8 0,.int .u8 0,.int .u8 0,.int .u8 0,.int .i64 0,.int .u8 0,.int .u8 0,.int .u8 0,.int .u8 0,.int .i64 0,.int .i64 0,.string ⟨#[]⟩] 0 l208) h205 I4 K) else False) else False) else False)∧(ldV ((splice [.int .u8 0,.int .u8 0,.int .u8 0,.int .i64 0,.int .i64 0,.string ⟨#[]⟩] 0 l29))[2]? fun v210=>intV v210 .u8 fun i211=>ldV ((splice [.int .u8 0,.int .u8 0,.int .u8 0,.int .i64 0,.int .i64 0,.string ⟨#[]⟩] 0 l29))[1]? fun v212=>intV v212 .u8 fun i213=>ldV ((splice [.int .u8 0,.int .u8 0,.int .u8 0,.int .i64 0,.int .i64 0,.string ⟨#[]⟩] 0 l29))[3]? fun v214=>intV v214 .i64 fun i215=>CF Tryd.prog 34 [(.int .u8 i213),(.int .i64 i215)] hp fun u216 h217=>aggV u216 fun l218=>CF Tryd.prog 34 [(.int .u8 i211),(.int .i64 9)] h217 fun u219 h220=>aggV u219 fun l221=>CF Tryd.prog 35 [(.pointer x5),(.agg ⟨l218⟩),(.agg ⟨l221⟩)] h220 fun u222 h223=>tup2V u222 fun u224 u225=>aggV u224 fun l226=>intV u225 .i64 fun i227=>if List.length l226=13 then (if List.all l226 one=true then (if 0+List.length l226≤List.length [(Value.int .i64 0),.int .u8 0,.int .u8 0,.int .u8 0,.int .u8 0,.int .i64 0,.int .u8 0,.int .u8 0,.int .u8 0,.int .u8 0,.int .i64 0,.int .i64 0,.string ⟨#[]⟩] then (F5_j7 x0 x1a x1n x1c x5 x7 x8 x9 i227 (splice [.int .u8 0,.int .u8 0,.int .u8 0,.int .i64 0,.int .i64 0,.string ⟨#[]⟩] 0 l29) (splice [.int .i64 0,.int .u8 0,.int .u8 0,.int .u8 0,.int .u8 0,.int .i64 0,.int .u8 0,.int .u8 0,.int .u8 0,.int .u8 0,.int .i64 0,.int .i64 0,.string ⟨#[]⟩] 0 l226) h223 I4 K) else False) else False) else False)∧(ldV ((splice [.int .u8 0,.int .u8 0,.int .u8 0,.int .i64 0,.int .i64 0,.string ⟨#[]⟩] 0 l29))[1]? fun v228=>intV v228 .u8 fun i229=>ldV ((splice [.int .u8 0,.int .u8 0,.int .u8 0,.int .i64 0,.int .i64 0,.string ⟨#[]⟩] 0 l29))[3]? fun v230=>intV v230 .i64 fun i231=>CF Tryd.prog 34 [(.int .u8 i229),(.int .i64 i231)] hp fun u232 h233=>aggV u232 fun l234=>ldV ((splice [.int .u8 0,.int .u8 0,.int .u8 0,.int .i64 0,.int .i64 0,.string ⟨#[]⟩] 0 l29))[2]? fun v235=>intV v235 .u8 fun i236=>CF Tryd.prog 34 [(.int .u8 i236),(.int .i64 9)] h233 fun u237 h238=>aggV u237 fun l239=>CF Tryd.prog 35 [(.pointer x5),(.agg ⟨l234⟩),(.agg ⟨l239⟩)] h238 fun u240 h241=>tup2V u240 fun u242 u243=>aggV u242 fun l244=>intV u243 .i64 fun i245=>if List.length l244=13 then (if List.all l244 one=true then (if 0+List.length l244≤List.length [(Value.int .i64 0),.int .u8 0,.int .u8 0,.int .u8 0,.int .u8 0,.int .i64 0,.int .u8 0,.int .u8 0,.int .u8 0,.int .u8 0,.int .i64 0,.int .i64 0,.string ⟨#[]⟩] then (F5_j7 x0 x1a x1n x1c x5 x7 x8 x9 i245 (splice [.int .u8 0,.int .u8 0,.int .u8 0,.int .i64 0,.int .i64 0,.string ⟨#[]⟩] 0 l29) (splice [.int .i64 0,.int .u8 0,.int .u8 0,.int .u8 0,.int .u8 0,.int .i64 0,.int .u8 0,.int .u8 0,.int .u8 0,.int .u8 0,.int .i64 0,.int .i64 0,.string ⟨#[]⟩] 0 l244) h241 I4 K) else False) else False) else False)) (ite2 (i38==2) (ldV ((splice [.int .u8 0,.int .u8 0,.int .u8 0,.int .i64 0,.int .i64 0,.string ⟨#[]⟩] 0 l29))[4]? fun v246=>intV v246 .i64 fun i247=>CF Tryd.prog 37 [(.pointer x5),(.int .i64 i247)] hp fun u248 h249=>slcV u248 fun a250 n251 c252=>ldV ((splice [.int .u8 0,.int .u8 0,.int .u8 0,.int .i64 0,.int .i64 0,.string ⟨#[]⟩] 0 l29))[4]? fun v253=>intV v253 .i64 fun i254=>CF Tryd.prog 36 [(.slice a250 n251 c252),(.map x7),(.int .i64 i254)] h249 fun u255 h256=>boolV u255 fun q257=>ite2 (!q257) (K (.bool false) h256) (F5_j5 x0 x1a x1n x1c x5 x7 x8 x9 h256 I4 K)) (F5_j5 x0 x1a x1n x1c x5 x7 x8 x9 hp I4 K)))) else False) else False) else False)) (F5_j2 x5 x7 hp  K))
def F5_j3 (x0:Int) (x1a:OA) (x1n x1c:Nat) (x5:OA) (x7:Option Nat) (x8 x9:Int) (hp:HP) (K:Kh):Prop:=
  (LoopP (σ:=Int × Int) (fun I s hp=>F5_l4 x0 x1a x1n x1c x5 x7  K I s.1 s.2 hp) (x8,x9) hp)
theorem F5_r33:R5 319 1 e V0 hp K=
 K (upd e 9 (sI 0)) V0 hp:= by kernel_rfl
def F5_j1 (x0:Int) (x1a:OA) (x1n x1c:Nat) (x22:Bool) (hp:HP) (K:Kh):Prop:=
  (ite2 x22 (CF Tryd.prog 31 [] hp fun u1 h2=>boolV u1 fun q3=>K (.bool q3) h2) (CF Tryd.prog 32 [(.int .i64 x0)] hp fun u4 h5=>tup2V u4 fun u6 u7=>ptrV u6 fun p8=>intV u7 .i64 fun i9=>ite2 (i9 != 0) (K (.bool false) h5) (∀ b10:Nat,h5 b10=.none→(F5_j3 x0 x1a x1n x1c p8 (some b10) 0 0 (HP.set h5 b10 (.obj (.map #[] 0)))  K))))
theorem F5_r34 (h:E=upd (upd e 1 (sS x1a x1n x1c)) 0 (sI x0)):R5 9 10 E V0 hp K=
 ite2 (decide (x0<1)) (K (w2 (w8 E 13 (sI x0) 14 (sB (decide (x0<1))) 15 (sB true) 16 sU 17 sU 18 (sB true) 19 (sB true) 20 sU) 21 sU 22 (sB true)) V0 hp) (ite2 (decide (x0 > 100)) (K (w2 (w8 E 13 (sI x0) 14 (sB (decide (x0<1))) 15 (sB false) 16 (sI x0) 17 (sB (decide (x0 > 100))) 18 (sB (decide (x0 > 100))) 19 (sB true) 20 sU) 21 sU 22 (sB true)) V0 hp) (CF Tryd.prog 30 [(.slice x1a x1n x1c)] hp fun u1 h2=>boolV u1 fun q3=>K (w2 (w8 E 13 (sI x0) 14 (sB (decide (x0<1))) 15 (sB false) 16 (sI x0) 17 (sB (decide (x0 > 100))) 18 (sB (decide (x0 > 100))) 19 (sB false) 20 (sS x1a x1n x1c)) 21 (sB q3) 22 (sB q3)) V0 h2)):= by subst h; kernel_rfl
def F5 (x0:Int) (x1a:OA) (x1n x1c:Nat) (hp:HP) (K:Kh):Prop:=
  (ite2 (decide (x0<1)) (F5_j1 x0 x1a x1n x1c true hp  K) (ite2 (decide (x0 > 100)) (F5_j1 x0 x1a x1n x1c true hp  K) (CF Tryd.prog 30 [(.slice x1a x1n x1c)] hp fun u258 h259=>boolV u258 fun q260=>F5_j1 x0 x1a x1n x1c q260 h259  K)))
noncomputable abbrev o5 (k n:Nat):Code:=.region k (opsAt Tryd.f5 (pth n)) false
noncomputable def F5_code:Code:=(.seq (o5 0 2) (.seq (.seq (o5 1 9) (.cond (.tmp 22) (.seq (o5 2 37) .ret) .skip)) (.seq (o5 3 11) (.seq (.seq (o5 4 39) (.cond (.tmp 30) (.seq (o5 5 151) .ret) .skip)) (.seq (o5 6 47) (.seq (o5 7 95) (.seq (.seq (o5 8 319) (.block 0 (.loop (.seq (.seq (o5 9 4287) (.cond (.tmp 35) .skip (.exit 0))) (.seq (.block 1 (.seq (o5 11 17599) (.seq (.seq (o5 12 74943) (.block 2 (.seq (o5 13 304319) (.cond (.tmp 44) (.seq (.region 14 (opsAt Tryd.f5 (pth 1221823)) true) (.cond (.tmp 60) (.seq (o5 15 4891839) (.region 16 (opsAt Tryd.f5 (pth 6988991)) true)) .skip)) (.seq (o5 17 1483967) (.cond (.tmp 79) (.seq (.region 18 (opsAt Tryd.f5 (pth 5153983)) true) (.seq (.seq (.region 19 (opsAt Tryd.f5 (pth 19834047)) true) (.cond (.tmp 121) (.seq (o5 20 78554303) .ret) .skip)) (o5 21 15639743))) (.seq (o5 22 6202559) (.cond (.tmp 125) (.seq (.region 23 (opsAt Tryd.f5 (pth 20882623)) true) (.cond (.tmp 135) (.seq (o5 24 79602879) .ret) .skip)) .skip)))))))) (.seq (o5 25 91327) (.cond (.tmp 146) (.seq (o5 26 320703) .ret) .skip))))) (o5 10 7359)))))) (.seq (o5 27 383) .ret))))))))
theorem F5_body:Tryd.f5.body=some F5_code:=by kernel_rfl
theorem F5_ok (x0:Int) (x1a:OA) (x1n x1c:Nat) (hp:HP) (K:Kh) (h:F5 x0 x1a x1n x1c hp K):CF Tryd.prog 5 [(.int .i64 x0),(.slice x1a x1n x1c)] hp K:=by
 refine .inl ⟨by kernel_rfl,AC.intro (N:=164) Tryd.func5 F5_body rfl (Nat.le_of_ble_eq_true rfl) ?_⟩
 unfold F5 at h
 refine Ar F5_r0 ?_ (r2 0 1 Rn) (z2 Sn) Sn
 refine Aq (As (fun env pv hp=>∃ x0 x1a x1n x1c x22,Sub (w3 E0 22 (sB x22) 1 (sS x1a x1n x1c) 0 (sI x0)) env∧Sub V0 pv∧F5_j1 x0 x1a x1n x1c x22 hp  K) ?_ ?_)
 ·refine Ag (F5_r34 rfl) ?_ (r2 0 1 Rn) (z2 Sn) Sn
  refine mt h (fun h=>?_) (fun h=>?_)
  ·exact ⟨_,_,_,_,_,(z3 Sn),Sn,h⟩
  ·refine mt h (fun h=>?_) (fun h=>?_)
   ·exact ⟨_,_,_,_,_,(z3 Sn),Sn,h⟩
   ·refine mC h fun u258 h259 h=>mB h fun q260 h=>?_
    exact ⟨_,_,_,_,_,(z3 Sn),Sn,h⟩
 ·rintro env pv hp ⟨x0,x1a,x1n,x1c,x22,he,hv,h⟩
  refine Ae ?_ (r3 0 1 22 Rn) he hv
  unfold F5_j1 at h
  refine Ac h rfl (fun h=>?_) (fun h=>?_)
  ·refine Ar F5_r1 ?_ Rn Sn Sn
   refine mC h fun u1 h2 h=>mB h fun q3 h=>?_
   refine AWP.ret ?_
   exact h
  ·refine AWP.skip (Ar F5_r2 ?_ (r2 0 1 Rn) (z2 Sn) Sn)
   refine mC h fun u4 h5 h=>mT h fun u6 u7 h=>mP h fun p8 h=>mI h fun i9 h=>?_
   refine Aq (Ar F5_r3 ?_ (r4 6 0 1 5 Rn) (z4 Sn) Sn)
   refine Ac h rfl (fun h=>?_) (fun h=>?_)
   ·refine Ar F5_r4 ?_ Rn Sn Sn
    refine AWP.ret ?_
    exact h
   ·refine AWP.skip (Ar F5_r5 ?_ (r3 0 1 5 Rn) (z3 Sn) Sn)
    refine fun b10 hb_b_10=>?_
    replace h:=h b10 hb_b_10
    refine Ar F5_r6 ?_ (r4 0 1 5 7 Rn) (z4 Sn) Sn
    refine As (fun env pv hp=>∃ x5 x7,Sub (w2 E0 7 (sV (.map x7)) 5 (sP x5)) env∧Sub V0 pv∧F5_j2 x5 x7 hp  K) ?_ ?_
    ·refine As (fun env pv hp=>∃ x0 x1a x1n x1c x5 x7 x8 x9,Sub (w6 E0 9 (sI x9) 8 (sI x8) 7 (sV (.map x7)) 5 (sP x5) 1 (sS x1a x1n x1c) 0 (sI x0)) env∧Sub V0 pv∧F5_j3 x0 x1a x1n x1c x5 x7 x8 x9 hp  K) ?_ ?_
     ·refine Ag F5_r33 ?_ (r5 0 1 5 7 8 Rn) (z5 Sn) Sn
      exact ⟨_,_,_,_,_,_,_,_,(z6 Sn),Sn,h⟩
     ·rintro env pv hp ⟨x0,x1a,x1n,x1c,x5,x7,x8,x9,he,hv,h⟩
      refine Ae ?_ (r6 0 1 5 7 8 9 Rn) he hv
      unfold F5_j3 at h
      refine AWP.block (AWP.loop (σ:=Int × Int) _ (fun s=>w6 E0 9 (sI (s.2)) 8 (sI (s.1)) 7 (sV (.map x7)) 5 (sP x5) 1 (sS x1a x1n x1c) 0 (sI x0)) (fun s=>V0) (x8,x9) h (fun s=>r6 0 1 5 7 8 9 Rn) (z6 Sn) Sn ?_)
      intro I4 s hp h
      obtain ⟨x8,x9⟩:=s
      replace h:F5_l4 x0 x1a x1n x1c x5 x7  K I4 x8 x9 hp:=h
      unfold F5_l4 at h
      refine Aq (Ar F5_r8 ?_ (r6 1 9 0 5 7 8 Rn) (z6 Sn) Sn)
      refine Ac h rfl (fun h=>?_) (fun h=>?_)
      ·refine AWP.skip (Aq (AWP.block (Ar F5_r9 ?_ (r6 1 9 0 5 7 8 Rn) (z6 Sn) Sn)))
       refine ⟨h.1,h.2.1,mN h.2.2 fun b27 o28 h=>mL h fun l29 h=>mf h fun h=>mf h fun h=>mf h fun h=>?_⟩
       refine As (fun env pv hp=>∃ x8 x9,Sub (w6 E0 9 (sI x9) 8 (sI x8) 7 (sV (.map x7)) 5 (sP x5) 1 (sS x1a x1n x1c) 0 (sI x0)) env∧Sub V0 pv∧F5_j5 x0 x1a x1n x1c x5 x7 x8 x9 hp I4 K) ?_ ?_
       ·refine Ar F5_r13 ?_ (rp 10 10 0 (r6 0 1 5 7 8 9 Rn)) (z7 Sn) (z1 Sn)
        refine mV h fun v37 h=>mI h fun i38 h=>?_
        refine AWP.block (Ar F5_r14 ?_ (r7 43 0 1 5 7 8 9 (rp 10 10 0 Rn)) (z8 Sn) (z1 Sn))
        refine Ac h rfl (fun h=>?_) (fun h=>?_)
        ·refine Aq (AWP.rgnD (by kernel_rfl) (by kernel_rfl) F5_r15 ?_ (r1 5 (rp 10 10 0 (r5 0 1 7 8 9 Rn))) (z7 Sn) (z1 Sn))
         refine mV h fun v39 h=>mI h fun i40 h=>mV h fun v41 h=>mI h fun i42 h=>mC h fun u43 h44 h=>mA h fun l45 h=>mV h fun v46 h=>mI h fun i47 h=>mC h fun u48 h49 h=>mA h fun l50 h=>mV h fun v51 h=>mI h fun i52 h=>mV h fun v53 h=>ms h fun s54 h=>mC h fun u55 h56 h=>mI h fun i57 h=>?_
         refine Ac h rfl (fun h=>?_) (fun h=>?_)
         ·refine Ar F5_r16 ?_ (r6 8 0 1 5 7 9 (rp 10 10 0 Rn)) (z7 Sn) (z1 Sn)
          refine AWP.rgnD (by kernel_rfl) (by kernel_rfl) (F5_r17 rfl) ?_ (r2 7 8 (rp 10 10 0 (r4 0 1 5 9 Rn))) (z7 Sn) (z1 Sn)
          refine mV h fun v58 h=>mI h fun i59 h=>mV h fun v60 h=>mI h fun i61 h=>mC h fun u62 h63 h=>mA h fun l64 h=>mV h fun v65 h=>mI h fun i66 h=>mC h fun u67 h68 h=>mA h fun l69 h=>mV h fun v70 h=>mI h fun i71 h=>mV h fun v72 h=>ms h fun s73 h=>mf h fun h=>mf h fun h=>mO h fun u74 h75 h=>?_
          exact ⟨_,_,(z6 Sn),Sn,h⟩
         ·refine AWP.skip ?_
          exact ⟨_,_,(z6 Sn),Sn,h⟩
        ·refine Ar F5_r18 ?_ (r7 43 0 1 5 7 8 9 (rp 10 10 0 Rn)) (z8 Sn) (z1 Sn)
         refine Ac h rfl (fun h=>?_) (fun h=>?_)
         ·refine As (fun env pv hp=>∃ x8 x9 x12 k10 k11,Sub (upd (w8 E0 12 (sI x12) 11 (sR 11 0) 10 (sR 10 0) 9 (sI x9) 8 (sI x8) 7 (sV (.map x7)) 5 (sP x5) 1 (sS x1a x1n x1c)) 0 (sI x0)) env∧Sub (w2 V0 11 (62,k11) 10 (59,k10)) pv∧(F5_j7 x0 x1a x1n x1c x5 x7 x8 x9 x12 k10 k11 hp I4 K)) ?_ ?_
          ·refine AWP.rgnC (cf:=[(2,13),(4,13),(7,13)]) (c:=[([true,true,true],true,[0,1,2,3,4,5,6,7,8,9,10,11,12,13,14,15]),([true,true,false],true,[0,1,2,3,4,5,6,13,7,8,9,10,11,12,14,15]),([true,false,true],true,[0,1,2,3,6,7,13,4,5,8,9,10,11,12,14,15]),([true,false,false],true,[0,1,2,3,6,13,4,5,7,8,9,10,11,12,14,15]),([false,true,true],true,[0,1,3,4,6,7,13,2,5,8,9,10,11,12,14,15]),([false,true,false],true,[0,1,3,4,6,13,2,5,7,8,9,10,11,12,14,15]),([false,false,true],true,[0,1,3,6,7,13,2,4,5,8,9,10,11,12,14,15]),([false,false,false],true,[0,1,3,6,13,2,4,5,7,8,9,10,11,12,14,15])]) (by kernel_rfl) (by kernel_rfl) (by kernel_rfl) (by kernel_rfl) (allO_t (Eq.mpr F5_r22 ?_) (allO_t (Eq.mpr F5_r23 ?_) (allO_t (Eq.mpr F5_r24 ?_) (allO_t (Eq.mpr F5_r25 ?_) (allO_t (Eq.mpr F5_r26 ?_) (allO_t (Eq.mpr F5_r27 ?_) (allO_t (Eq.mpr F5_r28 ?_) (allO_t (Eq.mpr F5_r29 ?_) trivial)))))))) (r1 5 (rp 10 10 0 (r5 0 1 7 8 9 Rn))) (z7 Sn) (z1 Sn)
           ·replace h:=h.1
            refine mV h fun v102 h=>mI h fun i103 h=>mV h fun v104 h=>mI h fun i105 h=>mC h fun u106 h107 h=>mA h fun l108 h=>mV h fun v109 h=>mI h fun i110 h=>mC h fun u111 h112 h=>mA h fun l113 h=>mC h fun u114 h115 h=>mT h fun u116 u117 h=>mA h fun l118 h=>mI h fun i119 h=>mf h fun h=>mf h fun h=>mf h fun h=>?_
            exact ⟨_,_,_,_,_,(z1 (z8 Sn)),(z2 Sn),h⟩
           ·replace h:=h.2.1
            refine mV h fun v120 h=>mI h fun i121 h=>mV h fun v122 h=>mI h fun i123 h=>mC h fun u124 h125 h=>mA h fun l126 h=>mV h fun v127 h=>mI h fun i128 h=>mC h fun u129 h130 h=>mA h fun l131 h=>mC h fun u132 h133 h=>mT h fun u134 u135 h=>mA h fun l136 h=>mI h fun i137 h=>mf h fun h=>mf h fun h=>mf h fun h=>?_
            exact ⟨_,_,_,_,_,(z1 (z8 Sn)),(z2 Sn),h⟩
           ·replace h:=h.2.2.1
            refine mV h fun v138 h=>mI h fun i139 h=>mV h fun v140 h=>mI h fun i141 h=>mV h fun v142 h=>mI h fun i143 h=>mC h fun u144 h145 h=>mA h fun l146 h=>mC h fun u147 h148 h=>mA h fun l149 h=>mC h fun u150 h151 h=>mT h fun u152 u153 h=>mA h fun l154 h=>mI h fun i155 h=>mf h fun h=>mf h fun h=>mf h fun h=>?_
            exact ⟨_,_,_,_,_,(z1 (z8 Sn)),(z2 Sn),h⟩
           ·replace h:=h.2.2.2.1
            refine mV h fun v156 h=>mI h fun i157 h=>mV h fun v158 h=>mI h fun i159 h=>mC h fun u160 h161 h=>mA h fun l162 h=>mV h fun v163 h=>mI h fun i164 h=>mC h fun u165 h166 h=>mA h fun l167 h=>mC h fun u168 h169 h=>mT h fun u170 u171 h=>mA h fun l172 h=>mI h fun i173 h=>mf h fun h=>mf h fun h=>mf h fun h=>?_
            exact ⟨_,_,_,_,_,(z1 (z8 Sn)),(z2 Sn),h⟩
           ·replace h:=h.2.2.2.2.1
            refine mV h fun v174 h=>mI h fun i175 h=>mV h fun v176 h=>mI h fun i177 h=>mV h fun v178 h=>mI h fun i179 h=>mC h fun u180 h181 h=>mA h fun l182 h=>mC h fun u183 h184 h=>mA h fun l185 h=>mC h fun u186 h187 h=>mT h fun u188 u189 h=>mA h fun l190 h=>mI h fun i191 h=>mf h fun h=>mf h fun h=>mf h fun h=>?_
            exact ⟨_,_,_,_,_,(z1 (z8 Sn)),(z2 Sn),h⟩
           ·replace h:=h.2.2.2.2.2.1
            refine mV h fun v192 h=>mI h fun i193 h=>mV h fun v194 h=>mI h fun i195 h=>mC h fun u196 h197 h=>mA h fun l198 h=>mV h fun v199 h=>mI h fun i200 h=>mC h fun u201 h202 h=>mA h fun l203 h=>mC h fun u204 h205 h=>mT h fun u206 u207 h=>mA h fun l208 h=>mI h fun i209 h=>mf h fun h=>mf h fun h=>mf h fun h=>?_
            exact ⟨_,_,_,_,_,(z1 (z8 Sn)),(z2 Sn),h⟩
           ·replace h:=h.2.2.2.2.2.2.1
            refine mV h fun v210 h=>mI h fun i211 h=>mV h fun v212 h=>mI h fun i213 h=>mV h fun v214 h=>mI h fun i215 h=>mC h fun u216 h217 h=>mA h fun l218 h=>mC h fun u219 h220 h=>mA h fun l221 h=>mC h fun u222 h223 h=>mT h fun u224 u225 h=>mA h fun l226 h=>mI h fun i227 h=>mf h fun h=>mf h fun h=>mf h fun h=>?_
            exact ⟨_,_,_,_,_,(z1 (z8 Sn)),(z2 Sn),h⟩
           ·replace h:=h.2.2.2.2.2.2.2
            refine mV h fun v228 h=>mI h fun i229 h=>mV h fun v230 h=>mI h fun i231 h=>mC h fun u232 h233 h=>mA h fun l234 h=>mV h fun v235 h=>mI h fun i236 h=>mC h fun u237 h238 h=>mA h fun l239 h=>mC h fun u240 h241 h=>mT h fun u242 u243 h=>mA h fun l244 h=>mI h fun i245 h=>mf h fun h=>mf h fun h=>mf h fun h=>?_
            exact ⟨_,_,_,_,_,(z1 (z8 Sn)),(z2 Sn),h⟩
          ·rintro env pv hp ⟨x8,x9,x12,k10,k11,he,hv,h⟩
           refine Ae ?_ (r6 0 1 5 7 8 9 (rp 10 10 0 (rp 11 11 0 (r1 12 Rn)))) he hv
           unfold F5_j7 at h
           refine Aq (As (fun env pv hp=>∃ x8 x9 x121 k11,Sub (w8 E0 121 (sB x121) 11 (sR 11 0) 9 (sI x9) 8 (sI x8) 7 (sV (.map x7)) 5 (sP x5) 1 (sS x1a x1n x1c) 0 (sI x0)) env∧Sub (upd V0 11 (62,k11)) pv∧(F5_j8 x0 x1a x1n x1c x5 x7 x8 x9 x121 k11 hp I4 K)) ?_ ?_)
           ·refine AWP.rgnD (by kernel_rfl) (by kernel_rfl) (F5_r21 rfl) ?_ (r1 7 (rp 10 10 0 (rp 11 11 0 (r6 12 0 1 5 8 9 Rn)))) (z1 (z8 Sn)) (z2 Sn)
            refine mt h (fun h=>?_) (fun h=>?_)
            ·refine mL h fun l80 h=>mV h fun v81 h=>mI h fun i82 h=>mR h fun u83 h=>mA h fun l84 h=>mE h fun q85 h=>?_
             refine mt h (fun h=>?_) (fun h=>?_)
             ·exact ⟨_,_,_,_,(z8 Sn),(z1 Sn),h⟩
             ·refine mL h fun l86 h=>mV h fun v87 h=>mI h fun i88 h=>mV h fun v89 h=>mI h fun i90 h=>mC h fun u91 h92 h=>mA h fun l93 h=>mE h fun q94 h=>?_
              refine mt h (fun h=>?_) (fun h=>?_)
              ·exact ⟨_,_,_,_,(z8 Sn),(z1 Sn),h⟩
              ·refine mL h fun l95 h=>mV h fun v96 h=>mI h fun i97 h=>mC h fun u98 h99 h=>mA h fun l100 h=>mE h fun q101 h=>?_
               exact ⟨_,_,_,_,(z8 Sn),(z1 Sn),h⟩
            ·exact ⟨_,_,_,_,(z8 Sn),(z1 Sn),h⟩
           ·rintro env pv hp ⟨x8,x9,x121,k11,he,hv,h⟩
            refine Ae ?_ (r6 0 1 5 7 8 9 (rp 11 11 0 (r1 121 Rn))) he hv
            unfold F5_j8 at h
            refine Ac h rfl (fun h=>?_) (fun h=>?_)
            ·refine Ar F5_r19 ?_ Rn Sn Sn
             refine AWP.ret ?_
             exact h
            ·refine AWP.skip (Ag F5_r20 ?_ (r1 7 (rp 11 11 0 (r5 0 1 5 8 9 Rn))) (z7 Sn) (z1 Sn))
             refine mV h fun v76 h=>mI h fun i77 h=>mO h fun u78 h79 h=>?_
             exact ⟨_,_,(z6 Sn),Sn,h⟩
         ·refine Ar F5_r30 ?_ (r7 43 0 1 5 7 8 9 (rp 10 10 0 Rn)) (z8 Sn) (z1 Sn)
          refine Ac h rfl (fun h=>?_) (fun h=>?_)
          ·refine Aq (AWP.rgnD (by kernel_rfl) (by kernel_rfl) (F5_r31 rfl) ?_ (r2 5 7 (rp 10 10 0 (r4 0 1 8 9 Rn))) (z7 Sn) (z1 Sn))
           refine mV h fun v246 h=>mI h fun i247 h=>mC h fun u248 h249 h=>mS h fun a250 n251 c252 h=>mV h fun v253 h=>mI h fun i254 h=>mC h fun u255 h256 h=>mB h fun q257 h=>?_
           refine Ac h rfl (fun h=>?_) (fun h=>?_)
           ·refine Ar F5_r32 ?_ Rn Sn Sn
            refine AWP.ret ?_
            exact h
           ·refine AWP.skip ?_
            exact ⟨_,_,(z6 Sn),Sn,h⟩
          ·refine AWP.skip ?_
           exact ⟨_,_,(z6 Sn),Sn,h⟩
       ·rintro env pv hp ⟨x8,x9,he,hv,h⟩
        refine Ae ?_ (r6 0 1 5 7 8 9 Rn) he hv
        unfold F5_j5 at h
        refine As (fun env pv hp=>∃ x8 x9 x146,Sub (w7 E0 146 (sB x146) 9 (sI x9) 8 (sI x8) 7 (sV (.map x7)) 5 (sP x5) 1 (sS x1a x1n x1c) 0 (sI x0)) env∧Sub V0 pv∧F5_j6 x0 x1a x1n x1c x5 x7 x8 x9 x146 hp I4 K) ?_ ?_
        ·refine Ag (F5_r12 rfl) ?_ (r6 0 5 7 1 8 9 Rn) (z6 Sn) Sn
         refine mC h fun u30 h31 h=>mI h fun i32 h=>mR h fun u33 h=>mI h fun i34 h=>?_
         refine mt h (fun h=>?_) (fun h=>?_)
         ·exact ⟨_,_,_,(z7 Sn),Sn,h⟩
         ·refine mR h fun u35 h=>mI h fun i36 h=>?_
          exact ⟨_,_,_,(z7 Sn),Sn,h⟩
        ·rintro env pv hp ⟨x8,x9,x146,he,hv,h⟩
         refine Ae ?_ (r7 0 1 5 7 8 9 146 Rn) he hv
         unfold F5_j6 at h
         refine Ac h rfl (fun h=>?_) (fun h=>?_)
         ·refine Ar F5_r10 ?_ Rn Sn Sn
          refine AWP.ret ?_
          exact h
         ·refine AWP.skip (Ag F5_r11 ?_ (r6 9 0 1 5 7 8 Rn) (z6 Sn) Sn)
          exact ⟨_,(z6 Sn),Sn,h⟩
      ·refine AWP.exit ?_
       exact ⟨_,_,(z2 Sn),Sn,h⟩
    ·rintro env pv hp ⟨x5,x7,he,hv,h⟩
     refine Ae ?_ (r2 5 7 Rn) he hv
     unfold F5_j2 at h
     refine Ar (F5_r7 rfl) ?_ (r2 5 7 Rn) (z2 Sn) Sn
     refine mC h fun u11 h12 h=>mS h fun a13 n14 c15 h=>mC h fun u16 h17 h=>mB h fun q18 h=>?_
     refine mt h (fun h=>?_) (fun h=>?_)
     ·refine mR h fun u19 h=>mI h fun i20 h=>?_
      refine mt h (fun h=>?_) (fun h=>?_)
      ·refine mC h fun u21 h22 h=>mI h fun i23 h=>?_
       refine mt h (fun h=>?_) (fun h=>?_)
       ·refine mC h fun u24 h25 h=>mB h fun q26 h=>?_
        refine AWP.ret ?_
        exact h
       ·refine AWP.ret ?_
        exact h
      ·refine AWP.ret ?_
       exact h
     ·refine AWP.ret ?_
      exact h
end
end Go.Proofs
set_option linter.unusedVariables false
namespace Go.HL
open Go
open Go.Exp (Th tlt swo_tlt Ord setW dropW insW)
section
variable {α:Type} {id due:α→Int}
theorem pops_th {L:List α} {w:List Th} {now:Int} (hn:(L.map id).Nodup) (h:QOk id due L w):(popsL id now L w).map (fun x=>(id x,due x))=w.takeWhile (fun t=>decide (t.2≤now)):=by
  unfold popsL
  have hm:∀ t∈w.takeWhile (fun t:Th=>decide (t.2≤now)),∃ x∈L,(id x,due x)=t:=fun t ht=>h.mem (List.takeWhile_subset _ ht)
  generalize w.takeWhile (fun t:Th=>decide (t.2≤now))=v at hm
  induction v with
  | nil=>rfl
  | cons t v ih=>
    obtain ⟨x,hx,e⟩:=hm t (by simp)
    have hf:(L.find? fun y=>decide (id y=t.1))=some x:=by
      have:=find_of (g:=id) hn hx
      have e1:id x=t.1:=by rw [← e]
      rw [← e1]; exact this
    rw [List.filterMap_cons,hf]
    simp only [List.map_cons]
    rw [ih fun u hu=>hm u (by simp [hu]),e]
theorem pops_mem {L:List α} {w:List Th} {now:Int} {x:α} (h:x∈popsL id now L w):x∈L:=by
  unfold popsL at h
  obtain ⟨t,_,ht⟩:=List.mem_filterMap.1 h
  exact List.mem_of_find?_eq_some ht
theorem take_mem {now:Int}:∀ {w:List Th},w.Pairwise (fun x y=>tlt x y=true)→∀ {t:Th},t∈w→t.2≤now→t∈w.takeWhile (fun t=>decide (t.2≤now))
  | [],_,t,h,_=>by cases h
  | u::w,hp,t,h,hle=>by
    have hp':=List.pairwise_cons.1 hp
    have hu:u.2≤now:=by
      rcases List.mem_cons.1 h with e | h
      · rw [← e]; exact hle
      · have:=hp'.1 t h
        rw [Exp.tlt_iff] at this; omega
    rw [List.takeWhile_cons,decide_eq_true hu,if_pos rfl]
    rcases List.mem_cons.1 h with e | h
    · rw [e]; simp
    · exact List.mem_cons_of_mem _ (take_mem hp'.2 h hle)
theorem mem_take {β:Type} {p:β→Bool} {x:β}:∀ {l:List β},x∈l.takeWhile p→p x=true
  | y::l,h=>by
    rw [List.takeWhile_cons] at h
    by_cases hy:p y=true
    · rw [if_pos hy] at h
      rcases List.mem_cons.1 h with rfl | h
      · exact hy
      · exact mem_take h
    · rw [if_neg hy] at h; cases h
/-- What always holds of those popped. -/
theorem pops_facts {L:List α} {w:List Th} {now:Int} (hn:(L.map id).Nodup) (h:QOk id due L w) :
    (∀ x∈popsL id now L w,x∈L∧due x≤now)∧((popsL id now L w).map id).Nodup∧(popsL id now L w).Pairwise (fun x y=>due x<due y∨(due x=due y∧id x<id y)) ∧
    (∀ x∈L,id x∈(popsL id now L w).map id↔due x≤now):=by
  have e:=pops_th (now:=now) hn h
  have e1:(popsL id now L w).map id=(w.takeWhile (fun t=>decide (t.2≤now))).map (·.1):=by rw [← e,List.map_map]; rfl
  have hd:∀ x∈popsL id now L w,due x≤now:=fun x hx=>by
    have:(id x,due x)∈w.takeWhile (fun t=>decide (t.2≤now)):=by rw [← e]; exact List.mem_map.2 ⟨x,hx,rfl⟩
    have:=mem_take this
    simpa using this
  refine ⟨fun x hx=>⟨pops_mem hx,hd x hx⟩,?_,?_,fun x hx=>⟨fun hm=>?_,fun hle=>?_⟩⟩
  · rw [e1]; exact h.2.2.sublist ((List.takeWhile_sublist _).map _)
  · have:=(h.2.1.sublist (List.takeWhile_sublist (fun t=>decide (t.2≤now))))
    rw [← e,List.pairwise_map] at this
    exact this.imp fun h=>by rw [Exp.tlt_iff] at h; exact h
  · obtain ⟨y,hy,e2⟩:=List.mem_map.1 hm
    have:=inj_of hn (pops_mem hy) hx e2
    rw [← this]; exact hd y hy
  · have hw:(id x,due x)∈w:=h.1.mem_iff.2 (List.mem_map.2 ⟨x,hx,rfl⟩)
    have:=take_mem h.2.1 hw hle
    rw [e1]
    exact List.mem_map.2 ⟨_,this,rfl⟩
theorem rest_of {L:List α} {w:List Th} {now:Int} (hn:(L.map id).Nodup) (h:QOk id due L w):(L.filter fun x=>decide (id x ∉ (popsL id now L w).map id))=restL due now L:=by
  unfold restL
  refine List.filter_congr fun x hx=>?_
  have:=(pops_facts (now:=now) hn h).2.2.2 x hx
  exact decide_eq_decide.2 (not_congr this)
end
end Go.HL
set_option linter.unusedVariables false
set_option linter.unusedSimpArgs false
set_option maxRecDepth 20000
namespace Go.Proofs
open Go Go.HL
open Go.Exp (Th tlt Ord setW dropW insW)
theorem pu_pu (ps:Nat→HP) (i:Nat) (a b:HP):pu (pu ps i a) i b=pu ps i b:=by
  funext j
  by_cases h:j=i
  · subst h; rw [pu_eq,pu_eq]
  · rw [pu_ne _ _ h,pu_ne _ _ h,pu_ne _ _ h]
/-- A map of stored ones by their numbers, of a list. -/
abbrev MapS (L:List Sy) (e:Ent):Prop:=MapE iw syv (L.map fun y=>(y.id,y)) e
section
variable {tb:Obj} {hp0 hp:HP} {K:Value→HP→Prop} {s mm mx:Nat} {ps:Nat→HP}
set_option maxHeartbeats 4000000 in
theorem C36 {i j:Nat} {a:Option Addr} {c:Nat} {L:List Sy} {w:List Th} {now:Int} (hP:Parts hp ps) (hij:j≠i) (hM:MapS L (ps i mm)) (hs:Shows (ps j) a (popsL Sy.id now L w).length 13 ((popsL Sy.id now L w).flatMap syc))
    (hn:(L.map (·.id)).Nodup) (hQ:QOk Sy.id Sy.due L w) (hl:L.length≤100000)
    (hK:∀ q hp',MapS (restL Sy.due now L) (q mm)→Parts hp' (pu ps i q)→K (.bool true) hp'):CF Tryd.prog 36 [.slice a (popsL Sy.id now L w).length c,.map (some mm),.int .i64 now] hp K:=by
  refine F36_ok a _ c (some mm) now hp K ?_
  unfold F36 F36_j4
  obtain ⟨f1,f2,f3,f4⟩:=pops_facts (now:=now) hn hQ
  have frest:=rest_of (now:=now) hn hQ
  have hlen:(popsL Sy.id now L w).length≤100000:=by
    have h2:(popsL Sy.id now L w).length≤w.length:=by
      unfold popsL
      exact Nat.le_trans (List.length_filterMap_le _ _) ((List.takeWhile_sublist _).length_le)
    have h3:=hQ.len
    omega
  generalize popsL Sy.id now L w=l at *
  refine LoopP.by (J:=fun k (x:Int) hp'=>∃ (n:Nat) (q:HP),x=n∧n+k=l.length∧Parts hp' (pu ps i q)∧MapS (L.filter fun x=>decide (x.id ∉ (l.take n).map (·.id))) (q mm)) ?_ (n:=l.length) ⟨0,ps i,rfl,by omega,?_,?_⟩
  rotate_left
  · have e:pu ps i (ps i)=ps:=by
      funext k
      by_cases h:k=i
      · subst h; rw [pu_eq]
      · rw [pu_ne _ _ h]
    rw [e]; exact hP
  · have e:(L.filter fun x=>decide (x.id ∉ (l.take 0).map (·.id)))=L:=List.filter_eq_self.2 fun x hx=>by simp
    rw [e]; exact hM
  rintro I k x hp' ⟨n,q,rfl,hnk,P,hq⟩ hI
  unfold F36_l5
  have hsP:=hs.sub (P.at j (by rw [pu_ne _ _ hij]))
  have hqP:=hq.sub (P.at i (pu_eq ..))
  by_cases hnl:n<l.length
  · rw [decide_eq_true (by omega:(n:Int)<(l.length:Nat)),ite2_true]
    obtain ⟨b,o,rfl,g,gd⟩:=Shows.at hsP rfl hnl
    have hin:l[n]∈l:=List.getElem_mem hnl
    obtain ⟨hinL,hdue⟩:=f1 _ hin
    have hget:getL l[n].id ((L.filter fun x=>decide (x.id ∉ (l.take n).map (·.id))).map fun y=>(y.id,y))=some l[n]:=by
      rw [getL_mapK Sy.id (fun y=>y)]
      have hmem:l[n]∈L.filter fun x=>decide (x.id ∉ (l.take n).map (·.id)):=by
        rw [List.mem_filter]
        refine ⟨hinL,decide_eq_true fun hm=>?_⟩
        have e:l=l.take n++l[n]::l.drop (n+1):=by rw [← List.drop_eq_getElem_cons hnl,List.take_append_drop]
        have f2':=f2
        rw [e,List.map_append,List.map_cons] at f2'
        exact (List.nodup_append.1 f2').2.2 _ hm _ (by simp) rfl
      rw [find_of (g:=Sy.id) (nodup_filter hn) hmem]; rfl
    have gd0:=gd 0 _ (syc_id _)
    have gd11:=gd 11 _ (syc_due _)
    simp only [Nat.add_zero] at gd0
    have w1:IntKind.wrap .i64 ((n:Int)+1)=((n+1:Nat):Int):=wi (by omega) (by omega)
    have six:F36_j6 (some ⟨b,o,none⟩) l.length c (some mm) now n false hp' I K:=by
      unfold F36_j6
      rw [ite2_false]
      refine ⟨by omega,by omega,?_⟩
      simp only [ptrN_some,Int.toNat_natCast,Nat.add_zero,gd0,ldV_some,intV_int]
      refine opS_delete u57 enc3 hqP l[n].id (ev:=syv) fun e he=>?_
      have hne:(pu ps i q) i mm≠.none:=by rw [pu_eq]; exact hq.ne
      have P2:=P.put i hne e
      rw [pu_eq,pu_pu] at P2
      rw [w1]
      refine hI (k-1) _ _ (by omega) ⟨n+1,_,rfl,by omega,P2,?_⟩
      rw [HP.set_eq]
      rw [delL_mapK Sy.id (fun y=>y) _ (nodup_filter hn)] at he
      have ef:((L.filter fun x=>decide (x.id ∉ (l.take n).map (·.id))).filter fun x=>decide (Sy.id x≠l[n].id))=L.filter fun x=>decide (x.id ∉ (l.take (n+1)).map (·.id)):=by
        rw [List.filter_filter]
        refine List.filter_congr fun x hx=>?_
        rw [List.take_succ_eq_append_getElem hnl,List.map_append]
        by_cases h1:x.id∈(l.take n).map (·.id) <;> by_cases h2:x.id=l[n].id <;> simp [h1,h2]
      rw [ef] at he
      exact he
    refine ⟨by omega,by omega,?_⟩
    simp only [ptrN_some,Int.toNat_natCast,g,ldL_some]
    refine ⟨by omega,by omega,?_⟩
    simp only [Nat.add_zero,gd0,ldV_some,intV_int]
    refine rdS_lookup (l:=(L.filter fun x=>decide (x.id ∉ (l.take n).map (·.id))).map fun y=>(y.id,y)) u57 enc3 zw62 hqP l[n].id (ev:=syv) (cm:=false) ?_
    rw [hget]
    show aggV (.agg ⟨syc l[n]⟩) _
    rw [aggV_agg]
    refine eq62 ?_
    rw [decide_eq_true rfl,Bool.not_true,ite2_false]
    refine ⟨by omega,by omega,?_⟩
    simp only [gd11,ldV_some,intV_int]
    rw [decide_eq_false (by omega),ite2_false]
    by_cases h0:n=0
    · rw [decide_eq_false (by omega),ite2_false]
      exact six
    · rw [decide_eq_true (by omega),ite2_true]
      have wm:IntKind.wrap .i64 ((n:Int)-1)=((n-1:Nat):Int):=wi (by omega) (by omega)
      obtain ⟨b',o',e',g',gd'⟩:=Shows.at hsP rfl (show n-1<l.length by omega)
      cases e'
      have hd0:=gd' 0 _ (syc_id _)
      have hd11:=gd' 11 _ (syc_due _)
      simp only [Nat.add_zero] at hd0
      have hord:=List.pairwise_iff_getElem.1 f3 (n-1) n (by omega) hnl (by omega)
      simp only [wm,Int.toNat_natCast,Nat.add_zero,hd11,hd0,gd0,gd11,ldV_some,intV_int]
      refine ⟨by omega,by omega,by omega,by omega,?_⟩
      rw [decide_eq_false (by omega),ite2_false]
      refine ⟨by omega,by omega,by omega,by omega,?_⟩
      by_cases he:l[n-1].due=l[n].due
      · rw [show (l[n-1].due==l[n].due)=true by simp [he],ite2_true]
        refine ⟨by omega,by omega,by omega,by omega,?_⟩
        rw [decide_eq_false (by omega)]
        exact six
      · rw [show (l[n-1].due==l[n].due)=false by simp [he],ite2_false]
        exact six
  · rw [decide_eq_false (by omega:¬ (n:Int)<(l.length:Nat)),ite2_false]
    have hnl':n=l.length:=by omega
    subst hnl'
    rw [List.take_length,frest] at hq hqP
    unfold F36_j1
    refine opS_range u57 hqP fun it e hit hI0=>?_
    unfold F36_j2
    have P1:=P.new i hit e
    rw [pu_eq,pu_pu] at P1
    have hmit:mm≠it:=fun e'=>by
      have:=hqP.ne
      rw [e',hit] at this; exact this rfl
    refine LoopP.by (σ:=Unit) (J:=fun k _ hp2=>∃ (q2:HP) (done:List (Int × Sy)),k=(restL Sy.due now L).length-done.length∧Parts hp2 (pu ps i q2)∧q2 mm=q mm∧q2 it≠.none∧IterR hp2 it mm iw syv ((restL Sy.due now L).map fun y=>(y.id,y)) done) ?_
      (n:=(restL Sy.due now L).length) ⟨_,[],by simp,P1,HP.set_ne _ _ hmit,?_,hI0⟩
    rotate_left
    · obtain ⟨oo,ho⟩:=hI0.obj.1
      rw [HP.set_eq] at ho
      rw [HP.set_eq,ho]; simp
    rintro I2 k2 _ hp2 ⟨q2,done,rfl,P2,hq2,hit2,hI2⟩ hgo
    unfold F36_l3
    refine opS_next hI2 ?_ ?_
    · intro hperm
      rw [tupI_end,boolV_bool,ite2_false]
      exact hK q2 hp2 (hq2▸hq) P2
    · intro kv hkv e2 hI3
      have hlen2:=hI3.step_len
      rw [List.length_map] at hlen2
      obtain ⟨y,hy,rfl⟩:=List.mem_map.1 hkv
      rw [tupI_go,boolV_bool,ite2_true]
      refine rdS_entry hI3 ?_
      rw [tupI_snd]
      show aggV (.agg ⟨syc y⟩) _
      rw [aggV_agg]
      simp only [syz]
      refine ifI (syc_len y) (ifI (syc_one y) (ifI (by rw [syc_len,syc_len]; omega) ?_))
      rw [syc_splice]
      simp only [syc_due,ldV_some,intV_int]
      have hyd:¬ y.due≤now:=by
        have:=(List.mem_filter.1 hy).2
        simpa using this
      rw [decide_eq_false hyd,ite2_false]
      have P3:=P2.put i (b:=it) (by rw [pu_eq]; exact hit2) e2
      rw [pu_eq,pu_pu] at P3
      refine hgo _ () _ ?_ ⟨_,done++[(y.id,y)],rfl,P3,(HP.set_ne _ _ hmit).trans hq2,?_,hI3⟩
      · simp; omega
      · obtain ⟨oo,ho⟩:=hI3.obj.1
        rw [HP.set_eq] at ho
        rw [HP.set_eq,ho]; simp
/-- The store and a map of the same, beside what was known at first. -/
def StM (tb:Obj) (hp0 hp:HP) (s mm mx last:Nat) (L:List Sy):Prop:=
  ∃ (ps:Nat→HP) (w:List Th),Parts hp ps∧ps 0=hp0.set 0 .none∧SyW tb (ps 1) s mx last L w∧MapS L (ps 2 mm)∧∀ i,3≤i→∀ b,ps i b=.none
theorem StM.of {hp:HP} {last:Nat} {L:List Sy} {ps:Nat→HP} {w:List Th} (hP:Parts hp ps) (h0:ps 0=hp0.set 0 .none) (h1:SyW tb (ps 1) s mx last L w) (h2:MapS L (ps 2 mm)):StM tb hp0 hp s mm mx last L:=
  ⟨_,w,hP.cut 3,by simpa using h0,by simpa using h1,by simpa using h2,fun i hi b=>by simp only [show ¬ i<3 by omega,if_false]⟩
set_option maxHeartbeats 4000000 in
theorem C5 {x:Int} {a0:Option Addr} {n0 c0:Nat} {acts:List A24} (ht:TabR tb hp0) (hs0:Shows hp0 a0 n0 6 (acts.flatMap a24)) (hl0:acts.length=n0) (hok:∀ y∈acts,okA24 y) (hx:okZ x)
    (h:K (.bool true) hp0):CF Tryd.prog 5 [.int .i64 x,.slice a0 n0 c0] hp0 K:=by
  refine CF.drop (F5_ok x a0 n0 c0 hp0 _ ?_)
  unfold F5
  have wk:∀ hp',HSub hp0 hp'→TabR tb hp'→CF Tryd.prog 31 [] hp' fun u h=>boolV u fun q=>∃ hp'',HSub hp'' h∧K (.bool q) hp'':=by
    intro hp' hs ht'
    refine C31 ht' fun hp2 h2=>?_
    rw [boolV_bool]
    exact ⟨hp0,hs.trans h2,h⟩
  have wk1:F5_j1 x a0 n0 c0 true hp0 fun v hp'=>∃ hp'',HSub hp'' hp'∧K v hp'':=by
    unfold F5_j1
    rw [ite2_true]
    exact wk hp0 (HSub.refl _) ht
  by_cases h1:x<1
  · rw [decide_eq_true h1,ite2_true]; exact wk1
  rw [decide_eq_false h1,ite2_false]
  by_cases h2:x > 100
  · rw [decide_eq_true h2,ite2_true]; exact wk1
  rw [decide_eq_false h2,ite2_false]
  refine C30 hs0 hl0 fun g hg=>?_
  rw [boolV_bool]
  cases g with
  | true=>exact wk1
  | false=>
  clear wk1
  obtain ⟨hn0,htx⟩:=hg rfl
  unfold F5_j1
  rw [ite2_false]
  refine N32ok (startP_ok ht) 1 (startP_1 ht) (by omega) fun s l hp1 h1 P1=>?_
  simp only [tup2V_mk,pp,intV_int]
  show ite2 false _ _
  rw [ite2_false]
  intro mm hmm
  have P2:=P1.new 2 hmm (.obj (.map #[] 0))
  obtain ⟨mx,rfl⟩:∃ mx:Nat,x=mx:=⟨x.toNat,by omega⟩
  rw [Int.toNat_natCast] at h1
  have st0:StM tb hp0 (hp1.set mm (.obj (.map #[] 0))) s mm mx 0 []:=by
    refine StM.of P2 (by rw [pu_ne _ _ (by omega),pu_ne _ _ (by omega),startP_0]) (w:=[]) ?_ ?_
    · rw [pu_ne _ _ (by omega),pu_eq]; exact h1
    · rw [pu_eq,HP.set_eq]; exact MapE.empty _ _
  clear P1 P2 h1
  unfold F5_j3
  refine LoopP.by (J:=fun k (y:Int × Int) hp=>∃ (i last:Nat) (L:List Sy),y=((last:Int),(i:Int))∧i+k=n0∧StM tb hp0 hp s mm mx last L∧last≤i∧L.length≤i) ?_ (n:=n0) ⟨0,0,[],rfl,by omega,st0,Nat.le_refl _,Nat.le_refl _⟩
  clear st0
  rintro I k y hp ⟨i,last,L,rfl,hik,hst,hla,hLi⟩ hI
  unfold F5_l4
  have tabs:∀ {hp:HP} {last:Nat} {L:List Sy},StM tb hp0 hp s mm mx last L→TabR tb hp∧HSub hp0 hp:=by
    rintro hp last L ⟨ps,w,hP,g0,g1,g2,g3⟩
    have ht':=(g1.sub (hP.sub 1)).tab
    exact ⟨ht',finish ht hP g0 ht'⟩
  obtain ⟨htp,hsp⟩:=tabs hst
  by_cases hi:i<n0
  rotate_left
  · rw [decide_eq_false (by omega:¬ (i:Int)<(n0:Int)),ite2_false]
    unfold F5_j2
    obtain ⟨ps,w,hP,g0,g1,g2,g3⟩:=hst
    have hinv:=g1.inv
    have hempty:restL Sy.due 4611686018427387904 L=[]:=by
      unfold restL
      rw [List.filter_eq_nil_iff]
      intro y hy
      have:=(hinv.ok y hy).2.2.2
      simpa using this
    refine N37 hP 1 (j:=3) (by omega) (g3 3 (by omega)) g1 fun l2 rr hp2 a c w' h2 hr2 P2=>?_
    rw [slcV_slice]
    refine C36 P2 (i:=2) (j:=3) (by omega) (mm:=mm) (L:=L) (w:=w) (by rw [pu_ne _ _ (by omega),pu_ne _ _ (by omega)]; exact g2) (by rw [pu_eq]; exact hr2.shows) hinv.ids g1.qok (by omega) fun q hp3 hq P3=>?_
    rw [hempty] at h2 hq
    rw [boolV_bool,ite2_true]
    refine rdS_mapLen u57 (hq.sub (P3.at 2 (pu_eq ..))) ?_
    rw [intV_int]
    show ite2 true _ _
    rw [ite2_true]
    have h2':=h2.sub (P3.at 1 (by rw [pu_ne _ _ (by omega),pu_ne _ _ (by omega),pu_eq]))
    refine C38 h2' ?_
    rw [intV_int]
    show ite2 true _ _
    rw [ite2_true]
    exact wk hp3 (finish ht P3 (by rw [pu_ne _ _ (by omega),pu_ne _ _ (by omega),pu_ne _ _ (by omega)]; exact g0) h2'.tab) h2'.tab
  rw [decide_eq_true (by omega:(i:Int)<(n0:Int)),ite2_true]
  obtain ⟨b,o,hab,hc⟩:=(hs0.sub hsp).get a24_len hl0 hi
  have hact:=hok _ (List.getElem_mem (hl0▸hi))
  have htxt:=htx _ (List.getElem_mem (hl0▸hi))
  generalize acts[i]'(hl0▸hi)=A at hc hact htxt
  have w1:IntKind.wrap .i64 ((i:Int)+1)=((i+1:Nat):Int):=wi (by omega) (by omega)
  have w2:IntKind.wrap .i64 ((last:Int)+1)=((last+1:Nat):Int):=wi (by omega) (by omega)
  rw [hab]
  try simp only [syz]
  simp only [ptrN_some,Int.toNat_natCast,hc,ldL_some,a24z,a24_splice]
  refine ⟨by omega,by omega,ifI (a24_len A) (ifI (a24_one A) (ifI (by rw [a24_len,a24_len]; omega) ?_))⟩
  simp only [a24_0,a24_1,a24_2,a24_3,a24_4,a24_5,ldV_some,intV_int,strV_string]
  have o1:okT (ta A.a A.port):=ta_ok hact.1 hact.2.2.1
  have o2:okT (ta A.b 9):=ta_ok hact.2.1 (okZc rfl)
  have d1:∀ {hp:HP} {K:Value→HP→Prop},K (.agg ⟨t4 (ta A.a A.port)⟩) hp→CF Tryd.prog 34 [.int .u8 A.a,.int .i64 A.port] hp K:=fun h=>C34 h
  have d2:∀ {hp:HP} {K:Value→HP→Prop},K (.agg ⟨t4 (ta A.b 9)⟩) hp→CF Tryd.prog 34 [.int .u8 A.b,.int .i64 9] hp K:=fun h=>C34 h
  generalize ta A.a A.port=q1 at o1 d1
  generalize ta A.b 9=q2 at o2 d2
  have five:∀ (hp:HP) (last:Nat) (L:List Sy),StM tb hp0 hp s mm mx last L→last≤i+1→L.length≤i+1 →
      F5_j5 (mx:Nat) (some ⟨b,o,none⟩) n0 c0 (some ⟨s,0,none⟩) (some mm) last i hp I (fun v hp'=>∃ hp'',HSub hp'' hp'∧K v hp''):=by
    intro hp last L hst hla hLi
    have hst0:=hst
    obtain ⟨ps,w,hP,g0,g1,g2,g3⟩:=hst
    unfold F5_j5
    refine C38 (g1.sub (hP.sub 1)) ?_
    rw [intV_int]
    refine rdS_mapLen u57 (g2.sub (hP.sub 2)) ?_
    have e:(((L.length:Nat):Int) != (((L.map fun y=>(y.id,y)).length:Nat):Int))=false:=by simp
    rw [intV_int,e,ite2_false]
    refine rdS_mapLen u57 (g2.sub (hP.sub 2)) ?_
    have hlm:=g1.inv.len
    rw [intV_int,decide_eq_false (by rw [List.length_map]; omega)]
    unfold F5_j6
    rw [ite2_false,w1]
    exact hI (k-1) _ _ (by omega) ⟨i+1,last,L,rfl,by omega,hst0,hla,hLi⟩
  have hst0:=hst
  obtain ⟨ps,w,hP,g0,g1,g2,g3⟩:=hst
  have hinv:=g1.inv
  by_cases d0:A.what=0
  · rw [show (A.what==0)=true by simp [d0],ite2_true]
    refine d1 ?_
    rw [aggV_agg]
    refine d2 ?_
    rw [aggV_agg]
    by_cases he:putE mx q1 q2 A.due A.text L=0
    · refine N33yes hP 1 g1 o1 o2 (by omega) he fun l2 hp2 h2 P2=>?_
      rw [intV_int]
      show ite2 true _ _
      rw [ite2_true]
      refine d1 ?_
      rw [aggV_agg]
      refine d2 ?_
      rw [aggV_agg]
      refine ifI rfl (ifI rfl ?_)
      rw [w2]
      have hz:∀ i:Int,(List.set (List.set (splice (splice (Value.int .i64 i::Value.int .u8 0::Value.int .u8 0::Value.int .u8 0::Value.int .u8 0::Value.int .i64 0::Value.int .u8 0::a24 a240) 1 (t4 q1)) 6 (t4 q2)) 11 (Value.int .i64 A.due)) 12 (Value.string A.text))=syc ⟨i,q1,q2,A.due,A.text⟩:=fun _=>rfl
      rw [hz]
      have hnew:(⟨((last+1:Nat):Int),q1,q2,A.due,A.text⟩:Sy).id ∉ L.map Sy.id:=fun hm=>by
        obtain ⟨y,hy,e⟩:=List.mem_map.1 hm
        have:=(hinv.rng y hy).2
        rw [e] at this; simp only at this; omega
      have g2':MapS L ((pu ps 1 l2) 2 mm):=by rw [pu_ne _ _ (by omega)]; exact g2
      refine opS_mapUpdate u57 enc3 (g2'.sub (P2.sub 2)) ((last+1:Nat):Int) (ev:=syv) (⟨((last+1:Nat):Int),q1,q2,A.due,A.text⟩:Sy) fun e he=>?_
      have hpl:=putL_mapK Sy.id (fun y:Sy=>y) (x:=⟨((last+1:Nat):Int),q1,q2,A.due,A.text⟩) hnew
      simp only at hpl
      rw [hpl] at he
      have P3:=P2.put 2 (b:=mm) g2'.ne e
      refine five _ (last+1) (L++[⟨((last+1:Nat):Int),q1,q2,A.due,A.text⟩]) (StM.of P3 (by rw [pu_ne _ _ (by omega),pu_ne _ _ (by omega)]; exact g0) (by rw [pu_ne _ _ (by omega),pu_eq]; exact h2) (by rw [pu_eq,HP.set_eq]; exact he)) (by omega) (by simp; omega)
    · refine N33no (g1.sub (hP.sub 1)) o1 o2 (by omega) rfl he ?_
      rw [intV_int]
      rw [show (putE mx q1 q2 A.due A.text L==0)=false by simpa using he,ite2_false]
      exact five hp last L hst0 (by omega) (by omega)
  rw [show (A.what==0)=false by simp [d0],ite2_false]
  by_cases e1:A.what=1
  · rw [show (A.what==1)=true by simp [e1],ite2_true]
    have no:findS q1 q2 L=none→F5_j7 (mx:Nat) (some ⟨b,o,none⟩) n0 c0 (some ⟨s,0,none⟩) (some mm) last i 4 (a24 A) (syc sy0) hp I (fun v hp'=>∃ hp'',HSub hp'' hp'∧K v hp''):=by
      intro hf
      unfold F5_j7
      show ite2 false _ _
      rw [ite2_false]
      unfold F5_j8
      rw [ite2_false]
      simp only [syc_id,ldV_some,intV_int]
      refine opS_delete u57 enc3 (g2.sub (hP.sub 2)) sy0.id (ev:=syv) fun e he=>?_
      have P3:=hP.put 2 (b:=mm) g2.ne e
      rw [delL_mapK Sy.id (fun y=>y) _ hinv.ids] at he
      have ef:(L.filter fun x=>decide (Sy.id x≠sy0.id))=L:=List.filter_eq_self.2 fun x hx=>by
        have:=(hinv.rng x hx).1
        have h0:sy0.id=0:=rfl
        rw [h0]
        have:x.id≠0:=by omega
        simpa using this
      rw [ef] at he
      exact five _ last L (StM.of P3 (by rw [pu_ne _ _ (by omega)]; exact g0) (by rw [pu_ne _ _ (by omega)]; exact g1) (by rw [pu_eq,HP.set_eq]; exact he)) (by omega) (by omega)
    have yes:∀ z l2 hp2,findS q1 q2 L=some z→SyW tb l2 s mx last (L.filter fun y=>decide (y.id≠z.id)) (dropW z.id w)→Parts hp2 (pu ps 1 l2) →
        F5_j7 (mx:Nat) (some ⟨b,o,none⟩) n0 c0 (some ⟨s,0,none⟩) (some mm) last i 0 (a24 A) (syc z) hp2 I (fun v hp'=>∃ hp'',HSub hp'' hp'∧K v hp''):=by
      intro z l2 hp2 hf h2 P2
      obtain ⟨hzL,hz1,hz2⟩:=findS_mem hf
      unfold F5_j7
      show ite2 true _ _
      rw [ite2_true]
      have g2':MapS L ((pu ps 1 l2) 2 mm):=by rw [pu_ne _ _ (by omega)]; exact g2
      simp only [syc_cells,syc_id,ldV_some,ldL_some,intV_int]
      refine rdS_lookup (l:=L.map fun y=>(y.id,y)) u57 enc3 zw62 (g2'.sub (P2.sub 2)) z.id (ev:=syv) (cm:=false) ?_
      have hget:getL z.id (L.map fun y=>(y.id,y))=some z:=by
        rw [getL_mapK Sy.id (fun y=>y),find_of (g:=Sy.id) hinv.ids hzL]; rfl
      rw [hget]
      show aggV (.agg ⟨syc z⟩) _
      rw [aggV_agg]
      refine eq62 ?_
      rw [decide_eq_true rfl,Bool.not_true,ite2_false]
      simp only [syc_out,syc_peer,a24_1,a24_2,a24_3,ldV_some,ldL_some,intV_int]
      refine d1 ?_
      rw [aggV_agg]
      refine eq34 ?_
      rw [decide_eq_true hz1,Bool.not_true,ite2_false]
      refine d2 ?_
      rw [aggV_agg]
      refine eq34 ?_
      rw [decide_eq_true hz2,Bool.not_true]
      unfold F5_j8
      rw [ite2_false]
      simp only [syc_id,ldV_some,intV_int]
      refine opS_delete u57 enc3 (g2'.sub (P2.sub 2)) z.id (ev:=syv) fun e he=>?_
      have P3:=P2.put 2 (b:=mm) g2'.ne e
      rw [delL_mapK Sy.id (fun y=>y) _ hinv.ids] at he
      refine five _ last _ (StM.of P3 (by rw [pu_ne _ _ (by omega),pu_ne _ _ (by omega)]; exact g0) (by rw [pu_ne _ _ (by omega),pu_eq]; exact h2) (by rw [pu_eq,HP.set_eq]; exact he)) (by omega) ?_
      have:=List.length_filter_le (fun y:Sy=>decide (y.id≠z.id)) L
      omega
    repeat' apply And.intro
    all_goals
      repeat (first
        | (refine d1 ?_; rw [aggV_agg])
        | (refine d2 ?_; rw [aggV_agg]))
      cases hf:findS q1 q2 L with
      | none=>
        refine N35no (g1.sub (hP.sub 1)) o1 o2 hf ?_
        simp only [tup2V_mk,aggV_agg,intV_int,syz]
        refine ifI rfl (ifI rfl (ifI (by rw [syc_len]; omega) ?_))
        rw [syc_splice]
        exact no hf
      | some z=>
        refine N35yes hP 1 g1 o1 o2 hf fun l2 hp2 h2 P2=>?_
        simp only [tup2V_mk,aggV_agg,intV_int,syz]
        refine ifI (syc_len _) (ifI (syc_one _) (ifI (by rw [syc_len,syc_len]; omega) ?_))
        rw [syc_splice]
        exact yes z l2 hp2 hf h2 P2
  rw [show (A.what==1)=false by simp [e1],ite2_false]
  by_cases e2:A.what=2
  · rw [show (A.what==2)=true by simp [e2],ite2_true]
    refine N37 hP 1 (j:=3) (by omega) (g3 3 (by omega)) g1 fun l2 rr hp2 a c w' h2 hr2 P2=>?_
    rw [slcV_slice]
    refine C36 P2 (i:=2) (j:=3) (by omega) (mm:=mm) (L:=L) (w:=w) (by rw [pu_ne _ _ (by omega),pu_ne _ _ (by omega)]; exact g2) (by rw [pu_eq]; exact hr2.shows) hinv.ids g1.qok (by omega) fun q hp3 hq P3=>?_
    rw [boolV_bool,Bool.not_true,ite2_false]
    refine five hp3 last _ (StM.of P3 (by rw [pu_ne _ _ (by omega),pu_ne _ _ (by omega),pu_ne _ _ (by omega)]; exact g0) (by rw [pu_ne _ _ (by omega),pu_ne _ _ (by omega),pu_eq]; exact h2) (by rw [pu_eq]; exact hq)) (by omega) ?_
    have:=List.length_filter_le (fun x:Sy=>decide (¬ x.due≤A.due)) L
    unfold restL
    omega
  rw [show (A.what==2)=false by simp [e2],ite2_false]
  exact five hp last L hst0 (by omega) (by omega)
end
end Go.Proofs
namespace Go.Proofs.YtpkhoemonibajaaDoor
open Go Go.HL Go.Proofs
def theLaid : List (String × DataW Unit) := [("math/bits.deBruijn32tab", Rows.laid_math_bits_deBruijn32tab), ("math/bits.deBruijn64tab", Rows.laid_math_bits_deBruijn64tab), ("internal/strconv.uint64pow10", Rows.laid_internal_strconv_uint64pow10)]
theorem tabOf {W:World} (h:laidMetH Tryd.prog theLaid W):∃ o,hpAll W 0=.obj o∧TabO o:=by
  have h':laidMet Tryd.prog theLaid W:=h
  obtain ⟨ps,hv,_⟩:=h'
  obtain ⟨q1,h1⟩:=laidVars_tail hv
  obtain ⟨q2,h2⟩:=laidVars_tail h1
  have ht : Lib.TabIs Tryd.prog W "internal/strconv.uint64pow10" .u64 Lib.pow10Tab :=
    tabIs_of_vars (rest:=[]) (g:=0) (t:=267) (e:=233) (n:=20) (by kernel_rfl) (by kernel_rfl) (by kernel_rfl) (by kernel_rfl) (by kernel_rfl) (by kernel_rfl) h2
  obtain ⟨o,ho,hO⟩:=tabO_of ht
  exact ⟨o,by unfold hpAll; rw [ho],hO⟩
/-- What a table's cells are. -/
def cellsLaid:DataW Unit→Array Value
  | .agg ps=>(ps.map fun d=>match d with | .lit (.int k n)=>Value.int k n | _=>.int .i64 0).toArray
  | _=>#[]
def layAt (b:Nat) (d:DataW Unit) (h:Array Obj):Array Obj:=h.modify b fun | .cells _ t fz=>.cells (cellsLaid d) t fz | o=>o
noncomputable def laidWorld (os:Os) (I:Input):World:=
  { World.holding Tryd.prog os I with heap:=layAt 0 Rows.laid_internal_strconv_uint64pow10 (layAt 1 Rows.laid_math_bits_deBruijn32tab (layAt 2 Rows.laid_math_bits_deBruijn64tab (World.holding Tryd.prog os I).heap)) }
end Go.Proofs.YtpkhoemonibajaaDoor
