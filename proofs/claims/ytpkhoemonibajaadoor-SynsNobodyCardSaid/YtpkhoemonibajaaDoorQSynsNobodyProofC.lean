/- Parts of the proof of SynsNobodyProof: the logic of what is known of memory, functions' contracts. -/
import Derived.Test.YtpkhoemonibajaaDoorQSynsNobodyProofB
import Derived.Test.YtpkhoemonibajaaDoorHlAbb
import Derived.Test.YtpkhoemonibajaaDoorProg
import Derived.Test.YtpkhoemonibajaaDoorRows
import Derived.Test.YtpkhoemonibajaaDoorHlLaid
import Derived.Test.YtpkhoemonibajaaDoorHlArg
import Derived.ProofKit
import Derived.LaidLaws
set_option linter.unusedVariables false
set_option linter.unusedSimpArgs false
set_option linter.unusedVariables false
set_option maxRecDepth 20000
set_option maxHeartbeats 4000000
namespace Go.Proofs
open Go Go.HL
section
variable {e E:Env} {x0 x1:Int} {x2:ByteArray} {x7:OA} {x9:Bool} {x11:Int} {x12:Bool} {x13:ByteArray} {x14:OA} {x15:Int} {hp:HP} {K:Env→PV→HP→Prop}
abbrev R10 (p n:Nat):=RW Tryd.prog 109 [8,10] (opsAt Tryd.f10 (pth p)) (List.range n)
theorem F10_r0:R10 2 1 e V0 hp K=
 K (upd e 6 (sB false)) V0 hp:= by kernel_rfl
theorem F10_r1:R10 11 1 e V0 hp K=
 K (upd e 7 (sP none)) V0 hp:= by kernel_rfl
theorem F10_r2:R10 23 12 (w2 e 7 (sP x7) 0 (sI x0)) V0 hp K=
 CF Tryd.prog 34 [(.int .u8 1),(.int .i64 x0)] hp fun u1 h2=>(aggV u1 fun l3=>CF Tryd.prog 34 [(.int .u8 2),(.int .i64 x0)] h2 fun u4 h5=>aggV u4 fun l6=>CF Tryd.prog 39 [(.pointer x7),(.agg ⟨l3⟩),(.agg ⟨l6⟩)] h5 fun u7 h8=>tup2V u7 fun u9 u10=>aggV u9 fun l11=>boolV u10 fun q12=>if List.length l11=13 then (if List.all l11 one=true then (if 0+List.length l11≤List.length [(Value.int .i64 0),.int .u8 0,.int .u8 0,.int .u8 0,.int .u8 0,.int .i64 0,.int .u8 0,.int .u8 0,.int .u8 0,.int .u8 0,.int .i64 0,.int .i64 0,.string ⟨#[]⟩] then (K (w5 (w8 e 7 (sP x7) 0 (sI x0) 22 (sP x7) 23 (sI x0) 24 (sA l3) 25 (sI x0) 26 (sA l6) 27 (sV (.tuple ⟨[(.agg ⟨l11⟩),(.bool q12)]⟩))) 21 (sV (.tuple ⟨[(.agg ⟨l11⟩),(.bool q12)]⟩)) 28 (sA l11) 29 (sB q12) 8 (sR 8 0) 9 (sB q12)) (w2 V0 8 (62,[.int .i64 0,.int .u8 0,.int .u8 0,.int .u8 0,.int .u8 0,.int .i64 0,.int .u8 0,.int .u8 0,.int .u8 0,.int .u8 0,.int .i64 0,.int .i64 0,.string ⟨#[]⟩]) 8 (62,(splice [.int .i64 0,.int .u8 0,.int .u8 0,.int .u8 0,.int .u8 0,.int .i64 0,.int .u8 0,.int .u8 0,.int .u8 0,.int .u8 0,.int .i64 0,.int .i64 0,.string ⟨#[]⟩] 0 l11))) h8) else False) else False) else False):= by kernel_rfl
theorem F10_r3:R10 47 12 (w2 e 7 (sP x7) 0 (sI x0)) V0 hp K=
 CF Tryd.prog 34 [(.int .u8 1),(.int .i64 x0)] hp fun u1 h2=>(aggV u1 fun l3=>CF Tryd.prog 34 [(.int .u8 2),(.int .i64 x0)] h2 fun u4 h5=>aggV u4 fun l6=>CF Tryd.prog 35 [(.pointer x7),(.agg ⟨l3⟩),(.agg ⟨l6⟩)] h5 fun u7 h8=>tup2V u7 fun u9 u10=>aggV u9 fun l11=>intV u10 .i64 fun i12=>if List.length l11=13 then (if List.all l11 one=true then (if 0+List.length l11≤List.length [(Value.int .i64 0),.int .u8 0,.int .u8 0,.int .u8 0,.int .u8 0,.int .i64 0,.int .u8 0,.int .u8 0,.int .u8 0,.int .u8 0,.int .i64 0,.int .i64 0,.string ⟨#[]⟩] then (K (w5 (w8 e 7 (sP x7) 0 (sI x0) 31 (sP x7) 32 (sI x0) 33 (sA l3) 34 (sI x0) 35 (sA l6) 36 (sV (.tuple ⟨[(.agg ⟨l11⟩),(.int .i64 i12)]⟩))) 30 (sV (.tuple ⟨[(.agg ⟨l11⟩),(.int .i64 i12)]⟩)) 37 (sA l11) 38 (sI i12) 10 (sR 10 0) 11 (sI i12)) (w2 V0 10 (62,[.int .i64 0,.int .u8 0,.int .u8 0,.int .u8 0,.int .u8 0,.int .i64 0,.int .u8 0,.int .u8 0,.int .u8 0,.int .u8 0,.int .i64 0,.int .i64 0,.string ⟨#[]⟩]) 10 (62,(splice [.int .i64 0,.int .u8 0,.int .u8 0,.int .u8 0,.int .u8 0,.int .i64 0,.int .u8 0,.int .u8 0,.int .u8 0,.int .u8 0,.int .i64 0,.int .i64 0,.string ⟨#[]⟩] 0 l11))) h8) else False) else False) else False):= by kernel_rfl
theorem F10_r4:R10 767 6 e V0 hp K=
 CF Tryd.prog 32 [(.int .i64 1)] hp fun u1 h2=>(tup2V u1 fun u3 u4=>ptrV u3 fun p5=>intV u4 .i64 fun i6=>K (w6 e 82 (sV (.tuple ⟨[(.pointer p5),(.int .i64 i6)]⟩)) 81 (sV (.tuple ⟨[(.pointer p5),(.int .i64 i6)]⟩)) 83 (sP p5) 84 (sI i6) 14 (sP p5) 15 (sI i6)) V0 h2):= by kernel_rfl
theorem F10_r5 (h:E=upd (w5 e 15 (sI x15) 14 (sP x14) 13 (sT x13) 12 (sB x12) 1 (sI x1)) 0 (sI x0)):R10 1535 25 E V0 hp K=
 ite2 x12 (ite2 (x15==0) (CF Tryd.prog 34 [(.int .u8 1),(.int .i64 x0)] hp fun u1 h2=>aggV u1 fun l3=>CF Tryd.prog 34 [(.int .u8 2),(.int .i64 x0)] h2 fun u4 h5=>aggV u4 fun l6=>CF Tryd.prog 33 [(.pointer x14),(.agg ⟨l3⟩),(.agg ⟨l6⟩),(.int .i64 x1),(.string x13)] h5 fun u7 h8=>intV u7 .i64 fun i9=>ite2 (i9==3) (CF Tryd.prog 38 [(.pointer x14)] h8 fun u10 h11=>intV u10 .i64 fun i12=>ite2 (i12==0) (CF Tryd.prog 31 [] h11 fun u13 h14=>boolV u13 fun q15=>K (upd (w8 (w8 (w8 E 85 (sB x12) 86 (sB true) 87 (sI x15) 88 (sB ((x15==0))) 89 (sB ((x15==0))) 90 (sB true) 91 (sP x14) 92 (sI x0)) 93 (sA l3) 94 (sI x0) 95 (sA l6) 96 (sI x1) 97 (sT x13) 98 (sI i9) 99 (sB ((i9==3))) 100 (sB ((i9==3)))) 101 (sB true) 102 (sP x14) 103 (sI i12) 104 (sB ((i12==0))) 105 (sB ((i12==0))) 106 (sB true) 107 (sB q15) 108 (sB q15)) 6 (sB q15)) V0 h14) (K (upd (w8 (w8 (w8 E 85 (sB x12) 86 (sB true) 87 (sI x15) 88 (sB ((x15==0))) 89 (sB ((x15==0))) 90 (sB true) 91 (sP x14) 92 (sI x0)) 93 (sA l3) 94 (sI x0) 95 (sA l6) 96 (sI x1) 97 (sT x13) 98 (sI i9) 99 (sB ((i9==3))) 100 (sB ((i9==3)))) 101 (sB true) 102 (sP x14) 103 (sI i12) 104 (sB ((i12==0))) 105 (sB ((i12==0))) 106 (sB false) 107 sU 108 (sB false)) 6 (sB false)) V0 h11)) (K (upd (w8 (w8 (w8 E 85 (sB x12) 86 (sB true) 87 (sI x15) 88 (sB ((x15==0))) 89 (sB ((x15==0))) 90 (sB true) 91 (sP x14) 92 (sI x0)) 93 (sA l3) 94 (sI x0) 95 (sA l6) 96 (sI x1) 97 (sT x13) 98 (sI i9) 99 (sB ((i9==3))) 100 (sB ((i9==3)))) 101 (sB false) 102 sU 103 sU 104 sU 105 (sB false) 106 (sB false) 107 sU 108 (sB false)) 6 (sB false)) V0 h8)) (K (upd (w8 (w8 (w8 E 85 (sB x12) 86 (sB true) 87 (sI x15) 88 (sB ((x15==0))) 89 (sB ((x15==0))) 90 (sB false) 91 sU 92 sU) 93 sU 94 sU 95 sU 96 sU 97 sU 98 sU 99 sU 100 (sB false)) 101 (sB false) 102 sU 103 sU 104 sU 105 (sB false) 106 (sB false) 107 sU 108 (sB false)) 6 (sB false)) V0 hp)) (K (upd (w8 (w8 (w8 E 85 (sB x12) 86 (sB false) 87 sU 88 sU 89 (sB false) 90 (sB false) 91 sU 92 sU) 93 sU 94 sU 95 sU 96 sU 97 sU 98 sU 99 sU 100 (sB false)) 101 (sB false) 102 sU 103 sU 104 sU 105 (sB false) 106 (sB false) 107 sU 108 (sB false)) 6 (sB false)) V0 hp):= by subst h; kernel_rfl
def F10_j4 (x0 x1:Int) (x12:Bool) (x13:ByteArray) (hp:HP) (K:Kh):Prop:=
  (CF Tryd.prog 32 [(.int .i64 1)] hp fun u25 h26=>tup2V u25 fun u27 u28=>ptrV u27 fun p29=>intV u28 .i64 fun i30=>ite2 x12 (ite2 (i30==0) (CF Tryd.prog 34 [(.int .u8 1),(.int .i64 x0)] h26 fun u31 h32=>aggV u31 fun l33=>CF Tryd.prog 34 [(.int .u8 2),(.int .i64 x0)] h32 fun u34 h35=>aggV u34 fun l36=>CF Tryd.prog 33 [(.pointer p29),(.agg ⟨l33⟩),(.agg ⟨l36⟩),(.int .i64 x1),(.string x13)] h35 fun u37 h38=>intV u37 .i64 fun i39=>ite2 (i39==3) (CF Tryd.prog 38 [(.pointer p29)] h38 fun u40 h41=>intV u40 .i64 fun i42=>ite2 (i42==0) (CF Tryd.prog 31 [] h41 fun u43 h44=>boolV u43 fun q45=>K (.bool q45) h44) (K (.bool false) h41)) (K (.bool false) h38)) (K (.bool false) h26)) (K (.bool false) h26))
theorem F10_r6:R10 4223 3 (upd e 13 (sT x13)) V0 hp K=
 K (w4 e 13 (sT x13) 75 (sT x13) 76 (sI ((ByteArray.size x13:Nat))) 77 (sB ((decide (((ByteArray.size x13:Nat):Int)≤65536))))) V0 hp:= by kernel_rfl
theorem F10_r7:R10 5247 4 (upd e 13 (sT x13)) V0 hp K=
    ((ByteArray.size x13+ByteArray.size x13≤9223372036854775807)∧(K (w5 e 13 (sT x13) 78 (sT x13) 79 (sT x13) 80 (sV (.string (x13++x13))) 13 (sV (.string (x13++x13)))) V0 hp)):=by kernel_rfl
def F10_l5 (x0 x1:Int) (x12:Bool) (K:Kh) (I5:(ByteArray)→HP→Prop) (x13:ByteArray) (hp:HP):Prop:=
  (ite2 (decide (((ByteArray.size x13:Nat):Int)≤65536)) ((ByteArray.size x13+ByteArray.size x13≤9223372036854775807)∧(I5 (x13++x13) hp)) (F10_j4 x0 x1 x12 x13 hp  K))
def F10_j3 (x0 x1:Int) (x12:Bool) (x13:ByteArray) (hp:HP) (K:Kh):Prop:=
  (LoopP (σ:=ByteArray) (fun I s hp=>F10_l5 x0 x1 x12  K I s hp) x13 hp)
theorem F10_r8:R10 191 3 (upd e 2 (sT x2)) V0 hp K=
    ((ByteArray.size (⟨#[120]⟩:ByteArray)+ByteArray.size x2≤9223372036854775807)∧(K (w4 e 2 (sT x2) 73 (sT x2) 74 (sV (.string ((⟨#[120]⟩:ByteArray)++x2))) 13 (sV (.string ((⟨#[120]⟩:ByteArray)++x2)))) V0 hp)):=by kernel_rfl
def F10_j2 (x0 x1:Int) (x2:ByteArray) (x12:Bool) (hp:HP) (K:Kh):Prop:=
  ((ByteArray.size (⟨#[120]⟩:ByteArray)+ByteArray.size x2≤9223372036854775807)∧(F10_j3 x0 x1 x12 ((⟨#[120]⟩:ByteArray)++x2) hp  K))
theorem F10_r9 (h:E=upd (w4 e 11 (sI x11) 9 (sB x9) 7 (sP x7) 1 (sI x1)) 0 (sI x0)):R10 95 35 E V0 hp K=
 ite2 (!x9) (ite2 (x11==2) (CF Tryd.prog 34 [(.int .u8 1),(.int .i64 x0)] hp fun u1 h2=>aggV u1 fun l3=>CF Tryd.prog 34 [(.int .u8 2),(.int .i64 x0)] h2 fun u4 h5=>aggV u4 fun l6=>CF Tryd.prog 33 [(.pointer x7),(.agg ⟨l3⟩),(.agg ⟨l6⟩),(.int .i64 x1),(.string (⟨#[120]⟩:ByteArray))] h5 fun u7 h8=>intV u7 .i64 fun i9=>ite2 (i9==2) (CF Tryd.prog 37 [(.pointer x7),(.int .i64 x1)] h8 fun u10 h11=>slcV u10 fun a12 n13 c14=>ite2 (((n13:Nat):Int)==0) (CF Tryd.prog 55 [(.pointer x7)] h11 fun u15 h16=>slcV u15 fun a17 n18 c19=>ite2 (((n18:Nat):Int)==0) (CF Tryd.prog 38 [(.pointer x7)] h16 fun u20 h21=>intV u20 .i64 fun i22=>K (w3 (w8 (w8 (w8 (w8 E 39 (sB x9) 40 (sB ((!x9))) 41 (sB true) 42 (sI x11) 43 (sB ((x11==2))) 44 (sB ((x11==2))) 45 (sB true) 46 (sP x7)) 47 (sI x0) 48 (sA l3) 49 (sI x0) 50 (sA l6) 51 (sI x1) 52 (sI i9) 53 (sB ((i9==2))) 54 (sB ((i9==2)))) 55 (sB true) 56 (sP x7) 57 (sI x1) 58 (sS a12 n13 c14) 59 (sI ((n13:Nat))) 60 (sB ((((n13:Nat):Int)==0))) 61 (sB ((((n13:Nat):Int)==0))) 62 (sB true)) 63 (sP x7) 64 (sS a17 n18 c19) 65 (sI ((n18:Nat))) 66 (sB ((((n18:Nat):Int)==0))) 67 (sB ((((n18:Nat):Int)==0))) 68 (sB true) 69 (sP x7) 70 (sI i22)) 71 (sB ((i22==0))) 72 (sB ((i22==0))) 12 (sB ((i22==0)))) V0 h21) (K (w3 (w8 (w8 (w8 (w8 E 39 (sB x9) 40 (sB ((!x9))) 41 (sB true) 42 (sI x11) 43 (sB ((x11==2))) 44 (sB ((x11==2))) 45 (sB true) 46 (sP x7)) 47 (sI x0) 48 (sA l3) 49 (sI x0) 50 (sA l6) 51 (sI x1) 52 (sI i9) 53 (sB ((i9==2))) 54 (sB ((i9==2)))) 55 (sB true) 56 (sP x7) 57 (sI x1) 58 (sS a12 n13 c14) 59 (sI ((n13:Nat))) 60 (sB ((((n13:Nat):Int)==0))) 61 (sB ((((n13:Nat):Int)==0))) 62 (sB true)) 63 (sP x7) 64 (sS a17 n18 c19) 65 (sI ((n18:Nat))) 66 (sB ((((n18:Nat):Int)==0))) 67 (sB ((((n18:Nat):Int)==0))) 68 (sB false) 69 sU 70 sU) 71 sU 72 (sB false) 12 (sB false)) V0 h16)) (K (w3 (w8 (w8 (w8 (w8 E 39 (sB x9) 40 (sB ((!x9))) 41 (sB true) 42 (sI x11) 43 (sB ((x11==2))) 44 (sB ((x11==2))) 45 (sB true) 46 (sP x7)) 47 (sI x0) 48 (sA l3) 49 (sI x0) 50 (sA l6) 51 (sI x1) 52 (sI i9) 53 (sB ((i9==2))) 54 (sB ((i9==2)))) 55 (sB true) 56 (sP x7) 57 (sI x1) 58 (sS a12 n13 c14) 59 (sI ((n13:Nat))) 60 (sB ((((n13:Nat):Int)==0))) 61 (sB ((((n13:Nat):Int)==0))) 62 (sB false)) 63 sU 64 sU 65 sU 66 sU 67 (sB false) 68 (sB false) 69 sU 70 sU) 71 sU 72 (sB false) 12 (sB false)) V0 h11)) (K (w3 (w8 (w8 (w8 (w8 E 39 (sB x9) 40 (sB ((!x9))) 41 (sB true) 42 (sI x11) 43 (sB ((x11==2))) 44 (sB ((x11==2))) 45 (sB true) 46 (sP x7)) 47 (sI x0) 48 (sA l3) 49 (sI x0) 50 (sA l6) 51 (sI x1) 52 (sI i9) 53 (sB ((i9==2))) 54 (sB ((i9==2)))) 55 (sB false) 56 sU 57 sU 58 sU 59 sU 60 sU 61 (sB false) 62 (sB false)) 63 sU 64 sU 65 sU 66 sU 67 (sB false) 68 (sB false) 69 sU 70 sU) 71 sU 72 (sB false) 12 (sB false)) V0 h8)) (K (w3 (w8 (w8 (w8 (w8 E 39 (sB x9) 40 (sB ((!x9))) 41 (sB true) 42 (sI x11) 43 (sB ((x11==2))) 44 (sB ((x11==2))) 45 (sB false) 46 sU) 47 sU 48 sU 49 sU 50 sU 51 sU 52 sU 53 sU 54 (sB false)) 55 (sB false) 56 sU 57 sU 58 sU 59 sU 60 sU 61 (sB false) 62 (sB false)) 63 sU 64 sU 65 sU 66 sU 67 (sB false) 68 (sB false) 69 sU 70 sU) 71 sU 72 (sB false) 12 (sB false)) V0 hp)) (K (w3 (w8 (w8 (w8 (w8 E 39 (sB x9) 40 (sB ((!x9))) 41 (sB false) 42 sU 43 sU 44 (sB false) 45 (sB false) 46 sU) 47 sU 48 sU 49 sU 50 sU 51 sU 52 sU 53 sU 54 (sB false)) 55 (sB false) 56 sU 57 sU 58 sU 59 sU 60 sU 61 (sB false) 62 (sB false)) 63 sU 64 sU 65 sU 66 sU 67 (sB false) 68 (sB false) 69 sU 70 sU) 71 sU 72 (sB false) 12 (sB false)) V0 hp):= by subst h; kernel_rfl
def F10_j1 (x0 x1:Int) (x2:ByteArray) (hp:HP) (K:Kh):Prop:=
  (CF Tryd.prog 34 [(.int .u8 1),(.int .i64 x0)] hp fun u1 h2=>aggV u1 fun l3=>CF Tryd.prog 34 [(.int .u8 2),(.int .i64 x0)] h2 fun u4 h5=>aggV u4 fun l6=>CF Tryd.prog 39 [(.pointer none),(.agg ⟨l3⟩),(.agg ⟨l6⟩)] h5 fun u7 h8=>tup2V u7 fun u9 u10=>aggV u9 fun l11=>boolV u10 fun q12=>if List.length l11=13 then (if List.all l11 one=true then (if 0+List.length l11≤List.length [(Value.int .i64 0),.int .u8 0,.int .u8 0,.int .u8 0,.int .u8 0,.int .i64 0,.int .u8 0,.int .u8 0,.int .u8 0,.int .u8 0,.int .i64 0,.int .i64 0,.string ⟨#[]⟩] then (CF Tryd.prog 34 [(.int .u8 1),(.int .i64 x0)] h8 fun u13 h14=>aggV u13 fun l15=>CF Tryd.prog 34 [(.int .u8 2),(.int .i64 x0)] h14 fun u16 h17=>aggV u16 fun l18=>CF Tryd.prog 35 [(.pointer none),(.agg ⟨l15⟩),(.agg ⟨l18⟩)] h17 fun u19 h20=>tup2V u19 fun u21 u22=>aggV u21 fun l23=>intV u22 .i64 fun i24=>if List.length l23=13 then (if List.all l23 one=true then (if 0+List.length l23≤List.length [(Value.int .i64 0),.int .u8 0,.int .u8 0,.int .u8 0,.int .u8 0,.int .i64 0,.int .u8 0,.int .u8 0,.int .u8 0,.int .u8 0,.int .i64 0,.int .i64 0,.string ⟨#[]⟩] then (ite2 (!q12) (ite2 (i24==2) (CF Tryd.prog 34 [(.int .u8 1),(.int .i64 x0)] h20 fun u46 h47=>aggV u46 fun l48=>CF Tryd.prog 34 [(.int .u8 2),(.int .i64 x0)] h47 fun u49 h50=>aggV u49 fun l51=>CF Tryd.prog 33 [(.pointer none),(.agg ⟨l48⟩),(.agg ⟨l51⟩),(.int .i64 x1),(.string (⟨#[120]⟩:ByteArray))] h50 fun u52 h53=>intV u52 .i64 fun i54=>ite2 (i54==2) (CF Tryd.prog 37 [(.pointer none),(.int .i64 x1)] h53 fun u55 h56=>slcV u55 fun a57 n58 c59=>ite2 (((n58:Nat):Int)==0) (CF Tryd.prog 55 [(.pointer none)] h56 fun u60 h61=>slcV u60 fun a62 n63 c64=>ite2 (((n63:Nat):Int)==0) (CF Tryd.prog 38 [(.pointer none)] h61 fun u65 h66=>intV u65 .i64 fun i67=>F10_j2 x0 x1 x2 (i67==0) h66  K) (F10_j2 x0 x1 x2 false h61  K)) (F10_j2 x0 x1 x2 false h56  K)) (F10_j2 x0 x1 x2 false h53  K)) (F10_j2 x0 x1 x2 false h20  K)) (F10_j2 x0 x1 x2 false h20  K)) else False) else False) else False) else False) else False) else False)
theorem F10_r10:R10 9 3 (upd e 2 (sT x2)) V0 hp K=
 K (w4 e 2 (sT x2) 16 (sT x2) 17 (sI ((ByteArray.size x2:Nat))) 18 (sB ((decide (((ByteArray.size x2:Nat):Int) > 70000))))) V0 hp:= by kernel_rfl
theorem F10_r11:R10 21 3 (upd e 2 (sT x2)) V0 hp K=
    ((0≤(70000:Int))∧((70000:Int)≤(ByteArray.size x2:Nat))∧(K (w4 e 2 (sT x2) 19 (sT x2) 20 (sV (.string (ByteArray.extract x2 0 (Int.toNat 70000)))) 2 (sV (.string (ByteArray.extract x2 0 (Int.toNat 70000))))) V0 hp)):=by kernel_rfl
def F10 (x0 x1:Int) (x2:ByteArray) (hp:HP) (K:Kh):Prop:=
  (ite2 (decide (((ByteArray.size x2:Nat):Int) > 70000)) ((0≤(70000:Int))∧((70000:Int)≤(ByteArray.size x2:Nat))∧(F10_j1 x0 x1 (ByteArray.extract x2 0 (Int.toNat 70000)) hp  K)) (F10_j1 x0 x1 x2 hp  K))
noncomputable abbrev o10 (k n:Nat):Code:=.region k (opsAt Tryd.f10 (pth n)) false
noncomputable def F10_code:Code:=(.seq (o10 0 2) (.seq (.seq (o10 1 9) (.cond (.tmp 18) (o10 2 21) .skip)) (.seq (o10 3 11) (.seq (o10 4 23) (.seq (o10 5 47) (.seq (o10 6 95) (.seq (o10 7 191) (.seq (.block 0 (.loop (.seq (.seq (o10 8 4223) (.cond (.tmp 77) .skip (.exit 0))) (.block 1 (o10 9 5247))))) (.seq (o10 10 767) (.seq (o10 11 1535) .ret))))))))))
theorem F10_body:Tryd.f10.body=some F10_code:=by kernel_rfl
theorem F10_ok (x0 x1:Int) (x2:ByteArray) (hp:HP) (K:Kh) (h:F10 x0 x1 x2 hp K):CF Tryd.prog 10 [(.int .i64 x0),(.int .i64 x1),(.string x2)] hp K:=by
 refine .inl ⟨by kernel_rfl,AC.intro (N:=109) Tryd.func10 F10_body rfl (Nat.le_of_ble_eq_true rfl) ?_⟩
 unfold F10 at h
 refine Ar F10_r0 ?_ (r3 0 1 2 Rn) (z3 Sn) Sn
 refine As (fun env pv hp=>∃ x0 x1 x2,Sub (w3 E0 2 (sT x2) 1 (sI x1) 0 (sI x0)) env∧Sub V0 pv∧F10_j1 x0 x1 x2 hp  K) ?_ ?_
 ·refine Ar F10_r10 ?_ (r3 2 0 1 Rn) (z3 Sn) Sn
  refine Ac h rfl (fun h=>?_) (fun h=>?_)
  ·refine Ag F10_r11 ?_ (r3 2 0 1 Rn) (z3 Sn) Sn
   refine ⟨h.1,h.2.1,?_⟩
   replace h:=h.2.2
   exact ⟨_,_,_,(z3 Sn),Sn,h⟩
  ·refine AWP.skip ?_
   exact ⟨_,_,_,(z3 Sn),Sn,h⟩
 ·rintro env pv hp ⟨x0,x1,x2,he,hv,h⟩
  refine Ae ?_ (r3 0 1 2 Rn) he hv
  unfold F10_j1 at h
  refine Ar F10_r1 ?_ (r3 0 1 2 Rn) (z3 Sn) Sn
  refine Ar F10_r2 ?_ (r4 0 7 1 2 Rn) (z4 Sn) Sn
  refine mC h fun u1 h2 h=>mA h fun l3 h=>mC h fun u4 h5 h=>mA h fun l6 h=>mC h fun u7 h8 h=>mT h fun u9 u10 h=>mA h fun l11 h=>mB h fun q12 h=>mf h fun h=>mf h fun h=>mf h fun h=>?_
  refine Ar F10_r3 ?_ (r5 0 7 1 2 9 Rn) (z5 Sn) Sn
  refine mC h fun u13 h14 h=>mA h fun l15 h=>mC h fun u16 h17 h=>mA h fun l18 h=>mC h fun u19 h20 h=>mT h fun u21 u22 h=>mA h fun l23 h=>mI h fun i24 h=>mf h fun h=>mf h fun h=>mf h fun h=>?_
  refine As (fun env pv hp=>∃ x0 x1 x2 x12,Sub (w4 E0 12 (sB x12) 2 (sT x2) 1 (sI x1) 0 (sI x0)) env∧Sub V0 pv∧F10_j2 x0 x1 x2 x12 hp  K) ?_ ?_
  ·refine Ag (F10_r9 rfl) ?_ (r6 0 1 7 9 11 2 Rn) (z6 Sn) Sn
   refine mt h (fun h=>?_) (fun h=>?_)
   ·refine mt h (fun h=>?_) (fun h=>?_)
    ·refine mC h fun u46 h47 h=>mA h fun l48 h=>mC h fun u49 h50 h=>mA h fun l51 h=>mC h fun u52 h53 h=>mI h fun i54 h=>?_
     refine mt h (fun h=>?_) (fun h=>?_)
     ·refine mC h fun u55 h56 h=>mS h fun a57 n58 c59 h=>?_
      refine mt h (fun h=>?_) (fun h=>?_)
      ·refine mC h fun u60 h61 h=>mS h fun a62 n63 c64 h=>?_
       refine mt h (fun h=>?_) (fun h=>?_)
       ·refine mC h fun u65 h66 h=>mI h fun i67 h=>?_
        exact ⟨_,_,_,_,(z4 Sn),Sn,h⟩
       ·exact ⟨_,_,_,_,(z4 Sn),Sn,h⟩
      ·exact ⟨_,_,_,_,(z4 Sn),Sn,h⟩
     ·exact ⟨_,_,_,_,(z4 Sn),Sn,h⟩
    ·exact ⟨_,_,_,_,(z4 Sn),Sn,h⟩
   ·exact ⟨_,_,_,_,(z4 Sn),Sn,h⟩
  ·rintro env pv hp ⟨x0,x1,x2,x12,he,hv,h⟩
   refine Ae ?_ (r4 0 1 2 12 Rn) he hv
   unfold F10_j2 at h
   refine As (fun env pv hp=>∃ x0 x1 x12 x13,Sub (w4 E0 13 (sT x13) 12 (sB x12) 1 (sI x1) 0 (sI x0)) env∧Sub V0 pv∧F10_j3 x0 x1 x12 x13 hp  K) ?_ ?_
   ·refine Ag F10_r8 ?_ (r4 2 0 1 12 Rn) (z4 Sn) Sn
    refine ⟨h.1,?_⟩
    replace h:=h.2
    exact ⟨_,_,_,_,(z4 Sn),Sn,h⟩
   ·rintro env pv hp ⟨x0,x1,x12,x13,he,hv,h⟩
    refine Ae ?_ (r4 0 1 12 13 Rn) he hv
    unfold F10_j3 at h
    refine As (fun env pv hp=>∃ x0 x1 x12 x13,Sub (w4 E0 13 (sT x13) 12 (sB x12) 1 (sI x1) 0 (sI x0)) env∧Sub V0 pv∧F10_j4 x0 x1 x12 x13 hp  K) ?_ ?_
    ·refine AWP.block (AWP.loop (σ:=ByteArray) _ (fun s=>w4 E0 13 (sT s) 12 (sB x12) 1 (sI x1) 0 (sI x0)) (fun s=>V0) x13 h (fun s=>r4 0 1 12 13 Rn) (z4 Sn) Sn ?_)
     intro I5 x13 hp h
     replace h:F10_l5 x0 x1 x12  K I5 x13 hp:=h
     unfold F10_l5 at h
     refine Aq (Ar F10_r6 ?_ (r4 13 0 1 12 Rn) (z4 Sn) Sn)
     refine Ac h rfl (fun h=>?_) (fun h=>?_)
     ·refine AWP.skip (AWP.block (Ag F10_r7 ?_ (r4 13 0 1 12 Rn) (z4 Sn) Sn))
      refine ⟨h.1,?_⟩
      replace h:=h.2
      exact ⟨_,(z4 Sn),Sn,h⟩
     ·refine AWP.exit ?_
      exact ⟨_,_,_,_,(z4 Sn),Sn,h⟩
    ·rintro env pv hp ⟨x0,x1,x12,x13,he,hv,h⟩
     refine Ae ?_ (r4 0 1 12 13 Rn) he hv
     unfold F10_j4 at h
     refine Ar F10_r4 ?_ (r4 0 1 12 13 Rn) (z4 Sn) Sn
     refine mC h fun u25 h26 h=>mT h fun u27 u28 h=>mP h fun p29 h=>mI h fun i30 h=>?_
     refine Ar (F10_r5 rfl) ?_ (r6 0 1 12 13 14 15 Rn) (z6 Sn) Sn
     refine mt h (fun h=>?_) (fun h=>?_)
     ·refine mt h (fun h=>?_) (fun h=>?_)
      ·refine mC h fun u31 h32 h=>mA h fun l33 h=>mC h fun u34 h35 h=>mA h fun l36 h=>mC h fun u37 h38 h=>mI h fun i39 h=>?_
       refine mt h (fun h=>?_) (fun h=>?_)
       ·refine mC h fun u40 h41 h=>mI h fun i42 h=>?_
        refine mt h (fun h=>?_) (fun h=>?_)
        ·refine mC h fun u43 h44 h=>mB h fun q45 h=>?_
         refine AWP.ret ?_
         exact h
        ·refine AWP.ret ?_
         exact h
       ·refine AWP.ret ?_
        exact h
      ·refine AWP.ret ?_
       exact h
     ·refine AWP.ret ?_
      exact h
end
end Go.Proofs
set_option linter.unusedVariables false
set_option linter.unusedSimpArgs false
set_option maxRecDepth 20000
namespace Go.Proofs
open Go Go.HL
open Go.Exp (Th tlt Ord setW dropW insW)
section
variable {tb:Obj} {hp:HP} {K:Value→HP→Prop}
theorem C55n (hK:K (.slice none 0 0) hp):CF Tryd.prog 55 [.pointer none] hp K:=by
  refine F55_ok none hp K ?_
  unfold F55
  refine C83n ?_
  exact hK
end
end Go.Proofs
set_option linter.unusedVariables false
set_option linter.unusedSimpArgs false
set_option maxRecDepth 20000
namespace Go.Proofs
open Go Go.HL
open Go.Exp (Th tlt Ord setW dropW insW)
theorem putE_long {mx:Nat} {o p:Q × Int} {due:Int} {text:ByteArray} {L:List Sy} (h1:text.size > 65536):putE mx o p due text L=3:=by
  unfold putE
  rw [if_pos h1]
section
variable {tb:Obj} {hp:HP} {K:Value→HP→Prop}
theorem C10 {port due:Int} {text:ByteArray} (ht:TabR tb hp) (hx:okZ port) (hK:K (.bool true) hp):CF Tryd.prog 10 [.int .i64 port,.int .i64 due,.string text] hp K:=by
  refine CF.drop (F10_ok port due text hp _ ?_)
  unfold F10
  have o1:okT (ta 1 port):=ta_ok (okBc rfl) hx
  have o2:okT (ta 2 port):=ta_ok (okBc rfl) hx
  have main:∀ text:ByteArray,text.size≤70000→F10_j1 port due text hp fun v hp'=>∃ hp'',HSub hp'' hp'∧K v hp'':=by
    intro text hs
    unfold F10_j1
    repeat (refine C34 ?_; rw [aggV_agg])
    refine C39n ?_
    simp only [tup2V_mk,aggV_agg,boolV_bool,syz]
    refine ifI rfl (ifI rfl (ifI (by simp [syc_len]) ?_))
    repeat (refine C34 ?_; rw [aggV_agg])
    refine C35n ?_
    simp only [tup2V_mk,aggV_agg,intV_int]
    refine ifI rfl (ifI rfl (ifI (by simp [syc_len]) ?_))
    simp only [Bool.not_false,ite2_true,show ((2:Int)==2)=true from rfl]
    repeat (refine C34 ?_; rw [aggV_agg])
    refine C33n ?_
    simp only [intV_int,show ((2:Int)==2)=true from rfl,ite2_true]
    refine C37n ?_
    simp only [slcV_slice,show (((0:Nat):Int)==0)=true from rfl,ite2_true]
    refine C55n ?_
    simp only [slcV_slice,show (((0:Nat):Int)==0)=true from rfl,ite2_true]
    refine C38n ?_
    simp only [intV_int,show ((0:Int)==0)=true from rfl]
    unfold F10_j2
    have e1:(⟨#[120]⟩:ByteArray).size=1:=rfl
    refine ⟨by omega,?_⟩
    unfold F10_j3
    refine LoopP.by (J:=fun k (x:ByteArray) hp'=>hp'=hp∧1≤x.size∧65537≤x.size+k) ?_ (n:=65537) ⟨rfl,by rw [str_app]; omega,by omega⟩
    rintro I k x hp' ⟨rfl,h1,h2⟩ hI
    unfold F10_l5
    by_cases hle:x.size≤65536
    · rw [decide_eq_true (by omega:((x.size:Nat):Int)≤65536),ite2_true]
      exact ⟨by omega,hI (k-1) _ _ (by omega) ⟨rfl,by rw [str_app]; omega,by rw [str_app]; omega⟩⟩
    rw [decide_eq_false (by omega:¬ ((x.size:Nat):Int)≤65536),ite2_false]
    unfold F10_j4
    refine N32ok (startP_ok ht) 1 (startP_1 ht) (by decide) fun s l hp1 hl P1=>?_
    simp only [tup2V_mk,pp,intV_int,ite2_true,show ((0:Int)==0)=true from rfl]
    repeat (refine C34 ?_; rw [aggV_agg])
    have h1':=hl.sub (P1.at 1 (pu_eq ..))
    refine N33no (e:=3) h1' o1 o2 (by decide) (putE_long (by omega)) (by decide) ?_
    simp only [intV_int,ite2_true,show ((3:Int)==3)=true from rfl]
    refine C38 h1' ?_
    rw [intV_int]
    show ite2 true _ _
    rw [ite2_true]
    refine C31 h1'.tab fun hp6 hs6=>?_
    rw [boolV_bool]
    refine ⟨hp',(finish ht P1 ?_ h1'.tab).trans hs6,hK⟩
    rw [pu_ne _ _ (by omega),startP_0]
  by_cases h7:text.size > 70000
  · rw [decide_eq_true (by omega:((text.size:Nat):Int) > 70000),ite2_true]
    refine ⟨by omega,by omega,main _ ?_⟩
    rw [ByteArray.size_extract]
    show min 70000 text.size-0≤70000
    omega
  · rw [decide_eq_false (by omega:¬ ((text.size:Nat):Int) > 70000),ite2_false]
    exact main text (by omega)
end
end Go.Proofs
namespace Go.Proofs.YtpkhoemonibajaaDoor
open Go Go.HL Go.Proofs
def theLaid : List (String × DataW Unit) := [("math/bits.deBruijn32tab", Rows.laid_math_bits_deBruijn32tab), ("math/bits.deBruijn64tab", Rows.laid_math_bits_deBruijn64tab), ("internal/strconv.uint64pow10", Rows.laid_internal_strconv_uint64pow10)]
theorem tabOf {W:World} (h:laidMetH Tryd.prog theLaid W):∃ o,hpAll W 0=.obj o∧TabO o:=by
  have h':laidMet Tryd.prog theLaid W:=h
  obtain ⟨ps,hv,_⟩:=h'
  obtain ⟨q1,h1⟩:=laidVars_tail hv
  obtain ⟨q2,h2⟩:=laidVars_tail h1
  have ht : Lib.TabIs Tryd.prog W "internal/strconv.uint64pow10" .u64 Lib.pow10Tab :=
    tabIs_of_vars (rest:=[]) (g:=0) (t:=267) (e:=233) (n:=20) (by kernel_rfl) (by kernel_rfl) (by kernel_rfl) (by kernel_rfl) (by kernel_rfl) (by kernel_rfl) h2
  obtain ⟨o,ho,hO⟩:=tabO_of ht
  exact ⟨o,by unfold hpAll; rw [ho],hO⟩
/-- What a table's cells are. -/
def cellsLaid:DataW Unit→Array Value
  | .agg ps=>(ps.map fun d=>match d with | .lit (.int k n)=>Value.int k n | _=>.int .i64 0).toArray
  | _=>#[]
def layAt (b:Nat) (d:DataW Unit) (h:Array Obj):Array Obj:=h.modify b fun | .cells _ t fz=>.cells (cellsLaid d) t fz | o=>o
noncomputable def laidWorld (os:Os) (I:Input):World:=
  { World.holding Tryd.prog os I with heap:=layAt 0 Rows.laid_internal_strconv_uint64pow10 (layAt 1 Rows.laid_math_bits_deBruijn32tab (layAt 2 Rows.laid_math_bits_deBruijn64tab (World.holding Tryd.prog os I).heap)) }
end Go.Proofs.YtpkhoemonibajaaDoor
