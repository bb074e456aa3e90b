/- Parts of the proof of SynsKnownProof: the logic of what is known of memory, functions' contracts. -/
import Derived.Test.YtpkhoemonibajaaDoorQSynsKnownProofB
import Derived.Test.YtpkhoemonibajaaDoorHlAbb
import Derived.Test.YtpkhoemonibajaaDoorProg
import Derived.Test.YtpkhoemonibajaaDoorRows
import Derived.Test.YtpkhoemonibajaaDoorHlLaid
import Derived.Test.YtpkhoemonibajaaDoorHlArg
import Derived.ProofKit
import Derived.LaidLaws
set_option linter.unusedVariables false
set_option linter.unusedSimpArgs false
set_option linter.unusedVariables false
set_option maxRecDepth 20000
set_option maxHeartbeats 4000000
namespace Go.Proofs
open Go Go.HL
section
variable {e E:Env} {x1:OA} {x2 x3 x4 x5 x6 x7:Int} {x8a:OA} {x8n x8c:Nat} {x10 x12 x14 x16:Int} {k9:List Value} {hp:HP} {K:Env→PV→HP→Prop}
abbrev R7 (p n:Nat):=RW Tryd.prog 142 [9,11,113,118] (opsAt Tryd.f7 (pth p)) (List.range n)
theorem F7_r0:R7 2 1 e V0 hp K=
 K (upd e 0 (sB false)) V0 hp:= by kernel_rfl
theorem F7_r1:R7 5 6 e V0 hp K=
 CF Tryd.prog 32 [(.int .i64 2)] hp fun u1 h2=>(tup2V u1 fun u3 u4=>ptrV u3 fun p5=>intV u4 .i64 fun i6=>K (w6 e 18 (sV (.tuple ⟨[(.pointer p5),(.int .i64 i6)]⟩)) 17 (sV (.tuple ⟨[(.pointer p5),(.int .i64 i6)]⟩)) 19 (sP p5) 20 (sI i6) 1 (sP p5) 2 (sI i6)) V0 h2):= by kernel_rfl
theorem F7_r2:R7 75 1 e V0 hp K=
 K (upd e 0 (sB false)) V0 hp:= by kernel_rfl
theorem F7_r3:R7 23 5 (upd e 1 (sP x1)) V0 hp K=
 CF Tryd.prog 34 [(.int .u8 1),(.int .i64 80)] hp fun u1 h2=>(aggV u1 fun l3=>CF Tryd.prog 34 [(.int .u8 2),(.int .i64 9)] h2 fun u4 h5=>aggV u4 fun l6=>CF Tryd.prog 33 [(.pointer x1),(.agg ⟨l3⟩),(.agg ⟨l6⟩),(.int .i64 5),(.string (⟨#[120]⟩:ByteArray))] h5 fun u7 h8=>intV u7 .i64 fun i9=>K (w6 e 1 (sP x1) 27 (sP x1) 28 (sA l3) 29 (sA l6) 30 (sI i9) 3 (sI i9)) V0 h8):= by kernel_rfl
theorem F7_r4:R7 47 5 (upd e 1 (sP x1)) V0 hp K=
 CF Tryd.prog 34 [(.int .u8 1),(.int .i64 80)] hp fun u1 h2=>(aggV u1 fun l3=>CF Tryd.prog 34 [(.int .u8 2),(.int .i64 9)] h2 fun u4 h5=>aggV u4 fun l6=>CF Tryd.prog 33 [(.pointer x1),(.agg ⟨l3⟩),(.agg ⟨l6⟩),(.int .i64 7),(.string (⟨#[121]⟩:ByteArray))] h5 fun u7 h8=>intV u7 .i64 fun i9=>K (w6 e 1 (sP x1) 31 (sP x1) 32 (sA l3) 33 (sA l6) 34 (sI i9) 4 (sI i9)) V0 h8):= by kernel_rfl
theorem F7_r5:R7 95 5 (upd e 1 (sP x1)) V0 hp K=
 CF Tryd.prog 34 [(.int .u8 1),(.int .i64 80)] hp fun u1 h2=>(aggV u1 fun l3=>CF Tryd.prog 34 [(.int .u8 3),(.int .i64 9)] h2 fun u4 h5=>aggV u4 fun l6=>CF Tryd.prog 33 [(.pointer x1),(.agg ⟨l3⟩),(.agg ⟨l6⟩),(.int .i64 3),(.string (⟨#[122]⟩:ByteArray))] h5 fun u7 h8=>intV u7 .i64 fun i9=>K (w6 e 1 (sP x1) 35 (sP x1) 36 (sA l3) 37 (sA l6) 38 (sI i9) 5 (sI i9)) V0 h8):= by kernel_rfl
theorem F7_r6:R7 191 5 (upd e 1 (sP x1)) V0 hp K=
 CF Tryd.prog 34 [(.int .u8 1),(.int .i64 81)] hp fun u1 h2=>(aggV u1 fun l3=>CF Tryd.prog 34 [(.int .u8 3),(.int .i64 9)] h2 fun u4 h5=>aggV u4 fun l6=>CF Tryd.prog 33 [(.pointer x1),(.agg ⟨l3⟩),(.agg ⟨l6⟩),(.int .i64 3),(.string (⟨#[119]⟩:ByteArray))] h5 fun u7 h8=>intV u7 .i64 fun i9=>K (w6 e 1 (sP x1) 39 (sP x1) 40 (sA l3) 41 (sA l6) 42 (sI i9) 6 (sI i9)) V0 h8):= by kernel_rfl
theorem F7_r7:R7 383 5 (upd e 1 (sP x1)) V0 hp K=
 CF Tryd.prog 34 [(.int .u8 1),(.int .i64 81)] hp fun u1 h2=>(aggV u1 fun l3=>CF Tryd.prog 34 [(.int .u8 3),(.int .i64 9)] h2 fun u4 h5=>aggV u4 fun l6=>CF Tryd.prog 33 [(.pointer x1),(.agg ⟨l3⟩),(.agg ⟨l6⟩),(.int .i64 (-1)),(.string (⟨#[119]⟩:ByteArray))] h5 fun u7 h8=>intV u7 .i64 fun i9=>K (w6 e 1 (sP x1) 43 (sP x1) 44 (sA l3) 45 (sA l6) 46 (sI i9) 7 (sI i9)) V0 h8):= by kernel_rfl
theorem F7_r8:R7 767 3 (upd e 1 (sP x1)) V0 hp K=
 CF Tryd.prog 37 [(.pointer x1),(.int .i64 4)] hp fun u1 h2=>(slcV u1 fun a3 n4 c5=>K (w4 e 1 (sP x1) 47 (sP x1) 48 (sS a3 n4 c5) 8 (sS a3 n4 c5)) V0 h2):= by kernel_rfl
theorem F7_r9:R7 1535 10 (upd e 1 (sP x1)) V0 hp K=
 CF Tryd.prog 34 [(.int .u8 1),(.int .i64 80)] hp fun u1 h2=>(aggV u1 fun l3=>CF Tryd.prog 34 [(.int .u8 2),(.int .i64 9)] h2 fun u4 h5=>aggV u4 fun l6=>CF Tryd.prog 35 [(.pointer x1),(.agg ⟨l3⟩),(.agg ⟨l6⟩)] h5 fun u7 h8=>tup2V u7 fun u9 u10=>aggV u9 fun l11=>intV u10 .i64 fun i12=>if List.length l11=13 then (if List.all l11 one=true then (if 0+List.length l11≤List.length [(Value.int .i64 0),.int .u8 0,.int .u8 0,.int .u8 0,.int .u8 0,.int .i64 0,.int .u8 0,.int .u8 0,.int .u8 0,.int .u8 0,.int .i64 0,.int .i64 0,.string ⟨#[]⟩] then (K (w2 (w8 e 1 (sP x1) 50 (sP x1) 51 (sA l3) 52 (sA l6) 53 (sV (.tuple ⟨[(.agg ⟨l11⟩),(.int .i64 i12)]⟩)) 49 (sV (.tuple ⟨[(.agg ⟨l11⟩),(.int .i64 i12)]⟩)) 54 (sA l11) 55 (sI i12)) 9 (sR 9 0) 10 (sI i12)) (w2 V0 9 (62,[.int .i64 0,.int .u8 0,.int .u8 0,.int .u8 0,.int .u8 0,.int .i64 0,.int .u8 0,.int .u8 0,.int .u8 0,.int .u8 0,.int .i64 0,.int .i64 0,.string ⟨#[]⟩]) 9 (62,(splice [.int .i64 0,.int .u8 0,.int .u8 0,.int .u8 0,.int .u8 0,.int .i64 0,.int .u8 0,.int .u8 0,.int .u8 0,.int .u8 0,.int .i64 0,.int .i64 0,.string ⟨#[]⟩] 0 l11))) h8) else False) else False) else False):= by kernel_rfl
theorem F7_r10:R7 3071 10 (upd e 1 (sP x1)) (upd V0 9 (62,k9)) hp K=
 CF Tryd.prog 34 [(.int .u8 1),(.int .i64 80)] hp fun u1 h2=>(aggV u1 fun l3=>CF Tryd.prog 34 [(.int .u8 2),(.int .i64 9)] h2 fun u4 h5=>aggV u4 fun l6=>CF Tryd.prog 35 [(.pointer x1),(.agg ⟨l3⟩),(.agg ⟨l6⟩)] h5 fun u7 h8=>tup2V u7 fun u9 u10=>aggV u9 fun l11=>intV u10 .i64 fun i12=>if List.length l11=13 then (if List.all l11 one=true then (if 0+List.length l11≤List.length [(Value.int .i64 0),.int .u8 0,.int .u8 0,.int .u8 0,.int .u8 0,.int .i64 0,.int .u8 0,.int .u8 0,.int .u8 0,.int .u8 0,.int .i64 0,.int .i64 0,.string ⟨#[]⟩] then (K (w2 (w8 e 1 (sP x1) 57 (sP x1) 58 (sA l3) 59 (sA l6) 60 (sV (.tuple ⟨[(.agg ⟨l11⟩),(.int .i64 i12)]⟩)) 56 (sV (.tuple ⟨[(.agg ⟨l11⟩),(.int .i64 i12)]⟩)) 61 (sA l11) 62 (sI i12)) 11 (sR 11 0) 12 (sI i12)) (w3 V0 9 (62,k9) 11 (62,[.int .i64 0,.int .u8 0,.int .u8 0,.int .u8 0,.int .u8 0,.int .i64 0,.int .u8 0,.int .u8 0,.int .u8 0,.int .u8 0,.int .i64 0,.int .i64 0,.string ⟨#[]⟩]) 11 (62,(splice [.int .i64 0,.int .u8 0,.int .u8 0,.int .u8 0,.int .u8 0,.int .i64 0,.int .u8 0,.int .u8 0,.int .u8 0,.int .u8 0,.int .i64 0,.int .i64 0,.string ⟨#[]⟩] 0 l11))) h8) else False) else False) else False):= by kernel_rfl
theorem F7_r11:R7 6143 6 e (upd V0 9 (62,k9)) hp K=
 CF Tryd.prog 32 [.int .i64 0] hp fun u1 h2=>(tup2V u1 fun u3 u4=>ptrV u3 fun p5=>intV u4 .i64 fun i6=>K (w6 e 64 (sV (.tuple ⟨[(.pointer p5),(.int .i64 i6)]⟩)) 63 (sV (.tuple ⟨[(.pointer p5),(.int .i64 i6)]⟩)) 65 (sP p5) 66 (sI i6) 13 (sP p5) 14 (sI i6)) (upd V0 9 (62,k9)) h2):= by kernel_rfl
theorem F7_r12:R7 12287 6 e (upd V0 9 (62,k9)) hp K=
 CF Tryd.prog 32 [(.int .i64 65537)] hp fun u1 h2=>(tup2V u1 fun u3 u4=>ptrV u3 fun p5=>intV u4 .i64 fun i6=>K (w6 e 68 (sV (.tuple ⟨[(.pointer p5),(.int .i64 i6)]⟩)) 67 (sV (.tuple ⟨[(.pointer p5),(.int .i64 i6)]⟩)) 69 (sP p5) 70 (sI i6) 15 (sP p5) 16 (sI i6)) (upd V0 9 (62,k9)) h2):= by kernel_rfl
theorem F7_r13 (h:E=upd (w3 (w8 e 16 (sI x16) 14 (sI x14) 12 (sI x12) 10 (sI x10) 9 (sR 9 0) 8 (sS x8a x8n x8c) 7 (sI x7) 6 (sI x6)) 5 (sI x5) 4 (sI x4) 3 (sI x3)) 1 (sP x1)):R7 24575 72 E (upd V0 9 (62,k9)) hp K=
    (ite2 (x3==0) (ite2 (x4==5) (ite2 (x5==0) (ite2 (x6==6) (ite2 (x7==1) (ite2 (((x8n:Nat):Int)==1) ((0≤(0:Int))∧((0:Int)<x8n)∧(ptrN x8a fun b1 o2=>ldV (HP.cell hp b1 ((o2+Int.toNat 0*13)+12)) fun v3=>strV v3 fun s4=>ite2 ((ByteArray.toList s4)==(ByteArray.toList (⟨#[122]⟩:ByteArray))) ((0≤(0:Int))∧((0:Int)<x8n)∧(ptrN x8a fun b5 o6=>ldV (HP.cell hp b5 ((o6+Int.toNat 0*13)+0)) fun v7=>intV v7 .i64 fun i8=>ite2 (i8==2) (ite2 (x10==0) (ldV (k9)[12]? fun v9=>strV v9 fun s10=>ite2 ((ByteArray.toList s10)==(ByteArray.toList (⟨#[120]⟩:ByteArray))) (ldV (k9)[11]? fun v11=>intV v11 .i64 fun i12=>ite2 (i12==5) (ite2 (x12==4) (ite2 (x14==1) (ite2 (x16==1) (CF Tryd.prog 38 [(.pointer x1)] hp fun u13 h14=>intV u13 .i64 fun i15=>ite2 (i15==0) (CF Tryd.prog 31 [] h14 fun u16 h17=>boolV u16 fun q18=>K (w8 (w8 (w8 (w8 (w8 (w8 (w8 (w8 (w8 E 71 (sI x3) 72 (sB ((x3==0))) 73 (sB true) 74 (sI x4) 75 (sB ((x4==5))) 76 (sB ((x4==5))) 77 (sB true) 78 (sI x5)) 79 (sB ((x5==0))) 80 (sB ((x5==0))) 81 (sB true) 82 (sI x6) 83 (sB ((x6==6))) 84 (sB ((x6==6))) 85 (sB true) 86 (sI x7)) 87 (sB ((x7==1))) 88 (sB ((x7==1))) 89 (sB true) 90 (sS x8a x8n x8c) 91 (sI ((x8n:Nat))) 92 (sB ((((x8n:Nat):Int)==1))) 93 (sB ((((x8n:Nat):Int)==1))) 94 (sB true)) 95 (sS x8a x8n x8c) 96 (sQ b1 (o2+Int.toNat 0*13)) 97 (sQ b1 ((o2+Int.toNat 0*13)+12)) 98 (sT s4) 99 (sB (((ByteArray.toList s4)==(ByteArray.toList (⟨#[122]⟩:ByteArray))))) 100 (sB (((ByteArray.toList s4)==(ByteArray.toList (⟨#[122]⟩:ByteArray))))) 101 (sB true) 102 (sS x8a x8n x8c)) 103 (sQ b5 (o6+Int.toNat 0*13)) 104 (sQ b5 ((o6+Int.toNat 0*13)+0)) 105 (sI i8) 106 (sB ((i8==2))) 107 (sB ((i8==2))) 108 (sB true) 109 (sI x10) 110 (sB ((x10==0)))) 111 (sB ((x10==0))) 112 (sB true) 113 (sR 9 12) 114 (sT s10) 115 (sB (((ByteArray.toList s10)==(ByteArray.toList (⟨#[120]⟩:ByteArray))))) 116 (sB (((ByteArray.toList s10)==(ByteArray.toList (⟨#[120]⟩:ByteArray))))) 117 (sB true) 118 (sR 9 11)) 119 (sI i12) 120 (sB ((i12==5))) 121 (sB ((i12==5))) 122 (sB true) 123 (sI x12) 124 (sB ((x12==4))) 125 (sB ((x12==4))) 126 (sB true)) 127 (sI x14) 128 (sB ((x14==1))) 129 (sB ((x14==1))) 130 (sB true) 131 (sI x16) 132 (sB ((x16==1))) 133 (sB ((x16==1))) 134 (sB true)) 135 (sP x1) 136 (sI i15) 137 (sB ((i15==0))) 138 (sB ((i15==0))) 139 (sB true) 140 (sB q18) 141 (sB q18) 0 (sB q18)) (upd V0 9 (62,k9)) h17) (K (w8 (w8 (w8 (w8 (w8 (w8 (w8 (w8 (w8 E 71 (sI x3) 72 (sB ((x3==0))) 73 (sB true) 74 (sI x4) 75 (sB ((x4==5))) 76 (sB ((x4==5))) 77 (sB true) 78 (sI x5)) 79 (sB ((x5==0))) 80 (sB ((x5==0))) 81 (sB true) 82 (sI x6) 83 (sB ((x6==6))) 84 (sB ((x6==6))) 85 (sB true) 86 (sI x7)) 87 (sB ((x7==1))) 88 (sB ((x7==1))) 89 (sB true) 90 (sS x8a x8n x8c) 91 (sI ((x8n:Nat))) 92 (sB ((((x8n:Nat):Int)==1))) 93 (sB ((((x8n:Nat):Int)==1))) 94 (sB true)) 95 (sS x8a x8n x8c) 96 (sQ b1 (o2+Int.toNat 0*13)) 97 (sQ b1 ((o2+Int.toNat 0*13)+12)) 98 (sT s4) 99 (sB (((ByteArray.toList s4)==(ByteArray.toList (⟨#[122]⟩:ByteArray))))) 100 (sB (((ByteArray.toList s4)==(ByteArray.toList (⟨#[122]⟩:ByteArray))))) 101 (sB true) 102 (sS x8a x8n x8c)) 103 (sQ b5 (o6+Int.toNat 0*13)) 104 (sQ b5 ((o6+Int.toNat 0*13)+0)) 105 (sI i8) 106 (sB ((i8==2))) 107 (sB ((i8==2))) 108 (sB true) 109 (sI x10) 110 (sB ((x10==0)))) 111 (sB ((x10==0))) 112 (sB true) 113 (sR 9 12) 114 (sT s10) 115 (sB (((ByteArray.toList s10)==(ByteArray.toList (⟨#[120]⟩:ByteArray))))) 116 (sB (((ByteArray.toList s10)==(ByteArray.toList (⟨#[120]⟩:ByteArray))))) 117 (sB true) 118 (sR 9 11)) 119 (sI i12) 120 (sB ((i12==5))) 121 (sB ((i12==5))) 122 (sB true) 123 (sI x12) 124 (sB ((x12==4))) 125 (sB ((x12==4))) 126 (sB true)) 127 (sI x14) 128 (sB ((x14==1))) 129 (sB ((x14==1))) 130 (sB true) 131 (sI x16) 132 (sB ((x16==1))) 133 (sB ((x16==1))) 134 (sB true)) 135 (sP x1) 136 (sI i15) 137 (sB ((i15==0))) 138 (sB ((i15==0))) 139 (sB false) 140 sU 141 (sB false) 0 (sB false)) (upd V0 9 (62,k9)) h14)) (K (w8 (w8 (w8 (w8 (w8 (w8 (w8 (w8 (w8 E 71 (sI x3) 72 (sB ((x3==0))) 73 (sB true) 74 (sI x4) 75 (sB ((x4==5))) 76 (sB ((x4==5))) 77 (sB true) 78 (sI x5)) 79 (sB ((x5==0))) 80 (sB ((x5==0))) 81 (sB true) 82 (sI x6) 83 (sB ((x6==6))) 84 (sB ((x6==6))) 85 (sB true) 86 (sI x7)) 87 (sB ((x7==1))) 88 (sB ((x7==1))) 89 (sB true) 90 (sS x8a x8n x8c) 91 (sI ((x8n:Nat))) 92 (sB ((((x8n:Nat):Int)==1))) 93 (sB ((((x8n:Nat):Int)==1))) 94 (sB true)) 95 (sS x8a x8n x8c) 96 (sQ b1 (o2+Int.toNat 0*13)) 97 (sQ b1 ((o2+Int.toNat 0*13)+12)) 98 (sT s4) 99 (sB (((ByteArray.toList s4)==(ByteArray.toList (⟨#[122]⟩:ByteArray))))) 100 (sB (((ByteArray.toList s4)==(ByteArray.toList (⟨#[122]⟩:ByteArray))))) 101 (sB true) 102 (sS x8a x8n x8c)) 103 (sQ b5 (o6+Int.toNat 0*13)) 104 (sQ b5 ((o6+Int.toNat 0*13)+0)) 105 (sI i8) 106 (sB ((i8==2))) 107 (sB ((i8==2))) 108 (sB true) 109 (sI x10) 110 (sB ((x10==0)))) 111 (sB ((x10==0))) 112 (sB true) 113 (sR 9 12) 114 (sT s10) 115 (sB (((ByteArray.toList s10)==(ByteArray.toList (⟨#[120]⟩:ByteArray))))) 116 (sB (((ByteArray.toList s10)==(ByteArray.toList (⟨#[120]⟩:ByteArray))))) 117 (sB true) 118 (sR 9 11)) 119 (sI i12) 120 (sB ((i12==5))) 121 (sB ((i12==5))) 122 (sB true) 123 (sI x12) 124 (sB ((x12==4))) 125 (sB ((x12==4))) 126 (sB true)) 127 (sI x14) 128 (sB ((x14==1))) 129 (sB ((x14==1))) 130 (sB true) 131 (sI x16) 132 (sB ((x16==1))) 133 (sB ((x16==1))) 134 (sB false)) 135 sU 136 sU 137 sU 138 (sB false) 139 (sB false) 140 sU 141 (sB false) 0 (sB false)) (upd V0 9 (62,k9)) hp)) (K (w8 (w8 (w8 (w8 (w8 (w8 (w8 (w8 (w8 E 71 (sI x3) 72 (sB ((x3==0))) 73 (sB true) 74 (sI x4) 75 (sB ((x4==5))) 76 (sB ((x4==5))) 77 (sB true) 78 (sI x5)) 79 (sB ((x5==0))) 80 (sB ((x5==0))) 81 (sB true) 82 (sI x6) 83 (sB ((x6==6))) 84 (sB ((x6==6))) 85 (sB true) 86 (sI x7)) 87 (sB ((x7==1))) 88 (sB ((x7==1))) 89 (sB true) 90 (sS x8a x8n x8c) 91 (sI ((x8n:Nat))) 92 (sB ((((x8n:Nat):Int)==1))) 93 (sB ((((x8n:Nat):Int)==1))) 94 (sB true)) 95 (sS x8a x8n x8c) 96 (sQ b1 (o2+Int.toNat 0*13)) 97 (sQ b1 ((o2+Int.toNat 0*13)+12)) 98 (sT s4) 99 (sB (((ByteArray.toList s4)==(ByteArray.toList (⟨#[122]⟩:ByteArray))))) 100 (sB (((ByteArray.toList s4)==(ByteArray.toList (⟨#[122]⟩:ByteArray))))) 101 (sB true) 102 (sS x8a x8n x8c)) 103 (sQ b5 (o6+Int.toNat 0*13)) 104 (sQ b5 ((o6+Int.toNat 0*13)+0)) 105 (sI i8) 106 (sB ((i8==2))) 107 (sB ((i8==2))) 108 (sB true) 109 (sI x10) 110 (sB ((x10==0)))) 111 (sB ((x10==0))) 112 (sB true) 113 (sR 9 12) 114 (sT s10) 115 (sB (((ByteArray.toList s10)==(ByteArray.toList (⟨#[120]⟩:ByteArray))))) 116 (sB (((ByteArray.toList s10)==(ByteArray.toList (⟨#[120]⟩:ByteArray))))) 117 (sB true) 118 (sR 9 11)) 119 (sI i12) 120 (sB ((i12==5))) 121 (sB ((i12==5))) 122 (sB true) 123 (sI x12) 124 (sB ((x12==4))) 125 (sB ((x12==4))) 126 (sB true)) 127 (sI x14) 128 (sB ((x14==1))) 129 (sB ((x14==1))) 130 (sB false) 131 sU 132 sU 133 (sB false) 134 (sB false)) 135 sU 136 sU 137 sU 138 (sB false) 139 (sB false) 140 sU 141 (sB false) 0 (sB false)) (upd V0 9 (62,k9)) hp)) (K (w8 (w8 (w8 (w8 (w8 (w8 (w8 (w8 (w8 E 71 (sI x3) 72 (sB ((x3==0))) 73 (sB true) 74 (sI x4) 75 (sB ((x4==5))) 76 (sB ((x4==5))) 77 (sB true) 78 (sI x5)) 79 (sB ((x5==0))) 80 (sB ((x5==0))) 81 (sB true) 82 (sI x6) 83 (sB ((x6==6))) 84 (sB ((x6==6))) 85 (sB true) 86 (sI x7)) 87 (sB ((x7==1))) 88 (sB ((x7==1))) 89 (sB true) 90 (sS x8a x8n x8c) 91 (sI ((x8n:Nat))) 92 (sB ((((x8n:Nat):Int)==1))) 93 (sB ((((x8n:Nat):Int)==1))) 94 (sB true)) 95 (sS x8a x8n x8c) 96 (sQ b1 (o2+Int.toNat 0*13)) 97 (sQ b1 ((o2+Int.toNat 0*13)+12)) 98 (sT s4) 99 (sB (((ByteArray.toList s4)==(ByteArray.toList (⟨#[122]⟩:ByteArray))))) 100 (sB (((ByteArray.toList s4)==(ByteArray.toList (⟨#[122]⟩:ByteArray))))) 101 (sB true) 102 (sS x8a x8n x8c)) 103 (sQ b5 (o6+Int.toNat 0*13)) 104 (sQ b5 ((o6+Int.toNat 0*13)+0)) 105 (sI i8) 106 (sB ((i8==2))) 107 (sB ((i8==2))) 108 (sB true) 109 (sI x10) 110 (sB ((x10==0)))) 111 (sB ((x10==0))) 112 (sB true) 113 (sR 9 12) 114 (sT s10) 115 (sB (((ByteArray.toList s10)==(ByteArray.toList (⟨#[120]⟩:ByteArray))))) 116 (sB (((ByteArray.toList s10)==(ByteArray.toList (⟨#[120]⟩:ByteArray))))) 117 (sB true) 118 (sR 9 11)) 119 (sI i12) 120 (sB ((i12==5))) 121 (sB ((i12==5))) 122 (sB true) 123 (sI x12) 124 (sB ((x12==4))) 125 (sB ((x12==4))) 126 (sB false)) 127 sU 128 sU 129 (sB false) 130 (sB false) 131 sU 132 sU 133 (sB false) 134 (sB false)) 135 sU 136 sU 137 sU 138 (sB false) 139 (sB false) 140 sU 141 (sB false) 0 (sB false)) (upd V0 9 (62,k9)) hp)) (K (w8 (w8 (w8 (w8 (w8 (w8 (w8 (w8 (w8 E 71 (sI x3) 72 (sB ((x3==0))) 73 (sB true) 74 (sI x4) 75 (sB ((x4==5))) 76 (sB ((x4==5))) 77 (sB true) 78 (sI x5)) 79 (sB ((x5==0))) 80 (sB ((x5==0))) 81 (sB true) 82 (sI x6) 83 (sB ((x6==6))) 84 (sB ((x6==6))) 85 (sB true) 86 (sI x7)) 87 (sB ((x7==1))) 88 (sB ((x7==1))) 89 (sB true) 90 (sS x8a x8n x8c) 91 (sI ((x8n:Nat))) 92 (sB ((((x8n:Nat):Int)==1))) 93 (sB ((((x8n:Nat):Int)==1))) 94 (sB true)) 95 (sS x8a x8n x8c) 96 (sQ b1 (o2+Int.toNat 0*13)) 97 (sQ b1 ((o2+Int.toNat 0*13)+12)) 98 (sT s4) 99 (sB (((ByteArray.toList s4)==(ByteArray.toList (⟨#[122]⟩:ByteArray))))) 100 (sB (((ByteArray.toList s4)==(ByteArray.toList (⟨#[122]⟩:ByteArray))))) 101 (sB true) 102 (sS x8a x8n x8c)) 103 (sQ b5 (o6+Int.toNat 0*13)) 104 (sQ b5 ((o6+Int.toNat 0*13)+0)) 105 (sI i8) 106 (sB ((i8==2))) 107 (sB ((i8==2))) 108 (sB true) 109 (sI x10) 110 (sB ((x10==0)))) 111 (sB ((x10==0))) 112 (sB true) 113 (sR 9 12) 114 (sT s10) 115 (sB (((ByteArray.toList s10)==(ByteArray.toList (⟨#[120]⟩:ByteArray))))) 116 (sB (((ByteArray.toList s10)==(ByteArray.toList (⟨#[120]⟩:ByteArray))))) 117 (sB true) 118 (sR 9 11)) 119 (sI i12) 120 (sB ((i12==5))) 121 (sB ((i12==5))) 122 (sB false) 123 sU 124 sU 125 (sB false) 126 (sB false)) 127 sU 128 sU 129 (sB false) 130 (sB false) 131 sU 132 sU 133 (sB false) 134 (sB false)) 135 sU 136 sU 137 sU 138 (sB false) 139 (sB false) 140 sU 141 (sB false) 0 (sB false)) (upd V0 9 (62,k9)) hp)) (K (w8 (w8 (w8 (w8 (w8 (w8 (w8 (w8 (w8 E 71 (sI x3) 72 (sB ((x3==0))) 73 (sB true) 74 (sI x4) 75 (sB ((x4==5))) 76 (sB ((x4==5))) 77 (sB true) 78 (sI x5)) 79 (sB ((x5==0))) 80 (sB ((x5==0))) 81 (sB true) 82 (sI x6) 83 (sB ((x6==6))) 84 (sB ((x6==6))) 85 (sB true) 86 (sI x7)) 87 (sB ((x7==1))) 88 (sB ((x7==1))) 89 (sB true) 90 (sS x8a x8n x8c) 91 (sI ((x8n:Nat))) 92 (sB ((((x8n:Nat):Int)==1))) 93 (sB ((((x8n:Nat):Int)==1))) 94 (sB true)) 95 (sS x8a x8n x8c) 96 (sQ b1 (o2+Int.toNat 0*13)) 97 (sQ b1 ((o2+Int.toNat 0*13)+12)) 98 (sT s4) 99 (sB (((ByteArray.toList s4)==(ByteArray.toList (⟨#[122]⟩:ByteArray))))) 100 (sB (((ByteArray.toList s4)==(ByteArray.toList (⟨#[122]⟩:ByteArray))))) 101 (sB true) 102 (sS x8a x8n x8c)) 103 (sQ b5 (o6+Int.toNat 0*13)) 104 (sQ b5 ((o6+Int.toNat 0*13)+0)) 105 (sI i8) 106 (sB ((i8==2))) 107 (sB ((i8==2))) 108 (sB true) 109 (sI x10) 110 (sB ((x10==0)))) 111 (sB ((x10==0))) 112 (sB true) 113 (sR 9 12) 114 (sT s10) 115 (sB (((ByteArray.toList s10)==(ByteArray.toList (⟨#[120]⟩:ByteArray))))) 116 (sB (((ByteArray.toList s10)==(ByteArray.toList (⟨#[120]⟩:ByteArray))))) 117 (sB false) 118 sU) 119 sU 120 sU 121 (sB false) 122 (sB false) 123 sU 124 sU 125 (sB false) 126 (sB false)) 127 sU 128 sU 129 (sB false) 130 (sB false) 131 sU 132 sU 133 (sB false) 134 (sB false)) 135 sU 136 sU 137 sU 138 (sB false) 139 (sB false) 140 sU 141 (sB false) 0 (sB false)) (upd V0 9 (62,k9)) hp)) (K (w8 (w8 (w8 (w8 (w8 (w8 (w8 (w8 (w8 E 71 (sI x3) 72 (sB ((x3==0))) 73 (sB true) 74 (sI x4) 75 (sB ((x4==5))) 76 (sB ((x4==5))) 77 (sB true) 78 (sI x5)) 79 (sB ((x5==0))) 80 (sB ((x5==0))) 81 (sB true) 82 (sI x6) 83 (sB ((x6==6))) 84 (sB ((x6==6))) 85 (sB true) 86 (sI x7)) 87 (sB ((x7==1))) 88 (sB ((x7==1))) 89 (sB true) 90 (sS x8a x8n x8c) 91 (sI ((x8n:Nat))) 92 (sB ((((x8n:Nat):Int)==1))) 93 (sB ((((x8n:Nat):Int)==1))) 94 (sB true)) 95 (sS x8a x8n x8c) 96 (sQ b1 (o2+Int.toNat 0*13)) 97 (sQ b1 ((o2+Int.toNat 0*13)+12)) 98 (sT s4) 99 (sB (((ByteArray.toList s4)==(ByteArray.toList (⟨#[122]⟩:ByteArray))))) 100 (sB (((ByteArray.toList s4)==(ByteArray.toList (⟨#[122]⟩:ByteArray))))) 101 (sB true) 102 (sS x8a x8n x8c)) 103 (sQ b5 (o6+Int.toNat 0*13)) 104 (sQ b5 ((o6+Int.toNat 0*13)+0)) 105 (sI i8) 106 (sB ((i8==2))) 107 (sB ((i8==2))) 108 (sB true) 109 (sI x10) 110 (sB ((x10==0)))) 111 (sB ((x10==0))) 112 (sB false) 113 sU 114 sU 115 sU 116 (sB false) 117 (sB false) 118 sU) 119 sU 120 sU 121 (sB false) 122 (sB false) 123 sU 124 sU 125 (sB false) 126 (sB false)) 127 sU 128 sU 129 (sB false) 130 (sB false) 131 sU 132 sU 133 (sB false) 134 (sB false)) 135 sU 136 sU 137 sU 138 (sB false) 139 (sB false) 140 sU 141 (sB false) 0 (sB false)) (upd V0 9 (62,k9)) hp)) (K (w8 (w8 (w8 (w8 (w8 (w8 (w8 (w8 (w8 E 71 (sI x3) 72 (sB ((x3==0))) 73 (sB true) 74 (sI x4) 75 (sB ((x4==5))) 76 (sB ((x4==5))) 77 (sB true) 78 (sI x5)) 79 (sB ((x5==0))) 80 (sB ((x5==0))) 81 (sB true) 82 (sI x6) 83 (sB ((x6==6))) 84 (sB ((x6==6))) 85 (sB true) 86 (sI x7)) 87 (sB ((x7==1))) 88 (sB ((x7==1))) 89 (sB true) 90 (sS x8a x8n x8c) 91 (sI ((x8n:Nat))) 92 (sB ((((x8n:Nat):Int)==1))) 93 (sB ((((x8n:Nat):Int)==1))) 94 (sB true)) 95 (sS x8a x8n x8c) 96 (sQ b1 (o2+Int.toNat 0*13)) 97 (sQ b1 ((o2+Int.toNat 0*13)+12)) 98 (sT s4) 99 (sB (((ByteArray.toList s4)==(ByteArray.toList (⟨#[122]⟩:ByteArray))))) 100 (sB (((ByteArray.toList s4)==(ByteArray.toList (⟨#[122]⟩:ByteArray))))) 101 (sB true) 102 (sS x8a x8n x8c)) 103 (sQ b5 (o6+Int.toNat 0*13)) 104 (sQ b5 ((o6+Int.toNat 0*13)+0)) 105 (sI i8) 106 (sB ((i8==2))) 107 (sB ((i8==2))) 108 (sB false) 109 sU 110 sU) 111 (sB false) 112 (sB false) 113 sU 114 sU 115 sU 116 (sB false) 117 (sB false) 118 sU) 119 sU 120 sU 121 (sB false) 122 (sB false) 123 sU 124 sU 125 (sB false) 126 (sB false)) 127 sU 128 sU 129 (sB false) 130 (sB false) 131 sU 132 sU 133 (sB false) 134 (sB false)) 135 sU 136 sU 137 sU 138 (sB false) 139 (sB false) 140 sU 141 (sB false) 0 (sB false)) (upd V0 9 (62,k9)) hp))) (K (w8 (w8 (w8 (w8 (w8 (w8 (w8 (w8 (w8 E 71 (sI x3) 72 (sB ((x3==0))) 73 (sB true) 74 (sI x4) 75 (sB ((x4==5))) 76 (sB ((x4==5))) 77 (sB true) 78 (sI x5)) 79 (sB ((x5==0))) 80 (sB ((x5==0))) 81 (sB true) 82 (sI x6) 83 (sB ((x6==6))) 84 (sB ((x6==6))) 85 (sB true) 86 (sI x7)) 87 (sB ((x7==1))) 88 (sB ((x7==1))) 89 (sB true) 90 (sS x8a x8n x8c) 91 (sI ((x8n:Nat))) 92 (sB ((((x8n:Nat):Int)==1))) 93 (sB ((((x8n:Nat):Int)==1))) 94 (sB true)) 95 (sS x8a x8n x8c) 96 (sQ b1 (o2+Int.toNat 0*13)) 97 (sQ b1 ((o2+Int.toNat 0*13)+12)) 98 (sT s4) 99 (sB (((ByteArray.toList s4)==(ByteArray.toList (⟨#[122]⟩:ByteArray))))) 100 (sB (((ByteArray.toList s4)==(ByteArray.toList (⟨#[122]⟩:ByteArray))))) 101 (sB false) 102 sU) 103 sU 104 sU 105 sU 106 sU 107 (sB false) 108 (sB false) 109 sU 110 sU) 111 (sB false) 112 (sB false) 113 sU 114 sU 115 sU 116 (sB false) 117 (sB false) 118 sU) 119 sU 120 sU 121 (sB false) 122 (sB false) 123 sU 124 sU 125 (sB false) 126 (sB false)) 127 sU 128 sU 129 (sB false) 130 (sB false) 131 sU 132 sU 133 (sB false) 134 (sB false)) 135 sU 136 sU 137 sU 138 (sB false) 139 (sB false) 140 sU 141 (sB false) 0 (sB false)) (upd V0 9 (62,k9)) hp))) (K (w8 (w8 (w8 (w8 (w8 (w8 (w8 (w8 (w8 E 71 (sI x3) 72 (sB ((x3==0))) 73 (sB true) 74 (sI x4) 75 (sB ((x4==5))) 76 (sB ((x4==5))) 77 (sB true) 78 (sI x5)) 79 (sB ((x5==0))) 80 (sB ((x5==0))) 81 (sB true) 82 (sI x6) 83 (sB ((x6==6))) 84 (sB ((x6==6))) 85 (sB true) 86 (sI x7)) 87 (sB ((x7==1))) 88 (sB ((x7==1))) 89 (sB true) 90 (sS x8a x8n x8c) 91 (sI ((x8n:Nat))) 92 (sB ((((x8n:Nat):Int)==1))) 93 (sB ((((x8n:Nat):Int)==1))) 94 (sB false)) 95 sU 96 sU 97 sU 98 sU 99 sU 100 (sB false) 101 (sB false) 102 sU) 103 sU 104 sU 105 sU 106 sU 107 (sB false) 108 (sB false) 109 sU 110 sU) 111 (sB false) 112 (sB false) 113 sU 114 sU 115 sU 116 (sB false) 117 (sB false) 118 sU) 119 sU 120 sU 121 (sB false) 122 (sB false) 123 sU 124 sU 125 (sB false) 126 (sB false)) 127 sU 128 sU 129 (sB false) 130 (sB false) 131 sU 132 sU 133 (sB false) 134 (sB false)) 135 sU 136 sU 137 sU 138 (sB false) 139 (sB false) 140 sU 141 (sB false) 0 (sB false)) (upd V0 9 (62,k9)) hp)) (K (w8 (w8 (w8 (w8 (w8 (w8 (w8 (w8 (w8 E 71 (sI x3) 72 (sB ((x3==0))) 73 (sB true) 74 (sI x4) 75 (sB ((x4==5))) 76 (sB ((x4==5))) 77 (sB true) 78 (sI x5)) 79 (sB ((x5==0))) 80 (sB ((x5==0))) 81 (sB true) 82 (sI x6) 83 (sB ((x6==6))) 84 (sB ((x6==6))) 85 (sB true) 86 (sI x7)) 87 (sB ((x7==1))) 88 (sB ((x7==1))) 89 (sB false) 90 sU 91 sU 92 sU 93 (sB false) 94 (sB false)) 95 sU 96 sU 97 sU 98 sU 99 sU 100 (sB false) 101 (sB false) 102 sU) 103 sU 104 sU 105 sU 106 sU 107 (sB false) 108 (sB false) 109 sU 110 sU) 111 (sB false) 112 (sB false) 113 sU 114 sU 115 sU 116 (sB false) 117 (sB false) 118 sU) 119 sU 120 sU 121 (sB false) 122 (sB false) 123 sU 124 sU 125 (sB false) 126 (sB false)) 127 sU 128 sU 129 (sB false) 130 (sB false) 131 sU 132 sU 133 (sB false) 134 (sB false)) 135 sU 136 sU 137 sU 138 (sB false) 139 (sB false) 140 sU 141 (sB false) 0 (sB false)) (upd V0 9 (62,k9)) hp)) (K (w8 (w8 (w8 (w8 (w8 (w8 (w8 (w8 (w8 E 71 (sI x3) 72 (sB ((x3==0))) 73 (sB true) 74 (sI x4) 75 (sB ((x4==5))) 76 (sB ((x4==5))) 77 (sB true) 78 (sI x5)) 79 (sB ((x5==0))) 80 (sB ((x5==0))) 81 (sB true) 82 (sI x6) 83 (sB ((x6==6))) 84 (sB ((x6==6))) 85 (sB false) 86 sU) 87 sU 88 (sB false) 89 (sB false) 90 sU 91 sU 92 sU 93 (sB false) 94 (sB false)) 95 sU 96 sU 97 sU 98 sU 99 sU 100 (sB false) 101 (sB false) 102 sU) 103 sU 104 sU 105 sU 106 sU 107 (sB false) 108 (sB false) 109 sU 110 sU) 111 (sB false) 112 (sB false) 113 sU 114 sU 115 sU 116 (sB false) 117 (sB false) 118 sU) 119 sU 120 sU 121 (sB false) 122 (sB false) 123 sU 124 sU 125 (sB false) 126 (sB false)) 127 sU 128 sU 129 (sB false) 130 (sB false) 131 sU 132 sU 133 (sB false) 134 (sB false)) 135 sU 136 sU 137 sU 138 (sB false) 139 (sB false) 140 sU 141 (sB false) 0 (sB false)) (upd V0 9 (62,k9)) hp)) (K (w8 (w8 (w8 (w8 (w8 (w8 (w8 (w8 (w8 E 71 (sI x3) 72 (sB ((x3==0))) 73 (sB true) 74 (sI x4) 75 (sB ((x4==5))) 76 (sB ((x4==5))) 77 (sB true) 78 (sI x5)) 79 (sB ((x5==0))) 80 (sB ((x5==0))) 81 (sB false) 82 sU 83 sU 84 (sB false) 85 (sB false) 86 sU) 87 sU 88 (sB false) 89 (sB false) 90 sU 91 sU 92 sU 93 (sB false) 94 (sB false)) 95 sU 96 sU 97 sU 98 sU 99 sU 100 (sB false) 101 (sB false) 102 sU) 103 sU 104 sU 105 sU 106 sU 107 (sB false) 108 (sB false) 109 sU 110 sU) 111 (sB false) 112 (sB false) 113 sU 114 sU 115 sU 116 (sB false) 117 (sB false) 118 sU) 119 sU 120 sU 121 (sB false) 122 (sB false) 123 sU 124 sU 125 (sB false) 126 (sB false)) 127 sU 128 sU 129 (sB false) 130 (sB false) 131 sU 132 sU 133 (sB false) 134 (sB false)) 135 sU 136 sU 137 sU 138 (sB false) 139 (sB false) 140 sU 141 (sB false) 0 (sB false)) (upd V0 9 (62,k9)) hp)) (K (w8 (w8 (w8 (w8 (w8 (w8 (w8 (w8 (w8 E 71 (sI x3) 72 (sB ((x3==0))) 73 (sB true) 74 (sI x4) 75 (sB ((x4==5))) 76 (sB ((x4==5))) 77 (sB false) 78 sU) 79 sU 80 (sB false) 81 (sB false) 82 sU 83 sU 84 (sB false) 85 (sB false) 86 sU) 87 sU 88 (sB false) 89 (sB false) 90 sU 91 sU 92 sU 93 (sB false) 94 (sB false)) 95 sU 96 sU 97 sU 98 sU 99 sU 100 (sB false) 101 (sB false) 102 sU) 103 sU 104 sU 105 sU 106 sU 107 (sB false) 108 (sB false) 109 sU 110 sU) 111 (sB false) 112 (sB false) 113 sU 114 sU 115 sU 116 (sB false) 117 (sB false) 118 sU) 119 sU 120 sU 121 (sB false) 122 (sB false) 123 sU 124 sU 125 (sB false) 126 (sB false)) 127 sU 128 sU 129 (sB false) 130 (sB false) 131 sU 132 sU 133 (sB false) 134 (sB false)) 135 sU 136 sU 137 sU 138 (sB false) 139 (sB false) 140 sU 141 (sB false) 0 (sB false)) (upd V0 9 (62,k9)) hp)) (K (w8 (w8 (w8 (w8 (w8 (w8 (w8 (w8 (w8 E 71 (sI x3) 72 (sB ((x3==0))) 73 (sB false) 74 sU 75 sU 76 (sB false) 77 (sB false) 78 sU) 79 sU 80 (sB false) 81 (sB false) 82 sU 83 sU 84 (sB false) 85 (sB false) 86 sU) 87 sU 88 (sB false) 89 (sB false) 90 sU 91 sU 92 sU 93 (sB false) 94 (sB false)) 95 sU 96 sU 97 sU 98 sU 99 sU 100 (sB false) 101 (sB false) 102 sU) 103 sU 104 sU 105 sU 106 sU 107 (sB false) 108 (sB false) 109 sU 110 sU) 111 (sB false) 112 (sB false) 113 sU 114 sU 115 sU 116 (sB false) 117 (sB false) 118 sU) 119 sU 120 sU 121 (sB false) 122 (sB false) 123 sU 124 sU 125 (sB false) 126 (sB false)) 127 sU 128 sU 129 (sB false) 130 (sB false) 131 sU 132 sU 133 (sB false) 134 (sB false)) 135 sU 136 sU 137 sU 138 (sB false) 139 (sB false) 140 sU 141 (sB false) 0 (sB false)) (upd V0 9 (62,k9)) hp)):=by subst h; kernel_rfl
def F7_j1 (x1:OA) (x26:Bool) (hp:HP) (K:Kh):Prop:=
  (ite2 x26 (K (.bool false) hp) (CF Tryd.prog 34 [(.int .u8 1),(.int .i64 80)] hp fun u7 h8=>aggV u7 fun l9=>CF Tryd.prog 34 [(.int .u8 2),(.int .i64 9)] h8 fun u10 h11=>aggV u10 fun l12=>CF Tryd.prog 33 [(.pointer x1),(.agg ⟨l9⟩),(.agg ⟨l12⟩),(.int .i64 5),(.string (⟨#[120]⟩:ByteArray))] h11 fun u13 h14=>intV u13 .i64 fun i15=>CF Tryd.prog 34 [(.int .u8 1),(.int .i64 80)] h14 fun u16 h17=>aggV u16 fun l18=>CF Tryd.prog 34 [(.int .u8 2),(.int .i64 9)] h17 fun u19 h20=>aggV u19 fun l21=>CF Tryd.prog 33 [(.pointer x1),(.agg ⟨l18⟩),(.agg ⟨l21⟩),(.int .i64 7),(.string (⟨#[121]⟩:ByteArray))] h20 fun u22 h23=>intV u22 .i64 fun i24=>CF Tryd.prog 34 [(.int .u8 1),(.int .i64 80)] h23 fun u25 h26=>aggV u25 fun l27=>CF Tryd.prog 34 [(.int .u8 3),(.int .i64 9)] h26 fun u28 h29=>aggV u28 fun l30=>CF Tryd.prog 33 [(.pointer x1),(.agg ⟨l27⟩),(.agg ⟨l30⟩),(.int .i64 3),(.string (⟨#[122]⟩:ByteArray))] h29 fun u31 h32=>intV u31 .i64 fun i33=>CF Tryd.prog 34 [(.int .u8 1),(.int .i64 81)] h32 fun u34 h35=>aggV u34 fun l36=>CF Tryd.prog 34 [(.int .u8 3),(.int .i64 9)] h35 fun u37 h38=>aggV u37 fun l39=>CF Tryd.prog 33 [(.pointer x1),(.agg ⟨l36⟩),(.agg ⟨l39⟩),(.int .i64 3),(.string (⟨#[119]⟩:ByteArray))] h38 fun u40 h41=>intV u40 .i64 fun i42=>CF Tryd.prog 34 [(.int .u8 1),(.int .i64 81)] h41 fun u43 h44=>aggV u43 fun l45=>CF Tryd.prog 34 [(.int .u8 3),(.int .i64 9)] h44 fun u46 h47=>aggV u46 fun l48=>CF Tryd.prog 33 [(.pointer x1),(.agg ⟨l45⟩),(.agg ⟨l48⟩),(.int .i64 (-1)),(.string (⟨#[119]⟩:ByteArray))] h47 fun u49 h50=>intV u49 .i64 fun i51=>CF Tryd.prog 37 [(.pointer x1),(.int .i64 4)] h50 fun u52 h53=>slcV u52 fun a54 n55 c56=>CF Tryd.prog 34 [(.int .u8 1),(.int .i64 80)] h53 fun u57 h58=>aggV u57 fun l59=>CF Tryd.prog 34 [(.int .u8 2),(.int .i64 9)] h58 fun u60 h61=>aggV u60 fun l62=>CF Tryd.prog 35 [(.pointer x1),(.agg ⟨l59⟩),(.agg ⟨l62⟩)] h61 fun u63 h64=>tup2V u63 fun u65 u66=>aggV u65 fun l67=>intV u66 .i64 fun i68=>if List.length l67=13 then (if List.all l67 one=true then (if 0+List.length l67≤List.length [(Value.int .i64 0),.int .u8 0,.int .u8 0,.int .u8 0,.int .u8 0,.int .i64 0,.int .u8 0,.int .u8 0,.int .u8 0,.int .u8 0,.int .i64 0,.int .i64 0,.string ⟨#[]⟩] then (CF Tryd.prog 34 [(.int .u8 1),(.int .i64 80)] h64 fun u69 h70=>aggV u69 fun l71=>CF Tryd.prog 34 [(.int .u8 2),(.int .i64 9)] h70 fun u72 h73=>aggV u72 fun l74=>CF Tryd.prog 35 [(.pointer x1),(.agg ⟨l71⟩),(.agg ⟨l74⟩)] h73 fun u75 h76=>tup2V u75 fun u77 u78=>aggV u77 fun l79=>intV u78 .i64 fun i80=>if List.length l79=13 then (if List.all l79 one=true then (if 0+List.length l79≤List.length [(Value.int .i64 0),.int .u8 0,.int .u8 0,.int .u8 0,.int .u8 0,.int .i64 0,.int .u8 0,.int .u8 0,.int .u8 0,.int .u8 0,.int .i64 0,.int .i64 0,.string ⟨#[]⟩] then (CF Tryd.prog 32 [.int .i64 0] h76 fun u81 h82=>tup2V u81 fun u83 u84=>ptrV u83 fun p85=>intV u84 .i64 fun i86=>CF Tryd.prog 32 [(.int .i64 65537)] h82 fun u87 h88=>tup2V u87 fun u89 u90=>ptrV u89 fun p91=>intV u90 .i64 fun i92=>ite2 (i15==0) (ite2 (i24==5) (ite2 (i33==0) (ite2 (i42==6) (ite2 (i51==1) (ite2 (((n55:Nat):Int)==1) ((0≤(0:Int))∧((0:Int)<n55)∧(ptrN a54 fun b93 o94=>ldV (HP.cell h88 b93 ((o94+Int.toNat 0*13)+12)) fun v95=>strV v95 fun s96=>ite2 ((ByteArray.toList s96)==(ByteArray.toList (⟨#[122]⟩:ByteArray))) ((0≤(0:Int))∧((0:Int)<n55)∧(ptrN a54 fun b97 o98=>ldV (HP.cell h88 b97 ((o98+Int.toNat 0*13)+0)) fun v99=>intV v99 .i64 fun i100=>ite2 (i100==2) (ite2 (i68==0) (ldV ((splice [.int .i64 0,.int .u8 0,.int .u8 0,.int .u8 0,.int .u8 0,.int .i64 0,.int .u8 0,.int .u8 0,.int .u8 0,.int .u8 0,.int .i64 0,.int .i64 0,.string ⟨#[]⟩] 0 l67))[12]? fun v101=>strV v101 fun s102=>ite2 ((ByteArray.toList s102)==(ByteArray.toList (⟨#[120]⟩:ByteArray))) (ldV ((splice [.int .i64 0,.int .u8 0,.int .u8 0,.int .u8 0,.int .u8 0,.int .i64 0,.int .u8 0,.int .u8 0,.int .u8 0,.int .u8 0,.int .i64 0,.int .i64 0,.string ⟨#[]⟩] 0 l67))[11]? fun v103=>intV v103 .i64 fun i104=>ite2 (i104==5) (ite2 (i80==4) (ite2 (i86==1) (ite2 (i92==1) (CF Tryd.prog 38 [(.pointer x1)] h88 fun u105 h106=>intV u105 .i64 fun i107=>ite2 (i107==0) (CF Tryd.prog 31 [] h106 fun u108 h109=>boolV u108 fun q110=>K (.bool q110) h109) (K (.bool false) h106)) (K (.bool false) h88)) (K (.bool false) h88)) (K (.bool false) h88)) (K (.bool false) h88)) (K (.bool false) h88)) (K (.bool false) h88)) (K (.bool false) h88))) (K (.bool false) h88))) (K (.bool false) h88)) (K (.bool false) h88)) (K (.bool false) h88)) (K (.bool false) h88)) (K (.bool false) h88)) (K (.bool false) h88)) else False) else False) else False) else False) else False) else False))
theorem F7_r14 (h:E=upd (upd e 2 (sI x2)) 1 (sP x1)):R7 19 6 E V0 hp K=
 ite2 (x2 != 0) (K (w6 E 21 (sI x2) 22 (sB ((x2 != 0))) 23 (sB true) 24 sU 25 sU 26 (sB true)) V0 hp) (K (w6 E 21 (sI x2) 22 (sB ((x2 != 0))) 23 (sB false) 24 (sP x1) 25 (sB ((Option.isNone x1))) 26 (sB ((Option.isNone x1)))) V0 hp):= by subst h; kernel_rfl
def F7 (hp:HP) (K:Kh):Prop:=
  (CF Tryd.prog 32 [(.int .i64 2)] hp fun u1 h2=>tup2V u1 fun u3 u4=>ptrV u3 fun p5=>intV u4 .i64 fun i6=>ite2 (i6 != 0) (F7_j1 p5 true h2  K) (F7_j1 p5 (Option.isNone p5) h2  K))
noncomputable abbrev o7 (k n:Nat):Code:=.region k (opsAt Tryd.f7 (pth n)) false
noncomputable def F7_code:Code:=(.seq (o7 0 2) (.seq (o7 1 5) (.seq (.seq (o7 2 19) (.cond (.tmp 26) (.seq (o7 3 75) .ret) .skip)) (.seq (o7 4 23) (.seq (o7 5 47) (.seq (o7 6 95) (.seq (o7 7 191) (.seq (o7 8 383) (.seq (o7 9 767) (.seq (o7 10 1535) (.seq (o7 11 3071) (.seq (o7 12 6143) (.seq (o7 13 12287) (.seq (o7 14 24575) .ret))))))))))))))
theorem F7_body:Tryd.f7.body=some F7_code:=by kernel_rfl
theorem F7_ok (hp:HP) (K:Kh) (h:F7  hp K):CF Tryd.prog 7 [] hp K:=by
 refine .inl ⟨by kernel_rfl,AC.intro (N:=142) Tryd.func7 F7_body rfl (Nat.le_of_ble_eq_true rfl) ?_⟩
 unfold F7 at h
 refine Ar F7_r0 ?_ Rn Sn Sn
 refine Ar F7_r1 ?_ Rn Sn Sn
 refine mC h fun u1 h2 h=>mT h fun u3 u4 h=>mP h fun p5 h=>mI h fun i6 h=>?_
 refine Aq (As (fun env pv hp=>∃ x1 x26,Sub (w2 E0 26 (sB x26) 1 (sP x1)) env∧Sub V0 pv∧F7_j1 x1 x26 hp  K) ?_ ?_)
 ·refine Ag (F7_r14 rfl) ?_ (r2 1 2 Rn) (z2 Sn) Sn
  refine mt h (fun h=>?_) (fun h=>?_)
  ·exact ⟨_,_,(z2 Sn),Sn,h⟩
  ·exact ⟨_,_,(z2 Sn),Sn,h⟩
 ·rintro env pv hp ⟨x1,x26,he,hv,h⟩
  refine Ae ?_ (r2 1 26 Rn) he hv
  unfold F7_j1 at h
  refine Ac h rfl (fun h=>?_) (fun h=>?_)
  ·refine Ar F7_r2 ?_ Rn Sn Sn
   refine AWP.ret ?_
   exact h
  ·refine AWP.skip (Ar F7_r3 ?_ (r1 1 Rn) (z1 Sn) Sn)
   refine mC h fun u7 h8 h=>mA h fun l9 h=>mC h fun u10 h11 h=>mA h fun l12 h=>mC h fun u13 h14 h=>mI h fun i15 h=>?_
   refine Ar F7_r4 ?_ (r2 1 3 Rn) (z2 Sn) Sn
   refine mC h fun u16 h17 h=>mA h fun l18 h=>mC h fun u19 h20 h=>mA h fun l21 h=>mC h fun u22 h23 h=>mI h fun i24 h=>?_
   refine Ar F7_r5 ?_ (r3 1 3 4 Rn) (z3 Sn) Sn
   refine mC h fun u25 h26 h=>mA h fun l27 h=>mC h fun u28 h29 h=>mA h fun l30 h=>mC h fun u31 h32 h=>mI h fun i33 h=>?_
   refine Ar F7_r6 ?_ (r4 1 3 4 5 Rn) (z4 Sn) Sn
   refine mC h fun u34 h35 h=>mA h fun l36 h=>mC h fun u37 h38 h=>mA h fun l39 h=>mC h fun u40 h41 h=>mI h fun i42 h=>?_
   refine Ar F7_r7 ?_ (r5 1 3 4 5 6 Rn) (z5 Sn) Sn
   refine mC h fun u43 h44 h=>mA h fun l45 h=>mC h fun u46 h47 h=>mA h fun l48 h=>mC h fun u49 h50 h=>mI h fun i51 h=>?_
   refine Ar F7_r8 ?_ (r6 1 3 4 5 6 7 Rn) (z6 Sn) Sn
   refine mC h fun u52 h53 h=>mS h fun a54 n55 c56 h=>?_
   refine Ar F7_r9 ?_ (r7 1 3 4 5 6 7 8 Rn) (z7 Sn) Sn
   refine mC h fun u57 h58 h=>mA h fun l59 h=>mC h fun u60 h61 h=>mA h fun l62 h=>mC h fun u63 h64 h=>mT h fun u65 u66 h=>mA h fun l67 h=>mI h fun i68 h=>mf h fun h=>mf h fun h=>mf h fun h=>?_
   refine Ar F7_r10 ?_ (r7 1 3 4 5 6 7 8 (rp 9 9 0 (r1 10 Rn))) (z1 (z8 Sn)) (z1 Sn)
   refine mC h fun u69 h70 h=>mA h fun l71 h=>mC h fun u72 h73 h=>mA h fun l74 h=>mC h fun u75 h76 h=>mT h fun u77 u78 h=>mA h fun l79 h=>mI h fun i80 h=>mf h fun h=>mf h fun h=>mf h fun h=>?_
   refine Ar F7_r11 ?_ (r7 1 3 4 5 6 7 8 (rp 9 9 0 (r2 10 12 Rn))) (z2 (z8 Sn)) (z1 Sn)
   refine mC h fun u81 h82 h=>mT h fun u83 u84 h=>mP h fun p85 h=>mI h fun i86 h=>?_
   refine Ar F7_r12 ?_ (r7 1 3 4 5 6 7 8 (rp 9 9 0 (r3 10 12 14 Rn))) (z3 (z8 Sn)) (z1 Sn)
   refine mC h fun u87 h88 h=>mT h fun u89 u90 h=>mP h fun p91 h=>mI h fun i92 h=>?_
   refine Ar (F7_r13 rfl) ?_ (r7 1 3 4 5 6 7 8 (rp 9 9 0 (r4 10 12 14 16 Rn))) (z4 (z8 Sn)) (z1 Sn)
   refine mt h (fun h=>?_) (fun h=>?_)
   ·refine mt h (fun h=>?_) (fun h=>?_)
    ·refine mt h (fun h=>?_) (fun h=>?_)
     ·refine mt h (fun h=>?_) (fun h=>?_)
      ·refine mt h (fun h=>?_) (fun h=>?_)
       ·refine mt h (fun h=>?_) (fun h=>?_)
        ·refine ⟨h.1,h.2.1,mN h.2.2 fun b93 o94 h=>mV h fun v95 h=>ms h fun s96 h=>?_⟩
         refine mt h (fun h=>?_) (fun h=>?_)
         ·refine ⟨h.1,h.2.1,mN h.2.2 fun b97 o98 h=>mV h fun v99 h=>mI h fun i100 h=>?_⟩
          refine mt h (fun h=>?_) (fun h=>?_)
          ·refine mt h (fun h=>?_) (fun h=>?_)
           ·refine mV h fun v101 h=>ms h fun s102 h=>?_
            refine mt h (fun h=>?_) (fun h=>?_)
            ·refine mV h fun v103 h=>mI h fun i104 h=>?_
             refine mt h (fun h=>?_) (fun h=>?_)
             ·refine mt h (fun h=>?_) (fun h=>?_)
              ·refine mt h (fun h=>?_) (fun h=>?_)
               ·refine mt h (fun h=>?_) (fun h=>?_)
                ·refine mC h fun u105 h106 h=>mI h fun i107 h=>?_
                 refine mt h (fun h=>?_) (fun h=>?_)
                 ·refine mC h fun u108 h109 h=>mB h fun q110 h=>?_
                  refine AWP.ret ?_
                  exact h
                 ·refine AWP.ret ?_
                  exact h
                ·refine AWP.ret ?_
                 exact h
               ·refine AWP.ret ?_
                exact h
              ·refine AWP.ret ?_
               exact h
             ·refine AWP.ret ?_
              exact h
            ·refine AWP.ret ?_
             exact h
           ·refine AWP.ret ?_
            exact h
          ·refine AWP.ret ?_
           exact h
         ·refine AWP.ret ?_
          exact h
        ·refine AWP.ret ?_
         exact h
       ·refine AWP.ret ?_
        exact h
      ·refine AWP.ret ?_
       exact h
     ·refine AWP.ret ?_
      exact h
    ·refine AWP.ret ?_
     exact h
   ·refine AWP.ret ?_
    exact h
end
end Go.Proofs
set_option linter.unusedVariables false
set_option linter.unusedSimpArgs false
set_option maxRecDepth 20000
namespace Go.Proofs
open Go Go.HL
open Go.Exp (Th tlt Ord setW dropW insW)
section
variable {tb:Obj} {hp:HP} {K:Value→HP→Prop}
theorem C7 (ht:TabR tb hp) (hK:K (.bool true) hp):CF Tryd.prog 7 [] hp K:=by
  refine CF.drop (F7_ok hp _ ?_)
  unfold F7
  refine N32ok (startP_ok ht) 1 (startP_1 ht) (by decide) fun s l hp1 h1 P1=>?_
  simp only [tup2V_mk,pp,intV_int]
  show ite2 false _ _
  rw [ite2_false]
  unfold F7_j1
  show ite2 false _ _
  rw [ite2_false]
  have o1:okT (ta 1 80):=ta_ok (okBc rfl) (okZc rfl)
  have o2:okT (ta 2 9):=ta_ok (okBc rfl) (okZc rfl)
  have o3:okT (ta 3 9):=ta_ok (okBc rfl) (okZc rfl)
  have o4:okT (ta 1 81):=ta_ok (okBc rfl) (okZc rfl)
  repeat (refine C34 ?_; rw [aggV_agg])
  refine N33yes P1 1 (by rw [pu_eq]; exact h1) o1 o2 (by decide) rfl fun l2 hp2 h2 P2=>?_
  rw [intV_int]
  repeat (refine C34 ?_; rw [aggV_agg])
  refine N33no (e:=5) (h2.sub (P2.at 1 (pu_eq ..))) o1 o2 (by decide) rfl (by decide) ?_
  rw [intV_int]
  repeat (refine C34 ?_; rw [aggV_agg])
  refine N33yes P2 1 (by rw [pu_eq]; exact h2) o1 o3 (by decide) rfl fun l3 hp3 h3 P3=>?_
  rw [intV_int]
  repeat (refine C34 ?_; rw [aggV_agg])
  have h3':=h3.sub (P3.at 1 (pu_eq ..))
  refine N33no (e:=6) h3' o4 o3 (by decide) rfl (by decide) ?_
  rw [intV_int]
  repeat (refine C34 ?_; rw [aggV_agg])
  refine N33no (e:=1) h3' o4 o3 (by decide) rfl (by decide) ?_
  rw [intV_int]
  refine N37 P3 1 (j:=2) (by omega) (fun b=>by rw [pu_ne _ _ (by omega),pu_ne _ _ (by omega),pu_ne _ _ (by omega)]; exact startP_free (Nat.le_refl _) b) (by rw [pu_eq]; exact h3) fun l4 r hp4 a c w4 h4 hr P4=>?_
  have hpop:popsL Sy.id 4 ([]++[(⟨((0+1:Nat):Int),ta 1 80,ta 2 9,5,⟨#[120]⟩⟩:Sy)]++[⟨((0+1+1:Nat):Int),ta 1 80,ta 3 9,3,⟨#[122]⟩⟩]) (setW ((0+1+1:Nat):Int) 3 (setW ((0+1:Nat):Int) 5 []))=[⟨2,ta 1 80,ta 3 9,3,⟨#[122]⟩⟩]:=by kernel_rfl
  have hrest:restL Sy.due 4 ([]++[(⟨((0+1:Nat):Int),ta 1 80,ta 2 9,5,⟨#[120]⟩⟩:Sy)]++[⟨((0+1+1:Nat):Int),ta 1 80,ta 3 9,3,⟨#[122]⟩⟩])=[⟨1,ta 1 80,ta 2 9,5,⟨#[120]⟩⟩]:=by kernel_rfl
  rw [hpop] at hr ⊢
  rw [hrest] at h4
  rw [slcV_slice]
  repeat (refine C34 ?_; rw [aggV_agg])
  have e1:(pu (pu (pu (pu (pu (startP hp tb) 1 l) 1 l2) 1 l3) 1 l4) 2 r) 1=l4:=by rw [pu_ne _ _ (by omega),pu_eq]
  refine N35yes (y:=⟨1,ta 1 80,ta 2 9,5,⟨#[120]⟩⟩) P4 1 (e1▸h4) o1 o2 rfl fun l5 hp5 h5 P5=>?_
  simp only [tup2V_mk,aggV_agg,intV_int,syz]
  refine ifI rfl (ifI rfl (ifI (by simp [syc_len]) ?_))
  rw [syc_splice]
  repeat (refine C34 ?_; rw [aggV_agg])
  have h5':=h5.sub (P5.at 1 (pu_eq ..))
  refine N35no h5' o1 o2 rfl ?_
  simp only [tup2V_mk,aggV_agg,intV_int]
  refine ifI rfl (ifI rfl (ifI (by simp [syc_len]) ?_))
  refine N32bad h5'.tab (by decide) ?_
  simp only [tup2V_mk,ppn,intV_int]
  refine N32bad h5'.tab (by decide) ?_
  simp only [tup2V_mk,ppn,intV_int]
  have hr':Row hp5 a 1 c 62 13 (syc ⟨2,ta 1 80,ta 3 9,3,⟨#[122]⟩⟩):=by
    refine Row.sub ?_ (P5.at 2 (l:=r) (by rw [pu_ne _ _ (by omega),pu_eq]))
    simpa using hr
  rcases hr' with ⟨_,h0,_⟩ | ⟨b,rfl,_,_,hb⟩
  · cases h0
  have hc12:hp5.cell b 12=some (.string ⟨#[122]⟩):=HP.cell_of hb
  have hc0:hp5.cell b 0=some (.int .i64 2):=HP.cell_of hb
  simp only [List.length_singleton,show ((0:Int)==0)=true from rfl,show ((5:Int)==5)=true from rfl,show ((6:Int)==6)=true from rfl,show ((4:Int)==4)=true from rfl,show ((2:Int)==2)=true from rfl,show ((1:Int)==1)=true from rfl,show (((1:Nat):Int)==1)=true from rfl,
    ite2_true,syc_text,syc_id,syc_due,ldV_some,strV_string,intV_int,str_eq,decide_true,ptrN_some,Int.toNat_zero,Nat.zero_mul,Nat.zero_add,hc12,hc0]
  refine ⟨by omega,by omega,by omega,by omega,?_⟩
  refine C38 h5' ?_
  rw [intV_int]
  show ite2 true _ _
  rw [ite2_true]
  refine C31 h5'.tab fun hp6 hs6=>?_
  rw [boolV_bool]
  refine ⟨hp,(finish ht P5 ?_ h5'.tab).trans hs6,hK⟩
  rw [pu_ne _ _ (by omega),pu_ne _ _ (by omega),pu_ne _ _ (by omega),pu_ne _ _ (by omega),pu_ne _ _ (by omega),pu_ne _ _ (by omega),startP_0]
end
end Go.Proofs
namespace Go.Proofs.YtpkhoemonibajaaDoor
open Go Go.HL Go.Proofs
def theLaid : List (String × DataW Unit) := [("math/bits.deBruijn32tab", Rows.laid_math_bits_deBruijn32tab), ("math/bits.deBruijn64tab", Rows.laid_math_bits_deBruijn64tab), ("internal/strconv.uint64pow10", Rows.laid_internal_strconv_uint64pow10)]
theorem tabOf {W:World} (h:laidMetH Tryd.prog theLaid W):∃ o,hpAll W 0=.obj o∧TabO o:=by
  have h':laidMet Tryd.prog theLaid W:=h
  obtain ⟨ps,hv,_⟩:=h'
  obtain ⟨q1,h1⟩:=laidVars_tail hv
  obtain ⟨q2,h2⟩:=laidVars_tail h1
  have ht : Lib.TabIs Tryd.prog W "internal/strconv.uint64pow10" .u64 Lib.pow10Tab :=
    tabIs_of_vars (rest:=[]) (g:=0) (t:=267) (e:=233) (n:=20) (by kernel_rfl) (by kernel_rfl) (by kernel_rfl) (by kernel_rfl) (by kernel_rfl) (by kernel_rfl) h2
  obtain ⟨o,ho,hO⟩:=tabO_of ht
  exact ⟨o,by unfold hpAll; rw [ho],hO⟩
/-- What a table's cells are. -/
def cellsLaid:DataW Unit→Array Value
  | .agg ps=>(ps.map fun d=>match d with | .lit (.int k n)=>Value.int k n | _=>.int .i64 0).toArray
  | _=>#[]
def layAt (b:Nat) (d:DataW Unit) (h:Array Obj):Array Obj:=h.modify b fun | .cells _ t fz=>.cells (cellsLaid d) t fz | o=>o
noncomputable def laidWorld (os:Os) (I:Input):World:=
  { World.holding Tryd.prog os I with heap:=layAt 0 Rows.laid_internal_strconv_uint64pow10 (layAt 1 Rows.laid_math_bits_deBruijn32tab (layAt 2 Rows.laid_math_bits_deBruijn64tab (World.holding Tryd.prog os I).heap)) }
end Go.Proofs.YtpkhoemonibajaaDoor
