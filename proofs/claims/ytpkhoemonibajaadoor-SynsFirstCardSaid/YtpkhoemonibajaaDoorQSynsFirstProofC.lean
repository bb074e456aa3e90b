/- Parts of the proof of SynsFirstProof: the logic of what is known of memory, functions' contracts. -/
import Derived.Test.YtpkhoemonibajaaDoorQSynsFirstProofB
import Derived.Test.YtpkhoemonibajaaDoorHlAbb
import Derived.Test.YtpkhoemonibajaaDoorProg
import Derived.Test.YtpkhoemonibajaaDoorRows
import Derived.Test.YtpkhoemonibajaaDoorHlLaid
import Derived.Test.YtpkhoemonibajaaDoorHlArg
import Derived.ProofKit
import Derived.LaidLaws
set_option linter.unusedVariables false
set_option linter.unusedSimpArgs false
set_option linter.unusedVariables false
set_option maxRecDepth 20000
set_option maxHeartbeats 4000000
namespace Go.Proofs
open Go Go.HL
section
variable {e E:Env} {x0 x1 x2 x3:Int} {x4 x5:ByteArray} {x13:OA} {x14 x15 x16 x17:Int} {x19:Bool} {x21 x22:Int} {x24:Bool} {k18 k20 k23:List Value} {hp:HP} {K:Env→PV→HP→Prop}
abbrev R6 (p n:Nat):=RW Tryd.prog 177 [18,20,23,129,135,157,163,165] (opsAt Tryd.f6 (pth p)) (List.range n)
theorem F6_r0:R6 2 1 e V0 hp K=
 K (upd e 12 (sB false)) V0 hp:= by kernel_rfl
theorem F6_r1:R6 37 2 e V0 hp K=
 CF Tryd.prog 31 [] hp fun u1 h2=>(boolV u1 fun q3=>K (w2 e 49 (sB q3) 12 (sB q3)) V0 h2):= by kernel_rfl
theorem F6_r2:R6 11 6 e V0 hp K=
 CF Tryd.prog 32 [(.int .i64 5)] hp fun u1 h2=>(tup2V u1 fun u3 u4=>ptrV u3 fun p5=>intV u4 .i64 fun i6=>K (w6 e 51 (sV (.tuple ⟨[(.pointer p5),(.int .i64 i6)]⟩)) 50 (sV (.tuple ⟨[(.pointer p5),(.int .i64 i6)]⟩)) 52 (sP p5) 53 (sI i6) 13 (sP p5) 14 (sI i6)) V0 h2):= by kernel_rfl
theorem F6_r3:R6 39 2 (upd e 14 (sI x14)) V0 hp K=
 K (w3 e 14 (sI x14) 54 (sI x14) 55 (sB ((x14 != 0)))) V0 hp:= by kernel_rfl
theorem F6_r4:R6 151 1 e V0 hp K=
 K (upd e 12 (sB false)) V0 hp:= by kernel_rfl
theorem F6_r5 (h:E=upd (w4 e 13 (sP x13) 4 (sT x4) 2 (sI x2) 1 (sI x1)) 0 (sI x0)):R6 47 9 E V0 hp K=
 CF Tryd.prog 34 [(.int .u8 1),(.int .i64 x0)] hp fun u1 h2=>(aggV u1 fun l3=>CF Tryd.prog 34 [(.int .u8 2),(.int .i64 x1)] h2 fun u4 h5=>aggV u4 fun l6=>CF Tryd.prog 33 [(.pointer x13),(.agg ⟨l3⟩),(.agg ⟨l6⟩),(.int .i64 x2),(.string x4)] h5 fun u7 h8=>intV u7 .i64 fun i9=>K (upd (w8 E 56 (sP x13) 57 (sI x0) 58 (sA l3) 59 (sI x1) 60 (sA l6) 61 (sI x2) 62 (sT x4) 63 (sI i9)) 15 (sI i9)) V0 h8):= by subst h; kernel_rfl
theorem F6_r6 (h:E=upd (w4 e 13 (sP x13) 5 (sT x5) 3 (sI x3) 1 (sI x1)) 0 (sI x0)):R6 95 9 E V0 hp K=
 CF Tryd.prog 34 [(.int .u8 1),(.int .i64 x0)] hp fun u1 h2=>(aggV u1 fun l3=>CF Tryd.prog 34 [(.int .u8 2),(.int .i64 x1)] h2 fun u4 h5=>aggV u4 fun l6=>CF Tryd.prog 33 [(.pointer x13),(.agg ⟨l3⟩),(.agg ⟨l6⟩),(.int .i64 x3),(.string x5)] h5 fun u7 h8=>intV u7 .i64 fun i9=>K (upd (w8 E 64 (sP x13) 65 (sI x0) 66 (sA l3) 67 (sI x1) 68 (sA l6) 69 (sI x3) 70 (sT x5) 71 (sI i9)) 16 (sI i9)) V0 h8):= by subst h; kernel_rfl
theorem F6_r7 (h:E=upd (w4 e 13 (sP x13) 5 (sT x5) 3 (sI x3) 1 (sI x1)) 0 (sI x0)):R6 191 9 E V0 hp K=
 CF Tryd.prog 34 [(.int .u8 2),(.int .i64 x1)] hp fun u1 h2=>(aggV u1 fun l3=>CF Tryd.prog 34 [(.int .u8 1),(.int .i64 x0)] h2 fun u4 h5=>aggV u4 fun l6=>CF Tryd.prog 33 [(.pointer x13),(.agg ⟨l3⟩),(.agg ⟨l6⟩),(.int .i64 x3),(.string x5)] h5 fun u7 h8=>intV u7 .i64 fun i9=>K (upd (w8 E 72 (sP x13) 73 (sI x1) 74 (sA l3) 75 (sI x0) 76 (sA l6) 77 (sI x3) 78 (sT x5) 79 (sI i9)) 17 (sI i9)) V0 h8):= by subst h; kernel_rfl
theorem F6_r8 (h:E=upd (w2 e 13 (sP x13) 1 (sI x1)) 0 (sI x0)):R6 383 12 E V0 hp K=
 CF Tryd.prog 34 [(.int .u8 1),(.int .i64 x0)] hp fun u1 h2=>(aggV u1 fun l3=>CF Tryd.prog 34 [(.int .u8 2),(.int .i64 x1)] h2 fun u4 h5=>aggV u4 fun l6=>CF Tryd.prog 39 [(.pointer x13),(.agg ⟨l3⟩),(.agg ⟨l6⟩)] h5 fun u7 h8=>tup2V u7 fun u9 u10=>aggV u9 fun l11=>boolV u10 fun q12=>if List.length l11=13 then (if List.all l11 one=true then (if 0+List.length l11≤List.length [(Value.int .i64 0),.int .u8 0,.int .u8 0,.int .u8 0,.int .u8 0,.int .i64 0,.int .u8 0,.int .u8 0,.int .u8 0,.int .u8 0,.int .i64 0,.int .i64 0,.string ⟨#[]⟩] then (K (w3 (w8 E 81 (sP x13) 82 (sI x0) 83 (sA l3) 84 (sI x1) 85 (sA l6) 86 (sV (.tuple ⟨[(.agg ⟨l11⟩),(.bool q12)]⟩)) 80 (sV (.tuple ⟨[(.agg ⟨l11⟩),(.bool q12)]⟩)) 87 (sA l11)) 88 (sB q12) 18 (sR 18 0) 19 (sB q12)) (w2 V0 18 (62,[.int .i64 0,.int .u8 0,.int .u8 0,.int .u8 0,.int .u8 0,.int .i64 0,.int .u8 0,.int .u8 0,.int .u8 0,.int .u8 0,.int .i64 0,.int .i64 0,.string ⟨#[]⟩]) 18 (62,(splice [.int .i64 0,.int .u8 0,.int .u8 0,.int .u8 0,.int .u8 0,.int .i64 0,.int .u8 0,.int .u8 0,.int .u8 0,.int .u8 0,.int .i64 0,.int .i64 0,.string ⟨#[]⟩] 0 l11))) h8) else False) else False) else False):= by subst h; kernel_rfl
theorem F6_r9 (h:E=upd (w2 e 13 (sP x13) 1 (sI x1)) 0 (sI x0)):R6 767 12 E (upd V0 18 (62,k18)) hp K=
 CF Tryd.prog 34 [(.int .u8 1),(.int .i64 x0)] hp fun u1 h2=>(aggV u1 fun l3=>CF Tryd.prog 34 [(.int .u8 2),(.int .i64 x1)] h2 fun u4 h5=>aggV u4 fun l6=>CF Tryd.prog 35 [(.pointer x13),(.agg ⟨l3⟩),(.agg ⟨l6⟩)] h5 fun u7 h8=>tup2V u7 fun u9 u10=>aggV u9 fun l11=>intV u10 .i64 fun i12=>if List.length l11=13 then (if List.all l11 one=true then (if 0+List.length l11≤List.length [(Value.int .i64 0),.int .u8 0,.int .u8 0,.int .u8 0,.int .u8 0,.int .i64 0,.int .u8 0,.int .u8 0,.int .u8 0,.int .u8 0,.int .i64 0,.int .i64 0,.string ⟨#[]⟩] then (K (w3 (w8 E 90 (sP x13) 91 (sI x0) 92 (sA l3) 93 (sI x1) 94 (sA l6) 95 (sV (.tuple ⟨[(.agg ⟨l11⟩),(.int .i64 i12)]⟩)) 89 (sV (.tuple ⟨[(.agg ⟨l11⟩),(.int .i64 i12)]⟩)) 96 (sA l11)) 97 (sI i12) 20 (sR 20 0) 21 (sI i12)) (w3 V0 18 (62,k18) 20 (62,[.int .i64 0,.int .u8 0,.int .u8 0,.int .u8 0,.int .u8 0,.int .i64 0,.int .u8 0,.int .u8 0,.int .u8 0,.int .u8 0,.int .i64 0,.int .i64 0,.string ⟨#[]⟩]) 20 (62,(splice [.int .i64 0,.int .u8 0,.int .u8 0,.int .u8 0,.int .u8 0,.int .i64 0,.int .u8 0,.int .u8 0,.int .u8 0,.int .u8 0,.int .i64 0,.int .i64 0,.string ⟨#[]⟩] 0 l11))) h8) else False) else False) else False):= by subst h; kernel_rfl
theorem F6_r10 (h:E=upd (w4 e 13 (sP x13) 5 (sT x5) 3 (sI x3) 1 (sI x1)) 0 (sI x0)):R6 1535 9 E (w2 V0 20 (62,k20) 18 (62,k18)) hp K=
 CF Tryd.prog 34 [(.int .u8 1),(.int .i64 x0)] hp fun u1 h2=>(aggV u1 fun l3=>CF Tryd.prog 34 [(.int .u8 2),(.int .i64 x1)] h2 fun u4 h5=>aggV u4 fun l6=>CF Tryd.prog 33 [(.pointer x13),(.agg ⟨l3⟩),(.agg ⟨l6⟩),(.int .i64 x3),(.string x5)] h5 fun u7 h8=>intV u7 .i64 fun i9=>K (upd (w8 E 98 (sP x13) 99 (sI x0) 100 (sA l3) 101 (sI x1) 102 (sA l6) 103 (sI x3) 104 (sT x5) 105 (sI i9)) 22 (sI i9)) (w2 V0 20 (62,k20) 18 (62,k18)) h8):= by subst h; kernel_rfl
theorem F6_r11 (h:E=upd (w2 e 13 (sP x13) 1 (sI x1)) 0 (sI x0)):R6 3071 12 E (w2 V0 20 (62,k20) 18 (62,k18)) hp K=
 CF Tryd.prog 34 [(.int .u8 1),(.int .i64 x0)] hp fun u1 h2=>(aggV u1 fun l3=>CF Tryd.prog 34 [(.int .u8 2),(.int .i64 x1)] h2 fun u4 h5=>aggV u4 fun l6=>CF Tryd.prog 39 [(.pointer x13),(.agg ⟨l3⟩),(.agg ⟨l6⟩)] h5 fun u7 h8=>tup2V u7 fun u9 u10=>aggV u9 fun l11=>boolV u10 fun q12=>if List.length l11=13 then (if List.all l11 one=true then (if 0+List.length l11≤List.length [(Value.int .i64 0),.int .u8 0,.int .u8 0,.int .u8 0,.int .u8 0,.int .i64 0,.int .u8 0,.int .u8 0,.int .u8 0,.int .u8 0,.int .i64 0,.int .i64 0,.string ⟨#[]⟩] then (K (w3 (w8 E 107 (sP x13) 108 (sI x0) 109 (sA l3) 110 (sI x1) 111 (sA l6) 112 (sV (.tuple ⟨[(.agg ⟨l11⟩),(.bool q12)]⟩)) 106 (sV (.tuple ⟨[(.agg ⟨l11⟩),(.bool q12)]⟩)) 113 (sA l11)) 114 (sB q12) 23 (sR 23 0) 24 (sB q12)) (w4 V0 20 (62,k20) 18 (62,k18) 23 (62,[.int .i64 0,.int .u8 0,.int .u8 0,.int .u8 0,.int .u8 0,.int .i64 0,.int .u8 0,.int .u8 0,.int .u8 0,.int .u8 0,.int .i64 0,.int .i64 0,.string ⟨#[]⟩]) 23 (62,(splice [.int .i64 0,.int .u8 0,.int .u8 0,.int .u8 0,.int .u8 0,.int .i64 0,.int .u8 0,.int .u8 0,.int .u8 0,.int .u8 0,.int .i64 0,.int .i64 0,.string ⟨#[]⟩] 0 l11))) h8) else False) else False) else False):= by subst h; kernel_rfl
theorem F6_r12 (h:E=upd (w5 (w8 e 24 (sB x24) 23 (sR 23 0) 22 (sI x22) 21 (sI x21) 20 (sR 20 0) 19 (sB x19) 18 (sR 18 0) 17 (sI x17)) 16 (sI x16) 15 (sI x15) 13 (sP x13) 5 (sT x5) 4 (sT x4)) 2 (sI x2)):R6 6143 63 E (w3 V0 23 (62,k23) 20 (62,k20) 18 (62,k18)) hp K=
 ite2 (x15==0) (ite2 (x16==5) (ite2 (x17==0) (ite2 x19 (ldV (k18)[11]? fun v1=>intV v1 .i64 fun i2=>ite2 (i2==x2) (ldV (k18)[12]? fun v3=>strV v3 fun s4=>ite2 ((ByteArray.toList s4)==(ByteArray.toList x4)) (ite2 (x21==0) (ldL (cellsN k20 0 13) fun l5=>ldL (cellsN k18 0 13) fun l6=>eqAgg Tryd.prog 62 l5 l6 fun q7=>ite2 q7 (ite2 (x22==0) (ite2 x24 (ldV (k23)[12]? fun v8=>strV v8 fun s9=>ite2 ((ByteArray.toList s9)==(ByteArray.toList x5)) (ldV (k23)[0]? fun v10=>intV v10 .i64 fun i11=>ldV (k18)[0]? fun v12=>intV v12 .i64 fun i13=>ite2 (decide (i11 > i13)) (CF Tryd.prog 38 [(.pointer x13)] hp fun u14 h15=>intV u14 .i64 fun i16=>ite2 (i16==2) (CF Tryd.prog 31 [] h15 fun u17 h18=>boolV u17 fun q19=>K (w7 (w8 (w8 (w8 (w8 (w8 (w8 (w8 E 115 (sI x15) 116 (sB ((x15==0))) 117 (sB true) 118 (sI x16) 119 (sB ((x16==5))) 120 (sB ((x16==5))) 121 (sB true) 122 (sI x17)) 123 (sB ((x17==0))) 124 (sB ((x17==0))) 125 (sB true) 126 (sB x19) 127 (sB x19) 128 (sB true) 129 (sR 18 11) 130 (sI i2)) 131 (sI x2) 132 (sB ((i2==x2))) 133 (sB ((i2==x2))) 134 (sB true) 135 (sR 18 12) 136 (sT s4) 137 (sT x4) 138 (sB (((ByteArray.toList s4)==(ByteArray.toList x4))))) 139 (sB (((ByteArray.toList s4)==(ByteArray.toList x4)))) 140 (sB true) 141 (sI x21) 142 (sB ((x21==0))) 143 (sB ((x21==0))) 144 (sB true) 145 (sA l5) 146 (sA l6)) 147 (sB q7) 148 (sB q7) 149 (sB true) 150 (sI x22) 151 (sB ((x22==0))) 152 (sB ((x22==0))) 153 (sB true) 154 (sB x24)) 155 (sB x24) 156 (sB true) 157 (sR 23 12) 158 (sT s9) 159 (sT x5) 160 (sB (((ByteArray.toList s9)==(ByteArray.toList x5)))) 161 (sB (((ByteArray.toList s9)==(ByteArray.toList x5)))) 162 (sB true)) 163 (sR 23 0) 164 (sI i11) 165 (sR 18 0) 166 (sI i13) 167 (sB (decide (i11 > i13))) 168 (sB (decide (i11 > i13))) 169 (sB true) 170 (sP x13)) 171 (sI i16) 172 (sB ((i16==2))) 173 (sB ((i16==2))) 174 (sB true) 175 (sB q19) 176 (sB q19) 12 (sB q19)) (w3 V0 23 (62,k23) 20 (62,k20) 18 (62,k18)) h18) (K (w7 (w8 (w8 (w8 (w8 (w8 (w8 (w8 E 115 (sI x15) 116 (sB ((x15==0))) 117 (sB true) 118 (sI x16) 119 (sB ((x16==5))) 120 (sB ((x16==5))) 121 (sB true) 122 (sI x17)) 123 (sB ((x17==0))) 124 (sB ((x17==0))) 125 (sB true) 126 (sB x19) 127 (sB x19) 128 (sB true) 129 (sR 18 11) 130 (sI i2)) 131 (sI x2) 132 (sB ((i2==x2))) 133 (sB ((i2==x2))) 134 (sB true) 135 (sR 18 12) 136 (sT s4) 137 (sT x4) 138 (sB (((ByteArray.toList s4)==(ByteArray.toList x4))))) 139 (sB (((ByteArray.toList s4)==(ByteArray.toList x4)))) 140 (sB true) 141 (sI x21) 142 (sB ((x21==0))) 143 (sB ((x21==0))) 144 (sB true) 145 (sA l5) 146 (sA l6)) 147 (sB q7) 148 (sB q7) 149 (sB true) 150 (sI x22) 151 (sB ((x22==0))) 152 (sB ((x22==0))) 153 (sB true) 154 (sB x24)) 155 (sB x24) 156 (sB true) 157 (sR 23 12) 158 (sT s9) 159 (sT x5) 160 (sB (((ByteArray.toList s9)==(ByteArray.toList x5)))) 161 (sB (((ByteArray.toList s9)==(ByteArray.toList x5)))) 162 (sB true)) 163 (sR 23 0) 164 (sI i11) 165 (sR 18 0) 166 (sI i13) 167 (sB (decide (i11 > i13))) 168 (sB (decide (i11 > i13))) 169 (sB true) 170 (sP x13)) 171 (sI i16) 172 (sB ((i16==2))) 173 (sB ((i16==2))) 174 (sB false) 175 sU 176 (sB false) 12 (sB false)) (w3 V0 23 (62,k23) 20 (62,k20) 18 (62,k18)) h15)) (K (w7 (w8 (w8 (w8 (w8 (w8 (w8 (w8 E 115 (sI x15) 116 (sB ((x15==0))) 117 (sB true) 118 (sI x16) 119 (sB ((x16==5))) 120 (sB ((x16==5))) 121 (sB true) 122 (sI x17)) 123 (sB ((x17==0))) 124 (sB ((x17==0))) 125 (sB true) 126 (sB x19) 127 (sB x19) 128 (sB true) 129 (sR 18 11) 130 (sI i2)) 131 (sI x2) 132 (sB ((i2==x2))) 133 (sB ((i2==x2))) 134 (sB true) 135 (sR 18 12) 136 (sT s4) 137 (sT x4) 138 (sB (((ByteArray.toList s4)==(ByteArray.toList x4))))) 139 (sB (((ByteArray.toList s4)==(ByteArray.toList x4)))) 140 (sB true) 141 (sI x21) 142 (sB ((x21==0))) 143 (sB ((x21==0))) 144 (sB true) 145 (sA l5) 146 (sA l6)) 147 (sB q7) 148 (sB q7) 149 (sB true) 150 (sI x22) 151 (sB ((x22==0))) 152 (sB ((x22==0))) 153 (sB true) 154 (sB x24)) 155 (sB x24) 156 (sB true) 157 (sR 23 12) 158 (sT s9) 159 (sT x5) 160 (sB (((ByteArray.toList s9)==(ByteArray.toList x5)))) 161 (sB (((ByteArray.toList s9)==(ByteArray.toList x5)))) 162 (sB true)) 163 (sR 23 0) 164 (sI i11) 165 (sR 18 0) 166 (sI i13) 167 (sB (decide (i11 > i13))) 168 (sB (decide (i11 > i13))) 169 (sB false) 170 sU) 171 sU 172 sU 173 (sB false) 174 (sB false) 175 sU 176 (sB false) 12 (sB false)) (w3 V0 23 (62,k23) 20 (62,k20) 18 (62,k18)) hp)) (K (w7 (w8 (w8 (w8 (w8 (w8 (w8 (w8 E 115 (sI x15) 116 (sB ((x15==0))) 117 (sB true) 118 (sI x16) 119 (sB ((x16==5))) 120 (sB ((x16==5))) 121 (sB true) 122 (sI x17)) 123 (sB ((x17==0))) 124 (sB ((x17==0))) 125 (sB true) 126 (sB x19) 127 (sB x19) 128 (sB true) 129 (sR 18 11) 130 (sI i2)) 131 (sI x2) 132 (sB ((i2==x2))) 133 (sB ((i2==x2))) 134 (sB true) 135 (sR 18 12) 136 (sT s4) 137 (sT x4) 138 (sB (((ByteArray.toList s4)==(ByteArray.toList x4))))) 139 (sB (((ByteArray.toList s4)==(ByteArray.toList x4)))) 140 (sB true) 141 (sI x21) 142 (sB ((x21==0))) 143 (sB ((x21==0))) 144 (sB true) 145 (sA l5) 146 (sA l6)) 147 (sB q7) 148 (sB q7) 149 (sB true) 150 (sI x22) 151 (sB ((x22==0))) 152 (sB ((x22==0))) 153 (sB true) 154 (sB x24)) 155 (sB x24) 156 (sB true) 157 (sR 23 12) 158 (sT s9) 159 (sT x5) 160 (sB (((ByteArray.toList s9)==(ByteArray.toList x5)))) 161 (sB (((ByteArray.toList s9)==(ByteArray.toList x5)))) 162 (sB false)) 163 sU 164 sU 165 sU 166 sU 167 sU 168 (sB false) 169 (sB false) 170 sU) 171 sU 172 sU 173 (sB false) 174 (sB false) 175 sU 176 (sB false) 12 (sB false)) (w3 V0 23 (62,k23) 20 (62,k20) 18 (62,k18)) hp)) (K (w7 (w8 (w8 (w8 (w8 (w8 (w8 (w8 E 115 (sI x15) 116 (sB ((x15==0))) 117 (sB true) 118 (sI x16) 119 (sB ((x16==5))) 120 (sB ((x16==5))) 121 (sB true) 122 (sI x17)) 123 (sB ((x17==0))) 124 (sB ((x17==0))) 125 (sB true) 126 (sB x19) 127 (sB x19) 128 (sB true) 129 (sR 18 11) 130 (sI i2)) 131 (sI x2) 132 (sB ((i2==x2))) 133 (sB ((i2==x2))) 134 (sB true) 135 (sR 18 12) 136 (sT s4) 137 (sT x4) 138 (sB (((ByteArray.toList s4)==(ByteArray.toList x4))))) 139 (sB (((ByteArray.toList s4)==(ByteArray.toList x4)))) 140 (sB true) 141 (sI x21) 142 (sB ((x21==0))) 143 (sB ((x21==0))) 144 (sB true) 145 (sA l5) 146 (sA l6)) 147 (sB q7) 148 (sB q7) 149 (sB true) 150 (sI x22) 151 (sB ((x22==0))) 152 (sB ((x22==0))) 153 (sB true) 154 (sB x24)) 155 (sB x24) 156 (sB false) 157 sU 158 sU 159 sU 160 sU 161 (sB false) 162 (sB false)) 163 sU 164 sU 165 sU 166 sU 167 sU 168 (sB false) 169 (sB false) 170 sU) 171 sU 172 sU 173 (sB false) 174 (sB false) 175 sU 176 (sB false) 12 (sB false)) (w3 V0 23 (62,k23) 20 (62,k20) 18 (62,k18)) hp)) (K (w7 (w8 (w8 (w8 (w8 (w8 (w8 (w8 E 115 (sI x15) 116 (sB ((x15==0))) 117 (sB true) 118 (sI x16) 119 (sB ((x16==5))) 120 (sB ((x16==5))) 121 (sB true) 122 (sI x17)) 123 (sB ((x17==0))) 124 (sB ((x17==0))) 125 (sB true) 126 (sB x19) 127 (sB x19) 128 (sB true) 129 (sR 18 11) 130 (sI i2)) 131 (sI x2) 132 (sB ((i2==x2))) 133 (sB ((i2==x2))) 134 (sB true) 135 (sR 18 12) 136 (sT s4) 137 (sT x4) 138 (sB (((ByteArray.toList s4)==(ByteArray.toList x4))))) 139 (sB (((ByteArray.toList s4)==(ByteArray.toList x4)))) 140 (sB true) 141 (sI x21) 142 (sB ((x21==0))) 143 (sB ((x21==0))) 144 (sB true) 145 (sA l5) 146 (sA l6)) 147 (sB q7) 148 (sB q7) 149 (sB true) 150 (sI x22) 151 (sB ((x22==0))) 152 (sB ((x22==0))) 153 (sB false) 154 sU) 155 (sB false) 156 (sB false) 157 sU 158 sU 159 sU 160 sU 161 (sB false) 162 (sB false)) 163 sU 164 sU 165 sU 166 sU 167 sU 168 (sB false) 169 (sB false) 170 sU) 171 sU 172 sU 173 (sB false) 174 (sB false) 175 sU 176 (sB false) 12 (sB false)) (w3 V0 23 (62,k23) 20 (62,k20) 18 (62,k18)) hp)) (K (w7 (w8 (w8 (w8 (w8 (w8 (w8 (w8 E 115 (sI x15) 116 (sB ((x15==0))) 117 (sB true) 118 (sI x16) 119 (sB ((x16==5))) 120 (sB ((x16==5))) 121 (sB true) 122 (sI x17)) 123 (sB ((x17==0))) 124 (sB ((x17==0))) 125 (sB true) 126 (sB x19) 127 (sB x19) 128 (sB true) 129 (sR 18 11) 130 (sI i2)) 131 (sI x2) 132 (sB ((i2==x2))) 133 (sB ((i2==x2))) 134 (sB true) 135 (sR 18 12) 136 (sT s4) 137 (sT x4) 138 (sB (((ByteArray.toList s4)==(ByteArray.toList x4))))) 139 (sB (((ByteArray.toList s4)==(ByteArray.toList x4)))) 140 (sB true) 141 (sI x21) 142 (sB ((x21==0))) 143 (sB ((x21==0))) 144 (sB true) 145 (sA l5) 146 (sA l6)) 147 (sB q7) 148 (sB q7) 149 (sB false) 150 sU 151 sU 152 (sB false) 153 (sB false) 154 sU) 155 (sB false) 156 (sB false) 157 sU 158 sU 159 sU 160 sU 161 (sB false) 162 (sB false)) 163 sU 164 sU 165 sU 166 sU 167 sU 168 (sB false) 169 (sB false) 170 sU) 171 sU 172 sU 173 (sB false) 174 (sB false) 175 sU 176 (sB false) 12 (sB false)) (w3 V0 23 (62,k23) 20 (62,k20) 18 (62,k18)) hp)) (K (w7 (w8 (w8 (w8 (w8 (w8 (w8 (w8 E 115 (sI x15) 116 (sB ((x15==0))) 117 (sB true) 118 (sI x16) 119 (sB ((x16==5))) 120 (sB ((x16==5))) 121 (sB true) 122 (sI x17)) 123 (sB ((x17==0))) 124 (sB ((x17==0))) 125 (sB true) 126 (sB x19) 127 (sB x19) 128 (sB true) 129 (sR 18 11) 130 (sI i2)) 131 (sI x2) 132 (sB ((i2==x2))) 133 (sB ((i2==x2))) 134 (sB true) 135 (sR 18 12) 136 (sT s4) 137 (sT x4) 138 (sB (((ByteArray.toList s4)==(ByteArray.toList x4))))) 139 (sB (((ByteArray.toList s4)==(ByteArray.toList x4)))) 140 (sB true) 141 (sI x21) 142 (sB ((x21==0))) 143 (sB ((x21==0))) 144 (sB false) 145 sU 146 sU) 147 sU 148 (sB false) 149 (sB false) 150 sU 151 sU 152 (sB false) 153 (sB false) 154 sU) 155 (sB false) 156 (sB false) 157 sU 158 sU 159 sU 160 sU 161 (sB false) 162 (sB false)) 163 sU 164 sU 165 sU 166 sU 167 sU 168 (sB false) 169 (sB false) 170 sU) 171 sU 172 sU 173 (sB false) 174 (sB false) 175 sU 176 (sB false) 12 (sB false)) (w3 V0 23 (62,k23) 20 (62,k20) 18 (62,k18)) hp)) (K (w7 (w8 (w8 (w8 (w8 (w8 (w8 (w8 E 115 (sI x15) 116 (sB ((x15==0))) 117 (sB true) 118 (sI x16) 119 (sB ((x16==5))) 120 (sB ((x16==5))) 121 (sB true) 122 (sI x17)) 123 (sB ((x17==0))) 124 (sB ((x17==0))) 125 (sB true) 126 (sB x19) 127 (sB x19) 128 (sB true) 129 (sR 18 11) 130 (sI i2)) 131 (sI x2) 132 (sB ((i2==x2))) 133 (sB ((i2==x2))) 134 (sB true) 135 (sR 18 12) 136 (sT s4) 137 (sT x4) 138 (sB (((ByteArray.toList s4)==(ByteArray.toList x4))))) 139 (sB (((ByteArray.toList s4)==(ByteArray.toList x4)))) 140 (sB false) 141 sU 142 sU 143 (sB false) 144 (sB false) 145 sU 146 sU) 147 sU 148 (sB false) 149 (sB false) 150 sU 151 sU 152 (sB false) 153 (sB false) 154 sU) 155 (sB false) 156 (sB false) 157 sU 158 sU 159 sU 160 sU 161 (sB false) 162 (sB false)) 163 sU 164 sU 165 sU 166 sU 167 sU 168 (sB false) 169 (sB false) 170 sU) 171 sU 172 sU 173 (sB false) 174 (sB false) 175 sU 176 (sB false) 12 (sB false)) (w3 V0 23 (62,k23) 20 (62,k20) 18 (62,k18)) hp)) (K (w7 (w8 (w8 (w8 (w8 (w8 (w8 (w8 E 115 (sI x15) 116 (sB ((x15==0))) 117 (sB true) 118 (sI x16) 119 (sB ((x16==5))) 120 (sB ((x16==5))) 121 (sB true) 122 (sI x17)) 123 (sB ((x17==0))) 124 (sB ((x17==0))) 125 (sB true) 126 (sB x19) 127 (sB x19) 128 (sB true) 129 (sR 18 11) 130 (sI i2)) 131 (sI x2) 132 (sB ((i2==x2))) 133 (sB ((i2==x2))) 134 (sB false) 135 sU 136 sU 137 sU 138 sU) 139 (sB false) 140 (sB false) 141 sU 142 sU 143 (sB false) 144 (sB false) 145 sU 146 sU) 147 sU 148 (sB false) 149 (sB false) 150 sU 151 sU 152 (sB false) 153 (sB false) 154 sU) 155 (sB false) 156 (sB false) 157 sU 158 sU 159 sU 160 sU 161 (sB false) 162 (sB false)) 163 sU 164 sU 165 sU 166 sU 167 sU 168 (sB false) 169 (sB false) 170 sU) 171 sU 172 sU 173 (sB false) 174 (sB false) 175 sU 176 (sB false) 12 (sB false)) (w3 V0 23 (62,k23) 20 (62,k20) 18 (62,k18)) hp)) (K (w7 (w8 (w8 (w8 (w8 (w8 (w8 (w8 E 115 (sI x15) 116 (sB ((x15==0))) 117 (sB true) 118 (sI x16) 119 (sB ((x16==5))) 120 (sB ((x16==5))) 121 (sB true) 122 (sI x17)) 123 (sB ((x17==0))) 124 (sB ((x17==0))) 125 (sB true) 126 (sB x19) 127 (sB x19) 128 (sB false) 129 sU 130 sU) 131 sU 132 sU 133 (sB false) 134 (sB false) 135 sU 136 sU 137 sU 138 sU) 139 (sB false) 140 (sB false) 141 sU 142 sU 143 (sB false) 144 (sB false) 145 sU 146 sU) 147 sU 148 (sB false) 149 (sB false) 150 sU 151 sU 152 (sB false) 153 (sB false) 154 sU) 155 (sB false) 156 (sB false) 157 sU 158 sU 159 sU 160 sU 161 (sB false) 162 (sB false)) 163 sU 164 sU 165 sU 166 sU 167 sU 168 (sB false) 169 (sB false) 170 sU) 171 sU 172 sU 173 (sB false) 174 (sB false) 175 sU 176 (sB false) 12 (sB false)) (w3 V0 23 (62,k23) 20 (62,k20) 18 (62,k18)) hp)) (K (w7 (w8 (w8 (w8 (w8 (w8 (w8 (w8 E 115 (sI x15) 116 (sB ((x15==0))) 117 (sB true) 118 (sI x16) 119 (sB ((x16==5))) 120 (sB ((x16==5))) 121 (sB true) 122 (sI x17)) 123 (sB ((x17==0))) 124 (sB ((x17==0))) 125 (sB false) 126 sU 127 (sB false) 128 (sB false) 129 sU 130 sU) 131 sU 132 sU 133 (sB false) 134 (sB false) 135 sU 136 sU 137 sU 138 sU) 139 (sB false) 140 (sB false) 141 sU 142 sU 143 (sB false) 144 (sB false) 145 sU 146 sU) 147 sU 148 (sB false) 149 (sB false) 150 sU 151 sU 152 (sB false) 153 (sB false) 154 sU) 155 (sB false) 156 (sB false) 157 sU 158 sU 159 sU 160 sU 161 (sB false) 162 (sB false)) 163 sU 164 sU 165 sU 166 sU 167 sU 168 (sB false) 169 (sB false) 170 sU) 171 sU 172 sU 173 (sB false) 174 (sB false) 175 sU 176 (sB false) 12 (sB false)) (w3 V0 23 (62,k23) 20 (62,k20) 18 (62,k18)) hp)) (K (w7 (w8 (w8 (w8 (w8 (w8 (w8 (w8 E 115 (sI x15) 116 (sB ((x15==0))) 117 (sB true) 118 (sI x16) 119 (sB ((x16==5))) 120 (sB ((x16==5))) 121 (sB false) 122 sU) 123 sU 124 (sB false) 125 (sB false) 126 sU 127 (sB false) 128 (sB false) 129 sU 130 sU) 131 sU 132 sU 133 (sB false) 134 (sB false) 135 sU 136 sU 137 sU 138 sU) 139 (sB false) 140 (sB false) 141 sU 142 sU 143 (sB false) 144 (sB false) 145 sU 146 sU) 147 sU 148 (sB false) 149 (sB false) 150 sU 151 sU 152 (sB false) 153 (sB false) 154 sU) 155 (sB false) 156 (sB false) 157 sU 158 sU 159 sU 160 sU 161 (sB false) 162 (sB false)) 163 sU 164 sU 165 sU 166 sU 167 sU 168 (sB false) 169 (sB false) 170 sU) 171 sU 172 sU 173 (sB false) 174 (sB false) 175 sU 176 (sB false) 12 (sB false)) (w3 V0 23 (62,k23) 20 (62,k20) 18 (62,k18)) hp)) (K (w7 (w8 (w8 (w8 (w8 (w8 (w8 (w8 E 115 (sI x15) 116 (sB ((x15==0))) 117 (sB false) 118 sU 119 sU 120 (sB false) 121 (sB false) 122 sU) 123 sU 124 (sB false) 125 (sB false) 126 sU 127 (sB false) 128 (sB false) 129 sU 130 sU) 131 sU 132 sU 133 (sB false) 134 (sB false) 135 sU 136 sU 137 sU 138 sU) 139 (sB false) 140 (sB false) 141 sU 142 sU 143 (sB false) 144 (sB false) 145 sU 146 sU) 147 sU 148 (sB false) 149 (sB false) 150 sU 151 sU 152 (sB false) 153 (sB false) 154 sU) 155 (sB false) 156 (sB false) 157 sU 158 sU 159 sU 160 sU 161 (sB false) 162 (sB false)) 163 sU 164 sU 165 sU 166 sU 167 sU 168 (sB false) 169 (sB false) 170 sU) 171 sU 172 sU 173 (sB false) 174 (sB false) 175 sU 176 (sB false) 12 (sB false)) (w3 V0 23 (62,k23) 20 (62,k20) 18 (62,k18)) hp):= by subst h; kernel_rfl
def F6_j1 (x0 x1 x2 x3:Int) (x4 x5:ByteArray) (x48:Bool) (hp:HP) (K:Kh):Prop:=
  (ite2 x48 (CF Tryd.prog 31 [] hp fun u1 h2=>boolV u1 fun q3=>K (.bool q3) h2) (CF Tryd.prog 32 [(.int .i64 5)] hp fun u4 h5=>tup2V u4 fun u6 u7=>ptrV u6 fun p8=>intV u7 .i64 fun i9=>ite2 (i9 != 0) (K (.bool false) h5) (CF Tryd.prog 34 [(.int .u8 1),(.int .i64 x0)] h5 fun u10 h11=>aggV u10 fun l12=>CF Tryd.prog 34 [(.int .u8 2),(.int .i64 x1)] h11 fun u13 h14=>aggV u13 fun l15=>CF Tryd.prog 33 [(.pointer p8),(.agg ⟨l12⟩),(.agg ⟨l15⟩),(.int .i64 x2),(.string x4)] h14 fun u16 h17=>intV u16 .i64 fun i18=>CF Tryd.prog 34 [(.int .u8 1),(.int .i64 x0)] h17 fun u19 h20=>aggV u19 fun l21=>CF Tryd.prog 34 [(.int .u8 2),(.int .i64 x1)] h20 fun u22 h23=>aggV u22 fun l24=>CF Tryd.prog 33 [(.pointer p8),(.agg ⟨l21⟩),(.agg ⟨l24⟩),(.int .i64 x3),(.string x5)] h23 fun u25 h26=>intV u25 .i64 fun i27=>CF Tryd.prog 34 [(.int .u8 2),(.int .i64 x1)] h26 fun u28 h29=>aggV u28 fun l30=>CF Tryd.prog 34 [(.int .u8 1),(.int .i64 x0)] h29 fun u31 h32=>aggV u31 fun l33=>CF Tryd.prog 33 [(.pointer p8),(.agg ⟨l30⟩),(.agg ⟨l33⟩),(.int .i64 x3),(.string x5)] h32 fun u34 h35=>intV u34 .i64 fun i36=>CF Tryd.prog 34 [(.int .u8 1),(.int .i64 x0)] h35 fun u37 h38=>aggV u37 fun l39=>CF Tryd.prog 34 [(.int .u8 2),(.int .i64 x1)] h38 fun u40 h41=>aggV u40 fun l42=>CF Tryd.prog 39 [(.pointer p8),(.agg ⟨l39⟩),(.agg ⟨l42⟩)] h41 fun u43 h44=>tup2V u43 fun u45 u46=>aggV u45 fun l47=>boolV u46 fun q48=>if List.length l47=13 then (if List.all l47 one=true then (if 0+List.length l47≤List.length [(Value.int .i64 0),.int .u8 0,.int .u8 0,.int .u8 0,.int .u8 0,.int .i64 0,.int .u8 0,.int .u8 0,.int .u8 0,.int .u8 0,.int .i64 0,.int .i64 0,.string ⟨#[]⟩] then (CF Tryd.prog 34 [(.int .u8 1),(.int .i64 x0)] h44 fun u49 h50=>aggV u49 fun l51=>CF Tryd.prog 34 [(.int .u8 2),(.int .i64 x1)] h50 fun u52 h53=>aggV u52 fun l54=>CF Tryd.prog 35 [(.pointer p8),(.agg ⟨l51⟩),(.agg ⟨l54⟩)] h53 fun u55 h56=>tup2V u55 fun u57 u58=>aggV u57 fun l59=>intV u58 .i64 fun i60=>if List.length l59=13 then (if List.all l59 one=true then (if 0+List.length l59≤List.length [(Value.int .i64 0),.int .u8 0,.int .u8 0,.int .u8 0,.int .u8 0,.int .i64 0,.int .u8 0,.int .u8 0,.int .u8 0,.int .u8 0,.int .i64 0,.int .i64 0,.string ⟨#[]⟩] then (CF Tryd.prog 34 [(.int .u8 1),(.int .i64 x0)] h56 fun u61 h62=>aggV u61 fun l63=>CF Tryd.prog 34 [(.int .u8 2),(.int .i64 x1)] h62 fun u64 h65=>aggV u64 fun l66=>CF Tryd.prog 33 [(.pointer p8),(.agg ⟨l63⟩),(.agg ⟨l66⟩),(.int .i64 x3),(.string x5)] h65 fun u67 h68=>intV u67 .i64 fun i69=>CF Tryd.prog 34 [(.int .u8 1),(.int .i64 x0)] h68 fun u70 h71=>aggV u70 fun l72=>CF Tryd.prog 34 [(.int .u8 2),(.int .i64 x1)] h71 fun u73 h74=>aggV u73 fun l75=>CF Tryd.prog 39 [(.pointer p8),(.agg ⟨l72⟩),(.agg ⟨l75⟩)] h74 fun u76 h77=>tup2V u76 fun u78 u79=>aggV u78 fun l80=>boolV u79 fun q81=>if List.length l80=13 then (if List.all l80 one=true then (if 0+List.length l80≤List.length [(Value.int .i64 0),.int .u8 0,.int .u8 0,.int .u8 0,.int .u8 0,.int .i64 0,.int .u8 0,.int .u8 0,.int .u8 0,.int .u8 0,.int .i64 0,.int .i64 0,.string ⟨#[]⟩] then (ite2 (i18==0) (ite2 (i27==5) (ite2 (i36==0) (ite2 q48 (ldV ((splice [.int .i64 0,.int .u8 0,.int .u8 0,.int .u8 0,.int .u8 0,.int .i64 0,.int .u8 0,.int .u8 0,.int .u8 0,.int .u8 0,.int .i64 0,.int .i64 0,.string ⟨#[]⟩] 0 l47))[11]? fun v82=>intV v82 .i64 fun i83=>ite2 (i83==x2) (ldV ((splice [.int .i64 0,.int .u8 0,.int .u8 0,.int .u8 0,.int .u8 0,.int .i64 0,.int .u8 0,.int .u8 0,.int .u8 0,.int .u8 0,.int .i64 0,.int .i64 0,.string ⟨#[]⟩] 0 l47))[12]? fun v84=>strV v84 fun s85=>ite2 ((ByteArray.toList s85)==(ByteArray.toList x4)) (ite2 (i60==0) (ldL (cellsN (splice [.int .i64 0,.int .u8 0,.int .u8 0,.int .u8 0,.int .u8 0,.int .i64 0,.int .u8 0,.int .u8 0,.int .u8 0,.int .u8 0,.int .i64 0,.int .i64 0,.string ⟨#[]⟩] 0 l59) 0 13) fun l86=>ldL (cellsN (splice [.int .i64 0,.int .u8 0,.int .u8 0,.int .u8 0,.int .u8 0,.int .i64 0,.int .u8 0,.int .u8 0,.int .u8 0,.int .u8 0,.int .i64 0,.int .i64 0,.string ⟨#[]⟩] 0 l47) 0 13) fun l87=>eqAgg Tryd.prog 62 l86 l87 fun q88=>ite2 q88 (ite2 (i69==0) (ite2 q81 (ldV ((splice [.int .i64 0,.int .u8 0,.int .u8 0,.int .u8 0,.int .u8 0,.int .i64 0,.int .u8 0,.int .u8 0,.int .u8 0,.int .u8 0,.int .i64 0,.int .i64 0,.string ⟨#[]⟩] 0 l80))[12]? fun v89=>strV v89 fun s90=>ite2 ((ByteArray.toList s90)==(ByteArray.toList x5)) (ldV ((splice [.int .i64 0,.int .u8 0,.int .u8 0,.int .u8 0,.int .u8 0,.int .i64 0,.int .u8 0,.int .u8 0,.int .u8 0,.int .u8 0,.int .i64 0,.int .i64 0,.string ⟨#[]⟩] 0 l80))[0]? fun v91=>intV v91 .i64 fun i92=>ldV ((splice [.int .i64 0,.int .u8 0,.int .u8 0,.int .u8 0,.int .u8 0,.int .i64 0,.int .u8 0,.int .u8 0,.int .u8 0,.int .u8 0,.int .i64 0,.int .i64 0,.string ⟨#[]⟩] 0 l47))[0]? fun v93=>intV v93 .i64 fun i94=>ite2 (decide (i92 > i94)) (CF Tryd.prog 38 [(.pointer p8)] h77 fun u95 h96=>intV u95 .i64 fun i97=>ite2 (i97==2) (CF Tryd.prog 31 [] h96 fun u98 h99=>boolV u98 fun q100=>K (.bool q100) h99) (K (.bool false) h96)) (K (.bool false) h77)) (K (.bool false) h77)) (K (.bool false) h77)) (K (.bool false) h77)) (K (.bool false) h77)) (K (.bool false) h77)) (K (.bool false) h77)) (K (.bool false) h77)) (K (.bool false) h77)) (K (.bool false) h77)) (K (.bool false) h77)) (K (.bool false) h77)) else False) else False) else False) else False) else False) else False) else False) else False) else False)))
theorem F6_r13 (h:E=upd (w3 e 5 (sT x5) 4 (sT x4) 3 (sI x3)) 2 (sI x2)):R6 9 24 E V0 hp K=
 ite2 (decide (((ByteArray.size x4:Nat):Int) > 100)) (K (w8 (w8 (w8 E 25 (sT x4) 26 (sI ((ByteArray.size x4:Nat))) 27 (sB ((decide (((ByteArray.size x4:Nat):Int) > 100)))) 28 (sB true) 29 sU 30 sU 31 sU 32 (sB true)) 33 (sB true) 34 sU 35 sU 36 (sB true) 37 (sB true) 38 sU 39 sU 40 (sB true)) 41 (sB true) 42 sU 43 sU 44 (sB true) 45 (sB true) 46 sU 47 sU 48 (sB true)) V0 hp) (ite2 (decide (((ByteArray.size x5:Nat):Int) > 100)) (K (w8 (w8 (w8 E 25 (sT x4) 26 (sI ((ByteArray.size x4:Nat))) 27 (sB ((decide (((ByteArray.size x4:Nat):Int) > 100)))) 28 (sB false) 29 (sT x5) 30 (sI ((ByteArray.size x5:Nat))) 31 (sB ((decide (((ByteArray.size x5:Nat):Int) > 100)))) 32 (sB ((decide (((ByteArray.size x5:Nat):Int) > 100))))) 33 (sB true) 34 sU 35 sU 36 (sB true) 37 (sB true) 38 sU 39 sU 40 (sB true)) 41 (sB true) 42 sU 43 sU 44 (sB true) 45 (sB true) 46 sU 47 sU 48 (sB true)) V0 hp) (ite2 (decide (x2<0)) (K (w8 (w8 (w8 E 25 (sT x4) 26 (sI ((ByteArray.size x4:Nat))) 27 (sB ((decide (((ByteArray.size x4:Nat):Int) > 100)))) 28 (sB false) 29 (sT x5) 30 (sI ((ByteArray.size x5:Nat))) 31 (sB ((decide (((ByteArray.size x5:Nat):Int) > 100)))) 32 (sB ((decide (((ByteArray.size x5:Nat):Int) > 100))))) 33 (sB false) 34 (sI x2) 35 (sB (decide (x2<0))) 36 (sB (decide (x2<0))) 37 (sB true) 38 sU 39 sU 40 (sB true)) 41 (sB true) 42 sU 43 sU 44 (sB true) 45 (sB true) 46 sU 47 sU 48 (sB true)) V0 hp) (ite2 (decide (x2 > 4611686018427387904)) (K (w8 (w8 (w8 E 25 (sT x4) 26 (sI ((ByteArray.size x4:Nat))) 27 (sB ((decide (((ByteArray.size x4:Nat):Int) > 100)))) 28 (sB false) 29 (sT x5) 30 (sI ((ByteArray.size x5:Nat))) 31 (sB ((decide (((ByteArray.size x5:Nat):Int) > 100)))) 32 (sB ((decide (((ByteArray.size x5:Nat):Int) > 100))))) 33 (sB false) 34 (sI x2) 35 (sB (decide (x2<0))) 36 (sB (decide (x2<0))) 37 (sB false) 38 (sI x2) 39 (sB (decide (x2 > 4611686018427387904))) 40 (sB (decide (x2 > 4611686018427387904)))) 41 (sB true) 42 sU 43 sU 44 (sB true) 45 (sB true) 46 sU 47 sU 48 (sB true)) V0 hp) (ite2 (decide (x3<0)) (K (w8 (w8 (w8 E 25 (sT x4) 26 (sI ((ByteArray.size x4:Nat))) 27 (sB ((decide (((ByteArray.size x4:Nat):Int) > 100)))) 28 (sB false) 29 (sT x5) 30 (sI ((ByteArray.size x5:Nat))) 31 (sB ((decide (((ByteArray.size x5:Nat):Int) > 100)))) 32 (sB ((decide (((ByteArray.size x5:Nat):Int) > 100))))) 33 (sB false) 34 (sI x2) 35 (sB (decide (x2<0))) 36 (sB (decide (x2<0))) 37 (sB false) 38 (sI x2) 39 (sB (decide (x2 > 4611686018427387904))) 40 (sB (decide (x2 > 4611686018427387904)))) 41 (sB false) 42 (sI x3) 43 (sB (decide (x3<0))) 44 (sB (decide (x3<0))) 45 (sB true) 46 sU 47 sU 48 (sB true)) V0 hp) (K (w8 (w8 (w8 E 25 (sT x4) 26 (sI ((ByteArray.size x4:Nat))) 27 (sB ((decide (((ByteArray.size x4:Nat):Int) > 100)))) 28 (sB false) 29 (sT x5) 30 (sI ((ByteArray.size x5:Nat))) 31 (sB ((decide (((ByteArray.size x5:Nat):Int) > 100)))) 32 (sB ((decide (((ByteArray.size x5:Nat):Int) > 100))))) 33 (sB false) 34 (sI x2) 35 (sB (decide (x2<0))) 36 (sB (decide (x2<0))) 37 (sB false) 38 (sI x2) 39 (sB (decide (x2 > 4611686018427387904))) 40 (sB (decide (x2 > 4611686018427387904)))) 41 (sB false) 42 (sI x3) 43 (sB (decide (x3<0))) 44 (sB (decide (x3<0))) 45 (sB false) 46 (sI x3) 47 (sB (decide (x3 > 4611686018427387904))) 48 (sB (decide (x3 > 4611686018427387904)))) V0 hp))))):= by subst h; kernel_rfl
def F6 (x0 x1 x2 x3:Int) (x4 x5:ByteArray) (hp:HP) (K:Kh):Prop:=
  (ite2 (decide (((ByteArray.size x4:Nat):Int) > 100)) (F6_j1 x0 x1 x2 x3 x4 x5 true hp  K) (ite2 (decide (((ByteArray.size x5:Nat):Int) > 100)) (F6_j1 x0 x1 x2 x3 x4 x5 true hp  K) (ite2 (decide (x2<0)) (F6_j1 x0 x1 x2 x3 x4 x5 true hp  K) (ite2 (decide (x2 > 4611686018427387904)) (F6_j1 x0 x1 x2 x3 x4 x5 true hp  K) (ite2 (decide (x3<0)) (F6_j1 x0 x1 x2 x3 x4 x5 true hp  K) (F6_j1 x0 x1 x2 x3 x4 x5 (decide (x3 > 4611686018427387904)) hp  K))))))
noncomputable abbrev o6 (k n:Nat):Code:=.region k (opsAt Tryd.f6 (pth n)) false
noncomputable def F6_code:Code:=(.seq (o6 0 2) (.seq (.seq (o6 1 9) (.cond (.tmp 48) (.seq (o6 2 37) .ret) .skip)) (.seq (o6 3 11) (.seq (.seq (o6 4 39) (.cond (.tmp 55) (.seq (o6 5 151) .ret) .skip)) (.seq (o6 6 47) (.seq (o6 7 95) (.seq (o6 8 191) (.seq (o6 9 383) (.seq (o6 10 767) (.seq (o6 11 1535) (.seq (o6 12 3071) (.seq (o6 13 6143) .ret))))))))))))
theorem F6_body:Tryd.f6.body=some F6_code:=by kernel_rfl
theorem F6_ok (x0 x1 x2 x3:Int) (x4 x5:ByteArray) (hp:HP) (K:Kh) (h:F6 x0 x1 x2 x3 x4 x5 hp K):CF Tryd.prog 6 [(.int .i64 x0),(.int .i64 x1),(.int .i64 x2),(.int .i64 x3),(.string x4),(.string x5)] hp K:=by
 refine .inl ⟨by kernel_rfl,AC.intro (N:=177) Tryd.func6 F6_body rfl (Nat.le_of_ble_eq_true rfl) ?_⟩
 unfold F6 at h
 refine Ar F6_r0 ?_ (r6 0 1 2 3 4 5 Rn) (z6 Sn) Sn
 refine Aq (As (fun env pv hp=>∃ x0 x1 x2 x3 x4 x5 x48,Sub (w7 E0 48 (sB x48) 5 (sT x5) 4 (sT x4) 3 (sI x3) 2 (sI x2) 1 (sI x1) 0 (sI x0)) env∧Sub V0 pv∧F6_j1 x0 x1 x2 x3 x4 x5 x48 hp  K) ?_ ?_)
 ·refine Ag (F6_r13 rfl) ?_ (r6 2 3 4 5 0 1 Rn) (z6 Sn) Sn
  refine mt h (fun h=>?_) (fun h=>?_)
  ·exact ⟨_,_,_,_,_,_,_,(z7 Sn),Sn,h⟩
  ·refine mt h (fun h=>?_) (fun h=>?_)
   ·exact ⟨_,_,_,_,_,_,_,(z7 Sn),Sn,h⟩
   ·refine mt h (fun h=>?_) (fun h=>?_)
    ·exact ⟨_,_,_,_,_,_,_,(z7 Sn),Sn,h⟩
    ·refine mt h (fun h=>?_) (fun h=>?_)
     ·exact ⟨_,_,_,_,_,_,_,(z7 Sn),Sn,h⟩
     ·refine mt h (fun h=>?_) (fun h=>?_)
      ·exact ⟨_,_,_,_,_,_,_,(z7 Sn),Sn,h⟩
      ·exact ⟨_,_,_,_,_,_,_,(z7 Sn),Sn,h⟩
 ·rintro env pv hp ⟨x0,x1,x2,x3,x4,x5,x48,he,hv,h⟩
  refine Ae ?_ (r7 0 1 2 3 4 5 48 Rn) he hv
  unfold F6_j1 at h
  refine Ac h rfl (fun h=>?_) (fun h=>?_)
  ·refine Ar F6_r1 ?_ Rn Sn Sn
   refine mC h fun u1 h2 h=>mB h fun q3 h=>?_
   refine AWP.ret ?_
   exact h
  ·refine AWP.skip (Ar F6_r2 ?_ (r6 0 1 2 3 4 5 Rn) (z6 Sn) Sn)
   refine mC h fun u4 h5 h=>mT h fun u6 u7 h=>mP h fun p8 h=>mI h fun i9 h=>?_
   refine Aq (Ar F6_r3 ?_ (r8 14 0 1 2 3 4 5 13 Rn) (z8 Sn) Sn)
   refine Ac h rfl (fun h=>?_) (fun h=>?_)
   ·refine Ar F6_r4 ?_ Rn Sn Sn
    refine AWP.ret ?_
    exact h
   ·refine AWP.skip (Ar (F6_r5 rfl) ?_ (r7 0 1 2 4 13 3 5 Rn) (z7 Sn) Sn)
    refine mC h fun u10 h11 h=>mA h fun l12 h=>mC h fun u13 h14 h=>mA h fun l15 h=>mC h fun u16 h17 h=>mI h fun i18 h=>?_
    refine Ar (F6_r6 rfl) ?_ (r8 0 1 3 5 13 2 4 15 Rn) (z8 Sn) Sn
    refine mC h fun u19 h20 h=>mA h fun l21 h=>mC h fun u22 h23 h=>mA h fun l24 h=>mC h fun u25 h26 h=>mI h fun i27 h=>?_
    refine Ar (F6_r7 rfl) ?_ (r8 0 1 3 5 13 2 4 15 (r1 16 Rn)) (z1 (z8 Sn)) Sn
    refine mC h fun u28 h29 h=>mA h fun l30 h=>mC h fun u31 h32 h=>mA h fun l33 h=>mC h fun u34 h35 h=>mI h fun i36 h=>?_
    refine Ar (F6_r8 rfl) ?_ (r8 0 1 13 2 3 4 5 15 (r2 16 17 Rn)) (z2 (z8 Sn)) Sn
    refine mC h fun u37 h38 h=>mA h fun l39 h=>mC h fun u40 h41 h=>mA h fun l42 h=>mC h fun u43 h44 h=>mT h fun u45 u46 h=>mA h fun l47 h=>mB h fun q48 h=>mf h fun h=>mf h fun h=>mf h fun h=>?_
    refine Ar (F6_r9 rfl) ?_ (r8 0 1 13 2 3 4 5 15 (r2 16 17 (rp 18 18 0 (r1 19 Rn)))) (z4 (z8 Sn)) (z1 Sn)
    refine mC h fun u49 h50 h=>mA h fun l51 h=>mC h fun u52 h53 h=>mA h fun l54 h=>mC h fun u55 h56 h=>mT h fun u57 u58 h=>mA h fun l59 h=>mI h fun i60 h=>mf h fun h=>mf h fun h=>mf h fun h=>?_
    refine Ar (F6_r10 rfl) ?_ (r8 0 1 3 5 13 2 4 15 (r2 16 17 (rp 18 18 0 (r1 19 (rp 20 20 0 (r1 21 Rn)))))) (z6 (z8 Sn)) (z2 Sn)
    refine mC h fun u61 h62 h=>mA h fun l63 h=>mC h fun u64 h65 h=>mA h fun l66 h=>mC h fun u67 h68 h=>mI h fun i69 h=>?_
    refine Ar (F6_r11 rfl) ?_ (r8 0 1 13 2 4 5 15 16 (r1 17 (rp 18 18 0 (r1 19 (rp 20 20 0 (r2 21 22 Rn)))))) (z6 (z8 Sn)) (z2 Sn)
    refine mC h fun u70 h71 h=>mA h fun l72 h=>mC h fun u73 h74 h=>mA h fun l75 h=>mC h fun u76 h77 h=>mT h fun u78 u79 h=>mA h fun l80 h=>mB h fun q81 h=>mf h fun h=>mf h fun h=>mf h fun h=>?_
    refine Ar (F6_r12 rfl) ?_ (r7 2 4 5 13 15 16 17 (rp 18 18 0 (r1 19 (rp 20 20 0 (r2 21 22 (rp 23 23 0 (r1 24 Rn))))))) (z6 (z8 Sn)) (z3 Sn)
    refine mt h (fun h=>?_) (fun h=>?_)
    ·refine mt h (fun h=>?_) (fun h=>?_)
     ·refine mt h (fun h=>?_) (fun h=>?_)
      ·refine mt h (fun h=>?_) (fun h=>?_)
       ·refine mV h fun v82 h=>mI h fun i83 h=>?_
        refine mt h (fun h=>?_) (fun h=>?_)
        ·refine mV h fun v84 h=>ms h fun s85 h=>?_
         refine mt h (fun h=>?_) (fun h=>?_)
         ·refine mt h (fun h=>?_) (fun h=>?_)
          ·refine mL h fun l86 h=>mL h fun l87 h=>mE h fun q88 h=>?_
           refine mt h (fun h=>?_) (fun h=>?_)
           ·refine mt h (fun h=>?_) (fun h=>?_)
            ·refine mt h (fun h=>?_) (fun h=>?_)
             ·refine mV h fun v89 h=>ms h fun s90 h=>?_
              refine mt h (fun h=>?_) (fun h=>?_)
              ·refine mV h fun v91 h=>mI h fun i92 h=>mV h fun v93 h=>mI h fun i94 h=>?_
               refine mt h (fun h=>?_) (fun h=>?_)
               ·refine mC h fun u95 h96 h=>mI h fun i97 h=>?_
                refine mt h (fun h=>?_) (fun h=>?_)
                ·refine mC h fun u98 h99 h=>mB h fun q100 h=>?_
                 refine AWP.ret ?_
                 exact h
                ·refine AWP.ret ?_
                 exact h
               ·refine AWP.ret ?_
                exact h
              ·refine AWP.ret ?_
               exact h
             ·refine AWP.ret ?_
              exact h
            ·refine AWP.ret ?_
             exact h
           ·refine AWP.ret ?_
            exact h
          ·refine AWP.ret ?_
           exact h
         ·refine AWP.ret ?_
          exact h
        ·refine AWP.ret ?_
         exact h
       ·refine AWP.ret ?_
        exact h
      ·refine AWP.ret ?_
       exact h
     ·refine AWP.ret ?_
      exact h
    ·refine AWP.ret ?_
     exact h
end
end Go.Proofs
set_option linter.unusedVariables false
set_option linter.unusedSimpArgs false
set_option maxRecDepth 20000
namespace Go.Proofs
open Go Go.HL
open Go.Exp (Th tlt Ord setW dropW insW)
section
variable {tb:Obj} {hp:HP} {K:Value→HP→Prop}
end
end Go.Proofs
set_option linter.unusedVariables false
set_option linter.unusedSimpArgs false
set_option maxRecDepth 20000
namespace Go.Proofs
open Go Go.HL
open Go.Exp (Th tlt Ord setW dropW insW)
theorem putE_ok {mx:Nat} {o p:Q × Int} {due:Int} {text:ByteArray} {L:List Sy} (h1:text.size≤65536) (h2:0≤due∧due≤4611686018427387904) (h3:findS o p L=none) (h4:L.length<mx):putE mx o p due text L=0:=by
  unfold putE
  rw [if_neg (by omega),if_neg (by omega),if_neg (by rw [h3]; simp),if_neg (by omega)]
theorem putE_there {mx:Nat} {o p:Q × Int} {due:Int} {text:ByteArray} {L:List Sy} (h1:text.size≤65536) (h2:0≤due∧due≤4611686018427387904) (h3:(findS o p L).isSome=true):putE mx o p due text L=5:=by
  unfold putE
  rw [if_neg (by omega),if_neg (by omega),if_pos h3]
section
variable {tb:Obj} {hp:HP} {K:Value→HP→Prop}
theorem C6 {x y a b:Int} {s u:ByteArray} (ht:TabR tb hp) (hx:okZ x) (hy:okZ y) (hK:K (.bool true) hp):CF Tryd.prog 6 [.int .i64 x,.int .i64 y,.int .i64 a,.int .i64 b,.string s,.string u] hp K:=by
  refine CF.drop (F6_ok x y a b s u hp _ ?_)
  unfold F6
  have wk:F6_j1 x y a b s u true hp fun v hp'=>∃ hp'',HSub hp'' hp'∧K v hp'':=by
    unfold F6_j1
    rw [ite2_true]
    refine C31 ht fun hp' hs=>?_
    rw [boolV_bool]
    exact ⟨hp,hs,hK⟩
  by_cases c1:s.size > 100
  · rw [decide_eq_true (by omega:((s.size:Nat):Int) > 100),ite2_true]; exact wk
  rw [decide_eq_false (by omega:¬ ((s.size:Nat):Int) > 100),ite2_false]
  by_cases c2:u.size > 100
  · rw [decide_eq_true (by omega:((u.size:Nat):Int) > 100),ite2_true]; exact wk
  rw [decide_eq_false (by omega:¬ ((u.size:Nat):Int) > 100),ite2_false]
  by_cases c3:a<0
  · rw [decide_eq_true c3,ite2_true]; exact wk
  rw [decide_eq_false c3,ite2_false]
  by_cases c4:a > 4611686018427387904
  · rw [decide_eq_true c4,ite2_true]; exact wk
  rw [decide_eq_false c4,ite2_false]
  by_cases c5:b<0
  · rw [decide_eq_true c5,ite2_true]; exact wk
  rw [decide_eq_false c5,ite2_false]
  by_cases c6:b > 4611686018427387904
  · rw [decide_eq_true c6]; exact wk
  rw [decide_eq_false c6]
  clear wk
  unfold F6_j1
  rw [ite2_false]
  have o1:okT (ta 1 x):=ta_ok (okBc rfl) hx
  have o2:okT (ta 2 y):=ta_ok (okBc rfl) hy
  have hne:ta 1 x≠ta 2 y:=by simp [ta]
  have hne':ta 2 y≠ta 1 x:=fun e=>hne e.symm
  generalize hq1:ta 1 x=q1 at o1 hne hne'
  generalize hq2:ta 2 y=q2 at o2 hne hne'
  have d1:∀ {hp:HP} {K:Value→HP→Prop},K (.agg ⟨t4 q1⟩) hp→CF Tryd.prog 34 [.int .u8 1,.int .i64 x] hp K:=fun h=>C34 (by rw [hq1]; exact h)
  have d2:∀ {hp:HP} {K:Value→HP→Prop},K (.agg ⟨t4 q2⟩) hp→CF Tryd.prog 34 [.int .u8 2,.int .i64 y] hp K:=fun h=>C34 (by rw [hq2]; exact h)
  refine N32ok (startP_ok ht) 1 (startP_1 ht) (by decide) fun st l hp1 h1 P1=>?_
  simp only [tup2V_mk,pp,intV_int]
  show ite2 false _ _
  rw [ite2_false]
  refine d1 ?_
  rw [aggV_agg]
  refine d2 ?_
  rw [aggV_agg]
  refine N33yes P1 1 (by rw [pu_eq]; exact h1) o1 o2 (by decide) (putE_ok (by omega) (by omega) rfl (by decide)) fun l2 hp2 h2 P2=>?_
  rw [intV_int]
  refine d1 ?_
  rw [aggV_agg]
  refine d2 ?_
  rw [aggV_agg]
  refine N33no (e:=5) (h2.sub (P2.at 1 (pu_eq ..))) o1 o2 (by decide) (putE_there (by omega) (by omega) (by simp [findS])) (by decide) ?_
  rw [intV_int]
  refine d2 ?_
  rw [aggV_agg]
  refine d1 ?_
  rw [aggV_agg]
  refine N33yes P2 1 (by rw [pu_eq]; exact h2) o2 o1 (by decide) (putE_ok (by omega) (by omega) (by simp [findS,hne]) (by simp)) fun l3 hp3 h3 P3=>?_
  rw [intV_int]
  have h3':=h3.sub (P3.at 1 (pu_eq ..))
  have f3:findS q1 q2 ([]++[(⟨((0+1:Nat):Int),q1,q2,a,s⟩:Sy)]++[⟨((0+1+1:Nat):Int),q2,q1,b,u⟩])=some ⟨1,q1,q2,a,s⟩:=by simp [findS]
  refine d1 ?_
  rw [aggV_agg]
  refine d2 ?_
  rw [aggV_agg]
  refine C39 h3' o1 o2 ?_
  rw [f3]
  simp only [tup2V_mk,aggV_agg,boolV_bool,Option.getD_some,Option.isSome_some,syz]
  refine ifI rfl (ifI rfl (ifI (by simp [syc_len]) ?_))
  refine d1 ?_
  rw [aggV_agg]
  refine d2 ?_
  rw [aggV_agg]
  refine N35yes P3 1 (by rw [pu_eq]; exact h3) o1 o2 f3 fun l4 hp4 h4 P4=>?_
  simp only [tup2V_mk,aggV_agg,intV_int]
  refine ifI rfl (ifI rfl (ifI (by simp [syc_len]) ?_))
  have ef:((([]++[(⟨((0+1:Nat):Int),q1,q2,a,s⟩:Sy)]++[(⟨((0+1+1:Nat):Int),q2,q1,b,u⟩:Sy)]):List Sy).filter fun z:Sy=>decide (z.id≠(⟨1,q1,q2,a,s⟩:Sy).id))=[(⟨2,q2,q1,b,u⟩:Sy)]:=by simp
  rw [ef] at h4
  refine d1 ?_
  rw [aggV_agg]
  refine d2 ?_
  rw [aggV_agg]
  refine N33yes P4 1 (by rw [pu_eq]; exact h4) o1 o2 (by decide) (putE_ok (by omega) (by omega) (by simp [findS,hne']) (by simp)) fun l5 hp5 h5 P5=>?_
  rw [intV_int]
  refine d1 ?_
  rw [aggV_agg]
  refine d2 ?_
  rw [aggV_agg]
  have h5':=h5.sub (P5.at 1 (pu_eq ..))
  refine C39 h5' o1 o2 ?_
  have f5:findS q1 q2 ([(⟨2,q2,q1,b,u⟩:Sy)]++[⟨((0+1+1+1:Nat):Int),q1,q2,b,u⟩])=some ⟨3,q1,q2,b,u⟩:=by simp [findS,hne']
  rw [f5]
  simp only [tup2V_mk,aggV_agg,boolV_bool,Option.getD_some,Option.isSome_some]
  refine ifI rfl (ifI rfl (ifI (by simp [syc_len]) ?_))
  simp only [syc_splice,syc_cells,show ((0:Int)==0)=true from rfl,show ((5:Int)==5)=true from rfl,ite2_true,syc_text,syc_id,syc_due,ldV_some,ldL_some,strV_string,intV_int,str_eq,decide_true,beq_self_eq_true]
  refine eq62 ?_
  rw [decide_eq_true rfl]
  simp only [ite2_true,show decide ((3:Int) > 1)=true from rfl]
  refine C38 h5' ?_
  rw [intV_int]
  show ite2 true _ _
  rw [ite2_true]
  refine C31 h5'.tab fun hp6 hs6=>?_
  rw [boolV_bool]
  refine ⟨hp,(finish ht P5 ?_ h5'.tab).trans hs6,hK⟩
  rw [pu_ne _ _ (by omega),pu_ne _ _ (by omega),pu_ne _ _ (by omega),pu_ne _ _ (by omega),pu_ne _ _ (by omega),startP_0]
end
end Go.Proofs
namespace Go.Proofs.YtpkhoemonibajaaDoor
open Go Go.HL Go.Proofs
def theLaid : List (String × DataW Unit) := [("math/bits.deBruijn32tab", Rows.laid_math_bits_deBruijn32tab), ("math/bits.deBruijn64tab", Rows.laid_math_bits_deBruijn64tab), ("internal/strconv.uint64pow10", Rows.laid_internal_strconv_uint64pow10)]
theorem tabOf {W:World} (h:laidMetH Tryd.prog theLaid W):∃ o,hpAll W 0=.obj o∧TabO o:=by
  have h':laidMet Tryd.prog theLaid W:=h
  obtain ⟨ps,hv,_⟩:=h'
  obtain ⟨q1,h1⟩:=laidVars_tail hv
  obtain ⟨q2,h2⟩:=laidVars_tail h1
  have ht : Lib.TabIs Tryd.prog W "internal/strconv.uint64pow10" .u64 Lib.pow10Tab :=
    tabIs_of_vars (rest:=[]) (g:=0) (t:=267) (e:=233) (n:=20) (by kernel_rfl) (by kernel_rfl) (by kernel_rfl) (by kernel_rfl) (by kernel_rfl) (by kernel_rfl) h2
  obtain ⟨o,ho,hO⟩:=tabO_of ht
  exact ⟨o,by unfold hpAll; rw [ho],hO⟩
/-- What a table's cells are. -/
def cellsLaid:DataW Unit→Array Value
  | .agg ps=>(ps.map fun d=>match d with | .lit (.int k n)=>Value.int k n | _=>.int .i64 0).toArray
  | _=>#[]
def layAt (b:Nat) (d:DataW Unit) (h:Array Obj):Array Obj:=h.modify b fun | .cells _ t fz=>.cells (cellsLaid d) t fz | o=>o
noncomputable def laidWorld (os:Os) (I:Input):World:=
  { World.holding Tryd.prog os I with heap:=layAt 0 Rows.laid_internal_strconv_uint64pow10 (layAt 1 Rows.laid_math_bits_deBruijn32tab (layAt 2 Rows.laid_math_bits_deBruijn64tab (World.holding Tryd.prog os I).heap)) }
end Go.Proofs.YtpkhoemonibajaaDoor
