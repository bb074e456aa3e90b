/- Parts of the proof of SessionHasProof: the logic of what is known of memory, functions' contracts. -/
import Derived.Test.YtpkhoemonibajaaDoorQSessionHasProofD
import Derived.Test.YtpkhoemonibajaaDoorHlAbb
import Derived.Test.YtpkhoemonibajaaDoorHlOrd2
import Derived.Test.YtpkhoemonibajaaDoorProg
import Derived.Test.YtpkhoemonibajaaDoorRows
import Derived.Test.YtpkhoemonibajaaDoorHlLaid
import Derived.Test.YtpkhoemonibajaaDoorHlArg
import Derived.ProofKit
import Derived.LaidLaws
set_option linter.unusedVariables false
set_option linter.unusedSimpArgs false
set_option linter.unusedVariables false
set_option maxRecDepth 20000
namespace Go.Proofs
open Go Go.HL
section
variable {e E:Env} {x0:Int} {x1a:OA} {x1n x1c:Nat} {x5:OA} {x6:Int} {x7:Option Nat} {x8 x11 x14:Int} {x15a:OA} {x15n x15c:Nat} {x16:Int} {x19a:OA} {x19n x19c:Nat} {x20:Int} {x22:Bool} {x54:Int} {x215:Value} {k9 k10 k12 k13 k18 k21:List Value} {hp:HP} {K:Env→PV→HP→Prop}
abbrev R13 (p n:Nat):=RW Tryd.prog 302 [9,10,12,13,18,21,53,59,61,63,66,68,76,83,85,87,92,95,97,98,100,102,110,120,126,131,158,220,222] (opsAt Tryd.f13 (pth p)) (List.range n)
theorem F13_r0:R13 2 1 e V0 hp K=
 K (upd e 4 (sB false)) V0 hp:= by kernel_rfl
theorem F13_r1:R13 37 2 e V0 hp K=
 CF Tryd.prog 40 [] hp fun u1 h2=>(boolV u1 fun q3=>K (w2 e 34 (sB q3) 4 (sB q3)) V0 h2):= by kernel_rfl
theorem F13_r2:R13 11 7 (upd e 0 (sI x0)) V0 hp K=
 CF Tryd.prog 41 [(.int .i64 x0)] hp fun u1 h2=>(tup2V u1 fun u3 u4=>ptrV u3 fun p5=>intV u4 .i64 fun i6=>K (w8 e 0 (sI x0) 36 (sI x0) 37 (sV (.tuple ⟨[(.pointer p5),(.int .i64 i6)]⟩)) 35 (sV (.tuple ⟨[(.pointer p5),(.int .i64 i6)]⟩)) 38 (sP p5) 39 (sI i6) 5 (sP p5) 6 (sI i6)) V0 h2):= by kernel_rfl
theorem F13_r3:R13 39 2 (upd e 6 (sI x6)) V0 hp K=
 K (w3 e 6 (sI x6) 40 (sI x6) 41 (sB ((x6 != 0)))) V0 hp:= by kernel_rfl
theorem F13_r4:R13 151 1 e V0 hp K=
 K (upd e 4 (sB false)) V0 hp:= by kernel_rfl
theorem F13_r5:R13 47 2 e V0 hp K=
    (∀ b1:Nat,hp b1=.none→(K (w2 e 42 (sV (.map (some b1))) 7 (sV (.map (some b1)))) V0 (HP.set hp b1 (.obj (.map #[] 0))))):=by kernel_rfl
theorem F13_r6:R13 191 2 e V0 hp K=
 CF Tryd.prog 40 [] hp fun u1 h2=>(boolV u1 fun q3=>K (w2 e 301 (sB q3) 4 (sB q3)) V0 h2):= by kernel_rfl
def F13_j2 (hp:HP) (K:Kh):Prop:=
  (CF Tryd.prog 40 [] hp fun u11 h12=>boolV u11 fun q13=>K (.bool q13) h12)
theorem F13_r7:R13 2143 4 (w2 e 8 (sI x8) 1 (sS x1a x1n x1c)) V0 hp K=
 K (w6 e 8 (sI x8) 1 (sS x1a x1n x1c) 43 (sI x8) 44 (sS x1a x1n x1c) 45 (sI ((x1n:Nat))) 46 (sB ((decide (x8<x1n))))) V0 hp:= by kernel_rfl
theorem F13_r8:R13 3679 3 (upd e 8 (sI x8)) V0 hp K=
 K (w4 e 8 (sI x8) 47 (sI x8) 48 (sI ((wr (x8+1)))) 8 (sI ((wr (x8+1))))) V0 hp:= by kernel_rfl
def F13_j5 (x0:Int) (x1a:OA) (x1n x1c:Nat) (x5:OA) (x7:Option Nat) (x8:Int) (hp:HP) (I4:(Int)→HP→Prop) (K:Kh):Prop:=
  (I4 (IntKind.wrap .i64 (x8+1)) hp)
theorem F13_r9:R13 8799 6 (w2 e 8 (sI x8) 1 (sS x1a x1n x1c)) V0 hp K=
    ((0≤x8)∧(x8<x1n)∧(ptrN x1a fun b1 o2=>ldL (HP.cellN hp b1 (o2+Int.toNat x8*7) 7) fun l3=>if List.length l3=7 then (if List.all l3 one=true then (if 0+List.length l3≤List.length [(Value.int .u8 0),.int .u8 0,.int .i64 0,.int .i64 0,.int .i64 0,.int .i64 0,.int .i64 0] then (K (w7 e 8 (sI x8) 1 (sS x1a x1n x1c) 49 (sS x1a x1n x1c) 50 (sI x8) 51 (sQ b1 (o2+Int.toNat x8*7)) 52 (sA l3) 9 (sR 9 0)) (w2 V0 9 (77,[.int .u8 0,.int .u8 0,.int .i64 0,.int .i64 0,.int .i64 0,.int .i64 0,.int .i64 0]) 9 (77,(splice [.int .u8 0,.int .u8 0,.int .i64 0,.int .i64 0,.int .i64 0,.int .i64 0,.int .i64 0] 0 l3))) hp) else False) else False) else False)):=by kernel_rfl
theorem F13_r10:R13 45663 3 (upd e 5 (sP x5)) V0 hp K=
 CF Tryd.prog 59 [(.pointer x5)] hp fun u1 h2=>(slcV u1 fun a3 n4 c5=>K (w4 e 5 (sP x5) 225 (sP x5) 226 (sS a3 n4 c5) 19 (sS a3 n4 c5)) V0 h2):= by kernel_rfl
theorem F13_r11:R13 619103 1 e V0 hp K=
 K (upd e 4 (sB false)) V0 hp:= by kernel_rfl
theorem F13_r12 (h:E=upd (upd e 20 (sI x20)) 19 (sS x19a x19n x19c)):R13 2224735 4 E V0 hp K=
 K (w4 E 238 (sI x20) 239 (sS x19a x19n x19c) 240 (sI ((x19n:Nat))) 241 (sB ((decide (x20<x19n))))) V0 hp:= by subst h; kernel_rfl
theorem F13_r13 (h:E=upd (w2 e 20 (sI x20) 19 (sS x19a x19n x19c)) 5 (sP x5)):R13 9040479 18 E V0 hp K=
    ((0≤x20)∧(x20<x19n)∧(ptrN x19a fun b1 o2=>ldV (HP.cell hp b1 ((o2+Int.toNat x20*9)+1)) fun v3=>intV v3 .i64 fun i4=>(0≤x20)∧(x20<x19n)∧(ptrN x19a fun b5 o6=>ldL (HP.cellN hp b5 ((o6+Int.toNat x20*9)+2) 5) fun l7=>CF Tryd.prog 57 [(.pointer x5),(.int .i64 i4),(.agg ⟨l7⟩)] hp fun u8 h9=>tup2V u8 fun u10 u11=>aggV u10 fun l12=>boolV u11 fun q13=>if List.length l12=9 then (if List.all l12 one=true then (if 0+List.length l12≤List.length [(Value.int .i64 0),.int .i64 0,.int .u8 0,.int .u8 0,.int .u8 0,.int .u8 0,.int .i64 0,.int .i64 0,.int .i64 0] then (K (upd (w8 (w8 E 245 (sP x5) 246 (sS x19a x19n x19c) 247 (sI x20) 248 (sQ b1 (o2+Int.toNat x20*9)) 249 (sQ b1 ((o2+Int.toNat x20*9)+1)) 250 (sI i4) 251 (sS x19a x19n x19c) 252 (sI x20)) 253 (sQ b5 (o6+Int.toNat x20*9)) 254 (sQ b5 ((o6+Int.toNat x20*9)+2)) 255 (sA l7) 256 (sV (.tuple ⟨[(.agg ⟨l12⟩),(.bool q13)]⟩)) 244 (sV (.tuple ⟨[(.agg ⟨l12⟩),(.bool q13)]⟩)) 257 (sA l12) 258 (sB q13) 21 (sR 21 0)) 22 (sB q13)) (w2 V0 21 (79,[.int .i64 0,.int .i64 0,.int .u8 0,.int .u8 0,.int .u8 0,.int .u8 0,.int .i64 0,.int .i64 0,.int .i64 0]) 21 (79,(splice [.int .i64 0,.int .i64 0,.int .u8 0,.int .u8 0,.int .u8 0,.int .u8 0,.int .i64 0,.int .i64 0,.int .i64 0] 0 l12))) h9) else False) else False) else False))):=by subst h; kernel_rfl
theorem F13_r14:R13 80343647 1 e V0 hp K=
 K (upd e 4 (sB false)) V0 hp:= by kernel_rfl
theorem F13_r15:R13 3797599 3 (upd e 20 (sI x20)) V0 hp K=
 K (w4 e 20 (sI x20) 242 (sI x20) 243 (sI ((wr (x20+1)))) 20 (sI ((wr (x20+1))))) V0 hp:= by kernel_rfl
def F13_j10 (x0:Int) (x1a:OA) (x1n x1c:Nat) (x5:OA) (x7:Option Nat) (x8:Int) (x19a:OA) (x19n x19c:Nat) (x20:Int) (x300:Bool) (hp:HP) (I4 I9:(Int)→HP→Prop) (K:Kh):Prop:=
  (ite2 x300 (K (.bool false) hp) (I9 (IntKind.wrap .i64 (x20+1)) hp))
theorem F13_r16 (h:E=upd (w4 e 22 (sB x22) 21 (sR 21 0) 20 (sI x20) 19 (sS x19a x19n x19c)) 7 (sV (.map x7))):R13 21623391 42 E (upd V0 21 (79,k21)) hp K=
    ((0≤x20)∧(x20<x19n)∧(ptrN x19a fun b1 o2=>ldL (HP.cellN hp b1 (o2+Int.toNat x20*9) 9) fun l3=>(0≤x20)∧(x20<x19n)∧(ptrN x19a fun b4 o5=>ldV (HP.cell hp b4 ((o5+Int.toNat x20*9)+0)) fun v6=>intV v6 .i64 fun i7=>rdS Tryd.prog (Instr.lookup 105 (.map x7) (.int .i64 i7) false) hp fun u8=>aggV u8 fun l9=>eqAgg Tryd.prog 79 l3 l9 fun q10=>ite2 (!q10) (K (w2 (w8 (w8 (w8 (w8 (w8 E 259 (sS x19a x19n x19c) 260 (sI x20) 261 (sQ b1 (o2+Int.toNat x20*9)) 262 (sA l3) 263 (sV (.map x7)) 264 (sS x19a x19n x19c) 265 (sI x20) 266 (sQ b4 (o5+Int.toNat x20*9))) 267 (sQ b4 ((o5+Int.toNat x20*9)+0)) 268 (sI i7) 269 (sA l9) 270 (sB ((!q10))) 271 (sB true) 272 sU 273 sU 274 (sB true)) 275 (sB true) 276 sU 277 sU 278 sU 279 sU 280 sU 281 sU 282 (sB true)) 283 (sB true) 284 sU 285 sU 286 sU 287 sU 288 sU 289 sU 290 sU) 291 sU 292 sU 293 sU 294 sU 295 sU 296 sU 297 sU 298 sU) 299 sU 300 (sB true)) (upd V0 21 (79,k21)) hp) (ite2 (!x22) (K (w2 (w8 (w8 (w8 (w8 (w8 E 259 (sS x19a x19n x19c) 260 (sI x20) 261 (sQ b1 (o2+Int.toNat x20*9)) 262 (sA l3) 263 (sV (.map x7)) 264 (sS x19a x19n x19c) 265 (sI x20) 266 (sQ b4 (o5+Int.toNat x20*9))) 267 (sQ b4 ((o5+Int.toNat x20*9)+0)) 268 (sI i7) 269 (sA l9) 270 (sB ((!q10))) 271 (sB false) 272 (sB x22) 273 (sB ((!x22))) 274 (sB ((!x22)))) 275 (sB true) 276 sU 277 sU 278 sU 279 sU 280 sU 281 sU 282 (sB true)) 283 (sB true) 284 sU 285 sU 286 sU 287 sU 288 sU 289 sU 290 sU) 291 sU 292 sU 293 sU 294 sU 295 sU 296 sU 297 sU 298 sU) 299 sU 300 (sB true)) (upd V0 21 (79,k21)) hp) (ldL (cellsN k21 0 9) fun l11=>(0≤x20)∧(x20<x19n)∧(ptrN x19a fun b12 o13=>ldL (HP.cellN hp b12 (o13+Int.toNat x20*9) 9) fun l14=>eqAgg Tryd.prog 79 l11 l14 fun q15=>ite2 (!q15) (K (w2 (w8 (w8 (w8 (w8 (w8 E 259 (sS x19a x19n x19c) 260 (sI x20) 261 (sQ b1 (o2+Int.toNat x20*9)) 262 (sA l3) 263 (sV (.map x7)) 264 (sS x19a x19n x19c) 265 (sI x20) 266 (sQ b4 (o5+Int.toNat x20*9))) 267 (sQ b4 ((o5+Int.toNat x20*9)+0)) 268 (sI i7) 269 (sA l9) 270 (sB ((!q10))) 271 (sB false) 272 (sB x22) 273 (sB ((!x22))) 274 (sB ((!x22)))) 275 (sB false) 276 (sA l11) 277 (sS x19a x19n x19c) 278 (sI x20) 279 (sQ b12 (o13+Int.toNat x20*9)) 280 (sA l14) 281 (sB ((!q15))) 282 (sB ((!q15)))) 283 (sB true) 284 sU 285 sU 286 sU 287 sU 288 sU 289 sU 290 sU) 291 sU 292 sU 293 sU 294 sU 295 sU 296 sU 297 sU 298 sU) 299 sU 300 (sB true)) (upd V0 21 (79,k21)) hp) (ite2 (decide (x20 > 0)) ((0≤((wr (x20-1)):Int))∧(((wr (x20-1)):Int)<x19n)∧(ptrN x19a fun b16 o17=>ldV (HP.cell hp b16 ((o17+Int.toNat (wr (x20-1))*9)+0)) fun v18=>intV v18 .i64 fun i19=>(0≤x20)∧(x20<x19n)∧(ptrN x19a fun b20 o21=>ldV (HP.cell hp b20 ((o21+Int.toNat x20*9)+0)) fun v22=>intV v22 .i64 fun i23=>K (w2 (w8 (w8 (w8 (w8 (w8 E 259 (sS x19a x19n x19c) 260 (sI x20) 261 (sQ b1 (o2+Int.toNat x20*9)) 262 (sA l3) 263 (sV (.map x7)) 264 (sS x19a x19n x19c) 265 (sI x20) 266 (sQ b4 (o5+Int.toNat x20*9))) 267 (sQ b4 ((o5+Int.toNat x20*9)+0)) 268 (sI i7) 269 (sA l9) 270 (sB ((!q10))) 271 (sB false) 272 (sB x22) 273 (sB ((!x22))) 274 (sB ((!x22)))) 275 (sB false) 276 (sA l11) 277 (sS x19a x19n x19c) 278 (sI x20) 279 (sQ b12 (o13+Int.toNat x20*9)) 280 (sA l14) 281 (sB ((!q15))) 282 (sB ((!q15)))) 283 (sB false) 284 (sI x20) 285 (sB (decide (x20 > 0))) 286 (sB true) 287 (sS x19a x19n x19c) 288 (sI x20) 289 (sI ((wr (x20-1)))) 290 (sV (ptr b16 (o17+Int.toNat (wr (x20-1))*9)))) 291 (sV (ptr b16 ((o17+Int.toNat (wr (x20-1))*9)+0))) 292 (sI i19) 293 (sS x19a x19n x19c) 294 (sI x20) 295 (sQ b20 (o21+Int.toNat x20*9)) 296 (sQ b20 ((o21+Int.toNat x20*9)+0)) 297 (sI i23) 298 (sB (decide (i19≥i23)))) 299 (sB (decide (i19≥i23))) 300 (sB (decide (i19≥i23)))) (upd V0 21 (79,k21)) hp))) (K (w2 (w8 (w8 (w8 (w8 (w8 E 259 (sS x19a x19n x19c) 260 (sI x20) 261 (sQ b1 (o2+Int.toNat x20*9)) 262 (sA l3) 263 (sV (.map x7)) 264 (sS x19a x19n x19c) 265 (sI x20) 266 (sQ b4 (o5+Int.toNat x20*9))) 267 (sQ b4 ((o5+Int.toNat x20*9)+0)) 268 (sI i7) 269 (sA l9) 270 (sB ((!q10))) 271 (sB false) 272 (sB x22) 273 (sB ((!x22))) 274 (sB ((!x22)))) 275 (sB false) 276 (sA l11) 277 (sS x19a x19n x19c) 278 (sI x20) 279 (sQ b12 (o13+Int.toNat x20*9)) 280 (sA l14) 281 (sB ((!q15))) 282 (sB ((!q15)))) 283 (sB false) 284 (sI x20) 285 (sB (decide (x20 > 0))) 286 (sB false) 287 sU 288 sU 289 sU 290 sU) 291 sU 292 sU 293 sU 294 sU 295 sU 296 sU 297 sU 298 sU) 299 (sB false) 300 (sB false)) (upd V0 21 (79,k21)) hp)))))))):=by subst h; kernel_rfl
def F13_l9 (x0:Int) (x1a:OA) (x1n x1c:Nat) (x5:OA) (x7:Option Nat) (x8:Int) (x19a:OA) (x19n x19c:Nat) (I4:(Int)→HP→Prop) (K:Kh) (I9:(Int)→HP→Prop) (x20:Int) (hp:HP):Prop:=
  (ite2 (decide (x20<x19n)) ((0≤x20)∧(x20<x19n)∧(ptrN x19a fun b22 o23=>ldV (HP.cell hp b22 ((o23+Int.toNat x20*9)+1)) fun v24=>intV v24 .i64 fun i25=>(0≤x20)∧(x20<x19n)∧(ptrN x19a fun b26 o27=>ldL (HP.cellN hp b26 ((o27+Int.toNat x20*9)+2) 5) fun l28=>CF Tryd.prog 57 [(.pointer x5),(.int .i64 i25),(.agg ⟨l28⟩)] hp fun u29 h30=>tup2V u29 fun u31 u32=>aggV u31 fun l33=>boolV u32 fun q34=>if List.length l33=9 then (if List.all l33 one=true then (if 0+List.length l33≤List.length [(Value.int .i64 0),.int .i64 0,.int .u8 0,.int .u8 0,.int .u8 0,.int .u8 0,.int .i64 0,.int .i64 0,.int .i64 0] then ((0≤x20)∧(x20<x19n)∧(ptrN x19a fun b35 o36=>ldL (HP.cellN h30 b35 (o36+Int.toNat x20*9) 9) fun l37=>(0≤x20)∧(x20<x19n)∧(ptrN x19a fun b38 o39=>ldV (HP.cell h30 b38 ((o39+Int.toNat x20*9)+0)) fun v40=>intV v40 .i64 fun i41=>rdS Tryd.prog (Instr.lookup 105 (.map x7) (.int .i64 i41) false) h30 fun u42=>aggV u42 fun l43=>eqAgg Tryd.prog 79 l37 l43 fun q44=>ite2 (!q44) (F13_j10 x0 x1a x1n x1c x5 x7 x8 x19a x19n x19c x20 true h30 I4 I9 K) (ite2 (!q34) (F13_j10 x0 x1a x1n x1c x5 x7 x8 x19a x19n x19c x20 true h30 I4 I9 K) (ldL (cellsN (splice [.int .i64 0,.int .i64 0,.int .u8 0,.int .u8 0,.int .u8 0,.int .u8 0,.int .i64 0,.int .i64 0,.int .i64 0] 0 l33) 0 9) fun l45=>(0≤x20)∧(x20<x19n)∧(ptrN x19a fun b46 o47=>ldL (HP.cellN h30 b46 (o47+Int.toNat x20*9) 9) fun l48=>eqAgg Tryd.prog 79 l45 l48 fun q49=>ite2 (!q49) (F13_j10 x0 x1a x1n x1c x5 x7 x8 x19a x19n x19c x20 true h30 I4 I9 K) (ite2 (decide (x20 > 0)) ((0≤((IntKind.wrap .i64 (x20-1)):Int))∧(((IntKind.wrap .i64 (x20-1)):Int)<x19n)∧(ptrN x19a fun b50 o51=>ldV (HP.cell h30 b50 ((o51+Int.toNat (IntKind.wrap .i64 (x20-1))*9)+0)) fun v52=>intV v52 .i64 fun i53=>(0≤x20)∧(x20<x19n)∧(ptrN x19a fun b54 o55=>ldV (HP.cell h30 b54 ((o55+Int.toNat x20*9)+0)) fun v56=>intV v56 .i64 fun i57=>F13_j10 x0 x1a x1n x1c x5 x7 x8 x19a x19n x19c x20 (decide (i53≥i57)) h30 I4 I9 K))) (F13_j10 x0 x1a x1n x1c x5 x7 x8 x19a x19n x19c x20 false h30 I4 I9 K)))))))) else False) else False) else False))) (F13_j5 x0 x1a x1n x1c x5 x7 x8 hp I4 K))
def F13_j8 (x0:Int) (x1a:OA) (x1n x1c:Nat) (x5:OA) (x7:Option Nat) (x8:Int) (x19a:OA) (x19n x19c:Nat) (x20:Int) (hp:HP) (I4:(Int)→HP→Prop) (K:Kh):Prop:=
  (LoopP (σ:=Int) (fun I s hp=>F13_l9 x0 x1a x1n x1c x5 x7 x8 x19a x19n x19c I4 K I s hp) x20 hp)
theorem F13_r17:R13 193119 1 e V0 hp K=
 K (upd e 20 (sI 0)) V0 hp:= by kernel_rfl
def F13_j7 (x0:Int) (x1a:OA) (x1n x1c:Nat) (x5:OA) (x7:Option Nat) (x8:Int) (x19a:OA) (x19n x19c:Nat) (x237:Bool) (hp:HP) (I4:(Int)→HP→Prop) (K:Kh):Prop:=
  (ite2 x237 (K (.bool false) hp) (F13_j8 x0 x1a x1n x1c x5 x7 x8 x19a x19n x19c 0 hp I4 K))
theorem F13_r18 (h:E=upd (w2 e 19 (sS x19a x19n x19c) 7 (sV (.map x7))) 0 (sI x0)):R13 160351 11 E V0 hp K=
    (rdS Tryd.prog (Builtin.len_ #[105] 3 #[.map x7]) hp fun u1=>intV u1 .i64 fun i2=>ite2 (((x19n:Nat):Int) != i2) (K (w3 (w8 E 227 (sS x19a x19n x19c) 228 (sI ((x19n:Nat))) 229 (sV (.map x7)) 230 (sI i2) 231 (sB ((((x19n:Nat):Int) != i2))) 232 (sB true) 233 sU 234 sU) 235 sU 236 sU 237 (sB true)) V0 hp) (K (w3 (w8 E 227 (sS x19a x19n x19c) 228 (sI ((x19n:Nat))) 229 (sV (.map x7)) 230 (sI i2) 231 (sB ((((x19n:Nat):Int) != i2))) 232 (sB false) 233 (sS x19a x19n x19c) 234 (sI ((x19n:Nat)))) 235 (sI x0) 236 (sB ((decide (((x19n:Nat):Int) > x0)))) 237 (sB ((decide (((x19n:Nat):Int) > x0))))) V0 hp)):=by subst h; kernel_rfl
def F13_j6 (x0:Int) (x1a:OA) (x1n x1c:Nat) (x5:OA) (x7:Option Nat) (x8:Int) (hp:HP) (I4:(Int)→HP→Prop) (K:Kh):Prop:=
  (CF Tryd.prog 59 [(.pointer x5)] hp fun u17 h18=>slcV u17 fun a19 n20 c21=>rdS Tryd.prog (Builtin.len_ #[105] 3 #[.map x7]) h18 fun u58=>intV u58 .i64 fun i59=>ite2 (((n20:Nat):Int) != i59) (F13_j7 x0 x1a x1n x1c x5 x7 x8 a19 n20 c21 true h18 I4 K) (F13_j7 x0 x1a x1n x1c x5 x7 x8 a19 n20 c21 (decide (((n20:Nat):Int) > x0)) h18 I4 K))
theorem F13_r19:R13 37471 2 (upd e 9 (sR 9 0)) (upd V0 9 (77,k9)) hp K=
 ldV (k9)[0]? fun v1=>(intV v1 .u8 fun i2=>K (w3 e 9 (sR 9 0) 53 (sR 9 0) 54 (sV (.int .u8 i2))) (upd V0 9 (77,k9)) hp):= by kernel_rfl
theorem F13_r20:R13 152159 2 (upd e 54 (sV (.int .u8 x54))) (upd V0 9 (77,k9)) hp K=
 K (w3 e 54 (sV (.int .u8 x54)) 56 (sB ((x54==0))) 55 (sB ((x54==0)))) (upd V0 9 (77,k9)) hp:= by kernel_rfl
theorem F13_r21:R13 1397343 2 (upd e 11 (sI x11)) (upd V0 10 (79,k10)) hp K=
 K (w3 e 11 (sI x11) 73 (sI x11) 74 (sB ((x11==0)))) (upd V0 10 (79,k10)) hp:= by kernel_rfl
theorem F13_r22:R13 2970207 5 (w2 e 10 (sR 10 0) 7 (sV (.map x7))) (upd V0 10 (79,k10)) hp K=
 ldV (k10)[0]? fun v1=>(intV v1 .i64 fun i2=>ldL (cellsN k10 0 9) fun l3=>opS Tryd.prog (Instr.mapUpdate 105 (.map x7) (.int .i64 i2) (.agg ⟨l3⟩)) hp fun u4 h5=>K (w6 e 10 (sR 10 0) 7 (sV (.map x7)) 75 (sV (.map x7)) 76 (sR 10 0) 77 (sI i2) 78 (sA l3)) (upd V0 10 (79,k10)) h5):= by kernel_rfl
def F13_j11 (x0:Int) (x1a:OA) (x1n x1c:Nat) (x5:OA) (x7:Option Nat) (x8 x11:Int) (k10:List Value) (hp:HP) (I4:(Int)→HP→Prop) (K:Kh):Prop:=
  (ite2 (x11==0) (ldV (k10)[0]? fun v62=>intV v62 .i64 fun i63=>ldL (cellsN k10 0 9) fun l64=>opS Tryd.prog (Instr.mapUpdate 105 (.map x7) (.int .i64 i63) (.agg ⟨l64⟩)) hp fun u65 h66=>F13_j6 x0 x1a x1n x1c x5 x7 x8 h66 I4 K) (F13_j6 x0 x1a x1n x1c x5 x7 x8 hp I4 K))
theorem F13_r23 {e:Env} {x5:OA} {k9:List Value} {hp:HP} {K:Env→PV→HP→Prop}:RW Tryd.prog 302 [9,10,12,13,18,21,53,59,61,63,66,68,76,83,85,87,92,95,97,98,100,102,110,120,126,131,158,220,222] (opsAt Tryd.f13 (pth 610911)) [0,1,2,3,4,5,6,7,8,9,10,11,12,13,14,15,16,17,18] (w2 e 9 (sR 9 0) 5 (sP x5)) (upd V0 9 (77,k9)) hp K=
 ldV (k9)[2]? fun v1=>(intV v1 .i64 fun i2=>ldV (k9)[1]? fun v3=>intV v3 .u8 fun i4=>ldV (k9)[3]? fun v5=>intV v5 .i64 fun i6=>CF Tryd.prog 43 [(.int .u8 i4),(.int .i64 i6)] hp fun u7 h8=>aggV u7 fun l9=>ldV (k9)[5]? fun v10=>intV v10 .i64 fun i11=>ldV (k9)[6]? fun v12=>intV v12 .i64 fun i13=>CF Tryd.prog 42 [(.pointer x5),(.int .i64 i2),(.agg ⟨l9⟩),(.int .i64 i11),(.int .i64 i13)] h8 fun u14 h15=>tup2V u14 fun u16 u17=>aggV u16 fun l18=>intV u17 .i64 fun i19=>if List.length l18=9 then (if List.all l18 one=true then (if 0+List.length l18≤List.length [(Value.int .i64 0),.int .i64 0,.int .u8 0,.int .u8 0,.int .u8 0,.int .u8 0,.int .i64 0,.int .i64 0,.int .i64 0] then (K (w4 (w8 (w8 e 9 (sR 9 0) 5 (sP x5) 58 (sP x5) 59 (sR 9 2) 60 (sI i2) 61 (sR 9 1) 62 (sV (.int .u8 i4)) 63 (sR 9 3)) 64 (sI i6) 65 (sA l9) 66 (sR 9 5) 67 (sI i11) 68 (sR 9 6) 69 (sI i13) 70 (sV (.tuple ⟨[(.agg ⟨l18⟩),(.int .i64 i19)]⟩)) 57 (sV (.tuple ⟨[(.agg ⟨l18⟩),(.int .i64 i19)]⟩))) 71 (sA l18) 72 (sI i19) 10 (sR 10 0) 11 (sI i19)) (w3 V0 9 (77,k9) 10 (79,[.int .i64 0,.int .i64 0,.int .u8 0,.int .u8 0,.int .u8 0,.int .u8 0,.int .i64 0,.int .i64 0,.int .i64 0]) 10 (79,(splice [.int .i64 0,.int .i64 0,.int .u8 0,.int .u8 0,.int .u8 0,.int .u8 0,.int .i64 0,.int .i64 0,.int .i64 0] 0 l18))) h15) else False) else False) else False):= by kernel_rfl
theorem F13_r24 {e:Env} {x5:OA} {k9:List Value} {hp:HP} {K:Env→PV→HP→Prop}:RW Tryd.prog 302 [9,10,12,13,18,21,53,59,61,63,66,68,76,83,85,87,92,95,97,98,100,102,110,120,126,131,158,220,222] (opsAt Tryd.f13 (pth 610911)) [0,1,2,3,4,5,6,7,8,9,10,16,11,12,13,14,15,17,18] (w2 e 9 (sR 9 0) 5 (sP x5)) (upd V0 9 (77,k9)) hp K=
 ldV (k9)[2]? fun v1=>(intV v1 .i64 fun i2=>ldV (k9)[1]? fun v3=>intV v3 .u8 fun i4=>ldV (k9)[3]? fun v5=>intV v5 .i64 fun i6=>CF Tryd.prog 43 [(.int .u8 i4),(.int .i64 i6)] hp fun u7 h8=>aggV u7 fun l9=>ldV (k9)[5]? fun v10=>intV v10 .i64 fun i11=>ldV (k9)[6]? fun v12=>intV v12 .i64 fun i13=>CF Tryd.prog 42 [(.pointer x5),(.int .i64 i2),(.agg ⟨l9⟩),(.int .i64 i11),(.int .i64 i13)] h8 fun u14 h15=>tup2V u14 fun u16 u17=>aggV u16 fun l18=>intV u17 .i64 fun i19=>if List.length l18=9 then (if List.all l18 one=true then (if 0+List.length l18≤List.length [(Value.int .i64 0),.int .i64 0,.int .u8 0,.int .u8 0,.int .u8 0,.int .u8 0,.int .i64 0,.int .i64 0,.int .i64 0] then (K (w4 (w8 (w8 e 9 (sR 9 0) 5 (sP x5) 58 (sP x5) 59 (sR 9 2) 60 (sI i2) 61 (sR 9 1) 62 (sV (.int .u8 i4)) 63 (sR 9 3)) 64 (sI i6) 65 (sA l9) 66 (sR 9 5) 67 (sI i11) 68 (sR 9 6) 10 (sR 10 0) 69 (sI i13) 70 (sV (.tuple ⟨[(.agg ⟨l18⟩),(.int .i64 i19)]⟩))) 57 (sV (.tuple ⟨[(.agg ⟨l18⟩),(.int .i64 i19)]⟩)) 71 (sA l18) 72 (sI i19) 11 (sI i19)) (w3 V0 9 (77,k9) 10 (79,[.int .i64 0,.int .i64 0,.int .u8 0,.int .u8 0,.int .u8 0,.int .u8 0,.int .i64 0,.int .i64 0,.int .i64 0]) 10 (79,(splice [.int .i64 0,.int .i64 0,.int .u8 0,.int .u8 0,.int .u8 0,.int .u8 0,.int .i64 0,.int .i64 0,.int .i64 0] 0 l18))) h15) else False) else False) else False):= by kernel_rfl
theorem F13_r25 {e:Env} {x5:OA} {k9:List Value} {hp:HP} {K:Env→PV→HP→Prop}:RW Tryd.prog 302 [9,10,12,13,18,21,53,59,61,63,66,68,76,83,85,87,92,95,97,98,100,102,110,120,126,131,158,220,222] (opsAt Tryd.f13 (pth 610911)) [0,1,2,3,4,5,6,7,8,10,11,16,9,12,13,14,15,17,18] (w2 e 9 (sR 9 0) 5 (sP x5)) (upd V0 9 (77,k9)) hp K=
 ldV (k9)[2]? fun v1=>(intV v1 .i64 fun i2=>ldV (k9)[1]? fun v3=>intV v3 .u8 fun i4=>ldV (k9)[3]? fun v5=>intV v5 .i64 fun i6=>CF Tryd.prog 43 [(.int .u8 i4),(.int .i64 i6)] hp fun u7 h8=>aggV u7 fun l9=>ldV (k9)[6]? fun v10=>intV v10 .i64 fun i11=>ldV (k9)[5]? fun v12=>intV v12 .i64 fun i13=>CF Tryd.prog 42 [(.pointer x5),(.int .i64 i2),(.agg ⟨l9⟩),(.int .i64 i13),(.int .i64 i11)] h8 fun u14 h15=>tup2V u14 fun u16 u17=>aggV u16 fun l18=>intV u17 .i64 fun i19=>if List.length l18=9 then (if List.all l18 one=true then (if 0+List.length l18≤List.length [(Value.int .i64 0),.int .i64 0,.int .u8 0,.int .u8 0,.int .u8 0,.int .u8 0,.int .i64 0,.int .i64 0,.int .i64 0] then (K (w4 (w8 (w8 e 9 (sR 9 0) 5 (sP x5) 58 (sP x5) 59 (sR 9 2) 60 (sI i2) 61 (sR 9 1) 62 (sV (.int .u8 i4)) 63 (sR 9 3)) 64 (sI i6) 65 (sA l9) 66 (sR 9 5) 68 (sR 9 6) 69 (sI i11) 10 (sR 10 0) 67 (sI i13) 70 (sV (.tuple ⟨[(.agg ⟨l18⟩),(.int .i64 i19)]⟩))) 57 (sV (.tuple ⟨[(.agg ⟨l18⟩),(.int .i64 i19)]⟩)) 71 (sA l18) 72 (sI i19) 11 (sI i19)) (w3 V0 9 (77,k9) 10 (79,[.int .i64 0,.int .i64 0,.int .u8 0,.int .u8 0,.int .u8 0,.int .u8 0,.int .i64 0,.int .i64 0,.int .i64 0]) 10 (79,(splice [.int .i64 0,.int .i64 0,.int .u8 0,.int .u8 0,.int .u8 0,.int .u8 0,.int .i64 0,.int .i64 0,.int .i64 0] 0 l18))) h15) else False) else False) else False):= by kernel_rfl
theorem F13_r26 {e:Env} {x5:OA} {k9:List Value} {hp:HP} {K:Env→PV→HP→Prop}:RW Tryd.prog 302 [9,10,12,13,18,21,53,59,61,63,66,68,76,83,85,87,92,95,97,98,100,102,110,120,126,131,158,220,222] (opsAt Tryd.f13 (pth 610911)) [0,1,2,3,4,5,6,7,8,10,16,9,11,12,13,14,15,17,18] (w2 e 9 (sR 9 0) 5 (sP x5)) (upd V0 9 (77,k9)) hp K=
 ldV (k9)[2]? fun v1=>(intV v1 .i64 fun i2=>ldV (k9)[1]? fun v3=>intV v3 .u8 fun i4=>ldV (k9)[3]? fun v5=>intV v5 .i64 fun i6=>CF Tryd.prog 43 [(.int .u8 i4),(.int .i64 i6)] hp fun u7 h8=>aggV u7 fun l9=>ldV (k9)[5]? fun v10=>intV v10 .i64 fun i11=>ldV (k9)[6]? fun v12=>intV v12 .i64 fun i13=>CF Tryd.prog 42 [(.pointer x5),(.int .i64 i2),(.agg ⟨l9⟩),(.int .i64 i11),(.int .i64 i13)] h8 fun u14 h15=>tup2V u14 fun u16 u17=>aggV u16 fun l18=>intV u17 .i64 fun i19=>if List.length l18=9 then (if List.all l18 one=true then (if 0+List.length l18≤List.length [(Value.int .i64 0),.int .i64 0,.int .u8 0,.int .u8 0,.int .u8 0,.int .u8 0,.int .i64 0,.int .i64 0,.int .i64 0] then (K (w4 (w8 (w8 e 9 (sR 9 0) 5 (sP x5) 58 (sP x5) 59 (sR 9 2) 60 (sI i2) 61 (sR 9 1) 62 (sV (.int .u8 i4)) 63 (sR 9 3)) 64 (sI i6) 65 (sA l9) 66 (sR 9 5) 68 (sR 9 6) 10 (sR 10 0) 67 (sI i11) 69 (sI i13) 70 (sV (.tuple ⟨[(.agg ⟨l18⟩),(.int .i64 i19)]⟩))) 57 (sV (.tuple ⟨[(.agg ⟨l18⟩),(.int .i64 i19)]⟩)) 71 (sA l18) 72 (sI i19) 11 (sI i19)) (w3 V0 9 (77,k9) 10 (79,[.int .i64 0,.int .i64 0,.int .u8 0,.int .u8 0,.int .u8 0,.int .u8 0,.int .i64 0,.int .i64 0,.int .i64 0]) 10 (79,(splice [.int .i64 0,.int .i64 0,.int .u8 0,.int .u8 0,.int .u8 0,.int .u8 0,.int .i64 0,.int .i64 0,.int .i64 0] 0 l18))) h15) else False) else False) else False):= by kernel_rfl
theorem F13_r27 {e:Env} {x5:OA} {k9:List Value} {hp:HP} {K:Env→PV→HP→Prop}:RW Tryd.prog 302 [9,10,12,13,18,21,53,59,61,63,66,68,76,83,85,87,92,95,97,98,100,102,110,120,126,131,158,220,222] (opsAt Tryd.f13 (pth 610911)) [0,1,2,3,4,5,8,9,10,11,16,6,7,12,13,14,15,17,18] (w2 e 9 (sR 9 0) 5 (sP x5)) (upd V0 9 (77,k9)) hp K=
 ldV (k9)[2]? fun v1=>(intV v1 .i64 fun i2=>ldV (k9)[1]? fun v3=>intV v3 .u8 fun i4=>ldV (k9)[5]? fun v5=>intV v5 .i64 fun i6=>ldV (k9)[6]? fun v7=>intV v7 .i64 fun i8=>ldV (k9)[3]? fun v9=>intV v9 .i64 fun i10=>CF Tryd.prog 43 [(.int .u8 i4),(.int .i64 i10)] hp fun u11 h12=>aggV u11 fun l13=>CF Tryd.prog 42 [(.pointer x5),(.int .i64 i2),(.agg ⟨l13⟩),(.int .i64 i6),(.int .i64 i8)] h12 fun u14 h15=>tup2V u14 fun u16 u17=>aggV u16 fun l18=>intV u17 .i64 fun i19=>if List.length l18=9 then (if List.all l18 one=true then (if 0+List.length l18≤List.length [(Value.int .i64 0),.int .i64 0,.int .u8 0,.int .u8 0,.int .u8 0,.int .u8 0,.int .i64 0,.int .i64 0,.int .i64 0] then (K (w4 (w8 (w8 e 9 (sR 9 0) 5 (sP x5) 58 (sP x5) 59 (sR 9 2) 60 (sI i2) 61 (sR 9 1) 62 (sV (.int .u8 i4)) 63 (sR 9 3)) 66 (sR 9 5) 67 (sI i6) 68 (sR 9 6) 69 (sI i8) 10 (sR 10 0) 64 (sI i10) 65 (sA l13) 70 (sV (.tuple ⟨[(.agg ⟨l18⟩),(.int .i64 i19)]⟩))) 57 (sV (.tuple ⟨[(.agg ⟨l18⟩),(.int .i64 i19)]⟩)) 71 (sA l18) 72 (sI i19) 11 (sI i19)) (w3 V0 9 (77,k9) 10 (79,[.int .i64 0,.int .i64 0,.int .u8 0,.int .u8 0,.int .u8 0,.int .u8 0,.int .i64 0,.int .i64 0,.int .i64 0]) 10 (79,(splice [.int .i64 0,.int .i64 0,.int .u8 0,.int .u8 0,.int .u8 0,.int .u8 0,.int .i64 0,.int .i64 0,.int .i64 0] 0 l18))) h15) else False) else False) else False):= by kernel_rfl
theorem F13_r28 {e:Env} {x5:OA} {k9:List Value} {hp:HP} {K:Env→PV→HP→Prop}:RW Tryd.prog 302 [9,10,12,13,18,21,53,59,61,63,66,68,76,83,85,87,92,95,97,98,100,102,110,120,126,131,158,220,222] (opsAt Tryd.f13 (pth 610911)) [0,1,2,3,4,5,8,9,10,16,6,7,11,12,13,14,15,17,18] (w2 e 9 (sR 9 0) 5 (sP x5)) (upd V0 9 (77,k9)) hp K=
 ldV (k9)[2]? fun v1=>(intV v1 .i64 fun i2=>ldV (k9)[1]? fun v3=>intV v3 .u8 fun i4=>ldV (k9)[5]? fun v5=>intV v5 .i64 fun i6=>ldV (k9)[3]? fun v7=>intV v7 .i64 fun i8=>CF Tryd.prog 43 [(.int .u8 i4),(.int .i64 i8)] hp fun u9 h10=>aggV u9 fun l11=>ldV (k9)[6]? fun v12=>intV v12 .i64 fun i13=>CF Tryd.prog 42 [(.pointer x5),(.int .i64 i2),(.agg ⟨l11⟩),(.int .i64 i6),(.int .i64 i13)] h10 fun u14 h15=>tup2V u14 fun u16 u17=>aggV u16 fun l18=>intV u17 .i64 fun i19=>if List.length l18=9 then (if List.all l18 one=true then (if 0+List.length l18≤List.length [(Value.int .i64 0),.int .i64 0,.int .u8 0,.int .u8 0,.int .u8 0,.int .u8 0,.int .i64 0,.int .i64 0,.int .i64 0] then (K (w4 (w8 (w8 e 9 (sR 9 0) 5 (sP x5) 58 (sP x5) 59 (sR 9 2) 60 (sI i2) 61 (sR 9 1) 62 (sV (.int .u8 i4)) 63 (sR 9 3)) 66 (sR 9 5) 67 (sI i6) 68 (sR 9 6) 10 (sR 10 0) 64 (sI i8) 65 (sA l11) 69 (sI i13) 70 (sV (.tuple ⟨[(.agg ⟨l18⟩),(.int .i64 i19)]⟩))) 57 (sV (.tuple ⟨[(.agg ⟨l18⟩),(.int .i64 i19)]⟩)) 71 (sA l18) 72 (sI i19) 11 (sI i19)) (w3 V0 9 (77,k9) 10 (79,[.int .i64 0,.int .i64 0,.int .u8 0,.int .u8 0,.int .u8 0,.int .u8 0,.int .i64 0,.int .i64 0,.int .i64 0]) 10 (79,(splice [.int .i64 0,.int .i64 0,.int .u8 0,.int .u8 0,.int .u8 0,.int .u8 0,.int .i64 0,.int .i64 0,.int .i64 0] 0 l18))) h15) else False) else False) else False):= by kernel_rfl
theorem F13_r29 {e:Env} {x5:OA} {k9:List Value} {hp:HP} {K:Env→PV→HP→Prop}:RW Tryd.prog 302 [9,10,12,13,18,21,53,59,61,63,66,68,76,83,85,87,92,95,97,98,100,102,110,120,126,131,158,220,222] (opsAt Tryd.f13 (pth 610911)) [0,1,2,3,4,5,8,10,11,16,6,7,9,12,13,14,15,17,18] (w2 e 9 (sR 9 0) 5 (sP x5)) (upd V0 9 (77,k9)) hp K=
 ldV (k9)[2]? fun v1=>(intV v1 .i64 fun i2=>ldV (k9)[1]? fun v3=>intV v3 .u8 fun i4=>ldV (k9)[6]? fun v5=>intV v5 .i64 fun i6=>ldV (k9)[3]? fun v7=>intV v7 .i64 fun i8=>CF Tryd.prog 43 [(.int .u8 i4),(.int .i64 i8)] hp fun u9 h10=>aggV u9 fun l11=>ldV (k9)[5]? fun v12=>intV v12 .i64 fun i13=>CF Tryd.prog 42 [(.pointer x5),(.int .i64 i2),(.agg ⟨l11⟩),(.int .i64 i13),(.int .i64 i6)] h10 fun u14 h15=>tup2V u14 fun u16 u17=>aggV u16 fun l18=>intV u17 .i64 fun i19=>if List.length l18=9 then (if List.all l18 one=true then (if 0+List.length l18≤List.length [(Value.int .i64 0),.int .i64 0,.int .u8 0,.int .u8 0,.int .u8 0,.int .u8 0,.int .i64 0,.int .i64 0,.int .i64 0] then (K (w4 (w8 (w8 e 9 (sR 9 0) 5 (sP x5) 58 (sP x5) 59 (sR 9 2) 60 (sI i2) 61 (sR 9 1) 62 (sV (.int .u8 i4)) 63 (sR 9 3)) 66 (sR 9 5) 68 (sR 9 6) 69 (sI i6) 10 (sR 10 0) 64 (sI i8) 65 (sA l11) 67 (sI i13) 70 (sV (.tuple ⟨[(.agg ⟨l18⟩),(.int .i64 i19)]⟩))) 57 (sV (.tuple ⟨[(.agg ⟨l18⟩),(.int .i64 i19)]⟩)) 71 (sA l18) 72 (sI i19) 11 (sI i19)) (w3 V0 9 (77,k9) 10 (79,[.int .i64 0,.int .i64 0,.int .u8 0,.int .u8 0,.int .u8 0,.int .u8 0,.int .i64 0,.int .i64 0,.int .i64 0]) 10 (79,(splice [.int .i64 0,.int .i64 0,.int .u8 0,.int .u8 0,.int .u8 0,.int .u8 0,.int .i64 0,.int .i64 0,.int .i64 0] 0 l18))) h15) else False) else False) else False):= by kernel_rfl
theorem F13_r30 {e:Env} {x5:OA} {k9:List Value} {hp:HP} {K:Env→PV→HP→Prop}:RW Tryd.prog 302 [9,10,12,13,18,21,53,59,61,63,66,68,76,83,85,87,92,95,97,98,100,102,110,120,126,131,158,220,222] (opsAt Tryd.f13 (pth 610911)) [0,1,2,3,4,5,8,10,16,6,7,9,11,12,13,14,15,17,18] (w2 e 9 (sR 9 0) 5 (sP x5)) (upd V0 9 (77,k9)) hp K=
 ldV (k9)[2]? fun v1=>(intV v1 .i64 fun i2=>ldV (k9)[1]? fun v3=>intV v3 .u8 fun i4=>ldV (k9)[3]? fun v5=>intV v5 .i64 fun i6=>CF Tryd.prog 43 [(.int .u8 i4),(.int .i64 i6)] hp fun u7 h8=>aggV u7 fun l9=>ldV (k9)[5]? fun v10=>intV v10 .i64 fun i11=>ldV (k9)[6]? fun v12=>intV v12 .i64 fun i13=>CF Tryd.prog 42 [(.pointer x5),(.int .i64 i2),(.agg ⟨l9⟩),(.int .i64 i11),(.int .i64 i13)] h8 fun u14 h15=>tup2V u14 fun u16 u17=>aggV u16 fun l18=>intV u17 .i64 fun i19=>if List.length l18=9 then (if List.all l18 one=true then (if 0+List.length l18≤List.length [(Value.int .i64 0),.int .i64 0,.int .u8 0,.int .u8 0,.int .u8 0,.int .u8 0,.int .i64 0,.int .i64 0,.int .i64 0] then (K (w4 (w8 (w8 e 9 (sR 9 0) 5 (sP x5) 58 (sP x5) 59 (sR 9 2) 60 (sI i2) 61 (sR 9 1) 62 (sV (.int .u8 i4)) 63 (sR 9 3)) 66 (sR 9 5) 68 (sR 9 6) 10 (sR 10 0) 64 (sI i6) 65 (sA l9) 67 (sI i11) 69 (sI i13) 70 (sV (.tuple ⟨[(.agg ⟨l18⟩),(.int .i64 i19)]⟩))) 57 (sV (.tuple ⟨[(.agg ⟨l18⟩),(.int .i64 i19)]⟩)) 71 (sA l18) 72 (sI i19) 11 (sI i19)) (w3 V0 9 (77,k9) 10 (79,[.int .i64 0,.int .i64 0,.int .u8 0,.int .u8 0,.int .u8 0,.int .u8 0,.int .i64 0,.int .i64 0,.int .i64 0]) 10 (79,(splice [.int .i64 0,.int .i64 0,.int .u8 0,.int .u8 0,.int .u8 0,.int .u8 0,.int .i64 0,.int .i64 0,.int .i64 0] 0 l18))) h15) else False) else False) else False):= by kernel_rfl
theorem F13_r31 {e:Env} {x5:OA} {k9:List Value} {hp:HP} {K:Env→PV→HP→Prop}:RW Tryd.prog 302 [9,10,12,13,18,21,53,59,61,63,66,68,76,83,85,87,92,95,97,98,100,102,110,120,126,131,158,220,222] (opsAt Tryd.f13 (pth 610911)) [0,1,2,3,5,6,8,9,10,11,16,4,7,12,13,14,15,17,18] (w2 e 9 (sR 9 0) 5 (sP x5)) (upd V0 9 (77,k9)) hp K=
 ldV (k9)[2]? fun v1=>(intV v1 .i64 fun i2=>ldV (k9)[3]? fun v3=>intV v3 .i64 fun i4=>ldV (k9)[5]? fun v5=>intV v5 .i64 fun i6=>ldV (k9)[6]? fun v7=>intV v7 .i64 fun i8=>ldV (k9)[1]? fun v9=>intV v9 .u8 fun i10=>CF Tryd.prog 43 [(.int .u8 i10),(.int .i64 i4)] hp fun u11 h12=>aggV u11 fun l13=>CF Tryd.prog 42 [(.pointer x5),(.int .i64 i2),(.agg ⟨l13⟩),(.int .i64 i6),(.int .i64 i8)] h12 fun u14 h15=>tup2V u14 fun u16 u17=>aggV u16 fun l18=>intV u17 .i64 fun i19=>if List.length l18=9 then (if List.all l18 one=true then (if 0+List.length l18≤List.length [(Value.int .i64 0),.int .i64 0,.int .u8 0,.int .u8 0,.int .u8 0,.int .u8 0,.int .i64 0,.int .i64 0,.int .i64 0] then (K (w4 (w8 (w8 e 9 (sR 9 0) 5 (sP x5) 58 (sP x5) 59 (sR 9 2) 60 (sI i2) 61 (sR 9 1) 63 (sR 9 3) 64 (sI i4)) 66 (sR 9 5) 67 (sI i6) 68 (sR 9 6) 69 (sI i8) 10 (sR 10 0) 62 (sV (.int .u8 i10)) 65 (sA l13) 70 (sV (.tuple ⟨[(.agg ⟨l18⟩),(.int .i64 i19)]⟩))) 57 (sV (.tuple ⟨[(.agg ⟨l18⟩),(.int .i64 i19)]⟩)) 71 (sA l18) 72 (sI i19) 11 (sI i19)) (w3 V0 9 (77,k9) 10 (79,[.int .i64 0,.int .i64 0,.int .u8 0,.int .u8 0,.int .u8 0,.int .u8 0,.int .i64 0,.int .i64 0,.int .i64 0]) 10 (79,(splice [.int .i64 0,.int .i64 0,.int .u8 0,.int .u8 0,.int .u8 0,.int .u8 0,.int .i64 0,.int .i64 0,.int .i64 0] 0 l18))) h15) else False) else False) else False):= by kernel_rfl
theorem F13_r32 {e:Env} {x5:OA} {k9:List Value} {hp:HP} {K:Env→PV→HP→Prop}:RW Tryd.prog 302 [9,10,12,13,18,21,53,59,61,63,66,68,76,83,85,87,92,95,97,98,100,102,110,120,126,131,158,220,222] (opsAt Tryd.f13 (pth 610911)) [0,1,2,3,5,6,8,9,10,16,4,7,11,12,13,14,15,17,18] (w2 e 9 (sR 9 0) 5 (sP x5)) (upd V0 9 (77,k9)) hp K=
 ldV (k9)[2]? fun v1=>(intV v1 .i64 fun i2=>ldV (k9)[3]? fun v3=>intV v3 .i64 fun i4=>ldV (k9)[5]? fun v5=>intV v5 .i64 fun i6=>ldV (k9)[1]? fun v7=>intV v7 .u8 fun i8=>CF Tryd.prog 43 [(.int .u8 i8),(.int .i64 i4)] hp fun u9 h10=>aggV u9 fun l11=>ldV (k9)[6]? fun v12=>intV v12 .i64 fun i13=>CF Tryd.prog 42 [(.pointer x5),(.int .i64 i2),(.agg ⟨l11⟩),(.int .i64 i6),(.int .i64 i13)] h10 fun u14 h15=>tup2V u14 fun u16 u17=>aggV u16 fun l18=>intV u17 .i64 fun i19=>if List.length l18=9 then (if List.all l18 one=true then (if 0+List.length l18≤List.length [(Value.int .i64 0),.int .i64 0,.int .u8 0,.int .u8 0,.int .u8 0,.int .u8 0,.int .i64 0,.int .i64 0,.int .i64 0] then (K (w4 (w8 (w8 e 9 (sR 9 0) 5 (sP x5) 58 (sP x5) 59 (sR 9 2) 60 (sI i2) 61 (sR 9 1) 63 (sR 9 3) 64 (sI i4)) 66 (sR 9 5) 67 (sI i6) 68 (sR 9 6) 10 (sR 10 0) 62 (sV (.int .u8 i8)) 65 (sA l11) 69 (sI i13) 70 (sV (.tuple ⟨[(.agg ⟨l18⟩),(.int .i64 i19)]⟩))) 57 (sV (.tuple ⟨[(.agg ⟨l18⟩),(.int .i64 i19)]⟩)) 71 (sA l18) 72 (sI i19) 11 (sI i19)) (w3 V0 9 (77,k9) 10 (79,[.int .i64 0,.int .i64 0,.int .u8 0,.int .u8 0,.int .u8 0,.int .u8 0,.int .i64 0,.int .i64 0,.int .i64 0]) 10 (79,(splice [.int .i64 0,.int .i64 0,.int .u8 0,.int .u8 0,.int .u8 0,.int .u8 0,.int .i64 0,.int .i64 0,.int .i64 0] 0 l18))) h15) else False) else False) else False):= by kernel_rfl
theorem F13_r33 {e:Env} {x5:OA} {k9:List Value} {hp:HP} {K:Env→PV→HP→Prop}:RW Tryd.prog 302 [9,10,12,13,18,21,53,59,61,63,66,68,76,83,85,87,92,95,97,98,100,102,110,120,126,131,158,220,222] (opsAt Tryd.f13 (pth 610911)) [0,1,2,3,5,6,8,10,11,16,4,7,9,12,13,14,15,17,18] (w2 e 9 (sR 9 0) 5 (sP x5)) (upd V0 9 (77,k9)) hp K=
 ldV (k9)[2]? fun v1=>(intV v1 .i64 fun i2=>ldV (k9)[3]? fun v3=>intV v3 .i64 fun i4=>ldV (k9)[6]? fun v5=>intV v5 .i64 fun i6=>ldV (k9)[1]? fun v7=>intV v7 .u8 fun i8=>CF Tryd.prog 43 [(.int .u8 i8),(.int .i64 i4)] hp fun u9 h10=>aggV u9 fun l11=>ldV (k9)[5]? fun v12=>intV v12 .i64 fun i13=>CF Tryd.prog 42 [(.pointer x5),(.int .i64 i2),(.agg ⟨l11⟩),(.int .i64 i13),(.int .i64 i6)] h10 fun u14 h15=>tup2V u14 fun u16 u17=>aggV u16 fun l18=>intV u17 .i64 fun i19=>if List.length l18=9 then (if List.all l18 one=true then (if 0+List.length l18≤List.length [(Value.int .i64 0),.int .i64 0,.int .u8 0,.int .u8 0,.int .u8 0,.int .u8 0,.int .i64 0,.int .i64 0,.int .i64 0] then (K (w4 (w8 (w8 e 9 (sR 9 0) 5 (sP x5) 58 (sP x5) 59 (sR 9 2) 60 (sI i2) 61 (sR 9 1) 63 (sR 9 3) 64 (sI i4)) 66 (sR 9 5) 68 (sR 9 6) 69 (sI i6) 10 (sR 10 0) 62 (sV (.int .u8 i8)) 65 (sA l11) 67 (sI i13) 70 (sV (.tuple ⟨[(.agg ⟨l18⟩),(.int .i64 i19)]⟩))) 57 (sV (.tuple ⟨[(.agg ⟨l18⟩),(.int .i64 i19)]⟩)) 71 (sA l18) 72 (sI i19) 11 (sI i19)) (w3 V0 9 (77,k9) 10 (79,[.int .i64 0,.int .i64 0,.int .u8 0,.int .u8 0,.int .u8 0,.int .u8 0,.int .i64 0,.int .i64 0,.int .i64 0]) 10 (79,(splice [.int .i64 0,.int .i64 0,.int .u8 0,.int .u8 0,.int .u8 0,.int .u8 0,.int .i64 0,.int .i64 0,.int .i64 0] 0 l18))) h15) else False) else False) else False):= by kernel_rfl
theorem F13_r34 {e:Env} {x5:OA} {k9:List Value} {hp:HP} {K:Env→PV→HP→Prop}:RW Tryd.prog 302 [9,10,12,13,18,21,53,59,61,63,66,68,76,83,85,87,92,95,97,98,100,102,110,120,126,131,158,220,222] (opsAt Tryd.f13 (pth 610911)) [0,1,2,3,5,6,8,10,16,4,7,9,11,12,13,14,15,17,18] (w2 e 9 (sR 9 0) 5 (sP x5)) (upd V0 9 (77,k9)) hp K=
 ldV (k9)[2]? fun v1=>(intV v1 .i64 fun i2=>ldV (k9)[3]? fun v3=>intV v3 .i64 fun i4=>ldV (k9)[1]? fun v5=>intV v5 .u8 fun i6=>CF Tryd.prog 43 [(.int .u8 i6),(.int .i64 i4)] hp fun u7 h8=>aggV u7 fun l9=>ldV (k9)[5]? fun v10=>intV v10 .i64 fun i11=>ldV (k9)[6]? fun v12=>intV v12 .i64 fun i13=>CF Tryd.prog 42 [(.pointer x5),(.int .i64 i2),(.agg ⟨l9⟩),(.int .i64 i11),(.int .i64 i13)] h8 fun u14 h15=>tup2V u14 fun u16 u17=>aggV u16 fun l18=>intV u17 .i64 fun i19=>if List.length l18=9 then (if List.all l18 one=true then (if 0+List.length l18≤List.length [(Value.int .i64 0),.int .i64 0,.int .u8 0,.int .u8 0,.int .u8 0,.int .u8 0,.int .i64 0,.int .i64 0,.int .i64 0] then (K (w4 (w8 (w8 e 9 (sR 9 0) 5 (sP x5) 58 (sP x5) 59 (sR 9 2) 60 (sI i2) 61 (sR 9 1) 63 (sR 9 3) 64 (sI i4)) 66 (sR 9 5) 68 (sR 9 6) 10 (sR 10 0) 62 (sV (.int .u8 i6)) 65 (sA l9) 67 (sI i11) 69 (sI i13) 70 (sV (.tuple ⟨[(.agg ⟨l18⟩),(.int .i64 i19)]⟩))) 57 (sV (.tuple ⟨[(.agg ⟨l18⟩),(.int .i64 i19)]⟩)) 71 (sA l18) 72 (sI i19) 11 (sI i19)) (w3 V0 9 (77,k9) 10 (79,[.int .i64 0,.int .i64 0,.int .u8 0,.int .u8 0,.int .u8 0,.int .u8 0,.int .i64 0,.int .i64 0,.int .i64 0]) 10 (79,(splice [.int .i64 0,.int .i64 0,.int .u8 0,.int .u8 0,.int .u8 0,.int .u8 0,.int .i64 0,.int .i64 0,.int .i64 0] 0 l18))) h15) else False) else False) else False):= by kernel_rfl
theorem F13_r35 {e:Env} {x5:OA} {k9:List Value} {hp:HP} {K:Env→PV→HP→Prop}:RW Tryd.prog 302 [9,10,12,13,18,21,53,59,61,63,66,68,76,83,85,87,92,95,97,98,100,102,110,120,126,131,158,220,222] (opsAt Tryd.f13 (pth 610911)) [0,1,2,3,5,8,9,10,11,16,4,6,7,12,13,14,15,17,18] (w2 e 9 (sR 9 0) 5 (sP x5)) (upd V0 9 (77,k9)) hp K=
 ldV (k9)[2]? fun v1=>(intV v1 .i64 fun i2=>ldV (k9)[5]? fun v3=>intV v3 .i64 fun i4=>ldV (k9)[6]? fun v5=>intV v5 .i64 fun i6=>ldV (k9)[1]? fun v7=>intV v7 .u8 fun i8=>ldV (k9)[3]? fun v9=>intV v9 .i64 fun i10=>CF Tryd.prog 43 [(.int .u8 i8),(.int .i64 i10)] hp fun u11 h12=>aggV u11 fun l13=>CF Tryd.prog 42 [(.pointer x5),(.int .i64 i2),(.agg ⟨l13⟩),(.int .i64 i4),(.int .i64 i6)] h12 fun u14 h15=>tup2V u14 fun u16 u17=>aggV u16 fun l18=>intV u17 .i64 fun i19=>if List.length l18=9 then (if List.all l18 one=true then (if 0+List.length l18≤List.length [(Value.int .i64 0),.int .i64 0,.int .u8 0,.int .u8 0,.int .u8 0,.int .u8 0,.int .i64 0,.int .i64 0,.int .i64 0] then (K (w4 (w8 (w8 e 9 (sR 9 0) 5 (sP x5) 58 (sP x5) 59 (sR 9 2) 60 (sI i2) 61 (sR 9 1) 63 (sR 9 3) 66 (sR 9 5)) 67 (sI i4) 68 (sR 9 6) 69 (sI i6) 10 (sR 10 0) 62 (sV (.int .u8 i8)) 64 (sI i10) 65 (sA l13) 70 (sV (.tuple ⟨[(.agg ⟨l18⟩),(.int .i64 i19)]⟩))) 57 (sV (.tuple ⟨[(.agg ⟨l18⟩),(.int .i64 i19)]⟩)) 71 (sA l18) 72 (sI i19) 11 (sI i19)) (w3 V0 9 (77,k9) 10 (79,[.int .i64 0,.int .i64 0,.int .u8 0,.int .u8 0,.int .u8 0,.int .u8 0,.int .i64 0,.int .i64 0,.int .i64 0]) 10 (79,(splice [.int .i64 0,.int .i64 0,.int .u8 0,.int .u8 0,.int .u8 0,.int .u8 0,.int .i64 0,.int .i64 0,.int .i64 0] 0 l18))) h15) else False) else False) else False):= by kernel_rfl
theorem F13_r36 {e:Env} {x5:OA} {k9:List Value} {hp:HP} {K:Env→PV→HP→Prop}:RW Tryd.prog 302 [9,10,12,13,18,21,53,59,61,63,66,68,76,83,85,87,92,95,97,98,100,102,110,120,126,131,158,220,222] (opsAt Tryd.f13 (pth 610911)) [0,1,2,3,5,8,9,10,16,4,6,7,11,12,13,14,15,17,18] (w2 e 9 (sR 9 0) 5 (sP x5)) (upd V0 9 (77,k9)) hp K=
 ldV (k9)[2]? fun v1=>(intV v1 .i64 fun i2=>ldV (k9)[5]? fun v3=>intV v3 .i64 fun i4=>ldV (k9)[1]? fun v5=>intV v5 .u8 fun i6=>ldV (k9)[3]? fun v7=>intV v7 .i64 fun i8=>CF Tryd.prog 43 [(.int .u8 i6),(.int .i64 i8)] hp fun u9 h10=>aggV u9 fun l11=>ldV (k9)[6]? fun v12=>intV v12 .i64 fun i13=>CF Tryd.prog 42 [(.pointer x5),(.int .i64 i2),(.agg ⟨l11⟩),(.int .i64 i4),(.int .i64 i13)] h10 fun u14 h15=>tup2V u14 fun u16 u17=>aggV u16 fun l18=>intV u17 .i64 fun i19=>if List.length l18=9 then (if List.all l18 one=true then (if 0+List.length l18≤List.length [(Value.int .i64 0),.int .i64 0,.int .u8 0,.int .u8 0,.int .u8 0,.int .u8 0,.int .i64 0,.int .i64 0,.int .i64 0] then (K (w4 (w8 (w8 e 9 (sR 9 0) 5 (sP x5) 58 (sP x5) 59 (sR 9 2) 60 (sI i2) 61 (sR 9 1) 63 (sR 9 3) 66 (sR 9 5)) 67 (sI i4) 68 (sR 9 6) 10 (sR 10 0) 62 (sV (.int .u8 i6)) 64 (sI i8) 65 (sA l11) 69 (sI i13) 70 (sV (.tuple ⟨[(.agg ⟨l18⟩),(.int .i64 i19)]⟩))) 57 (sV (.tuple ⟨[(.agg ⟨l18⟩),(.int .i64 i19)]⟩)) 71 (sA l18) 72 (sI i19) 11 (sI i19)) (w3 V0 9 (77,k9) 10 (79,[.int .i64 0,.int .i64 0,.int .u8 0,.int .u8 0,.int .u8 0,.int .u8 0,.int .i64 0,.int .i64 0,.int .i64 0]) 10 (79,(splice [.int .i64 0,.int .i64 0,.int .u8 0,.int .u8 0,.int .u8 0,.int .u8 0,.int .i64 0,.int .i64 0,.int .i64 0] 0 l18))) h15) else False) else False) else False):= by kernel_rfl
theorem F13_r37 {e:Env} {x5:OA} {k9:List Value} {hp:HP} {K:Env→PV→HP→Prop}:RW Tryd.prog 302 [9,10,12,13,18,21,53,59,61,63,66,68,76,83,85,87,92,95,97,98,100,102,110,120,126,131,158,220,222] (opsAt Tryd.f13 (pth 610911)) [0,1,2,3,5,8,10,11,16,4,6,7,9,12,13,14,15,17,18] (w2 e 9 (sR 9 0) 5 (sP x5)) (upd V0 9 (77,k9)) hp K=
 ldV (k9)[2]? fun v1=>(intV v1 .i64 fun i2=>ldV (k9)[6]? fun v3=>intV v3 .i64 fun i4=>ldV (k9)[1]? fun v5=>intV v5 .u8 fun i6=>ldV (k9)[3]? fun v7=>intV v7 .i64 fun i8=>CF Tryd.prog 43 [(.int .u8 i6),(.int .i64 i8)] hp fun u9 h10=>aggV u9 fun l11=>ldV (k9)[5]? fun v12=>intV v12 .i64 fun i13=>CF Tryd.prog 42 [(.pointer x5),(.int .i64 i2),(.agg ⟨l11⟩),(.int .i64 i13),(.int .i64 i4)] h10 fun u14 h15=>tup2V u14 fun u16 u17=>aggV u16 fun l18=>intV u17 .i64 fun i19=>if List.length l18=9 then (if List.all l18 one=true then (if 0+List.length l18≤List.length [(Value.int .i64 0),.int .i64 0,.int .u8 0,.int .u8 0,.int .u8 0,.int .u8 0,.int .i64 0,.int .i64 0,.int .i64 0] then (K (w4 (w8 (w8 e 9 (sR 9 0) 5 (sP x5) 58 (sP x5) 59 (sR 9 2) 60 (sI i2) 61 (sR 9 1) 63 (sR 9 3) 66 (sR 9 5)) 68 (sR 9 6) 69 (sI i4) 10 (sR 10 0) 62 (sV (.int .u8 i6)) 64 (sI i8) 65 (sA l11) 67 (sI i13) 70 (sV (.tuple ⟨[(.agg ⟨l18⟩),(.int .i64 i19)]⟩))) 57 (sV (.tuple ⟨[(.agg ⟨l18⟩),(.int .i64 i19)]⟩)) 71 (sA l18) 72 (sI i19) 11 (sI i19)) (w3 V0 9 (77,k9) 10 (79,[.int .i64 0,.int .i64 0,.int .u8 0,.int .u8 0,.int .u8 0,.int .u8 0,.int .i64 0,.int .i64 0,.int .i64 0]) 10 (79,(splice [.int .i64 0,.int .i64 0,.int .u8 0,.int .u8 0,.int .u8 0,.int .u8 0,.int .i64 0,.int .i64 0,.int .i64 0] 0 l18))) h15) else False) else False) else False):= by kernel_rfl
theorem F13_r38 {e:Env} {x5:OA} {k9:List Value} {hp:HP} {K:Env→PV→HP→Prop}:RW Tryd.prog 302 [9,10,12,13,18,21,53,59,61,63,66,68,76,83,85,87,92,95,97,98,100,102,110,120,126,131,158,220,222] (opsAt Tryd.f13 (pth 610911)) [0,1,2,3,5,8,10,16,4,6,7,9,11,12,13,14,15,17,18] (w2 e 9 (sR 9 0) 5 (sP x5)) (upd V0 9 (77,k9)) hp K=
 ldV (k9)[2]? fun v1=>(intV v1 .i64 fun i2=>ldV (k9)[1]? fun v3=>intV v3 .u8 fun i4=>ldV (k9)[3]? fun v5=>intV v5 .i64 fun i6=>CF Tryd.prog 43 [(.int .u8 i4),(.int .i64 i6)] hp fun u7 h8=>aggV u7 fun l9=>ldV (k9)[5]? fun v10=>intV v10 .i64 fun i11=>ldV (k9)[6]? fun v12=>intV v12 .i64 fun i13=>CF Tryd.prog 42 [(.pointer x5),(.int .i64 i2),(.agg ⟨l9⟩),(.int .i64 i11),(.int .i64 i13)] h8 fun u14 h15=>tup2V u14 fun u16 u17=>aggV u16 fun l18=>intV u17 .i64 fun i19=>if List.length l18=9 then (if List.all l18 one=true then (if 0+List.length l18≤List.length [(Value.int .i64 0),.int .i64 0,.int .u8 0,.int .u8 0,.int .u8 0,.int .u8 0,.int .i64 0,.int .i64 0,.int .i64 0] then (K (w4 (w8 (w8 e 9 (sR 9 0) 5 (sP x5) 58 (sP x5) 59 (sR 9 2) 60 (sI i2) 61 (sR 9 1) 63 (sR 9 3) 66 (sR 9 5)) 68 (sR 9 6) 10 (sR 10 0) 62 (sV (.int .u8 i4)) 64 (sI i6) 65 (sA l9) 67 (sI i11) 69 (sI i13) 70 (sV (.tuple ⟨[(.agg ⟨l18⟩),(.int .i64 i19)]⟩))) 57 (sV (.tuple ⟨[(.agg ⟨l18⟩),(.int .i64 i19)]⟩)) 71 (sA l18) 72 (sI i19) 11 (sI i19)) (w3 V0 9 (77,k9) 10 (79,[.int .i64 0,.int .i64 0,.int .u8 0,.int .u8 0,.int .u8 0,.int .u8 0,.int .i64 0,.int .i64 0,.int .i64 0]) 10 (79,(splice [.int .i64 0,.int .i64 0,.int .u8 0,.int .u8 0,.int .u8 0,.int .u8 0,.int .i64 0,.int .i64 0,.int .i64 0] 0 l18))) h15) else False) else False) else False):= by kernel_rfl
theorem F13_r39 {e:Env} {x5:OA} {k9:List Value} {hp:HP} {K:Env→PV→HP→Prop}:RW Tryd.prog 302 [9,10,12,13,18,21,53,59,61,63,66,68,76,83,85,87,92,95,97,98,100,102,110,120,126,131,158,220,222] (opsAt Tryd.f13 (pth 610911)) [0,1,3,4,5,6,7,8,9,10,11,16,2,12,13,14,15,17,18] (w2 e 9 (sR 9 0) 5 (sP x5)) (upd V0 9 (77,k9)) hp K=
 ldV (k9)[1]? fun v1=>(intV v1 .u8 fun i2=>ldV (k9)[3]? fun v3=>intV v3 .i64 fun i4=>CF Tryd.prog 43 [(.int .u8 i2),(.int .i64 i4)] hp fun u5 h6=>aggV u5 fun l7=>ldV (k9)[5]? fun v8=>intV v8 .i64 fun i9=>ldV (k9)[6]? fun v10=>intV v10 .i64 fun i11=>ldV (k9)[2]? fun v12=>intV v12 .i64 fun i13=>CF Tryd.prog 42 [(.pointer x5),(.int .i64 i13),(.agg ⟨l7⟩),(.int .i64 i9),(.int .i64 i11)] h6 fun u14 h15=>tup2V u14 fun u16 u17=>aggV u16 fun l18=>intV u17 .i64 fun i19=>if List.length l18=9 then (if List.all l18 one=true then (if 0+List.length l18≤List.length [(Value.int .i64 0),.int .i64 0,.int .u8 0,.int .u8 0,.int .u8 0,.int .u8 0,.int .i64 0,.int .i64 0,.int .i64 0] then (K (w4 (w8 (w8 e 9 (sR 9 0) 5 (sP x5) 58 (sP x5) 59 (sR 9 2) 61 (sR 9 1) 62 (sV (.int .u8 i2)) 63 (sR 9 3) 64 (sI i4)) 65 (sA l7) 66 (sR 9 5) 67 (sI i9) 68 (sR 9 6) 69 (sI i11) 10 (sR 10 0) 60 (sI i13) 70 (sV (.tuple ⟨[(.agg ⟨l18⟩),(.int .i64 i19)]⟩))) 57 (sV (.tuple ⟨[(.agg ⟨l18⟩),(.int .i64 i19)]⟩)) 71 (sA l18) 72 (sI i19) 11 (sI i19)) (w3 V0 9 (77,k9) 10 (79,[.int .i64 0,.int .i64 0,.int .u8 0,.int .u8 0,.int .u8 0,.int .u8 0,.int .i64 0,.int .i64 0,.int .i64 0]) 10 (79,(splice [.int .i64 0,.int .i64 0,.int .u8 0,.int .u8 0,.int .u8 0,.int .u8 0,.int .i64 0,.int .i64 0,.int .i64 0] 0 l18))) h15) else False) else False) else False):= by kernel_rfl
theorem F13_r40 {e:Env} {x5:OA} {k9:List Value} {hp:HP} {K:Env→PV→HP→Prop}:RW Tryd.prog 302 [9,10,12,13,18,21,53,59,61,63,66,68,76,83,85,87,92,95,97,98,100,102,110,120,126,131,158,220,222] (opsAt Tryd.f13 (pth 610911)) [0,1,3,4,5,6,7,8,9,10,16,2,11,12,13,14,15,17,18] (w2 e 9 (sR 9 0) 5 (sP x5)) (upd V0 9 (77,k9)) hp K=
 ldV (k9)[1]? fun v1=>(intV v1 .u8 fun i2=>ldV (k9)[3]? fun v3=>intV v3 .i64 fun i4=>CF Tryd.prog 43 [(.int .u8 i2),(.int .i64 i4)] hp fun u5 h6=>aggV u5 fun l7=>ldV (k9)[5]? fun v8=>intV v8 .i64 fun i9=>ldV (k9)[2]? fun v10=>intV v10 .i64 fun i11=>ldV (k9)[6]? fun v12=>intV v12 .i64 fun i13=>CF Tryd.prog 42 [(.pointer x5),(.int .i64 i11),(.agg ⟨l7⟩),(.int .i64 i9),(.int .i64 i13)] h6 fun u14 h15=>tup2V u14 fun u16 u17=>aggV u16 fun l18=>intV u17 .i64 fun i19=>if List.length l18=9 then (if List.all l18 one=true then (if 0+List.length l18≤List.length [(Value.int .i64 0),.int .i64 0,.int .u8 0,.int .u8 0,.int .u8 0,.int .u8 0,.int .i64 0,.int .i64 0,.int .i64 0] then (K (w4 (w8 (w8 e 9 (sR 9 0) 5 (sP x5) 58 (sP x5) 59 (sR 9 2) 61 (sR 9 1) 62 (sV (.int .u8 i2)) 63 (sR 9 3) 64 (sI i4)) 65 (sA l7) 66 (sR 9 5) 67 (sI i9) 68 (sR 9 6) 10 (sR 10 0) 60 (sI i11) 69 (sI i13) 70 (sV (.tuple ⟨[(.agg ⟨l18⟩),(.int .i64 i19)]⟩))) 57 (sV (.tuple ⟨[(.agg ⟨l18⟩),(.int .i64 i19)]⟩)) 71 (sA l18) 72 (sI i19) 11 (sI i19)) (w3 V0 9 (77,k9) 10 (79,[.int .i64 0,.int .i64 0,.int .u8 0,.int .u8 0,.int .u8 0,.int .u8 0,.int .i64 0,.int .i64 0,.int .i64 0]) 10 (79,(splice [.int .i64 0,.int .i64 0,.int .u8 0,.int .u8 0,.int .u8 0,.int .u8 0,.int .i64 0,.int .i64 0,.int .i64 0] 0 l18))) h15) else False) else False) else False):= by kernel_rfl
theorem F13_r41 {e:Env} {x5:OA} {k9:List Value} {hp:HP} {K:Env→PV→HP→Prop}:RW Tryd.prog 302 [9,10,12,13,18,21,53,59,61,63,66,68,76,83,85,87,92,95,97,98,100,102,110,120,126,131,158,220,222] (opsAt Tryd.f13 (pth 610911)) [0,1,3,4,5,6,7,8,10,11,16,2,9,12,13,14,15,17,18] (w2 e 9 (sR 9 0) 5 (sP x5)) (upd V0 9 (77,k9)) hp K=
 ldV (k9)[1]? fun v1=>(intV v1 .u8 fun i2=>ldV (k9)[3]? fun v3=>intV v3 .i64 fun i4=>CF Tryd.prog 43 [(.int .u8 i2),(.int .i64 i4)] hp fun u5 h6=>aggV u5 fun l7=>ldV (k9)[6]? fun v8=>intV v8 .i64 fun i9=>ldV (k9)[2]? fun v10=>intV v10 .i64 fun i11=>ldV (k9)[5]? fun v12=>intV v12 .i64 fun i13=>CF Tryd.prog 42 [(.pointer x5),(.int .i64 i11),(.agg ⟨l7⟩),(.int .i64 i13),(.int .i64 i9)] h6 fun u14 h15=>tup2V u14 fun u16 u17=>aggV u16 fun l18=>intV u17 .i64 fun i19=>if List.length l18=9 then (if List.all l18 one=true then (if 0+List.length l18≤List.length [(Value.int .i64 0),.int .i64 0,.int .u8 0,.int .u8 0,.int .u8 0,.int .u8 0,.int .i64 0,.int .i64 0,.int .i64 0] then (K (w4 (w8 (w8 e 9 (sR 9 0) 5 (sP x5) 58 (sP x5) 59 (sR 9 2) 61 (sR 9 1) 62 (sV (.int .u8 i2)) 63 (sR 9 3) 64 (sI i4)) 65 (sA l7) 66 (sR 9 5) 68 (sR 9 6) 69 (sI i9) 10 (sR 10 0) 60 (sI i11) 67 (sI i13) 70 (sV (.tuple ⟨[(.agg ⟨l18⟩),(.int .i64 i19)]⟩))) 57 (sV (.tuple ⟨[(.agg ⟨l18⟩),(.int .i64 i19)]⟩)) 71 (sA l18) 72 (sI i19) 11 (sI i19)) (w3 V0 9 (77,k9) 10 (79,[.int .i64 0,.int .i64 0,.int .u8 0,.int .u8 0,.int .u8 0,.int .u8 0,.int .i64 0,.int .i64 0,.int .i64 0]) 10 (79,(splice [.int .i64 0,.int .i64 0,.int .u8 0,.int .u8 0,.int .u8 0,.int .u8 0,.int .i64 0,.int .i64 0,.int .i64 0] 0 l18))) h15) else False) else False) else False):= by kernel_rfl
theorem F13_r42 {e:Env} {x5:OA} {k9:List Value} {hp:HP} {K:Env→PV→HP→Prop}:RW Tryd.prog 302 [9,10,12,13,18,21,53,59,61,63,66,68,76,83,85,87,92,95,97,98,100,102,110,120,126,131,158,220,222] (opsAt Tryd.f13 (pth 610911)) [0,1,3,4,5,6,7,8,10,16,2,9,11,12,13,14,15,17,18] (w2 e 9 (sR 9 0) 5 (sP x5)) (upd V0 9 (77,k9)) hp K=
 ldV (k9)[1]? fun v1=>(intV v1 .u8 fun i2=>ldV (k9)[3]? fun v3=>intV v3 .i64 fun i4=>CF Tryd.prog 43 [(.int .u8 i2),(.int .i64 i4)] hp fun u5 h6=>aggV u5 fun l7=>ldV (k9)[2]? fun v8=>intV v8 .i64 fun i9=>ldV (k9)[5]? fun v10=>intV v10 .i64 fun i11=>ldV (k9)[6]? fun v12=>intV v12 .i64 fun i13=>CF Tryd.prog 42 [(.pointer x5),(.int .i64 i9),(.agg ⟨l7⟩),(.int .i64 i11),(.int .i64 i13)] h6 fun u14 h15=>tup2V u14 fun u16 u17=>aggV u16 fun l18=>intV u17 .i64 fun i19=>if List.length l18=9 then (if List.all l18 one=true then (if 0+List.length l18≤List.length [(Value.int .i64 0),.int .i64 0,.int .u8 0,.int .u8 0,.int .u8 0,.int .u8 0,.int .i64 0,.int .i64 0,.int .i64 0] then (K (w4 (w8 (w8 e 9 (sR 9 0) 5 (sP x5) 58 (sP x5) 59 (sR 9 2) 61 (sR 9 1) 62 (sV (.int .u8 i2)) 63 (sR 9 3) 64 (sI i4)) 65 (sA l7) 66 (sR 9 5) 68 (sR 9 6) 10 (sR 10 0) 60 (sI i9) 67 (sI i11) 69 (sI i13) 70 (sV (.tuple ⟨[(.agg ⟨l18⟩),(.int .i64 i19)]⟩))) 57 (sV (.tuple ⟨[(.agg ⟨l18⟩),(.int .i64 i19)]⟩)) 71 (sA l18) 72 (sI i19) 11 (sI i19)) (w3 V0 9 (77,k9) 10 (79,[.int .i64 0,.int .i64 0,.int .u8 0,.int .u8 0,.int .u8 0,.int .u8 0,.int .i64 0,.int .i64 0,.int .i64 0]) 10 (79,(splice [.int .i64 0,.int .i64 0,.int .u8 0,.int .u8 0,.int .u8 0,.int .u8 0,.int .i64 0,.int .i64 0,.int .i64 0] 0 l18))) h15) else False) else False) else False):= by kernel_rfl
theorem F13_r43 {e:Env} {x5:OA} {k9:List Value} {hp:HP} {K:Env→PV→HP→Prop}:RW Tryd.prog 302 [9,10,12,13,18,21,53,59,61,63,66,68,76,83,85,87,92,95,97,98,100,102,110,120,126,131,158,220,222] (opsAt Tryd.f13 (pth 610911)) [0,1,3,4,5,8,9,10,11,16,2,6,7,12,13,14,15,17,18] (w2 e 9 (sR 9 0) 5 (sP x5)) (upd V0 9 (77,k9)) hp K=
 ldV (k9)[1]? fun v1=>(intV v1 .u8 fun i2=>ldV (k9)[5]? fun v3=>intV v3 .i64 fun i4=>ldV (k9)[6]? fun v5=>intV v5 .i64 fun i6=>ldV (k9)[2]? fun v7=>intV v7 .i64 fun i8=>ldV (k9)[3]? fun v9=>intV v9 .i64 fun i10=>CF Tryd.prog 43 [(.int .u8 i2),(.int .i64 i10)] hp fun u11 h12=>aggV u11 fun l13=>CF Tryd.prog 42 [(.pointer x5),(.int .i64 i8),(.agg ⟨l13⟩),(.int .i64 i4),(.int .i64 i6)] h12 fun u14 h15=>tup2V u14 fun u16 u17=>aggV u16 fun l18=>intV u17 .i64 fun i19=>if List.length l18=9 then (if List.all l18 one=true then (if 0+List.length l18≤List.length [(Value.int .i64 0),.int .i64 0,.int .u8 0,.int .u8 0,.int .u8 0,.int .u8 0,.int .i64 0,.int .i64 0,.int .i64 0] then (K (w4 (w8 (w8 e 9 (sR 9 0) 5 (sP x5) 58 (sP x5) 59 (sR 9 2) 61 (sR 9 1) 62 (sV (.int .u8 i2)) 63 (sR 9 3) 66 (sR 9 5)) 67 (sI i4) 68 (sR 9 6) 69 (sI i6) 10 (sR 10 0) 60 (sI i8) 64 (sI i10) 65 (sA l13) 70 (sV (.tuple ⟨[(.agg ⟨l18⟩),(.int .i64 i19)]⟩))) 57 (sV (.tuple ⟨[(.agg ⟨l18⟩),(.int .i64 i19)]⟩)) 71 (sA l18) 72 (sI i19) 11 (sI i19)) (w3 V0 9 (77,k9) 10 (79,[.int .i64 0,.int .i64 0,.int .u8 0,.int .u8 0,.int .u8 0,.int .u8 0,.int .i64 0,.int .i64 0,.int .i64 0]) 10 (79,(splice [.int .i64 0,.int .i64 0,.int .u8 0,.int .u8 0,.int .u8 0,.int .u8 0,.int .i64 0,.int .i64 0,.int .i64 0] 0 l18))) h15) else False) else False) else False):= by kernel_rfl
theorem F13_r44 {e:Env} {x5:OA} {k9:List Value} {hp:HP} {K:Env→PV→HP→Prop}:RW Tryd.prog 302 [9,10,12,13,18,21,53,59,61,63,66,68,76,83,85,87,92,95,97,98,100,102,110,120,126,131,158,220,222] (opsAt Tryd.f13 (pth 610911)) [0,1,3,4,5,8,9,10,16,2,6,7,11,12,13,14,15,17,18] (w2 e 9 (sR 9 0) 5 (sP x5)) (upd V0 9 (77,k9)) hp K=
 ldV (k9)[1]? fun v1=>(intV v1 .u8 fun i2=>ldV (k9)[5]? fun v3=>intV v3 .i64 fun i4=>ldV (k9)[2]? fun v5=>intV v5 .i64 fun i6=>ldV (k9)[3]? fun v7=>intV v7 .i64 fun i8=>CF Tryd.prog 43 [(.int .u8 i2),(.int .i64 i8)] hp fun u9 h10=>aggV u9 fun l11=>ldV (k9)[6]? fun v12=>intV v12 .i64 fun i13=>CF Tryd.prog 42 [(.pointer x5),(.int .i64 i6),(.agg ⟨l11⟩),(.int .i64 i4),(.int .i64 i13)] h10 fun u14 h15=>tup2V u14 fun u16 u17=>aggV u16 fun l18=>intV u17 .i64 fun i19=>if List.length l18=9 then (if List.all l18 one=true then (if 0+List.length l18≤List.length [(Value.int .i64 0),.int .i64 0,.int .u8 0,.int .u8 0,.int .u8 0,.int .u8 0,.int .i64 0,.int .i64 0,.int .i64 0] then (K (w4 (w8 (w8 e 9 (sR 9 0) 5 (sP x5) 58 (sP x5) 59 (sR 9 2) 61 (sR 9 1) 62 (sV (.int .u8 i2)) 63 (sR 9 3) 66 (sR 9 5)) 67 (sI i4) 68 (sR 9 6) 10 (sR 10 0) 60 (sI i6) 64 (sI i8) 65 (sA l11) 69 (sI i13) 70 (sV (.tuple ⟨[(.agg ⟨l18⟩),(.int .i64 i19)]⟩))) 57 (sV (.tuple ⟨[(.agg ⟨l18⟩),(.int .i64 i19)]⟩)) 71 (sA l18) 72 (sI i19) 11 (sI i19)) (w3 V0 9 (77,k9) 10 (79,[.int .i64 0,.int .i64 0,.int .u8 0,.int .u8 0,.int .u8 0,.int .u8 0,.int .i64 0,.int .i64 0,.int .i64 0]) 10 (79,(splice [.int .i64 0,.int .i64 0,.int .u8 0,.int .u8 0,.int .u8 0,.int .u8 0,.int .i64 0,.int .i64 0,.int .i64 0] 0 l18))) h15) else False) else False) else False):= by kernel_rfl
theorem F13_r45 {e:Env} {x5:OA} {k9:List Value} {hp:HP} {K:Env→PV→HP→Prop}:RW Tryd.prog 302 [9,10,12,13,18,21,53,59,61,63,66,68,76,83,85,87,92,95,97,98,100,102,110,120,126,131,158,220,222] (opsAt Tryd.f13 (pth 610911)) [0,1,3,4,5,8,10,11,16,2,6,7,9,12,13,14,15,17,18] (w2 e 9 (sR 9 0) 5 (sP x5)) (upd V0 9 (77,k9)) hp K=
 ldV (k9)[1]? fun v1=>(intV v1 .u8 fun i2=>ldV (k9)[6]? fun v3=>intV v3 .i64 fun i4=>ldV (k9)[2]? fun v5=>intV v5 .i64 fun i6=>ldV (k9)[3]? fun v7=>intV v7 .i64 fun i8=>CF Tryd.prog 43 [(.int .u8 i2),(.int .i64 i8)] hp fun u9 h10=>aggV u9 fun l11=>ldV (k9)[5]? fun v12=>intV v12 .i64 fun i13=>CF Tryd.prog 42 [(.pointer x5),(.int .i64 i6),(.agg ⟨l11⟩),(.int .i64 i13),(.int .i64 i4)] h10 fun u14 h15=>tup2V u14 fun u16 u17=>aggV u16 fun l18=>intV u17 .i64 fun i19=>if List.length l18=9 then (if List.all l18 one=true then (if 0+List.length l18≤List.length [(Value.int .i64 0),.int .i64 0,.int .u8 0,.int .u8 0,.int .u8 0,.int .u8 0,.int .i64 0,.int .i64 0,.int .i64 0] then (K (w4 (w8 (w8 e 9 (sR 9 0) 5 (sP x5) 58 (sP x5) 59 (sR 9 2) 61 (sR 9 1) 62 (sV (.int .u8 i2)) 63 (sR 9 3) 66 (sR 9 5)) 68 (sR 9 6) 69 (sI i4) 10 (sR 10 0) 60 (sI i6) 64 (sI i8) 65 (sA l11) 67 (sI i13) 70 (sV (.tuple ⟨[(.agg ⟨l18⟩),(.int .i64 i19)]⟩))) 57 (sV (.tuple ⟨[(.agg ⟨l18⟩),(.int .i64 i19)]⟩)) 71 (sA l18) 72 (sI i19) 11 (sI i19)) (w3 V0 9 (77,k9) 10 (79,[.int .i64 0,.int .i64 0,.int .u8 0,.int .u8 0,.int .u8 0,.int .u8 0,.int .i64 0,.int .i64 0,.int .i64 0]) 10 (79,(splice [.int .i64 0,.int .i64 0,.int .u8 0,.int .u8 0,.int .u8 0,.int .u8 0,.int .i64 0,.int .i64 0,.int .i64 0] 0 l18))) h15) else False) else False) else False):= by kernel_rfl
theorem F13_r46 {e:Env} {x5:OA} {k9:List Value} {hp:HP} {K:Env→PV→HP→Prop}:RW Tryd.prog 302 [9,10,12,13,18,21,53,59,61,63,66,68,76,83,85,87,92,95,97,98,100,102,110,120,126,131,158,220,222] (opsAt Tryd.f13 (pth 610911)) [0,1,3,4,5,8,10,16,2,6,7,9,11,12,13,14,15,17,18] (w2 e 9 (sR 9 0) 5 (sP x5)) (upd V0 9 (77,k9)) hp K=
 ldV (k9)[1]? fun v1=>(intV v1 .u8 fun i2=>ldV (k9)[2]? fun v3=>intV v3 .i64 fun i4=>ldV (k9)[3]? fun v5=>intV v5 .i64 fun i6=>CF Tryd.prog 43 [(.int .u8 i2),(.int .i64 i6)] hp fun u7 h8=>aggV u7 fun l9=>ldV (k9)[5]? fun v10=>intV v10 .i64 fun i11=>ldV (k9)[6]? fun v12=>intV v12 .i64 fun i13=>CF Tryd.prog 42 [(.pointer x5),(.int .i64 i4),(.agg ⟨l9⟩),(.int .i64 i11),(.int .i64 i13)] h8 fun u14 h15=>tup2V u14 fun u16 u17=>aggV u16 fun l18=>intV u17 .i64 fun i19=>if List.length l18=9 then (if List.all l18 one=true then (if 0+List.length l18≤List.length [(Value.int .i64 0),.int .i64 0,.int .u8 0,.int .u8 0,.int .u8 0,.int .u8 0,.int .i64 0,.int .i64 0,.int .i64 0] then (K (w4 (w8 (w8 e 9 (sR 9 0) 5 (sP x5) 58 (sP x5) 59 (sR 9 2) 61 (sR 9 1) 62 (sV (.int .u8 i2)) 63 (sR 9 3) 66 (sR 9 5)) 68 (sR 9 6) 10 (sR 10 0) 60 (sI i4) 64 (sI i6) 65 (sA l9) 67 (sI i11) 69 (sI i13) 70 (sV (.tuple ⟨[(.agg ⟨l18⟩),(.int .i64 i19)]⟩))) 57 (sV (.tuple ⟨[(.agg ⟨l18⟩),(.int .i64 i19)]⟩)) 71 (sA l18) 72 (sI i19) 11 (sI i19)) (w3 V0 9 (77,k9) 10 (79,[.int .i64 0,.int .i64 0,.int .u8 0,.int .u8 0,.int .u8 0,.int .u8 0,.int .i64 0,.int .i64 0,.int .i64 0]) 10 (79,(splice [.int .i64 0,.int .i64 0,.int .u8 0,.int .u8 0,.int .u8 0,.int .u8 0,.int .i64 0,.int .i64 0,.int .i64 0] 0 l18))) h15) else False) else False) else False):= by kernel_rfl
theorem F13_r47 {e:Env} {x5:OA} {k9:List Value} {hp:HP} {K:Env→PV→HP→Prop}:RW Tryd.prog 302 [9,10,12,13,18,21,53,59,61,63,66,68,76,83,85,87,92,95,97,98,100,102,110,120,126,131,158,220,222] (opsAt Tryd.f13 (pth 610911)) [0,1,3,5,6,8,9,10,11,16,2,4,7,12,13,14,15,17,18] (w2 e 9 (sR 9 0) 5 (sP x5)) (upd V0 9 (77,k9)) hp K=
 ldV (k9)[3]? fun v1=>(intV v1 .i64 fun i2=>ldV (k9)[5]? fun v3=>intV v3 .i64 fun i4=>ldV (k9)[6]? fun v5=>intV v5 .i64 fun i6=>ldV (k9)[2]? fun v7=>intV v7 .i64 fun i8=>ldV (k9)[1]? fun v9=>intV v9 .u8 fun i10=>CF Tryd.prog 43 [(.int .u8 i10),(.int .i64 i2)] hp fun u11 h12=>aggV u11 fun l13=>CF Tryd.prog 42 [(.pointer x5),(.int .i64 i8),(.agg ⟨l13⟩),(.int .i64 i4),(.int .i64 i6)] h12 fun u14 h15=>tup2V u14 fun u16 u17=>aggV u16 fun l18=>intV u17 .i64 fun i19=>if List.length l18=9 then (if List.all l18 one=true then (if 0+List.length l18≤List.length [(Value.int .i64 0),.int .i64 0,.int .u8 0,.int .u8 0,.int .u8 0,.int .u8 0,.int .i64 0,.int .i64 0,.int .i64 0] then (K (w4 (w8 (w8 e 9 (sR 9 0) 5 (sP x5) 58 (sP x5) 59 (sR 9 2) 61 (sR 9 1) 63 (sR 9 3) 64 (sI i2) 66 (sR 9 5)) 67 (sI i4) 68 (sR 9 6) 69 (sI i6) 10 (sR 10 0) 60 (sI i8) 62 (sV (.int .u8 i10)) 65 (sA l13) 70 (sV (.tuple ⟨[(.agg ⟨l18⟩),(.int .i64 i19)]⟩))) 57 (sV (.tuple ⟨[(.agg ⟨l18⟩),(.int .i64 i19)]⟩)) 71 (sA l18) 72 (sI i19) 11 (sI i19)) (w3 V0 9 (77,k9) 10 (79,[.int .i64 0,.int .i64 0,.int .u8 0,.int .u8 0,.int .u8 0,.int .u8 0,.int .i64 0,.int .i64 0,.int .i64 0]) 10 (79,(splice [.int .i64 0,.int .i64 0,.int .u8 0,.int .u8 0,.int .u8 0,.int .u8 0,.int .i64 0,.int .i64 0,.int .i64 0] 0 l18))) h15) else False) else False) else False):= by kernel_rfl
theorem F13_r48 {e:Env} {x5:OA} {k9:List Value} {hp:HP} {K:Env→PV→HP→Prop}:RW Tryd.prog 302 [9,10,12,13,18,21,53,59,61,63,66,68,76,83,85,87,92,95,97,98,100,102,110,120,126,131,158,220,222] (opsAt Tryd.f13 (pth 610911)) [0,1,3,5,6,8,9,10,16,2,4,7,11,12,13,14,15,17,18] (w2 e 9 (sR 9 0) 5 (sP x5)) (upd V0 9 (77,k9)) hp K=
 ldV (k9)[3]? fun v1=>(intV v1 .i64 fun i2=>ldV (k9)[5]? fun v3=>intV v3 .i64 fun i4=>ldV (k9)[2]? fun v5=>intV v5 .i64 fun i6=>ldV (k9)[1]? fun v7=>intV v7 .u8 fun i8=>CF Tryd.prog 43 [(.int .u8 i8),(.int .i64 i2)] hp fun u9 h10=>aggV u9 fun l11=>ldV (k9)[6]? fun v12=>intV v12 .i64 fun i13=>CF Tryd.prog 42 [(.pointer x5),(.int .i64 i6),(.agg ⟨l11⟩),(.int .i64 i4),(.int .i64 i13)] h10 fun u14 h15=>tup2V u14 fun u16 u17=>aggV u16 fun l18=>intV u17 .i64 fun i19=>if List.length l18=9 then (if List.all l18 one=true then (if 0+List.length l18≤List.length [(Value.int .i64 0),.int .i64 0,.int .u8 0,.int .u8 0,.int .u8 0,.int .u8 0,.int .i64 0,.int .i64 0,.int .i64 0] then (K (w4 (w8 (w8 e 9 (sR 9 0) 5 (sP x5) 58 (sP x5) 59 (sR 9 2) 61 (sR 9 1) 63 (sR 9 3) 64 (sI i2) 66 (sR 9 5)) 67 (sI i4) 68 (sR 9 6) 10 (sR 10 0) 60 (sI i6) 62 (sV (.int .u8 i8)) 65 (sA l11) 69 (sI i13) 70 (sV (.tuple ⟨[(.agg ⟨l18⟩),(.int .i64 i19)]⟩))) 57 (sV (.tuple ⟨[(.agg ⟨l18⟩),(.int .i64 i19)]⟩)) 71 (sA l18) 72 (sI i19) 11 (sI i19)) (w3 V0 9 (77,k9) 10 (79,[.int .i64 0,.int .i64 0,.int .u8 0,.int .u8 0,.int .u8 0,.int .u8 0,.int .i64 0,.int .i64 0,.int .i64 0]) 10 (79,(splice [.int .i64 0,.int .i64 0,.int .u8 0,.int .u8 0,.int .u8 0,.int .u8 0,.int .i64 0,.int .i64 0,.int .i64 0] 0 l18))) h15) else False) else False) else False):= by kernel_rfl
theorem F13_r49 {e:Env} {x5:OA} {k9:List Value} {hp:HP} {K:Env→PV→HP→Prop}:RW Tryd.prog 302 [9,10,12,13,18,21,53,59,61,63,66,68,76,83,85,87,92,95,97,98,100,102,110,120,126,131,158,220,222] (opsAt Tryd.f13 (pth 610911)) [0,1,3,5,6,8,10,11,16,2,4,7,9,12,13,14,15,17,18] (w2 e 9 (sR 9 0) 5 (sP x5)) (upd V0 9 (77,k9)) hp K=
 ldV (k9)[3]? fun v1=>(intV v1 .i64 fun i2=>ldV (k9)[6]? fun v3=>intV v3 .i64 fun i4=>ldV (k9)[2]? fun v5=>intV v5 .i64 fun i6=>ldV (k9)[1]? fun v7=>intV v7 .u8 fun i8=>CF Tryd.prog 43 [(.int .u8 i8),(.int .i64 i2)] hp fun u9 h10=>aggV u9 fun l11=>ldV (k9)[5]? fun v12=>intV v12 .i64 fun i13=>CF Tryd.prog 42 [(.pointer x5),(.int .i64 i6),(.agg ⟨l11⟩),(.int .i64 i13),(.int .i64 i4)] h10 fun u14 h15=>tup2V u14 fun u16 u17=>aggV u16 fun l18=>intV u17 .i64 fun i19=>if List.length l18=9 then (if List.all l18 one=true then (if 0+List.length l18≤List.length [(Value.int .i64 0),.int .i64 0,.int .u8 0,.int .u8 0,.int .u8 0,.int .u8 0,.int .i64 0,.int .i64 0,.int .i64 0] then (K (w4 (w8 (w8 e 9 (sR 9 0) 5 (sP x5) 58 (sP x5) 59 (sR 9 2) 61 (sR 9 1) 63 (sR 9 3) 64 (sI i2) 66 (sR 9 5)) 68 (sR 9 6) 69 (sI i4) 10 (sR 10 0) 60 (sI i6) 62 (sV (.int .u8 i8)) 65 (sA l11) 67 (sI i13) 70 (sV (.tuple ⟨[(.agg ⟨l18⟩),(.int .i64 i19)]⟩))) 57 (sV (.tuple ⟨[(.agg ⟨l18⟩),(.int .i64 i19)]⟩)) 71 (sA l18) 72 (sI i19) 11 (sI i19)) (w3 V0 9 (77,k9) 10 (79,[.int .i64 0,.int .i64 0,.int .u8 0,.int .u8 0,.int .u8 0,.int .u8 0,.int .i64 0,.int .i64 0,.int .i64 0]) 10 (79,(splice [.int .i64 0,.int .i64 0,.int .u8 0,.int .u8 0,.int .u8 0,.int .u8 0,.int .i64 0,.int .i64 0,.int .i64 0] 0 l18))) h15) else False) else False) else False):= by kernel_rfl
theorem F13_r50 {e:Env} {x5:OA} {k9:List Value} {hp:HP} {K:Env→PV→HP→Prop}:RW Tryd.prog 302 [9,10,12,13,18,21,53,59,61,63,66,68,76,83,85,87,92,95,97,98,100,102,110,120,126,131,158,220,222] (opsAt Tryd.f13 (pth 610911)) [0,1,3,5,6,8,10,16,2,4,7,9,11,12,13,14,15,17,18] (w2 e 9 (sR 9 0) 5 (sP x5)) (upd V0 9 (77,k9)) hp K=
 ldV (k9)[3]? fun v1=>(intV v1 .i64 fun i2=>ldV (k9)[2]? fun v3=>intV v3 .i64 fun i4=>ldV (k9)[1]? fun v5=>intV v5 .u8 fun i6=>CF Tryd.prog 43 [(.int .u8 i6),(.int .i64 i2)] hp fun u7 h8=>aggV u7 fun l9=>ldV (k9)[5]? fun v10=>intV v10 .i64 fun i11=>ldV (k9)[6]? fun v12=>intV v12 .i64 fun i13=>CF Tryd.prog 42 [(.pointer x5),(.int .i64 i4),(.agg ⟨l9⟩),(.int .i64 i11),(.int .i64 i13)] h8 fun u14 h15=>tup2V u14 fun u16 u17=>aggV u16 fun l18=>intV u17 .i64 fun i19=>if List.length l18=9 then (if List.all l18 one=true then (if 0+List.length l18≤List.length [(Value.int .i64 0),.int .i64 0,.int .u8 0,.int .u8 0,.int .u8 0,.int .u8 0,.int .i64 0,.int .i64 0,.int .i64 0] then (K (w4 (w8 (w8 e 9 (sR 9 0) 5 (sP x5) 58 (sP x5) 59 (sR 9 2) 61 (sR 9 1) 63 (sR 9 3) 64 (sI i2) 66 (sR 9 5)) 68 (sR 9 6) 10 (sR 10 0) 60 (sI i4) 62 (sV (.int .u8 i6)) 65 (sA l9) 67 (sI i11) 69 (sI i13) 70 (sV (.tuple ⟨[(.agg ⟨l18⟩),(.int .i64 i19)]⟩))) 57 (sV (.tuple ⟨[(.agg ⟨l18⟩),(.int .i64 i19)]⟩)) 71 (sA l18) 72 (sI i19) 11 (sI i19)) (w3 V0 9 (77,k9) 10 (79,[.int .i64 0,.int .i64 0,.int .u8 0,.int .u8 0,.int .u8 0,.int .u8 0,.int .i64 0,.int .i64 0,.int .i64 0]) 10 (79,(splice [.int .i64 0,.int .i64 0,.int .u8 0,.int .u8 0,.int .u8 0,.int .u8 0,.int .i64 0,.int .i64 0,.int .i64 0] 0 l18))) h15) else False) else False) else False):= by kernel_rfl
theorem F13_r51 {e:Env} {x5:OA} {k9:List Value} {hp:HP} {K:Env→PV→HP→Prop}:RW Tryd.prog 302 [9,10,12,13,18,21,53,59,61,63,66,68,76,83,85,87,92,95,97,98,100,102,110,120,126,131,158,220,222] (opsAt Tryd.f13 (pth 610911)) [0,1,3,5,8,9,10,11,16,2,4,6,7,12,13,14,15,17,18] (w2 e 9 (sR 9 0) 5 (sP x5)) (upd V0 9 (77,k9)) hp K=
 ldV (k9)[5]? fun v1=>(intV v1 .i64 fun i2=>ldV (k9)[6]? fun v3=>intV v3 .i64 fun i4=>ldV (k9)[2]? fun v5=>intV v5 .i64 fun i6=>ldV (k9)[1]? fun v7=>intV v7 .u8 fun i8=>ldV (k9)[3]? fun v9=>intV v9 .i64 fun i10=>CF Tryd.prog 43 [(.int .u8 i8),(.int .i64 i10)] hp fun u11 h12=>aggV u11 fun l13=>CF Tryd.prog 42 [(.pointer x5),(.int .i64 i6),(.agg ⟨l13⟩),(.int .i64 i2),(.int .i64 i4)] h12 fun u14 h15=>tup2V u14 fun u16 u17=>aggV u16 fun l18=>intV u17 .i64 fun i19=>if List.length l18=9 then (if List.all l18 one=true then (if 0+List.length l18≤List.length [(Value.int .i64 0),.int .i64 0,.int .u8 0,.int .u8 0,.int .u8 0,.int .u8 0,.int .i64 0,.int .i64 0,.int .i64 0] then (K (w4 (w8 (w8 e 9 (sR 9 0) 5 (sP x5) 58 (sP x5) 59 (sR 9 2) 61 (sR 9 1) 63 (sR 9 3) 66 (sR 9 5) 67 (sI i2)) 68 (sR 9 6) 69 (sI i4) 10 (sR 10 0) 60 (sI i6) 62 (sV (.int .u8 i8)) 64 (sI i10) 65 (sA l13) 70 (sV (.tuple ⟨[(.agg ⟨l18⟩),(.int .i64 i19)]⟩))) 57 (sV (.tuple ⟨[(.agg ⟨l18⟩),(.int .i64 i19)]⟩)) 71 (sA l18) 72 (sI i19) 11 (sI i19)) (w3 V0 9 (77,k9) 10 (79,[.int .i64 0,.int .i64 0,.int .u8 0,.int .u8 0,.int .u8 0,.int .u8 0,.int .i64 0,.int .i64 0,.int .i64 0]) 10 (79,(splice [.int .i64 0,.int .i64 0,.int .u8 0,.int .u8 0,.int .u8 0,.int .u8 0,.int .i64 0,.int .i64 0,.int .i64 0] 0 l18))) h15) else False) else False) else False):= by kernel_rfl
theorem F13_r52 {e:Env} {x5:OA} {k9:List Value} {hp:HP} {K:Env→PV→HP→Prop}:RW Tryd.prog 302 [9,10,12,13,18,21,53,59,61,63,66,68,76,83,85,87,92,95,97,98,100,102,110,120,126,131,158,220,222] (opsAt Tryd.f13 (pth 610911)) [0,1,3,5,8,9,10,16,2,4,6,7,11,12,13,14,15,17,18] (w2 e 9 (sR 9 0) 5 (sP x5)) (upd V0 9 (77,k9)) hp K=
 ldV (k9)[5]? fun v1=>(intV v1 .i64 fun i2=>ldV (k9)[2]? fun v3=>intV v3 .i64 fun i4=>ldV (k9)[1]? fun v5=>intV v5 .u8 fun i6=>ldV (k9)[3]? fun v7=>intV v7 .i64 fun i8=>CF Tryd.prog 43 [(.int .u8 i6),(.int .i64 i8)] hp fun u9 h10=>aggV u9 fun l11=>ldV (k9)[6]? fun v12=>intV v12 .i64 fun i13=>CF Tryd.prog 42 [(.pointer x5),(.int .i64 i4),(.agg ⟨l11⟩),(.int .i64 i2),(.int .i64 i13)] h10 fun u14 h15=>tup2V u14 fun u16 u17=>aggV u16 fun l18=>intV u17 .i64 fun i19=>if List.length l18=9 then (if List.all l18 one=true then (if 0+List.length l18≤List.length [(Value.int .i64 0),.int .i64 0,.int .u8 0,.int .u8 0,.int .u8 0,.int .u8 0,.int .i64 0,.int .i64 0,.int .i64 0] then (K (w4 (w8 (w8 e 9 (sR 9 0) 5 (sP x5) 58 (sP x5) 59 (sR 9 2) 61 (sR 9 1) 63 (sR 9 3) 66 (sR 9 5) 67 (sI i2)) 68 (sR 9 6) 10 (sR 10 0) 60 (sI i4) 62 (sV (.int .u8 i6)) 64 (sI i8) 65 (sA l11) 69 (sI i13) 70 (sV (.tuple ⟨[(.agg ⟨l18⟩),(.int .i64 i19)]⟩))) 57 (sV (.tuple ⟨[(.agg ⟨l18⟩),(.int .i64 i19)]⟩)) 71 (sA l18) 72 (sI i19) 11 (sI i19)) (w3 V0 9 (77,k9) 10 (79,[.int .i64 0,.int .i64 0,.int .u8 0,.int .u8 0,.int .u8 0,.int .u8 0,.int .i64 0,.int .i64 0,.int .i64 0]) 10 (79,(splice [.int .i64 0,.int .i64 0,.int .u8 0,.int .u8 0,.int .u8 0,.int .u8 0,.int .i64 0,.int .i64 0,.int .i64 0] 0 l18))) h15) else False) else False) else False):= by kernel_rfl
theorem F13_r53 {e:Env} {x5:OA} {k9:List Value} {hp:HP} {K:Env→PV→HP→Prop}:RW Tryd.prog 302 [9,10,12,13,18,21,53,59,61,63,66,68,76,83,85,87,92,95,97,98,100,102,110,120,126,131,158,220,222] (opsAt Tryd.f13 (pth 610911)) [0,1,3,5,8,10,11,16,2,4,6,7,9,12,13,14,15,17,18] (w2 e 9 (sR 9 0) 5 (sP x5)) (upd V0 9 (77,k9)) hp K=
 ldV (k9)[6]? fun v1=>(intV v1 .i64 fun i2=>ldV (k9)[2]? fun v3=>intV v3 .i64 fun i4=>ldV (k9)[1]? fun v5=>intV v5 .u8 fun i6=>ldV (k9)[3]? fun v7=>intV v7 .i64 fun i8=>CF Tryd.prog 43 [(.int .u8 i6),(.int .i64 i8)] hp fun u9 h10=>aggV u9 fun l11=>ldV (k9)[5]? fun v12=>intV v12 .i64 fun i13=>CF Tryd.prog 42 [(.pointer x5),(.int .i64 i4),(.agg ⟨l11⟩),(.int .i64 i13),(.int .i64 i2)] h10 fun u14 h15=>tup2V u14 fun u16 u17=>aggV u16 fun l18=>intV u17 .i64 fun i19=>if List.length l18=9 then (if List.all l18 one=true then (if 0+List.length l18≤List.length [(Value.int .i64 0),.int .i64 0,.int .u8 0,.int .u8 0,.int .u8 0,.int .u8 0,.int .i64 0,.int .i64 0,.int .i64 0] then (K (w4 (w8 (w8 e 9 (sR 9 0) 5 (sP x5) 58 (sP x5) 59 (sR 9 2) 61 (sR 9 1) 63 (sR 9 3) 66 (sR 9 5) 68 (sR 9 6)) 69 (sI i2) 10 (sR 10 0) 60 (sI i4) 62 (sV (.int .u8 i6)) 64 (sI i8) 65 (sA l11) 67 (sI i13) 70 (sV (.tuple ⟨[(.agg ⟨l18⟩),(.int .i64 i19)]⟩))) 57 (sV (.tuple ⟨[(.agg ⟨l18⟩),(.int .i64 i19)]⟩)) 71 (sA l18) 72 (sI i19) 11 (sI i19)) (w3 V0 9 (77,k9) 10 (79,[.int .i64 0,.int .i64 0,.int .u8 0,.int .u8 0,.int .u8 0,.int .u8 0,.int .i64 0,.int .i64 0,.int .i64 0]) 10 (79,(splice [.int .i64 0,.int .i64 0,.int .u8 0,.int .u8 0,.int .u8 0,.int .u8 0,.int .i64 0,.int .i64 0,.int .i64 0] 0 l18))) h15) else False) else False) else False):= by kernel_rfl
theorem F13_r54 {e:Env} {x5:OA} {k9:List Value} {hp:HP} {K:Env→PV→HP→Prop}:RW Tryd.prog 302 [9,10,12,13,18,21,53,59,61,63,66,68,76,83,85,87,92,95,97,98,100,102,110,120,126,131,158,220,222] (opsAt Tryd.f13 (pth 610911)) [0,1,3,5,8,10,16,2,4,6,7,9,11,12,13,14,15,17,18] (w2 e 9 (sR 9 0) 5 (sP x5)) (upd V0 9 (77,k9)) hp K=
 ldV (k9)[2]? fun v1=>(intV v1 .i64 fun i2=>ldV (k9)[1]? fun v3=>intV v3 .u8 fun i4=>ldV (k9)[3]? fun v5=>intV v5 .i64 fun i6=>CF Tryd.prog 43 [(.int .u8 i4),(.int .i64 i6)] hp fun u7 h8=>aggV u7 fun l9=>ldV (k9)[5]? fun v10=>intV v10 .i64 fun i11=>ldV (k9)[6]? fun v12=>intV v12 .i64 fun i13=>CF Tryd.prog 42 [(.pointer x5),(.int .i64 i2),(.agg ⟨l9⟩),(.int .i64 i11),(.int .i64 i13)] h8 fun u14 h15=>tup2V u14 fun u16 u17=>aggV u16 fun l18=>intV u17 .i64 fun i19=>if List.length l18=9 then (if List.all l18 one=true then (if 0+List.length l18≤List.length [(Value.int .i64 0),.int .i64 0,.int .u8 0,.int .u8 0,.int .u8 0,.int .u8 0,.int .i64 0,.int .i64 0,.int .i64 0] then (K (w4 (w8 (w8 e 9 (sR 9 0) 5 (sP x5) 58 (sP x5) 59 (sR 9 2) 61 (sR 9 1) 63 (sR 9 3) 66 (sR 9 5) 68 (sR 9 6)) 10 (sR 10 0) 60 (sI i2) 62 (sV (.int .u8 i4)) 64 (sI i6) 65 (sA l9) 67 (sI i11) 69 (sI i13) 70 (sV (.tuple ⟨[(.agg ⟨l18⟩),(.int .i64 i19)]⟩))) 57 (sV (.tuple ⟨[(.agg ⟨l18⟩),(.int .i64 i19)]⟩)) 71 (sA l18) 72 (sI i19) 11 (sI i19)) (w3 V0 9 (77,k9) 10 (79,[.int .i64 0,.int .i64 0,.int .u8 0,.int .u8 0,.int .u8 0,.int .u8 0,.int .i64 0,.int .i64 0,.int .i64 0]) 10 (79,(splice [.int .i64 0,.int .i64 0,.int .u8 0,.int .u8 0,.int .u8 0,.int .u8 0,.int .i64 0,.int .i64 0,.int .i64 0] 0 l18))) h15) else False) else False) else False):= by kernel_rfl
theorem F13_r55:R13 2576991 9 (w2 e 9 (sR 9 0) 5 (sP x5)) (upd V0 9 (77,k9)) hp K=
 ldV (k9)[4]? fun v1=>(intV v1 .i64 fun i2=>ldV (k9)[5]? fun v3=>intV v3 .i64 fun i4=>ldV (k9)[6]? fun v5=>intV v5 .i64 fun i6=>CF Tryd.prog 56 [(.pointer x5),(.int .i64 i2),(.int .i64 i4),(.int .i64 i6)] hp fun u7 h8=>intV u7 .i64 fun i9=>K (w3 (w8 e 9 (sR 9 0) 5 (sP x5) 82 (sP x5) 83 (sR 9 4) 84 (sI i2) 85 (sR 9 5) 86 (sI i4) 87 (sR 9 6)) 88 (sI i6) 89 (sI i9) 90 (sB ((i9==0)))) (upd V0 9 (77,k9)) h8):= by kernel_rfl
theorem F13_r56:R13 9917023 6 (w2 e 9 (sR 9 0) 7 (sV (.map x7))) (upd V0 9 (77,k9)) hp K=
 ldV (k9)[4]? fun v1=>(intV v1 .i64 fun i2=>rdS Tryd.prog (Instr.lookup 105 (.map x7) (.int .i64 i2) false) hp fun u3=>aggV u3 fun l4=>if List.length l4=9 then (if List.all l4 one=true then (if 0+List.length l4≤List.length [(Value.int .i64 0),.int .i64 0,.int .u8 0,.int .u8 0,.int .u8 0,.int .u8 0,.int .i64 0,.int .i64 0,.int .i64 0] then (K (w7 e 9 (sR 9 0) 7 (sV (.map x7)) 91 (sV (.map x7)) 92 (sR 9 4) 93 (sI i2) 94 (sA l4) 12 (sR 12 0)) (w3 V0 9 (77,k9) 12 (79,[.int .i64 0,.int .i64 0,.int .u8 0,.int .u8 0,.int .u8 0,.int .u8 0,.int .i64 0,.int .i64 0,.int .i64 0]) 12 (79,(splice [.int .i64 0,.int .i64 0,.int .u8 0,.int .u8 0,.int .u8 0,.int .u8 0,.int .i64 0,.int .i64 0,.int .i64 0] 0 l4))) hp) else False) else False) else False):= by kernel_rfl
theorem F13_r57:R13 22499935 4 (w2 e 12 (sR 12 0) 9 (sR 9 0)) (w2 V0 12 (79,k12) 9 (77,k9)) hp K=
 ldV (k9)[5]? fun v1=>(intV v1 .i64 fun i2=>if 7<List.length k12 then (K (w5 e 12 (sR 12 0) 9 (sR 9 0) 95 (sR 9 5) 96 (sI i2) 97 (sR 12 7)) (w3 V0 12 (79,k12) 9 (77,k9) 12 (79,(List.set k12 7 (.int .i64 i2)))) hp) else False):= by kernel_rfl
theorem F13_r58:R13 47665759 4 (w2 e 12 (sR 12 0) 9 (sR 9 0)) (w2 V0 12 (79,k12) 9 (77,k9)) hp K=
 ldV (k9)[6]? fun v1=>(intV v1 .i64 fun i2=>if 8<List.length k12 then (K (w5 e 12 (sR 12 0) 9 (sR 9 0) 98 (sR 9 6) 99 (sI i2) 100 (sR 12 8)) (w3 V0 12 (79,k12) 9 (77,k9) 12 (79,(List.set k12 8 (.int .i64 i2)))) hp) else False):= by kernel_rfl
theorem F13_r59 (h:E=upd (w2 e 12 (sR 12 0) 9 (sR 9 0)) 7 (sV (.map x7))):R13 64442975 5 E (w2 V0 12 (79,k12) 9 (77,k9)) hp K=
 ldV (k9)[4]? fun v1=>(intV v1 .i64 fun i2=>ldL (cellsN k12 0 9) fun l3=>opS Tryd.prog (Instr.mapUpdate 105 (.map x7) (.int .i64 i2) (.agg ⟨l3⟩)) hp fun u4 h5=>K (w4 E 101 (sV (.map x7)) 102 (sR 9 4) 103 (sI i2) 104 (sA l3)) (w2 V0 12 (79,k12) 9 (77,k9)) h5):= by subst h; kernel_rfl
theorem F13_r60:R13 10441311 10 (w2 e 9 (sR 9 0) 5 (sP x5)) (upd V0 9 (77,k9)) hp K=
 ldV (k9)[4]? fun v1=>(intV v1 .i64 fun i2=>CF Tryd.prog 44 [(.pointer x5),(.int .i64 i2)] hp fun u3 h4=>tup2V u3 fun u5 u6=>aggV u5 fun l7=>intV u6 .i64 fun i8=>if List.length l7=9 then (if List.all l7 one=true then (if 0+List.length l7≤List.length [(Value.int .i64 0),.int .i64 0,.int .u8 0,.int .u8 0,.int .u8 0,.int .u8 0,.int .i64 0,.int .i64 0,.int .i64 0] then (K (w3 (w8 e 9 (sR 9 0) 5 (sP x5) 109 (sP x5) 110 (sR 9 4) 111 (sI i2) 112 (sV (.tuple ⟨[(.agg ⟨l7⟩),(.int .i64 i8)]⟩)) 108 (sV (.tuple ⟨[(.agg ⟨l7⟩),(.int .i64 i8)]⟩)) 113 (sA l7)) 114 (sI i8) 13 (sR 13 0) 14 (sI i8)) (w3 V0 9 (77,k9) 13 (79,[.int .i64 0,.int .i64 0,.int .u8 0,.int .u8 0,.int .u8 0,.int .u8 0,.int .i64 0,.int .i64 0,.int .i64 0]) 13 (79,(splice [.int .i64 0,.int .i64 0,.int .u8 0,.int .u8 0,.int .u8 0,.int .u8 0,.int .i64 0,.int .i64 0,.int .i64 0] 0 l7))) h4) else False) else False) else False):= by kernel_rfl
theorem F13_r61:R13 157241951 1 e V0 hp K=
 K (upd e 4 (sB false)) V0 hp:= by kernel_rfl
theorem F13_r62:R13 31412831 4 (w2 e 9 (sR 9 0) 7 (sV (.map x7))) (upd V0 9 (77,k9)) hp K=
 ldV (k9)[4]? fun v1=>(intV v1 .i64 fun i2=>opS Tryd.prog (Builtin.delete_ #[105,3] 0 ⟨[(.map x7),(.int .i64 i2)]⟩) hp fun u3 h4=>K (w5 e 9 (sR 9 0) 7 (sV (.map x7)) 125 (sV (.map x7)) 126 (sR 9 4) 127 (sI i2)) (upd V0 9 (77,k9)) h4):= by kernel_rfl
def F13_j14 (x0:Int) (x1a:OA) (x1n x1c:Nat) (x5:OA) (x7:Option Nat) (x8:Int) (x124:Bool) (k9:List Value) (hp:HP) (I4:(Int)→HP→Prop) (K:Kh):Prop:=
  (ite2 x124 (K (.bool false) hp) (ldV (k9)[4]? fun v705=>intV v705 .i64 fun i706=>opS Tryd.prog (Builtin.delete_ #[105,3] 0 ⟨[(.map x7),(.int .i64 i706)]⟩) hp fun u707 h708=>F13_j6 x0 x1a x1n x1c x5 x7 x8 h708 I4 K))
theorem F13_r63 (h:E=upd (w3 e 14 (sI x14) 13 (sR 13 0) 9 (sR 9 0)) 7 (sV (.map x7))):R13 39801439 10 E (w2 V0 13 (79,k13) 9 (77,k9)) hp K=
 ite2 (x14==0) (ldL (cellsN k13 0 9) fun l1=>ldV (k9)[4]? fun v2=>intV v2 .i64 fun i3=>rdS Tryd.prog (Instr.lookup 105 (.map x7) (.int .i64 i3) false) hp fun u4=>aggV u4 fun l5=>eqAgg Tryd.prog 79 l1 l5 fun q6=>K (w2 (w8 E 115 (sI x14) 116 (sB ((x14==0))) 117 (sB true) 118 (sA l1) 119 (sV (.map x7)) 120 (sR 9 4) 121 (sI i3) 122 (sA l5)) 123 (sB ((!q6))) 124 (sB ((!q6)))) (w2 V0 13 (79,k13) 9 (77,k9)) hp) (K (w2 (w8 E 115 (sI x14) 116 (sB ((x14==0))) 117 (sB false) 118 sU 119 sU 120 sU 121 sU 122 sU) 123 sU 124 (sB false)) (w2 V0 13 (79,k13) 9 (77,k9)) hp):= by subst h; kernel_rfl
theorem F13_r64:R13 12538463 2 (upd e 54 (sV (.int .u8 x54))) (upd V0 9 (77,k9)) hp K=
 K (w3 e 54 (sV (.int .u8 x54)) 129 (sB ((x54==3))) 128 (sB ((x54==3)))) (upd V0 9 (77,k9)) hp:= by kernel_rfl
theorem F13_r65:R13 41898591 5 (w2 e 9 (sR 9 0) 5 (sP x5)) (upd V0 9 (77,k9)) hp K=
 ldV (k9)[6]? fun v1=>(intV v1 .i64 fun i2=>CF Tryd.prog 45 [(.pointer x5),(.int .i64 i2)] hp fun u3 h4=>slcV u3 fun a5 n6 c7=>K (w7 e 9 (sR 9 0) 5 (sP x5) 130 (sP x5) 131 (sR 9 6) 132 (sI i2) 133 (sS a5 n6 c7) 15 (sS a5 n6 c7)) (upd V0 9 (77,k9)) h4):= by kernel_rfl
theorem F13_r66:R13 1199526495 2 (upd e 215 (sV x215)) (upd V0 9 (77,k9)) hp K=
 opS Tryd.prog (Instr.next x215 false 0) hp fun u1 h2=>(tupI u1 0 fun v3=>boolV v3 fun q4=>K (w3 e 215 (sV x215) 216 (sV u1) 217 (sB q4)) (upd V0 9 (77,k9)) h2):= by kernel_rfl
theorem F13_r67:R13 10326331999 4 (upd e 215 (sV x215)) (upd V0 9 (77,k9)) hp K=
    (rdS Tryd.prog (Instr.entry x215) hp fun u1=>tupI u1 1 fun v2=>aggV v2 fun l3=>if List.length l3=9 then (if List.all l3 one=true then (if 0+List.length l3≤List.length [(Value.int .i64 0),.int .i64 0,.int .u8 0,.int .u8 0,.int .u8 0,.int .u8 0,.int .i64 0,.int .i64 0,.int .i64 0] then (K (w4 e 215 (sV x215) 218 (sV u1) 219 (sA l3) 18 (sR 18 0)) (w3 V0 9 (77,k9) 18 (79,[.int .i64 0,.int .i64 0,.int .u8 0,.int .u8 0,.int .u8 0,.int .u8 0,.int .i64 0,.int .i64 0,.int .i64 0]) 18 (79,(splice [.int .i64 0,.int .i64 0,.int .u8 0,.int .u8 0,.int .u8 0,.int .u8 0,.int .i64 0,.int .i64 0,.int .i64 0] 0 l3))) hp) else False) else False) else False):=by kernel_rfl
theorem F13_r68:R13 23211233887 5 (w2 e 18 (sR 18 0) 9 (sR 9 0)) (w2 V0 18 (79,k18) 9 (77,k9)) hp K=
 ldV (k18)[8]? fun v1=>(intV v1 .i64 fun i2=>ldV (k9)[6]? fun v3=>intV v3 .i64 fun i4=>K (w7 e 18 (sR 18 0) 9 (sR 9 0) 220 (sR 18 8) 221 (sI i2) 222 (sR 9 6) 223 (sI i4) 224 (sB (decide (i2≤i4)))) (w2 V0 18 (79,k18) 9 (77,k9)) hp):= by kernel_rfl
theorem F13_r69:R13 83340776031 1 e V0 hp K=
 K (upd e 4 (sB false)) V0 hp:= by kernel_rfl
def F13_l17 (x0:Int) (x1a:OA) (x1n x1c:Nat) (x5:OA) (x7:Option Nat) (x8:Int) (x215:Value) (k9:List Value) (I4:(Int)→HP→Prop) (K:Kh) (I17:(Unit)→HP→Prop) (hp:HP):Prop:=
  (opS Tryd.prog (Instr.next x215 false 0) hp fun u722 h723=>tupI u722 0 fun v724=>boolV v724 fun q725=>ite2 q725 (rdS Tryd.prog (Instr.entry x215) h723 fun u726=>tupI u726 1 fun v727=>aggV v727 fun l728=>if List.length l728=9 then (if List.all l728 one=true then (if 0+List.length l728≤List.length [(Value.int .i64 0),.int .i64 0,.int .u8 0,.int .u8 0,.int .u8 0,.int .u8 0,.int .i64 0,.int .i64 0,.int .i64 0] then (ldV ((splice [.int .i64 0,.int .i64 0,.int .u8 0,.int .u8 0,.int .u8 0,.int .u8 0,.int .i64 0,.int .i64 0,.int .i64 0] 0 l728))[8]? fun v729=>intV v729 .i64 fun i730=>ldV (k9)[6]? fun v731=>intV v731 .i64 fun i732=>ite2 (decide (i730≤i732)) (K (.bool false) h723) (I17 () h723)) else False) else False) else False) (F13_j6 x0 x1a x1n x1c x5 x7 x8 h723 I4 K))
def F13_j16 (x0:Int) (x1a:OA) (x1n x1c:Nat) (x5:OA) (x7:Option Nat) (x8:Int) (x215:Value) (k9:List Value) (hp:HP) (I4:(Int)→HP→Prop) (K:Kh):Prop:=
  (LoopP (σ:=Unit) (fun I s hp=>F13_l17 x0 x1a x1n x1c x5 x7 x8 x215 k9 I4 K I  hp) () hp)
theorem F13_r70:R13 192893535 2 (upd e 7 (sV (.map x7))) (upd V0 9 (77,k9)) hp K=
 opS Tryd.prog (Instr.range 105 (.map x7)) hp fun u1 h2=>(K (w3 e 7 (sV (.map x7)) 214 (sV (.map x7)) 215 (sV u1)) (upd V0 9 (77,k9)) h2):= by kernel_rfl
def F13_j15 (x0:Int) (x1a:OA) (x1n x1c:Nat) (x5:OA) (x7:Option Nat) (x8:Int) (k9:List Value) (hp:HP) (I4:(Int)→HP→Prop) (K:Kh):Prop:=
  (opS Tryd.prog (Instr.range 105 (.map x7)) hp fun u733 h734=>F13_j16 x0 x1a x1n x1c x5 x7 x8 u733 k9 h734 I4 K)
theorem F13_r71 (h:E=upd (upd e 16 (sI x16)) 15 (sS x15a x15n x15c)):R13 2239713887 4 E (upd V0 9 (77,k9)) hp K=
 K (w4 E 134 (sI x16) 135 (sS x15a x15n x15c) 136 (sI ((x15n:Nat))) 137 (sB ((decide (x16<x15n))))) (upd V0 9 (77,k9)) hp:= by subst h; kernel_rfl
theorem F13_r72:R13 77938512479 1 e V0 hp K=
 K (upd e 4 (sB false)) V0 hp:= by kernel_rfl
theorem F13_r73 (h:E=upd (w2 e 16 (sI x16) 15 (sS x15a x15n x15c)) 7 (sV (.map x7))):R13 13514003039 7 E (upd V0 9 (77,k9)) hp K=
    ((0≤x16)∧(x16<x15n)∧(ptrN x15a fun b1 o2=>ldV (HP.cell hp b1 ((o2+Int.toNat x16*9)+0)) fun v3=>intV v3 .i64 fun i4=>opS Tryd.prog (Builtin.delete_ #[105,3] 0 ⟨[(.map x7),(.int .i64 i4)]⟩) hp fun u5 h6=>K (w6 E 208 (sV (.map x7)) 209 (sS x15a x15n x15c) 210 (sI x16) 211 (sQ b1 (o2+Int.toNat x16*9)) 212 (sQ b1 ((o2+Int.toNat x16*9)+0)) 213 (sI i4)) (upd V0 9 (77,k9)) h6)):=by subst h; kernel_rfl
theorem F13_r74:R13 3850326623 3 (upd e 16 (sI x16)) (upd V0 9 (77,k9)) hp K=
 K (w4 e 16 (sI x16) 138 (sI x16) 139 (sI ((wr (x16+1)))) 16 (sI ((wr (x16+1))))) (upd V0 9 (77,k9)) hp:= by kernel_rfl
def F13_j20 (x0:Int) (x1a:OA) (x1n x1c:Nat) (x5:OA) (x7:Option Nat) (x8:Int) (x15a:OA) (x15n x15c:Nat) (x16:Int) (x207:Bool) (k9:List Value) (hp:HP) (I4 I19:(Int)→HP→Prop) (K:Kh):Prop:=
  (ite2 x207 (K (.bool false) hp) ((0≤x16)∧(x16<x15n)∧(ptrN x15a fun b735 o736=>ldV (HP.cell hp b735 ((o736+Int.toNat x16*9)+0)) fun v737=>intV v737 .i64 fun i738=>opS Tryd.prog (Builtin.delete_ #[105,3] 0 ⟨[(.map x7),(.int .i64 i738)]⟩) hp fun u739 h740=>I19 (IntKind.wrap .i64 (x16+1)) h740)))
theorem F13_r75 (h:E=upd (w3 e 16 (sI x16) 15 (sS x15a x15n x15c) 9 (sR 9 0)) 7 (sV (.map x7))):R13 17808970335 68 E (upd V0 9 (77,k9)) hp K=
    ((0≤x16)∧(x16<x15n)∧(ptrN x15a fun b1 o2=>ldL (HP.cellN hp b1 (o2+Int.toNat x16*9) 9) fun l3=>(0≤x16)∧(x16<x15n)∧(ptrN x15a fun b4 o5=>ldV (HP.cell hp b4 ((o5+Int.toNat x16*9)+0)) fun v6=>intV v6 .i64 fun i7=>rdS Tryd.prog (Instr.lookup 105 (.map x7) (.int .i64 i7) false) hp fun u8=>aggV u8 fun l9=>eqAgg Tryd.prog 79 l3 l9 fun q10=>ite2 (!q10) (K (w4 (w8 (w8 (w8 (w8 (w8 (w8 (w8 (w8 E 140 (sS x15a x15n x15c) 141 (sI x16) 142 (sQ b1 (o2+Int.toNat x16*9)) 143 (sA l3) 144 (sV (.map x7)) 145 (sS x15a x15n x15c) 146 (sI x16) 147 (sQ b4 (o5+Int.toNat x16*9))) 148 (sQ b4 ((o5+Int.toNat x16*9)+0)) 149 (sI i7) 150 (sA l9) 151 (sB ((!q10))) 152 (sB true) 153 sU 154 sU 155 sU) 156 sU 157 sU 158 sU 159 sU 160 sU 161 (sB true) 162 (sB true) 163 sU) 164 sU 165 sU 166 sU 167 sU 168 sU 169 sU 170 sU 171 sU) 172 sU 173 sU 174 sU 175 sU 176 sU 177 sU 178 sU 179 sU) 180 sU 181 sU 182 sU 183 sU 184 sU 185 sU 186 sU 187 sU) 188 sU 189 sU 190 sU 191 sU 192 sU 193 sU 194 sU 195 sU) 196 sU 197 sU 198 sU 199 sU 200 sU 201 sU 202 sU 203 sU) 204 sU 205 sU 206 sU 207 (sB true)) (upd V0 9 (77,k9)) hp) ((0≤x16)∧(x16<x15n)∧(ptrN x15a fun b11 o12=>ldV (HP.cell hp b11 ((o12+Int.toNat x16*9)+8)) fun v13=>intV v13 .i64 fun i14=>ldV (k9)[6]? fun v15=>intV v15 .i64 fun i16=>ite2 (decide (i14 > i16)) (K (w4 (w8 (w8 (w8 (w8 (w8 (w8 (w8 (w8 E 140 (sS x15a x15n x15c) 141 (sI x16) 142 (sQ b1 (o2+Int.toNat x16*9)) 143 (sA l3) 144 (sV (.map x7)) 145 (sS x15a x15n x15c) 146 (sI x16) 147 (sQ b4 (o5+Int.toNat x16*9))) 148 (sQ b4 ((o5+Int.toNat x16*9)+0)) 149 (sI i7) 150 (sA l9) 151 (sB ((!q10))) 152 (sB false) 153 (sS x15a x15n x15c) 154 (sI x16) 155 (sQ b11 (o12+Int.toNat x16*9))) 156 (sQ b11 ((o12+Int.toNat x16*9)+8)) 157 (sI i14) 158 (sR 9 6) 159 (sI i16) 160 (sB (decide (i14 > i16))) 161 (sB (decide (i14 > i16))) 162 (sB true) 163 sU) 164 sU 165 sU 166 sU 167 sU 168 sU 169 sU 170 sU 171 sU) 172 sU 173 sU 174 sU 175 sU 176 sU 177 sU 178 sU 179 sU) 180 sU 181 sU 182 sU 183 sU 184 sU 185 sU 186 sU 187 sU) 188 sU 189 sU 190 sU 191 sU 192 sU 193 sU 194 sU 195 sU) 196 sU 197 sU 198 sU 199 sU 200 sU 201 sU 202 sU 203 sU) 204 sU 205 sU 206 sU 207 (sB true)) (upd V0 9 (77,k9)) hp) (ite2 (decide (x16 > 0)) ((0≤((wr (x16-1)):Int))∧(((wr (x16-1)):Int)<x15n)∧(ptrN x15a fun b17 o18=>ldV (HP.cell hp b17 ((o18+Int.toNat (wr (x16-1))*9)+8)) fun v19=>intV v19 .i64 fun i20=>(0≤x16)∧(x16<x15n)∧(ptrN x15a fun b21 o22=>ldV (HP.cell hp b21 ((o22+Int.toNat x16*9)+8)) fun v23=>intV v23 .i64 fun i24=>ite2 (decide (i20 > i24)) (K (w4 (w8 (w8 (w8 (w8 (w8 (w8 (w8 (w8 E 140 (sS x15a x15n x15c) 141 (sI x16) 142 (sQ b1 (o2+Int.toNat x16*9)) 143 (sA l3) 144 (sV (.map x7)) 145 (sS x15a x15n x15c) 146 (sI x16) 147 (sQ b4 (o5+Int.toNat x16*9))) 148 (sQ b4 ((o5+Int.toNat x16*9)+0)) 149 (sI i7) 150 (sA l9) 151 (sB ((!q10))) 152 (sB false) 153 (sS x15a x15n x15c) 154 (sI x16) 155 (sQ b11 (o12+Int.toNat x16*9))) 156 (sQ b11 ((o12+Int.toNat x16*9)+8)) 157 (sI i14) 158 (sR 9 6) 159 (sI i16) 160 (sB (decide (i14 > i16))) 161 (sB (decide (i14 > i16))) 162 (sB false) 163 (sI x16)) 164 (sB (decide (x16 > 0))) 165 (sB true) 166 (sS x15a x15n x15c) 167 (sI x16) 168 (sI ((wr (x16-1)))) 169 (sV (ptr b17 (o18+Int.toNat (wr (x16-1))*9))) 170 (sV (ptr b17 ((o18+Int.toNat (wr (x16-1))*9)+8))) 171 (sI i20)) 172 (sS x15a x15n x15c) 173 (sI x16) 174 (sQ b21 (o22+Int.toNat x16*9)) 175 (sQ b21 ((o22+Int.toNat x16*9)+8)) 176 (sI i24) 177 (sB (decide (i20 > i24))) 178 (sB true) 179 sU) 180 sU 181 sU 182 sU 183 sU 184 sU 185 sU 186 sU 187 sU) 188 sU 189 sU 190 sU 191 sU 192 sU 193 sU 194 sU 195 sU) 196 sU 197 sU 198 sU 199 sU 200 sU 201 sU 202 sU 203 sU) 204 sU 205 (sB true) 206 (sB true) 207 (sB true)) (upd V0 9 (77,k9)) hp) ((0≤((wr (x16-1)):Int))∧(((wr (x16-1)):Int)<x15n)∧(ptrN x15a fun b25 o26=>ldV (HP.cell hp b25 ((o26+Int.toNat (wr (x16-1))*9)+8)) fun v27=>intV v27 .i64 fun i28=>(0≤x16)∧(x16<x15n)∧(ptrN x15a fun b29 o30=>ldV (HP.cell hp b29 ((o30+Int.toNat x16*9)+8)) fun v31=>intV v31 .i64 fun i32=>ite2 (i28==i32) ((0≤((wr (x16-1)):Int))∧(((wr (x16-1)):Int)<x15n)∧(ptrN x15a fun b33 o34=>ldV (HP.cell hp b33 ((o34+Int.toNat (wr (x16-1))*9)+0)) fun v35=>intV v35 .i64 fun i36=>(0≤x16)∧(x16<x15n)∧(ptrN x15a fun b37 o38=>ldV (HP.cell hp b37 ((o38+Int.toNat x16*9)+0)) fun v39=>intV v39 .i64 fun i40=>K (w4 (w8 (w8 (w8 (w8 (w8 (w8 (w8 (w8 E 140 (sS x15a x15n x15c) 141 (sI x16) 142 (sQ b1 (o2+Int.toNat x16*9)) 143 (sA l3) 144 (sV (.map x7)) 145 (sS x15a x15n x15c) 146 (sI x16) 147 (sQ b4 (o5+Int.toNat x16*9))) 148 (sQ b4 ((o5+Int.toNat x16*9)+0)) 149 (sI i7) 150 (sA l9) 151 (sB ((!q10))) 152 (sB false) 153 (sS x15a x15n x15c) 154 (sI x16) 155 (sQ b11 (o12+Int.toNat x16*9))) 156 (sQ b11 ((o12+Int.toNat x16*9)+8)) 157 (sI i14) 158 (sR 9 6) 159 (sI i16) 160 (sB (decide (i14 > i16))) 161 (sB (decide (i14 > i16))) 162 (sB false) 163 (sI x16)) 164 (sB (decide (x16 > 0))) 165 (sB true) 166 (sS x15a x15n x15c) 167 (sI x16) 168 (sI ((wr (x16-1)))) 169 (sV (ptr b17 (o18+Int.toNat (wr (x16-1))*9))) 170 (sV (ptr b17 ((o18+Int.toNat (wr (x16-1))*9)+8))) 171 (sI i20)) 172 (sS x15a x15n x15c) 173 (sI x16) 174 (sQ b21 (o22+Int.toNat x16*9)) 175 (sQ b21 ((o22+Int.toNat x16*9)+8)) 176 (sI i24) 177 (sB (decide (i20 > i24))) 178 (sB false) 179 (sS x15a x15n x15c)) 180 (sI x16) 181 (sI ((wr (x16-1)))) 182 (sV (ptr b25 (o26+Int.toNat (wr (x16-1))*9))) 183 (sV (ptr b25 ((o26+Int.toNat (wr (x16-1))*9)+8))) 184 (sI i28) 185 (sS x15a x15n x15c) 186 (sI x16) 187 (sQ b29 (o30+Int.toNat x16*9))) 188 (sQ b29 ((o30+Int.toNat x16*9)+8)) 189 (sI i32) 190 (sB ((i28==i32))) 191 (sB true) 192 (sS x15a x15n x15c) 193 (sI x16) 194 (sI ((wr (x16-1)))) 195 (sV (ptr b33 (o34+Int.toNat (wr (x16-1))*9)))) 196 (sV (ptr b33 ((o34+Int.toNat (wr (x16-1))*9)+0))) 197 (sI i36) 198 (sS x15a x15n x15c) 199 (sI x16) 200 (sQ b37 (o38+Int.toNat x16*9)) 201 (sQ b37 ((o38+Int.toNat x16*9)+0)) 202 (sI i40) 203 (sB (decide (i36≥i40)))) 204 (sB (decide (i36≥i40))) 205 (sB (decide (i36≥i40))) 206 (sB (decide (i36≥i40))) 207 (sB (decide (i36≥i40)))) (upd V0 9 (77,k9)) hp))) (K (w4 (w8 (w8 (w8 (w8 (w8 (w8 (w8 (w8 E 140 (sS x15a x15n x15c) 141 (sI x16) 142 (sQ b1 (o2+Int.toNat x16*9)) 143 (sA l3) 144 (sV (.map x7)) 145 (sS x15a x15n x15c) 146 (sI x16) 147 (sQ b4 (o5+Int.toNat x16*9))) 148 (sQ b4 ((o5+Int.toNat x16*9)+0)) 149 (sI i7) 150 (sA l9) 151 (sB ((!q10))) 152 (sB false) 153 (sS x15a x15n x15c) 154 (sI x16) 155 (sQ b11 (o12+Int.toNat x16*9))) 156 (sQ b11 ((o12+Int.toNat x16*9)+8)) 157 (sI i14) 158 (sR 9 6) 159 (sI i16) 160 (sB (decide (i14 > i16))) 161 (sB (decide (i14 > i16))) 162 (sB false) 163 (sI x16)) 164 (sB (decide (x16 > 0))) 165 (sB true) 166 (sS x15a x15n x15c) 167 (sI x16) 168 (sI ((wr (x16-1)))) 169 (sV (ptr b17 (o18+Int.toNat (wr (x16-1))*9))) 170 (sV (ptr b17 ((o18+Int.toNat (wr (x16-1))*9)+8))) 171 (sI i20)) 172 (sS x15a x15n x15c) 173 (sI x16) 174 (sQ b21 (o22+Int.toNat x16*9)) 175 (sQ b21 ((o22+Int.toNat x16*9)+8)) 176 (sI i24) 177 (sB (decide (i20 > i24))) 178 (sB false) 179 (sS x15a x15n x15c)) 180 (sI x16) 181 (sI ((wr (x16-1)))) 182 (sV (ptr b25 (o26+Int.toNat (wr (x16-1))*9))) 183 (sV (ptr b25 ((o26+Int.toNat (wr (x16-1))*9)+8))) 184 (sI i28) 185 (sS x15a x15n x15c) 186 (sI x16) 187 (sQ b29 (o30+Int.toNat x16*9))) 188 (sQ b29 ((o30+Int.toNat x16*9)+8)) 189 (sI i32) 190 (sB ((i28==i32))) 191 (sB false) 192 sU 193 sU 194 sU 195 sU) 196 sU 197 sU 198 sU 199 sU 200 sU 201 sU 202 sU 203 sU) 204 (sB false) 205 (sB false) 206 (sB false) 207 (sB false)) (upd V0 9 (77,k9)) hp))))))) (K (w4 (w8 (w8 (w8 (w8 (w8 (w8 (w8 (w8 E 140 (sS x15a x15n x15c) 141 (sI x16) 142 (sQ b1 (o2+Int.toNat x16*9)) 143 (sA l3) 144 (sV (.map x7)) 145 (sS x15a x15n x15c) 146 (sI x16) 147 (sQ b4 (o5+Int.toNat x16*9))) 148 (sQ b4 ((o5+Int.toNat x16*9)+0)) 149 (sI i7) 150 (sA l9) 151 (sB ((!q10))) 152 (sB false) 153 (sS x15a x15n x15c) 154 (sI x16) 155 (sQ b11 (o12+Int.toNat x16*9))) 156 (sQ b11 ((o12+Int.toNat x16*9)+8)) 157 (sI i14) 158 (sR 9 6) 159 (sI i16) 160 (sB (decide (i14 > i16))) 161 (sB (decide (i14 > i16))) 162 (sB false) 163 (sI x16)) 164 (sB (decide (x16 > 0))) 165 (sB false) 166 sU 167 sU 168 sU 169 sU 170 sU 171 sU) 172 sU 173 sU 174 sU 175 sU 176 sU 177 sU 178 sU 179 sU) 180 sU 181 sU 182 sU 183 sU 184 sU 185 sU 186 sU 187 sU) 188 sU 189 sU 190 sU 191 sU 192 sU 193 sU 194 sU 195 sU) 196 sU 197 sU 198 sU 199 sU 200 sU 201 sU 202 sU 203 sU) 204 sU 205 sU 206 (sB false) 207 (sB false)) (upd V0 9 (77,k9)) hp))))))):=by subst h; kernel_rfl
def F13_l19 (x0:Int) (x1a:OA) (x1n x1c:Nat) (x5:OA) (x7:Option Nat) (x8:Int) (x15a:OA) (x15n x15c:Nat) (k9:List Value) (I4:(Int)→HP→Prop) (K:Kh) (I19:(Int)→HP→Prop) (x16:Int) (hp:HP):Prop:=
  (ite2 (decide (x16<x15n)) ((0≤x16)∧(x16<x15n)∧(ptrN x15a fun b741 o742=>ldL (HP.cellN hp b741 (o742+Int.toNat x16*9) 9) fun l743=>(0≤x16)∧(x16<x15n)∧(ptrN x15a fun b744 o745=>ldV (HP.cell hp b744 ((o745+Int.toNat x16*9)+0)) fun v746=>intV v746 .i64 fun i747=>rdS Tryd.prog (Instr.lookup 105 (.map x7) (.int .i64 i747) false) hp fun u748=>aggV u748 fun l749=>eqAgg Tryd.prog 79 l743 l749 fun q750=>ite2 (!q750) (F13_j20 x0 x1a x1n x1c x5 x7 x8 x15a x15n x15c x16 true k9 hp I4 I19 K) ((0≤x16)∧(x16<x15n)∧(ptrN x15a fun b751 o752=>ldV (HP.cell hp b751 ((o752+Int.toNat x16*9)+8)) fun v753=>intV v753 .i64 fun i754=>ldV (k9)[6]? fun v755=>intV v755 .i64 fun i756=>ite2 (decide (i754 > i756)) (F13_j20 x0 x1a x1n x1c x5 x7 x8 x15a x15n x15c x16 true k9 hp I4 I19 K) (ite2 (decide (x16 > 0)) ((0≤((IntKind.wrap .i64 (x16-1)):Int))∧(((IntKind.wrap .i64 (x16-1)):Int)<x15n)∧(ptrN x15a fun b757 o758=>ldV (HP.cell hp b757 ((o758+Int.toNat (IntKind.wrap .i64 (x16-1))*9)+8)) fun v759=>intV v759 .i64 fun i760=>(0≤x16)∧(x16<x15n)∧(ptrN x15a fun b761 o762=>ldV (HP.cell hp b761 ((o762+Int.toNat x16*9)+8)) fun v763=>intV v763 .i64 fun i764=>ite2 (decide (i760 > i764)) (F13_j20 x0 x1a x1n x1c x5 x7 x8 x15a x15n x15c x16 true k9 hp I4 I19 K) ((0≤((IntKind.wrap .i64 (x16-1)):Int))∧(((IntKind.wrap .i64 (x16-1)):Int)<x15n)∧(ptrN x15a fun b765 o766=>ldV (HP.cell hp b765 ((o766+Int.toNat (IntKind.wrap .i64 (x16-1))*9)+8)) fun v767=>intV v767 .i64 fun i768=>(0≤x16)∧(x16<x15n)∧(ptrN x15a fun b769 o770=>ldV (HP.cell hp b769 ((o770+Int.toNat x16*9)+8)) fun v771=>intV v771 .i64 fun i772=>ite2 (i768==i772) ((0≤((IntKind.wrap .i64 (x16-1)):Int))∧(((IntKind.wrap .i64 (x16-1)):Int)<x15n)∧(ptrN x15a fun b773 o774=>ldV (HP.cell hp b773 ((o774+Int.toNat (IntKind.wrap .i64 (x16-1))*9)+0)) fun v775=>intV v775 .i64 fun i776=>(0≤x16)∧(x16<x15n)∧(ptrN x15a fun b777 o778=>ldV (HP.cell hp b777 ((o778+Int.toNat x16*9)+0)) fun v779=>intV v779 .i64 fun i780=>F13_j20 x0 x1a x1n x1c x5 x7 x8 x15a x15n x15c x16 (decide (i776≥i780)) k9 hp I4 I19 K))) (F13_j20 x0 x1a x1n x1c x5 x7 x8 x15a x15n x15c x16 false k9 hp I4 I19 K))))))) (F13_j20 x0 x1a x1n x1c x5 x7 x8 x15a x15n x15c x16 false k9 hp I4 I19 K))))))) (F13_j15 x0 x1a x1n x1c x5 x7 x8 k9 hp I4 K))
def F13_j18 (x0:Int) (x1a:OA) (x1n x1c:Nat) (x5:OA) (x7:Option Nat) (x8:Int) (x15a:OA) (x15n x15c:Nat) (x16:Int) (k9:List Value) (hp:HP) (I4:(Int)→HP→Prop) (K:Kh):Prop:=
  (LoopP (σ:=Int) (fun I s hp=>F13_l19 x0 x1a x1n x1c x5 x7 x8 x15a x15n x15c k9 I4 K I s hp) x16 hp)
theorem F13_r76:R13 159339103 1 e (upd V0 9 (77,k9)) hp K=
 K (upd e 16 (sI 0)) (upd V0 9 (77,k9)) hp:= by kernel_rfl
def F13_j13 (x0:Int) (x1a:OA) (x1n x1c:Nat) (x5:OA) (x7:Option Nat) (x8 x54:Int) (x105:Bool) (k9:List Value) (hp:HP) (I4:(Int)→HP→Prop) (K:Kh):Prop:=
  (ite2 x105 (ldV (k9)[4]? fun v697=>intV v697 .i64 fun i698=>CF Tryd.prog 44 [(.pointer x5),(.int .i64 i698)] hp fun u699 h700=>tup2V u699 fun u701 u702=>aggV u701 fun l703=>intV u702 .i64 fun i704=>if List.length l703=9 then (if List.all l703 one=true then (if 0+List.length l703≤List.length [(Value.int .i64 0),.int .i64 0,.int .u8 0,.int .u8 0,.int .u8 0,.int .u8 0,.int .i64 0,.int .i64 0,.int .i64 0] then (ite2 (i704==0) (ldL (cellsN (splice [.int .i64 0,.int .i64 0,.int .u8 0,.int .u8 0,.int .u8 0,.int .u8 0,.int .i64 0,.int .i64 0,.int .i64 0] 0 l703) 0 9) fun l709=>ldV (k9)[4]? fun v710=>intV v710 .i64 fun i711=>rdS Tryd.prog (Instr.lookup 105 (.map x7) (.int .i64 i711) false) h700 fun u712=>aggV u712 fun l713=>eqAgg Tryd.prog 79 l709 l713 fun q714=>F13_j14 x0 x1a x1n x1c x5 x7 x8 (!q714) k9 h700 I4 K) (F13_j14 x0 x1a x1n x1c x5 x7 x8 false k9 h700 I4 K)) else False) else False) else False) (ite2 (x54==3) (ldV (k9)[6]? fun v715=>intV v715 .i64 fun i716=>CF Tryd.prog 45 [(.pointer x5),(.int .i64 i716)] hp fun u717 h718=>slcV u717 fun a719 n720 c721=>F13_j18 x0 x1a x1n x1c x5 x7 x8 a719 n720 c721 0 k9 h718 I4 K) (F13_j6 x0 x1a x1n x1c x5 x7 x8 hp I4 K)))
theorem F13_r77:R13 5198431 2 (upd e 54 (sV (.int .u8 x54))) (upd V0 9 (77,k9)) hp K=
 K (w3 e 54 (sV (.int .u8 x54)) 106 (sB ((x54==2))) 105 (sB ((x54==2)))) (upd V0 9 (77,k9)) hp:= by kernel_rfl
theorem F13_r78:R13 15684191 2 (upd e 54 (sV (.int .u8 x54))) (upd V0 9 (77,k9)) hp K=
 K (w3 e 54 (sV (.int .u8 x54)) 107 (sB ((x54==5))) 105 (sB ((x54==5)))) (upd V0 9 (77,k9)) hp:= by kernel_rfl
def F13_j12 (x0:Int) (x1a:OA) (x1n x1c:Nat) (x5:OA) (x7:Option Nat) (x8 x54:Int) (x79:Bool) (k9:List Value) (hp:HP) (I4:(Int)→HP→Prop) (K:Kh):Prop:=
  (ite2 x79 (ldV (k9)[4]? fun v675=>intV v675 .i64 fun i676=>ldV (k9)[5]? fun v677=>intV v677 .i64 fun i678=>ldV (k9)[6]? fun v679=>intV v679 .i64 fun i680=>CF Tryd.prog 56 [(.pointer x5),(.int .i64 i676),(.int .i64 i678),(.int .i64 i680)] hp fun u681 h682=>intV u681 .i64 fun i683=>ite2 (i683==0) (ldV (k9)[4]? fun v684=>intV v684 .i64 fun i685=>rdS Tryd.prog (Instr.lookup 105 (.map x7) (.int .i64 i685) false) h682 fun u686=>aggV u686 fun l687=>if List.length l687=9 then (if List.all l687 one=true then (if 0+List.length l687≤List.length [(Value.int .i64 0),.int .i64 0,.int .u8 0,.int .u8 0,.int .u8 0,.int .u8 0,.int .i64 0,.int .i64 0,.int .i64 0] then (ldV (k9)[5]? fun v688=>intV v688 .i64 fun i689=>if 7<List.length (splice [.int .i64 0,.int .i64 0,.int .u8 0,.int .u8 0,.int .u8 0,.int .u8 0,.int .i64 0,.int .i64 0,.int .i64 0] 0 l687) then (ldV (k9)[6]? fun v690=>intV v690 .i64 fun i691=>if 8<List.length (List.set (splice [.int .i64 0,.int .i64 0,.int .u8 0,.int .u8 0,.int .u8 0,.int .u8 0,.int .i64 0,.int .i64 0,.int .i64 0] 0 l687) 7 (.int .i64 i689)) then (ldV (k9)[4]? fun v692=>intV v692 .i64 fun i693=>ldL (cellsN (List.set (List.set (splice [.int .i64 0,.int .i64 0,.int .u8 0,.int .u8 0,.int .u8 0,.int .u8 0,.int .i64 0,.int .i64 0,.int .i64 0] 0 l687) 7 (.int .i64 i689)) 8 (.int .i64 i691)) 0 9) fun l694=>opS Tryd.prog (Instr.mapUpdate 105 (.map x7) (.int .i64 i693) (.agg ⟨l694⟩)) h682 fun u695 h696=>F13_j6 x0 x1a x1n x1c x5 x7 x8 h696 I4 K) else False) else False) else False) else False) else False) (F13_j6 x0 x1a x1n x1c x5 x7 x8 h682 I4 K)) (ite2 (x54==2) (F13_j13 x0 x1a x1n x1c x5 x7 x8 x54 (x54==2) k9 hp I4 K) (F13_j13 x0 x1a x1n x1c x5 x7 x8 x54 (x54==5) k9 hp I4 K)))
theorem F13_r79:R13 1266271 2 (upd e 54 (sV (.int .u8 x54))) (upd V0 9 (77,k9)) hp K=
 K (w3 e 54 (sV (.int .u8 x54)) 80 (sB ((x54==1))) 79 (sB ((x54==1)))) (upd V0 9 (77,k9)) hp:= by kernel_rfl
theorem F13_r80:R13 3887711 2 (upd e 54 (sV (.int .u8 x54))) (upd V0 9 (77,k9)) hp K=
 K (w3 e 54 (sV (.int .u8 x54)) 81 (sB ((x54==4))) 79 (sB ((x54==4)))) (upd V0 9 (77,k9)) hp:= by kernel_rfl
def F13_l4 (x0:Int) (x1a:OA) (x1n x1c:Nat) (x5:OA) (x7:Option Nat) (K:Kh) (I4:(Int)→HP→Prop) (x8:Int) (hp:HP):Prop:=
  (ite2 (decide (x8<x1n)) ((0≤x8)∧(x8<x1n)∧(ptrN x1a fun b14 o15=>ldL (HP.cellN hp b14 (o15+Int.toNat x8*7) 7) fun l16=>if List.length l16=7 then (if List.all l16 one=true then (if 0+List.length l16≤List.length [(Value.int .u8 0),.int .u8 0,.int .i64 0,.int .i64 0,.int .i64 0,.int .i64 0,.int .i64 0] then (ldV ((splice [.int .u8 0,.int .u8 0,.int .i64 0,.int .i64 0,.int .i64 0,.int .i64 0,.int .i64 0] 0 l16))[0]? fun v60=>intV v60 .u8 fun i61=>ite2 (i61==0) ((ldV ((splice [.int .u8 0,.int .u8 0,.int .i64 0,.int .i64 0,.int .i64 0,.int .i64 0,.int .i64 0] 0 l16))[2]? fun v67=>intV v67 .i64 fun i68=>ldV ((splice [.int .u8 0,.int .u8 0,.int .i64 0,.int .i64 0,.int .i64 0,.int .i64 0,.int .i64 0] 0 l16))[1]? fun v69=>intV v69 .u8 fun i70=>ldV ((splice [.int .u8 0,.int .u8 0,.int .i64 0,.int .i64 0,.int .i64 0,.int .i64 0,.int .i64 0] 0 l16))[3]? fun v71=>intV v71 .i64 fun i72=>CF Tryd.prog 43 [(.int .u8 i70),(.int .i64 i72)] hp fun u73 h74=>aggV u73 fun l75=>ldV ((splice [.int .u8 0,.int .u8 0,.int .i64 0,.int .i64 0,.int .i64 0,.int .i64 0,.int .i64 0] 0 l16))[5]? fun v76=>intV v76 .i64 fun i77=>ldV ((splice [.int .u8 0,.int .u8 0,.int .i64 0,.int .i64 0,.int .i64 0,.int .i64 0,.int .i64 0] 0 l16))[6]? fun v78=>intV v78 .i64 fun i79=>CF Tryd.prog 42 [(.pointer x5),(.int .i64 i68),(.agg ⟨l75⟩),(.int .i64 i77),(.int .i64 i79)] h74 fun u80 h81=>tup2V u80 fun u82 u83=>aggV u82 fun l84=>intV u83 .i64 fun i85=>if List.length l84=9 then (if List.all l84 one=true then (if 0+List.length l84≤List.length [(Value.int .i64 0),.int .i64 0,.int .u8 0,.int .u8 0,.int .u8 0,.int .u8 0,.int .i64 0,.int .i64 0,.int .i64 0] then (F13_j11 x0 x1a x1n x1c x5 x7 x8 i85 (splice [.int .i64 0,.int .i64 0,.int .u8 0,.int .u8 0,.int .u8 0,.int .u8 0,.int .i64 0,.int .i64 0,.int .i64 0] 0 l84) h81 I4 K) else False) else False) else False)∧(ldV ((splice [.int .u8 0,.int .u8 0,.int .i64 0,.int .i64 0,.int .i64 0,.int .i64 0,.int .i64 0] 0 l16))[2]? fun v86=>intV v86 .i64 fun i87=>ldV ((splice [.int .u8 0,.int .u8 0,.int .i64 0,.int .i64 0,.int .i64 0,.int .i64 0,.int .i64 0] 0 l16))[1]? fun v88=>intV v88 .u8 fun i89=>ldV ((splice [.int .u8 0,.int .u8 0,.int .i64 0,.int .i64 0,.int .i64 0,.int .i64 0,.int .i64 0] 0 l16))[3]? fun v90=>intV v90 .i64 fun i91=>CF Tryd.prog 43 [(.int .u8 i89),(.int .i64 i91)] hp fun u92 h93=>aggV u92 fun l94=>ldV ((splice [.int .u8 0,.int .u8 0,.int .i64 0,.int .i64 0,.int .i64 0,.int .i64 0,.int .i64 0] 0 l16))[5]? fun v95=>intV v95 .i64 fun i96=>ldV ((splice [.int .u8 0,.int .u8 0,.int .i64 0,.int .i64 0,.int .i64 0,.int .i64 0,.int .i64 0] 0 l16))[6]? fun v97=>intV v97 .i64 fun i98=>CF Tryd.prog 42 [(.pointer x5),(.int .i64 i87),(.agg ⟨l94⟩),(.int .i64 i96),(.int .i64 i98)] h93 fun u99 h100=>tup2V u99 fun u101 u102=>aggV u101 fun l103=>intV u102 .i64 fun i104=>if List.length l103=9 then (if List.all l103 one=true then (if 0+List.length l103≤List.length [(Value.int .i64 0),.int .i64 0,.int .u8 0,.int .u8 0,.int .u8 0,.int .u8 0,.int .i64 0,.int .i64 0,.int .i64 0] then (F13_j11 x0 x1a x1n x1c x5 x7 x8 i104 (splice [.int .i64 0,.int .i64 0,.int .u8 0,.int .u8 0,.int .u8 0,.int .u8 0,.int .i64 0,.int .i64 0,.int .i64 0] 0 l103) h100 I4 K) else False) else False) else False)∧(ldV ((splice [.int .u8 0,.int .u8 0,.int .i64 0,.int .i64 0,.int .i64 0,.int .i64 0,.int .i64 0] 0 l16))[2]? fun v105=>intV v105 .i64 fun i106=>ldV ((splice [.int .u8 0,.int .u8 0,.int .i64 0,.int .i64 0,.int .i64 0,.int .i64 0,.int .i64 0] 0 l16))[1]? fun v107=>intV v107 .u8 fun i108=>ldV ((splice [.int .u8 0,.int .u8 0,.int .i64 0,.int .i64 0,.int .i64 0,.int .i64 0,.int .i64 0] 0 l16))[3]? fun v109=>intV v109 .i64 fun i110=>CF Tryd.prog 43 [(.int .u8 i108),(.int .i64 i110)] hp fun u111 h112=>aggV u111 fun l113=>ldV ((splice [.int .u8 0,.int .u8 0,.int .i64 0,.int .i64 0,.int .i64 0,.int .i64 0,.int .i64 0] 0 l16))[6]? fun v114=>intV v114 .i64 fun i115=>ldV ((splice [.int .u8 0,.int .u8 0,.int .i64 0,.int .i64 0,.int .i64 0,.int .i64 0,.int .i64 0] 0 l16))[5]? fun v116=>intV v116 .i64 fun i117=>CF Tryd.prog 42 [(.pointer x5),(.int .i64 i106),(.agg ⟨l113⟩),(.int .i64 i117),(.int .i64 i115)] h112 fun u118 h119=>tup2V u118 fun u120 u121=>aggV u120 fun l122=>intV u121 .i64 fun i123=>if List.length l122=9 then (if List.all l122 one=true then (if 0+List.length l122≤List.length [(Value.int .i64 0),.int .i64 0,.int .u8 0,.int .u8 0,.int .u8 0,.int .u8 0,.int .i64 0,.int .i64 0,.int .i64 0] then (F13_j11 x0 x1a x1n x1c x5 x7 x8 i123 (splice [.int .i64 0,.int .i64 0,.int .u8 0,.int .u8 0,.int .u8 0,.int .u8 0,.int .i64 0,.int .i64 0,.int .i64 0] 0 l122) h119 I4 K) else False) else False) else False)∧(ldV ((splice [.int .u8 0,.int .u8 0,.int .i64 0,.int .i64 0,.int .i64 0,.int .i64 0,.int .i64 0] 0 l16))[2]? fun v124=>intV v124 .i64 fun i125=>ldV ((splice [.int .u8 0,.int .u8 0,.int .i64 0,.int .i64 0,.int .i64 0,.int .i64 0,.int .i64 0] 0 l16))[1]? fun v126=>intV v126 .u8 fun i127=>ldV ((splice [.int .u8 0,.int .u8 0,.int .i64 0,.int .i64 0,.int .i64 0,.int .i64 0,.int .i64 0] 0 l16))[3]? fun v128=>intV v128 .i64 fun i129=>CF Tryd.prog 43 [(.int .u8 i127),(.int .i64 i129)] hp fun u130 h131=>aggV u130 fun l132=>ldV ((splice [.int .u8 0,.int .u8 0,.int .i64 0,.int .i64 0,.int .i64 0,.int .i64 0,.int .i64 0] 0 l16))[5]? fun v133=>intV v133 .i64 fun i134=>ldV ((splice [.int .u8 0,.int .u8 0,.int .i64 0,.int .i64 0,.int .i64 0,.int .i64 0,.int .i64 0] 0 l16))[6]? fun v135=>intV v135 .i64 fun i136=>CF Tryd.prog 42 [(.pointer x5),(.int .i64 i125),(.agg ⟨l132⟩),(.int .i64 i134),(.int .i64 i136)] h131 fun u137 h138=>tup2V u137 fun u139 u140=>aggV u139 fun l141=>intV u140 .i64 fun i142=>if List.length l141=9 then (if List.all l141 one=true then (if 0+List.length l141≤List.length [(Value.int .i64 0),.int .i64 0,.int .u8 0,.int .u8 0,.int .u8 0,.int .u8 0,.int .i64 0,.int .i64 0,.int .i64 0] then (F13_j11 x0 x1a x1n x1c x5 x7 x8 i142 (splice [.int .i64 0,.int .i64 0,.int .u8 0,.int .u8 0,.int .u8 0,.int .u8 0,.int .i64 0,.int .i64 0,.int .i64 0] 0 l141) h138 I4 K) else False) else False) else False)∧(ldV ((splice [.int .u8 0,.int .u8 0,.int .i64 0,.int .i64 0,.int .i64 0,.int .i64 0,.int .i64 0] 0 l16))[2]? fun v143=>intV v143 .i64 fun i144=>ldV ((splice [.int .u8 0,.int .u8 0,.int .i64 0,.int .i64 0,.int .i64 0,.int .i64 0,.int .i64 0] 0 l16))[1]? fun v145=>intV v145 .u8 fun i146=>ldV ((splice [.int .u8 0,.int .u8 0,.int .i64 0,.int .i64 0,.int .i64 0,.int .i64 0,.int .i64 0] 0 l16))[5]? fun v147=>intV v147 .i64 fun i148=>ldV ((splice [.int .u8 0,.int .u8 0,.int .i64 0,.int .i64 0,.int .i64 0,.int .i64 0,.int .i64 0] 0 l16))[6]? fun v149=>intV v149 .i64 fun i150=>ldV ((splice [.int .u8 0,.int .u8 0,.int .i64 0,.int .i64 0,.int .i64 0,.int .i64 0,.int .i64 0] 0 l16))[3]? fun v151=>intV v151 .i64 fun i152=>CF Tryd.prog 43 [(.int .u8 i146),(.int .i64 i152)] hp fun u153 h154=>aggV u153 fun l155=>CF Tryd.prog 42 [(.pointer x5),(.int .i64 i144),(.agg ⟨l155⟩),(.int .i64 i148),(.int .i64 i150)] h154 fun u156 h157=>tup2V u156 fun u158 u159=>aggV u158 fun l160=>intV u159 .i64 fun i161=>if List.length l160=9 then (if List.all l160 one=true then (if 0+List.length l160≤List.length [(Value.int .i64 0),.int .i64 0,.int .u8 0,.int .u8 0,.int .u8 0,.int .u8 0,.int .i64 0,.int .i64 0,.int .i64 0] then (F13_j11 x0 x1a x1n x1c x5 x7 x8 i161 (splice [.int .i64 0,.int .i64 0,.int .u8 0,.int .u8 0,.int .u8 0,.int .u8 0,.int .i64 0,.int .i64 0,.int .i64 0] 0 l160) h157 I4 K) else False) else False) else False)∧(ldV ((splice [.int .u8 0,.int .u8 0,.int .i64 0,.int .i64 0,.int .i64 0,.int .i64 0,.int .i64 0] 0 l16))[2]? fun v162=>intV v162 .i64 fun i163=>ldV ((splice [.int .u8 0,.int .u8 0,.int .i64 0,.int .i64 0,.int .i64 0,.int .i64 0,.int .i64 0] 0 l16))[1]? fun v164=>intV v164 .u8 fun i165=>ldV ((splice [.int .u8 0,.int .u8 0,.int .i64 0,.int .i64 0,.int .i64 0,.int .i64 0,.int .i64 0] 0 l16))[5]? fun v166=>intV v166 .i64 fun i167=>ldV ((splice [.int .u8 0,.int .u8 0,.int .i64 0,.int .i64 0,.int .i64 0,.int .i64 0,.int .i64 0] 0 l16))[3]? fun v168=>intV v168 .i64 fun i169=>CF Tryd.prog 43 [(.int .u8 i165),(.int .i64 i169)] hp fun u170 h171=>aggV u170 fun l172=>ldV ((splice [.int .u8 0,.int .u8 0,.int .i64 0,.int .i64 0,.int .i64 0,.int .i64 0,.int .i64 0] 0 l16))[6]? fun v173=>intV v173 .i64 fun i174=>CF Tryd.prog 42 [(.pointer x5),(.int .i64 i163),(.agg ⟨l172⟩),(.int .i64 i167),(.int .i64 i174)] h171 fun u175 h176=>tup2V u175 fun u177 u178=>aggV u177 fun l179=>intV u178 .i64 fun i180=>if List.length l179=9 then (if List.all l179 one=true then (if 0+List.length l179≤List.length [(Value.int .i64 0),.int .i64 0,.int .u8 0,.int .u8 0,.int .u8 0,.int .u8 0,.int .i64 0,.int .i64 0,.int .i64 0] then (F13_j11 x0 x1a x1n x1c x5 x7 x8 i180 (splice [.int .i64 0,.int .i64 0,.int .u8 0,.int .u8 0,.int .u8 0,.int .u8 0,.int .i64 0,.int .i64 0,.int .i64 0] 0 l179) h176 I4 K) else False) else False) else False)∧(ldV ((splice [.int .u8 0,.int .u8 0,.int .i64 0,.int .i64 0,.int .i64 0,.int .i64 0,.int .i64 0] 0 l16))[2]? fun v181=>intV v181 .i64 fun i182=>ldV ((splice [.int .u8 0,.int .u8 0,.int .i64 0,.int .i64 0,.int .i64 0,.int .i64 0,.int .i64 0] 0 l16))[1]? fun v183=>intV v183 .u8 fun i184=>ldV ((splice [.int .u8 0,.int .u8 0,.int .i64 0,.int .i64 0,.int .i64 0,.int .i64 0,.int .i64 0] 0 l16))[6]? fun v185=>intV v185 .i64 fun i186=>ldV ((splice [.int .u8 0,.int .u8 0,.int .i64 0,.int .i64 0,.int .i64 0,.int .i64 0,.int .i64 0] 0 l16))[3]? fun v187=>intV v187 .i64 fun i188=>CF Tryd.prog 43 [(.int .u8 i184),(.int .i64 i188)] hp fun u189 h190=>aggV u189 fun l191=>ldV ((splice [.int .u8 0,.int .u8 0,.int .i64 0,.int .i64 0,.int .i64 0,.int .i64 0,.int .i64 0] 0 l16))[5]? fun v192=>intV v192 .i64 fun i193=>CF Tryd.prog 42 [(.pointer x5),(.int .i64 i182),(.agg ⟨l191⟩),(.int .i64 i193),(.int .i64 i186)] h190 fun u194 h195=>tup2V u194 fun u196 u197=>aggV u196 fun l198=>intV u197 .i64 fun i199=>if List.length l198=9 then (if List.all l198 one=true then (if 0+List.length l198≤List.length [(Value.int .i64 0),.int .i64 0,.int .u8 0,.int .u8 0,.int .u8 0,.int .u8 0,.int .i64 0,.int .i64 0,.int .i64 0] then (F13_j11 x0 x1a x1n x1c x5 x7 x8 i199 (splice [.int .i64 0,.int .i64 0,.int .u8 0,.int .u8 0,.int .u8 0,.int .u8 0,.int .i64 0,.int .i64 0,.int .i64 0] 0 l198) h195 I4 K) else False) else False) else False)∧(ldV ((splice [.int .u8 0,.int .u8 0,.int .i64 0,.int .i64 0,.int .i64 0,.int .i64 0,.int .i64 0] 0 l16))[2]? fun v200=>intV v200 .i64 fun i201=>ldV ((splice [.int .u8 0,.int .u8 0,.int .i64 0,.int .i64 0,.int .i64 0,.int .i64 0,.int .i64 0] 0 l16))[1]? fun v202=>intV v202 .u8 fun i203=>ldV ((splice [.int .u8 0,.int .u8 0,.int .i64 0,.int .i64 0,.int .i64 0,.int .i64 0,.int .i64 0] 0 l16))[3]? fun v204=>intV v204 .i64 fun i205=>CF Tryd.prog 43 [(.int .u8 i203),(.int .i64 i205)] hp fun u206 h207=>aggV u206 fun l208=>ldV ((splice [.int .u8 0,.int .u8 0,.int .i64 0,.int .i64 0,.int .i64 0,.int .i64 0,.int .i64 0] 0 l16))[5]? fun v209=>intV v209 .i64 fun i210=>ldV ((splice [.int .u8 0,.int .u8 0,.int .i64 0,.int .i64 0,.int .i64 0,.int .i64 0,.int .i64 0] 0 l16))[6]? fun v211=>intV v211 .i64 fun i212=>CF Tryd.prog 42 [(.pointer x5),(.int .i64 i201),(.agg ⟨l208⟩),(.int .i64 i210),(.int .i64 i212)] h207 fun u213 h214=>tup2V u213 fun u215 u216=>aggV u215 fun l217=>intV u216 .i64 fun i218=>if List.length l217=9 then (if List.all l217 one=true then (if 0+List.length l217≤List.length [(Value.int .i64 0),.int .i64 0,.int .u8 0,.int .u8 0,.int .u8 0,.int .u8 0,.int .i64 0,.int .i64 0,.int .i64 0] then (F13_j11 x0 x1a x1n x1c x5 x7 x8 i218 (splice [.int .i64 0,.int .i64 0,.int .u8 0,.int .u8 0,.int .u8 0,.int .u8 0,.int .i64 0,.int .i64 0,.int .i64 0] 0 l217) h214 I4 K) else False) else False) else False)∧(ldV ((splice [.int .u8 0,.int .u8 0,.int .i64 0,.int .i64 0,.int .i64 0,.int .i64 0,.int .i64 0] 0 l16))[2]? fun v219=>intV v219 .i64 fun i220=>ldV ((splice [.int .u8 0,.int .u8 0,.int .i64 0,.int .i64 0,.int .i64 0,.int .i64 0,.int .i64 0] 0 l16))[3]? fun v221=>intV v221 .i64 fun i222=>ldV ((splice [.int .u8 0,.int .u8 0,.int .i64 0,.int .i64 0,.int .i64 0,.int .i64 0,.int .i64 0] 0 l16))[5]? fun v223=>intV v223 .i64 fun i224=>ldV ((splice [.int .u8 0,.int .u8 0,.int .i64 0,.int .i64 0,.int .i64 0,.int .i64 0,.int .i64 0] 0 l16))[6]? fun v225=>intV v225 .i64 fun i226=>ldV ((splice [.int .u8 0,.int .u8 0,.int .i64 0,.int .i64 0,.int .i64 0,.int .i64 0,.int .i64 0] 0 l16))[1]? fun v227=>intV v227 .u8 fun i228=>CF Tryd.prog 43 [(.int .u8 i228),(.int .i64 i222)] hp fun u229 h230=>aggV u229 fun l231=>CF Tryd.prog 42 [(.pointer x5),(.int .i64 i220),(.agg ⟨l231⟩),(.int .i64 i224),(.int .i64 i226)] h230 fun u232 h233=>tup2V u232 fun u234 u235=>aggV u234 fun l236=>intV u235 .i64 fun i237=>if List.length l236=9 then (if List.all l236 one=true then (if 0+List.length l236≤List.length [(Value.int .i64 0),.int .i64 0,.int .u8 0,.int .u8 0,.int .u8 0,.int .u8 0,.int .i64 0,.int .i64 0,.int .i64 0] then (F13_j11 x0 x1a x1n x1c x5 x7 x8 i237 (splice [.int .i64 0,.int .i64 0,.int .u8 0,.int .u8 0,.int .u8 0,.int .u8 0,.int .i64 0,.int .i64 0,.int .i64 0] 0 l236) h233 I4 K) else False) else False) else False)∧(ldV ((splice [.int .u8 0,.int .u8 0,.int .i64 0,.int .i64 0,.int .i64 0,.int .i64 0,.int .i64 0] 0 l16))[2]? fun v238=>intV v238 .i64 fun i239=>ldV ((splice [.int .u8 0,.int .u8 0,.int .i64 0,.int .i64 0,.int .i64 0,.int .i64 0,.int .i64 0] 0 l16))[3]? fun v240=>intV v240 .i64 fun i241=>ldV ((splice [.int .u8 0,.int .u8 0,.int .i64 0,.int .i64 0,.int .i64 0,.int .i64 0,.int .i64 0] 0 l16))[5]? fun v242=>intV v242 .i64 fun i243=>ldV ((splice [.int .u8 0,.int .u8 0,.int .i64 0,.int .i64 0,.int .i64 0,.int .i64 0,.int .i64 0] 0 l16))[1]? fun v244=>intV v244 .u8 fun i245=>CF Tryd.prog 43 [(.int .u8 i245),(.int .i64 i241)] hp fun u246 h247=>aggV u246 fun l248=>ldV ((splice [.int .u8 0,.int .u8 0,.int .i64 0,.int .i64 0,.int .i64 0,.int .i64 0,.int .i64 0] 0 l16))[6]? fun v249=>intV v249 .i64 fun i250=>CF Tryd.prog 42 [(.pointer x5),(.int .i64 i239),(.agg ⟨l248⟩),(.int .i64 i243),(.int .i64 i250)] h247 fun u251 h252=>tup2V u251 fun u253 u254=>aggV u253 fun l255=>intV u254 .i64 fun i256=>if List.length l255=9 then (if List.all l255 one=true then (if 0+List.length l255≤List.length [(Value.int .i64 0),.int .i64 0,.int .u8 0,.int .u8 0,.int .u8 0,.int .u8 0,.int .i64 0,.int .i64 0,.int .i64 0] then (F13_j11 x0 x1a x1n x1c x5 x7 x8 i256 (splice [.int .i64 0,.int .i64 0,.int .u8 0,.int .u8 0,.int .u8 0,.int .u8 0,.int .i64 0,.int .i64 0,.int .i64 0] 0 l255) h252 I4 K) else False) else False) else False)∧(ldV ((splice [.int .u8 0,.int .u8 0,.int .i64 0,.int .i64 0,.int .i64 0,.int .i64 0,.int .i64 0] 0 l16))[2]? fun v257=>intV v257 .i64 fun i258=>ldV ((splice [.int .u8 0,.int .u8 0,.int .i64 0,.int .i64 0,.int .i64 0,.int .i64 0,.int .i64 0] 0 l16))[3]? fun v259=>intV v259 .i64 fun i260=>ldV ((splice [.int .u8 0,.int .u8 0,.int .i64 0,.int .i64 0,.int .i64 0,.int .i64 0,.int .i64 0] 0 l16))[6]? fun v261=>intV v261 .i64 fun i262=>ldV ((splice [.int .u8 0,.int .u8 0,.int .i64 0,.int .i64 0,.int .i64 0,.int .i64 0,.int .i64 0] 0 l16))[1]? fun v263=>intV v263 .u8 fun i264=>CF Tryd.prog 43 [(.int .u8 i264),(.int .i64 i260)] hp fun u265 h266=>aggV u265 fun l267=>ldV ((splice [.int .u8 0,.int .u8 0,.int .i64 0,.int .i64 0,.int .i64 0,.int .i64 0,.int .i64 0] 0 l16))[5]? fun v268=>intV v268 .i64 fun i269=>CF Tryd.prog 42 [(.pointer x5),(.int .i64 i258),(.agg ⟨l267⟩),(.int .i64 i269),(.int .i64 i262)] h266 fun u270 h271=>tup2V u270 fun u272 u273=>aggV u272 fun l274=>intV u273 .i64 fun i275=>if List.length l274=9 then (if List.all l274 one=true then (if 0+List.length l274≤List.length [(Value.int .i64 0),.int .i64 0,.int .u8 0,.int .u8 0,.int .u8 0,.int .u8 0,.int .i64 0,.int .i64 0,.int .i64 0] then (F13_j11 x0 x1a x1n x1c x5 x7 x8 i275 (splice [.int .i64 0,.int .i64 0,.int .u8 0,.int .u8 0,.int .u8 0,.int .u8 0,.int .i64 0,.int .i64 0,.int .i64 0] 0 l274) h271 I4 K) else False) else False) else False)∧(ldV ((splice [.int .u8 0,.int .u8 0,.int .i64 0,.int .i64 0,.int .i64 0,.int .i64 0,.int .i64 0] 0 l16))[2]? fun v276=>intV v276 .i64 fun i277=>ldV ((splice [.int .u8 0,.int .u8 0,.int .i64 0,.int .i64 0,.int .i64 0,.int .i64 0,.int .i64 0] 0 l16))[3]? fun v278=>intV v278 .i64 fun i279=>ldV ((splice [.int .u8 0,.int .u8 0,.int .i64 0,.int .i64 0,.int .i64 0,.int .i64 0,.int .i64 0] 0 l16))[1]? fun v280=>intV v280 .u8 fun i281=>CF Tryd.prog 43 [(.int .u8 i281),(.int .i64 i279)] hp fun u282 h283=>aggV u282 fun l284=>ldV ((splice [.int .u8 0,.int .u8 0,.int .i64 0,.int .i64 0,.int .i64 0,.int .i64 0,.int .i64 0] 0 l16))[5]? fun v285=>intV v285 .i64 fun i286=>ldV ((splice [.int .u8 0,.int .u8 0,.int .i64 0,.int .i64 0,.int .i64 0,.int .i64 0,.int .i64 0] 0 l16))[6]? fun v287=>intV v287 .i64 fun i288=>CF Tryd.prog 42 [(.pointer x5),(.int .i64 i277),(.agg ⟨l284⟩),(.int .i64 i286),(.int .i64 i288)] h283 fun u289 h290=>tup2V u289 fun u291 u292=>aggV u291 fun l293=>intV u292 .i64 fun i294=>if List.length l293=9 then (if List.all l293 one=true then (if 0+List.length l293≤List.length [(Value.int .i64 0),.int .i64 0,.int .u8 0,.int .u8 0,.int .u8 0,.int .u8 0,.int .i64 0,.int .i64 0,.int .i64 0] then (F13_j11 x0 x1a x1n x1c x5 x7 x8 i294 (splice [.int .i64 0,.int .i64 0,.int .u8 0,.int .u8 0,.int .u8 0,.int .u8 0,.int .i64 0,.int .i64 0,.int .i64 0] 0 l293) h290 I4 K) else False) else False) else False)∧(ldV ((splice [.int .u8 0,.int .u8 0,.int .i64 0,.int .i64 0,.int .i64 0,.int .i64 0,.int .i64 0] 0 l16))[2]? fun v295=>intV v295 .i64 fun i296=>ldV ((splice [.int .u8 0,.int .u8 0,.int .i64 0,.int .i64 0,.int .i64 0,.int .i64 0,.int .i64 0] 0 l16))[5]? fun v297=>intV v297 .i64 fun i298=>ldV ((splice [.int .u8 0,.int .u8 0,.int .i64 0,.int .i64 0,.int .i64 0,.int .i64 0,.int .i64 0] 0 l16))[6]? fun v299=>intV v299 .i64 fun i300=>ldV ((splice [.int .u8 0,.int .u8 0,.int .i64 0,.int .i64 0,.int .i64 0,.int .i64 0,.int .i64 0] 0 l16))[1]? fun v301=>intV v301 .u8 fun i302=>ldV ((splice [.int .u8 0,.int .u8 0,.int .i64 0,.int .i64 0,.int .i64 0,.int .i64 0,.int .i64 0] 0 l16))[3]? fun v303=>intV v303 .i64 fun i304=>CF Tryd.prog 43 [(.int .u8 i302),(.int .i64 i304)] hp fun u305 h306=>aggV u305 fun l307=>CF Tryd.prog 42 [(.pointer x5),(.int .i64 i296),(.agg ⟨l307⟩),(.int .i64 i298),(.int .i64 i300)] h306 fun u308 h309=>tup2V u308 fun u310 u311=>aggV u310 fun l312=>intV u311 .i64 fun i313=>if List.length l312=9 then (if List.all l312 one=true then (if 0+List.length l312≤List.length [(Value.int .i64 0),.int .i64 0,.int .u8 0,.int .u8 0,.int .u8 0,.int .u8 0,.int .i64 0,.int .i64 0,.int .i64 0] then (F13_j11 x0 x1a x1n x1c x5 x7 x8 i313 (splice [.int .i64 0,.int .i64 0,.int .u8 0,.int .u8 0,.int .u8 0,.int .u8 0,.int .i64 0,.int .i64 0,.int .i64 0] 0 l312) h309 I4 K) else False) else False) else False)∧(ldV ((splice [.int .u8 0,.int .u8 0,.int .i64 0,.int .i64 0,.int .i64 0,.int .i64 0,.int .i64 0] 0 l16))[2]? fun v314=>intV v314 .i64 fun i315=>ldV ((splice [.int .u8 0,.int .u8 0,.int .i64 0,.int .i64 0,.int .i64 0,.int .i64 0,.int .i64 0] 0 l16))[5]? fun v316=>intV v316 .i64 fun i317=>ldV ((splice [.int .u8 0,.int .u8 0,.int .i64 0,.int .i64 0,.int .i64 0,.int .i64 0,.int .i64 0] 0 l16))[1]? fun v318=>intV v318 .u8 fun i319=>ldV ((splice [.int .u8 0,.int .u8 0,.int .i64 0,.int .i64 0,.int .i64 0,.int .i64 0,.int .i64 0] 0 l16))[3]? fun v320=>intV v320 .i64 fun i321=>CF Tryd.prog 43 [(.int .u8 i319),(.int .i64 i321)] hp fun u322 h323=>aggV u322 fun l324=>ldV ((splice [.int .u8 0,.int .u8 0,.int .i64 0,.int .i64 0,.int .i64 0,.int .i64 0,.int .i64 0] 0 l16))[6]? fun v325=>intV v325 .i64 fun i326=>CF Tryd.prog 42 [(.pointer x5),(.int .i64 i315),(.agg ⟨l324⟩),(.int .i64 i317),(.int .i64 i326)] h323 fun u327 h328=>tup2V u327 fun u329 u330=>aggV u329 fun l331=>intV u330 .i64 fun i332=>if List.length l331=9 then (if List.all l331 one=true then (if 0+List.length l331≤List.length [(Value.int .i64 0),.int .i64 0,.int .u8 0,.int .u8 0,.int .u8 0,.int .u8 0,.int .i64 0,.int .i64 0,.int .i64 0] then (F13_j11 x0 x1a x1n x1c x5 x7 x8 i332 (splice [.int .i64 0,.int .i64 0,.int .u8 0,.int .u8 0,.int .u8 0,.int .u8 0,.int .i64 0,.int .i64 0,.int .i64 0] 0 l331) h328 I4 K) else False) else False) else False)∧(ldV ((splice [.int .u8 0,.int .u8 0,.int .i64 0,.int .i64 0,.int .i64 0,.int .i64 0,.int .i64 0] 0 l16))[2]? fun v333=>intV v333 .i64 fun i334=>ldV ((splice [.int .u8 0,.int .u8 0,.int .i64 0,.int .i64 0,.int .i64 0,.int .i64 0,.int .i64 0] 0 l16))[6]? fun v335=>intV v335 .i64 fun i336=>ldV ((splice [.int .u8 0,.int .u8 0,.int .i64 0,.int .i64 0,.int .i64 0,.int .i64 0,.int .i64 0] 0 l16))[1]? fun v337=>intV v337 .u8 fun i338=>ldV ((splice [.int .u8 0,.int .u8 0,.int .i64 0,.int .i64 0,.int .i64 0,.int .i64 0,.int .i64 0] 0 l16))[3]? fun v339=>intV v339 .i64 fun i340=>CF Tryd.prog 43 [(.int .u8 i338),(.int .i64 i340)] hp fun u341 h342=>aggV u341 fun l343=>ldV ((splice [.int .u8 0,.int .u8 0,.int .i64 0,.int .i64 0,.int .i64 0,.int .i64 0,.int .i64 0] 0 l16))[5]? fun v344=>intV v344 .i64 fun i345=>CF Tryd.prog 42 [(.pointer x5),(.int .i64 i334),(.agg ⟨l343⟩),(.int .i64 i345),(.int .i64 i336)] h342 fun u346 h347=>tup2V u346 fun u348 u349=>aggV u348 fun l350=>intV u349 .i64 fun i351=>if List.length l350=9 then (if List.all l350 one=true then (if 0+List.length l350≤List.length [(Value.int .i64 0),.int .i64 0,.int .u8 0,.int .u8 0,.int .u8 0,.int .u8 0,.int .i64 0,.int .i64 0,.int .i64 0] then (F13_j11 x0 x1a x1n x1c x5 x7 x8 i351 (splice [.int .i64 0,.int .i64 0,.int .u8 0,.int .u8 0,.int .u8 0,.int .u8 0,.int .i64 0,.int .i64 0,.int .i64 0] 0 l350) h347 I4 K) else False) else False) else False)∧(ldV ((splice [.int .u8 0,.int .u8 0,.int .i64 0,.int .i64 0,.int .i64 0,.int .i64 0,.int .i64 0] 0 l16))[2]? fun v352=>intV v352 .i64 fun i353=>ldV ((splice [.int .u8 0,.int .u8 0,.int .i64 0,.int .i64 0,.int .i64 0,.int .i64 0,.int .i64 0] 0 l16))[1]? fun v354=>intV v354 .u8 fun i355=>ldV ((splice [.int .u8 0,.int .u8 0,.int .i64 0,.int .i64 0,.int .i64 0,.int .i64 0,.int .i64 0] 0 l16))[3]? fun v356=>intV v356 .i64 fun i357=>CF Tryd.prog 43 [(.int .u8 i355),(.int .i64 i357)] hp fun u358 h359=>aggV u358 fun l360=>ldV ((splice [.int .u8 0,.int .u8 0,.int .i64 0,.int .i64 0,.int .i64 0,.int .i64 0,.int .i64 0] 0 l16))[5]? fun v361=>intV v361 .i64 fun i362=>ldV ((splice [.int .u8 0,.int .u8 0,.int .i64 0,.int .i64 0,.int .i64 0,.int .i64 0,.int .i64 0] 0 l16))[6]? fun v363=>intV v363 .i64 fun i364=>CF Tryd.prog 42 [(.pointer x5),(.int .i64 i353),(.agg ⟨l360⟩),(.int .i64 i362),(.int .i64 i364)] h359 fun u365 h366=>tup2V u365 fun u367 u368=>aggV u367 fun l369=>intV u368 .i64 fun i370=>if List.length l369=9 then (if List.all l369 one=true then (if 0+List.length l369≤List.length [(Value.int .i64 0),.int .i64 0,.int .u8 0,.int .u8 0,.int .u8 0,.int .u8 0,.int .i64 0,.int .i64 0,.int .i64 0] then (F13_j11 x0 x1a x1n x1c x5 x7 x8 i370 (splice [.int .i64 0,.int .i64 0,.int .u8 0,.int .u8 0,.int .u8 0,.int .u8 0,.int .i64 0,.int .i64 0,.int .i64 0] 0 l369) h366 I4 K) else False) else False) else False)∧(ldV ((splice [.int .u8 0,.int .u8 0,.int .i64 0,.int .i64 0,.int .i64 0,.int .i64 0,.int .i64 0] 0 l16))[1]? fun v371=>intV v371 .u8 fun i372=>ldV ((splice [.int .u8 0,.int .u8 0,.int .i64 0,.int .i64 0,.int .i64 0,.int .i64 0,.int .i64 0] 0 l16))[3]? fun v373=>intV v373 .i64 fun i374=>CF Tryd.prog 43 [(.int .u8 i372),(.int .i64 i374)] hp fun u375 h376=>aggV u375 fun l377=>ldV ((splice [.int .u8 0,.int .u8 0,.int .i64 0,.int .i64 0,.int .i64 0,.int .i64 0,.int .i64 0] 0 l16))[5]? fun v378=>intV v378 .i64 fun i379=>ldV ((splice [.int .u8 0,.int .u8 0,.int .i64 0,.int .i64 0,.int .i64 0,.int .i64 0,.int .i64 0] 0 l16))[6]? fun v380=>intV v380 .i64 fun i381=>ldV ((splice [.int .u8 0,.int .u8 0,.int .i64 0,.int .i64 0,.int .i64 0,.int .i64 0,.int .i64 0] 0 l16))[2]? fun v382=>intV v382 .i64 fun i383=>CF Tryd.prog 42 [(.pointer x5),(.int .i64 i383),(.agg ⟨l377⟩),(.int .i64 i379),(.int .i64 i381)] h376 fun u384 h385=>tup2V u384 fun u386 u387=>aggV u386 fun l388=>intV u387 .i64 fun i389=>if List.length l388=9 then (if List.all l388 one=true then (if 0+List.length l388≤List.length [(Value.int .i64 0),.int .i64 0,.int .u8 0,.int .u8 0,.int .u8 0,.int .u8 0,.int .i64 0,.int .i64 0,.int .i64 0] then (F13_j11 x0 x1a x1n x1c x5 x7 x8 i389 (splice [.int .i64 0,.int .i64 0,.int .u8 0,.int .u8 0,.int .u8 0,.int .u8 0,.int .i64 0,.int .i64 0,.int .i64 0] 0 l388) h385 I4 K) else False) else False) else False)∧(ldV ((splice [.int .u8 0,.int .u8 0,.int .i64 0,.int .i64 0,.int .i64 0,.int .i64 0,.int .i64 0] 0 l16))[1]? fun v390=>intV v390 .u8 fun i391=>ldV ((splice [.int .u8 0,.int .u8 0,.int .i64 0,.int .i64 0,.int .i64 0,.int .i64 0,.int .i64 0] 0 l16))[3]? fun v392=>intV v392 .i64 fun i393=>CF Tryd.prog 43 [(.int .u8 i391),(.int .i64 i393)] hp fun u394 h395=>aggV u394 fun l396=>ldV ((splice [.int .u8 0,.int .u8 0,.int .i64 0,.int .i64 0,.int .i64 0,.int .i64 0,.int .i64 0] 0 l16))[5]? fun v397=>intV v397 .i64 fun i398=>ldV ((splice [.int .u8 0,.int .u8 0,.int .i64 0,.int .i64 0,.int .i64 0,.int .i64 0,.int .i64 0] 0 l16))[2]? fun v399=>intV v399 .i64 fun i400=>ldV ((splice [.int .u8 0,.int .u8 0,.int .i64 0,.int .i64 0,.int .i64 0,.int .i64 0,.int .i64 0] 0 l16))[6]? fun v401=>intV v401 .i64 fun i402=>CF Tryd.prog 42 [(.pointer x5),(.int .i64 i400),(.agg ⟨l396⟩),(.int .i64 i398),(.int .i64 i402)] h395 fun u403 h404=>tup2V u403 fun u405 u406=>aggV u405 fun l407=>intV u406 .i64 fun i408=>if List.length l407=9 then (if List.all l407 one=true then (if 0+List.length l407≤List.length [(Value.int .i64 0),.int .i64 0,.int .u8 0,.int .u8 0,.int .u8 0,.int .u8 0,.int .i64 0,.int .i64 0,.int .i64 0] then (F13_j11 x0 x1a x1n x1c x5 x7 x8 i408 (splice [.int .i64 0,.int .i64 0,.int .u8 0,.int .u8 0,.int .u8 0,.int .u8 0,.int .i64 0,.int .i64 0,.int .i64 0] 0 l407) h404 I4 K) else False) else False) else False)∧(ldV ((splice [.int .u8 0,.int .u8 0,.int .i64 0,.int .i64 0,.int .i64 0,.int .i64 0,.int .i64 0] 0 l16))[1]? fun v409=>intV v409 .u8 fun i410=>ldV ((splice [.int .u8 0,.int .u8 0,.int .i64 0,.int .i64 0,.int .i64 0,.int .i64 0,.int .i64 0] 0 l16))[3]? fun v411=>intV v411 .i64 fun i412=>CF Tryd.prog 43 [(.int .u8 i410),(.int .i64 i412)] hp fun u413 h414=>aggV u413 fun l415=>ldV ((splice [.int .u8 0,.int .u8 0,.int .i64 0,.int .i64 0,.int .i64 0,.int .i64 0,.int .i64 0] 0 l16))[6]? fun v416=>intV v416 .i64 fun i417=>ldV ((splice [.int .u8 0,.int .u8 0,.int .i64 0,.int .i64 0,.int .i64 0,.int .i64 0,.int .i64 0] 0 l16))[2]? fun v418=>intV v418 .i64 fun i419=>ldV ((splice [.int .u8 0,.int .u8 0,.int .i64 0,.int .i64 0,.int .i64 0,.int .i64 0,.int .i64 0] 0 l16))[5]? fun v420=>intV v420 .i64 fun i421=>CF Tryd.prog 42 [(.pointer x5),(.int .i64 i419),(.agg ⟨l415⟩),(.int .i64 i421),(.int .i64 i417)] h414 fun u422 h423=>tup2V u422 fun u424 u425=>aggV u424 fun l426=>intV u425 .i64 fun i427=>if List.length l426=9 then (if List.all l426 one=true then (if 0+List.length l426≤List.length [(Value.int .i64 0),.int .i64 0,.int .u8 0,.int .u8 0,.int .u8 0,.int .u8 0,.int .i64 0,.int .i64 0,.int .i64 0] then (F13_j11 x0 x1a x1n x1c x5 x7 x8 i427 (splice [.int .i64 0,.int .i64 0,.int .u8 0,.int .u8 0,.int .u8 0,.int .u8 0,.int .i64 0,.int .i64 0,.int .i64 0] 0 l426) h423 I4 K) else False) else False) else False)∧(ldV ((splice [.int .u8 0,.int .u8 0,.int .i64 0,.int .i64 0,.int .i64 0,.int .i64 0,.int .i64 0] 0 l16))[1]? fun v428=>intV v428 .u8 fun i429=>ldV ((splice [.int .u8 0,.int .u8 0,.int .i64 0,.int .i64 0,.int .i64 0,.int .i64 0,.int .i64 0] 0 l16))[3]? fun v430=>intV v430 .i64 fun i431=>CF Tryd.prog 43 [(.int .u8 i429),(.int .i64 i431)] hp fun u432 h433=>aggV u432 fun l434=>ldV ((splice [.int .u8 0,.int .u8 0,.int .i64 0,.int .i64 0,.int .i64 0,.int .i64 0,.int .i64 0] 0 l16))[2]? fun v435=>intV v435 .i64 fun i436=>ldV ((splice [.int .u8 0,.int .u8 0,.int .i64 0,.int .i64 0,.int .i64 0,.int .i64 0,.int .i64 0] 0 l16))[5]? fun v437=>intV v437 .i64 fun i438=>ldV ((splice [.int .u8 0,.int .u8 0,.int .i64 0,.int .i64 0,.int .i64 0,.int .i64 0,.int .i64 0] 0 l16))[6]? fun v439=>intV v439 .i64 fun i440=>CF Tryd.prog 42 [(.pointer x5),(.int .i64 i436),(.agg ⟨l434⟩),(.int .i64 i438),(.int .i64 i440)] h433 fun u441 h442=>tup2V u441 fun u443 u444=>aggV u443 fun l445=>intV u444 .i64 fun i446=>if List.length l445=9 then (if List.all l445 one=true then (if 0+List.length l445≤List.length [(Value.int .i64 0),.int .i64 0,.int .u8 0,.int .u8 0,.int .u8 0,.int .u8 0,.int .i64 0,.int .i64 0,.int .i64 0] then (F13_j11 x0 x1a x1n x1c x5 x7 x8 i446 (splice [.int .i64 0,.int .i64 0,.int .u8 0,.int .u8 0,.int .u8 0,.int .u8 0,.int .i64 0,.int .i64 0,.int .i64 0] 0 l445) h442 I4 K) else False) else False) else False)∧(ldV ((splice [.int .u8 0,.int .u8 0,.int .i64 0,.int .i64 0,.int .i64 0,.int .i64 0,.int .i64 0] 0 l16))[1]? fun v447=>intV v447 .u8 fun i448=>ldV ((splice [.int .u8 0,.int .u8 0,.int .i64 0,.int .i64 0,.int .i64 0,.int .i64 0,.int .i64 0] 0 l16))[5]? fun v449=>intV v449 .i64 fun i450=>ldV ((splice [.int .u8 0,.int .u8 0,.int .i64 0,.int .i64 0,.int .i64 0,.int .i64 0,.int .i64 0] 0 l16))[6]? fun v451=>intV v451 .i64 fun i452=>ldV ((splice [.int .u8 0,.int .u8 0,.int .i64 0,.int .i64 0,.int .i64 0,.int .i64 0,.int .i64 0] 0 l16))[2]? fun v453=>intV v453 .i64 fun i454=>ldV ((splice [.int .u8 0,.int .u8 0,.int .i64 0,.int .i64 0,.int .i64 0,.int .i64 0,.int .i64 0] 0 l16))[3]? fun v455=>intV v455 .i64 fun i456=>CF Tryd.prog 43 [(.int .u8 i448),(.int .i64 i456)] hp fun u457 h458=>aggV u457 fun l459=>CF Tryd.prog 42 [(.pointer x5),(.int .i64 i454),(.agg ⟨l459⟩),(.int .i64 i450),(.int .i64 i452)] h458 fun u460 h461=>tup2V u460 fun u462 u463=>aggV u462 fun l464=>intV u463 .i64 fun i465=>if List.length l464=9 then (if List.all l464 one=true then (if 0+List.length l464≤List.length [(Value.int .i64 0),.int .i64 0,.int .u8 0,.int .u8 0,.int .u8 0,.int .u8 0,.int .i64 0,.int .i64 0,.int .i64 0] then (F13_j11 x0 x1a x1n x1c x5 x7 x8 i465 (splice [.int .i64 0,.int .i64 0,.int .u8 0,.int .u8 0,.int .u8 0,.int .u8 0,.int .i64 0,.int .i64 0,.int .i64 0] 0 l464) h461 I4 K) else False) else False) else False)∧(ldV ((splice [.int .u8 0,.int .u8 0,.int .i64 0,.int .i64 0,.int .i64 0,.int .i64 0,.int .i64 0] 0 l16))[1]? fun v466=>intV v466 .u8 fun i467=>ldV ((splice [.int .u8 0,.int .u8 0,.int .i64 0,.int .i64 0,.int .i64 0,.int .i64 0,.int .i64 0] 0 l16))[5]? fun v468=>intV v468 .i64 fun i469=>ldV ((splice [.int .u8 0,.int .u8 0,.int .i64 0,.int .i64 0,.int .i64 0,.int .i64 0,.int .i64 0] 0 l16))[2]? fun v470=>intV v470 .i64 fun i471=>ldV ((splice [.int .u8 0,.int .u8 0,.int .i64 0,.int .i64 0,.int .i64 0,.int .i64 0,.int .i64 0] 0 l16))[3]? fun v472=>intV v472 .i64 fun i473=>CF Tryd.prog 43 [(.int .u8 i467),(.int .i64 i473)] hp fun u474 h475=>aggV u474 fun l476=>ldV ((splice [.int .u8 0,.int .u8 0,.int .i64 0,.int .i64 0,.int .i64 0,.int .i64 0,.int .i64 0] 0 l16))[6]? fun v477=>intV v477 .i64 fun i478=>CF Tryd.prog 42 [(.pointer x5),(.int .i64 i471),(.agg ⟨l476⟩),(.int .i64 i469),(.int .i64 i478)] h475 fun u479 h480=>tup2V u479 fun u481 u482=>aggV u481 fun l483=>intV u482 .i64 fun i484=>if List.length l483=9 then (if List.all l483 one=true then (if 0+List.length l483≤List.length [(Value.int .i64 0),.int .i64 0,.int .u8 0,.int .u8 0,.int .u8 0,.int .u8 0,.int .i64 0,.int .i64 0,.int .i64 0] then (F13_j11 x0 x1a x1n x1c x5 x7 x8 i484 (splice [.int .i64 0,.int .i64 0,.int .u8 0,.int .u8 0,.int .u8 0,.int .u8 0,.int .i64 0,.int .i64 0,.int .i64 0] 0 l483) h480 I4 K) else False) else False) else False)∧(ldV ((splice [.int .u8 0,.int .u8 0,.int .i64 0,.int .i64 0,.int .i64 0,.int .i64 0,.int .i64 0] 0 l16))[1]? fun v485=>intV v485 .u8 fun i486=>ldV ((splice [.int .u8 0,.int .u8 0,.int .i64 0,.int .i64 0,.int .i64 0,.int .i64 0,.int .i64 0] 0 l16))[6]? fun v487=>intV v487 .i64 fun i488=>ldV ((splice [.int .u8 0,.int .u8 0,.int .i64 0,.int .i64 0,.int .i64 0,.int .i64 0,.int .i64 0] 0 l16))[2]? fun v489=>intV v489 .i64 fun i490=>ldV ((splice [.int .u8 0,.int .u8 0,.int .i64 0,.int .i64 0,.int .i64 0,.int .i64 0,.int .i64 0] 0 l16))[3]? fun v491=>intV v491 .i64 fun i492=>CF Tryd.prog 43 [(.int .u8 i486),(.int .i64 i492)] hp fun u493 h494=>aggV u493 fun l495=>ldV ((splice [.int .u8 0,.int .u8 0,.int .i64 0,.int .i64 0,.int .i64 0,.int .i64 0,.int .i64 0] 0 l16))[5]? fun v496=>intV v496 .i64 fun i497=>CF Tryd.prog 42 [(.pointer x5),(.int .i64 i490),(.agg ⟨l495⟩),(.int .i64 i497),(.int .i64 i488)] h494 fun u498 h499=>tup2V u498 fun u500 u501=>aggV u500 fun l502=>intV u501 .i64 fun i503=>if List.length l502=9 then (if List.all l502 one=true then (if 0+List.length l502≤List.length [(Value.int .i64 0),.int .i64 0,.int .u8 0,.int .u8 0,.int .u8 0,.int .u8 0,.int .i64 0,.int .i64 0,.int .i64 0] then (F13_j11 x0 x1a x1n x1c x5 x7 x8 i503 (splice [.int .i64 0,.int .i64 0,.int .u8 0,.int .u8 0,.int .u8 0,.int .u8 0,.int .i64 0,.int .i64 0,.int .i64 0] 0 l502) h499 I4 K) else False) else False) else False)∧(ldV ((splice [.int .u8 0,.int .u8 0,.int .i64 0,.int .i64 0,.int .i64 0,.int .i64 0,.int .i64 0] 0 l16))[1]? fun v504=>intV v504 .u8 fun i505=>ldV ((splice [.int .u8 0,.int .u8 0,.int .i64 0,.int .i64 0,.int .i64 0,.int .i64 0,.int .i64 0] 0 l16))[2]? fun v506=>intV v506 .i64 fun i507=>ldV ((splice [.int .u8 0,.int .u8 0,.int .i64 0,.int .i64 0,.int .i64 0,.int .i64 0,.int .i64 0] 0 l16))[3]? fun v508=>intV v508 .i64 fun i509=>CF Tryd.prog 43 [(.int .u8 i505),(.int .i64 i509)] hp fun u510 h511=>aggV u510 fun l512=>ldV ((splice [.int .u8 0,.int .u8 0,.int .i64 0,.int .i64 0,.int .i64 0,.int .i64 0,.int .i64 0] 0 l16))[5]? fun v513=>intV v513 .i64 fun i514=>ldV ((splice [.int .u8 0,.int .u8 0,.int .i64 0,.int .i64 0,.int .i64 0,.int .i64 0,.int .i64 0] 0 l16))[6]? fun v515=>intV v515 .i64 fun i516=>CF Tryd.prog 42 [(.pointer x5),(.int .i64 i507),(.agg ⟨l512⟩),(.int .i64 i514),(.int .i64 i516)] h511 fun u517 h518=>tup2V u517 fun u519 u520=>aggV u519 fun l521=>intV u520 .i64 fun i522=>if List.length l521=9 then (if List.all l521 one=true then (if 0+List.length l521≤List.length [(Value.int .i64 0),.int .i64 0,.int .u8 0,.int .u8 0,.int .u8 0,.int .u8 0,.int .i64 0,.int .i64 0,.int .i64 0] then (F13_j11 x0 x1a x1n x1c x5 x7 x8 i522 (splice [.int .i64 0,.int .i64 0,.int .u8 0,.int .u8 0,.int .u8 0,.int .u8 0,.int .i64 0,.int .i64 0,.int .i64 0] 0 l521) h518 I4 K) else False) else False) else False)∧(ldV ((splice [.int .u8 0,.int .u8 0,.int .i64 0,.int .i64 0,.int .i64 0,.int .i64 0,.int .i64 0] 0 l16))[3]? fun v523=>intV v523 .i64 fun i524=>ldV ((splice [.int .u8 0,.int .u8 0,.int .i64 0,.int .i64 0,.int .i64 0,.int .i64 0,.int .i64 0] 0 l16))[5]? fun v525=>intV v525 .i64 fun i526=>ldV ((splice [.int .u8 0,.int .u8 0,.int .i64 0,.int .i64 0,.int .i64 0,.int .i64 0,.int .i64 0] 0 l16))[6]? fun v527=>intV v527 .i64 fun i528=>ldV ((splice [.int .u8 0,.int .u8 0,.int .i64 0,.int .i64 0,.int .i64 0,.int .i64 0,.int .i64 0] 0 l16))[2]? fun v529=>intV v529 .i64 fun i530=>ldV ((splice [.int .u8 0,.int .u8 0,.int .i64 0,.int .i64 0,.int .i64 0,.int .i64 0,.int .i64 0] 0 l16))[1]? fun v531=>intV v531 .u8 fun i532=>CF Tryd.prog 43 [(.int .u8 i532),(.int .i64 i524)] hp fun u533 h534=>aggV u533 fun l535=>CF Tryd.prog 42 [(.pointer x5),(.int .i64 i530),(.agg ⟨l535⟩),(.int .i64 i526),(.int .i64 i528)] h534 fun u536 h537=>tup2V u536 fun u538 u539=>aggV u538 fun l540=>intV u539 .i64 fun i541=>if List.length l540=9 then (if List.all l540 one=true then (if 0+List.length l540≤List.length [(Value.int .i64 0),.int .i64 0,.int .u8 0,.int .u8 0,.int .u8 0,.int .u8 0,.int .i64 0,.int .i64 0,.int .i64 0] then (F13_j11 x0 x1a x1n x1c x5 x7 x8 i541 (splice [.int .i64 0,.int .i64 0,.int .u8 0,.int .u8 0,.int .u8 0,.int .u8 0,.int .i64 0,.int .i64 0,.int .i64 0] 0 l540) h537 I4 K) else False) else False) else False)∧(ldV ((splice [.int .u8 0,.int .u8 0,.int .i64 0,.int .i64 0,.int .i64 0,.int .i64 0,.int .i64 0] 0 l16))[3]? fun v542=>intV v542 .i64 fun i543=>ldV ((splice [.int .u8 0,.int .u8 0,.int .i64 0,.int .i64 0,.int .i64 0,.int .i64 0,.int .i64 0] 0 l16))[5]? fun v544=>intV v544 .i64 fun i545=>ldV ((splice [.int .u8 0,.int .u8 0,.int .i64 0,.int .i64 0,.int .i64 0,.int .i64 0,.int .i64 0] 0 l16))[2]? fun v546=>intV v546 .i64 fun i547=>ldV ((splice [.int .u8 0,.int .u8 0,.int .i64 0,.int .i64 0,.int .i64 0,.int .i64 0,.int .i64 0] 0 l16))[1]? fun v548=>intV v548 .u8 fun i549=>CF Tryd.prog 43 [(.int .u8 i549),(.int .i64 i543)] hp fun u550 h551=>aggV u550 fun l552=>ldV ((splice [.int .u8 0,.int .u8 0,.int .i64 0,.int .i64 0,.int .i64 0,.int .i64 0,.int .i64 0] 0 l16))[6]? fun v553=>intV v553 .i64 fun i554=>CF Tryd.prog 42 [(.pointer x5),(.int .i64 i547),(.agg ⟨l552⟩),(.int .i64 i545),(.int .i64 i554)] h551 fun u555 h556=>tup2V u555 fun u557 u558=>aggV u557 fun l559=>intV u558 .i64 fun i560=>if List.length l559=9 then (if List.all l559 one=true then (if 0+List.length l559≤List.length [(Value.int .i64 0),.int .i64 0,.int .u8 0,.int .u8 0,.int .u8 0,.int .u8 0,.int .i64 0,.int .i64 0,.int .i64 0] then (F13_j11 x0 x1a x1n x1c x5 x7 x8 i560 (splice [.int .i64 0,.int .i64 0,.int .u8 0,.int .u8 0,.int .u8 0,.int .u8 0,.int .i64 0,.int .i64 0,.int .i64 0] 0 l559) h556 I4 K) else False) else False) else False)∧(ldV ((splice [.int .u8 0,.int .u8 0,.int .i64 0,.int .i64 0,.int .i64 0,.int .i64 0,.int .i64 0] 0 l16))[3]? fun v561=>intV v561 .i64 fun i562=>ldV ((splice [.int .u8 0,.int .u8 0,.int .i64 0,.int .i64 0,.int .i64 0,.int .i64 0,.int .i64 0] 0 l16))[6]? fun v563=>intV v563 .i64 fun i564=>ldV ((splice [.int .u8 0,.int .u8 0,.int .i64 0,.int .i64 0,.int .i64 0,.int .i64 0,.int .i64 0] 0 l16))[2]? fun v565=>intV v565 .i64 fun i566=>ldV ((splice [.int .u8 0,.int .u8 0,.int .i64 0,.int .i64 0,.int .i64 0,.int .i64 0,.int .i64 0] 0 l16))[1]? fun v567=>intV v567 .u8 fun i568=>CF Tryd.prog 43 [(.int .u8 i568),(.int .i64 i562)] hp fun u569 h570=>aggV u569 fun l571=>ldV ((splice [.int .u8 0,.int .u8 0,.int .i64 0,.int .i64 0,.int .i64 0,.int .i64 0,.int .i64 0] 0 l16))[5]? fun v572=>intV v572 .i64 fun i573=>CF Tryd.prog 42 [(.pointer x5),(.int .i64 i566),(.agg ⟨l571⟩),(.int .i64 i573),(.int .i64 i564)] h570 fun u574 h575=>tup2V u574 fun u576 u577=>aggV u576 fun l578=>intV u577 .i64 fun i579=>if List.length l578=9 then (if List.all l578 one=true then (if 0+List.length l578≤List.length [(Value.int .i64 0),.int .i64 0,.int .u8 0,.int .u8 0,.int .u8 0,.int .u8 0,.int .i64 0,.int .i64 0,.int .i64 0] then (F13_j11 x0 x1a x1n x1c x5 x7 x8 i579 (splice [.int .i64 0,.int .i64 0,.int .u8 0,.int .u8 0,.int .u8 0,.int .u8 0,.int .i64 0,.int .i64 0,.int .i64 0] 0 l578) h575 I4 K) else False) else False) else False)∧(ldV ((splice [.int .u8 0,.int .u8 0,.int .i64 0,.int .i64 0,.int .i64 0,.int .i64 0,.int .i64 0] 0 l16))[3]? fun v580=>intV v580 .i64 fun i581=>ldV ((splice [.int .u8 0,.int .u8 0,.int .i64 0,.int .i64 0,.int .i64 0,.int .i64 0,.int .i64 0] 0 l16))[2]? fun v582=>intV v582 .i64 fun i583=>ldV ((splice [.int .u8 0,.int .u8 0,.int .i64 0,.int .i64 0,.int .i64 0,.int .i64 0,.int .i64 0] 0 l16))[1]? fun v584=>intV v584 .u8 fun i585=>CF Tryd.prog 43 [(.int .u8 i585),(.int .i64 i581)] hp fun u586 h587=>aggV u586 fun l588=>ldV ((splice [.int .u8 0,.int .u8 0,.int .i64 0,.int .i64 0,.int .i64 0,.int .i64 0,.int .i64 0] 0 l16))[5]? fun v589=>intV v589 .i64 fun i590=>ldV ((splice [.int .u8 0,.int .u8 0,.int .i64 0,.int .i64 0,.int .i64 0,.int .i64 0,.int .i64 0] 0 l16))[6]? fun v591=>intV v591 .i64 fun i592=>CF Tryd.prog 42 [(.pointer x5),(.int .i64 i583),(.agg ⟨l588⟩),(.int .i64 i590),(.int .i64 i592)] h587 fun u593 h594=>tup2V u593 fun u595 u596=>aggV u595 fun l597=>intV u596 .i64 fun i598=>if List.length l597=9 then (if List.all l597 one=true then (if 0+List.length l597≤List.length [(Value.int .i64 0),.int .i64 0,.int .u8 0,.int .u8 0,.int .u8 0,.int .u8 0,.int .i64 0,.int .i64 0,.int .i64 0] then (F13_j11 x0 x1a x1n x1c x5 x7 x8 i598 (splice [.int .i64 0,.int .i64 0,.int .u8 0,.int .u8 0,.int .u8 0,.int .u8 0,.int .i64 0,.int .i64 0,.int .i64 0] 0 l597) h594 I4 K) else False) else False) else False)∧(ldV ((splice [.int .u8 0,.int .u8 0,.int .i64 0,.int .i64 0,.int .i64 0,.int .i64 0,.int .i64 0] 0 l16))[5]? fun v599=>intV v599 .i64 fun i600=>ldV ((splice [.int .u8 0,.int .u8 0,.int .i64 0,.int .i64 0,.int .i64 0,.int .i64 0,.int .i64 0] 0 l16))[6]? fun v601=>intV v601 .i64 fun i602=>ldV ((splice [.int .u8 0,.int .u8 0,.int .i64 0,.int .i64 0,.int .i64 0,.int .i64 0,.int .i64 0] 0 l16))[2]? fun v603=>intV v603 .i64 fun i604=>ldV ((splice [.int .u8 0,.int .u8 0,.int .i64 0,.int .i64 0,.int .i64 0,.int .i64 0,.int .i64 0] 0 l16))[1]? fun v605=>intV v605 .u8 fun i606=>ldV ((splice [.int .u8 0,.int .u8 0,.int .i64 0,.int .i64 0,.int .i64 0,.int .i64 0,.int .i64 0] 0 l16))[3]? fun v607=>intV v607 .i64 fun i608=>CF Tryd.prog 43 [(.int .u8 i606),(.int .i64 i608)] hp fun u609 h610=>aggV u609 fun l611=>CF Tryd.prog 42 [(.pointer x5),(.int .i64 i604),(.agg ⟨l611⟩),(.int .i64 i600),(.int .i64 i602)] h610 fun u612 h613=>tup2V u612 fun u614 u615=>aggV u614 fun l616=>intV u615 .i64 fun i617=>if List.length l616=9 then (if List.all l616 one=true then (if 0+List.length l616≤List.length [(Value.int .i64 0),.int .i64 0,.int .u8 0,.int .u8 0,.int .u8 0,.int .u8 0,.int .i64 0,.int .i64 0,.int .i64 0] then (F13_j11 x0 x1a x1n x1c x5 x7 x8 i617 (splice [.int .i64 0,.int .i64 0,.int .u8 0,.int .u8 0,.int .u8 0,.int .u8 0,.int .i64 0,.int .i64 0,.int .i64 0] 0 l616) h613 I4 K) else False) else False) else False)∧(ldV ((splice [.int .u8 0,.int .u8 0,.int .i64 0,.int .i64 0,.int .i64 0,.int .i64 0,.int .i64 0] 0 l16))[5]? fun v618=>intV v618 .i64 fun i619=>ldV ((splice [.int .u8 0,.int .u8 0,.int .i64 0,.int .i64 0,.int .i64 0,.int .i64 0,.int .i64 0] 0 l16))[2]? fun v620=>intV v620 .i64 fun i621=>ldV ((splice [.int .u8 0,.int .u8 0,.int .i64 0,.int .i64 0,.int .i64 0,.int .i64 0,.int .i64 0] 0 l16))[1]? fun v622=>intV v622 .u8 fun i623=>ldV ((splice [.int .u8 0,.int .u8 0,.int .i64 0,.int .i64 0,.int .i64 0,.int .i64 0,.int .i64 0] 0 l16))[3]? fun v624=>intV v624 .i64 fun i625=>CF Tryd.prog 43 [(.int .u8 i623),(.int .i64 i625)] hp fun u626 h627=>aggV u626 fun l628=>ldV ((splice [.int .u8 0,.int .u8 0,.int .i64 0,.int .i64 0,.int .i64 0,.int .i64 0,.int .i64 0] 0 l16))[6]? fun v629=>intV v629 .i64 fun i630=>CF Tryd.prog 42 [(.pointer x5),(.int .i64 i621),(.agg ⟨l628⟩),(.int .i64 i619),(.int .i64 i630)] h627 fun u631 h632=>tup2V u631 fun u633 u634=>aggV u633 fun l635=>intV u634 .i64 fun i636=>if List.length l635=9 then (if List.all l635 one=true then (if 0+List.length l635≤List.length [(Value.int .i64 0),.int .i64 0,.int .u8 0,.int .u8 0,.int .u8 0,.int .u8 0,.int .i64 0,.int .i64 0,.int .i64 0] then (F13_j11 x0 x1a x1n x1c x5 x7 x8 i636 (splice [.int .i64 0,.int .i64 0,.int .u8 0,.int .u8 0,.int .u8 0,.int .u8 0,.int .i64 0,.int .i64 0,.int .i64 0] 0 l635) h632 I4 K) else False) else False) else False)∧(ldV ((splice [.int .u8 0,.int .u8 0,.int .i64 0,.int .i64 0,.int .i64 0,.int .i64 0,.int .i64 0] 0 l16))[6]? fun v637=>intV v637 .i64 fun i638=>ldV ((splice [.int .u8 0,.int .u8 0,.int .i64 0,.int .i64 0,.int .i64 0,.int .i64 0,.int .i64 0] 0 l16))[2]? fun v639=>intV v639 .i64 fun i640=>ldV ((splice [.int .u8 0,.int .u8 0,.int .i64 0,.int .i64 0,.int .i64 0,.int .i64 0,.int .i64 0] 0 l16))[1]? fun v641=>intV v641 .u8 fun i642=>ldV ((splice [.int .u8 0,.int .u8 0,.int .i64 0,.int .i64 0,.int .i64 0,.int .i64 0,.int .i64 0] 0 l16))[3]? fun v643=>intV v643 .i64 fun i644=>CF Tryd.prog 43 [(.int .u8 i642),(.int .i64 i644)] hp fun u645 h646=>aggV u645 fun l647=>ldV ((splice [.int .u8 0,.int .u8 0,.int .i64 0,.int .i64 0,.int .i64 0,.int .i64 0,.int .i64 0] 0 l16))[5]? fun v648=>intV v648 .i64 fun i649=>CF Tryd.prog 42 [(.pointer x5),(.int .i64 i640),(.agg ⟨l647⟩),(.int .i64 i649),(.int .i64 i638)] h646 fun u650 h651=>tup2V u650 fun u652 u653=>aggV u652 fun l654=>intV u653 .i64 fun i655=>if List.length l654=9 then (if List.all l654 one=true then (if 0+List.length l654≤List.length [(Value.int .i64 0),.int .i64 0,.int .u8 0,.int .u8 0,.int .u8 0,.int .u8 0,.int .i64 0,.int .i64 0,.int .i64 0] then (F13_j11 x0 x1a x1n x1c x5 x7 x8 i655 (splice [.int .i64 0,.int .i64 0,.int .u8 0,.int .u8 0,.int .u8 0,.int .u8 0,.int .i64 0,.int .i64 0,.int .i64 0] 0 l654) h651 I4 K) else False) else False) else False)∧(ldV ((splice [.int .u8 0,.int .u8 0,.int .i64 0,.int .i64 0,.int .i64 0,.int .i64 0,.int .i64 0] 0 l16))[2]? fun v656=>intV v656 .i64 fun i657=>ldV ((splice [.int .u8 0,.int .u8 0,.int .i64 0,.int .i64 0,.int .i64 0,.int .i64 0,.int .i64 0] 0 l16))[1]? fun v658=>intV v658 .u8 fun i659=>ldV ((splice [.int .u8 0,.int .u8 0,.int .i64 0,.int .i64 0,.int .i64 0,.int .i64 0,.int .i64 0] 0 l16))[3]? fun v660=>intV v660 .i64 fun i661=>CF Tryd.prog 43 [(.int .u8 i659),(.int .i64 i661)] hp fun u662 h663=>aggV u662 fun l664=>ldV ((splice [.int .u8 0,.int .u8 0,.int .i64 0,.int .i64 0,.int .i64 0,.int .i64 0,.int .i64 0] 0 l16))[5]? fun v665=>intV v665 .i64 fun i666=>ldV ((splice [.int .u8 0,.int .u8 0,.int .i64 0,.int .i64 0,.int .i64 0,.int .i64 0,.int .i64 0] 0 l16))[6]? fun v667=>intV v667 .i64 fun i668=>CF Tryd.prog 42 [(.pointer x5),(.int .i64 i657),(.agg ⟨l664⟩),(.int .i64 i666),(.int .i64 i668)] h663 fun u669 h670=>tup2V u669 fun u671 u672=>aggV u671 fun l673=>intV u672 .i64 fun i674=>if List.length l673=9 then (if List.all l673 one=true then (if 0+List.length l673≤List.length [(Value.int .i64 0),.int .i64 0,.int .u8 0,.int .u8 0,.int .u8 0,.int .u8 0,.int .i64 0,.int .i64 0,.int .i64 0] then (F13_j11 x0 x1a x1n x1c x5 x7 x8 i674 (splice [.int .i64 0,.int .i64 0,.int .u8 0,.int .u8 0,.int .u8 0,.int .u8 0,.int .i64 0,.int .i64 0,.int .i64 0] 0 l673) h670 I4 K) else False) else False) else False)) (ite2 (i61==1) (F13_j12 x0 x1a x1n x1c x5 x7 x8 i61 (i61==1) (splice [.int .u8 0,.int .u8 0,.int .i64 0,.int .i64 0,.int .i64 0,.int .i64 0,.int .i64 0] 0 l16) hp I4 K) (F13_j12 x0 x1a x1n x1c x5 x7 x8 i61 (i61==4) (splice [.int .u8 0,.int .u8 0,.int .i64 0,.int .i64 0,.int .i64 0,.int .i64 0,.int .i64 0] 0 l16) hp I4 K))) else False) else False) else False)) (F13_j2  hp  K))
def F13_j3 (x0:Int) (x1a:OA) (x1n x1c:Nat) (x5:OA) (x7:Option Nat) (x8:Int) (hp:HP) (K:Kh):Prop:=
  (LoopP (σ:=Int) (fun I s hp=>F13_l4 x0 x1a x1n x1c x5 x7  K I s hp) x8 hp)
theorem F13_r81:R13 159 1 e V0 hp K=
 K (upd e 8 (sI 0)) V0 hp:= by kernel_rfl
def F13_j1 (x0:Int) (x1a:OA) (x1n x1c:Nat) (x33:Bool) (hp:HP) (K:Kh):Prop:=
  (ite2 x33 (CF Tryd.prog 40 [] hp fun u1 h2=>boolV u1 fun q3=>K (.bool q3) h2) (CF Tryd.prog 41 [(.int .i64 x0)] hp fun u4 h5=>tup2V u4 fun u6 u7=>ptrV u6 fun p8=>intV u7 .i64 fun i9=>ite2 (i9 != 0) (K (.bool false) h5) (∀ b10:Nat,h5 b10=.none→(F13_j3 x0 x1a x1n x1c p8 (some b10) 0 (HP.set h5 b10 (.obj (.map #[] 0)))  K))))
theorem F13_r82 (h:E=upd (upd e 1 (sS x1a x1n x1c)) 0 (sI x0)):R13 9 11 E V0 hp K=
 ite2 (decide (x0<1)) (K (w3 (w8 E 23 (sI x0) 24 (sB (decide (x0<1))) 25 (sB true) 26 sU 27 sU 28 (sB true) 29 (sB true) 30 sU) 31 sU 32 sU 33 (sB true)) V0 hp) (ite2 (decide (x0 > 100)) (K (w3 (w8 E 23 (sI x0) 24 (sB (decide (x0<1))) 25 (sB false) 26 (sI x0) 27 (sB (decide (x0 > 100))) 28 (sB (decide (x0 > 100))) 29 (sB true) 30 sU) 31 sU 32 sU 33 (sB true)) V0 hp) (K (w3 (w8 E 23 (sI x0) 24 (sB (decide (x0<1))) 25 (sB false) 26 (sI x0) 27 (sB (decide (x0 > 100))) 28 (sB (decide (x0 > 100))) 29 (sB false) 30 (sS x1a x1n x1c)) 31 (sI ((x1n:Nat))) 32 (sB ((decide (((x1n:Nat):Int) > 150)))) 33 (sB ((decide (((x1n:Nat):Int) > 150))))) V0 hp)):= by subst h; kernel_rfl
def F13 (x0:Int) (x1a:OA) (x1n x1c:Nat) (hp:HP) (K:Kh):Prop:=
  (ite2 (decide (x0<1)) (F13_j1 x0 x1a x1n x1c true hp  K) (ite2 (decide (x0 > 100)) (F13_j1 x0 x1a x1n x1c true hp  K) (F13_j1 x0 x1a x1n x1c (decide (((x1n:Nat):Int) > 150)) hp  K)))
noncomputable abbrev o13 (k n:Nat):Code:=.region k (opsAt Tryd.f13 (pth n)) false
noncomputable def F13_code:Code:=(.seq (o13 0 2) (.seq (.seq (o13 1 9) (.cond (.tmp 33) (.seq (o13 2 37) .ret) .skip)) (.seq (o13 3 11) (.seq (.seq (o13 4 39) (.cond (.tmp 41) (.seq (o13 5 151) .ret) .skip)) (.seq (o13 6 47) (.seq (.seq (o13 7 159) (.block 0 (.loop (.seq (.seq (o13 8 2143) (.cond (.tmp 46) .skip (.exit 0))) (.seq (.block 1 (.seq (o13 10 8799) (.seq (.seq (o13 11 37471) (.block 2 (.seq (o13 12 152159) (.cond (.tmp 55) (.seq (.region 13 (opsAt Tryd.f13 (pth 610911)) true) (.seq (o13 14 1397343) (.cond (.tmp 74) (o13 15 2970207) .skip))) (.seq (.seq (o13 16 1266271) (.cond (.tmp 79) .skip (o13 17 3887711))) (.cond (.tmp 79) (.seq (o13 18 2576991) (.cond (.tmp 90) (.seq (o13 19 9917023) (.seq (o13 20 22499935) (.seq (o13 21 47665759) (o13 22 64442975)))) .skip)) (.seq (.seq (o13 23 5198431) (.cond (.tmp 105) .skip (o13 24 15684191))) (.cond (.tmp 105) (.seq (o13 25 10441311) (.seq (.seq (o13 26 39801439) (.cond (.tmp 124) (.seq (o13 27 157241951) .ret) .skip)) (o13 28 31412831))) (.seq (o13 29 12538463) (.cond (.tmp 128) (.seq (o13 30 41898591) (.seq (.seq (o13 31 159339103) (.block 3 (.loop (.seq (.seq (o13 32 2239713887) (.cond (.tmp 137) .skip (.exit 3))) (.seq (.block 4 (.seq (.seq (.region 34 (opsAt Tryd.f13 (pth 17808970335)) true) (.cond (.tmp 207) (.seq (o13 35 77938512479) .ret) .skip)) (o13 36 13514003039))) (o13 33 3850326623)))))) (.seq (o13 37 192893535) (.block 5 (.loop (.seq (o13 38 1199526495) (.seq (.cond (.tmp 217) .skip (.exit 5)) (.block 6 (.seq (o13 39 10326331999) (.seq (o13 40 23211233887) (.cond (.tmp 224) (.seq (o13 41 83340776031) .ret) .skip))))))))))) .skip)))))))))) (.seq (o13 42 45663) (.seq (.seq (o13 43 160351) (.cond (.tmp 237) (.seq (o13 44 619103) .ret) .skip)) (.seq (o13 45 193119) (.block 7 (.loop (.seq (.seq (o13 46 2224735) (.cond (.tmp 241) .skip (.exit 7))) (.seq (.block 8 (.seq (.region 48 (opsAt Tryd.f13 (pth 9040479)) true) (.seq (.region 49 (opsAt Tryd.f13 (pth 21623391)) true) (.cond (.tmp 300) (.seq (o13 50 80343647) .ret) .skip)))) (o13 47 3797599))))))))))) (o13 9 3679)))))) (.seq (o13 51 191) .ret)))))))
theorem F13_body:Tryd.f13.body=some F13_code:=by kernel_rfl
theorem F13_ok (x0:Int) (x1a:OA) (x1n x1c:Nat) (hp:HP) (K:Kh) (h:F13 x0 x1a x1n x1c hp K):CF Tryd.prog 13 [(.int .i64 x0),(.slice x1a x1n x1c)] hp K:=by
 refine .inl ⟨by kernel_rfl,AC.intro (N:=302) Tryd.func13 F13_body rfl (Nat.le_of_ble_eq_true rfl) ?_⟩
 unfold F13 at h
 refine Ar F13_r0 ?_ (r2 0 1 Rn) (z2 Sn) Sn
 refine Aq (As (fun env pv hp=>∃ x0 x1a x1n x1c x33,Sub (w3 E0 33 (sB x33) 1 (sS x1a x1n x1c) 0 (sI x0)) env∧Sub V0 pv∧F13_j1 x0 x1a x1n x1c x33 hp  K) ?_ ?_)
 ·refine Ag (F13_r82 rfl) ?_ (r2 0 1 Rn) (z2 Sn) Sn
  refine mt h (fun h=>?_) (fun h=>?_)
  ·exact ⟨_,_,_,_,_,(z3 Sn),Sn,h⟩
  ·refine mt h (fun h=>?_) (fun h=>?_)
   ·exact ⟨_,_,_,_,_,(z3 Sn),Sn,h⟩
   ·exact ⟨_,_,_,_,_,(z3 Sn),Sn,h⟩
 ·rintro env pv hp ⟨x0,x1a,x1n,x1c,x33,he,hv,h⟩
  refine Ae ?_ (r3 0 1 33 Rn) he hv
  unfold F13_j1 at h
  refine Ac h rfl (fun h=>?_) (fun h=>?_)
  ·refine Ar F13_r1 ?_ Rn Sn Sn
   refine mC h fun u1 h2 h=>mB h fun q3 h=>?_
   refine AWP.ret ?_
   exact h
  ·refine AWP.skip (Ar F13_r2 ?_ (r2 0 1 Rn) (z2 Sn) Sn)
   refine mC h fun u4 h5 h=>mT h fun u6 u7 h=>mP h fun p8 h=>mI h fun i9 h=>?_
   refine Aq (Ar F13_r3 ?_ (r4 6 0 1 5 Rn) (z4 Sn) Sn)
   refine Ac h rfl (fun h=>?_) (fun h=>?_)
   ·refine Ar F13_r4 ?_ Rn Sn Sn
    refine AWP.ret ?_
    exact h
   ·refine AWP.skip (Ar F13_r5 ?_ (r3 0 1 5 Rn) (z3 Sn) Sn)
    refine fun b10 hb_b_10=>?_
    replace h:=h b10 hb_b_10
    refine As (fun env pv hp=>Sub E0 env∧Sub V0 pv∧F13_j2  hp  K) ?_ ?_
    ·refine As (fun env pv hp=>∃ x0 x1a x1n x1c x5 x7 x8,Sub (w5 E0 8 (sI x8) 7 (sV (.map x7)) 5 (sP x5) 1 (sS x1a x1n x1c) 0 (sI x0)) env∧Sub V0 pv∧F13_j3 x0 x1a x1n x1c x5 x7 x8 hp  K) ?_ ?_
     ·refine Ag F13_r81 ?_ (r4 0 1 5 7 Rn) (z4 Sn) Sn
      exact ⟨_,_,_,_,_,_,_,(z5 Sn),Sn,h⟩
     ·rintro env pv hp ⟨x0,x1a,x1n,x1c,x5,x7,x8,he,hv,h⟩
      refine Ae ?_ (r5 0 1 5 7 8 Rn) he hv
      unfold F13_j3 at h
      refine AWP.block (AWP.loop (σ:=Int) _ (fun s=>w5 E0 8 (sI s) 7 (sV (.map x7)) 5 (sP x5) 1 (sS x1a x1n x1c) 0 (sI x0)) (fun s=>V0) x8 h (fun s=>r5 0 1 5 7 8 Rn) (z5 Sn) Sn ?_)
      intro I4 x8 hp h
      replace h:F13_l4 x0 x1a x1n x1c x5 x7  K I4 x8 hp:=h
      unfold F13_l4 at h
      refine Aq (Ar F13_r7 ?_ (r5 1 8 0 5 7 Rn) (z5 Sn) Sn)
      refine Ac h rfl (fun h=>?_) (fun h=>?_)
      ·refine AWP.skip (As (fun env pv hp=>∃ x8,Sub (w5 E0 8 (sI x8) 7 (sV (.map x7)) 5 (sP x5) 1 (sS x1a x1n x1c) 0 (sI x0)) env∧Sub V0 pv∧F13_j5 x0 x1a x1n x1c x5 x7 x8 hp I4 K) ?_ ?_)
       ·refine AWP.block (Ar F13_r9 ?_ (r5 1 8 0 5 7 Rn) (z5 Sn) Sn)
        refine ⟨h.1,h.2.1,mN h.2.2 fun b14 o15 h=>mL h fun l16 h=>mf h fun h=>mf h fun h=>mf h fun h=>?_⟩
        refine As (fun env pv hp=>∃ x8,Sub (w5 E0 8 (sI x8) 7 (sV (.map x7)) 5 (sP x5) 1 (sS x1a x1n x1c) 0 (sI x0)) env∧Sub V0 pv∧F13_j6 x0 x1a x1n x1c x5 x7 x8 hp I4 K) ?_ ?_
        ·refine Ar F13_r19 ?_ (rp 9 9 0 (r5 0 1 5 7 8 Rn)) (z6 Sn) (z1 Sn)
         refine mV h fun v60 h=>mI h fun i61 h=>?_
         refine AWP.block (Ar F13_r20 ?_ (r6 54 0 1 5 7 8 (rp 9 9 0 Rn)) (z7 Sn) (z1 Sn))
         refine Ac h rfl (fun h=>?_) (fun h=>?_)
         ·refine As (fun env pv hp=>∃ x8 x11 k10,Sub (w7 E0 11 (sI x11) 10 (sR 10 0) 8 (sI x8) 7 (sV (.map x7)) 5 (sP x5) 1 (sS x1a x1n x1c) 0 (sI x0)) env∧Sub (upd V0 10 (79,k10)) pv∧(F13_j11 x0 x1a x1n x1c x5 x7 x8 x11 k10 hp I4 K)) ?_ ?_
          ·refine AWP.rgnC (cf:=[(2,16),(4,16),(6,16),(9,16),(11,16)]) (c:=[([true,true,true,true,true],true,[0,1,2,3,4,5,6,7,8,9,10,11,12,13,14,15,16,17,18]),([true,true,true,true,false],true,[0,1,2,3,4,5,6,7,8,9,10,16,11,12,13,14,15,17,18]),([true,true,true,false,true],true,[0,1,2,3,4,5,6,7,8,10,11,16,9,12,13,14,15,17,18]),([true,true,true,false,false],true,[0,1,2,3,4,5,6,7,8,10,16,9,11,12,13,14,15,17,18]),([true,true,false,true,true],true,[0,1,2,3,4,5,8,9,10,11,16,6,7,12,13,14,15,17,18]),([true,true,false,true,false],true,[0,1,2,3,4,5,8,9,10,16,6,7,11,12,13,14,15,17,18]),([true,true,false,false,true],true,[0,1,2,3,4,5,8,10,11,16,6,7,9,12,13,14,15,17,18]),([true,true,false,false,false],true,[0,1,2,3,4,5,8,10,16,6,7,9,11,12,13,14,15,17,18]),([true,false,true,true,true],true,[0,1,2,3,5,6,8,9,10,11,16,4,7,12,13,14,15,17,18]),([true,false,true,true,false],true,[0,1,2,3,5,6,8,9,10,16,4,7,11,12,13,14,15,17,18]),([true,false,true,false,true],true,[0,1,2,3,5,6,8,10,11,16,4,7,9,12,13,14,15,17,18]),([true,false,true,false,false],true,[0,1,2,3,5,6,8,10,16,4,7,9,11,12,13,14,15,17,18]),([true,false,false,true,true],true,[0,1,2,3,5,8,9,10,11,16,4,6,7,12,13,14,15,17,18]),([true,false,false,true,false],true,[0,1,2,3,5,8,9,10,16,4,6,7,11,12,13,14,15,17,18]),([true,false,false,false,true],true,[0,1,2,3,5,8,10,11,16,4,6,7,9,12,13,14,15,17,18]),([true,false,false,false,false],true,[0,1,2,3,5,8,10,16,4,6,7,9,11,12,13,14,15,17,18]),([false,true,true,true,true],true,[0,1,3,4,5,6,7,8,9,10,11,16,2,12,13,14,15,17,18]),([false,true,true,true,false],true,[0,1,3,4,5,6,7,8,9,10,16,2,11,12,13,14,15,17,18]),([false,true,true,false,true],true,[0,1,3,4,5,6,7,8,10,11,16,2,9,12,13,14,15,17,18]),([false,true,true,false,false],true,[0,1,3,4,5,6,7,8,10,16,2,9,11,12,13,14,15,17,18]),([false,true,false,true,true],true,[0,1,3,4,5,8,9,10,11,16,2,6,7,12,13,14,15,17,18]),([false,true,false,true,false],true,[0,1,3,4,5,8,9,10,16,2,6,7,11,12,13,14,15,17,18]),([false,true,false,false,true],true,[0,1,3,4,5,8,10,11,16,2,6,7,9,12,13,14,15,17,18]),([false,true,false,false,false],true,[0,1,3,4,5,8,10,16,2,6,7,9,11,12,13,14,15,17,18]),([false,false,true,true,true],true,[0,1,3,5,6,8,9,10,11,16,2,4,7,12,13,14,15,17,18]),([false,false,true,true,false],true,[0,1,3,5,6,8,9,10,16,2,4,7,11,12,13,14,15,17,18]),([false,false,true,false,true],true,[0,1,3,5,6,8,10,11,16,2,4,7,9,12,13,14,15,17,18]),([false,false,true,false,false],true,[0,1,3,5,6,8,10,16,2,4,7,9,11,12,13,14,15,17,18]),([false,false,false,true,true],true,[0,1,3,5,8,9,10,11,16,2,4,6,7,12,13,14,15,17,18]),([false,false,false,true,false],true,[0,1,3,5,8,9,10,16,2,4,6,7,11,12,13,14,15,17,18]),([false,false,false,false,true],true,[0,1,3,5,8,10,11,16,2,4,6,7,9,12,13,14,15,17,18]),([false,false,false,false,false],true,[0,1,3,5,8,10,16,2,4,6,7,9,11,12,13,14,15,17,18])]) (by kernel_rfl) (by kernel_rfl) (by kernel_rfl) (by kernel_rfl) (allO_t (Eq.mpr F13_r23 ?_) (allO_t (Eq.mpr F13_r24 ?_) (allO_t (Eq.mpr F13_r25 ?_) (allO_t (Eq.mpr F13_r26 ?_) (allO_t (Eq.mpr F13_r27 ?_) (allO_t (Eq.mpr F13_r28 ?_) (allO_t (Eq.mpr F13_r29 ?_) (allO_t (Eq.mpr F13_r30 ?_) (allO_t (Eq.mpr F13_r31 ?_) (allO_t (Eq.mpr F13_r32 ?_) (allO_t (Eq.mpr F13_r33 ?_) (allO_t (Eq.mpr F13_r34 ?_) (allO_t (Eq.mpr F13_r35 ?_) (allO_t (Eq.mpr F13_r36 ?_) (allO_t (Eq.mpr F13_r37 ?_) (allO_t (Eq.mpr F13_r38 ?_) (allO_t (Eq.mpr F13_r39 ?_) (allO_t (Eq.mpr F13_r40 ?_) (allO_t (Eq.mpr F13_r41 ?_) (allO_t (Eq.mpr F13_r42 ?_) (allO_t (Eq.mpr F13_r43 ?_) (allO_t (Eq.mpr F13_r44 ?_) (allO_t (Eq.mpr F13_r45 ?_) (allO_t (Eq.mpr F13_r46 ?_) (allO_t (Eq.mpr F13_r47 ?_) (allO_t (Eq.mpr F13_r48 ?_) (allO_t (Eq.mpr F13_r49 ?_) (allO_t (Eq.mpr F13_r50 ?_) (allO_t (Eq.mpr F13_r51 ?_) (allO_t (Eq.mpr F13_r52 ?_) (allO_t (Eq.mpr F13_r53 ?_) (allO_t (Eq.mpr F13_r54 ?_) trivial)))))))))))))))))))))))))))))))) (r1 5 (rp 9 9 0 (r4 0 1 7 8 Rn))) (z6 Sn) (z1 Sn)
           ·replace h:=h.1
            refine mV h fun v67 h=>mI h fun i68 h=>mV h fun v69 h=>mI h fun i70 h=>mV h fun v71 h=>mI h fun i72 h=>mC h fun u73 h74 h=>mA h fun l75 h=>mV h fun v76 h=>mI h fun i77 h=>mV h fun v78 h=>mI h fun i79 h=>mC h fun u80 h81 h=>mT h fun u82 u83 h=>mA h fun l84 h=>mI h fun i85 h=>mf h fun h=>mf h fun h=>mf h fun h=>?_
            exact ⟨_,_,_,(z7 Sn),(z1 Sn),h⟩
           ·replace h:=h.2.1
            refine mV h fun v86 h=>mI h fun i87 h=>mV h fun v88 h=>mI h fun i89 h=>mV h fun v90 h=>mI h fun i91 h=>mC h fun u92 h93 h=>mA h fun l94 h=>mV h fun v95 h=>mI h fun i96 h=>mV h fun v97 h=>mI h fun i98 h=>mC h fun u99 h100 h=>mT h fun u101 u102 h=>mA h fun l103 h=>mI h fun i104 h=>mf h fun h=>mf h fun h=>mf h fun h=>?_
            exact ⟨_,_,_,(z7 Sn),(z1 Sn),h⟩
           ·replace h:=h.2.2.1
            refine mV h fun v105 h=>mI h fun i106 h=>mV h fun v107 h=>mI h fun i108 h=>mV h fun v109 h=>mI h fun i110 h=>mC h fun u111 h112 h=>mA h fun l113 h=>mV h fun v114 h=>mI h fun i115 h=>mV h fun v116 h=>mI h fun i117 h=>mC h fun u118 h119 h=>mT h fun u120 u121 h=>mA h fun l122 h=>mI h fun i123 h=>mf h fun h=>mf h fun h=>mf h fun h=>?_
            exact ⟨_,_,_,(z7 Sn),(z1 Sn),h⟩
           ·replace h:=h.2.2.2.1
            refine mV h fun v124 h=>mI h fun i125 h=>mV h fun v126 h=>mI h fun i127 h=>mV h fun v128 h=>mI h fun i129 h=>mC h fun u130 h131 h=>mA h fun l132 h=>mV h fun v133 h=>mI h fun i134 h=>mV h fun v135 h=>mI h fun i136 h=>mC h fun u137 h138 h=>mT h fun u139 u140 h=>mA h fun l141 h=>mI h fun i142 h=>mf h fun h=>mf h fun h=>mf h fun h=>?_
            exact ⟨_,_,_,(z7 Sn),(z1 Sn),h⟩
           ·replace h:=h.2.2.2.2.1
            refine mV h fun v143 h=>mI h fun i144 h=>mV h fun v145 h=>mI h fun i146 h=>mV h fun v147 h=>mI h fun i148 h=>mV h fun v149 h=>mI h fun i150 h=>mV h fun v151 h=>mI h fun i152 h=>mC h fun u153 h154 h=>mA h fun l155 h=>mC h fun u156 h157 h=>mT h fun u158 u159 h=>mA h fun l160 h=>mI h fun i161 h=>mf h fun h=>mf h fun h=>mf h fun h=>?_
            exact ⟨_,_,_,(z7 Sn),(z1 Sn),h⟩
           ·replace h:=h.2.2.2.2.2.1
            refine mV h fun v162 h=>mI h fun i163 h=>mV h fun v164 h=>mI h fun i165 h=>mV h fun v166 h=>mI h fun i167 h=>mV h fun v168 h=>mI h fun i169 h=>mC h fun u170 h171 h=>mA h fun l172 h=>mV h fun v173 h=>mI h fun i174 h=>mC h fun u175 h176 h=>mT h fun u177 u178 h=>mA h fun l179 h=>mI h fun i180 h=>mf h fun h=>mf h fun h=>mf h fun h=>?_
            exact ⟨_,_,_,(z7 Sn),(z1 Sn),h⟩
           ·replace h:=h.2.2.2.2.2.2.1
            refine mV h fun v181 h=>mI h fun i182 h=>mV h fun v183 h=>mI h fun i184 h=>mV h fun v185 h=>mI h fun i186 h=>mV h fun v187 h=>mI h fun i188 h=>mC h fun u189 h190 h=>mA h fun l191 h=>mV h fun v192 h=>mI h fun i193 h=>mC h fun u194 h195 h=>mT h fun u196 u197 h=>mA h fun l198 h=>mI h fun i199 h=>mf h fun h=>mf h fun h=>mf h fun h=>?_
            exact ⟨_,_,_,(z7 Sn),(z1 Sn),h⟩
           ·replace h:=h.2.2.2.2.2.2.2.1
            refine mV h fun v200 h=>mI h fun i201 h=>mV h fun v202 h=>mI h fun i203 h=>mV h fun v204 h=>mI h fun i205 h=>mC h fun u206 h207 h=>mA h fun l208 h=>mV h fun v209 h=>mI h fun i210 h=>mV h fun v211 h=>mI h fun i212 h=>mC h fun u213 h214 h=>mT h fun u215 u216 h=>mA h fun l217 h=>mI h fun i218 h=>mf h fun h=>mf h fun h=>mf h fun h=>?_
            exact ⟨_,_,_,(z7 Sn),(z1 Sn),h⟩
           ·replace h:=h.2.2.2.2.2.2.2.2.1
            refine mV h fun v219 h=>mI h fun i220 h=>mV h fun v221 h=>mI h fun i222 h=>mV h fun v223 h=>mI h fun i224 h=>mV h fun v225 h=>mI h fun i226 h=>mV h fun v227 h=>mI h fun i228 h=>mC h fun u229 h230 h=>mA h fun l231 h=>mC h fun u232 h233 h=>mT h fun u234 u235 h=>mA h fun l236 h=>mI h fun i237 h=>mf h fun h=>mf h fun h=>mf h fun h=>?_
            exact ⟨_,_,_,(z7 Sn),(z1 Sn),h⟩
           ·replace h:=h.2.2.2.2.2.2.2.2.2.1
            refine mV h fun v238 h=>mI h fun i239 h=>mV h fun v240 h=>mI h fun i241 h=>mV h fun v242 h=>mI h fun i243 h=>mV h fun v244 h=>mI h fun i245 h=>mC h fun u246 h247 h=>mA h fun l248 h=>mV h fun v249 h=>mI h fun i250 h=>mC h fun u251 h252 h=>mT h fun u253 u254 h=>mA h fun l255 h=>mI h fun i256 h=>mf h fun h=>mf h fun h=>mf h fun h=>?_
            exact ⟨_,_,_,(z7 Sn),(z1 Sn),h⟩
           ·replace h:=h.2.2.2.2.2.2.2.2.2.2.1
            refine mV h fun v257 h=>mI h fun i258 h=>mV h fun v259 h=>mI h fun i260 h=>mV h fun v261 h=>mI h fun i262 h=>mV h fun v263 h=>mI h fun i264 h=>mC h fun u265 h266 h=>mA h fun l267 h=>mV h fun v268 h=>mI h fun i269 h=>mC h fun u270 h271 h=>mT h fun u272 u273 h=>mA h fun l274 h=>mI h fun i275 h=>mf h fun h=>mf h fun h=>mf h fun h=>?_
            exact ⟨_,_,_,(z7 Sn),(z1 Sn),h⟩
           ·replace h:=h.2.2.2.2.2.2.2.2.2.2.2.1
            refine mV h fun v276 h=>mI h fun i277 h=>mV h fun v278 h=>mI h fun i279 h=>mV h fun v280 h=>mI h fun i281 h=>mC h fun u282 h283 h=>mA h fun l284 h=>mV h fun v285 h=>mI h fun i286 h=>mV h fun v287 h=>mI h fun i288 h=>mC h fun u289 h290 h=>mT h fun u291 u292 h=>mA h fun l293 h=>mI h fun i294 h=>mf h fun h=>mf h fun h=>mf h fun h=>?_
            exact ⟨_,_,_,(z7 Sn),(z1 Sn),h⟩
           ·replace h:=h.2.2.2.2.2.2.2.2.2.2.2.2.1
            refine mV h fun v295 h=>mI h fun i296 h=>mV h fun v297 h=>mI h fun i298 h=>mV h fun v299 h=>mI h fun i300 h=>mV h fun v301 h=>mI h fun i302 h=>mV h fun v303 h=>mI h fun i304 h=>mC h fun u305 h306 h=>mA h fun l307 h=>mC h fun u308 h309 h=>mT h fun u310 u311 h=>mA h fun l312 h=>mI h fun i313 h=>mf h fun h=>mf h fun h=>mf h fun h=>?_
            exact ⟨_,_,_,(z7 Sn),(z1 Sn),h⟩
           ·replace h:=h.2.2.2.2.2.2.2.2.2.2.2.2.2.1
            refine mV h fun v314 h=>mI h fun i315 h=>mV h fun v316 h=>mI h fun i317 h=>mV h fun v318 h=>mI h fun i319 h=>mV h fun v320 h=>mI h fun i321 h=>mC h fun u322 h323 h=>mA h fun l324 h=>mV h fun v325 h=>mI h fun i326 h=>mC h fun u327 h328 h=>mT h fun u329 u330 h=>mA h fun l331 h=>mI h fun i332 h=>mf h fun h=>mf h fun h=>mf h fun h=>?_
            exact ⟨_,_,_,(z7 Sn),(z1 Sn),h⟩
           ·replace h:=h.2.2.2.2.2.2.2.2.2.2.2.2.2.2.1
            refine mV h fun v333 h=>mI h fun i334 h=>mV h fun v335 h=>mI h fun i336 h=>mV h fun v337 h=>mI h fun i338 h=>mV h fun v339 h=>mI h fun i340 h=>mC h fun u341 h342 h=>mA h fun l343 h=>mV h fun v344 h=>mI h fun i345 h=>mC h fun u346 h347 h=>mT h fun u348 u349 h=>mA h fun l350 h=>mI h fun i351 h=>mf h fun h=>mf h fun h=>mf h fun h=>?_
            exact ⟨_,_,_,(z7 Sn),(z1 Sn),h⟩
           ·replace h:=h.2.2.2.2.2.2.2.2.2.2.2.2.2.2.2.1
            refine mV h fun v352 h=>mI h fun i353 h=>mV h fun v354 h=>mI h fun i355 h=>mV h fun v356 h=>mI h fun i357 h=>mC h fun u358 h359 h=>mA h fun l360 h=>mV h fun v361 h=>mI h fun i362 h=>mV h fun v363 h=>mI h fun i364 h=>mC h fun u365 h366 h=>mT h fun u367 u368 h=>mA h fun l369 h=>mI h fun i370 h=>mf h fun h=>mf h fun h=>mf h fun h=>?_
            exact ⟨_,_,_,(z7 Sn),(z1 Sn),h⟩
           ·replace h:=h.2.2.2.2.2.2.2.2.2.2.2.2.2.2.2.2.1
            refine mV h fun v371 h=>mI h fun i372 h=>mV h fun v373 h=>mI h fun i374 h=>mC h fun u375 h376 h=>mA h fun l377 h=>mV h fun v378 h=>mI h fun i379 h=>mV h fun v380 h=>mI h fun i381 h=>mV h fun v382 h=>mI h fun i383 h=>mC h fun u384 h385 h=>mT h fun u386 u387 h=>mA h fun l388 h=>mI h fun i389 h=>mf h fun h=>mf h fun h=>mf h fun h=>?_
            exact ⟨_,_,_,(z7 Sn),(z1 Sn),h⟩
           ·replace h:=h.2.2.2.2.2.2.2.2.2.2.2.2.2.2.2.2.2.1
            refine mV h fun v390 h=>mI h fun i391 h=>mV h fun v392 h=>mI h fun i393 h=>mC h fun u394 h395 h=>mA h fun l396 h=>mV h fun v397 h=>mI h fun i398 h=>mV h fun v399 h=>mI h fun i400 h=>mV h fun v401 h=>mI h fun i402 h=>mC h fun u403 h404 h=>mT h fun u405 u406 h=>mA h fun l407 h=>mI h fun i408 h=>mf h fun h=>mf h fun h=>mf h fun h=>?_
            exact ⟨_,_,_,(z7 Sn),(z1 Sn),h⟩
           ·replace h:=h.2.2.2.2.2.2.2.2.2.2.2.2.2.2.2.2.2.2.1
            refine mV h fun v409 h=>mI h fun i410 h=>mV h fun v411 h=>mI h fun i412 h=>mC h fun u413 h414 h=>mA h fun l415 h=>mV h fun v416 h=>mI h fun i417 h=>mV h fun v418 h=>mI h fun i419 h=>mV h fun v420 h=>mI h fun i421 h=>mC h fun u422 h423 h=>mT h fun u424 u425 h=>mA h fun l426 h=>mI h fun i427 h=>mf h fun h=>mf h fun h=>mf h fun h=>?_
            exact ⟨_,_,_,(z7 Sn),(z1 Sn),h⟩
           ·replace h:=h.2.2.2.2.2.2.2.2.2.2.2.2.2.2.2.2.2.2.2.1
            refine mV h fun v428 h=>mI h fun i429 h=>mV h fun v430 h=>mI h fun i431 h=>mC h fun u432 h433 h=>mA h fun l434 h=>mV h fun v435 h=>mI h fun i436 h=>mV h fun v437 h=>mI h fun i438 h=>mV h fun v439 h=>mI h fun i440 h=>mC h fun u441 h442 h=>mT h fun u443 u444 h=>mA h fun l445 h=>mI h fun i446 h=>mf h fun h=>mf h fun h=>mf h fun h=>?_
            exact ⟨_,_,_,(z7 Sn),(z1 Sn),h⟩
           ·replace h:=h.2.2.2.2.2.2.2.2.2.2.2.2.2.2.2.2.2.2.2.2.1
            refine mV h fun v447 h=>mI h fun i448 h=>mV h fun v449 h=>mI h fun i450 h=>mV h fun v451 h=>mI h fun i452 h=>mV h fun v453 h=>mI h fun i454 h=>mV h fun v455 h=>mI h fun i456 h=>mC h fun u457 h458 h=>mA h fun l459 h=>mC h fun u460 h461 h=>mT h fun u462 u463 h=>mA h fun l464 h=>mI h fun i465 h=>mf h fun h=>mf h fun h=>mf h fun h=>?_
            exact ⟨_,_,_,(z7 Sn),(z1 Sn),h⟩
           ·replace h:=h.2.2.2.2.2.2.2.2.2.2.2.2.2.2.2.2.2.2.2.2.2.1
            refine mV h fun v466 h=>mI h fun i467 h=>mV h fun v468 h=>mI h fun i469 h=>mV h fun v470 h=>mI h fun i471 h=>mV h fun v472 h=>mI h fun i473 h=>mC h fun u474 h475 h=>mA h fun l476 h=>mV h fun v477 h=>mI h fun i478 h=>mC h fun u479 h480 h=>mT h fun u481 u482 h=>mA h fun l483 h=>mI h fun i484 h=>mf h fun h=>mf h fun h=>mf h fun h=>?_
            exact ⟨_,_,_,(z7 Sn),(z1 Sn),h⟩
           ·replace h:=h.2.2.2.2.2.2.2.2.2.2.2.2.2.2.2.2.2.2.2.2.2.2.1
            refine mV h fun v485 h=>mI h fun i486 h=>mV h fun v487 h=>mI h fun i488 h=>mV h fun v489 h=>mI h fun i490 h=>mV h fun v491 h=>mI h fun i492 h=>mC h fun u493 h494 h=>mA h fun l495 h=>mV h fun v496 h=>mI h fun i497 h=>mC h fun u498 h499 h=>mT h fun u500 u501 h=>mA h fun l502 h=>mI h fun i503 h=>mf h fun h=>mf h fun h=>mf h fun h=>?_
            exact ⟨_,_,_,(z7 Sn),(z1 Sn),h⟩
           ·replace h:=h.2.2.2.2.2.2.2.2.2.2.2.2.2.2.2.2.2.2.2.2.2.2.2.1
            refine mV h fun v504 h=>mI h fun i505 h=>mV h fun v506 h=>mI h fun i507 h=>mV h fun v508 h=>mI h fun i509 h=>mC h fun u510 h511 h=>mA h fun l512 h=>mV h fun v513 h=>mI h fun i514 h=>mV h fun v515 h=>mI h fun i516 h=>mC h fun u517 h518 h=>mT h fun u519 u520 h=>mA h fun l521 h=>mI h fun i522 h=>mf h fun h=>mf h fun h=>mf h fun h=>?_
            exact ⟨_,_,_,(z7 Sn),(z1 Sn),h⟩
           ·replace h:=h.2.2.2.2.2.2.2.2.2.2.2.2.2.2.2.2.2.2.2.2.2.2.2.2.1
            refine mV h fun v523 h=>mI h fun i524 h=>mV h fun v525 h=>mI h fun i526 h=>mV h fun v527 h=>mI h fun i528 h=>mV h fun v529 h=>mI h fun i530 h=>mV h fun v531 h=>mI h fun i532 h=>mC h fun u533 h534 h=>mA h fun l535 h=>mC h fun u536 h537 h=>mT h fun u538 u539 h=>mA h fun l540 h=>mI h fun i541 h=>mf h fun h=>mf h fun h=>mf h fun h=>?_
            exact ⟨_,_,_,(z7 Sn),(z1 Sn),h⟩
           ·replace h:=h.2.2.2.2.2.2.2.2.2.2.2.2.2.2.2.2.2.2.2.2.2.2.2.2.2.1
            refine mV h fun v542 h=>mI h fun i543 h=>mV h fun v544 h=>mI h fun i545 h=>mV h fun v546 h=>mI h fun i547 h=>mV h fun v548 h=>mI h fun i549 h=>mC h fun u550 h551 h=>mA h fun l552 h=>mV h fun v553 h=>mI h fun i554 h=>mC h fun u555 h556 h=>mT h fun u557 u558 h=>mA h fun l559 h=>mI h fun i560 h=>mf h fun h=>mf h fun h=>mf h fun h=>?_
            exact ⟨_,_,_,(z7 Sn),(z1 Sn),h⟩
           ·replace h:=h.2.2.2.2.2.2.2.2.2.2.2.2.2.2.2.2.2.2.2.2.2.2.2.2.2.2.1
            refine mV h fun v561 h=>mI h fun i562 h=>mV h fun v563 h=>mI h fun i564 h=>mV h fun v565 h=>mI h fun i566 h=>mV h fun v567 h=>mI h fun i568 h=>mC h fun u569 h570 h=>mA h fun l571 h=>mV h fun v572 h=>mI h fun i573 h=>mC h fun u574 h575 h=>mT h fun u576 u577 h=>mA h fun l578 h=>mI h fun i579 h=>mf h fun h=>mf h fun h=>mf h fun h=>?_
            exact ⟨_,_,_,(z7 Sn),(z1 Sn),h⟩
           ·replace h:=h.2.2.2.2.2.2.2.2.2.2.2.2.2.2.2.2.2.2.2.2.2.2.2.2.2.2.2.1
            refine mV h fun v580 h=>mI h fun i581 h=>mV h fun v582 h=>mI h fun i583 h=>mV h fun v584 h=>mI h fun i585 h=>mC h fun u586 h587 h=>mA h fun l588 h=>mV h fun v589 h=>mI h fun i590 h=>mV h fun v591 h=>mI h fun i592 h=>mC h fun u593 h594 h=>mT h fun u595 u596 h=>mA h fun l597 h=>mI h fun i598 h=>mf h fun h=>mf h fun h=>mf h fun h=>?_
            exact ⟨_,_,_,(z7 Sn),(z1 Sn),h⟩
           ·replace h:=h.2.2.2.2.2.2.2.2.2.2.2.2.2.2.2.2.2.2.2.2.2.2.2.2.2.2.2.2.1
            refine mV h fun v599 h=>mI h fun i600 h=>mV h fun v601 h=>mI h fun i602 h=>mV h fun v603 h=>mI h fun i604 h=>mV h fun v605 h=>mI h fun i606 h=>mV h fun v607 h=>mI h fun i608 h=>mC h fun u609 h610 h=>mA h fun l611 h=>mC h fun u612 h613 h=>mT h fun u614 u615 h=>mA h fun l616 h=>mI h fun i617 h=>mf h fun h=>mf h fun h=>mf h fun h=>?_
            exact ⟨_,_,_,(z7 Sn),(z1 Sn),h⟩
           ·replace h:=h.2.2.2.2.2.2.2.2.2.2.2.2.2.2.2.2.2.2.2.2.2.2.2.2.2.2.2.2.2.1
            refine mV h fun v618 h=>mI h fun i619 h=>mV h fun v620 h=>mI h fun i621 h=>mV h fun v622 h=>mI h fun i623 h=>mV h fun v624 h=>mI h fun i625 h=>mC h fun u626 h627 h=>mA h fun l628 h=>mV h fun v629 h=>mI h fun i630 h=>mC h fun u631 h632 h=>mT h fun u633 u634 h=>mA h fun l635 h=>mI h fun i636 h=>mf h fun h=>mf h fun h=>mf h fun h=>?_
            exact ⟨_,_,_,(z7 Sn),(z1 Sn),h⟩
           ·replace h:=h.2.2.2.2.2.2.2.2.2.2.2.2.2.2.2.2.2.2.2.2.2.2.2.2.2.2.2.2.2.2.1
            refine mV h fun v637 h=>mI h fun i638 h=>mV h fun v639 h=>mI h fun i640 h=>mV h fun v641 h=>mI h fun i642 h=>mV h fun v643 h=>mI h fun i644 h=>mC h fun u645 h646 h=>mA h fun l647 h=>mV h fun v648 h=>mI h fun i649 h=>mC h fun u650 h651 h=>mT h fun u652 u653 h=>mA h fun l654 h=>mI h fun i655 h=>mf h fun h=>mf h fun h=>mf h fun h=>?_
            exact ⟨_,_,_,(z7 Sn),(z1 Sn),h⟩
           ·replace h:=h.2.2.2.2.2.2.2.2.2.2.2.2.2.2.2.2.2.2.2.2.2.2.2.2.2.2.2.2.2.2.2
            refine mV h fun v656 h=>mI h fun i657 h=>mV h fun v658 h=>mI h fun i659 h=>mV h fun v660 h=>mI h fun i661 h=>mC h fun u662 h663 h=>mA h fun l664 h=>mV h fun v665 h=>mI h fun i666 h=>mV h fun v667 h=>mI h fun i668 h=>mC h fun u669 h670 h=>mT h fun u671 u672 h=>mA h fun l673 h=>mI h fun i674 h=>mf h fun h=>mf h fun h=>mf h fun h=>?_
            exact ⟨_,_,_,(z7 Sn),(z1 Sn),h⟩
          ·rintro env pv hp ⟨x8,x11,k10,he,hv,h⟩
           refine Ae ?_ (r5 0 1 5 7 8 (rp 10 10 0 (r1 11 Rn))) he hv
           unfold F13_j11 at h
           refine Ar F13_r21 ?_ (r6 11 0 1 5 7 8 (rp 10 10 0 Rn)) (z7 Sn) (z1 Sn)
           refine Ac h rfl (fun h=>?_) (fun h=>?_)
           ·refine Ag F13_r22 ?_ (r1 7 (rp 10 10 0 (r4 0 1 5 8 Rn))) (z6 Sn) (z1 Sn)
            refine mV h fun v62 h=>mI h fun i63 h=>mL h fun l64 h=>mO h fun u65 h66 h=>?_
            exact ⟨_,(z5 Sn),Sn,h⟩
           ·refine AWP.skip ?_
            exact ⟨_,(z5 Sn),Sn,h⟩
         ·refine As (fun env pv hp=>∃ x8 x54 x79 k9,Sub (w8 E0 79 (sB x79) 54 (sV (.int .u8 x54)) 9 (sR 9 0) 8 (sI x8) 7 (sV (.map x7)) 5 (sP x5) 1 (sS x1a x1n x1c) 0 (sI x0)) env∧Sub (upd V0 9 (77,k9)) pv∧(F13_j12 x0 x1a x1n x1c x5 x7 x8 x54 x79 k9 hp I4 K)) ?_ ?_
          ·refine Ar F13_r79 ?_ (r6 54 0 1 5 7 8 (rp 9 9 0 Rn)) (z7 Sn) (z1 Sn)
           refine Ac h rfl (fun h=>?_) (fun h=>?_)
           ·refine AWP.skip ?_
            exact ⟨_,_,_,_,(z8 Sn),(z1 Sn),h⟩
           ·refine Ag F13_r80 ?_ (r6 54 0 1 5 7 8 (rp 9 9 0 Rn)) (z7 Sn) (z1 Sn)
            exact ⟨_,_,_,_,(z8 Sn),(z1 Sn),h⟩
          ·rintro env pv hp ⟨x8,x54,x79,k9,he,hv,h⟩
           refine Ae ?_ (r5 0 1 5 7 8 (rp 9 9 0 (r2 54 79 Rn))) he hv
           unfold F13_j12 at h
           refine Ac h rfl (fun h=>?_) (fun h=>?_)
           ·refine Ar F13_r55 ?_ (r1 5 (rp 9 9 0 (r4 0 1 7 8 Rn))) (z6 Sn) (z1 Sn)
            refine mV h fun v675 h=>mI h fun i676 h=>mV h fun v677 h=>mI h fun i678 h=>mV h fun v679 h=>mI h fun i680 h=>mC h fun u681 h682 h=>mI h fun i683 h=>?_
            refine Ac h rfl (fun h=>?_) (fun h=>?_)
            ·refine Ar F13_r56 ?_ (r1 7 (rp 9 9 0 (r4 0 1 5 8 Rn))) (z6 Sn) (z1 Sn)
             refine mV h fun v684 h=>mI h fun i685 h=>mR h fun u686 h=>mA h fun l687 h=>mf h fun h=>mf h fun h=>mf h fun h=>?_
             refine Ar F13_r57 ?_ (rp 9 9 0 (rp 12 12 0 (r5 0 1 5 7 8 Rn))) (z7 Sn) (z2 Sn)
             refine mV h fun v688 h=>mI h fun i689 h=>mf h fun h=>?_
             refine Ar F13_r58 ?_ (rp 9 9 0 (rp 12 12 0 (r5 0 1 5 7 8 Rn))) (z7 Sn) (z2 Sn)
             refine mV h fun v690 h=>mI h fun i691 h=>mf h fun h=>?_
             refine Ag (F13_r59 rfl) ?_ (r1 7 (rp 9 9 0 (rp 12 12 0 (r4 0 1 5 8 Rn)))) (z7 Sn) (z2 Sn)
             refine mV h fun v692 h=>mI h fun i693 h=>mL h fun l694 h=>mO h fun u695 h696 h=>?_
             exact ⟨_,(z5 Sn),Sn,h⟩
            ·refine AWP.skip ?_
             exact ⟨_,(z5 Sn),Sn,h⟩
           ·refine As (fun env pv hp=>∃ x8 x54 x105 k9,Sub (w8 E0 105 (sB x105) 54 (sV (.int .u8 x54)) 9 (sR 9 0) 8 (sI x8) 7 (sV (.map x7)) 5 (sP x5) 1 (sS x1a x1n x1c) 0 (sI x0)) env∧Sub (upd V0 9 (77,k9)) pv∧(F13_j13 x0 x1a x1n x1c x5 x7 x8 x54 x105 k9 hp I4 K)) ?_ ?_
            ·refine Ar F13_r77 ?_ (r6 54 0 1 5 7 8 (rp 9 9 0 Rn)) (z7 Sn) (z1 Sn)
             refine Ac h rfl (fun h=>?_) (fun h=>?_)
             ·refine AWP.skip ?_
              exact ⟨_,_,_,_,(z8 Sn),(z1 Sn),h⟩
             ·refine Ag F13_r78 ?_ (r6 54 0 1 5 7 8 (rp 9 9 0 Rn)) (z7 Sn) (z1 Sn)
              exact ⟨_,_,_,_,(z8 Sn),(z1 Sn),h⟩
            ·rintro env pv hp ⟨x8,x54,x105,k9,he,hv,h⟩
             refine Ae ?_ (r5 0 1 5 7 8 (rp 9 9 0 (r2 54 105 Rn))) he hv
             unfold F13_j13 at h
             refine Ac h rfl (fun h=>?_) (fun h=>?_)
             ·refine Ar F13_r60 ?_ (r1 5 (rp 9 9 0 (r4 0 1 7 8 Rn))) (z6 Sn) (z1 Sn)
              refine mV h fun v697 h=>mI h fun i698 h=>mC h fun u699 h700 h=>mT h fun u701 u702 h=>mA h fun l703 h=>mI h fun i704 h=>mf h fun h=>mf h fun h=>mf h fun h=>?_
              refine Aq (As (fun env pv hp=>∃ x8 x124 k9,Sub (w7 E0 124 (sB x124) 9 (sR 9 0) 8 (sI x8) 7 (sV (.map x7)) 5 (sP x5) 1 (sS x1a x1n x1c) 0 (sI x0)) env∧Sub (upd V0 9 (77,k9)) pv∧(F13_j14 x0 x1a x1n x1c x5 x7 x8 x124 k9 hp I4 K)) ?_ ?_)
              ·refine Ag (F13_r63 rfl) ?_ (r1 7 (rp 9 9 0 (rp 13 13 0 (r5 14 0 1 5 8 Rn)))) (z8 Sn) (z2 Sn)
               refine mt h (fun h=>?_) (fun h=>?_)
               ·refine mL h fun l709 h=>mV h fun v710 h=>mI h fun i711 h=>mR h fun u712 h=>mA h fun l713 h=>mE h fun q714 h=>?_
                exact ⟨_,_,_,(z7 Sn),(z1 Sn),h⟩
               ·exact ⟨_,_,_,(z7 Sn),(z1 Sn),h⟩
              ·rintro env pv hp ⟨x8,x124,k9,he,hv,h⟩
               refine Ae ?_ (r5 0 1 5 7 8 (rp 9 9 0 (r1 124 Rn))) he hv
               unfold F13_j14 at h
               refine Ac h rfl (fun h=>?_) (fun h=>?_)
               ·refine Ar F13_r61 ?_ Rn Sn Sn
                refine AWP.ret ?_
                exact h
               ·refine AWP.skip (Ag F13_r62 ?_ (r1 7 (rp 9 9 0 (r4 0 1 5 8 Rn))) (z6 Sn) (z1 Sn))
                refine mV h fun v705 h=>mI h fun i706 h=>mO h fun u707 h708 h=>?_
                exact ⟨_,(z5 Sn),Sn,h⟩
             ·refine Ar F13_r64 ?_ (r6 54 0 1 5 7 8 (rp 9 9 0 Rn)) (z7 Sn) (z1 Sn)
              refine Ac h rfl (fun h=>?_) (fun h=>?_)
              ·refine Ar F13_r65 ?_ (r1 5 (rp 9 9 0 (r4 0 1 7 8 Rn))) (z6 Sn) (z1 Sn)
               refine mV h fun v715 h=>mI h fun i716 h=>mC h fun u717 h718 h=>mS h fun a719 n720 c721 h=>?_
               refine As (fun env pv hp=>∃ x8 k9,Sub (w6 E0 9 (sR 9 0) 8 (sI x8) 7 (sV (.map x7)) 5 (sP x5) 1 (sS x1a x1n x1c) 0 (sI x0)) env∧Sub (upd V0 9 (77,k9)) pv∧(F13_j15 x0 x1a x1n x1c x5 x7 x8 k9 hp I4 K)) ?_ ?_
               ·refine As (fun env pv hp=>∃ x8 x15a x15n x15c x16 k9,Sub (w8 E0 16 (sI x16) 15 (sS x15a x15n x15c) 9 (sR 9 0) 8 (sI x8) 7 (sV (.map x7)) 5 (sP x5) 1 (sS x1a x1n x1c) 0 (sI x0)) env∧Sub (upd V0 9 (77,k9)) pv∧(F13_j18 x0 x1a x1n x1c x5 x7 x8 x15a x15n x15c x16 k9 hp I4 K)) ?_ ?_
                ·refine Ag F13_r76 ?_ (r5 0 1 5 7 8 (rp 9 9 0 (r1 15 Rn))) (z7 Sn) (z1 Sn)
                 exact ⟨_,_,_,_,_,_,(z8 Sn),(z1 Sn),h⟩
                ·rintro env pv hp ⟨x8,x15a,x15n,x15c,x16,k9,he,hv,h⟩
                 refine Ae ?_ (r5 0 1 5 7 8 (rp 9 9 0 (r2 15 16 Rn))) he hv
                 unfold F13_j18 at h
                 refine AWP.block (AWP.loop (σ:=Int) _ (fun s=>w8 E0 16 (sI s) 15 (sS x15a x15n x15c) 9 (sR 9 0) 8 (sI x8) 7 (sV (.map x7)) 5 (sP x5) 1 (sS x1a x1n x1c) 0 (sI x0)) (fun s=>upd V0 9 (77,k9)) x16 h (fun s=>r5 0 1 5 7 8 (rp 9 9 0 (r2 15 16 Rn))) (z8 Sn) (z1 Sn) ?_)
                 intro I19 x16 hp h
                 replace h:F13_l19 x0 x1a x1n x1c x5 x7 x8 x15a x15n x15c k9 I4 K I19 x16 hp:=h
                 unfold F13_l19 at h
                 refine Aq (Ar (F13_r71 rfl) ?_ (r7 15 16 0 1 5 7 8 (rp 9 9 0 Rn)) (z8 Sn) (z1 Sn))
                 refine Ac h rfl (fun h=>?_) (fun h=>?_)
                 ·refine AWP.skip (Aq (AWP.block (Aq (As (fun env pv hp=>∃ x16 x207,Sub (upd (w8 E0 207 (sB x207) 16 (sI x16) 15 (sS x15a x15n x15c) 9 (sR 9 0) 8 (sI x8) 7 (sV (.map x7)) 5 (sP x5) 1 (sS x1a x1n x1c)) 0 (sI x0)) env∧Sub (upd V0 9 (77,k9)) pv∧(F13_j20 x0 x1a x1n x1c x5 x7 x8 x15a x15n x15c x16 x207 k9 hp I4 I19 K)) ?_ ?_))))
                  ·refine AWP.rgnE (by kernel_rfl) (by kernel_rfl) (F13_r75 rfl) ?_ (r1 7 (rp 9 9 0 (r6 15 16 0 1 5 8 Rn))) (z8 Sn) (z1 Sn)
                   refine ⟨h.1,h.2.1,mN h.2.2 (fun b741 o742 h=>mL h (fun l743 h=>⟨h.1,h.2.1,mN h.2.2 fun b744 o745 h=>mV h fun v746 h=>mI h fun i747 h=>mR h fun u748 h=>mA h fun l749 h=>mE h fun q750 h=>?_⟩))⟩
                   refine mt h (fun h=>?_) (fun h=>?_)
                   ·exact ⟨_,_,(z1 (z8 Sn)),(z1 Sn),h⟩
                   ·refine ⟨h.1,h.2.1,mN h.2.2 fun b751 o752 h=>mV h fun v753 h=>mI h fun i754 h=>mV h fun v755 h=>mI h fun i756 h=>?_⟩
                    refine mt h (fun h=>?_) (fun h=>?_)
                    ·exact ⟨_,_,(z1 (z8 Sn)),(z1 Sn),h⟩
                    ·refine mt h (fun h=>?_) (fun h=>?_)
                     ·refine ⟨h.1,h.2.1,mN h.2.2 (fun b757 o758 h=>mV h (fun v759 h=>mI h (fun i760 h=>⟨h.1,h.2.1,mN h.2.2 fun b761 o762 h=>mV h fun v763 h=>mI h fun i764 h=>?_⟩)))⟩
                      refine mt h (fun h=>?_) (fun h=>?_)
                      ·exact ⟨_,_,(z1 (z8 Sn)),(z1 Sn),h⟩
                      ·refine ⟨h.1,h.2.1,mN h.2.2 (fun b765 o766 h=>mV h (fun v767 h=>mI h (fun i768 h=>⟨h.1,h.2.1,mN h.2.2 fun b769 o770 h=>mV h fun v771 h=>mI h fun i772 h=>?_⟩)))⟩
                       refine mt h (fun h=>?_) (fun h=>?_)
                       ·refine ⟨h.1,h.2.1,mN h.2.2 (fun b773 o774 h=>mV h (fun v775 h=>mI h (fun i776 h=>⟨h.1,h.2.1,mN h.2.2 fun b777 o778 h=>mV h fun v779 h=>mI h fun i780 h=>?_⟩)))⟩
                        exact ⟨_,_,(z1 (z8 Sn)),(z1 Sn),h⟩
                       ·exact ⟨_,_,(z1 (z8 Sn)),(z1 Sn),h⟩
                     ·exact ⟨_,_,(z1 (z8 Sn)),(z1 Sn),h⟩
                  ·rintro env pv hp ⟨x16,x207,he,hv,h⟩
                   refine Ae ?_ (r5 0 1 5 7 8 (rp 9 9 0 (r3 15 16 207 Rn))) he hv
                   unfold F13_j20 at h
                   refine Ac h rfl (fun h=>?_) (fun h=>?_)
                   ·refine Ar F13_r72 ?_ Rn Sn Sn
                    refine AWP.ret ?_
                    exact h
                   ·refine AWP.skip (Ag (F13_r73 rfl) ?_ (r7 7 15 16 0 1 5 8 (rp 9 9 0 Rn)) (z8 Sn) (z1 Sn))
                    refine ⟨h.1,h.2.1,mN h.2.2 fun b735 o736 h=>mV h fun v737 h=>mI h fun i738 h=>mO h fun u739 h740 h=>?_⟩
                    refine Ag F13_r74 ?_ (r6 16 0 1 5 7 8 (rp 9 9 0 (r1 15 Rn))) (z8 Sn) (z1 Sn)
                    exact ⟨_,(z8 Sn),(z1 Sn),h⟩
                 ·refine AWP.exit ?_
                  exact ⟨_,_,(z6 Sn),(z1 Sn),h⟩
               ·rintro env pv hp ⟨x8,k9,he,hv,h⟩
                refine Ae ?_ (r5 0 1 5 7 8 (rp 9 9 0 Rn)) he hv
                unfold F13_j15 at h
                refine As (fun env pv hp=>∃ x8 x215 k9,Sub (w7 E0 215 (sV x215) 9 (sR 9 0) 8 (sI x8) 7 (sV (.map x7)) 5 (sP x5) 1 (sS x1a x1n x1c) 0 (sI x0)) env∧Sub (upd V0 9 (77,k9)) pv∧(F13_j16 x0 x1a x1n x1c x5 x7 x8 x215 k9 hp I4 K)) ?_ ?_
                ·refine Ag F13_r70 ?_ (r5 7 0 1 5 8 (rp 9 9 0 Rn)) (z6 Sn) (z1 Sn)
                 refine mO h fun u733 h734 h=>?_
                 exact ⟨_,_,_,(z7 Sn),(z1 Sn),h⟩
                ·rintro env pv hp ⟨x8,x215,k9,he,hv,h⟩
                 refine Ae ?_ (r5 0 1 5 7 8 (rp 9 9 0 (r1 215 Rn))) he hv
                 unfold F13_j16 at h
                 refine AWP.block (AWP.loop (σ:=Unit) _ (fun s=>w7 E0 215 (sV x215) 9 (sR 9 0) 8 (sI x8) 7 (sV (.map x7)) 5 (sP x5) 1 (sS x1a x1n x1c) 0 (sI x0)) (fun s=>upd V0 9 (77,k9)) () h (fun s=>r5 0 1 5 7 8 (rp 9 9 0 (r1 215 Rn))) (z7 Sn) (z1 Sn) ?_)
                 intro I17 s hp h
                 replace h:F13_l17 x0 x1a x1n x1c x5 x7 x8 x215 k9 I4 K I17  hp:=h
                 unfold F13_l17 at h
                 refine Ar F13_r66 ?_ (r6 215 0 1 5 7 8 (rp 9 9 0 Rn)) (z7 Sn) (z1 Sn)
                 refine mO h fun u722 h723 h=>tupI_mono h fun v724 h=>mB h fun q725 h=>?_
                 refine Aq (Ac h rfl (fun h=>?_) (fun h=>?_))
                 ·refine AWP.skip (AWP.block (Ar F13_r67 ?_ (r6 215 0 1 5 7 8 (rp 9 9 0 Rn)) (z7 Sn) (z1 Sn)))
                  refine mR h fun u726 h=>tupI_mono h fun v727 h=>mA h fun l728 h=>mf h fun h=>mf h fun h=>mf h fun h=>?_
                  refine Ar F13_r68 ?_ (rp 9 9 0 (rp 18 18 0 (r6 0 1 5 7 8 215 Rn))) (z8 Sn) (z2 Sn)
                  refine mV h fun v729 h=>mI h fun i730 h=>mV h fun v731 h=>mI h fun i732 h=>?_
                  refine Ac h rfl (fun h=>?_) (fun h=>?_)
                  ·refine Ar F13_r69 ?_ Rn Sn Sn
                   refine AWP.ret ?_
                   exact h
                  ·refine AWP.skip ?_
                   exact ⟨_,(z7 Sn),(z1 Sn),h⟩
                 ·refine AWP.exit ?_
                  exact ⟨_,(z5 Sn),Sn,h⟩
              ·refine AWP.skip ?_
               exact ⟨_,(z5 Sn),Sn,h⟩
        ·rintro env pv hp ⟨x8,he,hv,h⟩
         refine Ae ?_ (r5 0 1 5 7 8 Rn) he hv
         unfold F13_j6 at h
         refine Ar F13_r10 ?_ (r5 5 0 1 7 8 Rn) (z5 Sn) Sn
         refine mC h fun u17 h18 h=>mS h fun a19 n20 c21 h=>?_
         refine Aq (As (fun env pv hp=>∃ x8 x19a x19n x19c x237,Sub (w7 E0 237 (sB x237) 19 (sS x19a x19n x19c) 8 (sI x8) 7 (sV (.map x7)) 5 (sP x5) 1 (sS x1a x1n x1c) 0 (sI x0)) env∧Sub V0 pv∧F13_j7 x0 x1a x1n x1c x5 x7 x8 x19a x19n x19c x237 hp I4 K) ?_ ?_)
         ·refine Ag (F13_r18 rfl) ?_ (r6 0 7 19 1 5 8 Rn) (z6 Sn) Sn
          refine mR h fun u58 h=>mI h fun i59 h=>?_
          refine mt h (fun h=>?_) (fun h=>?_)
          ·exact ⟨_,_,_,_,_,(z7 Sn),Sn,h⟩
          ·exact ⟨_,_,_,_,_,(z7 Sn),Sn,h⟩
         ·rintro env pv hp ⟨x8,x19a,x19n,x19c,x237,he,hv,h⟩
          refine Ae ?_ (r7 0 1 5 7 8 19 237 Rn) he hv
          unfold F13_j7 at h
          refine Ac h rfl (fun h=>?_) (fun h=>?_)
          ·refine Ar F13_r11 ?_ Rn Sn Sn
           refine AWP.ret ?_
           exact h
          ·refine AWP.skip (As (fun env pv hp=>∃ x8 x19a x19n x19c x20,Sub (w7 E0 20 (sI x20) 19 (sS x19a x19n x19c) 8 (sI x8) 7 (sV (.map x7)) 5 (sP x5) 1 (sS x1a x1n x1c) 0 (sI x0)) env∧Sub V0 pv∧F13_j8 x0 x1a x1n x1c x5 x7 x8 x19a x19n x19c x20 hp I4 K) ?_ ?_)
           ·refine Ag F13_r17 ?_ (r6 0 1 5 7 8 19 Rn) (z6 Sn) Sn
            exact ⟨_,_,_,_,_,(z7 Sn),Sn,h⟩
           ·rintro env pv hp ⟨x8,x19a,x19n,x19c,x20,he,hv,h⟩
            refine Ae ?_ (r7 0 1 5 7 8 19 20 Rn) he hv
            unfold F13_j8 at h
            refine AWP.block (AWP.loop (σ:=Int) _ (fun s=>w7 E0 20 (sI s) 19 (sS x19a x19n x19c) 8 (sI x8) 7 (sV (.map x7)) 5 (sP x5) 1 (sS x1a x1n x1c) 0 (sI x0)) (fun s=>V0) x20 h (fun s=>r7 0 1 5 7 8 19 20 Rn) (z7 Sn) Sn ?_)
            intro I9 x20 hp h
            replace h:F13_l9 x0 x1a x1n x1c x5 x7 x8 x19a x19n x19c I4 K I9 x20 hp:=h
            unfold F13_l9 at h
            refine Aq (Ar (F13_r12 rfl) ?_ (r7 19 20 0 1 5 7 8 Rn) (z7 Sn) Sn)
            refine Ac h rfl (fun h=>?_) (fun h=>?_)
            ·refine AWP.skip (Aq (AWP.block (Aq (AWP.rgnE (by kernel_rfl) (by kernel_rfl) (F13_r13 rfl) ?_ (r7 5 19 20 0 1 7 8 Rn) (z7 Sn) Sn))))
             refine ⟨h.1,h.2.1,mN h.2.2 (fun b22 o23 h=>mV h (fun v24 h=>mI h (fun i25 h=>⟨h.1,h.2.1,mN h.2.2 fun b26 o27 h=>mL h fun l28 h=>mC h fun u29 h30 h=>mT h fun u31 u32 h=>mA h fun l33 h=>mB h fun q34 h=>mf h fun h=>mf h fun h=>mf h fun h=>?_⟩)))⟩
             refine As (fun env pv hp=>∃ x20 x300,Sub (w8 E0 300 (sB x300) 20 (sI x20) 19 (sS x19a x19n x19c) 8 (sI x8) 7 (sV (.map x7)) 5 (sP x5) 1 (sS x1a x1n x1c) 0 (sI x0)) env∧Sub V0 pv∧F13_j10 x0 x1a x1n x1c x5 x7 x8 x19a x19n x19c x20 x300 hp I4 I9 K) ?_ ?_
             ·refine AWP.rgnE (by kernel_rfl) (by kernel_rfl) (F13_r16 rfl) ?_ (r3 7 19 20 (rp 21 21 0 (r5 22 0 1 5 8 Rn))) (z1 (z8 Sn)) (z1 Sn)
              refine ⟨h.1,h.2.1,mN h.2.2 (fun b35 o36 h=>mL h (fun l37 h=>⟨h.1,h.2.1,mN h.2.2 fun b38 o39 h=>mV h fun v40 h=>mI h fun i41 h=>mR h fun u42 h=>mA h fun l43 h=>mE h fun q44 h=>?_⟩))⟩
              refine mt h (fun h=>?_) (fun h=>?_)
              ·exact ⟨_,_,(z8 Sn),Sn,h⟩
              ·refine mt h (fun h=>?_) (fun h=>?_)
               ·exact ⟨_,_,(z8 Sn),Sn,h⟩
               ·refine mL h (fun l45 h=>⟨h.1,h.2.1,mN h.2.2 fun b46 o47 h=>mL h fun l48 h=>mE h fun q49 h=>?_⟩)
                refine mt h (fun h=>?_) (fun h=>?_)
                ·exact ⟨_,_,(z8 Sn),Sn,h⟩
                ·refine mt h (fun h=>?_) (fun h=>?_)
                 ·refine ⟨h.1,h.2.1,mN h.2.2 (fun b50 o51 h=>mV h (fun v52 h=>mI h (fun i53 h=>⟨h.1,h.2.1,mN h.2.2 fun b54 o55 h=>mV h fun v56 h=>mI h fun i57 h=>?_⟩)))⟩
                  exact ⟨_,_,(z8 Sn),Sn,h⟩
                 ·exact ⟨_,_,(z8 Sn),Sn,h⟩
             ·rintro env pv hp ⟨x20,x300,he,hv,h⟩
              refine Ae ?_ (r8 0 1 5 7 8 19 20 300 Rn) he hv
              unfold F13_j10 at h
              refine Ac h rfl (fun h=>?_) (fun h=>?_)
              ·refine Ar F13_r14 ?_ Rn Sn Sn
               refine AWP.ret ?_
               exact h
              ·refine AWP.skip (Ag F13_r15 ?_ (r7 20 0 1 5 7 8 19 Rn) (z7 Sn) Sn)
               exact ⟨_,(z7 Sn),Sn,h⟩
            ·refine AWP.exit ?_
             exact ⟨_,(z5 Sn),Sn,h⟩
       ·rintro env pv hp ⟨x8,he,hv,h⟩
        refine Ae ?_ (r5 0 1 5 7 8 Rn) he hv
        unfold F13_j5 at h
        refine Ag F13_r8 ?_ (r5 8 0 1 5 7 Rn) (z5 Sn) Sn
        exact ⟨_,(z5 Sn),Sn,h⟩
      ·refine AWP.exit ?_
       exact ⟨Sn,Sn,h⟩
    ·rintro env pv hp ⟨he,hv,h⟩
     refine Ae ?_ Rn he hv
     unfold F13_j2 at h
     refine Ar F13_r6 ?_ Rn Sn Sn
     refine mC h fun u11 h12 h=>mB h fun q13 h=>?_
     refine AWP.ret ?_
     exact h
end
end Go.Proofs
set_option linter.unusedVariables false
set_option linter.unusedSimpArgs false
set_option maxRecDepth 20000
namespace Go.Proofs
open Go Go.HL
open Go.Exp (Th tlt Ord setW dropW insW)
def ssv (y:Ss):Value:=.agg ⟨ssc y⟩
/-- A map of sessions by their numbers, of a list. -/
abbrev MapX (L:List Ss) (e:Ent):Prop:=MapE iw ssv (L.map fun y=>(y.id,y)) e
theorem u105:Tryd.prog.underlying 105=some (.map 3 79):=by kernel_rfl
theorem zw79:∀ w:World,(zeroValue 79).run Tryd.prog w=.ok (ssv ss0) w:=fun w=>itoa_zero (by kernel_rfl) w
theorem lookX {L:List Ss} {m:Nat} {hp:HP} (h:MapX L (hp m)) (i:Int) {c:Value→Prop} (hc:c (.agg ⟨ssc ((findN i L).getD ss0)⟩)):rdS Tryd.prog (Instr.lookup 105 (.map (some m)) (.int .i64 i) false) hp c:=by
  refine rdS_lookup (l:=L.map fun y=>(y.id,y)) u105 enc3 (z:=ssv ss0) zw79 h i (ev:=ssv) (cm:=false) ?_
  rw [getL_mapK Ss.id (fun y=>y)]
  simp only [Bool.false_eq_true,if_false]
  have:(((L.find? fun x=>decide (x.id=i)).map (fun y=>y)).map ssv).getD (ssv ss0)=.agg ⟨ssc ((findN i L).getD ss0)⟩:=by
    unfold findN
    cases L.find? fun x=>decide (x.id=i) <;> rfl
  rw [this]; exact hc
theorem putL_upd {i st d:Int}:∀ {L:List Ss} {y:Ss},(L.map (·.id)).Nodup→findN i L=some y→putL i (setE1 i st d y) (L.map fun y=>(y.id,y))=(updS i st d L).map fun y=>(y.id,y)
  | [],_,_,h=>by cases h
  | x::L,y,hn,h=>by
    rw [List.map_cons,List.nodup_cons] at hn
    unfold findN at h
    rw [List.find?_cons] at h
    unfold updS
    rw [List.map_cons,List.map_cons,List.map_cons]
    by_cases hx:x.id=i
    · rw [decide_eq_true hx] at h
      obtain rfl:=Option.some.inj h
      have hno:L.map (setE1 i st d)=L:=by
        conv=>rhs; rw [← List.map_id L]
        refine List.map_congr_left fun z hz=>?_
        unfold setE1
        rw [if_neg fun e=>hn.1 (List.mem_map.2 ⟨z,hz,by rw [e,hx]⟩)]; rfl
      rw [hno,setE1_id]
      unfold putL
      rw [if_pos hx.symm,← hx]
    · rw [decide_eq_false hx] at h
      have ih:=putL_upd (st:=st) (d:=d) hn.2 h
      unfold updS at ih
      unfold putL
      rw [if_neg fun e=>hx e.symm,ih]
      congr 1
      unfold setE1
      rw [if_neg hx]
section
variable {tb:Obj} {hp0 hp:HP} {ps:Nat→HP} {s mm mx last:Nat} {L:List Ss} {w:List Th} {K:Value→HP→Prop}
/-- The table and a map of the same, beside what was known at first. -/
def StX (tb:Obj) (hp0 hp:HP) (s mm mx last:Nat) (L:List Ss):Prop:=
  ∃ (ps:Nat→HP) (w:List Th),Parts hp ps∧ps 0=hp0.set 0 .none∧SeW tb (ps 1) s mx last L w∧MapX L (ps 2 mm)∧∀ i,3≤i→∀ b,ps i b=.none
theorem StX.of (hP:Parts hp ps) (h0:ps 0=hp0.set 0 .none) (h1:SeW tb (ps 1) s mx last L w) (h2:MapX L (ps 2 mm)):StX tb hp0 hp s mm mx last L:=
  ⟨_,w,hP.cut 3,by simpa using h0,by simpa using h1,by simpa using h2,fun i hi b=>by simp only [show ¬ i<3 by omega,if_false]⟩
theorem findK_of (h:InvE mx last L) {y:Ss} (hy:y∈L):findK y.bnd y.peer L=some y:=by
  have:=find_of (g:=fun y:Ss=>(y.bnd,y.peer)) h.keys hy
  have e:(fun x:Ss=>decide (x.bnd=y.bnd∧x.peer=y.peer))=fun x=>decide ((x.bnd,x.peer)=(y.bnd,y.peer)):=by
    funext x
    refine decide_eq_decide.2 ⟨fun h=>by rw [h.1,h.2],fun h=>?_⟩
    exact Prod.mk.inj h
  unfold findK
  rw [e]; exact this
set_option maxHeartbeats 2000000 in
/-- Behind an act: the table's sessions are the map's. -/
theorem has6 {x1a:Option Addr} {x1n x1c:Nat} {x8:Int} {I4:Int→HP→Prop} (h:StX tb hp0 hp s mm mx last L) (hsm:L.length≤65535)
    (hI:∀ hp',StX tb hp0 hp' s mm mx last L→I4 (IntKind.wrap .i64 (x8+1)) hp'):F13_j6 (mx:Nat) x1a x1n x1c (some ⟨s,0,none⟩) (some mm) x8 hp I4 K:=by
  obtain ⟨ps,w,hP,g0,g1,g2,g3⟩:=h
  have hinv:=g1.inv
  unfold F13_j6
  refine N59 hP (i:=1) (j:=3) (by omega) (g3 3 (by omega)) g1 hsm fun r hp2 a c hr P2=>?_
  rw [slcV_slice]
  have g2':MapX L ((pu ps 3 r) 2 mm):=by rw [pu_ne _ _ (by omega)]; exact g2
  have g1':SeW tb ((pu ps 3 r) 1) s mx last L w:=by rw [pu_ne _ _ (by omega)]; exact g1
  have hst:StX tb hp0 hp2 s mm mx last L:=StX.of P2 (by rw [pu_ne _ _ (by omega)]; exact g0) g1' g2'
  have hm:=g2'.sub (P2.sub 2)
  have ht:=g1'.sub (P2.sub 1)
  have hr':=hr.sub (P2.at 3 (pu_eq ..))
  refine rdS_mapLen u105 hm ?_
  have hlen:=hinv.len
  rw [intV_int,List.length_map,show (((L.length:Nat):Int) != ((L.length:Nat):Int))=false by simp,ite2_false,decide_eq_false (by omega)]
  unfold F13_j7
  rw [ite2_false]
  unfold F13_j8
  clear hr P2 g1' g2' hP g1 g2 g3 g0
  refine LoopP.by (J:=fun k (z:Int) hp'=>∃ i:Nat,z=i∧i+k=L.length∧hp'=hp2) ?_ (n:=L.length) ⟨0,rfl,by omega,rfl⟩
  rintro I k z hp' ⟨i,rfl,hik,rfl⟩ hI2
  unfold F13_l9
  by_cases hi:i<L.length
  rotate_left
  · rw [decide_eq_false (by omega:¬ (i:Int)<(L.length:Nat)),ite2_false]
    unfold F13_j5
    exact hI _ hst
  rw [decide_eq_true (by omega:(i:Int)<(L.length:Nat)),ite2_true]
  obtain ⟨b,o,rfl,g,gd⟩:=row_ss hr' hi
  have hin:L[i]∈L:=List.getElem_mem hi
  have gd0:=gd 0 _ (ssc_id _)
  have gd1:=gd 1 _ (ssc_bnd _)
  have gp:hp'.cellN b (o+i*9+2) 5=some (t4 L[i].peer):=(cellN_part g (j:=2) (k:=5) (by omega)).trans rfl
  have ten:F13_j10 (mx:Nat) x1a x1n x1c (some ⟨s,0,none⟩) (some mm) x8 (some ⟨b,o,none⟩) L.length c i false hp' I4 I K:=by
    unfold F13_j10
    rw [ite2_false,show IntKind.wrap .i64 ((i:Int)+1)=((i+1:Nat):Int) from wi (by omega) (by omega)]
    exact hI2 (k-1) _ _ (by omega) ⟨i+1,rfl,by omega,rfl⟩
  have hok:=hinv.ok _ hin
  have hfk:findK L[i].bnd L[i].peer L=some L[i]:=findK_of hinv hin
  refine ⟨by omega,by omega,?_⟩
  simp only [Nat.add_zero] at gd0
  rw [ptrN_some,Int.toNat_natCast,gd1,ldV_some,intV_int]
  refine ⟨by omega,by omega,?_⟩
  rw [ptrN_some,gp,ldL_some]
  refine W57 ht hok.1 hok.2.1 ?_
  rw [hfk,tup2V_mk,aggV_agg,boolV_bool]
  simp only [Option.getD_some,Option.isSome_some]
  refine ifI (ssc_len _) (ifI (ssc_one _) (ifI (by simp [ssc_len]) ?_))
  rw [ss_spl rfl]
  refine ⟨by omega,by omega,?_⟩
  simp only [ptrN_some,Nat.add_zero,g,gd0,ldL_some,ldV_some,intV_int]
  refine ⟨by omega,by omega,?_⟩
  refine lookX hm _ ?_
  rw [aggV_agg,findN_of hinv hin]
  refine eq79 ?_
  rw [show (decide (L[i]=(some L[i]).getD ss0))=true from decide_eq_true rfl,Bool.not_true,ite2_false,ite2_false,ssc_cells,ldL_some]
  refine ⟨by omega,by omega,?_⟩
  refine eq79 ?_
  rw [decide_eq_true rfl,Bool.not_true,ite2_false]
  by_cases h0:i=0
  · rw [decide_eq_false (by omega),ite2_false]
    exact ten
  rw [decide_eq_true (by omega),ite2_true]
  have wm:IntKind.wrap .i64 ((i:Int)-1)=((i-1:Nat):Int):=wi (by omega) (by omega)
  obtain ⟨b',o',e',g',gd'⟩:=row_ss hr' (show i-1<L.length by omega)
  cases e'
  have hd0:=gd' 0 _ (ssc_id _)
  simp only [Nat.add_zero] at hd0
  have hasc:=hinv.asc
  rw [List.pairwise_map] at hasc
  have hord:=List.pairwise_iff_getElem.1 hasc (i-1) i (by omega) hi (by omega)
  simp only [wm,Int.toNat_natCast,Nat.add_zero,hd0,ldV_some,intV_int]
  refine ⟨by omega,by omega,by omega,by omega,?_⟩
  rw [decide_eq_false (by omega)]
  exact ten
set_option maxHeartbeats 4000000 in
/-- What was popped is taken out of the map, too. -/
theorem has18 {x0:Int} {x1a:Option Addr} {x1n x1c:Nat} {x8:Int} {I4:Int→HP→Prop} {A:A22} {i j:Nat} {a:Option Addr} {c:Nat} (hP:Parts hp ps) (hij:j≠i) (hM:MapX L (ps i mm)) (hs:Row (ps j) a (popsL Ss.id A.due L w).length c 79 9 ((popsL Ss.id A.due L w).flatMap ssc))
    (hn:(L.map (·.id)).Nodup) (hQ:QOk Ss.id Ss.due L w) (hl:L.length≤100000)
    (hK:∀ q hp',MapX (restL Ss.due A.due L) (q mm)→Parts hp' (pu ps i q)→F13_j6 x0 x1a x1n x1c (some ⟨s,0,none⟩) (some mm) x8 hp' I4 K) :
    F13_j18 x0 x1a x1n x1c (some ⟨s,0,none⟩) (some mm) x8 a (popsL Ss.id A.due L w).length c 0 (a22 A) hp I4 K:=by
  unfold F13_j18
  obtain ⟨f1,f2,f3,f4⟩:=pops_facts (now:=A.due) hn hQ
  have frest:=rest_of (now:=A.due) hn hQ
  have hlen:(popsL Ss.id A.due L w).length≤100000:=by
    have h2:(popsL Ss.id A.due L w).length≤w.length:=by
      unfold popsL
      exact Nat.le_trans (List.length_filterMap_le _ _) ((List.takeWhile_sublist _).length_le)
    have h3:=hQ.len
    omega
  generalize popsL Ss.id A.due L w=l at *
  refine LoopP.by (J:=fun k (x:Int) hp'=>∃ (n:Nat) (q:HP),x=n∧n+k=l.length∧Parts hp' (pu ps i q)∧MapX (L.filter fun x=>decide (x.id ∉ (l.take n).map (·.id))) (q mm)) ?_ (n:=l.length) ⟨0,ps i,rfl,by omega,?_,?_⟩
  rotate_left
  · have e:pu ps i (ps i)=ps:=by
      funext k
      by_cases h:k=i
      · subst h; rw [pu_eq]
      · rw [pu_ne _ _ h]
    rw [e]; exact hP
  · have e:(L.filter fun x=>decide (x.id ∉ (l.take 0).map (·.id)))=L:=List.filter_eq_self.2 fun x hx=>by simp
    rw [e]; exact hM
  rintro I k x hp' ⟨n,q,rfl,hnk,P,hq⟩ hI
  unfold F13_l19
  have hsP:=hs.sub (P.at j (by rw [pu_ne _ _ hij]))
  have hqP:=hq.sub (P.at i (pu_eq ..))
  by_cases hnl:n<l.length
  · rw [decide_eq_true (by omega:(n:Int)<(l.length:Nat)),ite2_true]
    obtain ⟨b,o,rfl,g,gd⟩:=row_ss hsP hnl
    have hin:l[n]∈l:=List.getElem_mem hnl
    obtain ⟨hinL,hdue⟩:=f1 _ hin
    have hget:findN l[n].id (L.filter fun x=>decide (x.id ∉ (l.take n).map (·.id)))=some l[n]:=by
      have hmem:l[n]∈L.filter fun x=>decide (x.id ∉ (l.take n).map (·.id)):=by
        rw [List.mem_filter]
        refine ⟨hinL,decide_eq_true fun hm=>?_⟩
        have e:l=l.take n++l[n]::l.drop (n+1):=by rw [← List.drop_eq_getElem_cons hnl,List.take_append_drop]
        have f2':=f2
        rw [e,List.map_append,List.map_cons] at f2'
        exact (List.nodup_append.1 f2').2.2 _ hm _ (by simp) rfl
      exact find_of (g:=Ss.id) (nodup_filter hn) hmem
    have gd0:=gd 0 _ (ssc_id _)
    have gd8:=gd 8 _ (ssc_due _)
    simp only [Nat.add_zero] at gd0
    have w1:IntKind.wrap .i64 ((n:Int)+1)=((n+1:Nat):Int):=wi (by omega) (by omega)
    have six:F13_j20 x0 x1a x1n x1c (some ⟨s,0,none⟩) (some mm) x8 (some ⟨b,o,none⟩) l.length c n false (a22 A) hp' I4 I K:=by
      unfold F13_j20
      rw [ite2_false]
      refine ⟨by omega,by omega,?_⟩
      simp only [ptrN_some,Int.toNat_natCast,Nat.add_zero,gd0,ldV_some,intV_int]
      refine opS_delete u105 enc3 hqP l[n].id (ev:=ssv) fun e he=>?_
      have hne:(pu ps i q) i mm≠.none:=by rw [pu_eq]; exact hq.ne
      have P2:=P.put i hne e
      rw [pu_eq,pu_pu] at P2
      rw [w1]
      refine hI (k-1) _ _ (by omega) ⟨n+1,_,rfl,by omega,P2,?_⟩
      rw [HP.set_eq]
      rw [delL_mapK Ss.id (fun y=>y) _ (nodup_filter hn)] at he
      have ef:((L.filter fun x=>decide (x.id ∉ (l.take n).map (·.id))).filter fun x=>decide (Ss.id x≠l[n].id))=L.filter fun x=>decide (x.id ∉ (l.take (n+1)).map (·.id)):=by
        rw [List.filter_filter]
        refine List.filter_congr fun x hx=>?_
        rw [List.take_succ_eq_append_getElem hnl,List.map_append]
        by_cases h1:x.id∈(l.take n).map (·.id) <;> by_cases h2:x.id=l[n].id <;> simp [h1,h2]
      rw [ef] at he
      exact he
    refine ⟨by omega,by omega,?_⟩
    simp only [ptrN_some,Int.toNat_natCast,g,ldL_some]
    refine ⟨by omega,by omega,?_⟩
    simp only [Nat.add_zero,gd0,ldV_some,intV_int]
    refine lookX hqP _ ?_
    rw [aggV_agg,hget]
    refine eq79 ?_
    rw [show (decide (l[n]=(some l[n]).getD ss0))=true from decide_eq_true rfl,Bool.not_true,ite2_false]
    refine ⟨by omega,by omega,?_⟩
    simp only [gd8,a22_6,ldV_some,intV_int]
    rw [decide_eq_false (by omega),ite2_false]
    by_cases h0:n=0
    · rw [decide_eq_false (by omega),ite2_false]
      exact six
    · rw [decide_eq_true (by omega),ite2_true]
      have wm:IntKind.wrap .i64 ((n:Int)-1)=((n-1:Nat):Int):=wi (by omega) (by omega)
      obtain ⟨b',o',e',g',gd'⟩:=row_ss hsP (show n-1<l.length by omega)
      cases e'
      have hd0:=gd' 0 _ (ssc_id _)
      have hd8:=gd' 8 _ (ssc_due _)
      simp only [Nat.add_zero] at hd0
      have hord:=List.pairwise_iff_getElem.1 f3 (n-1) n (by omega) hnl (by omega)
      simp only [wm,Int.toNat_natCast,Nat.add_zero,hd8,hd0,gd0,gd8,ldV_some,intV_int]
      refine ⟨by omega,by omega,by omega,by omega,?_⟩
      rw [decide_eq_false (by omega),ite2_false]
      refine ⟨by omega,by omega,by omega,by omega,?_⟩
      by_cases he:l[n-1].due=l[n].due
      · rw [show (l[n-1].due==l[n].due)=true by simp [he],ite2_true]
        refine ⟨by omega,by omega,by omega,by omega,?_⟩
        rw [decide_eq_false (by omega)]
        exact six
      · rw [show (l[n-1].due==l[n].due)=false by simp [he],ite2_false]
        exact six
  · rw [decide_eq_false (by omega:¬ (n:Int)<(l.length:Nat)),ite2_false]
    have hnl':n=l.length:=by omega
    subst hnl'
    rw [List.take_length,frest] at hq hqP
    unfold F13_j15
    refine opS_range u105 hqP fun it e hit hI0=>?_
    unfold F13_j16
    have P1:=P.new i hit e
    rw [pu_eq,pu_pu] at P1
    have hmit:mm≠it:=fun e'=>by
      have:=hqP.ne
      rw [e',hit] at this; exact this rfl
    refine LoopP.by (σ:=Unit) (J:=fun k _ hp2=>∃ (q2:HP) (done:List (Int × Ss)),k=(restL Ss.due A.due L).length-done.length∧Parts hp2 (pu ps i q2)∧q2 mm=q mm∧q2 it≠.none∧IterR hp2 it mm iw ssv ((restL Ss.due A.due L).map fun y=>(y.id,y)) done) ?_
      (n:=(restL Ss.due A.due L).length) ⟨_,[],by simp,P1,HP.set_ne _ _ hmit,?_,hI0⟩
    rotate_left
    · obtain ⟨oo,ho⟩:=hI0.obj.1
      rw [HP.set_eq] at ho
      rw [HP.set_eq,ho]; simp
    rintro I2 k2 _ hp2 ⟨q2,done,rfl,P2,hq2,hit2,hI2⟩ hgo
    unfold F13_l17
    refine opS_next hI2 ?_ ?_
    · intro hperm
      rw [tupI_end,boolV_bool,ite2_false]
      exact hK q2 hp2 (hq2▸hq) P2
    · intro kv hkv e2 hI3
      have hlen2:=hI3.step_len
      rw [List.length_map] at hlen2
      obtain ⟨y,hy,rfl⟩:=List.mem_map.1 hkv
      rw [tupI_go,boolV_bool,ite2_true]
      refine rdS_entry hI3 ?_
      rw [tupI_snd]
      show aggV (.agg ⟨ssc y⟩) _
      rw [aggV_agg]
      refine ifI (ssc_len y) (ifI (ssc_one y) (ifI (by simp [ssc_len]) ?_))
      rw [ss_spl rfl]
      simp only [ssc_due,a22_6,ldV_some,intV_int]
      have hyd:¬ y.due≤A.due:=by
        have:=(List.mem_filter.1 hy).2
        simpa using this
      rw [decide_eq_false hyd,ite2_false]
      have P3:=P2.put i (b:=it) (by rw [pu_eq]; exact hit2) e2
      rw [pu_eq,pu_pu] at P3
      refine hgo _ () _ ?_ ⟨_,done++[(y.id,y)],rfl,P3,(HP.set_ne _ _ hmit).trans hq2,?_,hI3⟩
      · simp; omega
      · obtain ⟨oo,ho⟩:=hI3.obj.1
        rw [HP.set_eq] at ho
        rw [HP.set_eq,ho]; simp
end
end Go.Proofs
set_option linter.unusedVariables false
set_option linter.unusedSimpArgs false
set_option maxRecDepth 20000
namespace Go.Proofs
open Go Go.HL
open Go.Exp (Th tlt Ord setW dropW insW)
section
variable {tb:Obj} {hp0 hp:HP} {ps:Nat→HP} {s mm mx last:Nat} {L:List Ss} {w:List Th} {K:Value→HP→Prop} {x1a:Option Addr} {x1n x1c:Nat} {x8:Int} {I4:Int→HP→Prop} {A:A22}
/-- What is to be shown behind an act. -/
abbrev Next (tb:Obj) (hp0:HP) (s mm mx last:Nat) (L:List Ss) (x1a:Option Addr) (x1n x1c:Nat) (x8:Int) (I4:Int→HP→Prop) (K:Value→HP→Prop):Prop:=
  ∀ hp' last' L',StX tb hp0 hp' s mm mx last' L'→last'≤last+1→L'.length≤L.length+1→F13_j6 (mx:Nat) x1a x1n x1c (some ⟨s,0,none⟩) (some mm) x8 hp' I4 K
set_option maxHeartbeats 2000000 in
theorem has_add (h:StX tb hp0 hp s mm mx last L) (hA:okA22 A) (hlast:last<500000) (hN:Next tb hp0 s mm mx last L x1a x1n x1c x8 I4 K) :
    CF Tryd.prog 42 [ptr s 0,.int .i64 A.b,.agg ⟨t4 (peerT A.a A.port)⟩,.int .i64 A.st,.int .i64 A.due] hp fun u_80 h_81=>(tup2V u_80 fun u_82 u_83=>(aggV u_82 fun l_84=>(intV u_83 .i64 fun i_85=>(if List.length l_84=9 then (if List.all l_84 one=true then (if 0+List.length l_84≤List.length [(Value.int .i64 0),(Value.int .i64 0),(Value.int .u8 0),(Value.int .u8 0),(Value.int .u8 0),(Value.int .u8 0),(Value.int .i64 0),(Value.int .i64 0),(Value.int .i64 0)] then (F13_j11 (mx:Nat) x1a x1n x1c (some ⟨s,0,none⟩) (some mm) x8 i_85 (splice [(Value.int .i64 0),(Value.int .i64 0),(Value.int .u8 0),(Value.int .u8 0),(Value.int .u8 0),(Value.int .u8 0),(Value.int .i64 0),(Value.int .i64 0),(Value.int .i64 0)] 0 l_84) h_81 I4 K) else False) else False) else False)))):=by
  have h0:=h
  obtain ⟨oa,ob,op,on,os,od⟩:=hA
  obtain ⟨ps,w,hP,g0,g1,g2,g3⟩:=h
  have hinv:=g1.inv
  have o1:okT (peerT A.a A.port):=peerT_ok oa op
  generalize peerT A.a A.port=p at o1
  by_cases he:addE mx A.b p A.due L=0
  · refine CF.part hP 1 (W42 (K:=fun u q=>u=.tuple ⟨[.agg ⟨ssc ⟨((last+1:Nat):Int),A.b,p,A.st,A.due⟩⟩,.int .i64 0]⟩∧SeW tb q s mx (last+1) (L++[⟨((last+1:Nat):Int),A.b,p,A.st,A.due⟩]) (setW ((last+1:Nat):Int) A.due w)) g1 ob o1 hlast (fun e=>absurd he e) fun _ q hq=>⟨rfl,hq⟩) ?_
    rintro u l2 hp2 ⟨rfl,h2⟩ P2
    rw [tup2V_mk,aggV_agg,intV_int]
    refine ifI (ssc_len _) (ifI (ssc_one _) (ifI (by simp [ssc_len]) ?_))
    rw [ss_spl rfl]
    obtain ⟨y,hy⟩:∃ y:Ss,y=⟨((last+1:Nat):Int),A.b,p,A.st,A.due⟩:=⟨_,rfl⟩
    rw [← hy] at h2 ⊢
    have yid:y.id=((last+1:Nat):Int):=by rw [hy]
    have hnew:y.id ∉ L.map Ss.id:=fun hm=>by
      obtain ⟨z,hz,e⟩:=List.mem_map.1 hm
      have:=(hinv.rng z hz).2
      rw [e,yid] at this; omega
    unfold F13_j11
    show ite2 true _ _
    rw [ite2_true,ssc_id,ldV_some,intV_int,ssc_cells,ldL_some]
    have g2':MapX L ((pu ps 1 l2) 2 mm):=by rw [pu_ne _ _ (by omega)]; exact g2
    refine opS_mapUpdate u105 enc3 (g2'.sub (P2.sub 2)) y.id (ev:=ssv) y fun e he=>?_
    rw [putL_mapK Ss.id (fun y:Ss=>y) hnew] at he
    have P3:=P2.put 2 (b:=mm) g2'.ne e
    exact hN _ (last+1) (L++[y]) (StX.of P3 (by rw [pu_ne _ _ (by omega),pu_ne _ _ (by omega)]; exact g0) (by rw [pu_ne _ _ (by omega),pu_eq]; exact h2) (by rw [pu_eq,HP.set_eq]; exact he)) (Nat.le_refl _) (by simp)
  · refine W42 (g1.sub (hP.sub 1)) ob o1 hlast (fun e=>?_) fun e=>absurd e he
    rw [tup2V_mk,aggV_agg,intV_int]
    refine ifI (ssc_len _) (ifI (ssc_one _) (ifI (by simp [ssc_len]) ?_))
    unfold F13_j11
    rw [show (addE mx A.b p A.due L==0)=false by simpa using he,ite2_false]
    exact hN hp last L h0 (by omega) (by omega)
set_option maxHeartbeats 2000000 in
theorem has_set {x54:Int} (h:StX tb hp0 hp s mm mx last L) (hN:Next tb hp0 s mm mx last L x1a x1n x1c x8 I4 K):F13_j12 (mx:Nat) x1a x1n x1c (some ⟨s,0,none⟩) (some mm) x8 x54 true (a22 A) hp I4 K:=by
  have h0:=h
  obtain ⟨ps,w,hP,g0,g1,g2,g3⟩:=h
  have hinv:=g1.inv
  unfold F13_j12
  rw [ite2_true]
  simp only [a22_4,a22_5,a22_6,ldV_some,intV_int]
  by_cases he:setE A.n A.due L=0
  · obtain ⟨y,hf⟩:∃ y,findN A.n L=some y:=by
      unfold setE at he
      split at he
      · cases he
      · cases hf:findN A.n L with
        | none=>rw [hf] at he; cases he
        | some y=>exact ⟨y,rfl⟩
    refine CF.part hP 1 (W56 (K:=fun u q=>u=.int .i64 0∧SeW tb q s mx last (updS A.n A.st A.due L) (setW A.n A.due w)) g1 (fun e=>absurd he e) fun _ q hq=>⟨rfl,hq⟩) ?_
    rintro u l2 hp2 ⟨rfl,h2⟩ P2
    rw [intV_int]
    show ite2 true _ _
    rw [ite2_true]
    have g2':MapX L ((pu ps 1 l2) 2 mm):=by rw [pu_ne _ _ (by omega)]; exact g2
    refine lookX (g2'.sub (P2.sub 2)) _ ?_
    rw [aggV_agg,hf,Option.getD_some]
    refine ifI (ssc_len _) (ifI (ssc_one _) (ifI (by simp [ssc_len]) ?_))
    rw [ss_spl rfl]
    refine ifI (by rw [ssc_len]; decide) (ifI (by rw [List.length_set,ssc_len]; decide) ?_)
    have hset:((ssc y).set 7 (.int .i64 A.st)).set 8 (.int .i64 A.due)=ssc (setE1 A.n A.st A.due y):=by
      unfold setE1
      rw [if_pos (findN_mem hf).2]; rfl
    rw [hset,ssc_cells,ldL_some]
    refine opS_mapUpdate u105 enc3 (g2'.sub (P2.sub 2)) A.n (ev:=ssv) (setE1 A.n A.st A.due y) fun e he=>?_
    rw [putL_upd hinv.ids hf] at he
    have P3:=P2.put 2 (b:=mm) g2'.ne e
    exact hN _ last (updS A.n A.st A.due L) (StX.of P3 (by rw [pu_ne _ _ (by omega),pu_ne _ _ (by omega)]; exact g0) (by rw [pu_ne _ _ (by omega),pu_eq]; exact h2) (by rw [pu_eq,HP.set_eq]; exact he)) (by omega) (by unfold updS; rw [List.length_map]; omega)
  · refine W56 (g1.sub (hP.sub 1)) (fun e=>?_) fun e=>absurd e he
    rw [intV_int,show (setE A.n A.due L==0)=false by simpa using he,ite2_false]
    exact hN hp last L h0 (by omega) (by omega)
set_option maxHeartbeats 2000000 in
theorem has_drop {x54:Int} (h:StX tb hp0 hp s mm mx last L) (hN:Next tb hp0 s mm mx last L x1a x1n x1c x8 I4 K):F13_j13 (mx:Nat) x1a x1n x1c (some ⟨s,0,none⟩) (some mm) x8 x54 true (a22 A) hp I4 K:=by
  have h0:=h
  obtain ⟨ps,w,hP,g0,g1,g2,g3⟩:=h
  have hinv:=g1.inv
  have hlen:(L.filter fun z=>decide (z.id≠A.n)).length≤L.length:=List.length_filter_le _ _
  have out:∀ (l2 hp2:HP) (w2:List Th),SeW tb l2 s mx last (L.filter fun z=>decide (z.id≠A.n)) w2→Parts hp2 (pu ps 1 l2)→F13_j14 (mx:Nat) x1a x1n x1c (some ⟨s,0,none⟩) (some mm) x8 false (a22 A) hp2 I4 K:=by
    intro l2 hp2 w2 h2 P2
    have g2':MapX L ((pu ps 1 l2) 2 mm):=by rw [pu_ne _ _ (by omega)]; exact g2
    unfold F13_j14
    rw [ite2_false,a22_4,ldV_some,intV_int]
    refine opS_delete u105 enc3 (g2'.sub (P2.sub 2)) A.n (ev:=ssv) fun e he=>?_
    rw [delL_mapK Ss.id (fun y=>y) _ hinv.ids] at he
    have P3:=P2.put 2 (b:=mm) g2'.ne e
    exact hN _ last _ (StX.of P3 (by rw [pu_ne _ _ (by omega),pu_ne _ _ (by omega)]; exact g0) (by rw [pu_ne _ _ (by omega),pu_eq]; exact h2) (by rw [pu_eq,HP.set_eq]; exact he)) (by omega) (by omega)
  unfold F13_j13
  rw [ite2_true,a22_4,ldV_some,intV_int]
  cases hf:findN A.n L with
  | none=>
    have hno:(L.filter fun z=>decide (z.id≠A.n))=L:=List.filter_eq_self.2 fun x hx=>by
      have:=List.find?_eq_none.1 hf x hx
      simpa using this
    refine W44 (g1.sub (hP.sub 1)) (fun e=>?_) fun y hy=>by rw [hf] at hy; cases hy
    rw [tup2V_mk,aggV_agg,intV_int]
    refine ifI (ssc_len _) (ifI (ssc_one _) (ifI (by simp [ssc_len]) ?_))
    show ite2 false _ _
    rw [ite2_false]
    have e:pu ps 1 (ps 1)=ps:=by
      funext k
      by_cases h:k=1
      · subst h; rw [pu_eq]
      · rw [pu_ne _ _ h]
    exact out (ps 1) hp w (by rw [hno]; exact g1) (by rw [e]; exact hP)
  | some y=>
    refine N44 hP 1 g1 hf fun l2 hp2 h2 P2=>?_
    rw [tup2V_mk,aggV_agg,intV_int]
    refine ifI (ssc_len _) (ifI (ssc_one _) (ifI (by simp [ssc_len]) ?_))
    show ite2 true _ _
    rw [ite2_true,ss_spl rfl,ssc_cells,ldL_some]
    have g2':MapX L ((pu ps 1 l2) 2 mm):=by rw [pu_ne _ _ (by omega)]; exact g2
    refine lookX (g2'.sub (P2.sub 2)) _ ?_
    rw [aggV_agg,hf]
    refine eq79 ?_
    rw [show (decide (y=(some y).getD ss0))=true from decide_eq_true rfl]
    exact out l2 hp2 _ h2 P2
set_option maxHeartbeats 2000000 in
theorem has_pop (h:StX tb hp0 hp s mm mx last L) (hsm:L.length≤65535) (hN:Next tb hp0 s mm mx last L x1a x1n x1c x8 I4 K):F13_j13 (mx:Nat) x1a x1n x1c (some ⟨s,0,none⟩) (some mm) x8 3 false (a22 A) hp I4 K:=by
  obtain ⟨ps,w,hP,g0,g1,g2,g3⟩:=h
  have hinv:=g1.inv
  unfold F13_j13
  rw [ite2_false,show ((3:Int)==3)=true from rfl,ite2_true,a22_6,ldV_some,intV_int]
  refine N45 hP (i:=1) (j:=3) (by omega) (g3 3 (by omega)) g1 fun l2 rr hp2 a c w' h2 hr2 P2=>?_
  rw [slcV_slice]
  refine has18 P2 (i:=2) (j:=3) (by omega) (mm:=mm) (L:=L) (w:=w) (by rw [pu_ne _ _ (by omega),pu_ne _ _ (by omega)]; exact g2) (by rw [pu_eq]; exact hr2) hinv.ids g1.qok (by omega) fun q hp3 hq P3=>?_
  have hlen:(restL Ss.due A.due L).length≤L.length:=List.length_filter_le _ _
  exact hN hp3 last _ (StX.of P3 (by rw [pu_ne _ _ (by omega),pu_ne _ _ (by omega),pu_ne _ _ (by omega)]; exact g0) (by rw [pu_ne _ _ (by omega),pu_ne _ _ (by omega),pu_eq]; exact h2) (by rw [pu_eq]; exact hq)) (by omega) (by omega)
set_option maxHeartbeats 4000000 in
theorem C13 {x:Int} {acts:List A22} (ht:TabR tb hp0) (hs4:Shows hp0 x1a x1n 7 (acts.flatMap a22)) (hl4:acts.length=x1n) (hok:∀ y∈acts,okA22 y)
    (hK:K (.bool true) hp0):CF Tryd.prog 13 [.int .i64 x,.slice x1a x1n x1c] hp0 K:=by
  refine CF.drop (F13_ok x x1a x1n x1c hp0 _ ?_)
  unfold F13
  have wk:∀ hp',HSub hp0 hp'→TabR tb hp'→CF Tryd.prog 40 [] hp' fun u h=>boolV u fun q=>∃ hp'',HSub hp'' h∧K (.bool q) hp'':=by
    intro hp' hs ht'
    refine C40 ht' fun hp2 h2=>?_
    rw [boolV_bool]
    exact ⟨hp0,hs.trans h2,hK⟩
  have b1:F13_j1 x x1a x1n x1c true hp0 (fun v hp'=>∃ hp'',HSub hp'' hp'∧K v hp''):=by
    unfold F13_j1
    rw [ite2_true]
    exact wk hp0 (HSub.refl _) ht
  by_cases c1:x<1
  · rw [decide_eq_true c1,ite2_true]; exact b1
  rw [decide_eq_false c1,ite2_false]
  by_cases c2:x > 100
  · rw [decide_eq_true c2,ite2_true]; exact b1
  rw [decide_eq_false c2,ite2_false]
  by_cases c3:((x1n:Nat):Int) > 150
  · rw [decide_eq_true c3]; exact b1
  rw [decide_eq_false c3]
  clear b1
  unfold F13_j1
  rw [ite2_false]
  refine X41 ht (fun hb=>absurd hb (by omega)) fun _ s hp1 hB=>?_
  rw [tup2V_mk,pq,intV_int,show ((0:Int) != 0)=false from rfl,ite2_false]
  intro mm hmm
  obtain ⟨mx,rfl⟩:∃ mx:Nat,x=mx:=⟨x.toNat,by omega⟩
  rw [Int.toNat_natCast] at hB
  have st0:StX tb hp0 (hp1.set mm (.obj (.map #[] 0))) s mm mx 0 []:=by
    obtain ⟨ps,P,g0,g1,_⟩:=hB
    refine StX.of (P.new 2 hmm (.obj (.map #[] 0))) (by rw [pu_ne _ _ (by omega)]; exact g0) (w:=[]) ?_ ?_
    · rw [pu_ne _ _ (by omega)]; exact g1
    · rw [pu_eq,HP.set_eq]; exact MapE.empty _ _
  clear hB
  unfold F13_j3
  refine LoopP.by (J:=fun k (z:Int) hp'=>∃ (i last:Nat) (L:List Ss),z=i∧i+k=x1n∧StX tb hp0 hp' s mm mx last L∧last≤i∧L.length≤i) ?_ (n:=x1n) ⟨0,0,[],rfl,by omega,st0,Nat.le_refl _,Nat.le_refl _⟩
  clear st0
  rintro I k z hp ⟨i,last,L,rfl,hik,hst,hla,hLi⟩ hI
  unfold F13_l4
  have tabs:TabR tb hp∧HSub hp0 hp:=by
    obtain ⟨ps,w,hP,g0,g1,g2,g3⟩:=hst
    have ht':=(g1.sub (hP.sub 1)).tab
    exact ⟨ht',finish ht hP g0 ht'⟩
  obtain ⟨htp,hsp⟩:=tabs
  by_cases hi:i<x1n
  rotate_left
  · rw [decide_eq_false (by omega:¬ (i:Int)<(x1n:Int)),ite2_false]
    unfold F13_j2
    exact wk hp hsp htp
  rw [decide_eq_true (by omega:(i:Int)<(x1n:Int)),ite2_true]
  obtain ⟨b,o,rfl,hc⟩:=(hs4.sub hsp).get a22_len hl4 hi
  have hact:=hok _ (List.getElem_mem (hl4▸hi))
  generalize acts[i]'(hl4▸hi)=A at hc hact
  have w1:IntKind.wrap .i64 ((i:Int)+1)=((i+1:Nat):Int):=wi (by omega) (by omega)
  have hN:Next tb hp0 s mm mx last L (some ⟨b,o,none⟩) x1n x1c i I (fun v hp'=>∃ hp'',HSub hp'' hp'∧K v hp''):=by
    intro hp' last' L' h' g1 g2
    refine has6 h' (by omega) fun hp2 h2=>?_
    rw [w1]
    exact hI (k-1) _ _ (by omega) ⟨i+1,last',L',rfl,by omega,h2,by omega,by omega⟩
  clear hI
  refine ⟨by omega,by omega,?_⟩
  rw [ptrN_some,Int.toNat_natCast,hc,ldL_some,if_pos (a22_len A),if_pos (a22_one A),if_pos (by simp [a22_len]),a22_spl rfl,a22_0,ldV_some,intV_int]
  have add:=has_add hst hact (by omega) hN
  have j13:∀ q,F13_j13 (mx:Nat) (some ⟨b,o,none⟩) x1n x1c (some ⟨s,0,none⟩) (some mm) i A.what q (a22 A) hp I fun v hp'=>∃ hp'',HSub hp'' hp'∧K v hp'':=by
    intro q
    cases q with
    | true=>exact has_drop hst hN
    | false=>
      by_cases e3:A.what=3
      · rw [e3]; exact has_pop hst (by omega) hN
      · unfold F13_j13
        rw [ite2_false,show (A.what==3)=false by simp [e3],ite2_false]
        exact hN hp last L hst (by omega) (by omega)
  have j12:∀ q,F13_j12 (mx:Nat) (some ⟨b,o,none⟩) x1n x1c (some ⟨s,0,none⟩) (some mm) i A.what q (a22 A) hp I fun v hp'=>∃ hp'',HSub hp'' hp'∧K v hp'':=by
    intro q
    cases q with
    | true=>exact has_set hst hN
    | false=>
      unfold F13_j12
      rw [ite2_false]
      cases (A.what==2) with
      | true=>rw [ite2_true]; exact j13 _
      | false=>rw [ite2_false]; exact j13 _
  clear hN hst hact
  cases (A.what==0) with
  | false=>
    rw [ite2_false]
    cases (A.what==1) with
    | true=>rw [ite2_true]; exact j12 _
    | false=>rw [ite2_false]; exact j12 _
  | true=>
    clear j12 j13
    rw [ite2_true]
    have d1:∀ {K:Value→HP→Prop},K (.agg ⟨t4 (peerT A.a A.port)⟩) hp→CF Tryd.prog 43 [.int .u8 A.a,.int .i64 A.port] hp K:=fun h=>C43 h
    repeat' apply And.intro
    all_goals
      repeat (first
        | (rw [a22_2,ldV_some,intV_int])
        | (rw [a22_1,ldV_some,intV_int])
        | (rw [a22_3,ldV_some,intV_int])
        | (rw [a22_5,ldV_some,intV_int])
        | (rw [a22_6,ldV_some,intV_int])
        | (refine d1 ?_; rw [aggV_agg]))
      exact add
end
end Go.Proofs
namespace Go.Proofs.YtpkhoemonibajaaDoor
open Go Go.HL Go.Proofs
def theLaid : List (String × DataW Unit) := [("math/bits.deBruijn32tab", Rows.laid_math_bits_deBruijn32tab), ("math/bits.deBruijn64tab", Rows.laid_math_bits_deBruijn64tab), ("internal/strconv.uint64pow10", Rows.laid_internal_strconv_uint64pow10)]
theorem tabOf {W:World} (h:laidMetH Tryd.prog theLaid W):∃ o,hpAll W 0=.obj o∧TabO o:=by
  have h':laidMet Tryd.prog theLaid W:=h
  obtain ⟨ps,hv,_⟩:=h'
  obtain ⟨q1,h1⟩:=laidVars_tail hv
  obtain ⟨q2,h2⟩:=laidVars_tail h1
  have ht : Lib.TabIs Tryd.prog W "internal/strconv.uint64pow10" .u64 Lib.pow10Tab :=
    tabIs_of_vars (rest:=[]) (g:=0) (t:=267) (e:=233) (n:=20) (by kernel_rfl) (by kernel_rfl) (by kernel_rfl) (by kernel_rfl) (by kernel_rfl) (by kernel_rfl) h2
  obtain ⟨o,ho,hO⟩:=tabO_of ht
  exact ⟨o,by unfold hpAll; rw [ho],hO⟩
/-- What a table's cells are. -/
def cellsLaid:DataW Unit→Array Value
  | .agg ps=>(ps.map fun d=>match d with | .lit (.int k n)=>Value.int k n | _=>.int .i64 0).toArray
  | _=>#[]
def layAt (b:Nat) (d:DataW Unit) (h:Array Obj):Array Obj:=h.modify b fun | .cells _ t fz=>.cells (cellsLaid d) t fz | o=>o
noncomputable def laidWorld (os:Os) (I:Input):World:=
  { World.holding Tryd.prog os I with heap:=layAt 0 Rows.laid_internal_strconv_uint64pow10 (layAt 1 Rows.laid_math_bits_deBruijn32tab (layAt 2 Rows.laid_math_bits_deBruijn64tab (World.holding Tryd.prog os I).heap)) }
end Go.Proofs.YtpkhoemonibajaaDoor
