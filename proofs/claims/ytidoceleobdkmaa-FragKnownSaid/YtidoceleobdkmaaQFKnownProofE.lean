/- Parts of the proof of FKnownProof: the logic of what is known of memory, functions' contracts. -/
import Derived.Test.YtidoceleobdkmaaQFKnownProofD
import Derived.Test.YtidoceleobdkmaaHlAbb
import Derived.Test.YtidoceleobdkmaaHlOrd2
import Derived.Test.YtidoceleobdkmaaProg
set_option linter.unusedVariables false
set_option linter.unusedSimpArgs false
set_option linter.unusedVariables false
set_option maxRecDepth 20000
namespace Go.Proofs
open Go Go.HL
section
variable {e E:Env} {x1:OA} {x2:Int} {x3:Value} {x4 x5 x7:Bool} {x8:Int} {x9 x10 x12 x13 x14:Bool} {x15a:OA} {x15n x15c:Nat} {x16 x17 x18 x20:Bool} {x21 x23 x25:Int} {k6 k11 k19:List Value} {hp:HP} {K:Env→PV→HP→Prop}
abbrev R19 (p n:Nat):=RW Try.prog 276 [6,11,19,134,256,261] (opsAt Try.f19 (pth p)) (List.range n)
theorem F19_r0:R19 2 1 e V0 hp K=
 K (upd e 0 (sB false)) V0 hp:= by kernel_rfl
theorem F19_r1:R19 5 7 e V0 hp K=
 CF Try.prog 25 [(.int .i64 4),(.int .i64 3)] hp fun u1 h2=>(tup2V u1 fun u3 u4=>ptrV u3 fun p5=>intV u4 .i64 fun i6=>∀ b7:Nat,h2 b7=.none→(HP.st (HP.set h2 b7 (.cells 31 [(.pointer none)] 0)) b7 0 (.pointer p5) fun h8=>K (w6 e 27 (sV (.tuple ⟨[(.pointer p5),(.int .i64 i6)]⟩)) 26 (sV (.tuple ⟨[(.pointer p5),(.int .i64 i6)]⟩)) 28 (sP p5) 29 (sI i6) 1 (sQ b7 0) 2 (sI i6)) V0 h8)):= by kernel_rfl
theorem F19_r2:R19 75 1 e V0 hp K=
 K (upd e 0 (sB false)) V0 hp:= by kernel_rfl
theorem F19_r3:R19 23 2 (upd e 1 (sP x1)) V0 hp K=
 K (w3 e 1 (sP x1) 36 (sV (.func (.func 71) ⟨[]⟩ ⟨[(.pointer x1)]⟩)) 3 (sV (.func (.func 71) ⟨[]⟩ ⟨[(.pointer x1)]⟩))) V0 hp:= by kernel_rfl
theorem F19_r4:R19 1535 3 e V0 hp K=
    (if List.length [(Value.string (⟨#[108]⟩:ByteArray)),(.string (⟨#[116]⟩:ByteArray)),(.int .i64 8),.bool false,(.string (⟨#[122]⟩:ByteArray)),(.string (⟨#[104]⟩:ByteArray))]=6 then (if List.all [(Value.string (⟨#[108]⟩:ByteArray)),(.string (⟨#[116]⟩:ByteArray)),(.int .i64 8),.bool false,(.string (⟨#[122]⟩:ByteArray)),(.string (⟨#[104]⟩:ByteArray))] one=true then (if 0+List.length [(Value.string (⟨#[108]⟩:ByteArray)),(.string (⟨#[116]⟩:ByteArray)),(.int .i64 8),.bool false,(.string (⟨#[122]⟩:ByteArray)),(.string (⟨#[104]⟩:ByteArray))]≤List.length [(Value.string ⟨#[]⟩),.string ⟨#[]⟩,.int .i64 0,.bool false,.string ⟨#[]⟩,.string ⟨#[]⟩] then (K (w2 e 119 (sV (.agg ⟨[(.string (⟨#[108]⟩:ByteArray)),(.string (⟨#[116]⟩:ByteArray)),(.int .i64 8),.bool false,(.string (⟨#[122]⟩:ByteArray)),(.string (⟨#[104]⟩:ByteArray))]⟩)) 11 (sR 11 0)) (w2 V0 11 (29,[.string ⟨#[]⟩,.string ⟨#[]⟩,.int .i64 0,.bool false,.string ⟨#[]⟩,.string ⟨#[]⟩]) 11 (29,(splice [.string ⟨#[]⟩,.string ⟨#[]⟩,.int .i64 0,.bool false,.string ⟨#[]⟩,.string ⟨#[]⟩] 0 [(.string (⟨#[108]⟩:ByteArray)),(.string (⟨#[116]⟩:ByteArray)),(.int .i64 8),.bool false,(.string (⟨#[122]⟩:ByteArray)),(.string (⟨#[104]⟩:ByteArray))]))) hp) else False) else False) else False):=by kernel_rfl
theorem F19_r5:R19 6143 2 (upd e 11 (sR 11 0)) (upd V0 11 (29,k11)) hp K=
    (if 0<List.length k11 then (K (w2 e 11 (sR 11 0) 134 (sR 11 0)) (w2 V0 11 (29,k11) 11 (29,(List.set k11 0 (.string (⟨#[109]⟩:ByteArray))))) hp) else False):=by kernel_rfl
theorem F19_r6:R19 49151 3 (upd e 1 (sP x1)) V0 hp K=
 ptrN x1 fun b1 o2=>(ldV (HP.cell hp b1 o2) fun v3=>ptrV v3 fun p4=>CF Try.prog 62 [(.pointer p4),(.int .i64 3)] hp fun u5 h6=>slcV u5 fun a7 n8 c9=>K (w4 e 1 (sP x1) 161 (sP p4) 162 (sS a7 n8 c9) 15 (sS a7 n8 c9)) V0 h6):= by kernel_rfl
theorem F19_r7:R19 393215 5 (upd e 3 (sV x3)) V0 hp K=
 CF Try.prog 72 [(.int .i64 8),.bool false,(.string (⟨#[]⟩:ByteArray))] hp fun u1 h2=>(aggV u1 fun l3=>fnV x3 fun f4 ga5 gb6=>CF Try.prog f4 (ga5++[(Value.agg ⟨l3⟩),(.int .i64 4)]++gb6) h2 fun u7 h8=>intV u7 .i64 fun i9=>K (w6 e 3 (sV x3) 201 (sV x3) 202 (sA l3) 203 (sI i9) 204 (sB ((i9==0))) 18 (sB ((i9==0)))) V0 h8):= by kernel_rfl
theorem F19_r8:R19 1572863 6 e (upd V0 19 (36,k19)) hp K=
 CF Try.prog 25 [.int .i64 0,(.int .i64 1)] hp fun u1 h2=>(tup2V u1 fun u3 u4=>ptrV u3 fun p5=>intV u4 .i64 fun i6=>K (w6 e 213 (sV (.tuple ⟨[(.pointer p5),(.int .i64 i6)]⟩)) 212 (sV (.tuple ⟨[(.pointer p5),(.int .i64 i6)]⟩)) 214 (sP p5) 215 (sI i6) 22 (sP p5) 23 (sI i6)) (upd V0 19 (36,k19)) h2):= by kernel_rfl
theorem F19_r9:R19 3145727 6 e (upd V0 19 (36,k19)) hp K=
 CF Try.prog 25 [(.int .i64 1),(.int .i64 65537)] hp fun u1 h2=>(tup2V u1 fun u3 u4=>ptrV u3 fun p5=>intV u4 .i64 fun i6=>K (w6 e 217 (sV (.tuple ⟨[(.pointer p5),(.int .i64 i6)]⟩)) 216 (sV (.tuple ⟨[(.pointer p5),(.int .i64 i6)]⟩)) 218 (sP p5) 219 (sI i6) 24 (sP p5) 25 (sI i6)) (upd V0 19 (36,k19)) h2):= by kernel_rfl
theorem F19_r10 (h:E=upd (w6 (w8 e 25 (sI x25) 23 (sI x23) 21 (sI x21) 20 (sB x20) 19 (sR 19 0) 18 (sB x18) 17 (sB x17) 16 (sB x16)) 14 (sB x14) 13 (sB x13) 12 (sB x12) 10 (sB x10) 9 (sB x9) 5 (sB x5)) 4 (sB x4)):R19 6291455 57 E (upd V0 19 (36,k19)) hp K=
 ite2 x4 (ite2 x5 (ite2 x9 (ite2 x10 (ite2 x12 (ite2 x13 (ite2 x14 (ite2 x16 (ite2 x17 (ite2 x18 (ite2 x20 (ite2 (x21==0) (ldV (k19)[2]? fun v1=>strV v1 fun s2=>ite2 ((ByteArray.toList s2)==(ByteArray.toList (⟨#[49,50,51,52,53,54,55,56]⟩:ByteArray))) (ldV (k19)[3]? fun v3=>intV v3 .i64 fun i4=>ite2 (i4==2) (ite2 (x23==1) (ite2 (x25==1) (CF Try.prog 22 [] hp fun u5 h6=>boolV u5 fun q7=>K (upd (w8 (w8 (w8 (w8 (w8 (w8 (w8 E 220 (sB x4) 221 (sB true) 222 (sB x5) 223 (sB x5) 224 (sB true) 225 (sB x9) 226 (sB x9) 227 (sB true)) 228 (sB x10) 229 (sB x10) 230 (sB true) 231 (sB x12) 232 (sB x12) 233 (sB true) 234 (sB x13) 235 (sB x13)) 236 (sB true) 237 (sB x14) 238 (sB x14) 239 (sB true) 240 (sB x16) 241 (sB x16) 242 (sB true) 243 (sB x17)) 244 (sB x17) 245 (sB true) 246 (sB x18) 247 (sB x18) 248 (sB true) 249 (sB x20) 250 (sB x20) 251 (sB true)) 252 (sI x21) 253 (sB ((x21==0))) 254 (sB ((x21==0))) 255 (sB true) 256 (sR 19 2) 257 (sT s2) 258 (sB (((ByteArray.toList s2)==(ByteArray.toList (⟨#[49,50,51,52,53,54,55,56]⟩:ByteArray))))) 259 (sB (((ByteArray.toList s2)==(ByteArray.toList (⟨#[49,50,51,52,53,54,55,56]⟩:ByteArray)))))) 260 (sB true) 261 (sR 19 3) 262 (sI i4) 263 (sB ((i4==2))) 264 (sB ((i4==2))) 265 (sB true) 266 (sI x23) 267 (sB ((x23==1)))) 268 (sB ((x23==1))) 269 (sB true) 270 (sI x25) 271 (sB ((x25==1))) 272 (sB ((x25==1))) 273 (sB true) 274 (sB q7) 275 (sB q7)) 0 (sB q7)) (upd V0 19 (36,k19)) h6) (K (upd (w8 (w8 (w8 (w8 (w8 (w8 (w8 E 220 (sB x4) 221 (sB true) 222 (sB x5) 223 (sB x5) 224 (sB true) 225 (sB x9) 226 (sB x9) 227 (sB true)) 228 (sB x10) 229 (sB x10) 230 (sB true) 231 (sB x12) 232 (sB x12) 233 (sB true) 234 (sB x13) 235 (sB x13)) 236 (sB true) 237 (sB x14) 238 (sB x14) 239 (sB true) 240 (sB x16) 241 (sB x16) 242 (sB true) 243 (sB x17)) 244 (sB x17) 245 (sB true) 246 (sB x18) 247 (sB x18) 248 (sB true) 249 (sB x20) 250 (sB x20) 251 (sB true)) 252 (sI x21) 253 (sB ((x21==0))) 254 (sB ((x21==0))) 255 (sB true) 256 (sR 19 2) 257 (sT s2) 258 (sB (((ByteArray.toList s2)==(ByteArray.toList (⟨#[49,50,51,52,53,54,55,56]⟩:ByteArray))))) 259 (sB (((ByteArray.toList s2)==(ByteArray.toList (⟨#[49,50,51,52,53,54,55,56]⟩:ByteArray)))))) 260 (sB true) 261 (sR 19 3) 262 (sI i4) 263 (sB ((i4==2))) 264 (sB ((i4==2))) 265 (sB true) 266 (sI x23) 267 (sB ((x23==1)))) 268 (sB ((x23==1))) 269 (sB true) 270 (sI x25) 271 (sB ((x25==1))) 272 (sB ((x25==1))) 273 (sB false) 274 sU 275 (sB false)) 0 (sB false)) (upd V0 19 (36,k19)) hp)) (K (upd (w8 (w8 (w8 (w8 (w8 (w8 (w8 E 220 (sB x4) 221 (sB true) 222 (sB x5) 223 (sB x5) 224 (sB true) 225 (sB x9) 226 (sB x9) 227 (sB true)) 228 (sB x10) 229 (sB x10) 230 (sB true) 231 (sB x12) 232 (sB x12) 233 (sB true) 234 (sB x13) 235 (sB x13)) 236 (sB true) 237 (sB x14) 238 (sB x14) 239 (sB true) 240 (sB x16) 241 (sB x16) 242 (sB true) 243 (sB x17)) 244 (sB x17) 245 (sB true) 246 (sB x18) 247 (sB x18) 248 (sB true) 249 (sB x20) 250 (sB x20) 251 (sB true)) 252 (sI x21) 253 (sB ((x21==0))) 254 (sB ((x21==0))) 255 (sB true) 256 (sR 19 2) 257 (sT s2) 258 (sB (((ByteArray.toList s2)==(ByteArray.toList (⟨#[49,50,51,52,53,54,55,56]⟩:ByteArray))))) 259 (sB (((ByteArray.toList s2)==(ByteArray.toList (⟨#[49,50,51,52,53,54,55,56]⟩:ByteArray)))))) 260 (sB true) 261 (sR 19 3) 262 (sI i4) 263 (sB ((i4==2))) 264 (sB ((i4==2))) 265 (sB true) 266 (sI x23) 267 (sB ((x23==1)))) 268 (sB ((x23==1))) 269 (sB false) 270 sU 271 sU 272 (sB false) 273 (sB false) 274 sU 275 (sB false)) 0 (sB false)) (upd V0 19 (36,k19)) hp)) (K (upd (w8 (w8 (w8 (w8 (w8 (w8 (w8 E 220 (sB x4) 221 (sB true) 222 (sB x5) 223 (sB x5) 224 (sB true) 225 (sB x9) 226 (sB x9) 227 (sB true)) 228 (sB x10) 229 (sB x10) 230 (sB true) 231 (sB x12) 232 (sB x12) 233 (sB true) 234 (sB x13) 235 (sB x13)) 236 (sB true) 237 (sB x14) 238 (sB x14) 239 (sB true) 240 (sB x16) 241 (sB x16) 242 (sB true) 243 (sB x17)) 244 (sB x17) 245 (sB true) 246 (sB x18) 247 (sB x18) 248 (sB true) 249 (sB x20) 250 (sB x20) 251 (sB true)) 252 (sI x21) 253 (sB ((x21==0))) 254 (sB ((x21==0))) 255 (sB true) 256 (sR 19 2) 257 (sT s2) 258 (sB (((ByteArray.toList s2)==(ByteArray.toList (⟨#[49,50,51,52,53,54,55,56]⟩:ByteArray))))) 259 (sB (((ByteArray.toList s2)==(ByteArray.toList (⟨#[49,50,51,52,53,54,55,56]⟩:ByteArray)))))) 260 (sB true) 261 (sR 19 3) 262 (sI i4) 263 (sB ((i4==2))) 264 (sB ((i4==2))) 265 (sB false) 266 sU 267 sU) 268 (sB false) 269 (sB false) 270 sU 271 sU 272 (sB false) 273 (sB false) 274 sU 275 (sB false)) 0 (sB false)) (upd V0 19 (36,k19)) hp)) (K (upd (w8 (w8 (w8 (w8 (w8 (w8 (w8 E 220 (sB x4) 221 (sB true) 222 (sB x5) 223 (sB x5) 224 (sB true) 225 (sB x9) 226 (sB x9) 227 (sB true)) 228 (sB x10) 229 (sB x10) 230 (sB true) 231 (sB x12) 232 (sB x12) 233 (sB true) 234 (sB x13) 235 (sB x13)) 236 (sB true) 237 (sB x14) 238 (sB x14) 239 (sB true) 240 (sB x16) 241 (sB x16) 242 (sB true) 243 (sB x17)) 244 (sB x17) 245 (sB true) 246 (sB x18) 247 (sB x18) 248 (sB true) 249 (sB x20) 250 (sB x20) 251 (sB true)) 252 (sI x21) 253 (sB ((x21==0))) 254 (sB ((x21==0))) 255 (sB true) 256 (sR 19 2) 257 (sT s2) 258 (sB (((ByteArray.toList s2)==(ByteArray.toList (⟨#[49,50,51,52,53,54,55,56]⟩:ByteArray))))) 259 (sB (((ByteArray.toList s2)==(ByteArray.toList (⟨#[49,50,51,52,53,54,55,56]⟩:ByteArray)))))) 260 (sB false) 261 sU 262 sU 263 sU 264 (sB false) 265 (sB false) 266 sU 267 sU) 268 (sB false) 269 (sB false) 270 sU 271 sU 272 (sB false) 273 (sB false) 274 sU 275 (sB false)) 0 (sB false)) (upd V0 19 (36,k19)) hp)) (K (upd (w8 (w8 (w8 (w8 (w8 (w8 (w8 E 220 (sB x4) 221 (sB true) 222 (sB x5) 223 (sB x5) 224 (sB true) 225 (sB x9) 226 (sB x9) 227 (sB true)) 228 (sB x10) 229 (sB x10) 230 (sB true) 231 (sB x12) 232 (sB x12) 233 (sB true) 234 (sB x13) 235 (sB x13)) 236 (sB true) 237 (sB x14) 238 (sB x14) 239 (sB true) 240 (sB x16) 241 (sB x16) 242 (sB true) 243 (sB x17)) 244 (sB x17) 245 (sB true) 246 (sB x18) 247 (sB x18) 248 (sB true) 249 (sB x20) 250 (sB x20) 251 (sB true)) 252 (sI x21) 253 (sB ((x21==0))) 254 (sB ((x21==0))) 255 (sB false) 256 sU 257 sU 258 sU 259 (sB false)) 260 (sB false) 261 sU 262 sU 263 sU 264 (sB false) 265 (sB false) 266 sU 267 sU) 268 (sB false) 269 (sB false) 270 sU 271 sU 272 (sB false) 273 (sB false) 274 sU 275 (sB false)) 0 (sB false)) (upd V0 19 (36,k19)) hp)) (K (upd (w8 (w8 (w8 (w8 (w8 (w8 (w8 E 220 (sB x4) 221 (sB true) 222 (sB x5) 223 (sB x5) 224 (sB true) 225 (sB x9) 226 (sB x9) 227 (sB true)) 228 (sB x10) 229 (sB x10) 230 (sB true) 231 (sB x12) 232 (sB x12) 233 (sB true) 234 (sB x13) 235 (sB x13)) 236 (sB true) 237 (sB x14) 238 (sB x14) 239 (sB true) 240 (sB x16) 241 (sB x16) 242 (sB true) 243 (sB x17)) 244 (sB x17) 245 (sB true) 246 (sB x18) 247 (sB x18) 248 (sB true) 249 (sB x20) 250 (sB x20) 251 (sB false)) 252 sU 253 sU 254 (sB false) 255 (sB false) 256 sU 257 sU 258 sU 259 (sB false)) 260 (sB false) 261 sU 262 sU 263 sU 264 (sB false) 265 (sB false) 266 sU 267 sU) 268 (sB false) 269 (sB false) 270 sU 271 sU 272 (sB false) 273 (sB false) 274 sU 275 (sB false)) 0 (sB false)) (upd V0 19 (36,k19)) hp)) (K (upd (w8 (w8 (w8 (w8 (w8 (w8 (w8 E 220 (sB x4) 221 (sB true) 222 (sB x5) 223 (sB x5) 224 (sB true) 225 (sB x9) 226 (sB x9) 227 (sB true)) 228 (sB x10) 229 (sB x10) 230 (sB true) 231 (sB x12) 232 (sB x12) 233 (sB true) 234 (sB x13) 235 (sB x13)) 236 (sB true) 237 (sB x14) 238 (sB x14) 239 (sB true) 240 (sB x16) 241 (sB x16) 242 (sB true) 243 (sB x17)) 244 (sB x17) 245 (sB true) 246 (sB x18) 247 (sB x18) 248 (sB false) 249 sU 250 (sB false) 251 (sB false)) 252 sU 253 sU 254 (sB false) 255 (sB false) 256 sU 257 sU 258 sU 259 (sB false)) 260 (sB false) 261 sU 262 sU 263 sU 264 (sB false) 265 (sB false) 266 sU 267 sU) 268 (sB false) 269 (sB false) 270 sU 271 sU 272 (sB false) 273 (sB false) 274 sU 275 (sB false)) 0 (sB false)) (upd V0 19 (36,k19)) hp)) (K (upd (w8 (w8 (w8 (w8 (w8 (w8 (w8 E 220 (sB x4) 221 (sB true) 222 (sB x5) 223 (sB x5) 224 (sB true) 225 (sB x9) 226 (sB x9) 227 (sB true)) 228 (sB x10) 229 (sB x10) 230 (sB true) 231 (sB x12) 232 (sB x12) 233 (sB true) 234 (sB x13) 235 (sB x13)) 236 (sB true) 237 (sB x14) 238 (sB x14) 239 (sB true) 240 (sB x16) 241 (sB x16) 242 (sB true) 243 (sB x17)) 244 (sB x17) 245 (sB false) 246 sU 247 (sB false) 248 (sB false) 249 sU 250 (sB false) 251 (sB false)) 252 sU 253 sU 254 (sB false) 255 (sB false) 256 sU 257 sU 258 sU 259 (sB false)) 260 (sB false) 261 sU 262 sU 263 sU 264 (sB false) 265 (sB false) 266 sU 267 sU) 268 (sB false) 269 (sB false) 270 sU 271 sU 272 (sB false) 273 (sB false) 274 sU 275 (sB false)) 0 (sB false)) (upd V0 19 (36,k19)) hp)) (K (upd (w8 (w8 (w8 (w8 (w8 (w8 (w8 E 220 (sB x4) 221 (sB true) 222 (sB x5) 223 (sB x5) 224 (sB true) 225 (sB x9) 226 (sB x9) 227 (sB true)) 228 (sB x10) 229 (sB x10) 230 (sB true) 231 (sB x12) 232 (sB x12) 233 (sB true) 234 (sB x13) 235 (sB x13)) 236 (sB true) 237 (sB x14) 238 (sB x14) 239 (sB true) 240 (sB x16) 241 (sB x16) 242 (sB false) 243 sU) 244 (sB false) 245 (sB false) 246 sU 247 (sB false) 248 (sB false) 249 sU 250 (sB false) 251 (sB false)) 252 sU 253 sU 254 (sB false) 255 (sB false) 256 sU 257 sU 258 sU 259 (sB false)) 260 (sB false) 261 sU 262 sU 263 sU 264 (sB false) 265 (sB false) 266 sU 267 sU) 268 (sB false) 269 (sB false) 270 sU 271 sU 272 (sB false) 273 (sB false) 274 sU 275 (sB false)) 0 (sB false)) (upd V0 19 (36,k19)) hp)) (K (upd (w8 (w8 (w8 (w8 (w8 (w8 (w8 E 220 (sB x4) 221 (sB true) 222 (sB x5) 223 (sB x5) 224 (sB true) 225 (sB x9) 226 (sB x9) 227 (sB true)) 228 (sB x10) 229 (sB x10) 230 (sB true) 231 (sB x12) 232 (sB x12) 233 (sB true) 234 (sB x13) 235 (sB x13)) 236 (sB true) 237 (sB x14) 238 (sB x14) 239 (sB false) 240 sU 241 (sB false) 242 (sB false) 243 sU) 244 (sB false) 245 (sB false) 246 sU 247 (sB false) 248 (sB false) 249 sU 250 (sB false) 251 (sB false)) 252 sU 253 sU 254 (sB false) 255 (sB false) 256 sU 257 sU 258 sU 259 (sB false)) 260 (sB false) 261 sU 262 sU 263 sU 264 (sB false) 265 (sB false) 266 sU 267 sU) 268 (sB false) 269 (sB false) 270 sU 271 sU 272 (sB false) 273 (sB false) 274 sU 275 (sB false)) 0 (sB false)) (upd V0 19 (36,k19)) hp)) (K (upd (w8 (w8 (w8 (w8 (w8 (w8 (w8 E 220 (sB x4) 221 (sB true) 222 (sB x5) 223 (sB x5) 224 (sB true) 225 (sB x9) 226 (sB x9) 227 (sB true)) 228 (sB x10) 229 (sB x10) 230 (sB true) 231 (sB x12) 232 (sB x12) 233 (sB true) 234 (sB x13) 235 (sB x13)) 236 (sB false) 237 sU 238 (sB false) 239 (sB false) 240 sU 241 (sB false) 242 (sB false) 243 sU) 244 (sB false) 245 (sB false) 246 sU 247 (sB false) 248 (sB false) 249 sU 250 (sB false) 251 (sB false)) 252 sU 253 sU 254 (sB false) 255 (sB false) 256 sU 257 sU 258 sU 259 (sB false)) 260 (sB false) 261 sU 262 sU 263 sU 264 (sB false) 265 (sB false) 266 sU 267 sU) 268 (sB false) 269 (sB false) 270 sU 271 sU 272 (sB false) 273 (sB false) 274 sU 275 (sB false)) 0 (sB false)) (upd V0 19 (36,k19)) hp)) (K (upd (w8 (w8 (w8 (w8 (w8 (w8 (w8 E 220 (sB x4) 221 (sB true) 222 (sB x5) 223 (sB x5) 224 (sB true) 225 (sB x9) 226 (sB x9) 227 (sB true)) 228 (sB x10) 229 (sB x10) 230 (sB true) 231 (sB x12) 232 (sB x12) 233 (sB false) 234 sU 235 (sB false)) 236 (sB false) 237 sU 238 (sB false) 239 (sB false) 240 sU 241 (sB false) 242 (sB false) 243 sU) 244 (sB false) 245 (sB false) 246 sU 247 (sB false) 248 (sB false) 249 sU 250 (sB false) 251 (sB false)) 252 sU 253 sU 254 (sB false) 255 (sB false) 256 sU 257 sU 258 sU 259 (sB false)) 260 (sB false) 261 sU 262 sU 263 sU 264 (sB false) 265 (sB false) 266 sU 267 sU) 268 (sB false) 269 (sB false) 270 sU 271 sU 272 (sB false) 273 (sB false) 274 sU 275 (sB false)) 0 (sB false)) (upd V0 19 (36,k19)) hp)) (K (upd (w8 (w8 (w8 (w8 (w8 (w8 (w8 E 220 (sB x4) 221 (sB true) 222 (sB x5) 223 (sB x5) 224 (sB true) 225 (sB x9) 226 (sB x9) 227 (sB true)) 228 (sB x10) 229 (sB x10) 230 (sB false) 231 sU 232 (sB false) 233 (sB false) 234 sU 235 (sB false)) 236 (sB false) 237 sU 238 (sB false) 239 (sB false) 240 sU 241 (sB false) 242 (sB false) 243 sU) 244 (sB false) 245 (sB false) 246 sU 247 (sB false) 248 (sB false) 249 sU 250 (sB false) 251 (sB false)) 252 sU 253 sU 254 (sB false) 255 (sB false) 256 sU 257 sU 258 sU 259 (sB false)) 260 (sB false) 261 sU 262 sU 263 sU 264 (sB false) 265 (sB false) 266 sU 267 sU) 268 (sB false) 269 (sB false) 270 sU 271 sU 272 (sB false) 273 (sB false) 274 sU 275 (sB false)) 0 (sB false)) (upd V0 19 (36,k19)) hp)) (K (upd (w8 (w8 (w8 (w8 (w8 (w8 (w8 E 220 (sB x4) 221 (sB true) 222 (sB x5) 223 (sB x5) 224 (sB true) 225 (sB x9) 226 (sB x9) 227 (sB false)) 228 sU 229 (sB false) 230 (sB false) 231 sU 232 (sB false) 233 (sB false) 234 sU 235 (sB false)) 236 (sB false) 237 sU 238 (sB false) 239 (sB false) 240 sU 241 (sB false) 242 (sB false) 243 sU) 244 (sB false) 245 (sB false) 246 sU 247 (sB false) 248 (sB false) 249 sU 250 (sB false) 251 (sB false)) 252 sU 253 sU 254 (sB false) 255 (sB false) 256 sU 257 sU 258 sU 259 (sB false)) 260 (sB false) 261 sU 262 sU 263 sU 264 (sB false) 265 (sB false) 266 sU 267 sU) 268 (sB false) 269 (sB false) 270 sU 271 sU 272 (sB false) 273 (sB false) 274 sU 275 (sB false)) 0 (sB false)) (upd V0 19 (36,k19)) hp)) (K (upd (w8 (w8 (w8 (w8 (w8 (w8 (w8 E 220 (sB x4) 221 (sB true) 222 (sB x5) 223 (sB x5) 224 (sB false) 225 sU 226 (sB false) 227 (sB false)) 228 sU 229 (sB false) 230 (sB false) 231 sU 232 (sB false) 233 (sB false) 234 sU 235 (sB false)) 236 (sB false) 237 sU 238 (sB false) 239 (sB false) 240 sU 241 (sB false) 242 (sB false) 243 sU) 244 (sB false) 245 (sB false) 246 sU 247 (sB false) 248 (sB false) 249 sU 250 (sB false) 251 (sB false)) 252 sU 253 sU 254 (sB false) 255 (sB false) 256 sU 257 sU 258 sU 259 (sB false)) 260 (sB false) 261 sU 262 sU 263 sU 264 (sB false) 265 (sB false) 266 sU 267 sU) 268 (sB false) 269 (sB false) 270 sU 271 sU 272 (sB false) 273 (sB false) 274 sU 275 (sB false)) 0 (sB false)) (upd V0 19 (36,k19)) hp)) (K (upd (w8 (w8 (w8 (w8 (w8 (w8 (w8 E 220 (sB x4) 221 (sB false) 222 sU 223 (sB false) 224 (sB false) 225 sU 226 (sB false) 227 (sB false)) 228 sU 229 (sB false) 230 (sB false) 231 sU 232 (sB false) 233 (sB false) 234 sU 235 (sB false)) 236 (sB false) 237 sU 238 (sB false) 239 (sB false) 240 sU 241 (sB false) 242 (sB false) 243 sU) 244 (sB false) 245 (sB false) 246 sU 247 (sB false) 248 (sB false) 249 sU 250 (sB false) 251 (sB false)) 252 sU 253 sU 254 (sB false) 255 (sB false) 256 sU 257 sU 258 sU 259 (sB false)) 260 (sB false) 261 sU 262 sU 263 sU 264 (sB false) 265 (sB false) 266 sU 267 sU) 268 (sB false) 269 (sB false) 270 sU 271 sU 272 (sB false) 273 (sB false) 274 sU 275 (sB false)) 0 (sB false)) (upd V0 19 (36,k19)) hp):= by subst h; kernel_rfl
def F19_j12 (x4 x5 x9 x10 x12 x13 x14 x16 x17 x18 x20:Bool) (x21:Int) (k19:List Value) (hp:HP) (K:Kh):Prop:=
  (CF Try.prog 25 [.int .i64 0,(.int .i64 1)] hp fun u27 h28=>tup2V u27 fun u29 u30=>ptrV u29 fun p31=>intV u30 .i64 fun i32=>CF Try.prog 25 [(.int .i64 1),(.int .i64 65537)] h28 fun u33 h34=>tup2V u33 fun u35 u36=>ptrV u35 fun p37=>intV u36 .i64 fun i38=>ite2 x4 (ite2 x5 (ite2 x9 (ite2 x10 (ite2 x12 (ite2 x13 (ite2 x14 (ite2 x16 (ite2 x17 (ite2 x18 (ite2 x20 (ite2 (x21==0) (ldV (k19)[2]? fun v39=>strV v39 fun s40=>ite2 ((ByteArray.toList s40)==(ByteArray.toList (⟨#[49,50,51,52,53,54,55,56]⟩:ByteArray))) (ldV (k19)[3]? fun v41=>intV v41 .i64 fun i42=>ite2 (i42==2) (ite2 (i32==1) (ite2 (i38==1) (CF Try.prog 22 [] h34 fun u43 h44=>boolV u43 fun q45=>K (.bool q45) h44) (K (.bool false) h34)) (K (.bool false) h34)) (K (.bool false) h34)) (K (.bool false) h34)) (K (.bool false) h34)) (K (.bool false) h34)) (K (.bool false) h34)) (K (.bool false) h34)) (K (.bool false) h34)) (K (.bool false) h34)) (K (.bool false) h34)) (K (.bool false) h34)) (K (.bool false) h34)) (K (.bool false) h34)) (K (.bool false) h34)) (K (.bool false) h34))
theorem F19_r11 {e:Env} {x1:OA} {hp:HP} {K:Env→PV→HP→Prop}:RW Try.prog 276 [6,11,19,134,256,261] (opsAt Try.f19 (pth 786431)) [0,1,2,3,4,5,6,7,8,9,10] (upd e 1 (sP x1)) V0 hp K=
 ptrN x1 fun b1 o2=>(ldV (HP.cell hp b1 o2) fun v3=>ptrV v3 fun p4=>CF Try.prog 72 [.int .i64 0,(.bool true),(.string (⟨#[49,50,51,52,53,54,55,56]⟩:ByteArray))] hp fun u5 h6=>aggV u5 fun l7=>CF Try.prog 26 [(.pointer p4),(.agg ⟨l7⟩),(.int .i64 4)] h6 fun u8 h9=>tup3V u8 fun u10 u11 u12=>aggV u10 fun l13=>boolV u11 fun q14=>intV u12 .i64 fun i15=>if List.length l13=4 then (if List.all l13 one=true then (if 0+List.length l13≤List.length [(Value.string ⟨#[]⟩),.string ⟨#[]⟩,.string ⟨#[]⟩,.int .i64 0] then (K (w3 (w8 e 1 (sP x1) 206 (sP p4) 207 (sA l7) 208 (sV (.tuple ⟨[(.agg ⟨l13⟩),(.bool q14),(.int .i64 i15)]⟩)) 205 (sV (.tuple ⟨[(.agg ⟨l13⟩),(.bool q14),(.int .i64 i15)]⟩)) 209 (sA l13) 210 (sB q14) 211 (sI i15)) 19 (sR 19 0) 20 (sB q14) 21 (sI i15)) (w2 V0 19 (36,[.string ⟨#[]⟩,.string ⟨#[]⟩,.string ⟨#[]⟩,.int .i64 0]) 19 (36,(splice [.string ⟨#[]⟩,.string ⟨#[]⟩,.string ⟨#[]⟩,.int .i64 0] 0 l13))) h9) else False) else False) else False):= by kernel_rfl
theorem F19_r12 {e:Env} {x1:OA} {hp:HP} {K:Env→PV→HP→Prop}:RW Try.prog 276 [6,11,19,134,256,261] (opsAt Try.f19 (pth 786431)) [1,0,2,3,4,5,6,7,8,9,10] (upd e 1 (sP x1)) V0 hp K=
 CF Try.prog 72 [.int .i64 0,(.bool true),(.string (⟨#[49,50,51,52,53,54,55,56]⟩:ByteArray))] hp fun u1 h2=>(aggV u1 fun l3=>ptrN x1 fun b4 o5=>ldV (HP.cell h2 b4 o5) fun v6=>ptrV v6 fun p7=>CF Try.prog 26 [(.pointer p7),(.agg ⟨l3⟩),(.int .i64 4)] h2 fun u8 h9=>tup3V u8 fun u10 u11 u12=>aggV u10 fun l13=>boolV u11 fun q14=>intV u12 .i64 fun i15=>if List.length l13=4 then (if List.all l13 one=true then (if 0+List.length l13≤List.length [(Value.string ⟨#[]⟩),.string ⟨#[]⟩,.string ⟨#[]⟩,.int .i64 0] then (K (w3 (w8 e 1 (sP x1) 207 (sA l3) 206 (sP p7) 208 (sV (.tuple ⟨[(.agg ⟨l13⟩),(.bool q14),(.int .i64 i15)]⟩)) 205 (sV (.tuple ⟨[(.agg ⟨l13⟩),(.bool q14),(.int .i64 i15)]⟩)) 209 (sA l13) 210 (sB q14) 211 (sI i15)) 19 (sR 19 0) 20 (sB q14) 21 (sI i15)) (w2 V0 19 (36,[.string ⟨#[]⟩,.string ⟨#[]⟩,.string ⟨#[]⟩,.int .i64 0]) 19 (36,(splice [.string ⟨#[]⟩,.string ⟨#[]⟩,.string ⟨#[]⟩,.int .i64 0] 0 l13))) h9) else False) else False) else False):= by kernel_rfl
def F19_j11 (x1:OA) (x3:Value) (x4 x5 x9 x10 x12 x13 x14 x16 x17:Bool) (hp:HP) (K:Kh):Prop:=
  (CF Try.prog 72 [(.int .i64 8),.bool false,(.string (⟨#[]⟩:ByteArray))] hp fun u18 h19=>aggV u18 fun l20=>fnV x3 fun f21 ga_22 gb_23=>CF Try.prog f21 (ga_22++[(Value.agg ⟨l20⟩),(.int .i64 4)]++gb_23) h19 fun u24 h25=>intV u24 .i64 fun i26=>(ptrN x1 fun b46 o47=>ldV (HP.cell h25 b46 o47) fun v48=>ptrV v48 fun p49=>CF Try.prog 72 [.int .i64 0,(.bool true),(.string (⟨#[49,50,51,52,53,54,55,56]⟩:ByteArray))] h25 fun u50 h51=>aggV u50 fun l52=>CF Try.prog 26 [(.pointer p49),(.agg ⟨l52⟩),(.int .i64 4)] h51 fun u53 h54=>tup3V u53 fun u55 u56 u57=>aggV u55 fun l58=>boolV u56 fun q59=>intV u57 .i64 fun i60=>if List.length l58=4 then (if List.all l58 one=true then (if 0+List.length l58≤List.length [(Value.string ⟨#[]⟩),.string ⟨#[]⟩,.string ⟨#[]⟩,.int .i64 0] then (F19_j12 x4 x5 x9 x10 x12 x13 x14 x16 x17 (i26==0) q59 i60 (splice [.string ⟨#[]⟩,.string ⟨#[]⟩,.string ⟨#[]⟩,.int .i64 0] 0 l58) h54  K) else False) else False) else False)∧(CF Try.prog 72 [.int .i64 0,(.bool true),(.string (⟨#[49,50,51,52,53,54,55,56]⟩:ByteArray))] h25 fun u61 h62=>aggV u61 fun l63=>ptrN x1 fun b64 o65=>ldV (HP.cell h62 b64 o65) fun v66=>ptrV v66 fun p67=>CF Try.prog 26 [(.pointer p67),(.agg ⟨l63⟩),(.int .i64 4)] h62 fun u68 h69=>tup3V u68 fun u70 u71 u72=>aggV u70 fun l73=>boolV u71 fun q74=>intV u72 .i64 fun i75=>if List.length l73=4 then (if List.all l73 one=true then (if 0+List.length l73≤List.length [(Value.string ⟨#[]⟩),.string ⟨#[]⟩,.string ⟨#[]⟩,.int .i64 0] then (F19_j12 x4 x5 x9 x10 x12 x13 x14 x16 x17 (i26==0) q74 i75 (splice [.string ⟨#[]⟩,.string ⟨#[]⟩,.string ⟨#[]⟩,.int .i64 0] 0 l73) h69  K) else False) else False) else False))
theorem F19_r13:R19 196607 24 e V0 hp K=
 CF Try.prog 72 [(.int .i64 65528),.bool false,(.string (⟨#[49,50,51,52,53,54,55]⟩:ByteArray))] hp fun u1 h2=>(aggV u1 fun l3=>CF Try.prog 67 [(.agg ⟨l3⟩)] h2 fun u4 h5=>boolV u4 fun q6=>ite2 q6 (CF Try.prog 72 [(.int .i64 65528),.bool false,(.string (⟨#[49,50,51,52,53,54,55,56]⟩:ByteArray))] h5 fun u7 h8=>aggV u7 fun l9=>CF Try.prog 67 [(.agg ⟨l9⟩)] h8 fun u10 h11=>boolV u10 fun q12=>ite2 (!q12) (CF Try.prog 73 [(.string (⟨#[120]⟩:ByteArray)),(.int .i64 65535)] h11 fun u13 h14=>strV u13 fun s15=>CF Try.prog 72 [.int .i64 0,.bool false,(.string s15)] h14 fun u16 h17=>aggV u16 fun l18=>CF Try.prog 67 [(.agg ⟨l18⟩)] h17 fun u19 h20=>boolV u19 fun q21=>ite2 q21 (CF Try.prog 73 [(.string (⟨#[120]⟩:ByteArray)),(.int .i64 65536)] h20 fun u22 h23=>strV u22 fun s24=>CF Try.prog 72 [.int .i64 0,.bool false,(.string s24)] h23 fun u25 h26=>aggV u25 fun l27=>CF Try.prog 67 [(.agg ⟨l27⟩)] h26 fun u28 h29=>boolV u28 fun q30=>ite2 (!q30) (CF Try.prog 72 [(.int .i64 65536),.bool false,(.string (⟨#[]⟩:ByteArray))] h29 fun u31 h32=>aggV u31 fun l33=>CF Try.prog 67 [(.agg ⟨l33⟩)] h32 fun u34 h35=>boolV u34 fun q36=>K (w8 (w8 (w8 e 178 (sA l3) 179 (sB q6) 180 (sB true) 181 (sA l9) 182 (sB q12) 183 (sB ((!q12))) 184 (sB ((!q12))) 185 (sB true)) 186 (sT s15) 187 (sA l18) 188 (sB q21) 189 (sB q21) 190 (sB true) 191 (sT s24) 192 (sA l27) 193 (sB q30)) 194 (sB ((!q30))) 195 (sB ((!q30))) 196 (sB true) 197 (sA l33) 198 (sB q36) 199 (sB ((!q36))) 200 (sB ((!q36))) 17 (sB ((!q36)))) V0 h35) (K (w8 (w8 (w8 e 178 (sA l3) 179 (sB q6) 180 (sB true) 181 (sA l9) 182 (sB q12) 183 (sB ((!q12))) 184 (sB ((!q12))) 185 (sB true)) 186 (sT s15) 187 (sA l18) 188 (sB q21) 189 (sB q21) 190 (sB true) 191 (sT s24) 192 (sA l27) 193 (sB q30)) 194 (sB ((!q30))) 195 (sB ((!q30))) 196 (sB false) 197 sU 198 sU 199 sU 200 (sB false) 17 (sB false)) V0 h29)) (K (w8 (w8 (w8 e 178 (sA l3) 179 (sB q6) 180 (sB true) 181 (sA l9) 182 (sB q12) 183 (sB ((!q12))) 184 (sB ((!q12))) 185 (sB true)) 186 (sT s15) 187 (sA l18) 188 (sB q21) 189 (sB q21) 190 (sB false) 191 sU 192 sU 193 sU) 194 sU 195 (sB false) 196 (sB false) 197 sU 198 sU 199 sU 200 (sB false) 17 (sB false)) V0 h20)) (K (w8 (w8 (w8 e 178 (sA l3) 179 (sB q6) 180 (sB true) 181 (sA l9) 182 (sB q12) 183 (sB ((!q12))) 184 (sB ((!q12))) 185 (sB false)) 186 sU 187 sU 188 sU 189 (sB false) 190 (sB false) 191 sU 192 sU 193 sU) 194 sU 195 (sB false) 196 (sB false) 197 sU 198 sU 199 sU 200 (sB false) 17 (sB false)) V0 h11)) (K (w8 (w8 (w8 e 178 (sA l3) 179 (sB q6) 180 (sB false) 181 sU 182 sU 183 sU 184 (sB false) 185 (sB false)) 186 sU 187 sU 188 sU 189 (sB false) 190 (sB false) 191 sU 192 sU 193 sU) 194 sU 195 (sB false) 196 (sB false) 197 sU 198 sU 199 sU 200 (sB false) 17 (sB false)) V0 h5)):= by kernel_rfl
def F19_j10 (x1:OA) (x3:Value) (x4 x5 x9 x10 x12 x13 x14 x16:Bool) (hp:HP) (K:Kh):Prop:=
  (CF Try.prog 72 [(.int .i64 65528),.bool false,(.string (⟨#[49,50,51,52,53,54,55]⟩:ByteArray))] hp fun u76 h77=>aggV u76 fun l78=>CF Try.prog 67 [(.agg ⟨l78⟩)] h77 fun u79 h80=>boolV u79 fun q81=>ite2 q81 (CF Try.prog 72 [(.int .i64 65528),.bool false,(.string (⟨#[49,50,51,52,53,54,55,56]⟩:ByteArray))] h80 fun u82 h83=>aggV u82 fun l84=>CF Try.prog 67 [(.agg ⟨l84⟩)] h83 fun u85 h86=>boolV u85 fun q87=>ite2 (!q87) (CF Try.prog 73 [(.string (⟨#[120]⟩:ByteArray)),(.int .i64 65535)] h86 fun u88 h89=>strV u88 fun s90=>CF Try.prog 72 [.int .i64 0,.bool false,(.string s90)] h89 fun u91 h92=>aggV u91 fun l93=>CF Try.prog 67 [(.agg ⟨l93⟩)] h92 fun u94 h95=>boolV u94 fun q96=>ite2 q96 (CF Try.prog 73 [(.string (⟨#[120]⟩:ByteArray)),(.int .i64 65536)] h95 fun u97 h98=>strV u97 fun s99=>CF Try.prog 72 [.int .i64 0,.bool false,(.string s99)] h98 fun u100 h101=>aggV u100 fun l102=>CF Try.prog 67 [(.agg ⟨l102⟩)] h101 fun u103 h104=>boolV u103 fun q105=>ite2 (!q105) (CF Try.prog 72 [(.int .i64 65536),.bool false,(.string (⟨#[]⟩:ByteArray))] h104 fun u106 h107=>aggV u106 fun l108=>CF Try.prog 67 [(.agg ⟨l108⟩)] h107 fun u109 h110=>boolV u109 fun q111=>F19_j11 x1 x3 x4 x5 x9 x10 x12 x13 x14 x16 (!q111) h110  K) (F19_j11 x1 x3 x4 x5 x9 x10 x12 x13 x14 x16 false h104  K)) (F19_j11 x1 x3 x4 x5 x9 x10 x12 x13 x14 x16 false h95  K)) (F19_j11 x1 x3 x4 x5 x9 x10 x12 x13 x14 x16 false h86  K)) (F19_j11 x1 x3 x4 x5 x9 x10 x12 x13 x14 x16 false h80  K))
theorem F19_r14 (h:E=upd (upd e 15 (sS x15a x15n x15c)) 1 (sP x1)):R19 98303 16 E V0 hp K=
    (ite2 (((x15n:Nat):Int)==1) ((0≤(0:Int))∧((0:Int)<x15n)∧(ptrN x15a fun b1 o2=>ldL (HP.cellN hp b1 (o2+Int.toNat 0*4) 4) fun l3=>eqAgg Try.prog 36 l3 [(.string (⟨#[108]⟩:ByteArray)),.string ⟨#[]⟩,.string ⟨#[]⟩,(.int .i64 1)] fun q4=>ite2 q4 (ptrN x1 fun b5 o6=>ldV (HP.cell hp b5 o6) fun v7=>ptrV v7 fun p8=>CF Try.prog 27 [(.pointer p8)] hp fun u9 h10=>intV u9 .i64 fun i11=>K (w8 (w8 E 163 (sS x15a x15n x15c) 164 (sI ((x15n:Nat))) 165 (sB ((((x15n:Nat):Int)==1))) 166 (sB true) 167 (sS x15a x15n x15c) 168 (sQ b1 (o2+Int.toNat 0*4)) 169 (sA l3) 170 (sV (.agg ⟨[(.string (⟨#[108]⟩:ByteArray)),.string ⟨#[]⟩,.string ⟨#[]⟩,(.int .i64 1)]⟩))) 171 (sB q4) 172 (sB q4) 173 (sB true) 174 (sP p8) 175 (sI i11) 176 (sB ((i11==0))) 177 (sB ((i11==0))) 16 (sB ((i11==0)))) V0 h10) (K (w8 (w8 E 163 (sS x15a x15n x15c) 164 (sI ((x15n:Nat))) 165 (sB ((((x15n:Nat):Int)==1))) 166 (sB true) 167 (sS x15a x15n x15c) 168 (sQ b1 (o2+Int.toNat 0*4)) 169 (sA l3) 170 (sV (.agg ⟨[(.string (⟨#[108]⟩:ByteArray)),.string ⟨#[]⟩,.string ⟨#[]⟩,(.int .i64 1)]⟩))) 171 (sB q4) 172 (sB q4) 173 (sB false) 174 sU 175 sU 176 sU 177 (sB false) 16 (sB false)) V0 hp))) (K (w8 (w8 E 163 (sS x15a x15n x15c) 164 (sI ((x15n:Nat))) 165 (sB ((((x15n:Nat):Int)==1))) 166 (sB false) 167 sU 168 sU 169 sU 170 sU) 171 sU 172 (sB false) 173 (sB false) 174 sU 175 sU 176 sU 177 (sB false) 16 (sB false)) V0 hp)):=by subst h; kernel_rfl
def F19_j9 (x1:OA) (x3:Value) (x4 x5 x9 x10 x12 x13 x14:Bool) (hp:HP) (K:Kh):Prop:=
  (ptrN x1 fun b9 o10=>ldV (HP.cell hp b9 o10) fun v11=>ptrV v11 fun p12=>CF Try.prog 62 [(.pointer p12),(.int .i64 3)] hp fun u13 h14=>slcV u13 fun a15 n16 c17=>ite2 (((n16:Nat):Int)==1) ((0≤(0:Int))∧((0:Int)<n16)∧(ptrN a15 fun b112 o113=>ldL (HP.cellN h14 b112 (o113+Int.toNat 0*4) 4) fun l114=>eqAgg Try.prog 36 l114 [(.string (⟨#[108]⟩:ByteArray)),.string ⟨#[]⟩,.string ⟨#[]⟩,(.int .i64 1)] fun q115=>ite2 q115 (ptrN x1 fun b116 o117=>ldV (HP.cell h14 b116 o117) fun v118=>ptrV v118 fun p119=>CF Try.prog 27 [(.pointer p119)] h14 fun u120 h121=>intV u120 .i64 fun i122=>F19_j10 x1 x3 x4 x5 x9 x10 x12 x13 x14 (i122==0) h121  K) (F19_j10 x1 x3 x4 x5 x9 x10 x12 x13 x14 false h14  K))) (F19_j10 x1 x3 x4 x5 x9 x10 x12 x13 x14 false h14  K))
theorem F19_r15 (h:E=upd (upd e 3 (sV x3)) 1 (sP x1)):R19 24575 10 E V0 hp K=
 CF Try.prog 72 [(.int .i64 8),.bool false,(.string (⟨#[120]⟩:ByteArray))] hp fun u1 h2=>(aggV u1 fun l3=>fnV x3 fun f4 ga5 gb6=>CF Try.prog f4 (ga5++[(Value.agg ⟨l3⟩),(.int .i64 3)]++gb6) h2 fun u7 h8=>intV u7 .i64 fun i9=>ite2 (i9==5) (ptrN x1 fun b10 o11=>ldV (HP.cell h8 b10 o11) fun v12=>ptrV v12 fun p13=>CF Try.prog 27 [(.pointer p13)] h8 fun u14 h15=>intV u14 .i64 fun i16=>K (w2 (w8 E 152 (sV x3) 153 (sA l3) 154 (sI i9) 155 (sB ((i9==5))) 156 (sB true) 157 (sP p13) 158 (sI i16) 159 (sB ((i16==1)))) 160 (sB ((i16==1))) 14 (sB ((i16==1)))) V0 h15) (K (w2 (w8 E 152 (sV x3) 153 (sA l3) 154 (sI i9) 155 (sB ((i9==5))) 156 (sB false) 157 sU 158 sU 159 sU) 160 (sB false) 14 (sB false)) V0 h8)):= by subst h; kernel_rfl
def F19_j8 (x1:OA) (x3:Value) (x4 x5 x9 x10 x12 x13:Bool) (hp:HP) (K:Kh):Prop:=
  (CF Try.prog 72 [(.int .i64 8),.bool false,(.string (⟨#[120]⟩:ByteArray))] hp fun u123 h124=>aggV u123 fun l125=>fnV x3 fun f126 ga_127 gb_128=>CF Try.prog f126 (ga_127++[(Value.agg ⟨l125⟩),(.int .i64 3)]++gb_128) h124 fun u129 h130=>intV u129 .i64 fun i131=>ite2 (i131==5) (ptrN x1 fun b132 o133=>ldV (HP.cell h130 b132 o133) fun v134=>ptrV v134 fun p135=>CF Try.prog 27 [(.pointer p135)] h130 fun u136 h137=>intV u136 .i64 fun i138=>F19_j9 x1 x3 x4 x5 x9 x10 x12 x13 (i138==1) h137  K) (F19_j9 x1 x3 x4 x5 x9 x10 x12 x13 false h130  K))
theorem F19_r16 (h:E=upd (w2 e 11 (sR 11 0) 3 (sV x3)) 1 (sP x1)):R19 12287 18 E (upd V0 11 (29,k11)) hp K=
    (ldL (cellsN k11 0 6) fun l1=>fnV x3 fun f2 ga3 gb4=>CF Try.prog f2 (ga3++[(Value.agg ⟨l1⟩),(.int .i64 3)]++gb4) hp fun u5 h6=>intV u5 .i64 fun i7=>ite2 (i7==6) (ptrN x1 fun b8 o9=>ldV (HP.cell h6 b8 o9) fun v10=>ptrV v10 fun p11=>CF Try.prog 60 [(.pointer p11)] h6 fun u12 h13=>slcV u12 fun a14 n15 c16=>ite2 (((n15:Nat):Int)==2) (ptrN x1 fun b17 o18=>ldV (HP.cell h13 b17 o18) fun v19=>ptrV v19 fun p20=>CF Try.prog 60 [(.pointer p20)] h13 fun u21 h22=>slcV u21 fun a23 n24 c25=>(0≤(0:Int))∧((0:Int)<n24)∧(ptrN a23 fun b26 o27=>ldV (HP.cell h22 b26 (o27+Int.toNat 0*1)) fun v28=>strV v28 fun s29=>K (w2 (w8 (w8 E 135 (sV x3) 136 (sA l1) 137 (sI i7) 138 (sB ((i7==6))) 139 (sB true) 140 (sP p11) 141 (sS a14 n15 c16) 142 (sI ((n15:Nat)))) 143 (sB ((((n15:Nat):Int)==2))) 144 (sB ((((n15:Nat):Int)==2))) 145 (sB true) 146 (sP p20) 147 (sS a23 n24 c25) 148 (sQ b26 (o27+Int.toNat 0*1)) 149 (sT s29) 150 (sB (((ByteArray.toList s29)==(ByteArray.toList (⟨#[107]⟩:ByteArray)))))) 151 (sB (((ByteArray.toList s29)==(ByteArray.toList (⟨#[107]⟩:ByteArray))))) 13 (sB (((ByteArray.toList s29)==(ByteArray.toList (⟨#[107]⟩:ByteArray)))))) (upd V0 11 (29,k11)) h22)) (K (w2 (w8 (w8 E 135 (sV x3) 136 (sA l1) 137 (sI i7) 138 (sB ((i7==6))) 139 (sB true) 140 (sP p11) 141 (sS a14 n15 c16) 142 (sI ((n15:Nat)))) 143 (sB ((((n15:Nat):Int)==2))) 144 (sB ((((n15:Nat):Int)==2))) 145 (sB false) 146 sU 147 sU 148 sU 149 sU 150 sU) 151 (sB false) 13 (sB false)) (upd V0 11 (29,k11)) h13)) (K (w2 (w8 (w8 E 135 (sV x3) 136 (sA l1) 137 (sI i7) 138 (sB ((i7==6))) 139 (sB false) 140 sU 141 sU 142 sU) 143 sU 144 (sB false) 145 (sB false) 146 sU 147 sU 148 sU 149 sU 150 sU) 151 (sB false) 13 (sB false)) (upd V0 11 (29,k11)) h6)):=by subst h; kernel_rfl
def F19_j7 (x1:OA) (x3:Value) (x4 x5 x9 x10 x12:Bool) (k11:List Value) (hp:HP) (K:Kh):Prop:=
  (if 0<List.length k11 then (ldL (cellsN (List.set k11 0 (.string (⟨#[109]⟩:ByteArray))) 0 6) fun l139=>fnV x3 fun f140 ga_141 gb_142=>CF Try.prog f140 (ga_141++[(Value.agg ⟨l139⟩),(.int .i64 3)]++gb_142) hp fun u143 h144=>intV u143 .i64 fun i145=>ite2 (i145==6) (ptrN x1 fun b146 o147=>ldV (HP.cell h144 b146 o147) fun v148=>ptrV v148 fun p149=>CF Try.prog 60 [(.pointer p149)] h144 fun u150 h151=>slcV u150 fun a152 n153 c154=>ite2 (((n153:Nat):Int)==2) (ptrN x1 fun b155 o156=>ldV (HP.cell h151 b155 o156) fun v157=>ptrV v157 fun p158=>CF Try.prog 60 [(.pointer p158)] h151 fun u159 h160=>slcV u159 fun a161 n162 c163=>(0≤(0:Int))∧((0:Int)<n162)∧(ptrN a161 fun b164 o165=>ldV (HP.cell h160 b164 (o165+Int.toNat 0*1)) fun v166=>strV v166 fun s167=>F19_j8 x1 x3 x4 x5 x9 x10 x12 ((ByteArray.toList s167)==(ByteArray.toList (⟨#[107]⟩:ByteArray))) h160  K)) (F19_j8 x1 x3 x4 x5 x9 x10 x12 false h151  K)) (F19_j8 x1 x3 x4 x5 x9 x10 x12 false h144  K)) else False)
theorem F19_r17 (h:E=upd (w2 e 11 (sR 11 0) 3 (sV x3)) 1 (sP x1)):R19 3071 15 E (upd V0 11 (29,k11)) hp K=
 ldL (cellsN k11 0 6) fun l1=>(fnV x3 fun f2 ga3 gb4=>CF Try.prog f2 (ga3++[(Value.agg ⟨l1⟩),(.int .i64 3)]++gb4) hp fun u5 h6=>intV u5 .i64 fun i7=>ite2 (i7==0) (ptrN x1 fun b8 o9=>ldV (HP.cell h6 b8 o9) fun v10=>ptrV v10 fun p11=>CF Try.prog 70 [(.pointer p11),(.string (⟨#[116]⟩:ByteArray))] h6 fun u12 h13=>intV u12 .i64 fun i14=>ite2 (i14==1) (ptrN x1 fun b15 o16=>ldV (HP.cell h13 b15 o16) fun v17=>ptrV v17 fun p18=>CF Try.prog 27 [(.pointer p18)] h13 fun u19 h20=>intV u19 .i64 fun i21=>K (w7 (w8 E 120 (sV x3) 121 (sA l1) 122 (sI i7) 123 (sB ((i7==0))) 124 (sB true) 125 (sP p11) 126 (sI i14) 127 (sB ((i14==1)))) 128 (sB ((i14==1))) 129 (sB true) 130 (sP p18) 131 (sI i21) 132 (sB ((i21==4))) 133 (sB ((i21==4))) 12 (sB ((i21==4)))) (upd V0 11 (29,k11)) h20) (K (w7 (w8 E 120 (sV x3) 121 (sA l1) 122 (sI i7) 123 (sB ((i7==0))) 124 (sB true) 125 (sP p11) 126 (sI i14) 127 (sB ((i14==1)))) 128 (sB ((i14==1))) 129 (sB false) 130 sU 131 sU 132 sU 133 (sB false) 12 (sB false)) (upd V0 11 (29,k11)) h13)) (K (w7 (w8 E 120 (sV x3) 121 (sA l1) 122 (sI i7) 123 (sB ((i7==0))) 124 (sB false) 125 sU 126 sU 127 sU) 128 (sB false) 129 (sB false) 130 sU 131 sU 132 sU 133 (sB false) 12 (sB false)) (upd V0 11 (29,k11)) h6)):= by subst h; kernel_rfl
def F19_j6 (x1:OA) (x3:Value) (x4 x5 x9 x10:Bool) (hp:HP) (K:Kh):Prop:=
  (if List.length [(Value.string (⟨#[108]⟩:ByteArray)),(.string (⟨#[116]⟩:ByteArray)),(.int .i64 8),.bool false,(.string (⟨#[122]⟩:ByteArray)),(.string (⟨#[104]⟩:ByteArray))]=6 then (if List.all [(Value.string (⟨#[108]⟩:ByteArray)),(.string (⟨#[116]⟩:ByteArray)),(.int .i64 8),.bool false,(.string (⟨#[122]⟩:ByteArray)),(.string (⟨#[104]⟩:ByteArray))] one=true then (if 0+List.length [(Value.string (⟨#[108]⟩:ByteArray)),(.string (⟨#[116]⟩:ByteArray)),(.int .i64 8),.bool false,(.string (⟨#[122]⟩:ByteArray)),(.string (⟨#[104]⟩:ByteArray))]≤List.length [(Value.string ⟨#[]⟩),.string ⟨#[]⟩,.int .i64 0,.bool false,.string ⟨#[]⟩,.string ⟨#[]⟩] then (ldL (cellsN (splice [.string ⟨#[]⟩,.string ⟨#[]⟩,.int .i64 0,.bool false,.string ⟨#[]⟩,.string ⟨#[]⟩] 0 [(.string (⟨#[108]⟩:ByteArray)),(.string (⟨#[116]⟩:ByteArray)),(.int .i64 8),.bool false,(.string (⟨#[122]⟩:ByteArray)),(.string (⟨#[104]⟩:ByteArray))]) 0 6) fun l168=>fnV x3 fun f169 ga_170 gb_171=>CF Try.prog f169 (ga_170++[(Value.agg ⟨l168⟩),(.int .i64 3)]++gb_171) hp fun u172 h173=>intV u172 .i64 fun i174=>ite2 (i174==0) (ptrN x1 fun b175 o176=>ldV (HP.cell h173 b175 o176) fun v177=>ptrV v177 fun p178=>CF Try.prog 70 [(.pointer p178),(.string (⟨#[116]⟩:ByteArray))] h173 fun u179 h180=>intV u179 .i64 fun i181=>ite2 (i181==1) (ptrN x1 fun b182 o183=>ldV (HP.cell h180 b182 o183) fun v184=>ptrV v184 fun p185=>CF Try.prog 27 [(.pointer p185)] h180 fun u186 h187=>intV u186 .i64 fun i188=>F19_j7 x1 x3 x4 x5 x9 x10 (i188==4) (splice [.string ⟨#[]⟩,.string ⟨#[]⟩,.int .i64 0,.bool false,.string ⟨#[]⟩,.string ⟨#[]⟩] 0 [(.string (⟨#[108]⟩:ByteArray)),(.string (⟨#[116]⟩:ByteArray)),(.int .i64 8),.bool false,(.string (⟨#[122]⟩:ByteArray)),(.string (⟨#[104]⟩:ByteArray))]) h187  K) (F19_j7 x1 x3 x4 x5 x9 x10 false (splice [.string ⟨#[]⟩,.string ⟨#[]⟩,.int .i64 0,.bool false,.string ⟨#[]⟩,.string ⟨#[]⟩] 0 [(.string (⟨#[108]⟩:ByteArray)),(.string (⟨#[116]⟩:ByteArray)),(.int .i64 8),.bool false,(.string (⟨#[122]⟩:ByteArray)),(.string (⟨#[104]⟩:ByteArray))]) h180  K)) (F19_j7 x1 x3 x4 x5 x9 x10 false (splice [.string ⟨#[]⟩,.string ⟨#[]⟩,.int .i64 0,.bool false,.string ⟨#[]⟩,.string ⟨#[]⟩] 0 [(.string (⟨#[108]⟩:ByteArray)),(.string (⟨#[116]⟩:ByteArray)),(.int .i64 8),.bool false,(.string (⟨#[122]⟩:ByteArray)),(.string (⟨#[104]⟩:ByteArray))]) h173  K)) else False) else False) else False)
theorem F19_r18 (h:E=upd e 3 (sV x3)):R19 767 23 E V0 hp K=
 CF Try.prog 72 [(.int .i64 8),(.bool true),(.string (⟨#[49,50,51,52,53,54,55,56]⟩:ByteArray))] hp fun u1 h2=>(aggV u1 fun l3=>fnV x3 fun f4 ga5 gb6=>CF Try.prog f4 (ga5++[(Value.agg ⟨l3⟩),(.int .i64 5)]++gb6) h2 fun u7 h8=>intV u7 .i64 fun i9=>ite2 (i9==0) (CF Try.prog 72 [(.int .i64 16),(.bool true),(.string (⟨#[49,50,51,52,53,54,55,56]⟩:ByteArray))] h8 fun u10 h11=>aggV u10 fun l12=>fnV x3 fun f13 ga14 gb15=>CF Try.prog f13 (ga14++[(Value.agg ⟨l12⟩),(.int .i64 9)]++gb15) h11 fun u16 h17=>intV u16 .i64 fun i18=>ite2 (i18==0) (CF Try.prog 72 [(.int .i64 24),(.bool true),(.string (⟨#[49,50,51,52,53,54,55,56]⟩:ByteArray))] h17 fun u19 h20=>aggV u19 fun l21=>fnV x3 fun f22 ga23 gb24=>CF Try.prog f22 (ga23++[(Value.agg ⟨l21⟩),(.int .i64 9)]++gb24) h20 fun u25 h26=>intV u25 .i64 fun i27=>ite2 (i27==0) (CF Try.prog 72 [(.int .i64 32),(.bool true),(.string (⟨#[49,50,51,52,53,54,55,56]⟩:ByteArray))] h26 fun u28 h29=>aggV u28 fun l30=>fnV x3 fun f31 ga32 gb33=>CF Try.prog f31 (ga32++[(Value.agg ⟨l30⟩),(.int .i64 9)]++gb33) h29 fun u34 h35=>intV u34 .i64 fun i36=>K (w7 (w8 (w8 E 97 (sV x3) 98 (sA l3) 99 (sI i9) 100 (sB ((i9==0))) 101 (sB true) 102 (sV x3) 103 (sA l12) 104 (sI i18)) 105 (sB ((i18==0))) 106 (sB ((i18==0))) 107 (sB true) 108 (sV x3) 109 (sA l21) 110 (sI i27) 111 (sB ((i27==0))) 112 (sB ((i27==0)))) 113 (sB true) 114 (sV x3) 115 (sA l30) 116 (sI i36) 117 (sB ((i36==11))) 118 (sB ((i36==11))) 10 (sB ((i36==11)))) V0 h35) (K (w7 (w8 (w8 E 97 (sV x3) 98 (sA l3) 99 (sI i9) 100 (sB ((i9==0))) 101 (sB true) 102 (sV x3) 103 (sA l12) 104 (sI i18)) 105 (sB ((i18==0))) 106 (sB ((i18==0))) 107 (sB true) 108 (sV x3) 109 (sA l21) 110 (sI i27) 111 (sB ((i27==0))) 112 (sB ((i27==0)))) 113 (sB false) 114 sU 115 sU 116 sU 117 sU 118 (sB false) 10 (sB false)) V0 h26)) (K (w7 (w8 (w8 E 97 (sV x3) 98 (sA l3) 99 (sI i9) 100 (sB ((i9==0))) 101 (sB true) 102 (sV x3) 103 (sA l12) 104 (sI i18)) 105 (sB ((i18==0))) 106 (sB ((i18==0))) 107 (sB false) 108 sU 109 sU 110 sU 111 sU 112 (sB false)) 113 (sB false) 114 sU 115 sU 116 sU 117 sU 118 (sB false) 10 (sB false)) V0 h17)) (K (w7 (w8 (w8 E 97 (sV x3) 98 (sA l3) 99 (sI i9) 100 (sB ((i9==0))) 101 (sB false) 102 sU 103 sU 104 sU) 105 sU 106 (sB false) 107 (sB false) 108 sU 109 sU 110 sU 111 sU 112 (sB false)) 113 (sB false) 114 sU 115 sU 116 sU 117 sU 118 (sB false) 10 (sB false)) V0 h8)):= by subst h; kernel_rfl
def F19_j5 (x1:OA) (x3:Value) (x4 x5 x9:Bool) (hp:HP) (K:Kh):Prop:=
  (CF Try.prog 72 [(.int .i64 8),(.bool true),(.string (⟨#[49,50,51,52,53,54,55,56]⟩:ByteArray))] hp fun u189 h190=>aggV u189 fun l191=>fnV x3 fun f192 ga_193 gb_194=>CF Try.prog f192 (ga_193++[(Value.agg ⟨l191⟩),(.int .i64 5)]++gb_194) h190 fun u195 h196=>intV u195 .i64 fun i197=>ite2 (i197==0) (CF Try.prog 72 [(.int .i64 16),(.bool true),(.string (⟨#[49,50,51,52,53,54,55,56]⟩:ByteArray))] h196 fun u198 h199=>aggV u198 fun l200=>fnV x3 fun f201 ga_202 gb_203=>CF Try.prog f201 (ga_202++[(Value.agg ⟨l200⟩),(.int .i64 9)]++gb_203) h199 fun u204 h205=>intV u204 .i64 fun i206=>ite2 (i206==0) (CF Try.prog 72 [(.int .i64 24),(.bool true),(.string (⟨#[49,50,51,52,53,54,55,56]⟩:ByteArray))] h205 fun u207 h208=>aggV u207 fun l209=>fnV x3 fun f210 ga_211 gb_212=>CF Try.prog f210 (ga_211++[(Value.agg ⟨l209⟩),(.int .i64 9)]++gb_212) h208 fun u213 h214=>intV u213 .i64 fun i215=>ite2 (i215==0) (CF Try.prog 72 [(.int .i64 32),(.bool true),(.string (⟨#[49,50,51,52,53,54,55,56]⟩:ByteArray))] h214 fun u216 h217=>aggV u216 fun l218=>fnV x3 fun f219 ga_220 gb_221=>CF Try.prog f219 (ga_220++[(Value.agg ⟨l218⟩),(.int .i64 9)]++gb_221) h217 fun u222 h223=>intV u222 .i64 fun i224=>F19_j6 x1 x3 x4 x5 x9 (i224==11) h223  K) (F19_j6 x1 x3 x4 x5 x9 false h214  K)) (F19_j6 x1 x3 x4 x5 x9 false h205  K)) (F19_j6 x1 x3 x4 x5 x9 false h196  K))
theorem F19_r19 (h:E=upd (w2 e 8 (sI x8) 7 (sB x7)) 6 (sR 6 0)):R19 383 11 E (upd V0 6 (36,k6)) hp K=
 ite2 x7 (ite2 (x8==0) (ldL (cellsN k6 0 4) fun l1=>eqAgg Try.prog 36 l1 [(.string (⟨#[107]⟩:ByteArray)),.string ⟨#[]⟩,(.string (⟨#[120]⟩:ByteArray)),(.int .i64 1)] fun q2=>K (w3 (w8 E 87 (sB x7) 88 (sB true) 89 (sI x8) 90 (sB ((x8==0))) 91 (sB ((x8==0))) 92 (sB true) 93 (sA l1) 94 (sV (.agg ⟨[(.string (⟨#[107]⟩:ByteArray)),.string ⟨#[]⟩,(.string (⟨#[120]⟩:ByteArray)),(.int .i64 1)]⟩))) 95 (sB q2) 96 (sB q2) 9 (sB q2)) (upd V0 6 (36,k6)) hp) (K (w3 (w8 E 87 (sB x7) 88 (sB true) 89 (sI x8) 90 (sB ((x8==0))) 91 (sB ((x8==0))) 92 (sB false) 93 sU 94 sU) 95 sU 96 (sB false) 9 (sB false)) (upd V0 6 (36,k6)) hp)) (K (w3 (w8 E 87 (sB x7) 88 (sB false) 89 sU 90 sU 91 (sB false) 92 (sB false) 93 sU 94 sU) 95 sU 96 (sB false) 9 (sB false)) (upd V0 6 (36,k6)) hp):= by subst h; kernel_rfl
def F19_j4 (x1:OA) (x3:Value) (x4 x5 x7:Bool) (x8:Int) (k6:List Value) (hp:HP) (K:Kh):Prop:=
  (ite2 x7 (ite2 (x8==0) (ldL (cellsN k6 0 4) fun l225=>eqAgg Try.prog 36 l225 [(.string (⟨#[107]⟩:ByteArray)),.string ⟨#[]⟩,(.string (⟨#[120]⟩:ByteArray)),(.int .i64 1)] fun q226=>F19_j5 x1 x3 x4 x5 q226 hp  K) (F19_j5 x1 x3 x4 x5 false hp  K)) (F19_j5 x1 x3 x4 x5 false hp  K))
theorem F19_r20 {e:Env} {x1:OA} {hp:HP} {K:Env→PV→HP→Prop}:RW Try.prog 276 [6,11,19,134,256,261] (opsAt Try.f19 (pth 191)) [0,1,2,3,4,5,6,7,8,9,10] (upd e 1 (sP x1)) V0 hp K=
 ptrN x1 fun b1 o2=>(ldV (HP.cell hp b1 o2) fun v3=>ptrV v3 fun p4=>CF Try.prog 72 [.int .i64 0,.bool false,(.string (⟨#[120]⟩:ByteArray))] hp fun u5 h6=>aggV u5 fun l7=>CF Try.prog 26 [(.pointer p4),(.agg ⟨l7⟩),(.int .i64 5)] h6 fun u8 h9=>tup3V u8 fun u10 u11 u12=>aggV u10 fun l13=>boolV u11 fun q14=>intV u12 .i64 fun i15=>if List.length l13=4 then (if List.all l13 one=true then (if 0+List.length l13≤List.length [(Value.string ⟨#[]⟩),.string ⟨#[]⟩,.string ⟨#[]⟩,.int .i64 0] then (K (w3 (w8 e 1 (sP x1) 81 (sP p4) 82 (sA l7) 83 (sV (.tuple ⟨[(.agg ⟨l13⟩),(.bool q14),(.int .i64 i15)]⟩)) 80 (sV (.tuple ⟨[(.agg ⟨l13⟩),(.bool q14),(.int .i64 i15)]⟩)) 84 (sA l13) 85 (sB q14) 86 (sI i15)) 6 (sR 6 0) 7 (sB q14) 8 (sI i15)) (w2 V0 6 (36,[.string ⟨#[]⟩,.string ⟨#[]⟩,.string ⟨#[]⟩,.int .i64 0]) 6 (36,(splice [.string ⟨#[]⟩,.string ⟨#[]⟩,.string ⟨#[]⟩,.int .i64 0] 0 l13))) h9) else False) else False) else False):= by kernel_rfl
theorem F19_r21 {e:Env} {x1:OA} {hp:HP} {K:Env→PV→HP→Prop}:RW Try.prog 276 [6,11,19,134,256,261] (opsAt Try.f19 (pth 191)) [1,0,2,3,4,5,6,7,8,9,10] (upd e 1 (sP x1)) V0 hp K=
 CF Try.prog 72 [.int .i64 0,.bool false,(.string (⟨#[120]⟩:ByteArray))] hp fun u1 h2=>(aggV u1 fun l3=>ptrN x1 fun b4 o5=>ldV (HP.cell h2 b4 o5) fun v6=>ptrV v6 fun p7=>CF Try.prog 26 [(.pointer p7),(.agg ⟨l3⟩),(.int .i64 5)] h2 fun u8 h9=>tup3V u8 fun u10 u11 u12=>aggV u10 fun l13=>boolV u11 fun q14=>intV u12 .i64 fun i15=>if List.length l13=4 then (if List.all l13 one=true then (if 0+List.length l13≤List.length [(Value.string ⟨#[]⟩),.string ⟨#[]⟩,.string ⟨#[]⟩,.int .i64 0] then (K (w3 (w8 e 1 (sP x1) 82 (sA l3) 81 (sP p7) 83 (sV (.tuple ⟨[(.agg ⟨l13⟩),(.bool q14),(.int .i64 i15)]⟩)) 80 (sV (.tuple ⟨[(.agg ⟨l13⟩),(.bool q14),(.int .i64 i15)]⟩)) 84 (sA l13) 85 (sB q14) 86 (sI i15)) 6 (sR 6 0) 7 (sB q14) 8 (sI i15)) (w2 V0 6 (36,[.string ⟨#[]⟩,.string ⟨#[]⟩,.string ⟨#[]⟩,.int .i64 0]) 6 (36,(splice [.string ⟨#[]⟩,.string ⟨#[]⟩,.string ⟨#[]⟩,.int .i64 0] 0 l13))) h9) else False) else False) else False):= by kernel_rfl
def F19_j3 (x1:OA) (x3:Value) (x4 x5:Bool) (hp:HP) (K:Kh):Prop:=
  ((ptrN x1 fun b227 o228=>ldV (HP.cell hp b227 o228) fun v229=>ptrV v229 fun p230=>CF Try.prog 72 [.int .i64 0,.bool false,(.string (⟨#[120]⟩:ByteArray))] hp fun u231 h232=>aggV u231 fun l233=>CF Try.prog 26 [(.pointer p230),(.agg ⟨l233⟩),(.int .i64 5)] h232 fun u234 h235=>tup3V u234 fun u236 u237 u238=>aggV u236 fun l239=>boolV u237 fun q240=>intV u238 .i64 fun i241=>if List.length l239=4 then (if List.all l239 one=true then (if 0+List.length l239≤List.length [(Value.string ⟨#[]⟩),.string ⟨#[]⟩,.string ⟨#[]⟩,.int .i64 0] then (F19_j4 x1 x3 x4 x5 q240 i241 (splice [.string ⟨#[]⟩,.string ⟨#[]⟩,.string ⟨#[]⟩,.int .i64 0] 0 l239) h235  K) else False) else False) else False)∧(CF Try.prog 72 [.int .i64 0,.bool false,(.string (⟨#[120]⟩:ByteArray))] hp fun u242 h243=>aggV u242 fun l244=>ptrN x1 fun b245 o246=>ldV (HP.cell h243 b245 o246) fun v247=>ptrV v247 fun p248=>CF Try.prog 26 [(.pointer p248),(.agg ⟨l244⟩),(.int .i64 5)] h243 fun u249 h250=>tup3V u249 fun u251 u252 u253=>aggV u251 fun l254=>boolV u252 fun q255=>intV u253 .i64 fun i256=>if List.length l254=4 then (if List.all l254 one=true then (if 0+List.length l254≤List.length [(Value.string ⟨#[]⟩),.string ⟨#[]⟩,.string ⟨#[]⟩,.int .i64 0] then (F19_j4 x1 x3 x4 x5 q255 i256 (splice [.string ⟨#[]⟩,.string ⟨#[]⟩,.string ⟨#[]⟩,.int .i64 0] 0 l254) h250  K) else False) else False) else False))
theorem F19_r22 (h:E=upd e 3 (sV x3)):R19 95 29 E V0 hp K=
 CF Try.prog 72 [(.int .i64 4),.bool false,(.string (⟨#[120]⟩:ByteArray))] hp fun u1 h2=>(aggV u1 fun l3=>fnV x3 fun f4 ga5 gb6=>CF Try.prog f4 (ga5++[(Value.agg ⟨l3⟩),(.int .i64 5)]++gb6) h2 fun u7 h8=>intV u7 .i64 fun i9=>ite2 (i9==8) (CF Try.prog 72 [.int .i64 0,(.bool true),(.string (⟨#[97,98,99]⟩:ByteArray))] h8 fun u10 h11=>aggV u10 fun l12=>fnV x3 fun f13 ga14 gb15=>CF Try.prog f13 (ga14++[(Value.agg ⟨l12⟩),(.int .i64 5)]++gb15) h11 fun u16 h17=>intV u16 .i64 fun i18=>ite2 (i18==8) (CF Try.prog 72 [(.int .i64 8),(.bool true),(.string (⟨#[]⟩:ByteArray))] h17 fun u19 h20=>aggV u19 fun l21=>fnV x3 fun f22 ga23 gb24=>CF Try.prog f22 (ga23++[(Value.agg ⟨l21⟩),(.int .i64 5)]++gb24) h20 fun u25 h26=>intV u25 .i64 fun i27=>ite2 (i27==8) (CF Try.prog 72 [(.int .i64 (-8)),.bool false,(.string (⟨#[120]⟩:ByteArray))] h26 fun u28 h29=>aggV u28 fun l30=>fnV x3 fun f31 ga32 gb33=>CF Try.prog f31 (ga32++[(Value.agg ⟨l30⟩),(.int .i64 5)]++gb33) h29 fun u34 h35=>intV u34 .i64 fun i36=>ite2 (i36==8) (CF Try.prog 72 [.int .i64 0,.bool false,(.string (⟨#[120]⟩:ByteArray))] h35 fun u37 h38=>aggV u37 fun l39=>fnV x3 fun f40 ga41 gb42=>CF Try.prog f40 (ga41++[(Value.agg ⟨l39⟩),(.int .i64 (-1))]++gb42) h38 fun u43 h44=>intV u43 .i64 fun i45=>K (w5 (w8 (w8 (w8 E 52 (sV x3) 53 (sA l3) 54 (sI i9) 55 (sB ((i9==8))) 56 (sB true) 57 (sV x3) 58 (sA l12) 59 (sI i18)) 60 (sB ((i18==8))) 61 (sB ((i18==8))) 62 (sB true) 63 (sV x3) 64 (sA l21) 65 (sI i27) 66 (sB ((i27==8))) 67 (sB ((i27==8)))) 68 (sB true) 69 (sV x3) 70 (sA l30) 71 (sI i36) 72 (sB ((i36==8))) 73 (sB ((i36==8))) 74 (sB true) 75 (sV x3)) 76 (sA l39) 77 (sI i45) 78 (sB ((i45==1))) 79 (sB ((i45==1))) 5 (sB ((i45==1)))) V0 h44) (K (w5 (w8 (w8 (w8 E 52 (sV x3) 53 (sA l3) 54 (sI i9) 55 (sB ((i9==8))) 56 (sB true) 57 (sV x3) 58 (sA l12) 59 (sI i18)) 60 (sB ((i18==8))) 61 (sB ((i18==8))) 62 (sB true) 63 (sV x3) 64 (sA l21) 65 (sI i27) 66 (sB ((i27==8))) 67 (sB ((i27==8)))) 68 (sB true) 69 (sV x3) 70 (sA l30) 71 (sI i36) 72 (sB ((i36==8))) 73 (sB ((i36==8))) 74 (sB false) 75 sU) 76 sU 77 sU 78 sU 79 (sB false) 5 (sB false)) V0 h35)) (K (w5 (w8 (w8 (w8 E 52 (sV x3) 53 (sA l3) 54 (sI i9) 55 (sB ((i9==8))) 56 (sB true) 57 (sV x3) 58 (sA l12) 59 (sI i18)) 60 (sB ((i18==8))) 61 (sB ((i18==8))) 62 (sB true) 63 (sV x3) 64 (sA l21) 65 (sI i27) 66 (sB ((i27==8))) 67 (sB ((i27==8)))) 68 (sB false) 69 sU 70 sU 71 sU 72 sU 73 (sB false) 74 (sB false) 75 sU) 76 sU 77 sU 78 sU 79 (sB false) 5 (sB false)) V0 h26)) (K (w5 (w8 (w8 (w8 E 52 (sV x3) 53 (sA l3) 54 (sI i9) 55 (sB ((i9==8))) 56 (sB true) 57 (sV x3) 58 (sA l12) 59 (sI i18)) 60 (sB ((i18==8))) 61 (sB ((i18==8))) 62 (sB false) 63 sU 64 sU 65 sU 66 sU 67 (sB false)) 68 (sB false) 69 sU 70 sU 71 sU 72 sU 73 (sB false) 74 (sB false) 75 sU) 76 sU 77 sU 78 sU 79 (sB false) 5 (sB false)) V0 h17)) (K (w5 (w8 (w8 (w8 E 52 (sV x3) 53 (sA l3) 54 (sI i9) 55 (sB ((i9==8))) 56 (sB false) 57 sU 58 sU 59 sU) 60 sU 61 (sB false) 62 (sB false) 63 sU 64 sU 65 sU 66 sU 67 (sB false)) 68 (sB false) 69 sU 70 sU 71 sU 72 sU 73 (sB false) 74 (sB false) 75 sU) 76 sU 77 sU 78 sU 79 (sB false) 5 (sB false)) V0 h8)):= by subst h; kernel_rfl
def F19_j2 (x1:OA) (x3:Value) (x4:Bool) (hp:HP) (K:Kh):Prop:=
  (CF Try.prog 72 [(.int .i64 4),.bool false,(.string (⟨#[120]⟩:ByteArray))] hp fun u257 h258=>aggV u257 fun l259=>fnV x3 fun f260 ga_261 gb_262=>CF Try.prog f260 (ga_261++[(Value.agg ⟨l259⟩),(.int .i64 5)]++gb_262) h258 fun u263 h264=>intV u263 .i64 fun i265=>ite2 (i265==8) (CF Try.prog 72 [.int .i64 0,(.bool true),(.string (⟨#[97,98,99]⟩:ByteArray))] h264 fun u266 h267=>aggV u266 fun l268=>fnV x3 fun f269 ga_270 gb_271=>CF Try.prog f269 (ga_270++[(Value.agg ⟨l268⟩),(.int .i64 5)]++gb_271) h267 fun u272 h273=>intV u272 .i64 fun i274=>ite2 (i274==8) (CF Try.prog 72 [(.int .i64 8),(.bool true),(.string (⟨#[]⟩:ByteArray))] h273 fun u275 h276=>aggV u275 fun l277=>fnV x3 fun f278 ga_279 gb_280=>CF Try.prog f278 (ga_279++[(Value.agg ⟨l277⟩),(.int .i64 5)]++gb_280) h276 fun u281 h282=>intV u281 .i64 fun i283=>ite2 (i283==8) (CF Try.prog 72 [(.int .i64 (-8)),.bool false,(.string (⟨#[120]⟩:ByteArray))] h282 fun u284 h285=>aggV u284 fun l286=>fnV x3 fun f287 ga_288 gb_289=>CF Try.prog f287 (ga_288++[(Value.agg ⟨l286⟩),(.int .i64 5)]++gb_289) h285 fun u290 h291=>intV u290 .i64 fun i292=>ite2 (i292==8) (CF Try.prog 72 [.int .i64 0,.bool false,(.string (⟨#[120]⟩:ByteArray))] h291 fun u293 h294=>aggV u293 fun l295=>fnV x3 fun f296 ga_297 gb_298=>CF Try.prog f296 (ga_297++[(Value.agg ⟨l295⟩),(.int .i64 (-1))]++gb_298) h294 fun u299 h300=>intV u299 .i64 fun i301=>F19_j3 x1 x3 x4 (i301==1) h300  K) (F19_j3 x1 x3 x4 false h291  K)) (F19_j3 x1 x3 x4 false h282  K)) (F19_j3 x1 x3 x4 false h273  K)) (F19_j3 x1 x3 x4 false h264  K))
theorem F19_r23 (h:E=upd (upd e 3 (sV x3)) 1 (sP x1)):R19 47 16 E V0 hp K=
 CF Try.prog 72 [.int .i64 0,(.bool true),(.string (⟨#[49,50,51,52,53,54,55,56]⟩:ByteArray))] hp fun u1 h2=>(aggV u1 fun l3=>fnV x3 fun f4 ga5 gb6=>CF Try.prog f4 (ga5++[(Value.agg ⟨l3⟩),(.int .i64 5)]++gb6) h2 fun u7 h8=>intV u7 .i64 fun i9=>ite2 (i9==0) (CF Try.prog 72 [.int .i64 0,(.bool true),(.string (⟨#[49,50,51,52,53,54,55,56,49,50,51,52,53,54,55,56]⟩:ByteArray))] h8 fun u10 h11=>aggV u10 fun l12=>fnV x3 fun f13 ga14 gb15=>CF Try.prog f13 (ga14++[(Value.agg ⟨l12⟩),(.int .i64 5)]++gb15) h11 fun u16 h17=>intV u16 .i64 fun i18=>ite2 (i18==5) (ptrN x1 fun b19 o20=>ldV (HP.cell h17 b19 o20) fun v21=>ptrV v21 fun p22=>CF Try.prog 27 [(.pointer p22)] h17 fun u23 h24=>intV u23 .i64 fun i25=>K (w8 (w8 E 37 (sV x3) 38 (sA l3) 39 (sI i9) 40 (sB ((i9==0))) 41 (sB true) 42 (sV x3) 43 (sA l12) 44 (sI i18)) 45 (sB ((i18==5))) 46 (sB ((i18==5))) 47 (sB true) 48 (sP p22) 49 (sI i25) 50 (sB ((i25==0))) 51 (sB ((i25==0))) 4 (sB ((i25==0)))) V0 h24) (K (w8 (w8 E 37 (sV x3) 38 (sA l3) 39 (sI i9) 40 (sB ((i9==0))) 41 (sB true) 42 (sV x3) 43 (sA l12) 44 (sI i18)) 45 (sB ((i18==5))) 46 (sB ((i18==5))) 47 (sB false) 48 sU 49 sU 50 sU 51 (sB false) 4 (sB false)) V0 h17)) (K (w8 (w8 E 37 (sV x3) 38 (sA l3) 39 (sI i9) 40 (sB ((i9==0))) 41 (sB false) 42 sU 43 sU 44 sU) 45 sU 46 (sB false) 47 (sB false) 48 sU 49 sU 50 sU 51 (sB false) 4 (sB false)) V0 h8)):= by subst h; kernel_rfl
def F19_j1 (x1:OA) (x35:Bool) (hp:HP) (K:Kh):Prop:=
  (ite2 x35 (K (.bool false) hp) (CF Try.prog 72 [.int .i64 0,(.bool true),(.string (⟨#[49,50,51,52,53,54,55,56]⟩:ByteArray))] hp fun u302 h303=>aggV u302 fun l304=>fnV ((.func (.func 71) ⟨[]⟩ ⟨[(.pointer x1)]⟩):Value) fun f305 ga_306 gb_307=>CF Try.prog f305 (ga_306++[(Value.agg ⟨l304⟩),(.int .i64 5)]++gb_307) h303 fun u308 h309=>intV u308 .i64 fun i310=>ite2 (i310==0) (CF Try.prog 72 [.int .i64 0,(.bool true),(.string (⟨#[49,50,51,52,53,54,55,56,49,50,51,52,53,54,55,56]⟩:ByteArray))] h309 fun u311 h312=>aggV u311 fun l313=>fnV ((.func (.func 71) ⟨[]⟩ ⟨[(.pointer x1)]⟩):Value) fun f314 ga_315 gb_316=>CF Try.prog f314 (ga_315++[(Value.agg ⟨l313⟩),(.int .i64 5)]++gb_316) h312 fun u317 h318=>intV u317 .i64 fun i319=>ite2 (i319==5) (ptrN x1 fun b320 o321=>ldV (HP.cell h318 b320 o321) fun v322=>ptrV v322 fun p323=>CF Try.prog 27 [(.pointer p323)] h318 fun u324 h325=>intV u324 .i64 fun i326=>F19_j2 x1 ((.func (.func 71) ⟨[]⟩ ⟨[(.pointer x1)]⟩):Value) (i326==0) h325  K) (F19_j2 x1 ((.func (.func 71) ⟨[]⟩ ⟨[(.pointer x1)]⟩):Value) false h318  K)) (F19_j2 x1 ((.func (.func 71) ⟨[]⟩ ⟨[(.pointer x1)]⟩):Value) false h309  K)))
theorem F19_r24 (h:E=upd (upd e 2 (sI x2)) 1 (sP x1)):R19 19 6 E V0 hp K=
 ite2 (x2 != 0) (K (w6 E 30 (sI x2) 31 (sB ((x2 != 0))) 32 (sB true) 33 sU 34 sU 35 (sB true)) V0 hp) (ptrN x1 fun b1 o2=>ldV (HP.cell hp b1 o2) fun v3=>ptrV v3 fun p4=>K (w6 E 30 (sI x2) 31 (sB ((x2 != 0))) 32 (sB false) 33 (sP p4) 34 (sB ((Option.isNone p4))) 35 (sB ((Option.isNone p4)))) V0 hp):= by subst h; kernel_rfl
def F19 (hp:HP) (K:Kh):Prop:=
  (CF Try.prog 25 [(.int .i64 4),(.int .i64 3)] hp fun u1 h2=>tup2V u1 fun u3 u4=>ptrV u3 fun p5=>intV u4 .i64 fun i6=>∀ b7:Nat,h2 b7=.none→(HP.st (HP.set h2 b7 (.cells 31 [(.pointer none)] 0)) b7 0 (.pointer p5) fun h8=>ite2 (i6 != 0) (F19_j1 (some ⟨b7,0,none⟩) true h8  K) (ptrN (some ⟨b7,0,none⟩) fun b327 o328=>ldV (HP.cell h8 b327 o328) fun v329=>ptrV v329 fun p330=>F19_j1 (some ⟨b7,0,none⟩) (Option.isNone p330) h8  K)))
noncomputable abbrev o19 (k n:Nat):Code:=.region k (opsAt Try.f19 (pth n)) false
noncomputable def F19_code:Code:=(.seq (o19 0 2) (.seq (o19 1 5) (.seq (.seq (o19 2 19) (.cond (.tmp 35) (.seq (o19 3 75) .ret) .skip)) (.seq (o19 4 23) (.seq (o19 5 47) (.seq (o19 6 95) (.seq (.region 7 (opsAt Try.f19 (pth 191)) true) (.seq (o19 8 383) (.seq (o19 9 767) (.seq (o19 10 1535) (.seq (o19 11 3071) (.seq (o19 12 6143) (.seq (o19 13 12287) (.seq (o19 14 24575) (.seq (o19 15 49151) (.seq (o19 16 98303) (.seq (o19 17 196607) (.seq (o19 18 393215) (.seq (.region 19 (opsAt Try.f19 (pth 786431)) true) (.seq (o19 20 1572863) (.seq (o19 21 3145727) (.seq (o19 22 6291455) .ret))))))))))))))))))))))
theorem F19_body:Try.f19.body=some F19_code:=by kernel_rfl
theorem F19_ok (hp:HP) (K:Kh) (h:F19  hp K):CF Try.prog 19 [] hp K:=by
 refine .inl ⟨by kernel_rfl,AC.intro (N:=276) Try.func19 F19_body rfl (Nat.le_of_ble_eq_true rfl) ?_⟩
 unfold F19 at h
 refine Ar F19_r0 ?_ Rn Sn Sn
 refine Ar F19_r1 ?_ Rn Sn Sn
 refine mC h fun u1 h2 h=>mT h fun u3 u4 h=>mP h fun p5 h=>mI h fun i6 h=>?_
 refine fun b7 hb_b_7=>?_
 replace h:=h b7 hb_b_7
 refine mw h fun h8 h=>?_
 refine Aq (As (fun env pv hp=>∃ x1 x35,Sub (w2 E0 35 (sB x35) 1 (sP x1)) env∧Sub V0 pv∧F19_j1 x1 x35 hp  K) ?_ ?_)
 ·refine Ag (F19_r24 rfl) ?_ (r2 1 2 Rn) (z2 Sn) Sn
  refine mt h (fun h=>?_) (fun h=>?_)
  ·exact ⟨_,_,(z2 Sn),Sn,h⟩
  ·refine mN h fun b327 o328 h=>mV h fun v329 h=>mP h fun p330 h=>?_
   exact ⟨_,_,(z2 Sn),Sn,h⟩
 ·rintro env pv hp ⟨x1,x35,he,hv,h⟩
  refine Ae ?_ (r2 1 35 Rn) he hv
  unfold F19_j1 at h
  refine Ac h rfl (fun h=>?_) (fun h=>?_)
  ·refine Ar F19_r2 ?_ Rn Sn Sn
   refine AWP.ret ?_
   exact h
  ·refine AWP.skip (Ar F19_r3 ?_ (r1 1 Rn) (z1 Sn) Sn)
   refine As (fun env pv hp=>∃ x1 x3 x4,Sub (w3 E0 4 (sB x4) 3 (sV x3) 1 (sP x1)) env∧Sub V0 pv∧F19_j2 x1 x3 x4 hp  K) ?_ ?_
   ·refine Ag (F19_r23 rfl) ?_ (r2 1 3 Rn) (z2 Sn) Sn
    refine mC h fun u302 h303 h=>mA h fun l304 h=>mF h fun f305 ga_306 gb_307 h=>mC h fun u308 h309 h=>mI h fun i310 h=>?_
    refine mt h (fun h=>?_) (fun h=>?_)
    ·refine mC h fun u311 h312 h=>mA h fun l313 h=>mF h fun f314 ga_315 gb_316 h=>mC h fun u317 h318 h=>mI h fun i319 h=>?_
     refine mt h (fun h=>?_) (fun h=>?_)
     ·refine mN h fun b320 o321 h=>mV h fun v322 h=>mP h fun p323 h=>mC h fun u324 h325 h=>mI h fun i326 h=>?_
      exact ⟨_,_,_,(z3 Sn),Sn,h⟩
     ·exact ⟨_,_,_,(z3 Sn),Sn,h⟩
    ·exact ⟨_,_,_,(z3 Sn),Sn,h⟩
   ·rintro env pv hp ⟨x1,x3,x4,he,hv,h⟩
    refine Ae ?_ (r3 1 3 4 Rn) he hv
    unfold F19_j2 at h
    refine As (fun env pv hp=>∃ x1 x3 x4 x5,Sub (w4 E0 5 (sB x5) 4 (sB x4) 3 (sV x3) 1 (sP x1)) env∧Sub V0 pv∧F19_j3 x1 x3 x4 x5 hp  K) ?_ ?_
    ·refine Ag (F19_r22 rfl) ?_ (r3 3 1 4 Rn) (z3 Sn) Sn
     refine mC h fun u257 h258 h=>mA h fun l259 h=>mF h fun f260 ga_261 gb_262 h=>mC h fun u263 h264 h=>mI h fun i265 h=>?_
     refine mt h (fun h=>?_) (fun h=>?_)
     ·refine mC h fun u266 h267 h=>mA h fun l268 h=>mF h fun f269 ga_270 gb_271 h=>mC h fun u272 h273 h=>mI h fun i274 h=>?_
      refine mt h (fun h=>?_) (fun h=>?_)
      ·refine mC h fun u275 h276 h=>mA h fun l277 h=>mF h fun f278 ga_279 gb_280 h=>mC h fun u281 h282 h=>mI h fun i283 h=>?_
       refine mt h (fun h=>?_) (fun h=>?_)
       ·refine mC h fun u284 h285 h=>mA h fun l286 h=>mF h fun f287 ga_288 gb_289 h=>mC h fun u290 h291 h=>mI h fun i292 h=>?_
        refine mt h (fun h=>?_) (fun h=>?_)
        ·refine mC h fun u293 h294 h=>mA h fun l295 h=>mF h fun f296 ga_297 gb_298 h=>mC h fun u299 h300 h=>mI h fun i301 h=>?_
         exact ⟨_,_,_,_,(z4 Sn),Sn,h⟩
        ·exact ⟨_,_,_,_,(z4 Sn),Sn,h⟩
       ·exact ⟨_,_,_,_,(z4 Sn),Sn,h⟩
      ·exact ⟨_,_,_,_,(z4 Sn),Sn,h⟩
     ·exact ⟨_,_,_,_,(z4 Sn),Sn,h⟩
    ·rintro env pv hp ⟨x1,x3,x4,x5,he,hv,h⟩
     refine Ae ?_ (r4 1 3 4 5 Rn) he hv
     unfold F19_j3 at h
     refine As (fun env pv hp=>∃ x1 x3 x4 x5 x7 x8 k6,Sub (w7 E0 8 (sI x8) 7 (sB x7) 6 (sR 6 0) 5 (sB x5) 4 (sB x4) 3 (sV x3) 1 (sP x1)) env∧Sub (upd V0 6 (36,k6)) pv∧(F19_j4 x1 x3 x4 x5 x7 x8 k6 hp  K)) ?_ ?_
     ·refine AWP.rgnF (cf:=[(0,1)]) (c:=[([true],true,[0,1,2,3,4,5,6,7,8,9,10]),([false],true,[1,0,2,3,4,5,6,7,8,9,10])]) (by kernel_rfl) (by kernel_rfl) (by kernel_rfl) (by kernel_rfl) (allO_t (Eq.mpr F19_r20 ?_) (allO_t (Eq.mpr F19_r21 ?_) trivial)) (r4 1 3 4 5 Rn) (z4 Sn) Sn
      ·replace h:=h.1
       refine mN h fun b227 o228 h=>mV h fun v229 h=>mP h fun p230 h=>mC h fun u231 h232 h=>mA h fun l233 h=>mC h fun u234 h235 h=>mU h fun u236 u237 u238 h=>mA h fun l239 h=>mB h fun q240 h=>mI h fun i241 h=>mf h fun h=>mf h fun h=>mf h fun h=>?_
       exact ⟨_,_,_,_,_,_,_,(z7 Sn),(z1 Sn),h⟩
      ·replace h:=h.2
       refine mC h fun u242 h243 h=>mA h fun l244 h=>mN h fun b245 o246 h=>mV h fun v247 h=>mP h fun p248 h=>mC h fun u249 h250 h=>mU h fun u251 u252 u253 h=>mA h fun l254 h=>mB h fun q255 h=>mI h fun i256 h=>mf h fun h=>mf h fun h=>mf h fun h=>?_
       exact ⟨_,_,_,_,_,_,_,(z7 Sn),(z1 Sn),h⟩
     ·rintro env pv hp ⟨x1,x3,x4,x5,x7,x8,k6,he,hv,h⟩
      refine Ae ?_ (r4 1 3 4 5 (rp 6 6 0 (r2 7 8 Rn))) he hv
      unfold F19_j4 at h
      refine As (fun env pv hp=>∃ x1 x3 x4 x5 x9,Sub (w5 E0 9 (sB x9) 5 (sB x5) 4 (sB x4) 3 (sV x3) 1 (sP x1)) env∧Sub V0 pv∧F19_j5 x1 x3 x4 x5 x9 hp  K) ?_ ?_
      ·refine Ag (F19_r19 rfl) ?_ (rp 6 6 0 (r6 7 8 1 3 4 5 Rn)) (z7 Sn) (z1 Sn)
       refine mt h (fun h=>?_) (fun h=>?_)
       ·refine mt h (fun h=>?_) (fun h=>?_)
        ·refine mL h fun l225 h=>mE h fun q226 h=>?_
         exact ⟨_,_,_,_,_,(z5 Sn),Sn,h⟩
        ·exact ⟨_,_,_,_,_,(z5 Sn),Sn,h⟩
       ·exact ⟨_,_,_,_,_,(z5 Sn),Sn,h⟩
      ·rintro env pv hp ⟨x1,x3,x4,x5,x9,he,hv,h⟩
       refine Ae ?_ (r5 1 3 4 5 9 Rn) he hv
       unfold F19_j5 at h
       refine As (fun env pv hp=>∃ x1 x3 x4 x5 x9 x10,Sub (w6 E0 10 (sB x10) 9 (sB x9) 5 (sB x5) 4 (sB x4) 3 (sV x3) 1 (sP x1)) env∧Sub V0 pv∧F19_j6 x1 x3 x4 x5 x9 x10 hp  K) ?_ ?_
       ·refine Ag (F19_r18 rfl) ?_ (r5 3 1 4 5 9 Rn) (z5 Sn) Sn
        refine mC h fun u189 h190 h=>mA h fun l191 h=>mF h fun f192 ga_193 gb_194 h=>mC h fun u195 h196 h=>mI h fun i197 h=>?_
        refine mt h (fun h=>?_) (fun h=>?_)
        ·refine mC h fun u198 h199 h=>mA h fun l200 h=>mF h fun f201 ga_202 gb_203 h=>mC h fun u204 h205 h=>mI h fun i206 h=>?_
         refine mt h (fun h=>?_) (fun h=>?_)
         ·refine mC h fun u207 h208 h=>mA h fun l209 h=>mF h fun f210 ga_211 gb_212 h=>mC h fun u213 h214 h=>mI h fun i215 h=>?_
          refine mt h (fun h=>?_) (fun h=>?_)
          ·refine mC h fun u216 h217 h=>mA h fun l218 h=>mF h fun f219 ga_220 gb_221 h=>mC h fun u222 h223 h=>mI h fun i224 h=>?_
           exact ⟨_,_,_,_,_,_,(z6 Sn),Sn,h⟩
          ·exact ⟨_,_,_,_,_,_,(z6 Sn),Sn,h⟩
         ·exact ⟨_,_,_,_,_,_,(z6 Sn),Sn,h⟩
        ·exact ⟨_,_,_,_,_,_,(z6 Sn),Sn,h⟩
       ·rintro env pv hp ⟨x1,x3,x4,x5,x9,x10,he,hv,h⟩
        refine Ae ?_ (r6 1 3 4 5 9 10 Rn) he hv
        unfold F19_j6 at h
        refine Ar F19_r4 ?_ (r6 1 3 4 5 9 10 Rn) (z6 Sn) Sn
        refine mf h fun h=>mf h fun h=>mf h fun h=>?_
        refine As (fun env pv hp=>∃ x1 x3 x4 x5 x9 x10 x12 k11,Sub (w8 E0 12 (sB x12) 11 (sR 11 0) 10 (sB x10) 9 (sB x9) 5 (sB x5) 4 (sB x4) 3 (sV x3) 1 (sP x1)) env∧Sub (upd V0 11 (29,k11)) pv∧(F19_j7 x1 x3 x4 x5 x9 x10 x12 k11 hp  K)) ?_ ?_
        ·refine Ag (F19_r17 rfl) ?_ (r2 1 3 (rp 11 11 0 (r4 4 5 9 10 Rn))) (z7 Sn) (z1 Sn)
         refine mL h fun l168 h=>mF h fun f169 ga_170 gb_171 h=>mC h fun u172 h173 h=>mI h fun i174 h=>?_
         refine mt h (fun h=>?_) (fun h=>?_)
         ·refine mN h fun b175 o176 h=>mV h fun v177 h=>mP h fun p178 h=>mC h fun u179 h180 h=>mI h fun i181 h=>?_
          refine mt h (fun h=>?_) (fun h=>?_)
          ·refine mN h fun b182 o183 h=>mV h fun v184 h=>mP h fun p185 h=>mC h fun u186 h187 h=>mI h fun i188 h=>?_
           exact ⟨_,_,_,_,_,_,_,_,(z8 Sn),(z1 Sn),h⟩
          ·exact ⟨_,_,_,_,_,_,_,_,(z8 Sn),(z1 Sn),h⟩
         ·exact ⟨_,_,_,_,_,_,_,_,(z8 Sn),(z1 Sn),h⟩
        ·rintro env pv hp ⟨x1,x3,x4,x5,x9,x10,x12,k11,he,hv,h⟩
         refine Ae ?_ (r6 1 3 4 5 9 10 (rp 11 11 0 (r1 12 Rn))) he hv
         unfold F19_j7 at h
         refine Ar F19_r5 ?_ (rp 11 11 0 (r7 1 3 4 5 9 10 12 Rn)) (z8 Sn) (z1 Sn)
         refine mf h fun h=>?_
         refine As (fun env pv hp=>∃ x1 x3 x4 x5 x9 x10 x12 x13,Sub (w8 E0 13 (sB x13) 12 (sB x12) 10 (sB x10) 9 (sB x9) 5 (sB x5) 4 (sB x4) 3 (sV x3) 1 (sP x1)) env∧Sub V0 pv∧F19_j8 x1 x3 x4 x5 x9 x10 x12 x13 hp  K) ?_ ?_
         ·refine Ag (F19_r16 rfl) ?_ (r2 1 3 (rp 11 11 0 (r5 4 5 9 10 12 Rn))) (z8 Sn) (z1 Sn)
          refine mL h fun l139 h=>mF h fun f140 ga_141 gb_142 h=>mC h fun u143 h144 h=>mI h fun i145 h=>?_
          refine mt h (fun h=>?_) (fun h=>?_)
          ·refine mN h fun b146 o147 h=>mV h fun v148 h=>mP h fun p149 h=>mC h fun u150 h151 h=>mS h fun a152 n153 c154 h=>?_
           refine mt h (fun h=>?_) (fun h=>?_)
           ·refine mN h (fun b155 o156 h=>mV h (fun v157 h=>mP h (fun p158 h=>mC h (fun u159 h160 h=>mS h (fun a161 n162 c163 h=>⟨h.1,h.2.1,mN h.2.2 fun b164 o165 h=>mV h fun v166 h=>ms h fun s167 h=>?_⟩)))))
            exact ⟨_,_,_,_,_,_,_,_,(z8 Sn),Sn,h⟩
           ·exact ⟨_,_,_,_,_,_,_,_,(z8 Sn),Sn,h⟩
          ·exact ⟨_,_,_,_,_,_,_,_,(z8 Sn),Sn,h⟩
         ·rintro env pv hp ⟨x1,x3,x4,x5,x9,x10,x12,x13,he,hv,h⟩
          refine Ae ?_ (r8 1 3 4 5 9 10 12 13 Rn) he hv
          unfold F19_j8 at h
          refine As (fun env pv hp=>∃ x1 x3 x4 x5 x9 x10 x12 x13 x14,Sub (upd (w8 E0 14 (sB x14) 13 (sB x13) 12 (sB x12) 10 (sB x10) 9 (sB x9) 5 (sB x5) 4 (sB x4) 3 (sV x3)) 1 (sP x1)) env∧Sub V0 pv∧F19_j9 x1 x3 x4 x5 x9 x10 x12 x13 x14 hp  K) ?_ ?_
          ·refine Ag (F19_r15 rfl) ?_ (r8 1 3 4 5 9 10 12 13 Rn) (z8 Sn) Sn
           refine mC h fun u123 h124 h=>mA h fun l125 h=>mF h fun f126 ga_127 gb_128 h=>mC h fun u129 h130 h=>mI h fun i131 h=>?_
           refine mt h (fun h=>?_) (fun h=>?_)
           ·refine mN h fun b132 o133 h=>mV h fun v134 h=>mP h fun p135 h=>mC h fun u136 h137 h=>mI h fun i138 h=>?_
            exact ⟨_,_,_,_,_,_,_,_,_,(z1 (z8 Sn)),Sn,h⟩
           ·exact ⟨_,_,_,_,_,_,_,_,_,(z1 (z8 Sn)),Sn,h⟩
          ·rintro env pv hp ⟨x1,x3,x4,x5,x9,x10,x12,x13,x14,he,hv,h⟩
           refine Ae ?_ (r8 1 3 4 5 9 10 12 13 (r1 14 Rn)) he hv
           unfold F19_j9 at h
           refine Ar F19_r6 ?_ (r8 1 3 4 5 9 10 12 13 (r1 14 Rn)) (z1 (z8 Sn)) Sn
           refine mN h fun b9 o10 h=>mV h fun v11 h=>mP h fun p12 h=>mC h fun u13 h14 h=>mS h fun a15 n16 c17 h=>?_
           refine As (fun env pv hp=>∃ x1 x3 x4 x5 x9 x10 x12 x13 x14 x16,Sub (w2 (w8 E0 16 (sB x16) 14 (sB x14) 13 (sB x13) 12 (sB x12) 10 (sB x10) 9 (sB x9) 5 (sB x5) 4 (sB x4)) 3 (sV x3) 1 (sP x1)) env∧Sub V0 pv∧F19_j10 x1 x3 x4 x5 x9 x10 x12 x13 x14 x16 hp  K) ?_ ?_
           ·refine Ag (F19_r14 rfl) ?_ (r8 1 15 3 4 5 9 10 12 (r2 13 14 Rn)) (z2 (z8 Sn)) Sn
            refine mt h (fun h=>?_) (fun h=>?_)
            ·refine ⟨h.1,h.2.1,mN h.2.2 fun b112 o113 h=>mL h fun l114 h=>mE h fun q115 h=>?_⟩
             refine mt h (fun h=>?_) (fun h=>?_)
             ·refine mN h fun b116 o117 h=>mV h fun v118 h=>mP h fun p119 h=>mC h fun u120 h121 h=>mI h fun i122 h=>?_
              exact ⟨_,_,_,_,_,_,_,_,_,_,(z2 (z8 Sn)),Sn,h⟩
             ·exact ⟨_,_,_,_,_,_,_,_,_,_,(z2 (z8 Sn)),Sn,h⟩
            ·exact ⟨_,_,_,_,_,_,_,_,_,_,(z2 (z8 Sn)),Sn,h⟩
           ·rintro env pv hp ⟨x1,x3,x4,x5,x9,x10,x12,x13,x14,x16,he,hv,h⟩
            refine Ae ?_ (r8 1 3 4 5 9 10 12 13 (r2 14 16 Rn)) he hv
            unfold F19_j10 at h
            refine As (fun env pv hp=>∃ x1 x3 x4 x5 x9 x10 x12 x13 x14 x16 x17,Sub (w3 (w8 E0 17 (sB x17) 16 (sB x16) 14 (sB x14) 13 (sB x13) 12 (sB x12) 10 (sB x10) 9 (sB x9) 5 (sB x5)) 4 (sB x4) 3 (sV x3) 1 (sP x1)) env∧Sub V0 pv∧F19_j11 x1 x3 x4 x5 x9 x10 x12 x13 x14 x16 x17 hp  K) ?_ ?_
            ·refine Ag F19_r13 ?_ (r8 1 3 4 5 9 10 12 13 (r2 14 16 Rn)) (z2 (z8 Sn)) Sn
             refine mC h fun u76 h77 h=>mA h fun l78 h=>mC h fun u79 h80 h=>mB h fun q81 h=>?_
             refine mt h (fun h=>?_) (fun h=>?_)
             ·refine mC h fun u82 h83 h=>mA h fun l84 h=>mC h fun u85 h86 h=>mB h fun q87 h=>?_
              refine mt h (fun h=>?_) (fun h=>?_)
              ·refine mC h fun u88 h89 h=>ms h fun s90 h=>mC h fun u91 h92 h=>mA h fun l93 h=>mC h fun u94 h95 h=>mB h fun q96 h=>?_
               refine mt h (fun h=>?_) (fun h=>?_)
               ·refine mC h fun u97 h98 h=>ms h fun s99 h=>mC h fun u100 h101 h=>mA h fun l102 h=>mC h fun u103 h104 h=>mB h fun q105 h=>?_
                refine mt h (fun h=>?_) (fun h=>?_)
                ·refine mC h fun u106 h107 h=>mA h fun l108 h=>mC h fun u109 h110 h=>mB h fun q111 h=>?_
                 exact ⟨_,_,_,_,_,_,_,_,_,_,_,(z3 (z8 Sn)),Sn,h⟩
                ·exact ⟨_,_,_,_,_,_,_,_,_,_,_,(z3 (z8 Sn)),Sn,h⟩
               ·exact ⟨_,_,_,_,_,_,_,_,_,_,_,(z3 (z8 Sn)),Sn,h⟩
              ·exact ⟨_,_,_,_,_,_,_,_,_,_,_,(z3 (z8 Sn)),Sn,h⟩
             ·exact ⟨_,_,_,_,_,_,_,_,_,_,_,(z3 (z8 Sn)),Sn,h⟩
            ·rintro env pv hp ⟨x1,x3,x4,x5,x9,x10,x12,x13,x14,x16,x17,he,hv,h⟩
             refine Ae ?_ (r8 1 3 4 5 9 10 12 13 (r3 14 16 17 Rn)) he hv
             unfold F19_j11 at h
             refine Ar F19_r7 ?_ (r8 3 1 4 5 9 10 12 13 (r3 14 16 17 Rn)) (z3 (z8 Sn)) Sn
             refine mC h fun u18 h19 h=>mA h fun l20 h=>mF h fun f21 ga_22 gb_23 h=>mC h fun u24 h25 h=>mI h fun i26 h=>?_
             refine As (fun env pv hp=>∃ x4 x5 x9 x10 x12 x13 x14 x16 x17 x18 x20 x21 k19,Sub (w5 (w8 E0 21 (sI x21) 20 (sB x20) 19 (sR 19 0) 18 (sB x18) 17 (sB x17) 16 (sB x16) 14 (sB x14) 13 (sB x13)) 12 (sB x12) 10 (sB x10) 9 (sB x9) 5 (sB x5) 4 (sB x4)) env∧Sub (upd V0 19 (36,k19)) pv∧(F19_j12 x4 x5 x9 x10 x12 x13 x14 x16 x17 x18 x20 x21 k19 hp  K)) ?_ ?_
             ·refine AWP.rgnF (cf:=[(0,1)]) (c:=[([true],true,[0,1,2,3,4,5,6,7,8,9,10]),([false],true,[1,0,2,3,4,5,6,7,8,9,10])]) (by kernel_rfl) (by kernel_rfl) (by kernel_rfl) (by kernel_rfl) (allO_t (Eq.mpr F19_r11 ?_) (allO_t (Eq.mpr F19_r12 ?_) trivial)) (r8 1 4 5 9 10 12 13 14 (r3 16 17 18 Rn)) (z3 (z8 Sn)) Sn
              ·replace h:=h.1
               refine mN h fun b46 o47 h=>mV h fun v48 h=>mP h fun p49 h=>mC h fun u50 h51 h=>mA h fun l52 h=>mC h fun u53 h54 h=>mU h fun u55 u56 u57 h=>mA h fun l58 h=>mB h fun q59 h=>mI h fun i60 h=>mf h fun h=>mf h fun h=>mf h fun h=>?_
               exact ⟨_,_,_,_,_,_,_,_,_,_,_,_,_,(z5 (z8 Sn)),(z1 Sn),h⟩
              ·replace h:=h.2
               refine mC h fun u61 h62 h=>mA h fun l63 h=>mN h fun b64 o65 h=>mV h fun v66 h=>mP h fun p67 h=>mC h fun u68 h69 h=>mU h fun u70 u71 u72 h=>mA h fun l73 h=>mB h fun q74 h=>mI h fun i75 h=>mf h fun h=>mf h fun h=>mf h fun h=>?_
               exact ⟨_,_,_,_,_,_,_,_,_,_,_,_,_,(z5 (z8 Sn)),(z1 Sn),h⟩
             ·rintro env pv hp ⟨x4,x5,x9,x10,x12,x13,x14,x16,x17,x18,x20,x21,k19,he,hv,h⟩
              refine Ae ?_ (r8 4 5 9 10 12 13 14 16 (r2 17 18 (rp 19 19 0 (r2 20 21 Rn)))) he hv
              unfold F19_j12 at h
              refine Ar F19_r8 ?_ (r8 4 5 9 10 12 13 14 16 (r2 17 18 (rp 19 19 0 (r2 20 21 Rn)))) (z5 (z8 Sn)) (z1 Sn)
              refine mC h fun u27 h28 h=>mT h fun u29 u30 h=>mP h fun p31 h=>mI h fun i32 h=>?_
              refine Ar F19_r9 ?_ (r8 4 5 9 10 12 13 14 16 (r2 17 18 (rp 19 19 0 (r3 20 21 23 Rn)))) (z6 (z8 Sn)) (z1 Sn)
              refine mC h fun u33 h34 h=>mT h fun u35 u36 h=>mP h fun p37 h=>mI h fun i38 h=>?_
              refine Ar (F19_r10 rfl) ?_ (r8 4 5 9 10 12 13 14 16 (r2 17 18 (rp 19 19 0 (r4 20 21 23 25 Rn)))) (z7 (z8 Sn)) (z1 Sn)
              refine mt h (fun h=>?_) (fun h=>?_)
              ·refine mt h (fun h=>?_) (fun h=>?_)
               ·refine mt h (fun h=>?_) (fun h=>?_)
                ·refine mt h (fun h=>?_) (fun h=>?_)
                 ·refine mt h (fun h=>?_) (fun h=>?_)
                  ·refine mt h (fun h=>?_) (fun h=>?_)
                   ·refine mt h (fun h=>?_) (fun h=>?_)
                    ·refine mt h (fun h=>?_) (fun h=>?_)
                     ·refine mt h (fun h=>?_) (fun h=>?_)
                      ·refine mt h (fun h=>?_) (fun h=>?_)
                       ·refine mt h (fun h=>?_) (fun h=>?_)
                        ·refine mt h (fun h=>?_) (fun h=>?_)
                         ·refine mV h fun v39 h=>ms h fun s40 h=>?_
                          refine mt h (fun h=>?_) (fun h=>?_)
                          ·refine mV h fun v41 h=>mI h fun i42 h=>?_
                           refine mt h (fun h=>?_) (fun h=>?_)
                           ·refine mt h (fun h=>?_) (fun h=>?_)
                            ·refine mt h (fun h=>?_) (fun h=>?_)
                             ·refine mC h fun u43 h44 h=>mB h fun q45 h=>?_
                              refine AWP.ret ?_
                              exact h
                             ·refine AWP.ret ?_
                              exact h
                            ·refine AWP.ret ?_
                             exact h
                           ·refine AWP.ret ?_
                            exact h
                          ·refine AWP.ret ?_
                           exact h
                         ·refine AWP.ret ?_
                          exact h
                        ·refine AWP.ret ?_
                         exact h
                       ·refine AWP.ret ?_
                        exact h
                      ·refine AWP.ret ?_
                       exact h
                     ·refine AWP.ret ?_
                      exact h
                    ·refine AWP.ret ?_
                     exact h
                   ·refine AWP.ret ?_
                    exact h
                  ·refine AWP.ret ?_
                   exact h
                 ·refine AWP.ret ?_
                  exact h
                ·refine AWP.ret ?_
                 exact h
               ·refine AWP.ret ?_
                exact h
              ·refine AWP.ret ?_
               exact h
end
section
variable {e E:Env} {x0:List Value} {x1:Int} {x2:OA} {x8:Int} {k3:List Value} {hp:HP} {K:Env→PV→HP→Prop}
abbrev R71 (p n:Nat):=RW Try.prog 18 [3,6] (opsAt Try.f71 (pth p)) (List.range n)
theorem F71_r0:R71 2 2 (upd e 0 (sA x0)) V0 hp K=
 K (w3 e 0 (sA x0) 3 (sR 3 0) 5 (sI 0)) (upd V0 3 (29,x0)) hp:= by kernel_rfl
theorem F71_r1 (h:E=upd (w2 e 3 (sR 3 0) 2 (sP x2)) 1 (sI x1)):R71 5 12 E (upd V0 3 (29,k3)) hp K=
 ptrN x2 fun b1 o2=>(ldV (HP.cell hp b1 o2) fun v3=>ptrV v3 fun p4=>ldL (cellsN k3 0 6) fun l5=>CF Try.prog 26 [(.pointer p4),(.agg ⟨l5⟩),(.int .i64 x1)] hp fun u6 h7=>tup3V u6 fun u8 u9 u10=>aggV u8 fun l11=>boolV u9 fun q12=>intV u10 .i64 fun i13=>if List.length l11=4 then (if List.all l11 one=true then (if 0+List.length l11≤List.length [(Value.string ⟨#[]⟩),.string ⟨#[]⟩,.string ⟨#[]⟩,.int .i64 0] then (K (w3 (w8 E 10 (sP p4) 11 (sA l5) 12 (sI x1) 13 (sV (.tuple ⟨[(.agg ⟨l11⟩),(.bool q12),(.int .i64 i13)]⟩)) 9 (sV (.tuple ⟨[(.agg ⟨l11⟩),(.bool q12),(.int .i64 i13)]⟩)) 14 (sA l11) 15 (sB q12) 16 (sI i13)) 6 (sR 6 0) 7 (sB q12) 8 (sI i13)) (w3 V0 3 (29,k3) 6 (36,[.string ⟨#[]⟩,.string ⟨#[]⟩,.string ⟨#[]⟩,.int .i64 0]) 6 (36,(splice [.string ⟨#[]⟩,.string ⟨#[]⟩,.string ⟨#[]⟩,.int .i64 0] 0 l11))) h7) else False) else False) else False):= by subst h; kernel_rfl
theorem F71_r2:R71 11 2 (upd e 8 (sI x8)) V0 hp K=
 K (w3 e 8 (sI x8) 17 (sI x8) 5 (sI x8)) V0 hp:= by kernel_rfl
def F71 (x0:List Value) (x1:Int) (x2:OA) (hp:HP) (K:Kh):Prop:=
  (ptrN x2 fun b1 o2=>ldV (HP.cell hp b1 o2) fun v3=>ptrV v3 fun p4=>ldL (cellsN x0 0 6) fun l5=>CF Try.prog 26 [(.pointer p4),(.agg ⟨l5⟩),(.int .i64 x1)] hp fun u6 h7=>tup3V u6 fun u8 u9 u10=>aggV u8 fun l11=>boolV u9 fun q12=>intV u10 .i64 fun i13=>if List.length l11=4 then (if List.all l11 one=true then (if 0+List.length l11≤List.length [(Value.string ⟨#[]⟩),.string ⟨#[]⟩,.string ⟨#[]⟩,.int .i64 0] then (K (.int .i64 i13) h7) else False) else False) else False)
noncomputable def F71_code:Code:=(.seq (.region 0 (opsAt Try.f71 (pth 2)) false) (.seq (.region 1 (opsAt Try.f71 (pth 5)) false) (.seq (.region 2 (opsAt Try.f71 (pth 11)) false) .ret)))
theorem F71_body:Try.f71.body=some F71_code:=by kernel_rfl
theorem F71_ok (x0:List Value) (x1:Int) (x2:OA) (hp:HP) (K:Kh) (h:F71 x0 x1 x2 hp K):CF Try.prog 71 [(.agg ⟨x0⟩),(.int .i64 x1),(.pointer x2)] hp K:=by
 refine .inl ⟨by kernel_rfl,AC.intro (N:=18) Try.func71 F71_body rfl (Nat.le_of_ble_eq_true rfl) ?_⟩
 unfold F71 at h
 refine Ar F71_r0 ?_ (r3 0 1 2 Rn) (z3 Sn) Sn
 refine Ar (F71_r1 rfl) ?_ (r2 1 2 (rp 3 3 0 Rn)) (z3 Sn) (z1 Sn)
 refine mN h fun b1 o2 h=>mV h fun v3 h=>mP h fun p4 h=>mL h fun l5 h=>mC h fun u6 h7 h=>mU h fun u8 u9 u10 h=>mA h fun l11 h=>mB h fun q12 h=>mI h fun i13 h=>mf h fun h=>mf h fun h=>mf h fun h=>?_
 refine Ar F71_r2 ?_ (r1 8 Rn) (z1 Sn) Sn
 refine AWP.ret ?_
 exact h
end
end Go.Proofs
set_option linter.unusedVariables false
set_option maxRecDepth 20000
namespace Go.Proofs
open Go Go.HL
theorem wh_shaped (k h d:ByteArray) (n:Int):shaped Try.prog 3 36 (wh k h d n)=true:=by kernel_rfl
theorem eq36 {k h d:ByteArray} {n:Int} {c:Bool→Prop} (hc:c true):eqAgg Try.prog 36 (wh k h d n) (wh k h d n) c:=
  eqAgg_of (m:=3) (D:=3) (by kernel_rfl) (wh_shaped k h d n) (wh_shaped k h d n) (by simp) hc
theorem tr {b:Bool} {A B:Prop} (h:b=true) (a:A):ite2 b A B:=by rw [h,ite2_true]; exact a
theorem fa {b:Bool} {A B:Prop} (h:b=false) (a:B):ite2 b A B:=by rw [h,ite2_false]; exact a
structure Kn (hp hp':HP) (b q m mo:Nat) (S:Stt) (L:List PD) (k:Int):Prop where
  fresh:hp b=.none
  st:StR (hp.set b (.cells 31 [ptr q 0] 0)) hp' q m mo S
  rel:Rel S L
  max:S.max=4
  source:S.source=3
  last:0≤S.last∧S.last≤k
section
variable {hp hp1 hp':HP} {b q m mo:Nat} {S:Stt} {L L':List PD} {k:Int} {K:Value→HP→Prop} {p:Pc} {due:Int} {z:List Value} {b':Bool} {e:Int}
theorem Kn.cell (h:Kn hp hp1 b q m mo S L k):hp1.cell b 0=some (ptr q 0):=HP.cell_of (o:=0) (h.st.1.cells (HP.set_eq ..))
theorem Kn.len (h:Kn hp hp1 b q m mo S L k):S.n=(L.length:Nat):=by rw [h.rel.inv.num,h.rel.all.length_eq,List.length_map]
theorem Kn.D (h:Kn hp hp1 b q m mo S L k):S.D.length≤L.length:=by
  have:=len_all h.rel.inv.ne
  rw [h.rel.all.length_eq,List.length_map] at this
  exact this
theorem Kn.sub (h:Kn hp hp1 b q m mo S L k) (hs:HSub hp1 hp'):Kn hp hp' b q m mo S L k:=⟨h.fresh,h.st.sub hs,h.rel,h.max,h.source,h.last⟩
theorem kput (h:Kn hp hp1 b q m mo S L k) (hk:k≤1000) (ok:okP p) (hn:L.length≤1000) (ev:putD 4 3 L p due=(z,b',e,L'))
    (hK:∀ hp2 S',Kn hp hp2 b q m mo S' L' (k+1)→K (.tuple ⟨[.agg ⟨z⟩,.bool b',.int .i64 e]⟩) hp2):CF Try.prog 26 [ptr q 0,.agg ⟨pc p⟩,.int .i64 due] hp1 K:=by
  refine C26 h.st ok (fun d hg=>Nat.le_trans (h.rel.inv.lenl (getL_some_mem hg)) (by omega)) (fun d hg=>h.rel.inv.right _ (getL_some_mem hg)) ?_
  intro hp2 w bb ee S' hput hstp
  obtain ⟨L'',hpd,hrel',hlast',hmax,hsrc⟩:=put_rel h.rel ⟨h.last.1,by have:=h.last; omega⟩ hput
  rw [h.max,h.source,ev] at hpd
  simp only [Prod.mk.injEq] at hpd
  obtain ⟨rfl,rfl,rfl,rfl⟩:=hpd
  exact hK hp2 S' ⟨h.fresh,hstp _ h.st,hrel',hmax.trans h.max,hsrc.trans h.source,by have:=h.last; omega⟩
theorem C71 (h:Kn hp hp1 b q m mo S L k) (hk:k≤1000) (ok:okP p) (hn:L.length≤1000) (hz:z.length=4) (hz1:z.all one=true) (ev:putD 4 3 L p due=(z,b',e,L'))
    (hK:∀ hp2 S',Kn hp hp2 b q m mo S' L' (k+1)→K (.int .i64 e) hp2):CF Try.prog 71 [.agg ⟨pc p⟩,.int .i64 due,.pointer (some ⟨b,0,none⟩)] hp1 K:=by
  refine F71_ok (pc p) due _ hp1 K ?_
  unfold F71
  have c6:cellsN (pc p) 0 6=some (pc p):=rfl
  have pp:∀ c:Option Addr→Prop,ptrV (ptr q 0) c=c (some ⟨q,0,none⟩):=fun _=>rfl
  simp only [ptrN_some,h.cell,ldV_some,pp,c6,ldL_some]
  refine kput h hk ok hn ev ?_
  intro hp2 S' h2
  simp only [tup3V_mk,aggV_agg,boolV_bool,intV_int]
  refine ifI hz (ifI hz1 (ifI (by rw [hz]; decide) ?_))
  exact hK hp2 S' h2
theorem kcall {x:Int} {mr:Bool} {s:ByteArray} {X:Int→HP→Prop} (h:Kn hp hp1 b q m mo S L k) (hk:k≤1000) (ok:okP (kp x mr s)) (hn:L.length≤1000) (hz:z.length=4) (hz1:z.all one=true) (ev:putD 4 3 L (kp x mr s) due=(z,b',e,L'))
    (hK:∀ hp2 S',Kn hp hp2 b q m mo S' L' (k+1)→X e hp2) :
    CF Try.prog 72 [.int .i64 x,.bool mr,.string s] hp1 fun u h=>aggV u fun l=>fnV (Value.func (.func 71) ⟨[]⟩ ⟨[(Value.pointer (some ⟨b,0,none⟩))]⟩) fun f ga gb=>CF Try.prog f (ga++[(Value.agg ⟨l⟩),(Value.int .i64 due)]++gb) h fun u h=>intV u .i64 fun i=>X i h:=by
  refine C72 ?_
  rw [aggV_agg,fnV_mk]
  refine C71 (p:=kp x mr s) h hk ok hn hz hz1 ev ?_
  intro hp2 S' h2
  rw [intV_int]
  exact hK hp2 S' h2
theorem klen {X:Int→HP→Prop} (h:Kn hp hp1 b q m mo S L k) (hX:X (L.length:Nat) hp1):ptrN (some ⟨b,0,none⟩) fun b o=>ldV (HP.cell hp1 b o) fun v=>ptrV v fun p=>CF Try.prog 27 [.pointer p] hp1 fun u h=>intV u .i64 fun i=>X i h:=by
  have pp:∀ c:Option Addr→Prop,ptrV (ptr q 0) c=c (some ⟨q,0,none⟩):=fun _=>rfl
  simp only [ptrN_some,h.cell,ldV_some,pp]
  refine C27 h.st ?_
  rw [intV_int,h.len]
  exact hX
end
theorem okk {x:Int} {mr:Bool} {s:ByteArray} (h1:-9223372036854775808≤x∧x≤9223372036854775807) (h2:s.size≤1000000):okP (kp x mr s):=⟨h1,h2⟩
section
variable {hp hp1:HP} {b q m mo:Nat} {S:Stt} {k:Int} {K:Value→HP→Prop}
abbrev fn71 (b:Nat):Value:=Value.func (.func 71) ⟨[]⟩ ⟨[(Value.pointer (some ⟨b,0,none⟩))]⟩
theorem K12 {d:List Value} (hd:d=wh kK e0s d8 2) (hK:∀ hp',HSub hp1 hp'→K (.bool true) hp'):F19_j12 true true true true true true true true true true true 0 d hp1 K:=by
  unfold F19_j12
  refine C25 (fun _=>?_) (fun h=>absurd h (by decide))
  have pp:∀ c:Option Addr→Prop,ptrV (.pointer none) c=c none:=fun _=>rfl
  simp only [tup2V_mk,intV_int,pp]
  refine C25 (fun _=>?_) (fun h=>absurd h (by decide))
  simp only [tup2V_mk,intV_int,pp,ite2_true]
  have k2:d[2]?=some (.string d8):=by rw [hd]; rfl
  have k3:d[3]?=some (.int .i64 2):=by rw [hd]; rfl
  refine tr rfl ?_
  simp only [k2,k3,ldV_some,strV_string,intV_int]
  refine tr (by rw [str_eq]; exact decide_eq_true rfl) (tr rfl (tr rfl (tr rfl ?_)))
  refine C22 ?_
  rw [boolV_bool]
  exact hK hp1 (HSub.refl _)
theorem K11 (h:Kn hp hp1 b q m mo S [] k) (hk:k≤900) (hK:∀ hp',HSub hp hp'→K (.bool true) hp'):F19_j11 (some ⟨b,0,none⟩) (fn71 b) true true true true true true true true true hp1 K:=by
  unfold F19_j11
  refine kcall h (by omega) (okk (by decide) (by decide)) (by decide) rfl rfl ev16 ?_
  intro hp2 S2 h2
  have pp:∀ c:Option Addr→Prop,ptrV (ptr q 0) c=c (some ⟨q,0,none⟩):=fun _=>rfl
  have fin:∀ hp3 S3 j,Kn hp hp3 b q m mo S3 [] j→F19_j12 true true true true true true true true true ((0:Int)==0) true 0 (splice [(Value.string ⟨#[]⟩),(Value.string ⟨#[]⟩),(Value.string ⟨#[]⟩),(Value.int .i64 0)] 0 (wh kK e0s d8 2)) hp3 K:=fun hp3 S3 j h3=>
    K12 (splice_all rfl) fun hp' hs=>hK hp' ((HSub.set_fresh hp _ h.fresh).trans (h3.st.1.trans hs))
  refine ⟨?_,?_⟩
  · simp only [ptrN_some,h2.cell,ldV_some,pp]
    refine C72 ?_
    rw [aggV_agg]
    refine kput (p:=kp 0 true d8) h2 (by omega) (okk (by decide) (by decide)) (by decide) ev17 ?_
    intro hp3 S3 h3
    simp only [tup3V_mk,aggV_agg,boolV_bool,intV_int]
    exact ifI rfl (ifI rfl (ifI (Nat.le_refl 4) (fin hp3 S3 _ h3)))
  · refine C72 ?_
    rw [aggV_agg]
    simp only [ptrN_some,h2.cell,ldV_some,pp]
    refine kput (p:=kp 0 true d8) h2 (by omega) (okk (by decide) (by decide)) (by decide) ev17 ?_
    intro hp3 S3 h3
    simp only [tup3V_mk,aggV_agg,boolV_bool,intV_int]
    exact ifI rfl (ifI rfl (ifI (Nat.le_refl 4) (fin hp3 S3 _ h3)))
theorem rep_len {s:ByteArray} {c:Nat}:(⟨(Lib.repeatL s.data.toList c).toArray⟩:ByteArray).size=c*s.size:=by
  show (Lib.repeatL s.data.toList c).toArray.size=_
  rw [List.size_toArray,Lib.repeatL_length]
  rfl
theorem right_rep {s:ByteArray}:rightP (kp 0 false s)=decide (s.size≤65535):=by
  rw [Bool.eq_iff_iff,rightP_iff,decide_eq_true_eq]
  constructor
  · rintro ⟨_,_,_,h,_⟩
    have:(0:Int)+s.size≤65535:=h
    omega
  · intro h
    refine ⟨Int.le_refl _,(show (0:Int)≤65535 by decide),rfl,?_,fun e=>by cases e⟩
    show (0:Int)+s.size≤65535
    omega
theorem K10 (h:Kn hp hp1 b q m mo S [] k) (hk:k≤800) (hK:∀ hp',HSub hp hp'→K (.bool true) hp'):F19_j10 (some ⟨b,0,none⟩) (fn71 b) true true true true true true true true hp1 K:=by
  unfold F19_j10
  have c67:∀ (x:Int) (s:ByteArray) (r:Bool) (hp1:HP) (X:Bool→HP→Prop),okP (kp x false s)→rightP (kp x false s)=r→X r hp1→CF Try.prog 72 [.int .i64 x,.bool false,.string s] hp1 fun u h=>aggV u fun l=>CF Try.prog 67 [.agg ⟨l⟩] h fun u h=>boolV u fun q=>X q h:=by
    intro x s r hp1 X ok hr hX
    refine C72 ?_
    rw [aggV_agg]
    refine C67 (p:=kp x false s) ok ?_
    rw [boolV_bool,hr]
    exact hX
  have z1:((⟨#[120]⟩:ByteArray)).size=1:=rfl
  refine c67 _ _ true _ _ (okk (by decide) (by decide)) (by kernel_rfl) (tr rfl ?_)
  refine c67 _ _ false _ _ (okk (by decide) (by decide)) (by kernel_rfl) (tr rfl ?_)
  refine C73 (c:=65535) (by decide) (by rw [z1]; decide) ?_
  rw [strV_string]
  refine c67 _ _ true _ _ (okk (by decide) (by rw [rep_len,z1]; decide)) (by rw [right_rep,rep_len,z1]; decide) (tr rfl ?_)
  refine C73 (c:=65536) (by decide) (by rw [z1]; decide) ?_
  rw [strV_string]
  refine c67 _ _ false _ _ (okk (by decide) (by rw [rep_len,z1]; decide)) (by rw [right_rep,rep_len,z1]; decide) (tr rfl ?_)
  refine c67 _ _ false _ _ (okk (by decide) (by decide)) (by kernel_rfl) ?_
  exact K11 h (by omega) hK
def Ll:List PD:=[(kl,3)]
theorem pk1:pickD 3 (duesD Ll) none=some (⟨#[108]⟩,3):=by kernel_rfl
theorem pk2:offL ⟨#[108]⟩ Ll=[]:=by kernel_rfl
theorem pk3:pickD 3 (duesD []) none=none:=by kernel_rfl
theorem pk4:wh ⟨#[108]⟩ (headD ((ofL ⟨#[108]⟩ Ll).map (·.1))) e0s (ofL ⟨#[108]⟩ Ll).length=wh ⟨#[108]⟩ e0s e0s 1:=by kernel_rfl
theorem popK:PopD 3 Ll [wh ⟨#[108]⟩ e0s e0s 1] []:=by
  rw [← pk4]
  exact .step _ 3 pk1 (by rw [pk2]; exact .stop pk3)
theorem K9 (h:Kn hp hp1 b q m mo S Ll k) (hk:k≤700) (hK:∀ hp',HSub hp hp'→K (.bool true) hp'):F19_j9 (some ⟨b,0,none⟩) (fn71 b) true true true true true true true hp1 K:=by
  unfold F19_j9
  have pp:∀ c:Option Addr→Prop,ptrV (ptr q 0) c=c (some ⟨q,0,none⟩):=fun _=>rfl
  have hD:=h.D
  have hl1:Ll.length=1:=rfl
  simp only [ptrN_some,h.cell,ldV_some,pp]
  refine C62 h.st (by omega) (fun kd hkd=>Nat.le_trans (h.rel.inv.lenl hkd) (by omega)) ?_
  intro hp2 s n c kds hperm hpw hbes hn
  rw [slcV_slice]
  obtain ⟨hout,hrel⟩:=pop_rel h.rel hperm hpw popK
  have hb:=hbes _ h.st
  have hlen:n=1:=by rw [hn,← hout]; rfl
  have hx:((toldQ 3 kds).flatMap fun x=>x)=wh ⟨#[108]⟩ e0s e0s 1:=by rw [← hout]; rfl
  subst hlen
  have row:=hb.row
  rw [hx] at row
  have hm5:(popS S 3 kds).max=S.max∧(popS S 3 kds).source=S.source:=pop_same
  have h2:Kn hp hp2 b q m mo (popS S 3 kds) [] k:=⟨h.fresh,hb.st,hrel,hm5.1.trans h.max,hm5.2.trans h.source,by rw [pop_last]; exact h.last⟩
  refine tr rfl ⟨by omega,by omega,?_⟩
  rcases row.shows with ⟨_,g⟩ | ⟨b1,o1,hs1,hg1⟩
  · exact absurd g (by decide)
  subst hs1
  have t0:o1+Int.toNat 0*4=o1:=by rw [Int.toNat_zero]; omega
  have hg:hp2.cellN b1 o1 4=some (wh ⟨#[108]⟩ e0s e0s 1):=hg1
  simp only [ptrN_some,t0,hg,ldL_some]
  refine eq36 (tr rfl ?_)
  exact klen h2 (K10 h2 (by omega) hK)
theorem K8 (h:Kn hp hp1 b q m mo S M4 k) (hk:k≤600) (hK:∀ hp',HSub hp hp'→K (.bool true) hp'):F19_j8 (some ⟨b,0,none⟩) (fn71 b) true true true true true true hp1 K:=by
  unfold F19_j8
  refine kcall h (by omega) (okk (by decide) (by decide)) (by decide) rfl rfl ev15 ?_
  intro hp2 S2 h2
  refine tr rfl ?_
  exact klen h2 (K9 h2 (by omega) hK)
theorem K7 (h:Kn hp hp1 b q m mo S M4 k) (hk:k≤500) (hK:∀ hp',HSub hp hp'→K (.bool true) hp'):F19_j7 (some ⟨b,0,none⟩) (fn71 b) true true true true true (pc kl) hp1 K:=by
  unfold F19_j7
  have pp:∀ c:Option Addr→Prop,ptrV (ptr q 0) c=c (some ⟨q,0,none⟩):=fun _=>rfl
  refine ifI (show 0<6 by decide) ?_
  have c6:cellsN (List.set (pc kl) 0 (.string ⟨#[109]⟩)) 0 6=some (pc km):=rfl
  rw [c6,ldL_some,fnV_mk]
  refine C71 (p:=km) h (by omega) (by exact ⟨by decide,by decide⟩) (by decide) rfl rfl ev14 ?_
  intro hp2 S2 h2
  rw [intV_int]
  refine tr rfl ?_
  have keys:∀ {hp2:HP} {S2:Stt} {k:Int} {X:Option Addr→Nat→HP→Prop},Kn hp hp2 b q m mo S2 M4 k→(∀ hp3 b1 o1,Kn hp hp3 b q m mo S2 M4 k→hp3.cell b1 o1=some (.string kK)→X (some ⟨b1,o1,none⟩) 2 hp3) →
      CF Try.prog 60 [ptr q 0] hp2 fun u h=>slcV u fun a n c=>X a n h:=by
    intro hp2 S2 k X h2 hX
    have hD:=h2.D
    have hl4:M4.length=4:=rfl
    refine C60 h2.st (by omega) ?_
    intro hp3 s c kds hs3 hperm hpw hrow _
    rw [slcV_slice]
    have hkeys:=h2.rel.sameKeys hperm hpw
    rw [keys4] at hkeys
    have hn:S2.D.length=2:=by rw [← hperm.length_eq,← List.length_map (·.1),hkeys]; rfl
    have hf:(kds.flatMap fun x=>[sw x.1])=[.string kK,.string ⟨#[108]⟩]:=by
      have:(kds.flatMap fun x=>[sw x.1])=(kds.map (·.1)).flatMap fun k=>[sw k]:=by rw [List.flatMap_map]
      rw [this,hkeys]; rfl
    rw [hn,hf] at hrow
    rw [hn]
    rcases hrow.shows with ⟨_,g⟩ | ⟨b1,o1,hs1,hg1⟩
    · exact absurd g (by decide)
    subst hs1
    have g0:hp3.cell b1 (o1+0)=some (.string kK):=HP.cell_cellN (j:=0) hg1 rfl
    exact hX hp3 b1 o1 (h2.sub hs3) g0
  simp only [ptrN_some,h2.cell,ldV_some,pp]
  refine keys (X:=fun a n h=>ite2 (((n:Nat):Int)==2) _ _) h2 ?_
  intro hp3 b1 o1 h3 _
  refine tr rfl ?_
  simp only [ptrN_some,h3.cell,ldV_some,pp]
  refine keys (X:=fun a n h=>(0≤(0:Int))∧((0:Int)<(n:Nat))∧ptrN a fun b o=>_) h3 ?_
  intro hp4 b2 o2 h4 g4
  refine ⟨by omega,by omega,?_⟩
  have t0:o2+Int.toNat 0*1=o2:=by rw [Int.toNat_zero]; omega
  simp only [ptrN_some,t0,g4,ldV_some,strV_string]
  rw [show ((ByteArray.toList kK)==(ByteArray.toList (⟨#[107]⟩:ByteArray)))=true by rw [str_eq]; exact decide_eq_true rfl]
  exact K8 h4 (by omega) hK
theorem K6 (h:Kn hp hp1 b q m mo S M3 k) (hk:k≤400) (hK:∀ hp',HSub hp hp'→K (.bool true) hp'):F19_j6 (some ⟨b,0,none⟩) (fn71 b) true true true true hp1 K:=by
  unfold F19_j6
  have pp:∀ c:Option Addr→Prop,ptrV (ptr q 0) c=c (some ⟨q,0,none⟩):=fun _=>rfl
  refine ifI rfl (ifI rfl (ifI (Nat.le_refl 6) ?_))
  have hsp:splice [(Value.string ⟨#[]⟩),(Value.string ⟨#[]⟩),(Value.int .i64 0),(Value.bool false),(Value.string ⟨#[]⟩),(Value.string ⟨#[]⟩)] 0 [(Value.string (⟨#[108]⟩:ByteArray)),(Value.string (⟨#[116]⟩:ByteArray)),(Value.int .i64 8),(Value.bool false),(Value.string (⟨#[122]⟩:ByteArray)),(Value.string (⟨#[104]⟩:ByteArray))]=pc kl:=splice_all rfl
  simp only [hsp]
  have c6:cellsN (pc kl) 0 6=some (pc kl):=rfl
  rw [c6,ldL_some,fnV_mk]
  refine C71 (p:=kl) h (by omega) (by exact ⟨by decide,by decide⟩) (by decide) rfl rfl ev13 ?_
  intro hp2 S2 h2
  rw [intV_int]
  refine tr rfl ?_
  simp only [ptrN_some,h2.cell,ldV_some,pp]
  refine C70 h2.st ?_
  have e1:(getL (⟨#[116]⟩:ByteArray) S2.of).getD 0=1:=by
    rw [h2.rel.inv.of,cnt_perm h2.rel.all]
    kernel_rfl
  rw [intV_int,e1]
  refine tr rfl ?_
  exact klen h2 (K7 h2 (by omega) hK)
theorem K5 (h:Kn hp hp1 b q m mo S [] k) (hk:k≤300) (hK:∀ hp',HSub hp hp'→K (.bool true) hp'):F19_j5 (some ⟨b,0,none⟩) (fn71 b) true true true hp1 K:=by
  unfold F19_j5
  refine kcall h (by omega) (okk (by decide) (by decide)) (by decide) rfl rfl ev9 ?_
  intro hp2 S2 h2
  refine tr rfl ?_
  refine kcall h2 (by omega) (okk (by decide) (by decide)) (by decide) rfl rfl ev10 ?_
  intro hp3 S3 h3
  refine tr rfl ?_
  refine kcall h3 (by omega) (okk (by decide) (by decide)) (by decide) rfl rfl ev11 ?_
  intro hp4 S4 h4
  refine tr rfl ?_
  refine kcall h4 (by omega) (okk (by decide) (by decide)) (by decide) rfl rfl ev12 ?_
  intro hp5 S5 h5
  exact K6 h5 (by omega) hK
theorem K3 (h:Kn hp hp1 b q m mo S [] k) (hk:k≤200) (hK:∀ hp',HSub hp hp'→K (.bool true) hp'):F19_j3 (some ⟨b,0,none⟩) (fn71 b) true true hp1 K:=by
  unfold F19_j3
  have pp:∀ c:Option Addr→Prop,ptrV (ptr q 0) c=c (some ⟨q,0,none⟩):=fun _=>rfl
  have fin:∀ hp3 S3 j,j≤300→Kn hp hp3 b q m mo S3 [] j→F19_j4 (some ⟨b,0,none⟩) (fn71 b) true true true 0 (splice [(Value.string ⟨#[]⟩),(Value.string ⟨#[]⟩),(Value.string ⟨#[]⟩),(Value.int .i64 0)] 0 (wh kK e0s dx 1)) hp3 K:=fun hp3 S3 j hj h3=>by
    have hsp:splice [(Value.string ⟨#[]⟩),(Value.string ⟨#[]⟩),(Value.string ⟨#[]⟩),(Value.int .i64 0)] 0 (wh kK e0s dx 1)=wh kK e0s dx 1:=splice_all rfl
    have c4:cellsN (wh kK e0s dx 1) 0 4=some (wh kK e0s dx 1):=rfl
    rw [hsp]
    unfold F19_j4
    rw [ite2_true]
    refine tr rfl ?_
    rw [c4,ldL_some]
    exact eq36 (K5 h3 hj hK)
  refine ⟨?_,?_⟩
  · simp only [ptrN_some,h.cell,ldV_some,pp]
    refine C72 ?_
    rw [aggV_agg]
    refine kput (p:=kp 0 false dx) h (by omega) (okk (by decide) (by decide)) (by decide) ev8 ?_
    intro hp3 S3 h3
    simp only [tup3V_mk,aggV_agg,boolV_bool,intV_int]
    exact ifI rfl (ifI rfl (ifI (Nat.le_refl 4) (fin hp3 S3 _ (by omega) h3)))
  · refine C72 ?_
    rw [aggV_agg]
    simp only [ptrN_some,h.cell,ldV_some,pp]
    refine kput (p:=kp 0 false dx) h (by omega) (okk (by decide) (by decide)) (by decide) ev8 ?_
    intro hp3 S3 h3
    simp only [tup3V_mk,aggV_agg,boolV_bool,intV_int]
    exact ifI rfl (ifI rfl (ifI (Nat.le_refl 4) (fin hp3 S3 _ (by omega) h3)))
theorem K2 (h:Kn hp hp1 b q m mo S [] k) (hk:k≤100) (hK:∀ hp',HSub hp hp'→K (.bool true) hp'):F19_j2 (some ⟨b,0,none⟩) (fn71 b) true hp1 K:=by
  unfold F19_j2
  refine kcall h (by omega) (okk (by decide) (by decide)) (by decide) rfl rfl ev3 ?_
  intro hp2 S2 h2
  refine tr rfl ?_
  refine kcall h2 (by omega) (okk (by decide) (by decide)) (by decide) rfl rfl ev4 ?_
  intro hp3 S3 h3
  refine tr rfl ?_
  refine kcall h3 (by omega) (okk (by decide) (by decide)) (by decide) rfl rfl ev5 ?_
  intro hp4 S4 h4
  refine tr rfl ?_
  refine kcall h4 (by omega) (okk (by decide) (by decide)) (by decide) rfl rfl ev6 ?_
  intro hp5 S5 h5
  refine tr rfl ?_
  refine kcall h5 (by omega) (okk (by decide) (by decide)) (by decide) rfl rfl ev7 ?_
  intro hp6 S6 h6
  exact K3 h6 (by omega) hK
theorem K1 (h:Kn hp hp1 b q m mo S [] k) (hk:k≤50) (hK:∀ hp',HSub hp hp'→K (.bool true) hp'):F19_j1 (some ⟨b,0,none⟩) false hp1 K:=by
  unfold F19_j1
  rw [ite2_false]
  refine kcall h (by omega) (okk (by decide) (by decide)) (by decide) rfl rfl ev1 ?_
  intro hp2 S2 h2
  refine tr rfl ?_
  refine kcall h2 (by omega) (okk (by decide) (by decide)) (by decide) rfl rfl ev2 ?_
  intro hp3 S3 h3
  refine tr rfl ?_
  exact klen h3 (K2 h3 (by omega) hK)
theorem C19 (h:K (.bool true) hp):CF Try.prog 19 [] hp K:=by
  refine CF.drop (F19_ok hp _ ?_)
  unfold F19
  refine C25 (fun hn=>absurd (by decide) hn) ?_
  intro _ q m mo hp1 hst
  have g1:=hst hp (HSub.refl _)
  have pp:∀ c:Option Addr→Prop,ptrV (ptr q 0) c=c (some ⟨q,0,none⟩):=fun _=>rfl
  simp only [tup2V_mk,intV_int,pp]
  intro b hb
  refine HP.st_at (HP.set_eq ..) (by decide) ?_
  have hb0:hp b=.none:=g1.1.none hb
  have s1:HSub hp1 ((hp1.set b (.cells 31 [.pointer none] 0)).set b (.cells 31 [ptr q 0] 0)):=(HSub.set_fresh hp1 _ hb).up hb _
  have h0:Kn hp ((hp1.set b (.cells 31 [.pointer none] 0)).set b (.cells 31 [ptr q 0] 0)) b q m mo ⟨4,3,0,0,[],[]⟩ [] 0:=
    ⟨hb0,g1.add hb s1 (HP.set_eq ..),Rel.empty (by decide) (by decide) (by decide),rfl,rfl,⟨Int.le_refl _,Int.le_refl _⟩⟩
  refine fa rfl ?_
  show ptrN _ _
  rw [ptrN_some]
  show ldV (HP.cell ((hp1.set b (.cells 31 [.pointer none] 0)).set b (.cells 31 [ptr q 0] 0)) b 0) _
  rw [h0.cell,ldV_some,pp]
  exact K1 h0 (by omega) fun hp' hs=>⟨hp,hs,h⟩
end
end Go.Proofs
