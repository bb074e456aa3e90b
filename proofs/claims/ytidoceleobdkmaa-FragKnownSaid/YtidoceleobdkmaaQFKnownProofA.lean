/- Parts of the proof of FKnownProof: the logic of what is known of memory, functions' contracts. -/
import Derived.Test.YtidoceleobdkmaaHlAbb
import Derived.Test.YtidoceleobdkmaaHlAbb
import Derived.Test.YtidoceleobdkmaaProg
import Derived.Sort.Lot0
import Derived.Sort.LotA
import Derived.Test.YtidoceleobdkmaaHlSort
set_option linter.unusedVariables false
set_option linter.unusedSimpArgs false
set_option linter.unusedVariables false
set_option maxRecDepth 20000
namespace Go.Proofs
open Go Go.HL
section
variable {e E:Env} {x1:OA} {x2:Int} {x4:Bool} {x5:Int} {x7:Bool} {x8:Int} {x10:Bool} {x11:Int} {k9:List Value} {hp:HP} {K:Env→PV→HP→Prop}
abbrev R22 (p n:Nat):=RW Try.prog 79 [3,6,9,65,70] (opsAt Try.f22 (pth p)) (List.range n)
theorem F22_r0:R22 2 1 e V0 hp K=
 K (upd e 0 (sB false)) V0 hp:= by kernel_rfl
theorem F22_r1:R22 5 6 e V0 hp K=
 CF Try.prog 25 [(.int .i64 4),(.int .i64 3)] hp fun u1 h2=>(tup2V u1 fun u3 u4=>ptrV u3 fun p5=>intV u4 .i64 fun i6=>K (w6 e 13 (sV (.tuple ⟨[(.pointer p5),(.int .i64 i6)]⟩)) 12 (sV (.tuple ⟨[(.pointer p5),(.int .i64 i6)]⟩)) 14 (sP p5) 15 (sI i6) 1 (sP p5) 2 (sI i6)) V0 h2):= by kernel_rfl
theorem F22_r2:R22 75 1 e V0 hp K=
 K (upd e 0 (sB false)) V0 hp:= by kernel_rfl
theorem F22_r3:R22 23 11 (upd e 1 (sP x1)) V0 hp K=
 CF Try.prog 72 [(.int .i64 8),.bool false,(.string (⟨#[97,98]⟩:ByteArray))] hp fun u1 h2=>(aggV u1 fun l3=>CF Try.prog 26 [(.pointer x1),(.agg ⟨l3⟩),(.int .i64 5)] h2 fun u4 h5=>tup3V u4 fun u6 u7 u8=>aggV u6 fun l9=>boolV u7 fun q10=>intV u8 .i64 fun i11=>if List.length l9=4 then (if List.all l9 one=true then (if 0+List.length l9≤List.length [(Value.string ⟨#[]⟩),.string ⟨#[]⟩,.string ⟨#[]⟩,.int .i64 0] then (K (w3 (w8 e 1 (sP x1) 23 (sP x1) 24 (sA l3) 25 (sV (.tuple ⟨[(.agg ⟨l9⟩),(.bool q10),(.int .i64 i11)]⟩)) 22 (sV (.tuple ⟨[(.agg ⟨l9⟩),(.bool q10),(.int .i64 i11)]⟩)) 26 (sA l9) 27 (sB q10) 28 (sI i11)) 3 (sR 3 0) 4 (sB q10) 5 (sI i11)) (w2 V0 3 (36,[.string ⟨#[]⟩,.string ⟨#[]⟩,.string ⟨#[]⟩,.int .i64 0]) 3 (36,(splice [.string ⟨#[]⟩,.string ⟨#[]⟩,.string ⟨#[]⟩,.int .i64 0] 0 l9))) h5) else False) else False) else False):= by kernel_rfl
theorem F22_r4:R22 47 11 (upd e 1 (sP x1)) V0 hp K=
 CF Try.prog 72 [(.int .i64 8),.bool false,(.string (⟨#[97,98]⟩:ByteArray))] hp fun u1 h2=>(aggV u1 fun l3=>CF Try.prog 26 [(.pointer x1),(.agg ⟨l3⟩),(.int .i64 9)] h2 fun u4 h5=>tup3V u4 fun u6 u7 u8=>aggV u6 fun l9=>boolV u7 fun q10=>intV u8 .i64 fun i11=>if List.length l9=4 then (if List.all l9 one=true then (if 0+List.length l9≤List.length [(Value.string ⟨#[]⟩),.string ⟨#[]⟩,.string ⟨#[]⟩,.int .i64 0] then (K (w3 (w8 e 1 (sP x1) 30 (sP x1) 31 (sA l3) 32 (sV (.tuple ⟨[(.agg ⟨l9⟩),(.bool q10),(.int .i64 i11)]⟩)) 29 (sV (.tuple ⟨[(.agg ⟨l9⟩),(.bool q10),(.int .i64 i11)]⟩)) 33 (sA l9) 34 (sB q10) 35 (sI i11)) 6 (sR 6 0) 7 (sB q10) 8 (sI i11)) (w2 V0 6 (36,[.string ⟨#[]⟩,.string ⟨#[]⟩,.string ⟨#[]⟩,.int .i64 0]) 6 (36,(splice [.string ⟨#[]⟩,.string ⟨#[]⟩,.string ⟨#[]⟩,.int .i64 0] 0 l9))) h5) else False) else False) else False):= by kernel_rfl
theorem F22_r5:R22 95 11 (upd e 1 (sP x1)) V0 hp K=
 CF Try.prog 72 [.int .i64 0,(.bool true),(.string (⟨#[49,50,51,52,53,54,55,56]⟩:ByteArray))] hp fun u1 h2=>(aggV u1 fun l3=>CF Try.prog 26 [(.pointer x1),(.agg ⟨l3⟩),(.int .i64 9)] h2 fun u4 h5=>tup3V u4 fun u6 u7 u8=>aggV u6 fun l9=>boolV u7 fun q10=>intV u8 .i64 fun i11=>if List.length l9=4 then (if List.all l9 one=true then (if 0+List.length l9≤List.length [(Value.string ⟨#[]⟩),.string ⟨#[]⟩,.string ⟨#[]⟩,.int .i64 0] then (K (w3 (w8 e 1 (sP x1) 37 (sP x1) 38 (sA l3) 39 (sV (.tuple ⟨[(.agg ⟨l9⟩),(.bool q10),(.int .i64 i11)]⟩)) 36 (sV (.tuple ⟨[(.agg ⟨l9⟩),(.bool q10),(.int .i64 i11)]⟩)) 40 (sA l9) 41 (sB q10) 42 (sI i11)) 9 (sR 9 0) 10 (sB q10) 11 (sI i11)) (w2 V0 9 (36,[.string ⟨#[]⟩,.string ⟨#[]⟩,.string ⟨#[]⟩,.int .i64 0]) 9 (36,(splice [.string ⟨#[]⟩,.string ⟨#[]⟩,.string ⟨#[]⟩,.int .i64 0] 0 l9))) h5) else False) else False) else False):= by kernel_rfl
theorem F22_r6 (h:E=upd (w7 e 11 (sI x11) 10 (sB x10) 9 (sR 9 0) 8 (sI x8) 7 (sB x7) 5 (sI x5) 4 (sB x4)) 1 (sP x1)):R22 191 37 E (upd V0 9 (36,k9)) hp K=
 ite2 (!x4) (ite2 (x5==0) (ite2 (!x7) (ite2 (x8==0) (ite2 x10 (ite2 (x11==0) (ldV (k9)[2]? fun v1=>strV v1 fun s2=>ite2 ((ByteArray.toList s2)==(ByteArray.toList (⟨#[49,50,51,52,53,54,55,56,97,98]⟩:ByteArray))) (ldV (k9)[3]? fun v3=>intV v3 .i64 fun i4=>ite2 (i4==2) (CF Try.prog 27 [(.pointer x1)] hp fun u5 h6=>intV u5 .i64 fun i7=>K (w5 (w8 (w8 (w8 (w8 E 43 (sB x4) 44 (sB ((!x4))) 45 (sB true) 46 (sI x5) 47 (sB ((x5==0))) 48 (sB ((x5==0))) 49 (sB true) 50 (sB x7)) 51 (sB ((!x7))) 52 (sB ((!x7))) 53 (sB true) 54 (sI x8) 55 (sB ((x8==0))) 56 (sB ((x8==0))) 57 (sB true) 58 (sB x10)) 59 (sB x10) 60 (sB true) 61 (sI x11) 62 (sB ((x11==0))) 63 (sB ((x11==0))) 64 (sB true) 65 (sR 9 2) 66 (sT s2)) 67 (sB (((ByteArray.toList s2)==(ByteArray.toList (⟨#[49,50,51,52,53,54,55,56,97,98]⟩:ByteArray))))) 68 (sB (((ByteArray.toList s2)==(ByteArray.toList (⟨#[49,50,51,52,53,54,55,56,97,98]⟩:ByteArray))))) 69 (sB true) 70 (sR 9 3) 71 (sI i4) 72 (sB ((i4==2))) 73 (sB ((i4==2))) 74 (sB true)) 75 (sP x1) 76 (sI i7) 77 (sB ((i7==0))) 78 (sB ((i7==0))) 0 (sB ((i7==0)))) (upd V0 9 (36,k9)) h6) (K (w5 (w8 (w8 (w8 (w8 E 43 (sB x4) 44 (sB ((!x4))) 45 (sB true) 46 (sI x5) 47 (sB ((x5==0))) 48 (sB ((x5==0))) 49 (sB true) 50 (sB x7)) 51 (sB ((!x7))) 52 (sB ((!x7))) 53 (sB true) 54 (sI x8) 55 (sB ((x8==0))) 56 (sB ((x8==0))) 57 (sB true) 58 (sB x10)) 59 (sB x10) 60 (sB true) 61 (sI x11) 62 (sB ((x11==0))) 63 (sB ((x11==0))) 64 (sB true) 65 (sR 9 2) 66 (sT s2)) 67 (sB (((ByteArray.toList s2)==(ByteArray.toList (⟨#[49,50,51,52,53,54,55,56,97,98]⟩:ByteArray))))) 68 (sB (((ByteArray.toList s2)==(ByteArray.toList (⟨#[49,50,51,52,53,54,55,56,97,98]⟩:ByteArray))))) 69 (sB true) 70 (sR 9 3) 71 (sI i4) 72 (sB ((i4==2))) 73 (sB ((i4==2))) 74 (sB false)) 75 sU 76 sU 77 sU 78 (sB false) 0 (sB false)) (upd V0 9 (36,k9)) hp)) (K (w5 (w8 (w8 (w8 (w8 E 43 (sB x4) 44 (sB ((!x4))) 45 (sB true) 46 (sI x5) 47 (sB ((x5==0))) 48 (sB ((x5==0))) 49 (sB true) 50 (sB x7)) 51 (sB ((!x7))) 52 (sB ((!x7))) 53 (sB true) 54 (sI x8) 55 (sB ((x8==0))) 56 (sB ((x8==0))) 57 (sB true) 58 (sB x10)) 59 (sB x10) 60 (sB true) 61 (sI x11) 62 (sB ((x11==0))) 63 (sB ((x11==0))) 64 (sB true) 65 (sR 9 2) 66 (sT s2)) 67 (sB (((ByteArray.toList s2)==(ByteArray.toList (⟨#[49,50,51,52,53,54,55,56,97,98]⟩:ByteArray))))) 68 (sB (((ByteArray.toList s2)==(ByteArray.toList (⟨#[49,50,51,52,53,54,55,56,97,98]⟩:ByteArray))))) 69 (sB false) 70 sU 71 sU 72 sU 73 (sB false) 74 (sB false)) 75 sU 76 sU 77 sU 78 (sB false) 0 (sB false)) (upd V0 9 (36,k9)) hp)) (K (w5 (w8 (w8 (w8 (w8 E 43 (sB x4) 44 (sB ((!x4))) 45 (sB true) 46 (sI x5) 47 (sB ((x5==0))) 48 (sB ((x5==0))) 49 (sB true) 50 (sB x7)) 51 (sB ((!x7))) 52 (sB ((!x7))) 53 (sB true) 54 (sI x8) 55 (sB ((x8==0))) 56 (sB ((x8==0))) 57 (sB true) 58 (sB x10)) 59 (sB x10) 60 (sB true) 61 (sI x11) 62 (sB ((x11==0))) 63 (sB ((x11==0))) 64 (sB false) 65 sU 66 sU) 67 sU 68 (sB false) 69 (sB false) 70 sU 71 sU 72 sU 73 (sB false) 74 (sB false)) 75 sU 76 sU 77 sU 78 (sB false) 0 (sB false)) (upd V0 9 (36,k9)) hp)) (K (w5 (w8 (w8 (w8 (w8 E 43 (sB x4) 44 (sB ((!x4))) 45 (sB true) 46 (sI x5) 47 (sB ((x5==0))) 48 (sB ((x5==0))) 49 (sB true) 50 (sB x7)) 51 (sB ((!x7))) 52 (sB ((!x7))) 53 (sB true) 54 (sI x8) 55 (sB ((x8==0))) 56 (sB ((x8==0))) 57 (sB true) 58 (sB x10)) 59 (sB x10) 60 (sB false) 61 sU 62 sU 63 (sB false) 64 (sB false) 65 sU 66 sU) 67 sU 68 (sB false) 69 (sB false) 70 sU 71 sU 72 sU 73 (sB false) 74 (sB false)) 75 sU 76 sU 77 sU 78 (sB false) 0 (sB false)) (upd V0 9 (36,k9)) hp)) (K (w5 (w8 (w8 (w8 (w8 E 43 (sB x4) 44 (sB ((!x4))) 45 (sB true) 46 (sI x5) 47 (sB ((x5==0))) 48 (sB ((x5==0))) 49 (sB true) 50 (sB x7)) 51 (sB ((!x7))) 52 (sB ((!x7))) 53 (sB true) 54 (sI x8) 55 (sB ((x8==0))) 56 (sB ((x8==0))) 57 (sB false) 58 sU) 59 (sB false) 60 (sB false) 61 sU 62 sU 63 (sB false) 64 (sB false) 65 sU 66 sU) 67 sU 68 (sB false) 69 (sB false) 70 sU 71 sU 72 sU 73 (sB false) 74 (sB false)) 75 sU 76 sU 77 sU 78 (sB false) 0 (sB false)) (upd V0 9 (36,k9)) hp)) (K (w5 (w8 (w8 (w8 (w8 E 43 (sB x4) 44 (sB ((!x4))) 45 (sB true) 46 (sI x5) 47 (sB ((x5==0))) 48 (sB ((x5==0))) 49 (sB true) 50 (sB x7)) 51 (sB ((!x7))) 52 (sB ((!x7))) 53 (sB false) 54 sU 55 sU 56 (sB false) 57 (sB false) 58 sU) 59 (sB false) 60 (sB false) 61 sU 62 sU 63 (sB false) 64 (sB false) 65 sU 66 sU) 67 sU 68 (sB false) 69 (sB false) 70 sU 71 sU 72 sU 73 (sB false) 74 (sB false)) 75 sU 76 sU 77 sU 78 (sB false) 0 (sB false)) (upd V0 9 (36,k9)) hp)) (K (w5 (w8 (w8 (w8 (w8 E 43 (sB x4) 44 (sB ((!x4))) 45 (sB true) 46 (sI x5) 47 (sB ((x5==0))) 48 (sB ((x5==0))) 49 (sB false) 50 sU) 51 sU 52 (sB false) 53 (sB false) 54 sU 55 sU 56 (sB false) 57 (sB false) 58 sU) 59 (sB false) 60 (sB false) 61 sU 62 sU 63 (sB false) 64 (sB false) 65 sU 66 sU) 67 sU 68 (sB false) 69 (sB false) 70 sU 71 sU 72 sU 73 (sB false) 74 (sB false)) 75 sU 76 sU 77 sU 78 (sB false) 0 (sB false)) (upd V0 9 (36,k9)) hp)) (K (w5 (w8 (w8 (w8 (w8 E 43 (sB x4) 44 (sB ((!x4))) 45 (sB false) 46 sU 47 sU 48 (sB false) 49 (sB false) 50 sU) 51 sU 52 (sB false) 53 (sB false) 54 sU 55 sU 56 (sB false) 57 (sB false) 58 sU) 59 (sB false) 60 (sB false) 61 sU 62 sU 63 (sB false) 64 (sB false) 65 sU 66 sU) 67 sU 68 (sB false) 69 (sB false) 70 sU 71 sU 72 sU 73 (sB false) 74 (sB false)) 75 sU 76 sU 77 sU 78 (sB false) 0 (sB false)) (upd V0 9 (36,k9)) hp):= by subst h; kernel_rfl
def F22_j1 (x1:OA) (x21:Bool) (hp:HP) (K:Kh):Prop:=
  (ite2 x21 (K (.bool false) hp) (CF Try.prog 72 [(.int .i64 8),.bool false,(.string (⟨#[97,98]⟩:ByteArray))] hp fun u7 h8=>aggV u7 fun l9=>CF Try.prog 26 [(.pointer x1),(.agg ⟨l9⟩),(.int .i64 5)] h8 fun u10 h11=>tup3V u10 fun u12 u13 u14=>aggV u12 fun l15=>boolV u13 fun q16=>intV u14 .i64 fun i17=>if List.length l15=4 then (if List.all l15 one=true then (if 0+List.length l15≤List.length [(Value.string ⟨#[]⟩),.string ⟨#[]⟩,.string ⟨#[]⟩,.int .i64 0] then (CF Try.prog 72 [(.int .i64 8),.bool false,(.string (⟨#[97,98]⟩:ByteArray))] h11 fun u18 h19=>aggV u18 fun l20=>CF Try.prog 26 [(.pointer x1),(.agg ⟨l20⟩),(.int .i64 9)] h19 fun u21 h22=>tup3V u21 fun u23 u24 u25=>aggV u23 fun l26=>boolV u24 fun q27=>intV u25 .i64 fun i28=>if List.length l26=4 then (if List.all l26 one=true then (if 0+List.length l26≤List.length [(Value.string ⟨#[]⟩),.string ⟨#[]⟩,.string ⟨#[]⟩,.int .i64 0] then (CF Try.prog 72 [.int .i64 0,(.bool true),(.string (⟨#[49,50,51,52,53,54,55,56]⟩:ByteArray))] h22 fun u29 h30=>aggV u29 fun l31=>CF Try.prog 26 [(.pointer x1),(.agg ⟨l31⟩),(.int .i64 9)] h30 fun u32 h33=>tup3V u32 fun u34 u35 u36=>aggV u34 fun l37=>boolV u35 fun q38=>intV u36 .i64 fun i39=>if List.length l37=4 then (if List.all l37 one=true then (if 0+List.length l37≤List.length [(Value.string ⟨#[]⟩),.string ⟨#[]⟩,.string ⟨#[]⟩,.int .i64 0] then (ite2 (!q16) (ite2 (i17==0) (ite2 (!q27) (ite2 (i28==0) (ite2 q38 (ite2 (i39==0) (ldV ((splice [.string ⟨#[]⟩,.string ⟨#[]⟩,.string ⟨#[]⟩,.int .i64 0] 0 l37))[2]? fun v40=>strV v40 fun s41=>ite2 ((ByteArray.toList s41)==(ByteArray.toList (⟨#[49,50,51,52,53,54,55,56,97,98]⟩:ByteArray))) (ldV ((splice [.string ⟨#[]⟩,.string ⟨#[]⟩,.string ⟨#[]⟩,.int .i64 0] 0 l37))[3]? fun v42=>intV v42 .i64 fun i43=>ite2 (i43==2) (CF Try.prog 27 [(.pointer x1)] h33 fun u44 h45=>intV u44 .i64 fun i46=>K (.bool (i46==0)) h45) (K (.bool false) h33)) (K (.bool false) h33)) (K (.bool false) h33)) (K (.bool false) h33)) (K (.bool false) h33)) (K (.bool false) h33)) (K (.bool false) h33)) (K (.bool false) h33)) else False) else False) else False) else False) else False) else False) else False) else False) else False))
theorem F22_r7 (h:E=upd (upd e 2 (sI x2)) 1 (sP x1)):R22 19 6 E V0 hp K=
 ite2 (x2 != 0) (K (w6 E 16 (sI x2) 17 (sB ((x2 != 0))) 18 (sB true) 19 sU 20 sU 21 (sB true)) V0 hp) (K (w6 E 16 (sI x2) 17 (sB ((x2 != 0))) 18 (sB false) 19 (sP x1) 20 (sB ((Option.isNone x1))) 21 (sB ((Option.isNone x1)))) V0 hp):= by subst h; kernel_rfl
def F22 (hp:HP) (K:Kh):Prop:=
  (CF Try.prog 25 [(.int .i64 4),(.int .i64 3)] hp fun u1 h2=>tup2V u1 fun u3 u4=>ptrV u3 fun p5=>intV u4 .i64 fun i6=>ite2 (i6 != 0) (F22_j1 p5 true h2  K) (F22_j1 p5 (Option.isNone p5) h2  K))
noncomputable abbrev o22 (k n:Nat):Code:=.region k (opsAt Try.f22 (pth n)) false
noncomputable def F22_code:Code:=(.seq (o22 0 2) (.seq (o22 1 5) (.seq (.seq (o22 2 19) (.cond (.tmp 21) (.seq (o22 3 75) .ret) .skip)) (.seq (o22 4 23) (.seq (o22 5 47) (.seq (o22 6 95) (.seq (o22 7 191) .ret)))))))
theorem F22_body:Try.f22.body=some F22_code:=by kernel_rfl
theorem F22_ok (hp:HP) (K:Kh) (h:F22  hp K):CF Try.prog 22 [] hp K:=by
 refine .inl ⟨by kernel_rfl,AC.intro (N:=79) Try.func22 F22_body rfl (Nat.le_of_ble_eq_true rfl) ?_⟩
 unfold F22 at h
 refine Ar F22_r0 ?_ Rn Sn Sn
 refine Ar F22_r1 ?_ Rn Sn Sn
 refine mC h fun u1 h2 h=>mT h fun u3 u4 h=>mP h fun p5 h=>mI h fun i6 h=>?_
 refine Aq (As (fun env pv hp=>∃ x1 x21,Sub (w2 E0 21 (sB x21) 1 (sP x1)) env∧Sub V0 pv∧F22_j1 x1 x21 hp  K) ?_ ?_)
 ·refine Ag (F22_r7 rfl) ?_ (r2 1 2 Rn) (z2 Sn) Sn
  refine mt h (fun h=>?_) (fun h=>?_)
  ·exact ⟨_,_,(z2 Sn),Sn,h⟩
  ·exact ⟨_,_,(z2 Sn),Sn,h⟩
 ·rintro env pv hp ⟨x1,x21,he,hv,h⟩
  refine Ae ?_ (r2 1 21 Rn) he hv
  unfold F22_j1 at h
  refine Ac h rfl (fun h=>?_) (fun h=>?_)
  ·refine Ar F22_r2 ?_ Rn Sn Sn
   refine AWP.ret ?_
   exact h
  ·refine AWP.skip (Ar F22_r3 ?_ (r1 1 Rn) (z1 Sn) Sn)
   refine mC h fun u7 h8 h=>mA h fun l9 h=>mC h fun u10 h11 h=>mU h fun u12 u13 u14 h=>mA h fun l15 h=>mB h fun q16 h=>mI h fun i17 h=>mf h fun h=>mf h fun h=>mf h fun h=>?_
   refine Ar F22_r4 ?_ (r3 1 4 5 Rn) (z3 Sn) Sn
   refine mC h fun u18 h19 h=>mA h fun l20 h=>mC h fun u21 h22 h=>mU h fun u23 u24 u25 h=>mA h fun l26 h=>mB h fun q27 h=>mI h fun i28 h=>mf h fun h=>mf h fun h=>mf h fun h=>?_
   refine Ar F22_r5 ?_ (r5 1 4 5 7 8 Rn) (z5 Sn) Sn
   refine mC h fun u29 h30 h=>mA h fun l31 h=>mC h fun u32 h33 h=>mU h fun u34 u35 u36 h=>mA h fun l37 h=>mB h fun q38 h=>mI h fun i39 h=>mf h fun h=>mf h fun h=>mf h fun h=>?_
   refine Ar (F22_r6 rfl) ?_ (r5 1 4 5 7 8 (rp 9 9 0 (r2 10 11 Rn))) (z8 Sn) (z1 Sn)
   refine mt h (fun h=>?_) (fun h=>?_)
   ·refine mt h (fun h=>?_) (fun h=>?_)
    ·refine mt h (fun h=>?_) (fun h=>?_)
     ·refine mt h (fun h=>?_) (fun h=>?_)
      ·refine mt h (fun h=>?_) (fun h=>?_)
       ·refine mt h (fun h=>?_) (fun h=>?_)
        ·refine mV h fun v40 h=>ms h fun s41 h=>?_
         refine mt h (fun h=>?_) (fun h=>?_)
         ·refine mV h fun v42 h=>mI h fun i43 h=>?_
          refine mt h (fun h=>?_) (fun h=>?_)
          ·refine mC h fun u44 h45 h=>mI h fun i46 h=>?_
           refine AWP.ret ?_
           exact h
          ·refine AWP.ret ?_
           exact h
         ·refine AWP.ret ?_
          exact h
        ·refine AWP.ret ?_
         exact h
       ·refine AWP.ret ?_
        exact h
      ·refine AWP.ret ?_
       exact h
     ·refine AWP.ret ?_
      exact h
    ·refine AWP.ret ?_
     exact h
   ·refine AWP.ret ?_
    exact h
end
section
variable {e E:Env} {x0:Int} {x1:Bool} {x2:ByteArray} {k6:List Value} {hp:HP} {K:Env→PV→HP→Prop}
abbrev R72 (p n:Nat):=RW Try.prog 11 [6] (opsAt Try.f72 (pth p)) (List.range n)
theorem F72_r0:R72 2 1 e V0 hp K=
 K (upd e 6 (sR 6 0)) (upd V0 6 (29,[.string ⟨#[]⟩,.string ⟨#[]⟩,.int .i64 0,.bool false,.string ⟨#[]⟩,.string ⟨#[]⟩])) hp:= by kernel_rfl
theorem F72_r1 (h:E=upd (w3 e 6 (sR 6 0) 2 (sT x2) 1 (sB x1)) 0 (sI x0)):R72 5 5 E (upd V0 6 (29,k6)) hp K=
    (if List.length [(Value.string (⟨#[107]⟩:ByteArray)),(.string (⟨#[115]⟩:ByteArray)),(.int .i64 x0),(.bool x1),(.string x2),.string ⟨#[]⟩]=6 then (if List.all [(Value.string (⟨#[107]⟩:ByteArray)),(.string (⟨#[115]⟩:ByteArray)),(.int .i64 x0),(.bool x1),(.string x2),.string ⟨#[]⟩] one=true then (if 0+List.length [(Value.string (⟨#[107]⟩:ByteArray)),(.string (⟨#[115]⟩:ByteArray)),(.int .i64 x0),(.bool x1),(.string x2),.string ⟨#[]⟩]≤List.length k6 then (K (w4 E 7 (sI x0) 8 (sB x1) 9 (sT x2) 10 (sV (.agg ⟨[(.string (⟨#[107]⟩:ByteArray)),(.string (⟨#[115]⟩:ByteArray)),(.int .i64 x0),(.bool x1),(.string x2),.string ⟨#[]⟩]⟩))) (w2 V0 6 (29,k6) 6 (29,(splice k6 0 [(.string (⟨#[107]⟩:ByteArray)),(.string (⟨#[115]⟩:ByteArray)),(.int .i64 x0),(.bool x1),(.string x2),.string ⟨#[]⟩]))) hp) else False) else False) else False):=by subst h; kernel_rfl
def F72 (x0:Int) (x1:Bool) (x2:ByteArray) (hp:HP) (K:Kh):Prop:=
  (if List.length [(Value.string (⟨#[107]⟩:ByteArray)),(.string (⟨#[115]⟩:ByteArray)),(.int .i64 x0),(.bool x1),(.string x2),.string ⟨#[]⟩]=6 then (if List.all [(Value.string (⟨#[107]⟩:ByteArray)),(.string (⟨#[115]⟩:ByteArray)),(.int .i64 x0),(.bool x1),(.string x2),.string ⟨#[]⟩] one=true then (if 0+List.length [(Value.string (⟨#[107]⟩:ByteArray)),(.string (⟨#[115]⟩:ByteArray)),(.int .i64 x0),(.bool x1),(.string x2),.string ⟨#[]⟩]≤List.length [(Value.string ⟨#[]⟩),.string ⟨#[]⟩,.int .i64 0,.bool false,.string ⟨#[]⟩,.string ⟨#[]⟩] then (ldL (cellsN (splice [.string ⟨#[]⟩,.string ⟨#[]⟩,.int .i64 0,.bool false,.string ⟨#[]⟩,.string ⟨#[]⟩] 0 [(.string (⟨#[107]⟩:ByteArray)),(.string (⟨#[115]⟩:ByteArray)),(.int .i64 x0),(.bool x1),(.string x2),.string ⟨#[]⟩]) 0 6) fun l1=>K (.agg ⟨l1⟩) hp) else False) else False) else False)
noncomputable def F72_code:Code:=(.seq (.region 0 (opsAt Try.f72 (pth 2)) false) (.seq (.region 1 (opsAt Try.f72 (pth 5)) false) .ret))
theorem F72_body:Try.f72.body=some F72_code:=by kernel_rfl
theorem F72_ok (x0:Int) (x1:Bool) (x2:ByteArray) (hp:HP) (K:Kh) (h:F72 x0 x1 x2 hp K):CF Try.prog 72 [(.int .i64 x0),(.bool x1),(.string x2)] hp K:=by
 refine .inl ⟨by kernel_rfl,AC.intro (N:=11) Try.func72 F72_body rfl (Nat.le_of_ble_eq_true rfl) ?_⟩
 unfold F72 at h
 refine Ar F72_r0 ?_ (r3 0 1 2 Rn) (z3 Sn) Sn
 refine Ar (F72_r1 rfl) ?_ (r3 0 1 2 (rp 6 6 0 Rn)) (z4 Sn) (z1 Sn)
 refine mf h fun h=>mf h fun h=>mf h fun h=>?_
 refine AWP.ret ?_
 exact h
end
section
variable {e E:Env} {x0:OA} {x1:Int} {x5a:OA} {x5n x5c:Nat} {x7:ByteArray} {x8 x12a:OA} {x12n x12c:Nat} {x13 x14:Int} {hp:HP} {K:Env→PV→HP→Prop}
abbrev R62 (p n:Nat):=RW Try.prog 47 [] (opsAt Try.f62 (pth p)) (List.range n)
theorem F62_r0:R62 2 1 e V0 hp K=
 K (upd e 4 (sS none 0 0)) V0 hp:= by kernel_rfl
theorem F62_r1:R62 9 2 (upd e 0 (sP x0)) V0 hp K=
 CF Try.prog 75 [(.pointer x0)] hp fun u1 h2=>(boolV u1 fun q3=>K (w3 e 0 (sP x0) 9 (sP x0) 10 (sB q3)) V0 h2):= by kernel_rfl
theorem F62_r2:R62 37 1 e V0 hp K=
 K (upd e 4 (sS none 0 0)) V0 hp:= by kernel_rfl
theorem F62_r3:R62 11 1 e V0 hp K=
 K (upd e 5 (sS none 0 0)) V0 hp:= by kernel_rfl
theorem F62_r4:R62 47 2 (upd e 5 (sS x5a x5n x5c)) V0 hp K=
 K (w3 e 5 (sS x5a x5n x5c) 46 (sS x5a x5n x5c) 4 (sS x5a x5n x5c)) V0 hp:= by kernel_rfl
def F62_j1 (x5a:OA) (x5n x5c:Nat) (hp:HP) (K:Kh):Prop:=
  (K (.slice x5a x5n x5c) hp)
theorem F62_r5:R62 279 1 (w2 e 14 (sI x14) 13 (sI x13)) V0 hp K=
 K (w3 e 14 (sI x14) 13 (sI x13) 15 (sB (decide (x14<x13)))) V0 hp:= by kernel_rfl
theorem F62_r6:R62 1943 2 (upd e 14 (sI x14)) V0 hp K=
 K (w3 e 14 (sI x14) 45 (sI ((wr (x14+1)))) 14 (sI ((wr (x14+1))))) V0 hp:= by kernel_rfl
def F62_j4 (x0:OA) (x1:Int) (x5a:OA) (x5n x5c:Nat) (x12a:OA) (x12n x12c:Nat) (x13 x14:Int) (hp:HP) (I3:(OA × Nat × Nat × Int)→HP→Prop) (K:Kh):Prop:=
  (I3 (x5a,x5n,x5c,(IntKind.wrap .i64 (x14+1))) hp)
theorem F62_r7 (h:E=upd (upd e 14 (sI x14)) 12 (sS x12a x12n x12c)):R62 4503 3 E V0 hp K=
    ((0≤x14)∧(x14<x12n)∧(ptrN x12a fun b1 o2=>ldV (HP.cell hp b1 (o2+Int.toNat x14*1)) fun v3=>strV v3 fun s4=>K (w3 E 16 (sQ b1 (o2+Int.toNat x14*1)) 17 (sT s4) 7 (sT s4)) V0 hp)):=by subst h; kernel_rfl
theorem F62_r8:R62 10647 7 (w2 e 7 (sT x7) 0 (sP x0)) V0 hp K=
 ptrN x0 fun b1 o2=>(ldV (HP.cell hp b1 (o2+4)) fun v3=>mapV v3 fun m4=>rdS Try.prog (Instr.lookup 128 (.map m4) (.string x7) false) hp fun u5=>ptrV u5 fun p6=>K (upd (w8 e 7 (sT x7) 0 (sP x0) 18 (sP x0) 19 (sQ b1 o2) 20 (sQ b1 (o2+4)) 21 (sV (.map m4)) 22 (sT x7) 23 (sP p6)) 8 (sP p6)) V0 hp):= by kernel_rfl
theorem F62_r9:R62 22935 6 (w2 e 8 (sP x8) 1 (sI x1)) V0 hp K=
 ptrN x8 fun b1 o2=>(ldV (HP.cell hp b1 (o2+1)) fun v3=>intV v3 .i64 fun i4=>K (w8 e 8 (sP x8) 1 (sI x1) 24 (sP x8) 25 (sQ b1 o2) 26 (sQ b1 (o2+1)) 27 (sI i4) 28 (sI x1) 29 (sB (decide (i4≤x1)))) V0 hp):= by kernel_rfl
theorem F62_r10:R62 113047 3 (w2 e 7 (sT x7) 0 (sP x0)) V0 hp K=
 CF Try.prog 79 [(.pointer x0),(.string x7)] hp fun u1 h2=>(K (w5 e 7 (sT x7) 0 (sP x0) 42 (sP x0) 43 (sT x7) 44 (sV u1)) V0 h2):= by kernel_rfl
def F62_j5 (x0:OA) (x1:Int) (x5a:OA) (x5n x5c:Nat) (x7:ByteArray) (x12a:OA) (x12n x12c:Nat) (x13 x14:Int) (hp:HP) (I3:(OA × Nat × Nat × Int)→HP→Prop) (K:Kh):Prop:=
  (CF Try.prog 79 [(.pointer x0),(.string x7)] hp fun u18 h19=>F62_j4 x0 x1 x5a x5n x5c x12a x12n x12c x13 x14 h19 I3 K)
theorem F62_r11 {e:Env} {x5a:OA} {x5n:Nat} {x5c:Nat} {x7:ByteArray} {x8:OA} {hp:HP} {K:Env→PV→HP→Prop}:RW Try.prog 47 [] (opsAt Try.f62 (pth 80279)) [0,1,2,3,4,5,6,7,8,9,10,11,12] (w3 e 8 (sP x8) 7 (sT x7) 5 (sS x5a x5n x5c)) V0 hp K=
 CF Try.prog 110 [(.pointer x8)] hp fun u1 h2=>(strV u1 fun s3=>ptrN x8 fun b4 o5=>ldV (HP.cell h2 b4 (o5+3)) fun v6=>slcV v6 fun a7 n8 c9=>if List.length [(Value.string x7),(.string s3),.string ⟨#[]⟩,(.int .i64 (n8:Nat))]=4 then (∀ b10:Nat,h2 b10=.none→(opS Try.prog (Builtin.append_ #[109,109] 109 ⟨[(.slice x5a x5n x5c),(.slice (some ⟨b10,0,none⟩) 1 1)]⟩) (HP.set h2 b10 (.cells 36 (splice [.string ⟨#[]⟩,.string ⟨#[]⟩,.string ⟨#[]⟩,.int .i64 0] 0 [(.string x7),(.string s3),.string ⟨#[]⟩,(.int .i64 (n8:Nat))]) 0)) fun u11 h12=>slcV u11 fun a13 n14 c15=>K (w8 (w8 e 8 (sP x8) 7 (sT x7) 5 (sS x5a x5n x5c) 30 (sS x5a x5n x5c) 31 (sT x7) 32 (sP x8) 33 (sT s3) 34 (sP x8)) 35 (sQ b4 o5) 36 (sQ b4 (o5+3)) 37 (sS a7 n8 c9) 38 (sI ((n8:Nat))) 39 (sV (.agg ⟨[(.string x7),(.string s3),.string ⟨#[]⟩,(.int .i64 (n8:Nat))]⟩)) 40 (sV (.slice (some ⟨b10,0,none⟩) 1 1)) 41 (sS a13 n14 c15) 5 (sS a13 n14 c15)) V0 h12)) else False):= by kernel_rfl
theorem F62_r12 {e:Env} {x5a:OA} {x5n:Nat} {x5c:Nat} {x7:ByteArray} {x8:OA} {hp:HP} {K:Env→PV→HP→Prop}:RW Try.prog 47 [] (opsAt Try.f62 (pth 80279)) [0,1,2,4,5,6,7,3,8,9,10,11,12] (w3 e 8 (sP x8) 7 (sT x7) 5 (sS x5a x5n x5c)) V0 hp K=
 ptrN x8 fun b1 o2=>(ldV (HP.cell hp b1 (o2+3)) fun v3=>slcV v3 fun a4 n5 c6=>CF Try.prog 110 [(.pointer x8)] hp fun u7 h8=>strV u7 fun s9=>if List.length [(Value.string x7),(.string s9),.string ⟨#[]⟩,(.int .i64 (n5:Nat))]=4 then (∀ b10:Nat,h8 b10=.none→(opS Try.prog (Builtin.append_ #[109,109] 109 ⟨[(.slice x5a x5n x5c),(.slice (some ⟨b10,0,none⟩) 1 1)]⟩) (HP.set h8 b10 (.cells 36 (splice [.string ⟨#[]⟩,.string ⟨#[]⟩,.string ⟨#[]⟩,.int .i64 0] 0 [(.string x7),(.string s9),.string ⟨#[]⟩,(.int .i64 (n5:Nat))]) 0)) fun u11 h12=>slcV u11 fun a13 n14 c15=>K (w8 (w8 e 8 (sP x8) 7 (sT x7) 5 (sS x5a x5n x5c) 30 (sS x5a x5n x5c) 31 (sT x7) 32 (sP x8) 34 (sP x8) 35 (sQ b1 o2)) 36 (sQ b1 (o2+3)) 37 (sS a4 n5 c6) 33 (sT s9) 38 (sI ((n5:Nat))) 39 (sV (.agg ⟨[(.string x7),(.string s9),.string ⟨#[]⟩,(.int .i64 (n5:Nat))]⟩)) 40 (sV (.slice (some ⟨b10,0,none⟩) 1 1)) 41 (sS a13 n14 c15) 5 (sS a13 n14 c15)) V0 h12)) else False):= by kernel_rfl
def F62_l3 (x0:OA) (x1:Int) (x12a:OA) (x12n x12c:Nat) (x13:Int) (K:Kh) (I3:(OA × Nat × Nat × Int)→HP→Prop) (x5a:OA) (x5n x5c:Nat) (x14:Int) (hp:HP):Prop:=
  (ite2 (decide (x14<x13)) ((0≤x14)∧(x14<x12n)∧(ptrN x12a fun b4 o5=>ldV (HP.cell hp b4 (o5+Int.toNat x14*1)) fun v6=>strV v6 fun s7=>ptrN x0 fun b8 o9=>ldV (HP.cell hp b8 (o9+4)) fun v10=>mapV v10 fun m11=>rdS Try.prog (Instr.lookup 128 (.map m11) (.string s7) false) hp fun u12=>ptrV u12 fun p13=>ptrN p13 fun b14 o15=>ldV (HP.cell hp b14 (o15+1)) fun v16=>intV v16 .i64 fun i17=>ite2 (decide (i17≤x1)) ((CF Try.prog 110 [(.pointer p13)] hp fun u20 h21=>strV u20 fun s22=>ptrN p13 fun b23 o24=>ldV (HP.cell h21 b23 (o24+3)) fun v25=>slcV v25 fun a26 n27 c28=>if List.length [(Value.string s7),(.string s22),.string ⟨#[]⟩,(.int .i64 (n27:Nat))]=4 then (∀ b29:Nat,h21 b29=.none→(opS Try.prog (Builtin.append_ #[109,109] 109 ⟨[(.slice x5a x5n x5c),(.slice (some ⟨b29,0,none⟩) 1 1)]⟩) (HP.set h21 b29 (.cells 36 (splice [.string ⟨#[]⟩,.string ⟨#[]⟩,.string ⟨#[]⟩,.int .i64 0] 0 [(.string s7),(.string s22),.string ⟨#[]⟩,(.int .i64 (n27:Nat))]) 0)) fun u30 h31=>slcV u30 fun a32 n33 c34=>F62_j5 x0 x1 a32 n33 c34 s7 x12a x12n x12c x13 x14 h31 I3 K)) else False)∧(ptrN p13 fun b35 o36=>ldV (HP.cell hp b35 (o36+3)) fun v37=>slcV v37 fun a38 n39 c40=>CF Try.prog 110 [(.pointer p13)] hp fun u41 h42=>strV u41 fun s43=>if List.length [(Value.string s7),(.string s43),.string ⟨#[]⟩,(.int .i64 (n39:Nat))]=4 then (∀ b44:Nat,h42 b44=.none→(opS Try.prog (Builtin.append_ #[109,109] 109 ⟨[(.slice x5a x5n x5c),(.slice (some ⟨b44,0,none⟩) 1 1)]⟩) (HP.set h42 b44 (.cells 36 (splice [.string ⟨#[]⟩,.string ⟨#[]⟩,.string ⟨#[]⟩,.int .i64 0] 0 [(.string s7),(.string s43),.string ⟨#[]⟩,(.int .i64 (n39:Nat))]) 0)) fun u45 h46=>slcV u45 fun a47 n48 c49=>F62_j5 x0 x1 a47 n48 c49 s7 x12a x12n x12c x13 x14 h46 I3 K)) else False)) (F62_j4 x0 x1 x5a x5n x5c x12a x12n x12c x13 x14 hp I3 K))) (F62_j1 x5a x5n x5c hp  K))
def F62_j2 (x0:OA) (x1:Int) (x5a:OA) (x5n x5c:Nat) (x12a:OA) (x12n x12c:Nat) (x13 x14:Int) (hp:HP) (K:Kh):Prop:=
  (LoopP (σ:=OA × Nat × Nat × Int) (fun I s hp=>F62_l3 x0 x1 x12a x12n x12c x13  K I s.1 s.2.1 s.2.2.1 s.2.2.2 hp) (x5a,x5n,x5c,x14) hp)
theorem F62_r13:R62 39 4 (upd e 0 (sP x0)) V0 hp K=
 CF Try.prog 107 [(.pointer x0),(.func (.func 109) ⟨[]⟩ ⟨[]⟩)] hp fun u1 h2=>(slcV u1 fun a3 n4 c5=>K (w5 e 0 (sP x0) 11 (sP x0) 12 (sS a3 n4 c5) 13 (sI ((n4:Nat))) 14 (sI 0)) V0 h2):= by kernel_rfl
def F62 (x0:OA) (x1:Int) (hp:HP) (K:Kh):Prop:=
  (CF Try.prog 75 [(.pointer x0)] hp fun u1 h2=>boolV u1 fun q3=>ite2 q3 (K (.slice none 0 0) h2) (CF Try.prog 107 [(.pointer x0),(.func (.func 109) ⟨[]⟩ ⟨[]⟩)] h2 fun u50 h51=>slcV u50 fun a52 n53 c54=>F62_j2 x0 x1 none 0 0 a52 n53 c54 (n53:Nat) 0 h51  K))
noncomputable abbrev o62 (k n:Nat):Code:=.region k (opsAt Try.f62 (pth n)) false
noncomputable def F62_code:Code:=(.seq (o62 0 2) (.seq (.seq (o62 1 9) (.cond (.tmp 10) (.seq (o62 2 37) .ret) .skip)) (.seq (o62 3 11) (.seq (.seq (o62 4 39) (.block 0 (.loop (.seq (o62 5 279) (.seq (.cond (.tmp 15) .skip (.exit 0)) (.seq (.block 1 (.seq (o62 6 4503) (.seq (o62 7 10647) (.seq (o62 8 22935) (.cond (.tmp 29) (.seq (.region 9 (opsAt Try.f62 (pth 80279)) true) (o62 10 113047)) .skip))))) (o62 11 1943))))))) (.seq (o62 12 47) .ret)))))
theorem F62_body:Try.f62.body=some F62_code:=by kernel_rfl
theorem F62_ok (x0:OA) (x1:Int) (hp:HP) (K:Kh) (h:F62 x0 x1 hp K):CF Try.prog 62 [(.pointer x0),(.int .i64 x1)] hp K:=by
 refine .inl ⟨by kernel_rfl,AC.intro (N:=47) Try.func62 F62_body rfl (Nat.le_of_ble_eq_true rfl) ?_⟩
 unfold F62 at h
 refine Ar F62_r0 ?_ (r2 0 1 Rn) (z2 Sn) Sn
 refine Aq (Ar F62_r1 ?_ (r2 0 1 Rn) (z2 Sn) Sn)
 refine mC h fun u1 h2 h=>mB h fun q3 h=>?_
 refine Ac h rfl (fun h=>?_) (fun h=>?_)
 ·refine Ar F62_r2 ?_ Rn Sn Sn
  refine AWP.ret ?_
  exact h
 ·refine AWP.skip (Ar F62_r3 ?_ (r2 0 1 Rn) (z2 Sn) Sn)
  refine As (fun env pv hp=>∃ x5a x5n x5c,Sub (upd E0 5 (sS x5a x5n x5c)) env∧Sub V0 pv∧F62_j1 x5a x5n x5c hp  K) ?_ ?_
  ·refine As (fun env pv hp=>∃ x0 x1 x5a x5n x5c x12a x12n x12c x13 x14,Sub (w6 E0 14 (sI x14) 13 (sI x13) 12 (sS x12a x12n x12c) 5 (sS x5a x5n x5c) 1 (sI x1) 0 (sP x0)) env∧Sub V0 pv∧F62_j2 x0 x1 x5a x5n x5c x12a x12n x12c x13 x14 hp  K) ?_ ?_
   ·refine Ag F62_r13 ?_ (r3 0 1 5 Rn) (z3 Sn) Sn
    refine mC h fun u50 h51 h=>mS h fun a52 n53 c54 h=>?_
    exact ⟨_,_,_,_,_,_,_,_,_,_,(z6 Sn),Sn,h⟩
   ·rintro env pv hp ⟨x0,x1,x5a,x5n,x5c,x12a,x12n,x12c,x13,x14,he,hv,h⟩
    refine Ae ?_ (r6 0 1 5 12 13 14 Rn) he hv
    unfold F62_j2 at h
    refine AWP.block (AWP.loop (σ:=OA × Nat × Nat × Int) _ (fun s=>w6 E0 14 (sI (s.2.2.2)) 13 (sI x13) 12 (sS x12a x12n x12c) 5 (sV (.slice s.1 s.2.1 s.2.2.1)) 1 (sI x1) 0 (sP x0)) (fun s=>V0) (x5a,x5n,x5c,x14) h (fun s=>r6 0 1 5 12 13 14 Rn) (z6 Sn) Sn ?_)
    intro I3 s hp h
    obtain ⟨x5a,x5n,x5c,x14⟩:=s
    replace h:F62_l3 x0 x1 x12a x12n x12c x13  K I3 x5a x5n x5c x14 hp:=h
    unfold F62_l3 at h
    refine Ar F62_r5 ?_ (r6 13 14 0 1 5 12 Rn) (z6 Sn) Sn
    refine Aq (Ac h rfl (fun h=>?_) (fun h=>?_))
    ·refine AWP.skip (As (fun env pv hp=>∃ x5a x5n x5c x14,Sub (w6 E0 14 (sI x14) 13 (sI x13) 12 (sS x12a x12n x12c) 5 (sS x5a x5n x5c) 1 (sI x1) 0 (sP x0)) env∧Sub V0 pv∧F62_j4 x0 x1 x5a x5n x5c x12a x12n x12c x13 x14 hp I3 K) ?_ ?_)
     ·refine AWP.block (Ar (F62_r7 rfl) ?_ (r6 12 14 0 1 5 13 Rn) (z6 Sn) Sn)
      refine ⟨h.1,h.2.1,mN h.2.2 fun b4 o5 h=>mV h fun v6 h=>ms h fun s7 h=>?_⟩
      refine Ar F62_r8 ?_ (r7 0 7 1 5 12 13 14 Rn) (z7 Sn) Sn
      refine mN h fun b8 o9 h=>mV h fun v10 h=>mM h fun m11 h=>mR h fun u12 h=>mP h fun p13 h=>?_
      refine Ar F62_r9 ?_ (r8 1 8 0 5 7 12 13 14 Rn) (z8 Sn) Sn
      refine mN h fun b14 o15 h=>mV h fun v16 h=>mI h fun i17 h=>?_
      refine Ac h rfl (fun h=>?_) (fun h=>?_)
      ·refine As (fun env pv hp=>∃ x5a x5n x5c x7 x14,Sub (w7 E0 14 (sI x14) 13 (sI x13) 12 (sS x12a x12n x12c) 7 (sT x7) 5 (sS x5a x5n x5c) 1 (sI x1) 0 (sP x0)) env∧Sub V0 pv∧F62_j5 x0 x1 x5a x5n x5c x7 x12a x12n x12c x13 x14 hp I3 K) ?_ ?_
       ·refine AWP.rgnC (cf:=[(3,7)]) (c:=[([true],true,[0,1,2,3,4,5,6,7,8,9,10,11,12]),([false],true,[0,1,2,4,5,6,7,3,8,9,10,11,12])]) (by kernel_rfl) (by kernel_rfl) (by kernel_rfl) (by kernel_rfl) (allO_t (Eq.mpr F62_r11 ?_) (allO_t (Eq.mpr F62_r12 ?_) trivial)) (r8 5 7 8 0 1 12 13 14 Rn) (z8 Sn) Sn
        ·replace h:=h.1
         refine mC h fun u20 h21 h=>ms h fun s22 h=>mN h fun b23 o24 h=>mV h fun v25 h=>mS h fun a26 n27 c28 h=>mf h fun h=>?_
         refine fun b29 hb_b_29=>?_
         replace h:=h b29 hb_b_29
         refine mO h fun u30 h31 h=>mS h fun a32 n33 c34 h=>?_
         exact ⟨_,_,_,_,_,(z7 Sn),Sn,h⟩
        ·replace h:=h.2
         refine mN h fun b35 o36 h=>mV h fun v37 h=>mS h fun a38 n39 c40 h=>mC h fun u41 h42 h=>ms h fun s43 h=>mf h fun h=>?_
         refine fun b44 hb_b_44=>?_
         replace h:=h b44 hb_b_44
         refine mO h fun u45 h46 h=>mS h fun a47 n48 c49 h=>?_
         exact ⟨_,_,_,_,_,(z7 Sn),Sn,h⟩
       ·rintro env pv hp ⟨x5a,x5n,x5c,x7,x14,he,hv,h⟩
        refine Ae ?_ (r7 0 1 5 7 12 13 14 Rn) he hv
        unfold F62_j5 at h
        refine Ag F62_r10 ?_ (r7 0 7 1 5 12 13 14 Rn) (z7 Sn) Sn
        refine mC h fun u18 h19 h=>?_
        exact ⟨_,_,_,_,(z6 Sn),Sn,h⟩
      ·refine AWP.skip ?_
       exact ⟨_,_,_,_,(z6 Sn),Sn,h⟩
     ·rintro env pv hp ⟨x5a,x5n,x5c,x14,he,hv,h⟩
      refine Ae ?_ (r6 0 1 5 12 13 14 Rn) he hv
      unfold F62_j4 at h
      refine Ag F62_r6 ?_ (r6 14 0 1 5 12 13 Rn) (z6 Sn) Sn
      exact ⟨_,(z6 Sn),Sn,h⟩
    ·refine AWP.exit ?_
     exact ⟨_,_,_,(z1 Sn),Sn,h⟩
  ·rintro env pv hp ⟨x5a,x5n,x5c,he,hv,h⟩
   refine Ae ?_ (r1 5 Rn) he hv
   unfold F62_j1 at h
   refine Ar F62_r4 ?_ (r1 5 Rn) (z1 Sn) Sn
   refine AWP.ret ?_
   exact h
end
section
variable {e:Env} {x0:OA} {hp:HP} {K:Env→PV→HP→Prop}
abbrev R60 (p n:Nat):=RW Try.prog 7 [] (opsAt Try.f60 (pth p)) (List.range n)
theorem F60_r0:R60 2 1 e V0 hp K=
 K (upd e 2 (sS none 0 0)) V0 hp:= by kernel_rfl
theorem F60_r1:R60 9 2 (upd e 0 (sP x0)) V0 hp K=
 CF Try.prog 75 [(.pointer x0)] hp fun u1 h2=>(boolV u1 fun q3=>K (w3 e 0 (sP x0) 3 (sP x0) 4 (sB q3)) V0 h2):= by kernel_rfl
theorem F60_r2:R60 37 1 e V0 hp K=
 K (upd e 2 (sS none 0 0)) V0 hp:= by kernel_rfl
theorem F60_r3:R60 11 3 (upd e 0 (sP x0)) V0 hp K=
 CF Try.prog 107 [(.pointer x0),(.func (.func 108) ⟨[]⟩ ⟨[]⟩)] hp fun u1 h2=>(slcV u1 fun a3 n4 c5=>K (w4 e 0 (sP x0) 5 (sP x0) 6 (sS a3 n4 c5) 2 (sS a3 n4 c5)) V0 h2):= by kernel_rfl
def F60 (x0:OA) (hp:HP) (K:Kh):Prop:=
  (CF Try.prog 75 [(.pointer x0)] hp fun u1 h2=>boolV u1 fun q3=>ite2 q3 (K (.slice none 0 0) h2) (CF Try.prog 107 [(.pointer x0),(.func (.func 108) ⟨[]⟩ ⟨[]⟩)] h2 fun u4 h5=>slcV u4 fun a6 n7 c8=>K (.slice a6 n7 c8) h5))
noncomputable def F60_code:Code:=(.seq (.region 0 (opsAt Try.f60 (pth 2)) false) (.seq (.seq (.region 1 (opsAt Try.f60 (pth 9)) false) (.cond (.tmp 4) (.seq (.region 2 (opsAt Try.f60 (pth 37)) false) .ret) .skip)) (.seq (.region 3 (opsAt Try.f60 (pth 11)) false) .ret)))
theorem F60_body:Try.f60.body=some F60_code:=by kernel_rfl
theorem F60_ok (x0:OA) (hp:HP) (K:Kh) (h:F60 x0 hp K):CF Try.prog 60 [(.pointer x0)] hp K:=by
 refine .inl ⟨by kernel_rfl,AC.intro (N:=7) Try.func60 F60_body rfl (Nat.le_of_ble_eq_true rfl) ?_⟩
 unfold F60 at h
 refine Ar F60_r0 ?_ (r1 0 Rn) (z1 Sn) Sn
 refine Aq (Ar F60_r1 ?_ (r1 0 Rn) (z1 Sn) Sn)
 refine mC h fun u1 h2 h=>mB h fun q3 h=>?_
 refine Ac h rfl (fun h=>?_) (fun h=>?_)
 ·refine Ar F60_r2 ?_ Rn Sn Sn
  refine AWP.ret ?_
  exact h
 ·refine AWP.skip (Ar F60_r3 ?_ (r1 0 Rn) (z1 Sn) Sn)
  refine mC h fun u4 h5 h=>mS h fun a6 n7 c8 h=>?_
  refine AWP.ret ?_
  exact h
end
section
variable {e:Env} {x0:OA} {x1:ByteArray} {hp:HP} {K:Env→PV→HP→Prop}
abbrev R70 (p n:Nat):=RW Try.prog 13 [] (opsAt Try.f70 (pth p)) (List.range n)
theorem F70_r0:R70 2 1 e V0 hp K=
 K (upd e 4 (sI 0)) V0 hp:= by kernel_rfl
theorem F70_r1:R70 9 2 (upd e 0 (sP x0)) V0 hp K=
 CF Try.prog 75 [(.pointer x0)] hp fun u1 h2=>(boolV u1 fun q3=>K (w3 e 0 (sP x0) 5 (sP x0) 6 (sB q3)) V0 h2):= by kernel_rfl
theorem F70_r2:R70 37 1 e V0 hp K=
 K (upd e 4 (sI 0)) V0 hp:= by kernel_rfl
theorem F70_r3:R70 11 7 (w2 e 1 (sT x1) 0 (sP x0)) V0 hp K=
 ptrN x0 fun b1 o2=>(ldV (HP.cell hp b1 (o2+5)) fun v3=>mapV v3 fun m4=>rdS Try.prog (Instr.lookup 97 (.map m4) (.string x1) false) hp fun u5=>intV u5 .i64 fun i6=>K (upd (w8 e 1 (sT x1) 0 (sP x0) 7 (sP x0) 8 (sQ b1 o2) 9 (sQ b1 (o2+5)) 10 (sV (.map m4)) 11 (sT x1) 12 (sI i6)) 4 (sI i6)) V0 hp):= by kernel_rfl
def F70 (x0:OA) (x1:ByteArray) (hp:HP) (K:Kh):Prop:=
  (CF Try.prog 75 [(.pointer x0)] hp fun u1 h2=>boolV u1 fun q3=>ite2 q3 (K (.int .i64 0) h2) (ptrN x0 fun b4 o5=>ldV (HP.cell h2 b4 (o5+5)) fun v6=>mapV v6 fun m7=>rdS Try.prog (Instr.lookup 97 (.map m7) (.string x1) false) h2 fun u8=>intV u8 .i64 fun i9=>K (.int .i64 i9) h2))
noncomputable def F70_code:Code:=(.seq (.region 0 (opsAt Try.f70 (pth 2)) false) (.seq (.seq (.region 1 (opsAt Try.f70 (pth 9)) false) (.cond (.tmp 6) (.seq (.region 2 (opsAt Try.f70 (pth 37)) false) .ret) .skip)) (.seq (.region 3 (opsAt Try.f70 (pth 11)) false) .ret)))
theorem F70_body:Try.f70.body=some F70_code:=by kernel_rfl
theorem F70_ok (x0:OA) (x1:ByteArray) (hp:HP) (K:Kh) (h:F70 x0 x1 hp K):CF Try.prog 70 [(.pointer x0),(.string x1)] hp K:=by
 refine .inl ⟨by kernel_rfl,AC.intro (N:=13) Try.func70 F70_body rfl (Nat.le_of_ble_eq_true rfl) ?_⟩
 unfold F70 at h
 refine Ar F70_r0 ?_ (r2 0 1 Rn) (z2 Sn) Sn
 refine Aq (Ar F70_r1 ?_ (r2 0 1 Rn) (z2 Sn) Sn)
 refine mC h fun u1 h2 h=>mB h fun q3 h=>?_
 refine Ac h rfl (fun h=>?_) (fun h=>?_)
 ·refine Ar F70_r2 ?_ Rn Sn Sn
  refine AWP.ret ?_
  exact h
 ·refine AWP.skip (Ar F70_r3 ?_ (r2 0 1 Rn) (z2 Sn) Sn)
  refine mN h fun b4 o5 h=>mV h fun v6 h=>mM h fun m7 h=>mR h fun u8 h=>mI h fun i9 h=>?_
  refine AWP.ret ?_
  exact h
end
end Go.Proofs
set_option linter.unusedVariables false
set_option maxRecDepth 20000
namespace Go.Proofs
open Go Go.HL
section
variable {e E:Env} {x0:OA} {x1:Value} {x2 x3 x5a:OA} {x5n x5c:Nat} {x6:ByteArray} {x11:Value} {hp:HP} {K:Env→PV→HP→Prop}
abbrev R107 (p n:Nat):=RW Try.prog 24 [] (opsAt Try.f107 (pth p)) (List.range n)
theorem F107_r0:R107 2 3 (w2 e 1 (sV x1) 0 (sP x0)) V0 hp K=
    (∀ b1:Nat,hp b1=.none→(∀ b2:Nat,(HP.set hp b1 (.cells 31 [(.pointer x0)] 0)) b2=.none→(K (w5 e 1 (sV x1) 0 (sP x0) 2 (sQ b1 0) 3 (sQ b2 0) 4 (sS none 0 0)) V0 (HP.set (HP.set hp b1 (.cells 31 [(.pointer x0)] 0)) b2 (.cells 169 (Array.toList (Value.cells x1)) 0))))):=by kernel_rfl
theorem F107_r1:R107 5 1 e V0 hp K=
 K (upd e 5 (sS none 0 0)) V0 hp:= by kernel_rfl
theorem F107_r2 (h:E=upd (w2 e 5 (sS x5a x5n x5c) 3 (sP x3)) 2 (sP x2)):R107 23 3 E V0 hp K=
 CF Try.prog 137 [(.slice x5a x5n x5c),(.func (.func 138) ⟨[]⟩ ⟨[(.pointer x3),(.pointer x2)]⟩)] hp fun u1 h2=>(K (w3 E 20 (sS x5a x5n x5c) 21 (sV (.func (.func 138) ⟨[]⟩ ⟨[(.pointer x3),(.pointer x2)]⟩)) 22 (sV u1)) V0 h2):= by subst h; kernel_rfl
theorem F107_r3:R107 47 2 (upd e 5 (sS x5a x5n x5c)) V0 hp K=
 K (w3 e 5 (sS x5a x5n x5c) 23 (sS x5a x5n x5c) 4 (sS x5a x5n x5c)) V0 hp:= by kernel_rfl
def F107_j1 (x2 x3 x5a:OA) (x5n x5c:Nat) (hp:HP) (K:Kh):Prop:=
  (CF Try.prog 137 [(.slice x5a x5n x5c),(.func (.func 138) ⟨[]⟩ ⟨[(.pointer x3),(.pointer x2)]⟩)] hp fun u3 h4=>K (.slice x5a x5n x5c) h4)
theorem F107_r4:R107 139 2 (upd e 11 (sV x11)) V0 hp K=
 opS Try.prog (Instr.next x11 false 0) hp fun u1 h2=>(tupI u1 0 fun v3=>boolV v3 fun q4=>K (w3 e 11 (sV x11) 12 (sV u1) 13 (sB q4)) V0 h2):= by kernel_rfl
theorem F107_r5:R107 1227 3 (upd e 11 (sV x11)) V0 hp K=
    (rdS Try.prog (Instr.entry x11) hp fun u1=>tupI u1 0 fun v2=>strV v2 fun s3=>K (w4 e 11 (sV x11) 14 (sV u1) 15 (sT s3) 6 (sT s3)) V0 hp):=by kernel_rfl
theorem F107_r6 (h:E=upd (upd e 6 (sT x6)) 5 (sS x5a x5n x5c)):R107 1739 5 E V0 hp K=
    (∀ b1:Nat,hp b1=.none→(opS Try.prog (Builtin.append_ #[96,96] 96 ⟨[(.slice x5a x5n x5c),(.slice (some ⟨b1,0,none⟩) 1 1)]⟩) (HP.set hp b1 (.cells 9 [(.string x6)] 0)) fun u2 h3=>slcV u2 fun a4 n5 c6=>K (w5 E 16 (sS x5a x5n x5c) 17 (sT x6) 18 (sV (.slice (some ⟨b1,0,none⟩) 1 1)) 19 (sS a4 n5 c6) 5 (sS a4 n5 c6)) V0 h3)):=by subst h; kernel_rfl
def F107_l3 (x2 x3:OA) (x11:Value) (K:Kh) (I3:(OA × Nat × Nat)→HP→Prop) (x5a:OA) (x5n x5c:Nat) (hp:HP):Prop:=
  (opS Try.prog (Instr.next x11 false 0) hp fun u5 h6=>tupI u5 0 fun v7=>boolV v7 fun q8=>ite2 q8 (rdS Try.prog (Instr.entry x11) h6 fun u9=>tupI u9 0 fun v10=>strV v10 fun s11=>∀ b12:Nat,h6 b12=.none→(opS Try.prog (Builtin.append_ #[96,96] 96 ⟨[(.slice x5a x5n x5c),(.slice (some ⟨b12,0,none⟩) 1 1)]⟩) (HP.set h6 b12 (.cells 9 [(.string s11)] 0)) fun u13 h14=>slcV u13 fun a15 n16 c17=>I3 (a15,n16,c17) h14)) (F107_j1 x2 x3 x5a x5n x5c h6  K))
def F107_j2 (x2 x3 x5a:OA) (x5n x5c:Nat) (x11:Value) (hp:HP) (K:Kh):Prop:=
  (LoopP (σ:=OA × Nat × Nat) (fun I s hp=>F107_l3 x2 x3 x11  K I s.1 s.2.1 s.2.2 hp) (x5a,x5n,x5c) hp)
theorem F107_r7:R107 19 5 (upd e 2 (sP x2)) V0 hp K=
 ptrN x2 fun b1 o2=>(ldV (HP.cell hp b1 o2) fun v3=>ptrV v3 fun p4=>ptrN p4 fun b5 o6=>ldV (HP.cell hp b5 (o6+4)) fun v7=>mapV v7 fun m8=>opS Try.prog (Instr.range 128 (.map m8)) hp fun u9 h10=>K (w6 e 2 (sP x2) 7 (sP p4) 8 (sQ b5 o6) 9 (sQ b5 (o6+4)) 10 (sV (.map m8)) 11 (sV u9)) V0 h10):= by kernel_rfl
def F107 (x0:OA) (x1:Value) (hp:HP) (K:Kh):Prop:=
  (∀ b1:Nat,hp b1=.none→(∀ b2:Nat,(HP.set hp b1 (.cells 31 [(.pointer x0)] 0)) b2=.none→(ptrN (some ⟨b1,0,none⟩) fun b18 o19=>ldV (HP.cell (HP.set (HP.set hp b1 (.cells 31 [(.pointer x0)] 0)) b2 (.cells 169 (Array.toList (Value.cells x1)) 0)) b18 o19) fun v20=>ptrV v20 fun p21=>ptrN p21 fun b22 o23=>ldV (HP.cell (HP.set (HP.set hp b1 (.cells 31 [(.pointer x0)] 0)) b2 (.cells 169 (Array.toList (Value.cells x1)) 0)) b22 (o23+4)) fun v24=>mapV v24 fun m25=>opS Try.prog (Instr.range 128 (.map m25)) (HP.set (HP.set hp b1 (.cells 31 [(.pointer x0)] 0)) b2 (.cells 169 (Array.toList (Value.cells x1)) 0)) fun u26 h27=>F107_j2 (some ⟨b1,0,none⟩) (some ⟨b2,0,none⟩) none 0 0 u26 h27  K)))
noncomputable abbrev o107 (k n:Nat):Code:=.region k (opsAt Try.f107 (pth n)) false
noncomputable def F107_code:Code:=(.seq (o107 0 2) (.seq (o107 1 5) (.seq (.seq (o107 2 19) (.block 0 (.loop (.seq (o107 3 139) (.seq (.cond (.tmp 13) .skip (.exit 0)) (.block 1 (.seq (o107 4 1227) (o107 5 1739)))))))) (.seq (o107 6 23) (.seq (o107 7 47) .ret)))))
theorem F107_body:Try.f107.body=some F107_code:=by kernel_rfl
theorem F107_ok (x0:OA) (x1:Value) (hp:HP) (K:Kh) (h:F107 x0 x1 hp K):CF Try.prog 107 [(.pointer x0),x1] hp K:=by
 refine .inl ⟨by kernel_rfl,AC.intro (N:=24) Try.func107 F107_body rfl (Nat.le_of_ble_eq_true rfl) ?_⟩
 unfold F107 at h
 refine Ar F107_r0 ?_ (r2 0 1 Rn) (z2 Sn) Sn
 refine fun b1 hb_b_1=>?_
 replace h:=h b1 hb_b_1
 refine fun b2 hb_b_2=>?_
 replace h:=h b2 hb_b_2
 refine Ar F107_r1 ?_ (r2 2 3 Rn) (z2 Sn) Sn
 refine As (fun env pv hp=>∃ x2 x3 x5a x5n x5c,Sub (w3 E0 5 (sS x5a x5n x5c) 3 (sP x3) 2 (sP x2)) env∧Sub V0 pv∧F107_j1 x2 x3 x5a x5n x5c hp  K) ?_ ?_
 ·refine As (fun env pv hp=>∃ x2 x3 x5a x5n x5c x11,Sub (w4 E0 11 (sV x11) 5 (sS x5a x5n x5c) 3 (sP x3) 2 (sP x2)) env∧Sub V0 pv∧F107_j2 x2 x3 x5a x5n x5c x11 hp  K) ?_ ?_
  ·refine Ag F107_r7 ?_ (r3 2 3 5 Rn) (z3 Sn) Sn
   refine mN h fun b18 o19 h=>mV h fun v20 h=>mP h fun p21 h=>mN h fun b22 o23 h=>mV h fun v24 h=>mM h fun m25 h=>mO h fun u26 h27 h=>?_
   exact ⟨_,_,_,_,_,_,(z4 Sn),Sn,h⟩
  ·rintro env pv hp ⟨x2,x3,x5a,x5n,x5c,x11,he,hv,h⟩
   refine Ae ?_ (r4 2 3 5 11 Rn) he hv
   unfold F107_j2 at h
   refine AWP.block (AWP.loop (σ:=OA × Nat × Nat) _ (fun s=>w4 E0 11 (sV x11) 5 (sV (.slice s.1 s.2.1 s.2.2)) 3 (sP x3) 2 (sP x2)) (fun s=>V0) (x5a,x5n,x5c) h (fun s=>r4 2 3 5 11 Rn) (z4 Sn) Sn ?_)
   intro I3 s hp h
   obtain ⟨x5a,x5n,x5c⟩:=s
   replace h:F107_l3 x2 x3 x11  K I3 x5a x5n x5c hp:=h
   unfold F107_l3 at h
   refine Ar F107_r4 ?_ (r4 11 2 3 5 Rn) (z4 Sn) Sn
   refine mO h fun u5 h6 h=>tupI_mono h fun v7 h=>mB h fun q8 h=>?_
   refine Aq (Ac h rfl (fun h=>?_) (fun h=>?_))
   ·refine AWP.skip (AWP.block (Ar F107_r5 ?_ (r4 11 2 3 5 Rn) (z4 Sn) Sn))
    refine mR h fun u9 h=>tupI_mono h fun v10 h=>ms h fun s11 h=>?_
    refine Ag (F107_r6 rfl) ?_ (r5 5 6 2 3 11 Rn) (z5 Sn) Sn
    refine fun b12 hb_b_12=>?_
    replace h:=h b12 hb_b_12
    refine mO h fun u13 h14 h=>mS h fun a15 n16 c17 h=>?_
    exact ⟨_,(z4 Sn),Sn,h⟩
   ·refine AWP.exit ?_
    exact ⟨_,_,_,_,_,(z3 Sn),Sn,h⟩
 ·rintro env pv hp ⟨x2,x3,x5a,x5n,x5c,he,hv,h⟩
  refine Ae ?_ (r3 2 3 5 Rn) he hv
  unfold F107_j1 at h
  refine Ar (F107_r2 rfl) ?_ (r3 2 3 5 Rn) (z3 Sn) Sn
  refine mC h fun u3 h4 h=>?_
  refine Ar F107_r3 ?_ (r1 5 Rn) (z1 Sn) Sn
  refine AWP.ret ?_
  exact h
end
section
variable {e:Env} {x0 x1:OA} {hp:HP} {K:Env→PV→HP→Prop}
abbrev R108 (p n:Nat):=RW Try.prog 14 [] (opsAt Try.f108 (pth p)) (List.range n)
theorem F108_r0:R108 2 1 e V0 hp K=
 K (upd e 4 (sI 0)) V0 hp:= by kernel_rfl
theorem F108_r1:R108 5 10 (w2 e 1 (sP x1) 0 (sP x0)) V0 hp K=
 ptrN x0 fun b1 o2=>(ldV (HP.cell hp b1 (o2+0)) fun v3=>intV v3 .i64 fun i4=>ptrN x1 fun b5 o6=>ldV (HP.cell hp b5 (o6+0)) fun v7=>intV v7 .i64 fun i8=>CF Try.prog 97 [(.int .i64 i4),(.int .i64 i8)] hp fun u9 h10=>intV u9 .i64 fun i11=>K (w4 (w8 e 1 (sP x1) 0 (sP x0) 5 (sP x0) 6 (sQ b1 o2) 7 (sQ b1 (o2+0)) 8 (sI i4) 9 (sP x1) 10 (sQ b5 o6)) 11 (sQ b5 (o6+0)) 12 (sI i8) 13 (sI i11) 4 (sI i11)) V0 h10):= by kernel_rfl
def F108 (x0 x1:OA) (hp:HP) (K:Kh):Prop:=
  (ptrN x0 fun b1 o2=>ldV (HP.cell hp b1 (o2+0)) fun v3=>intV v3 .i64 fun i4=>ptrN x1 fun b5 o6=>ldV (HP.cell hp b5 (o6+0)) fun v7=>intV v7 .i64 fun i8=>CF Try.prog 97 [(.int .i64 i4),(.int .i64 i8)] hp fun u9 h10=>intV u9 .i64 fun i11=>K (.int .i64 i11) h10)
noncomputable def F108_code:Code:=(.seq (.region 0 (opsAt Try.f108 (pth 2)) false) (.seq (.region 1 (opsAt Try.f108 (pth 5)) true) .ret))
theorem F108_body:Try.f108.body=some F108_code:=by kernel_rfl
theorem F108_ok (x0 x1:OA) (hp:HP) (K:Kh) (h:F108 x0 x1 hp K):CF Try.prog 108 [(.pointer x0),(.pointer x1)] hp K:=by
 refine .inl ⟨by kernel_rfl,AC.intro (N:=14) Try.func108 F108_body rfl (Nat.le_of_ble_eq_true rfl) ?_⟩
 unfold F108 at h
 refine Ar F108_r0 ?_ (r2 0 1 Rn) (z2 Sn) Sn
 refine Aq (AWP.rgnD (by kernel_rfl) (by kernel_rfl) F108_r1 ?_ (r2 0 1 Rn) (z2 Sn) Sn)
 refine mN h fun b1 o2 h=>mV h fun v3 h=>mI h fun i4 h=>mN h fun b5 o6 h=>mV h fun v7 h=>mI h fun i8 h=>mC h fun u9 h10 h=>mI h fun i11 h=>?_
 refine AWP.ret ?_
 exact h
end
section
variable {e:Env} {hp:HP} {K:Env→PV→HP→Prop}
abbrev R109 (p n:Nat):=RW Try.prog 25 [] (opsAt Try.f109 (pth p)) (List.range n)
theorem F109_r0:R109 2 1 e V0 hp K=
 K (upd e 4 (sI 0)) V0 hp:= by kernel_rfl
theorem F109_r1 {e:Env} {x0:OA} {x1:OA} {hp:HP} {K:Env→PV→HP→Prop}:RW Try.prog 25 [] (opsAt Try.f109 (pth 5)) [0,1,2,3,4,5,6,7,8,9,10,11,12,13,14,15,16,17,18,19,20] (w2 e 1 (sP x1) 0 (sP x0)) V0 hp K=
 ptrN x0 fun b1 o2=>(ldV (HP.cell hp b1 (o2+1)) fun v3=>intV v3 .i64 fun i4=>ptrN x1 fun b5 o6=>ldV (HP.cell hp b5 (o6+1)) fun v7=>intV v7 .i64 fun i8=>CF Try.prog 97 [(.int .i64 i4),(.int .i64 i8)] hp fun u9 h10=>intV u9 .i64 fun i11=>ptrN x0 fun b12 o13=>ldV (HP.cell h10 b12 (o13+0)) fun v14=>intV v14 .i64 fun i15=>ptrN x1 fun b16 o17=>ldV (HP.cell h10 b16 (o17+0)) fun v18=>intV v18 .i64 fun i19=>CF Try.prog 97 [(.int .i64 i15),(.int .i64 i19)] h10 fun u20 h21=>intV u20 .i64 fun i22=>∀ b23:Nat,h21 b23=.none→(CF Try.prog 96 [(.slice (some ⟨b23,0,none⟩) 2 2)] (HP.set h21 b23 (.cells 3 [(.int .i64 i11),(.int .i64 i22)] 0)) fun u24 h25=>intV u24 .i64 fun i26=>K (w7 (w8 (w8 e 1 (sP x1) 0 (sP x0) 5 (sP x0) 6 (sQ b1 o2) 7 (sQ b1 (o2+1)) 8 (sI i4) 9 (sP x1) 10 (sQ b5 o6)) 11 (sQ b5 (o6+1)) 12 (sI i8) 13 (sI i11) 14 (sP x0) 15 (sQ b12 o13) 16 (sQ b12 (o13+0)) 17 (sI i15) 18 (sP x1)) 19 (sQ b16 o17) 20 (sQ b16 (o17+0)) 21 (sI i19) 22 (sI i22) 23 (sV (.slice (some ⟨b23,0,none⟩) 2 2)) 24 (sI i26) 4 (sI i26)) V0 h25)):= by kernel_rfl
theorem F109_r2 {e:Env} {x0:OA} {x1:OA} {hp:HP} {K:Env→PV→HP→Prop}:RW Try.prog 25 [] (opsAt Try.f109 (pth 5)) [0,1,2,3,4,5,6,7,9,10,11,13,14,15,16,8,12,17,18,19,20] (w2 e 1 (sP x1) 0 (sP x0)) V0 hp K=
 ptrN x0 fun b1 o2=>(ldV (HP.cell hp b1 (o2+1)) fun v3=>intV v3 .i64 fun i4=>ptrN x1 fun b5 o6=>ldV (HP.cell hp b5 (o6+1)) fun v7=>intV v7 .i64 fun i8=>ptrN x0 fun b9 o10=>ptrN x1 fun b11 o12=>ldV (HP.cell hp b11 (o12+0)) fun v13=>intV v13 .i64 fun i14=>CF Try.prog 97 [(.int .i64 i4),(.int .i64 i8)] hp fun u15 h16=>intV u15 .i64 fun i17=>ldV (HP.cell h16 b9 (o10+0)) fun v18=>intV v18 .i64 fun i19=>CF Try.prog 97 [(.int .i64 i19),(.int .i64 i14)] h16 fun u20 h21=>intV u20 .i64 fun i22=>∀ b23:Nat,h21 b23=.none→(CF Try.prog 96 [(.slice (some ⟨b23,0,none⟩) 2 2)] (HP.set h21 b23 (.cells 3 [(.int .i64 i17),(.int .i64 i22)] 0)) fun u24 h25=>intV u24 .i64 fun i26=>K (w7 (w8 (w8 e 1 (sP x1) 0 (sP x0) 5 (sP x0) 6 (sQ b1 o2) 7 (sQ b1 (o2+1)) 8 (sI i4) 9 (sP x1) 10 (sQ b5 o6)) 11 (sQ b5 (o6+1)) 12 (sI i8) 14 (sP x0) 15 (sQ b9 o10) 16 (sQ b9 (o10+0)) 18 (sP x1) 19 (sQ b11 o12) 20 (sQ b11 (o12+0))) 21 (sI i14) 13 (sI i17) 17 (sI i19) 22 (sI i22) 23 (sV (.slice (some ⟨b23,0,none⟩) 2 2)) 24 (sI i26) 4 (sI i26)) V0 h25)):= by kernel_rfl
theorem F109_r3 {e:Env} {x0:OA} {x1:OA} {hp:HP} {K:Env→PV→HP→Prop}:RW Try.prog 25 [] (opsAt Try.f109 (pth 5)) [0,1,2,3,4,5,6,7,9,10,11,12,8,13,14,15,16,17,18,19,20] (w2 e 1 (sP x1) 0 (sP x0)) V0 hp K=
 ptrN x0 fun b1 o2=>(ldV (HP.cell hp b1 (o2+1)) fun v3=>intV v3 .i64 fun i4=>ptrN x1 fun b5 o6=>ldV (HP.cell hp b5 (o6+1)) fun v7=>intV v7 .i64 fun i8=>ptrN x0 fun b9 o10=>ldV (HP.cell hp b9 (o10+0)) fun v11=>intV v11 .i64 fun i12=>CF Try.prog 97 [(.int .i64 i4),(.int .i64 i8)] hp fun u13 h14=>intV u13 .i64 fun i15=>ptrN x1 fun b16 o17=>ldV (HP.cell h14 b16 (o17+0)) fun v18=>intV v18 .i64 fun i19=>CF Try.prog 97 [(.int .i64 i12),(.int .i64 i19)] h14 fun u20 h21=>intV u20 .i64 fun i22=>∀ b23:Nat,h21 b23=.none→(CF Try.prog 96 [(.slice (some ⟨b23,0,none⟩) 2 2)] (HP.set h21 b23 (.cells 3 [(.int .i64 i15),(.int .i64 i22)] 0)) fun u24 h25=>intV u24 .i64 fun i26=>K (w7 (w8 (w8 e 1 (sP x1) 0 (sP x0) 5 (sP x0) 6 (sQ b1 o2) 7 (sQ b1 (o2+1)) 8 (sI i4) 9 (sP x1) 10 (sQ b5 o6)) 11 (sQ b5 (o6+1)) 12 (sI i8) 14 (sP x0) 15 (sQ b9 o10) 16 (sQ b9 (o10+0)) 17 (sI i12) 13 (sI i15) 18 (sP x1)) 19 (sQ b16 o17) 20 (sQ b16 (o17+0)) 21 (sI i19) 22 (sI i22) 23 (sV (.slice (some ⟨b23,0,none⟩) 2 2)) 24 (sI i26) 4 (sI i26)) V0 h25)):= by kernel_rfl
theorem F109_r4 {e:Env} {x0:OA} {x1:OA} {hp:HP} {K:Env→PV→HP→Prop}:RW Try.prog 25 [] (opsAt Try.f109 (pth 5)) [0,1,2,3,4,5,6,7,9,10,11,12,13,14,15,16,8,17,18,19,20] (w2 e 1 (sP x1) 0 (sP x0)) V0 hp K=
 ptrN x0 fun b1 o2=>(ldV (HP.cell hp b1 (o2+1)) fun v3=>intV v3 .i64 fun i4=>ptrN x1 fun b5 o6=>ldV (HP.cell hp b5 (o6+1)) fun v7=>intV v7 .i64 fun i8=>ptrN x0 fun b9 o10=>ldV (HP.cell hp b9 (o10+0)) fun v11=>intV v11 .i64 fun i12=>ptrN x1 fun b13 o14=>ldV (HP.cell hp b13 (o14+0)) fun v15=>intV v15 .i64 fun i16=>CF Try.prog 97 [(.int .i64 i4),(.int .i64 i8)] hp fun u17 h18=>intV u17 .i64 fun i19=>CF Try.prog 97 [(.int .i64 i12),(.int .i64 i16)] h18 fun u20 h21=>intV u20 .i64 fun i22=>∀ b23:Nat,h21 b23=.none→(CF Try.prog 96 [(.slice (some ⟨b23,0,none⟩) 2 2)] (HP.set h21 b23 (.cells 3 [(.int .i64 i19),(.int .i64 i22)] 0)) fun u24 h25=>intV u24 .i64 fun i26=>K (w7 (w8 (w8 e 1 (sP x1) 0 (sP x0) 5 (sP x0) 6 (sQ b1 o2) 7 (sQ b1 (o2+1)) 8 (sI i4) 9 (sP x1) 10 (sQ b5 o6)) 11 (sQ b5 (o6+1)) 12 (sI i8) 14 (sP x0) 15 (sQ b9 o10) 16 (sQ b9 (o10+0)) 17 (sI i12) 18 (sP x1) 19 (sQ b13 o14)) 20 (sQ b13 (o14+0)) 21 (sI i16) 13 (sI i19) 22 (sI i22) 23 (sV (.slice (some ⟨b23,0,none⟩) 2 2)) 24 (sI i26) 4 (sI i26)) V0 h25)):= by kernel_rfl
def F109 (x0 x1:OA) (hp:HP) (K:Kh):Prop:=
  ((ptrN x0 fun b1 o2=>ldV (HP.cell hp b1 (o2+1)) fun v3=>intV v3 .i64 fun i4=>ptrN x1 fun b5 o6=>ldV (HP.cell hp b5 (o6+1)) fun v7=>intV v7 .i64 fun i8=>CF Try.prog 97 [(.int .i64 i4),(.int .i64 i8)] hp fun u9 h10=>intV u9 .i64 fun i11=>ptrN x0 fun b12 o13=>ldV (HP.cell h10 b12 (o13+0)) fun v14=>intV v14 .i64 fun i15=>ptrN x1 fun b16 o17=>ldV (HP.cell h10 b16 (o17+0)) fun v18=>intV v18 .i64 fun i19=>CF Try.prog 97 [(.int .i64 i15),(.int .i64 i19)] h10 fun u20 h21=>intV u20 .i64 fun i22=>∀ b23:Nat,h21 b23=.none→(CF Try.prog 96 [(.slice (some ⟨b23,0,none⟩) 2 2)] (HP.set h21 b23 (.cells 3 [(.int .i64 i11),(.int .i64 i22)] 0)) fun u24 h25=>intV u24 .i64 fun i26=>K (.int .i64 i26) h25))∧(ptrN x0 fun b27 o28=>ldV (HP.cell hp b27 (o28+1)) fun v29=>intV v29 .i64 fun i30=>ptrN x1 fun b31 o32=>ldV (HP.cell hp b31 (o32+1)) fun v33=>intV v33 .i64 fun i34=>ptrN x0 fun b35 o36=>ptrN x1 fun b37 o38=>ldV (HP.cell hp b37 (o38+0)) fun v39=>intV v39 .i64 fun i40=>CF Try.prog 97 [(.int .i64 i30),(.int .i64 i34)] hp fun u41 h42=>intV u41 .i64 fun i43=>ldV (HP.cell h42 b35 (o36+0)) fun v44=>intV v44 .i64 fun i45=>CF Try.prog 97 [(.int .i64 i45),(.int .i64 i40)] h42 fun u46 h47=>intV u46 .i64 fun i48=>∀ b49:Nat,h47 b49=.none→(CF Try.prog 96 [(.slice (some ⟨b49,0,none⟩) 2 2)] (HP.set h47 b49 (.cells 3 [(.int .i64 i43),(.int .i64 i48)] 0)) fun u50 h51=>intV u50 .i64 fun i52=>K (.int .i64 i52) h51))∧(ptrN x0 fun b53 o54=>ldV (HP.cell hp b53 (o54+1)) fun v55=>intV v55 .i64 fun i56=>ptrN x1 fun b57 o58=>ldV (HP.cell hp b57 (o58+1)) fun v59=>intV v59 .i64 fun i60=>ptrN x0 fun b61 o62=>ldV (HP.cell hp b61 (o62+0)) fun v63=>intV v63 .i64 fun i64=>CF Try.prog 97 [(.int .i64 i56),(.int .i64 i60)] hp fun u65 h66=>intV u65 .i64 fun i67=>ptrN x1 fun b68 o69=>ldV (HP.cell h66 b68 (o69+0)) fun v70=>intV v70 .i64 fun i71=>CF Try.prog 97 [(.int .i64 i64),(.int .i64 i71)] h66 fun u72 h73=>intV u72 .i64 fun i74=>∀ b75:Nat,h73 b75=.none→(CF Try.prog 96 [(.slice (some ⟨b75,0,none⟩) 2 2)] (HP.set h73 b75 (.cells 3 [(.int .i64 i67),(.int .i64 i74)] 0)) fun u76 h77=>intV u76 .i64 fun i78=>K (.int .i64 i78) h77))∧(ptrN x0 fun b79 o80=>ldV (HP.cell hp b79 (o80+1)) fun v81=>intV v81 .i64 fun i82=>ptrN x1 fun b83 o84=>ldV (HP.cell hp b83 (o84+1)) fun v85=>intV v85 .i64 fun i86=>ptrN x0 fun b87 o88=>ldV (HP.cell hp b87 (o88+0)) fun v89=>intV v89 .i64 fun i90=>ptrN x1 fun b91 o92=>ldV (HP.cell hp b91 (o92+0)) fun v93=>intV v93 .i64 fun i94=>CF Try.prog 97 [(.int .i64 i82),(.int .i64 i86)] hp fun u95 h96=>intV u95 .i64 fun i97=>CF Try.prog 97 [(.int .i64 i90),(.int .i64 i94)] h96 fun u98 h99=>intV u98 .i64 fun i100=>∀ b101:Nat,h99 b101=.none→(CF Try.prog 96 [(.slice (some ⟨b101,0,none⟩) 2 2)] (HP.set h99 b101 (.cells 3 [(.int .i64 i97),(.int .i64 i100)] 0)) fun u102 h103=>intV u102 .i64 fun i104=>K (.int .i64 i104) h103)))
noncomputable def F109_code:Code:=(.seq (.region 0 (opsAt Try.f109 (pth 2)) false) (.seq (.region 1 (opsAt Try.f109 (pth 5)) true) .ret))
theorem F109_body:Try.f109.body=some F109_code:=by kernel_rfl
theorem F109_ok (x0 x1:OA) (hp:HP) (K:Kh) (h:F109 x0 x1 hp K):CF Try.prog 109 [(.pointer x0),(.pointer x1)] hp K:=by
 refine .inl ⟨by kernel_rfl,AC.intro (N:=25) Try.func109 F109_body rfl (Nat.le_of_ble_eq_true rfl) ?_⟩
 unfold F109 at h
 refine Ar F109_r0 ?_ (r2 0 1 Rn) (z2 Sn) Sn
 refine Aq (AWP.rgnC (cf:=[(8,12),(8,16)]) (c:=[([true,true],true,[0,1,2,3,4,5,6,7,8,9,10,11,12,13,14,15,16,17,18,19,20]),([true,false],true,[0,1,2,3,4,5,6,7,9,10,11,13,14,15,16,8,12,17,18,19,20]),([false,true],true,[0,1,2,3,4,5,6,7,9,10,11,12,8,13,14,15,16,17,18,19,20]),([false,false],true,[0,1,2,3,4,5,6,7,9,10,11,12,13,14,15,16,8,17,18,19,20])]) (by kernel_rfl) (by kernel_rfl) (by kernel_rfl) (by kernel_rfl) (allO_t (Eq.mpr F109_r1 ?_) (allO_t (Eq.mpr F109_r2 ?_) (allO_t (Eq.mpr F109_r3 ?_) (allO_t (Eq.mpr F109_r4 ?_) trivial)))) (r2 0 1 Rn) (z2 Sn) Sn)
 ·replace h:=h.1
  refine mN h fun b1 o2 h=>mV h fun v3 h=>mI h fun i4 h=>mN h fun b5 o6 h=>mV h fun v7 h=>mI h fun i8 h=>mC h fun u9 h10 h=>mI h fun i11 h=>mN h fun b12 o13 h=>mV h fun v14 h=>mI h fun i15 h=>mN h fun b16 o17 h=>mV h fun v18 h=>mI h fun i19 h=>mC h fun u20 h21 h=>mI h fun i22 h=>?_
  refine fun b23 hb_b_23=>?_
  replace h:=h b23 hb_b_23
  refine mC h fun u24 h25 h=>mI h fun i26 h=>?_
  refine AWP.ret ?_
  exact h
 ·replace h:=h.2.1
  refine mN h fun b27 o28 h=>mV h fun v29 h=>mI h fun i30 h=>mN h fun b31 o32 h=>mV h fun v33 h=>mI h fun i34 h=>mN h fun b35 o36 h=>mN h fun b37 o38 h=>mV h fun v39 h=>mI h fun i40 h=>mC h fun u41 h42 h=>mI h fun i43 h=>mV h fun v44 h=>mI h fun i45 h=>mC h fun u46 h47 h=>mI h fun i48 h=>?_
  refine fun b49 hb_b_49=>?_
  replace h:=h b49 hb_b_49
  refine mC h fun u50 h51 h=>mI h fun i52 h=>?_
  refine AWP.ret ?_
  exact h
 ·replace h:=h.2.2.1
  refine mN h fun b53 o54 h=>mV h fun v55 h=>mI h fun i56 h=>mN h fun b57 o58 h=>mV h fun v59 h=>mI h fun i60 h=>mN h fun b61 o62 h=>mV h fun v63 h=>mI h fun i64 h=>mC h fun u65 h66 h=>mI h fun i67 h=>mN h fun b68 o69 h=>mV h fun v70 h=>mI h fun i71 h=>mC h fun u72 h73 h=>mI h fun i74 h=>?_
  refine fun b75 hb_b_75=>?_
  replace h:=h b75 hb_b_75
  refine mC h fun u76 h77 h=>mI h fun i78 h=>?_
  refine AWP.ret ?_
  exact h
 ·replace h:=h.2.2.2
  refine mN h fun b79 o80 h=>mV h fun v81 h=>mI h fun i82 h=>mN h fun b83 o84 h=>mV h fun v85 h=>mI h fun i86 h=>mN h fun b87 o88 h=>mV h fun v89 h=>mI h fun i90 h=>mN h fun b91 o92 h=>mV h fun v93 h=>mI h fun i94 h=>mC h fun u95 h96 h=>mI h fun i97 h=>mC h fun u98 h99 h=>mI h fun i100 h=>?_
  refine fun b101 hb_b_101=>?_
  replace h:=h b101 hb_b_101
  refine mC h fun u102 h103 h=>mI h fun i104 h=>?_
  refine AWP.ret ?_
  exact h
end
section
variable {e E:Env} {x0 x1:ByteArray} {x2 x3:OA} {hp:HP} {K:Env→PV→HP→Prop}
abbrev R138 (p n:Nat):=RW Try.prog 21 [] (opsAt Try.f138 (pth p)) (List.range n)
theorem F138_r0:R138 2 1 e V0 hp K=
 K (upd e 6 (sI 0)) V0 hp:= by kernel_rfl
theorem F138_r1 (h:E=upd (w3 e 3 (sP x3) 2 (sP x2) 1 (sT x1)) 0 (sT x0)):R138 5 15 E V0 hp K=
 ptrN x2 fun b1 o2=>(ldV (HP.cell hp b1 o2) fun v3=>ptrN x3 fun b4 o5=>ldV (HP.cell hp b4 o5) fun v6=>ptrV v6 fun p7=>ptrN p7 fun b8 o9=>ldV (HP.cell hp b8 (o9+4)) fun v10=>mapV v10 fun m11=>rdS Try.prog (Instr.lookup 128 (.map m11) (.string x0) false) hp fun u12=>ptrV u12 fun p13=>ptrN x3 fun b14 o15=>ldV (HP.cell hp b14 o15) fun v16=>ptrV v16 fun p17=>ptrN p17 fun b18 o19=>ldV (HP.cell hp b18 (o19+4)) fun v20=>mapV v20 fun m21=>rdS Try.prog (Instr.lookup 128 (.map m21) (.string x1) false) hp fun u22=>ptrV u22 fun p23=>fnV v3 fun f24 ga25 gb26=>CF Try.prog f24 (ga25++[(Value.pointer p13),(.pointer p23)]++gb26) hp fun u27 h28=>intV u27 .i64 fun i29=>K (w7 (w8 E 7 (sV v3) 8 (sP p7) 9 (sQ b8 o9) 10 (sQ b8 (o9+4)) 11 (sV (.map m11)) 12 (sT x0) 13 (sP p13) 14 (sP p17)) 15 (sQ b18 o19) 16 (sQ b18 (o19+4)) 17 (sV (.map m21)) 18 (sT x1) 19 (sP p23) 20 (sI i29) 6 (sI i29)) V0 h28):= by subst h; kernel_rfl
def F138 (x0 x1:ByteArray) (x2 x3:OA) (hp:HP) (K:Kh):Prop:=
  (ptrN x2 fun b1 o2=>ldV (HP.cell hp b1 o2) fun v3=>ptrN x3 fun b4 o5=>ldV (HP.cell hp b4 o5) fun v6=>ptrV v6 fun p7=>ptrN p7 fun b8 o9=>ldV (HP.cell hp b8 (o9+4)) fun v10=>mapV v10 fun m11=>rdS Try.prog (Instr.lookup 128 (.map m11) (.string x0) false) hp fun u12=>ptrV u12 fun p13=>ptrN x3 fun b14 o15=>ldV (HP.cell hp b14 o15) fun v16=>ptrV v16 fun p17=>ptrN p17 fun b18 o19=>ldV (HP.cell hp b18 (o19+4)) fun v20=>mapV v20 fun m21=>rdS Try.prog (Instr.lookup 128 (.map m21) (.string x1) false) hp fun u22=>ptrV u22 fun p23=>fnV v3 fun f24 ga_25 gb_26=>CF Try.prog f24 (ga_25++[(Value.pointer p13),(.pointer p23)]++gb_26) hp fun u27 h28=>intV u27 .i64 fun i29=>K (.int .i64 i29) h28)
noncomputable def F138_code:Code:=(.seq (.region 0 (opsAt Try.f138 (pth 2)) false) (.seq (.region 1 (opsAt Try.f138 (pth 5)) true) .ret))
theorem F138_body:Try.f138.body=some F138_code:=by kernel_rfl
theorem F138_ok (x0 x1:ByteArray) (x2 x3:OA) (hp:HP) (K:Kh) (h:F138 x0 x1 x2 x3 hp K):CF Try.prog 138 [(.string x0),(.string x1),(.pointer x2),(.pointer x3)] hp K:=by
 refine .inl ⟨by kernel_rfl,AC.intro (N:=21) Try.func138 F138_body rfl (Nat.le_of_ble_eq_true rfl) ?_⟩
 unfold F138 at h
 refine Ar F138_r0 ?_ (r4 0 1 2 3 Rn) (z4 Sn) Sn
 refine Aq (AWP.rgnD (by kernel_rfl) (by kernel_rfl) (F138_r1 rfl) ?_ (r4 0 1 2 3 Rn) (z4 Sn) Sn)
 refine mN h fun b1 o2 h=>mV h fun v3 h=>mN h fun b4 o5 h=>mV h fun v6 h=>mP h fun p7 h=>mN h fun b8 o9 h=>mV h fun v10 h=>mM h fun m11 h=>mR h fun u12 h=>mP h fun p13 h=>mN h fun b14 o15 h=>mV h fun v16 h=>mP h fun p17 h=>mN h fun b18 o19 h=>mV h fun v20 h=>mM h fun m21 h=>mR h fun u22 h=>mP h fun p23 h=>mF h fun f24 ga_25 gb_26 h=>mC h fun u27 h28 h=>mI h fun i29 h=>?_
 refine AWP.ret ?_
 exact h
end
end Go.Proofs
set_option linter.unusedVariables false
namespace Go.HL
open Go
def rotf {α:Type} (g:Nat→α) (a m b:Nat):Nat→α:=fun k=>if a≤k∧k<a+(b-m) then g (k+(m-a)) else if a+(b-m)≤k∧k<b then g (k-(b-m)) else g k
def swf {α:Type} (g:Nat→α) (a b n:Nat):Nat→α:=fun k=>if a≤k∧k<a+n then g (k+b-a) else if b≤k∧k<b+n then g (k+a-b) else g k
theorem rot_left {α:Type} {g:Nat→α} {i j m:Nat} (hi:i≤m) (hji:j<i) (hj:0<j):rotf (swf g (m-i) m j) (m-(i-j)) m (m+j)=rotf g (m-i) m (m+j):=by
  funext k
  unfold rotf swf
  repeat' split
  all_goals first
    | (exfalso; omega)
    | (congr 1 <;> omega)
theorem rot_right {α:Type} {g:Nat→α} {i j m:Nat} (hi:i≤m) (hij:i<j) (hi0:0<i):rotf (swf g (m-i) (m+j-i) i) (m-i) m (m+(j-i))=rotf g (m-i) m (m+j):=by
  funext k
  unfold rotf swf
  repeat' split
  all_goals first
    | (exfalso; omega)
    | (congr 1 <;> omega)
theorem rot_same {α:Type} {g:Nat→α} {i m:Nat} (hi:i≤m):swf g (m-i) m i=rotf g (m-i) m (m+i):=by
  funext k
  unfold rotf swf
  repeat' split
  all_goals first
    | (exfalso; omega)
    | (congr 1 <;> omega)
theorem rot_id {α:Type} {g:Nat→α} {a m b:Nat} (h:a=m∨m=b) (hab:a≤m) (hmb:m≤b):rotf g a m b=g:=by
  funext k
  unfold rotf
  repeat' split
  all_goals first
    | (exfalso; omega)
    | rfl
    | (congr 1 <;> omega)
section
variable {α:Type} [Inhabited α]
def gA (d:Array α):Nat→α:=fun k=>d[k]!
theorem swp_f {d:Array α} {i j:Nat} (hi:i<d.size) (hj:j<d.size) (k:Nat):(Sort.swp d i j)[k]! = if k=j then d[i]! else if k=i then d[j]! else d[k]! := Sort.swp_get d hi hj k
theorem swf_step {d d':Array α} {a b i:Nat} (h:gA d'=swf (gA d) a b i) (hs:b+i<d'.size) (hab:a+i<b):gA (Sort.swp d' (a+i) (b+i))=swf (gA d) a b (i+1):=by
  funext k
  have h1:∀ x,d'[x]! = swf (gA d) a b i x:=fun x=>congrFun h x
  unfold gA
  rw [swp_f (by omega) hs,h1,h1,h1]
  unfold swf gA
  repeat' split
  all_goals first
    | (exfalso; omega)
    | rfl
    | (congr 1 <;> omega)
    | (subst_vars; congr 1 <;> omega)
variable {lt:α→α→Bool}
theorem le_of_sorted (hS:Sort.SWO lt) {a b:Nat} {d:Array α} (h:Sort.SortedIn lt a b d) {i j:Nat} (hi:a≤i) (hij:i≤j) (hj:j<b):lt d[j]! d[i]! = false:=by
  rcases Nat.lt_or_eq_of_le hij with h1 | h1
  · exact h i j hi h1 hj
  · rw [h1]; exact hS.irrefl _
theorem sorted_off {a b lo hi:Nat} {d d':Array α} (h:Sort.SortedIn lt lo hi d) (hp:Sort.PermIn a b d d') (ho:hi≤a∨b≤lo):Sort.SortedIn lt lo hi d':=by
  intro i j h1 h2 h3
  rw [hp.2.1 i (by omega),hp.2.1 j (by omega)]
  exact h i j h1 h2 h3
theorem across {a m b:Nat} {d d':Array α} (hb:b≤d.size) (h:∀ x y,a≤x→x<m→m≤y→y<b→lt d[y]! d[x]! = false) (h1:Sort.PermIn a m d d') (hmb:m≤b):∀ x y,a≤x→x<m→m≤y→y<b→lt d'[y]! d'[x]! = false:=by
  intro x y hx hxm hy hyb
  rw [h1.2.1 y (by omega)]
  exact Sort.permIn_all d d' a m (fun z=>lt d[y]! z=false) (by omega) h1 (fun i hi him=>h i y hi him hy hyb) x hx hxm
theorem across' {a m b:Nat} {d d':Array α} (hb:b≤d.size) (h:∀ x y,a≤x→x<m→m≤y→y<b→lt d[y]! d[x]! = false) (h1:Sort.PermIn m b d d') (ham:a≤m):∀ x y,a≤x→x<m→m≤y→y<b→lt d'[y]! d'[x]! = false:=by
  intro x y hx hxm hy hyb
  rw [h1.2.1 x (by omega)]
  exact Sort.permIn_all d d' m b (fun z=>lt z d[x]! = false) (by omega) h1 (fun i hi him=>h x i hx hxm hi him) y hy hyb
theorem sorted_join {a m b:Nat} {d:Array α} (h1:Sort.SortedIn lt a m d) (h2:Sort.SortedIn lt m b d) (h:∀ x y,a≤x→x<m→m≤y→y<b→lt d[y]! d[x]! = false):Sort.SortedIn lt a b d:=by
  intro i j hi hij hj
  rcases Nat.lt_or_ge j m with hjm | hjm
  · exact h1 i j hi hij hjm
  · rcases Nat.lt_or_ge i m with him | him
    · exact h i j hi him hjm hj
    · exact h2 i j him hij hj
def Found (p:Nat→Bool) (lo hi s:Nat):Prop:=lo≤s∧s≤hi∧(s=lo∨p (s-1)=true)∧(s=hi∨p s=false)
section
variable {a m b s:Nat} {d d1:Array α}
theorem sym_parts (hS:Sort.SWO lt) (ham:a<m) (hmb:m<b) (h1:Sort.SortedIn lt a m d) (h2:Sort.SortedIn lt m b d) {mid lo hi e:Nat} (hmid:mid=(a+b) / 2)
    (hlo:lo=if m > mid then mid+m-b else a) (hhi:hi=if m > mid then mid else m) (hf:Found (fun c=>!lt d[mid+m-1-c]! d[c]!) lo hi s) (he:e=mid+m-s)
    (hr:gA d1=rotf (gA d) s m e) :
    Sort.SortedIn lt a s d1∧Sort.SortedIn lt s mid d1∧Sort.SortedIn lt mid e d1∧Sort.SortedIn lt e b d1∧∀ x y,a≤x→x<mid→mid≤y→y<b→lt d1[y]! d1[x]! = false:=by
  obtain ⟨f1,f2,f3,f4⟩:=hf
  have g:∀ k,d1[k]! = rotf (gA d) s m e k:=fun k=>congrFun hr k
  have hb1:a≤s∧s≤m∧s≤mid∧m≤e∧mid≤e∧e≤b∧e-m=mid-s∧m-s=e-mid:=by
    split at hlo <;> split at hhi <;> omega
  obtain ⟨b1,b2,b3,b4,b5,b6,b7,b8⟩:=hb1
  have gl:∀ k,k<s→d1[k]! = d[k]! := fun k hk=>by
    rw [g]; unfold rotf; rw [if_neg (by omega),if_neg (by omega)]; rfl
  have gm:∀ k,s≤k→k<mid→d1[k]! = d[k+(m-s)]! := fun k h1 h2=>by
    rw [g]; unfold rotf; rw [if_pos (by omega)]; rfl
  have gn:∀ k,mid≤k→k<e→d1[k]! = d[k-(e-m)]! := fun k h1 h2=>by
    rw [g]; unfold rotf; rw [if_neg (by omega),if_pos (by omega)]; rfl
  have gr:∀ k,e≤k→d1[k]! = d[k]! := fun k hk=>by
    rw [g]; unfold rotf; rw [if_neg (by omega),if_neg (by omega)]; rfl
  refine ⟨?_,?_,?_,?_,?_⟩
  · intro i j hi hij hj
    rw [gl i (by omega),gl j (by omega)]; exact h1 i j hi hij (by omega)
  · intro i j hi hij hj
    rw [gm i hi (by omega),gm j (by omega) hj]; exact h2 _ _ (by omega) (by omega) (by omega)
  · intro i j hi hij hj
    rw [gn i hi (by omega),gn j (by omega) hj]; exact h1 _ _ (by omega) (by omega) (by omega)
  · intro i j hi hij hj
    rw [gr i hi,gr j (by omega)]; exact h2 i j (by omega) hij hj
  · intro x y hx hxm hy hyb
    rcases Nat.lt_or_ge x s with hxs | hxs
    · rw [gl x hxs]
      rcases Nat.lt_or_ge y e with hye | hye
      · rw [gn y hy hye]
        exact le_of_sorted hS h1 hx (by omega) (by omega)
      · rw [gr y hye]
        rcases f3 with f3 | f3
        · exfalso
          split at hlo <;> omega
        · have e1:mid+m-1-(s-1)=e:=by omega
          simp only [Bool.not_eq_true',e1] at f3
          have k1:lt d[y]! d[e]! = false:=le_of_sorted hS h2 b4 hye hyb
          have k2:lt d[s-1]! d[x]! = false:=le_of_sorted hS h1 hx (by omega) (by omega)
          exact hS.ntrans _ _ _ (hS.ntrans _ _ _ k1 f3) k2
    · rw [gm x hxs hxm]
      rcases Nat.lt_or_ge y e with hye | hye
      · rw [gn y hy hye]
        rcases f4 with f4 | f4
        · exfalso
          split at hhi <;> omega
        · have e1:mid+m-1-s=e-1:=by omega
          simp only [Bool.not_eq_false',e1] at f4
          have f5:=hS.asymmA f4
          have k1:lt d[y-(e-m)]! d[s]! = false:=le_of_sorted hS h1 b1 (by omega) (by omega)
          have k2:lt d[e-1]! d[x+(m-s)]! = false:=le_of_sorted hS h2 (by omega) (by omega) (by omega)
          exact hS.ntrans _ _ _ (hS.ntrans _ _ _ k1 f5) k2
      · rw [gr y hye]
        exact le_of_sorted hS h2 (by omega) (by omega) hyb
theorem sym_done {mid e:Nat} (hb:b≤d1.size) (has:a≤s) (hsm:s≤mid) (hme:mid≤e) (heb:e≤b) {d2 d3:Array α}
    (p1:Sort.SortedIn lt a s d1) (p2:Sort.SortedIn lt s mid d1) (p3:Sort.SortedIn lt mid e d1) (p4:Sort.SortedIn lt e b d1) (p5:∀ x y,a≤x→x<mid→mid≤y→y<b→lt d1[y]! d1[x]! = false)
    (q1:Sort.PermIn a mid d1 d2) (q2:Sort.SortedIn lt a s d1→Sort.SortedIn lt s mid d1→Sort.SortedIn lt a mid d2)
    (q3:Sort.PermIn mid b d2 d3) (q4:Sort.SortedIn lt mid e d2→Sort.SortedIn lt e b d2→Sort.SortedIn lt mid b d3):Sort.SortedIn lt a b d3:=by
  have k1:=q2 p1 p2
  have k2:=sorted_off p3 q1 (.inr (Nat.le_refl _))
  have k3:=sorted_off p4 q1 (.inr hme)
  have k4:=q4 k2 k3
  have k5:=sorted_off k1 q3 (.inl (Nat.le_refl _))
  have hsz:d2.size=d1.size:=q1.1
  have k6:=across hb p5 q1 (by omega)
  have k7:=across' (by omega) k6 q3 (by omega)
  exact sorted_join k5 k4 k7
end
def upf {α:Type} (g:Nat→α) (a k:Nat):Nat→α:=fun x=>if a≤x∧x<k then g (x+1) else if x=k then g a else g x
theorem upf_step {d d':Array α} {a k:Nat} (hak:a≤k) (h:gA d'=upf (gA d) a k) (hs:k+1<d'.size):gA (Sort.swp d' k (k+1))=upf (gA d) a (k+1):=by
  funext x
  have h1:∀ x,d'[x]! = upf (gA d) a k x:=fun x=>congrFun h x
  unfold gA
  rw [swp_f (by omega) hs,h1,h1,h1]
  unfold upf gA
  repeat' split
  all_goals first
    | (exfalso; omega)
    | rfl
    | (congr 1 <;> omega)
    | (subst_vars; congr 1 <;> omega)
def dnf {α:Type} (g:Nat→α) (k m:Nat):Nat→α:=fun x=>if k<x∧x≤m then g (x-1) else if x=k then g m else g x
theorem dnf_step {d d':Array α} {m k:Nat} (hk:k+1≤m) (h:gA d'=dnf (gA d) (k+1) m) (hs:k+1<d'.size):gA (Sort.swp d' (k+1) k)=dnf (gA d) k m:=by
  funext x
  have h1:∀ x,d'[x]! = dnf (gA d) (k+1) m x:=fun x=>congrFun h x
  unfold gA
  rw [swp_f hs (by omega),h1,h1,h1]
  unfold dnf gA
  repeat' split
  all_goals first
    | (exfalso; omega)
    | rfl
    | (congr 1 <;> omega)
    | (subst_vars; congr 1 <;> omega)
theorem up_sorted (hS:Sort.SWO lt) {a b i:Nat} {d d':Array α} (hab:a+1≤b) (h2:Sort.SortedIn lt (a+1) b d) (hf:Found (fun h=>lt d[h]! d[a]!) (a+1) b i) (h:gA d'=upf (gA d) a (i-1)):Sort.SortedIn lt a b d':=by
  obtain ⟨f1,f2,f3,f4⟩:=hf
  have g:∀ x,d'[x]! = upf (gA d) a (i-1) x:=fun x=>congrFun h x
  have lo:∀ x,a+1≤x→x<i→lt d[a]! d[x]! = false:=fun x h1 h3=>by
    rcases f3 with f3 | f3
    · omega
    · exact hS.ntrans _ _ _ (hS.asymmA f3) (le_of_sorted hS h2 h1 (by omega) (by omega))
  have hi:∀ x,i≤x→x<b→lt d[x]! d[a]! = false:=fun x h1 h3=>by
    rcases f4 with f4 | f4
    · omega
    · exact hS.ntrans _ _ _ (le_of_sorted hS h2 f1 h1 h3) f4
  intro x y hx hxy hy
  rw [g,g]
  unfold upf gA
  repeat' split
  all_goals first
    | (exfalso; omega)
    | exact h2 _ _ (by omega) (by omega) (by omega)
    | exact lo _ (by omega) (by omega)
    | exact hi _ (by omega) (by omega)
theorem dn_sorted (hS:Sort.SWO lt) {a m i:Nat} {d d':Array α} (ham:a≤m) (h1:Sort.SortedIn lt a m d) (hf:Found (fun h=>!lt d[m]! d[h]!) a m i) (h:gA d'=dnf (gA d) i m):Sort.SortedIn lt a (m+1) d':=by
  obtain ⟨f1,f2,f3,f4⟩:=hf
  have g:∀ x,d'[x]! = dnf (gA d) i m x:=fun x=>congrFun h x
  have lo:∀ x,a≤x→x<i→lt d[m]! d[x]! = false:=fun x hx h3=>by
    rcases f3 with f3 | f3
    · omega
    · simp only [Bool.not_eq_true'] at f3
      exact hS.ntrans _ _ _ f3 (le_of_sorted hS h1 hx (by omega) (by omega))
  have hi:∀ x,i≤x→x<m→lt d[x]! d[m]! = false:=fun x hx h3=>by
    rcases f4 with f4 | f4
    · omega
    · simp only [Bool.not_eq_false'] at f4
      exact hS.ntrans _ _ _ (le_of_sorted hS h1 f1 hx h3) (hS.asymmA f4)
  intro x y hx hxy hy
  rw [g,g]
  unfold dnf gA
  repeat' split
  all_goals first
    | (exfalso; omega)
    | exact h1 _ _ (by omega) (by omega) (by omega)
    | exact lo _ (by omega) (by omega)
    | exact hi _ (by omega) (by omega)
/-! The blocks. -/
def Lev (lt:α→α→Bool) (w lo hi:Nat) (d:Array α):Prop:=∀ i j,lo≤i→i<j→j<hi→i / w=j / w→lt d[j]! d[i]! = false
theorem Lev.nil {w lo:Nat} {d:Array α}:Lev lt w lo lo d:=fun i j h1 h2 h3 _=>by omega
theorem Lev.up {w lo lo' hi:Nat} {d:Array α} (h:Lev lt w lo hi d) (hl:lo≤lo'):Lev lt w lo' hi d:=fun i j h1 h2 h3 h4=>h i j (by omega) h2 h3 h4
theorem Lev.off {w lo hi a b:Nat} {d d':Array α} (h:Lev lt w lo hi d) (hp:Sort.PermIn a b d d') (ho:hi≤a∨b≤lo):Lev lt w lo hi d':=fun i j h1 h2 h3 h4=>by
  rw [hp.2.1 i (by omega),hp.2.1 j (by omega)]; exact h i j h1 h2 h3 h4
theorem Lev.add {w t b:Nat} {d:Array α} (hw:0<w) (h:Lev lt w 0 (w*t) d) (hs:Sort.SortedIn lt (w*t) b d):Lev lt w 0 b d:=by
  intro i j h1 h2 h3 h4
  rcases Nat.lt_or_ge i (w*t) with hi | hi
  · rcases Nat.lt_or_ge j (w*t) with hj | hj
    · exact h i j h1 h2 hj h4
    · have k1:i / w<t:=Nat.div_lt_of_lt_mul hi
      have k2:t≤j / w:=(Nat.le_div_iff_mul_le hw).2 (by rw [Nat.mul_comm]; exact hj)
      omega
  · exact hs i j hi h2 h3
theorem Lev.part {w t lo hi n:Nat} {d:Array α} (hw:0<w) (h:Lev lt w lo n d) (hlo:lo≤w*t) (hhi:hi≤w*(t+1)) (hn:hi≤n):Sort.SortedIn lt (w*t) hi d:=by
  intro i j h1 h2 h3
  refine h i j (by omega) h2 (by omega) ?_
  have e:∀ x,w*t≤x→x<w*(t+1)→x / w=t:=fun x hx hx'=>Nat.div_eq_of_lt_le (by rw [Nat.mul_comm]; exact hx) (by rw [Nat.mul_comm]; exact hx')
  rw [e i h1 (by omega),e j (by omega) (by omega)]
theorem Lev.all {w n:Nat} {d:Array α} (h:Lev lt w 0 n d) (hn:n≤w):Sort.SortedIn lt 0 n d:=fun i j h1 h2 h3=>h i j h1 h2 h3 (by rw [Nat.div_eq_of_lt (by omega),Nat.div_eq_of_lt (by omega)])
end
end Go.HL
set_option linter.unusedVariables false
set_option maxRecDepth 20000
namespace Go.Proofs
open Go Go.HL
section
variable {e E:Env} {x0a:OA} {x0n x0c:Nat} {x1 x2 x3:Int} {x4:Value} {x10 x11 x12 x13 x14 x15 x16 x17 x18 x19 x20 x21 x22 x23 x24:Int} {hp:HP} {K:Env→PV→HP→Prop}
abbrev R170 (p n:Nat):=RW Try.prog 220 [] (opsAt Try.f170 (pth p)) (List.range n)
theorem F170_r0:R170 11 7 (w2 e 3 (sI x3) 1 (sI x1)) V0 hp K=
    ((0≤(1:Int))∧(K (upd (w8 e 3 (sI x3) 1 (sI x1) 129 (sI x1) 130 (sI x3) 131 (sI ((wr (x1+x3)))) 132 (sV (.int .u64 (IntKind.wrap .u64 ((wr (x1+x3)))))) 133 (sV (.int .u64 (Int.fdiv (IntKind.wrap .u64 ((wr (x1+x3)))) (2 ^ (min (Int.toNat 1) (IntKind.bits .u64)))))) 134 (sI ((wr ((Int.fdiv (IntKind.wrap .u64 ((wr (x1+x3)))) (2 ^ (min (Int.toNat 1) (IntKind.bits .u64))))))))) 18 (sI ((wr ((Int.fdiv (IntKind.wrap .u64 ((wr (x1+x3)))) (2 ^ (min (Int.toNat 1) (IntKind.bits .u64))))))))) V0 hp)):=by kernel_rfl
theorem F170_r1:R170 23 4 (w2 e 18 (sI x18) 2 (sI x2)) V0 hp K=
 K (w6 e 18 (sI x18) 2 (sI x2) 135 (sI x18) 136 (sI x2) 137 (sI ((wr (x18+x2)))) 19 (sI ((wr (x18+x2))))) V0 hp:= by kernel_rfl
theorem F170_r2:R170 47 2 e V0 hp K=
 K (w2 e 20 (sI 0) 21 (sI 0)) V0 hp:= by kernel_rfl
theorem F170_r3:R170 767 4 (w2 e 20 (sI x20) 19 (sI x19)) V0 hp K=
 K (w6 e 20 (sI x20) 19 (sI x19) 175 (sI x19) 176 (sI x20) 177 (sI ((wr (x19-x20)))) 24 (sI ((wr (x19-x20))))) V0 hp:= by kernel_rfl
theorem F170_r4 (h:E=upd (w4 e 24 (sI x24) 18 (sI x18) 4 (sV x4) 3 (sI x3)) 0 (sS x0a x0n x0c)):R170 12287 6 E V0 hp K=
 CF Try.prog 170 [(.slice x0a x0n x0c),(.int .i64 x18),(.int .i64 x24),(.int .i64 x3),x4] hp fun u1 h2=>(K (w6 E 214 (sS x0a x0n x0c) 215 (sI x18) 216 (sI x24) 217 (sI x3) 218 (sV x4) 219 (sV u1)) V0 h2):= by subst h; kernel_rfl
def F170_j8 (x0a:OA) (x0n x0c:Nat) (x3:Int) (x4:Value) (x18 x24:Int) (x213:Bool) (hp:HP) (K:Kh):Prop:=
  (ite2 x213 (CF Try.prog 170 [(.slice x0a x0n x0c),(.int .i64 x18),(.int .i64 x24),(.int .i64 x3),x4] hp fun u1 h2=>K (.tuple ⟨[]⟩) h2) (K (.tuple ⟨[]⟩) hp))
theorem F170_r5 (h:E=upd (w2 e 24 (sI x24) 18 (sI x18)) 3 (sI x3)):R170 6143 8 E V0 hp K=
 ite2 (decide (x18<x24)) (K (w8 E 206 (sI x18) 207 (sI x24) 208 (sB (decide (x18<x24))) 209 (sB true) 210 (sI x24) 211 (sI x3) 212 (sB (decide (x24<x3))) 213 (sB (decide (x24<x3)))) V0 hp) (K (w8 E 206 (sI x18) 207 (sI x24) 208 (sB (decide (x18<x24))) 209 (sB false) 210 sU 211 sU 212 sU 213 (sB false)) V0 hp):= by subst h; kernel_rfl
def F170_j7 (x0a:OA) (x0n x0c:Nat) (x3:Int) (x4:Value) (x18 x24:Int) (hp:HP) (K:Kh):Prop:=
  (ite2 (decide (x18<x24)) (F170_j8 x0a x0n x0c x3 x4 x18 x24 (decide (x24<x3)) hp  K) (F170_j8 x0a x0n x0c x3 x4 x18 x24 false hp  K))
theorem F170_r6 (h:E=upd (w4 e 20 (sI x20) 18 (sI x18) 4 (sV x4) 1 (sI x1)) 0 (sS x0a x0n x0c)):R170 11263 6 E V0 hp K=
 CF Try.prog 170 [(.slice x0a x0n x0c),(.int .i64 x1),(.int .i64 x20),(.int .i64 x18),x4] hp fun u1 h2=>(K (w6 E 200 (sS x0a x0n x0c) 201 (sI x1) 202 (sI x20) 203 (sI x18) 204 (sV x4) 205 (sV u1)) V0 h2):= by subst h; kernel_rfl
def F170_j9 (x0a:OA) (x0n x0c:Nat) (x1 x3:Int) (x4:Value) (x18 x20 x24:Int) (x199:Bool) (hp:HP) (K:Kh):Prop:=
  (ite2 x199 (CF Try.prog 170 [(.slice x0a x0n x0c),(.int .i64 x1),(.int .i64 x20),(.int .i64 x18),x4] hp fun u3 h4=>F170_j7 x0a x0n x0c x3 x4 x18 x24 h4  K) (F170_j7 x0a x0n x0c x3 x4 x18 x24 hp  K))
theorem F170_r7 (h:E=upd (w2 e 20 (sI x20) 18 (sI x18)) 1 (sI x1)):R170 5119 8 E V0 hp K=
 ite2 (decide (x1<x20)) (K (w8 E 192 (sI x1) 193 (sI x20) 194 (sB (decide (x1<x20))) 195 (sB true) 196 (sI x20) 197 (sI x18) 198 (sB (decide (x20<x18))) 199 (sB (decide (x20<x18)))) V0 hp) (K (w8 E 192 (sI x1) 193 (sI x20) 194 (sB (decide (x1<x20))) 195 (sB false) 196 sU 197 sU 198 sU 199 (sB false)) V0 hp):= by subst h; kernel_rfl
def F170_j6 (x0a:OA) (x0n x0c:Nat) (x1 x3:Int) (x4:Value) (x18 x20 x24:Int) (hp:HP) (K:Kh):Prop:=
  (ite2 (decide (x1<x20)) (F170_j9 x0a x0n x0c x1 x3 x4 x18 x20 x24 (decide (x20<x18)) hp  K) (F170_j9 x0a x0n x0c x1 x3 x4 x18 x20 x24 false hp  K))
theorem F170_r8 (h:E=upd (w4 e 24 (sI x24) 20 (sI x20) 4 (sV x4) 2 (sI x2)) 0 (sS x0a x0n x0c)):R170 5631 6 E V0 hp K=
 CF Try.prog 188 [(.slice x0a x0n x0c),(.int .i64 x20),(.int .i64 x2),(.int .i64 x24),x4] hp fun u1 h2=>(K (w6 E 186 (sS x0a x0n x0c) 187 (sI x20) 188 (sI x2) 189 (sI x24) 190 (sV x4) 191 (sV u1)) V0 h2):= by subst h; kernel_rfl
def F170_j10 (x0a:OA) (x0n x0c:Nat) (x1 x2 x3:Int) (x4:Value) (x18 x20 x24:Int) (x185:Bool) (hp:HP) (K:Kh):Prop:=
  (ite2 x185 (CF Try.prog 188 [(.slice x0a x0n x0c),(.int .i64 x20),(.int .i64 x2),(.int .i64 x24),x4] hp fun u5 h6=>F170_j6 x0a x0n x0c x1 x3 x4 x18 x20 x24 h6  K) (F170_j6 x0a x0n x0c x1 x3 x4 x18 x20 x24 hp  K))
theorem F170_r9 (h:E=upd (w2 e 24 (sI x24) 20 (sI x20)) 2 (sI x2)):R170 2559 8 E V0 hp K=
 ite2 (decide (x20<x2)) (K (w8 E 178 (sI x20) 179 (sI x2) 180 (sB (decide (x20<x2))) 181 (sB true) 182 (sI x2) 183 (sI x24) 184 (sB (decide (x2<x24))) 185 (sB (decide (x2<x24)))) V0 hp) (K (w8 E 178 (sI x20) 179 (sI x2) 180 (sB (decide (x20<x2))) 181 (sB false) 182 sU 183 sU 184 sU 185 (sB false)) V0 hp):= by subst h; kernel_rfl
def F170_j5 (x0a:OA) (x0n x0c:Nat) (x1 x2 x3:Int) (x4:Value) (x18 x19 x20:Int) (hp:HP) (K:Kh):Prop:=
  (ite2 (decide (x20<x2)) (F170_j10 x0a x0n x0c x1 x2 x3 x4 x18 x20 (IntKind.wrap .i64 (x19-x20)) (decide (x2<(IntKind.wrap .i64 (x19-x20)))) hp  K) (F170_j10 x0a x0n x0c x1 x2 x3 x4 x18 x20 (IntKind.wrap .i64 (x19-x20)) false hp  K))
theorem F170_r10:R170 4223 3 (w2 e 21 (sI x21) 20 (sI x20)) V0 hp K=
 K (w5 e 21 (sI x21) 20 (sI x20) 149 (sI x20) 150 (sI x21) 151 (sB (decide (x20<x21)))) V0 hp:= by kernel_rfl
theorem F170_r11:R170 9343 7 (w2 e 21 (sI x21) 20 (sI x20)) V0 hp K=
    ((0≤(1:Int))∧(K (upd (w8 e 21 (sI x21) 20 (sI x20) 152 (sI x20) 153 (sI x21) 154 (sI ((wr (x20+x21)))) 155 (sV (.int .u64 (IntKind.wrap .u64 ((wr (x20+x21)))))) 156 (sV (.int .u64 (Int.fdiv (IntKind.wrap .u64 ((wr (x20+x21)))) (2 ^ (min (Int.toNat 1) (IntKind.bits .u64)))))) 157 (sI ((wr ((Int.fdiv (IntKind.wrap .u64 ((wr (x20+x21)))) (2 ^ (min (Int.toNat 1) (IntKind.bits .u64))))))))) 23 (sI ((wr ((Int.fdiv (IntKind.wrap .u64 ((wr (x20+x21)))) (2 ^ (min (Int.toNat 1) (IntKind.bits .u64))))))))) V0 hp)):=by kernel_rfl
theorem F170_r12 (h:E=upd (w3 e 23 (sI x23) 22 (sI x22) 4 (sV x4)) 0 (sS x0a x0n x0c)):R170 21631 14 E V0 hp K=
    ((0≤((wr (x22-x23)):Int))∧(((wr (x22-x23)):Int)<x0n)∧(ptrN x0a fun b1 o2=>ldL (HP.cellN hp b1 (o2+Int.toNat (wr (x22-x23))*6) 6) fun l3=>(0≤x23)∧(x23<x0n)∧(ptrN x0a fun b4 o5=>ldL (HP.cellN hp b4 (o5+Int.toNat x23*6) 6) fun l6=>fnV x4 fun f7 ga8 gb9=>CF Try.prog f7 (ga8++[(Value.agg ⟨l3⟩),(.agg ⟨l6⟩)]++gb9) hp fun u10 h11=>intV u10 .i64 fun i12=>K (w6 (w8 E 158 (sV x4) 159 (sS x0a x0n x0c) 160 (sI x22) 161 (sI x23) 162 (sI ((wr (x22-x23)))) 163 (sV (ptr b1 (o2+Int.toNat (wr (x22-x23))*6))) 164 (sA l3) 165 (sS x0a x0n x0c)) 166 (sI x23) 167 (sQ b4 (o5+Int.toNat x23*6)) 168 (sA l6) 169 (sI i12) 170 (sB (decide (i12<0))) 171 (sB ((!(decide (i12<0)))))) V0 h11))):=by subst h; kernel_rfl
theorem F170_r13:R170 46207 3 (upd e 23 (sI x23)) V0 hp K=
 K (w4 e 23 (sI x23) 172 (sI x23) 173 (sI ((wr (x23+1)))) 20 (sI ((wr (x23+1))))) V0 hp:= by kernel_rfl
theorem F170_r14:R170 62591 2 (upd e 23 (sI x23)) V0 hp K=
 K (w3 e 23 (sI x23) 174 (sI x23) 21 (sI x23)) V0 hp:= by kernel_rfl
def F170_l11 (x0a:OA) (x0n x0c:Nat) (x1 x2 x3:Int) (x4:Value) (x18 x19 x22:Int) (K:Kh) (I11:(Int × Int)→HP→Prop) (x20 x21:Int) (hp:HP):Prop:=
  (ite2 (decide (x20<x21)) ((0≤(1:Int))∧((0≤((IntKind.wrap .i64 (x22-(IntKind.wrap .i64 ((Int.fdiv (IntKind.wrap .u64 ((IntKind.wrap .i64 (x20+x21)))) (2 ^ (min (Int.toNat 1) (IntKind.bits .u64)))))))):Int))∧(((IntKind.wrap .i64 (x22-(IntKind.wrap .i64 ((Int.fdiv (IntKind.wrap .u64 ((IntKind.wrap .i64 (x20+x21)))) (2 ^ (min (Int.toNat 1) (IntKind.bits .u64)))))))):Int)<x0n)∧(ptrN x0a fun b7 o8=>ldL (HP.cellN hp b7 (o8+Int.toNat (IntKind.wrap .i64 (x22-(IntKind.wrap .i64 ((Int.fdiv (IntKind.wrap .u64 ((IntKind.wrap .i64 (x20+x21)))) (2 ^ (min (Int.toNat 1) (IntKind.bits .u64))))))))*6) 6) fun l9=>(0≤((IntKind.wrap .i64 ((Int.fdiv (IntKind.wrap .u64 ((IntKind.wrap .i64 (x20+x21)))) (2 ^ (min (Int.toNat 1) (IntKind.bits .u64)))))):Int))∧(((IntKind.wrap .i64 ((Int.fdiv (IntKind.wrap .u64 ((IntKind.wrap .i64 (x20+x21)))) (2 ^ (min (Int.toNat 1) (IntKind.bits .u64)))))):Int)<x0n)∧(ptrN x0a fun b10 o11=>ldL (HP.cellN hp b10 (o11+Int.toNat (IntKind.wrap .i64 ((Int.fdiv (IntKind.wrap .u64 ((IntKind.wrap .i64 (x20+x21)))) (2 ^ (min (Int.toNat 1) (IntKind.bits .u64))))))*6) 6) fun l12=>fnV x4 fun f13 ga_14 gb_15=>CF Try.prog f13 (ga_14++[(Value.agg ⟨l9⟩),(.agg ⟨l12⟩)]++gb_15) hp fun u16 h17=>intV u16 .i64 fun i18=>ite2 (!(decide (i18<0))) (I11 ((IntKind.wrap .i64 ((IntKind.wrap .i64 ((Int.fdiv (IntKind.wrap .u64 ((IntKind.wrap .i64 (x20+x21)))) (2 ^ (min (Int.toNat 1) (IntKind.bits .u64))))))+1)),x21) h17) (I11 (x20,(IntKind.wrap .i64 ((Int.fdiv (IntKind.wrap .u64 ((IntKind.wrap .i64 (x20+x21)))) (2 ^ (min (Int.toNat 1) (IntKind.bits .u64))))))) h17))))) (F170_j5 x0a x0n x0c x1 x2 x3 x4 x18 x19 x20 hp  K))
def F170_j4 (x0a:OA) (x0n x0c:Nat) (x1 x2 x3:Int) (x4:Value) (x18 x19 x20 x21 x22:Int) (hp:HP) (K:Kh):Prop:=
  (LoopP (σ:=Int × Int) (fun I s hp=>F170_l11 x0a x0n x0c x1 x2 x3 x4 x18 x19 x22  K I s.1 s.2 hp) (x20,x21) hp)
theorem F170_r15:R170 191 3 (upd e 19 (sI x19)) V0 hp K=
 K (w4 e 19 (sI x19) 147 (sI x19) 148 (sI ((wr (x19-1)))) 22 (sI ((wr (x19-1))))) V0 hp:= by kernel_rfl
def F170_j3 (x0a:OA) (x0n x0c:Nat) (x1 x2 x3:Int) (x4:Value) (x18 x19 x20 x21:Int) (hp:HP) (K:Kh):Prop:=
  (F170_j4 x0a x0n x0c x1 x2 x3 x4 x18 x19 x20 x21 (IntKind.wrap .i64 (x19-1)) hp  K)
theorem F170_r16:R170 159 3 (w2 e 18 (sI x18) 2 (sI x2)) V0 hp K=
 K (w5 e 18 (sI x18) 2 (sI x2) 138 (sI x2) 139 (sI x18) 140 (sB (decide (x2 > x18)))) V0 hp:= by kernel_rfl
theorem F170_r17:R170 607 4 (w2 e 19 (sI x19) 3 (sI x3)) V0 hp K=
 K (w6 e 19 (sI x19) 3 (sI x3) 141 (sI x19) 142 (sI x3) 143 (sI ((wr (x19-x3)))) 20 (sI ((wr (x19-x3))))) V0 hp:= by kernel_rfl
theorem F170_r18:R170 863 2 (upd e 18 (sI x18)) V0 hp K=
 K (w3 e 18 (sI x18) 144 (sI x18) 21 (sI x18)) V0 hp:= by kernel_rfl
theorem F170_r19:R170 735 2 (upd e 1 (sI x1)) V0 hp K=
 K (w3 e 1 (sI x1) 145 (sI x1) 20 (sI x1)) V0 hp:= by kernel_rfl
theorem F170_r20:R170 991 2 (upd e 2 (sI x2)) V0 hp K=
 K (w3 e 2 (sI x2) 146 (sI x2) 21 (sI x2)) V0 hp:= by kernel_rfl
def F170_j2 (x0a:OA) (x0n x0c:Nat) (x1 x2 x3:Int) (x4:Value) (hp:HP) (K:Kh):Prop:=
  ((0≤(1:Int))∧(ite2 (decide (x2 > (IntKind.wrap .i64 ((Int.fdiv (IntKind.wrap .u64 ((IntKind.wrap .i64 (x1+x3)))) (2 ^ (min (Int.toNat 1) (IntKind.bits .u64)))))))) (F170_j3 x0a x0n x0c x1 x2 x3 x4 (IntKind.wrap .i64 ((Int.fdiv (IntKind.wrap .u64 ((IntKind.wrap .i64 (x1+x3)))) (2 ^ (min (Int.toNat 1) (IntKind.bits .u64)))))) (IntKind.wrap .i64 ((IntKind.wrap .i64 ((Int.fdiv (IntKind.wrap .u64 ((IntKind.wrap .i64 (x1+x3)))) (2 ^ (min (Int.toNat 1) (IntKind.bits .u64))))))+x2)) (IntKind.wrap .i64 ((IntKind.wrap .i64 ((IntKind.wrap .i64 ((Int.fdiv (IntKind.wrap .u64 ((IntKind.wrap .i64 (x1+x3)))) (2 ^ (min (Int.toNat 1) (IntKind.bits .u64))))))+x2))-x3)) (IntKind.wrap .i64 ((Int.fdiv (IntKind.wrap .u64 ((IntKind.wrap .i64 (x1+x3)))) (2 ^ (min (Int.toNat 1) (IntKind.bits .u64)))))) hp  K) (F170_j3 x0a x0n x0c x1 x2 x3 x4 (IntKind.wrap .i64 ((Int.fdiv (IntKind.wrap .u64 ((IntKind.wrap .i64 (x1+x3)))) (2 ^ (min (Int.toNat 1) (IntKind.bits .u64)))))) (IntKind.wrap .i64 ((IntKind.wrap .i64 ((Int.fdiv (IntKind.wrap .u64 ((IntKind.wrap .i64 (x1+x3)))) (2 ^ (min (Int.toNat 1) (IntKind.bits .u64))))))+x2)) x1 x2 hp  K)))
theorem F170_r21:R170 9 4 (w2 e 3 (sI x3) 2 (sI x2)) V0 hp K=
 K (w6 e 3 (sI x3) 2 (sI x2) 77 (sI x3) 78 (sI x2) 79 (sI ((wr (x3-x2)))) 80 (sB ((((wr (x3-x2)):Int)==1)))) V0 hp:= by kernel_rfl
theorem F170_r22:R170 37 2 (upd e 1 (sI x1)) V0 hp K=
 K (w3 e 1 (sI x1) 81 (sI x1) 14 (sI x1)) V0 hp:= by kernel_rfl
theorem F170_r23:R170 8565 3 (w2 e 17 (sI x17) 14 (sI x14)) V0 hp K=
 K (w5 e 17 (sI x17) 14 (sI x14) 108 (sI x17) 109 (sI x14) 110 (sB (decide (x17 > x14)))) V0 hp:= by kernel_rfl
theorem F170_r24:R170 18805 18 (w2 e 17 (sI x17) 0 (sS x0a x0n x0c)) V0 hp K=
    ((0≤((wr (x17-1)):Int))∧(((wr (x17-1)):Int)<x0n)∧(ptrN x0a fun b1 o2=>ldL (HP.cellN hp b1 (o2+Int.toNat (wr (x17-1))*6) 6) fun l3=>(0≤x17)∧(x17<x0n)∧(ptrN x0a fun b4 o5=>ldL (HP.cellN hp b4 (o5+Int.toNat x17*6) 6) fun l6=>(0≤x17)∧(x17<x0n)∧(ptrN x0a fun b7 o8=>(List.length l3=6)∧(HP.stN hp b7 (o8+Int.toNat x17*6) l3 fun h9=>(0≤((wr (x17-1)):Int))∧(((wr (x17-1)):Int)<x0n)∧(ptrN x0a fun b10 o11=>(List.length l6=6)∧(HP.stN h9 b10 (o11+Int.toNat (wr (x17-1))*6) l6 fun h12=>K (w2 (w8 (w8 e 17 (sI x17) 0 (sS x0a x0n x0c) 113 (sS x0a x0n x0c) 114 (sI x17) 115 (sS x0a x0n x0c) 116 (sI x17) 117 (sI ((wr (x17-1)))) 118 (sS x0a x0n x0c)) 119 (sI x17) 120 (sI ((wr (x17-1)))) 121 (sV (ptr b1 (o2+Int.toNat (wr (x17-1))*6))) 122 (sA l3) 123 (sS x0a x0n x0c) 124 (sI x17) 125 (sQ b4 (o5+Int.toNat x17*6)) 126 (sA l6)) 127 (sQ b7 (o8+Int.toNat x17*6)) 128 (sV (ptr b10 (o11+Int.toNat (wr (x17-1))*6)))) V0 h12))))))):=by kernel_rfl
theorem F170_r25:R170 14709 3 (upd e 17 (sI x17)) V0 hp K=
 K (w4 e 17 (sI x17) 111 (sI x17) 112 (sI ((wr (x17-1)))) 17 (sI ((wr (x17-1))))) V0 hp:= by kernel_rfl
def F170_l15 (x0a:OA) (x0n x0c:Nat) (x14:Int) (K:Kh) (I15:(Int)→HP→Prop) (x17:Int) (hp:HP):Prop:=
  (ite2 (decide (x17 > x14)) ((0≤((IntKind.wrap .i64 (x17-1)):Int))∧(((IntKind.wrap .i64 (x17-1)):Int)<x0n)∧(ptrN x0a fun b19 o20=>ldL (HP.cellN hp b19 (o20+Int.toNat (IntKind.wrap .i64 (x17-1))*6) 6) fun l21=>(0≤x17)∧(x17<x0n)∧(ptrN x0a fun b22 o23=>ldL (HP.cellN hp b22 (o23+Int.toNat x17*6) 6) fun l24=>(0≤x17)∧(x17<x0n)∧(ptrN x0a fun b25 o26=>(List.length l21=6)∧(HP.stN hp b25 (o26+Int.toNat x17*6) l21 fun h27=>(0≤((IntKind.wrap .i64 (x17-1)):Int))∧(((IntKind.wrap .i64 (x17-1)):Int)<x0n)∧(ptrN x0a fun b28 o29=>(List.length l24=6)∧(HP.stN h27 b28 (o29+Int.toNat (IntKind.wrap .i64 (x17-1))*6) l24 fun h30=>I15 (IntKind.wrap .i64 (x17-1)) h30))))))) (K (.tuple ⟨[]⟩) hp))
def F170_j14 (x0a:OA) (x0n x0c:Nat) (x14 x17:Int) (hp:HP) (K:Kh):Prop:=
  (LoopP (σ:=Int) (fun I s hp=>F170_l15 x0a x0n x0c x14  K I s hp) x17 hp)
theorem F170_r26:R170 629 2 (upd e 2 (sI x2)) V0 hp K=
 K (w3 e 2 (sI x2) 107 (sI x2) 17 (sI x2)) V0 hp:= by kernel_rfl
def F170_j13 (x0a:OA) (x0n x0c:Nat) (x2 x14:Int) (hp:HP) (K:Kh):Prop:=
  (F170_j14 x0a x0n x0c x14 x2 hp  K)
theorem F170_r27:R170 2101 3 (w2 e 15 (sI x15) 14 (sI x14)) V0 hp K=
 K (w5 e 15 (sI x15) 14 (sI x14) 83 (sI x14) 84 (sI x15) 85 (sB (decide (x14<x15)))) V0 hp:= by kernel_rfl
theorem F170_r28:R170 4661 7 (w2 e 15 (sI x15) 14 (sI x14)) V0 hp K=
    ((0≤(1:Int))∧(K (upd (w8 e 15 (sI x15) 14 (sI x14) 86 (sI x14) 87 (sI x15) 88 (sI ((wr (x14+x15)))) 89 (sV (.int .u64 (IntKind.wrap .u64 ((wr (x14+x15)))))) 90 (sV (.int .u64 (Int.fdiv (IntKind.wrap .u64 ((wr (x14+x15)))) (2 ^ (min (Int.toNat 1) (IntKind.bits .u64)))))) 91 (sI ((wr ((Int.fdiv (IntKind.wrap .u64 ((wr (x14+x15)))) (2 ^ (min (Int.toNat 1) (IntKind.bits .u64))))))))) 16 (sI ((wr ((Int.fdiv (IntKind.wrap .u64 ((wr (x14+x15)))) (2 ^ (min (Int.toNat 1) (IntKind.bits .u64))))))))) V0 hp)):=by kernel_rfl
theorem F170_r29 (h:E=upd (w3 e 16 (sI x16) 4 (sV x4) 2 (sI x2)) 0 (sS x0a x0n x0c)):R170 10805 12 E V0 hp K=
    ((0≤x2)∧(x2<x0n)∧(ptrN x0a fun b1 o2=>ldL (HP.cellN hp b1 (o2+Int.toNat x2*6) 6) fun l3=>(0≤x16)∧(x16<x0n)∧(ptrN x0a fun b4 o5=>ldL (HP.cellN hp b4 (o5+Int.toNat x16*6) 6) fun l6=>fnV x4 fun f7 ga8 gb9=>CF Try.prog f7 (ga8++[(Value.agg ⟨l3⟩),(.agg ⟨l6⟩)]++gb9) hp fun u10 h11=>intV u10 .i64 fun i12=>K (w4 (w8 E 92 (sV x4) 93 (sS x0a x0n x0c) 94 (sI x2) 95 (sQ b1 (o2+Int.toNat x2*6)) 96 (sA l3) 97 (sS x0a x0n x0c) 98 (sI x16) 99 (sQ b4 (o5+Int.toNat x16*6))) 100 (sA l6) 101 (sI i12) 102 (sB (decide (i12<0))) 103 (sB ((!(decide (i12<0)))))) V0 h11))):=by subst h; kernel_rfl
theorem F170_r30:R170 23093 3 (upd e 16 (sI x16)) V0 hp K=
 K (w4 e 16 (sI x16) 104 (sI x16) 105 (sI ((wr (x16+1)))) 14 (sI ((wr (x16+1))))) V0 hp:= by kernel_rfl
theorem F170_r31:R170 31285 2 (upd e 16 (sI x16)) V0 hp K=
 K (w3 e 16 (sI x16) 106 (sI x16) 15 (sI x16)) V0 hp:= by kernel_rfl
def F170_l16 (x0a:OA) (x0n x0c:Nat) (x2:Int) (x4:Value) (K:Kh) (I16:(Int × Int)→HP→Prop) (x14 x15:Int) (hp:HP):Prop:=
  (ite2 (decide (x14<x15)) ((0≤(1:Int))∧((0≤x2)∧(x2<x0n)∧(ptrN x0a fun b31 o32=>ldL (HP.cellN hp b31 (o32+Int.toNat x2*6) 6) fun l33=>(0≤((IntKind.wrap .i64 ((Int.fdiv (IntKind.wrap .u64 ((IntKind.wrap .i64 (x14+x15)))) (2 ^ (min (Int.toNat 1) (IntKind.bits .u64)))))):Int))∧(((IntKind.wrap .i64 ((Int.fdiv (IntKind.wrap .u64 ((IntKind.wrap .i64 (x14+x15)))) (2 ^ (min (Int.toNat 1) (IntKind.bits .u64)))))):Int)<x0n)∧(ptrN x0a fun b34 o35=>ldL (HP.cellN hp b34 (o35+Int.toNat (IntKind.wrap .i64 ((Int.fdiv (IntKind.wrap .u64 ((IntKind.wrap .i64 (x14+x15)))) (2 ^ (min (Int.toNat 1) (IntKind.bits .u64))))))*6) 6) fun l36=>fnV x4 fun f37 ga_38 gb_39=>CF Try.prog f37 (ga_38++[(Value.agg ⟨l33⟩),(.agg ⟨l36⟩)]++gb_39) hp fun u40 h41=>intV u40 .i64 fun i42=>ite2 (!(decide (i42<0))) (I16 ((IntKind.wrap .i64 ((IntKind.wrap .i64 ((Int.fdiv (IntKind.wrap .u64 ((IntKind.wrap .i64 (x14+x15)))) (2 ^ (min (Int.toNat 1) (IntKind.bits .u64))))))+1)),x15) h41) (I16 (x14,(IntKind.wrap .i64 ((Int.fdiv (IntKind.wrap .u64 ((IntKind.wrap .i64 (x14+x15)))) (2 ^ (min (Int.toNat 1) (IntKind.bits .u64))))))) h41))))) (F170_j13 x0a x0n x0c x2 x14 hp  K))
def F170_j12 (x0a:OA) (x0n x0c:Nat) (x2:Int) (x4:Value) (x14 x15:Int) (hp:HP) (K:Kh):Prop:=
  (LoopP (σ:=Int × Int) (fun I s hp=>F170_l16 x0a x0n x0c x2 x4  K I s.1 s.2 hp) (x14,x15) hp)
theorem F170_r32:R170 85 2 (upd e 2 (sI x2)) V0 hp K=
 K (w3 e 2 (sI x2) 82 (sI x2) 15 (sI x2)) V0 hp:= by kernel_rfl
def F170_j1 (x0a:OA) (x0n x0c:Nat) (x1 x2 x3:Int) (x4:Value) (hp:HP) (K:Kh):Prop:=
  (ite2 (((IntKind.wrap .i64 (x3-x2)):Int)==1) (F170_j12 x0a x0n x0c x2 x4 x1 x2 hp  K) (F170_j2 x0a x0n x0c x1 x2 x3 x4 hp  K))
theorem F170_r33:R170 4 4 (w2 e 2 (sI x2) 1 (sI x1)) V0 hp K=
 K (w6 e 2 (sI x2) 1 (sI x1) 25 (sI x2) 26 (sI x1) 27 (sI ((wr (x2-x1)))) 28 (sB ((((wr (x2-x1)):Int)==1)))) V0 hp:= by kernel_rfl
theorem F170_r34:R170 18 2 (upd e 2 (sI x2)) V0 hp K=
 K (w3 e 2 (sI x2) 29 (sI x2) 10 (sI x2)) V0 hp:= by kernel_rfl
theorem F170_r35:R170 4282 4 (w2 e 13 (sI x13) 10 (sI x10)) V0 hp K=
 K (w6 e 13 (sI x13) 10 (sI x10) 55 (sI x13) 56 (sI x10) 57 (sI ((wr (x10-1)))) 58 (sB ((decide (x13<(wr (x10-1))))))) V0 hp:= by kernel_rfl
theorem F170_r36:R170 9402 18 (w2 e 13 (sI x13) 0 (sS x0a x0n x0c)) V0 hp K=
    ((0≤((wr (x13+1)):Int))∧(((wr (x13+1)):Int)<x0n)∧(ptrN x0a fun b1 o2=>ldL (HP.cellN hp b1 (o2+Int.toNat (wr (x13+1))*6) 6) fun l3=>(0≤x13)∧(x13<x0n)∧(ptrN x0a fun b4 o5=>ldL (HP.cellN hp b4 (o5+Int.toNat x13*6) 6) fun l6=>(0≤x13)∧(x13<x0n)∧(ptrN x0a fun b7 o8=>(List.length l3=6)∧(HP.stN hp b7 (o8+Int.toNat x13*6) l3 fun h9=>(0≤((wr (x13+1)):Int))∧(((wr (x13+1)):Int)<x0n)∧(ptrN x0a fun b10 o11=>(List.length l6=6)∧(HP.stN h9 b10 (o11+Int.toNat (wr (x13+1))*6) l6 fun h12=>K (w2 (w8 (w8 e 13 (sI x13) 0 (sS x0a x0n x0c) 61 (sS x0a x0n x0c) 62 (sI x13) 63 (sS x0a x0n x0c) 64 (sI x13) 65 (sI ((wr (x13+1)))) 66 (sS x0a x0n x0c)) 67 (sI x13) 68 (sI ((wr (x13+1)))) 69 (sV (ptr b1 (o2+Int.toNat (wr (x13+1))*6))) 70 (sA l3) 71 (sS x0a x0n x0c) 72 (sI x13) 73 (sQ b4 (o5+Int.toNat x13*6)) 74 (sA l6)) 75 (sQ b7 (o8+Int.toNat x13*6)) 76 (sV (ptr b10 (o11+Int.toNat (wr (x13+1))*6)))) V0 h12))))))):=by kernel_rfl
theorem F170_r37:R170 7354 3 (upd e 13 (sI x13)) V0 hp K=
 K (w4 e 13 (sI x13) 59 (sI x13) 60 (sI ((wr (x13+1)))) 13 (sI ((wr (x13+1))))) V0 hp:= by kernel_rfl
def F170_l20 (x0a:OA) (x0n x0c:Nat) (x10:Int) (K:Kh) (I20:(Int)→HP→Prop) (x13:Int) (hp:HP):Prop:=
  (ite2 (decide (x13<(IntKind.wrap .i64 (x10-1)))) ((0≤((IntKind.wrap .i64 (x13+1)):Int))∧(((IntKind.wrap .i64 (x13+1)):Int)<x0n)∧(ptrN x0a fun b43 o44=>ldL (HP.cellN hp b43 (o44+Int.toNat (IntKind.wrap .i64 (x13+1))*6) 6) fun l45=>(0≤x13)∧(x13<x0n)∧(ptrN x0a fun b46 o47=>ldL (HP.cellN hp b46 (o47+Int.toNat x13*6) 6) fun l48=>(0≤x13)∧(x13<x0n)∧(ptrN x0a fun b49 o50=>(List.length l45=6)∧(HP.stN hp b49 (o50+Int.toNat x13*6) l45 fun h51=>(0≤((IntKind.wrap .i64 (x13+1)):Int))∧(((IntKind.wrap .i64 (x13+1)):Int)<x0n)∧(ptrN x0a fun b52 o53=>(List.length l48=6)∧(HP.stN h51 b52 (o53+Int.toNat (IntKind.wrap .i64 (x13+1))*6) l48 fun h54=>I20 (IntKind.wrap .i64 (x13+1)) h54))))))) (K (.tuple ⟨[]⟩) hp))
def F170_j19 (x0a:OA) (x0n x0c:Nat) (x10 x13:Int) (hp:HP) (K:Kh):Prop:=
  (LoopP (σ:=Int) (fun I s hp=>F170_l20 x0a x0n x0c x10  K I s hp) x13 hp)
theorem F170_r38:R170 314 2 (upd e 1 (sI x1)) V0 hp K=
 K (w3 e 1 (sI x1) 54 (sI x1) 13 (sI x1)) V0 hp:= by kernel_rfl
def F170_j18 (x0a:OA) (x0n x0c:Nat) (x1 x10:Int) (hp:HP) (K:Kh):Prop:=
  (F170_j19 x0a x0n x0c x10 x1 hp  K)
theorem F170_r39:R170 1050 3 (w2 e 11 (sI x11) 10 (sI x10)) V0 hp K=
 K (w5 e 11 (sI x11) 10 (sI x10) 31 (sI x10) 32 (sI x11) 33 (sB (decide (x10<x11)))) V0 hp:= by kernel_rfl
theorem F170_r40:R170 2330 7 (w2 e 11 (sI x11) 10 (sI x10)) V0 hp K=
    ((0≤(1:Int))∧(K (upd (w8 e 11 (sI x11) 10 (sI x10) 34 (sI x10) 35 (sI x11) 36 (sI ((wr (x10+x11)))) 37 (sV (.int .u64 (IntKind.wrap .u64 ((wr (x10+x11)))))) 38 (sV (.int .u64 (Int.fdiv (IntKind.wrap .u64 ((wr (x10+x11)))) (2 ^ (min (Int.toNat 1) (IntKind.bits .u64)))))) 39 (sI ((wr ((Int.fdiv (IntKind.wrap .u64 ((wr (x10+x11)))) (2 ^ (min (Int.toNat 1) (IntKind.bits .u64))))))))) 12 (sI ((wr ((Int.fdiv (IntKind.wrap .u64 ((wr (x10+x11)))) (2 ^ (min (Int.toNat 1) (IntKind.bits .u64))))))))) V0 hp)):=by kernel_rfl
theorem F170_r41 (h:E=upd (w3 e 12 (sI x12) 4 (sV x4) 1 (sI x1)) 0 (sS x0a x0n x0c)):R170 5402 11 E V0 hp K=
    ((0≤x12)∧(x12<x0n)∧(ptrN x0a fun b1 o2=>ldL (HP.cellN hp b1 (o2+Int.toNat x12*6) 6) fun l3=>(0≤x1)∧(x1<x0n)∧(ptrN x0a fun b4 o5=>ldL (HP.cellN hp b4 (o5+Int.toNat x1*6) 6) fun l6=>fnV x4 fun f7 ga8 gb9=>CF Try.prog f7 (ga8++[(Value.agg ⟨l3⟩),(.agg ⟨l6⟩)]++gb9) hp fun u10 h11=>intV u10 .i64 fun i12=>K (w3 (w8 E 40 (sV x4) 41 (sS x0a x0n x0c) 42 (sI x12) 43 (sQ b1 (o2+Int.toNat x12*6)) 44 (sA l3) 45 (sS x0a x0n x0c) 46 (sI x1) 47 (sQ b4 (o5+Int.toNat x1*6))) 48 (sA l6) 49 (sI i12) 50 (sB (decide (i12<0)))) V0 h11))):=by subst h; kernel_rfl
theorem F170_r42:R170 11546 3 (upd e 12 (sI x12)) V0 hp K=
 K (w4 e 12 (sI x12) 51 (sI x12) 52 (sI ((wr (x12+1)))) 10 (sI ((wr (x12+1))))) V0 hp:= by kernel_rfl
theorem F170_r43:R170 15642 2 (upd e 12 (sI x12)) V0 hp K=
 K (w3 e 12 (sI x12) 53 (sI x12) 11 (sI x12)) V0 hp:= by kernel_rfl
def F170_l21 (x0a:OA) (x0n x0c:Nat) (x1:Int) (x4:Value) (K:Kh) (I21:(Int × Int)→HP→Prop) (x10 x11:Int) (hp:HP):Prop:=
  (ite2 (decide (x10<x11)) ((0≤(1:Int))∧((0≤((IntKind.wrap .i64 ((Int.fdiv (IntKind.wrap .u64 ((IntKind.wrap .i64 (x10+x11)))) (2 ^ (min (Int.toNat 1) (IntKind.bits .u64)))))):Int))∧(((IntKind.wrap .i64 ((Int.fdiv (IntKind.wrap .u64 ((IntKind.wrap .i64 (x10+x11)))) (2 ^ (min (Int.toNat 1) (IntKind.bits .u64)))))):Int)<x0n)∧(ptrN x0a fun b55 o56=>ldL (HP.cellN hp b55 (o56+Int.toNat (IntKind.wrap .i64 ((Int.fdiv (IntKind.wrap .u64 ((IntKind.wrap .i64 (x10+x11)))) (2 ^ (min (Int.toNat 1) (IntKind.bits .u64))))))*6) 6) fun l57=>(0≤x1)∧(x1<x0n)∧(ptrN x0a fun b58 o59=>ldL (HP.cellN hp b58 (o59+Int.toNat x1*6) 6) fun l60=>fnV x4 fun f61 ga_62 gb_63=>CF Try.prog f61 (ga_62++[(Value.agg ⟨l57⟩),(.agg ⟨l60⟩)]++gb_63) hp fun u64 h65=>intV u64 .i64 fun i66=>ite2 (decide (i66<0)) (I21 ((IntKind.wrap .i64 ((IntKind.wrap .i64 ((Int.fdiv (IntKind.wrap .u64 ((IntKind.wrap .i64 (x10+x11)))) (2 ^ (min (Int.toNat 1) (IntKind.bits .u64))))))+1)),x11) h65) (I21 (x10,(IntKind.wrap .i64 ((Int.fdiv (IntKind.wrap .u64 ((IntKind.wrap .i64 (x10+x11)))) (2 ^ (min (Int.toNat 1) (IntKind.bits .u64))))))) h65))))) (F170_j18 x0a x0n x0c x1 x10 hp  K))
def F170_j17 (x0a:OA) (x0n x0c:Nat) (x1:Int) (x4:Value) (x10 x11:Int) (hp:HP) (K:Kh):Prop:=
  (LoopP (σ:=Int × Int) (fun I s hp=>F170_l21 x0a x0n x0c x1 x4  K I s.1 s.2 hp) (x10,x11) hp)
theorem F170_r44:R170 42 2 (upd e 3 (sI x3)) V0 hp K=
 K (w3 e 3 (sI x3) 30 (sI x3) 11 (sI x3)) V0 hp:= by kernel_rfl
def F170 (x0a:OA) (x0n x0c:Nat) (x1 x2 x3:Int) (x4:Value) (hp:HP) (K:Kh):Prop:=
  (ite2 (((IntKind.wrap .i64 (x2-x1)):Int)==1) (F170_j17 x0a x0n x0c x1 x4 x2 x3 hp  K) (F170_j1 x0a x0n x0c x1 x2 x3 x4 hp  K))
noncomputable abbrev o170 (k n:Nat):Code:=.region k (opsAt Try.f170 (pth n)) false
noncomputable def F170_code:Code:=(.seq (.seq (o170 0 4) (.cond (.tmp 28) (.seq (o170 1 18) (.seq (o170 2 42) (.seq (.block 0 (.loop (.seq (.seq (o170 3 1050) (.cond (.tmp 33) .skip (.exit 0))) (.block 1 (.seq (o170 4 2330) (.seq (.region 5 (opsAt Try.f170 (pth 5402)) true) (.cond (.tmp 50) (o170 6 11546) (o170 7 15642)))))))) (.seq (.seq (o170 8 314) (.block 2 (.loop (.seq (.seq (o170 9 4282) (.cond (.tmp 58) .skip (.exit 2))) (.seq (.block 3 (.region 11 (opsAt Try.f170 (pth 9402)) true)) (o170 10 7354)))))) .ret)))) .skip)) (.seq (.seq (o170 12 9) (.cond (.tmp 80) (.seq (o170 13 37) (.seq (o170 14 85) (.seq (.block 4 (.loop (.seq (.seq (o170 15 2101) (.cond (.tmp 85) .skip (.exit 4))) (.block 5 (.seq (o170 16 4661) (.seq (.region 17 (opsAt Try.f170 (pth 10805)) true) (.cond (.tmp 103) (o170 18 23093) (o170 19 31285)))))))) (.seq (.seq (o170 20 629) (.block 6 (.loop (.seq (.seq (o170 21 8565) (.cond (.tmp 110) .skip (.exit 6))) (.seq (.block 7 (.region 23 (opsAt Try.f170 (pth 18805)) true)) (o170 22 14709)))))) .ret)))) .skip)) (.seq (o170 24 11) (.seq (o170 25 23) (.seq (o170 26 47) (.seq (.seq (o170 27 159) (.cond (.tmp 140) (.seq (o170 28 607) (o170 29 863)) (.seq (o170 30 735) (o170 31 991)))) (.seq (o170 32 191) (.seq (.block 8 (.loop (.seq (.seq (o170 33 4223) (.cond (.tmp 151) .skip (.exit 8))) (.block 9 (.seq (o170 34 9343) (.seq (.region 35 (opsAt Try.f170 (pth 21631)) true) (.cond (.tmp 171) (o170 36 46207) (o170 37 62591)))))))) (.seq (o170 38 767) (.seq (.seq (o170 39 2559) (.cond (.tmp 185) (o170 40 5631) .skip)) (.seq (.seq (o170 41 5119) (.cond (.tmp 199) (o170 42 11263) .skip)) (.seq (o170 43 6143) (.cond (.tmp 213) (o170 44 12287) .skip)))))))))))))
theorem F170_body:Try.f170.body=some F170_code:=by kernel_rfl
theorem F170_ok (x0a:OA) (x0n x0c:Nat) (x1 x2 x3:Int) (x4:Value) (hp:HP) (K:Kh) (h:F170 x0a x0n x0c x1 x2 x3 x4 hp K):CF Try.prog 170 [(.slice x0a x0n x0c),(.int .i64 x1),(.int .i64 x2),(.int .i64 x3),x4] hp K:=by
 refine .inl ⟨by kernel_rfl,AC.intro (N:=220) Try.func170 F170_body rfl (Nat.le_of_ble_eq_true rfl) ?_⟩
 unfold F170 at h
 refine As (fun env pv hp=>∃ x0a x0n x0c x1 x2 x3 x4,Sub (w5 E0 4 (sV x4) 3 (sI x3) 2 (sI x2) 1 (sI x1) 0 (sS x0a x0n x0c)) env∧Sub V0 pv∧F170_j1 x0a x0n x0c x1 x2 x3 x4 hp  K) ?_ ?_
 ·refine Ar F170_r33 ?_ (r5 1 2 0 3 4 Rn) (z5 Sn) Sn
  refine Ac h rfl (fun h=>?_) (fun h=>?_)
  ·refine Ar F170_r34 ?_ (r5 2 0 1 3 4 Rn) (z5 Sn) Sn
   refine As (fun env pv hp=>∃ x0a x0n x0c x1 x4 x10 x11,Sub (w5 E0 11 (sI x11) 10 (sI x10) 4 (sV x4) 1 (sI x1) 0 (sS x0a x0n x0c)) env∧Sub V0 pv∧F170_j17 x0a x0n x0c x1 x4 x10 x11 hp  K) ?_ ?_
   ·refine Ag F170_r44 ?_ (r5 3 0 1 4 10 Rn) (z5 Sn) Sn
    exact ⟨_,_,_,_,_,_,_,(z5 Sn),Sn,h⟩
   ·rintro env pv hp ⟨x0a,x0n,x0c,x1,x4,x10,x11,he,hv,h⟩
    refine Ae ?_ (r5 0 1 4 10 11 Rn) he hv
    unfold F170_j17 at h
    refine As (fun env pv hp=>∃ x0a x0n x0c x1 x10,Sub (w3 E0 10 (sI x10) 1 (sI x1) 0 (sS x0a x0n x0c)) env∧Sub V0 pv∧F170_j18 x0a x0n x0c x1 x10 hp  K) ?_ ?_
    ·refine AWP.block (AWP.loop (σ:=Int × Int) _ (fun s=>w5 E0 11 (sI (s.2)) 10 (sI (s.1)) 4 (sV x4) 1 (sI x1) 0 (sS x0a x0n x0c)) (fun s=>V0) (x10,x11) h (fun s=>r5 0 1 4 10 11 Rn) (z5 Sn) Sn ?_)
     intro I21 s hp h
     obtain ⟨x10,x11⟩:=s
     replace h:F170_l21 x0a x0n x0c x1 x4  K I21 x10 x11 hp:=h
     unfold F170_l21 at h
     refine Aq (Ar F170_r39 ?_ (r5 10 11 0 1 4 Rn) (z5 Sn) Sn)
     refine Ac h rfl (fun h=>?_) (fun h=>?_)
     ·refine AWP.skip (AWP.block (Ar F170_r40 ?_ (r5 10 11 0 1 4 Rn) (z5 Sn) Sn))
      refine ⟨h.1,?_⟩
      replace h:=h.2
      refine Aq (AWP.rgnD (by kernel_rfl) (by kernel_rfl) (F170_r41 rfl) ?_ (r6 0 1 4 12 10 11 Rn) (z6 Sn) Sn)
      refine ⟨h.1,h.2.1,mN h.2.2 (fun b55 o56 h=>mL h (fun l57 h=>⟨h.1,h.2.1,mN h.2.2 fun b58 o59 h=>mL h fun l60 h=>mF h fun f61 ga_62 gb_63 h=>mC h fun u64 h65 h=>mI h fun i66 h=>?_⟩))⟩
      refine Ac h rfl (fun h=>?_) (fun h=>?_)
      ·refine Ag F170_r42 ?_ (r5 12 0 1 4 11 Rn) (z5 Sn) Sn
       exact ⟨_,(z5 Sn),Sn,h⟩
      ·refine Ag F170_r43 ?_ (r5 12 0 1 4 10 Rn) (z5 Sn) Sn
       exact ⟨_,(z5 Sn),Sn,h⟩
     ·refine AWP.exit ?_
      exact ⟨_,_,_,_,_,(z3 Sn),Sn,h⟩
    ·rintro env pv hp ⟨x0a,x0n,x0c,x1,x10,he,hv,h⟩
     refine Ae ?_ (r3 0 1 10 Rn) he hv
     unfold F170_j18 at h
     refine Aq (As (fun env pv hp=>∃ x0a x0n x0c x10 x13,Sub (w3 E0 13 (sI x13) 10 (sI x10) 0 (sS x0a x0n x0c)) env∧Sub V0 pv∧F170_j19 x0a x0n x0c x10 x13 hp  K) ?_ ?_)
     ·refine Ag F170_r38 ?_ (r3 1 0 10 Rn) (z3 Sn) Sn
      exact ⟨_,_,_,_,_,(z3 Sn),Sn,h⟩
     ·rintro env pv hp ⟨x0a,x0n,x0c,x10,x13,he,hv,h⟩
      refine Ae ?_ (r3 0 10 13 Rn) he hv
      unfold F170_j19 at h
      refine AWP.block (AWP.loop (σ:=Int) _ (fun s=>w3 E0 13 (sI s) 10 (sI x10) 0 (sS x0a x0n x0c)) (fun s=>V0) x13 h (fun s=>r3 0 10 13 Rn) (z3 Sn) Sn ?_)
      intro I20 x13 hp h
      replace h:F170_l20 x0a x0n x0c x10  K I20 x13 hp:=h
      unfold F170_l20 at h
      refine Aq (Ar F170_r35 ?_ (r3 10 13 0 Rn) (z3 Sn) Sn)
      refine Ac h rfl (fun h=>?_) (fun h=>?_)
      ·refine AWP.skip (Aq (AWP.block (AWP.rgnD (by kernel_rfl) (by kernel_rfl) F170_r36 ?_ (r3 0 13 10 Rn) (z3 Sn) Sn)))
       refine ⟨h.1,h.2.1,mN h.2.2 (fun b43 o44 h=>mL h (fun l45 h=>⟨h.1,h.2.1,mN h.2.2 (fun b46 o47 h=>mL h (fun l48 h=>⟨h.1,h.2.1,mN h.2.2 (fun b49 o50 h=>⟨h.1,mW h.2 (fun h51 h=>⟨h.1,h.2.1,mN h.2.2 (fun b52 o53 h=>⟨h.1,mW h.2 fun h54 h=>?_⟩)⟩)⟩)⟩))⟩))⟩
       refine Ag F170_r37 ?_ (r3 13 0 10 Rn) (z3 Sn) Sn
       exact ⟨_,(z3 Sn),Sn,h⟩
      ·refine AWP.exit ?_
       refine AWP.ret ?_
       exact h
  ·refine AWP.skip ?_
   exact ⟨_,_,_,_,_,_,_,(z5 Sn),Sn,h⟩
 ·rintro env pv hp ⟨x0a,x0n,x0c,x1,x2,x3,x4,he,hv,h⟩
  refine Ae ?_ (r5 0 1 2 3 4 Rn) he hv
  unfold F170_j1 at h
  refine As (fun env pv hp=>∃ x0a x0n x0c x1 x2 x3 x4,Sub (w5 E0 4 (sV x4) 3 (sI x3) 2 (sI x2) 1 (sI x1) 0 (sS x0a x0n x0c)) env∧Sub V0 pv∧F170_j2 x0a x0n x0c x1 x2 x3 x4 hp  K) ?_ ?_
  ·refine Ar F170_r21 ?_ (r5 2 3 0 1 4 Rn) (z5 Sn) Sn
   refine Ac h rfl (fun h=>?_) (fun h=>?_)
   ·refine Ar F170_r22 ?_ (r4 1 0 2 4 Rn) (z4 Sn) Sn
    refine As (fun env pv hp=>∃ x0a x0n x0c x2 x4 x14 x15,Sub (w5 E0 15 (sI x15) 14 (sI x14) 4 (sV x4) 2 (sI x2) 0 (sS x0a x0n x0c)) env∧Sub V0 pv∧F170_j12 x0a x0n x0c x2 x4 x14 x15 hp  K) ?_ ?_
    ·refine Ag F170_r32 ?_ (r4 2 0 4 14 Rn) (z4 Sn) Sn
     exact ⟨_,_,_,_,_,_,_,(z5 Sn),Sn,h⟩
    ·rintro env pv hp ⟨x0a,x0n,x0c,x2,x4,x14,x15,he,hv,h⟩
     refine Ae ?_ (r5 0 2 4 14 15 Rn) he hv
     unfold F170_j12 at h
     refine As (fun env pv hp=>∃ x0a x0n x0c x2 x14,Sub (w3 E0 14 (sI x14) 2 (sI x2) 0 (sS x0a x0n x0c)) env∧Sub V0 pv∧F170_j13 x0a x0n x0c x2 x14 hp  K) ?_ ?_
     ·refine AWP.block (AWP.loop (σ:=Int × Int) _ (fun s=>w5 E0 15 (sI (s.2)) 14 (sI (s.1)) 4 (sV x4) 2 (sI x2) 0 (sS x0a x0n x0c)) (fun s=>V0) (x14,x15) h (fun s=>r5 0 2 4 14 15 Rn) (z5 Sn) Sn ?_)
      intro I16 s hp h
      obtain ⟨x14,x15⟩:=s
      replace h:F170_l16 x0a x0n x0c x2 x4  K I16 x14 x15 hp:=h
      unfold F170_l16 at h
      refine Aq (Ar F170_r27 ?_ (r5 14 15 0 2 4 Rn) (z5 Sn) Sn)
      refine Ac h rfl (fun h=>?_) (fun h=>?_)
      ·refine AWP.skip (AWP.block (Ar F170_r28 ?_ (r5 14 15 0 2 4 Rn) (z5 Sn) Sn))
       refine ⟨h.1,?_⟩
       replace h:=h.2
       refine Aq (AWP.rgnD (by kernel_rfl) (by kernel_rfl) (F170_r29 rfl) ?_ (r6 0 2 4 16 14 15 Rn) (z6 Sn) Sn)
       refine ⟨h.1,h.2.1,mN h.2.2 (fun b31 o32 h=>mL h (fun l33 h=>⟨h.1,h.2.1,mN h.2.2 fun b34 o35 h=>mL h fun l36 h=>mF h fun f37 ga_38 gb_39 h=>mC h fun u40 h41 h=>mI h fun i42 h=>?_⟩))⟩
       refine Ac h rfl (fun h=>?_) (fun h=>?_)
       ·refine Ag F170_r30 ?_ (r5 16 0 2 4 15 Rn) (z5 Sn) Sn
        exact ⟨_,(z5 Sn),Sn,h⟩
       ·refine Ag F170_r31 ?_ (r5 16 0 2 4 14 Rn) (z5 Sn) Sn
        exact ⟨_,(z5 Sn),Sn,h⟩
      ·refine AWP.exit ?_
       exact ⟨_,_,_,_,_,(z3 Sn),Sn,h⟩
     ·rintro env pv hp ⟨x0a,x0n,x0c,x2,x14,he,hv,h⟩
      refine Ae ?_ (r3 0 2 14 Rn) he hv
      unfold F170_j13 at h
      refine Aq (As (fun env pv hp=>∃ x0a x0n x0c x14 x17,Sub (w3 E0 17 (sI x17) 14 (sI x14) 0 (sS x0a x0n x0c)) env∧Sub V0 pv∧F170_j14 x0a x0n x0c x14 x17 hp  K) ?_ ?_)
      ·refine Ag F170_r26 ?_ (r3 2 0 14 Rn) (z3 Sn) Sn
       exact ⟨_,_,_,_,_,(z3 Sn),Sn,h⟩
      ·rintro env pv hp ⟨x0a,x0n,x0c,x14,x17,he,hv,h⟩
       refine Ae ?_ (r3 0 14 17 Rn) he hv
       unfold F170_j14 at h
       refine AWP.block (AWP.loop (σ:=Int) _ (fun s=>w3 E0 17 (sI s) 14 (sI x14) 0 (sS x0a x0n x0c)) (fun s=>V0) x17 h (fun s=>r3 0 14 17 Rn) (z3 Sn) Sn ?_)
       intro I15 x17 hp h
       replace h:F170_l15 x0a x0n x0c x14  K I15 x17 hp:=h
       unfold F170_l15 at h
       refine Aq (Ar F170_r23 ?_ (r3 14 17 0 Rn) (z3 Sn) Sn)
       refine Ac h rfl (fun h=>?_) (fun h=>?_)
       ·refine AWP.skip (Aq (AWP.block (AWP.rgnD (by kernel_rfl) (by kernel_rfl) F170_r24 ?_ (r3 0 17 14 Rn) (z3 Sn) Sn)))
        refine ⟨h.1,h.2.1,mN h.2.2 (fun b19 o20 h=>mL h (fun l21 h=>⟨h.1,h.2.1,mN h.2.2 (fun b22 o23 h=>mL h (fun l24 h=>⟨h.1,h.2.1,mN h.2.2 (fun b25 o26 h=>⟨h.1,mW h.2 (fun h27 h=>⟨h.1,h.2.1,mN h.2.2 (fun b28 o29 h=>⟨h.1,mW h.2 fun h30 h=>?_⟩)⟩)⟩)⟩))⟩))⟩
        refine Ag F170_r25 ?_ (r3 17 0 14 Rn) (z3 Sn) Sn
        exact ⟨_,(z3 Sn),Sn,h⟩
       ·refine AWP.exit ?_
        refine AWP.ret ?_
        exact h
   ·refine AWP.skip ?_
    exact ⟨_,_,_,_,_,_,_,(z5 Sn),Sn,h⟩
  ·rintro env pv hp ⟨x0a,x0n,x0c,x1,x2,x3,x4,he,hv,h⟩
   refine Ae ?_ (r5 0 1 2 3 4 Rn) he hv
   unfold F170_j2 at h
   refine Ar F170_r0 ?_ (r5 1 3 0 2 4 Rn) (z5 Sn) Sn
   refine ⟨h.1,?_⟩
   replace h:=h.2
   refine Ar F170_r1 ?_ (r6 2 18 0 1 3 4 Rn) (z6 Sn) Sn
   refine Ar F170_r2 ?_ (r7 0 1 2 3 4 18 19 Rn) (z7 Sn) Sn
   refine As (fun env pv hp=>∃ x0a x0n x0c x1 x2 x3 x4 x18 x19 x20 x21,Sub (upd (w8 E0 21 (sI x21) 20 (sI x20) 19 (sI x19) 18 (sI x18) 4 (sV x4) 3 (sI x3) 2 (sI x2) 1 (sI x1)) 0 (sS x0a x0n x0c)) env∧Sub V0 pv∧F170_j3 x0a x0n x0c x1 x2 x3 x4 x18 x19 x20 x21 hp  K) ?_ ?_
   ·refine Ar F170_r16 ?_ (r7 2 18 0 1 3 4 19 Rn) (z7 Sn) Sn
    refine Ac h rfl (fun h=>?_) (fun h=>?_)
    ·refine Ar F170_r17 ?_ (r7 3 19 0 1 2 4 18 Rn) (z7 Sn) Sn
     refine Ag F170_r18 ?_ (r8 18 0 1 2 3 4 19 20 Rn) (z8 Sn) Sn
     exact ⟨_,_,_,_,_,_,_,_,_,_,_,(z1 (z8 Sn)),Sn,h⟩
    ·refine Ar F170_r19 ?_ (r7 1 0 2 3 4 18 19 Rn) (z7 Sn) Sn
     refine Ag F170_r20 ?_ (r8 2 0 1 3 4 18 19 20 Rn) (z8 Sn) Sn
     exact ⟨_,_,_,_,_,_,_,_,_,_,_,(z1 (z8 Sn)),Sn,h⟩
   ·rintro env pv hp ⟨x0a,x0n,x0c,x1,x2,x3,x4,x18,x19,x20,x21,he,hv,h⟩
    refine Ae ?_ (r8 0 1 2 3 4 18 19 20 (r1 21 Rn)) he hv
    unfold F170_j3 at h
    refine As (fun env pv hp=>∃ x0a x0n x0c x1 x2 x3 x4 x18 x19 x20 x21 x22,Sub (w2 (w8 E0 22 (sI x22) 21 (sI x21) 20 (sI x20) 19 (sI x19) 18 (sI x18) 4 (sV x4) 3 (sI x3) 2 (sI x2)) 1 (sI x1) 0 (sS x0a x0n x0c)) env∧Sub V0 pv∧F170_j4 x0a x0n x0c x1 x2 x3 x4 x18 x19 x20 x21 x22 hp  K) ?_ ?_
    ·refine Ag F170_r15 ?_ (r8 19 0 1 2 3 4 18 20 (r1 21 Rn)) (z1 (z8 Sn)) Sn
     exact ⟨_,_,_,_,_,_,_,_,_,_,_,_,(z2 (z8 Sn)),Sn,h⟩
    ·rintro env pv hp ⟨x0a,x0n,x0c,x1,x2,x3,x4,x18,x19,x20,x21,x22,he,hv,h⟩
     refine Ae ?_ (r8 0 1 2 3 4 18 19 20 (r2 21 22 Rn)) he hv
     unfold F170_j4 at h
     refine As (fun env pv hp=>∃ x0a x0n x0c x1 x2 x3 x4 x18 x19 x20,Sub (w8 E0 20 (sI x20) 19 (sI x19) 18 (sI x18) 4 (sV x4) 3 (sI x3) 2 (sI x2) 1 (sI x1) 0 (sS x0a x0n x0c)) env∧Sub V0 pv∧F170_j5 x0a x0n x0c x1 x2 x3 x4 x18 x19 x20 hp  K) ?_ ?_
     ·refine AWP.block (AWP.loop (σ:=Int × Int) _ (fun s=>w2 (w8 E0 22 (sI x22) 21 (sI (s.2)) 20 (sI (s.1)) 19 (sI x19) 18 (sI x18) 4 (sV x4) 3 (sI x3) 2 (sI x2)) 1 (sI x1) 0 (sS x0a x0n x0c)) (fun s=>V0) (x20,x21) h (fun s=>r8 0 1 2 3 4 18 19 20 (r2 21 22 Rn)) (z2 (z8 Sn)) Sn ?_)
      intro I11 s hp h
      obtain ⟨x20,x21⟩:=s
      replace h:F170_l11 x0a x0n x0c x1 x2 x3 x4 x18 x19 x22  K I11 x20 x21 hp:=h
      unfold F170_l11 at h
      refine Aq (Ar F170_r10 ?_ (r8 20 21 0 1 2 3 4 18 (r2 19 22 Rn)) (z2 (z8 Sn)) Sn)
      refine Ac h rfl (fun h=>?_) (fun h=>?_)
      ·refine AWP.skip (AWP.block (Ar F170_r11 ?_ (r8 20 21 0 1 2 3 4 18 (r2 19 22 Rn)) (z2 (z8 Sn)) Sn))
       refine ⟨h.1,?_⟩
       replace h:=h.2
       refine Aq (AWP.rgnD (by kernel_rfl) (by kernel_rfl) (F170_r12 rfl) ?_ (r8 0 4 22 23 1 2 3 18 (r3 19 20 21 Rn)) (z3 (z8 Sn)) Sn)
       refine ⟨h.1,h.2.1,mN h.2.2 (fun b7 o8 h=>mL h (fun l9 h=>⟨h.1,h.2.1,mN h.2.2 fun b10 o11 h=>mL h fun l12 h=>mF h fun f13 ga_14 gb_15 h=>mC h fun u16 h17 h=>mI h fun i18 h=>?_⟩))⟩
       refine Ac h rfl (fun h=>?_) (fun h=>?_)
       ·refine Ag F170_r13 ?_ (r8 23 0 1 2 3 4 18 19 (r2 21 22 Rn)) (z2 (z8 Sn)) Sn
        exact ⟨_,(z2 (z8 Sn)),Sn,h⟩
       ·refine Ag F170_r14 ?_ (r8 23 0 1 2 3 4 18 19 (r2 20 22 Rn)) (z2 (z8 Sn)) Sn
        exact ⟨_,(z2 (z8 Sn)),Sn,h⟩
      ·refine AWP.exit ?_
       exact ⟨_,_,_,_,_,_,_,_,_,_,(z8 Sn),Sn,h⟩
     ·rintro env pv hp ⟨x0a,x0n,x0c,x1,x2,x3,x4,x18,x19,x20,he,hv,h⟩
      refine Ae ?_ (r8 0 1 2 3 4 18 19 20 Rn) he hv
      unfold F170_j5 at h
      refine Ar F170_r3 ?_ (r8 19 20 0 1 2 3 4 18 Rn) (z8 Sn) Sn
      refine As (fun env pv hp=>∃ x0a x0n x0c x1 x3 x4 x18 x20 x24,Sub (w7 E0 24 (sI x24) 20 (sI x20) 18 (sI x18) 4 (sV x4) 3 (sI x3) 1 (sI x1) 0 (sS x0a x0n x0c)) env∧Sub V0 pv∧F170_j6 x0a x0n x0c x1 x3 x4 x18 x20 x24 hp  K) ?_ ?_
      ·refine As (fun env pv hp=>∃ x0a x0n x0c x1 x2 x3 x4 x18 x20 x24 x185,Sub (upd (w8 E0 185 (sB x185) 24 (sI x24) 20 (sI x20) 18 (sI x18) 4 (sV x4) 3 (sI x3) 2 (sI x2) 1 (sI x1)) 0 (sS x0a x0n x0c)) env∧Sub V0 pv∧F170_j10 x0a x0n x0c x1 x2 x3 x4 x18 x20 x24 x185 hp  K) ?_ ?_
       ·refine Ag (F170_r9 rfl) ?_ (r8 2 20 24 0 1 3 4 18 Rn) (z8 Sn) Sn
        refine mt h (fun h=>?_) (fun h=>?_)
        ·exact ⟨_,_,_,_,_,_,_,_,_,_,_,(z1 (z8 Sn)),Sn,h⟩
        ·exact ⟨_,_,_,_,_,_,_,_,_,_,_,(z1 (z8 Sn)),Sn,h⟩
       ·rintro env pv hp ⟨x0a,x0n,x0c,x1,x2,x3,x4,x18,x20,x24,x185,he,hv,h⟩
        refine Ae ?_ (r8 0 1 2 3 4 18 20 24 (r1 185 Rn)) he hv
        unfold F170_j10 at h
        refine Ac h rfl (fun h=>?_) (fun h=>?_)
        ·refine Ag (F170_r8 rfl) ?_ (r8 0 2 4 20 24 1 3 18 Rn) (z8 Sn) Sn
         refine mC h fun u5 h6 h=>?_
         exact ⟨_,_,_,_,_,_,_,_,_,(z7 Sn),Sn,h⟩
        ·refine AWP.skip ?_
         exact ⟨_,_,_,_,_,_,_,_,_,(z7 Sn),Sn,h⟩
      ·rintro env pv hp ⟨x0a,x0n,x0c,x1,x3,x4,x18,x20,x24,he,hv,h⟩
       refine Ae ?_ (r7 0 1 3 4 18 20 24 Rn) he hv
       unfold F170_j6 at h
       refine As (fun env pv hp=>∃ x0a x0n x0c x3 x4 x18 x24,Sub (w5 E0 24 (sI x24) 18 (sI x18) 4 (sV x4) 3 (sI x3) 0 (sS x0a x0n x0c)) env∧Sub V0 pv∧F170_j7 x0a x0n x0c x3 x4 x18 x24 hp  K) ?_ ?_
       ·refine As (fun env pv hp=>∃ x0a x0n x0c x1 x3 x4 x18 x20 x24 x199,Sub (w8 E0 199 (sB x199) 24 (sI x24) 20 (sI x20) 18 (sI x18) 4 (sV x4) 3 (sI x3) 1 (sI x1) 0 (sS x0a x0n x0c)) env∧Sub V0 pv∧F170_j9 x0a x0n x0c x1 x3 x4 x18 x20 x24 x199 hp  K) ?_ ?_
        ·refine Ag (F170_r7 rfl) ?_ (r7 1 18 20 0 3 4 24 Rn) (z7 Sn) Sn
         refine mt h (fun h=>?_) (fun h=>?_)
         ·exact ⟨_,_,_,_,_,_,_,_,_,_,(z8 Sn),Sn,h⟩
         ·exact ⟨_,_,_,_,_,_,_,_,_,_,(z8 Sn),Sn,h⟩
        ·rintro env pv hp ⟨x0a,x0n,x0c,x1,x3,x4,x18,x20,x24,x199,he,hv,h⟩
         refine Ae ?_ (r8 0 1 3 4 18 20 24 199 Rn) he hv
         unfold F170_j9 at h
         refine Ac h rfl (fun h=>?_) (fun h=>?_)
         ·refine Ag (F170_r6 rfl) ?_ (r7 0 1 4 18 20 3 24 Rn) (z7 Sn) Sn
          refine mC h fun u3 h4 h=>?_
          exact ⟨_,_,_,_,_,_,_,(z5 Sn),Sn,h⟩
         ·refine AWP.skip ?_
          exact ⟨_,_,_,_,_,_,_,(z5 Sn),Sn,h⟩
       ·rintro env pv hp ⟨x0a,x0n,x0c,x3,x4,x18,x24,he,hv,h⟩
        refine Ae ?_ (r5 0 3 4 18 24 Rn) he hv
        unfold F170_j7 at h
        refine As (fun env pv hp=>∃ x0a x0n x0c x3 x4 x18 x24 x213,Sub (w6 E0 213 (sB x213) 24 (sI x24) 18 (sI x18) 4 (sV x4) 3 (sI x3) 0 (sS x0a x0n x0c)) env∧Sub V0 pv∧F170_j8 x0a x0n x0c x3 x4 x18 x24 x213 hp  K) ?_ ?_
        ·refine Ag (F170_r5 rfl) ?_ (r5 3 18 24 0 4 Rn) (z5 Sn) Sn
         refine mt h (fun h=>?_) (fun h=>?_)
         ·exact ⟨_,_,_,_,_,_,_,_,(z6 Sn),Sn,h⟩
         ·exact ⟨_,_,_,_,_,_,_,_,(z6 Sn),Sn,h⟩
        ·rintro env pv hp ⟨x0a,x0n,x0c,x3,x4,x18,x24,x213,he,hv,h⟩
         refine Ae ?_ (r6 0 3 4 18 24 213 Rn) he hv
         unfold F170_j8 at h
         refine Ac h rfl (fun h=>?_) (fun h=>?_)
         ·refine Ag (F170_r4 rfl) ?_ (r5 0 3 4 18 24 Rn) (z5 Sn) Sn
          refine mC h fun u1 h2 h=>?_
          exact h
         ·refine AWP.skip ?_
          exact h
end
section
variable {e E:Env} {x0a:OA} {x0n x0c:Nat} {x1 x2 x3:Int} {x4:Value} {x10 x11:Int} {hp:HP} {K:Env→PV→HP→Prop}
abbrev R188 (p n:Nat):=RW Try.prog 58 [] (opsAt Try.f188 (pth p)) (List.range n)
theorem F188_r0:R188 2 4 (w2 e 2 (sI x2) 1 (sI x1)) V0 hp K=
 K (w6 e 2 (sI x2) 1 (sI x1) 12 (sI x2) 13 (sI x1) 14 (sI ((wr (x2-x1)))) 10 (sI ((wr (x2-x1))))) V0 hp:= by kernel_rfl
theorem F188_r1 (h:E=upd (w3 e 10 (sI x10) 4 (sV x4) 2 (sI x2)) 0 (sS x0a x0n x0c)):R188 15 8 E V0 hp K=
 CF Try.prog 195 [(.slice x0a x0n x0c),(.int .i64 (wr (x2-x10))),(.int .i64 x2),(.int .i64 x10),x4] hp fun u1 h2=>(K (w8 E 50 (sS x0a x0n x0c) 51 (sI x2) 52 (sI x10) 53 (sI ((wr (x2-x10)))) 54 (sI x2) 55 (sI x10) 56 (sV x4) 57 (sV u1)) V0 h2):= by subst h; kernel_rfl
def F188_j2 (x0a:OA) (x0n x0c:Nat) (x2:Int) (x4:Value) (x10:Int) (hp:HP) (K:Kh):Prop:=
  (CF Try.prog 195 [(.slice x0a x0n x0c),(.int .i64 (IntKind.wrap .i64 (x2-x10))),(.int .i64 x2),(.int .i64 x10),x4] hp fun u1 h2=>K (.tuple ⟨[]⟩) h2)
theorem F188_r2:R188 131 3 (w2 e 11 (sI x11) 10 (sI x10)) V0 hp K=
 K (w5 e 11 (sI x11) 10 (sI x10) 18 (sI x10) 19 (sI x11) 20 (sB ((x10 != x11)))) V0 hp:= by kernel_rfl
theorem F188_r3:R188 291 3 (w2 e 11 (sI x11) 10 (sI x10)) V0 hp K=
 K (w5 e 11 (sI x11) 10 (sI x10) 21 (sI x10) 22 (sI x11) 23 (sB (decide (x10 > x11)))) V0 hp:= by kernel_rfl
theorem F188_r4 (h:E=upd (w4 e 11 (sI x11) 10 (sI x10) 4 (sV x4) 2 (sI x2)) 0 (sS x0a x0n x0c)):R188 1187 8 E V0 hp K=
 CF Try.prog 195 [(.slice x0a x0n x0c),(.int .i64 (wr (x2-x10))),(.int .i64 x2),(.int .i64 x11),x4] hp fun u1 h2=>(K (w8 E 24 (sS x0a x0n x0c) 25 (sI x2) 26 (sI x10) 27 (sI ((wr (x2-x10)))) 28 (sI x2) 29 (sI x11) 30 (sV x4) 31 (sV u1)) V0 h2):= by subst h; kernel_rfl
theorem F188_r5:R188 1699 4 (w2 e 11 (sI x11) 10 (sI x10)) V0 hp K=
 K (w6 e 11 (sI x11) 10 (sI x10) 32 (sI x10) 33 (sI x11) 34 (sI ((wr (x10-x11)))) 10 (sI ((wr (x10-x11))))) V0 hp:= by kernel_rfl
theorem F188_r6 (h:E=upd (w4 e 11 (sI x11) 10 (sI x10) 4 (sV x4) 2 (sI x2)) 0 (sS x0a x0n x0c)):R188 1443 12 E V0 hp K=
 CF Try.prog 195 [(.slice x0a x0n x0c),(.int .i64 (wr (x2-x10))),(.int .i64 (wr ((wr (x2+x11))-x10))),(.int .i64 x10),x4] hp fun u1 h2=>(K (w4 (w8 E 35 (sS x0a x0n x0c) 36 (sI x2) 37 (sI x10) 38 (sI ((wr (x2-x10)))) 39 (sI x2) 40 (sI x11) 41 (sI ((wr (x2+x11)))) 42 (sI x10)) 43 (sI ((wr ((wr (x2+x11))-x10)))) 44 (sI x10) 45 (sV x4) 46 (sV u1)) V0 h2):= by subst h; kernel_rfl
theorem F188_r7:R188 1955 4 (w2 e 11 (sI x11) 10 (sI x10)) V0 hp K=
 K (w6 e 11 (sI x11) 10 (sI x10) 47 (sI x11) 48 (sI x10) 49 (sI ((wr (x11-x10)))) 11 (sI ((wr (x11-x10))))) V0 hp:= by kernel_rfl
def F188_l3 (x0a:OA) (x0n x0c:Nat) (x2:Int) (x4:Value) (K:Kh) (I3:(Int × Int)→HP→Prop) (x10 x11:Int) (hp:HP):Prop:=
  (ite2 (x10 != x11) (ite2 (decide (x10 > x11)) (CF Try.prog 195 [(.slice x0a x0n x0c),(.int .i64 (IntKind.wrap .i64 (x2-x10))),(.int .i64 x2),(.int .i64 x11),x4] hp fun u3 h4=>I3 ((IntKind.wrap .i64 (x10-x11)),x11) h4) (CF Try.prog 195 [(.slice x0a x0n x0c),(.int .i64 (IntKind.wrap .i64 (x2-x10))),(.int .i64 (IntKind.wrap .i64 ((IntKind.wrap .i64 (x2+x11))-x10))),(.int .i64 x10),x4] hp fun u5 h6=>I3 (x10,(IntKind.wrap .i64 (x11-x10))) h6)) (F188_j2 x0a x0n x0c x2 x4 x10 hp  K))
def F188_j1 (x0a:OA) (x0n x0c:Nat) (x2:Int) (x4:Value) (x10 x11:Int) (hp:HP) (K:Kh):Prop:=
  (LoopP (σ:=Int × Int) (fun I s hp=>F188_l3 x0a x0n x0c x2 x4  K I s.1 s.2 hp) (x10,x11) hp)
theorem F188_r8:R188 5 4 (w2 e 3 (sI x3) 2 (sI x2)) V0 hp K=
 K (w6 e 3 (sI x3) 2 (sI x2) 15 (sI x3) 16 (sI x2) 17 (sI ((wr (x3-x2)))) 11 (sI ((wr (x3-x2))))) V0 hp:= by kernel_rfl
def F188 (x0a:OA) (x0n x0c:Nat) (x1 x2 x3:Int) (x4:Value) (hp:HP) (K:Kh):Prop:=
  (F188_j1 x0a x0n x0c x2 x4 (IntKind.wrap .i64 (x2-x1)) (IntKind.wrap .i64 (x3-x2)) hp  K)
noncomputable abbrev o188 (k n:Nat):Code:=.region k (opsAt Try.f188 (pth n)) false
noncomputable def F188_code:Code:=(.seq (o188 0 2) (.seq (o188 1 5) (.seq (.block 0 (.loop (.seq (.seq (o188 2 131) (.cond (.tmp 20) .skip (.exit 0))) (.block 1 (.seq (o188 3 291) (.cond (.tmp 23) (.seq (o188 4 1187) (o188 5 1699)) (.seq (o188 6 1443) (o188 7 1955)))))))) (o188 8 15))))
theorem F188_body:Try.f188.body=some F188_code:=by kernel_rfl
theorem F188_ok (x0a:OA) (x0n x0c:Nat) (x1 x2 x3:Int) (x4:Value) (hp:HP) (K:Kh) (h:F188 x0a x0n x0c x1 x2 x3 x4 hp K):CF Try.prog 188 [(.slice x0a x0n x0c),(.int .i64 x1),(.int .i64 x2),(.int .i64 x3),x4] hp K:=by
 refine .inl ⟨by kernel_rfl,AC.intro (N:=58) Try.func188 F188_body rfl (Nat.le_of_ble_eq_true rfl) ?_⟩
 unfold F188 at h
 refine Ar F188_r0 ?_ (r5 1 2 0 3 4 Rn) (z5 Sn) Sn
 refine As (fun env pv hp=>∃ x0a x0n x0c x2 x4 x10 x11,Sub (w5 E0 11 (sI x11) 10 (sI x10) 4 (sV x4) 2 (sI x2) 0 (sS x0a x0n x0c)) env∧Sub V0 pv∧F188_j1 x0a x0n x0c x2 x4 x10 x11 hp  K) ?_ ?_
 ·refine Ag F188_r8 ?_ (r5 2 3 0 4 10 Rn) (z5 Sn) Sn
  exact ⟨_,_,_,_,_,_,_,(z5 Sn),Sn,h⟩
 ·rintro env pv hp ⟨x0a,x0n,x0c,x2,x4,x10,x11,he,hv,h⟩
  refine Ae ?_ (r5 0 2 4 10 11 Rn) he hv
  unfold F188_j1 at h
  refine As (fun env pv hp=>∃ x0a x0n x0c x2 x4 x10,Sub (w4 E0 10 (sI x10) 4 (sV x4) 2 (sI x2) 0 (sS x0a x0n x0c)) env∧Sub V0 pv∧F188_j2 x0a x0n x0c x2 x4 x10 hp  K) ?_ ?_
  ·refine AWP.block (AWP.loop (σ:=Int × Int) _ (fun s=>w5 E0 11 (sI (s.2)) 10 (sI (s.1)) 4 (sV x4) 2 (sI x2) 0 (sS x0a x0n x0c)) (fun s=>V0) (x10,x11) h (fun s=>r5 0 2 4 10 11 Rn) (z5 Sn) Sn ?_)
   intro I3 s hp h
   obtain ⟨x10,x11⟩:=s
   replace h:F188_l3 x0a x0n x0c x2 x4  K I3 x10 x11 hp:=h
   unfold F188_l3 at h
   refine Aq (Ar F188_r2 ?_ (r5 10 11 0 2 4 Rn) (z5 Sn) Sn)
   refine Ac h rfl (fun h=>?_) (fun h=>?_)
   ·refine AWP.skip (AWP.block (Ar F188_r3 ?_ (r5 10 11 0 2 4 Rn) (z5 Sn) Sn))
    refine Ac h rfl (fun h=>?_) (fun h=>?_)
    ·refine Ar (F188_r4 rfl) ?_ (r5 0 2 4 10 11 Rn) (z5 Sn) Sn
     refine mC h fun u3 h4 h=>?_
     refine Ag F188_r5 ?_ (r5 10 11 0 2 4 Rn) (z5 Sn) Sn
     exact ⟨_,(z5 Sn),Sn,h⟩
    ·refine Ar (F188_r6 rfl) ?_ (r5 0 2 4 10 11 Rn) (z5 Sn) Sn
     refine mC h fun u5 h6 h=>?_
     refine Ag F188_r7 ?_ (r5 10 11 0 2 4 Rn) (z5 Sn) Sn
     exact ⟨_,(z5 Sn),Sn,h⟩
   ·refine AWP.exit ?_
    exact ⟨_,_,_,_,_,_,(z4 Sn),Sn,h⟩
  ·rintro env pv hp ⟨x0a,x0n,x0c,x2,x4,x10,he,hv,h⟩
   refine Ae ?_ (r4 0 2 4 10 Rn) he hv
   unfold F188_j2 at h
   refine Ag (F188_r1 rfl) ?_ (r4 0 2 4 10 Rn) (z4 Sn) Sn
   refine mC h fun u1 h2 h=>?_
   exact h
end
section
variable {e E:Env} {x0a:OA} {x0n x0c:Nat} {x1 x2 x3 x10:Int} {hp:HP} {K:Env→PV→HP→Prop}
abbrev R195 (p n:Nat):=RW Try.prog 38 [] (opsAt Try.f195 (pth p)) (List.range n)
theorem F195_r0:R195 33 3 (w2 e 10 (sI x10) 3 (sI x3)) V0 hp K=
 K (w5 e 10 (sI x10) 3 (sI x3) 11 (sI x10) 12 (sI x3) 13 (sB (decide (x10<x3)))) V0 hp:= by kernel_rfl
theorem F195_r1 (h:E=upd (w3 e 10 (sI x10) 2 (sI x2) 1 (sI x1)) 0 (sS x0a x0n x0c)):R195 73 24 E V0 hp K=
    ((0≤((wr (x2+x10)):Int))∧(((wr (x2+x10)):Int)<x0n)∧(ptrN x0a fun b1 o2=>ldL (HP.cellN hp b1 (o2+Int.toNat (wr (x2+x10))*6) 6) fun l3=>(0≤((wr (x1+x10)):Int))∧(((wr (x1+x10)):Int)<x0n)∧(ptrN x0a fun b4 o5=>ldL (HP.cellN hp b4 (o5+Int.toNat (wr (x1+x10))*6) 6) fun l6=>(0≤((wr (x1+x10)):Int))∧(((wr (x1+x10)):Int)<x0n)∧(ptrN x0a fun b7 o8=>(List.length l3=6)∧(HP.stN hp b7 (o8+Int.toNat (wr (x1+x10))*6) l3 fun h9=>(0≤((wr (x2+x10)):Int))∧(((wr (x2+x10)):Int)<x0n)∧(ptrN x0a fun b10 o11=>(List.length l6=6)∧(HP.stN h9 b10 (o11+Int.toNat (wr (x2+x10))*6) l6 fun h12=>K (w6 (w8 (w8 E 16 (sS x0a x0n x0c) 17 (sI x1) 18 (sI x10) 19 (sI ((wr (x1+x10)))) 20 (sS x0a x0n x0c) 21 (sI x2) 22 (sI x10) 23 (sI ((wr (x2+x10))))) 24 (sS x0a x0n x0c) 25 (sI x2) 26 (sI x10) 27 (sI ((wr (x2+x10)))) 28 (sV (ptr b1 (o2+Int.toNat (wr (x2+x10))*6))) 29 (sA l3) 30 (sS x0a x0n x0c) 31 (sI x1)) 32 (sI x10) 33 (sI ((wr (x1+x10)))) 34 (sV (ptr b4 (o5+Int.toNat (wr (x1+x10))*6))) 35 (sA l6) 36 (sV (ptr b7 (o8+Int.toNat (wr (x1+x10))*6))) 37 (sV (ptr b10 (o11+Int.toNat (wr (x2+x10))*6)))) V0 h12))))))):=by subst h; kernel_rfl
theorem F195_r2:R195 57 3 (upd e 10 (sI x10)) V0 hp K=
 K (w4 e 10 (sI x10) 14 (sI x10) 15 (sI ((wr (x10+1)))) 10 (sI ((wr (x10+1))))) V0 hp:= by kernel_rfl
def F195_l2 (x0a:OA) (x0n x0c:Nat) (x1 x2 x3:Int) (K:Kh) (I2:(Int)→HP→Prop) (x10:Int) (hp:HP):Prop:=
  (ite2 (decide (x10<x3)) ((0≤((IntKind.wrap .i64 (x2+x10)):Int))∧(((IntKind.wrap .i64 (x2+x10)):Int)<x0n)∧(ptrN x0a fun b1 o2=>ldL (HP.cellN hp b1 (o2+Int.toNat (IntKind.wrap .i64 (x2+x10))*6) 6) fun l3=>(0≤((IntKind.wrap .i64 (x1+x10)):Int))∧(((IntKind.wrap .i64 (x1+x10)):Int)<x0n)∧(ptrN x0a fun b4 o5=>ldL (HP.cellN hp b4 (o5+Int.toNat (IntKind.wrap .i64 (x1+x10))*6) 6) fun l6=>(0≤((IntKind.wrap .i64 (x1+x10)):Int))∧(((IntKind.wrap .i64 (x1+x10)):Int)<x0n)∧(ptrN x0a fun b7 o8=>(List.length l3=6)∧(HP.stN hp b7 (o8+Int.toNat (IntKind.wrap .i64 (x1+x10))*6) l3 fun h9=>(0≤((IntKind.wrap .i64 (x2+x10)):Int))∧(((IntKind.wrap .i64 (x2+x10)):Int)<x0n)∧(ptrN x0a fun b10 o11=>(List.length l6=6)∧(HP.stN h9 b10 (o11+Int.toNat (IntKind.wrap .i64 (x2+x10))*6) l6 fun h12=>I2 (IntKind.wrap .i64 (x10+1)) h12))))))) (K (.tuple ⟨[]⟩) hp))
def F195_j1 (x0a:OA) (x0n x0c:Nat) (x1 x2 x3 x10:Int) (hp:HP) (K:Kh):Prop:=
  (LoopP (σ:=Int) (fun I s hp=>F195_l2 x0a x0n x0c x1 x2 x3  K I s hp) x10 hp)
theorem F195_r3:R195 2 1 e V0 hp K=
 K (upd e 10 (sI 0)) V0 hp:= by kernel_rfl
def F195 (x0a:OA) (x0n x0c:Nat) (x1 x2 x3:Int) (x4:Value) (hp:HP) (K:Kh):Prop:=
  (F195_j1 x0a x0n x0c x1 x2 x3 0 hp  K)
noncomputable def F195_code:Code:=(.seq (.region 0 (opsAt Try.f195 (pth 2)) false) (.block 0 (.loop (.seq (.seq (.region 1 (opsAt Try.f195 (pth 33)) false) (.cond (.tmp 13) .skip (.exit 0))) (.seq (.block 1 (.region 3 (opsAt Try.f195 (pth 73)) true)) (.region 2 (opsAt Try.f195 (pth 57)) false))))))
theorem F195_body:Try.f195.body=some F195_code:=by kernel_rfl
theorem F195_ok (x0a:OA) (x0n x0c:Nat) (x1 x2 x3:Int) (x4:Value) (hp:HP) (K:Kh) (h:F195 x0a x0n x0c x1 x2 x3 x4 hp K):CF Try.prog 195 [(.slice x0a x0n x0c),(.int .i64 x1),(.int .i64 x2),(.int .i64 x3),x4] hp K:=by
 refine .inl ⟨by kernel_rfl,AC.intro (N:=38) Try.func195 F195_body rfl (Nat.le_of_ble_eq_true rfl) ?_⟩
 unfold F195 at h
 refine As (fun env pv hp=>∃ x0a x0n x0c x1 x2 x3 x10,Sub (w5 E0 10 (sI x10) 3 (sI x3) 2 (sI x2) 1 (sI x1) 0 (sS x0a x0n x0c)) env∧Sub V0 pv∧F195_j1 x0a x0n x0c x1 x2 x3 x10 hp  K) ?_ ?_
 ·refine Ag F195_r3 ?_ (r4 0 1 2 3 Rn) (z4 Sn) Sn
  exact ⟨_,_,_,_,_,_,_,(z5 Sn),Sn,h⟩
 ·rintro env pv hp ⟨x0a,x0n,x0c,x1,x2,x3,x10,he,hv,h⟩
  refine Ae ?_ (r5 0 1 2 3 10 Rn) he hv
  unfold F195_j1 at h
  refine AWP.block (AWP.loop (σ:=Int) _ (fun s=>w5 E0 10 (sI s) 3 (sI x3) 2 (sI x2) 1 (sI x1) 0 (sS x0a x0n x0c)) (fun s=>V0) x10 h (fun s=>r5 0 1 2 3 10 Rn) (z5 Sn) Sn ?_)
  intro I2 x10 hp h
  replace h:F195_l2 x0a x0n x0c x1 x2 x3  K I2 x10 hp:=h
  unfold F195_l2 at h
  refine Aq (Ar F195_r0 ?_ (r5 3 10 0 1 2 Rn) (z5 Sn) Sn)
  refine Ac h rfl (fun h=>?_) (fun h=>?_)
  ·refine AWP.skip (Aq (AWP.block (AWP.rgnD (by kernel_rfl) (by kernel_rfl) (F195_r1 rfl) ?_ (r5 0 1 2 10 3 Rn) (z5 Sn) Sn)))
   refine ⟨h.1,h.2.1,mN h.2.2 (fun b1 o2 h=>mL h (fun l3 h=>⟨h.1,h.2.1,mN h.2.2 (fun b4 o5 h=>mL h (fun l6 h=>⟨h.1,h.2.1,mN h.2.2 (fun b7 o8 h=>⟨h.1,mW h.2 (fun h9 h=>⟨h.1,h.2.1,mN h.2.2 (fun b10 o11 h=>⟨h.1,mW h.2 fun h12 h=>?_⟩)⟩)⟩)⟩))⟩))⟩
   refine Ag F195_r2 ?_ (r5 10 0 1 2 3 Rn) (z5 Sn) Sn
   exact ⟨_,(z5 Sn),Sn,h⟩
  ·refine AWP.exit ?_
   exact h
end
end Go.Proofs
namespace Go.HL
open Go
def CmpOk {α:Type} [Inhabited α] (P:Program) (f:FuncId) (ga gb:List Value) (hp0:HP) (b:Nat) (e:TypeId) (sp:Nat) (en:α→List Value) (n:Nat) (cf:α→α→Int):Prop:=
  ∀ (d:Array α) (x y:α) (K:Value→HP→Prop),d.size=n→K (.int .i64 (cf x y)) (HA hp0 b e sp en d)→CF P f (ga++[.agg ⟨en x⟩,.agg ⟨en y⟩]++gb) (HA hp0 b e sp en d) K
def ltC {α:Type} (cf:α→α→Int) (x y:α):Bool:=decide (cf x y<0)
theorem swp_size {α:Type} [Inhabited α] (d:Array α) (i j:Nat):(Sort.swp d i j).size=d.size:=by simp [Sort.swp]
end Go.HL
set_option linter.unusedVariables false
set_option maxRecDepth 20000
namespace Go.Proofs
open Go Go.HL
section
variable {e:Env} {x0a:OA} {x0n x0c:Nat} {x3 x5:Int} {x6a:OA} {x6n x6c:Nat} {x7 x8:Int} {hp:HP} {K:Env→PV→HP→Prop}
abbrev R96 (p n:Nat):=RW Try.prog 18 [] (opsAt Try.f96 (pth p)) (List.range n)
theorem F96_r0:R96 2 1 e V0 hp K=
 K (upd e 2 (sI 0)) V0 hp:= by kernel_rfl
theorem F96_r1:R96 5 1 e V0 hp K=
 K (upd e 3 (sI 0)) V0 hp:= by kernel_rfl
theorem F96_r2:R96 23 2 (upd e 3 (sI x3)) V0 hp K=
 K (w3 e 3 (sI x3) 17 (sI x3) 2 (sI x3)) V0 hp:= by kernel_rfl
def F96_j1 (x3:Int) (hp:HP) (K:Kh):Prop:=
  (K (.int .i64 x3) hp)
theorem F96_r3:R96 139 1 (w2 e 8 (sI x8) 7 (sI x7)) V0 hp K=
 K (w3 e 8 (sI x8) 7 (sI x7) 9 (sB (decide (x8<x7)))) V0 hp:= by kernel_rfl
theorem F96_r4:R96 2251 3 (w2 e 8 (sI x8) 6 (sS x6a x6n x6c)) V0 hp K=
    ((0≤x8)∧(x8<x6n)∧(ptrN x6a fun b1 o2=>ldV (HP.cell hp b1 (o2+Int.toNat x8*1)) fun v3=>intV v3 .i64 fun i4=>K (w5 e 8 (sI x8) 6 (sS x6a x6n x6c) 10 (sQ b1 (o2+Int.toNat x8*1)) 11 (sI i4) 5 (sI i4)) V0 hp)):=by kernel_rfl
theorem F96_r5:R96 5323 3 (w2 e 5 (sI x5) 3 (sI x3)) V0 hp K=
 K (w5 e 5 (sI x5) 3 (sI x3) 12 (sI x5) 13 (sI x3) 14 (sB ((x5 != x3)))) V0 hp:= by kernel_rfl
theorem F96_r6:R96 19659 2 (upd e 5 (sI x5)) V0 hp K=
 K (w3 e 5 (sI x5) 15 (sI x5) 2 (sI x5)) V0 hp:= by kernel_rfl
theorem F96_r7:R96 971 2 (upd e 8 (sI x8)) V0 hp K=
 K (w3 e 8 (sI x8) 16 (sI ((wr (x8+1)))) 8 (sI ((wr (x8+1))))) V0 hp:= by kernel_rfl
def F96_l3 (x3:Int) (x6a:OA) (x6n x6c:Nat) (x7:Int) (K:Kh) (I3:(Int)→HP→Prop) (x8:Int) (hp:HP):Prop:=
  (ite2 (decide (x8<x7)) ((0≤x8)∧(x8<x6n)∧(ptrN x6a fun b1 o2=>ldV (HP.cell hp b1 (o2+Int.toNat x8*1)) fun v3=>intV v3 .i64 fun i4=>ite2 (i4 != x3) (K (.int .i64 i4) hp) (I3 (IntKind.wrap .i64 (x8+1)) hp))) (F96_j1 x3 hp  K))
def F96_j2 (x3:Int) (x6a:OA) (x6n x6c:Nat) (x7 x8:Int) (hp:HP) (K:Kh):Prop:=
  (LoopP (σ:=Int) (fun I s hp=>F96_l3 x3 x6a x6n x6c x7  K I s hp) x8 hp)
theorem F96_r8:R96 19 3 (upd e 0 (sS x0a x0n x0c)) V0 hp K=
 K (w4 e 0 (sS x0a x0n x0c) 6 (sS x0a x0n x0c) 7 (sI ((x0n:Nat))) 8 (sI 0)) V0 hp:= by kernel_rfl
def F96 (x0a:OA) (x0n x0c:Nat) (hp:HP) (K:Kh):Prop:=
  (F96_j2 0 x0a x0n x0c (x0n:Nat) 0 hp  K)
noncomputable abbrev o96 (k n:Nat):Code:=.region k (opsAt Try.f96 (pth n)) false
noncomputable def F96_code:Code:=(.seq (o96 0 2) (.seq (o96 1 5) (.seq (.seq (o96 2 19) (.block 0 (.loop (.seq (o96 3 139) (.seq (.cond (.tmp 9) .skip (.exit 0)) (.seq (.block 1 (.seq (o96 4 2251) (.seq (o96 5 5323) (.cond (.tmp 14) (.seq (o96 6 19659) .ret) .skip)))) (o96 7 971))))))) (.seq (o96 8 23) .ret))))
theorem F96_body:Try.f96.body=some F96_code:=by kernel_rfl
theorem F96_ok (x0a:OA) (x0n x0c:Nat) (hp:HP) (K:Kh) (h:F96 x0a x0n x0c hp K):CF Try.prog 96 [(.slice x0a x0n x0c)] hp K:=by
 refine .inl ⟨by kernel_rfl,AC.intro (N:=18) Try.func96 F96_body rfl (Nat.le_of_ble_eq_true rfl) ?_⟩
 unfold F96 at h
 refine Ar F96_r0 ?_ (r1 0 Rn) (z1 Sn) Sn
 refine Ar F96_r1 ?_ (r1 0 Rn) (z1 Sn) Sn
 refine As (fun env pv hp=>∃ x3,Sub (upd E0 3 (sI x3)) env∧Sub V0 pv∧F96_j1 x3 hp  K) ?_ ?_
 ·refine As (fun env pv hp=>∃ x3 x6a x6n x6c x7 x8,Sub (w4 E0 8 (sI x8) 7 (sI x7) 6 (sS x6a x6n x6c) 3 (sI x3)) env∧Sub V0 pv∧F96_j2 x3 x6a x6n x6c x7 x8 hp  K) ?_ ?_
  ·refine Ag F96_r8 ?_ (r2 0 3 Rn) (z2 Sn) Sn
   exact ⟨_,_,_,_,_,_,(z4 Sn),Sn,h⟩
  ·rintro env pv hp ⟨x3,x6a,x6n,x6c,x7,x8,he,hv,h⟩
   refine Ae ?_ (r4 3 6 7 8 Rn) he hv
   unfold F96_j2 at h
   refine AWP.block (AWP.loop (σ:=Int) _ (fun s=>w4 E0 8 (sI s) 7 (sI x7) 6 (sS x6a x6n x6c) 3 (sI x3)) (fun s=>V0) x8 h (fun s=>r4 3 6 7 8 Rn) (z4 Sn) Sn ?_)
   intro I3 x8 hp h
   replace h:F96_l3 x3 x6a x6n x6c x7  K I3 x8 hp:=h
   unfold F96_l3 at h
   refine Ar F96_r3 ?_ (r4 7 8 3 6 Rn) (z4 Sn) Sn
   refine Aq (Ac h rfl (fun h=>?_) (fun h=>?_))
   ·refine AWP.skip (Aq (AWP.block (Ar F96_r4 ?_ (r4 6 8 3 7 Rn) (z4 Sn) Sn)))
    refine ⟨h.1,h.2.1,mN h.2.2 fun b1 o2 h=>mV h fun v3 h=>mI h fun i4 h=>?_⟩
    refine Ar F96_r5 ?_ (r5 3 5 6 7 8 Rn) (z5 Sn) Sn
    refine Ac h rfl (fun h=>?_) (fun h=>?_)
    ·refine Ar F96_r6 ?_ (r1 5 Rn) (z1 Sn) Sn
     refine AWP.ret ?_
     exact h
    ·refine AWP.skip (Ag F96_r7 ?_ (r4 8 3 6 7 Rn) (z4 Sn) Sn)
     exact ⟨_,(z4 Sn),Sn,h⟩
   ·refine AWP.exit ?_
    exact ⟨_,(z1 Sn),Sn,h⟩
 ·rintro env pv hp ⟨x3,he,hv,h⟩
  refine Ae ?_ (r1 3 Rn) he hv
  unfold F96_j1 at h
  refine Ar F96_r2 ?_ (r1 3 Rn) (z1 Sn) Sn
  refine AWP.ret ?_
  exact h
end
section
variable {e:Env} {x0 x1:Int} {x5 x6:Bool} {hp:HP} {K:Env→PV→HP→Prop}
abbrev R97 (p n:Nat):=RW Try.prog 20 [] (opsAt Try.f97 (pth p)) (List.range n)
theorem F97_r0:R97 2 1 e V0 hp K=
 K (upd e 4 (sI 0)) V0 hp:= by kernel_rfl
theorem F97_r1:R97 5 3 (upd e 0 (sI x0)) V0 hp K=
 CF Try.prog 131 [(.int .i64 x0)] hp fun u1 h2=>(boolV u1 fun q3=>K (w4 e 0 (sI x0) 7 (sI x0) 8 (sB q3) 5 (sB q3)) V0 h2):= by kernel_rfl
theorem F97_r2:R97 11 3 (upd e 1 (sI x1)) V0 hp K=
 CF Try.prog 131 [(.int .i64 x1)] hp fun u1 h2=>(boolV u1 fun q3=>K (w4 e 1 (sI x1) 9 (sI x1) 10 (sB q3) 6 (sB q3)) V0 h2):= by kernel_rfl
theorem F97_r3:R97 39 1 (upd e 5 (sB x5)) V0 hp K=
 K (w2 e 5 (sB x5) 11 (sB x5)) V0 hp:= by kernel_rfl
theorem F97_r4:R97 279 1 (upd e 6 (sB x6)) V0 hp K=
 K (w2 e 6 (sB x6) 12 (sB x6)) V0 hp:= by kernel_rfl
theorem F97_r5:R97 1175 1 e V0 hp K=
 K (upd e 4 (sI 0)) V0 hp:= by kernel_rfl
theorem F97_r6:R97 343 1 e V0 hp K=
 K (upd e 4 (sI ((-1)))) V0 hp:= by kernel_rfl
theorem F97_r7:R97 79 1 (upd e 6 (sB x6)) V0 hp K=
 K (w2 e 6 (sB x6) 13 (sB x6)) V0 hp:= by kernel_rfl
theorem F97_r8:R97 303 1 e V0 hp K=
 K (upd e 4 (sI 1)) V0 hp:= by kernel_rfl
theorem F97_r9:R97 159 3 (w2 e 1 (sI x1) 0 (sI x0)) V0 hp K=
 K (w5 e 1 (sI x1) 0 (sI x0) 14 (sI x0) 15 (sI x1) 16 (sB (decide (x0<x1)))) V0 hp:= by kernel_rfl
theorem F97_r10:R97 607 1 e V0 hp K=
 K (upd e 4 (sI ((-1)))) V0 hp:= by kernel_rfl
theorem F97_r11:R97 319 3 (w2 e 1 (sI x1) 0 (sI x0)) V0 hp K=
 K (w5 e 1 (sI x1) 0 (sI x0) 17 (sI x0) 18 (sI x1) 19 (sB (decide (x0 > x1)))) V0 hp:= by kernel_rfl
theorem F97_r12:R97 1215 1 e V0 hp K=
 K (upd e 4 (sI 1)) V0 hp:= by kernel_rfl
theorem F97_r13:R97 383 1 e V0 hp K=
 K (upd e 4 (sI 0)) V0 hp:= by kernel_rfl
def F97 (x0 x1:Int) (hp:HP) (K:Kh):Prop:=
  (CF Try.prog 131 [(.int .i64 x0)] hp fun u1 h2=>boolV u1 fun q3=>CF Try.prog 131 [(.int .i64 x1)] h2 fun u4 h5=>boolV u4 fun q6=>ite2 q3 (ite2 q6 (K (.int .i64 0) h5) (K (.int .i64 (-1)) h5)) (ite2 q6 (K (.int .i64 1) h5) (ite2 (decide (x0<x1)) (K (.int .i64 (-1)) h5) (ite2 (decide (x0 > x1)) (K (.int .i64 1) h5) (K (.int .i64 0) h5)))))
noncomputable abbrev o97 (k n:Nat):Code:=.region k (opsAt Try.f97 (pth n)) false
noncomputable def F97_code:Code:=(.seq (o97 0 2) (.seq (o97 1 5) (.seq (o97 2 11) (.seq (.seq (o97 3 39) (.cond (.tmp 11) (.seq (.seq (o97 4 279) (.cond (.tmp 12) (.seq (o97 5 1175) .ret) .skip)) (.seq (o97 6 343) .ret)) .skip)) (.seq (.seq (o97 7 79) (.cond (.tmp 13) (.seq (o97 8 303) .ret) .skip)) (.seq (.seq (o97 9 159) (.cond (.tmp 16) (.seq (o97 10 607) .ret) .skip)) (.seq (.seq (o97 11 319) (.cond (.tmp 19) (.seq (o97 12 1215) .ret) .skip)) (.seq (o97 13 383) .ret))))))))
theorem F97_body:Try.f97.body=some F97_code:=by kernel_rfl
theorem F97_ok (x0 x1:Int) (hp:HP) (K:Kh) (h:F97 x0 x1 hp K):CF Try.prog 97 [(.int .i64 x0),(.int .i64 x1)] hp K:=by
 refine .inl ⟨by kernel_rfl,AC.intro (N:=20) Try.func97 F97_body rfl (Nat.le_of_ble_eq_true rfl) ?_⟩
 unfold F97 at h
 refine Ar F97_r0 ?_ (r2 0 1 Rn) (z2 Sn) Sn
 refine Ar F97_r1 ?_ (r2 0 1 Rn) (z2 Sn) Sn
 refine mC h fun u1 h2 h=>mB h fun q3 h=>?_
 refine Ar F97_r2 ?_ (r3 1 0 5 Rn) (z3 Sn) Sn
 refine mC h fun u4 h5 h=>mB h fun q6 h=>?_
 refine Aq (Ar F97_r3 ?_ (r4 5 0 1 6 Rn) (z4 Sn) Sn)
 refine Ac h rfl (fun h=>?_) (fun h=>?_)
 ·refine Aq (Ar F97_r4 ?_ (r1 6 Rn) (z1 Sn) Sn)
  refine Ac h rfl (fun h=>?_) (fun h=>?_)
  ·refine Ar F97_r5 ?_ Rn Sn Sn
   refine AWP.ret ?_
   exact h
  ·refine AWP.skip (Ar F97_r6 ?_ Rn Sn Sn)
   refine AWP.ret ?_
   exact h
 ·refine AWP.skip (Aq (Ar F97_r7 ?_ (r3 6 0 1 Rn) (z3 Sn) Sn))
  refine Ac h rfl (fun h=>?_) (fun h=>?_)
  ·refine Ar F97_r8 ?_ Rn Sn Sn
   refine AWP.ret ?_
   exact h
  ·refine AWP.skip (Aq (Ar F97_r9 ?_ (r2 0 1 Rn) (z2 Sn) Sn))
   refine Ac h rfl (fun h=>?_) (fun h=>?_)
   ·refine Ar F97_r10 ?_ Rn Sn Sn
    refine AWP.ret ?_
    exact h
   ·refine AWP.skip (Aq (Ar F97_r11 ?_ (r2 0 1 Rn) (z2 Sn) Sn))
    refine Ac h rfl (fun h=>?_) (fun h=>?_)
    ·refine Ar F97_r12 ?_ Rn Sn Sn
     refine AWP.ret ?_
     exact h
    ·refine AWP.skip (Ar F97_r13 ?_ Rn Sn Sn)
     refine AWP.ret ?_
     exact h
end
section
variable {e:Env} {x0:Int} {hp:HP} {K:Env→PV→HP→Prop}
abbrev R131 (p n:Nat):=RW Try.prog 6 [] (opsAt Try.f131 (pth p)) (List.range n)
theorem F131_r0:R131 2 1 e V0 hp K=
 K (upd e 2 (sB false)) V0 hp:= by kernel_rfl
theorem F131_r1:R131 5 4 (upd e 0 (sI x0)) V0 hp K=
 K (w5 e 0 (sI x0) 3 (sI x0) 4 (sI x0) 5 (sB ((x0 != x0))) 2 (sB ((x0 != x0)))) V0 hp:= by kernel_rfl
def F131 (x0:Int) (hp:HP) (K:Kh):Prop:=
  (K (.bool (x0 != x0)) hp)
noncomputable def F131_code:Code:=(.seq (.region 0 (opsAt Try.f131 (pth 2)) false) (.seq (.region 1 (opsAt Try.f131 (pth 5)) false) .ret))
theorem F131_body:Try.f131.body=some F131_code:=by kernel_rfl
theorem F131_ok (x0:Int) (hp:HP) (K:Kh) (h:F131 x0 hp K):CF Try.prog 131 [(.int .i64 x0)] hp K:=by
 refine .inl ⟨by kernel_rfl,AC.intro (N:=6) Try.func131 F131_body rfl (Nat.le_of_ble_eq_true rfl) ?_⟩
 unfold F131 at h
 refine Ar F131_r0 ?_ (r1 0 Rn) (z1 Sn) Sn
 refine Ar F131_r1 ?_ (r1 0 Rn) (z1 Sn) Sn
 refine AWP.ret ?_
 exact h
end
end Go.Proofs
