/- Parts of the proof of BibPlaysProof: the logic of what is known of memory, functions' contracts. -/
import Derived.Test.YtpkhoemonibajaaGreatDoorQBibPlaysProofB
import Derived.Test.YtpkhoemonibajaaGreatDoorHlCW
import Derived.Test.YtpkhoemonibajaaGreatDoorProg
import Derived.Sort.LotB
import Derived.Sort.LotC
import Derived.Sort.LotA
import Derived.Test.YtpkhoemonibajaaGreatDoorHlUse2
import Derived.Sort.LotD1
import Derived.Sort.LotD3
set_option linter.unusedVariables false
set_option linter.unusedSimpArgs false
set_option linter.unusedVariables false
set_option maxRecDepth 20000
namespace Go.Proofs
open Go Go.HL
def F157_l3 (x0a:OA) (x0n x0c:Nat) (x3:Value) (x8 x9:Int) (K:Kh) (I3:(Int)→HP→Prop) (x12:Int) (hp:HP):Prop:=
  (ite2 (decide ((x12:Int)≥0)) ((0≤((IntKind.wrap .i64 (x8+x12)):Int))∧(((IntKind.wrap .i64 (x8+x12)):Int)<(x0n:Nat))∧(ptrN x0a fun b_1 o_2=>(ldL (HP.cellN hp b_1 (o_2+Int.toNat (IntKind.wrap .i64 (x8+x12))*26) 26) fun l_3=>((0≤(x8:Int))∧((x8:Int)<(x0n:Nat))∧(ptrN x0a fun b_4 o_5=>(ldL (HP.cellN hp b_4 (o_5+Int.toNat x8*26) 26) fun l_6=>((0≤(x8:Int))∧((x8:Int)<(x0n:Nat))∧(ptrN x0a fun b_7 o_8=>((List.length l_3=26)∧(HP.stN hp b_7 (o_8+Int.toNat x8*26) l_3 fun h_9=>((0≤((IntKind.wrap .i64 (x8+x12)):Int))∧(((IntKind.wrap .i64 (x8+x12)):Int)<(x0n:Nat))∧(ptrN x0a fun b_10 o_11=>((List.length l_6=26)∧(HP.stN h_9 b_10 (o_11+Int.toNat (IntKind.wrap .i64 (x8+x12))*26) l_6 fun h_12=>(CF Tryz.prog 172 [(Value.slice x0a x0n x0c),(Value.int .i64 x9),(Value.int .i64 x12),(Value.int .i64 x8),x3] h_12 fun u_13 h_14=>(I3 (IntKind.wrap .i64 (x12-1)) h_14)))))))))))))))) (K (.tuple ⟨[]⟩) hp))
def F157_j2 (x0a:OA) (x0n x0c:Nat) (x3:Value) (x8 x9 x12:Int) (hp:HP) (K:Kh):Prop:=
  (LoopP (σ:=Int) (fun I s hp=>F157_l3 x0a x0n x0c x3 x8 x9  K I s hp) x12 hp)
def F157_j1 (x0a:OA) (x0n x0c:Nat) (x3:Value) (x8 x9 x10:Int) (hp:HP) (K:Kh):Prop:=
  (F157_j2 x0a x0n x0c x3 x8 x9 (IntKind.wrap .i64 (x10-1)) hp  K)
def F157_l5 (x0a:OA) (x0n x0c:Nat) (x3:Value) (x8 x9 x10:Int) (K:Kh) (I5:(Int)→HP→Prop) (x11:Int) (hp:HP):Prop:=
  (ite2 (decide ((x11:Int)≥0)) (CF Tryz.prog 172 [(Value.slice x0a x0n x0c),(Value.int .i64 x11),(Value.int .i64 x10),(Value.int .i64 x8),x3] hp fun u_15 h_16=>(I5 (IntKind.wrap .i64 (x11-1)) h_16)) (F157_j1 x0a x0n x0c x3 x8 x9 x10 hp  K))
def F157_j4 (x0a:OA) (x0n x0c:Nat) (x3:Value) (x8 x9 x10 x11:Int) (hp:HP) (K:Kh):Prop:=
  (LoopP (σ:=Int) (fun I s hp=>F157_l5 x0a x0n x0c x3 x8 x9 x10  K I s hp) x11 hp)
def F157 (x0a:OA) (x0n x0c:Nat) (x1 x2:Int) (x3:Value) (hp:HP) (K:Kh):Prop:=
  (((2:Int)≠0)∧(F157_j4 x0a x0n x0c x3 x1 0 (IntKind.wrap .i64 (x2-x1)) (IntKind.wrap .i64 (Int.tdiv (IntKind.wrap .i64 ((IntKind.wrap .i64 (x2-x1))-1)) 2)) hp  K))
theorem F157_ok (x0a:OA) (x0n x0c:Nat) (x1 x2:Int) (x3:Value) (hp:HP) (K:Kh) (h:F157 x0a x0n x0c x1 x2 x3 hp K):CF Tryz.prog 157 [(Value.slice x0a x0n x0c),(Value.int .i64 x1),(Value.int .i64 x2),x3] hp K:=
  have L:∀ {Q} n,Snd Tryz.prog 60 (cAt Tryz.f157 (pth n)) Q (CW Tryz.prog 60 [] [] (cAt Tryz.f157 (pth n)) Q):=fun _=>Snd.leaf
  okF h Tryz.func157 (Snd.seq (L 2) (Snd.seq (L 5) (Snd.seq (L 11) (Snd.jn [(0,.s),(3,.w),(8,.i .i64),(9,.i .i64),(10,.i .i64)] (fun a hp=>F157_j1 a.1 a.2.1 a.2.2.1 a.2.2.2.1 a.2.2.2.2.1 a.2.2.2.2.2.1 a.2.2.2.2.2.2.1 hp  K) (Snd.jn [(0,.s),(3,.w),(8,.i .i64),(9,.i .i64),(10,.i .i64),(11,.i .i64)] (fun a hp=>F157_j4 a.1 a.2.1 a.2.2.1 a.2.2.2.1 a.2.2.2.2.1 a.2.2.2.2.2.1 a.2.2.2.2.2.2.1 a.2.2.2.2.2.2.2.1 hp  K) (L 39) (Snd.block 0 (Snd.lp (σ:=Int) [(0,.s),(3,.w),(8,.i .i64),(9,.i .i64),(10,.i .i64),(11,.i .i64)] (fun a=>a.2.2.2.2.2.2.2.1) (fun a s=>(a.1,a.2.1,a.2.2.1,a.2.2.2.1,a.2.2.2.2.1,a.2.2.2.2.2.1,a.2.2.2.2.2.2.1,s,())) (fun a I s hp=>F157_l5 a.1 a.2.1 a.2.2.1 a.2.2.2.1 a.2.2.2.2.1 a.2.2.2.2.2.1 a.2.2.2.2.2.2.1  K I s hp) (fun I5=>(L 151)) (by rfl) (by kernel_rfl) (by kernel_rfl))) (by rfl) (by kernel_rfl)) (Snd.jn [(0,.s),(3,.w),(8,.i .i64),(9,.i .i64),(12,.i .i64)] (fun a hp=>F157_j2 a.1 a.2.1 a.2.2.1 a.2.2.2.1 a.2.2.2.2.1 a.2.2.2.2.2.1 a.2.2.2.2.2.2.1 hp  K) (L 47) (Snd.block 2 (Snd.lp (σ:=Int) [(0,.s),(3,.w),(8,.i .i64),(9,.i .i64),(12,.i .i64)] (fun a=>a.2.2.2.2.2.2.1) (fun a s=>(a.1,a.2.1,a.2.2.1,a.2.2.2.1,a.2.2.2.2.1,a.2.2.2.2.2.1,s,())) (fun a I s hp=>F157_l3 a.1 a.2.1 a.2.2.1 a.2.2.2.1 a.2.2.2.2.1 a.2.2.2.2.2.1  K I s hp) (fun I3=>(L 159)) (by rfl) (by kernel_rfl) (by kernel_rfl))) (by rfl) (by kernel_rfl)) (by rfl) (by kernel_rfl))))) (by kernel_rfl) (by kernel_rfl) (by kernel_rfl)
def F160_l2 (x0a:OA) (x0n x0c:Nat) (K:Kh) (I2:(Int × Int)→HP→Prop) (x8 x9:Int) (hp:HP):Prop:=
  (ite2 (decide ((x8:Int)<x9)) ((0≤(x9:Int))∧((x9:Int)<(x0n:Nat))∧(ptrN x0a fun b_1 o_2=>(ldL (HP.cellN hp b_1 (o_2+Int.toNat x9*26) 26) fun l_3=>((0≤(x8:Int))∧((x8:Int)<(x0n:Nat))∧(ptrN x0a fun b_4 o_5=>(ldL (HP.cellN hp b_4 (o_5+Int.toNat x8*26) 26) fun l_6=>((0≤(x8:Int))∧((x8:Int)<(x0n:Nat))∧(ptrN x0a fun b_7 o_8=>((List.length l_3=26)∧(HP.stN hp b_7 (o_8+Int.toNat x8*26) l_3 fun h_9=>((0≤(x9:Int))∧((x9:Int)<(x0n:Nat))∧(ptrN x0a fun b_10 o_11=>((List.length l_6=26)∧(HP.stN h_9 b_10 (o_11+Int.toNat x9*26) l_6 fun h_12=>(I2 ((IntKind.wrap .i64 (x8+1)),(IntKind.wrap .i64 (x9-1))) h_12))))))))))))))) (K (.tuple ⟨[]⟩) hp))
def F160_j1 (x0a:OA) (x0n x0c:Nat) (x8 x9:Int) (hp:HP) (K:Kh):Prop:=
  (LoopP (σ:=Int × Int) (fun I s hp=>F160_l2 x0a x0n x0c  K I s.1 s.2 hp) (x8,x9) hp)
def F160 (x0a:OA) (x0n x0c:Nat) (x1 x2:Int) (x3:Value) (hp:HP) (K:Kh):Prop:=
  (F160_j1 x0a x0n x0c x1 (IntKind.wrap .i64 (x2-1)) hp  K)
theorem F160_ok (x0a:OA) (x0n x0c:Nat) (x1 x2:Int) (x3:Value) (hp:HP) (K:Kh) (h:F160 x0a x0n x0c x1 x2 x3 hp K):CF Tryz.prog 160 [(Value.slice x0a x0n x0c),(Value.int .i64 x1),(Value.int .i64 x2),x3] hp K:=
  have L:∀ {Q} n,Snd Tryz.prog 34 (cAt Tryz.f160 (pth n)) Q (CW Tryz.prog 34 [] [] (cAt Tryz.f160 (pth n)) Q):=fun _=>Snd.leaf
  okF h Tryz.func160 (Snd.seq (L 2) (Snd.jn [(0,.s),(8,.i .i64),(9,.i .i64)] (fun a hp=>F160_j1 a.1 a.2.1 a.2.2.1 a.2.2.2.1 a.2.2.2.2.1 hp  K) (L 5) (Snd.block 0 (Snd.lp (σ:=Int × Int) [(0,.s),(8,.i .i64),(9,.i .i64)] (fun a=>(a.2.2.2.1,a.2.2.2.2.1)) (fun a s=>(a.1,a.2.1,a.2.2.1,s.1,s.2,())) (fun a I s hp=>F160_l2 a.1 a.2.1 a.2.2.1  K I s.1 s.2 hp) (fun I2=>(L 19)) (by rfl) (by kernel_rfl) (by kernel_rfl))) (by rfl) (by kernel_rfl))) (by kernel_rfl) (by kernel_rfl) (by kernel_rfl)
def F161_j4 (x0a:OA) (x0n x0c:Nat) (x1 x2:Int) (x3:Value) (x9 x10:Int) (hp:HP) (I2:(Int × Int)→HP→Prop) (K:Kh):Prop:=
  (I2 (x9,(IntKind.wrap .i64 (x10+1))) hp)
def F161_l8 (x0a:OA) (x0n x0c:Nat) (x1 x2:Int) (x3:Value) (x9 x10:Int) (I2:(Int × Int)→HP→Prop) (K:Kh) (I8:(Int)→HP→Prop) (x12:Int) (hp:HP):Prop:=
  (ite2 (decide ((x12:Int)<x2)) ((0≤(x12:Int))∧((x12:Int)<(x0n:Nat))∧(ptrN x0a fun b_13 o_14=>(ldL (HP.cellN hp b_13 (o_14+Int.toNat x12*26) 26) fun l_15=>((0≤((IntKind.wrap .i64 (x12-1)):Int))∧(((IntKind.wrap .i64 (x12-1)):Int)<(x0n:Nat))∧(ptrN x0a fun b_16 o_17=>(ldL (HP.cellN hp b_16 (o_17+Int.toNat (IntKind.wrap .i64 (x12-1))*26) 26) fun l_18=>(fnV x3 fun f_19 ga_20 gb_21=>(CF Tryz.prog f_19 (ga_20++[(Value.agg ⟨l_15⟩),(Value.agg ⟨l_18⟩)]++gb_21) hp fun u_22 h_23=>(intV u_22 .i64 fun i_24=>(ite2 (!(decide ((i_24:Int)<0))) (F161_j4 x0a x0n x0c x1 x2 x3 x9 x10 h_23 I2 K) ((0≤((IntKind.wrap .i64 (x12-1)):Int))∧(((IntKind.wrap .i64 (x12-1)):Int)<(x0n:Nat))∧(ptrN x0a fun b_25 o_26=>(ldL (HP.cellN h_23 b_25 (o_26+Int.toNat (IntKind.wrap .i64 (x12-1))*26) 26) fun l_27=>((0≤(x12:Int))∧((x12:Int)<(x0n:Nat))∧(ptrN x0a fun b_28 o_29=>(ldL (HP.cellN h_23 b_28 (o_29+Int.toNat x12*26) 26) fun l_30=>((0≤(x12:Int))∧((x12:Int)<(x0n:Nat))∧(ptrN x0a fun b_31 o_32=>((List.length l_27=26)∧(HP.stN h_23 b_31 (o_32+Int.toNat x12*26) l_27 fun h_33=>((0≤((IntKind.wrap .i64 (x12-1)):Int))∧(((IntKind.wrap .i64 (x12-1)):Int)<(x0n:Nat))∧(ptrN x0a fun b_34 o_35=>((List.length l_30=26)∧(HP.stN h_33 b_34 (o_35+Int.toNat (IntKind.wrap .i64 (x12-1))*26) l_30 fun h_36=>(I8 (IntKind.wrap .i64 (x12+1)) h_36))))))))))))))))))))))))) (F161_j4 x0a x0n x0c x1 x2 x3 x9 x10 hp I2 K))
def F161_j7 (x0a:OA) (x0n x0c:Nat) (x1 x2:Int) (x3:Value) (x9 x10 x12:Int) (hp:HP) (I2:(Int × Int)→HP→Prop) (K:Kh):Prop:=
  (LoopP (σ:=Int) (fun I s hp=>F161_l8 x0a x0n x0c x1 x2 x3 x9 x10 I2 K I s hp) x12 hp)
def F161_j6 (x0a:OA) (x0n x0c:Nat) (x1 x2:Int) (x3:Value) (x9 x10:Int) (hp:HP) (I2:(Int × Int)→HP→Prop) (K:Kh):Prop:=
  (ite2 (decide (((IntKind.wrap .i64 (x2-x9)):Int)≥2)) (F161_j7 x0a x0n x0c x1 x2 x3 x9 x10 (IntKind.wrap .i64 (x9+1)) hp I2 K) (F161_j4 x0a x0n x0c x1 x2 x3 x9 x10 hp I2 K))
def F161_l10 (x0a:OA) (x0n x0c:Nat) (x1 x2:Int) (x3:Value) (x9 x10:Int) (I2:(Int × Int)→HP→Prop) (K:Kh) (I10:(Int)→HP→Prop) (x11:Int) (hp:HP):Prop:=
  (ite2 (decide ((x11:Int)≥1)) ((0≤(x11:Int))∧((x11:Int)<(x0n:Nat))∧(ptrN x0a fun b_37 o_38=>(ldL (HP.cellN hp b_37 (o_38+Int.toNat x11*26) 26) fun l_39=>((0≤((IntKind.wrap .i64 (x11-1)):Int))∧(((IntKind.wrap .i64 (x11-1)):Int)<(x0n:Nat))∧(ptrN x0a fun b_40 o_41=>(ldL (HP.cellN hp b_40 (o_41+Int.toNat (IntKind.wrap .i64 (x11-1))*26) 26) fun l_42=>(fnV x3 fun f_43 ga_44 gb_45=>(CF Tryz.prog f_43 (ga_44++[(Value.agg ⟨l_39⟩),(Value.agg ⟨l_42⟩)]++gb_45) hp fun u_46 h_47=>(intV u_46 .i64 fun i_48=>(ite2 (!(decide ((i_48:Int)<0))) (F161_j6 x0a x0n x0c x1 x2 x3 x9 x10 h_47 I2 K) ((0≤((IntKind.wrap .i64 (x11-1)):Int))∧(((IntKind.wrap .i64 (x11-1)):Int)<(x0n:Nat))∧(ptrN x0a fun b_49 o_50=>(ldL (HP.cellN h_47 b_49 (o_50+Int.toNat (IntKind.wrap .i64 (x11-1))*26) 26) fun l_51=>((0≤(x11:Int))∧((x11:Int)<(x0n:Nat))∧(ptrN x0a fun b_52 o_53=>(ldL (HP.cellN h_47 b_52 (o_53+Int.toNat x11*26) 26) fun l_54=>((0≤(x11:Int))∧((x11:Int)<(x0n:Nat))∧(ptrN x0a fun b_55 o_56=>((List.length l_51=26)∧(HP.stN h_47 b_55 (o_56+Int.toNat x11*26) l_51 fun h_57=>((0≤((IntKind.wrap .i64 (x11-1)):Int))∧(((IntKind.wrap .i64 (x11-1)):Int)<(x0n:Nat))∧(ptrN x0a fun b_58 o_59=>((List.length l_54=26)∧(HP.stN h_57 b_58 (o_59+Int.toNat (IntKind.wrap .i64 (x11-1))*26) l_54 fun h_60=>(I10 (IntKind.wrap .i64 (x11-1)) h_60))))))))))))))))))))))))) (F161_j6 x0a x0n x0c x1 x2 x3 x9 x10 hp I2 K))
def F161_j9 (x0a:OA) (x0n x0c:Nat) (x1 x2:Int) (x3:Value) (x9 x10 x11:Int) (hp:HP) (I2:(Int × Int)→HP→Prop) (K:Kh):Prop:=
  (LoopP (σ:=Int) (fun I s hp=>F161_l10 x0a x0n x0c x1 x2 x3 x9 x10 I2 K I s hp) x11 hp)
def F161_j5 (x0a:OA) (x0n x0c:Nat) (x1 x2:Int) (x3:Value) (x9 x10:Int) (hp:HP) (I2:(Int × Int)→HP→Prop) (K:Kh):Prop:=
  (ite2 ((x9:Int)==x2) (K (Value.bool true) hp) (ite2 (decide (((IntKind.wrap .i64 (x2-x1)):Int)<50)) (K (Value.bool false) hp) ((0≤((IntKind.wrap .i64 (x9-1)):Int))∧(((IntKind.wrap .i64 (x9-1)):Int)<(x0n:Nat))∧(ptrN x0a fun b_1 o_2=>(ldL (HP.cellN hp b_1 (o_2+Int.toNat (IntKind.wrap .i64 (x9-1))*26) 26) fun l_3=>((0≤(x9:Int))∧((x9:Int)<(x0n:Nat))∧(ptrN x0a fun b_4 o_5=>(ldL (HP.cellN hp b_4 (o_5+Int.toNat x9*26) 26) fun l_6=>((0≤(x9:Int))∧((x9:Int)<(x0n:Nat))∧(ptrN x0a fun b_7 o_8=>((List.length l_3=26)∧(HP.stN hp b_7 (o_8+Int.toNat x9*26) l_3 fun h_9=>((0≤((IntKind.wrap .i64 (x9-1)):Int))∧(((IntKind.wrap .i64 (x9-1)):Int)<(x0n:Nat))∧(ptrN x0a fun b_10 o_11=>((List.length l_6=26)∧(HP.stN h_9 b_10 (o_11+Int.toNat (IntKind.wrap .i64 (x9-1))*26) l_6 fun h_12=>(ite2 (decide (((IntKind.wrap .i64 (x9-x1)):Int)≥2)) (F161_j9 x0a x0n x0c x1 x2 x3 x9 x10 (IntKind.wrap .i64 (x9-1)) h_12 I2 K) (F161_j6 x0a x0n x0c x1 x2 x3 x9 x10 h_12 I2 K))))))))))))))))))
def F161_j12 (x0a:OA) (x0n x0c:Nat) (x1 x2:Int) (x3:Value) (x9 x10:Int) (x36:Bool) (hp:HP) (I2:(Int × Int)→HP→Prop) (I11:(Int)→HP→Prop) (K:Kh):Prop:=
  (ite2 x36 (I11 (IntKind.wrap .i64 (x9+1)) hp) (F161_j5 x0a x0n x0c x1 x2 x3 x9 x10 hp I2 K))
def F161_l11 (x0a:OA) (x0n x0c:Nat) (x1 x2:Int) (x3:Value) (x10:Int) (I2:(Int × Int)→HP→Prop) (K:Kh) (I11:(Int)→HP→Prop) (x9:Int) (hp:HP):Prop:=
  (ite2 (decide ((x9:Int)<x2)) ((0≤(x9:Int))∧((x9:Int)<(x0n:Nat))∧(ptrN x0a fun b_61 o_62=>(ldL (HP.cellN hp b_61 (o_62+Int.toNat x9*26) 26) fun l_63=>((0≤((IntKind.wrap .i64 (x9-1)):Int))∧(((IntKind.wrap .i64 (x9-1)):Int)<(x0n:Nat))∧(ptrN x0a fun b_64 o_65=>(ldL (HP.cellN hp b_64 (o_65+Int.toNat (IntKind.wrap .i64 (x9-1))*26) 26) fun l_66=>(fnV x3 fun f_67 ga_68 gb_69=>(CF Tryz.prog f_67 (ga_68++[(Value.agg ⟨l_63⟩),(Value.agg ⟨l_66⟩)]++gb_69) hp fun u_70 h_71=>(intV u_70 .i64 fun i_72=>(F161_j12 x0a x0n x0c x1 x2 x3 x9 x10 (!(decide ((i_72:Int)<0))) h_71 I2 I11 K)))))))))) (F161_j12 x0a x0n x0c x1 x2 x3 x9 x10 false hp I2 I11 K))
def F161_j3 (x0a:OA) (x0n x0c:Nat) (x1 x2:Int) (x3:Value) (x9 x10:Int) (hp:HP) (I2:(Int × Int)→HP→Prop) (K:Kh):Prop:=
  (LoopP (σ:=Int) (fun I s hp=>F161_l11 x0a x0n x0c x1 x2 x3 x10 I2 K I s hp) x9 hp)
def F161_l2 (x0a:OA) (x0n x0c:Nat) (x1 x2:Int) (x3:Value) (K:Kh) (I2:(Int × Int)→HP→Prop) (x9 x10:Int) (hp:HP):Prop:=
  (ite2 (decide ((x10:Int)<5)) (F161_j3 x0a x0n x0c x1 x2 x3 x9 x10 hp I2 K) (K (Value.bool false) hp))
def F161_j1 (x0a:OA) (x0n x0c:Nat) (x1 x2:Int) (x3:Value) (x9 x10:Int) (hp:HP) (K:Kh):Prop:=
  (LoopP (σ:=Int × Int) (fun I s hp=>F161_l2 x0a x0n x0c x1 x2 x3  K I s.1 s.2 hp) (x9,x10) hp)
def F161 (x0a:OA) (x0n x0c:Nat) (x1 x2:Int) (x3:Value) (hp:HP) (K:Kh):Prop:=
  (F161_j1 x0a x0n x0c x1 x2 x3 (IntKind.wrap .i64 (x1+1)) 0 hp  K)
theorem F161_ok (x0a:OA) (x0n x0c:Nat) (x1 x2:Int) (x3:Value) (hp:HP) (K:Kh) (h:F161 x0a x0n x0c x1 x2 x3 hp K):CF Tryz.prog 161 [(Value.slice x0a x0n x0c),(Value.int .i64 x1),(Value.int .i64 x2),x3] hp K:=
  have L:∀ {Q} n,Snd Tryz.prog 141 (cAt Tryz.f161 (pth n)) Q (CW Tryz.prog 141 [] [] (cAt Tryz.f161 (pth n)) Q):=fun _=>Snd.leaf
  okF h Tryz.func161 (Snd.seq (L 2) (Snd.seq (L 5) (Snd.seq (Snd.jn [(0,.s),(1,.i .i64),(2,.i .i64),(3,.w),(9,.i .i64),(10,.i .i64)] (fun a hp=>F161_j1 a.1 a.2.1 a.2.2.1 a.2.2.2.1 a.2.2.2.2.1 a.2.2.2.2.2.1 a.2.2.2.2.2.2.1 a.2.2.2.2.2.2.2.1 hp  K) (L 19) (Snd.block 0 (Snd.lp (σ:=Int × Int) [(0,.s),(1,.i .i64),(2,.i .i64),(3,.w),(9,.i .i64),(10,.i .i64)] (fun a=>(a.2.2.2.2.2.2.1,a.2.2.2.2.2.2.2.1)) (fun a s=>(a.1,a.2.1,a.2.2.1,a.2.2.2.1,a.2.2.2.2.1,a.2.2.2.2.2.1,s.1,s.2,())) (fun a I s hp=>F161_l2 a.1 a.2.1 a.2.2.1 a.2.2.2.1 a.2.2.2.2.1 a.2.2.2.2.2.1  K I s.1 s.2 hp) (fun I2=>(Snd.jn [(0,.s),(1,.i .i64),(2,.i .i64),(3,.w),(9,.i .i64),(10,.i .i64)] (fun a hp=>F161_j3 a.1 a.2.1 a.2.2.1 a.2.2.2.1 a.2.2.2.2.1 a.2.2.2.2.2.1 a.2.2.2.2.2.2.1 a.2.2.2.2.2.2.2.1 hp (fun s hp=>I2 (a.1,a.2.1,a.2.2.1,a.2.2.2.1,a.2.2.2.2.1,a.2.2.2.2.2.1,s.1,s.2,()) hp) K) (L 139) (Snd.jn [(0,.s),(1,.i .i64),(2,.i .i64),(3,.w),(9,.i .i64),(10,.i .i64)] (fun a hp=>F161_j4 a.1 a.2.1 a.2.2.1 a.2.2.2.1 a.2.2.2.2.1 a.2.2.2.2.2.1 a.2.2.2.2.2.2.1 a.2.2.2.2.2.2.2.1 hp (fun s hp=>I2 (a.1,a.2.1,a.2.2.1,a.2.2.2.1,a.2.2.2.2.1,a.2.2.2.2.2.1,s.1,s.2,()) hp) K) (Snd.block 1 (Snd.jn [(0,.s),(1,.i .i64),(2,.i .i64),(3,.w),(9,.i .i64),(10,.i .i64)] (fun a hp=>F161_j5 a.1 a.2.1 a.2.2.1 a.2.2.2.1 a.2.2.2.2.1 a.2.2.2.2.2.1 a.2.2.2.2.2.2.1 a.2.2.2.2.2.2.2.1 hp (fun s hp=>I2 (a.1,a.2.1,a.2.2.1,a.2.2.2.1,a.2.2.2.2.1,a.2.2.2.2.2.1,s.1,s.2,()) hp) K) (Snd.block 2 (Snd.lp (σ:=Int) [(0,.s),(1,.i .i64),(2,.i .i64),(3,.w),(9,.i .i64),(10,.i .i64)] (fun a=>a.2.2.2.2.2.2.1) (fun a s=>(a.1,a.2.1,a.2.2.1,a.2.2.2.1,a.2.2.2.2.1,a.2.2.2.2.2.1,s,a.2.2.2.2.2.2.2.1,())) (fun a I s hp=>F161_l11 a.1 a.2.1 a.2.2.1 a.2.2.2.1 a.2.2.2.2.1 a.2.2.2.2.2.1 a.2.2.2.2.2.2.2.1 (fun s hp=>I2 (a.1,a.2.1,a.2.2.1,a.2.2.2.1,a.2.2.2.2.1,a.2.2.2.2.2.1,s.1,s.2,()) hp) K I s hp) (fun I11=>(Snd.seq (Snd.jn [(0,.s),(1,.i .i64),(2,.i .i64),(3,.w),(9,.i .i64),(10,.i .i64),(36,.b)] (fun a hp=>F161_j12 a.1 a.2.1 a.2.2.1 a.2.2.2.1 a.2.2.2.2.1 a.2.2.2.2.2.1 a.2.2.2.2.2.2.1 a.2.2.2.2.2.2.2.1 a.2.2.2.2.2.2.2.2.1 hp (fun s hp=>I2 (a.1,a.2.1,a.2.2.1,a.2.2.2.1,a.2.2.2.2.1,a.2.2.2.2.2.1,s.1,s.2,()) hp) (fun s hp=>I11 (a.1,a.2.1,a.2.2.1,a.2.2.2.1,a.2.2.2.2.1,a.2.2.2.2.2.1,s,a.2.2.2.2.2.2.2.1,()) hp) K) (L 16459) (L 24651) (by rfl) (by kernel_rfl)) (L 12363))) (by rfl) (by kernel_rfl) (by kernel_rfl))) (Snd.seq (L 2635) (Snd.seq (L 5707) (Snd.seq (L 11851) (Snd.jn [(0,.s),(1,.i .i64),(2,.i .i64),(3,.w),(9,.i .i64),(10,.i .i64)] (fun a hp=>F161_j6 a.1 a.2.1 a.2.2.1 a.2.2.2.1 a.2.2.2.2.1 a.2.2.2.2.2.1 a.2.2.2.2.2.2.1 a.2.2.2.2.2.2.2.1 hp (fun s hp=>I2 (a.1,a.2.1,a.2.2.1,a.2.2.2.1,a.2.2.2.2.1,a.2.2.2.2.2.1,s.1,s.2,()) hp) K) (Snd.seq (L 40523) (Snd.cond 65 (Snd.jn [(0,.s),(1,.i .i64),(2,.i .i64),(3,.w),(9,.i .i64),(10,.i .i64),(11,.i .i64)] (fun a hp=>F161_j9 a.1 a.2.1 a.2.2.1 a.2.2.2.1 a.2.2.2.2.1 a.2.2.2.2.2.1 a.2.2.2.2.2.2.1 a.2.2.2.2.2.2.2.1 a.2.2.2.2.2.2.2.2.1 hp (fun s hp=>I2 (a.1,a.2.1,a.2.2.1,a.2.2.2.1,a.2.2.2.2.1,a.2.2.2.2.2.1,s.1,s.2,()) hp) K) (L 155211) (Snd.block 4 (Snd.lp (σ:=Int) [(0,.s),(1,.i .i64),(2,.i .i64),(3,.w),(9,.i .i64),(10,.i .i64),(11,.i .i64)] (fun a=>a.2.2.2.2.2.2.2.2.1) (fun a s=>(a.1,a.2.1,a.2.2.1,a.2.2.2.1,a.2.2.2.2.1,a.2.2.2.2.2.1,a.2.2.2.2.2.2.1,a.2.2.2.2.2.2.2.1,s,())) (fun a I s hp=>F161_l10 a.1 a.2.1 a.2.2.1 a.2.2.2.1 a.2.2.2.2.1 a.2.2.2.2.2.1 a.2.2.2.2.2.2.1 a.2.2.2.2.2.2.2.1 (fun s hp=>I2 (a.1,a.2.1,a.2.2.1,a.2.2.2.1,a.2.2.2.2.1,a.2.2.2.2.2.1,s.1,s.2,()) hp) K I s hp) (fun I10=>(L 613963)) (by rfl) (by kernel_rfl) (by kernel_rfl))) (by rfl) (by kernel_rfl)) (L 122443))) (Snd.seq (L 48715) (Snd.cond 104 (Snd.jn [(0,.s),(1,.i .i64),(2,.i .i64),(3,.w),(9,.i .i64),(10,.i .i64),(12,.i .i64)] (fun a hp=>F161_j7 a.1 a.2.1 a.2.2.1 a.2.2.2.1 a.2.2.2.2.1 a.2.2.2.2.2.1 a.2.2.2.2.2.2.1 a.2.2.2.2.2.2.2.1 a.2.2.2.2.2.2.2.2.1 hp (fun s hp=>I2 (a.1,a.2.1,a.2.2.1,a.2.2.2.1,a.2.2.2.2.1,a.2.2.2.2.2.1,s.1,s.2,()) hp) K) (L 163403) (Snd.block 6 (Snd.lp (σ:=Int) [(0,.s),(1,.i .i64),(2,.i .i64),(3,.w),(9,.i .i64),(10,.i .i64),(12,.i .i64)] (fun a=>a.2.2.2.2.2.2.2.2.1) (fun a s=>(a.1,a.2.1,a.2.2.1,a.2.2.2.1,a.2.2.2.2.1,a.2.2.2.2.2.1,a.2.2.2.2.2.2.1,a.2.2.2.2.2.2.2.1,s,())) (fun a I s hp=>F161_l8 a.1 a.2.1 a.2.2.1 a.2.2.2.1 a.2.2.2.2.1 a.2.2.2.2.2.1 a.2.2.2.2.2.2.1 a.2.2.2.2.2.2.2.1 (fun s hp=>I2 (a.1,a.2.1,a.2.2.1,a.2.2.2.1,a.2.2.2.2.1,a.2.2.2.2.2.1,s.1,s.2,()) hp) K I s hp) (fun I8=>(L 622155)) (by rfl) (by kernel_rfl) (by kernel_rfl))) (by rfl) (by kernel_rfl)) (L 130635))) (by rfl) (by kernel_rfl))))) (by rfl) (by kernel_rfl))) (L 459) (by rfl) (by kernel_rfl)) (by rfl) (by kernel_rfl))) (by rfl) (by kernel_rfl) (by kernel_rfl))) (by rfl) (by kernel_rfl)) (L 15)))) (by kernel_rfl) (by kernel_rfl) (by kernel_rfl)
def F162_j2 (x11:Int) (hp:HP) (K:Kh):Prop:=
  (K (Value.int .i64 x11) hp)
def F162_j5 (x0a:OA) (x0n x0c:Nat) (x1:Int) (x4:Value) (x11 x12:Int) (hp:HP) (I3:(Int × Int)→HP→Prop) (K:Kh):Prop:=
  (ite2 (decide ((x11:Int) > x12)) (F162_j2 x11 hp  K) ((0≤(x12:Int))∧((x12:Int)<(x0n:Nat))∧(ptrN x0a fun b_13 o_14=>(ldL (HP.cellN hp b_13 (o_14+Int.toNat x12*26) 26) fun l_15=>((0≤(x11:Int))∧((x11:Int)<(x0n:Nat))∧(ptrN x0a fun b_16 o_17=>(ldL (HP.cellN hp b_16 (o_17+Int.toNat x11*26) 26) fun l_18=>((0≤(x11:Int))∧((x11:Int)<(x0n:Nat))∧(ptrN x0a fun b_19 o_20=>((List.length l_15=26)∧(HP.stN hp b_19 (o_20+Int.toNat x11*26) l_15 fun h_21=>((0≤(x12:Int))∧((x12:Int)<(x0n:Nat))∧(ptrN x0a fun b_22 o_23=>((List.length l_18=26)∧(HP.stN h_21 b_22 (o_23+Int.toNat x12*26) l_18 fun h_24=>(I3 ((IntKind.wrap .i64 (x11+1)),(IntKind.wrap .i64 (x12-1))) h_24))))))))))))))))
def F162_j7 (x0a:OA) (x0n x0c:Nat) (x1:Int) (x4:Value) (x11 x12:Int) (x65:Bool) (hp:HP) (I3:(Int × Int)→HP→Prop) (I6:(Int)→HP→Prop) (K:Kh):Prop:=
  (ite2 x65 (I6 (IntKind.wrap .i64 (x12-1)) hp) (F162_j5 x0a x0n x0c x1 x4 x11 x12 hp I3 K))
def F162_l6 (x0a:OA) (x0n x0c:Nat) (x1:Int) (x4:Value) (x11:Int) (I3:(Int × Int)→HP→Prop) (K:Kh) (I6:(Int)→HP→Prop) (x12:Int) (hp:HP):Prop:=
  (ite2 (decide ((x11:Int)≤x12)) ((0≤(x1:Int))∧((x1:Int)<(x0n:Nat))∧(ptrN x0a fun b_25 o_26=>(ldL (HP.cellN hp b_25 (o_26+Int.toNat x1*26) 26) fun l_27=>((0≤(x12:Int))∧((x12:Int)<(x0n:Nat))∧(ptrN x0a fun b_28 o_29=>(ldL (HP.cellN hp b_28 (o_29+Int.toNat x12*26) 26) fun l_30=>(fnV x4 fun f_31 ga_32 gb_33=>(CF Tryz.prog f_31 (ga_32++[(Value.agg ⟨l_27⟩),(Value.agg ⟨l_30⟩)]++gb_33) hp fun u_34 h_35=>(intV u_34 .i64 fun i_36=>(F162_j7 x0a x0n x0c x1 x4 x11 x12 (decide ((i_36:Int)<0)) h_35 I3 I6 K)))))))))) (F162_j7 x0a x0n x0c x1 x4 x11 x12 false hp I3 I6 K))
def F162_j4 (x0a:OA) (x0n x0c:Nat) (x1:Int) (x4:Value) (x11 x12:Int) (hp:HP) (I3:(Int × Int)→HP→Prop) (K:Kh):Prop:=
  (LoopP (σ:=Int) (fun I s hp=>F162_l6 x0a x0n x0c x1 x4 x11 I3 K I s hp) x12 hp)
def F162_j9 (x0a:OA) (x0n x0c:Nat) (x1:Int) (x4:Value) (x11 x12:Int) (x47:Bool) (hp:HP) (I3:(Int × Int)→HP→Prop) (I8:(Int)→HP→Prop) (K:Kh):Prop:=
  (ite2 x47 (I8 (IntKind.wrap .i64 (x11+1)) hp) (F162_j4 x0a x0n x0c x1 x4 x11 x12 hp I3 K))
def F162_l8 (x0a:OA) (x0n x0c:Nat) (x1:Int) (x4:Value) (x12:Int) (I3:(Int × Int)→HP→Prop) (K:Kh) (I8:(Int)→HP→Prop) (x11:Int) (hp:HP):Prop:=
  (ite2 (decide ((x11:Int)≤x12)) ((0≤(x1:Int))∧((x1:Int)<(x0n:Nat))∧(ptrN x0a fun b_37 o_38=>(ldL (HP.cellN hp b_37 (o_38+Int.toNat x1*26) 26) fun l_39=>((0≤(x11:Int))∧((x11:Int)<(x0n:Nat))∧(ptrN x0a fun b_40 o_41=>(ldL (HP.cellN hp b_40 (o_41+Int.toNat x11*26) 26) fun l_42=>(fnV x4 fun f_43 ga_44 gb_45=>(CF Tryz.prog f_43 (ga_44++[(Value.agg ⟨l_39⟩),(Value.agg ⟨l_42⟩)]++gb_45) hp fun u_46 h_47=>(intV u_46 .i64 fun i_48=>(F162_j9 x0a x0n x0c x1 x4 x11 x12 (!(decide ((i_48:Int)<0))) h_47 I3 I8 K)))))))))) (F162_j9 x0a x0n x0c x1 x4 x11 x12 false hp I3 I8 K))
def F162_l3 (x0a:OA) (x0n x0c:Nat) (x1:Int) (x4:Value) (K:Kh) (I3:(Int × Int)→HP→Prop) (x11 x12:Int) (hp:HP):Prop:=
  (LoopP (σ:=Int) (fun I s hp=>F162_l8 x0a x0n x0c x1 x4 x12 I3 K I s hp) x11 hp)
def F162_j1 (x0a:OA) (x0n x0c:Nat) (x1:Int) (x4:Value) (x11 x12:Int) (hp:HP) (K:Kh):Prop:=
  (LoopP (σ:=Int × Int) (fun I s hp=>F162_l3 x0a x0n x0c x1 x4  K I s.1 s.2 hp) (x11,x12) hp)
def F162 (x0a:OA) (x0n x0c:Nat) (x1 x2 x3:Int) (x4:Value) (hp:HP) (K:Kh):Prop:=
  ((0≤(x3:Int))∧((x3:Int)<(x0n:Nat))∧(ptrN x0a fun b_1 o_2=>(ldL (HP.cellN hp b_1 (o_2+Int.toNat x3*26) 26) fun l_3=>((0≤(x1:Int))∧((x1:Int)<(x0n:Nat))∧(ptrN x0a fun b_4 o_5=>(ldL (HP.cellN hp b_4 (o_5+Int.toNat x1*26) 26) fun l_6=>((0≤(x1:Int))∧((x1:Int)<(x0n:Nat))∧(ptrN x0a fun b_7 o_8=>((List.length l_3=26)∧(HP.stN hp b_7 (o_8+Int.toNat x1*26) l_3 fun h_9=>((0≤(x3:Int))∧((x3:Int)<(x0n:Nat))∧(ptrN x0a fun b_10 o_11=>((List.length l_6=26)∧(HP.stN h_9 b_10 (o_11+Int.toNat x3*26) l_6 fun h_12=>(F162_j1 x0a x0n x0c x1 x4 (IntKind.wrap .i64 (x1+1)) (IntKind.wrap .i64 (x2-1)) h_12  K)))))))))))))))
theorem F162_ok (x0a:OA) (x0n x0c:Nat) (x1 x2 x3:Int) (x4:Value) (hp:HP) (K:Kh) (h:F162 x0a x0n x0c x1 x2 x3 x4 hp K):CF Tryz.prog 162 [(Value.slice x0a x0n x0c),(Value.int .i64 x1),(Value.int .i64 x2),(Value.int .i64 x3),x4] hp K:=
  have L:∀ {Q} n,Snd Tryz.prog 90 (cAt Tryz.f162 (pth n)) Q (CW Tryz.prog 90 [] [] (cAt Tryz.f162 (pth n)) Q):=fun _=>Snd.leaf
  okF h Tryz.func162 (Snd.seq (L 2) (Snd.seq (L 5) (Snd.jn [(0,.s),(1,.i .i64),(4,.w),(11,.i .i64),(12,.i .i64)] (fun a hp=>F162_j1 a.1 a.2.1 a.2.2.1 a.2.2.2.1 a.2.2.2.2.1 a.2.2.2.2.2.1 a.2.2.2.2.2.2.1 hp  K) (L 11) (Snd.jn [(11,.i .i64)] (fun a hp=>F162_j2 a.1 hp  K) (Snd.block 0 (Snd.lp (σ:=Int × Int) [(0,.s),(1,.i .i64),(4,.w),(11,.i .i64),(12,.i .i64)] (fun a=>(a.2.2.2.2.2.1,a.2.2.2.2.2.2.1)) (fun a s=>(a.1,a.2.1,a.2.2.1,a.2.2.2.1,a.2.2.2.2.1,s.1,s.2,())) (fun a I s hp=>F162_l3 a.1 a.2.1 a.2.2.1 a.2.2.2.1 a.2.2.2.2.1  K I s.1 s.2 hp) (fun I3=>(Snd.block 1 (Snd.jn [(0,.s),(1,.i .i64),(4,.w),(11,.i .i64),(12,.i .i64)] (fun a hp=>F162_j4 a.1 a.2.1 a.2.2.1 a.2.2.2.1 a.2.2.2.2.1 a.2.2.2.2.2.1 a.2.2.2.2.2.2.1 hp (fun s hp=>I3 (a.1,a.2.1,a.2.2.1,a.2.2.2.1,a.2.2.2.2.1,s.1,s.2,()) hp) K) (Snd.block 2 (Snd.lp (σ:=Int) [(0,.s),(1,.i .i64),(4,.w),(11,.i .i64),(12,.i .i64)] (fun a=>a.2.2.2.2.2.1) (fun a s=>(a.1,a.2.1,a.2.2.1,a.2.2.2.1,a.2.2.2.2.1,s,a.2.2.2.2.2.2.1,())) (fun a I s hp=>F162_l8 a.1 a.2.1 a.2.2.1 a.2.2.2.1 a.2.2.2.2.1 a.2.2.2.2.2.2.1 (fun s hp=>I3 (a.1,a.2.1,a.2.2.1,a.2.2.2.1,a.2.2.2.2.1,s.1,s.2,()) hp) K I s hp) (fun I8=>(Snd.seq (Snd.jn [(0,.s),(1,.i .i64),(4,.w),(11,.i .i64),(12,.i .i64),(47,.b)] (fun a hp=>F162_j9 a.1 a.2.1 a.2.2.1 a.2.2.2.1 a.2.2.2.2.1 a.2.2.2.2.2.1 a.2.2.2.2.2.2.1 a.2.2.2.2.2.2.2.1 hp (fun s hp=>I3 (a.1,a.2.1,a.2.2.1,a.2.2.2.1,a.2.2.2.2.1,s.1,s.2,()) hp) (fun s hp=>I8 (a.1,a.2.1,a.2.2.1,a.2.2.2.1,a.2.2.2.2.1,s,a.2.2.2.2.2.2.1,()) hp) K) (L 4103) (L 6151) (by rfl) (by kernel_rfl)) (L 3079))) (by rfl) (by kernel_rfl) (by kernel_rfl))) (Snd.jn [(0,.s),(1,.i .i64),(4,.w),(11,.i .i64),(12,.i .i64)] (fun a hp=>F162_j5 a.1 a.2.1 a.2.2.1 a.2.2.2.1 a.2.2.2.2.1 a.2.2.2.2.2.1 a.2.2.2.2.2.2.1 hp (fun s hp=>I3 (a.1,a.2.1,a.2.2.1,a.2.2.2.1,a.2.2.2.2.1,s.1,s.2,()) hp) K) (Snd.block 4 (Snd.lp (σ:=Int) [(0,.s),(1,.i .i64),(4,.w),(11,.i .i64),(12,.i .i64)] (fun a=>a.2.2.2.2.2.2.1) (fun a s=>(a.1,a.2.1,a.2.2.1,a.2.2.2.1,a.2.2.2.2.1,a.2.2.2.2.2.1,s,())) (fun a I s hp=>F162_l6 a.1 a.2.1 a.2.2.1 a.2.2.2.1 a.2.2.2.2.1 a.2.2.2.2.2.1 (fun s hp=>I3 (a.1,a.2.1,a.2.2.1,a.2.2.2.1,a.2.2.2.2.1,s.1,s.2,()) hp) K I s hp) (fun I6=>(Snd.seq (Snd.jn [(0,.s),(1,.i .i64),(4,.w),(11,.i .i64),(12,.i .i64),(65,.b)] (fun a hp=>F162_j7 a.1 a.2.1 a.2.2.1 a.2.2.2.1 a.2.2.2.2.1 a.2.2.2.2.2.1 a.2.2.2.2.2.2.1 a.2.2.2.2.2.2.2.1 hp (fun s hp=>I3 (a.1,a.2.1,a.2.2.1,a.2.2.2.1,a.2.2.2.2.1,s.1,s.2,()) hp) (fun s hp=>I6 (a.1,a.2.1,a.2.2.1,a.2.2.2.1,a.2.2.2.2.1,a.2.2.2.2.2.1,s,()) hp) K) (L 8327) (L 12423) (by rfl) (by kernel_rfl)) (L 6279))) (by rfl) (by kernel_rfl) (by kernel_rfl))) (L 903) (by rfl) (by kernel_rfl)) (by rfl) (by kernel_rfl)))) (by rfl) (by kernel_rfl) (by kernel_rfl))) (L 31) (by rfl) (by kernel_rfl)) (by rfl) (by kernel_rfl)))) (by kernel_rfl) (by kernel_rfl) (by kernel_rfl)
def F163_j5 (x0a:OA) (x0n x0c:Nat) (x1 x13:Int) (hp:HP) (K:Kh):Prop:=
  ((0≤(x1:Int))∧((x1:Int)<(x0n:Nat))∧(ptrN x0a fun b_37 o_38=>(ldL (HP.cellN hp b_37 (o_38+Int.toNat x1*26) 26) fun l_39=>((0≤(x13:Int))∧((x13:Int)<(x0n:Nat))∧(ptrN x0a fun b_40 o_41=>(ldL (HP.cellN hp b_40 (o_41+Int.toNat x13*26) 26) fun l_42=>((0≤(x13:Int))∧((x13:Int)<(x0n:Nat))∧(ptrN x0a fun b_43 o_44=>((List.length l_39=26)∧(HP.stN hp b_43 (o_44+Int.toNat x13*26) l_39 fun h_45=>((0≤(x1:Int))∧((x1:Int)<(x0n:Nat))∧(ptrN x0a fun b_46 o_47=>((List.length l_42=26)∧(HP.stN h_45 b_46 (o_47+Int.toNat x1*26) l_42 fun h_48=>(K (.tuple ⟨[(Value.int .i64 x13),(Value.bool false)]⟩) h_48)))))))))))))))
def F163_j8 (x0a:OA) (x0n x0c:Nat) (x1:Int) (x4:Value) (x12 x13:Int) (hp:HP) (I6:(Int × Int)→HP→Prop) (K:Kh):Prop:=
  (ite2 (decide ((x12:Int) > x13)) (F163_j5 x0a x0n x0c x1 x13 hp  K) ((0≤(x13:Int))∧((x13:Int)<(x0n:Nat))∧(ptrN x0a fun b_49 o_50=>(ldL (HP.cellN hp b_49 (o_50+Int.toNat x13*26) 26) fun l_51=>((0≤(x12:Int))∧((x12:Int)<(x0n:Nat))∧(ptrN x0a fun b_52 o_53=>(ldL (HP.cellN hp b_52 (o_53+Int.toNat x12*26) 26) fun l_54=>((0≤(x12:Int))∧((x12:Int)<(x0n:Nat))∧(ptrN x0a fun b_55 o_56=>((List.length l_51=26)∧(HP.stN hp b_55 (o_56+Int.toNat x12*26) l_51 fun h_57=>((0≤(x13:Int))∧((x13:Int)<(x0n:Nat))∧(ptrN x0a fun b_58 o_59=>((List.length l_54=26)∧(HP.stN h_57 b_58 (o_59+Int.toNat x13*26) l_54 fun h_60=>(I6 ((IntKind.wrap .i64 (x12+1)),(IntKind.wrap .i64 (x13-1))) h_60))))))))))))))))
def F163_j10 (x0a:OA) (x0n x0c:Nat) (x1:Int) (x4:Value) (x12 x13:Int) (x139:Bool) (hp:HP) (I6:(Int × Int)→HP→Prop) (I9:(Int)→HP→Prop) (K:Kh):Prop:=
  (ite2 x139 (I9 (IntKind.wrap .i64 (x13-1)) hp) (F163_j8 x0a x0n x0c x1 x4 x12 x13 hp I6 K))
def F163_l9 (x0a:OA) (x0n x0c:Nat) (x1:Int) (x4:Value) (x12:Int) (I6:(Int × Int)→HP→Prop) (K:Kh) (I9:(Int)→HP→Prop) (x13:Int) (hp:HP):Prop:=
  (ite2 (decide ((x12:Int)≤x13)) ((0≤(x13:Int))∧((x13:Int)<(x0n:Nat))∧(ptrN x0a fun b_61 o_62=>(ldL (HP.cellN hp b_61 (o_62+Int.toNat x13*26) 26) fun l_63=>((0≤(x1:Int))∧((x1:Int)<(x0n:Nat))∧(ptrN x0a fun b_64 o_65=>(ldL (HP.cellN hp b_64 (o_65+Int.toNat x1*26) 26) fun l_66=>(fnV x4 fun f_67 ga_68 gb_69=>(CF Tryz.prog f_67 (ga_68++[(Value.agg ⟨l_63⟩),(Value.agg ⟨l_66⟩)]++gb_69) hp fun u_70 h_71=>(intV u_70 .i64 fun i_72=>(F163_j10 x0a x0n x0c x1 x4 x12 x13 (!(decide ((i_72:Int)<0))) h_71 I6 I9 K)))))))))) (F163_j10 x0a x0n x0c x1 x4 x12 x13 false hp I6 I9 K))
def F163_j7 (x0a:OA) (x0n x0c:Nat) (x1:Int) (x4:Value) (x12 x13:Int) (hp:HP) (I6:(Int × Int)→HP→Prop) (K:Kh):Prop:=
  (LoopP (σ:=Int) (fun I s hp=>F163_l9 x0a x0n x0c x1 x4 x12 I6 K I s hp) x13 hp)
def F163_j12 (x0a:OA) (x0n x0c:Nat) (x1:Int) (x4:Value) (x12 x13:Int) (x120:Bool) (hp:HP) (I6:(Int × Int)→HP→Prop) (I11:(Int)→HP→Prop) (K:Kh):Prop:=
  (ite2 x120 (I11 (IntKind.wrap .i64 (x12+1)) hp) (F163_j7 x0a x0n x0c x1 x4 x12 x13 hp I6 K))
def F163_l11 (x0a:OA) (x0n x0c:Nat) (x1:Int) (x4:Value) (x13:Int) (I6:(Int × Int)→HP→Prop) (K:Kh) (I11:(Int)→HP→Prop) (x12:Int) (hp:HP):Prop:=
  (ite2 (decide ((x12:Int)≤x13)) ((0≤(x12:Int))∧((x12:Int)<(x0n:Nat))∧(ptrN x0a fun b_73 o_74=>(ldL (HP.cellN hp b_73 (o_74+Int.toNat x12*26) 26) fun l_75=>((0≤(x1:Int))∧((x1:Int)<(x0n:Nat))∧(ptrN x0a fun b_76 o_77=>(ldL (HP.cellN hp b_76 (o_77+Int.toNat x1*26) 26) fun l_78=>(fnV x4 fun f_79 ga_80 gb_81=>(CF Tryz.prog f_79 (ga_80++[(Value.agg ⟨l_75⟩),(Value.agg ⟨l_78⟩)]++gb_81) hp fun u_82 h_83=>(intV u_82 .i64 fun i_84=>(F163_j12 x0a x0n x0c x1 x4 x12 x13 (decide ((i_84:Int)<0)) h_83 I6 I11 K)))))))))) (F163_j12 x0a x0n x0c x1 x4 x12 x13 false hp I6 I11 K))
def F163_l6 (x0a:OA) (x0n x0c:Nat) (x1:Int) (x4:Value) (K:Kh) (I6:(Int × Int)→HP→Prop) (x12 x13:Int) (hp:HP):Prop:=
  (LoopP (σ:=Int) (fun I s hp=>F163_l11 x0a x0n x0c x1 x4 x13 I6 K I s hp) x12 hp)
def F163_j4 (x0a:OA) (x0n x0c:Nat) (x1:Int) (x4:Value) (x12 x13:Int) (hp:HP) (K:Kh):Prop:=
  (LoopP (σ:=Int × Int) (fun I s hp=>F163_l6 x0a x0n x0c x1 x4  K I s.1 s.2 hp) (x12,x13) hp)
def F163_j3 (x0a:OA) (x0n x0c:Nat) (x1:Int) (x4:Value) (x12 x13:Int) (hp:HP) (K:Kh):Prop:=
  (ite2 (decide ((x12:Int) > x13)) ((0≤(x1:Int))∧((x1:Int)<(x0n:Nat))∧(ptrN x0a fun b_13 o_14=>(ldL (HP.cellN hp b_13 (o_14+Int.toNat x1*26) 26) fun l_15=>((0≤(x13:Int))∧((x13:Int)<(x0n:Nat))∧(ptrN x0a fun b_16 o_17=>(ldL (HP.cellN hp b_16 (o_17+Int.toNat x13*26) 26) fun l_18=>((0≤(x13:Int))∧((x13:Int)<(x0n:Nat))∧(ptrN x0a fun b_19 o_20=>((List.length l_15=26)∧(HP.stN hp b_19 (o_20+Int.toNat x13*26) l_15 fun h_21=>((0≤(x1:Int))∧((x1:Int)<(x0n:Nat))∧(ptrN x0a fun b_22 o_23=>((List.length l_18=26)∧(HP.stN h_21 b_22 (o_23+Int.toNat x1*26) l_18 fun h_24=>(K (.tuple ⟨[(Value.int .i64 x13),(Value.bool true)]⟩) h_24))))))))))))))) ((0≤(x13:Int))∧((x13:Int)<(x0n:Nat))∧(ptrN x0a fun b_25 o_26=>(ldL (HP.cellN hp b_25 (o_26+Int.toNat x13*26) 26) fun l_27=>((0≤(x12:Int))∧((x12:Int)<(x0n:Nat))∧(ptrN x0a fun b_28 o_29=>(ldL (HP.cellN hp b_28 (o_29+Int.toNat x12*26) 26) fun l_30=>((0≤(x12:Int))∧((x12:Int)<(x0n:Nat))∧(ptrN x0a fun b_31 o_32=>((List.length l_27=26)∧(HP.stN hp b_31 (o_32+Int.toNat x12*26) l_27 fun h_33=>((0≤(x13:Int))∧((x13:Int)<(x0n:Nat))∧(ptrN x0a fun b_34 o_35=>((List.length l_30=26)∧(HP.stN h_33 b_34 (o_35+Int.toNat x13*26) l_30 fun h_36=>(F163_j4 x0a x0n x0c x1 x4 (IntKind.wrap .i64 (x12+1)) (IntKind.wrap .i64 (x13-1)) h_36  K))))))))))))))))
def F163_j14 (x0a:OA) (x0n x0c:Nat) (x1:Int) (x4:Value) (x12 x13:Int) (x66:Bool) (hp:HP) (I13:(Int)→HP→Prop) (K:Kh):Prop:=
  (ite2 x66 (I13 (IntKind.wrap .i64 (x13-1)) hp) (F163_j3 x0a x0n x0c x1 x4 x12 x13 hp  K))
def F163_l13 (x0a:OA) (x0n x0c:Nat) (x1:Int) (x4:Value) (x12:Int) (K:Kh) (I13:(Int)→HP→Prop) (x13:Int) (hp:HP):Prop:=
  (ite2 (decide ((x12:Int)≤x13)) ((0≤(x13:Int))∧((x13:Int)<(x0n:Nat))∧(ptrN x0a fun b_85 o_86=>(ldL (HP.cellN hp b_85 (o_86+Int.toNat x13*26) 26) fun l_87=>((0≤(x1:Int))∧((x1:Int)<(x0n:Nat))∧(ptrN x0a fun b_88 o_89=>(ldL (HP.cellN hp b_88 (o_89+Int.toNat x1*26) 26) fun l_90=>(fnV x4 fun f_91 ga_92 gb_93=>(CF Tryz.prog f_91 (ga_92++[(Value.agg ⟨l_87⟩),(Value.agg ⟨l_90⟩)]++gb_93) hp fun u_94 h_95=>(intV u_94 .i64 fun i_96=>(F163_j14 x0a x0n x0c x1 x4 x12 x13 (!(decide ((i_96:Int)<0))) h_95 I13 K)))))))))) (F163_j14 x0a x0n x0c x1 x4 x12 x13 false hp I13 K))
def F163_j2 (x0a:OA) (x0n x0c:Nat) (x1:Int) (x4:Value) (x12 x13:Int) (hp:HP) (K:Kh):Prop:=
  (LoopP (σ:=Int) (fun I s hp=>F163_l13 x0a x0n x0c x1 x4 x12  K I s hp) x13 hp)
def F163_j16 (x0a:OA) (x0n x0c:Nat) (x1:Int) (x4:Value) (x12 x13:Int) (x47:Bool) (hp:HP) (I15:(Int)→HP→Prop) (K:Kh):Prop:=
  (ite2 x47 (I15 (IntKind.wrap .i64 (x12+1)) hp) (F163_j2 x0a x0n x0c x1 x4 x12 x13 hp  K))
def F163_l15 (x0a:OA) (x0n x0c:Nat) (x1:Int) (x4:Value) (x13:Int) (K:Kh) (I15:(Int)→HP→Prop) (x12:Int) (hp:HP):Prop:=
  (ite2 (decide ((x12:Int)≤x13)) ((0≤(x12:Int))∧((x12:Int)<(x0n:Nat))∧(ptrN x0a fun b_97 o_98=>(ldL (HP.cellN hp b_97 (o_98+Int.toNat x12*26) 26) fun l_99=>((0≤(x1:Int))∧((x1:Int)<(x0n:Nat))∧(ptrN x0a fun b_100 o_101=>(ldL (HP.cellN hp b_100 (o_101+Int.toNat x1*26) 26) fun l_102=>(fnV x4 fun f_103 ga_104 gb_105=>(CF Tryz.prog f_103 (ga_104++[(Value.agg ⟨l_99⟩),(Value.agg ⟨l_102⟩)]++gb_105) hp fun u_106 h_107=>(intV u_106 .i64 fun i_108=>(F163_j16 x0a x0n x0c x1 x4 x12 x13 (decide ((i_108:Int)<0)) h_107 I15 K)))))))))) (F163_j16 x0a x0n x0c x1 x4 x12 x13 false hp I15 K))
def F163_j1 (x0a:OA) (x0n x0c:Nat) (x1:Int) (x4:Value) (x12 x13:Int) (hp:HP) (K:Kh):Prop:=
  (LoopP (σ:=Int) (fun I s hp=>F163_l15 x0a x0n x0c x1 x4 x13  K I s hp) x12 hp)
def F163 (x0a:OA) (x0n x0c:Nat) (x1 x2 x3:Int) (x4:Value) (hp:HP) (K:Kh):Prop:=
  ((0≤(x3:Int))∧((x3:Int)<(x0n:Nat))∧(ptrN x0a fun b_1 o_2=>(ldL (HP.cellN hp b_1 (o_2+Int.toNat x3*26) 26) fun l_3=>((0≤(x1:Int))∧((x1:Int)<(x0n:Nat))∧(ptrN x0a fun b_4 o_5=>(ldL (HP.cellN hp b_4 (o_5+Int.toNat x1*26) 26) fun l_6=>((0≤(x1:Int))∧((x1:Int)<(x0n:Nat))∧(ptrN x0a fun b_7 o_8=>((List.length l_3=26)∧(HP.stN hp b_7 (o_8+Int.toNat x1*26) l_3 fun h_9=>((0≤(x3:Int))∧((x3:Int)<(x0n:Nat))∧(ptrN x0a fun b_10 o_11=>((List.length l_6=26)∧(HP.stN h_9 b_10 (o_11+Int.toNat x3*26) l_6 fun h_12=>(F163_j1 x0a x0n x0c x1 x4 (IntKind.wrap .i64 (x1+1)) (IntKind.wrap .i64 (x2-1)) h_12  K)))))))))))))))
theorem F163_ok (x0a:OA) (x0n x0c:Nat) (x1 x2 x3:Int) (x4:Value) (hp:HP) (K:Kh) (h:F163 x0a x0n x0c x1 x2 x3 x4 hp K):CF Tryz.prog 163 [(Value.slice x0a x0n x0c),(Value.int .i64 x1),(Value.int .i64 x2),(Value.int .i64 x3),x4] hp K:=
  have L:∀ {Q} n,Snd Tryz.prog 178 (cAt Tryz.f163 (pth n)) Q (CW Tryz.prog 178 [] [] (cAt Tryz.f163 (pth n)) Q):=fun _=>Snd.leaf
  okF h Tryz.func163 (Snd.seq (L 2) (Snd.seq (L 5) (Snd.jn [(0,.s),(1,.i .i64),(4,.w),(12,.i .i64),(13,.i .i64)] (fun a hp=>F163_j1 a.1 a.2.1 a.2.2.1 a.2.2.2.1 a.2.2.2.2.1 a.2.2.2.2.2.1 a.2.2.2.2.2.2.1 hp  K) (L 11) (Snd.jn [(0,.s),(1,.i .i64),(4,.w),(12,.i .i64),(13,.i .i64)] (fun a hp=>F163_j2 a.1 a.2.1 a.2.2.1 a.2.2.2.1 a.2.2.2.2.1 a.2.2.2.2.2.1 a.2.2.2.2.2.2.1 hp  K) (Snd.block 0 (Snd.lp (σ:=Int) [(0,.s),(1,.i .i64),(4,.w),(12,.i .i64),(13,.i .i64)] (fun a=>a.2.2.2.2.2.1) (fun a s=>(a.1,a.2.1,a.2.2.1,a.2.2.2.1,a.2.2.2.2.1,s,a.2.2.2.2.2.2.1,())) (fun a I s hp=>F163_l15 a.1 a.2.1 a.2.2.1 a.2.2.2.1 a.2.2.2.2.1 a.2.2.2.2.2.2.1  K I s hp) (fun I15=>(Snd.seq (Snd.jn [(0,.s),(1,.i .i64),(4,.w),(12,.i .i64),(13,.i .i64),(47,.b)] (fun a hp=>F163_j16 a.1 a.2.1 a.2.2.1 a.2.2.2.1 a.2.2.2.2.1 a.2.2.2.2.2.1 a.2.2.2.2.2.2.1 a.2.2.2.2.2.2.2.1 hp (fun s hp=>I15 (a.1,a.2.1,a.2.2.1,a.2.2.2.1,a.2.2.2.2.1,s,a.2.2.2.2.2.2.1,()) hp) K) (L 263) (L 391) (by rfl) (by kernel_rfl)) (L 199))) (by rfl) (by kernel_rfl) (by kernel_rfl))) (Snd.jn [(0,.s),(1,.i .i64),(4,.w),(12,.i .i64),(13,.i .i64)] (fun a hp=>F163_j3 a.1 a.2.1 a.2.2.1 a.2.2.2.1 a.2.2.2.2.1 a.2.2.2.2.2.1 a.2.2.2.2.2.2.1 hp  K) (Snd.block 2 (Snd.lp (σ:=Int) [(0,.s),(1,.i .i64),(4,.w),(12,.i .i64),(13,.i .i64)] (fun a=>a.2.2.2.2.2.2.1) (fun a s=>(a.1,a.2.1,a.2.2.1,a.2.2.2.1,a.2.2.2.2.1,a.2.2.2.2.2.1,s,())) (fun a I s hp=>F163_l13 a.1 a.2.1 a.2.2.1 a.2.2.2.1 a.2.2.2.2.1 a.2.2.2.2.2.1  K I s hp) (fun I13=>(Snd.seq (Snd.jn [(0,.s),(1,.i .i64),(4,.w),(12,.i .i64),(13,.i .i64),(66,.b)] (fun a hp=>F163_j14 a.1 a.2.1 a.2.2.1 a.2.2.2.1 a.2.2.2.2.1 a.2.2.2.2.2.1 a.2.2.2.2.2.2.1 a.2.2.2.2.2.2.2.1 hp (fun s hp=>I13 (a.1,a.2.1,a.2.2.1,a.2.2.2.1,a.2.2.2.2.1,a.2.2.2.2.2.1,s,()) hp) K) (L 527) (L 783) (by rfl) (by kernel_rfl)) (L 399))) (by rfl) (by kernel_rfl) (by kernel_rfl))) (Snd.seq (L 95) (Snd.seq (L 191) (Snd.seq (L 383) (Snd.jn [(0,.s),(1,.i .i64),(4,.w),(12,.i .i64),(13,.i .i64)] (fun a hp=>F163_j4 a.1 a.2.1 a.2.2.1 a.2.2.2.1 a.2.2.2.2.1 a.2.2.2.2.2.1 a.2.2.2.2.2.2.1 hp  K) (L 767) (Snd.jn [(0,.s),(1,.i .i64),(13,.i .i64)] (fun a hp=>F163_j5 a.1 a.2.1 a.2.2.1 a.2.2.2.1 a.2.2.2.2.1 hp  K) (Snd.block 4 (Snd.lp (σ:=Int × Int) [(0,.s),(1,.i .i64),(4,.w),(12,.i .i64),(13,.i .i64)] (fun a=>(a.2.2.2.2.2.1,a.2.2.2.2.2.2.1)) (fun a s=>(a.1,a.2.1,a.2.2.1,a.2.2.2.1,a.2.2.2.2.1,s.1,s.2,())) (fun a I s hp=>F163_l6 a.1 a.2.1 a.2.2.1 a.2.2.2.1 a.2.2.2.2.1  K I s.1 s.2 hp) (fun I6=>(Snd.block 5 (Snd.jn [(0,.s),(1,.i .i64),(4,.w),(12,.i .i64),(13,.i .i64)] (fun a hp=>F163_j7 a.1 a.2.1 a.2.2.1 a.2.2.2.1 a.2.2.2.2.1 a.2.2.2.2.2.1 a.2.2.2.2.2.2.1 hp (fun s hp=>I6 (a.1,a.2.1,a.2.2.1,a.2.2.2.1,a.2.2.2.2.1,s.1,s.2,()) hp) K) (Snd.block 6 (Snd.lp (σ:=Int) [(0,.s),(1,.i .i64),(4,.w),(12,.i .i64),(13,.i .i64)] (fun a=>a.2.2.2.2.2.1) (fun a s=>(a.1,a.2.1,a.2.2.1,a.2.2.2.1,a.2.2.2.2.1,s,a.2.2.2.2.2.2.1,())) (fun a I s hp=>F163_l11 a.1 a.2.1 a.2.2.1 a.2.2.2.1 a.2.2.2.2.1 a.2.2.2.2.2.2.1 (fun s hp=>I6 (a.1,a.2.1,a.2.2.1,a.2.2.2.1,a.2.2.2.2.1,s.1,s.2,()) hp) K I s hp) (fun I11=>(Snd.seq (Snd.jn [(0,.s),(1,.i .i64),(4,.w),(12,.i .i64),(13,.i .i64),(120,.b)] (fun a hp=>F163_j12 a.1 a.2.1 a.2.2.1 a.2.2.2.1 a.2.2.2.2.1 a.2.2.2.2.2.1 a.2.2.2.2.2.2.1 a.2.2.2.2.2.2.2.1 hp (fun s hp=>I6 (a.1,a.2.1,a.2.2.1,a.2.2.2.1,a.2.2.2.2.1,s.1,s.2,()) hp) (fun s hp=>I11 (a.1,a.2.1,a.2.2.1,a.2.2.2.1,a.2.2.2.2.1,s,a.2.2.2.2.2.2.1,()) hp) K) (L 262655) (L 393727) (by rfl) (by kernel_rfl)) (L 197119))) (by rfl) (by kernel_rfl) (by kernel_rfl))) (Snd.jn [(0,.s),(1,.i .i64),(4,.w),(12,.i .i64),(13,.i .i64)] (fun a hp=>F163_j8 a.1 a.2.1 a.2.2.1 a.2.2.2.1 a.2.2.2.2.1 a.2.2.2.2.2.1 a.2.2.2.2.2.2.1 hp (fun s hp=>I6 (a.1,a.2.1,a.2.2.1,a.2.2.2.1,a.2.2.2.2.1,s.1,s.2,()) hp) K) (Snd.block 8 (Snd.lp (σ:=Int) [(0,.s),(1,.i .i64),(4,.w),(12,.i .i64),(13,.i .i64)] (fun a=>a.2.2.2.2.2.2.1) (fun a s=>(a.1,a.2.1,a.2.2.1,a.2.2.2.1,a.2.2.2.2.1,a.2.2.2.2.2.1,s,())) (fun a I s hp=>F163_l9 a.1 a.2.1 a.2.2.1 a.2.2.2.1 a.2.2.2.2.1 a.2.2.2.2.2.1 (fun s hp=>I6 (a.1,a.2.1,a.2.2.1,a.2.2.2.1,a.2.2.2.2.1,s.1,s.2,()) hp) K I s hp) (fun I9=>(Snd.seq (Snd.jn [(0,.s),(1,.i .i64),(4,.w),(12,.i .i64),(13,.i .i64),(139,.b)] (fun a hp=>F163_j10 a.1 a.2.1 a.2.2.1 a.2.2.2.1 a.2.2.2.2.1 a.2.2.2.2.2.1 a.2.2.2.2.2.2.1 a.2.2.2.2.2.2.2.1 hp (fun s hp=>I6 (a.1,a.2.1,a.2.2.1,a.2.2.2.1,a.2.2.2.2.1,s.1,s.2,()) hp) (fun s hp=>I9 (a.1,a.2.1,a.2.2.1,a.2.2.2.1,a.2.2.2.2.1,a.2.2.2.2.2.1,s,()) hp) K) (L 532991) (L 795135) (by rfl) (by kernel_rfl)) (L 401919))) (by rfl) (by kernel_rfl) (by kernel_rfl))) (L 57855) (by rfl) (by kernel_rfl)) (by rfl) (by kernel_rfl)))) (by rfl) (by kernel_rfl) (by kernel_rfl))) (L 2047) (by rfl) (by kernel_rfl)) (by rfl) (by kernel_rfl))))) (by rfl) (by kernel_rfl)) (by rfl) (by kernel_rfl)) (by rfl) (by kernel_rfl)))) (by kernel_rfl) (by kernel_rfl) (by kernel_rfl)
def F172_j3 (x0a:OA) (x0n x0c:Nat) (x2 x3:Int) (x4:Value) (x10 x11:Int) (hp:HP) (I2:(Int)→HP→Prop) (K:Kh):Prop:=
  ((0≤((IntKind.wrap .i64 (x3+x10)):Int))∧(((IntKind.wrap .i64 (x3+x10)):Int)<(x0n:Nat))∧(ptrN x0a fun b_1 o_2=>(ldL (HP.cellN hp b_1 (o_2+Int.toNat (IntKind.wrap .i64 (x3+x10))*26) 26) fun l_3=>((0≤((IntKind.wrap .i64 (x3+x11)):Int))∧(((IntKind.wrap .i64 (x3+x11)):Int)<(x0n:Nat))∧(ptrN x0a fun b_4 o_5=>(ldL (HP.cellN hp b_4 (o_5+Int.toNat (IntKind.wrap .i64 (x3+x11))*26) 26) fun l_6=>(fnV x4 fun f_7 ga_8 gb_9=>(CF Tryz.prog f_7 (ga_8++[(Value.agg ⟨l_3⟩),(Value.agg ⟨l_6⟩)]++gb_9) hp fun u_10 h_11=>(intV u_10 .i64 fun i_12=>(ite2 (!(decide ((i_12:Int)<0))) (K (.tuple ⟨[]⟩) h_11) ((0≤((IntKind.wrap .i64 (x3+x11)):Int))∧(((IntKind.wrap .i64 (x3+x11)):Int)<(x0n:Nat))∧(ptrN x0a fun b_13 o_14=>(ldL (HP.cellN h_11 b_13 (o_14+Int.toNat (IntKind.wrap .i64 (x3+x11))*26) 26) fun l_15=>((0≤((IntKind.wrap .i64 (x3+x10)):Int))∧(((IntKind.wrap .i64 (x3+x10)):Int)<(x0n:Nat))∧(ptrN x0a fun b_16 o_17=>(ldL (HP.cellN h_11 b_16 (o_17+Int.toNat (IntKind.wrap .i64 (x3+x10))*26) 26) fun l_18=>((0≤((IntKind.wrap .i64 (x3+x10)):Int))∧(((IntKind.wrap .i64 (x3+x10)):Int)<(x0n:Nat))∧(ptrN x0a fun b_19 o_20=>((List.length l_15=26)∧(HP.stN h_11 b_19 (o_20+Int.toNat (IntKind.wrap .i64 (x3+x10))*26) l_15 fun h_21=>((0≤((IntKind.wrap .i64 (x3+x11)):Int))∧(((IntKind.wrap .i64 (x3+x11)):Int)<(x0n:Nat))∧(ptrN x0a fun b_22 o_23=>((List.length l_18=26)∧(HP.stN h_21 b_22 (o_23+Int.toNat (IntKind.wrap .i64 (x3+x11))*26) l_18 fun h_24=>(I2 x11 h_24)))))))))))))))))))))))))
def F172_j4 (x0a:OA) (x0n x0c:Nat) (x2 x3:Int) (x4:Value) (x10 x11:Int) (x40:Bool) (hp:HP) (I2:(Int)→HP→Prop) (K:Kh):Prop:=
  (ite2 x40 (F172_j3 x0a x0n x0c x2 x3 x4 x10 (IntKind.wrap .i64 (x11+1)) hp I2 K) (F172_j3 x0a x0n x0c x2 x3 x4 x10 x11 hp I2 K))
def F172_l2 (x0a:OA) (x0n x0c:Nat) (x2 x3:Int) (x4:Value) (K:Kh) (I2:(Int)→HP→Prop) (x10:Int) (hp:HP):Prop:=
  (ite2 (decide (((IntKind.wrap .i64 ((IntKind.wrap .i64 (2*x10))+1)):Int)≥x2)) (K (.tuple ⟨[]⟩) hp) (ite2 (decide (((IntKind.wrap .i64 ((IntKind.wrap .i64 ((IntKind.wrap .i64 (2*x10))+1))+1)):Int)<x2)) ((0≤((IntKind.wrap .i64 (x3+(IntKind.wrap .i64 ((IntKind.wrap .i64 (2*x10))+1)))):Int))∧(((IntKind.wrap .i64 (x3+(IntKind.wrap .i64 ((IntKind.wrap .i64 (2*x10))+1)))):Int)<(x0n:Nat))∧(ptrN x0a fun b_25 o_26=>(ldL (HP.cellN hp b_25 (o_26+Int.toNat (IntKind.wrap .i64 (x3+(IntKind.wrap .i64 ((IntKind.wrap .i64 (2*x10))+1))))*26) 26) fun l_27=>((0≤((IntKind.wrap .i64 ((IntKind.wrap .i64 (x3+(IntKind.wrap .i64 ((IntKind.wrap .i64 (2*x10))+1))))+1)):Int))∧(((IntKind.wrap .i64 ((IntKind.wrap .i64 (x3+(IntKind.wrap .i64 ((IntKind.wrap .i64 (2*x10))+1))))+1)):Int)<(x0n:Nat))∧(ptrN x0a fun b_28 o_29=>(ldL (HP.cellN hp b_28 (o_29+Int.toNat (IntKind.wrap .i64 ((IntKind.wrap .i64 (x3+(IntKind.wrap .i64 ((IntKind.wrap .i64 (2*x10))+1))))+1))*26) 26) fun l_30=>(fnV x4 fun f_31 ga_32 gb_33=>(CF Tryz.prog f_31 (ga_32++[(Value.agg ⟨l_27⟩),(Value.agg ⟨l_30⟩)]++gb_33) hp fun u_34 h_35=>(intV u_34 .i64 fun i_36=>(F172_j4 x0a x0n x0c x2 x3 x4 x10 (IntKind.wrap .i64 ((IntKind.wrap .i64 (2*x10))+1)) (decide ((i_36:Int)<0)) h_35 I2 K)))))))))) (F172_j4 x0a x0n x0c x2 x3 x4 x10 (IntKind.wrap .i64 ((IntKind.wrap .i64 (2*x10))+1)) false hp I2 K)))
def F172_j1 (x0a:OA) (x0n x0c:Nat) (x2 x3:Int) (x4:Value) (x10:Int) (hp:HP) (K:Kh):Prop:=
  (LoopP (σ:=Int) (fun I s hp=>F172_l2 x0a x0n x0c x2 x3 x4  K I s hp) x10 hp)
def F172 (x0a:OA) (x0n x0c:Nat) (x1 x2 x3:Int) (x4:Value) (hp:HP) (K:Kh):Prop:=
  (F172_j1 x0a x0n x0c x2 x3 x4 x1 hp  K)
theorem F172_ok (x0a:OA) (x0n x0c:Nat) (x1 x2 x3:Int) (x4:Value) (hp:HP) (K:Kh) (h:F172 x0a x0n x0c x1 x2 x3 x4 hp K):CF Tryz.prog 172 [(Value.slice x0a x0n x0c),(Value.int .i64 x1),(Value.int .i64 x2),(Value.int .i64 x3),x4] hp K:=
  have L:∀ {Q} n,Snd Tryz.prog 82 (cAt Tryz.f172 (pth n)) Q (CW Tryz.prog 82 [] [] (cAt Tryz.f172 (pth n)) Q):=fun _=>Snd.leaf
  okF h Tryz.func172 (Snd.jn [(0,.s),(2,.i .i64),(3,.i .i64),(4,.w),(10,.i .i64)] (fun a hp=>F172_j1 a.1 a.2.1 a.2.2.1 a.2.2.2.1 a.2.2.2.2.1 a.2.2.2.2.2.1 a.2.2.2.2.2.2.1 hp  K) (L 2) (Snd.block 0 (Snd.lp (σ:=Int) [(0,.s),(2,.i .i64),(3,.i .i64),(4,.w),(10,.i .i64)] (fun a=>a.2.2.2.2.2.2.1) (fun a s=>(a.1,a.2.1,a.2.2.1,a.2.2.2.1,a.2.2.2.2.1,a.2.2.2.2.2.1,s,())) (fun a I s hp=>F172_l2 a.1 a.2.1 a.2.2.1 a.2.2.2.1 a.2.2.2.2.1 a.2.2.2.2.2.1  K I s hp) (fun I2=>(Snd.block 1 (Snd.seq (L 33) (Snd.seq (L 81) (Snd.jn [(0,.s),(2,.i .i64),(3,.i .i64),(4,.w),(10,.i .i64),(11,.i .i64)] (fun a hp=>F172_j3 a.1 a.2.1 a.2.2.1 a.2.2.2.1 a.2.2.2.2.1 a.2.2.2.2.2.1 a.2.2.2.2.2.2.1 a.2.2.2.2.2.2.2.1 hp (fun s hp=>I2 (a.1,a.2.1,a.2.2.1,a.2.2.2.1,a.2.2.2.2.1,a.2.2.2.2.2.1,s,()) hp) K) (Snd.jn [(0,.s),(2,.i .i64),(3,.i .i64),(4,.w),(10,.i .i64),(11,.i .i64),(40,.b)] (fun a hp=>F172_j4 a.1 a.2.1 a.2.2.1 a.2.2.2.1 a.2.2.2.2.1 a.2.2.2.2.2.1 a.2.2.2.2.2.2.1 a.2.2.2.2.2.2.2.1 a.2.2.2.2.2.2.2.2.1 hp (fun s hp=>I2 (a.1,a.2.1,a.2.2.1,a.2.2.2.1,a.2.2.2.2.1,a.2.2.2.2.2.1,s,()) hp) K) (L 305) (L 433) (by rfl) (by kernel_rfl)) (L 241) (by rfl) (by kernel_rfl)))))) (by rfl) (by kernel_rfl) (by kernel_rfl))) (by rfl) (by kernel_rfl)) (by kernel_rfl) (by kernel_rfl) (by kernel_rfl)
end Go.Proofs
set_option linter.unusedVariables false
set_option maxRecDepth 20000
namespace Go.Proofs
open Go Go.HL
section
variable {f:FuncId} {ga gb:List Value} {hp0:HP} {b sp n c:Nat} {cf:Bd→Bd→Int}
theorem S172 (hc:CmpOk Tryz.prog f ga gb hp0 b 97 sp bdc n cf) {d:Array Bd} {lo hi fst:Nat} {K:Value→HP→Prop} (hs:d.size=n) (hlo:lo≤hi) (hf:fst+hi≤n) (hn:n≤1000000000)
    (h:K (.tuple ⟨[]⟩) (HA hp0 b 97 sp bdc (Sort.siftDown (ltC cf) hi fst lo d))) :
    CF Tryz.prog 172 [.slice (some ⟨b,0,none⟩) n c,.int .i64 lo,.int .i64 hi,.int .i64 fst,.func (.func f) ⟨ga⟩ ⟨gb⟩] (HA hp0 b 97 sp bdc d) K:=by
  refine F172_ok _ n c lo hi fst _ _ K ?_
  unfold F172 F172_j1
  refine LoopP.by (J:=fun k (x:Int) hp=>∃ (r:Nat) (d':Array Bd),x=r∧hp=HA hp0 b 97 sp bdc d'∧d'.size=n∧r≤hi∧k=hi-r∧Sort.siftDown (ltC cf) hi fst r d'=Sort.siftDown (ltC cf) hi fst lo d) ?_
    (n:=hi-lo) ⟨lo,d,rfl,rfl,hs,hlo,rfl,rfl⟩
  rintro I k x hp ⟨r,d',rfl,rfl,hs',hr,rfl,he⟩ hI
  unfold F172_l2
  have w1:IntKind.wrap .i64 (2*(r:Int))=((2*r:Nat):Int):=wi (by omega) (by omega)
  have w2:IntKind.wrap .i64 (((2*r:Nat):Int)+1)=((2*r+1:Nat):Int):=wi (by omega) (by omega)
  have w3:IntKind.wrap .i64 (((2*r+1:Nat):Int)+1)=((2*r+2:Nat):Int):=wi (by omega) (by omega)
  have w4:IntKind.wrap .i64 ((fst:Int)+((2*r+1:Nat):Int))=((fst+(2*r+1):Nat):Int):=wi (by omega) (by omega)
  have w5:IntKind.wrap .i64 (((fst+(2*r+1):Nat):Int)+1)=((fst+(2*r+1)+1:Nat):Int):=wi (by omega) (by omega)
  simp only [w1,w2,w3,w4,w5]
  rw [Sort.siftDown] at he
  by_cases h1:2*r+1≥hi
  · rw [dif_pos h1] at he
    rw [decide_eq_true (by omega:((2*r+1:Nat):Int)≥(hi:Int)),ite2_true,he]
    exact h
  rw [dif_neg h1] at he
  rw [decide_eq_false (by omega:¬ ((2*r+1:Nat):Int)≥(hi:Int)),ite2_false]
  have tail:∀ ch:Nat,ch<hi→r<ch→(if !ltC cf d'[fst+r]! d'[fst+ch]! then d' else Sort.siftDown (ltC cf) hi fst ch (Sort.swp d' (fst+r) (fst+ch)))=Sort.siftDown (ltC cf) hi fst lo d →
      F172_j3 (some ⟨b,0,none⟩) n c hi fst (.func (.func f) ⟨ga⟩ ⟨gb⟩) r ch (HA hp0 b 97 sp bdc d') I K:=by
    intro ch hch hrc ht
    unfold F172_j3
    have v1:IntKind.wrap .i64 ((fst:Int)+(r:Int))=((fst+r:Nat):Int):=wi (by omega) (by omega)
    have v2:IntKind.wrap .i64 ((fst:Int)+(ch:Int))=((fst+ch:Nat):Int):=wi (by omega) (by omega)
    simp only [v1,v2]
    refine cmpP hc bdc_len hs' (i:=fst+r) (j:=fst+ch) rfl rfl (by omega) (by omega) ?_
    have hl:decide (cf d'[fst+r]! d'[fst+ch]!<0)=ltC cf d'[fst+r]! d'[fst+ch]! := rfl
    rw [hl]
    cases hlt:ltC cf d'[fst+r]! d'[fst+ch]!
    · rw [hlt] at ht
      simp only [Bool.not_false,if_true] at ht
      simp only [Bool.not_false,ite2_true]
      rw [ht]; exact h
    · rw [hlt] at ht
      simp only [Bool.not_true,Bool.false_eq_true,if_false] at ht
      simp only [Bool.not_true,ite2_false]
      refine swapP bdc_len bdc_one hs' (i:=fst+r) (j:=fst+ch) rfl rfl (by omega) (by omega) ?_
      exact hI (hi-ch) _ _ (by omega) ⟨ch,_,rfl,rfl,by rw [swp_size]; exact hs',by omega,rfl,ht⟩
  by_cases h2:2*r+1+1<hi
  · rw [decide_eq_true (by omega:((2*r+2:Nat):Int)<(hi:Int)),ite2_true]
    refine cmpP hc bdc_len hs' (i:=fst+(2*r+1)) (j:=fst+(2*r+1)+1) rfl rfl (by omega) (by omega) ?_
    have hl:decide (cf d'[fst+(2*r+1)]! d'[fst+(2*r+1)+1]!<0)=ltC cf d'[fst+(2*r+1)]! d'[fst+(2*r+1)+1]! := rfl
    rw [hl]
    unfold F172_j4
    rw [decide_eq_true h2,Bool.true_and] at he
    cases hlt:ltC cf d'[fst+(2*r+1)]! d'[fst+(2*r+1)+1]!
    · rw [hlt] at he
      simp only [Bool.false_eq_true,if_false] at he
      rw [ite2_false]
      exact tail (2*r+1) (by omega) (by omega) he
    · rw [hlt] at he
      simp only [if_true] at he
      rw [ite2_true,w3]
      refine tail (2*r+2) (by omega) (by omega) ?_
      rw [dif_pos (by omega:2*r+2<hi)] at he
      exact he
  · rw [decide_eq_false (by omega:¬ ((2*r+2:Nat):Int)<(hi:Int)),ite2_false]
    rw [decide_eq_false h2,Bool.false_and] at he
    simp only [Bool.false_eq_true,if_false] at he
    unfold F172_j4
    rw [ite2_false]
    exact tail (2*r+1) (by omega) (by omega) he
theorem sift_size_bdc {α:Type} [Inhabited α] (lt:α→α→Bool) (hi fst:Nat):∀ (m r:Nat) (d:Array α),hi-r≤m→(Sort.siftDown lt hi fst r d).size=d.size:=by
  intro m
  induction m with
  | zero=>
    intro r d hm
    rw [Sort.siftDown,dif_pos (by omega)]
  | succ m ih=>
    intro r d hm
    rw [Sort.siftDown]
    repeat' split
    all_goals first
      | rfl
      | (rw [ih _ _ (by omega),swp_size])
theorem S157 (hc:CmpOk Tryz.prog f ga gb hp0 b 97 sp bdc n cf) {d:Array Bd} {lo hi:Nat} {K:Value→HP→Prop} (hs:d.size=n) (hlo:lo≤hi) (hf:hi≤n) (hn:n≤1000000000)
    (h:K (.tuple ⟨[]⟩) (HA hp0 b 97 sp bdc (Sort.heapSort (ltC cf) d lo hi))) :
    CF Tryz.prog 157 [.slice (some ⟨b,0,none⟩) n c,.int .i64 lo,.int .i64 hi,.func (.func f) ⟨ga⟩ ⟨gb⟩] (HA hp0 b 97 sp bdc d) K:=by
  refine F157_ok _ n c lo hi _ _ K ?_
  unfold F157 F157_j4
  have w1:IntKind.wrap .i64 ((hi:Int)-(lo:Int))=((hi-lo:Nat):Int):=wi (by omega) (by omega)
  refine ⟨by omega,?_⟩
  rw [w1]
  generalize hm:hi-lo=m at *
  have w2:IntKind.wrap .i64 ((m:Int)-1)=(m:Int)-1:=w64 (by omega) (by omega)
  have w3:Int.tdiv ((m:Int)-1) 2=(((m-1) / 2:Nat):Int):=by
    cases m with
    | zero=>rfl
    | succ m=>
      have:((m+1:Nat):Int)-1=(m:Int):=by omega
      rw [this]; simp only [Nat.add_sub_cancel]
      rfl
  have w4:IntKind.wrap .i64 ((((m-1) / 2:Nat):Int))=(((m-1) / 2:Nat):Int):=wi rfl (by omega)
  rw [w2,w3,w4]
  unfold Sort.heapSort at h
  rw [hm] at h
  refine LoopP.by (J:=fun k (x:Int) hp=>∃ (d':Array Bd),x=(k:Int)-1∧hp=HA hp0 b 97 sp bdc d'∧d'.size=n∧k≤(m-1) / 2+1∧Sort.heapBuild (ltC cf) m lo k d'=Sort.heapBuild (ltC cf) m lo ((m-1) / 2+1) d) ?_
    (n:=(m-1) / 2+1) ⟨d,by omega,rfl,hs,Nat.le_refl _,rfl⟩
  rintro I k x hp ⟨d',rfl,rfl,hs',hk,he⟩ hI
  unfold F157_l5
  cases k with
  | succ k=>
    have e1:((k+1:Nat):Int)-1=(k:Int):=by omega
    rw [e1,decide_eq_true (by omega:(k:Int)≥0),ite2_true]
    refine S172 hc hs' (by omega) (by omega) hn ?_
    rw [w64 (by omega) (by omega)]
    rw [Sort.heapBuild] at he
    exact hI k _ _ (by omega) ⟨_,rfl,rfl,by rw [sift_size_bdc _ _ _ _ _ _ (Nat.le_refl _)]; exact hs',by omega,he⟩
  | zero=>
    rw [decide_eq_false (by omega:¬ (((0:Nat):Int)-1)≥0),ite2_false]
    rw [Sort.heapBuild] at he
    rw [← he] at h
    unfold F157_j1 F157_j2
    rw [w2]
    refine LoopP.by (J:=fun k (x:Int) hp=>∃ (d2:Array Bd),x=(k:Int)-1∧hp=HA hp0 b 97 sp bdc d2∧d2.size=n∧k≤m∧Sort.heapPop (ltC cf) lo k d2=Sort.heapPop (ltC cf) lo m d') ?_
      (n:=m) ⟨d',rfl,rfl,hs',Nat.le_refl _,rfl⟩
    rintro I2 k2 x2 hp2 ⟨d2,rfl,rfl,hs2,hk2,he2⟩ hI2
    unfold F157_l3
    cases k2 with
    | succ k=>
      have e1:((k+1:Nat):Int)-1=(k:Int):=by omega
      have v1:IntKind.wrap .i64 ((lo:Int)+(k:Int))=((lo+k:Nat):Int):=wi (by omega) (by omega)
      rw [e1,decide_eq_true (by omega:(k:Int)≥0),ite2_true,v1]
      refine swapP bdc_len bdc_one hs2 (i:=lo) (j:=lo+k) rfl rfl (by omega) (by omega) ?_
      have hz:(Value.int .i64 0)=Value.int .i64 ((0:Nat):Int):=rfl
      rw [hz]
      refine S172 hc (by rw [swp_size]; exact hs2) (by omega) (by omega) hn ?_
      rw [w64 (by omega) (by omega)]
      rw [Sort.heapPop] at he2
      exact hI2 k _ _ (by omega) ⟨_,rfl,rfl,by rw [sift_size_bdc _ _ _ _ _ _ (Nat.le_refl _),swp_size]; exact hs2,by omega,he2⟩
    | zero=>
      rw [decide_eq_false (by omega:¬ (((0:Nat):Int)-1)≥0),ite2_false]
      rw [Sort.heapPop] at he2
      rw [he2]; exact h
theorem S160 {v:Value} {d:Array Bd} {lo hi:Nat} {K:Value→HP→Prop} (hs:d.size=n) (hlo:lo<hi) (hf:hi≤n) (hn:n≤1000000000)
    (h:K (.tuple ⟨[]⟩) (HA hp0 b 97 sp bdc (Sort.reverseRange d lo hi))) :
    CF Tryz.prog 160 [.slice (some ⟨b,0,none⟩) n c,.int .i64 lo,.int .i64 hi,v] (HA hp0 b 97 sp bdc d) K:=by
  refine F160_ok _ n c lo hi _ _ K ?_
  unfold F160 F160_j1
  have w1:IntKind.wrap .i64 ((hi:Int)-1)=((hi-1:Nat):Int):=wi (by omega) (by omega)
  rw [w1]
  unfold Sort.reverseRange at h
  refine LoopP.by (J:=fun k (s:Int × Int) hp=>∃ (i j:Nat) (d':Array Bd),s=((i:Int),(j:Int))∧hp=HA hp0 b 97 sp bdc d'∧d'.size=n∧j<n∧k=j-i∧Sort.reverseLoop i j d'=Sort.reverseLoop lo (hi-1) d) ?_
    (n:=hi-1-lo) ⟨lo,hi-1,d,rfl,rfl,hs,by omega,rfl,rfl⟩
  rintro I k x hp ⟨i,j,d',rfl,rfl,hs',hj,rfl,he⟩ hI
  unfold F160_l2
  rw [Sort.reverseLoop] at he
  by_cases hij:i<j
  · rw [if_pos hij] at he
    simp only []
    rw [decide_eq_true (by omega:(i:Int)<(j:Int)),ite2_true]
    refine swapP bdc_len bdc_one hs' (i:=i) (j:=j) rfl rfl (by omega) (by omega) ?_
    have v1:IntKind.wrap .i64 ((i:Int)+1)=((i+1:Nat):Int):=wi (by omega) (by omega)
    have v2:IntKind.wrap .i64 ((j:Int)-1)=((j-1:Nat):Int):=wi (by omega) (by omega)
    rw [v1,v2]
    exact hI (j-1-(i+1)) _ _ (by omega) ⟨i+1,j-1,_,rfl,rfl,by rw [swp_size]; exact hs',by omega,rfl,he⟩
  · rw [if_neg hij] at he
    simp only []
    rw [decide_eq_false (by omega:¬ (i:Int)<(j:Int)),ite2_false,he]
    exact h
end
end Go.Proofs
set_option linter.unusedVariables false
set_option maxRecDepth 20000
namespace Go.Proofs
open Go Go.HL
section
variable {f:FuncId} {ga gb:List Value} {hp0:HP} {b sp n c:Nat} {cf:Bd→Bd→Int}
theorem S161 (hc:CmpOk Tryz.prog f ga gb hp0 b 97 sp bdc n cf) {d:Array Bd} {lo hi:Nat} {K:Value→HP→Prop} (hs:d.size=n) (hlo:lo<hi) (hf:hi≤n) (hn:n≤1000000000)
    (h:K (.bool (Sort.partialInsertionSort (ltC cf) d lo hi).2) (HA hp0 b 97 sp bdc (Sort.partialInsertionSort (ltC cf) d lo hi).1)) :
    CF Tryz.prog 161 [.slice (some ⟨b,0,none⟩) n c,.int .i64 lo,.int .i64 hi,.func (.func f) ⟨ga⟩ ⟨gb⟩] (HA hp0 b 97 sp bdc d) K:=by
  refine F161_ok _ n c lo hi _ _ K ?_
  unfold F161 F161_j1
  have w1:IntKind.wrap .i64 ((lo:Int)+1)=((lo+1:Nat):Int):=wi (by omega) (by omega)
  rw [w1]
  generalize hR:Sort.partialInsertionSort (ltC cf) d lo hi=R at h
  unfold Sort.partialInsertionSort at hR
  refine LoopP.by (J:=fun k (s:Int × Int) hp=>∃ (i:Nat) (d':Array Bd),s=((i:Int),5-(k:Int))∧k≤5∧hp=HA hp0 b 97 sp bdc d'∧d'.size=n∧lo<i∧i≤hi∧Sort.partialIns (ltC cf) lo hi k i d'=R) ?_
    (n:=5) ⟨lo+1,d,rfl,Nat.le_refl _,rfl,hs,by omega,by omega,hR⟩
  rintro I k x hp ⟨i,d',rfl,hk5,rfl,hs',hli,hih,he⟩ hI
  unfold F161_l2
  simp only []
  cases k with
  | zero=>
    rw [decide_eq_false (by omega:¬ (5-((0:Nat):Int))<5),ite2_false]
    rw [Sort.partialIns] at he
    rw [← he] at h
    exact h
  | succ k=>
    rw [decide_eq_true (by omega:(5-((k+1:Nat):Int))<5),ite2_true]
    rw [Sort.partialIns_succ] at he
    unfold F161_j3
    have fin4:∀ (i:Nat) (d3:Array Bd),lo<i→i≤hi→d3.size=n→Sort.partialIns (ltC cf) lo hi k i d3=R →
        F161_j4 (some ⟨b,0,none⟩) n c lo hi (.func (.func f) ⟨ga⟩ ⟨gb⟩) i (5-((k+1:Nat):Int)) (HA hp0 b 97 sp bdc d3) I K:=by
      intro i d3 h1 h2 h3 h4
      unfold F161_j4
      have:IntKind.wrap .i64 (5-((k+1:Nat):Int)+1)=5-(k:Int):=by rw [w64 (by omega) (by omega)]; omega
      rw [this]
      exact hI k _ _ (by omega) ⟨i,d3,rfl,by omega,rfl,h3,h1,h2,h4⟩
    have fin6:∀ (i:Nat) (d2:Array Bd),lo<i→i<hi→d2.size=n→Sort.partialIns (ltC cf) lo hi k i (Sort.fixUp (ltC cf) hi i d2)=R →
        F161_j6 (some ⟨b,0,none⟩) n c lo hi (.func (.func f) ⟨ga⟩ ⟨gb⟩) i (5-((k+1:Nat):Int)) (HA hp0 b 97 sp bdc d2) I K:=by
      intro i d2 h1 h2 h3 h4
      unfold F161_j6
      have v:IntKind.wrap .i64 ((hi:Int)-(i:Int))=((hi-i:Nat):Int):=wi (by omega) (by omega)
      rw [v]
      unfold Sort.fixUp at h4
      by_cases h2':hi-i≥2
      · rw [if_pos h2'] at h4
        rw [decide_eq_true (by omega:((hi-i:Nat):Int)≥2),ite2_true]
        unfold F161_j7
        have v1:IntKind.wrap .i64 ((i:Int)+1)=((i+1:Nat):Int):=wi (by omega) (by omega)
        rw [v1]
        refine LoopP.by (J:=fun m (y:Int) hp=>∃ (j:Nat) (d3:Array Bd),y=j∧hp=HA hp0 b 97 sp bdc d3∧d3.size=n∧i<j∧m=hi-j∧Sort.shiftUp (ltC cf) hi j d3=Sort.shiftUp (ltC cf) hi (i+1) d2) ?_
          (n:=hi-(i+1)) ⟨i+1,d2,rfl,rfl,h3,by omega,rfl,rfl⟩
        rintro I8 m y hp ⟨j,d3,rfl,rfl,h5,h6,rfl,h7⟩ hI8
        unfold F161_l8
        rw [Sort.shiftUp] at h7
        by_cases hj:j<hi
        · rw [if_pos hj] at h7
          have v2:IntKind.wrap .i64 ((j:Int)-1)=((j-1:Nat):Int):=wi (by omega) (by omega)
          have v3:IntKind.wrap .i64 ((j:Int)+1)=((j+1:Nat):Int):=wi (by omega) (by omega)
          simp only [v2,v3]
          rw [decide_eq_true (by omega:(j:Int)<(hi:Int)),ite2_true]
          refine cmpP hc bdc_len h5 (i:=j) (j:=j-1) rfl rfl (by omega) (by omega) ?_
          have hl:decide (cf d3[j]! d3[j-1]!<0)=ltC cf d3[j]! d3[j-1]! := rfl
          rw [hl]
          cases hlt:ltC cf d3[j]! d3[j-1]!
          · rw [hlt] at h7
            simp only [Bool.not_false,if_true] at h7
            simp only [Bool.not_false,ite2_true]
            rw [← h7] at h4
            exact fin4 i d3 h1 (by omega) h5 h4
          · rw [hlt] at h7
            simp only [Bool.not_true,Bool.false_eq_true,if_false] at h7
            simp only [Bool.not_true,ite2_false]
            refine swapP bdc_len bdc_one h5 (i:=j) (j:=j-1) rfl rfl (by omega) (by omega) ?_
            exact hI8 (hi-(j+1)) _ _ (by omega) ⟨j+1,_,rfl,rfl,by rw [swp_size]; exact h5,by omega,rfl,h7⟩
        · rw [if_neg hj] at h7
          rw [decide_eq_false (by omega:¬ (j:Int)<(hi:Int)),ite2_false]
          rw [← h7] at h4
          exact fin4 i d3 h1 (by omega) h5 h4
      · rw [if_neg h2'] at h4
        rw [decide_eq_false (by omega:¬ ((hi-i:Nat):Int)≥2),ite2_false]
        exact fin4 i d2 h1 (by omega) h3 h4
    have fin5:∀ (i:Nat),lo<i→i≤hi→Sort.scanSorted (ltC cf) d' hi i=i →
        (if i=hi then (d',true) else if hi-lo<50 then (d',false) else Sort.partialIns (ltC cf) lo hi k i (Sort.fixUp (ltC cf) hi i (Sort.fixDown (ltC cf) lo i (Sort.swp d' i (i-1)))))=R →
        F161_j5 (some ⟨b,0,none⟩) n c lo hi (.func (.func f) ⟨ga⟩ ⟨gb⟩) i (5-((k+1:Nat):Int)) (HA hp0 b 97 sp bdc d') I K:=by
      intro i h1 h2 _ h4
      unfold F161_j5
      by_cases hih:i=hi
      · rw [if_pos hih] at h4
        subst hih
        simp only [beq_self_eq_true,ite2_true]
        rw [← h4] at h
        exact h
      rw [if_neg hih] at h4
      have hb:((i:Int)==(hi:Int))=false:=by
        rw [beq_eq_false_iff_ne]; omega
      rw [hb,ite2_false]
      have v:IntKind.wrap .i64 ((hi:Int)-(lo:Int))=((hi-lo:Nat):Int):=wi (by omega) (by omega)
      rw [v]
      by_cases h50:hi-lo<50
      · rw [if_pos h50] at h4
        rw [decide_eq_true (by omega:((hi-lo:Nat):Int)<50),ite2_true]
        rw [← h4] at h
        exact h
      rw [if_neg h50] at h4
      rw [decide_eq_false (by omega:¬ ((hi-lo:Nat):Int)<50),ite2_false]
      have v2:IntKind.wrap .i64 ((i:Int)-1)=((i-1:Nat):Int):=wi (by omega) (by omega)
      have v3:IntKind.wrap .i64 ((i:Int)-(lo:Int))=((i-lo:Nat):Int):=wi (by omega) (by omega)
      simp only [v2,v3]
      refine swapP bdc_len bdc_one hs' (i:=i) (j:=i-1) rfl rfl (by omega) (by omega) ?_
      have hs1:(Sort.swp d' i (i-1)).size=n:=by rw [swp_size]; exact hs'
      generalize Sort.swp d' i (i-1)=d1 at *
      unfold Sort.fixDown at h4
      by_cases hd:i-lo≥2
      · rw [if_pos hd] at h4
        rw [decide_eq_true (by omega:((i-lo:Nat):Int)≥2),ite2_true]
        unfold F161_j9
        refine LoopP.by (J:=fun m (y:Int) hp=>∃ (d2:Array Bd),y=m∧hp=HA hp0 b 97 sp bdc d2∧d2.size=n∧m<n∧Sort.shiftDown (ltC cf) m d2=Sort.shiftDown (ltC cf) (i-1) d1) ?_
          (n:=i-1) ⟨d1,rfl,rfl,hs1,by omega,rfl⟩
        rintro I10 m y hp ⟨d2,rfl,rfl,h5,h6,h7⟩ hI10
        unfold F161_l10
        cases m with
        | zero=>
          rw [Sort.shiftDown] at h7
          rw [decide_eq_false (by omega:¬ ((0:Nat):Int)≥1),ite2_false]
          rw [← h7] at h4
          exact fin6 i d2 h1 (by omega) h5 h4
        | succ m=>
          rw [Sort.shiftDown] at h7
          have v4:IntKind.wrap .i64 (((m+1:Nat):Int)-1)=(m:Int):=wi (by omega) (by omega)
          simp only [v4]
          rw [decide_eq_true (by omega:((m+1:Nat):Int)≥1),ite2_true]
          refine cmpP hc bdc_len h5 (i:=m+1) (j:=m) rfl rfl (by omega) (by omega) ?_
          have hl:decide (cf d2[m+1]! d2[m]!<0)=ltC cf d2[m+1]! d2[m]! := rfl
          rw [hl]
          cases hlt:ltC cf d2[m+1]! d2[m]!
          · rw [hlt] at h7
            simp only [Bool.not_false,if_true] at h7
            simp only [Bool.not_false,ite2_true]
            rw [← h7] at h4
            exact fin6 i d2 h1 (by omega) h5 h4
          · rw [hlt] at h7
            simp only [Bool.not_true,Bool.false_eq_true,if_false] at h7
            simp only [Bool.not_true,ite2_false]
            refine swapP bdc_len bdc_one h5 (i:=m+1) (j:=m) rfl rfl (by omega) (by omega) ?_
            exact hI10 m _ _ (by omega) ⟨_,rfl,rfl,by rw [swp_size]; exact h5,by omega,h7⟩
      · rw [if_neg hd] at h4
        rw [decide_eq_false (by omega:¬ ((i-lo:Nat):Int)≥2),ite2_false]
        exact fin6 i d1 h1 (by omega) hs1 h4
    refine LoopP.by (J:=fun m (y:Int) hp=>∃ (i':Nat),y=i'∧hp=HA hp0 b 97 sp bdc d'∧lo<i'∧i'≤hi∧m=hi-i'∧Sort.scanSorted (ltC cf) d' hi i'=Sort.scanSorted (ltC cf) d' hi i) ?_
      (n:=hi-i) ⟨i,rfl,rfl,hli,hih,rfl,rfl⟩
    rintro I11 m y hp ⟨i',rfl,rfl,h1,h2,rfl,h7⟩ hI11
    unfold F161_l11
    rw [← h7] at he
    have out:Sort.scanSorted (ltC cf) d' hi i'=i'→F161_j12 (some ⟨b,0,none⟩) n c lo hi (.func (.func f) ⟨ga⟩ ⟨gb⟩) i' (5-((k+1:Nat):Int)) false (HA hp0 b 97 sp bdc d') I I11 K:=by
      intro hq
      unfold F161_j12
      rw [ite2_false]
      rw [hq] at he
      exact fin5 i' h1 h2 hq he
    by_cases hj:i'<hi
    · have v2:IntKind.wrap .i64 ((i':Int)-1)=((i' - 1:Nat):Int):=wi (by omega) (by omega)
      simp only [v2]
      rw [decide_eq_true (by omega:(i':Int)<(hi:Int)),ite2_true]
      refine cmpP hc bdc_len hs' (i:=i') (j:=i' - 1) rfl rfl (by omega) (by omega) ?_
      have hl:decide (cf d'[i']! d'[i' - 1]!<0)=ltC cf d'[i']! d'[i' - 1]! := rfl
      rw [hl]
      cases hlt:ltC cf d'[i']! d'[i' - 1]!
      · unfold F161_j12
        have v3:IntKind.wrap .i64 ((i':Int)+1)=((i'+1:Nat):Int):=wi (by omega) (by omega)
        simp only [Bool.not_false,ite2_true,v3]
        refine hI11 (hi-(i'+1)) _ _ (by omega) ⟨i'+1,rfl,rfl,by omega,by omega,rfl,?_⟩
        rw [← h7]
        rw [Sort.scanSorted.eq_def (ltC cf) d' hi i',hlt,decide_eq_true hj]
        simp
      · simp only [Bool.not_true]
        refine out ?_
        rw [Sort.scanSorted,hlt]
        simp
    · rw [decide_eq_false (by omega:¬ (i':Int)<(hi:Int)),ite2_false]
      refine out ?_
      rw [Sort.scanSorted,decide_eq_false hj]
      simp
end
end Go.Proofs
set_option linter.unusedVariables false
set_option maxRecDepth 20000
namespace Go.Proofs
open Go Go.HL
section
variable {f:FuncId} {ga gb:List Value} {hp0:HP} {b sp n c:Nat} {cf:Bd→Bd→Int}
theorem S162 (hc:CmpOk Tryz.prog f ga gb hp0 b 97 sp bdc n cf) {d:Array Bd} {lo hi pv:Nat} {K:Value→HP→Prop} (hs:d.size=n) (hlo:lo<hi) (hf:hi≤n) (hp:pv<n) (hn:n≤1000000000)
    (h:K (.int .i64 ((Sort.partitionEqual (ltC cf) d lo hi pv).1:Nat)) (HA hp0 b 97 sp bdc (Sort.partitionEqual (ltC cf) d lo hi pv).2)) :
    CF Tryz.prog 162 [.slice (some ⟨b,0,none⟩) n c,.int .i64 lo,.int .i64 hi,.int .i64 pv,.func (.func f) ⟨ga⟩ ⟨gb⟩] (HA hp0 b 97 sp bdc d) K:=by
  refine F162_ok _ n c lo hi pv _ _ K ?_
  unfold F162
  refine swapP bdc_len bdc_one hs (i:=lo) (j:=pv) rfl rfl (by omega) (by omega) ?_
  unfold Sort.partitionEqual at h
  have hs1:(Sort.swp d lo pv).size=n:=by rw [swp_size]; exact hs
  generalize Sort.swp d lo pv=d1 at *
  have w1:IntKind.wrap .i64 ((lo:Int)+1)=((lo+1:Nat):Int):=wi (by omega) (by omega)
  have w2:IntKind.wrap .i64 ((hi:Int)-1)=((hi-1:Nat):Int):=wi (by omega) (by omega)
  rw [w1,w2]
  generalize hR:Sort.partEqLoop (ltC cf) lo (lo+1) (hi-1) d1=R at h
  unfold F162_j1
  refine LoopP.by (J:=fun k (s:Int × Int) hp=>∃ (i j:Nat) (d':Array Bd),s=((i:Int),(j:Int))∧hp=HA hp0 b 97 sp bdc d'∧d'.size=n∧lo<i∧i≤j+2∧j<n∧k=j+1-i∧Sort.partEqLoop (ltC cf) lo i j d'=R) ?_
    (n:=hi-1+1-(lo+1)) ⟨lo+1,hi-1,d1,rfl,rfl,hs1,by omega,by omega,by omega,rfl,hR⟩
  rintro I k x hp ⟨i,j,d',rfl,rfl,hs',hli,hij,hj,rfl,he⟩ hI
  unfold F162_l3
  simp only []
  rw [Sort.partEqLoop_eq] at he
  refine LoopP.by (J:=fun m (y:Int) hp=>∃ (i':Nat),y=i'∧hp=HA hp0 b 97 sp bdc d'∧i≤i'∧i'≤j+2∧m=j+2-i'∧Sort.scanUp (fun x=>!ltC cf d'[lo]! x) d' j i'=Sort.scanUp (fun x=>!ltC cf d'[lo]! x) d' j i) ?_
    (n:=j+2-i) ⟨i,rfl,rfl,Nat.le_refl _,hij,rfl,rfl⟩
  rintro I8 m y hp ⟨i',rfl,rfl,h1,h2,rfl,h7⟩ hI8
  unfold F162_l8
  rw [← h7] at he
  have out:Sort.scanUp (fun x=>!ltC cf d'[lo]! x) d' j i'=i'→F162_j9 (some ⟨b,0,none⟩) n c lo (.func (.func f) ⟨ga⟩ ⟨gb⟩) i' j false (HA hp0 b 97 sp bdc d') I I8 K:=by
    intro hq
    rw [hq] at he
    unfold F162_j9 F162_j4
    rw [ite2_false]
    refine LoopP.by (J:=fun m (y:Int) hp=>∃ (j':Nat),y=j'∧hp=HA hp0 b 97 sp bdc d'∧j'≤j∧m=j'∧Sort.scanDown (fun x=>ltC cf d'[lo]! x) d' i' j'=Sort.scanDown (fun x=>ltC cf d'[lo]! x) d' i' j) ?_
      (n:=j) ⟨j,rfl,rfl,Nat.le_refl _,rfl,rfl⟩
    rintro I6 m y hp ⟨j',rfl,rfl,g1,rfl,g7⟩ hI6
    unfold F162_l6
    rw [← g7] at he
    have out2:Sort.scanDown (fun x=>ltC cf d'[lo]! x) d' i' m=m→F162_j7 (some ⟨b,0,none⟩) n c lo (.func (.func f) ⟨ga⟩ ⟨gb⟩) i' m false (HA hp0 b 97 sp bdc d') I I6 K:=by
      intro hq2
      rw [hq2] at he
      unfold F162_j7 F162_j5
      rw [ite2_false]
      by_cases hgt:i' > m
      · rw [if_pos hgt] at he
        rw [decide_eq_true (by omega:(i':Int) > (m:Int)),ite2_true]
        unfold F162_j2
        rw [← he] at h
        exact h
      · rw [if_neg hgt] at he
        rw [decide_eq_false (by omega:¬ (i':Int) > (m:Int)),ite2_false]
        refine swapP bdc_len bdc_one hs' (i:=i') (j:=m) rfl rfl (by omega) (by omega) ?_
        have v1:IntKind.wrap .i64 ((i':Int)+1)=((i'+1:Nat):Int):=wi (by omega) (by omega)
        have v2:IntKind.wrap .i64 ((m:Int)-1)=((m-1:Nat):Int):=wi (by omega) (by omega)
        rw [v1,v2]
        exact hI (m-1+1-(i'+1)) _ _ (by omega) ⟨i'+1,m-1,_,rfl,rfl,by rw [swp_size]; exact hs',by omega,by omega,by omega,rfl,he⟩
    by_cases hle:i'≤m
    · rw [decide_eq_true (by omega:(i':Int)≤(m:Int)),ite2_true]
      refine cmpP hc bdc_len hs' (i:=lo) (j:=m) rfl rfl (by omega) (by omega) ?_
      have hl:decide (cf d'[lo]! d'[m]!<0)=ltC cf d'[lo]! d'[m]! := rfl
      rw [hl]
      obtain ⟨m,rfl⟩:∃ m',m=m'+1:=⟨m-1,by omega⟩
      cases hlt:ltC cf d'[lo]! d'[m+1]!
      · refine out2 ?_
        rw [Sort.scanDown,hlt]
        simp
      · unfold F162_j7
        have v2:IntKind.wrap .i64 (((m+1:Nat):Int)-1)=(m:Int):=wi (by omega) (by omega)
        rw [ite2_true,v2]
        refine hI6 m _ _ (by omega) ⟨m,rfl,rfl,by omega,rfl,?_⟩
        rw [← g7,Sort.scanDown.eq_def _ _ _ (m+1)]
        simp only [hlt,decide_eq_true hle,Bool.and_self,if_true]
    · rw [decide_eq_false (by omega:¬ (i':Int)≤(m:Int)),ite2_false]
      refine out2 ?_
      cases m with
      | zero=>rw [Sort.scanDown]
      | succ m=>rw [Sort.scanDown,decide_eq_false hle]; simp
  by_cases hle:i'≤j
  · rw [decide_eq_true (by omega:(i':Int)≤(j:Int)),ite2_true]
    refine cmpP hc bdc_len hs' (i:=lo) (j:=i') rfl rfl (by omega) (by omega) ?_
    have hl:decide (cf d'[lo]! d'[i']!<0)=ltC cf d'[lo]! d'[i']! := rfl
    rw [hl]
    cases hlt:ltC cf d'[lo]! d'[i']!
    · unfold F162_j9
      have v2:IntKind.wrap .i64 ((i':Int)+1)=((i'+1:Nat):Int):=wi (by omega) (by omega)
      simp only [Bool.not_false,ite2_true,v2]
      refine hI8 (j+2-(i'+1)) _ _ (by omega) ⟨i'+1,rfl,rfl,by omega,by omega,rfl,?_⟩
      rw [← h7,Sort.scanUp.eq_def _ _ _ i']
      simp only [hlt,decide_eq_true hle,Bool.not_false,Bool.and_self,if_true]
    · simp only [Bool.not_true]
      refine out ?_
      rw [Sort.scanUp,hlt]
      simp
  · rw [decide_eq_false (by omega:¬ (i':Int)≤(j:Int)),ite2_false]
    refine out ?_
    rw [Sort.scanUp,decide_eq_false hle]
    simp
end
end Go.Proofs
set_option linter.unusedVariables false
set_option maxRecDepth 20000
namespace Go.Proofs
open Go Go.HL
section
variable {f:FuncId} {ga gb:List Value} {hp0:HP} {b sp n c:Nat} {cf:Bd→Bd→Int}
theorem S163 (hc:CmpOk Tryz.prog f ga gb hp0 b 97 sp bdc n cf) {d:Array Bd} {lo hi pv:Nat} {K:Value→HP→Prop} (hs:d.size=n) (hlo:lo<hi) (hf:hi≤n) (hp:pv<n) (hn:n≤1000000000)
    (h:K (.tuple ⟨[.int .i64 ((Sort.partition (ltC cf) d lo hi pv).1:Nat),.bool (Sort.partition (ltC cf) d lo hi pv).2.1]⟩) (HA hp0 b 97 sp bdc (Sort.partition (ltC cf) d lo hi pv).2.2)) :
    CF Tryz.prog 163 [.slice (some ⟨b,0,none⟩) n c,.int .i64 lo,.int .i64 hi,.int .i64 pv,.func (.func f) ⟨ga⟩ ⟨gb⟩] (HA hp0 b 97 sp bdc d) K:=by
  refine F163_ok _ n c lo hi pv _ _ K ?_
  unfold F163
  refine swapP bdc_len bdc_one hs (i:=lo) (j:=pv) rfl rfl (by omega) (by omega) ?_
  unfold Sort.partition at h
  have hs':(Sort.swp d lo pv).size=n:=by rw [swp_size]; exact hs
  generalize Sort.swp d lo pv=d' at *
  have w1:IntKind.wrap .i64 ((lo:Int)+1)=((lo+1:Nat):Int):=wi (by omega) (by omega)
  have w2:IntKind.wrap .i64 ((hi:Int)-1)=((hi-1:Nat):Int):=wi (by omega) (by omega)
  rw [w1,w2]
  simp only [] at h
  have hij:lo+1≤hi-1+2:=by omega
  have hjn:hi-1<n:=by omega
  have hli:lo<lo+1:=by omega
  generalize hi0:lo+1=i at *
  generalize hj0:hi-1=j at *
  unfold F163_j1
  have fin:∀ (i' m:Nat),Sort.scanUp (fun x=>ltC cf x d'[lo]!) d' j i=i'→Sort.scanDown (fun x=>!ltC cf x d'[lo]!) d' i' j=m→i≤i'→i'≤j+2→m≤j→F163_j3 (some ⟨b,0,none⟩) n c lo (.func (.func f) ⟨ga⟩ ⟨gb⟩) i' m (HA hp0 b 97 sp bdc d') K:=by
    intro i' m hq hq2 h1 h2 h3
    rw [hq,hq2] at h
    unfold F163_j3
    by_cases hgt:i' > m
    · rw [if_pos hgt] at h
      rw [decide_eq_true (by omega:(i':Int) > (m:Int)),ite2_true]
      refine swapP bdc_len bdc_one hs' (i:=m) (j:=lo) rfl rfl (by omega) (by omega) ?_
      exact h
    rw [if_neg hgt] at h
    rw [decide_eq_false (by omega:¬ (i':Int) > (m:Int)),ite2_false]
    refine swapP bdc_len bdc_one hs' (i:=i') (j:=m) rfl rfl (by omega) (by omega) ?_
    have v1:IntKind.wrap .i64 ((i':Int)+1)=((i'+1:Nat):Int):=wi (by omega) (by omega)
    have v2:IntKind.wrap .i64 ((m:Int)-1)=((m-1:Nat):Int):=wi (by omega) (by omega)
    rw [v1,v2]
    have hs2:(Sort.swp d' i' m).size=n:=by rw [swp_size]; exact hs'
    generalize Sort.swp d' i' m=d2 at *
    generalize hR:Sort.partLoop (ltC cf) lo (i'+1) (m-1) d2=R at h
    unfold F163_j4
    refine LoopP.by (J:=fun k (s:Int × Int) hp=>∃ (i j:Nat) (d':Array Bd),s=((i:Int),(j:Int))∧hp=HA hp0 b 97 sp bdc d'∧d'.size=n∧lo<i∧i≤j+2∧j<n∧k=j+1-i∧Sort.partLoop (ltC cf) lo i j d'=R) ?_
      (n:=m-1+1-(i'+1)) ⟨i'+1,m-1,d2,rfl,rfl,hs2,by omega,by omega,by omega,rfl,hR⟩
    clear hs' hij hjn hli hq hq2 h1 h2 h3 hR
    clear hi0 hj0
    rintro I6 k x hp ⟨i,j,d',rfl,rfl,hs',hli,hij,hj,rfl,he⟩ hI
    unfold F163_l6
    simp only []
    rw [Sort.partLoop_eq] at he
    have fin2:∀ (i' m:Nat),Sort.scanUp (fun x=>ltC cf x d'[lo]!) d' j i=i'→Sort.scanDown (fun x=>!ltC cf x d'[lo]!) d' i' j=m→i≤i'→i'≤j+2→m≤j→F163_j8 (some ⟨b,0,none⟩) n c lo (.func (.func f) ⟨ga⟩ ⟨gb⟩) i' m (HA hp0 b 97 sp bdc d') I6 K:=by
      intro i' m hq hq2 h1 h2 h3
      rw [hq,hq2] at he
      unfold F163_j8
      by_cases hgt:i' > m
      · rw [if_pos hgt] at he
        rw [decide_eq_true (by omega:(i':Int) > (m:Int)),ite2_true]
        unfold F163_j5
        rw [← he] at h
        refine swapP bdc_len bdc_one hs' (i:=m) (j:=lo) rfl rfl (by omega) (by omega) ?_
        exact h
      · rw [if_neg hgt] at he
        rw [decide_eq_false (by omega:¬ (i':Int) > (m:Int)),ite2_false]
        refine swapP bdc_len bdc_one hs' (i:=i') (j:=m) rfl rfl (by omega) (by omega) ?_
        have v1:IntKind.wrap .i64 ((i':Int)+1)=((i'+1:Nat):Int):=wi (by omega) (by omega)
        have v2:IntKind.wrap .i64 ((m:Int)-1)=((m-1:Nat):Int):=wi (by omega) (by omega)
        rw [v1,v2]
        exact hI (m-1+1-(i'+1)) _ _ (by omega) ⟨i'+1,m-1,_,rfl,rfl,by rw [swp_size]; exact hs',by omega,by omega,by omega,rfl,he⟩
    clear he
    refine LoopP.by (J:=fun m (y:Int) hp=>∃ (i':Nat),y=i'∧hp=HA hp0 b 97 sp bdc d'∧i≤i'∧i'≤j+2∧m=j+2-i'∧Sort.scanUp (fun x=>ltC cf x d'[lo]!) d' j i'=Sort.scanUp (fun x=>ltC cf x d'[lo]!) d' j i) ?_
      (n:=j+2-i) ⟨i,rfl,rfl,Nat.le_refl _,hij,rfl,rfl⟩
    rintro I11 m y hp ⟨i',rfl,rfl,h1,h2,rfl,h7⟩ hI11
    unfold F163_l11
    have out:Sort.scanUp (fun x=>ltC cf x d'[lo]!) d' j i'=i'→F163_j12 (some ⟨b,0,none⟩) n c lo (.func (.func f) ⟨ga⟩ ⟨gb⟩) i' j false (HA hp0 b 97 sp bdc d') I6 I11 K:=by
      intro hq
      rw [hq] at h7
      unfold F163_j12 F163_j7
      rw [ite2_false]
      refine LoopP.by (J:=fun m (y:Int) hp=>∃ (j':Nat),y=j'∧hp=HA hp0 b 97 sp bdc d'∧j'≤j∧m=j'∧Sort.scanDown (fun x=>!ltC cf x d'[lo]!) d' i' j'=Sort.scanDown (fun x=>!ltC cf x d'[lo]!) d' i' j) ?_
        (n:=j) ⟨j,rfl,rfl,Nat.le_refl _,rfl,rfl⟩
      rintro I9 m y hp ⟨j',rfl,rfl,g1,rfl,g7⟩ hI9
      unfold F163_l9
      have out2:Sort.scanDown (fun x=>!ltC cf x d'[lo]!) d' i' m=m→F163_j10 (some ⟨b,0,none⟩) n c lo (.func (.func f) ⟨ga⟩ ⟨gb⟩) i' m false (HA hp0 b 97 sp bdc d') I6 I9 K:=by
        intro hq2
        rw [hq2] at g7
        unfold F163_j10
        rw [ite2_false]
        exact fin2 i' m h7.symm g7.symm h1 h2 g1
      by_cases hle:i'≤m
      · rw [decide_eq_true (by omega:(i':Int)≤(m:Int)),ite2_true]
        refine cmpP hc bdc_len hs' (i:=m) (j:=lo) rfl rfl (by omega) (by omega) ?_
        have hl:decide (cf d'[m]! d'[lo]!<0)=ltC cf d'[m]! d'[lo]! := rfl
        rw [hl]
        obtain ⟨m,rfl⟩:∃ m',m=m'+1:=⟨m-1,by omega⟩
        cases hlt:ltC cf d'[m+1]! d'[lo]!
        · unfold F163_j10
          have v2:IntKind.wrap .i64 (((m+1:Nat):Int)-1)=(m:Int):=wi (by omega) (by omega)
          simp only [Bool.not_false,ite2_true,v2]
          refine hI9 m _ _ (by omega) ⟨m,rfl,rfl,by omega,rfl,?_⟩
          rw [← g7,Sort.scanDown.eq_def _ _ _ (m+1)]
          simp only [hlt,decide_eq_true hle,Bool.not_false,Bool.and_self,if_true]
        · simp only [Bool.not_true]
          refine out2 ?_
          rw [Sort.scanDown,hlt]
          simp
      · rw [decide_eq_false (by omega:¬ (i':Int)≤(m:Int)),ite2_false]
        refine out2 ?_
        cases m with
        | zero=>rw [Sort.scanDown]
        | succ m=>rw [Sort.scanDown,decide_eq_false hle]; simp
    by_cases hle:i'≤j
    · rw [decide_eq_true (by omega:(i':Int)≤(j:Int)),ite2_true]
      refine cmpP hc bdc_len hs' (i:=i') (j:=lo) rfl rfl (by omega) (by omega) ?_
      have hl:decide (cf d'[i']! d'[lo]!<0)=ltC cf d'[i']! d'[lo]! := rfl
      rw [hl]
      cases hlt:ltC cf d'[i']! d'[lo]!
      · refine out ?_
        rw [Sort.scanUp,hlt]
        simp
      · unfold F163_j12
        have v2:IntKind.wrap .i64 ((i':Int)+1)=((i'+1:Nat):Int):=wi (by omega) (by omega)
        simp only [ite2_true,v2]
        refine hI11 (j+2-(i'+1)) _ _ (by omega) ⟨i'+1,rfl,rfl,by omega,by omega,rfl,?_⟩
        rw [← h7,Sort.scanUp.eq_def _ _ _ i']
        simp only [hlt,decide_eq_true hle,Bool.and_self,if_true]
    · rw [decide_eq_false (by omega:¬ (i':Int)≤(j:Int)),ite2_false]
      refine out ?_
      rw [Sort.scanUp,decide_eq_false hle]
      simp
  refine LoopP.by (J:=fun m (y:Int) hp=>∃ (i':Nat),y=i'∧hp=HA hp0 b 97 sp bdc d'∧i≤i'∧i'≤j+2∧m=j+2-i'∧Sort.scanUp (fun x=>ltC cf x d'[lo]!) d' j i'=Sort.scanUp (fun x=>ltC cf x d'[lo]!) d' j i) ?_
    (n:=j+2-i) ⟨i,rfl,rfl,Nat.le_refl _,hij,rfl,rfl⟩
  rintro I15 m y hp ⟨i',rfl,rfl,h1,h2,rfl,h7⟩ hI15
  unfold F163_l15
  have out:Sort.scanUp (fun x=>ltC cf x d'[lo]!) d' j i'=i'→F163_j16 (some ⟨b,0,none⟩) n c lo (.func (.func f) ⟨ga⟩ ⟨gb⟩) i' j false (HA hp0 b 97 sp bdc d')  I15 K:=by
    intro hq
    rw [hq] at h7
    unfold F163_j16 F163_j2
    rw [ite2_false]
    refine LoopP.by (J:=fun m (y:Int) hp=>∃ (j':Nat),y=j'∧hp=HA hp0 b 97 sp bdc d'∧j'≤j∧m=j'∧Sort.scanDown (fun x=>!ltC cf x d'[lo]!) d' i' j'=Sort.scanDown (fun x=>!ltC cf x d'[lo]!) d' i' j) ?_
      (n:=j) ⟨j,rfl,rfl,Nat.le_refl _,rfl,rfl⟩
    rintro I13 m y hp ⟨j',rfl,rfl,g1,rfl,g7⟩ hI13
    unfold F163_l13
    have out2:Sort.scanDown (fun x=>!ltC cf x d'[lo]!) d' i' m=m→F163_j14 (some ⟨b,0,none⟩) n c lo (.func (.func f) ⟨ga⟩ ⟨gb⟩) i' m false (HA hp0 b 97 sp bdc d')  I13 K:=by
      intro hq2
      rw [hq2] at g7
      unfold F163_j14
      rw [ite2_false]
      exact fin i' m h7.symm g7.symm h1 h2 g1
    by_cases hle:i'≤m
    · rw [decide_eq_true (by omega:(i':Int)≤(m:Int)),ite2_true]
      refine cmpP hc bdc_len hs' (i:=m) (j:=lo) rfl rfl (by omega) (by omega) ?_
      have hl:decide (cf d'[m]! d'[lo]!<0)=ltC cf d'[m]! d'[lo]! := rfl
      rw [hl]
      obtain ⟨m,rfl⟩:∃ m',m=m'+1:=⟨m-1,by omega⟩
      cases hlt:ltC cf d'[m+1]! d'[lo]!
      · unfold F163_j14
        have v2:IntKind.wrap .i64 (((m+1:Nat):Int)-1)=(m:Int):=wi (by omega) (by omega)
        simp only [Bool.not_false,ite2_true,v2]
        refine hI13 m _ _ (by omega) ⟨m,rfl,rfl,by omega,rfl,?_⟩
        rw [← g7,Sort.scanDown.eq_def _ _ _ (m+1)]
        simp only [hlt,decide_eq_true hle,Bool.not_false,Bool.and_self,if_true]
      · simp only [Bool.not_true]
        refine out2 ?_
        rw [Sort.scanDown,hlt]
        simp
    · rw [decide_eq_false (by omega:¬ (i':Int)≤(m:Int)),ite2_false]
      refine out2 ?_
      cases m with
      | zero=>rw [Sort.scanDown]
      | succ m=>rw [Sort.scanDown,decide_eq_false hle]; simp
  by_cases hle:i'≤j
  · rw [decide_eq_true (by omega:(i':Int)≤(j:Int)),ite2_true]
    refine cmpP hc bdc_len hs' (i:=i') (j:=lo) rfl rfl (by omega) (by omega) ?_
    have hl:decide (cf d'[i']! d'[lo]!<0)=ltC cf d'[i']! d'[lo]! := rfl
    rw [hl]
    cases hlt:ltC cf d'[i']! d'[lo]!
    · refine out ?_
      rw [Sort.scanUp,hlt]
      simp
    · unfold F163_j16
      have v2:IntKind.wrap .i64 ((i':Int)+1)=((i'+1:Nat):Int):=wi (by omega) (by omega)
      simp only [ite2_true,v2]
      refine hI15 (j+2-(i'+1)) _ _ (by omega) ⟨i'+1,rfl,rfl,by omega,by omega,rfl,?_⟩
      rw [← h7,Sort.scanUp.eq_def _ _ _ i']
      simp only [hlt,decide_eq_true hle,Bool.and_self,if_true]
  · rw [decide_eq_false (by omega:¬ (i':Int)≤(j:Int)),ite2_false]
    refine out ?_
    rw [Sort.scanUp,decide_eq_false hle]
    simp
end
end Go.Proofs
set_option linter.unusedVariables false
set_option maxRecDepth 20000
namespace Go.Proofs
open Go Go.HL
def F139_j6 (x0a:OA) (x0n x0c:Nat) (x1 x2 x3:Int) (x4:Value) (x10 x11:Bool) (x12 x13:Int) (x97:Bool) (hp:HP) (I2:(Int × Int × Int × Bool × Bool)→HP→Prop) (K:Kh):Prop:=
  (ite2 x97 (CF Tryz.prog 162 [(Value.slice x0a x0n x0c),(Value.int .i64 x1),(Value.int .i64 x2),(Value.int .i64 x13),x4] hp fun u_11 h_12=>(intV u_11 .i64 fun i_13=>(I2 (i_13,x2,x3,x10,x11) h_12))) (CF Tryz.prog 163 [(Value.slice x0a x0n x0c),(Value.int .i64 x1),(Value.int .i64 x2),(Value.int .i64 x13),x4] hp fun u_14 h_15=>(tup2V u_14 fun u_16 u_17=>(intV u_16 .i64 fun i_18=>(boolV u_17 fun q_19=>(((8:Int)≠0)∧(ite2 (decide (((IntKind.wrap .i64 (i_18-x1)):Int)<(IntKind.wrap .i64 (x2-i_18)))) (CF Tryz.prog 139 [(Value.slice x0a x0n x0c),(Value.int .i64 x1),(Value.int .i64 i_18),(Value.int .i64 x3),x4] h_15 fun u_20 h_21=>(I2 ((IntKind.wrap .i64 (i_18+1)),x2,x3,(decide (((IntKind.wrap .i64 (i_18-x1)):Int)≥(IntKind.wrap .i64 (Int.tdiv x12 8)))),q_19) h_21)) (CF Tryz.prog 139 [(Value.slice x0a x0n x0c),(Value.int .i64 (IntKind.wrap .i64 (i_18+1))),(Value.int .i64 x2),(Value.int .i64 x3),x4] h_15 fun u_22 h_23=>(I2 (x1,i_18,x3,(decide (((IntKind.wrap .i64 (x2-i_18)):Int)≥(IntKind.wrap .i64 (Int.tdiv x12 8)))),q_19) h_23)))))))))
def F139_j5 (x0a:OA) (x0n x0c:Nat) (x1 x2 x3:Int) (x4:Value) (x10 x11:Bool) (x12 x13:Int) (hp:HP) (I2:(Int × Int × Int × Bool × Bool)→HP→Prop) (K:Kh):Prop:=
  (ite2 (decide ((x1:Int) > 0)) ((0≤((IntKind.wrap .i64 (x1-1)):Int))∧(((IntKind.wrap .i64 (x1-1)):Int)<(x0n:Nat))∧(ptrN x0a fun b_24 o_25=>(ldL (HP.cellN hp b_24 (o_25+Int.toNat (IntKind.wrap .i64 (x1-1))*26) 26) fun l_26=>((0≤(x13:Int))∧((x13:Int)<(x0n:Nat))∧(ptrN x0a fun b_27 o_28=>(ldL (HP.cellN hp b_27 (o_28+Int.toNat x13*26) 26) fun l_29=>(fnV x4 fun f_30 ga_31 gb_32=>(CF Tryz.prog f_30 (ga_31++[(Value.agg ⟨l_26⟩),(Value.agg ⟨l_29⟩)]++gb_32) hp fun u_33 h_34=>(intV u_33 .i64 fun i_35=>(F139_j6 x0a x0n x0c x1 x2 x3 x4 x10 x11 x12 x13 (!(decide ((i_35:Int)<0))) h_34 I2 K)))))))))) (F139_j6 x0a x0n x0c x1 x2 x3 x4 x10 x11 x12 x13 false hp I2 K))
def F139_j7 (x0a:OA) (x0n x0c:Nat) (x1 x2 x3:Int) (x4:Value) (x10 x11:Bool) (x12 x13:Int) (x75:Bool) (hp:HP) (I2:(Int × Int × Int × Bool × Bool)→HP→Prop) (K:Kh):Prop:=
  (ite2 x75 (CF Tryz.prog 161 [(Value.slice x0a x0n x0c),(Value.int .i64 x1),(Value.int .i64 x2),x4] hp fun u_36 h_37=>(boolV u_36 fun q_38=>(ite2 q_38 (K (.tuple ⟨[]⟩) h_37) (F139_j5 x0a x0n x0c x1 x2 x3 x4 x10 x11 x12 x13 h_37 I2 K)))) (F139_j5 x0a x0n x0c x1 x2 x3 x4 x10 x11 x12 x13 hp I2 K))
def F139_j4 (x0a:OA) (x0n x0c:Nat) (x1 x2 x3:Int) (x4:Value) (x10 x11:Bool) (x12 x13 x14:Int) (hp:HP) (I2:(Int × Int × Int × Bool × Bool)→HP→Prop) (K:Kh):Prop:=
  (ite2 x10 (ite2 x11 (F139_j7 x0a x0n x0c x1 x2 x3 x4 x10 x11 x12 x13 ((x14:Int)==1) hp I2 K) (F139_j7 x0a x0n x0c x1 x2 x3 x4 x10 x11 x12 x13 false hp I2 K)) (F139_j7 x0a x0n x0c x1 x2 x3 x4 x10 x11 x12 x13 false hp I2 K))
def F139_j3 (x0a:OA) (x0n x0c:Nat) (x1 x2 x3:Int) (x4:Value) (x10 x11:Bool) (x12:Int) (hp:HP) (I2:(Int × Int × Int × Bool × Bool)→HP→Prop) (K:Kh):Prop:=
  (CF Tryz.prog 159 [(Value.slice x0a x0n x0c),(Value.int .i64 x1),(Value.int .i64 x2),x4] hp fun u_5 h_6=>(tup2V u_5 fun u_7 u_8=>(intV u_7 .i64 fun i_9=>(intV u_8 .i64 fun i_10=>(ite2 ((i_10:Int)==2) (CF Tryz.prog 160 [(Value.slice x0a x0n x0c),(Value.int .i64 x1),(Value.int .i64 x2),x4] h_6 fun u_39 h_40=>(F139_j4 x0a x0n x0c x1 x2 x3 x4 x10 x11 x12 (IntKind.wrap .i64 ((IntKind.wrap .i64 (x2-1))-(IntKind.wrap .i64 (i_9-x1)))) 1 h_40 I2 K)) (F139_j4 x0a x0n x0c x1 x2 x3 x4 x10 x11 x12 i_9 i_10 h_6 I2 K))))))
def F139_l2 (x0a:OA) (x0n x0c:Nat) (x4:Value) (K:Kh) (I2:(Int × Int × Int × Bool × Bool)→HP→Prop) (x1 x2 x3:Int) (x10 x11:Bool) (hp:HP):Prop:=
  (ite2 (decide (((IntKind.wrap .i64 (x2-x1)):Int)≤12)) (CF Tryz.prog 156 [(Value.slice x0a x0n x0c),(Value.int .i64 x1),(Value.int .i64 x2),x4] hp fun u_1 h_2=>(K (.tuple ⟨[]⟩) h_2)) (ite2 ((x3:Int)==0) (CF Tryz.prog 157 [(Value.slice x0a x0n x0c),(Value.int .i64 x1),(Value.int .i64 x2),x4] hp fun u_3 h_4=>(K (.tuple ⟨[]⟩) h_4)) (ite2 (!x10) (CF Tryz.prog 158 [(Value.slice x0a x0n x0c),(Value.int .i64 x1),(Value.int .i64 x2),x4] hp fun u_41 h_42=>(F139_j3 x0a x0n x0c x1 x2 (IntKind.wrap .i64 (x3-1)) x4 x10 x11 (IntKind.wrap .i64 (x2-x1)) h_42 I2 K)) (F139_j3 x0a x0n x0c x1 x2 x3 x4 x10 x11 (IntKind.wrap .i64 (x2-x1)) hp I2 K))))
def F139_j1 (x0a:OA) (x0n x0c:Nat) (x1 x2 x3:Int) (x4:Value) (x10 x11:Bool) (hp:HP) (K:Kh):Prop:=
  (LoopP (σ:=Int × Int × Int × Bool × Bool) (fun I s hp=>F139_l2 x0a x0n x0c x4  K I s.1 s.2.1 s.2.2.1 s.2.2.2.1 s.2.2.2.2 hp) (x1,x2,x3,x10,x11) hp)
def F139 (x0a:OA) (x0n x0c:Nat) (x1 x2 x3:Int) (x4:Value) (hp:HP) (K:Kh):Prop:=
  (F139_j1 x0a x0n x0c x1 x2 x3 x4 true true hp  K)
theorem F139_ok (x0a:OA) (x0n x0c:Nat) (x1 x2 x3:Int) (x4:Value) (hp:HP) (K:Kh) (h:F139 x0a x0n x0c x1 x2 x3 x4 hp K):CF Tryz.prog 139 [(Value.slice x0a x0n x0c),(Value.int .i64 x1),(Value.int .i64 x2),(Value.int .i64 x3),x4] hp K:=
  have L:∀ {Q} n,Snd Tryz.prog 148 (cAt Tryz.f139 (pth n)) Q (CW Tryz.prog 148 [] [] (cAt Tryz.f139 (pth n)) Q):=fun _=>Snd.leaf
  okF h Tryz.func139 (Snd.seq (L 2) (Snd.jn [(0,.s),(1,.i .i64),(2,.i .i64),(3,.i .i64),(4,.w),(10,.b),(11,.b)] (fun a hp=>F139_j1 a.1 a.2.1 a.2.2.1 a.2.2.2.1 a.2.2.2.2.1 a.2.2.2.2.2.1 a.2.2.2.2.2.2.1 a.2.2.2.2.2.2.2.1 a.2.2.2.2.2.2.2.2.1 hp  K) (L 5) (Snd.block 0 (Snd.lp (σ:=Int × Int × Int × Bool × Bool) [(0,.s),(1,.i .i64),(2,.i .i64),(3,.i .i64),(4,.w),(10,.b),(11,.b)] (fun a=>(a.2.2.2.1,a.2.2.2.2.1,a.2.2.2.2.2.1,a.2.2.2.2.2.2.2.1,a.2.2.2.2.2.2.2.2.1)) (fun a s=>(a.1,a.2.1,a.2.2.1,s.1,s.2.1,s.2.2.1,a.2.2.2.2.2.2.1,s.2.2.2.1,s.2.2.2.2,())) (fun a I s hp=>F139_l2 a.1 a.2.1 a.2.2.1 a.2.2.2.2.2.2.1  K I s.1 s.2.1 s.2.2.1 s.2.2.2.1 s.2.2.2.2 hp) (fun I2=>(Snd.block 1 (Snd.seq (L 67) (Snd.seq (L 163) (Snd.seq (L 355) (Snd.jn [(0,.s),(1,.i .i64),(2,.i .i64),(3,.i .i64),(4,.w),(10,.b),(11,.b),(12,.i .i64)] (fun a hp=>F139_j3 a.1 a.2.1 a.2.2.1 a.2.2.2.1 a.2.2.2.2.1 a.2.2.2.2.2.1 a.2.2.2.2.2.2.1 a.2.2.2.2.2.2.2.1 a.2.2.2.2.2.2.2.2.1 a.2.2.2.2.2.2.2.2.2.1 hp (fun s hp=>I2 (a.1,a.2.1,a.2.2.1,s.1,s.2.1,s.2.2.1,a.2.2.2.2.2.2.1,s.2.2.2.1,s.2.2.2.2,()) hp) K) (L 739) (Snd.seq (L 1507) (Snd.jn [(0,.s),(1,.i .i64),(2,.i .i64),(3,.i .i64),(4,.w),(10,.b),(11,.b),(12,.i .i64),(13,.i .i64),(14,.i .i64)] (fun a hp=>F139_j4 a.1 a.2.1 a.2.2.1 a.2.2.2.1 a.2.2.2.2.1 a.2.2.2.2.2.1 a.2.2.2.2.2.2.1 a.2.2.2.2.2.2.2.1 a.2.2.2.2.2.2.2.2.1 a.2.2.2.2.2.2.2.2.2.1 a.2.2.2.2.2.2.2.2.2.2.1 a.2.2.2.2.2.2.2.2.2.2.2.1 hp (fun s hp=>I2 (a.1,a.2.1,a.2.2.1,s.1,s.2.1,s.2.2.1,a.2.2.2.2.2.2.1,s.2.2.2.1,s.2.2.2.2,()) hp) K) (L 3043) (Snd.jn [(0,.s),(1,.i .i64),(2,.i .i64),(3,.i .i64),(4,.w),(10,.b),(11,.b),(12,.i .i64),(13,.i .i64)] (fun a hp=>F139_j5 a.1 a.2.1 a.2.2.1 a.2.2.2.1 a.2.2.2.2.1 a.2.2.2.2.2.1 a.2.2.2.2.2.2.1 a.2.2.2.2.2.2.2.1 a.2.2.2.2.2.2.2.2.1 a.2.2.2.2.2.2.2.2.2.1 a.2.2.2.2.2.2.2.2.2.2.1 hp (fun s hp=>I2 (a.1,a.2.1,a.2.2.1,s.1,s.2.1,s.2.2.1,a.2.2.2.2.2.2.1,s.2.2.2.1,s.2.2.2.2,()) hp) K) (Snd.jn [(0,.s),(1,.i .i64),(2,.i .i64),(3,.i .i64),(4,.w),(10,.b),(11,.b),(12,.i .i64),(13,.i .i64),(75,.b)] (fun a hp=>F139_j7 a.1 a.2.1 a.2.2.1 a.2.2.2.1 a.2.2.2.2.1 a.2.2.2.2.2.1 a.2.2.2.2.2.2.1 a.2.2.2.2.2.2.2.1 a.2.2.2.2.2.2.2.2.1 a.2.2.2.2.2.2.2.2.2.1 a.2.2.2.2.2.2.2.2.2.2.1 a.2.2.2.2.2.2.2.2.2.2.2.1 hp (fun s hp=>I2 (a.1,a.2.1,a.2.2.1,s.1,s.2.1,s.2.2.1,a.2.2.2.2.2.2.1,s.2.2.2.1,s.2.2.2.2,()) hp) K) (L 10211) (L 14307) (by rfl) (by kernel_rfl)) (Snd.seq (Snd.jn [(0,.s),(1,.i .i64),(2,.i .i64),(3,.i .i64),(4,.w),(10,.b),(11,.b),(12,.i .i64),(13,.i .i64),(97,.b)] (fun a hp=>F139_j6 a.1 a.2.1 a.2.2.1 a.2.2.2.1 a.2.2.2.2.1 a.2.2.2.2.2.1 a.2.2.2.2.2.2.1 a.2.2.2.2.2.2.2.1 a.2.2.2.2.2.2.2.2.1 a.2.2.2.2.2.2.2.2.2.1 a.2.2.2.2.2.2.2.2.2.2.1 a.2.2.2.2.2.2.2.2.2.2.2.1 hp (fun s hp=>I2 (a.1,a.2.1,a.2.2.1,s.1,s.2.1,s.2.2.1,a.2.2.2.2.2.2.1,s.2.2.2.1,s.2.2.2.2,()) hp) K) (L 20451) (L 28643) (by rfl) (by kernel_rfl)) (L 16355)) (by rfl) (by kernel_rfl)) (by rfl) (by kernel_rfl))) (by rfl) (by kernel_rfl))))))) (by rfl) (by kernel_rfl) (by kernel_rfl))) (by rfl) (by kernel_rfl))) (by kernel_rfl) (by kernel_rfl) (by kernel_rfl)
def F158_j3 (x0a:OA) (x0n x0c:Nat) (x1 x8:Int) (x9:OA) (x10 x11 x12:Int) (hp:HP) (I2:(Int)→HP→Prop) (K:Kh):Prop:=
  ((0≤((IntKind.wrap .i64 (x1+x12)):Int))∧(((IntKind.wrap .i64 (x1+x12)):Int)<(x0n:Nat))∧(ptrN x0a fun b_9 o_10=>(ldL (HP.cellN hp b_9 (o_10+Int.toNat (IntKind.wrap .i64 (x1+x12))*26) 26) fun l_11=>((0≤(x11:Int))∧((x11:Int)<(x0n:Nat))∧(ptrN x0a fun b_12 o_13=>(ldL (HP.cellN hp b_12 (o_13+Int.toNat x11*26) 26) fun l_14=>((0≤(x11:Int))∧((x11:Int)<(x0n:Nat))∧(ptrN x0a fun b_15 o_16=>((List.length l_11=26)∧(HP.stN hp b_15 (o_16+Int.toNat x11*26) l_11 fun h_17=>((0≤((IntKind.wrap .i64 (x1+x12)):Int))∧(((IntKind.wrap .i64 (x1+x12)):Int)<(x0n:Nat))∧(ptrN x0a fun b_18 o_19=>((List.length l_14=26)∧(HP.stN h_17 b_18 (o_19+Int.toNat (IntKind.wrap .i64 (x1+x12))*26) l_14 fun h_20=>(I2 (IntKind.wrap .i64 (x11+1)) h_20)))))))))))))))
def F158_l2 (x0a:OA) (x0n x0c:Nat) (x1 x8:Int) (x9:OA) (x10:Int) (K:Kh) (I2:(Int)→HP→Prop) (x11:Int) (hp:HP):Prop:=
  (((4:Int)≠0)∧(ite2 (decide ((x11:Int)≤(IntKind.wrap .i64 ((IntKind.wrap .i64 (x1+(IntKind.wrap .i64 ((IntKind.wrap .i64 (Int.tdiv x8 4))*2))))+1)))) (CF Tryz.prog 167 [(Value.pointer x9)] hp fun u_6 h_7=>(intV u_6 .u64 fun i_8=>(ite2 (decide (((IntKind.wrap .i64 ((band .u64 i_8 (IntKind.wrap .u64 (x10-1))))):Int)≥x8)) (F158_j3 x0a x0n x0c x1 x8 x9 x10 x11 (IntKind.wrap .i64 ((IntKind.wrap .i64 ((band .u64 i_8 (IntKind.wrap .u64 (x10-1)))))-x8)) h_7 I2 K) (F158_j3 x0a x0n x0c x1 x8 x9 x10 x11 (IntKind.wrap .i64 ((band .u64 i_8 (IntKind.wrap .u64 (x10-1))))) h_7 I2 K)))) (K (.tuple ⟨[]⟩) hp)))
def F158_j1 (x0a:OA) (x0n x0c:Nat) (x1 x8:Int) (x9:OA) (x10 x11:Int) (hp:HP) (K:Kh):Prop:=
  (LoopP (σ:=Int) (fun I s hp=>F158_l2 x0a x0n x0c x1 x8 x9 x10  K I s hp) x11 hp)
def F158 (x0a:OA) (x0n x0c:Nat) (x1 x2:Int) (x3:Value) (hp:HP) (K:Kh):Prop:=
  (ite2 (decide (((IntKind.wrap .i64 (x2-x1)):Int)≥8)) (∀ b_1:Nat,hp b_1=.none→(HP.st (HP.set hp b_1 (.cells 235 [(Value.int .u64 0)] 0)) b_1 0 (Value.int .u64 (IntKind.wrap .u64 ((IntKind.wrap .i64 (x2-x1))))) fun h_2=>(CF Tryz.prog 166 [(Value.int .i64 (IntKind.wrap .i64 (x2-x1)))] h_2 fun u_3 h_4=>(intV u_3 .u64 fun i_5=>(((4:Int)≠0)∧(F158_j1 x0a x0n x0c x1 (IntKind.wrap .i64 (x2-x1)) (some ⟨b_1,0,none⟩) i_5 (IntKind.wrap .i64 ((IntKind.wrap .i64 (x1+(IntKind.wrap .i64 ((IntKind.wrap .i64 (Int.tdiv (IntKind.wrap .i64 (x2-x1)) 4))*2))))-1)) h_4  K)))))) (K (.tuple ⟨[]⟩) hp))
theorem F158_ok (x0a:OA) (x0n x0c:Nat) (x1 x2:Int) (x3:Value) (hp:HP) (K:Kh) (h:F158 x0a x0n x0c x1 x2 x3 hp K):CF Tryz.prog 158 [(Value.slice x0a x0n x0c),(Value.int .i64 x1),(Value.int .i64 x2),x3] hp K:=
  have L:∀ {Q} n,Snd Tryz.prog 67 (cAt Tryz.f158 (pth n)) Q (CW Tryz.prog 67 [] [] (cAt Tryz.f158 (pth n)) Q):=fun _=>Snd.leaf
  okF h Tryz.func158 (Snd.seq (L 2) (Snd.seq (L 5) (Snd.cond 17 (Snd.seq (L 19) (Snd.seq (L 43) (Snd.jn [(0,.s),(1,.i .i64),(8,.i .i64),(9,.p),(10,.i .u64),(11,.i .i64)] (fun a hp=>F158_j1 a.1 a.2.1 a.2.2.1 a.2.2.2.1 a.2.2.2.2.1 a.2.2.2.2.2.1 a.2.2.2.2.2.2.1 a.2.2.2.2.2.2.2.1 hp  K) (L 91) (Snd.block 0 (Snd.lp (σ:=Int) [(0,.s),(1,.i .i64),(8,.i .i64),(9,.p),(10,.i .u64),(11,.i .i64)] (fun a=>a.2.2.2.2.2.2.2.1) (fun a s=>(a.1,a.2.1,a.2.2.1,a.2.2.2.1,a.2.2.2.2.1,a.2.2.2.2.2.1,a.2.2.2.2.2.2.1,s,())) (fun a I s hp=>F158_l2 a.1 a.2.1 a.2.2.1 a.2.2.2.1 a.2.2.2.2.1 a.2.2.2.2.2.1 a.2.2.2.2.2.2.1  K I s hp) (fun I2=>(Snd.seq (L 571) (Snd.seq (Snd.block 1 (Snd.seq (L 4411) (Snd.jn [(0,.s),(1,.i .i64),(8,.i .i64),(9,.p),(10,.i .u64),(11,.i .i64),(12,.i .i64)] (fun a hp=>F158_j3 a.1 a.2.1 a.2.2.1 a.2.2.2.1 a.2.2.2.2.1 a.2.2.2.2.2.1 a.2.2.2.2.2.2.1 a.2.2.2.2.2.2.2.1 a.2.2.2.2.2.2.2.2.1 hp (fun s hp=>I2 (a.1,a.2.1,a.2.2.1,a.2.2.2.1,a.2.2.2.2.1,a.2.2.2.2.2.1,a.2.2.2.2.2.2.1,s,()) hp) K) (L 10555) (L 14651) (by rfl) (by kernel_rfl)))) (L 1851)))) (by rfl) (by kernel_rfl) (by kernel_rfl))) (by rfl) (by kernel_rfl)))) (L 15)))) (by kernel_rfl) (by kernel_rfl) (by kernel_rfl)
def F159_j1 (x11:OA) (x13:Int) (hp:HP) (K:Kh):Prop:=
  (ptrN x11 fun b_2 o_3=>(ldV (HP.cell hp b_2 o_3) fun v_4=>(intV v_4 .i64 fun i_5=>(ite2 ((i_5:Int)==0) (K (.tuple ⟨[(Value.int .i64 x13),(Value.int .i64 1)]⟩) hp) (ite2 ((i_5:Int)==12) (K (.tuple ⟨[(Value.int .i64 x13),(Value.int .i64 2)]⟩) hp) (K (.tuple ⟨[(Value.int .i64 x13),(Value.int .i64 0)]⟩) hp))))))
def F159_j2 (x0a:OA) (x0n x0c:Nat) (x3:Value) (x11:OA) (x12 x13 x14:Int) (hp:HP) (K:Kh):Prop:=
  (CF Tryz.prog 174 [(Value.slice x0a x0n x0c),(Value.int .i64 x12),(Value.int .i64 x13),(Value.int .i64 x14),(Value.pointer x11),x3] hp fun u_6 h_7=>(intV u_6 .i64 fun i_8=>(F159_j1 x11 i_8 h_7  K)))
def F159 (x0a:OA) (x0n x0c:Nat) (x1 x2:Int) (x3:Value) (hp:HP) (K:Kh):Prop:=
  (∀ b_1:Nat,hp b_1=.none→(((4:Int)≠0)∧(((4:Int)≠0)∧(((4:Int)≠0)∧(ite2 (decide (((IntKind.wrap .i64 (x2-x1)):Int)≥8)) (ite2 (decide (((IntKind.wrap .i64 (x2-x1)):Int)≥50)) (CF Tryz.prog 173 [(Value.slice x0a x0n x0c),(Value.int .i64 (IntKind.wrap .i64 (x1+(IntKind.wrap .i64 ((IntKind.wrap .i64 (Int.tdiv (IntKind.wrap .i64 (x2-x1)) 4))*1))))),(Value.pointer (some ⟨b_1,0,none⟩)),x3] (HP.set hp b_1 (.cells 3 [(Value.int .i64 0)] 0)) fun u_9 h_10=>(intV u_9 .i64 fun i_11=>(CF Tryz.prog 173 [(Value.slice x0a x0n x0c),(Value.int .i64 (IntKind.wrap .i64 (x1+(IntKind.wrap .i64 ((IntKind.wrap .i64 (Int.tdiv (IntKind.wrap .i64 (x2-x1)) 4))*2))))),(Value.pointer (some ⟨b_1,0,none⟩)),x3] h_10 fun u_12 h_13=>(intV u_12 .i64 fun i_14=>(CF Tryz.prog 173 [(Value.slice x0a x0n x0c),(Value.int .i64 (IntKind.wrap .i64 (x1+(IntKind.wrap .i64 ((IntKind.wrap .i64 (Int.tdiv (IntKind.wrap .i64 (x2-x1)) 4))*3))))),(Value.pointer (some ⟨b_1,0,none⟩)),x3] h_13 fun u_15 h_16=>(intV u_15 .i64 fun i_17=>(F159_j2 x0a x0n x0c x3 (some ⟨b_1,0,none⟩) i_11 i_14 i_17 h_16  K))))))) (F159_j2 x0a x0n x0c x3 (some ⟨b_1,0,none⟩) (IntKind.wrap .i64 (x1+(IntKind.wrap .i64 ((IntKind.wrap .i64 (Int.tdiv (IntKind.wrap .i64 (x2-x1)) 4))*1)))) (IntKind.wrap .i64 (x1+(IntKind.wrap .i64 ((IntKind.wrap .i64 (Int.tdiv (IntKind.wrap .i64 (x2-x1)) 4))*2)))) (IntKind.wrap .i64 (x1+(IntKind.wrap .i64 ((IntKind.wrap .i64 (Int.tdiv (IntKind.wrap .i64 (x2-x1)) 4))*3)))) (HP.set hp b_1 (.cells 3 [(Value.int .i64 0)] 0))  K)) (F159_j1 (some ⟨b_1,0,none⟩) (IntKind.wrap .i64 (x1+(IntKind.wrap .i64 ((IntKind.wrap .i64 (Int.tdiv (IntKind.wrap .i64 (x2-x1)) 4))*2)))) (HP.set hp b_1 (.cells 3 [(Value.int .i64 0)] 0))  K))))))
theorem F159_ok (x0a:OA) (x0n x0c:Nat) (x1 x2:Int) (x3:Value) (hp:HP) (K:Kh) (h:F159 x0a x0n x0c x1 x2 x3 hp K):CF Tryz.prog 159 [(Value.slice x0a x0n x0c),(Value.int .i64 x1),(Value.int .i64 x2),x3] hp K:=
  have L:∀ {Q} n,Snd Tryz.prog 63 (cAt Tryz.f159 (pth n)) Q (CW Tryz.prog 63 [] [] (cAt Tryz.f159 (pth n)) Q):=fun _=>Snd.leaf
  okF h Tryz.func159 (Snd.seq (L 2) (Snd.seq (L 5) (Snd.seq (L 11) (Snd.seq (L 23) (Snd.seq (L 47) (Snd.seq (L 95) (Snd.jn [(11,.p),(13,.i .i64)] (fun a hp=>F159_j1 a.1 a.2.1 hp  K) (Snd.seq (L 319) (Snd.cond 34 (Snd.jn [(0,.s),(3,.w),(11,.p),(12,.i .i64),(13,.i .i64),(14,.i .i64)] (fun a hp=>F159_j2 a.1 a.2.1 a.2.2.1 a.2.2.2.1 a.2.2.2.2.1 a.2.2.2.2.2.1 a.2.2.2.2.2.2.1 a.2.2.2.2.2.2.2.1 hp  K) (L 1215) (L 1727) (by rfl) (by kernel_rfl)) (L 959))) (L 255) (by rfl) (by kernel_rfl)))))))) (by kernel_rfl) (by kernel_rfl) (by kernel_rfl)
def F173 (x0a:OA) (x0n x0c:Nat) (x1:Int) (x2:OA) (x3:Value) (hp:HP) (K:Kh):Prop:=
  (CF Tryz.prog 174 [(Value.slice x0a x0n x0c),(Value.int .i64 (IntKind.wrap .i64 (x1-1))),(Value.int .i64 x1),(Value.int .i64 (IntKind.wrap .i64 (x1+1))),(Value.pointer x2),x3] hp fun u_1 h_2=>(intV u_1 .i64 fun i_3=>(K (Value.int .i64 i_3) h_2)))
theorem F173_ok (x0a:OA) (x0n x0c:Nat) (x1:Int) (x2:OA) (x3:Value) (hp:HP) (K:Kh) (h:F173 x0a x0n x0c x1 x2 x3 hp K):CF Tryz.prog 173 [(Value.slice x0a x0n x0c),(Value.int .i64 x1),(Value.pointer x2),x3] hp K:=
  have L:∀ {Q} n,Snd Tryz.prog 18 (cAt Tryz.f173 (pth n)) Q (CW Tryz.prog 18 [] [] (cAt Tryz.f173 (pth n)) Q):=fun _=>Snd.leaf
  okF h Tryz.func173 (L 1) (by kernel_rfl) (by kernel_rfl) (by kernel_rfl)
def F174 (x0a:OA) (x0n x0c:Nat) (x1 x2 x3:Int) (x4:OA) (x5:Value) (hp:HP) (K:Kh):Prop:=
  (CF Tryz.prog 182 [(Value.slice x0a x0n x0c),(Value.int .i64 x1),(Value.int .i64 x2),(Value.pointer x4),x5] hp fun u_1 h_2=>(tup2V u_1 fun u_3 u_4=>(intV u_3 .i64 fun i_5=>(intV u_4 .i64 fun i_6=>(CF Tryz.prog 182 [(Value.slice x0a x0n x0c),(Value.int .i64 i_6),(Value.int .i64 x3),(Value.pointer x4),x5] h_2 fun u_7 h_8=>(tup2V u_7 fun u_9 u_10=>(intV u_9 .i64 fun i_11=>(intV u_10 .i64 fun i_12=>(CF Tryz.prog 182 [(Value.slice x0a x0n x0c),(Value.int .i64 i_5),(Value.int .i64 i_11),(Value.pointer x4),x5] h_8 fun u_13 h_14=>(tup2V u_13 fun u_15 u_16=>(intV u_15 .i64 fun i_17=>(intV u_16 .i64 fun i_18=>(K (Value.int .i64 i_18) h_14)))))))))))))
theorem F174_ok (x0a:OA) (x0n x0c:Nat) (x1 x2 x3:Int) (x4:OA) (x5:Value) (hp:HP) (K:Kh) (h:F174 x0a x0n x0c x1 x2 x3 x4 x5 hp K):CF Tryz.prog 174 [(Value.slice x0a x0n x0c),(Value.int .i64 x1),(Value.int .i64 x2),(Value.int .i64 x3),(Value.pointer x4),x5] hp K:=
  have L:∀ {Q} n,Snd Tryz.prog 41 (cAt Tryz.f174 (pth n)) Q (CW Tryz.prog 41 [] [] (cAt Tryz.f174 (pth n)) Q):=fun _=>Snd.leaf
  okF h Tryz.func174 (L 1) (by kernel_rfl) (by kernel_rfl) (by kernel_rfl)
def F182 (x0a:OA) (x0n x0c:Nat) (x1 x2:Int) (x3:OA) (x4:Value) (hp:HP) (K:Kh):Prop:=
  ((0≤(x2:Int))∧((x2:Int)<(x0n:Nat))∧(ptrN x0a fun b_1 o_2=>(ldL (HP.cellN hp b_1 (o_2+Int.toNat x2*26) 26) fun l_3=>((0≤(x1:Int))∧((x1:Int)<(x0n:Nat))∧(ptrN x0a fun b_4 o_5=>(ldL (HP.cellN hp b_4 (o_5+Int.toNat x1*26) 26) fun l_6=>(fnV x4 fun f_7 ga_8 gb_9=>(CF Tryz.prog f_7 (ga_8++[(Value.agg ⟨l_3⟩),(Value.agg ⟨l_6⟩)]++gb_9) hp fun u_10 h_11=>(intV u_10 .i64 fun i_12=>(ite2 (decide ((i_12:Int)<0)) (ptrN x3 fun b_13 o_14=>(ldV (HP.cell h_11 b_13 o_14) fun v_15=>(intV v_15 .i64 fun i_16=>(ptrN x3 fun b_17 o_18=>(HP.st h_11 b_17 o_18 (Value.int .i64 (IntKind.wrap .i64 (i_16+1))) fun h_19=>(K (.tuple ⟨[(Value.int .i64 x2),(Value.int .i64 x1)]⟩) h_19)))))) (K (.tuple ⟨[(Value.int .i64 x1),(Value.int .i64 x2)]⟩) h_11)))))))))))
theorem F182_ok (x0a:OA) (x0n x0c:Nat) (x1 x2:Int) (x3:OA) (x4:Value) (hp:HP) (K:Kh) (h:F182 x0a x0n x0c x1 x2 x3 x4 hp K):CF Tryz.prog 182 [(Value.slice x0a x0n x0c),(Value.int .i64 x1),(Value.int .i64 x2),(Value.pointer x3),x4] hp K:=
  have L:∀ {Q} n,Snd Tryz.prog 32 (cAt Tryz.f182 (pth n)) Q (CW Tryz.prog 32 [] [] (cAt Tryz.f182 (pth n)) Q):=fun _=>Snd.leaf
  okF h Tryz.func182 (L 1) (by kernel_rfl) (by kernel_rfl) (by kernel_rfl)
def F113 (x0a:OA) (x0n x0c:Nat) (x1:Value) (hp:HP) (K:Kh):Prop:=
  (CF Tryz.prog 128 [(Value.int .u64 (IntKind.wrap .u64 ((x0n:Nat))))] hp fun u_1 h_2=>(intV u_1 .i64 fun i_3=>(CF Tryz.prog 139 [(Value.slice x0a x0n x0c),(Value.int .i64 0),(Value.int .i64 (x0n:Nat)),(Value.int .i64 i_3),x1] h_2 fun u_4 h_5=>(K (.tuple ⟨[]⟩) h_5))))
theorem F113_ok (x0a:OA) (x0n x0c:Nat) (x1:Value) (hp:HP) (K:Kh) (h:F113 x0a x0n x0c x1 hp K):CF Tryz.prog 113 [(Value.slice x0a x0n x0c),x1] hp K:=
  have L:∀ {Q} n,Snd Tryz.prog 14 (cAt Tryz.f113 (pth n)) Q (CW Tryz.prog 14 [] [] (cAt Tryz.f113 (pth n)) Q):=fun _=>Snd.leaf
  okF h Tryz.func113 (L 1) (by kernel_rfl) (by kernel_rfl) (by kernel_rfl)
end Go.Proofs
set_option linter.unusedVariables false
set_option maxRecDepth 20000
namespace Go.Proofs
open Go Go.HL
def F128 (x0:Int) (hp:HP) (K:Kh):Prop:=
  (CF Tryz.prog 153 [(Value.int .u64 x0)] hp fun u_1 h_2=>(intV u_1 .i64 fun i_3=>(K (Value.int .i64 i_3) h_2)))
theorem F128_ok (x0:Int) (hp:HP) (K:Kh) (h:F128 x0 hp K):CF Tryz.prog 128 [(Value.int .u64 x0)] hp K:=
  have L:∀ {Q} n,Snd Tryz.prog 8 (cAt Tryz.f128 (pth n)) Q (CW Tryz.prog 8 [] [] (cAt Tryz.f128 (pth n)) Q):=fun _=>Snd.leaf
  okF h Tryz.func128 (L 1) (by kernel_rfl) (by kernel_rfl) (by kernel_rfl)
def F153_j3 (x0 x2:Int) (hp:HP) (K:Kh):Prop:=
  ((0≤((IntKind.wrap .u8 (x0)):Int))∧(((IntKind.wrap .u8 (x0)):Int)<(ByteArray.size (⟨#[0,1,2,2,3,3,3,3,4,4,4,4,4,4,4,4,5,5,5,5,5,5,5,5,5,5,5,5,5,5,5,5,6,6,6,6,6,6,6,6,6,6,6,6,6,6,6,6,6,6,6,6,6,6,6,6,6,6,6,6,6,6,6,6,7,7,7,7,7,7,7,7,7,7,7,7,7,7,7,7,7,7,7,7,7,7,7,7,7,7,7,7,7,7,7,7,7,7,7,7,7,7,7,7,7,7,7,7,7,7,7,7,7,7,7,7,7,7,7,7,7,7,7,7,7,7,7,7,8,8,8,8,8,8,8,8,8,8,8,8,8,8,8,8,8,8,8,8,8,8,8,8,8,8,8,8,8,8,8,8,8,8,8,8,8,8,8,8,8,8,8,8,8,8,8,8,8,8,8,8,8,8,8,8,8,8,8,8,8,8,8,8,8,8,8,8,8,8,8,8,8,8,8,8,8,8,8,8,8,8,8,8,8,8,8,8,8,8,8,8,8,8,8,8,8,8,8,8,8,8,8,8,8,8,8,8,8,8,8,8,8,8,8,8,8,8,8,8,8,8,8,8,8,8,8,8]⟩:ByteArray):Nat))∧(K (Value.int .i64 (IntKind.wrap .i64 (x2+(IntKind.wrap .i64 ((bt (⟨#[0,1,2,2,3,3,3,3,4,4,4,4,4,4,4,4,5,5,5,5,5,5,5,5,5,5,5,5,5,5,5,5,6,6,6,6,6,6,6,6,6,6,6,6,6,6,6,6,6,6,6,6,6,6,6,6,6,6,6,6,6,6,6,6,7,7,7,7,7,7,7,7,7,7,7,7,7,7,7,7,7,7,7,7,7,7,7,7,7,7,7,7,7,7,7,7,7,7,7,7,7,7,7,7,7,7,7,7,7,7,7,7,7,7,7,7,7,7,7,7,7,7,7,7,7,7,7,7,8,8,8,8,8,8,8,8,8,8,8,8,8,8,8,8,8,8,8,8,8,8,8,8,8,8,8,8,8,8,8,8,8,8,8,8,8,8,8,8,8,8,8,8,8,8,8,8,8,8,8,8,8,8,8,8,8,8,8,8,8,8,8,8,8,8,8,8,8,8,8,8,8,8,8,8,8,8,8,8,8,8,8,8,8,8,8,8,8,8,8,8,8,8,8,8,8,8,8,8,8,8,8,8,8,8,8,8,8,8,8,8,8,8,8,8,8,8,8,8,8,8,8,8,8,8,8,8]⟩:ByteArray) (IntKind.wrap .u8 (x0)))))))) hp))
def F153_j2 (x0 x2:Int) (hp:HP) (K:Kh):Prop:=
  (ite2 (decide ((x0:Int)≥256)) ((0≤(8:Int))∧(F153_j3 (Int.fdiv x0 (2 ^ (min (Int.toNat 8) (IntKind.bits .u64)))) (IntKind.wrap .i64 (x2+8)) hp  K)) (F153_j3 x0 x2 hp  K))
def F153_j1 (x0 x2:Int) (hp:HP) (K:Kh):Prop:=
  (ite2 (decide ((x0:Int)≥65536)) ((0≤(16:Int))∧(F153_j2 (Int.fdiv x0 (2 ^ (min (Int.toNat 16) (IntKind.bits .u64)))) (IntKind.wrap .i64 (x2+16)) hp  K)) (F153_j2 x0 x2 hp  K))
def F153 (x0:Int) (hp:HP) (K:Kh):Prop:=
  (ite2 (decide ((x0:Int)≥4294967296)) ((0≤(32:Int))∧(F153_j1 (Int.fdiv x0 (2 ^ (min (Int.toNat 32) (IntKind.bits .u64)))) 32 hp  K)) (F153_j1 x0 0 hp  K))
theorem F153_ok (x0:Int) (hp:HP) (K:Kh) (h:F153 x0 hp K):CF Tryz.prog 153 [(Value.int .u64 x0)] hp K:=
  have L:∀ {Q} n,Snd Tryz.prog 25 (cAt Tryz.f153 (pth n)) Q (CW Tryz.prog 25 [] [] (cAt Tryz.f153 (pth n)) Q):=fun _=>Snd.leaf
  okF h Tryz.func153 (Snd.seq (L 2) (Snd.jn [(0,.i .u64),(2,.i .i64)] (fun a hp=>F153_j1 a.1 a.2.1 hp  K) (L 5) (Snd.jn [(0,.i .u64),(2,.i .i64)] (fun a hp=>F153_j2 a.1 a.2.1 hp  K) (L 11) (Snd.jn [(0,.i .u64),(2,.i .i64)] (fun a hp=>F153_j3 a.1 a.2.1 hp  K) (L 23) (L 31) (by rfl) (by kernel_rfl)) (by rfl) (by kernel_rfl)) (by rfl) (by kernel_rfl))) (by kernel_rfl) (by kernel_rfl) (by kernel_rfl)
def F166 (x0:Int) (hp:HP) (K:Kh):Prop:=
  (CF Tryz.prog 128 [(Value.int .u64 (IntKind.wrap .u64 (x0)))] hp fun u_1 h_2=>(intV u_1 .i64 fun i_3=>((0≤(i_3:Int))∧(K (Value.int .u64 (IntKind.wrap .u64 (1*2 ^ (min (Int.toNat i_3) (IntKind.bits .u64))))) h_2))))
theorem F166_ok (x0:Int) (hp:HP) (K:Kh) (h:F166 x0 hp K):CF Tryz.prog 166 [(Value.int .i64 x0)] hp K:=
  have L:∀ {Q} n,Snd Tryz.prog 7 (cAt Tryz.f166 (pth n)) Q (CW Tryz.prog 7 [] [] (cAt Tryz.f166 (pth n)) Q):=fun _=>Snd.leaf
  okF h Tryz.func166 (L 1) (by kernel_rfl) (by kernel_rfl) (by kernel_rfl)
def F167 (x0:OA) (hp:HP) (K:Kh):Prop:=
  (ptrN x0 fun b_1 o_2=>(ldV (HP.cell hp b_1 o_2) fun v_3=>(intV v_3 .u64 fun i_4=>(ptrN x0 fun b_5 o_6=>(ldV (HP.cell hp b_5 o_6) fun v_7=>(intV v_7 .u64 fun i_8=>((0≤(13:Int))∧(ptrN x0 fun b_9 o_10=>(HP.st hp b_9 o_10 (Value.int .u64 (bxor .u64 i_4 (IntKind.wrap .u64 (i_8*2 ^ (min (Int.toNat 13) (IntKind.bits .u64)))))) fun h_11=>(ptrN x0 fun b_12 o_13=>(ldV (HP.cell h_11 b_12 o_13) fun v_14=>(intV v_14 .u64 fun i_15=>(ptrN x0 fun b_16 o_17=>(ldV (HP.cell h_11 b_16 o_17) fun v_18=>(intV v_18 .u64 fun i_19=>((0≤(7:Int))∧(ptrN x0 fun b_20 o_21=>(HP.st h_11 b_20 o_21 (Value.int .u64 (bxor .u64 i_15 (Int.fdiv i_19 (2 ^ (min (Int.toNat 7) (IntKind.bits .u64)))))) fun h_22=>(ptrN x0 fun b_23 o_24=>(ldV (HP.cell h_22 b_23 o_24) fun v_25=>(intV v_25 .u64 fun i_26=>(ptrN x0 fun b_27 o_28=>(ldV (HP.cell h_22 b_27 o_28) fun v_29=>(intV v_29 .u64 fun i_30=>((0≤(17:Int))∧(ptrN x0 fun b_31 o_32=>(HP.st h_22 b_31 o_32 (Value.int .u64 (bxor .u64 i_26 (IntKind.wrap .u64 (i_30*2 ^ (min (Int.toNat 17) (IntKind.bits .u64)))))) fun h_33=>(ptrN x0 fun b_34 o_35=>(ldV (HP.cell h_33 b_34 o_35) fun v_36=>(intV v_36 .u64 fun i_37=>(K (Value.int .u64 i_37) h_33)))))))))))))))))))))))))))))))
theorem F167_ok (x0:OA) (hp:HP) (K:Kh) (h:F167 x0 hp K):CF Tryz.prog 167 [(Value.pointer x0)] hp K:=
  have L:∀ {Q} n,Snd Tryz.prog 33 (cAt Tryz.f167 (pth n)) Q (CW Tryz.prog 33 [] [] (cAt Tryz.f167 (pth n)) Q):=fun _=>Snd.leaf
  okF h Tryz.func167 (L 1) (by kernel_rfl) (by kernel_rfl) (by kernel_rfl)
end Go.Proofs
set_option linter.unusedVariables false
set_option maxRecDepth 20000
namespace Go.Proofs
open Go Go.HL
def lenTab:ByteArray:=⟨#[0,1,2,2,3,3,3,3,4,4,4,4,4,4,4,4,5,5,5,5,5,5,5,5,5,5,5,5,5,5,5,5,6,6,6,6,6,6,6,6,6,6,6,6,6,6,6,6,6,6,6,6,6,6,6,6,6,6,6,6,6,6,6,6,7,7,7,7,7,7,7,7,7,7,7,7,7,7,7,7,7,7,7,7,7,7,7,7,7,7,7,7,7,7,7,7,7,7,7,7,7,7,7,7,7,7,7,7,7,7,7,7,7,7,7,7,7,7,7,7,7,7,7,7,7,7,7,7,8,8,8,8,8,8,8,8,8,8,8,8,8,8,8,8,8,8,8,8,8,8,8,8,8,8,8,8,8,8,8,8,8,8,8,8,8,8,8,8,8,8,8,8,8,8,8,8,8,8,8,8,8,8,8,8,8,8,8,8,8,8,8,8,8,8,8,8,8,8,8,8,8,8,8,8,8,8,8,8,8,8,8,8,8,8,8,8,8,8,8,8,8,8,8,8,8,8,8,8,8,8,8,8,8,8,8,8,8,8,8,8,8,8,8,8,8,8,8,8,8,8,8,8,8,8,8,8]⟩
theorem len_tab:∀ y:Fin 256,bt lenTab (y.val:Int)=(Sort.bitsLen y.val:Nat):=by decide +kernel
theorem lenTab_size:lenTab.size=256:=by kernel_rfl
theorem C153 {n:Nat} {hp:HP} {K:Value→HP→Prop} (hn:n≤65535) (h:∀ L:Nat,L≤16→n<2 ^ L→(0<n→2 ^ L≤2*n)→K (.int .i64 L) hp):CF Tryz.prog 153 [.int .u64 n] hp K:=by
  refine F153_ok n hp K ?_
  have tail:∀ (y o:Nat),y<256→o≤8→n<2 ^ (o+Sort.bitsLen y)→(0<n→2 ^ (o+Sort.bitsLen y)≤2*n)→F153_j3 y o hp K:=by
    intro y o hy ho h1 h2
    unfold F153_j3
    change (0≤(IntKind.wrap .u8 (y:Int)))∧((IntKind.wrap .u8 (y:Int))<(ByteArray.size lenTab:Nat))∧K (Value.int .i64 (IntKind.wrap .i64 ((o:Int)+IntKind.wrap .i64 (bt lenTab (IntKind.wrap .u8 (y:Int)))))) hp
    rw [wu8 (by omega) (by omega),lenTab_size]
    have:=len_tab ⟨y,hy⟩
    simp only at this
    rw [this]
    have hb:Sort.bitsLen y≤8:=(Sort.bitsLen_le_iff y 8).2 (by omega)
    rw [w64 (n:=((Sort.bitsLen y:Nat):Int)) (by omega) (by omega),w64 (by omega) (by omega)]
    refine ⟨by omega,by omega,?_⟩
    have e:(o:Int)+(Sort.bitsLen y:Nat)=((o+Sort.bitsLen y:Nat):Int):=by omega
    rw [e]
    exact h _ (by omega) h1 h2
  unfold F153
  rw [decide_eq_false (by omega:¬ (n:Int)≥4294967296),ite2_false]
  unfold F153_j1
  rw [decide_eq_false (by omega:¬ (n:Int)≥65536),ite2_false]
  unfold F153_j2
  by_cases h8:n≥256
  · rw [decide_eq_true (by omega:(n:Int)≥256),ite2_true]
    refine ⟨by omega,?_⟩
    have e1:Int.fdiv (n:Int) (2 ^ (min (Int.toNat 8) (IntKind.bits .u64)))=((n / 256:Nat):Int):=by
      show Int.fdiv (n:Int) 256=_
      rw [Int.fdiv_eq_ediv_of_nonneg _ (by omega)]; omega
    have e2:IntKind.wrap .i64 ((0:Int)+8)=((8:Nat):Int):=by rw [w64 (by omega) (by omega)]; rfl
    rw [e1,e2]
    have ha:=Sort.lt_two_pow_bitsLen (n / 256)
    have hb:=Sort.two_pow_bitsLen_le (n:=n / 256) (by omega)
    have hp:2 ^ (8+Sort.bitsLen (n / 256))=256*2 ^ Sort.bitsLen (n / 256):=by rw [Nat.pow_add]
    refine tail _ 8 (by omega) (by omega) (by rw [hp]; omega) (fun _=>by rw [hp]; omega)
  · rw [decide_eq_false (by omega:¬ (n:Int)≥256),ite2_false]
    refine tail n 0 (by omega) (by omega) ?_ ?_
    · rw [Nat.zero_add]; exact Sort.lt_two_pow_bitsLen n
    · intro h0; rw [Nat.zero_add]; exact Sort.two_pow_bitsLen_le h0
theorem C128 {n:Nat} {hp:HP} {K:Value→HP→Prop} (hn:n≤65535) (h:∀ L:Nat,L≤16→n<2 ^ L→(0<n→2 ^ L≤2*n)→K (.int .i64 L) hp):CF Tryz.prog 128 [.int .u64 n] hp K:=by
  refine F128_ok n hp K ?_
  unfold F128
  refine C153 hn fun L h1 h2 h3=>?_
  rw [intV_int]
  exact h L h1 h2 h3
theorem C166 {n:Nat} {hp:HP} {K:Value→HP→Prop} (hn:n≤65535) (h:∀ L:Nat,L≤16→n<2 ^ L→(0<n→2 ^ L≤2*n)→K (.int .u64 ((2 ^ L:Nat):Int)) hp):CF Tryz.prog 166 [.int .i64 n] hp K:=by
  refine F166_ok n hp K ?_
  unfold F166
  rw [wu64 (by omega) (by omega)]
  refine C128 hn fun L h1 h2 h3=>?_
  rw [intV_int]
  refine ⟨by omega,?_⟩
  have e:min (Int.toNat (L:Int)) (IntKind.bits .u64)=L:=by
    show min (Int.toNat (L:Int)) 64=L
    rw [Int.toNat_natCast]; omega
  have hle:2 ^ L≤2 ^ 16:=Nat.pow_le_pow_right (by omega) h1
  rw [e]
  have e2:(1:Int)*2 ^ L=((2 ^ L:Nat):Int):=by rw [Int.one_mul]; simp
  rw [e2,wu64 (by omega) (by omega)]
  exact h L h1 h2 h3
theorem C167 {r:Nat} {y:Int} {hp:HP} {K:Value→HP→Prop} (hr:hp r=.cells 235 [.int .u64 y] 0) (h:∀ z:Int,K (.int .u64 z) (hp.set r (.cells 235 [.int .u64 z] 0))):CF Tryz.prog 167 [.pointer (some ⟨r,0,none⟩)] hp K:=by
  refine F167_ok _ hp K ?_
  unfold F167
  have hc:∀ o,hp.cell r o=[Value.int .u64 y][o]?:=fun o=>HP.cell_of hr
  simp only [ptrN_some,hc,List.getElem?_cons_zero,ldV_some,intV_int]
  refine ⟨by omega,?_⟩
  refine HP.st_at hr (by simp) ?_
  simp only [List.set_cons_zero]
  generalize bxor .u64 y _=y2
  have hr2:(hp.set r (.cells 235 [.int .u64 y2] 0)) r=.cells 235 [.int .u64 y2] 0:=HP.set_eq ..
  have hc2:∀ o,(hp.set r (.cells 235 [.int .u64 y2] 0)).cell r o=[Value.int .u64 y2][o]?:=fun o=>HP.cell_of hr2
  simp only [hc2,List.getElem?_cons_zero,ldV_some,intV_int]
  refine ⟨by omega,?_⟩
  refine HP.st_at hr2 (by simp) ?_
  simp only [List.set_cons_zero,HP.set_set]
  generalize bxor .u64 y2 _=y3
  have hr3:(hp.set r (.cells 235 [.int .u64 y3] 0)) r=.cells 235 [.int .u64 y3] 0:=HP.set_eq ..
  have hc3:∀ o,(hp.set r (.cells 235 [.int .u64 y3] 0)).cell r o=[Value.int .u64 y3][o]?:=fun o=>HP.cell_of hr3
  simp only [hc3,List.getElem?_cons_zero,ldV_some,intV_int]
  refine ⟨by omega,?_⟩
  refine HP.st_at hr3 (by simp) ?_
  simp only [List.set_cons_zero,HP.set_set]
  generalize bxor .u64 y3 _=y4
  have hr4:(hp.set r (.cells 235 [.int .u64 y4] 0)) r=.cells 235 [.int .u64 y4] 0:=HP.set_eq ..
  have hc4:∀ o,(hp.set r (.cells 235 [.int .u64 y4] 0)).cell r o=[Value.int .u64 y4][o]?:=fun o=>HP.cell_of hr4
  simp only [hc4,List.getElem?_cons_zero,ldV_some,intV_int]
  exact h y4
end Go.Proofs
set_option linter.unusedVariables false
set_option maxRecDepth 20000
namespace Go.Proofs
open Go Go.HL
section
variable {f:FuncId} {ga gb:List Value} {hp0:HP} {b sp n c:Nat} {cf:Bd→Bd→Int}
theorem S158 {v:Value} {d:Array Bd} {lo hi:Nat} {K:Value→HP→Prop} (hs:d.size=n) (hlo:lo≤hi) (hf:hi≤n) (hn:n≤65535)
    (h:∀ d',Sort.PermIn lo hi d d'→K (.tuple ⟨[]⟩) (HA hp0 b 97 sp bdc d')) :
    CF Tryz.prog 158 [.slice (some ⟨b,0,none⟩) n c,.int .i64 lo,.int .i64 hi,v] (HA hp0 b 97 sp bdc d) K:=by
  refine CF.drop (F158_ok _ n c lo hi _ _ _ ?_)
  unfold F158
  have w1:IntKind.wrap .i64 ((hi:Int)-(lo:Int))=((hi-lo:Nat):Int):=wi (by omega) (by omega)
  rw [w1]
  by_cases h8:hi-lo≥8
  · rw [decide_eq_true (by omega:((hi-lo:Nat):Int)≥8),ite2_true]
    intro r hr
    obtain ⟨hrb,hr0⟩:=HA.ne_of_none hr
    refine HP.st_at (HP.set_eq ..) (by simp) ?_
    simp only [List.set_cons_zero,HP.set_set]
    rw [HA.set_comm hrb]
    refine C166 (n:=hi-lo) (by omega) fun L hL1 hL2 hL3=>?_
    have hL4:=hL3 (by omega)
    have hL5:2 ^ L≤2 ^ 16:=Nat.pow_le_pow_right (by omega) hL1
    rw [intV_int]
    refine ⟨by omega,?_⟩
    have e4:Int.tdiv ((hi-lo:Nat):Int) 4=(((hi-lo) / 4:Nat):Int):=rfl
    generalize hm:hi-lo=m at *
    rw [e4]
    have v1:IntKind.wrap .i64 ((m / 4:Nat):Int)=((m / 4:Nat):Int):=wi rfl (by omega)
    have v2:IntKind.wrap .i64 (((m / 4:Nat):Int)*2)=((m / 4*2:Nat):Int):=wi (by omega) (by omega)
    have v3:IntKind.wrap .i64 ((lo:Int)+((m / 4*2:Nat):Int))=((lo+m / 4*2:Nat):Int):=wi (by omega) (by omega)
    have v4:IntKind.wrap .i64 (((lo+m / 4*2:Nat):Int)-1)=((lo+m / 4*2-1:Nat):Int):=wi (by omega) (by omega)
    have v5:IntKind.wrap .i64 (((lo+m / 4*2:Nat):Int)+1)=((lo+m / 4*2+1:Nat):Int):=wi (by omega) (by omega)
    rw [v1,v2,v3,v4]
    unfold F158_j1
    generalize hz0:IntKind.wrap .u64 (m:Int)=z0
    refine LoopP.by (J:=fun k (x:Int) hp=>∃ (i:Nat) (d':Array Bd) (z:Int),x=i∧hp=HA (hp0.set r (.cells 235 [.int .u64 z] 0)) b 97 sp bdc d'∧Sort.PermIn lo hi d d'∧lo≤i∧k=lo+m / 4*2+2-i) ?_
      (n:=lo+m / 4*2+2-(lo+m / 4*2-1)) ⟨lo+m / 4*2-1,d,z0,rfl,rfl,Sort.permIn_refl d lo hi,by omega,rfl⟩
    rintro I k x hp ⟨i,d',z,rfl,rfl,hpm,hli,rfl⟩ hI
    unfold F158_l2
    refine ⟨by omega,?_⟩
    rw [e4,v1,v2,v3,v5]
    by_cases hi':i≤lo+m / 4*2+1
    · rw [decide_eq_true (by omega:(i:Int)≤((lo+m / 4*2+1:Nat):Int)),ite2_true]
      refine C167 (y:=z) (by rw [HA.ne hrb,HP.set_eq]) fun z'=>?_
      rw [HA.set_comm hrb,HP.set_set,intV_int]
      have u1:IntKind.wrap .u64 (((2 ^ L:Nat):Int)-1)=((2 ^ L-1:Nat):Int):=by rw [wu64 (by omega) (by omega)]; omega
      rw [u1]
      have hbd:=band_le (z:=z') (m:=((2 ^ L-1:Nat):Int)) (by omega) (by omega)
      generalize band .u64 z' ((2 ^ L-1:Nat):Int)=w at hbd
      obtain ⟨o,rfl⟩:∃ o:Nat,w=o:=⟨w.toNat,by omega⟩
      rw [w64 (n:=(o:Int)) (by omega) (by omega)]
      have hs':d'.size=n:=by rw [hpm.1]; exact hs
      have step:∀ o:Nat,o<m→F158_j3 (some ⟨b,0,none⟩) n c lo m (some ⟨r,0,none⟩) ((2 ^ L:Nat):Int) i o (HA (hp0.set r (.cells 235 [.int .u64 z'] 0)) b 97 sp bdc d') I (fun v hp'=>∃ hp'',HSub hp'' hp'∧K v hp''):=by
        intro o ho
        unfold F158_j3
        have x1:IntKind.wrap .i64 ((lo:Int)+(o:Int))=((lo+o:Nat):Int):=wi (by omega) (by omega)
        have x2:IntKind.wrap .i64 ((i:Int)+1)=((i+1:Nat):Int):=wi (by omega) (by omega)
        rw [x1,x2]
        refine swapP bdc_len bdc_one hs' (i:=i) (j:=lo+o) rfl rfl (by omega) (by omega) ?_
        exact hI (lo+m / 4*2+2-(i+1)) _ _ (by omega) ⟨i+1,_,z',rfl,rfl,Sort.permIn_trans _ _ _ _ _ hpm (Sort.swp_permIn d' lo hi i (lo+o) (by omega) (by omega) (by omega) (by omega) (by omega)),by omega,rfl⟩
      by_cases hom:o≥m
      · rw [decide_eq_true (by omega:(o:Int)≥(m:Int)),ite2_true]
        have x3:IntKind.wrap .i64 ((o:Int)-(m:Int))=((o-m:Nat):Int):=wi (by omega) (by omega)
        rw [x3]
        exact step (o-m) (by omega)
      · rw [decide_eq_false (by omega:¬ (o:Int)≥(m:Int)),ite2_false]
        exact step o (by omega)
    · rw [decide_eq_false (by omega:¬ (i:Int)≤((lo+m / 4*2+1:Nat):Int)),ite2_false]
      exact ⟨_,HA.sub (HSub.set_fresh hp0 _ hr0),h d' hpm⟩
  · rw [decide_eq_false (by omega:¬ ((hi-lo:Nat):Int)≥8),ite2_false]
    exact ⟨_,HSub.refl _,h d (Sort.permIn_refl d lo hi)⟩
theorem S182 (hx:CmpX Tryz.prog f ga gb hp0 b 97 sp bdc n cf) {d:Array Bd} {i j r:Nat} {s:Int} {K:Value→HP→Prop} (hs:d.size=n) (hi:i<n) (hj:j<n) (hrb:r≠b) (hr0:hp0 r=.none)
    (h:∀ (s':Int) (x y:Nat),(x=i∧y=j)∨(x=j∧y=i)→K (.tuple ⟨[.int .i64 x,.int .i64 y]⟩) (HA (hp0.set r (.cells 3 [.int .i64 s'] 0)) b 97 sp bdc d)) :
    CF Tryz.prog 182 [.slice (some ⟨b,0,none⟩) n c,.int .i64 i,.int .i64 j,.pointer (some ⟨r,0,none⟩),.func (.func f) ⟨ga⟩ ⟨gb⟩] (HA (hp0.set r (.cells 3 [.int .i64 s] 0)) b 97 sp bdc d) K:=by
  refine F182_ok _ n c i j _ _ _ K ?_
  unfold F182
  refine cmpP (hx _ (HSub.set_fresh hp0 _ hr0)) bdc_len hs (i:=j) (j:=i) rfl rfl hj hi ?_
  cases decide (cf d[j]! d[i]!<0)
  · rw [ite2_false]
    exact h s i j (.inl ⟨rfl,rfl⟩)
  · have hc:(HA (hp0.set r (.cells 3 [.int .i64 s] 0)) b 97 sp bdc d) r=.cells 3 [.int .i64 s] 0:=by rw [HA.ne hrb,HP.set_eq]
    rw [ite2_true,ptrN_some,HP.cell_of hc]
    simp only [List.getElem?_cons_zero,ldV_some,intV_int,ptrN_some]
    refine HP.st_at hc (by simp) ?_
    rw [List.set_cons_zero,HA.set_comm hrb,HP.set_set]
    exact h _ j i (.inr ⟨rfl,rfl⟩)
theorem S174 (hx:CmpX Tryz.prog f ga gb hp0 b 97 sp bdc n cf) {d:Array Bd} {i j k r:Nat} {s:Int} {K:Value→HP→Prop} (hs:d.size=n) (hi:i<n) (hj:j<n) (hk:k<n) (hrb:r≠b) (hr0:hp0 r=.none)
    (h:∀ (s':Int) (x:Nat),x=i∨x=j∨x=k→K (.int .i64 x) (HA (hp0.set r (.cells 3 [.int .i64 s'] 0)) b 97 sp bdc d)) :
    CF Tryz.prog 174 [.slice (some ⟨b,0,none⟩) n c,.int .i64 i,.int .i64 j,.int .i64 k,.pointer (some ⟨r,0,none⟩),.func (.func f) ⟨ga⟩ ⟨gb⟩] (HA (hp0.set r (.cells 3 [.int .i64 s] 0)) b 97 sp bdc d) K:=by
  refine F174_ok _ n c i j k _ _ _ K ?_
  unfold F174
  refine S182 hx hs hi hj hrb hr0 fun s1 a1 b1 h1=>?_
  simp only [tup2V_mk,intV_int]
  refine S182 hx hs (by omega) hk hrb hr0 fun s2 a2 b2 h2=>?_
  simp only [tup2V_mk,intV_int]
  refine S182 hx hs (by omega) (by omega) hrb hr0 fun s3 a3 b3 h3=>?_
  simp only [tup2V_mk,intV_int]
  exact h s3 b3 (by omega)
theorem S173 (hx:CmpX Tryz.prog f ga gb hp0 b 97 sp bdc n cf) {d:Array Bd} {i r:Nat} {s:Int} {K:Value→HP→Prop} (hs:d.size=n) (hi0:0<i) (hi:i+1<n) (hn:n≤65535) (hrb:r≠b) (hr0:hp0 r=.none)
    (h:∀ (s':Int) (x:Nat),i-1≤x→x≤i+1→K (.int .i64 x) (HA (hp0.set r (.cells 3 [.int .i64 s'] 0)) b 97 sp bdc d)) :
    CF Tryz.prog 173 [.slice (some ⟨b,0,none⟩) n c,.int .i64 i,.pointer (some ⟨r,0,none⟩),.func (.func f) ⟨ga⟩ ⟨gb⟩] (HA (hp0.set r (.cells 3 [.int .i64 s] 0)) b 97 sp bdc d) K:=by
  refine F173_ok _ n c i _ _ _ K ?_
  unfold F173
  have v1:IntKind.wrap .i64 ((i:Int)-1)=((i-1:Nat):Int):=wi (by omega) (by omega)
  have v2:IntKind.wrap .i64 ((i:Int)+1)=((i+1:Nat):Int):=wi (by omega) (by omega)
  rw [v1,v2]
  refine S174 hx hs (by omega) (by omega) (by omega) hrb hr0 fun s1 x h1=>?_
  rw [intV_int]
  exact h s1 x (by omega) (by omega)
theorem S159 (hx:CmpX Tryz.prog f ga gb hp0 b 97 sp bdc n cf) {d:Array Bd} {lo hi:Nat} {K:Value→HP→Prop} (hs:d.size=n) (hlo:lo<hi) (hf:hi≤n) (hn:n≤65535)
    (h:∀ (p:Nat) (w:Int),lo≤p→p<hi→K (.tuple ⟨[.int .i64 p,.int .i64 w]⟩) (HA hp0 b 97 sp bdc d)) :
    CF Tryz.prog 159 [.slice (some ⟨b,0,none⟩) n c,.int .i64 lo,.int .i64 hi,.func (.func f) ⟨ga⟩ ⟨gb⟩] (HA hp0 b 97 sp bdc d) K:=by
  refine CF.drop (F159_ok _ n c lo hi _ _ _ ?_)
  unfold F159
  intro r hr
  obtain ⟨hrb,hr0⟩:=HA.ne_of_none hr
  have w1:IntKind.wrap .i64 ((hi:Int)-(lo:Int))=((hi-lo:Nat):Int):=wi (by omega) (by omega)
  have e4:Int.tdiv ((hi-lo:Nat):Int) 4=(((hi-lo) / 4:Nat):Int):=rfl
  simp only [w1,e4]
  refine ⟨by omega,by omega,by omega,?_⟩
  clear e4 w1
  rw [HA.set_comm hrb]
  have hmm:hi=lo+(hi-lo):=by omega
  generalize hi-lo=m at *
  subst hmm
  have v0:IntKind.wrap .i64 ((m / 4:Nat):Int)=((m / 4:Nat):Int):=wi rfl (by omega)
  have v1:IntKind.wrap .i64 (((m / 4:Nat):Int)*1)=((m / 4:Nat):Int):=wi (by omega) (by omega)
  have v2:IntKind.wrap .i64 (((m / 4:Nat):Int)*2)=((m / 4*2:Nat):Int):=wi (by omega) (by omega)
  have v3:IntKind.wrap .i64 (((m / 4:Nat):Int)*3)=((m / 4*3:Nat):Int):=wi (by omega) (by omega)
  have u1:IntKind.wrap .i64 ((lo:Int)+((m / 4:Nat):Int))=((lo+m / 4:Nat):Int):=wi (by omega) (by omega)
  have u2:IntKind.wrap .i64 ((lo:Int)+((m / 4*2:Nat):Int))=((lo+m / 4*2:Nat):Int):=wi (by omega) (by omega)
  have u3:IntKind.wrap .i64 ((lo:Int)+((m / 4*3:Nat):Int))=((lo+m / 4*3:Nat):Int):=wi (by omega) (by omega)
  simp only [v0,v1,v2,v3,u1,u2,u3]
  have fin:∀ (s:Int) (p:Nat),lo≤p→p<lo+m→F159_j1 (some ⟨r,0,none⟩) p (HA (hp0.set r (.cells 3 [.int .i64 s] 0)) b 97 sp bdc d) (fun v hp'=>∃ hp'',HSub hp'' hp'∧K v hp''):=by
    intro s p h1 h2
    have hc:(HA (hp0.set r (.cells 3 [.int .i64 s] 0)) b 97 sp bdc d) r=.cells 3 [.int .i64 s] 0:=by rw [HA.ne hrb,HP.set_eq]
    unfold F159_j1
    rw [ptrN_some,HP.cell_of hc]
    simp only [List.getElem?_cons_zero,ldV_some,intV_int]
    have hsub:=HA.sub (b:=b) (e:=97) (sp:=sp) (en:=bdc) (d:=d) (HSub.set_fresh hp0 (.cells 3 [.int .i64 s] 0) hr0)
    cases (s==0)
    · rw [ite2_false]
      cases (s==12)
      · rw [ite2_false]; exact ⟨_,hsub,h p 0 h1 h2⟩
      · rw [ite2_true]; exact ⟨_,hsub,h p 2 h1 h2⟩
    · rw [ite2_true]; exact ⟨_,hsub,h p 1 h1 h2⟩
  have fin2:∀ (s:Int) (i j k:Nat),lo≤i→i<lo+m→lo≤j→j<lo+m→lo≤k→k<lo+m→F159_j2 (some ⟨b,0,none⟩) n c (.func (.func f) ⟨ga⟩ ⟨gb⟩) (some ⟨r,0,none⟩) i j k (HA (hp0.set r (.cells 3 [.int .i64 s] 0)) b 97 sp bdc d) (fun v hp'=>∃ hp'',HSub hp'' hp'∧K v hp''):=by
    intro s i j k h1 h2 h3 h4 h5 h6
    unfold F159_j2
    refine S174 hx hs (by omega) (by omega) (by omega) hrb hr0 fun s1 x hx1=>?_
    rw [intV_int]
    exact fin s1 x (by omega) (by omega)
  by_cases h8:m≥8
  · rw [decide_eq_true (by omega:(m:Int)≥8),ite2_true]
    by_cases h50:m≥50
    · rw [decide_eq_true (by omega:(m:Int)≥50),ite2_true]
      refine S173 hx hs (by omega) (by omega) hn hrb hr0 fun s1 x1 a1 b1=>?_
      rw [intV_int]
      refine S173 hx hs (by omega) (by omega) hn hrb hr0 fun s2 x2 a2 b2=>?_
      rw [intV_int]
      refine S173 hx hs (by omega) (by omega) hn hrb hr0 fun s3 x3 a3 b3=>?_
      rw [intV_int]
      exact fin2 s3 x1 x2 x3 (by omega) (by omega) (by omega) (by omega) (by omega) (by omega)
    · rw [decide_eq_false (by omega:¬ (m:Int)≥50),ite2_false]
      exact fin2 0 _ _ _ (by omega) (by omega) (by omega) (by omega) (by omega) (by omega)
  · rw [decide_eq_false (by omega:¬ (m:Int)≥8),ite2_false]
    exact fin 0 _ (by omega) (by omega)
end
end Go.Proofs
set_option linter.unusedVariables false
set_option maxRecDepth 20000
namespace Go.Proofs
open Go Go.HL
def F156_j3 (x0a:OA) (x0n x0c:Nat) (x1 x2:Int) (x3:Value) (x8:Int) (hp:HP) (I2:(Int)→HP→Prop) (K:Kh):Prop:=
  (I2 (IntKind.wrap .i64 (x8+1)) hp)
def F156_j6 (x0a:OA) (x0n x0c:Nat) (x1 x2:Int) (x3:Value) (x8 x9:Int) (x34:Bool) (hp:HP) (I2 I5:(Int)→HP→Prop) (K:Kh):Prop:=
  (ite2 x34 ((0≤((IntKind.wrap .i64 (x9-1)):Int))∧(((IntKind.wrap .i64 (x9-1)):Int)<(x0n:Nat))∧(ptrN x0a fun b_1 o_2=>(ldL (HP.cellN hp b_1 (o_2+Int.toNat (IntKind.wrap .i64 (x9-1))*26) 26) fun l_3=>((0≤(x9:Int))∧((x9:Int)<(x0n:Nat))∧(ptrN x0a fun b_4 o_5=>(ldL (HP.cellN hp b_4 (o_5+Int.toNat x9*26) 26) fun l_6=>((0≤(x9:Int))∧((x9:Int)<(x0n:Nat))∧(ptrN x0a fun b_7 o_8=>((List.length l_3=26)∧(HP.stN hp b_7 (o_8+Int.toNat x9*26) l_3 fun h_9=>((0≤((IntKind.wrap .i64 (x9-1)):Int))∧(((IntKind.wrap .i64 (x9-1)):Int)<(x0n:Nat))∧(ptrN x0a fun b_10 o_11=>((List.length l_6=26)∧(HP.stN h_9 b_10 (o_11+Int.toNat (IntKind.wrap .i64 (x9-1))*26) l_6 fun h_12=>(I5 (IntKind.wrap .i64 (x9-1)) h_12))))))))))))))) (F156_j3 x0a x0n x0c x1 x2 x3 x8 hp I2 K))
def F156_l5 (x0a:OA) (x0n x0c:Nat) (x1 x2:Int) (x3:Value) (x8:Int) (I2:(Int)→HP→Prop) (K:Kh) (I5:(Int)→HP→Prop) (x9:Int) (hp:HP):Prop:=
  (ite2 (decide ((x9:Int) > x1)) ((0≤(x9:Int))∧((x9:Int)<(x0n:Nat))∧(ptrN x0a fun b_13 o_14=>(ldL (HP.cellN hp b_13 (o_14+Int.toNat x9*26) 26) fun l_15=>((0≤((IntKind.wrap .i64 (x9-1)):Int))∧(((IntKind.wrap .i64 (x9-1)):Int)<(x0n:Nat))∧(ptrN x0a fun b_16 o_17=>(ldL (HP.cellN hp b_16 (o_17+Int.toNat (IntKind.wrap .i64 (x9-1))*26) 26) fun l_18=>(fnV x3 fun f_19 ga_20 gb_21=>(CF Tryz.prog f_19 (ga_20++[(Value.agg ⟨l_15⟩),(Value.agg ⟨l_18⟩)]++gb_21) hp fun u_22 h_23=>(intV u_22 .i64 fun i_24=>(F156_j6 x0a x0n x0c x1 x2 x3 x8 x9 (decide ((i_24:Int)<0)) h_23 I2 I5 K)))))))))) (F156_j6 x0a x0n x0c x1 x2 x3 x8 x9 false hp I2 I5 K))
def F156_j4 (x0a:OA) (x0n x0c:Nat) (x1 x2:Int) (x3:Value) (x8 x9:Int) (hp:HP) (I2:(Int)→HP→Prop) (K:Kh):Prop:=
  (LoopP (σ:=Int) (fun I s hp=>F156_l5 x0a x0n x0c x1 x2 x3 x8 I2 K I s hp) x9 hp)
def F156_l2 (x0a:OA) (x0n x0c:Nat) (x1 x2:Int) (x3:Value) (K:Kh) (I2:(Int)→HP→Prop) (x8:Int) (hp:HP):Prop:=
  (ite2 (decide ((x8:Int)<x2)) (F156_j4 x0a x0n x0c x1 x2 x3 x8 x8 hp I2 K) (K (.tuple ⟨[]⟩) hp))
def F156_j1 (x0a:OA) (x0n x0c:Nat) (x1 x2:Int) (x3:Value) (x8:Int) (hp:HP) (K:Kh):Prop:=
  (LoopP (σ:=Int) (fun I s hp=>F156_l2 x0a x0n x0c x1 x2 x3  K I s hp) x8 hp)
def F156 (x0a:OA) (x0n x0c:Nat) (x1 x2:Int) (x3:Value) (hp:HP) (K:Kh):Prop:=
  (F156_j1 x0a x0n x0c x1 x2 x3 (IntKind.wrap .i64 (x1+1)) hp  K)
theorem F156_ok (x0a:OA) (x0n x0c:Nat) (x1 x2:Int) (x3:Value) (hp:HP) (K:Kh) (h:F156 x0a x0n x0c x1 x2 x3 hp K):CF Tryz.prog 156 [(Value.slice x0a x0n x0c),(Value.int .i64 x1),(Value.int .i64 x2),x3] hp K:=
  have L:∀ {Q} n,Snd Tryz.prog 53 (cAt Tryz.f156 (pth n)) Q (CW Tryz.prog 53 [] [] (cAt Tryz.f156 (pth n)) Q):=fun _=>Snd.leaf
  okF h Tryz.func156 (Snd.jn [(0,.s),(1,.i .i64),(2,.i .i64),(3,.w),(8,.i .i64)] (fun a hp=>F156_j1 a.1 a.2.1 a.2.2.1 a.2.2.2.1 a.2.2.2.2.1 a.2.2.2.2.2.1 a.2.2.2.2.2.2.1 hp  K) (L 2) (Snd.block 0 (Snd.lp (σ:=Int) [(0,.s),(1,.i .i64),(2,.i .i64),(3,.w),(8,.i .i64)] (fun a=>a.2.2.2.2.2.2.1) (fun a s=>(a.1,a.2.1,a.2.2.1,a.2.2.2.1,a.2.2.2.2.1,a.2.2.2.2.2.1,s,())) (fun a I s hp=>F156_l2 a.1 a.2.1 a.2.2.1 a.2.2.2.1 a.2.2.2.2.1 a.2.2.2.2.2.1  K I s hp) (fun I2=>(Snd.seq (L 17) (Snd.jn [(0,.s),(1,.i .i64),(2,.i .i64),(3,.w),(8,.i .i64)] (fun a hp=>F156_j3 a.1 a.2.1 a.2.2.1 a.2.2.2.1 a.2.2.2.2.1 a.2.2.2.2.2.1 a.2.2.2.2.2.2.1 hp (fun s hp=>I2 (a.1,a.2.1,a.2.2.1,a.2.2.2.1,a.2.2.2.2.1,a.2.2.2.2.2.1,s,()) hp) K) (Snd.block 1 (Snd.jn [(0,.s),(1,.i .i64),(2,.i .i64),(3,.w),(8,.i .i64),(9,.i .i64)] (fun a hp=>F156_j4 a.1 a.2.1 a.2.2.1 a.2.2.2.1 a.2.2.2.2.1 a.2.2.2.2.2.1 a.2.2.2.2.2.2.1 a.2.2.2.2.2.2.2.1 hp (fun s hp=>I2 (a.1,a.2.1,a.2.2.1,a.2.2.2.1,a.2.2.2.2.1,a.2.2.2.2.2.1,s,()) hp) K) (L 137) (Snd.block 2 (Snd.lp (σ:=Int) [(0,.s),(1,.i .i64),(2,.i .i64),(3,.w),(8,.i .i64),(9,.i .i64)] (fun a=>a.2.2.2.2.2.2.2.1) (fun a s=>(a.1,a.2.1,a.2.2.1,a.2.2.2.1,a.2.2.2.2.1,a.2.2.2.2.2.1,a.2.2.2.2.2.2.1,s,())) (fun a I s hp=>F156_l5 a.1 a.2.1 a.2.2.1 a.2.2.2.1 a.2.2.2.2.1 a.2.2.2.2.2.1 a.2.2.2.2.2.2.1 (fun s hp=>I2 (a.1,a.2.1,a.2.2.1,a.2.2.2.1,a.2.2.2.2.1,a.2.2.2.2.2.1,s,()) hp) K I s hp) (fun I5=>(Snd.seq (Snd.jn [(0,.s),(1,.i .i64),(2,.i .i64),(3,.w),(8,.i .i64),(9,.i .i64),(34,.b)] (fun a hp=>F156_j6 a.1 a.2.1 a.2.2.1 a.2.2.2.1 a.2.2.2.2.1 a.2.2.2.2.2.1 a.2.2.2.2.2.2.1 a.2.2.2.2.2.2.2.1 a.2.2.2.2.2.2.2.2.1 hp (fun s hp=>I2 (a.1,a.2.1,a.2.2.1,a.2.2.2.1,a.2.2.2.2.1,a.2.2.2.2.2.1,s,()) hp) (fun s hp=>I5 (a.1,a.2.1,a.2.2.1,a.2.2.2.1,a.2.2.2.2.1,a.2.2.2.2.2.1,a.2.2.2.2.2.2.1,s,()) hp) K) (L 2121) (L 3145) (by rfl) (by kernel_rfl)) (L 1609))) (by rfl) (by kernel_rfl) (by kernel_rfl))) (by rfl) (by kernel_rfl))) (L 57) (by rfl) (by kernel_rfl)))) (by rfl) (by kernel_rfl) (by kernel_rfl))) (by rfl) (by kernel_rfl)) (by kernel_rfl) (by kernel_rfl) (by kernel_rfl)
end Go.Proofs
set_option linter.unusedVariables false
set_option maxRecDepth 20000
namespace Go.Proofs
open Go Go.HL
section
variable {f:FuncId} {ga gb:List Value} {hp0:HP} {b sp n c:Nat} {cf:Bd→Bd→Int}
theorem S156 (hc:CmpOk Tryz.prog f ga gb hp0 b 97 sp bdc n cf) {d:Array Bd} {lo hi:Nat} {K:Value→HP→Prop} (hs:d.size=n) (hlo:lo≤hi) (hhi:hi≤n) (hn:n≤1000000000)
    (h:K (.tuple ⟨[]⟩) (HA hp0 b 97 sp bdc (Sort.insertionSort (ltC cf) d lo hi))) :
    CF Tryz.prog 156 [.slice (some ⟨b,0,none⟩) n c,.int .i64 lo,.int .i64 hi,.func (.func f) ⟨ga⟩ ⟨gb⟩] (HA hp0 b 97 sp bdc d) K:=by
  refine F156_ok _ n c lo hi _ _ K ?_
  unfold F156 F156_j1
  rw [w64 (by omega) (by omega)]
  refine LoopP.by (J:=fun k (x:Int) hp=>∃ (i:Nat) (d':Array Bd),x=i∧hp=HA hp0 b 97 sp bdc d'∧d'.size=n∧lo<i∧k=hi-i∧Sort.insOuter (ltC cf) lo hi i d'=Sort.insertionSort (ltC cf) d lo hi) ?_
    (n:=hi-(lo+1)) ⟨lo+1,d,by omega,rfl,hs,by omega,rfl,rfl⟩
  rintro I k x hp ⟨i,d',rfl,rfl,hs',hli,rfl,he⟩ hI
  unfold F156_l2
  rw [Sort.insOuter] at he
  by_cases hi':i<hi
  · rw [decide_eq_true (by omega:(i:Int)<(hi:Int)),ite2_true]
    rw [if_pos hi'] at he
    unfold F156_j4
    refine LoopP.by (J:=fun k (y:Int) hp=>∃ (j:Nat) (d2:Array Bd),y=j∧hp=HA hp0 b 97 sp bdc d2∧d2.size=n∧j<n∧k=j∧Sort.insInner (ltC cf) lo j d2=Sort.insInner (ltC cf) lo i d') ?_
      (n:=i) ⟨i,d',rfl,rfl,hs',by omega,rfl,rfl⟩
    rintro I2 k2 y hp2 ⟨j,d2,rfl,rfl,hs2,hj,hk2,he2⟩ hI2
    unfold F156_l5
    have out:Sort.insInner (ltC cf) lo i d'=d2→F156_j6 (some ⟨b,0,none⟩) n c lo hi (.func (.func f) ⟨ga⟩ ⟨gb⟩) i j false (HA hp0 b 97 sp bdc d2) I I2 K:=by
      intro heq
      unfold F156_j6 F156_j3
      rw [ite2_false,w64 (by omega) (by omega)]
      exact hI (hi-(i+1)) _ _ (by omega) ⟨i+1,d2,by omega,rfl,hs2,by omega,rfl,by rw [← heq]; exact he⟩
    by_cases hjl:lo<j
    · rw [decide_eq_true (by omega:(j:Int) > (lo:Int)),ite2_true]
      obtain ⟨j',rfl⟩:∃ j',j=j'+1:=⟨j-1,by omega⟩
      have w1:IntKind.wrap .i64 (((j'+1:Nat):Int)-1)=(j':Int):=by rw [w64 (by omega) (by omega)]; omega
      have g1:=HA.get (hp0:=hp0) (b:=b) (e:=97) (sp:=sp) bdc_len (d:=d2) (i:=j'+1) (by omega)
      have g0:=HA.get (hp0:=hp0) (b:=b) (e:=97) (sp:=sp) bdc_len (d:=d2) (i:=j') (by omega)
      simp only [w1,ptrN_some,Int.toNat_natCast,g1,g0,ldL_some,fnV_mk]
      refine ⟨by omega,by omega,by omega,by omega,?_⟩
      refine hc d2 _ _ _ hs2 ?_
      rw [intV_int]
      rw [Sort.insInner] at he2
      have hgt:decide (j'+1 > lo)=true:=decide_eq_true (by omega)
      cases hlt:decide (cf d2[j'+1]! d2[j']!<0)
      · have:ltC cf d2[j'+1]! d2[j']! = false:=hlt
        rw [hgt,this] at he2
        exact out (by simpa using he2.symm)
      · have:ltC cf d2[j'+1]! d2[j']! = true:=hlt
        rw [hgt,this] at he2
        simp only [Bool.and_self,if_true] at he2
        unfold F156_j6
        simp only [ite2_true,w1,ptrN_some,Int.toNat_natCast,g0,g1,ldL_some]
        refine ⟨by omega,by omega,by omega,by omega,by omega,by omega,rfl,?_⟩
        refine HA.st bdc_len bdc_one (by omega) _ ?_
        refine ⟨by omega,by omega,rfl,?_⟩
        refine HA.st bdc_len bdc_one (by rw [Array.size_setIfInBounds]; omega) _ ?_
        exact hI2 j' _ _ (by omega) ⟨j',_,rfl,rfl,by rw [Array.size_setIfInBounds,Array.size_setIfInBounds]; exact hs2,by omega,rfl,he2⟩
    · rw [decide_eq_false (by omega:¬ (j:Int) > (lo:Int)),ite2_false]
      refine out ?_
      cases j with
      | zero=>rw [Sort.insInner] at he2; exact he2.symm
      | succ j=>
        rw [Sort.insInner] at he2
        have hgt:decide (j+1 > lo)=false:=decide_eq_false (by omega)
        rw [hgt] at he2
        simpa using he2.symm
  · rw [decide_eq_false (by omega:¬ (i:Int)<(hi:Int)),ite2_false]
    rw [if_neg hi'] at he
    rw [he]
    exact h
end
end Go.Proofs
set_option linter.unusedVariables false
set_option maxRecDepth 20000
namespace Go.Proofs
open Go Go.HL
section
variable {f:FuncId} {ga gb:List Value} {hp0:HP} {b sp n c:Nat} {cf:Bd→Bd→Int}
theorem S139 (hx:CmpX Tryz.prog f ga gb hp0 b 97 sp bdc n cf) (hS:Sort.SWO (ltC cf)) (hn:n≤65535):∀ (m:Nat) {d:Array Bd} {lo hi limit:Nat} {K:Value→HP→Prop},d.size=n→lo≤hi→hi≤n→limit≤64→hi-lo≤m→Sort.Below (ltC cf) lo hi d →
    (∀ d',Sort.PermIn lo hi d d'→Sort.SortedIn (ltC cf) lo hi d'→K (.tuple ⟨[]⟩) (HA hp0 b 97 sp bdc d')) →
    CF Tryz.prog 139 [.slice (some ⟨b,0,none⟩) n c,.int .i64 lo,.int .i64 hi,.int .i64 limit,.func (.func f) ⟨ga⟩ ⟨gb⟩] (HA hp0 b 97 sp bdc d) K:=by
  intro m
  induction m using Nat.strongRecOn with
  | ind m ih=>
  intro d lo hi limit K hs hlo hhi hl hm hB h
  have hc:=hx.ok
  refine F139_ok _ n c lo hi limit _ _ K ?_
  unfold F139 F139_j1
  refine LoopP.by (J:=fun k (s:Int × Int × Int × Bool × Bool) hp=>∃ (a e lim:Nat) (wb wp:Bool) (d':Array Bd),s=((a:Int),(e:Int),(lim:Int),wb,wp)∧hp=HA hp0 b 97 sp bdc d'∧d'.size=n∧a≤e∧e≤n∧lim≤64∧e-a≤hi-lo∧k=e-a∧Sort.Below (ltC cf) a e d' ∧
      (∀ R,Sort.PermIn a e d' R→Sort.SortedIn (ltC cf) a e R→K (.tuple ⟨[]⟩) (HA hp0 b 97 sp bdc R))) ?_
    (n:=hi-lo) ⟨lo,hi,limit,true,true,d,rfl,rfl,hs,hlo,hhi,hl,Nat.le_refl _,rfl,hB,h⟩
  clear hs hlo hhi hl hB h
  rintro I k x hp ⟨a,e,lim,wb,wp,d,rfl,rfl,hs,hae,hen,hl,hle,rfl,hB,h⟩ hI
  unfold F139_l2
  simp only []
  have w1:IntKind.wrap .i64 ((e:Int)-(a:Int))=((e-a:Nat):Int):=wi (by omega) (by omega)
  rw [w1]
  by_cases h12:e-a≤12
  · rw [decide_eq_true (by omega:((e-a:Nat):Int)≤12),ite2_true]
    refine S156 hc hs hae hen (by omega) ?_
    have hi:=Sort.insertionSort_holds hS d a e hae (by omega)
    exact h _ hi.1 hi.2
  rw [decide_eq_false (by omega:¬ ((e-a:Nat):Int)≤12),ite2_false]
  by_cases h0:lim=0
  · subst h0
    have hb:(((0:Nat):Int)==0)=true:=rfl
    rw [hb,ite2_true]
    refine S157 hc hs hae hen (by omega) ?_
    have hi:=Sort.heapSort_holds hS d a e hae (by omega)
    exact h _ hi.1 hi.2
  have hb:((lim:Int)==0)=false:=by rw [beq_eq_false_iff_ne]; omega
  rw [hb,ite2_false]
  have last:∀ (lim':Nat) (d3:Array Bd) (p:Nat) (wb wp:Bool),lim'≤64→Sort.PermIn a e d d3→a≤p→p<e →
      F139_j5 (some ⟨b,0,none⟩) n c a e lim' (.func (.func f) ⟨ga⟩ ⟨gb⟩) wb wp ((e-a:Nat):Int) p (HA hp0 b 97 sp bdc d3) I K:=by
    intro lim' d3 p wb wp hl' hp3 hpa hpe
    have hs3:d3.size=n:=by rw [hp3.1]; exact hs
    have B3:Sort.Below (ltC cf) a e d3:=hB.perm (by omega) hp3
    have two:F139_j6 (some ⟨b,0,none⟩) n c a e lim' (.func (.func f) ⟨ga⟩ ⟨gb⟩) wb wp ((e-a:Nat):Int) p false (HA hp0 b 97 sp bdc d3) I K:=by
      unfold F139_j6
      rw [ite2_false]
      refine S163 hc hs3 (by omega) hen (by omega) (by omega) ?_
      rcases hR:Sort.partition (ltC cf) d3 a e p with ⟨mid,ap,d4⟩
      obtain ⟨q1,q2,q3,q4,q5,q6,q7⟩:=Sort.round_part hS (Sort.partition_holds _) hpa hpe (by omega) B3 hR
      simp only [tup2V_mk,intV_int,boolV_bool]
      refine ⟨by omega,?_⟩
      have v1:IntKind.wrap .i64 ((mid:Int)-(a:Int))=((mid-a:Nat):Int):=wi (by omega) (by omega)
      have v2:IntKind.wrap .i64 ((e:Int)-(mid:Int))=((e-mid:Nat):Int):=wi (by omega) (by omega)
      have v3:IntKind.wrap .i64 ((mid:Int)+1)=((mid+1:Nat):Int):=wi (by omega) (by omega)
      rw [v1,v2,v3]
      by_cases hlt:mid-a<e-mid
      · rw [decide_eq_true (by omega:((mid-a:Nat):Int)<((e-mid:Nat):Int)),ite2_true]
        refine ih (mid-a) (by omega) (by omega) q1 (by omega) hl' (Nat.le_refl _) q4 ?_
        intro L hL hsL
        obtain ⟨z1,z2⟩:=q6 L hL hsL
        exact hI (e-(mid+1)) _ _ (by omega) ⟨mid+1,e,lim',_,ap,L,rfl,rfl,by rw [hL.1]; omega,by omega,hen,hl',by omega,rfl,z1,fun R hR hsR=>h R (Sort.permIn_trans _ _ _ _ _ hp3 (z2 R hR hsR).1) (z2 R hR hsR).2⟩
      · rw [decide_eq_false (by omega:¬ ((mid-a:Nat):Int)<((e-mid:Nat):Int)),ite2_false]
        refine ih (e-(mid+1)) (by omega) (by omega) (by omega) hen hl' (Nat.le_refl _) q5 ?_
        intro L hL hsL
        obtain ⟨z1,z2⟩:=q7 L hL hsL
        exact hI (mid-a) _ _ (by omega) ⟨a,mid,lim',_,ap,L,rfl,rfl,by rw [hL.1]; omega,q1,by omega,hl',by omega,rfl,z1,fun R hR hsR=>h R (Sort.permIn_trans _ _ _ _ _ hp3 (z2 R hR hsR).1) (z2 R hR hsR).2⟩
    unfold F139_j5
    by_cases ha:a > 0
    · rw [decide_eq_true (by omega:(a:Int) > 0),ite2_true]
      have v1:IntKind.wrap .i64 ((a:Int)-1)=((a-1:Nat):Int):=wi (by omega) (by omega)
      rw [v1]
      refine cmpP hc bdc_len hs3 (i:=a-1) (j:=p) rfl rfl (by omega) (by omega) ?_
      have hlq:decide (cf d3[a-1]! d3[p]!<0)=ltC cf d3[a-1]! d3[p]! := rfl
      rw [hlq]
      cases hlt:ltC cf d3[a-1]! d3[p]!
      · unfold F139_j6
        simp only [Bool.not_false,ite2_true]
        refine S162 hc hs3 (by omega) hen (by omega) (by omega) ?_
        rcases hR:Sort.partitionEqual (ltC cf) d3 a e p with ⟨mid,d4⟩
        obtain ⟨q1,q2,q3,q4,q5⟩:=Sort.round_eq hS (Sort.partitionEqual_holds _) ha hpa hpe (by omega) B3 hlt hR
        rw [intV_int]
        exact hI (e-mid) _ _ (by omega) ⟨mid,e,lim',wb,wp,d4,rfl,rfl,by omega,q2,hen,hl',by omega,rfl,q4,fun R hR hsR=>h R (Sort.permIn_trans _ _ _ _ _ hp3 (q5 R hR hsR).1) (q5 R hR hsR).2⟩
      · simp only [Bool.not_true]
        exact two
    · rw [decide_eq_false (by omega:¬ (a:Int) > 0),ite2_false]
      exact two
  have part:∀ (lim':Nat) (d2:Array Bd) (p:Nat) (w:Int),lim'≤64→Sort.PermIn a e d d2→a≤p→p<e →
      F139_j4 (some ⟨b,0,none⟩) n c a e lim' (.func (.func f) ⟨ga⟩ ⟨gb⟩) wb wp ((e-a:Nat):Int) p w (HA hp0 b 97 sp bdc d2) I K:=by
    intro lim' d2 p w hl' hp2 hpa hpe
    have hs2:d2.size=n:=by rw [hp2.1]; exact hs
    have B2:Sort.Below (ltC cf) a e d2:=hB.perm (by omega) hp2
    have seven:∀ q:Bool,F139_j7 (some ⟨b,0,none⟩) n c a e lim' (.func (.func f) ⟨ga⟩ ⟨gb⟩) wb wp ((e-a:Nat):Int) p q (HA hp0 b 97 sp bdc d2) I K:=by
      intro q
      unfold F139_j7
      cases q
      · rw [ite2_false]; exact last lim' d2 p wb wp hl' hp2 hpa hpe
      · rw [ite2_true]
        refine S161 hc hs2 (by omega) hen (by omega) ?_
        obtain ⟨r1,r2⟩:=Sort.partialInsertionSort_holds hS d2 a e (by omega) (by omega) B2
        rw [boolV_bool]
        cases hq:(Sort.partialInsertionSort (ltC cf) d2 a e).2
        · rw [ite2_false]
          exact last lim' _ p wb wp hl' (Sort.permIn_trans _ _ _ _ _ hp2 r1) hpa hpe
        · rw [ite2_true]
          exact h _ (Sort.permIn_trans _ _ _ _ _ hp2 r1) (r2 hq)
    unfold F139_j4
    cases wb
    · rw [ite2_false]; exact seven _
    · rw [ite2_true]
      cases wp
      · rw [ite2_false]; exact seven _
      · rw [ite2_true]; exact seven _
  have piv:∀ (lim':Nat) (d1:Array Bd),lim'≤64→Sort.PermIn a e d d1→F139_j3 (some ⟨b,0,none⟩) n c a e lim' (.func (.func f) ⟨ga⟩ ⟨gb⟩) wb wp ((e-a:Nat):Int) (HA hp0 b 97 sp bdc d1) I K:=by
    intro lim' d1 hl' hp1
    have hs1:d1.size=n:=by rw [hp1.1]; exact hs
    unfold F139_j3
    refine S159 hx hs1 (by omega) hen hn fun p w hpa hpe=>?_
    simp only [tup2V_mk,intV_int]
    cases (w==2)
    · rw [ite2_false]; exact part lim' d1 p w hl' hp1 hpa hpe
    · rw [ite2_true]
      refine S160 hs1 (by omega) hen (by omega) ?_
      have v1:IntKind.wrap .i64 ((e:Int)-1)=((e-1:Nat):Int):=wi (by omega) (by omega)
      have v2:IntKind.wrap .i64 ((p:Int)-(a:Int))=((p-a:Nat):Int):=wi (by omega) (by omega)
      have v3:IntKind.wrap .i64 (((e-1:Nat):Int)-((p-a:Nat):Int))=((e-1-(p-a):Nat):Int):=wi (by omega) (by omega)
      rw [v1,v2,v3]
      exact part lim' _ _ 1 hl' (Sort.permIn_trans _ _ _ _ _ hp1 (Sort.reverseRange_holds d1 a e hae (by omega))) (by omega) (by omega)
  cases wb
  · simp only [Bool.not_false,ite2_true]
    refine S158 hs hae hen hn fun d1 hp1=>?_
    have v1:IntKind.wrap .i64 ((lim:Int)-1)=((lim-1:Nat):Int):=wi (by omega) (by omega)
    rw [v1]
    exact piv (lim-1) d1 (by omega) hp1
  · simp only [Bool.not_true,ite2_false]
    exact piv lim d hl (Sort.permIn_refl d a e)
end
theorem S113 {f:FuncId} {ga gb:List Value} {cf:Bd→Bd→Int} (hS:Sort.SWO (ltC cf)) {hp:HP} {s:Option Addr} {n c:Nat} {ts:List Bd} (hr:Row hp s n c 97 26 (ts.flatMap bdc)) (hl:ts.length=n) (hn:n≤65535)
    (hx:∀ b,s=some ⟨b,0,none⟩→CmpX Tryz.prog f ga gb hp b 97 ((c-n)*26) bdc n cf) {K:Value→HP→Prop}
    (h:∀ (ts':List Bd) (hp':HP),ts'.Perm ts→ts'.Pairwise (fun x y=>ltC cf y x=false)→Row hp' s n c 97 26 (ts'.flatMap bdc)→(hp'=hp∨∃ b e,s=some ⟨b,0,none⟩∧hp'=hp.set b e)→K (.tuple ⟨[]⟩) hp') :
    CF Tryz.prog 113 [.slice s n c,.func (.func f) ⟨ga⟩ ⟨gb⟩] hp K:=by
  refine F113_ok s n c _ hp K ?_
  unfold F113
  rw [wu64 (by omega) (by omega)]
  refine C128 hn fun L hL _ _=>?_
  rw [intV_int]
  have z0:(Value.int .i64 0)=Value.int .i64 ((0:Nat):Int):=rfl
  rcases hr with ⟨rfl,rfl,rfl,hnil⟩ | ⟨b,rfl,hnc,hxl,hb⟩
  · have ht:ts=[]:=List.eq_nil_of_length_eq_zero hl
    subst ht
    rw [z0]
    refine F139_ok none 0 0 ((0:Nat):Int) ((0:Nat):Int) L _ hp _ ?_
    unfold F139 F139_j1
    refine LoopP.by (J:=fun k (s:Int × Int × Int × Bool × Bool) hp'=>s.1=0∧s.2.1=0∧hp'=hp) ?_ (n:=0) ⟨rfl,rfl,rfl⟩
    rintro I k ⟨a,e,lim,wb,wp⟩ hp' ⟨h1,h2,rfl⟩ hI
    simp only at h1 h2
    subst h1 h2
    unfold F139_l2
    simp only []
    have w0:IntKind.wrap .i64 ((0:Int)-0)=0:=by rw [w64 (by omega) (by omega)]; omega
    rw [w0,decide_eq_true (by omega:(0:Int)≤12),ite2_true]
    refine F156_ok none 0 0 0 0 _ hp' _ ?_
    unfold F156 F156_j1
    have w1:IntKind.wrap .i64 ((0:Int)+1)=1:=by rw [w64 (by omega) (by omega)]; omega
    rw [w1]
    refine LoopP.by (J:=fun k (x:Int) hp2=>x=1∧hp2=hp') ?_ (n:=0) ⟨rfl,rfl⟩
    rintro I2 k2 x hp2 ⟨rfl,rfl⟩ hI2
    unfold F156_l2
    rw [decide_eq_false (by omega:¬ (1:Int)<0),ite2_false]
    exact h [] _ (List.Perm.refl _) List.Pairwise.nil (.inl ⟨rfl,rfl,rfl,rfl⟩) (.inl rfl)
  · have hha:HA hp b 97 ((c-n)*26) bdc ts.toArray=hp:=HP.set_self _ _ _ hb
    rw [z0]
    have key:=S139 (c:=c) (hx b rfl) hS hn n (d:=ts.toArray) (lo:=0) (hi:=n) (limit:=L) (K:=fun u_4 h_5=>K (.tuple ⟨[]⟩) h_5) (by simpa using hl) (Nat.zero_le _) (Nat.le_refl _) (by omega) (by omega) (.inl rfl) ?_
    · rw [hha] at key; exact key
    intro d' hpm hst
    have hsz:d'.size=n:=by rw [hpm.1]; simpa using hl
    have hpl:d'.toList.Perm ts:=by
      have h3:=hpm.2.2
      have e1:d'.extract 0 n=d':=by rw [← hsz]; simp
      have e2:ts.toArray.extract 0 n=ts.toArray:=by rw [← hl]; simp
      rw [e1,e2] at h3
      exact h3
    refine h d'.toList _ hpl ?_ (.inr ⟨b,rfl,hnc,by rw [flat_len bdc_len]; simp [hsz],by unfold HA; rw [HP.set_eq]⟩) (.inr ⟨b,_,rfl,rfl⟩)
    rw [List.pairwise_iff_getElem]
    intro i j hi hj hij
    have:=hst i j (Nat.zero_le _) hij (by simpa [hsz] using hj)
    rw [getElem!_pos d' j (by simpa using hj),getElem!_pos d' i (by simpa using hi)] at this
    simpa using this
end Go.Proofs
set_option linter.unusedVariables false
set_option linter.unusedSimpArgs false
set_option maxRecDepth 20000
namespace Go.Proofs
open Go Go.HL
open Go.Exp (Th tlt Ord setW dropW insW)
structure Sy where
  id:Int
  out:Q × Int
  peer:Q × Int
  due:Int
  text:ByteArray
deriving DecidableEq
def zT:Q × Int:=((0,0,0,0),0)
def sy0:Sy:=⟨0,zT,zT,0,⟨#[]⟩⟩
instance:Inhabited Sy:=⟨sy0⟩
def Sy.key (x:Sy):ByteArray:=keyS x.out x.peer
theorem pp (p:Nat) (c:Option Addr→Prop):ptrV (ptr p 0) c=c (some ⟨p,0,none⟩):=rfl
section
variable {tb:Obj} {hq:HP} {s mx last:Nat} {L:List Sy} {w:List Th} {K:Value→HP→Prop}
end
end Go.Proofs
set_option linter.unusedVariables false
set_option linter.unusedSimpArgs false
set_option maxRecDepth 20000
namespace Go.Proofs
open Go Go.HL
open Go.Exp (Th tlt Ord setW dropW insW)
section
variable {tb:Obj} {hq:HP} {s mx last:Nat} {L:List Sy} {w:List Th} {K:Value→HP→Prop}
end
end Go.Proofs
set_option linter.unusedVariables false
set_option linter.unusedSimpArgs false
set_option maxRecDepth 20000
namespace Go.Proofs
open Go Go.HL
open Go.Exp (Th tlt Ord setW dropW insW)
section
variable {tb:Obj} {hq:HP} {s mx last:Nat} {L:List Sy} {w:List Th} {K:Value→HP→Prop}
end
end Go.Proofs
set_option linter.unusedVariables false
set_option linter.unusedSimpArgs false
set_option maxRecDepth 20000
namespace Go.Proofs
open Go Go.HL
open Go.Exp (Th tlt Ord setW dropW insW)
section
variable {tb:Obj} {hp:HP} {ps:Nat→HP} {s mx last:Nat} {L:List Sy} {w:List Th} {K:Value→HP→Prop}
theorem ppn (c:Option Addr→Prop):ptrV (.pointer none) c=c none:=rfl
def startP (hp:HP) (tb:Obj):Nat→HP:=pu (pu (fun _ _=>.none) 1 (HP.onlyF 0 (.obj tb))) 0 (hp.set 0 .none)
theorem startP_ok (ht:TabR tb hp):Parts hp (startP hp tb):=by
  refine Parts.of_two ?_ (HSub.onlyF ht.1) fun x=>?_
  · intro x
    by_cases hx:x=0
    · subst hx; exact .inl (HP.set_eq ..)
    · exact .inr (HP.set_ne _ _ hx)
  · by_cases hx:x=0
    · subst hx; exact .inl (HP.set_eq ..)
    · exact .inr (HP.onlyF_ne _ hx)
theorem startP_0:startP hp tb 0=hp.set 0 .none:=pu_eq ..
theorem startP_1 (ht:TabR tb hp):TabR tb (startP hp tb 1):=⟨by unfold startP; rw [pu_ne _ _ (by omega),pu_eq]; exact HP.onlyF_eq ..,ht.2⟩
theorem startP_free {i:Nat} (hi:2≤i) (b:Nat):startP hp tb i b=.none:=by unfold startP; rw [pu_ne _ _ (by omega),pu_ne _ _ (by omega)]
theorem finish {hp':HP} (ht:TabR tb hp) (hP:Parts hp' ps) (h0:ps 0=hp.set 0 .none) (ht':TabR tb hp'):HSub hp hp':=fun x=>by
  by_cases hx:x=0
  · subst hx; right; rw [ht.1,ht'.1]
  · have:=hP.sub 0 x
    rw [h0,HP.set_ne _ _ hx] at this
    exact this
def ta (a port:Int):Q × Int:=((1,0,0,a),port)
theorem ta_ok {a port:Int} (ha:okB a) (hz:okZ port):okT (ta a port):=⟨⟨(by decide:(0:Int)≤1∧(1:Int)≤255),(by decide:(0:Int)≤0∧(0:Int)≤255),(by decide:(0:Int)≤0∧(0:Int)≤255),ha⟩,hz⟩
theorem okBc {n:Int} (h:decide (0≤n∧n≤255)=true):okB n:=@of_decide_eq_true (0≤n∧n≤255) _ h
theorem okZc {n:Int} (h:decide (-9223372036854775808≤n∧n≤9223372036854775807)=true):okZ n:=@of_decide_eq_true (-9223372036854775808≤n∧n≤9223372036854775807) _ h
end
end Go.Proofs
set_option linter.unusedVariables false
set_option maxRecDepth 20000
namespace Go.Proofs
open Go Go.HL
end Go.Proofs
set_option linter.unusedVariables false
set_option maxRecDepth 20000
namespace Go.Proofs
open Go Go.HL
def F82 (x0 x1:Int) (hp:HP) (K:Kh):Prop:=
  (CF Tryz.prog 129 [(Value.int .i64 x0)] hp fun u_1 h_2=>(boolV u_1 fun q_3=>(CF Tryz.prog 129 [(Value.int .i64 x1)] h_2 fun u_4 h_5=>(boolV u_4 fun q_6=>(ite2 q_3 (ite2 q_6 (K (Value.int .i64 0) h_5) (K (Value.int .i64 (-1)) h_5)) (ite2 q_6 (K (Value.int .i64 1) h_5) (ite2 (decide ((x0:Int)<x1)) (K (Value.int .i64 (-1)) h_5) (ite2 (decide ((x0:Int) > x1)) (K (Value.int .i64 1) h_5) (K (Value.int .i64 0) h_5)))))))))
theorem F82_ok (x0 x1:Int) (hp:HP) (K:Kh) (h:F82 x0 x1 hp K):CF Tryz.prog 82 [(Value.int .i64 x0),(Value.int .i64 x1)] hp K:=
  have L:∀ {Q} n,Snd Tryz.prog 20 (cAt Tryz.f82 (pth n)) Q (CW Tryz.prog 20 [] [] (cAt Tryz.f82 (pth n)) Q):=fun _=>Snd.leaf
  okF h Tryz.func82 (L 1) (by kernel_rfl) (by kernel_rfl) (by kernel_rfl)
def F129 (x0:Int) (hp:HP) (K:Kh):Prop:=
  (K (Value.bool ((x0:Int) != x0)) hp)
theorem F129_ok (x0:Int) (hp:HP) (K:Kh) (h:F129 x0 hp K):CF Tryz.prog 129 [(Value.int .i64 x0)] hp K:=
  have L:∀ {Q} n,Snd Tryz.prog 6 (cAt Tryz.f129 (pth n)) Q (CW Tryz.prog 6 [] [] (cAt Tryz.f129 (pth n)) Q):=fun _=>Snd.leaf
  okF h Tryz.func129 (L 1) (by kernel_rfl) (by kernel_rfl) (by kernel_rfl)
end Go.Proofs
set_option linter.unusedVariables false
namespace Go.HL
open Go
theorem perm_of_mapI {α β:Type} {f:α→β} (hf:∀ a b,f a=f b→a=b):∀ {l l':List α},(l.map f).Perm (l'.map f)→l.Perm l'
  | [],l',h=>by
    have:=h.length_eq
    simp at this
    rw [List.eq_nil_of_length_eq_zero this.symm]
  | a::l,l',h=>by
    classical
    have hm:f a∈l'.map f:=h.mem_iff.1 (by simp)
    obtain ⟨a',ha',e⟩:=List.mem_map.1 hm
    have:=hf _ _ e
    subst this
    have hp:=List.perm_cons_erase ha'
    refine List.Perm.trans ?_ hp.symm
    refine List.Perm.cons _ (perm_of_mapI hf ?_)
    have h2:=h.trans (hp.map f)
    simp only [List.map_cons] at h2
    exact h2.cons_inv
def cmpI (x y:Int):Int:=if x<y then -1 else if x > y then 1 else 0
theorem cmpI_lt {x y:Int}:decide (cmpI x y<0)=true↔x<y:=by
  unfold cmpI
  rw [decide_eq_true_iff]
  repeat' split
  all_goals omega
theorem cmpI_neg {x y:Int}:cmpI x y<0↔x<y:=by
  unfold cmpI
  repeat' split
  all_goals omega
theorem ltC_f {α:Type} (f:α→Int) (a b:α):(ltC (fun a b=>cmpI (f a) (f b)) a b=false)↔¬ (f a<f b):=by
  unfold ltC
  rw [decide_eq_false_iff_not]
  exact not_congr cmpI_neg
theorem swo_cmpI {α:Type} (f:α→Int):Sort.SWO (ltC fun a b=>cmpI (f a) (f b)) where
  irrefl x:=by
    have:¬ (ltC (fun a b=>cmpI (f a) (f b)) x x=true):=by unfold ltC; rw [cmpI_lt]; omega
    simpa using this
  trans x y z:=by unfold ltC; simp only [cmpI_lt]; omega
  ntrans x y z:=by
    have k:=ltC_f f
    rw [k,k,k]; omega
theorem order_eq {α:Type} {f:α→Int} {a b:List α} (ha:a.Pairwise (fun x y=>ltC (fun a b=>cmpI (f a) (f b)) y x=false)) (hb:(b.map f).Pairwise (· < ·)) (hp:a.Perm b):a=b:=by
  rw [List.pairwise_map] at hb
  have k:=ltC_f f
  have inj:∀ x∈b,∀ y∈b,f x=f y→x=y:=fun x hx y hy e=>by
    have hn:(b.map f).Nodup:=by
      unfold List.Nodup
      rw [List.pairwise_map]
      exact hb.imp fun h e=>by omega
    clear hb hp ha
    induction b with
    | nil=>cases hx
    | cons z b ih=>
      rw [List.map_cons,List.nodup_cons] at hn
      rcases List.mem_cons.1 hx with hx1 | hx1
      · rcases List.mem_cons.1 hy with hy1 | hy1
        · rw [hx1,hy1]
        · subst hx1; exact absurd (e▸List.mem_map.2 ⟨y,hy1,rfl⟩) hn.1
      · rcases List.mem_cons.1 hy with hy1 | hy1
        · subst hy1; exact absurd (e▸List.mem_map.2 ⟨x,hx1,rfl⟩) hn.1
        · exact ih hx1 hy1 hn.2
  refine List.Perm.eq_of_pairwise (le:=fun x y=>f x≤f y) (fun x y hx hy h1 h2=>inj x (hp.mem_iff.1 hx) y hy (by omega)) ?_ ?_ hp
  · refine ha.imp fun h=>?_
    rw [k] at h; omega
  · exact hb.imp fun h=>by omega
end Go.HL
set_option linter.unusedVariables false
set_option linter.unusedSimpArgs false
set_option maxRecDepth 20000
namespace Go.Proofs
open Go Go.HL
open Go.Exp (Th tlt Ord setW dropW insW)
theorem C129 {x:Int} {hp:HP} {K:Value→HP→Prop} (h:K (.bool false) hp):CF Tryz.prog 129 [.int .i64 x] hp K:=by
  refine F129_ok x hp K ?_
  unfold F129
  simpa using h
theorem C82 {x y:Int} {hp:HP} {K:Value→HP→Prop} (h:K (.int .i64 (cmpI x y)) hp):CF Tryz.prog 82 [.int .i64 x,.int .i64 y] hp K:=by
  refine F82_ok x y hp K ?_
  unfold F82
  refine C129 ?_
  rw [boolV_bool]
  refine C129 ?_
  rw [boolV_bool,ite2_false,ite2_false]
  unfold cmpI at h
  by_cases h1:x<y
  · rw [if_pos h1] at h
    rw [decide_eq_true h1,ite2_true]; exact h
  rw [if_neg h1] at h
  rw [decide_eq_false h1,ite2_false]
  by_cases h2:x > y
  · rw [if_pos h2] at h
    rw [decide_eq_true h2,ite2_true]; exact h
  · rw [if_neg h2] at h
    rw [decide_eq_false h2,ite2_false]; exact h
section
variable {tb:Obj} {hq:HP} {s mx last:Nat} {L:List Sy} {w:List Th} {K:Value→HP→Prop}
theorem same_at {hp hp' h:HP} {b:Nat} (h1:HSub h hp) (h2:HSub h hp') (hb:h b≠.none):hp' b=hp b:=by
  rw [h1.some rfl hb,h2.some rfl hb]
end
end Go.Proofs
set_option linter.unusedVariables false
set_option linter.unusedSimpArgs false
set_option maxRecDepth 20000
namespace Go.Proofs
open Go Go.HL
theorem C114 {x y:Bd} {hp:HP} {K:Value→HP→Prop} (h:K (.int .i64 (cmpI x.id y.id)) hp):CF Tryz.prog 114 [.agg ⟨bdc x⟩,.agg ⟨bdc y⟩] hp K:=by
  refine F114_ok (bdc x) (bdc y) hp K ?_
  unfold F114
  rw [bdc_id,ldV_some,intV_int,bdc_id,ldV_some,intV_int]
  refine C82 ?_
  rw [intV_int]
  exact h
section
variable {tb:Obj} {hq:HP} {t:Nat} {l:List Q} {low high:Int} {mx last n:Nat} {L:List Bd} {E:List (Bd × Nat)} {ps:Nat→HP} {m x o:Nat} {pl pm:Nat→Nat} {H:Nat→List ((Q × Int) × Bool)} {K:Value→HP→Prop}
set_option maxHeartbeats 2000000 in
theorem W60 (h:BdW tb hq t l low high mx last n L) (hsm:L.length≤10000)
    (hK:∀ ps hp' a c,Parts hp' ps→ps 0=hq→Row (ps 1) a L.length c 97 26 (L.flatMap bdc)→K (.slice a L.length c) hp'):CF Tryz.prog 60 [ptr t 0] hq K:=by
  refine F60_ok _ hq K ?_
  unfold F60
  have hinv:=h.inv
  obtain ⟨E,qs,m,x,o,pl,pm,rfl,h⟩:=h
  refine C88 h ?_
  simp only [boolV_bool,ite2_false,ptrN_some,Nat.reduceAdd,h.c6,ldV_some,mapV_map]
  have hM:=h.mapq
  have hEl:(E.map (·.1)).length=E.length:=List.length_map ..
  rw [hEl] at hsm hK
  refine opS_range u123 hM fun it e hit hI0=>?_
  unfold F60_j2
  have hme:hq m≠.none:=hM.ne
  have hmit:m≠it:=fun e'=>hme (by rw [e']; exact hit)
  refine LoopP.by (J:=fun k (st:Option Addr × Nat × Nat) hp=>∃ (ps:Nat→HP) (D:List (Bd × Nat)),Parts hp ps∧ps 0=hq∧ps 2 it≠.none∧(∀ e∈D,e∈E)∧IterR hp it m iw (fun k:Nat=>ptr k 0) (E.map fun e=>(e.1.id,e.2)) (D.map fun e=>(e.1.id,e.2)) ∧
      Row (ps 1) st.1 st.2.1 st.2.2 97 26 ((D.map (·.1)).flatMap bdc)∧st.2.1=D.length∧k=E.length-D.length) ?_
    (n:=E.length) ⟨pu (pu (fun _ _=>.none) 0 hq) 2 (HP.set (fun _=>.none) it e),[],?_,by rw [pu_ne _ _ (by omega),pu_eq],?_,fun e he=>absurd he (by simp),hI0,?_,rfl,by simp⟩
  rotate_left
  · have P0:=(Parts.one (HSub.refl hq)).new 2 hit e
    rwa [pu_ne _ _ (by omega)] at P0
  · rw [pu_eq,HP.set_eq]
    obtain ⟨o,ho⟩:=hI0.obj.1
    rw [HP.set_eq] at ho
    rw [ho]; simp
  · exact .inl ⟨rfl,rfl,rfl,rfl⟩
  rintro I k ⟨a,n,c⟩ hp ⟨ps,D,hP,h0,hit2,hD,hI,hrow,hn,rfl⟩ hgo
  simp only at hrow hn
  subst hn
  unfold F60_l3
  have hlenI:=hI.len
  rw [List.length_map,List.length_map] at hlenI
  refine opS_next hI ?_ ?_
  · intro hperm
    rw [tupJ_end,boolV_bool,ite2_false]
    unfold F60_j1
    have hpm:(D.map (·.1)).Perm (E.map (·.1)):=by
      have h1:(D.map fun e=>(e.1.id,e.2)).Perm (E.map fun e=>(e.1.id,e.2)):=by
        refine perm_of_mapI (f:=fun p:Int × Nat=>(iw p.1,ptr p.2 0)) (fun a b e=>?_) hperm
        simp only [Prod.mk.injEq,iw,ptr,Value.int.injEq,true_and,Value.pointer.injEq,Option.some.injEq,Addr.mk.injEq,and_true] at e
        exact Prod.ext e.1 e.2
      have h2:=h1.map (fun p:Int × Nat=>(findI p.1 (E.map (·.1))).getD bd0)
      rw [List.map_map,List.map_map] at h2
      have e1:∀ M:List (Bd × Nat),(∀ e∈M,e∈E)→M.map ((fun p:Int × Nat=>(findI p.1 (E.map (·.1))).getD bd0) ∘ fun e:Bd × Nat=>(e.1.id,e.2))=M.map (·.1):=fun M hM=>by
        refine List.map_congr_left fun e he=>?_
        show (findI e.1.id (E.map (·.1))).getD bd0=e.1
        rw [findI_of hinv.ids (List.mem_map.2 ⟨e,hM e he,rfl⟩)]; rfl
      rw [e1 D hD,e1 E fun _ h=>h] at h2
      exact h2
    have hdl:(D.map (·.1)).length=(E.map (·.1)).length:=hpm.length_eq
    have hdl':D.length=E.length:=by simpa using hdl
    refine S113 (swo_cmpI Bd.id) (hrow.sub (hP.sub 1)) (by simp) (by omega) ?_ ?_
    · intro b hb hp3 h3 d x y K' hsz hk
      exact C114 hk
    · intro ts' hp' hp1' hpw hrow' hh'
      have e:=order_eq (f:=Bd.id) hpw hinv.asc (hp1'.trans hpm)
      subst e
      rw [hdl'] at hrow' ⊢
      rcases hh' with rfl | ⟨b,e',hb,rfl⟩
      · refine hK ps hp' a c hP h0 ?_
        rcases hrow with ⟨r1,r2,r3,r4⟩ | ⟨b,r1,r2,r3,r4⟩
        · rcases hrow' with h | ⟨b,r1',_⟩
          · exact .inl h
          · rw [r1] at r1'; cases r1'
        · rcases hrow' with ⟨r1',_⟩ | ⟨b',r1',r2',r3',r4'⟩
          · rw [r1] at r1'; cases r1'
          · rw [r1] at r1'; cases r1'
            refine .inr ⟨b,r1,r2',r3',?_⟩
            rw [← (hP.sub 1).some rfl (by rw [r4]; simp)]; exact r4'
      · have hne:ps 1 b≠.none:=by
          rcases hrow with ⟨r1,_⟩ | ⟨b0,r1,_,_,r4⟩
          · rw [r1] at hb; cases hb
          · rw [r1] at hb; cases hb
            rw [r4]; simp
        refine hK _ _ a c (hP.put 1 hne e') (by rw [pu_ne _ _ (by omega)]; exact h0) ?_
        rw [pu_eq]
        rcases hrow' with ⟨r1',_⟩ | ⟨b',r1',r2',r3',r4'⟩
        · rw [hb] at r1'; cases r1'
        · rw [hb] at r1'; cases r1'
          rw [HP.set_eq] at r4'
          exact .inr ⟨b,hb,r2',r3',by rw [HP.set_eq]; exact r4'⟩
  · intro kv hkv e2 hI2
    have hlen2:=hI2.step_len
    rw [List.length_map,List.length_map] at hlen2
    obtain ⟨y,hy,rfl⟩:=List.mem_map.1 hkv
    rw [tupJ_go,boolV_bool,ite2_true]
    refine rdS_entry hI2 ?_
    rw [tupJ_snd]
    show ptrV (ptr y.2 0) _
    have P1:=hP.put 2 hit2 e2
    have hcell:(hp.set it e2).cellN y.2 0 26=some (bdc y.1):=by
      have hs:HSub hq (hp.set it e2):=P1.at 0 (by rw [pu_ne _ _ (by omega)]; exact h0)
      rw [HP.cellN_of (hs.cells (h.blkq hy))]; rfl
    rw [pq,ptrN_some,hcell,ldL_some]
    refine ifI (bdc_len y.1) ?_
    refine fun (b3:Nat) (hb3:(hp.set it e2) b3=Ent.none)=>?_
    rw [bd_spl rfl]
    have P2:Parts ((hp.set it e2).set b3 (.cells 97 (bdc y.1) 0)) _:=P1.weak (HSub.set_fresh _ _ hb3)
    refine opS_appP (e:=97) (size:=26) (bytes:=72) (by kernel_rfl) P2 1 (s:=a) (n:=D.length) (c:=c) (xs:=(D.map (·.1)).flatMap bdc) (by rw [pu_ne _ _ (by omega)]; exact hrow)
      (ys:=bdc y.1) (.inr ⟨b3,0,rfl,by rw [HP.cellN_of (HP.set_eq ..)]; exact cellsN_all rfl⟩) (bdc_one y.1) (by simp [bdc]) (by omega) (by omega) ?_
    intro a2 c2 hp2 r hr P3
    rw [slcV_slice]
    have hit3:(pu ps 2 ((ps 2).set it e2)) 2 it≠.none:=by
      rw [pu_eq,HP.set_eq]
      obtain ⟨o,ho⟩:=hI2.obj.1
      rw [HP.set_eq] at ho
      rw [ho]; simp
    have k1:hp2 it=(hp.set it e2) it:=same_at (P1.sub 2) (P3.at 2 (by rw [pu_ne _ _ (by omega)])) hit3
    have k2:hp2 m=(hp.set it e2) m:=same_at (P1.at 0 (by rw [pu_ne _ _ (by omega)]; exact h0)) (P3.at 0 (by rw [pu_ne _ _ (by omega),pu_ne _ _ (by omega)]; exact h0)) hme
    refine hgo (E.length-(D.length+1)) _ _ (by omega) ⟨_,D++[y],P3,by rw [pu_ne _ _ (by omega),pu_ne _ _ (by omega)]; exact h0,by rw [pu_ne _ _ (by omega)]; exact hit3,fun e he=>?_,?_,?_,by simp,by simp⟩
    · rcases List.mem_append.1 he with he | he
      · exact hD e he
      · rw [List.mem_singleton.1 he]; exact hy
    · rw [List.map_append]; exact hI2.keep k1 k2
    · rw [pu_eq]
      show Row r a2 (D.length+1) c2 97 26 _
      rw [List.map_append,List.flatMap_append]
      simpa using hr
theorem N60 {ps:Nat→HP} {hp:HP} {i j:Nat} (hP:Parts hp ps) (hij:j≠i) (hj:∀ b,ps j b=.none) (h:BdW tb (ps i) t l low high mx last n L) (hsm:L.length≤10000)
    (hK:∀ r hp' a c,Row r a L.length c 97 26 (L.flatMap bdc)→Parts hp' (pu ps j r)→K (.slice a L.length c) hp'):CF Tryz.prog 60 [ptr t 0] hp K:=by
  refine CF.part hP i (W60 (K:=fun u q=>∃ qs a c,u=.slice a L.length c∧Parts q qs∧qs 0=ps i∧Row (qs 1) a L.length c 97 26 (L.flatMap bdc)) h hsm
    fun qs hq' a c h1 h2 h3=>⟨qs,a,c,rfl,h1,h2,h3⟩) ?_
  rintro u q hp'' ⟨qs,a,c,rfl,h1,h2,h3⟩ hP'
  refine hK (qs 1) hp'' a c h3 ?_
  have:=hP'.split (i:=i) (j:=j) hij (fun b=>by rw [pu_ne _ _ hij]; exact hj b) (l:=qs 0) (r:=qs 1) (by rw [pu_eq]; exact h1.sub 0) (by rw [pu_eq]; exact h1.sub 1) (h1.dis 0 1 (by omega))
  have e:pu (pu (pu ps i q) i (qs 0)) j (qs 1)=pu ps j (qs 1):=by
    funext k
    by_cases h1:k=j
    · subst h1; rw [pu_eq,pu_eq]
    · rw [pu_ne _ _ h1,pu_ne _ _ h1]
      by_cases h4:k=i
      · subst h4; rw [pu_eq]; exact h2
      · rw [pu_ne _ _ h4,pu_ne _ _ h4]
  rw [e] at this
  exact this
end
end Go.Proofs
set_option linter.unusedVariables false
set_option linter.unusedSimpArgs false
set_option maxRecDepth 20000
namespace Go.Proofs
open Go Go.HL
section
variable {tb:Obj} {hp:HP} {ps:Nat→HP} {t:Nat} {l:List Q} {low high:Int} {mx last n:Nat} {L:List Bd} {K:Value→HP→Prop}
theorem N59 (hP:Parts hp ps) (i:Nat) (h:BdW tb (ps i) t l low high mx last n L) {p:Int} {a:V6 × Int} (hp':okZ p) (ha:okT6 a)
    (hK:∀ r hp',BdW tb r t l low high mx last n L→Parts hp' (pu ps i r)→K (.int .i64 (roomB l low high mx L p a)) hp'):CF Tryz.prog 59 [ptr t 0,.int .i64 p,.agg ⟨t6 a⟩] hp K:=by
  refine CF.part hP i (P59 (K:=fun v q=>v=.int .i64 (roomB l low high mx L p a)∧BdW tb q t l low high mx last n L) h hp' ha fun q hq=>⟨rfl,hq⟩) ?_
  rintro v q hp' ⟨rfl,hq⟩ hP'
  exact hK q hp' hq hP'
theorem N42 (hP:Parts hp ps) (i:Nat) (h:BdW tb (ps i) t l low high mx last n L) {p:Int} {a:V6 × Int} (hp':okZ p) (ha:okT6 a) (hn:n<1000000)
    (hno:roomB l low high mx L p a≠0→∀ r hp',BdW tb r t l low high mx last n L→Parts hp' (pu ps i r)→K (.tuple ⟨[.agg ⟨bdc bd0⟩,.int .i64 (roomB l low high mx L p a)]⟩) hp')
    (hyes:roomB l low high mx L p a=0→∀ u,tkB l low high L p a=some u→∀ r hp',BdW tb r t l low high mx (last+1) (n+1) (L++[⟨((last+1:Nat):Int),p,a,u,false,0⟩])→Parts hp' (pu ps i r)→K (.tuple ⟨[.agg ⟨bdc ⟨((last+1:Nat):Int),p,a,u,false,0⟩⟩,.int .i64 0]⟩) hp') :
    CF Tryz.prog 42 [ptr t 0,.int .i64 p,.agg ⟨t6 a⟩] hp K:=by
  refine CF.part hP i (P42 (K:=fun v q=>(roomB l low high mx L p a≠0∧v=.tuple ⟨[.agg ⟨bdc bd0⟩,.int .i64 (roomB l low high mx L p a)]⟩∧BdW tb q t l low high mx last n L) ∨
    (roomB l low high mx L p a=0∧∃ u,tkB l low high L p a=some u∧v=.tuple ⟨[.agg ⟨bdc ⟨((last+1:Nat):Int),p,a,u,false,0⟩⟩,.int .i64 0]⟩∧BdW tb q t l low high mx (last+1) (n+1) (L++[⟨((last+1:Nat):Int),p,a,u,false,0⟩])))
    h hp' ha hn (fun e=>.inl ⟨e,rfl,h⟩) fun e u hu q hq=>.inr ⟨e,u,hu,rfl,hq⟩) ?_
  rintro v q hp' (⟨e,rfl,hq⟩ | ⟨e,u,hu,rfl,hq⟩) hP'
  · exact hno e q hp' hq hP'
  · exact hyes e u hu q hp' hq hP'
theorem N50 (hP:Parts hp ps) (i:Nat) (h:BdW tb (ps i) t l low high mx last n L) {p:Int} {a:V6 × Int} {u:Q × Int} (hp':okZ p) (ha:okT6 a) (hu:okT u) (hn:n<1000000)
    (hno:bindB l mx L p a u≠0→∀ r hp',BdW tb r t l low high mx last n L→Parts hp' (pu ps i r)→K (.tuple ⟨[.agg ⟨bdc bd0⟩,.int .i64 (bindB l mx L p a u)]⟩) hp')
    (hyes:bindB l mx L p a u=0→∀ r hp',BdW tb r t l low high mx (last+1) (n+1) (L++[⟨((last+1:Nat):Int),p,a,u,true,0⟩])→Parts hp' (pu ps i r)→K (.tuple ⟨[.agg ⟨bdc ⟨((last+1:Nat):Int),p,a,u,true,0⟩⟩,.int .i64 0]⟩) hp') :
    CF Tryz.prog 50 [ptr t 0,.int .i64 p,.agg ⟨t6 a⟩,.agg ⟨t4 u⟩] hp K:=by
  refine CF.part hP i (W50 (K:=fun v q=>(bindB l mx L p a u≠0∧v=.tuple ⟨[.agg ⟨bdc bd0⟩,.int .i64 (bindB l mx L p a u)]⟩∧BdW tb q t l low high mx last n L) ∨
    (bindB l mx L p a u=0∧v=.tuple ⟨[.agg ⟨bdc ⟨((last+1:Nat):Int),p,a,u,true,0⟩⟩,.int .i64 0]⟩∧BdW tb q t l low high mx (last+1) (n+1) (L++[⟨((last+1:Nat):Int),p,a,u,true,0⟩])))
    h hp' ha hu hn (fun e=>.inl ⟨e,rfl,h⟩) fun e q hq=>.inr ⟨e,rfl,hq⟩) ?_
  rintro v q hp' (⟨e,rfl,hq⟩ | ⟨e,rfl,hq⟩) hP'
  · exact hno e q hp' hq hP'
  · exact hyes e q hp' hq hP'
theorem N52 (hP:Parts hp ps) (i:Nat) (h:BdW tb (ps i) t l low high mx last n L) {p:Int} {a:V6 × Int} (hp':okZ p) (ha:okT6 a)
    (hno:unbB L p a≠0→∀ r hp',BdW tb r t l low high mx last n L→Parts hp' (pu ps i r)→K (.tuple ⟨[.agg ⟨bdc bd0⟩,.int .i64 (unbB L p a)]⟩) hp')
    (hyes:∀ b,find6 p a L=some b→unbB L p a=0→b.st=true→∀ r hp',BdW tb r t l low high mx last n (L.filter fun z=>decide (z.id≠b.id))→Parts hp' (pu ps i r)→K (.tuple ⟨[.agg ⟨bdc b⟩,.int .i64 0]⟩) hp') :
    CF Tryz.prog 52 [ptr t 0,.int .i64 p,.agg ⟨t6 a⟩] hp K:=by
  refine CF.part hP i (W52 (K:=fun v q=>(unbB L p a≠0∧v=.tuple ⟨[.agg ⟨bdc bd0⟩,.int .i64 (unbB L p a)]⟩∧BdW tb q t l low high mx last n L) ∨
    (unbB L p a=0∧∃ b,find6 p a L=some b∧b.st=true∧v=.tuple ⟨[.agg ⟨bdc b⟩,.int .i64 0]⟩∧BdW tb q t l low high mx last n (L.filter fun z=>decide (z.id≠b.id))))
    h hp' ha (fun e=>.inl ⟨e,rfl,h⟩) fun b hb e hs q hq=>.inr ⟨e,b,hb,hs,rfl,hq⟩) ?_
  rintro v q hp' (⟨e,rfl,hq⟩ | ⟨e,b,hb,hs,rfl,hq⟩) hP'
  · exact hno e q hp' hq hP'
  · exact hyes b hb e hs q hp' hq hP'
theorem N54 (hP:Parts hp ps) (i:Nat) (h:BdW tb (ps i) t l low high mx last n L) {k:Int} (hn:n<1000000)
    (hno:findI k L=none→∀ r hp',BdW tb r t l low high mx last n L→Parts hp' (pu ps i r)→K (.int .i64 4) hp')
    (hyes:∀ b,findI k L=some b→∀ r hp',BdW tb r t l low high mx last (n+1) (updB k (b.ses+1) L)→Parts hp' (pu ps i r)→K (.int .i64 0) hp'):CF Tryz.prog 54 [ptr t 0,.int .i64 k] hp K:=by
  refine CF.part hP i (W54 (K:=fun v q=>(findI k L=none∧v=.int .i64 4∧BdW tb q t l low high mx last n L)∨(∃ b,findI k L=some b∧v=.int .i64 0∧BdW tb q t l low high mx last (n+1) (updB k (b.ses+1) L)))
    h hn (fun e=>.inl ⟨e,rfl,h⟩) fun b hb q hq=>.inr ⟨b,hb,rfl,hq⟩) ?_
  rintro v q hp' (⟨e,rfl,hq⟩ | ⟨b,hb,rfl,hq⟩) hP'
  · exact hno e q hp' hq hP'
  · exact hyes b hb q hp' hq hP'
theorem N57 (hP:Parts hp ps) (i:Nat) (h:BdW tb (ps i) t l low high mx last n L) {k:Int}
    (hno:findI k L=none→∀ r hp',BdW tb r t l low high mx last n L→Parts hp' (pu ps i r)→K (.tuple ⟨[.bool false,.int .i64 4]⟩) hp')
    (hz:∀ b,findI k L=some b→b.ses=0→∀ r hp',BdW tb r t l low high mx last n L→Parts hp' (pu ps i r)→K (.tuple ⟨[.bool false,.int .i64 11]⟩) hp')
    (hyes:∀ b,findI k L=some b→1≤b.ses→∀ r hp',BdW tb r t l low high mx last n (dropB b L)→Parts hp' (pu ps i r)→K (.tuple ⟨[.bool (!(b.st||decide (1<b.ses))),.int .i64 0]⟩) hp'):CF Tryz.prog 57 [ptr t 0,.int .i64 k] hp K:=by
  refine CF.part hP i (W57 (K:=fun v q=>(findI k L=none∧v=.tuple ⟨[.bool false,.int .i64 4]⟩∧BdW tb q t l low high mx last n L)∨(∃ b,findI k L=some b∧b.ses=0∧v=.tuple ⟨[.bool false,.int .i64 11]⟩∧BdW tb q t l low high mx last n L) ∨
    (∃ b,findI k L=some b∧1≤b.ses∧v=.tuple ⟨[.bool (!(b.st||decide (1<b.ses))),.int .i64 0]⟩∧BdW tb q t l low high mx last n (dropB b L)))
    h (fun e=>.inl ⟨e,rfl,h⟩) (fun b hb e=>.inr (.inl ⟨b,hb,e,rfl,h⟩)) fun b hb e q hq=>.inr (.inr ⟨b,hb,e,rfl,hq⟩)) ?_
  rintro v q hp' (⟨e,rfl,hq⟩ | ⟨b,hb,e,rfl,hq⟩ | ⟨b,hb,e,rfl,hq⟩) hP'
  · exact hno e q hp' hq hP'
  · exact hz b hb e q hp' hq hP'
  · exact hyes b hb e q hp' hq hP'
theorem drop_len (b:Bd) (L:List Bd):(dropB b L).length≤L.length:=by
  unfold dropB
  split
  · unfold updB; rw [List.length_map]; exact Nat.le_refl _
  · exact List.length_filter_le _ _
theorem upd_len (k s:Int) (L:List Bd):(updB k s L).length=L.length:=by unfold updB; rw [List.length_map]
theorem shows_off {a:Option Addr} {n:Nat} {l:List Q} (ht:TabR tb hp) (hs:Shows hp a n 4 (l.flatMap v4)) (hl:l.length=n):Shows (hp.set 0 .none) a n 4 (l.flatMap v4):=by
  have hs0:=hs
  rcases hs with h | ⟨b,o,e,hc⟩
  · exact .inl h
  by_cases hn:n=0
  · subst hn
    have:l=[]:=List.eq_nil_of_length_eq_zero hl
    subst this
    exact .inl ⟨rfl,rfl⟩
  have hb:b≠0:=by
    rintro rfl
    obtain ⟨h0,ty,z,rfl⟩:=ht
    obtain ⟨b',o',e',hc'⟩:=hs0.get v4_len hl (show 0<n by omega)
    rw [e] at e'
    cases e'
    have hcell:=HP.cell_cellN hc' (j:=0) (v:=.int .u8 (l[0]'(by omega)).1) rfl
    unfold HP.cell at hcell
    rw [h0] at hcell
    simp only at hcell
    have hm:=List.mem_of_getElem? hcell
    simp at hm
  refine .inr ⟨b,o,e,?_⟩
  unfold HP.cellN at hc ⊢
  rw [HP.set_ne _ _ hb]
  exact hc
def BdS (tb:Obj) (hp0 hp:HP) (t:Nat) (l:List Q) (low high:Int) (mx last n:Nat) (L:List Bd):Prop:=
  ∃ ps:Nat→HP,Parts hp ps∧ps 0=hp0.set 0 .none∧BdW tb (ps 1) t l low high mx last n L∧∀ i,2≤i→∀ b,ps i b=.none
end
section
variable {tb:Obj} {hp0 hp:HP} {ps:Nat→HP} {t:Nat} {l:List Q} {low high:Int} {mx last n:Nat} {L:List Bd} {K:Value→HP→Prop}
theorem BdS.of (hP:Parts hp ps) (h0:ps 0=hp0.set 0 .none) (h1:BdW tb (ps 1) t l low high mx last n L):BdS tb hp0 hp t l low high mx last n L:=
  ⟨_,hP.cut 2,by simpa using h0,by simpa using h1,fun i hi b=>by simp only [show ¬ i<2 by omega,if_false]⟩
theorem BdS.pu {r:HP} (hP:Parts hp (pu ps 1 r)) (h0:ps 0=hp0.set 0 .none) (h1:BdW tb r t l low high mx last n L):BdS tb hp0 hp t l low high mx last n L:=
  BdS.of hP (by rw [pu_ne _ _ (by omega)]; exact h0) (by rw [pu_eq]; exact h1)
theorem BdS.w (h:BdS tb hp0 hp t l low high mx last n L):BdW tb hp t l low high mx last n L:=by
  obtain ⟨ps,P,h0,h1,_⟩:=h
  exact h1.sub (P.sub 1)
theorem BdS.fin (h:BdS tb hp0 hp t l low high mx last n L) (ht:TabR tb hp0):HSub hp0 hp:=by
  have hw:=h.w
  obtain ⟨ps,P,h0,h1,_⟩:=h
  exact finish ht P h0 hw.tab
theorem S13 {a:Option Addr} {n c:Nat} {l:List Q} {low high mx:Int} (ht:TabR tb hp) (hs:Shows hp a n 4 (l.flatMap v4)) (hl:l.length=n) (hnc:n≤c) (h1:okZ low) (h2:okZ high) (hq:∀ q∈l,okQ q)
    (hbad:¬ newBOk l low high mx→K (.tuple ⟨[.pointer none,.int .i64 1]⟩) hp)
    (hok:newBOk l low high mx→∀ t hp',BdS tb hp hp' t l low high mx.toNat 0 0 []→K (.tuple ⟨[ptr t 0,.int .i64 0]⟩) hp') :
    CF Tryz.prog 13 [.slice a n c,.int .i64 low,.int .i64 high,.int .i64 mx] hp K:=
  N13 (startP_ok ht) (by rw [startP_0]; exact shows_off ht hs hl) (startP_1 ht) hl hnc h1 h2 hq hbad fun hn t r hp' hr P=>hok hn t hp' (BdS.pu P startP_0 hr)
theorem S42 (h:BdS tb hp0 hp t l low high mx last n L) {p:Int} {a:V6 × Int} (hp':okZ p) (ha:okT6 a) (hn:n<1000000)
    (hno:roomB l low high mx L p a≠0→∀ hp',BdS tb hp0 hp' t l low high mx last n L→K (.tuple ⟨[.agg ⟨bdc bd0⟩,.int .i64 (roomB l low high mx L p a)]⟩) hp')
    (hyes:roomB l low high mx L p a=0→∀ u,tkB l low high L p a=some u→∀ hp',BdS tb hp0 hp' t l low high mx (last+1) (n+1) (L++[⟨((last+1:Nat):Int),p,a,u,false,0⟩])→K (.tuple ⟨[.agg ⟨bdc ⟨((last+1:Nat):Int),p,a,u,false,0⟩⟩,.int .i64 0]⟩) hp') :
    CF Tryz.prog 42 [ptr t 0,.int .i64 p,.agg ⟨t6 a⟩] hp K:=by
  obtain ⟨ps,P,h0,h1,_⟩:=h
  exact N42 P 1 h1 hp' ha hn (fun e r hp' hr P'=>hno e hp' (BdS.pu P' h0 hr)) fun e u hu r hp' hr P'=>hyes e u hu hp' (BdS.pu P' h0 hr)
end
end Go.Proofs
