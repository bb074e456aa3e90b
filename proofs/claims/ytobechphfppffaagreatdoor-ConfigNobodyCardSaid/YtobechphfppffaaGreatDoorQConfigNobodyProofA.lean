/- Parts of the proof of ConfigNobodyProof: the logic of what is known of memory, functions' contracts. -/
import Derived.Test.YtobechphfppffaaGreatDoorHlCW
import Derived.Test.YtobechphfppffaaGreatDoorHlCW
import Derived.Test.YtobechphfppffaaGreatDoorProg
import Derived.Test.YtobechphfppffaaGreatDoorHlEvK
import Derived.Test.YtobechphfppffaaGreatDoorHlFrame
import Derived.Test.YtobechphfppffaaGreatDoorHlUse
import Derived.Test.YtobechphfppffaaGreatDoorRows
import Derived.Test.YtobechphfppffaaGreatDoorHlLaid
import Derived.Test.YtobechphfppffaaGreatDoorHlArg
import Derived.ProofKit
import Derived.LaidLaws
set_option linter.unusedVariables false
set_option linter.unusedSimpArgs false
set_option linter.unusedVariables false
set_option maxRecDepth 20000
namespace Go.Proofs
open Go Go.HL
def F3 (x0 x1:List Value) (hp:HP) (K:Kh):Prop:=
  (ldL (cellsN x0 0 37) fun l_1=>(CF Tryz.prog 10 [(Value.pointer none),(Value.agg ⟨l_1⟩)] hp fun u_2 h_3=>(tup2V u_2 fun u_4 u_5=>(intV u_4 .i64 fun i_6=>(intV u_5 .i64 fun i_7=>(ite2 ((i_6:Int)==0) (ite2 ((i_7:Int)==2) (ldL (cellsN x1 0 16) fun l_8=>(CF Tryz.prog 11 [(Value.pointer none),(Value.agg ⟨l_8⟩)] h_3 fun u_9 h_10=>(boolV u_9 fun q_11=>(ite2 (!q_11) (CF Tryz.prog 12 [] h_10 fun u_12 h_13=>(boolV u_12 fun q_14=>(K (Value.bool q_14) h_13))) (K (Value.bool false) h_10))))) (K (Value.bool false) h_3)) (K (Value.bool false) h_3)))))))
theorem F3_ok (x0 x1:List Value) (hp:HP) (K:Kh) (h:F3 x0 x1 hp K):CF Tryz.prog 3 [(Value.agg ⟨x0⟩),(Value.agg ⟨x1⟩)] hp K:=
  have L:∀ {Q} n,Snd Tryz.prog 29 (cAt Tryz.f3 (pth n)) Q (CW Tryz.prog 29 [2,3] [] (cAt Tryz.f3 (pth n)) Q):=fun _=>Snd.leaf
  okF h Tryz.func3 (L 1) (by kernel_rfl) (by kernel_rfl) (by kernel_rfl)
def F10_j2 (x7:Int) (k6:List Value) (hp:HP) (K:Kh):Prop:=
  (ldV (k6)[0]? fun v_21=>(intV v_21 .i64 fun i_22=>(K (.tuple ⟨[(Value.int .i64 i_22),(Value.int .i64 x7)]⟩) hp)))
def F10_j1 (x0:OA) (x16:Bool) (k3:List Value) (hp:HP) (K:Kh):Prop:=
  (ite2 x16 (K (.tuple ⟨[(Value.int .i64 0),(Value.int .i64 2)]⟩) hp) (ldV (k3)[0]? fun v_1=>(intV v_1 .u8 fun i_2=>(ite2 ((i_2:Int)==1) (ldL (cellsN k3 2 16) fun l_3=>(CF Tryz.prog 11 [(Value.pointer x0),(Value.agg ⟨l_3⟩)] hp fun u_4 h_5=>(boolV u_4 fun q_6=>(ite2 (!q_6) (K (.tuple ⟨[(Value.int .i64 0),(Value.int .i64 1)]⟩) h_5) (ptrN x0 fun b_7 o_8=>(ldV (HP.cell h_5 b_7 (o_8+0)) fun v_9=>(ptrV v_9 fun p_10=>(ldV (k3)[1]? fun v_11=>(intV v_11 .i64 fun i_12=>(ldL (cellsN k3 2 17) fun l_13=>(ldL (cellsN k3 19 5) fun l_14=>(CF Tryz.prog 55 [(Value.pointer p_10),(Value.int .i64 i_12),(Value.agg ⟨l_13⟩),(Value.agg ⟨l_14⟩)] h_5 fun u_15 h_16=>(tup2V u_15 fun u_17 u_18=>(aggV u_17 fun l_19=>(intV u_18 .i64 fun i_20=>(K (.tuple ⟨[(Value.int .i64 0),(Value.int .i64 i_20)]⟩) h_16)))))))))))))))) (ite2 ((i_2:Int)==2) ((ptrN x0 fun b_23 o_24=>(ldV (HP.cell hp b_23 (o_24+0)) fun v_25=>(ptrV v_25 fun p_26=>(ldV (k3)[1]? fun v_27=>(intV v_27 .i64 fun i_28=>(ldL (cellsN k3 2 17) fun l_29=>(CF Tryz.prog 56 [(Value.pointer p_26),(Value.int .i64 i_28),(Value.agg ⟨l_29⟩)] hp fun u_30 h_31=>(tup2V u_30 fun u_32 u_33=>(aggV u_32 fun l_34=>(intV u_33 .i64 fun i_35=>(if List.length l_34=26 then (if List.all l_34 one=true then (if 0+List.length l_34≤List.length [(Value.int .i64 0),(Value.int .i64 0),(Value.int .u8 0),(Value.int .u8 0),(Value.int .u8 0),(Value.int .u8 0),(Value.int .u8 0),(Value.int .u8 0),(Value.int .u8 0),(Value.int .u8 0),(Value.int .u8 0),(Value.int .u8 0),(Value.int .u8 0),(Value.int .u8 0),(Value.int .u8 0),(Value.int .u8 0),(Value.int .u8 0),(Value.int .u8 0),(Value.int .i64 0),(Value.int .u8 0),(Value.int .u8 0),(Value.int .u8 0),(Value.int .u8 0),(Value.int .i64 0),(Value.bool false),(Value.int .i64 0)] then (F10_j2 i_35 (splice [(Value.int .i64 0),(Value.int .i64 0),(Value.int .u8 0),(Value.int .u8 0),(Value.int .u8 0),(Value.int .u8 0),(Value.int .u8 0),(Value.int .u8 0),(Value.int .u8 0),(Value.int .u8 0),(Value.int .u8 0),(Value.int .u8 0),(Value.int .u8 0),(Value.int .u8 0),(Value.int .u8 0),(Value.int .u8 0),(Value.int .u8 0),(Value.int .u8 0),(Value.int .i64 0),(Value.int .u8 0),(Value.int .u8 0),(Value.int .u8 0),(Value.int .u8 0),(Value.int .i64 0),(Value.bool false),(Value.int .i64 0)] 0 l_34) h_31  K) else False) else False) else False)))))))))))∧(ptrN x0 fun b_36 o_37=>(ldV (HP.cell hp b_36 (o_37+0)) fun v_38=>(ptrV v_38 fun p_39=>(ldV (k3)[1]? fun v_40=>(intV v_40 .i64 fun i_41=>(ldL (cellsN k3 2 17) fun l_42=>(CF Tryz.prog 56 [(Value.pointer p_39),(Value.int .i64 i_41),(Value.agg ⟨l_42⟩)] hp fun u_43 h_44=>(tup2V u_43 fun u_45 u_46=>(aggV u_45 fun l_47=>(intV u_46 .i64 fun i_48=>(if List.length l_47=26 then (if List.all l_47 one=true then (if 0+List.length l_47≤List.length [(Value.int .i64 0),(Value.int .i64 0),(Value.int .u8 0),(Value.int .u8 0),(Value.int .u8 0),(Value.int .u8 0),(Value.int .u8 0),(Value.int .u8 0),(Value.int .u8 0),(Value.int .u8 0),(Value.int .u8 0),(Value.int .u8 0),(Value.int .u8 0),(Value.int .u8 0),(Value.int .u8 0),(Value.int .u8 0),(Value.int .u8 0),(Value.int .u8 0),(Value.int .i64 0),(Value.int .u8 0),(Value.int .u8 0),(Value.int .u8 0),(Value.int .u8 0),(Value.int .i64 0),(Value.bool false),(Value.int .i64 0)] then (F10_j2 i_48 (splice [(Value.int .i64 0),(Value.int .i64 0),(Value.int .u8 0),(Value.int .u8 0),(Value.int .u8 0),(Value.int .u8 0),(Value.int .u8 0),(Value.int .u8 0),(Value.int .u8 0),(Value.int .u8 0),(Value.int .u8 0),(Value.int .u8 0),(Value.int .u8 0),(Value.int .u8 0),(Value.int .u8 0),(Value.int .u8 0),(Value.int .u8 0),(Value.int .u8 0),(Value.int .i64 0),(Value.int .u8 0),(Value.int .u8 0),(Value.int .u8 0),(Value.int .u8 0),(Value.int .i64 0),(Value.bool false),(Value.int .i64 0)] 0 l_47) h_44  K) else False) else False) else False)))))))))))∧(ptrN x0 fun b_49 o_50=>(ldV (HP.cell hp b_49 (o_50+0)) fun v_51=>(ptrV v_51 fun p_52=>(ldL (cellsN k3 2 17) fun l_53=>(ldV (k3)[1]? fun v_54=>(intV v_54 .i64 fun i_55=>(CF Tryz.prog 56 [(Value.pointer p_52),(Value.int .i64 i_55),(Value.agg ⟨l_53⟩)] hp fun u_56 h_57=>(tup2V u_56 fun u_58 u_59=>(aggV u_58 fun l_60=>(intV u_59 .i64 fun i_61=>(if List.length l_60=26 then (if List.all l_60 one=true then (if 0+List.length l_60≤List.length [(Value.int .i64 0),(Value.int .i64 0),(Value.int .u8 0),(Value.int .u8 0),(Value.int .u8 0),(Value.int .u8 0),(Value.int .u8 0),(Value.int .u8 0),(Value.int .u8 0),(Value.int .u8 0),(Value.int .u8 0),(Value.int .u8 0),(Value.int .u8 0),(Value.int .u8 0),(Value.int .u8 0),(Value.int .u8 0),(Value.int .u8 0),(Value.int .u8 0),(Value.int .i64 0),(Value.int .u8 0),(Value.int .u8 0),(Value.int .u8 0),(Value.int .u8 0),(Value.int .i64 0),(Value.bool false),(Value.int .i64 0)] then (F10_j2 i_61 (splice [(Value.int .i64 0),(Value.int .i64 0),(Value.int .u8 0),(Value.int .u8 0),(Value.int .u8 0),(Value.int .u8 0),(Value.int .u8 0),(Value.int .u8 0),(Value.int .u8 0),(Value.int .u8 0),(Value.int .u8 0),(Value.int .u8 0),(Value.int .u8 0),(Value.int .u8 0),(Value.int .u8 0),(Value.int .u8 0),(Value.int .u8 0),(Value.int .u8 0),(Value.int .i64 0),(Value.int .u8 0),(Value.int .u8 0),(Value.int .u8 0),(Value.int .u8 0),(Value.int .i64 0),(Value.bool false),(Value.int .i64 0)] 0 l_60) h_57  K) else False) else False) else False)))))))))))∧(ptrN x0 fun b_62 o_63=>(ldV (HP.cell hp b_62 (o_63+0)) fun v_64=>(ptrV v_64 fun p_65=>(ldV (k3)[1]? fun v_66=>(intV v_66 .i64 fun i_67=>(ldL (cellsN k3 2 17) fun l_68=>(CF Tryz.prog 56 [(Value.pointer p_65),(Value.int .i64 i_67),(Value.agg ⟨l_68⟩)] hp fun u_69 h_70=>(tup2V u_69 fun u_71 u_72=>(aggV u_71 fun l_73=>(intV u_72 .i64 fun i_74=>(if List.length l_73=26 then (if List.all l_73 one=true then (if 0+List.length l_73≤List.length [(Value.int .i64 0),(Value.int .i64 0),(Value.int .u8 0),(Value.int .u8 0),(Value.int .u8 0),(Value.int .u8 0),(Value.int .u8 0),(Value.int .u8 0),(Value.int .u8 0),(Value.int .u8 0),(Value.int .u8 0),(Value.int .u8 0),(Value.int .u8 0),(Value.int .u8 0),(Value.int .u8 0),(Value.int .u8 0),(Value.int .u8 0),(Value.int .u8 0),(Value.int .i64 0),(Value.int .u8 0),(Value.int .u8 0),(Value.int .u8 0),(Value.int .u8 0),(Value.int .i64 0),(Value.bool false),(Value.int .i64 0)] then (F10_j2 i_74 (splice [(Value.int .i64 0),(Value.int .i64 0),(Value.int .u8 0),(Value.int .u8 0),(Value.int .u8 0),(Value.int .u8 0),(Value.int .u8 0),(Value.int .u8 0),(Value.int .u8 0),(Value.int .u8 0),(Value.int .u8 0),(Value.int .u8 0),(Value.int .u8 0),(Value.int .u8 0),(Value.int .u8 0),(Value.int .u8 0),(Value.int .u8 0),(Value.int .u8 0),(Value.int .i64 0),(Value.int .u8 0),(Value.int .u8 0),(Value.int .u8 0),(Value.int .u8 0),(Value.int .i64 0),(Value.bool false),(Value.int .i64 0)] 0 l_73) h_70  K) else False) else False) else False)))))))))))) (ite2 ((i_2:Int)==3) (ptrN x0 fun b_75 o_76=>(ldV (HP.cell hp b_75 (o_76+1)) fun v_77=>(ptrV v_77 fun p_78=>(ldV (k3)[35]? fun v_79=>(intV v_79 .i64 fun i_80=>(ldL (cellsN k3 24 11) fun l_81=>(CF Tryz.prog 57 [(Value.pointer p_78),(Value.int .i64 i_80),(Value.agg ⟨l_81⟩)] hp fun u_82 h_83=>(intV u_82 .i64 fun i_84=>(K (.tuple ⟨[(Value.int .i64 0),(Value.int .i64 i_84)]⟩) h_83))))))))) (ite2 ((i_2:Int)==4) (ptrN x0 fun b_85 o_86=>(ldV (HP.cell hp b_85 (o_86+1)) fun v_87=>(ptrV v_87 fun p_88=>(ldV (k3)[35]? fun v_89=>(intV v_89 .i64 fun i_90=>(CF Tryz.prog 58 [(Value.pointer p_88),(Value.int .i64 i_90)] hp fun u_91 h_92=>(tup2V u_91 fun u_93 u_94=>(aggV u_93 fun l_95=>(intV u_94 .i64 fun i_96=>(K (.tuple ⟨[(Value.int .i64 0),(Value.int .i64 i_96)]⟩) h_92)))))))))) (ite2 ((i_2:Int)==5) (ldV (k3)[36]? fun v_97=>(intV v_97 .i64 fun i_98=>(CF Tryz.prog 59 [(Value.int .i64 i_98),(Value.int .i64 0),(Value.int .i64 1)] hp fun u_99 h_100=>(boolV u_99 fun q_101=>(ite2 (!q_101) (K (.tuple ⟨[(Value.int .i64 0),(Value.int .i64 1)]⟩) h_100) (ldV (k3)[36]? fun v_102=>(intV v_102 .i64 fun i_103=>(ptrN x0 fun b_104 o_105=>(HP.st h_100 b_104 (o_105+3) (Value.int .i64 i_103) fun h_106=>(K (.tuple ⟨[(Value.int .i64 0),(Value.int .i64 0)]⟩) h_106)))))))))) (K (.tuple ⟨[(Value.int .i64 0),(Value.int .i64 10)]⟩) hp)))))))))
def F10 (x0:OA) (x1:List Value) (hp:HP) (K:Kh):Prop:=
  (ite2 (Option.isNone x0) (F10_j1 x0 true x1 hp  K) (ptrN x0 fun b_107 o_108=>(ldV (HP.cell hp b_107 (o_108+0)) fun v_109=>(ptrV v_109 fun p_110=>(F10_j1 x0 (Option.isNone p_110) x1 hp  K)))))
theorem F10_ok (x0:OA) (x1:List Value) (hp:HP) (K:Kh) (h:F10 x0 x1 hp K):CF Tryz.prog 10 [(Value.pointer x0),(Value.agg ⟨x1⟩)] hp K:=
  have L:∀ {Q} n,Snd Tryz.prog 100 (cAt Tryz.f10 (pth n)) Q (CW Tryz.prog 100 [3,6,17,22,23,24,33,34,36,37,39,40,53,54,56,57,62,71,73,83,91,96] [(10,[(6,14),(9,14)],[([true,true],true,[0,1,2,3,4,5,6,7,8,9,10,11,12,13,14,15,16]),([true,false],true,[0,1,2,3,4,5,6,7,8,14,9,10,11,12,13,15,16]),([false,true],true,[0,1,2,3,4,5,7,8,9,14,6,10,11,12,13,15,16]),([false,false],true,[0,1,2,3,4,5,7,8,14,6,9,10,11,12,13,15,16])])] (cAt Tryz.f10 (pth n)) Q):=fun _=>Snd.leaf
  okF h Tryz.func10 (Snd.seq (L 2) (Snd.seq (Snd.jn [(0,.p),(3,.r 3 0),(16,.b),(3,.c 37)] (fun a hp=>F10_j1 a.1 a.2.1 a.2.2.1 hp  K) (L 9) (L 13) (by rfl) (by kernel_rfl)) (Snd.seq (Snd.seq (L 19) (Snd.block 0 (Snd.seq (L 75) (Snd.cond 19 (L 171) (Snd.seq (L 363) (Snd.cond 46 (Snd.jn [(6,.r 6 0),(7,.i .i64),(6,.c 104)] (fun a hp=>F10_j2 a.1 a.2.1 hp  K) (L 1259) (L 1771) (by rfl) (by kernel_rfl)) (L 1003))))))) (L 15)))) (by kernel_rfl) (by kernel_rfl) (by kernel_rfl)
def F11_j2 (x0:OA) (x6:Bool) (k3:List Value) (hp:HP) (K:Kh):Prop:=
  (ldL (cellsN k3 0 16) fun l_1=>(CF Tryz.prog 53 [(Value.agg ⟨l_1⟩)] hp fun u_2 h_3=>(boolV u_2 fun q_4=>(ite2 (!q_4) (ptrN x0 fun b_5 o_6=>(ldL (HP.cellN h_3 b_5 (o_6+4) 17) fun l_7=>(ldL (cellsN k3 0 16) fun l_8=>(CF Tryz.prog 54 [(Value.agg ⟨l_7⟩),(Value.agg ⟨l_8⟩)] h_3 fun u_9 h_10=>(boolV u_9 fun q_11=>(ite2 (!q_11) (ldL (cellsN k3 0 16) fun l_12=>(ptrN x0 fun b_13 o_14=>(ldL (HP.cellN h_10 b_13 (o_14+21) 16) fun l_15=>(eqAgg Tryz.prog 23 l_12 l_15 fun q_16=>(ite2 (!q_16) (K (Value.bool (!x6)) h_10) (K (Value.bool false) h_10)))))) (K (Value.bool false) h_10))))))) (K (Value.bool false) h_3)))))
def F11_j1 (x0:OA) (x15:Bool) (k3:List Value) (hp:HP) (K:Kh):Prop:=
  (ite2 x15 (K (Value.bool false) hp) ((ptrN x0 fun b_17 o_18=>(ldV (HP.cell hp b_17 (o_18+2)) fun v_19=>(ptrV v_19 fun p_20=>(ldL (cellsN k3 0 16) fun l_21=>(CF Tryz.prog 60 [(Value.pointer p_20),(Value.agg ⟨l_21⟩)] hp fun u_22 h_23=>(tup2V u_22 fun u_24 u_25=>(aggV u_24 fun l_26=>(boolV u_25 fun q_27=>(if List.length l_26=4 then (if List.all l_26 one=true then (if 0+List.length l_26≤List.length [(Value.int .u8 0),(Value.int .u8 0),(Value.int .u8 0),(Value.int .u8 0)] then (F11_j2 x0 q_27 k3 h_23  K) else False) else False) else False)))))))))∧(ptrN x0 fun b_28 o_29=>(ldV (HP.cell hp b_28 (o_29+2)) fun v_30=>(ptrV v_30 fun p_31=>(ldL (cellsN k3 0 16) fun l_32=>(CF Tryz.prog 60 [(Value.pointer p_31),(Value.agg ⟨l_32⟩)] hp fun u_33 h_34=>(tup2V u_33 fun u_35 u_36=>(aggV u_35 fun l_37=>(boolV u_36 fun q_38=>(if List.length l_37=4 then (if List.all l_37 one=true then (if 0+List.length l_37≤List.length [(Value.int .u8 0),(Value.int .u8 0),(Value.int .u8 0),(Value.int .u8 0)] then (F11_j2 x0 q_38 k3 h_34  K) else False) else False) else False)))))))))))
def F11 (x0:OA) (x1:List Value) (hp:HP) (K:Kh):Prop:=
  (ite2 (Option.isNone x0) (F11_j1 x0 true x1 hp  K) (ptrN x0 fun b_39 o_40=>(ldV (HP.cell hp b_39 (o_40+0)) fun v_41=>(ptrV v_41 fun p_42=>(F11_j1 x0 (Option.isNone p_42) x1 hp  K)))))
theorem F11_ok (x0:OA) (x1:List Value) (hp:HP) (K:Kh) (h:F11 x0 x1 hp K):CF Tryz.prog 11 [(Value.pointer x0),(Value.agg ⟨x1⟩)] hp K:=
  have L:∀ {Q} n,Snd Tryz.prog 49 (cAt Tryz.f11 (pth n)) Q (CW Tryz.prog 49 [3,5] [(3,[(4,9)],[([true],true,[0,1,2,3,4,5,6,7,8,9,10,11]),([false],true,[0,1,2,3,9,4,5,6,7,8,10,11])])] (cAt Tryz.f11 (pth n)) Q):=fun _=>Snd.leaf
  okF h Tryz.func11 (Snd.seq (L 2) (Snd.seq (Snd.jn [(0,.p),(3,.r 3 0),(15,.b),(3,.c 23)] (fun a hp=>F11_j1 a.1 a.2.1 a.2.2.1 hp  K) (L 9) (L 13) (by rfl) (by kernel_rfl)) (Snd.jn [(0,.p),(3,.r 3 0),(6,.b),(3,.c 23)] (fun a hp=>F11_j2 a.1 a.2.1 a.2.2.1 hp  K) (L 11) (L 15) (by rfl) (by kernel_rfl)))) (by kernel_rfl) (by kernel_rfl) (by kernel_rfl)
end Go.Proofs
set_option linter.unusedVariables false
set_option maxRecDepth 100000
namespace Go.Proofs
open Go Go.HL
noncomputable def ft4:FT:=⟨Tryz.f4,[4,5,8,57],[]⟩
noncomputable def ft10:FT:=⟨Tryz.f10,[3,6,17,22,23,24,33,34,36,37,39,40,53,54,56,57,62,71,73,83,91,96],[(10,[(6,14),(9,14)],[([true,true],true,[0,1,2,3,4,5,6,7,8,9,10,11,12,13,14,15,16]),([true,false],true,[0,1,2,3,4,5,6,7,8,14,9,10,11,12,13,15,16]),([false,true],true,[0,1,2,3,4,5,7,8,9,14,6,10,11,12,13,15,16]),([false,false],true,[0,1,2,3,4,5,7,8,14,6,9,10,11,12,13,15,16])])]⟩
noncomputable def ft11:FT:=⟨Tryz.f11,[3,5],[(3,[(4,9)],[([true],true,[0,1,2,3,4,5,6,7,8,9,10,11]),([false],true,[0,1,2,3,9,4,5,6,7,8,10,11])])]⟩
noncomputable def ft12:FT:=⟨Tryz.f12,[3],[]⟩
noncomputable def ft13:FT:=⟨Tryz.f13,[],[]⟩
noncomputable def ft14:FT:=⟨Tryz.f14,[],[]⟩
noncomputable def ft15:FT:=⟨Tryz.f15,[],[]⟩
noncomputable def ft16:FT:=⟨Tryz.f16,[],[]⟩
noncomputable def ft17:FT:=⟨Tryz.f17,[],[]⟩
noncomputable def ft18:FT:=⟨Tryz.f18,[],[]⟩
noncomputable def ft19:FT:=⟨Tryz.f19,[],[]⟩
noncomputable def ft20:FT:=⟨Tryz.f20,[],[]⟩
noncomputable def ft21:FT:=⟨Tryz.f21,[],[]⟩
noncomputable def ft22:FT:=⟨Tryz.f22,[],[]⟩
noncomputable def ft23:FT:=⟨Tryz.f23,[],[]⟩
noncomputable def ft24:FT:=⟨Tryz.f24,[],[]⟩
noncomputable def ft25:FT:=⟨Tryz.f25,[],[]⟩
noncomputable def ft26:FT:=⟨Tryz.f26,[],[]⟩
noncomputable def ft27:FT:=⟨Tryz.f27,[],[]⟩
noncomputable def ft28:FT:=⟨Tryz.f28,[0],[]⟩
noncomputable def ft29:FT:=⟨Tryz.f29,[1],[]⟩
noncomputable def ft30:FT:=⟨Tryz.f30,[2,7],[]⟩
noncomputable def ft31:FT:=⟨Tryz.f31,[1,9,11,15,29,31,33,35,45,47,49,53,69],[]⟩
noncomputable def ft32:FT:=⟨Tryz.f32,[],[]⟩
noncomputable def ft38:FT:=⟨Tryz.f38,[1],[]⟩
noncomputable def ft39:FT:=⟨Tryz.f39,[1],[]⟩
noncomputable def ft51:FT:=⟨Tryz.f51,[],[]⟩
noncomputable def ft53:FT:=⟨Tryz.f53,[1,4],[]⟩
noncomputable def ft54:FT:=⟨Tryz.f54,[],[]⟩
noncomputable def ft55:FT:=⟨Tryz.f55,[6,7,8,25,30,42],[]⟩
noncomputable def ft56:FT:=⟨Tryz.f56,[5,6,8,29,45],[]⟩
noncomputable def ft57:FT:=⟨Tryz.f57,[5],[(7,[(4,7)],[([true],true,[0,1,2,3,4,5,6,7,8,9,10,11]),([false],true,[0,1,2,3,5,6,7,4,8,9,10,11])])]⟩
noncomputable def ft58:FT:=⟨Tryz.f58,[4,6],[]⟩
noncomputable def ft59:FT:=⟨Tryz.f59,[],[]⟩
noncomputable def ft60:FT:=⟨Tryz.f60,[3,4,6],[(3,[(4,9)],[([true],true,[0,1,2,3,4,5,6,7,8,9,10,11]),([false],true,[0,1,2,3,9,4,5,6,7,8,10,11])])]⟩
noncomputable def ft61:FT:=⟨Tryz.f61,[],[]⟩
noncomputable def ft62:FT:=⟨Tryz.f62,[],[]⟩
noncomputable def ft63:FT:=⟨Tryz.f63,[],[]⟩
noncomputable def ft64:FT:=⟨Tryz.f64,[6],[]⟩
noncomputable def ft65:FT:=⟨Tryz.f65,[7,8,12,86,88,90,92,94,96],[]⟩
noncomputable def ft66:FT:=⟨Tryz.f66,[],[]⟩
noncomputable def ft67:FT:=⟨Tryz.f67,[],[]⟩
noncomputable def ft68:FT:=⟨Tryz.f68,[],[]⟩
noncomputable def ft71:FT:=⟨Tryz.f71,[1,3,8,15,21,28],[]⟩
noncomputable def ft72:FT:=⟨Tryz.f72,[1,6,11,17,19,25,27,33,38,42,43,46,47,51],[(3,[(8,9)],[([true],true,[0,1,2,3,4,5,6,7,8,9,10,11]),([false],true,[0,1,2,3,4,5,6,7,9,8,10,11])])]⟩
noncomputable def ft73:FT:=⟨Tryz.f73,[],[]⟩
noncomputable def ft74:FT:=⟨Tryz.f74,[1],[]⟩
noncomputable def ft75:FT:=⟨Tryz.f75,[3],[]⟩
noncomputable def ft76:FT:=⟨Tryz.f76,[],[]⟩
noncomputable def ft78:FT:=⟨Tryz.f78,[1,5,14,24],[]⟩
noncomputable def ft80:FT:=⟨Tryz.f80,[2,3],[]⟩
noncomputable def ft90:FT:=⟨Tryz.f90,[],[]⟩
noncomputable def ft94:FT:=⟨Tryz.f94,[],[]⟩
noncomputable def ft95:FT:=⟨Tryz.f95,[],[]⟩
noncomputable def ft96:FT:=⟨Tryz.f96,[],[]⟩
noncomputable def ft97:FT:=⟨Tryz.f97,[3],[]⟩
noncomputable def ft98:FT:=⟨Tryz.f98,[3],[]⟩
noncomputable def ft99:FT:=⟨Tryz.f99,[5,7,17],[(10,[(4,8)],[([true],true,[0,1,2,3,4,5,6,7,8,9]),([false],true,[0,1,2,3,5,6,7,8,4,9])])]⟩
noncomputable def ft100:FT:=⟨Tryz.f100,[3],[]⟩
noncomputable def ft101:FT:=⟨Tryz.f101,[4],[(4,[(3,8),(8,10)],[([true,true],true,[0,1,2,3,4,5,6,7,8,9,10,11]),([true,false],true,[0,1,2,3,4,5,6,7,9,10,8,11]),([false,true],true,[0,1,2,4,5,6,7,8,3,9,10,11]),([false,false],true,[0,1,2,4,5,6,7,9,10,8,3,11])]),(5,[(3,8),(8,10)],[([true,true],true,[0,1,2,3,4,5,6,7,8,9,10,11]),([true,false],true,[0,1,2,3,4,5,6,7,9,10,8,11]),([false,true],true,[0,1,2,4,5,6,7,8,3,9,10,11]),([false,false],true,[0,1,2,4,5,6,7,9,10,8,3,11])])]⟩
noncomputable def ft102:FT:=⟨Tryz.f102,[5,6],[(3,[(4,7)],[([true],true,[0,1,2,3,4,5,6,7,8,9,10,11,12,13,14,15]),([false],true,[0,1,2,3,5,6,7,4,8,9,10,11,12,13,14,15])])]⟩
noncomputable def ft103:FT:=⟨Tryz.f103,[3,8,14,16,24,26],[(2,[(3,8)],[([true],true,[0,1,2,3,4,5,6,7,8,9]),([false],true,[0,1,2,4,5,6,7,8,3,9])]),(3,[(3,8)],[([true],true,[0,1,2,3,4,5,6,7,8,9]),([false],true,[0,1,2,4,5,6,7,8,3,9])])]⟩
noncomputable def ft104:FT:=⟨Tryz.f104,[3],[]⟩
noncomputable def ft105:FT:=⟨Tryz.f105,[],[]⟩
noncomputable def ft106:FT:=⟨Tryz.f106,[],[]⟩
noncomputable def ft107:FT:=⟨Tryz.f107,[],[]⟩
noncomputable def ft108:FT:=⟨Tryz.f108,[2,3,7,8,13,14,15,16,17,18,23,24,25,26,27,28],[]⟩
noncomputable def ft109:FT:=⟨Tryz.f109,[2,3,7,8,13,14,15,16,17,18],[]⟩
noncomputable def ft110:FT:=⟨Tryz.f110,[2],[]⟩
noncomputable def ft111:FT:=⟨Tryz.f111,[2],[]⟩
noncomputable def ft112:FT:=⟨Tryz.f112,[2],[]⟩
noncomputable def ft113:FT:=⟨Tryz.f113,[3,5,7,11,18,27,31,74,80,82,84],[(13,[(4,6)],[([true],true,[0,1,2,3,4,5,6,7,8,9,10]),([false],true,[0,1,2,3,5,6,4,7,8,9,10])])]⟩
noncomputable def ft114:FT:=⟨Tryz.f114,[3,5],[]⟩
noncomputable def ft115:FT:=⟨Tryz.f115,[3,4,6],[(3,[(4,9)],[([true],true,[0,1,2,3,4,5,6,7,8,9,10,11]),([false],true,[0,1,2,3,9,4,5,6,7,8,10,11])])]⟩
noncomputable def ft116:FT:=⟨Tryz.f116,[],[]⟩
noncomputable def ft117:FT:=⟨Tryz.f117,[2,6],[]⟩
noncomputable def ft118:FT:=⟨Tryz.f118,[],[]⟩
noncomputable def ft119:FT:=⟨Tryz.f119,[1],[]⟩
noncomputable def ft120:FT:=⟨Tryz.f120,[9],[]⟩
noncomputable def ft121:FT:=⟨Tryz.f121,[],[]⟩
noncomputable def ft122:FT:=⟨Tryz.f122,[],[]⟩
noncomputable def ft123:FT:=⟨Tryz.f123,[1,6,11,17,22,24,30,33,40],[]⟩
noncomputable def ft124:FT:=⟨Tryz.f124,[],[]⟩
noncomputable def ft125:FT:=⟨Tryz.f125,[],[]⟩
noncomputable def ft126:FT:=⟨Tryz.f126,[],[]⟩
noncomputable def ft127:FT:=⟨Tryz.f127,[],[]⟩
noncomputable def ft128:FT:=⟨Tryz.f128,[],[(1,[(4,8)],[([true],true,[0,1,2,3,4,5,6,7,8,9,10,11]),([false],true,[0,1,2,3,5,6,7,8,4,9,10,11])])]⟩
noncomputable def ft129:FT:=⟨Tryz.f129,[],[]⟩
noncomputable def ft130:FT:=⟨Tryz.f130,[],[]⟩
noncomputable def ft131:FT:=⟨Tryz.f131,[],[]⟩
noncomputable def ft133:FT:=⟨Tryz.f133,[1,3,7,12,17,21],[]⟩
noncomputable def ft134:FT:=⟨Tryz.f134,[1,3,7,11,18,22,28,32],[]⟩
noncomputable def ft141:FT:=⟨Tryz.f141,[],[]⟩
noncomputable def ft142:FT:=⟨Tryz.f142,[],[]⟩
noncomputable def ft143:FT:=⟨Tryz.f143,[],[]⟩
noncomputable def ft144:FT:=⟨Tryz.f144,[3,16,25],[]⟩
noncomputable def ft145:FT:=⟨Tryz.f145,[],[]⟩
noncomputable def ft146:FT:=⟨Tryz.f146,[],[(1,[(1,4),(1,10),(5,10)],[([true,false,true],false,[1,4,5,10,1]),([false,false,true],false,[1,5,10,1]),([true,true,true],true,[0,1,2,3,4,5,6,7,8,9,10,11,12]),([true,true,false],true,[0,1,2,3,4,8,9,10,5,6,7,11,12]),([true,false,false],true,[0,3,8,9,10,1,2,4,5,6,7,11,12]),([false,true,true],true,[0,3,4,1,2,5,6,7,8,9,10,11,12]),([false,true,false],true,[0,3,4,1,2,8,9,10,5,6,7,11,12]),([false,false,false],true,[0,3,4,8,9,10,1,2,5,6,7,11,12])])]⟩
noncomputable def ft147:FT:=⟨Tryz.f147,[],[(1,[(1,4),(1,10),(5,10)],[([true,false,true],false,[1,4,5,10,1]),([false,false,true],false,[1,5,10,1]),([true,true,true],true,[0,1,2,3,4,5,6,7,8,9,10,11,12]),([true,true,false],true,[0,1,2,3,4,8,9,10,5,6,7,11,12]),([true,false,false],true,[0,3,8,9,10,1,2,4,5,6,7,11,12]),([false,true,true],true,[0,3,4,1,2,5,6,7,8,9,10,11,12]),([false,true,false],true,[0,3,4,1,2,8,9,10,5,6,7,11,12]),([false,false,false],true,[0,3,4,8,9,10,1,2,5,6,7,11,12])])]⟩
noncomputable def ft148:FT:=⟨Tryz.f148,[6],[]⟩
noncomputable def ft149:FT:=⟨Tryz.f149,[],[]⟩
noncomputable def ft150:FT:=⟨Tryz.f150,[7,83],[]⟩
noncomputable def ft151:FT:=⟨Tryz.f151,[],[]⟩
noncomputable def ft152:FT:=⟨Tryz.f152,[],[]⟩
noncomputable def ft153:FT:=⟨Tryz.f153,[],[]⟩
noncomputable def ft154:FT:=⟨Tryz.f154,[],[]⟩
noncomputable def ft155:FT:=⟨Tryz.f155,[],[]⟩
noncomputable def ft156:FT:=⟨Tryz.f156,[],[]⟩
noncomputable def ft157:FT:=⟨Tryz.f157,[2,4],[]⟩
noncomputable def ft158:FT:=⟨Tryz.f158,[],[]⟩
noncomputable def ft159:FT:=⟨Tryz.f159,[2,4],[]⟩
noncomputable def ft160:FT:=⟨Tryz.f160,[2],[]⟩
noncomputable def ft161:FT:=⟨Tryz.f161,[],[]⟩
noncomputable def ft162:FT:=⟨Tryz.f162,[],[]⟩
noncomputable def ft163:FT:=⟨Tryz.f163,[],[]⟩
noncomputable def ft164:FT:=⟨Tryz.f164,[3],[]⟩
noncomputable def ft165:FT:=⟨Tryz.f165,[],[]⟩
noncomputable def ft166:FT:=⟨Tryz.f166,[1,3,7],[]⟩
noncomputable def ft167:FT:=⟨Tryz.f167,[],[]⟩
noncomputable def ft168:FT:=⟨Tryz.f168,[],[]⟩
noncomputable def ft169:FT:=⟨Tryz.f169,[],[(0,[(8,12)],[([true],true,[0,1,2,3,4,5,6,7,8,9,10,11,12,13,14,15]),([false],true,[0,1,2,3,4,5,6,7,9,10,11,12,8,13,14,15])])]⟩
noncomputable def ft170:FT:=⟨Tryz.f170,[],[]⟩
noncomputable def ft180:FT:=⟨Tryz.f180,[],[]⟩
noncomputable def ft181:FT:=⟨Tryz.f181,[],[]⟩
noncomputable def ft182:FT:=⟨Tryz.f182,[],[]⟩
noncomputable def ft183:FT:=⟨Tryz.f183,[],[(1,[(1,6)],[([true],true,[0,1,2,3,4,5,6,7,8,9,10]),([false],true,[0,3,4,5,6,1,2,7,8,9,10])])]⟩
noncomputable def ft184:FT:=⟨Tryz.f184,[],[]⟩
noncomputable def ft185:FT:=⟨Tryz.f185,[],[]⟩
noncomputable def ft186:FT:=⟨Tryz.f186,[],[]⟩
noncomputable def ft187:FT:=⟨Tryz.f187,[],[]⟩
noncomputable def ft188:FT:=⟨Tryz.f188,[],[]⟩
noncomputable def ft189:FT:=⟨Tryz.f189,[2],[]⟩
noncomputable def ft190:FT:=⟨Tryz.f190,[],[]⟩
noncomputable def ft191:FT:=⟨Tryz.f191,[2],[]⟩
noncomputable def ft192:FT:=⟨Tryz.f192,[2,7,11],[]⟩
noncomputable def ft193:FT:=⟨Tryz.f193,[2,7,11],[]⟩
noncomputable def ft194:FT:=⟨Tryz.f194,[3],[]⟩
noncomputable def ft195:FT:=⟨Tryz.f195,[],[]⟩
noncomputable def ft196:FT:=⟨Tryz.f196,[],[]⟩
noncomputable def ft197:FT:=⟨Tryz.f197,[],[]⟩
noncomputable def ft198:FT:=⟨Tryz.f198,[],[]⟩
noncomputable def ft199:FT:=⟨Tryz.f199,[],[]⟩
noncomputable def ft200:FT:=⟨Tryz.f200,[],[]⟩
noncomputable def ft206:FT:=⟨Tryz.f206,[],[]⟩
noncomputable def ft207:FT:=⟨Tryz.f207,[],[]⟩
noncomputable def ft208:FT:=⟨Tryz.f208,[9,49,53],[]⟩
noncomputable def ft209:FT:=⟨Tryz.f209,[],[]⟩
noncomputable def ft210:FT:=⟨Tryz.f210,[],[]⟩
noncomputable def ft211:FT:=⟨Tryz.f211,[],[]⟩
noncomputable def ft212:FT:=⟨Tryz.f212,[],[]⟩
noncomputable def ft213:FT:=⟨Tryz.f213,[],[]⟩
noncomputable def ft214:FT:=⟨Tryz.f214,[],[]⟩
noncomputable def ft215:FT:=⟨Tryz.f215,[],[]⟩
noncomputable def ft216:FT:=⟨Tryz.f216,[],[]⟩
noncomputable def ft217:FT:=⟨Tryz.f217,[],[]⟩
noncomputable def ft218:FT:=⟨Tryz.f218,[],[]⟩
noncomputable def ft219:FT:=⟨Tryz.f219,[],[]⟩
noncomputable def ft220:FT:=⟨Tryz.f220,[],[]⟩
noncomputable def ft221:FT:=⟨Tryz.f221,[],[]⟩
noncomputable def ft222:FT:=⟨Tryz.f222,[],[]⟩
noncomputable def ft224:FT:=⟨Tryz.f224,[],[]⟩
noncomputable def ft225:FT:=⟨Tryz.f225,[],[]⟩
noncomputable def ft226:FT:=⟨Tryz.f226,[],[]⟩
noncomputable def ft227:FT:=⟨Tryz.f227,[],[]⟩
noncomputable def ft228:FT:=⟨Tryz.f228,[],[]⟩
noncomputable def ft229:FT:=⟨Tryz.f229,[],[(1,[(2,3)],[([true],true,[0,1,2,3,4,5,6]),([false],true,[0,1,3,2,4,5,6])])]⟩
noncomputable def ft230:FT:=⟨Tryz.f230,[],[(1,[(2,3)],[([true],true,[0,1,2,3,4,5,6]),([false],true,[0,1,3,2,4,5,6])])]⟩
noncomputable def ft231:FT:=⟨Tryz.f231,[],[]⟩
noncomputable def ft232:FT:=⟨Tryz.f232,[],[]⟩
noncomputable def ft233:FT:=⟨Tryz.f233,[],[]⟩
noncomputable def ft234:FT:=⟨Tryz.f234,[],[]⟩
noncomputable def ft235:FT:=⟨Tryz.f235,[],[]⟩
noncomputable def ft236:FT:=⟨Tryz.f236,[],[]⟩
noncomputable def ft237:FT:=⟨Tryz.f237,[],[]⟩
noncomputable def ft238:FT:=⟨Tryz.f238,[],[]⟩
noncomputable def ft239:FT:=⟨Tryz.f239,[],[]⟩
theorem ok4:EntOk Tryz.prog 4 ft4:=EntOk.mk rfl (by kernel_rfl) (by kernel_rfl)
theorem ok10:EntOk Tryz.prog 10 ft10:=EntOk.mk rfl (by kernel_rfl) (by kernel_rfl)
theorem ok11:EntOk Tryz.prog 11 ft11:=EntOk.mk rfl (by kernel_rfl) (by kernel_rfl)
theorem ok12:EntOk Tryz.prog 12 ft12:=EntOk.mk rfl (by kernel_rfl) (by kernel_rfl)
theorem ok13:EntOk Tryz.prog 13 ft13:=EntOk.mk rfl (by kernel_rfl) (by kernel_rfl)
theorem ok14:EntOk Tryz.prog 14 ft14:=EntOk.mk rfl (by kernel_rfl) (by kernel_rfl)
theorem ok15:EntOk Tryz.prog 15 ft15:=EntOk.mk rfl (by kernel_rfl) (by kernel_rfl)
theorem ok16:EntOk Tryz.prog 16 ft16:=EntOk.mk rfl (by kernel_rfl) (by kernel_rfl)
theorem ok17:EntOk Tryz.prog 17 ft17:=EntOk.mk rfl (by kernel_rfl) (by kernel_rfl)
theorem ok18:EntOk Tryz.prog 18 ft18:=EntOk.mk rfl (by kernel_rfl) (by kernel_rfl)
theorem ok19:EntOk Tryz.prog 19 ft19:=EntOk.mk rfl (by kernel_rfl) (by kernel_rfl)
theorem ok20:EntOk Tryz.prog 20 ft20:=EntOk.mk rfl (by kernel_rfl) (by kernel_rfl)
theorem ok21:EntOk Tryz.prog 21 ft21:=EntOk.mk rfl (by kernel_rfl) (by kernel_rfl)
theorem ok22:EntOk Tryz.prog 22 ft22:=EntOk.mk rfl (by kernel_rfl) (by kernel_rfl)
theorem ok23:EntOk Tryz.prog 23 ft23:=EntOk.mk rfl (by kernel_rfl) (by kernel_rfl)
theorem ok24:EntOk Tryz.prog 24 ft24:=EntOk.mk rfl (by kernel_rfl) (by kernel_rfl)
theorem ok25:EntOk Tryz.prog 25 ft25:=EntOk.mk rfl (by kernel_rfl) (by kernel_rfl)
theorem ok26:EntOk Tryz.prog 26 ft26:=EntOk.mk rfl (by kernel_rfl) (by kernel_rfl)
theorem ok27:EntOk Tryz.prog 27 ft27:=EntOk.mk rfl (by kernel_rfl) (by kernel_rfl)
theorem ok28:EntOk Tryz.prog 28 ft28:=EntOk.mk rfl (by kernel_rfl) (by kernel_rfl)
theorem ok29:EntOk Tryz.prog 29 ft29:=EntOk.mk rfl (by kernel_rfl) (by kernel_rfl)
theorem ok30:EntOk Tryz.prog 30 ft30:=EntOk.mk rfl (by kernel_rfl) (by kernel_rfl)
theorem ok31:EntOk Tryz.prog 31 ft31:=EntOk.mk rfl (by kernel_rfl) (by kernel_rfl)
theorem ok32:EntOk Tryz.prog 32 ft32:=EntOk.mk rfl (by kernel_rfl) (by kernel_rfl)
theorem ok38:EntOk Tryz.prog 38 ft38:=EntOk.mk rfl (by kernel_rfl) (by kernel_rfl)
theorem ok39:EntOk Tryz.prog 39 ft39:=EntOk.mk rfl (by kernel_rfl) (by kernel_rfl)
theorem ok51:EntOk Tryz.prog 51 ft51:=EntOk.mk rfl (by kernel_rfl) (by kernel_rfl)
theorem ok53:EntOk Tryz.prog 53 ft53:=EntOk.mk rfl (by kernel_rfl) (by kernel_rfl)
theorem ok54:EntOk Tryz.prog 54 ft54:=EntOk.mk rfl (by kernel_rfl) (by kernel_rfl)
theorem ok55:EntOk Tryz.prog 55 ft55:=EntOk.mk rfl (by kernel_rfl) (by kernel_rfl)
theorem ok56:EntOk Tryz.prog 56 ft56:=EntOk.mk rfl (by kernel_rfl) (by kernel_rfl)
theorem ok57:EntOk Tryz.prog 57 ft57:=EntOk.mk rfl (by kernel_rfl) (by kernel_rfl)
theorem ok58:EntOk Tryz.prog 58 ft58:=EntOk.mk rfl (by kernel_rfl) (by kernel_rfl)
theorem ok59:EntOk Tryz.prog 59 ft59:=EntOk.mk rfl (by kernel_rfl) (by kernel_rfl)
theorem ok60:EntOk Tryz.prog 60 ft60:=EntOk.mk rfl (by kernel_rfl) (by kernel_rfl)
theorem ok61:EntOk Tryz.prog 61 ft61:=EntOk.mk rfl (by kernel_rfl) (by kernel_rfl)
theorem ok62:EntOk Tryz.prog 62 ft62:=EntOk.mk rfl (by kernel_rfl) (by kernel_rfl)
theorem ok63:EntOk Tryz.prog 63 ft63:=EntOk.mk rfl (by kernel_rfl) (by kernel_rfl)
theorem ok64:EntOk Tryz.prog 64 ft64:=EntOk.mk rfl (by kernel_rfl) (by kernel_rfl)
theorem ok65:EntOk Tryz.prog 65 ft65:=EntOk.mk rfl (by kernel_rfl) (by kernel_rfl)
theorem ok66:EntOk Tryz.prog 66 ft66:=EntOk.mk rfl (by kernel_rfl) (by kernel_rfl)
theorem ok67:EntOk Tryz.prog 67 ft67:=EntOk.mk rfl (by kernel_rfl) (by kernel_rfl)
theorem ok68:EntOk Tryz.prog 68 ft68:=EntOk.mk rfl (by kernel_rfl) (by kernel_rfl)
theorem ok71:EntOk Tryz.prog 71 ft71:=EntOk.mk rfl (by kernel_rfl) (by kernel_rfl)
theorem ok72:EntOk Tryz.prog 72 ft72:=EntOk.mk rfl (by kernel_rfl) (by kernel_rfl)
theorem ok73:EntOk Tryz.prog 73 ft73:=EntOk.mk rfl (by kernel_rfl) (by kernel_rfl)
theorem ok74:EntOk Tryz.prog 74 ft74:=EntOk.mk rfl (by kernel_rfl) (by kernel_rfl)
theorem ok75:EntOk Tryz.prog 75 ft75:=EntOk.mk rfl (by kernel_rfl) (by kernel_rfl)
theorem ok76:EntOk Tryz.prog 76 ft76:=EntOk.mk rfl (by kernel_rfl) (by kernel_rfl)
theorem ok78:EntOk Tryz.prog 78 ft78:=EntOk.mk rfl (by kernel_rfl) (by kernel_rfl)
theorem ok80:EntOk Tryz.prog 80 ft80:=EntOk.mk rfl (by kernel_rfl) (by kernel_rfl)
theorem ok90:EntOk Tryz.prog 90 ft90:=EntOk.mk rfl (by kernel_rfl) (by kernel_rfl)
theorem ok94:EntOk Tryz.prog 94 ft94:=EntOk.mk rfl (by kernel_rfl) (by kernel_rfl)
theorem ok95:EntOk Tryz.prog 95 ft95:=EntOk.mk rfl (by kernel_rfl) (by kernel_rfl)
theorem ok96:EntOk Tryz.prog 96 ft96:=EntOk.mk rfl (by kernel_rfl) (by kernel_rfl)
theorem ok97:EntOk Tryz.prog 97 ft97:=EntOk.mk rfl (by kernel_rfl) (by kernel_rfl)
theorem ok98:EntOk Tryz.prog 98 ft98:=EntOk.mk rfl (by kernel_rfl) (by kernel_rfl)
theorem ok99:EntOk Tryz.prog 99 ft99:=EntOk.mk rfl (by kernel_rfl) (by kernel_rfl)
theorem ok100:EntOk Tryz.prog 100 ft100:=EntOk.mk rfl (by kernel_rfl) (by kernel_rfl)
theorem ok101:EntOk Tryz.prog 101 ft101:=EntOk.mk rfl (by kernel_rfl) (by kernel_rfl)
theorem ok102:EntOk Tryz.prog 102 ft102:=EntOk.mk rfl (by kernel_rfl) (by kernel_rfl)
theorem ok103:EntOk Tryz.prog 103 ft103:=EntOk.mk rfl (by kernel_rfl) (by kernel_rfl)
theorem ok104:EntOk Tryz.prog 104 ft104:=EntOk.mk rfl (by kernel_rfl) (by kernel_rfl)
theorem ok105:EntOk Tryz.prog 105 ft105:=EntOk.mk rfl (by kernel_rfl) (by kernel_rfl)
theorem ok106:EntOk Tryz.prog 106 ft106:=EntOk.mk rfl (by kernel_rfl) (by kernel_rfl)
theorem ok107:EntOk Tryz.prog 107 ft107:=EntOk.mk rfl (by kernel_rfl) (by kernel_rfl)
theorem ok108:EntOk Tryz.prog 108 ft108:=EntOk.mk rfl (by kernel_rfl) (by kernel_rfl)
theorem ok109:EntOk Tryz.prog 109 ft109:=EntOk.mk rfl (by kernel_rfl) (by kernel_rfl)
theorem ok110:EntOk Tryz.prog 110 ft110:=EntOk.mk rfl (by kernel_rfl) (by kernel_rfl)
theorem ok111:EntOk Tryz.prog 111 ft111:=EntOk.mk rfl (by kernel_rfl) (by kernel_rfl)
theorem ok112:EntOk Tryz.prog 112 ft112:=EntOk.mk rfl (by kernel_rfl) (by kernel_rfl)
theorem ok113:EntOk Tryz.prog 113 ft113:=EntOk.mk rfl (by kernel_rfl) (by kernel_rfl)
theorem ok114:EntOk Tryz.prog 114 ft114:=EntOk.mk rfl (by kernel_rfl) (by kernel_rfl)
theorem ok115:EntOk Tryz.prog 115 ft115:=EntOk.mk rfl (by kernel_rfl) (by kernel_rfl)
theorem ok116:EntOk Tryz.prog 116 ft116:=EntOk.mk rfl (by kernel_rfl) (by kernel_rfl)
theorem ok117:EntOk Tryz.prog 117 ft117:=EntOk.mk rfl (by kernel_rfl) (by kernel_rfl)
theorem ok118:EntOk Tryz.prog 118 ft118:=EntOk.mk rfl (by kernel_rfl) (by kernel_rfl)
theorem ok119:EntOk Tryz.prog 119 ft119:=EntOk.mk rfl (by kernel_rfl) (by kernel_rfl)
theorem ok120:EntOk Tryz.prog 120 ft120:=EntOk.mk rfl (by kernel_rfl) (by kernel_rfl)
theorem ok121:EntOk Tryz.prog 121 ft121:=EntOk.mk rfl (by kernel_rfl) (by kernel_rfl)
theorem ok122:EntOk Tryz.prog 122 ft122:=EntOk.mk rfl (by kernel_rfl) (by kernel_rfl)
theorem ok123:EntOk Tryz.prog 123 ft123:=EntOk.mk rfl (by kernel_rfl) (by kernel_rfl)
theorem ok124:EntOk Tryz.prog 124 ft124:=EntOk.mk rfl (by kernel_rfl) (by kernel_rfl)
theorem ok125:EntOk Tryz.prog 125 ft125:=EntOk.mk rfl (by kernel_rfl) (by kernel_rfl)
theorem ok126:EntOk Tryz.prog 126 ft126:=EntOk.mk rfl (by kernel_rfl) (by kernel_rfl)
theorem ok127:EntOk Tryz.prog 127 ft127:=EntOk.mk rfl (by kernel_rfl) (by kernel_rfl)
theorem ok128:EntOk Tryz.prog 128 ft128:=EntOk.mk rfl (by kernel_rfl) (by kernel_rfl)
theorem ok129:EntOk Tryz.prog 129 ft129:=EntOk.mk rfl (by kernel_rfl) (by kernel_rfl)
theorem ok130:EntOk Tryz.prog 130 ft130:=EntOk.mk rfl (by kernel_rfl) (by kernel_rfl)
theorem ok131:EntOk Tryz.prog 131 ft131:=EntOk.mk rfl (by kernel_rfl) (by kernel_rfl)
theorem ok133:EntOk Tryz.prog 133 ft133:=EntOk.mk rfl (by kernel_rfl) (by kernel_rfl)
theorem ok134:EntOk Tryz.prog 134 ft134:=EntOk.mk rfl (by kernel_rfl) (by kernel_rfl)
theorem ok141:EntOk Tryz.prog 141 ft141:=EntOk.mk rfl (by kernel_rfl) (by kernel_rfl)
theorem ok142:EntOk Tryz.prog 142 ft142:=EntOk.mk rfl (by kernel_rfl) (by kernel_rfl)
theorem ok143:EntOk Tryz.prog 143 ft143:=EntOk.mk rfl (by kernel_rfl) (by kernel_rfl)
theorem ok144:EntOk Tryz.prog 144 ft144:=EntOk.mk rfl (by kernel_rfl) (by kernel_rfl)
theorem ok145:EntOk Tryz.prog 145 ft145:=EntOk.mk rfl (by kernel_rfl) (by kernel_rfl)
theorem ok146:EntOk Tryz.prog 146 ft146:=EntOk.mk rfl (by kernel_rfl) (by kernel_rfl)
theorem ok147:EntOk Tryz.prog 147 ft147:=EntOk.mk rfl (by kernel_rfl) (by kernel_rfl)
theorem ok148:EntOk Tryz.prog 148 ft148:=EntOk.mk rfl (by kernel_rfl) (by kernel_rfl)
theorem ok149:EntOk Tryz.prog 149 ft149:=EntOk.mk rfl (by kernel_rfl) (by kernel_rfl)
theorem ok150:EntOk Tryz.prog 150 ft150:=EntOk.mk rfl (by kernel_rfl) (by kernel_rfl)
theorem ok151:EntOk Tryz.prog 151 ft151:=EntOk.mk rfl (by kernel_rfl) (by kernel_rfl)
theorem ok152:EntOk Tryz.prog 152 ft152:=EntOk.mk rfl (by kernel_rfl) (by kernel_rfl)
theorem ok153:EntOk Tryz.prog 153 ft153:=EntOk.mk rfl (by kernel_rfl) (by kernel_rfl)
theorem ok154:EntOk Tryz.prog 154 ft154:=EntOk.mk rfl (by kernel_rfl) (by kernel_rfl)
theorem ok155:EntOk Tryz.prog 155 ft155:=EntOk.mk rfl (by kernel_rfl) (by kernel_rfl)
theorem ok156:EntOk Tryz.prog 156 ft156:=EntOk.mk rfl (by kernel_rfl) (by kernel_rfl)
theorem ok157:EntOk Tryz.prog 157 ft157:=EntOk.mk rfl (by kernel_rfl) (by kernel_rfl)
theorem ok158:EntOk Tryz.prog 158 ft158:=EntOk.mk rfl (by kernel_rfl) (by kernel_rfl)
theorem ok159:EntOk Tryz.prog 159 ft159:=EntOk.mk rfl (by kernel_rfl) (by kernel_rfl)
theorem ok160:EntOk Tryz.prog 160 ft160:=EntOk.mk rfl (by kernel_rfl) (by kernel_rfl)
theorem ok161:EntOk Tryz.prog 161 ft161:=EntOk.mk rfl (by kernel_rfl) (by kernel_rfl)
theorem ok162:EntOk Tryz.prog 162 ft162:=EntOk.mk rfl (by kernel_rfl) (by kernel_rfl)
theorem ok163:EntOk Tryz.prog 163 ft163:=EntOk.mk rfl (by kernel_rfl) (by kernel_rfl)
theorem ok164:EntOk Tryz.prog 164 ft164:=EntOk.mk rfl (by kernel_rfl) (by kernel_rfl)
theorem ok165:EntOk Tryz.prog 165 ft165:=EntOk.mk rfl (by kernel_rfl) (by kernel_rfl)
theorem ok166:EntOk Tryz.prog 166 ft166:=EntOk.mk rfl (by kernel_rfl) (by kernel_rfl)
theorem ok167:EntOk Tryz.prog 167 ft167:=EntOk.mk rfl (by kernel_rfl) (by kernel_rfl)
theorem ok168:EntOk Tryz.prog 168 ft168:=EntOk.mk rfl (by kernel_rfl) (by kernel_rfl)
theorem ok169:EntOk Tryz.prog 169 ft169:=EntOk.mk rfl (by kernel_rfl) (by kernel_rfl)
theorem ok170:EntOk Tryz.prog 170 ft170:=EntOk.mk rfl (by kernel_rfl) (by kernel_rfl)
theorem ok180:EntOk Tryz.prog 180 ft180:=EntOk.mk rfl (by kernel_rfl) (by kernel_rfl)
theorem ok181:EntOk Tryz.prog 181 ft181:=EntOk.mk rfl (by kernel_rfl) (by kernel_rfl)
theorem ok182:EntOk Tryz.prog 182 ft182:=EntOk.mk rfl (by kernel_rfl) (by kernel_rfl)
theorem ok183:EntOk Tryz.prog 183 ft183:=EntOk.mk rfl (by kernel_rfl) (by kernel_rfl)
theorem ok184:EntOk Tryz.prog 184 ft184:=EntOk.mk rfl (by kernel_rfl) (by kernel_rfl)
theorem ok185:EntOk Tryz.prog 185 ft185:=EntOk.mk rfl (by kernel_rfl) (by kernel_rfl)
theorem ok186:EntOk Tryz.prog 186 ft186:=EntOk.mk rfl (by kernel_rfl) (by kernel_rfl)
theorem ok187:EntOk Tryz.prog 187 ft187:=EntOk.mk rfl (by kernel_rfl) (by kernel_rfl)
theorem ok188:EntOk Tryz.prog 188 ft188:=EntOk.mk rfl (by kernel_rfl) (by kernel_rfl)
theorem ok189:EntOk Tryz.prog 189 ft189:=EntOk.mk rfl (by kernel_rfl) (by kernel_rfl)
theorem ok190:EntOk Tryz.prog 190 ft190:=EntOk.mk rfl (by kernel_rfl) (by kernel_rfl)
theorem ok191:EntOk Tryz.prog 191 ft191:=EntOk.mk rfl (by kernel_rfl) (by kernel_rfl)
theorem ok192:EntOk Tryz.prog 192 ft192:=EntOk.mk rfl (by kernel_rfl) (by kernel_rfl)
theorem ok193:EntOk Tryz.prog 193 ft193:=EntOk.mk rfl (by kernel_rfl) (by kernel_rfl)
theorem ok194:EntOk Tryz.prog 194 ft194:=EntOk.mk rfl (by kernel_rfl) (by kernel_rfl)
theorem ok195:EntOk Tryz.prog 195 ft195:=EntOk.mk rfl (by kernel_rfl) (by kernel_rfl)
theorem ok196:EntOk Tryz.prog 196 ft196:=EntOk.mk rfl (by kernel_rfl) (by kernel_rfl)
theorem ok197:EntOk Tryz.prog 197 ft197:=EntOk.mk rfl (by kernel_rfl) (by kernel_rfl)
theorem ok198:EntOk Tryz.prog 198 ft198:=EntOk.mk rfl (by kernel_rfl) (by kernel_rfl)
theorem ok199:EntOk Tryz.prog 199 ft199:=EntOk.mk rfl (by kernel_rfl) (by kernel_rfl)
theorem ok200:EntOk Tryz.prog 200 ft200:=EntOk.mk rfl (by kernel_rfl) (by kernel_rfl)
theorem ok206:EntOk Tryz.prog 206 ft206:=EntOk.mk rfl (by kernel_rfl) (by kernel_rfl)
theorem ok207:EntOk Tryz.prog 207 ft207:=EntOk.mk rfl (by kernel_rfl) (by kernel_rfl)
theorem ok208:EntOk Tryz.prog 208 ft208:=EntOk.mk rfl (by kernel_rfl) (by kernel_rfl)
theorem ok209:EntOk Tryz.prog 209 ft209:=EntOk.mk rfl (by kernel_rfl) (by kernel_rfl)
theorem ok210:EntOk Tryz.prog 210 ft210:=EntOk.mk rfl (by kernel_rfl) (by kernel_rfl)
theorem ok211:EntOk Tryz.prog 211 ft211:=EntOk.mk rfl (by kernel_rfl) (by kernel_rfl)
theorem ok212:EntOk Tryz.prog 212 ft212:=EntOk.mk rfl (by kernel_rfl) (by kernel_rfl)
theorem ok213:EntOk Tryz.prog 213 ft213:=EntOk.mk rfl (by kernel_rfl) (by kernel_rfl)
theorem ok214:EntOk Tryz.prog 214 ft214:=EntOk.mk rfl (by kernel_rfl) (by kernel_rfl)
theorem ok215:EntOk Tryz.prog 215 ft215:=EntOk.mk rfl (by kernel_rfl) (by kernel_rfl)
theorem ok216:EntOk Tryz.prog 216 ft216:=EntOk.mk rfl (by kernel_rfl) (by kernel_rfl)
theorem ok217:EntOk Tryz.prog 217 ft217:=EntOk.mk rfl (by kernel_rfl) (by kernel_rfl)
theorem ok218:EntOk Tryz.prog 218 ft218:=EntOk.mk rfl (by kernel_rfl) (by kernel_rfl)
theorem ok219:EntOk Tryz.prog 219 ft219:=EntOk.mk rfl (by kernel_rfl) (by kernel_rfl)
theorem ok220:EntOk Tryz.prog 220 ft220:=EntOk.mk rfl (by kernel_rfl) (by kernel_rfl)
theorem ok221:EntOk Tryz.prog 221 ft221:=EntOk.mk rfl (by kernel_rfl) (by kernel_rfl)
theorem ok222:EntOk Tryz.prog 222 ft222:=EntOk.mk rfl (by kernel_rfl) (by kernel_rfl)
theorem ok224:EntOk Tryz.prog 224 ft224:=EntOk.mk rfl (by kernel_rfl) (by kernel_rfl)
theorem ok225:EntOk Tryz.prog 225 ft225:=EntOk.mk rfl (by kernel_rfl) (by kernel_rfl)
theorem ok226:EntOk Tryz.prog 226 ft226:=EntOk.mk rfl (by kernel_rfl) (by kernel_rfl)
theorem ok227:EntOk Tryz.prog 227 ft227:=EntOk.mk rfl (by kernel_rfl) (by kernel_rfl)
theorem ok228:EntOk Tryz.prog 228 ft228:=EntOk.mk rfl (by kernel_rfl) (by kernel_rfl)
theorem ok229:EntOk Tryz.prog 229 ft229:=EntOk.mk rfl (by kernel_rfl) (by kernel_rfl)
theorem ok230:EntOk Tryz.prog 230 ft230:=EntOk.mk rfl (by kernel_rfl) (by kernel_rfl)
theorem ok231:EntOk Tryz.prog 231 ft231:=EntOk.mk rfl (by kernel_rfl) (by kernel_rfl)
theorem ok232:EntOk Tryz.prog 232 ft232:=EntOk.mk rfl (by kernel_rfl) (by kernel_rfl)
theorem ok233:EntOk Tryz.prog 233 ft233:=EntOk.mk rfl (by kernel_rfl) (by kernel_rfl)
theorem ok234:EntOk Tryz.prog 234 ft234:=EntOk.mk rfl (by kernel_rfl) (by kernel_rfl)
theorem ok235:EntOk Tryz.prog 235 ft235:=EntOk.mk rfl (by kernel_rfl) (by kernel_rfl)
theorem ok236:EntOk Tryz.prog 236 ft236:=EntOk.mk rfl (by kernel_rfl) (by kernel_rfl)
theorem ok237:EntOk Tryz.prog 237 ft237:=EntOk.mk rfl (by kernel_rfl) (by kernel_rfl)
theorem ok238:EntOk Tryz.prog 238 ft238:=EntOk.mk rfl (by kernel_rfl) (by kernel_rfl)
theorem ok239:EntOk Tryz.prog 239 ft239:=EntOk.mk rfl (by kernel_rfl) (by kernel_rfl)
noncomputable def evT:Tr FT:=(.nd none (.nd none (.nd none (.nd none (.nd (some ft15) (.nd (some ft31) (.nd (some ft63) (.nd (some ft127) .nil .nil) (.nd (some ft191) .nil .nil)) (.nd (some ft95) (.nd (some ft159) .nil .nil) .nil)) (.nd none (.nd none (.nd (some ft143) .nil .nil) (.nd (some ft207) .nil .nil)) (.nd (some ft111) .nil (.nd (some ft239) .nil .nil)))) (.nd (some ft23) (.nd (some ft39) (.nd (some ft71) .nil (.nd (some ft199) .nil .nil)) (.nd (some ft103) (.nd (some ft167) .nil .nil) (.nd (some ft231) .nil .nil))) (.nd (some ft55) (.nd none (.nd (some ft151) .nil .nil) (.nd (some ft215) .nil .nil)) (.nd (some ft119) (.nd (some ft183) .nil .nil) .nil)))) (.nd (some ft11) (.nd (some ft19) (.nd none (.nd (some ft67) (.nd (some ft131) .nil .nil) (.nd (some ft195) .nil .nil)) (.nd (some ft99) (.nd (some ft163) .nil .nil) (.nd (some ft227) .nil .nil))) (.nd (some ft51) (.nd none (.nd (some ft147) .nil .nil) (.nd (some ft211) .nil .nil)) (.nd (some ft115) .nil .nil))) (.nd (some ft27) (.nd none (.nd (some ft75) .nil .nil) (.nd (some ft107) .nil (.nd (some ft235) .nil .nil))) (.nd (some ft59) (.nd none (.nd (some ft155) .nil .nil) (.nd (some ft219) .nil .nil)) (.nd (some ft123) (.nd (some ft187) .nil .nil) .nil))))) (.nd none (.nd none (.nd (some ft17) (.nd none (.nd (some ft65) (.nd (some ft129) .nil .nil) (.nd (some ft193) .nil .nil)) (.nd (some ft97) (.nd (some ft161) .nil .nil) (.nd (some ft225) .nil .nil))) (.nd none (.nd none (.nd (some ft145) .nil .nil) (.nd (some ft209) .nil .nil)) (.nd (some ft113) .nil .nil))) (.nd (some ft25) (.nd none (.nd (some ft73) .nil .nil) (.nd (some ft105) (.nd (some ft169) .nil .nil) (.nd (some ft233) .nil .nil))) (.nd (some ft57) (.nd none (.nd (some ft153) .nil .nil) (.nd (some ft217) .nil .nil)) (.nd (some ft121) (.nd (some ft185) .nil .nil) .nil)))) (.nd (some ft13) (.nd (some ft21) (.nd none (.nd none (.nd (some ft133) .nil .nil) (.nd (some ft197) .nil .nil)) (.nd (some ft101) (.nd (some ft165) .nil .nil) (.nd (some ft229) .nil .nil))) (.nd (some ft53) (.nd none (.nd (some ft149) .nil .nil) (.nd (some ft213) .nil .nil)) (.nd (some ft117) (.nd (some ft181) .nil .nil) .nil))) (.nd (some ft29) (.nd none (.nd none (.nd (some ft141) .nil .nil) .nil) (.nd (some ft109) .nil (.nd (some ft237) .nil .nil))) (.nd (some ft61) (.nd none (.nd (some ft157) .nil .nil) (.nd (some ft221) .nil .nil)) (.nd (some ft125) (.nd (some ft189) .nil .nil) .nil)))))) (.nd none (.nd (some ft4) (.nd none (.nd (some ft16) (.nd (some ft32) (.nd (some ft64) (.nd (some ft128) .nil .nil) (.nd (some ft192) .nil .nil)) (.nd (some ft96) (.nd (some ft160) .nil .nil) (.nd (some ft224) .nil .nil))) (.nd none (.nd (some ft80) (.nd (some ft144) .nil .nil) (.nd (some ft208) .nil .nil)) (.nd (some ft112) .nil .nil))) (.nd (some ft24) (.nd none (.nd (some ft72) .nil (.nd (some ft200) .nil .nil)) (.nd (some ft104) (.nd (some ft168) .nil .nil) (.nd (some ft232) .nil .nil))) (.nd (some ft56) (.nd none (.nd (some ft152) .nil .nil) (.nd (some ft216) .nil .nil)) (.nd (some ft120) (.nd (some ft184) .nil .nil) .nil)))) (.nd (some ft12) (.nd (some ft20) (.nd none (.nd (some ft68) .nil (.nd (some ft196) .nil .nil)) (.nd (some ft100) (.nd (some ft164) .nil .nil) (.nd (some ft228) .nil .nil))) (.nd none (.nd none (.nd (some ft148) .nil .nil) (.nd (some ft212) .nil .nil)) (.nd (some ft116) (.nd (some ft180) .nil .nil) .nil))) (.nd (some ft28) (.nd none (.nd (some ft76) .nil .nil) (.nd (some ft108) .nil (.nd (some ft236) .nil .nil))) (.nd (some ft60) (.nd none (.nd (some ft156) .nil .nil) (.nd (some ft220) .nil .nil)) (.nd (some ft124) (.nd (some ft188) .nil .nil) .nil))))) (.nd none (.nd (some ft10) (.nd (some ft18) (.nd none (.nd (some ft66) (.nd (some ft130) .nil .nil) (.nd (some ft194) .nil .nil)) (.nd (some ft98) (.nd (some ft162) .nil .nil) (.nd (some ft226) .nil .nil))) (.nd none (.nd none (.nd (some ft146) .nil .nil) (.nd (some ft210) .nil .nil)) (.nd (some ft114) .nil .nil))) (.nd (some ft26) (.nd none (.nd (some ft74) .nil .nil) (.nd (some ft106) (.nd (some ft170) .nil .nil) (.nd (some ft234) .nil .nil))) (.nd (some ft58) (.nd (some ft90) (.nd (some ft154) .nil .nil) (.nd (some ft218) .nil .nil)) (.nd (some ft122) (.nd (some ft186) .nil .nil) .nil)))) (.nd (some ft14) (.nd (some ft22) (.nd (some ft38) (.nd none (.nd (some ft134) .nil .nil) (.nd (some ft198) .nil .nil)) (.nd (some ft102) (.nd (some ft166) .nil .nil) (.nd (some ft230) .nil .nil))) (.nd (some ft54) (.nd none (.nd (some ft150) .nil .nil) (.nd (some ft214) .nil .nil)) (.nd (some ft118) (.nd (some ft182) .nil .nil) .nil))) (.nd (some ft30) (.nd none (.nd (some ft78) (.nd (some ft142) .nil .nil) (.nd (some ft206) .nil .nil)) (.nd (some ft110) .nil (.nd (some ft238) .nil .nil))) (.nd (some ft62) (.nd (some ft94) (.nd (some ft158) .nil .nil) (.nd (some ft222) .nil .nil)) (.nd (some ft126) (.nd (some ft190) .nil .nil) .nil)))))))
theorem evT_ok:TabOk Tryz.prog fun g=>evT.get g:=TabOk.of ⟨trivial,⟨trivial,⟨trivial,⟨trivial,⟨ok15,⟨ok31,⟨ok63,⟨ok127,trivial,trivial⟩,⟨ok191,trivial,trivial⟩⟩,⟨ok95,⟨ok159,trivial,trivial⟩,trivial⟩⟩,⟨trivial,⟨trivial,⟨ok143,trivial,trivial⟩,⟨ok207,trivial,trivial⟩⟩,⟨ok111,trivial,⟨ok239,trivial,trivial⟩⟩⟩⟩,⟨ok23,⟨ok39,⟨ok71,trivial,⟨ok199,trivial,trivial⟩⟩,⟨ok103,⟨ok167,trivial,trivial⟩,⟨ok231,trivial,trivial⟩⟩⟩,⟨ok55,⟨trivial,⟨ok151,trivial,trivial⟩,⟨ok215,trivial,trivial⟩⟩,⟨ok119,⟨ok183,trivial,trivial⟩,trivial⟩⟩⟩⟩,⟨ok11,⟨ok19,⟨trivial,⟨ok67,⟨ok131,trivial,trivial⟩,⟨ok195,trivial,trivial⟩⟩,⟨ok99,⟨ok163,trivial,trivial⟩,⟨ok227,trivial,trivial⟩⟩⟩,⟨ok51,⟨trivial,⟨ok147,trivial,trivial⟩,⟨ok211,trivial,trivial⟩⟩,⟨ok115,trivial,trivial⟩⟩⟩,⟨ok27,⟨trivial,⟨ok75,trivial,trivial⟩,⟨ok107,trivial,⟨ok235,trivial,trivial⟩⟩⟩,⟨ok59,⟨trivial,⟨ok155,trivial,trivial⟩,⟨ok219,trivial,trivial⟩⟩,⟨ok123,⟨ok187,trivial,trivial⟩,trivial⟩⟩⟩⟩⟩,⟨trivial,⟨trivial,⟨ok17,⟨trivial,⟨ok65,⟨ok129,trivial,trivial⟩,⟨ok193,trivial,trivial⟩⟩,⟨ok97,⟨ok161,trivial,trivial⟩,⟨ok225,trivial,trivial⟩⟩⟩,⟨trivial,⟨trivial,⟨ok145,trivial,trivial⟩,⟨ok209,trivial,trivial⟩⟩,⟨ok113,trivial,trivial⟩⟩⟩,⟨ok25,⟨trivial,⟨ok73,trivial,trivial⟩,⟨ok105,⟨ok169,trivial,trivial⟩,⟨ok233,trivial,trivial⟩⟩⟩,⟨ok57,⟨trivial,⟨ok153,trivial,trivial⟩,⟨ok217,trivial,trivial⟩⟩,⟨ok121,⟨ok185,trivial,trivial⟩,trivial⟩⟩⟩⟩,⟨ok13,⟨ok21,⟨trivial,⟨trivial,⟨ok133,trivial,trivial⟩,⟨ok197,trivial,trivial⟩⟩,⟨ok101,⟨ok165,trivial,trivial⟩,⟨ok229,trivial,trivial⟩⟩⟩,⟨ok53,⟨trivial,⟨ok149,trivial,trivial⟩,⟨ok213,trivial,trivial⟩⟩,⟨ok117,⟨ok181,trivial,trivial⟩,trivial⟩⟩⟩,⟨ok29,⟨trivial,⟨trivial,⟨ok141,trivial,trivial⟩,trivial⟩,⟨ok109,trivial,⟨ok237,trivial,trivial⟩⟩⟩,⟨ok61,⟨trivial,⟨ok157,trivial,trivial⟩,⟨ok221,trivial,trivial⟩⟩,⟨ok125,⟨ok189,trivial,trivial⟩,trivial⟩⟩⟩⟩⟩⟩,⟨trivial,⟨ok4,⟨trivial,⟨ok16,⟨ok32,⟨ok64,⟨ok128,trivial,trivial⟩,⟨ok192,trivial,trivial⟩⟩,⟨ok96,⟨ok160,trivial,trivial⟩,⟨ok224,trivial,trivial⟩⟩⟩,⟨trivial,⟨ok80,⟨ok144,trivial,trivial⟩,⟨ok208,trivial,trivial⟩⟩,⟨ok112,trivial,trivial⟩⟩⟩,⟨ok24,⟨trivial,⟨ok72,trivial,⟨ok200,trivial,trivial⟩⟩,⟨ok104,⟨ok168,trivial,trivial⟩,⟨ok232,trivial,trivial⟩⟩⟩,⟨ok56,⟨trivial,⟨ok152,trivial,trivial⟩,⟨ok216,trivial,trivial⟩⟩,⟨ok120,⟨ok184,trivial,trivial⟩,trivial⟩⟩⟩⟩,⟨ok12,⟨ok20,⟨trivial,⟨ok68,trivial,⟨ok196,trivial,trivial⟩⟩,⟨ok100,⟨ok164,trivial,trivial⟩,⟨ok228,trivial,trivial⟩⟩⟩,⟨trivial,⟨trivial,⟨ok148,trivial,trivial⟩,⟨ok212,trivial,trivial⟩⟩,⟨ok116,⟨ok180,trivial,trivial⟩,trivial⟩⟩⟩,⟨ok28,⟨trivial,⟨ok76,trivial,trivial⟩,⟨ok108,trivial,⟨ok236,trivial,trivial⟩⟩⟩,⟨ok60,⟨trivial,⟨ok156,trivial,trivial⟩,⟨ok220,trivial,trivial⟩⟩,⟨ok124,⟨ok188,trivial,trivial⟩,trivial⟩⟩⟩⟩⟩,⟨trivial,⟨ok10,⟨ok18,⟨trivial,⟨ok66,⟨ok130,trivial,trivial⟩,⟨ok194,trivial,trivial⟩⟩,⟨ok98,⟨ok162,trivial,trivial⟩,⟨ok226,trivial,trivial⟩⟩⟩,⟨trivial,⟨trivial,⟨ok146,trivial,trivial⟩,⟨ok210,trivial,trivial⟩⟩,⟨ok114,trivial,trivial⟩⟩⟩,⟨ok26,⟨trivial,⟨ok74,trivial,trivial⟩,⟨ok106,⟨ok170,trivial,trivial⟩,⟨ok234,trivial,trivial⟩⟩⟩,⟨ok58,⟨ok90,⟨ok154,trivial,trivial⟩,⟨ok218,trivial,trivial⟩⟩,⟨ok122,⟨ok186,trivial,trivial⟩,trivial⟩⟩⟩⟩,⟨ok14,⟨ok22,⟨ok38,⟨trivial,⟨ok134,trivial,trivial⟩,⟨ok198,trivial,trivial⟩⟩,⟨ok102,⟨ok166,trivial,trivial⟩,⟨ok230,trivial,trivial⟩⟩⟩,⟨ok54,⟨trivial,⟨ok150,trivial,trivial⟩,⟨ok214,trivial,trivial⟩⟩,⟨ok118,⟨ok182,trivial,trivial⟩,trivial⟩⟩⟩,⟨ok30,⟨trivial,⟨ok78,⟨ok142,trivial,trivial⟩,⟨ok206,trivial,trivial⟩⟩,⟨ok110,trivial,⟨ok238,trivial,trivial⟩⟩⟩,⟨ok62,⟨ok94,⟨ok158,trivial,trivial⟩,⟨ok222,trivial,trivial⟩⟩,⟨ok126,⟨ok190,trivial,trivial⟩,trivial⟩⟩⟩⟩⟩⟩⟩
end Go.Proofs
set_option maxRecDepth 100000
namespace Go.Proofs
open Go Go.HL
theorem wakes12:evB (evF Tryz.prog (fun g=>evT.get g) (fun _=>none) (fun _ _ _=>none) 100 12 [] ⟨0,.nil⟩) true=true:=by kernel_rfl
theorem C12 {hp:HP} {K:Value→HP→Prop} (h:K (.bool true) hp):CF Tryz.prog 12 [] hp K:=by
  have key:CF Tryz.prog 12 [] (fun _=>Ent.none) fun w _=>w=.bool true:=CF.evB evT_ok wakes12 (SR.empty _ _) (fun _ _ h=>by cases h)
  refine CF.drop (CF.loc (fun _=>.inl rfl) key fun v hq' hp' hv _ hfr=>?_)
  have:=hfr hp (HSub.refl _) (fun _=>.inl rfl)
  subst hv
  exact ⟨hp,this.1,h⟩
end Go.Proofs
set_option linter.unusedVariables false
set_option linter.unusedSimpArgs false
set_option maxRecDepth 20000
namespace Go.Proofs
open Go Go.HL
theorem C10nil {x:List Value} {hp:HP} {K:Value→HP→Prop} (h:K (.tuple ⟨[.int .i64 0,.int .i64 2]⟩) hp):CF Tryz.prog 10 [.pointer none,.agg ⟨x⟩] hp K:=by
  refine F10_ok none x hp K ?_
  unfold F10
  rw [show Option.isNone (none:Option Addr)=true from rfl,ite2_true]
  unfold F10_j1
  rw [ite2_true]
  exact h
theorem C11nil {x:List Value} {hp:HP} {K:Value→HP→Prop} (h:K (.bool false) hp):CF Tryz.prog 11 [.pointer none,.agg ⟨x⟩] hp K:=by
  refine F11_ok none x hp K ?_
  unfold F11
  rw [show Option.isNone (none:Option Addr)=true from rfl,ite2_true]
  unfold F11_j1
  rw [ite2_true]
  exact h
theorem C3 {x y:List Value} {hp:HP} {K:Value→HP→Prop} (hx:x.length=37) (hy:y.length=16) (h:K (.bool true) hp):CF Tryz.prog 3 [.agg ⟨x⟩,.agg ⟨y⟩] hp K:=by
  refine F3_ok x y hp K ?_
  unfold F3
  rw [cellsN_all hx,ldL_some]
  refine C10nil ?_
  rw [tup2V_mk,intV_int,intV_int]
  show ite2 true _ _
  rw [ite2_true]
  show ite2 true _ _
  rw [ite2_true,cellsN_all hy,ldL_some]
  refine C11nil ?_
  rw [boolV_bool]
  show ite2 true _ _
  rw [ite2_true]
  refine C12 ?_
  rw [boolV_bool]
  exact h
end Go.Proofs
namespace Go.Proofs.YtobechphfppffaaGreatDoor
open Go Go.HL Go.Proofs
set_option linter.unusedVariables false
def litV:Lit→Value
  | .int k n=>.int k n
  | .bool b=>.bool b
  | .string l=>.string ⟨⟨l⟩⟩
  | _=>.int .i64 0
def cells1:DataW Unit→List Value
  | .lit l=>[litV l]
  | _=>[]
def cells2:DataW Unit→List Value
  | .agg ps=>ps.flatMap fun d=>match d with | .agg qs=>qs.flatMap cells1 | d=>cells1 d
  | d=>cells1 d
def cellsLaid (t b:Nat):DataW Unit→Array Value
  | .iface _ (.ptr _)=>#[.iface t (.pointer (some ⟨b,0,none⟩))]
  | d=>⟨cells2 d⟩
def behindD:DataW Unit→Array Value
  | .iface _ (.ptr d)=>⟨cells2 d⟩
  | _=>#[]
def layAt (g t b:Nat) (d:DataW Unit) (h:Array Obj):Array Obj:=h.modify g fun | .cells _ t' fz=>.cells (cellsLaid t b d) t' fz | o=>o
noncomputable def laidWorld (os:Os) (I:Input):World:=
  { World.holding Tryz.prog os I with heap:=(Array.push (Array.push (layAt 2 0 0 Rows.laid_unicode_utf8_first (layAt 4 322 14 Rows.laid_strconv_ErrSyntax (layAt 5 322 13 Rows.laid_strconv_ErrRange (layAt 3 0 0 Rows.laid_unicode_utf8_acceptRanges (layAt 1 0 0 Rows.laid_internal_strconv_uint64pow10 (layAt 7 0 0 Rows.laid_math_bits_deBruijn64tab (layAt 6 0 0 Rows.laid_math_bits_deBruijn32tab (World.holding Tryz.prog os I).heap))))))) (Obj.cells (behindD Rows.laid_strconv_ErrRange) 324)) (Obj.cells (behindD Rows.laid_strconv_ErrSyntax) 324)) }
end Go.Proofs.YtobechphfppffaaGreatDoor
