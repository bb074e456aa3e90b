/- Parts of the proof of BibPlaysProof: the logic of what is known of memory, functions' contracts. -/
import Derived.Test.YtpkhoemonibajaaGreatDoorQBibPlaysProofC
import Derived.Test.YtpkhoemonibajaaGreatDoorHlCW
import Derived.Test.YtpkhoemonibajaaGreatDoorProg
import Derived.Test.YtpkhoemonibajaaGreatDoorHlApp
import Derived.Test.YtpkhoemonibajaaGreatDoorHlZ
set_option linter.unusedVariables false
set_option linter.unusedSimpArgs false
set_option linter.unusedVariables false
set_option maxRecDepth 20000
namespace Go.Proofs
open Go Go.HL
def F95_j4 (k8:List Value) (hp:HP) (K:Kh):Prop:=
  (if List.length [(Value.int .u8 0),(Value.int .u8 0),(Value.int .u8 0),(Value.int .u8 0),(Value.int .i64 0)]=5 then (if List.all [(Value.int .u8 0),(Value.int .u8 0),(Value.int .u8 0),(Value.int .u8 0),(Value.int .i64 0)] one=true then (if 0+List.length [(Value.int .u8 0),(Value.int .u8 0),(Value.int .u8 0),(Value.int .u8 0),(Value.int .i64 0)]≤List.length k8 then (ldL (cellsN (splice k8 0 [(Value.int .u8 0),(Value.int .u8 0),(Value.int .u8 0),(Value.int .u8 0),(Value.int .i64 0)]) 0 5) fun l_3=>(K (.tuple ⟨[(.agg ⟨l_3⟩),(Value.int .i64 6)]⟩) hp)) else False) else False) else False)
def F95_j7 (x0:OA) (x2:Int) (x3:Bool) (x10a:OA) (x10n x10c:Nat) (x12:Int) (k8:List Value) (hp:HP) (I6:(Int × (List Value))→HP→Prop) (K:Value→HP→Prop):Prop:=
  (I6 ((IntKind.wrap .i64 (x12+1)),k8) hp)
def F95_j11 (k8 k14:List Value) (hp:HP) (I6:(Int × (List Value))→HP→Prop) (I9:(Int × (List Value))→HP→Prop) (K:Value→HP→Prop):Prop:=
  (ldL (cellsN k14 0 5) fun l_11=>(if List.length l_11=5 then (if List.all l_11 one=true then (if 0+List.length l_11≤List.length k8 then (ldL (cellsN (splice k8 0 l_11) 0 5) fun l_12=>(K (.tuple ⟨[(.agg ⟨l_12⟩),(Value.int .i64 0)]⟩) hp)) else False) else False) else False))
def F95_j10 (x0:OA) (x2:Int) (x3:Bool) (x10a:OA) (x10n x10c:Nat) (x12 x13:Int) (x93:Bool) (k8 k14:List Value) (hp:HP) (I6:(Int × (List Value))→HP→Prop) (I9:(Int × (List Value))→HP→Prop) (K:Value→HP→Prop):Prop:=
  (ite2 x93 ((∀ b_13:Nat,hp b_13=.none→(ptrN x0 fun b_14 o_15=>(ldV (HP.cell (HP.set hp b_13 (.cells 186 [] 0)) b_14 (o_15+3)) fun v_16=>(slcV v_16 fun a_17 n_18 c_19=>(opS Tryz.prog (Builtin.append_ #[115,115] 115 ⟨[(Value.slice (some ⟨b_13,0,none⟩) 0 0),(Value.slice a_17 n_18 c_19)]⟩) (HP.set hp b_13 (.cells 186 [] 0)) fun u_20 h_21=>(slcV u_20 fun a_22 n_23 c_24=>(ldL (cellsN k14 0 5) fun l_25=>(if List.length l_25=5 then (if List.length (List.set (splice [(Value.int .u8 0),(Value.int .u8 0),(Value.int .u8 0),(Value.int .u8 0),(Value.int .i64 0),(Value.bool false)] 0 l_25) 5 (Value.bool false))=6 then (∀ b_26:Nat,h_21 b_26=.none→(opS Tryz.prog (Builtin.append_ #[115,115] 115 ⟨[(Value.slice a_22 n_23 c_24),(Value.slice (some ⟨b_26,0,none⟩) 1 1)]⟩) (HP.set h_21 b_26 (.cells 186 (splice [(Value.int .u8 0),(Value.int .u8 0),(Value.int .u8 0),(Value.int .u8 0),(Value.int .i64 0),(Value.bool false)] 0 (List.set (splice [(Value.int .u8 0),(Value.int .u8 0),(Value.int .u8 0),(Value.int .u8 0),(Value.int .i64 0),(Value.bool false)] 0 l_25) 5 (Value.bool false))) 0)) fun u_27 h_28=>(slcV u_27 fun a_29 n_30 c_31=>(ptrN x0 fun b_32 o_33=>(HP.st h_28 b_32 (o_33+3) (Value.slice a_29 n_30 c_31) fun h_34=>(F95_j11 k8 k14 h_34 I6 I9 K)))))) else False) else False))))))))∧(∀ b_35:Nat,hp b_35=.none→(ptrN x0 fun b_36 o_37=>(ldV (HP.cell (HP.set hp b_35 (.cells 186 [] 0)) b_36 (o_37+3)) fun v_38=>(slcV v_38 fun a_39 n_40 c_41=>(ldL (cellsN k14 0 5) fun l_42=>(if List.length l_42=5 then (if List.length (List.set (splice [(Value.int .u8 0),(Value.int .u8 0),(Value.int .u8 0),(Value.int .u8 0),(Value.int .i64 0),(Value.bool false)] 0 l_42) 5 (Value.bool false))=6 then (∀ b_43:Nat,(HP.set hp b_35 (.cells 186 [] 0)) b_43=.none→(opS Tryz.prog (Builtin.append_ #[115,115] 115 ⟨[(Value.slice (some ⟨b_35,0,none⟩) 0 0),(Value.slice a_39 n_40 c_41)]⟩) (HP.set (HP.set hp b_35 (.cells 186 [] 0)) b_43 (.cells 186 (splice [(Value.int .u8 0),(Value.int .u8 0),(Value.int .u8 0),(Value.int .u8 0),(Value.int .i64 0),(Value.bool false)] 0 (List.set (splice [(Value.int .u8 0),(Value.int .u8 0),(Value.int .u8 0),(Value.int .u8 0),(Value.int .i64 0),(Value.bool false)] 0 l_42) 5 (Value.bool false))) 0)) fun u_44 h_45=>(slcV u_44 fun a_46 n_47 c_48=>(opS Tryz.prog (Builtin.append_ #[115,115] 115 ⟨[(Value.slice a_46 n_47 c_48),(Value.slice (some ⟨b_43,0,none⟩) 1 1)]⟩) h_45 fun u_49 h_50=>(slcV u_49 fun a_51 n_52 c_53=>(ptrN x0 fun b_54 o_55=>(HP.st h_50 b_54 (o_55+3) (Value.slice a_51 n_52 c_53) fun h_56=>(F95_j11 k8 k14 h_56 I6 I9 K)))))))) else False) else False))))))∧(∀ b_57:Nat,hp b_57=.none→(ptrN x0 fun b_58 o_59=>(ldL (cellsN k14 0 5) fun l_60=>(if List.length l_60=5 then (if List.length (List.set (splice [(Value.int .u8 0),(Value.int .u8 0),(Value.int .u8 0),(Value.int .u8 0),(Value.int .i64 0),(Value.bool false)] 0 l_60) 5 (Value.bool false))=6 then (∀ b_61:Nat,(HP.set hp b_57 (.cells 186 [] 0)) b_61=.none→(ldV (HP.cell (HP.set (HP.set hp b_57 (.cells 186 [] 0)) b_61 (.cells 186 (splice [(Value.int .u8 0),(Value.int .u8 0),(Value.int .u8 0),(Value.int .u8 0),(Value.int .i64 0),(Value.bool false)] 0 (List.set (splice [(Value.int .u8 0),(Value.int .u8 0),(Value.int .u8 0),(Value.int .u8 0),(Value.int .i64 0),(Value.bool false)] 0 l_60) 5 (Value.bool false))) 0)) b_58 (o_59+3)) fun v_62=>(slcV v_62 fun a_63 n_64 c_65=>(opS Tryz.prog (Builtin.append_ #[115,115] 115 ⟨[(Value.slice (some ⟨b_57,0,none⟩) 0 0),(Value.slice a_63 n_64 c_65)]⟩) (HP.set (HP.set hp b_57 (.cells 186 [] 0)) b_61 (.cells 186 (splice [(Value.int .u8 0),(Value.int .u8 0),(Value.int .u8 0),(Value.int .u8 0),(Value.int .i64 0),(Value.bool false)] 0 (List.set (splice [(Value.int .u8 0),(Value.int .u8 0),(Value.int .u8 0),(Value.int .u8 0),(Value.int .i64 0),(Value.bool false)] 0 l_60) 5 (Value.bool false))) 0)) fun u_66 h_67=>(slcV u_66 fun a_68 n_69 c_70=>(opS Tryz.prog (Builtin.append_ #[115,115] 115 ⟨[(Value.slice a_68 n_69 c_70),(Value.slice (some ⟨b_61,0,none⟩) 1 1)]⟩) h_67 fun u_71 h_72=>(slcV u_71 fun a_73 n_74 c_75=>(ptrN x0 fun b_76 o_77=>(HP.st h_72 b_76 (o_77+3) (Value.slice a_73 n_74 c_75) fun h_78=>(F95_j11 k8 k14 h_78 I6 I9 K)))))))))) else False) else False))))∧(ptrN x0 fun b_79 o_80=>(ldL (cellsN k14 0 5) fun l_81=>(if List.length l_81=5 then (if List.length (List.set (splice [(Value.int .u8 0),(Value.int .u8 0),(Value.int .u8 0),(Value.int .u8 0),(Value.int .i64 0),(Value.bool false)] 0 l_81) 5 (Value.bool false))=6 then (∀ b_82:Nat,hp b_82=.none→(∀ b_83:Nat,(HP.set hp b_82 (.cells 186 (splice [(Value.int .u8 0),(Value.int .u8 0),(Value.int .u8 0),(Value.int .u8 0),(Value.int .i64 0),(Value.bool false)] 0 (List.set (splice [(Value.int .u8 0),(Value.int .u8 0),(Value.int .u8 0),(Value.int .u8 0),(Value.int .i64 0),(Value.bool false)] 0 l_81) 5 (Value.bool false))) 0)) b_83=.none→(ldV (HP.cell (HP.set (HP.set hp b_82 (.cells 186 (splice [(Value.int .u8 0),(Value.int .u8 0),(Value.int .u8 0),(Value.int .u8 0),(Value.int .i64 0),(Value.bool false)] 0 (List.set (splice [(Value.int .u8 0),(Value.int .u8 0),(Value.int .u8 0),(Value.int .u8 0),(Value.int .i64 0),(Value.bool false)] 0 l_81) 5 (Value.bool false))) 0)) b_83 (.cells 186 [] 0)) b_79 (o_80+3)) fun v_84=>(slcV v_84 fun a_85 n_86 c_87=>(opS Tryz.prog (Builtin.append_ #[115,115] 115 ⟨[(Value.slice (some ⟨b_83,0,none⟩) 0 0),(Value.slice a_85 n_86 c_87)]⟩) (HP.set (HP.set hp b_82 (.cells 186 (splice [(Value.int .u8 0),(Value.int .u8 0),(Value.int .u8 0),(Value.int .u8 0),(Value.int .i64 0),(Value.bool false)] 0 (List.set (splice [(Value.int .u8 0),(Value.int .u8 0),(Value.int .u8 0),(Value.int .u8 0),(Value.int .i64 0),(Value.bool false)] 0 l_81) 5 (Value.bool false))) 0)) b_83 (.cells 186 [] 0)) fun u_88 h_89=>(slcV u_88 fun a_90 n_91 c_92=>(opS Tryz.prog (Builtin.append_ #[115,115] 115 ⟨[(Value.slice a_90 n_91 c_92),(Value.slice (some ⟨b_82,0,none⟩) 1 1)]⟩) h_89 fun u_93 h_94=>(slcV u_93 fun a_95 n_96 c_97=>(ptrN x0 fun b_98 o_99=>(HP.st h_94 b_98 (o_99+3) (Value.slice a_95 n_96 c_97) fun h_100=>(F95_j11 k8 k14 h_100 I6 I9 K))))))))))) else False) else False)))∧(ptrN x0 fun b_101 o_102=>(ldV (HP.cell hp b_101 (o_102+3)) fun v_103=>(slcV v_103 fun a_104 n_105 c_106=>(∀ b_107:Nat,hp b_107=.none→(opS Tryz.prog (Builtin.append_ #[115,115] 115 ⟨[(Value.slice (some ⟨b_107,0,none⟩) 0 0),(Value.slice a_104 n_105 c_106)]⟩) (HP.set hp b_107 (.cells 186 [] 0)) fun u_108 h_109=>(slcV u_108 fun a_110 n_111 c_112=>(ldL (cellsN k14 0 5) fun l_113=>(if List.length l_113=5 then (if List.length (List.set (splice [(Value.int .u8 0),(Value.int .u8 0),(Value.int .u8 0),(Value.int .u8 0),(Value.int .i64 0),(Value.bool false)] 0 l_113) 5 (Value.bool false))=6 then (∀ b_114:Nat,h_109 b_114=.none→(opS Tryz.prog (Builtin.append_ #[115,115] 115 ⟨[(Value.slice a_110 n_111 c_112),(Value.slice (some ⟨b_114,0,none⟩) 1 1)]⟩) (HP.set h_109 b_114 (.cells 186 (splice [(Value.int .u8 0),(Value.int .u8 0),(Value.int .u8 0),(Value.int .u8 0),(Value.int .i64 0),(Value.bool false)] 0 (List.set (splice [(Value.int .u8 0),(Value.int .u8 0),(Value.int .u8 0),(Value.int .u8 0),(Value.int .i64 0),(Value.bool false)] 0 l_113) 5 (Value.bool false))) 0)) fun u_115 h_116=>(slcV u_115 fun a_117 n_118 c_119=>(ptrN x0 fun b_120 o_121=>(HP.st h_116 b_120 (o_121+3) (Value.slice a_117 n_118 c_119) fun h_122=>(F95_j11 k8 k14 h_122 I6 I9 K)))))) else False) else False))))))))∧(ptrN x0 fun b_123 o_124=>(ldV (HP.cell hp b_123 (o_124+3)) fun v_125=>(slcV v_125 fun a_126 n_127 c_128=>(∀ b_129:Nat,hp b_129=.none→(ldL (cellsN k14 0 5) fun l_130=>(if List.length l_130=5 then (if List.length (List.set (splice [(Value.int .u8 0),(Value.int .u8 0),(Value.int .u8 0),(Value.int .u8 0),(Value.int .i64 0),(Value.bool false)] 0 l_130) 5 (Value.bool false))=6 then (∀ b_131:Nat,(HP.set hp b_129 (.cells 186 [] 0)) b_131=.none→(opS Tryz.prog (Builtin.append_ #[115,115] 115 ⟨[(Value.slice (some ⟨b_129,0,none⟩) 0 0),(Value.slice a_126 n_127 c_128)]⟩) (HP.set (HP.set hp b_129 (.cells 186 [] 0)) b_131 (.cells 186 (splice [(Value.int .u8 0),(Value.int .u8 0),(Value.int .u8 0),(Value.int .u8 0),(Value.int .i64 0),(Value.bool false)] 0 (List.set (splice [(Value.int .u8 0),(Value.int .u8 0),(Value.int .u8 0),(Value.int .u8 0),(Value.int .i64 0),(Value.bool false)] 0 l_130) 5 (Value.bool false))) 0)) fun u_132 h_133=>(slcV u_132 fun a_134 n_135 c_136=>(opS Tryz.prog (Builtin.append_ #[115,115] 115 ⟨[(Value.slice a_134 n_135 c_136),(Value.slice (some ⟨b_131,0,none⟩) 1 1)]⟩) h_133 fun u_137 h_138=>(slcV u_137 fun a_139 n_140 c_141=>(ptrN x0 fun b_142 o_143=>(HP.st h_138 b_142 (o_143+3) (Value.slice a_139 n_140 c_141) fun h_144=>(F95_j11 k8 k14 h_144 I6 I9 K)))))))) else False) else False))))))∧(ptrN x0 fun b_145 o_146=>(ldV (HP.cell hp b_145 (o_146+3)) fun v_147=>(slcV v_147 fun a_148 n_149 c_150=>(ldL (cellsN k14 0 5) fun l_151=>(if List.length l_151=5 then (if List.length (List.set (splice [(Value.int .u8 0),(Value.int .u8 0),(Value.int .u8 0),(Value.int .u8 0),(Value.int .i64 0),(Value.bool false)] 0 l_151) 5 (Value.bool false))=6 then (∀ b_152:Nat,hp b_152=.none→(∀ b_153:Nat,(HP.set hp b_152 (.cells 186 (splice [(Value.int .u8 0),(Value.int .u8 0),(Value.int .u8 0),(Value.int .u8 0),(Value.int .i64 0),(Value.bool false)] 0 (List.set (splice [(Value.int .u8 0),(Value.int .u8 0),(Value.int .u8 0),(Value.int .u8 0),(Value.int .i64 0),(Value.bool false)] 0 l_151) 5 (Value.bool false))) 0)) b_153=.none→(opS Tryz.prog (Builtin.append_ #[115,115] 115 ⟨[(Value.slice (some ⟨b_153,0,none⟩) 0 0),(Value.slice a_148 n_149 c_150)]⟩) (HP.set (HP.set hp b_152 (.cells 186 (splice [(Value.int .u8 0),(Value.int .u8 0),(Value.int .u8 0),(Value.int .u8 0),(Value.int .i64 0),(Value.bool false)] 0 (List.set (splice [(Value.int .u8 0),(Value.int .u8 0),(Value.int .u8 0),(Value.int .u8 0),(Value.int .i64 0),(Value.bool false)] 0 l_151) 5 (Value.bool false))) 0)) b_153 (.cells 186 [] 0)) fun u_154 h_155=>(slcV u_154 fun a_156 n_157 c_158=>(opS Tryz.prog (Builtin.append_ #[115,115] 115 ⟨[(Value.slice a_156 n_157 c_158),(Value.slice (some ⟨b_152,0,none⟩) 1 1)]⟩) h_155 fun u_159 h_160=>(slcV u_159 fun a_161 n_162 c_163=>(ptrN x0 fun b_164 o_165=>(HP.st h_160 b_164 (o_165+3) (Value.slice a_161 n_162 c_163) fun h_166=>(F95_j11 k8 k14 h_166 I6 I9 K))))))))) else False) else False)))))∧(ptrN x0 fun b_167 o_168=>(ldL (cellsN k14 0 5) fun l_169=>(if List.length l_169=5 then (if List.length (List.set (splice [(Value.int .u8 0),(Value.int .u8 0),(Value.int .u8 0),(Value.int .u8 0),(Value.int .i64 0),(Value.bool false)] 0 l_169) 5 (Value.bool false))=6 then (∀ b_170:Nat,hp b_170=.none→(ldV (HP.cell (HP.set hp b_170 (.cells 186 (splice [(Value.int .u8 0),(Value.int .u8 0),(Value.int .u8 0),(Value.int .u8 0),(Value.int .i64 0),(Value.bool false)] 0 (List.set (splice [(Value.int .u8 0),(Value.int .u8 0),(Value.int .u8 0),(Value.int .u8 0),(Value.int .i64 0),(Value.bool false)] 0 l_169) 5 (Value.bool false))) 0)) b_167 (o_168+3)) fun v_171=>(slcV v_171 fun a_172 n_173 c_174=>(∀ b_175:Nat,(HP.set hp b_170 (.cells 186 (splice [(Value.int .u8 0),(Value.int .u8 0),(Value.int .u8 0),(Value.int .u8 0),(Value.int .i64 0),(Value.bool false)] 0 (List.set (splice [(Value.int .u8 0),(Value.int .u8 0),(Value.int .u8 0),(Value.int .u8 0),(Value.int .i64 0),(Value.bool false)] 0 l_169) 5 (Value.bool false))) 0)) b_175=.none→(opS Tryz.prog (Builtin.append_ #[115,115] 115 ⟨[(Value.slice (some ⟨b_175,0,none⟩) 0 0),(Value.slice a_172 n_173 c_174)]⟩) (HP.set (HP.set hp b_170 (.cells 186 (splice [(Value.int .u8 0),(Value.int .u8 0),(Value.int .u8 0),(Value.int .u8 0),(Value.int .i64 0),(Value.bool false)] 0 (List.set (splice [(Value.int .u8 0),(Value.int .u8 0),(Value.int .u8 0),(Value.int .u8 0),(Value.int .i64 0),(Value.bool false)] 0 l_169) 5 (Value.bool false))) 0)) b_175 (.cells 186 [] 0)) fun u_176 h_177=>(slcV u_176 fun a_178 n_179 c_180=>(opS Tryz.prog (Builtin.append_ #[115,115] 115 ⟨[(Value.slice a_178 n_179 c_180),(Value.slice (some ⟨b_170,0,none⟩) 1 1)]⟩) h_177 fun u_181 h_182=>(slcV u_181 fun a_183 n_184 c_185=>(ptrN x0 fun b_186 o_187=>(HP.st h_182 b_186 (o_187+3) (Value.slice a_183 n_184 c_185) fun h_188=>(F95_j11 k8 k14 h_188 I6 I9 K))))))))))) else False) else False)))) (I9 ((IntKind.wrap .i64 (x13+1)),k8) hp))
def F95_l9 (x0:OA) (x2:Int) (x3:Bool) (x10a:OA) (x10n x10c:Nat) (x12:Int) (I6:(Int × (List Value))→HP→Prop) (K:Value→HP→Prop) (I9:(Int × (List Value))→HP→Prop) (x13:Int) (k8:List Value) (hp:HP):Prop:=
  (ptrN x0 fun b_4 o_5=>(ldV (HP.cell hp b_4 (o_5+2)) fun v_6=>(intV v_6 .i64 fun i_7=>(ite2 (decide ((x13:Int)≤i_7)) ((0≤(x12:Int))∧((x12:Int)<(x10n:Nat))∧(ptrN x10a fun b_8 o_9=>(ldL (HP.cellN hp b_8 (o_9+Int.toNat x12*4) 4) fun l_10=>(if List.length l_10=4 then (if List.length (List.set (splice [(Value.int .u8 0),(Value.int .u8 0),(Value.int .u8 0),(Value.int .u8 0),(Value.int .i64 0)] 0 l_10) 4 (Value.int .i64 x13))=5 then (if List.all (List.set (splice [(Value.int .u8 0),(Value.int .u8 0),(Value.int .u8 0),(Value.int .u8 0),(Value.int .i64 0)] 0 l_10) 4 (Value.int .i64 x13)) one=true then (if 0+List.length (List.set (splice [(Value.int .u8 0),(Value.int .u8 0),(Value.int .u8 0),(Value.int .u8 0),(Value.int .i64 0)] 0 l_10) 4 (Value.int .i64 x13))≤List.length [(Value.int .u8 0),(Value.int .u8 0),(Value.int .u8 0),(Value.int .u8 0),(Value.int .i64 0)] then (ite2 x3 (ldL (cellsN (splice [(Value.int .u8 0),(Value.int .u8 0),(Value.int .u8 0),(Value.int .u8 0),(Value.int .i64 0)] 0 (List.set (splice [(Value.int .u8 0),(Value.int .u8 0),(Value.int .u8 0),(Value.int .u8 0),(Value.int .i64 0)] 0 l_10) 4 (Value.int .i64 x13))) 0 5) fun l_189=>(CF Tryz.prog 134 [(Value.pointer x0),(Value.agg ⟨l_189⟩)] hp fun u_190 h_191=>(intV u_190 .i64 fun i_192=>(F95_j10 x0 x2 x3 x10a x10n x10c x12 x13 (decide ((i_192:Int)<0)) k8 (splice [(Value.int .u8 0),(Value.int .u8 0),(Value.int .u8 0),(Value.int .u8 0),(Value.int .i64 0)] 0 (List.set (splice [(Value.int .u8 0),(Value.int .u8 0),(Value.int .u8 0),(Value.int .u8 0),(Value.int .i64 0)] 0 l_10) 4 (Value.int .i64 x13))) h_191 I6 I9 K)))) (CF Tryz.prog 133 [(Value.int .i64 x2),(Value.int .i64 x13)] hp fun u_193 h_194=>(boolV u_193 fun q_195=>(ite2 q_195 (ldL (cellsN (splice [(Value.int .u8 0),(Value.int .u8 0),(Value.int .u8 0),(Value.int .u8 0),(Value.int .i64 0)] 0 (List.set (splice [(Value.int .u8 0),(Value.int .u8 0),(Value.int .u8 0),(Value.int .u8 0),(Value.int .i64 0)] 0 l_10) 4 (Value.int .i64 x13))) 0 5) fun l_196=>(CF Tryz.prog 134 [(Value.pointer x0),(Value.agg ⟨l_196⟩)] h_194 fun u_197 h_198=>(intV u_197 .i64 fun i_199=>(F95_j10 x0 x2 x3 x10a x10n x10c x12 x13 (decide ((i_199:Int)<0)) k8 (splice [(Value.int .u8 0),(Value.int .u8 0),(Value.int .u8 0),(Value.int .u8 0),(Value.int .i64 0)] 0 (List.set (splice [(Value.int .u8 0),(Value.int .u8 0),(Value.int .u8 0),(Value.int .u8 0),(Value.int .i64 0)] 0 l_10) 4 (Value.int .i64 x13))) h_198 I6 I9 K)))) (F95_j10 x0 x2 x3 x10a x10n x10c x12 x13 false k8 (splice [(Value.int .u8 0),(Value.int .u8 0),(Value.int .u8 0),(Value.int .u8 0),(Value.int .i64 0)] 0 (List.set (splice [(Value.int .u8 0),(Value.int .u8 0),(Value.int .u8 0),(Value.int .u8 0),(Value.int .i64 0)] 0 l_10) 4 (Value.int .i64 x13))) h_194 I6 I9 K))))) else False) else False) else False) else False)))) (F95_j7 x0 x2 x3 x10a x10n x10c x12 k8 hp I6 K)))))
def F95_j8 (x0:OA) (x2:Int) (x3:Bool) (x10a:OA) (x10n x10c:Nat) (x12 x13:Int) (k8:List Value) (hp:HP) (I6:(Int × (List Value))→HP→Prop) (K:Value→HP→Prop):Prop:=
  (LoopP (σ:=Int × (List Value)) (fun I s hp=>F95_l9 x0 x2 x3 x10a x10n x10c x12 I6 K I s.1 s.2 hp) (x13,k8) hp)
def F95_l6 (x0:OA) (x2:Int) (x3:Bool) (x10a:OA) (x10n x10c:Nat) (K:Kh) (I6:(Int × (List Value))→HP→Prop) (x12:Int) (k8:List Value) (hp:HP):Prop:=
  (ite2 (decide ((x12:Int)<(x10n:Nat))) (ptrN x0 fun b_200 o_201=>(ldV (HP.cell hp b_200 (o_201+1)) fun v_202=>(intV v_202 .i64 fun i_203=>(F95_j8 x0 x2 x3 x10a x10n x10c x12 i_203 k8 hp I6 K)))) (F95_j4 k8 hp  K))
def F95_j5 (x0:OA) (x2:Int) (x3:Bool) (x10a:OA) (x10n x10c:Nat) (x12:Int) (k8:List Value) (hp:HP) (K:Kh):Prop:=
  (LoopP (σ:=Int × (List Value)) (fun I s hp=>F95_l6 x0 x2 x3 x10a x10n x10c  K I s.1 s.2 hp) (x12,k8) hp)
def F95_j3 (x0:OA) (x2:Int) (x3:Bool) (x10a:OA) (x10n x10c:Nat) (k8:List Value) (hp:HP) (K:Kh):Prop:=
  (F95_j5 x0 x2 x3 x10a x10n x10c 0 k8 hp  K)
def F95_j14 (x0:OA) (x2:Int) (x3:Bool) (x10a:OA) (x10n x10c:Nat) (x11:Int) (k5 k8:List Value) (hp:HP) (I13:((Option Addr) × Nat × Nat × Int)→HP→Prop) (K:Value→HP→Prop):Prop:=
  (I13 (x10a,x10n,x10c,(IntKind.wrap .i64 (x11+1))) hp)
def F95_l13 (x0:OA) (x2:Int) (x3:Bool) (k5 k8:List Value) (K:Kh) (I13:((Option Addr) × Nat × Nat × Int)→HP→Prop) (x10a:Option Addr) (x10n:Nat) (x10c:Nat) (x11:Int) (hp:HP):Prop:=
  (ptrN x0 fun b_204 o_205=>(ldV (HP.cell hp b_204 (o_205+0)) fun v_206=>(slcV v_206 fun a_207 n_208 c_209=>(ite2 (decide ((x11:Int)<(n_208:Nat))) (ptrN x0 fun b_210 o_211=>(ldV (HP.cell hp b_210 (o_211+0)) fun v_212=>(slcV v_212 fun a_213 n_214 c_215=>((0≤(x11:Int))∧((x11:Int)<(n_214:Nat))∧(ptrN a_213 fun b_216 o_217=>(ldL (HP.cellN hp b_216 (o_217+Int.toNat x11*4) 4) fun l_218=>(ldL (cellsN k5 0 4) fun l_219=>(eqAgg Tryz.prog 54 l_218 l_219 fun q_220=>(ite2 (!q_220) (ptrN x0 fun b_221 o_222=>(ldV (HP.cell hp b_221 (o_222+0)) fun v_223=>(slcV v_223 fun a_224 n_225 c_226=>((0≤(x11:Int))∧((x11:Int)<(n_225:Nat))∧(ptrN a_224 fun b_227 o_228=>(ldL (HP.cellN hp b_227 (o_228+Int.toNat x11*4) 4) fun l_229=>(if List.length l_229=4 then (∀ b_230:Nat,hp b_230=.none→(opS Tryz.prog (Builtin.append_ #[40,40] 40 ⟨[(Value.slice x10a x10n x10c),(Value.slice (some ⟨b_230,0,none⟩) 1 1)]⟩) (HP.set hp b_230 (.cells 54 (splice [(Value.int .u8 0),(Value.int .u8 0),(Value.int .u8 0),(Value.int .u8 0)] 0 l_229) 0)) fun u_231 h_232=>(slcV u_231 fun a_233 n_234 c_235=>(F95_j14 x0 x2 x3 a_233 n_234 c_235 x11 k5 k8 h_232 I13 K)))) else False))))))) (F95_j14 x0 x2 x3 x10a x10n x10c x11 k5 k8 hp I13 K)))))))))) (F95_j3 x0 x2 x3 x10a x10n x10c k8 hp  K)))))
def F95_j12 (x0:OA) (x2:Int) (x3:Bool) (x10a:OA) (x10n x10c:Nat) (x11:Int) (k5 k8:List Value) (hp:HP) (K:Kh):Prop:=
  (LoopP (σ:=(Option Addr) × Nat × Nat × Int) (fun I s hp=>F95_l13 x0 x2 x3 k5 k8  K I s.1 s.2.1 s.2.2.1 s.2.2.2 hp) (x10a,x10n,x10c,x11) hp)
def F95_j2 (x0:OA) (x2:Int) (x3:Bool) (x10a:OA) (x10n x10c:Nat) (k5 k8:List Value) (hp:HP) (K:Kh):Prop:=
  (F95_j12 x0 x2 x3 x10a x10n x10c 0 k5 k8 hp  K)
def F95_j1 (x0:OA) (x2:Int) (x3 x20:Bool) (k5 k8:List Value) (hp:HP) (K:Kh):Prop:=
  (ite2 x20 (if List.length [(Value.int .u8 0),(Value.int .u8 0),(Value.int .u8 0),(Value.int .u8 0),(Value.int .i64 0)]=5 then (if List.all [(Value.int .u8 0),(Value.int .u8 0),(Value.int .u8 0),(Value.int .u8 0),(Value.int .i64 0)] one=true then (if 0+List.length [(Value.int .u8 0),(Value.int .u8 0),(Value.int .u8 0),(Value.int .u8 0),(Value.int .i64 0)]≤List.length k8 then (ldL (cellsN (splice k8 0 [(Value.int .u8 0),(Value.int .u8 0),(Value.int .u8 0),(Value.int .u8 0),(Value.int .i64 0)]) 0 5) fun l_1=>(K (.tuple ⟨[(.agg ⟨l_1⟩),(Value.int .i64 1)]⟩) hp)) else False) else False) else False) (∀ b_2:Nat,hp b_2=.none→(ldL (cellsN k5 0 4) fun l_236=>(CF Tryz.prog 104 [(Value.pointer x0),(Value.agg ⟨l_236⟩)] (HP.set hp b_2 (.cells 54 [] 0)) fun u_237 h_238=>(boolV u_237 fun q_239=>(ite2 q_239 (ldL (cellsN k5 0 4) fun l_240=>(if List.length l_240=4 then (∀ b_241:Nat,h_238 b_241=.none→(opS Tryz.prog (Builtin.append_ #[40,40] 40 ⟨[(Value.slice (some ⟨b_2,0,none⟩) 0 0),(Value.slice (some ⟨b_241,0,none⟩) 1 1)]⟩) (HP.set h_238 b_241 (.cells 54 (splice [(Value.int .u8 0),(Value.int .u8 0),(Value.int .u8 0),(Value.int .u8 0)] 0 l_240) 0)) fun u_242 h_243=>(slcV u_242 fun a_244 n_245 c_246=>(F95_j2 x0 x2 x3 a_244 n_245 c_246 k5 k8 h_243  K)))) else False)) (F95_j2 x0 x2 x3 (some ⟨b_2,0,none⟩) 0 0 k5 k8 h_238  K)))))))
def F95 (x0:OA) (x1:List Value) (x2:Int) (x3:Bool) (hp:HP) (K:Kh):Prop:=
  (ite2 (decide ((x2:Int)<0)) (F95_j1 x0 x2 x3 true x1 [(Value.int .u8 0),(Value.int .u8 0),(Value.int .u8 0),(Value.int .u8 0),(Value.int .i64 0)] hp  K) (F95_j1 x0 x2 x3 (decide ((x2:Int) > 65535)) x1 [(Value.int .u8 0),(Value.int .u8 0),(Value.int .u8 0),(Value.int .u8 0),(Value.int .i64 0)] hp  K))
theorem F95_ok (x0:OA) (x1:List Value) (x2:Int) (x3:Bool) (hp:HP) (K:Kh) (h:F95 x0 x1 x2 x3 hp K):CF Tryz.prog 95 [(Value.pointer x0),(Value.agg ⟨x1⟩),(Value.int .i64 x2),(Value.bool x3)] hp K:=
  have L:∀ {Q} n,Snd Tryz.prog 109 (cAt Tryz.f95 (pth n)) Q (CW Tryz.prog 109 [5,8,14] [(19,[(1,5),(1,9),(5,9),(6,9)],[([true,true,false,true],false,[5,6,9,5]),([true,false,true,true],false,[1,5,9,1]),([true,false,true,false],false,[1,5,9,1]),([true,false,false,true],false,[1,6,9,1]),([false,true,false,true],false,[1,9,5,1]),([false,true,false,false],false,[1,9,5,1]),([false,false,true,true],false,[1,6,9,1]),([false,false,false,true],false,[1,6,9,5,1]),([true,true,true,true],true,[0,1,2,3,4,5,6,7,8,9,10,11,12,13]),([true,true,true,false],true,[0,1,2,3,4,5,7,8,9,6,10,11,12,13]),([true,true,false,false],true,[0,1,2,3,4,7,8,9,5,6,10,11,12,13]),([true,false,false,false],true,[0,2,3,4,7,8,9,1,5,6,10,11,12,13]),([false,true,true,true],true,[0,2,3,4,5,1,6,7,8,9,10,11,12,13]),([false,true,true,false],true,[0,2,3,4,5,1,7,8,9,6,10,11,12,13]),([false,false,true,false],true,[0,2,3,4,5,7,8,9,1,6,10,11,12,13]),([false,false,false,false],true,[0,2,3,4,7,8,9,5,1,6,10,11,12,13])])] (cAt Tryz.f95 (pth n)) Q):=fun _=>Snd.leaf
  okF h Tryz.func95 (Snd.seq (L 2) (Snd.seq (Snd.jn [(0,.p),(2,.i .i64),(3,.b),(5,.r 5 0),(8,.r 8 0),(20,.b),(5,.c 54),(8,.c 56)] (fun a hp=>F95_j1 a.1 a.2.1 a.2.2.1 a.2.2.2.1 a.2.2.2.2.1 a.2.2.2.2.2.1 hp  K) (L 9) (L 13) (by rfl) (by kernel_rfl)) (Snd.seq (L 11) (Snd.jn [(0,.p),(2,.i .i64),(3,.b),(5,.r 5 0),(8,.r 8 0),(10,.s),(5,.c 54),(8,.c 56)] (fun a hp=>F95_j2 a.1 a.2.1 a.2.2.1 a.2.2.2.1 a.2.2.2.2.1 a.2.2.2.2.2.1 a.2.2.2.2.2.2.1 a.2.2.2.2.2.2.2.1 hp  K) (L 23) (Snd.jn [(0,.p),(2,.i .i64),(3,.b),(8,.r 8 0),(10,.s),(8,.c 56)] (fun a hp=>F95_j3 a.1 a.2.1 a.2.2.1 a.2.2.2.1 a.2.2.2.2.1 a.2.2.2.2.2.1 a.2.2.2.2.2.2.1 hp  K) (Snd.jn [(0,.p),(2,.i .i64),(3,.b),(5,.r 5 0),(8,.r 8 0),(10,.s),(11,.i .i64),(5,.c 54),(8,.c 56)] (fun a hp=>F95_j12 a.1 a.2.1 a.2.2.1 a.2.2.2.1 a.2.2.2.2.1 a.2.2.2.2.2.1 a.2.2.2.2.2.2.1 a.2.2.2.2.2.2.2.1 a.2.2.2.2.2.2.2.2.1 hp  K) (L 79) (Snd.block 0 (Snd.lp (σ:=(Option Addr) × Nat × Nat × Int) [(0,.p),(2,.i .i64),(3,.b),(5,.r 5 0),(8,.r 8 0),(10,.s),(11,.i .i64),(5,.c 54),(8,.c 56)] (fun a=>(a.2.2.2.1,a.2.2.2.2.1,a.2.2.2.2.2.1,a.2.2.2.2.2.2.1)) (fun a s=>(a.1,a.2.1,a.2.2.1,s.1,s.2.1,s.2.2.1,s.2.2.2,a.2.2.2.2.2.2.2.1,a.2.2.2.2.2.2.2.2.1,())) (fun a I s hp=>F95_l13 a.1 a.2.1 a.2.2.1 a.2.2.2.2.2.2.2.1 a.2.2.2.2.2.2.2.2.1  K I s.1 s.2.1 s.2.2.1 s.2.2.2 hp) (fun I13=>(Snd.seq (L 559) (Snd.jn [(0,.p),(2,.i .i64),(3,.b),(5,.r 5 0),(8,.r 8 0),(10,.s),(11,.i .i64),(5,.c 54),(8,.c 56)] (fun a hp=>F95_j14 a.1 a.2.1 a.2.2.1 a.2.2.2.1 a.2.2.2.2.1 a.2.2.2.2.2.1 a.2.2.2.2.2.2.1 a.2.2.2.2.2.2.2.1 a.2.2.2.2.2.2.2.2.1 hp (fun s hp=>I13 (a.1,a.2.1,a.2.2.1,s.1,s.2.1,s.2.2.1,s.2.2.2,a.2.2.2.2.2.2.2.1,a.2.2.2.2.2.2.2.2.1,()) hp) K) (L 1327) (L 1839) (by rfl) (by kernel_rfl)))) (by rfl) (by kernel_rfl) (by kernel_rfl))) (by rfl) (by kernel_rfl)) (Snd.jn [(8,.r 8 0),(8,.c 56)] (fun a hp=>F95_j4 a.1 hp  K) (Snd.jn [(0,.p),(2,.i .i64),(3,.b),(8,.r 8 0),(10,.s),(12,.i .i64),(8,.c 56)] (fun a hp=>F95_j5 a.1 a.2.1 a.2.2.1 a.2.2.2.1 a.2.2.2.2.1 a.2.2.2.2.2.1 a.2.2.2.2.2.2.1 a.2.2.2.2.2.2.2.1 hp  K) (L 159) (Snd.block 2 (Snd.lp (σ:=Int × (List Value)) [(0,.p),(2,.i .i64),(3,.b),(8,.r 8 0),(10,.s),(12,.i .i64),(8,.c 56)] (fun a=>(a.2.2.2.2.2.2.1,a.2.2.2.2.2.2.2.1)) (fun a s=>(a.1,a.2.1,a.2.2.1,a.2.2.2.1,a.2.2.2.2.1,a.2.2.2.2.2.1,s.1,s.2,())) (fun a I s hp=>F95_l6 a.1 a.2.1 a.2.2.1 a.2.2.2.1 a.2.2.2.2.1 a.2.2.2.2.2.1  K I s.1 s.2 hp) (fun I6=>(Snd.seq (L 1119) (Snd.jn [(0,.p),(2,.i .i64),(3,.b),(8,.r 8 0),(10,.s),(12,.i .i64),(8,.c 56)] (fun a hp=>F95_j7 a.1 a.2.1 a.2.2.1 a.2.2.2.1 a.2.2.2.2.1 a.2.2.2.2.2.1 a.2.2.2.2.2.2.1 a.2.2.2.2.2.2.2.1 hp (fun s hp=>I6 (a.1,a.2.1,a.2.2.1,a.2.2.2.1,a.2.2.2.2.1,a.2.2.2.2.2.1,s.1,s.2,()) hp) K) (Snd.block 3 (Snd.jn [(0,.p),(2,.i .i64),(3,.b),(8,.r 8 0),(10,.s),(12,.i .i64),(13,.i .i64),(8,.c 56)] (fun a hp=>F95_j8 a.1 a.2.1 a.2.2.1 a.2.2.2.1 a.2.2.2.2.1 a.2.2.2.2.2.1 a.2.2.2.2.2.2.1 a.2.2.2.2.2.2.2.1 a.2.2.2.2.2.2.2.2.1 hp (fun s hp=>I6 (a.1,a.2.1,a.2.2.1,a.2.2.2.1,a.2.2.2.2.1,a.2.2.2.2.2.1,s.1,s.2,()) hp) K) (L 8799) (Snd.block 4 (Snd.lp (σ:=Int × (List Value)) [(0,.p),(2,.i .i64),(3,.b),(8,.r 8 0),(10,.s),(12,.i .i64),(13,.i .i64),(8,.c 56)] (fun a=>(a.2.2.2.2.2.2.2.1,a.2.2.2.2.2.2.2.2.1)) (fun a s=>(a.1,a.2.1,a.2.2.1,a.2.2.2.1,a.2.2.2.2.1,a.2.2.2.2.2.1,a.2.2.2.2.2.2.1,s.1,s.2,())) (fun a I s hp=>F95_l9 a.1 a.2.1 a.2.2.1 a.2.2.2.1 a.2.2.2.2.1 a.2.2.2.2.2.1 a.2.2.2.2.2.2.1 (fun s hp=>I6 (a.1,a.2.1,a.2.2.1,a.2.2.2.1,a.2.2.2.2.1,a.2.2.2.2.2.1,s.1,s.2,()) hp) K I s.1 s.2 hp) (fun I9=>(Snd.seq (L 70239) (Snd.seq (Snd.block 5 (Snd.seq (L 561759) (Snd.jn [(0,.p),(2,.i .i64),(3,.b),(8,.r 8 0),(10,.s),(12,.i .i64),(13,.i .i64),(14,.r 14 0),(93,.b),(8,.c 56),(14,.c 56)] (fun a hp=>F95_j10 a.1 a.2.1 a.2.2.1 a.2.2.2.1 a.2.2.2.2.1 a.2.2.2.2.2.1 a.2.2.2.2.2.2.1 a.2.2.2.2.2.2.2.1 a.2.2.2.2.2.2.2.2.1 a.2.2.2.2.2.2.2.2.2.1 a.2.2.2.2.2.2.2.2.2.2.1 hp (fun s hp=>I6 (a.1,a.2.1,a.2.2.1,a.2.2.2.1,a.2.2.2.2.1,a.2.2.2.2.2.1,s.1,s.2,()) hp) (fun s hp=>I9 (a.1,a.2.1,a.2.2.1,a.2.2.2.1,a.2.2.2.2.1,a.2.2.2.2.2.1,a.2.2.2.2.2.2.1,s.1,s.2,()) hp) K) (L 1348191) (Snd.cond 93 (Snd.jn [(8,.r 8 0),(14,.r 14 0),(8,.c 56),(14,.c 56)] (fun a hp=>F95_j11 a.1 a.2.1 hp (fun _ _=>True) (fun _ _=>True) K) (L 5018207) (L 7115359) (by rfl) (by kernel_rfl)) (L 3969631)) (by rfl) (by kernel_rfl)))) (L 234079)))) (by rfl) (by kernel_rfl) (by kernel_rfl))) (by rfl) (by kernel_rfl))) (L 3679) (by rfl) (by kernel_rfl)))) (by rfl) (by kernel_rfl) (by kernel_rfl))) (by rfl) (by kernel_rfl)) (L 127) (by rfl) (by kernel_rfl)) (by rfl) (by kernel_rfl)) (by rfl) (by kernel_rfl))))) (by kernel_rfl) (by kernel_rfl) (by kernel_rfl)
def F96 (x0:OA) (x1:List Value) (hp:HP) (K:Kh):Prop:=
  (ldL (cellsN x1 0 5) fun l_1=>(CF Tryz.prog 135 [(Value.pointer x0),(Value.agg ⟨l_1⟩)] hp fun u_2 h_3=>(boolV u_2 fun q_4=>(ite2 (!q_4) (K (Value.int .i64 1) h_3) (ldL (cellsN x1 0 5) fun l_5=>(CF Tryz.prog 134 [(Value.pointer x0),(Value.agg ⟨l_5⟩)] h_3 fun u_6 h_7=>(intV u_6 .i64 fun i_8=>(ite2 (decide ((i_8:Int)<0)) (K (Value.int .i64 4) h_7) (ptrN x0 fun b_9 o_10=>(ldV (HP.cell h_7 b_9 (o_10+3)) fun v_11=>(slcV v_11 fun a_12 n_13 c_14=>((0≤(i_8:Int))∧((i_8:Int)<(n_13:Nat))∧(ptrN a_12 fun b_15 o_16=>(ldV (HP.cell h_7 b_15 ((o_16+Int.toNat i_8*6)+5)) fun v_17=>(boolV v_17 fun q_18=>(ite2 q_18 (K (Value.int .i64 11) h_7) (CF Tryz.prog 136 [(Value.pointer x0),(Value.int .i64 i_8)] h_7 fun u_19 h_20=>(K (Value.int .i64 0) h_20))))))))))))))))))
theorem F96_ok (x0:OA) (x1:List Value) (hp:HP) (K:Kh) (h:F96 x0 x1 hp K):CF Tryz.prog 96 [(Value.pointer x0),(Value.agg ⟨x1⟩)] hp K:=
  have L:∀ {Q} n,Snd Tryz.prog 26 (cAt Tryz.f96 (pth n)) Q (CW Tryz.prog 26 [3] [] (cAt Tryz.f96 (pth n)) Q):=fun _=>Snd.leaf
  okF h Tryz.func96 (L 1) (by kernel_rfl) (by kernel_rfl) (by kernel_rfl)
def F104_l2 (x0:OA) (k3:List Value) (K:Kh) (I2:(Int)→HP→Prop) (x5:Int) (hp:HP):Prop:=
  (ptrN x0 fun b_1 o_2=>(ldV (HP.cell hp b_1 (o_2+0)) fun v_3=>(slcV v_3 fun a_4 n_5 c_6=>(ite2 (decide ((x5:Int)<(n_5:Nat))) (ptrN x0 fun b_7 o_8=>(ldV (HP.cell hp b_7 (o_8+0)) fun v_9=>(slcV v_9 fun a_10 n_11 c_12=>((0≤(x5:Int))∧((x5:Int)<(n_11:Nat))∧(ptrN a_10 fun b_13 o_14=>(ldL (HP.cellN hp b_13 (o_14+Int.toNat x5*4) 4) fun l_15=>(ldL (cellsN k3 0 4) fun l_16=>(eqAgg Tryz.prog 54 l_15 l_16 fun q_17=>(ite2 q_17 (K (Value.bool true) hp) (I2 (IntKind.wrap .i64 (x5+1)) hp)))))))))) (K (Value.bool false) hp)))))
def F104_j1 (x0:OA) (x5:Int) (k3:List Value) (hp:HP) (K:Kh):Prop:=
  (LoopP (σ:=Int) (fun I s hp=>F104_l2 x0 k3  K I s hp) x5 hp)
def F104 (x0:OA) (x1:List Value) (hp:HP) (K:Kh):Prop:=
  (F104_j1 x0 0 x1 hp  K)
theorem F104_ok (x0:OA) (x1:List Value) (hp:HP) (K:Kh) (h:F104 x0 x1 hp K):CF Tryz.prog 104 [(Value.pointer x0),(Value.agg ⟨x1⟩)] hp K:=
  have L:∀ {Q} n,Snd Tryz.prog 24 (cAt Tryz.f104 (pth n)) Q (CW Tryz.prog 24 [3] [] (cAt Tryz.f104 (pth n)) Q):=fun _=>Snd.leaf
  okF h Tryz.func104 (Snd.seq (L 2) (Snd.seq (Snd.jn [(0,.p),(3,.r 3 0),(5,.i .i64),(3,.c 54)] (fun a hp=>F104_j1 a.1 a.2.1 a.2.2.1 hp  K) (L 9) (Snd.block 0 (Snd.lp (σ:=Int) [(0,.p),(3,.r 3 0),(5,.i .i64),(3,.c 54)] (fun a=>a.2.1) (fun a s=>(a.1,s,a.2.2.1,())) (fun a I s hp=>F104_l2 a.1 a.2.2.1  K I s hp) (fun I2=>(L 37)) (by rfl) (by kernel_rfl) (by kernel_rfl))) (by rfl) (by kernel_rfl)) (L 7))) (by kernel_rfl) (by kernel_rfl) (by kernel_rfl)
def F105 (x0:OA) (x1:List Value) (hp:HP) (K:Kh):Prop:=
  (ldL (cellsN x1 0 5) fun l_1=>(CF Tryz.prog 134 [(Value.pointer x0),(Value.agg ⟨l_1⟩)] hp fun u_2 h_3=>(intV u_2 .i64 fun i_4=>(ite2 (decide ((i_4:Int)<0)) (K (.tuple ⟨[(Value.bool false),(Value.bool false)]⟩) h_3) (ptrN x0 fun b_5 o_6=>(ldV (HP.cell h_3 b_5 (o_6+3)) fun v_7=>(slcV v_7 fun a_8 n_9 c_10=>((0≤(i_4:Int))∧((i_4:Int)<(n_9:Nat))∧(ptrN a_8 fun b_11 o_12=>(ldV (HP.cell h_3 b_11 ((o_12+Int.toNat i_4*6)+5)) fun v_13=>(boolV v_13 fun q_14=>(ptrN x0 fun b_15 o_16=>(ldV (HP.cell h_3 b_15 (o_16+3)) fun v_17=>(slcV v_17 fun a_18 n_19 c_20=>((0≤(i_4:Int))∧((i_4:Int)<(n_19:Nat))∧(ptrN a_18 fun b_21 o_22=>(ldV (HP.cell h_3 b_21 ((o_22+Int.toNat i_4*6)+5)) fun v_23=>(boolV v_23 fun q_24=>(K (.tuple ⟨[(Value.bool (!q_14)),(Value.bool q_24)]⟩) h_3)))))))))))))))))))
theorem F105_ok (x0:OA) (x1:List Value) (hp:HP) (K:Kh) (h:F105 x0 x1 hp K):CF Tryz.prog 105 [(Value.pointer x0),(Value.agg ⟨x1⟩)] hp K:=
  have L:∀ {Q} n,Snd Tryz.prog 29 (cAt Tryz.f105 (pth n)) Q (CW Tryz.prog 29 [3] [] (cAt Tryz.f105 (pth n)) Q):=fun _=>Snd.leaf
  okF h Tryz.func105 (L 1) (by kernel_rfl) (by kernel_rfl) (by kernel_rfl)
def F106 (x0:OA) (x1:List Value) (hp:HP) (K:Kh):Prop:=
  (ldL (cellsN x1 0 5) fun l_1=>(CF Tryz.prog 135 [(Value.pointer x0),(Value.agg ⟨l_1⟩)] hp fun u_2 h_3=>(boolV u_2 fun q_4=>(ite2 (!q_4) (K (Value.int .i64 1) h_3) (ldL (cellsN x1 0 5) fun l_5=>(CF Tryz.prog 134 [(Value.pointer x0),(Value.agg ⟨l_5⟩)] h_3 fun u_6 h_7=>(intV u_6 .i64 fun i_8=>(ite2 (decide ((i_8:Int)≥0)) (K (Value.int .i64 5) h_7) ((∀ b_9:Nat,h_7 b_9=.none→(ptrN x0 fun b_10 o_11=>(ldV (HP.cell (HP.set h_7 b_9 (.cells 186 [] 0)) b_10 (o_11+3)) fun v_12=>(slcV v_12 fun a_13 n_14 c_15=>(opS Tryz.prog (Builtin.append_ #[115,115] 115 ⟨[(Value.slice (some ⟨b_9,0,none⟩) 0 0),(Value.slice a_13 n_14 c_15)]⟩) (HP.set h_7 b_9 (.cells 186 [] 0)) fun u_16 h_17=>(slcV u_16 fun a_18 n_19 c_20=>(ldL (cellsN x1 0 5) fun l_21=>(if List.length l_21=5 then (if List.length (List.set (splice [(Value.int .u8 0),(Value.int .u8 0),(Value.int .u8 0),(Value.int .u8 0),(Value.int .i64 0),(Value.bool false)] 0 l_21) 5 (Value.bool true))=6 then (∀ b_22:Nat,h_17 b_22=.none→(opS Tryz.prog (Builtin.append_ #[115,115] 115 ⟨[(Value.slice a_18 n_19 c_20),(Value.slice (some ⟨b_22,0,none⟩) 1 1)]⟩) (HP.set h_17 b_22 (.cells 186 (splice [(Value.int .u8 0),(Value.int .u8 0),(Value.int .u8 0),(Value.int .u8 0),(Value.int .i64 0),(Value.bool false)] 0 (List.set (splice [(Value.int .u8 0),(Value.int .u8 0),(Value.int .u8 0),(Value.int .u8 0),(Value.int .i64 0),(Value.bool false)] 0 l_21) 5 (Value.bool true))) 0)) fun u_23 h_24=>(slcV u_23 fun a_25 n_26 c_27=>(ptrN x0 fun b_28 o_29=>(HP.st h_24 b_28 (o_29+3) (Value.slice a_25 n_26 c_27) fun h_30=>(K (Value.int .i64 0) h_30)))))) else False) else False))))))))∧(∀ b_31:Nat,h_7 b_31=.none→(ptrN x0 fun b_32 o_33=>(ldV (HP.cell (HP.set h_7 b_31 (.cells 186 [] 0)) b_32 (o_33+3)) fun v_34=>(slcV v_34 fun a_35 n_36 c_37=>(ldL (cellsN x1 0 5) fun l_38=>(if List.length l_38=5 then (if List.length (List.set (splice [(Value.int .u8 0),(Value.int .u8 0),(Value.int .u8 0),(Value.int .u8 0),(Value.int .i64 0),(Value.bool false)] 0 l_38) 5 (Value.bool true))=6 then (∀ b_39:Nat,(HP.set h_7 b_31 (.cells 186 [] 0)) b_39=.none→(opS Tryz.prog (Builtin.append_ #[115,115] 115 ⟨[(Value.slice (some ⟨b_31,0,none⟩) 0 0),(Value.slice a_35 n_36 c_37)]⟩) (HP.set (HP.set h_7 b_31 (.cells 186 [] 0)) b_39 (.cells 186 (splice [(Value.int .u8 0),(Value.int .u8 0),(Value.int .u8 0),(Value.int .u8 0),(Value.int .i64 0),(Value.bool false)] 0 (List.set (splice [(Value.int .u8 0),(Value.int .u8 0),(Value.int .u8 0),(Value.int .u8 0),(Value.int .i64 0),(Value.bool false)] 0 l_38) 5 (Value.bool true))) 0)) fun u_40 h_41=>(slcV u_40 fun a_42 n_43 c_44=>(opS Tryz.prog (Builtin.append_ #[115,115] 115 ⟨[(Value.slice a_42 n_43 c_44),(Value.slice (some ⟨b_39,0,none⟩) 1 1)]⟩) h_41 fun u_45 h_46=>(slcV u_45 fun a_47 n_48 c_49=>(ptrN x0 fun b_50 o_51=>(HP.st h_46 b_50 (o_51+3) (Value.slice a_47 n_48 c_49) fun h_52=>(K (Value.int .i64 0) h_52)))))))) else False) else False))))))∧(∀ b_53:Nat,h_7 b_53=.none→(ptrN x0 fun b_54 o_55=>(ldL (cellsN x1 0 5) fun l_56=>(if List.length l_56=5 then (if List.length (List.set (splice [(Value.int .u8 0),(Value.int .u8 0),(Value.int .u8 0),(Value.int .u8 0),(Value.int .i64 0),(Value.bool false)] 0 l_56) 5 (Value.bool true))=6 then (∀ b_57:Nat,(HP.set h_7 b_53 (.cells 186 [] 0)) b_57=.none→(ldV (HP.cell (HP.set (HP.set h_7 b_53 (.cells 186 [] 0)) b_57 (.cells 186 (splice [(Value.int .u8 0),(Value.int .u8 0),(Value.int .u8 0),(Value.int .u8 0),(Value.int .i64 0),(Value.bool false)] 0 (List.set (splice [(Value.int .u8 0),(Value.int .u8 0),(Value.int .u8 0),(Value.int .u8 0),(Value.int .i64 0),(Value.bool false)] 0 l_56) 5 (Value.bool true))) 0)) b_54 (o_55+3)) fun v_58=>(slcV v_58 fun a_59 n_60 c_61=>(opS Tryz.prog (Builtin.append_ #[115,115] 115 ⟨[(Value.slice (some ⟨b_53,0,none⟩) 0 0),(Value.slice a_59 n_60 c_61)]⟩) (HP.set (HP.set h_7 b_53 (.cells 186 [] 0)) b_57 (.cells 186 (splice [(Value.int .u8 0),(Value.int .u8 0),(Value.int .u8 0),(Value.int .u8 0),(Value.int .i64 0),(Value.bool false)] 0 (List.set (splice [(Value.int .u8 0),(Value.int .u8 0),(Value.int .u8 0),(Value.int .u8 0),(Value.int .i64 0),(Value.bool false)] 0 l_56) 5 (Value.bool true))) 0)) fun u_62 h_63=>(slcV u_62 fun a_64 n_65 c_66=>(opS Tryz.prog (Builtin.append_ #[115,115] 115 ⟨[(Value.slice a_64 n_65 c_66),(Value.slice (some ⟨b_57,0,none⟩) 1 1)]⟩) h_63 fun u_67 h_68=>(slcV u_67 fun a_69 n_70 c_71=>(ptrN x0 fun b_72 o_73=>(HP.st h_68 b_72 (o_73+3) (Value.slice a_69 n_70 c_71) fun h_74=>(K (Value.int .i64 0) h_74)))))))))) else False) else False))))∧(ptrN x0 fun b_75 o_76=>(ldL (cellsN x1 0 5) fun l_77=>(if List.length l_77=5 then (if List.length (List.set (splice [(Value.int .u8 0),(Value.int .u8 0),(Value.int .u8 0),(Value.int .u8 0),(Value.int .i64 0),(Value.bool false)] 0 l_77) 5 (Value.bool true))=6 then (∀ b_78:Nat,h_7 b_78=.none→(∀ b_79:Nat,(HP.set h_7 b_78 (.cells 186 (splice [(Value.int .u8 0),(Value.int .u8 0),(Value.int .u8 0),(Value.int .u8 0),(Value.int .i64 0),(Value.bool false)] 0 (List.set (splice [(Value.int .u8 0),(Value.int .u8 0),(Value.int .u8 0),(Value.int .u8 0),(Value.int .i64 0),(Value.bool false)] 0 l_77) 5 (Value.bool true))) 0)) b_79=.none→(ldV (HP.cell (HP.set (HP.set h_7 b_78 (.cells 186 (splice [(Value.int .u8 0),(Value.int .u8 0),(Value.int .u8 0),(Value.int .u8 0),(Value.int .i64 0),(Value.bool false)] 0 (List.set (splice [(Value.int .u8 0),(Value.int .u8 0),(Value.int .u8 0),(Value.int .u8 0),(Value.int .i64 0),(Value.bool false)] 0 l_77) 5 (Value.bool true))) 0)) b_79 (.cells 186 [] 0)) b_75 (o_76+3)) fun v_80=>(slcV v_80 fun a_81 n_82 c_83=>(opS Tryz.prog (Builtin.append_ #[115,115] 115 ⟨[(Value.slice (some ⟨b_79,0,none⟩) 0 0),(Value.slice a_81 n_82 c_83)]⟩) (HP.set (HP.set h_7 b_78 (.cells 186 (splice [(Value.int .u8 0),(Value.int .u8 0),(Value.int .u8 0),(Value.int .u8 0),(Value.int .i64 0),(Value.bool false)] 0 (List.set (splice [(Value.int .u8 0),(Value.int .u8 0),(Value.int .u8 0),(Value.int .u8 0),(Value.int .i64 0),(Value.bool false)] 0 l_77) 5 (Value.bool true))) 0)) b_79 (.cells 186 [] 0)) fun u_84 h_85=>(slcV u_84 fun a_86 n_87 c_88=>(opS Tryz.prog (Builtin.append_ #[115,115] 115 ⟨[(Value.slice a_86 n_87 c_88),(Value.slice (some ⟨b_78,0,none⟩) 1 1)]⟩) h_85 fun u_89 h_90=>(slcV u_89 fun a_91 n_92 c_93=>(ptrN x0 fun b_94 o_95=>(HP.st h_90 b_94 (o_95+3) (Value.slice a_91 n_92 c_93) fun h_96=>(K (Value.int .i64 0) h_96))))))))))) else False) else False)))∧(ptrN x0 fun b_97 o_98=>(ldV (HP.cell h_7 b_97 (o_98+3)) fun v_99=>(slcV v_99 fun a_100 n_101 c_102=>(∀ b_103:Nat,h_7 b_103=.none→(opS Tryz.prog (Builtin.append_ #[115,115] 115 ⟨[(Value.slice (some ⟨b_103,0,none⟩) 0 0),(Value.slice a_100 n_101 c_102)]⟩) (HP.set h_7 b_103 (.cells 186 [] 0)) fun u_104 h_105=>(slcV u_104 fun a_106 n_107 c_108=>(ldL (cellsN x1 0 5) fun l_109=>(if List.length l_109=5 then (if List.length (List.set (splice [(Value.int .u8 0),(Value.int .u8 0),(Value.int .u8 0),(Value.int .u8 0),(Value.int .i64 0),(Value.bool false)] 0 l_109) 5 (Value.bool true))=6 then (∀ b_110:Nat,h_105 b_110=.none→(opS Tryz.prog (Builtin.append_ #[115,115] 115 ⟨[(Value.slice a_106 n_107 c_108),(Value.slice (some ⟨b_110,0,none⟩) 1 1)]⟩) (HP.set h_105 b_110 (.cells 186 (splice [(Value.int .u8 0),(Value.int .u8 0),(Value.int .u8 0),(Value.int .u8 0),(Value.int .i64 0),(Value.bool false)] 0 (List.set (splice [(Value.int .u8 0),(Value.int .u8 0),(Value.int .u8 0),(Value.int .u8 0),(Value.int .i64 0),(Value.bool false)] 0 l_109) 5 (Value.bool true))) 0)) fun u_111 h_112=>(slcV u_111 fun a_113 n_114 c_115=>(ptrN x0 fun b_116 o_117=>(HP.st h_112 b_116 (o_117+3) (Value.slice a_113 n_114 c_115) fun h_118=>(K (Value.int .i64 0) h_118)))))) else False) else False))))))))∧(ptrN x0 fun b_119 o_120=>(ldV (HP.cell h_7 b_119 (o_120+3)) fun v_121=>(slcV v_121 fun a_122 n_123 c_124=>(∀ b_125:Nat,h_7 b_125=.none→(ldL (cellsN x1 0 5) fun l_126=>(if List.length l_126=5 then (if List.length (List.set (splice [(Value.int .u8 0),(Value.int .u8 0),(Value.int .u8 0),(Value.int .u8 0),(Value.int .i64 0),(Value.bool false)] 0 l_126) 5 (Value.bool true))=6 then (∀ b_127:Nat,(HP.set h_7 b_125 (.cells 186 [] 0)) b_127=.none→(opS Tryz.prog (Builtin.append_ #[115,115] 115 ⟨[(Value.slice (some ⟨b_125,0,none⟩) 0 0),(Value.slice a_122 n_123 c_124)]⟩) (HP.set (HP.set h_7 b_125 (.cells 186 [] 0)) b_127 (.cells 186 (splice [(Value.int .u8 0),(Value.int .u8 0),(Value.int .u8 0),(Value.int .u8 0),(Value.int .i64 0),(Value.bool false)] 0 (List.set (splice [(Value.int .u8 0),(Value.int .u8 0),(Value.int .u8 0),(Value.int .u8 0),(Value.int .i64 0),(Value.bool false)] 0 l_126) 5 (Value.bool true))) 0)) fun u_128 h_129=>(slcV u_128 fun a_130 n_131 c_132=>(opS Tryz.prog (Builtin.append_ #[115,115] 115 ⟨[(Value.slice a_130 n_131 c_132),(Value.slice (some ⟨b_127,0,none⟩) 1 1)]⟩) h_129 fun u_133 h_134=>(slcV u_133 fun a_135 n_136 c_137=>(ptrN x0 fun b_138 o_139=>(HP.st h_134 b_138 (o_139+3) (Value.slice a_135 n_136 c_137) fun h_140=>(K (Value.int .i64 0) h_140)))))))) else False) else False))))))∧(ptrN x0 fun b_141 o_142=>(ldV (HP.cell h_7 b_141 (o_142+3)) fun v_143=>(slcV v_143 fun a_144 n_145 c_146=>(ldL (cellsN x1 0 5) fun l_147=>(if List.length l_147=5 then (if List.length (List.set (splice [(Value.int .u8 0),(Value.int .u8 0),(Value.int .u8 0),(Value.int .u8 0),(Value.int .i64 0),(Value.bool false)] 0 l_147) 5 (Value.bool true))=6 then (∀ b_148:Nat,h_7 b_148=.none→(∀ b_149:Nat,(HP.set h_7 b_148 (.cells 186 (splice [(Value.int .u8 0),(Value.int .u8 0),(Value.int .u8 0),(Value.int .u8 0),(Value.int .i64 0),(Value.bool false)] 0 (List.set (splice [(Value.int .u8 0),(Value.int .u8 0),(Value.int .u8 0),(Value.int .u8 0),(Value.int .i64 0),(Value.bool false)] 0 l_147) 5 (Value.bool true))) 0)) b_149=.none→(opS Tryz.prog (Builtin.append_ #[115,115] 115 ⟨[(Value.slice (some ⟨b_149,0,none⟩) 0 0),(Value.slice a_144 n_145 c_146)]⟩) (HP.set (HP.set h_7 b_148 (.cells 186 (splice [(Value.int .u8 0),(Value.int .u8 0),(Value.int .u8 0),(Value.int .u8 0),(Value.int .i64 0),(Value.bool false)] 0 (List.set (splice [(Value.int .u8 0),(Value.int .u8 0),(Value.int .u8 0),(Value.int .u8 0),(Value.int .i64 0),(Value.bool false)] 0 l_147) 5 (Value.bool true))) 0)) b_149 (.cells 186 [] 0)) fun u_150 h_151=>(slcV u_150 fun a_152 n_153 c_154=>(opS Tryz.prog (Builtin.append_ #[115,115] 115 ⟨[(Value.slice a_152 n_153 c_154),(Value.slice (some ⟨b_148,0,none⟩) 1 1)]⟩) h_151 fun u_155 h_156=>(slcV u_155 fun a_157 n_158 c_159=>(ptrN x0 fun b_160 o_161=>(HP.st h_156 b_160 (o_161+3) (Value.slice a_157 n_158 c_159) fun h_162=>(K (Value.int .i64 0) h_162))))))))) else False) else False)))))∧(ptrN x0 fun b_163 o_164=>(ldL (cellsN x1 0 5) fun l_165=>(if List.length l_165=5 then (if List.length (List.set (splice [(Value.int .u8 0),(Value.int .u8 0),(Value.int .u8 0),(Value.int .u8 0),(Value.int .i64 0),(Value.bool false)] 0 l_165) 5 (Value.bool true))=6 then (∀ b_166:Nat,h_7 b_166=.none→(ldV (HP.cell (HP.set h_7 b_166 (.cells 186 (splice [(Value.int .u8 0),(Value.int .u8 0),(Value.int .u8 0),(Value.int .u8 0),(Value.int .i64 0),(Value.bool false)] 0 (List.set (splice [(Value.int .u8 0),(Value.int .u8 0),(Value.int .u8 0),(Value.int .u8 0),(Value.int .i64 0),(Value.bool false)] 0 l_165) 5 (Value.bool true))) 0)) b_163 (o_164+3)) fun v_167=>(slcV v_167 fun a_168 n_169 c_170=>(∀ b_171:Nat,(HP.set h_7 b_166 (.cells 186 (splice [(Value.int .u8 0),(Value.int .u8 0),(Value.int .u8 0),(Value.int .u8 0),(Value.int .i64 0),(Value.bool false)] 0 (List.set (splice [(Value.int .u8 0),(Value.int .u8 0),(Value.int .u8 0),(Value.int .u8 0),(Value.int .i64 0),(Value.bool false)] 0 l_165) 5 (Value.bool true))) 0)) b_171=.none→(opS Tryz.prog (Builtin.append_ #[115,115] 115 ⟨[(Value.slice (some ⟨b_171,0,none⟩) 0 0),(Value.slice a_168 n_169 c_170)]⟩) (HP.set (HP.set h_7 b_166 (.cells 186 (splice [(Value.int .u8 0),(Value.int .u8 0),(Value.int .u8 0),(Value.int .u8 0),(Value.int .i64 0),(Value.bool false)] 0 (List.set (splice [(Value.int .u8 0),(Value.int .u8 0),(Value.int .u8 0),(Value.int .u8 0),(Value.int .i64 0),(Value.bool false)] 0 l_165) 5 (Value.bool true))) 0)) b_171 (.cells 186 [] 0)) fun u_172 h_173=>(slcV u_172 fun a_174 n_175 c_176=>(opS Tryz.prog (Builtin.append_ #[115,115] 115 ⟨[(Value.slice a_174 n_175 c_176),(Value.slice (some ⟨b_166,0,none⟩) 1 1)]⟩) h_173 fun u_177 h_178=>(slcV u_177 fun a_179 n_180 c_181=>(ptrN x0 fun b_182 o_183=>(HP.st h_178 b_182 (o_183+3) (Value.slice a_179 n_180 c_181) fun h_184=>(K (Value.int .i64 0) h_184))))))))))) else False) else False))))))))))))
theorem F106_ok (x0:OA) (x1:List Value) (hp:HP) (K:Kh) (h:F106 x0 x1 hp K):CF Tryz.prog 106 [(Value.pointer x0),(Value.agg ⟨x1⟩)] hp K:=
  have L:∀ {Q} n,Snd Tryz.prog 26 (cAt Tryz.f106 (pth n)) Q (CW Tryz.prog 26 [3] [(5,[(1,5),(1,9),(5,9),(6,9)],[([true,true,false,true],false,[5,6,9,5]),([true,false,true,true],false,[1,5,9,1]),([true,false,true,false],false,[1,5,9,1]),([true,false,false,true],false,[1,6,9,1]),([false,true,false,true],false,[1,9,5,1]),([false,true,false,false],false,[1,9,5,1]),([false,false,true,true],false,[1,6,9,1]),([false,false,false,true],false,[1,6,9,5,1]),([true,true,true,true],true,[0,1,2,3,4,5,6,7,8,9,10,11,12,13]),([true,true,true,false],true,[0,1,2,3,4,5,7,8,9,6,10,11,12,13]),([true,true,false,false],true,[0,1,2,3,4,7,8,9,5,6,10,11,12,13]),([true,false,false,false],true,[0,2,3,4,7,8,9,1,5,6,10,11,12,13]),([false,true,true,true],true,[0,2,3,4,5,1,6,7,8,9,10,11,12,13]),([false,true,true,false],true,[0,2,3,4,5,1,7,8,9,6,10,11,12,13]),([false,false,true,false],true,[0,2,3,4,5,7,8,9,1,6,10,11,12,13]),([false,false,false,false],true,[0,2,3,4,7,8,9,5,1,6,10,11,12,13])])] (cAt Tryz.f106 (pth n)) Q):=fun _=>Snd.leaf
  okF h Tryz.func106 (L 1) (by kernel_rfl) (by kernel_rfl) (by kernel_rfl)
def F110_j1 (x0:OA) (x5:Int) (x25:Bool) (hp:HP) (K:Kh):Prop:=
  (ite2 x25 (K (Value.int .i64 4) hp) (CF Tryz.prog 136 [(Value.pointer x0),(Value.int .i64 x5)] hp fun u_9 h_10=>(K (Value.int .i64 0) h_10)))
def F110 (x0:OA) (x1:List Value) (hp:HP) (K:Kh):Prop:=
  (ldL (cellsN x1 0 5) fun l_1=>(CF Tryz.prog 135 [(Value.pointer x0),(Value.agg ⟨l_1⟩)] hp fun u_2 h_3=>(boolV u_2 fun q_4=>(ite2 (!q_4) (K (Value.int .i64 1) h_3) (ldL (cellsN x1 0 5) fun l_5=>(CF Tryz.prog 134 [(Value.pointer x0),(Value.agg ⟨l_5⟩)] h_3 fun u_6 h_7=>(intV u_6 .i64 fun i_8=>(ite2 (decide ((i_8:Int)<0)) (F110_j1 x0 i_8 true h_7  K) (ptrN x0 fun b_11 o_12=>(ldV (HP.cell h_7 b_11 (o_12+3)) fun v_13=>(slcV v_13 fun a_14 n_15 c_16=>((0≤(i_8:Int))∧((i_8:Int)<(n_15:Nat))∧(ptrN a_14 fun b_17 o_18=>(ldV (HP.cell h_7 b_17 ((o_18+Int.toNat i_8*6)+5)) fun v_19=>(boolV v_19 fun q_20=>(F110_j1 x0 i_8 (!q_20) h_7  K))))))))))))))))
theorem F110_ok (x0:OA) (x1:List Value) (hp:HP) (K:Kh) (h:F110 x0 x1 hp K):CF Tryz.prog 110 [(Value.pointer x0),(Value.agg ⟨x1⟩)] hp K:=
  have L:∀ {Q} n,Snd Tryz.prog 29 (cAt Tryz.f110 (pth n)) Q (CW Tryz.prog 29 [3] [] (cAt Tryz.f110 (pth n)) Q):=fun _=>Snd.leaf
  okF h Tryz.func110 (Snd.seq (L 2) (Snd.seq (L 5) (Snd.seq (L 11) (Snd.seq (Snd.jn [(0,.p),(5,.i .i64),(25,.b)] (fun a hp=>F110_j1 a.1 a.2.1 a.2.2.1 hp  K) (L 39) (L 55) (by rfl) (by kernel_rfl)) (L 31))))) (by kernel_rfl) (by kernel_rfl) (by kernel_rfl)
def F64_j2 (x3:Int) (hp:HP) (K:Kh):Prop:=
  (K (Value.int .i64 x3) hp)
def F64_j5 (x0:OA) (x3 x5:Int) (hp:HP) (I4:(Int × Int)→HP→Prop) (K:Kh):Prop:=
  (I4 (x3,(IntKind.wrap .i64 (x5+1))) hp)
def F64_j6 (x0:OA) (x3 x5:Int) (x65:Bool) (hp:HP) (I4:(Int × Int)→HP→Prop) (K:Kh):Prop:=
  (ite2 x65 (F64_j5 x0 (IntKind.wrap .i64 (x3-1)) x5 hp I4 K) (F64_j5 x0 x3 x5 hp I4 K))
def F64_l4 (x0:OA) (K:Kh) (I4:(Int × Int)→HP→Prop) (x3 x5:Int) (hp:HP):Prop:=
  (ptrN x0 fun b_1 o_2=>(ldV (HP.cell hp b_1 (o_2+3)) fun v_3=>(slcV v_3 fun a_4 n_5 c_6=>(ite2 (decide ((x5:Int)<(n_5:Nat))) (ptrN x0 fun b_7 o_8=>(ldV (HP.cell hp b_7 (o_8+3)) fun v_9=>(slcV v_9 fun a_10 n_11 c_12=>((0≤(x5:Int))∧((x5:Int)<(n_11:Nat))∧(ptrN a_10 fun b_13 o_14=>(ldV (HP.cell hp b_13 (((o_14+Int.toNat x5*6)+0)+4)) fun v_15=>(intV v_15 .i64 fun i_16=>(ptrN x0 fun b_17 o_18=>(ldV (HP.cell hp b_17 (o_18+1)) fun v_19=>(intV v_19 .i64 fun i_20=>(ite2 (decide ((i_16:Int)≥i_20)) (ptrN x0 fun b_21 o_22=>(ldV (HP.cell hp b_21 (o_22+3)) fun v_23=>(slcV v_23 fun a_24 n_25 c_26=>((0≤(x5:Int))∧((x5:Int)<(n_25:Nat))∧(ptrN a_24 fun b_27 o_28=>(ldV (HP.cell hp b_27 (((o_28+Int.toNat x5*6)+0)+4)) fun v_29=>(intV v_29 .i64 fun i_30=>(ptrN x0 fun b_31 o_32=>(ldV (HP.cell hp b_31 (o_32+2)) fun v_33=>(intV v_33 .i64 fun i_34=>(F64_j6 x0 x3 x5 (decide ((i_30:Int)≤i_34)) hp I4 K))))))))))) (F64_j6 x0 x3 x5 false hp I4 K)))))))))))) (F64_j2 x3 hp  K)))))
def F64_j3 (x0:OA) (x3 x5:Int) (hp:HP) (K:Kh):Prop:=
  (LoopP (σ:=Int × Int) (fun I s hp=>F64_l4 x0  K I s.1 s.2 hp) (x3,x5) hp)
def F64_j1 (x0:OA) (x3:Int) (hp:HP) (K:Kh):Prop:=
  (F64_j3 x0 x3 0 hp  K)
def F64_l8 (x0:OA) (K:Kh) (I8:(Int × Int)→HP→Prop) (x3 x4:Int) (hp:HP):Prop:=
  (ptrN x0 fun b_35 o_36=>(ldV (HP.cell hp b_35 (o_36+0)) fun v_37=>(slcV v_37 fun a_38 n_39 c_40=>(ite2 (decide ((x4:Int)<(n_39:Nat))) (ptrN x0 fun b_41 o_42=>(ldV (HP.cell hp b_41 (o_42+2)) fun v_43=>(intV v_43 .i64 fun i_44=>(ptrN x0 fun b_45 o_46=>(ldV (HP.cell hp b_45 (o_46+1)) fun v_47=>(intV v_47 .i64 fun i_48=>(I8 ((IntKind.wrap .i64 ((IntKind.wrap .i64 ((IntKind.wrap .i64 (x3+i_44))-i_48))+1)),(IntKind.wrap .i64 (x4+1))) hp))))))) (F64_j1 x0 x3 hp  K)))))
def F64_j7 (x0:OA) (x3 x4:Int) (hp:HP) (K:Kh):Prop:=
  (LoopP (σ:=Int × Int) (fun I s hp=>F64_l8 x0  K I s.1 s.2 hp) (x3,x4) hp)
def F64 (x0:OA) (hp:HP) (K:Kh):Prop:=
  (F64_j7 x0 0 0 hp  K)
theorem F64_ok (x0:OA) (hp:HP) (K:Kh) (h:F64 x0 hp K):CF Tryz.prog 64 [(Value.pointer x0)] hp K:=
  have L:∀ {Q} n,Snd Tryz.prog 69 (cAt Tryz.f64 (pth n)) Q (CW Tryz.prog 69 [] [] (cAt Tryz.f64 (pth n)) Q):=fun _=>Snd.leaf
  okF h Tryz.func64 (Snd.seq (L 2) (Snd.seq (L 5) (Snd.jn [(0,.p),(3,.i .i64)] (fun a hp=>F64_j1 a.1 a.2.1 hp  K) (Snd.jn [(0,.p),(3,.i .i64),(4,.i .i64)] (fun a hp=>F64_j7 a.1 a.2.1 a.2.2.1 hp  K) (L 19) (Snd.block 0 (Snd.lp (σ:=Int × Int) [(0,.p),(3,.i .i64),(4,.i .i64)] (fun a=>(a.2.1,a.2.2.1)) (fun a s=>(a.1,s.1,s.2,())) (fun a I s hp=>F64_l8 a.1  K I s.1 s.2 hp) (fun I8=>(L 75)) (by rfl) (by kernel_rfl) (by kernel_rfl))) (by rfl) (by kernel_rfl)) (Snd.jn [(3,.i .i64)] (fun a hp=>F64_j2 a.1 hp  K) (Snd.jn [(0,.p),(3,.i .i64),(5,.i .i64)] (fun a hp=>F64_j3 a.1 a.2.1 a.2.2.1 hp  K) (L 39) (Snd.block 2 (Snd.lp (σ:=Int × Int) [(0,.p),(3,.i .i64),(5,.i .i64)] (fun a=>(a.2.1,a.2.2.1)) (fun a s=>(a.1,s.1,s.2,())) (fun a I s hp=>F64_l4 a.1  K I s.1 s.2 hp) (fun I4=>(Snd.seq (L 279) (Snd.jn [(0,.p),(3,.i .i64),(5,.i .i64)] (fun a hp=>F64_j5 a.1 a.2.1 a.2.2.1 hp (fun s hp=>I4 (a.1,s.1,s.2,()) hp) K) (Snd.block 3 (Snd.jn [(0,.p),(3,.i .i64),(5,.i .i64),(65,.b)] (fun a hp=>F64_j6 a.1 a.2.1 a.2.2.1 a.2.2.2.1 hp (fun s hp=>I4 (a.1,s.1,s.2,()) hp) K) (L 2199) (L 3223) (by rfl) (by kernel_rfl))) (L 919) (by rfl) (by kernel_rfl)))) (by rfl) (by kernel_rfl) (by kernel_rfl))) (by rfl) (by kernel_rfl)) (L 31) (by rfl) (by kernel_rfl)) (by rfl) (by kernel_rfl)))) (by kernel_rfl) (by kernel_rfl) (by kernel_rfl)
def F134_l2 (x0:OA) (k3:List Value) (K:Kh) (I2:(Int)→HP→Prop) (x5:Int) (hp:HP):Prop:=
  (ptrN x0 fun b_1 o_2=>(ldV (HP.cell hp b_1 (o_2+3)) fun v_3=>(slcV v_3 fun a_4 n_5 c_6=>(ite2 (decide ((x5:Int)<(n_5:Nat))) (ptrN x0 fun b_7 o_8=>(ldV (HP.cell hp b_7 (o_8+3)) fun v_9=>(slcV v_9 fun a_10 n_11 c_12=>((0≤(x5:Int))∧((x5:Int)<(n_11:Nat))∧(ptrN a_10 fun b_13 o_14=>(ldL (HP.cellN hp b_13 ((o_14+Int.toNat x5*6)+0) 5) fun l_15=>(ldL (cellsN k3 0 5) fun l_16=>(eqAgg Tryz.prog 56 l_15 l_16 fun q_17=>(ite2 q_17 (K (Value.int .i64 x5) hp) (I2 (IntKind.wrap .i64 (x5+1)) hp)))))))))) (K (Value.int .i64 (-1)) hp)))))
def F134_j1 (x0:OA) (x5:Int) (k3:List Value) (hp:HP) (K:Kh):Prop:=
  (LoopP (σ:=Int) (fun I s hp=>F134_l2 x0 k3  K I s hp) x5 hp)
def F134 (x0:OA) (x1:List Value) (hp:HP) (K:Kh):Prop:=
  (F134_j1 x0 0 x1 hp  K)
theorem F134_ok (x0:OA) (x1:List Value) (hp:HP) (K:Kh) (h:F134 x0 x1 hp K):CF Tryz.prog 134 [(Value.pointer x0),(Value.agg ⟨x1⟩)] hp K:=
  have L:∀ {Q} n,Snd Tryz.prog 26 (cAt Tryz.f134 (pth n)) Q (CW Tryz.prog 26 [3] [] (cAt Tryz.f134 (pth n)) Q):=fun _=>Snd.leaf
  okF h Tryz.func134 (Snd.seq (L 2) (Snd.seq (Snd.jn [(0,.p),(3,.r 3 0),(5,.i .i64),(3,.c 56)] (fun a hp=>F134_j1 a.1 a.2.1 a.2.2.1 hp  K) (L 9) (Snd.block 0 (Snd.lp (σ:=Int) [(0,.p),(3,.r 3 0),(5,.i .i64),(3,.c 56)] (fun a=>a.2.1) (fun a s=>(a.1,s,a.2.2.1,())) (fun a I s hp=>F134_l2 a.1 a.2.2.1  K I s hp) (fun I2=>(L 37)) (by rfl) (by kernel_rfl) (by kernel_rfl))) (by rfl) (by kernel_rfl)) (L 7))) (by kernel_rfl) (by kernel_rfl) (by kernel_rfl)
def F135 (x0:OA) (x1:List Value) (hp:HP) (K:Kh):Prop:=
  (ldV (x1)[4]? fun v_1=>(intV v_1 .i64 fun i_2=>(ite2 (decide ((i_2:Int)≥0)) (ldV (x1)[4]? fun v_3=>(intV v_3 .i64 fun i_4=>(ite2 (decide ((i_4:Int)≤65535)) (ldL (cellsN x1 0 4) fun l_5=>(CF Tryz.prog 104 [(Value.pointer x0),(Value.agg ⟨l_5⟩)] hp fun u_6 h_7=>(boolV u_6 fun q_8=>(K (Value.bool q_8) h_7)))) (K (Value.bool false) hp)))) (K (Value.bool false) hp))))
theorem F135_ok (x0:OA) (x1:List Value) (hp:HP) (K:Kh) (h:F135 x0 x1 hp K):CF Tryz.prog 135 [(Value.pointer x0),(Value.agg ⟨x1⟩)] hp K:=
  have L:∀ {Q} n,Snd Tryz.prog 19 (cAt Tryz.f135 (pth n)) Q (CW Tryz.prog 19 [3,5,9,15] [] (cAt Tryz.f135 (pth n)) Q):=fun _=>Snd.leaf
  okF h Tryz.func135 (L 1) (by kernel_rfl) (by kernel_rfl) (by kernel_rfl)
def F136 (x0:OA) (x1:Int) (hp:HP) (K:Kh):Prop:=
  ((∀ b_1:Nat,hp b_1=.none→(ptrN x0 fun b_2 o_3=>(ldV (HP.cell (HP.set hp b_1 (.cells 186 [] 0)) b_2 (o_3+3)) fun v_4=>(slcV v_4 fun a_5 n_6 c_7=>((0≤(x1:Int))∧((x1:Int)≤(c_7:Nat))∧(opS Tryz.prog (Builtin.append_ #[115,115] 115 ⟨[(Value.slice (some ⟨b_1,0,none⟩) 0 0),(Value.slice a_5 (Int.toNat x1) c_7)]⟩) (HP.set hp b_1 (.cells 186 [] 0)) fun u_8 h_9=>(slcV u_8 fun a_10 n_11 c_12=>(ptrN x0 fun b_13 o_14=>(ldV (HP.cell h_9 b_13 (o_14+3)) fun v_15=>(slcV v_15 fun a_16 n_17 c_18=>((0≤((IntKind.wrap .i64 (x1+1)):Int))∧(((IntKind.wrap .i64 (x1+1)):Int)≤(n_17:Nat))∧(n_17≤c_18)∧(opS Tryz.prog (Builtin.append_ #[115,115] 115 ⟨[(Value.slice a_10 n_11 c_12),(Value.slice (sub0 a_16 c_18 (Int.toNat (IntKind.wrap .i64 (x1+1))) 6) (n_17-Int.toNat (IntKind.wrap .i64 (x1+1))) (c_18-Int.toNat (IntKind.wrap .i64 (x1+1))))]⟩) h_9 fun u_19 h_20=>(slcV u_19 fun a_21 n_22 c_23=>(ptrN x0 fun b_24 o_25=>(HP.st h_20 b_24 (o_25+3) (Value.slice a_21 n_22 c_23) fun h_26=>(K (.tuple ⟨[]⟩) h_26))))))))))))))))∧(∀ b_27:Nat,hp b_27=.none→(ptrN x0 fun b_28 o_29=>(ldV (HP.cell (HP.set hp b_27 (.cells 186 [] 0)) b_28 (o_29+3)) fun v_30=>(slcV v_30 fun a_31 n_32 c_33=>((0≤(x1:Int))∧((x1:Int)≤(c_33:Nat))∧(ptrN x0 fun b_34 o_35=>(ldV (HP.cell (HP.set hp b_27 (.cells 186 [] 0)) b_34 (o_35+3)) fun v_36=>(slcV v_36 fun a_37 n_38 c_39=>(opS Tryz.prog (Builtin.append_ #[115,115] 115 ⟨[(Value.slice (some ⟨b_27,0,none⟩) 0 0),(Value.slice a_31 (Int.toNat x1) c_33)]⟩) (HP.set hp b_27 (.cells 186 [] 0)) fun u_40 h_41=>(slcV u_40 fun a_42 n_43 c_44=>((0≤((IntKind.wrap .i64 (x1+1)):Int))∧(((IntKind.wrap .i64 (x1+1)):Int)≤(n_38:Nat))∧(n_38≤c_39)∧(opS Tryz.prog (Builtin.append_ #[115,115] 115 ⟨[(Value.slice a_42 n_43 c_44),(Value.slice (sub0 a_37 c_39 (Int.toNat (IntKind.wrap .i64 (x1+1))) 6) (n_38-Int.toNat (IntKind.wrap .i64 (x1+1))) (c_39-Int.toNat (IntKind.wrap .i64 (x1+1))))]⟩) h_41 fun u_45 h_46=>(slcV u_45 fun a_47 n_48 c_49=>(ptrN x0 fun b_50 o_51=>(HP.st h_46 b_50 (o_51+3) (Value.slice a_47 n_48 c_49) fun h_52=>(K (.tuple ⟨[]⟩) h_52))))))))))))))))∧(ptrN x0 fun b_53 o_54=>(ptrN x0 fun b_55 o_56=>(ldV (HP.cell hp b_55 (o_56+3)) fun v_57=>(slcV v_57 fun a_58 n_59 c_60=>(∀ b_61:Nat,hp b_61=.none→(ldV (HP.cell (HP.set hp b_61 (.cells 186 [] 0)) b_53 (o_54+3)) fun v_62=>(slcV v_62 fun a_63 n_64 c_65=>((0≤(x1:Int))∧((x1:Int)≤(c_65:Nat))∧(opS Tryz.prog (Builtin.append_ #[115,115] 115 ⟨[(Value.slice (some ⟨b_61,0,none⟩) 0 0),(Value.slice a_63 (Int.toNat x1) c_65)]⟩) (HP.set hp b_61 (.cells 186 [] 0)) fun u_66 h_67=>(slcV u_66 fun a_68 n_69 c_70=>((0≤((IntKind.wrap .i64 (x1+1)):Int))∧(((IntKind.wrap .i64 (x1+1)):Int)≤(n_59:Nat))∧(n_59≤c_60)∧(opS Tryz.prog (Builtin.append_ #[115,115] 115 ⟨[(Value.slice a_68 n_69 c_70),(Value.slice (sub0 a_58 c_60 (Int.toNat (IntKind.wrap .i64 (x1+1))) 6) (n_59-Int.toNat (IntKind.wrap .i64 (x1+1))) (c_60-Int.toNat (IntKind.wrap .i64 (x1+1))))]⟩) h_67 fun u_71 h_72=>(slcV u_71 fun a_73 n_74 c_75=>(ptrN x0 fun b_76 o_77=>(HP.st h_72 b_76 (o_77+3) (Value.slice a_73 n_74 c_75) fun h_78=>(K (.tuple ⟨[]⟩) h_78))))))))))))))))∧(ptrN x0 fun b_79 o_80=>(ldV (HP.cell hp b_79 (o_80+3)) fun v_81=>(slcV v_81 fun a_82 n_83 c_84=>(∀ b_85:Nat,hp b_85=.none→((0≤(x1:Int))∧((x1:Int)≤(c_84:Nat))∧(opS Tryz.prog (Builtin.append_ #[115,115] 115 ⟨[(Value.slice (some ⟨b_85,0,none⟩) 0 0),(Value.slice a_82 (Int.toNat x1) c_84)]⟩) (HP.set hp b_85 (.cells 186 [] 0)) fun u_86 h_87=>(slcV u_86 fun a_88 n_89 c_90=>(ptrN x0 fun b_91 o_92=>(ldV (HP.cell h_87 b_91 (o_92+3)) fun v_93=>(slcV v_93 fun a_94 n_95 c_96=>((0≤((IntKind.wrap .i64 (x1+1)):Int))∧(((IntKind.wrap .i64 (x1+1)):Int)≤(n_95:Nat))∧(n_95≤c_96)∧(opS Tryz.prog (Builtin.append_ #[115,115] 115 ⟨[(Value.slice a_88 n_89 c_90),(Value.slice (sub0 a_94 c_96 (Int.toNat (IntKind.wrap .i64 (x1+1))) 6) (n_95-Int.toNat (IntKind.wrap .i64 (x1+1))) (c_96-Int.toNat (IntKind.wrap .i64 (x1+1))))]⟩) h_87 fun u_97 h_98=>(slcV u_97 fun a_99 n_100 c_101=>(ptrN x0 fun b_102 o_103=>(HP.st h_98 b_102 (o_103+3) (Value.slice a_99 n_100 c_101) fun h_104=>(K (.tuple ⟨[]⟩) h_104))))))))))))))))∧(ptrN x0 fun b_105 o_106=>(ldV (HP.cell hp b_105 (o_106+3)) fun v_107=>(slcV v_107 fun a_108 n_109 c_110=>(∀ b_111:Nat,hp b_111=.none→((0≤(x1:Int))∧((x1:Int)≤(c_110:Nat))∧(ptrN x0 fun b_112 o_113=>(ldV (HP.cell (HP.set hp b_111 (.cells 186 [] 0)) b_112 (o_113+3)) fun v_114=>(slcV v_114 fun a_115 n_116 c_117=>(opS Tryz.prog (Builtin.append_ #[115,115] 115 ⟨[(Value.slice (some ⟨b_111,0,none⟩) 0 0),(Value.slice a_108 (Int.toNat x1) c_110)]⟩) (HP.set hp b_111 (.cells 186 [] 0)) fun u_118 h_119=>(slcV u_118 fun a_120 n_121 c_122=>((0≤((IntKind.wrap .i64 (x1+1)):Int))∧(((IntKind.wrap .i64 (x1+1)):Int)≤(n_116:Nat))∧(n_116≤c_117)∧(opS Tryz.prog (Builtin.append_ #[115,115] 115 ⟨[(Value.slice a_120 n_121 c_122),(Value.slice (sub0 a_115 c_117 (Int.toNat (IntKind.wrap .i64 (x1+1))) 6) (n_116-Int.toNat (IntKind.wrap .i64 (x1+1))) (c_117-Int.toNat (IntKind.wrap .i64 (x1+1))))]⟩) h_119 fun u_123 h_124=>(slcV u_123 fun a_125 n_126 c_127=>(ptrN x0 fun b_128 o_129=>(HP.st h_124 b_128 (o_129+3) (Value.slice a_125 n_126 c_127) fun h_130=>(K (.tuple ⟨[]⟩) h_130))))))))))))))))∧(ptrN x0 fun b_131 o_132=>(ldV (HP.cell hp b_131 (o_132+3)) fun v_133=>(slcV v_133 fun a_134 n_135 c_136=>((0≤(x1:Int))∧((x1:Int)≤(c_136:Nat))∧(ptrN x0 fun b_137 o_138=>(ldV (HP.cell hp b_137 (o_138+3)) fun v_139=>(slcV v_139 fun a_140 n_141 c_142=>(∀ b_143:Nat,hp b_143=.none→(opS Tryz.prog (Builtin.append_ #[115,115] 115 ⟨[(Value.slice (some ⟨b_143,0,none⟩) 0 0),(Value.slice a_134 (Int.toNat x1) c_136)]⟩) (HP.set hp b_143 (.cells 186 [] 0)) fun u_144 h_145=>(slcV u_144 fun a_146 n_147 c_148=>((0≤((IntKind.wrap .i64 (x1+1)):Int))∧(((IntKind.wrap .i64 (x1+1)):Int)≤(n_141:Nat))∧(n_141≤c_142)∧(opS Tryz.prog (Builtin.append_ #[115,115] 115 ⟨[(Value.slice a_146 n_147 c_148),(Value.slice (sub0 a_140 c_142 (Int.toNat (IntKind.wrap .i64 (x1+1))) 6) (n_141-Int.toNat (IntKind.wrap .i64 (x1+1))) (c_142-Int.toNat (IntKind.wrap .i64 (x1+1))))]⟩) h_145 fun u_149 h_150=>(slcV u_149 fun a_151 n_152 c_153=>(ptrN x0 fun b_154 o_155=>(HP.st h_150 b_154 (o_155+3) (Value.slice a_151 n_152 c_153) fun h_156=>(K (.tuple ⟨[]⟩) h_156)))))))))))))))))
theorem F136_ok (x0:OA) (x1:Int) (hp:HP) (K:Kh) (h:F136 x0 x1 hp K):CF Tryz.prog 136 [(Value.pointer x0),(Value.int .i64 x1)] hp K:=
  have L:∀ {Q} n,Snd Tryz.prog 23 (cAt Tryz.f136 (pth n)) Q (CW Tryz.prog 23 [] [(0,[(1,5),(1,12),(8,12)],[([true,false,true],false,[1,8,12,1]),([false,false,true],false,[1,8,12,1]),([true,true,true],true,[0,1,2,3,4,5,6,7,8,9,10,11,12,13,14,15,16,17,18,19]),([true,true,false],true,[0,1,2,3,4,5,6,7,9,10,11,12,8,13,14,15,16,17,18,19]),([true,false,false],true,[0,2,3,4,6,9,10,11,12,1,5,7,8,13,14,15,16,17,18,19]),([false,true,true],true,[0,2,3,4,5,1,6,7,8,9,10,11,12,13,14,15,16,17,18,19]),([false,true,false],true,[0,2,3,4,5,1,6,7,9,10,11,12,8,13,14,15,16,17,18,19]),([false,false,false],true,[0,2,3,4,5,6,7,9,10,11,12,1,8,13,14,15,16,17,18,19])])] (cAt Tryz.f136 (pth n)) Q):=fun _=>Snd.leaf
  okF h Tryz.func136 (L 1) (by kernel_rfl) (by kernel_rfl) (by kernel_rfl)
def F133_j1 (x0 x1:Int) (x25:Bool) (hp:HP) (K:Kh):Prop:=
  (ite2 x25 (K (Value.bool false) hp) (ite2 (decide ((x0:Int)<1024)) (K (Value.bool (decide ((x1:Int)<1024))) hp) (K (Value.bool (decide ((x1:Int)≥1024))) hp)))
def F133 (x0 x1:Int) (hp:HP) (K:Kh):Prop:=
  (ite2 (decide ((x0:Int)<0)) (F133_j1 x0 x1 true hp  K) (ite2 (decide ((x0:Int) > 65535)) (F133_j1 x0 x1 true hp  K) (ite2 (decide ((x1:Int)<0)) (F133_j1 x0 x1 true hp  K) (ite2 (decide ((x1:Int) > 65535)) (F133_j1 x0 x1 true hp  K) (((2:Int)≠0)∧(((2:Int)≠0)∧(F133_j1 x0 x1 (((Int.tmod x0 2):Int) != (Int.tmod x1 2)) hp  K)))))))
theorem F133_ok (x0 x1:Int) (hp:HP) (K:Kh) (h:F133 x0 x1 hp K):CF Tryz.prog 133 [(Value.int .i64 x0),(Value.int .i64 x1)] hp K:=
  have L:∀ {Q} n,Snd Tryz.prog 32 (cAt Tryz.f133 (pth n)) Q (CW Tryz.prog 32 [] [] (cAt Tryz.f133 (pth n)) Q):=fun _=>Snd.leaf
  okF h Tryz.func133 (Snd.seq (L 2) (Snd.seq (Snd.jn [(0,.i .i64),(1,.i .i64),(25,.b)] (fun a hp=>F133_j1 a.1 a.2.1 a.2.2.1 hp  K) (L 9) (L 13) (by rfl) (by kernel_rfl)) (L 7))) (by kernel_rfl) (by kernel_rfl) (by kernel_rfl)
def F14_j1 (x0a:OA) (x0n x0c:Nat) (x1 x2:Int) (hp:HP) (K:Kh):Prop:=
  (ite2 (decide (((x0n:Nat):Int)≥1)) (ite2 (decide (((x0n:Nat):Int)≤4)) (ite2 (decide ((x1:Int)≥0)) (ite2 (decide ((x1:Int)≤x2)) (ite2 (decide ((x2:Int)≤65535)) (K (Value.bool (decide (((IntKind.wrap .i64 ((IntKind.wrap .i64 (x2-x1))+1)):Int)≤1024))) hp) (K (Value.bool false) hp)) (K (Value.bool false) hp)) (K (Value.bool false) hp)) (K (Value.bool false) hp)) (K (Value.bool false) hp))
def F14_j4 (x0a:OA) (x0n x0c:Nat) (x1 x2 x7:Int) (hp:HP) (I3:(Int)→HP→Prop) (K:Kh):Prop:=
  (I3 (IntKind.wrap .i64 (x7+1)) hp)
def F14_l6 (x0a:OA) (x0n x0c:Nat) (x1 x2 x7:Int) (I3:(Int)→HP→Prop) (K:Kh) (I6:(Int)→HP→Prop) (x8:Int) (hp:HP):Prop:=
  (ite2 (decide ((x8:Int)<x7)) ((0≤(x7:Int))∧((x7:Int)<(x0n:Nat))∧(ptrN x0a fun b_1 o_2=>(ldL (HP.cellN hp b_1 (o_2+Int.toNat x7*4) 4) fun l_3=>((0≤(x8:Int))∧((x8:Int)<(x0n:Nat))∧(ptrN x0a fun b_4 o_5=>(ldL (HP.cellN hp b_4 (o_5+Int.toNat x8*4) 4) fun l_6=>(eqAgg Tryz.prog 54 l_3 l_6 fun q_7=>(ite2 q_7 (K (Value.bool false) hp) (I6 (IntKind.wrap .i64 (x8+1)) hp))))))))) (F14_j4 x0a x0n x0c x1 x2 x7 hp I3 K))
def F14_j5 (x0a:OA) (x0n x0c:Nat) (x1 x2 x7 x8:Int) (hp:HP) (I3:(Int)→HP→Prop) (K:Kh):Prop:=
  (LoopP (σ:=Int) (fun I s hp=>F14_l6 x0a x0n x0c x1 x2 x7 I3 K I s hp) x8 hp)
def F14_l3 (x0a:OA) (x0n x0c:Nat) (x1 x2:Int) (K:Kh) (I3:(Int)→HP→Prop) (x7:Int) (hp:HP):Prop:=
  (ite2 (decide ((x7:Int)<(x0n:Nat))) (F14_j5 x0a x0n x0c x1 x2 x7 0 hp I3 K) (F14_j1 x0a x0n x0c x1 x2 hp  K))
def F14_j2 (x0a:OA) (x0n x0c:Nat) (x1 x2 x7:Int) (hp:HP) (K:Kh):Prop:=
  (LoopP (σ:=Int) (fun I s hp=>F14_l3 x0a x0n x0c x1 x2  K I s hp) x7 hp)
def F14 (x0a:OA) (x0n x0c:Nat) (x1 x2:Int) (hp:HP) (K:Kh):Prop:=
  (F14_j2 x0a x0n x0c x1 x2 0 hp  K)
theorem F14_ok (x0a:OA) (x0n x0c:Nat) (x1 x2:Int) (hp:HP) (K:Kh) (h:F14 x0a x0n x0c x1 x2 hp K):CF Tryz.prog 14 [(Value.slice x0a x0n x0c),(Value.int .i64 x1),(Value.int .i64 x2)] hp K:=
  have L:∀ {Q} n,Snd Tryz.prog 57 (cAt Tryz.f14 (pth n)) Q (CW Tryz.prog 57 [] [] (cAt Tryz.f14 (pth n)) Q):=fun _=>Snd.leaf
  okF h Tryz.func14 (Snd.seq (L 2) (Snd.jn [(0,.s),(1,.i .i64),(2,.i .i64)] (fun a hp=>F14_j1 a.1 a.2.1 a.2.2.1 a.2.2.2.1 a.2.2.2.2.1 hp  K) (Snd.jn [(0,.s),(1,.i .i64),(2,.i .i64),(7,.i .i64)] (fun a hp=>F14_j2 a.1 a.2.1 a.2.2.1 a.2.2.2.1 a.2.2.2.2.1 a.2.2.2.2.2.1 hp  K) (L 9) (Snd.block 0 (Snd.lp (σ:=Int) [(0,.s),(1,.i .i64),(2,.i .i64),(7,.i .i64)] (fun a=>a.2.2.2.2.2.1) (fun a s=>(a.1,a.2.1,a.2.2.1,a.2.2.2.1,a.2.2.2.2.1,s,())) (fun a I s hp=>F14_l3 a.1 a.2.1 a.2.2.1 a.2.2.2.1 a.2.2.2.2.1  K I s hp) (fun I3=>(Snd.seq (L 69) (Snd.jn [(0,.s),(1,.i .i64),(2,.i .i64),(7,.i .i64)] (fun a hp=>F14_j4 a.1 a.2.1 a.2.2.1 a.2.2.2.1 a.2.2.2.2.1 a.2.2.2.2.2.1 hp (fun s hp=>I3 (a.1,a.2.1,a.2.2.1,a.2.2.2.1,a.2.2.2.2.1,s,()) hp) K) (Snd.block 1 (Snd.jn [(0,.s),(1,.i .i64),(2,.i .i64),(7,.i .i64),(8,.i .i64)] (fun a hp=>F14_j5 a.1 a.2.1 a.2.2.1 a.2.2.2.1 a.2.2.2.2.1 a.2.2.2.2.2.1 a.2.2.2.2.2.2.1 hp (fun s hp=>I3 (a.1,a.2.1,a.2.2.1,a.2.2.2.1,a.2.2.2.2.1,s,()) hp) K) (L 549) (Snd.block 2 (Snd.lp (σ:=Int) [(0,.s),(1,.i .i64),(2,.i .i64),(7,.i .i64),(8,.i .i64)] (fun a=>a.2.2.2.2.2.2.1) (fun a s=>(a.1,a.2.1,a.2.2.1,a.2.2.2.1,a.2.2.2.2.1,a.2.2.2.2.2.1,s,())) (fun a I s hp=>F14_l6 a.1 a.2.1 a.2.2.1 a.2.2.2.1 a.2.2.2.2.1 a.2.2.2.2.2.1 (fun s hp=>I3 (a.1,a.2.1,a.2.2.1,a.2.2.2.1,a.2.2.2.2.1,s,()) hp) K I s hp) (fun I6=>(L 2341)) (by rfl) (by kernel_rfl) (by kernel_rfl))) (by rfl) (by kernel_rfl))) (L 229) (by rfl) (by kernel_rfl)))) (by rfl) (by kernel_rfl) (by kernel_rfl))) (by rfl) (by kernel_rfl)) (L 7) (by rfl) (by kernel_rfl))) (by kernel_rfl) (by kernel_rfl) (by kernel_rfl)
end Go.Proofs
set_option linter.unusedVariables false
set_option maxRecDepth 20000
namespace Go.Proofs
open Go Go.HL
def hv (kv:(Q × Int) × Bool):List Value:=[.int .u8 kv.1.1.1,.int .u8 kv.1.1.2.1,.int .u8 kv.1.1.2.2.1,.int .u8 kv.1.1.2.2.2,.int .i64 kv.1.2,.bool kv.2]
theorem hv_len (kv:(Q × Int) × Bool):(hv kv).length=6:=rfl
theorem hv_one (kv:(Q × Int) × Bool):(hv kv).all one=true:=rfl
def RefQ (hp0 hp:HP) (q:Nat) (a:Option Addr) (n c:Nat) (l:List Q) (low high:Int) (held:List ((Q × Int) × Bool)) (s:Option Addr) (k:Nat):Prop:=
  HSub hp0 hp∧hp0 q=.none∧Shows hp0 a n 4 (l.flatMap v4)∧l.length=n ∧
    hp q=.cells 117 [.slice a n c,.int .i64 low,.int .i64 high,.slice s held.length k] 0∧Row hp s held.length k 186 6 (held.flatMap hv)
section
variable {hp0 hp:HP} {q:Nat} {a:Option Addr} {n c:Nat} {l:List Q} {low high:Int} {held:List ((Q × Int) × Bool)} {s:Option Addr} {k:Nat} {t:Q × Int} {K:Value→HP→Prop}
theorem RefQ.sub {hp':HP} (hr:RefQ hp0 hp q a n c l low high held s k) (hs:HSub hp hp'):RefQ hp0 hp' q a n c l low high held s k:=
  ⟨hr.1.trans hs,hr.2.1,hr.2.2.1,hr.2.2.2.1,hs.cells hr.2.2.2.2.1,hr.2.2.2.2.2.sub hs⟩
theorem RefQ.cell (hr:RefQ hp0 hp q a n c l low high held s k) (o:Nat):hp.cell q o=[Value.slice a n c,.int .i64 low,.int .i64 high,.slice s held.length k][o]?:=HP.cell_of hr.2.2.2.2.1
theorem RefQ.hk (hr:RefQ hp0 hp q a n c l low high held s k):held.length≤k:=by
  rcases hr.2.2.2.2.2 with ⟨_,h0,_,_⟩ | ⟨_,_,h1,_,_⟩
  · rw [h0]; exact Nat.zero_le _
  · exact h1
theorem RefQ.lst (hr:RefQ hp0 hp q a n c l low high held s k):Shows hp a n 4 (l.flatMap v4):=hr.2.2.1.sub hr.1
theorem C104 {x:Q} (hr:RefQ hp0 hp q a n c l low high held s k) (hn:n≤4) (h:K (.bool (decide (x∈l))) hp):CF Tryz.prog 104 [ptr q 0,.agg ⟨v4 x⟩] hp K:=by
  refine F104_ok _ (v4 x) hp K ?_
  unfold F104 F104_j1
  have hl:=hr.2.2.2.1
  refine LoopP.by (J:=fun m (y:Int) hp'=>hp'=hp∧∃ i:Nat,y=i∧i+m=n∧x ∉ l.take i) ?_ (n:=n) ⟨rfl,0,rfl,by omega,by simp⟩
  rintro I m y hp' ⟨rfl,i,rfl,him,hni⟩ hI
  unfold F104_l2
  simp only [ptrN_some,hr.cell,Nat.zero_add,List.getElem?_cons_zero,ldV_some,slcV_slice]
  by_cases hi:i<n
  · rw [decide_eq_true (by omega:(i:Int)<(n:Int)),ite2_true]
    obtain ⟨b,o,hao,hc⟩:=hr.lst.get v4_len hl hi
    simp only [hao,ptrN_some,Int.toNat_natCast,hc,ldL_some,cellsN_all (v4_len x)]
    refine ⟨by omega,by omega,?_⟩
    refine eq73 ?_
    have hil:i<l.length:=by omega
    by_cases he:l[i]'hil=x
    · rw [decide_eq_true he,ite2_true]
      have:x∈l:=he▸List.getElem_mem hil
      rw [decide_eq_true this] at h
      exact h
    · have w1:IntKind.wrap .i64 ((i:Int)+1)=((i+1:Nat):Int):=wi (by omega) (by omega)
      rw [decide_eq_false he,ite2_false,w1]
      refine hI (m-1) _ _ (by omega) ⟨rfl,i+1,rfl,by omega,?_⟩
      rw [List.take_succ_eq_append_getElem hil,List.mem_append,List.mem_singleton]
      exact fun e=>e.elim hni (fun e=>he e.symm)
  · rw [decide_eq_false (by omega:¬ (i:Int)<(n:Int)),ite2_false]
    rw [List.take_of_length_le (by omega)] at hni
    rw [decide_eq_false hni] at h
    exact h
theorem C135 (hr:RefQ hp0 hp q a n c l low high held s k) (hn:n≤4) (h:K (.bool (decide (mayQ l t=0))) hp):CF Tryz.prog 135 [ptr q 0,.agg ⟨t4 t⟩] hp K:=by
  refine F135_ok _ (t4 t) hp K ?_
  unfold F135
  have q4:(t4 t)[4]?=some (.int .i64 t.2):=rfl
  have q5:cellsN (t4 t) 0 4=some (v4 t.1):=rfl
  simp only [q4,q5,ldV_some,ldL_some,intV_int]
  unfold mayQ isPort at h
  by_cases h1:t.2<0
  · rw [decide_eq_false (by omega:¬ t.2≥0),ite2_false]
    rw [decide_eq_false (by omega:¬ (0≤t.2∧t.2≤65535))] at h
    simpa using h
  rw [decide_eq_true (by omega:t.2≥0),ite2_true]
  by_cases h2:t.2 > 65535
  · rw [decide_eq_false (by omega:¬ t.2≤65535),ite2_false]
    rw [decide_eq_false (by omega:¬ (0≤t.2∧t.2≤65535))] at h
    simpa using h
  rw [decide_eq_true (by omega:t.2≤65535),ite2_true]
  rw [decide_eq_true (by omega:(0≤t.2∧t.2≤65535))] at h
  refine C104 hr hn ?_
  rw [boolV_bool]
  by_cases hm:t.1∈l
  · simpa [hm] using h
  · simpa [hm] using h
theorem del_at:∀ {w:List ((Q × Int) × Bool)} {j:Nat} (hj:j<w.length),w[j].1=t→(∀ (i:Nat) (hi:i<w.length),i<j→w[i].1≠t)→getL t w=some w[j].2∧delL t w=w.take j++w.drop (j+1)
  | [],j,hj,_,_=>by simp at hj
  | p::w,0,hj,he,_=>by
    simp only [List.getElem_cons_zero] at he
    simp [getL,delL,he]
  | p::w,j+1,hj,he,hb=>by
    have h0:=hb 0 (by simp) (by omega)
    simp only [List.getElem_cons_zero] at h0
    have h0':¬ t=p.1:=fun e=>h0 e.symm
    simp only [List.getElem_cons_succ] at he
    obtain ⟨a,b⟩:=del_at (w:=w) (j:=j) (by simpa using hj) he (fun i hi hij=>by
      have:=hb (i+1) (by simpa using hi) (by omega)
      simpa using this)
    simp only [getL,delL,h0',if_false,List.getElem_cons_succ,List.take_succ_cons,List.drop_succ_cons,List.cons_append]
    exact ⟨a,by rw [b]⟩
theorem C134 (hr:RefQ hp0 hp q a n c l low high held s k) (hh:held.length≤65535)
    (hK:∀ v:Int,(v=-1∧getL t held=none)∨(∃ (j:Nat) (hj:j<held.length),v=j∧getL t held=some held[j].2∧delL t held=held.take j++held.drop (j+1))→K (.int .i64 v) hp):CF Tryz.prog 134 [ptr q 0,.agg ⟨t4 t⟩] hp K:=by
  refine F134_ok _ (t4 t) hp K ?_
  unfold F134 F134_j1
  refine LoopP.by (J:=fun m (y:Int) hp'=>hp'=hp∧∃ i:Nat,y=i∧i+m=held.length∧∀ (j:Nat) (hj:j<held.length),j<i→held[j].1≠t) ?_ (n:=held.length) ⟨rfl,0,rfl,by omega,fun j hj h=>by omega⟩
  rintro I m y hp' ⟨rfl,i,rfl,him,hni⟩ hI
  unfold F134_l2
  simp only [ptrN_some,hr.cell,Nat.zero_add,List.getElem?_cons_succ,List.getElem?_cons_zero,ldV_some,slcV_slice]
  by_cases hi:i<held.length
  · rw [decide_eq_true (by omega:(i:Int)<(held.length:Int)),ite2_true]
    obtain ⟨b,o,hao,hc⟩:=hr.2.2.2.2.2.shows.get hv_len rfl hi
    have hc5:hp'.cellN b (o+i*6+0) 5=some (t4 held[i].1):=by
      rw [cellN_cellN hc (by omega)]; rfl
    simp only [hao,ptrN_some,Int.toNat_natCast,hc5,ldL_some,cellsN_all (t4_len t)]
    refine ⟨by omega,by omega,?_⟩
    refine eq75 ?_
    by_cases he:held[i].1=t
    · rw [decide_eq_true he,ite2_true]
      obtain ⟨g1,g2⟩:=del_at hi he hni
      exact hK _ (.inr ⟨i,hi,rfl,g1,g2⟩)
    · have w1:IntKind.wrap .i64 ((i:Int)+1)=((i+1:Nat):Int):=wi (by omega) (by omega)
      rw [decide_eq_false he,ite2_false,w1]
      refine hI (m-1) _ _ (by omega) ⟨rfl,i+1,rfl,by omega,fun j hj hji=>?_⟩
      by_cases hje:j=i
      · subst hje; exact he
      · exact hni j hj (by omega)
  · rw [decide_eq_false (by omega:¬ (i:Int)<(held.length:Int)),ite2_false]
    refine hK _ (.inl ⟨rfl,getL_none.2 fun hm=>?_⟩)
    obtain ⟨kv,hkv,he⟩:=List.mem_map.1 hm
    obtain ⟨j,hj,rfl⟩:=List.getElem_of_mem hkv
    exact hni j hj (by omega) he
def is_ (held:List ((Q × Int) × Bool)) (t:Q × Int):Bool × Bool:=match getL t held with | none=>(false,false) | some r=>(!r,r)
theorem C105 (hr:RefQ hp0 hp q a n c l low high held s k) (hh:held.length≤65535) (h:K (.tuple ⟨[.bool (is_ held t).1,.bool (is_ held t).2]⟩) hp):CF Tryz.prog 105 [ptr q 0,.agg ⟨t4 t⟩] hp K:=by
  refine F105_ok _ (t4 t) hp K ?_
  unfold F105
  rw [cellsN_all (t4_len t),ldL_some]
  refine C134 hr hh fun v hv'=>?_
  rw [intV_int]
  unfold is_ at h
  rcases hv' with ⟨rfl,hg⟩ | ⟨j,hj,rfl,hg,_⟩
  · rw [hg] at h
    exact h
  · rw [hg] at h
    rw [decide_eq_false (by omega:¬ (j:Int)<0),ite2_false]
    obtain ⟨b,o,hao,hc⟩:=hr.2.2.2.2.2.shows.get hv_len rfl hj
    have hc5:hp.cell b (o+j*6+5)=some (.bool held[j].2):=HP.cell_cellN hc rfl
    simp only [ptrN_some,hr.cell,Nat.zero_add,List.getElem?_cons_succ,List.getElem?_cons_zero,ldV_some,slcV_slice,hao,Int.toNat_natCast,hc5,boolV_bool]
    exact ⟨by omega,by omega,by omega,by omega,h⟩
/-! How the list is made longer, and shorter: always anew. -/
theorem app_first {h:HP} {b1 m cc:Nat} {ss:Option Addr} {xs:List Value} (h1:HSub hp h) (hb:h b1=.cells 186 [] 0) (hpb:hp b1=.none) (hs:Shows hp ss m 6 xs) (ho:xs.all one=true) (hm:m≤65535) {X:Value→HP→Prop}
    (hX:∀ s2 c2 h',HSub hp h'→(∀ hx,HSub hx h→hx b1=.none→HSub hx h')→Row h' s2 m c2 186 6 xs→(∀ b,s2=some ⟨b,0,none⟩→hp b=.none)→X (.slice s2 m c2) h') :
    opS Tryz.prog (Builtin.append_ #[115,115] 115 ⟨[.slice (some ⟨b1,0,none⟩) 0 0,.slice ss m cc]⟩) h X:=by
  have r0:Row h (some ⟨b1,0,none⟩) 0 0 186 6 []:=.inr ⟨b1,rfl,Nat.le_refl _,by simp,by simpa using hb⟩
  refine opS_appF (e:=186) (size:=6) (bytes:=24) (by kernel_rfl) r0 (hs.sub h1) ho (by omega) (by omega) ?_
  intro s2 c2 h' hrow hf
  rw [Nat.zero_add,List.nil_append] at hrow
  rw [Nat.zero_add]
  obtain ⟨k1,k2⟩:=hf hp h1 (fun b e=>by cases e; exact hpb)
  exact hX s2 c2 h' k1 (fun hx hs' hn=>(hf hx hs' (fun b e=>by cases e; exact hn)).1) hrow k2
theorem app_st {h:HP} {s2 sa:Option Addr} {m c2 r ca:Nat} {xs ys A:List Value} (hq:hp q=.cells 117 A 0) (hA:A.length=4) (h1:HSub hp h) (hrow:Row h s2 m c2 186 6 xs) (hfr:∀ b,s2=some ⟨b,0,none⟩→hp b=.none)
    (hsa:Shows h sa r 6 ys) (ho:ys.all one=true) (hm:m+r≤65536) {X:HP→Prop}
    (hX:∀ h'' s3 c3,HSub (hp.set q .none) h''→h'' q=.cells 117 (A.set 3 (.slice s3 (m+r) c3)) 0→Row h'' s3 (m+r) c3 186 6 (xs++ys)→X h'') :
    opS Tryz.prog (Builtin.append_ #[115,115] 115 ⟨[.slice s2 m c2,.slice sa r ca]⟩) h fun u h'=>slcV u fun a n c=>HP.st h' q 3 (.slice a n c) X:=by
  refine opS_appF (e:=186) (size:=6) (bytes:=24) (by kernel_rfl) hrow hsa ho (by omega) (by omega) ?_
  intro s3 c3 h' hrow' hf
  obtain ⟨k1,k2⟩:=hf hp h1 hfr
  rw [slcV_slice]
  have hq':=k1.cells hq
  refine HP.st_at hq' (by omega) ?_
  refine hX _ s3 c3 ?_ (HP.set_eq ..) ?_
  · intro x
    by_cases hx:x=q
    · subst hx; exact .inl (HP.set_eq ..)
    · rw [HP.set_ne _ _ hx,HP.set_ne _ _ hx]; exact k1 x
  · rcases hrow' with hrow' | ⟨b,g1,g2,g3,g4⟩
    · exact .inl hrow'
    · exact .inr ⟨b,g1,g2,g3,by rw [HP.set_ne _ _ (fun e=>by rw [e,hq'] at g4; cases g4)]; exact g4⟩
def Chg (hp0 hp:HP) (q:Nat) (a:Option Addr) (n c:Nat) (l:List Q) (low high:Int) (held:List ((Q × Int) × Bool)) (X:HP→Prop):Prop:=
  ∀ hp' s' k',HSub (hp.set q .none) hp'→RefQ hp0 hp' q a n c l low high held s' k'→X hp'
theorem chg_of (hr:RefQ hp0 hp q a n c l low high held s k) {held':List ((Q × Int) × Bool)} {X:HP→Prop} (hX:Chg hp0 hp q a n c l low high held' X) {xs:List Value} {m:Nat} (hxs:xs=held'.flatMap hv) (hm:m=held'.length) :
    ∀ h'' s3 c3,HSub (hp.set q .none) h''→h'' q=.cells 117 ([Value.slice a n c,.int .i64 low,.int .i64 high,.slice s held.length k].set 3 (.slice s3 m c3)) 0→Row h'' s3 m c3 186 6 xs→X h'':=by
  intro h'' s3 c3 g1 g2 g3
  subst hxs hm
  refine hX h'' s3 c3 g1 ⟨HSub.trans ?_ g1,hr.2.1,hr.2.2.1,hr.2.2.2.1,g2,g3⟩
  intro x
  by_cases hx:x=q
  · subst hx; exact .inl hr.2.1
  · rw [HP.set_ne _ _ hx]; exact hr.1 x
theorem put1 (hr:RefQ hp0 hp q a n c l low high held s k) (hh:held.length≤65535) {kv:(Q × Int) × Bool} {X:HP→Prop} (hX:Chg hp0 hp q a n c l low high (held++[kv]) X) :
    ∀ b1,hp b1=.none→opS Tryz.prog (Builtin.append_ #[115,115] 115 ⟨[.slice (some ⟨b1,0,none⟩) 0 0,.slice s held.length k]⟩) (hp.set b1 (.cells 186 [] 0)) fun u h=>slcV u fun a' n' c'=>
      ∀ b2,h b2=.none→opS Tryz.prog (Builtin.append_ #[115,115] 115 ⟨[.slice a' n' c',.slice (some ⟨b2,0,none⟩) 1 1]⟩) (h.set b2 (.cells 186 (hv kv) 0)) fun u h'=>slcV u fun a n c=>HP.st h' q 3 (.slice a n c) X:=by
  intro b1 hb1
  refine app_first (HSub.set_fresh _ _ hb1) (HP.set_eq ..) hb1 hr.2.2.2.2.2.shows (all_flat hv_one _) hh ?_
  intro s2 c2 h' k1 _ hrow hfr
  rw [slcV_slice]
  intro b2 hb2
  have k2:=HSub.set_fresh h' (.cells 186 (hv kv) 0) hb2
  refine app_st hr.2.2.2.2.1 rfl (k1.trans k2) (hrow.sub k2) hfr (.inr ⟨b2,0,rfl,by rw [HP.cellN_of (HP.set_eq ..)]; exact cellsN_all rfl⟩) (hv_one kv) (by omega) (chg_of hr hX (by simp) (by simp))
theorem put2 (hr:RefQ hp0 hp q a n c l low high held s k) (hh:held.length≤65535) {kv:(Q × Int) × Bool} {X:HP→Prop} (hX:Chg hp0 hp q a n c l low high (held++[kv]) X) :
    ∀ b1,hp b1=.none→∀ b2,(hp.set b1 (.cells 186 [] 0)) b2=.none→opS Tryz.prog (Builtin.append_ #[115,115] 115 ⟨[.slice (some ⟨b1,0,none⟩) 0 0,.slice s held.length k]⟩) ((hp.set b1 (.cells 186 [] 0)).set b2 (.cells 186 (hv kv) 0)) fun u h=>slcV u fun a' n' c'=>
      opS Tryz.prog (Builtin.append_ #[115,115] 115 ⟨[.slice a' n' c',.slice (some ⟨b2,0,none⟩) 1 1]⟩) h fun u h'=>slcV u fun a n c=>HP.st h' q 3 (.slice a n c) X:=by
  intro b1 hb1 b2 hb2
  have hne:b2≠b1:=fun e=>by rw [e,HP.set_eq] at hb2; cases hb2
  have hb2':hp b2=.none:=by rw [HP.set_ne _ _ hne] at hb2; exact hb2
  refine app_first ((HSub.set_fresh _ _ hb1).trans (HSub.set_fresh _ _ hb2)) (by rw [HP.set_ne _ _ hne.symm]; exact HP.set_eq ..) hb1 hr.2.2.2.2.2.shows (all_flat hv_one _) hh ?_
  intro s2 c2 h' k1 k2 hrow hfr
  rw [slcV_slice]
  have k3:=k2 (HP.onlyF b2 (.cells 186 (hv kv) 0)) (HSub.onlyF (HP.set_eq ..)) (HP.onlyF_ne _ hne.symm)
  have hc:h' b2=.cells 186 (hv kv) 0:=k3.cells (HP.onlyF_eq ..)
  refine app_st hr.2.2.2.2.1 rfl k1 hrow hfr (.inr ⟨b2,0,rfl,by rw [HP.cellN_of hc]; exact cellsN_all rfl⟩) (hv_one kv) (by omega) (chg_of hr hX (by simp) (by simp))
theorem put3 (hr:RefQ hp0 hp q a n c l low high held s k) (hh:held.length≤65535) {kv:(Q × Int) × Bool} {X:HP→Prop} (hX:Chg hp0 hp q a n c l low high (held++[kv]) X) :
    ∀ b2,hp b2=.none→∀ b1,(hp.set b2 (.cells 186 (hv kv) 0)) b1=.none→opS Tryz.prog (Builtin.append_ #[115,115] 115 ⟨[.slice (some ⟨b1,0,none⟩) 0 0,.slice s held.length k]⟩) ((hp.set b2 (.cells 186 (hv kv) 0)).set b1 (.cells 186 [] 0)) fun u h=>slcV u fun a' n' c'=>
      opS Tryz.prog (Builtin.append_ #[115,115] 115 ⟨[.slice a' n' c',.slice (some ⟨b2,0,none⟩) 1 1]⟩) h fun u h'=>slcV u fun a n c=>HP.st h' q 3 (.slice a n c) X:=by
  intro b2 hb2 b1 hb1
  have hne:b1≠b2:=fun e=>by rw [e,HP.set_eq] at hb1; cases hb1
  have hb1':hp b1=.none:=by rw [HP.set_ne _ _ hne] at hb1; exact hb1
  refine app_first ((HSub.set_fresh _ _ hb2).trans (HSub.set_fresh _ _ hb1)) (HP.set_eq ..) hb1' hr.2.2.2.2.2.shows (all_flat hv_one _) hh ?_
  intro s2 c2 h' k1 k2 hrow hfr
  rw [slcV_slice]
  have k3:=k2 (HP.onlyF b2 (.cells 186 (hv kv) 0)) (HSub.onlyF (by rw [HP.set_ne _ _ hne.symm]; exact HP.set_eq ..)) (HP.onlyF_ne _ hne)
  have hc:h' b2=.cells 186 (hv kv) 0:=k3.cells (HP.onlyF_eq ..)
  refine app_st hr.2.2.2.2.1 rfl k1 hrow hfr (.inr ⟨b2,0,rfl,by rw [HP.cellN_of hc]; exact cellsN_all rfl⟩) (hv_one kv) (by omega) (chg_of hr hX (by simp) (by simp))
theorem RefQ.read {b:Nat} {x:Ent} (hr:RefQ hp0 hp q a n c l low high held s k) (hb:hp b=.none) (o:Nat):(hp.set b x).cell q o=[Value.slice a n c,.int .i64 low,.int .i64 high,.slice s held.length k][o]?:=(hr.sub (HSub.set_fresh _ _ hb)).cell o
theorem RefQ.read2 {b b':Nat} {x x':Ent} (hr:RefQ hp0 hp q a n c l low high held s k) (hb:hp b=.none) (hb':(hp.set b x) b'=.none) (o:Nat):((hp.set b x).set b' x').cell q o=[Value.slice a n c,.int .i64 low,.int .i64 high,.slice s held.length k][o]?:=(hr.sub ((HSub.set_fresh _ _ hb).trans (HSub.set_fresh _ _ hb'))).cell o
theorem h6 (t:Q × Int) (r:Bool):splice [(Value.int .u8 0),(Value.int .u8 0),(Value.int .u8 0),(Value.int .u8 0),(Value.int .i64 0),(Value.bool false)] 0 (List.set (splice [(Value.int .u8 0),(Value.int .u8 0),(Value.int .u8 0),(Value.int .u8 0),(Value.int .i64 0),(Value.bool false)] 0 (t4 t)) 5 (Value.bool r))=hv (t,r):=rfl
theorem h6l (t:Q × Int) (r:Bool):(List.set (splice [(Value.int .u8 0),(Value.int .u8 0),(Value.int .u8 0),(Value.int .u8 0),(Value.int .i64 0),(Value.bool false)] 0 (t4 t)) 5 (Value.bool r)).length=6:=rfl
theorem C106 (hr:RefQ hp0 hp q a n c l low high held s k) (hn:n≤4) (hh:held.length≤65535)
    (hno:reserveQ l held t≠0→K (.int .i64 (reserveQ l held t)) hp)
    (hyes:reserveQ l held t=0→Chg hp0 hp q a n c l low high (putL t true held) fun hp'=>K (.int .i64 0) hp'):CF Tryz.prog 106 [ptr q 0,.agg ⟨t4 t⟩] hp K:=by
  refine F106_ok _ (t4 t) hp K ?_
  unfold F106
  rw [cellsN_all (t4_len t),ldL_some]
  refine C135 hr hn ?_
  rw [boolV_bool]
  unfold reserveQ at hno hyes
  rcases mayQ_cases l t with hm | hm
  · rw [hm] at hno hyes ⊢
    show ite2 false _ _
    rw [ite2_false,ldL_some]
    refine C134 hr hh fun v hv'=>?_
    rw [intV_int]
    rcases hv' with ⟨rfl,hg⟩ | ⟨j,hj,rfl,hg,_⟩
    · have hX:=hyes (by simp [hg])
      rw [put_new hg] at hX
      show ite2 false _ _
      rw [ite2_false]
      have e1:=put1 hr hh hX
      have e2:=put2 hr hh hX
      have e3:=put3 hr hh hX
      simp (contextual:=true) only [ptrN_some,hr.cell,hr.read,hr.read2,Nat.zero_add,List.getElem?_cons_succ,List.getElem?_cons_zero,ldV_some,slcV_slice,ldL_some,t4_len,h6,h6l,if_true]
      refine ⟨?_,?_,?_,?_,?_,?_,?_,?_⟩
      all_goals first | exact e1 | exact e2 | exact e3
    · rw [decide_eq_true (by omega:(j:Int)≥0),ite2_true]
      have:=hno (by simp [hg])
      simpa [hg] using this
  · rw [hm] at hno ⊢
    exact hno (by simp)
end
end Go.Proofs
set_option linter.unusedVariables false
set_option maxRecDepth 20000
namespace Go.Proofs
open Go Go.HL
section
variable {hp0 hp:HP} {q:Nat} {a:Option Addr} {n c:Nat} {l:List Q} {low high:Int} {held:List ((Q × Int) × Bool)} {s:Option Addr} {k:Nat} {t:Q × Int} {K:Value→HP→Prop}
theorem drop1 (hr:RefQ hp0 hp q a n c l low high held s k) (hh:held.length≤65535) {j:Nat} (hj:j<held.length) {X:HP→Prop} (hX:Chg hp0 hp q a n c l low high (held.take j++held.drop (j+1)) X) :
    ∀ b1,hp b1=.none→opS Tryz.prog (Builtin.append_ #[115,115] 115 ⟨[.slice (some ⟨b1,0,none⟩) 0 0,.slice s j k]⟩) (hp.set b1 (.cells 186 [] 0)) fun u h=>slcV u fun a' n' c'=>
      opS Tryz.prog (Builtin.append_ #[115,115] 115 ⟨[.slice a' n' c',.slice (sub0 s k (j+1) 6) (held.length-(j+1)) (k-(j+1))]⟩) h fun u h'=>slcV u fun a n c=>HP.st h' q 3 (.slice a n c) X:=by
  intro b1 hb1
  refine app_first (HSub.set_fresh _ _ hb1) (HP.set_eq ..) hb1 (hr.2.2.2.2.2.shows.take hv_len rfl (by omega)) (all_flat hv_one _) (by omega) ?_
  intro s2 c2 h' k1 _ hrow hfr
  rw [slcV_slice]
  have sh:=((hr.sub k1).2.2.2.2.2.shows).subF (c:=k) (i:=j+1) hv_len rfl hr.hk (by omega)
  refine app_st hr.2.2.2.2.1 rfl k1 hrow hfr sh (all_flat hv_one _) (by omega) (chg_of hr hX (by rw [List.flatMap_append]) ?_)
  rw [List.length_append,List.length_take,List.length_drop]; omega
theorem drop2 (hr:RefQ hp0 hp q a n c l low high held s k) (hh:held.length≤65535) {j:Nat} (hj:j<held.length) {X:HP→Prop} (hX:Chg hp0 hp q a n c l low high (held.take j++held.drop (j+1)) X) :
    ∀ b1,hp b1=.none→opS Tryz.prog (Builtin.append_ #[115,115] 115 ⟨[.slice (some ⟨b1,0,none⟩) 0 0,.slice s j k]⟩) (hp.set b1 (.cells 186 [] 0)) fun u h=>slcV u fun a' n' c'=>
      ldV (h.cell q 3) fun v=>slcV v fun a2 n2 c2=>(((j+1:Nat):Int)≤(n2:Nat))∧(n2≤c2) ∧
      opS Tryz.prog (Builtin.append_ #[115,115] 115 ⟨[.slice a' n' c',.slice (sub0 a2 c2 (j+1) 6) (n2-(j+1)) (c2-(j+1))]⟩) h fun u h'=>slcV u fun a n c=>HP.st h' q 3 (.slice a n c) X:=by
  intro b1 hb1
  refine app_first (HSub.set_fresh _ _ hb1) (HP.set_eq ..) hb1 (hr.2.2.2.2.2.shows.take hv_len rfl (by omega)) (all_flat hv_one _) (by omega) ?_
  intro s2 c2 h' k1 _ hrow hfr
  rw [slcV_slice,(hr.sub k1).cell]
  simp only [List.getElem?_cons_succ,List.getElem?_cons_zero,ldV_some,slcV_slice]
  refine ⟨by omega,hr.hk,?_⟩
  have sh:=((hr.sub k1).2.2.2.2.2.shows).subF (c:=k) (i:=j+1) hv_len rfl hr.hk (by omega)
  refine app_st hr.2.2.2.2.1 rfl k1 hrow hfr sh (all_flat hv_one _) (by omega) (chg_of hr hX (by rw [List.flatMap_append]) ?_)
  rw [List.length_append,List.length_take,List.length_drop]; omega
theorem C136 (hr:RefQ hp0 hp q a n c l low high held s k) (hh:held.length≤65535) {j:Nat} (hj:j<held.length)
    (hX:Chg hp0 hp q a n c l low high (held.take j++held.drop (j+1)) fun hp'=>K (.tuple ⟨[]⟩) hp'):CF Tryz.prog 136 [ptr q 0,.int .i64 j] hp K:=by
  refine F136_ok _ (j:Int) hp K ?_
  unfold F136
  have e1:=drop1 hr hh hj hX
  have e2:=drop2 hr hh hj hX
  have w1:IntKind.wrap .i64 ((j:Int)+1)=((j+1:Nat):Int):=wi (by omega) (by omega)
  have hk:=hr.hk
  have z0:(0≤(j:Int))=True:=eq_true (by omega)
  have z1:((j:Int)≤(k:Nat))=True:=eq_true (by omega)
  have z2:(0≤((j+1:Nat):Int))=True:=eq_true (by omega)
  have z3:(((j+1:Nat):Int)≤(held.length:Nat))=True:=eq_true (by omega)
  have z4:(held.length≤k)=True:=eq_true (by omega)
  simp (contextual:=true) only [ptrN_some,hr.cell,hr.read,Nat.zero_add,List.getElem?_cons_succ,List.getElem?_cons_zero,ldV_some,slcV_slice,w1,Int.toNat_natCast,z0,z1,z2,z3,z4,true_and]
  repeat' apply And.intro
  all_goals first | exact e1 | exact e2
theorem C96 (hr:RefQ hp0 hp q a n c l low high held s k) (hn:n≤4) (hh:held.length≤65535)
    (hno:giveQ l held t≠0→K (.int .i64 (giveQ l held t)) hp)
    (hyes:giveQ l held t=0→Chg hp0 hp q a n c l low high (delL t held) fun hp'=>K (.int .i64 0) hp'):CF Tryz.prog 96 [ptr q 0,.agg ⟨t4 t⟩] hp K:=by
  refine F96_ok _ (t4 t) hp K ?_
  unfold F96
  rw [cellsN_all (t4_len t),ldL_some]
  refine C135 hr hn ?_
  rw [boolV_bool]
  unfold giveQ at hno hyes
  rcases mayQ_cases l t with hm | hm
  · rw [hm] at hno hyes ⊢
    show ite2 false _ _
    rw [ite2_false,ldL_some]
    refine C134 hr hh fun v hv'=>?_
    rw [intV_int]
    rcases hv' with ⟨rfl,hg⟩ | ⟨j,hj,rfl,hg,hd⟩
    · have:=hno (by simp [hg])
      simpa [hg] using this
    · rw [decide_eq_false (by omega:¬ (j:Int)<0),ite2_false]
      obtain ⟨b,o,hao,hc⟩:=hr.2.2.2.2.2.shows.get hv_len rfl hj
      have hc5:hp.cell b (o+j*6+5)=some (.bool held[j].2):=HP.cell_cellN hc rfl
      simp only [ptrN_some,hr.cell,Nat.zero_add,List.getElem?_cons_succ,List.getElem?_cons_zero,ldV_some,slcV_slice,hao,Int.toNat_natCast,hc5,boolV_bool]
      refine ⟨by omega,by omega,?_⟩
      cases hb:held[j].2
      · rw [hb] at hg
        have hX:=hyes (by simp [hg])
        rw [hd] at hX
        rw [ite2_false]
        exact C136 hr hh hj hX
      · rw [hb] at hg
        have:=hno (by simp [hg])
        simpa [hg] using this
  · rw [hm] at hno ⊢
    exact hno (by simp)
theorem C110 (hr:RefQ hp0 hp q a n c l low high held s k) (hn:n≤4) (hh:held.length≤65535)
    (hno:releaseQ l held t≠0→K (.int .i64 (releaseQ l held t)) hp)
    (hyes:releaseQ l held t=0→Chg hp0 hp q a n c l low high (delL t held) fun hp'=>K (.int .i64 0) hp'):CF Tryz.prog 110 [ptr q 0,.agg ⟨t4 t⟩] hp K:=by
  refine F110_ok _ (t4 t) hp K ?_
  unfold F110
  rw [cellsN_all (t4_len t),ldL_some]
  refine C135 hr hn ?_
  rw [boolV_bool]
  unfold releaseQ at hno hyes
  rcases mayQ_cases l t with hm | hm
  · rw [hm] at hno hyes ⊢
    show ite2 false _ _
    rw [ite2_false,ldL_some]
    refine C134 hr hh fun v hv'=>?_
    rw [intV_int]
    rcases hv' with ⟨rfl,hg⟩ | ⟨j,hj,rfl,hg,hd⟩
    · have:=hno (by simp [hg])
      simpa [hg,F110_j1] using this
    · rw [decide_eq_false (by omega:¬ (j:Int)<0),ite2_false]
      obtain ⟨b,o,hao,hc⟩:=hr.2.2.2.2.2.shows.get hv_len rfl hj
      have hc5:hp.cell b (o+j*6+5)=some (.bool held[j].2):=HP.cell_cellN hc rfl
      simp only [ptrN_some,hr.cell,Nat.zero_add,List.getElem?_cons_succ,List.getElem?_cons_zero,ldV_some,slcV_slice,hao,Int.toNat_natCast,hc5,boolV_bool]
      refine ⟨by omega,by omega,?_⟩
      unfold F110_j1
      cases hb:held[j].2
      · rw [hb] at hg
        have:=hno (by simp [hg])
        simpa [hg] using this
      · rw [hb] at hg
        have hX:=hyes (by simp [hg])
        rw [hd] at hX
        show ite2 false _ _
        rw [ite2_false]
        exact C136 hr hh hj hX
  · rw [hm] at hno ⊢
    exact hno (by simp)
theorem C64 (hr:RefQ hp0 hp q a n c l low high held s k) (hn:n≤4) (hh:held.length≤65535) (hb:0≤low∧low≤65535∧0≤high∧high≤65535) (h:K (.int .i64 (freeQ l low high held)) hp):CF Tryz.prog 64 [ptr q 0] hp K:=by
  refine F64_ok _ hp K ?_
  have hl:=hr.2.2.2.1
  unfold F64 F64_j7
  have hmul:∀ i:Nat,i≤4→(i:Int)*(high-low+1)≤4*65536∧-(4*65536)≤(i:Int)*(high-low+1):=by
    intro i hi
    have hl0:i=0∨i=1∨i=2∨i=3∨i=4:=by omega
    rcases hl0 with e | e | e | e | e <;> rw [e] <;> constructor <;> omega
  have hsucc:∀ i:Nat,((i+1:Nat):Int)*(high-low+1)=(i:Int)*(high-low+1)+high-low+1:=by
    intro i
    have:((i+1:Nat):Int)=(i:Int)+1:=by omega
    rw [this,Int.add_mul,Int.one_mul]; omega
  have f:(held.filter (fun kv=>decide (low≤kv.1.2)&&decide (kv.1.2≤high))).length≤held.length:=List.length_filter_le _ _
  refine LoopP.by (J:=fun m (y:Int × Int) hp'=>hp'=hp∧∃ i:Nat,y.2=i∧i+m=n∧y.1=(i:Int)*(high-low+1)) ?_ (n:=n) ⟨rfl,0,rfl,by omega,by simp⟩
  rintro I m ⟨y1,y2⟩ hp' ⟨rfl,i,hy2,him,hy1⟩ hI
  simp only at hy1 hy2
  subst hy1 hy2
  unfold F64_l8
  simp only [ptrN_some,hr.cell,Nat.zero_add,List.getElem?_cons_succ,List.getElem?_cons_zero,ldV_some,slcV_slice,intV_int]
  by_cases hi:i<n
  · have w1:IntKind.wrap .i64 ((i:Int)+1)=((i+1:Nat):Int):=wi (by omega) (by omega)
    obtain ⟨g1,g2⟩:=hmul i (by omega)
    have hs:=hsucc i
    rw [decide_eq_true (by omega:(i:Int)<(n:Int)),ite2_true,w1]
    generalize (i:Int)*(high-low+1)=N at *
    rw [w64 (n:=N+high) (by omega) (by omega),w64 (n:=N+high-low) (by omega) (by omega),w64 (n:=N+high-low+1) (by omega) (by omega)]
    exact hI (m-1) _ _ (by omega) ⟨rfl,i+1,rfl,by omega,hs.symm⟩
  · rw [decide_eq_false (by omega:¬ (i:Int)<(n:Int)),ite2_false]
    unfold F64_j1 F64_j3
    have hin:i=l.length:=by omega
    subst hin
    obtain ⟨g1,g2⟩:=hmul l.length (by omega)
    unfold freeQ at h
    generalize ((l.length:Nat):Int)*(high-low+1)=N at *
    refine LoopP.by (J:=fun m (y:Int × Int) hp''=>hp''=hp'∧∃ j:Nat,y.2=j∧j+m=held.length∧y.1=N-((held.take j).filter (fun kv=>decide (low≤kv.1.2)&&decide (kv.1.2≤high))).length) ?_ (n:=held.length) ⟨rfl,0,rfl,by omega,by simp⟩
    rintro I' m' ⟨y1,y2⟩ hp'' ⟨rfl,j,hy2,hjm,hy1⟩ hI'
    simp only at hy1 hy2
    subst hy1 hy2
    unfold F64_l4
    simp only [ptrN_some,hr.cell,Nat.zero_add,List.getElem?_cons_succ,List.getElem?_cons_zero,ldV_some,slcV_slice,intV_int]
    by_cases hj:j<held.length
    · rw [decide_eq_true (by omega:(j:Int)<(held.length:Int)),ite2_true]
      obtain ⟨b,o,hao,hc⟩:=hr.2.2.2.2.2.shows.get hv_len rfl hj
      have hc5:hp''.cell b (o+j*6+0+4)=some (.int .i64 held[j].1.2):=by
        have:o+j*6+0+4=o+j*6+4:=by omega
        rw [this]; exact HP.cell_cellN hc rfl
      simp only [hao,ptrN_some,Int.toNat_natCast,hc5,ldV_some,intV_int]
      refine ⟨by omega,by omega,?_⟩
      have hfl:((held.take j).filter (fun kv=>decide (low≤kv.1.2)&&decide (kv.1.2≤high))).length≤(held.take j).length:=List.length_filter_le _ _
      rw [List.length_take] at hfl
      have hf:(held.take (j+1)).filter (fun kv=>decide (low≤kv.1.2)&&decide (kv.1.2≤high))=(held.take j).filter (fun kv=>decide (low≤kv.1.2)&&decide (kv.1.2≤high))++if (decide (low≤held[j].1.2)&&decide (held[j].1.2≤high)) then [held[j]] else []:=by
        rw [List.take_succ_eq_append_getElem hj,List.filter_append,List.filter_cons]
        rfl
      have w1:IntKind.wrap .i64 ((j:Int)+1)=((j+1:Nat):Int):=wi (by omega) (by omega)
      have fin:∀ b:Bool,b=(decide (low≤held[j].1.2)&&decide (held[j].1.2≤high))→F64_j6 (some ⟨q,0,none⟩) (N-((held.take j).filter (fun kv=>decide (low≤kv.1.2)&&decide (kv.1.2≤high))).length) j b hp'' I' K:=by
        intro b hbq
        have hI'':=hI' (m' - 1) (N-((held.take (j+1)).filter (fun kv=>decide (low≤kv.1.2)&&decide (kv.1.2≤high))).length,((j+1:Nat):Int)) hp'' (by omega) ⟨rfl,j+1,rfl,by omega,rfl⟩
        rw [hf,← hbq] at hI''
        unfold F64_j6 F64_j5
        rw [w1]
        cases b
        · rw [ite2_false]
          simpa using hI''
        · rw [ite2_true,w64 (by omega) (by omega)]
          have e:N-(((held.take j).filter (fun kv=>decide (low≤kv.1.2)&&decide (kv.1.2≤high))).length:Int)-1=N-((((held.take j).filter (fun kv=>decide (low≤kv.1.2)&&decide (kv.1.2≤high)))++[held[j]]).length:Nat):=by
            rw [List.length_append]; simp only [List.length_cons,List.length_nil]; omega
          rw [e]
          exact hI''
      by_cases h1:held[j].1.2≥low
      · rw [decide_eq_true h1,ite2_true]
        refine ⟨by omega,by omega,?_⟩
        exact fin _ (by rw [decide_eq_true (by omega:low≤held[j].1.2),Bool.true_and])
      · rw [decide_eq_false h1,ite2_false]
        exact fin _ (by rw [decide_eq_false (by omega:¬ low≤held[j].1.2),Bool.false_and])
    · rw [decide_eq_false (by omega:¬ (j:Int)<(held.length:Int)),ite2_false]
      unfold F64_j2
      rw [List.take_of_length_le (by omega)]
      exact h
end
end Go.Proofs
set_option linter.unusedVariables false
set_option maxRecDepth 20000
namespace Go.Proofs
open Go Go.HL
section
variable {hp0 hp:HP} {q:Nat} {a:Option Addr} {n c:Nat} {l:List Q} {low high:Int} {held:List ((Q × Int) × Bool)} {s:Option Addr} {k:Nat} {t:Q × Int} {K:Value→HP→Prop}
def orderD (first:Q) (l:List Q):List Q:=(if first∈l then [first] else [])++l.filter (fun x=>decide (x≠first))
theorem orderD_eq {first:Q} {l:List Q} (hnd:l.Nodup):orderD first l=orderQ first l:=by
  unfold orderD orderQ
  have hfe:l.filter (fun x=>decide (x≠first))=l.erase first:=by
    rw [hnd.erase_eq_filter]
    refine List.filter_congr fun x _=>?_
    by_cases e:x=first <;> simp [e]
  split
  · rename_i hm
    have hi:idx first l=(l.idxOf first:Int):=by unfold idx; rw [if_pos hm]
    by_cases h0:idx first l > 0
    · rw [if_pos h0,hfe]; rfl
    · rw [if_neg h0,hfe]
      have hz:l.idxOf first=0:=by omega
      cases l with
      | nil=>cases hm
      | cons y l=>
        rw [List.idxOf_cons] at hz
        by_cases e:y=first
        · subst e; simp
        · have hb:(y==first)=false:=by rw [beq_eq_false_iff_ne]; exact e
          rw [hb] at hz; simp at hz
  · rename_i hm
    have hi:¬ idx first l > 0:=by unfold idx; rw [if_neg hm]; omega
    rw [if_neg hi,hfe,List.erase_of_not_mem hm]; rfl
end
end Go.Proofs
set_option linter.unusedVariables false
set_option maxRecDepth 20000
namespace Go.Proofs
open Go Go.HL
theorem cls133 (x y:Int):cls x y=(decide (0≤x)&&decide (x≤65535)&&decide (0≤y)&&decide (y≤65535)&&(x.tmod 2==y.tmod 2)&&(if x<1024 then decide (y<1024) else decide (y≥1024))):=by
  unfold cls isPort
  rw [Bool.eq_iff_iff]
  simp only [Bool.and_eq_true,decide_eq_true_eq,beq_iff_eq]
  split
  · simp only [decide_eq_true_eq]
    constructor
    · rintro ⟨⟨⟨a,b⟩,c⟩,d⟩
      have:decide (x<1024)=true:=decide_eq_true (by assumption)
      rw [this] at c
      exact ⟨⟨⟨⟨⟨a.1,a.2⟩,b.1⟩,b.2⟩,d⟩,by simpa using c.symm⟩
    · rintro ⟨⟨⟨⟨⟨a,b⟩,c⟩,d⟩,e⟩,f⟩
      exact ⟨⟨⟨⟨a,b⟩,⟨c,d⟩⟩,by rw [decide_eq_true (by assumption:x<1024),decide_eq_true f]⟩,e⟩
  · simp only [decide_eq_true_eq]
    constructor
    · rintro ⟨⟨⟨a,b⟩,c⟩,d⟩
      have:decide (x<1024)=false:=decide_eq_false (by assumption)
      rw [this] at c
      have c':=of_decide_eq_false c.symm
      exact ⟨⟨⟨⟨⟨a.1,a.2⟩,b.1⟩,b.2⟩,d⟩,by omega⟩
    · rintro ⟨⟨⟨⟨⟨a,b⟩,c⟩,d⟩,e⟩,f⟩
      exact ⟨⟨⟨⟨a,b⟩,⟨c,d⟩⟩,by rw [decide_eq_false (by assumption:¬ x<1024),decide_eq_false (by omega)]⟩,e⟩
theorem C133 {x y:Int} {hp:HP} {K:Value→HP→Prop} (h:K (.bool (cls x y)) hp):CF Tryz.prog 133 [.int .i64 x,.int .i64 y] hp K:=by
  refine F133_ok x y hp K ?_
  unfold F133
  rw [cls133] at h
  by_cases h0:x<0
  · rw [decide_eq_true h0,ite2_true]; unfold F133_j1
    rw [decide_eq_false (by omega:¬ 0≤x)] at h
    simpa using h
  rw [decide_eq_false h0,ite2_false]
  by_cases h1:x > 65535
  · rw [decide_eq_true h1,ite2_true]; unfold F133_j1
    rw [decide_eq_false (by omega:¬ x≤65535)] at h
    simpa using h
  rw [decide_eq_false h1,ite2_false]
  by_cases h2:y<0
  · rw [decide_eq_true h2,ite2_true]; unfold F133_j1
    rw [decide_eq_false (by omega:¬ 0≤y)] at h
    simpa using h
  rw [decide_eq_false h2,ite2_false]
  by_cases h3:y > 65535
  · rw [decide_eq_true h3,ite2_true]; unfold F133_j1
    rw [decide_eq_false (by omega:¬ y≤65535)] at h
    simpa using h
  rw [decide_eq_false h3,ite2_false]
  refine ⟨by decide,by decide,?_⟩
  rw [decide_eq_true (by omega:0≤x),decide_eq_true (by omega:x≤65535),decide_eq_true (by omega:0≤y),decide_eq_true (by omega:y≤65535)] at h
  simp only [Bool.true_and] at h
  unfold F133_j1
  by_cases h4:x.tmod 2=y.tmod 2
  · have e:(x.tmod 2 != y.tmod 2)=false:=by simp [h4]
    rw [e,ite2_false]
    have e':(x.tmod 2==y.tmod 2)=true:=by simp [h4]
    rw [e',Bool.true_and] at h
    by_cases h5:x<1024
    · rw [if_pos h5] at h
      rw [decide_eq_true h5]; exact h
    · rw [if_neg h5] at h
      rw [decide_eq_false h5]; exact h
  · have e:(x.tmod 2 != y.tmod 2)=true:=by simp [h4]
    rw [e,ite2_true]
    have e':(x.tmod 2==y.tmod 2)=false:=by simp [h4]
    rw [e',Bool.false_and] at h
    exact h
theorem C14 {a:Option Addr} {n c:Nat} {l:List Q} {low high:Int} {hp:HP} {K:Value→HP→Prop} (hs:Shows hp a n 4 (l.flatMap v4)) (hl:l.length=n) (hn:n≤1000000)
    (hlo:-9223372036854775808≤low∧low≤9223372036854775807) (hhi:-9223372036854775808≤high∧high≤9223372036854775807)
    (h:K (.bool (newOk l low high)) hp):CF Tryz.prog 14 [.slice a n c,.int .i64 low,.int .i64 high] hp K:=by
  refine F14_ok a n c low high hp K ?_
  unfold F14 F14_j2
  refine LoopP.by (J:=fun k (x:Int) hp'=>hp'=hp∧∃ i:Nat,x=i∧i+k=n∧(l.take i).Nodup) ?_ (n:=n) ⟨rfl,0,rfl,by omega,by simp⟩
  rintro I k x hp' ⟨rfl,i,rfl,hik,hnd⟩ hI
  unfold F14_l3
  by_cases hi:i<n
  · rw [decide_eq_true (by omega:(i:Int)<(n:Int)),ite2_true]
    unfold F14_j5
    refine LoopP.by (J:=fun k' (y:Int) hp''=>hp''=hp'∧∃ j:Nat,y=j∧j+k'=i∧∀ j':Nat,j'<j→l[j']?≠l[i]?) ?_ (n:=i) ⟨rfl,0,rfl,by omega,fun j' hj'=>by omega⟩
    rintro I' k' y hp'' ⟨rfl,j,rfl,hjk,hne⟩ hI'
    unfold F14_l6
    by_cases hj:j<i
    · rw [decide_eq_true (by omega:(j:Int)<(i:Int)),ite2_true]
      obtain ⟨b,o,rfl,hc⟩:=hs.get v4_len hl hi
      obtain ⟨b',o',hbo,hc'⟩:=hs.get v4_len hl (show j<n by omega)
      cases hbo
      simp only [ptrN_some,Int.toNat_natCast,hc,hc',ldL_some]
      refine ⟨by omega,by omega,by omega,by omega,eq73 ?_⟩
      by_cases he:l[i]'(hl▸hi)=l[j]'(by omega)
      · rw [decide_eq_true he,ite2_true]
        have:newOk l low high=false:=by
          unfold newOk
          have:¬ l.Nodup:=fun hnd'=>by
            have:=List.nodup_iff_pairwise_ne.1 hnd'
            have:=List.pairwise_iff_getElem.1 this j i (by omega) (by omega) hj
            exact this he.symm
          simp [this]
        rw [this] at h; exact h
      · rw [decide_eq_false he,ite2_false,w64 (by omega) (by omega)]
        refine hI' (k' - 1) _ _ (by omega) ⟨rfl,j+1,by omega,by omega,fun j' hj'=>?_⟩
        by_cases hjj:j'=j
        · subst hjj
          rw [List.getElem?_eq_getElem (by omega),List.getElem?_eq_getElem (hl▸hi)]
          exact fun e=>he (Option.some.inj e).symm
        · exact hne j' (by omega)
    · rw [decide_eq_false (by omega:¬ (j:Int)<(i:Int)),ite2_false]
      unfold F14_j4
      rw [w64 (by omega) (by omega)]
      have hji:j=i:=by omega
      subst hji
      refine hI (k-1) _ _ (by omega) ⟨rfl,j+1,by omega,by omega,nodup_take (hl▸hi) hnd ?_⟩
      intro hm
      obtain ⟨j',hj',e⟩:=List.getElem_of_mem hm
      simp only [List.length_take] at hj'
      refine hne j' (by omega) ?_
      rw [List.getElem?_eq_getElem (by omega),List.getElem?_eq_getElem (hl▸hi),← e]
      simp
  · rw [decide_eq_false (by omega:¬ (i:Int)<(n:Int)),ite2_false]
    have hin:i=l.length:=by omega
    subst hin
    rw [List.take_length] at hnd
    have hN:newOk l low high=(decide (1≤l.length)&&decide (l.length≤4)&&isPort low&&isPort high&&decide (low≤high)&&decide (high-low<1024)):=by
      unfold newOk; simp [hnd]
    rw [hN] at h
    unfold F14_j1
    by_cases g1:l.length<1
    · rw [decide_eq_false (by omega:¬ ((n:Nat):Int)≥1),ite2_false]
      rw [decide_eq_false (by omega:¬ 1≤l.length)] at h
      simpa using h
    rw [decide_eq_true (by omega:((n:Nat):Int)≥1),ite2_true]
    by_cases g2:4<l.length
    · rw [decide_eq_false (by omega:¬ ((n:Nat):Int)≤4),ite2_false]
      rw [decide_eq_false (by omega:¬ l.length≤4)] at h
      simpa using h
    rw [decide_eq_true (by omega:((n:Nat):Int)≤4),ite2_true]
    unfold isPort at h
    by_cases g3:low<0
    · rw [decide_eq_false (by omega:¬ low≥0),ite2_false]
      rw [decide_eq_false (by omega:¬ (0≤low∧low≤65535))] at h
      simpa using h
    rw [decide_eq_true (by omega:low≥0),ite2_true]
    by_cases g4:high<low
    · rw [decide_eq_false (by omega:¬ low≤high),ite2_false]
      rw [decide_eq_false (by omega:¬ low≤high)] at h
      simpa using h
    rw [decide_eq_true (by omega:low≤high),ite2_true]
    by_cases g5:65535<high
    · rw [decide_eq_false (by omega:¬ high≤65535),ite2_false]
      rw [decide_eq_false (by omega:¬ (0≤high∧high≤65535))] at h
      simpa using h
    rw [decide_eq_true (by omega:high≤65535),ite2_true,w64 (n:=high-low) (by omega) (by omega),w64 (by omega) (by omega)]
    rw [decide_eq_true (by omega:1≤l.length),decide_eq_true (by omega:l.length≤4),decide_eq_true (by omega:low≤high),decide_eq_true (by omega:0≤low∧low≤65535),decide_eq_true (by omega:0≤high∧high≤65535)] at h
    have e:decide (high-low+1≤1024)=decide (high-low<1024):=by
      rw [Bool.eq_iff_iff]; simp only [decide_eq_true_eq]; omega
    rw [e]
    simpa using h
end Go.Proofs
set_option linter.unusedVariables false
set_option maxRecDepth 20000
namespace Go.Proofs
open Go Go.HL
section
variable {hp0 hp:HP} {q:Nat} {a:Option Addr} {n c:Nat} {l:List Q} {low high:Int} {held:List ((Q × Int) × Bool)} {s:Option Addr} {k:Nat} {t:Q × Int} {K:Value→HP→Prop}
theorem Chg.mono {hp1:HP} {X Y:HP→Prop} (h:Chg hp0 hp q a n c l low high held X) (hs:HSub hp hp1) (hxy:∀ hp',X hp'→Y hp'):Chg hp0 hp1 q a n c l low high held Y:=
  fun hp' s' k' h1 h2=>hxy hp' (h hp' s' k' ((HSub.set hs q .none).trans h1) h2)
theorem C95 {first:Q} {x:Int} {plain:Bool} (hr:RefQ hp0 hp q a n c l low high held s k) (hn:n≤4) (hh:held.length≤65535) (hb:0≤low∧low≤65535∧0≤high∧high≤65535) (hnd:l.Nodup)
    (harg:isPort x=false→K (.tuple ⟨[.agg ⟨t4 (q0,0)⟩,.int .i64 1]⟩) hp)
    (hfull:isPort x=true→takeQ l low high held first x plain=none→K (.tuple ⟨[.agg ⟨t4 (q0,0)⟩,.int .i64 6]⟩) hp)
    (hgot:isPort x=true→∀ t,takeQ l low high held first x plain=some t→Chg hp0 hp q a n c l low high (putL t false held) fun hp'=>K (.tuple ⟨[.agg ⟨t4 t⟩,.int .i64 0]⟩) hp') :
    CF Tryz.prog 95 [ptr q 0,.agg ⟨v4 first⟩,.int .i64 x,.bool plain] hp K:=by
  refine CF.drop (F95_ok _ (v4 first) x plain hp _ ?_)
  have hl:=hr.2.2.2.1
  unfold F95
  have hz5:[Value.int .u8 0,.int .u8 0,.int .u8 0,.int .u8 0,.int .i64 0]=t4 (q0,0):=rfl
  have hz4:[Value.int .u8 0,.int .u8 0,.int .u8 0,.int .u8 0]=v4 q0:=rfl
  have hsp:∀ x,splice (t4 (q0,0)) 0 (t4 x)=t4 x:=fun x=>splice_all rfl
  have hsp4:∀ x,splice (v4 q0) 0 (v4 x)=v4 x:=fun x=>splice_all rfl
  have bad:isPort x=false→F95_j1 (some ⟨q,0,none⟩) x plain true (v4 first) [Value.int .u8 0,.int .u8 0,.int .u8 0,.int .u8 0,.int .i64 0] hp (fun v hp'=>∃ hp'',HSub hp'' hp'∧K v hp''):=by
    intro hx
    unfold F95_j1
    simp only [ite2_true,hz5,t4_len,t4_one,if_true,hsp,cellsN_all (t4_len _),ldL_some]
    refine ifI (by omega) ?_
    exact ⟨hp,HSub.refl _,harg hx⟩
  by_cases h1:x<0
  · rw [decide_eq_true h1,ite2_true]
    exact bad (by unfold isPort; exact decide_eq_false (by omega))
  rw [decide_eq_false h1,ite2_false]
  by_cases h2:x > 65535
  · rw [decide_eq_true h2]
    exact bad (by unfold isPort; exact decide_eq_false (by omega))
  rw [decide_eq_false h2]
  have hx:isPort x=true:=by unfold isPort; exact decide_eq_true (by omega)
  unfold F95_j1
  rw [ite2_false]
  intro b2 hb2
  have s2:=HSub.set_fresh hp (.cells 54 [] 0) hb2
  rw [cellsN_all (v4_len first),ldL_some]
  have hr2:=hr.sub s2
  have r0:Row (hp.set b2 (.cells 54 [] 0)) (some ⟨b2,0,none⟩) 0 0 54 4 []:=.inr ⟨b2,rfl,Nat.le_refl _,by simp,by simp [HP.set_eq]⟩
  refine C104 hr2 hn ?_
  rw [boolV_bool]
  have two:∀ (hp1:HP) (s1:Option Addr) (n1 c1:Nat),HSub hp hp1→Row hp1 s1 n1 c1 54 4 ((if first∈l then [first] else []).flatMap v4)→n1=(if first∈l then [first] else []).length→(∀ b,s1=some ⟨b,0,none⟩→hp b=.none) →
      F95_j2 (some ⟨q,0,none⟩) x plain s1 n1 c1 (v4 first) [Value.int .u8 0,.int .u8 0,.int .u8 0,.int .u8 0,.int .i64 0] hp1 (fun v hp'=>∃ hp'',HSub hp'' hp'∧K v hp''):=by
    intro hp1 s1 n1 c1 h01 hrow1 hn1 hfr1
    unfold F95_j2 F95_j12
    have hpl:(if first∈l then [first] else []).length≤1:=by split <;> simp
    refine LoopP.by (J:=fun m (y:Option Addr × Nat × Nat × Int) hp'=>∃ i:Nat,y.2.2.2=i∧i+m=n∧HSub hp hp'∧Row hp' y.1 y.2.1 y.2.2.1 54 4 (((if first∈l then [first] else [])++(l.take i).filter (fun x=>decide (x≠first))).flatMap v4)∧y.2.1=((if first∈l then [first] else [])++(l.take i).filter (fun x=>decide (x≠first))).length∧∀ b,y.1=some ⟨b,0,none⟩→hp b=.none) ?_
      (n:=n) ⟨0,rfl,by omega,h01,by simpa using hrow1,by simpa using hn1,hfr1⟩
    clear h01 hrow1 hn1 hfr1
    rintro I m ⟨s3,n3,c3,y⟩ hp3 ⟨i,hy,him,h03,hrow3,hn3,hfr3⟩ hI
    simp only at hy hrow3 hn3 hfr3
    subst hy
    generalize hpre:(if first∈l then [first] else [])=pre at *
    have hr3:=hr.sub h03
    unfold F95_l13
    simp only [ptrN_some,hr3.cell,Nat.zero_add,List.getElem?_cons_zero,ldV_some,slcV_slice]
    by_cases hi:i<n
    · have hil:i<l.length:=by omega
      rw [decide_eq_true (by omega:(i:Int)<(n:Int)),ite2_true]
      obtain ⟨bl,ol,haol,hcl⟩:=hr3.lst.get v4_len hl hi
      simp only [haol,ptrN_some,Int.toNat_natCast,hcl,ldL_some,cellsN_all (v4_len _)]
      refine ⟨by omega,by omega,?_⟩
      refine eq73 ?_
      have w1:IntKind.wrap .i64 ((i:Int)+1)=((i+1:Nat):Int):=wi (by omega) (by omega)
      have hfl:((l.take i).filter (fun x=>decide (x≠first))).length≤(l.take i).length:=List.length_filter_le _ _
      rw [List.length_take] at hfl
      have hn3':=hn3
      rw [List.length_append] at hn3'
      by_cases he:l[i]=first
      · rw [decide_eq_true he,Bool.not_true,ite2_false]
        unfold F95_j14
        rw [w1]
        have hf:(l.take (i+1)).filter (fun x=>decide (x≠first))=(l.take i).filter (fun x=>decide (x≠first)):=by
          rw [List.take_succ_eq_append_getElem hil,List.filter_append]; simp [he]
        exact hI (m-1) _ _ (by omega) ⟨i+1,rfl,by omega,h03,by rw [hf]; exact hrow3,by rw [hf]; exact hn3,hfr3⟩
      · rw [decide_eq_false he,Bool.not_false,ite2_true]
        refine ⟨by omega,by omega,?_⟩
        refine ifI (v4_len _) ?_
        intro b5 hb5
        rw [hz4,hsp4]
        have s5:=HSub.set_fresh hp3 (.cells 54 (v4 l[i]) 0) hb5
        refine opS_appF (e:=54) (size:=4) (bytes:=4) (by kernel_rfl) (hrow3.sub s5) (.inr ⟨b5,0,rfl,by rw [HP.cellN_of (HP.set_eq ..)]; exact cellsN_all rfl⟩) (v4_one _) (by omega) (by omega) ?_
        intro s6 c6 hp6 hrow6 hf6
        obtain ⟨k1,k2⟩:=hf6 hp (h03.trans s5) hfr3
        rw [slcV_slice]
        unfold F95_j14
        rw [w1]
        have hf:pre++(l.take (i+1)).filter (fun x=>decide (x≠first))=(pre++(l.take i).filter (fun x=>decide (x≠first)))++[l[i]]:=by
          rw [List.take_succ_eq_append_getElem hil,List.filter_append,List.append_assoc]; simp [he]
        refine hI (m-1) _ _ (by omega) ⟨i+1,rfl,by omega,k1,?_,?_,k2⟩
        · rw [hf,List.flatMap_append]
          have:([l[i]]).flatMap v4=v4 l[i]:=by simp
          rw [this]; exact hrow6
        · simp only
          rw [hf,List.length_append,← hn3]; rfl
    rw [decide_eq_false (by omega:¬ (i:Int)<(n:Int)),ite2_false]
    have hO':pre++(l.take i).filter (fun x=>decide (x≠first))=orderQ first l:=by
      rw [← orderD_eq hnd,List.take_of_length_le (by omega),← hpre]; rfl
    rw [hO'] at hrow3 hn3
    have hol:=orderQ_len (first:=first) (l:=l)
    have htq:takeQ l low high held first x plain=(orderQ first l).findSome? (firstIn low high held x plain):=rfl
    generalize hO:orderQ first l=O at *
    subst hn3
    clear hI him
    unfold F95_j3 F95_j5
    refine LoopP.by (J:=fun k (s:Int × List Value) hp'=>hp'=hp3∧s.2=t4 (q0,0)∧∃ i:Nat,s.1=i∧i+k=O.length∧takeQ l low high held first x plain=(O.drop i).findSome? (firstIn low high held x plain)) ?_ (n:=O.length)
      ⟨rfl,hz5,0,rfl,by omega,htq⟩
    rintro I m' ⟨x1,k8⟩ hp' ⟨rfl,hk8,i,hxi,hik,hO2⟩ hI
    simp only at hk8 hxi
    subst hk8; subst hxi
    unfold F95_l6
    by_cases hi:i<O.length
    · rw [decide_eq_true (by omega:(i:Int)<(O.length:Int)),ite2_true]
      obtain ⟨b,o,hs3,hc⟩:=hrow3.shows.get v4_len rfl hi
      simp only [ptrN_some,hr3.cell,Nat.zero_add,List.getElem?_cons_succ,List.getElem?_cons_zero,ldV_some,intV_int]
      unfold F95_j8
      rw [List.drop_eq_getElem_cons hi,List.findSome?_cons] at hO2
      refine LoopP.by (J:=fun k' (s:Int × List Value) hp''=>hp''=hp'∧s.2=t4 (q0,0)∧k'=(high+1-s.1).toNat∧low≤s.1 ∧
        firstIn low high held x plain O[i]=(ports k' s.1).findSome? (freeAt held x plain O[i])) ?_ (n:=(high+1-low).toNat) ⟨rfl,rfl,rfl,Int.le_refl _,rfl⟩
      rintro I' k' ⟨y,k8⟩ hp'' ⟨rfl,hk8,hk',hly,hfi⟩ hI'
      simp only at hk8 hk' hly hfi
      subst hk8
      unfold F95_l9
      simp only [ptrN_some,hr3.cell,Nat.zero_add,List.getElem?_cons_succ,List.getElem?_cons_zero,ldV_some,intV_int]
      by_cases hyh:y≤high
      · have hset:(splice (t4 (q0,0)) 0 (v4 O[i])).set 4 (.int .i64 y)=t4 (O[i],y):=rfl
        simp only [decide_eq_true hyh,ite2_true,hs3,ptrN_some,Int.toNat_natCast,hc,ldL_some,v4_len,if_true,hz5,hset,t4_len,t4_one,hsp,cellsN_all (t4_len _)]
        rw [← hs3]
        refine ⟨by omega,by omega,?_⟩
        refine ifI (by omega) ?_
        obtain ⟨kk,rfl⟩:∃ kk,k'=kk+1:=⟨k' - 1,by omega⟩
        rw [ports,List.findSome?_cons] at hfi
        have next:freeAt held x plain O[i] y=none→F95_j10 (some ⟨q,0,none⟩) x plain s3 O.length c3 i y false (t4 (q0,0)) (t4 (O[i],y)) hp'' I I' (fun v hp'=>∃ hp'',HSub hp'' hp'∧K v hp''):=by
          intro hf
          unfold F95_j10
          rw [ite2_false,w64 (by omega) (by omega)]
          rw [hf] at hfi
          exact hI' kk _ _ (by omega) ⟨rfl,rfl,by simp only; omega,by simp only; omega,hfi⟩
        have found:freeAt held x plain O[i] y=some (O[i],y)→F95_j10 (some ⟨q,0,none⟩) x plain s3 O.length c3 i y true (t4 (q0,0)) (t4 (O[i],y)) hp'' I I' (fun v hp'=>∃ hp'',HSub hp'' hp'∧K v hp''):=by
          intro hf
          have hg:=(freeAt_some hf).2.1
          rw [hf] at hfi
          rw [hfi] at hO2
          have hX:=(hgot hx _ hO2).mono h03 (Y:=fun h=>F95_j11 (t4 (q0,0)) (t4 (O[i],y)) h I I' (fun v hp'=>∃ hp'',HSub hp'' hp'∧K v hp'')) fun hp9 hk9=>by
            unfold F95_j11
            simp only [cellsN_all (t4_len _),ldL_some,t4_len,t4_one,if_true,hsp]
            refine ifI (by omega) ?_
            exact ⟨hp9,HSub.refl _,hk9⟩
          rw [put_new hg] at hX
          unfold F95_j10
          rw [ite2_true]
          have e1:=put1 hr3 hh hX
          have e2:=put2 hr3 hh hX
          have e3:=put3 hr3 hh hX
          simp (contextual:=true) only [ptrN_some,hr3.cell,hr3.read,hr3.read2,Nat.zero_add,List.getElem?_cons_succ,List.getElem?_cons_zero,ldV_some,slcV_slice,ldL_some,cellsN_all (t4_len _),t4_len,h6,h6l,if_true]
          refine ⟨?_,?_,?_,?_,?_,?_,?_,?_⟩
          all_goals first | exact e1 | exact e2 | exact e3
        have look:(plain||cls x y)=true→CF Tryz.prog 134 [.pointer (some ⟨q,0,none⟩),.agg ⟨t4 (O[i],y)⟩] hp'' fun u h=>intV u .i64 fun v=>F95_j10 (some ⟨q,0,none⟩) x plain s3 O.length c3 i y (decide (v<0)) (t4 (q0,0)) (t4 (O[i],y)) h I I' (fun v hp'=>∃ hp'',HSub hp'' hp'∧K v hp''):=by
          intro hc
          refine C134 hr3 hh fun v hv'=>?_
          rw [intV_int]
          rcases hv' with ⟨rfl,hg⟩ | ⟨j,hj,rfl,hg,_⟩
          · exact found (by simp [freeAt,hg,hc])
          · rw [decide_eq_false (by omega:¬ (j:Int)<0)]
            exact next (by simp [freeAt,hg])
        cases plain
        · rw [ite2_false]
          refine C133 ?_
          rw [boolV_bool]
          cases hcl:cls x y
          · rw [ite2_false]
            exact next (by simp [freeAt,hcl])
          · rw [ite2_true]
            exact look (by simp [hcl])
        · rw [ite2_true]
          exact look rfl
      · rw [decide_eq_false hyh,ite2_false]
        unfold F95_j7
        have:k'=0:=by omega
        subst this
        rw [ports,List.findSome?_nil] at hfi
        rw [hfi] at hO2
        rw [w64 (by omega) (by omega)]
        exact hI (m' - 1) _ _ (by omega) ⟨rfl,rfl,i+1,by simp,by omega,hO2⟩
    · rw [decide_eq_false (by omega:¬ (i:Int)<(O.length:Int)),ite2_false]
      unfold F95_j4
      rw [List.drop_eq_nil_of_le (by omega),List.findSome?_nil] at hO2
      simp only [hz5,t4_len,t4_one,if_true,hsp,cellsN_all (t4_len _),ldL_some]
      refine ifI (by omega) ?_
      exact ⟨hp,h03,hfull hx hO2⟩
  by_cases hm:first∈l
  · rw [decide_eq_true hm,ite2_true,ldL_some]
    refine ifI (v4_len _) ?_
    intro b3 hb3
    rw [hz4,hsp4]
    have s3:=HSub.set_fresh (hp.set b2 (.cells 54 [] 0)) (.cells 54 (v4 first) 0) hb3
    refine opS_appF (e:=54) (size:=4) (bytes:=4) (by kernel_rfl) (r0.sub s3) (.inr ⟨b3,0,rfl,by rw [HP.cellN_of (HP.set_eq ..)]; exact cellsN_all rfl⟩) (v4_one _) (by omega) (by omega) ?_
    intro s6 c6 hp6 hrow6 hf6
    obtain ⟨k1,k2⟩:=hf6 hp (s2.trans s3) (fun b e=>by cases e; exact hb2)
    rw [slcV_slice]
    refine two hp6 s6 _ c6 k1 ?_ ?_ k2
    · rw [if_pos hm]; simpa using hrow6
    · rw [if_pos hm]; rfl
  · rw [decide_eq_false hm,ite2_false]
    refine two _ _ 0 0 s2 ?_ ?_ (fun b e=>by cases e; exact hb2)
    · rw [if_neg hm]; exact r0
    · rw [if_neg hm]; rfl
end
end Go.Proofs
set_option linter.unusedVariables false
set_option maxRecDepth 20000
namespace Go.Proofs
open Go Go.HL
def F15_j1 (x9:OA) (hp:HP) (K:Kh):Prop:=
  (K (Value.pointer x9) hp)
def F15_l3 (x0a:OA) (x0n x0c:Nat) (x1 x2:Int) (x9:OA) (K:Kh) (I3:(Int)→HP→Prop) (x10:Int) (hp:HP):Prop:=
  (ite2 (decide ((x10:Int)<3)) (ptrN x9 fun b_2 o_3=>(ldV (HP.cell hp b_2 (o_3+3)) fun v_4=>(slcV v_4 fun a_5 n_6 c_7=>(∀ b_8:Nat,hp b_8=.none→(∀ b_9:Nat,(HP.set hp b_8 (.cells 117 [(Value.slice x0a x0n x0c),(Value.int .i64 x1),(Value.int .i64 x2),(Value.slice none 0 0)] 0)) b_9=.none→(opS Tryz.prog (Builtin.append_ #[111,111] 111 ⟨[(Value.slice a_5 n_6 c_7),(Value.slice (some ⟨b_9,0,none⟩) 1 1)]⟩) (HP.set (HP.set hp b_8 (.cells 117 [(Value.slice x0a x0n x0c),(Value.int .i64 x1),(Value.int .i64 x2),(Value.slice none 0 0)] 0)) b_9 (.cells 114 [(ptr b_8 0)] 0)) fun u_10 h_11=>(slcV u_10 fun a_12 n_13 c_14=>(ptrN x9 fun b_15 o_16=>(HP.st h_11 b_15 (o_16+3) (Value.slice a_12 n_13 c_14) fun h_17=>(I3 (IntKind.wrap .i64 (x10+1)) h_17)))))))))) (F15_j1 x9 hp  K))
def F15_j2 (x0a:OA) (x0n x0c:Nat) (x1 x2:Int) (x9:OA) (x10:Int) (hp:HP) (K:Kh):Prop:=
  (LoopP (σ:=Int) (fun I s hp=>F15_l3 x0a x0n x0c x1 x2 x9  K I s hp) x10 hp)
def F15 (x0a:OA) (x0n x0c:Nat) (x1 x2 x3:Int) (hp:HP) (K:Kh):Prop:=
  (∀ b_1:Nat,hp b_1=.none→(F15_j2 x0a x0n x0c x1 x2 (some ⟨b_1,0,none⟩) 0 (HP.set hp b_1 (.cells 113 [(Value.int .i64 x3),(Value.int .i64 0),(Value.slice none 0 0),(Value.slice none 0 0)] 0))  K))
theorem F15_ok (x0a:OA) (x0n x0c:Nat) (x1 x2 x3:Int) (hp:HP) (K:Kh) (h:F15 x0a x0n x0c x1 x2 x3 hp K):CF Tryz.prog 15 [(Value.slice x0a x0n x0c),(Value.int .i64 x1),(Value.int .i64 x2),(Value.int .i64 x3)] hp K:=
  have L:∀ {Q} n,Snd Tryz.prog 33 (cAt Tryz.f15 (pth n)) Q (CW Tryz.prog 33 [] [] (cAt Tryz.f15 (pth n)) Q):=fun _=>Snd.leaf
  okF h Tryz.func15 (Snd.seq (L 2) (Snd.seq (L 5) (Snd.jn [(9,.p)] (fun a hp=>F15_j1 a.1 hp  K) (Snd.jn [(0,.s),(1,.i .i64),(2,.i .i64),(9,.p),(10,.i .i64)] (fun a hp=>F15_j2 a.1 a.2.1 a.2.2.1 a.2.2.2.1 a.2.2.2.2.1 a.2.2.2.2.2.1 a.2.2.2.2.2.2.1 hp  K) (L 19) (Snd.block 0 (Snd.lp (σ:=Int) [(0,.s),(1,.i .i64),(2,.i .i64),(9,.p),(10,.i .i64)] (fun a=>a.2.2.2.2.2.2.1) (fun a s=>(a.1,a.2.1,a.2.2.1,a.2.2.2.1,a.2.2.2.2.1,a.2.2.2.2.2.1,s,())) (fun a I s hp=>F15_l3 a.1 a.2.1 a.2.2.1 a.2.2.2.1 a.2.2.2.2.1 a.2.2.2.2.2.1  K I s hp) (fun I3=>(L 75)) (by rfl) (by kernel_rfl) (by kernel_rfl))) (by rfl) (by kernel_rfl)) (L 15) (by rfl) (by kernel_rfl)))) (by kernel_rfl) (by kernel_rfl) (by kernel_rfl)
def F63 (x0:Int) (hp:HP) (K:Kh):Prop:=
  (ite2 ((x0:Int)==1) (K (Value.int .i64 0) hp) (ite2 ((x0:Int)==6) (K (Value.int .i64 1) hp) (ite2 ((x0:Int)==17) (K (Value.int .i64 2) hp) (K (Value.int .i64 (-1)) hp))))
theorem F63_ok (x0:Int) (hp:HP) (K:Kh) (h:F63 x0 hp K):CF Tryz.prog 63 [(Value.int .i64 x0)] hp K:=
  have L:∀ {Q} n,Snd Tryz.prog 10 (cAt Tryz.f63 (pth n)) Q (CW Tryz.prog 10 [] [] (cAt Tryz.f63 (pth n)) Q):=fun _=>Snd.leaf
  okF h Tryz.func63 (L 1) (by kernel_rfl) (by kernel_rfl) (by kernel_rfl)
def F103 (x0:Int) (hp:HP) (K:Kh):Prop:=
  (ite2 (decide ((x0:Int)≥0)) (K (Value.bool (decide ((x0:Int)<65536))) hp) (K (Value.bool false) hp))
theorem F103_ok (x0:Int) (hp:HP) (K:Kh) (h:F103 x0 hp K):CF Tryz.prog 103 [(Value.int .i64 x0)] hp K:=
  have L:∀ {Q} n,Snd Tryz.prog 9 (cAt Tryz.f103 (pth n)) Q (CW Tryz.prog 9 [] [] (cAt Tryz.f103 (pth n)) Q):=fun _=>Snd.leaf
  okF h Tryz.func103 (L 1) (by kernel_rfl) (by kernel_rfl) (by kernel_rfl)
def F66_j3 (x0:OA) (x1 x7:Int) (x38:Bool) (k5:List Value) (hp:HP) (I2:(Int)→HP→Prop) (K:Kh):Prop:=
  (ite2 x38 (K (Value.int .i64 x7) hp) (I2 (IntKind.wrap .i64 (x7+1)) hp))
def F66_l2 (x0:OA) (x1:Int) (k5:List Value) (K:Kh) (I2:(Int)→HP→Prop) (x7:Int) (hp:HP):Prop:=
  (ptrN x0 fun b_1 o_2=>(ldV (HP.cell hp b_1 (o_2+2)) fun v_3=>(slcV v_3 fun a_4 n_5 c_6=>(ite2 (decide ((x7:Int)<(n_5:Nat))) (ptrN x0 fun b_7 o_8=>(ldV (HP.cell hp b_7 (o_8+2)) fun v_9=>(slcV v_9 fun a_10 n_11 c_12=>((0≤(x7:Int))∧((x7:Int)<(n_11:Nat))∧(ptrN a_10 fun b_13 o_14=>(ldV (HP.cell hp b_13 ((o_14+Int.toNat x7*26)+1)) fun v_15=>(intV v_15 .i64 fun i_16=>(ite2 ((i_16:Int)==x1) (ptrN x0 fun b_17 o_18=>(ldV (HP.cell hp b_17 (o_18+2)) fun v_19=>(slcV v_19 fun a_20 n_21 c_22=>((0≤(x7:Int))∧((x7:Int)<(n_21:Nat))∧(ptrN a_20 fun b_23 o_24=>(ldL (HP.cellN hp b_23 ((o_24+Int.toNat x7*26)+2) 17) fun l_25=>(ldL (cellsN k5 0 17) fun l_26=>(eqAgg Tryz.prog 95 l_25 l_26 fun q_27=>(F66_j3 x0 x1 x7 q_27 k5 hp I2 K))))))))) (F66_j3 x0 x1 x7 false k5 hp I2 K))))))))) (K (Value.int .i64 (-1)) hp)))))
def F66_j1 (x0:OA) (x1 x7:Int) (k5:List Value) (hp:HP) (K:Kh):Prop:=
  (LoopP (σ:=Int) (fun I s hp=>F66_l2 x0 x1 k5  K I s hp) x7 hp)
def F66 (x0:OA) (x1:Int) (x2:List Value) (hp:HP) (K:Kh):Prop:=
  (F66_j1 x0 x1 0 x2 hp  K)
theorem F66_ok (x0:OA) (x1:Int) (x2:List Value) (hp:HP) (K:Kh) (h:F66 x0 x1 x2 hp K):CF Tryz.prog 66 [(Value.pointer x0),(Value.int .i64 x1),(Value.agg ⟨x2⟩)] hp K:=
  have L:∀ {Q} n,Snd Tryz.prog 40 (cAt Tryz.f66 (pth n)) Q (CW Tryz.prog 40 [5] [] (cAt Tryz.f66 (pth n)) Q):=fun _=>Snd.leaf
  okF h Tryz.func66 (Snd.seq (L 2) (Snd.seq (Snd.jn [(0,.p),(1,.i .i64),(5,.r 5 0),(7,.i .i64),(5,.c 95)] (fun a hp=>F66_j1 a.1 a.2.1 a.2.2.1 a.2.2.2.1 hp  K) (L 9) (Snd.block 0 (Snd.lp (σ:=Int) [(0,.p),(1,.i .i64),(5,.r 5 0),(7,.i .i64),(5,.c 95)] (fun a=>a.2.2.1) (fun a s=>(a.1,a.2.1,s,a.2.2.2.1,())) (fun a I s hp=>F66_l2 a.1 a.2.1 a.2.2.2.1  K I s hp) (fun I2=>(Snd.seq (L 69) (Snd.seq (Snd.block 1 (Snd.jn [(0,.p),(1,.i .i64),(5,.r 5 0),(7,.i .i64),(38,.b),(5,.c 95)] (fun a hp=>F66_j3 a.1 a.2.1 a.2.2.1 a.2.2.2.1 a.2.2.2.2.1 hp (fun s hp=>I2 (a.1,a.2.1,s,a.2.2.2.2.1,()) hp) K) (L 549) (L 805) (by rfl) (by kernel_rfl))) (L 229)))) (by rfl) (by kernel_rfl) (by kernel_rfl))) (by rfl) (by kernel_rfl)) (L 7))) (by kernel_rfl) (by kernel_rfl) (by kernel_rfl)
def F67_j3 (x0:OA) (x1 x7:Int) (x38:Bool) (k5:List Value) (hp:HP) (I2:(Int)→HP→Prop) (K:Kh):Prop:=
  (ite2 x38 (K (Value.int .i64 x7) hp) (I2 (IntKind.wrap .i64 (x7+1)) hp))
def F67_l2 (x0:OA) (x1:Int) (k5:List Value) (K:Kh) (I2:(Int)→HP→Prop) (x7:Int) (hp:HP):Prop:=
  (ptrN x0 fun b_1 o_2=>(ldV (HP.cell hp b_1 (o_2+2)) fun v_3=>(slcV v_3 fun a_4 n_5 c_6=>(ite2 (decide ((x7:Int)<(n_5:Nat))) (ptrN x0 fun b_7 o_8=>(ldV (HP.cell hp b_7 (o_8+2)) fun v_9=>(slcV v_9 fun a_10 n_11 c_12=>((0≤(x7:Int))∧((x7:Int)<(n_11:Nat))∧(ptrN a_10 fun b_13 o_14=>(ldV (HP.cell hp b_13 ((o_14+Int.toNat x7*26)+1)) fun v_15=>(intV v_15 .i64 fun i_16=>(ite2 ((i_16:Int)==x1) (ptrN x0 fun b_17 o_18=>(ldV (HP.cell hp b_17 (o_18+2)) fun v_19=>(slcV v_19 fun a_20 n_21 c_22=>((0≤(x7:Int))∧((x7:Int)<(n_21:Nat))∧(ptrN a_20 fun b_23 o_24=>(ldL (HP.cellN hp b_23 ((o_24+Int.toNat x7*26)+19) 5) fun l_25=>(ldL (cellsN k5 0 5) fun l_26=>(eqAgg Tryz.prog 56 l_25 l_26 fun q_27=>(F67_j3 x0 x1 x7 q_27 k5 hp I2 K))))))))) (F67_j3 x0 x1 x7 false k5 hp I2 K))))))))) (K (Value.int .i64 (-1)) hp)))))
def F67_j1 (x0:OA) (x1 x7:Int) (k5:List Value) (hp:HP) (K:Kh):Prop:=
  (LoopP (σ:=Int) (fun I s hp=>F67_l2 x0 x1 k5  K I s hp) x7 hp)
def F67 (x0:OA) (x1:Int) (x2:List Value) (hp:HP) (K:Kh):Prop:=
  (F67_j1 x0 x1 0 x2 hp  K)
theorem F67_ok (x0:OA) (x1:Int) (x2:List Value) (hp:HP) (K:Kh) (h:F67 x0 x1 x2 hp K):CF Tryz.prog 67 [(Value.pointer x0),(Value.int .i64 x1),(Value.agg ⟨x2⟩)] hp K:=
  have L:∀ {Q} n,Snd Tryz.prog 40 (cAt Tryz.f67 (pth n)) Q (CW Tryz.prog 40 [5] [] (cAt Tryz.f67 (pth n)) Q):=fun _=>Snd.leaf
  okF h Tryz.func67 (Snd.seq (L 2) (Snd.seq (Snd.jn [(0,.p),(1,.i .i64),(5,.r 5 0),(7,.i .i64),(5,.c 56)] (fun a hp=>F67_j1 a.1 a.2.1 a.2.2.1 a.2.2.2.1 hp  K) (L 9) (Snd.block 0 (Snd.lp (σ:=Int) [(0,.p),(1,.i .i64),(5,.r 5 0),(7,.i .i64),(5,.c 56)] (fun a=>a.2.2.1) (fun a s=>(a.1,a.2.1,s,a.2.2.2.1,())) (fun a I s hp=>F67_l2 a.1 a.2.1 a.2.2.2.1  K I s hp) (fun I2=>(Snd.seq (L 69) (Snd.seq (Snd.block 1 (Snd.jn [(0,.p),(1,.i .i64),(5,.r 5 0),(7,.i .i64),(38,.b),(5,.c 56)] (fun a hp=>F67_j3 a.1 a.2.1 a.2.2.1 a.2.2.2.1 a.2.2.2.2.1 hp (fun s hp=>I2 (a.1,a.2.1,s,a.2.2.2.2.1,()) hp) K) (L 549) (L 805) (by rfl) (by kernel_rfl))) (L 229)))) (by rfl) (by kernel_rfl) (by kernel_rfl))) (by rfl) (by kernel_rfl)) (L 7))) (by kernel_rfl) (by kernel_rfl) (by kernel_rfl)
def F111_l2 (x0:OA) (x1:Int) (K:Kh) (I2:(Int)→HP→Prop) (x5:Int) (hp:HP):Prop:=
  (ptrN x0 fun b_1 o_2=>(ldV (HP.cell hp b_1 (o_2+2)) fun v_3=>(slcV v_3 fun a_4 n_5 c_6=>(ite2 (decide ((x5:Int)<(n_5:Nat))) (ptrN x0 fun b_7 o_8=>(ldV (HP.cell hp b_7 (o_8+2)) fun v_9=>(slcV v_9 fun a_10 n_11 c_12=>((0≤(x5:Int))∧((x5:Int)<(n_11:Nat))∧(ptrN a_10 fun b_13 o_14=>(ldV (HP.cell hp b_13 ((o_14+Int.toNat x5*26)+0)) fun v_15=>(intV v_15 .i64 fun i_16=>(ite2 ((i_16:Int)==x1) (K (Value.int .i64 x5) hp) (I2 (IntKind.wrap .i64 (x5+1)) hp))))))))) (K (Value.int .i64 (-1)) hp)))))
def F111_j1 (x0:OA) (x1 x5:Int) (hp:HP) (K:Kh):Prop:=
  (LoopP (σ:=Int) (fun I s hp=>F111_l2 x0 x1  K I s hp) x5 hp)
def F111 (x0:OA) (x1:Int) (hp:HP) (K:Kh):Prop:=
  (F111_j1 x0 x1 0 hp  K)
theorem F111_ok (x0:OA) (x1:Int) (hp:HP) (K:Kh) (h:F111 x0 x1 hp K):CF Tryz.prog 111 [(Value.pointer x0),(Value.int .i64 x1)] hp K:=
  have L:∀ {Q} n,Snd Tryz.prog 26 (cAt Tryz.f111 (pth n)) Q (CW Tryz.prog 26 [] [] (cAt Tryz.f111 (pth n)) Q):=fun _=>Snd.leaf
  okF h Tryz.func111 (Snd.seq (L 2) (Snd.seq (Snd.jn [(0,.p),(1,.i .i64),(5,.i .i64)] (fun a hp=>F111_j1 a.1 a.2.1 a.2.2.1 hp  K) (L 9) (Snd.block 0 (Snd.lp (σ:=Int) [(0,.p),(1,.i .i64),(5,.i .i64)] (fun a=>a.2.2.1) (fun a s=>(a.1,a.2.1,s,())) (fun a I s hp=>F111_l2 a.1 a.2.1  K I s hp) (fun I2=>(L 37)) (by rfl) (by kernel_rfl) (by kernel_rfl))) (by rfl) (by kernel_rfl)) (L 7))) (by kernel_rfl) (by kernel_rfl) (by kernel_rfl)
def F94 (x0:OA) (x1:Int) (x2:List Value) (hp:HP) (K:Kh):Prop:=
  (CF Tryz.prog 63 [(Value.int .i64 x1)] hp fun u_1 h_2=>(intV u_1 .i64 fun i_3=>(ite2 (decide ((i_3:Int)<0)) (K (Value.int .i64 10) h_2) (ldV (x2)[16]? fun v_4=>(intV v_4 .i64 fun i_5=>(CF Tryz.prog 103 [(Value.int .i64 i_5)] h_2 fun u_6 h_7=>(boolV u_6 fun q_8=>(ite2 (!q_8) (K (Value.int .i64 1) h_7) (ldL (cellsN x2 0 17) fun l_9=>(CF Tryz.prog 66 [(Value.pointer x0),(Value.int .i64 x1),(Value.agg ⟨l_9⟩)] h_7 fun u_10 h_11=>(intV u_10 .i64 fun i_12=>(ite2 (decide ((i_12:Int)≥0)) (K (Value.int .i64 5) h_11) (ptrN x0 fun b_13 o_14=>(ldV (HP.cell h_11 b_13 (o_14+2)) fun v_15=>(slcV v_15 fun a_16 n_17 c_18=>(ptrN x0 fun b_19 o_20=>(ldV (HP.cell h_11 b_19 (o_20+0)) fun v_21=>(intV v_21 .i64 fun i_22=>(ite2 (decide (((n_17:Nat):Int)≥i_22)) (K (Value.int .i64 6) h_11) (K (Value.int .i64 0) h_11))))))))))))))))))))
theorem F94_ok (x0:OA) (x1:Int) (x2:List Value) (hp:HP) (K:Kh) (h:F94 x0 x1 x2 hp K):CF Tryz.prog 94 [(Value.pointer x0),(Value.int .i64 x1),(Value.agg ⟨x2⟩)] hp K:=
  have L:∀ {Q} n,Snd Tryz.prog 29 (cAt Tryz.f94 (pth n)) Q (CW Tryz.prog 29 [5,10] [] (cAt Tryz.f94 (pth n)) Q):=fun _=>Snd.leaf
  okF h Tryz.func94 (L 1) (by kernel_rfl) (by kernel_rfl) (by kernel_rfl)
def F97_j1 (k3 k4:List Value) (hp:HP) (K:Kh):Prop:=
  (ldL (cellsN k3 0 26) fun l_12=>(if List.length l_12=26 then (if List.all l_12 one=true then (if 0+List.length l_12≤List.length k4 then (ldL (cellsN (splice k4 0 l_12) 0 26) fun l_13=>(K (.agg ⟨l_13⟩) hp)) else False) else False) else False))
def F97 (x0:OA) (x1:List Value) (hp:HP) (K:Kh):Prop:=
  (ptrN x0 fun b_1 o_2=>(ldV (HP.cell hp b_1 (o_2+1)) fun v_3=>(intV v_3 .i64 fun i_4=>(ptrN x0 fun b_5 o_6=>(HP.st hp b_5 (o_6+1) (Value.int .i64 (IntKind.wrap .i64 (i_4+1))) fun h_7=>(ptrN x0 fun b_8 o_9=>(ldV (HP.cell h_7 b_8 (o_9+1)) fun v_10=>(intV v_10 .i64 fun i_11=>(if 0<List.length x1 then ((∀ b_14:Nat,h_7 b_14=.none→(ptrN x0 fun b_15 o_16=>(ldV (HP.cell (HP.set h_7 b_14 (.cells 118 [] 0)) b_15 (o_16+2)) fun v_17=>(slcV v_17 fun a_18 n_19 c_20=>(opS Tryz.prog (Builtin.append_ #[110,110] 110 ⟨[(Value.slice (some ⟨b_14,0,none⟩) 0 0),(Value.slice a_18 n_19 c_20)]⟩) (HP.set h_7 b_14 (.cells 118 [] 0)) fun u_21 h_22=>(slcV u_21 fun a_23 n_24 c_25=>(ldL (cellsN (List.set x1 0 (Value.int .i64 i_11)) 0 26) fun l_26=>(if List.length l_26=26 then (∀ b_27:Nat,h_22 b_27=.none→(opS Tryz.prog (Builtin.append_ #[110,110] 110 ⟨[(Value.slice a_23 n_24 c_25),(Value.slice (some ⟨b_27,0,none⟩) 1 1)]⟩) (HP.set h_22 b_27 (.cells 118 (splice zB 0 l_26) 0)) fun u_28 h_29=>(slcV u_28 fun a_30 n_31 c_32=>(ptrN x0 fun b_33 o_34=>(HP.st h_29 b_33 (o_34+2) (Value.slice a_30 n_31 c_32) fun h_35=>(F97_j1 (List.set x1 0 (Value.int .i64 i_11)) zB h_35  K)))))) else False))))))))∧(∀ b_36:Nat,h_7 b_36=.none→(ptrN x0 fun b_37 o_38=>(ldV (HP.cell (HP.set h_7 b_36 (.cells 118 [] 0)) b_37 (o_38+2)) fun v_39=>(slcV v_39 fun a_40 n_41 c_42=>(ldL (cellsN (List.set x1 0 (Value.int .i64 i_11)) 0 26) fun l_43=>(if List.length l_43=26 then (∀ b_44:Nat,(HP.set h_7 b_36 (.cells 118 [] 0)) b_44=.none→(opS Tryz.prog (Builtin.append_ #[110,110] 110 ⟨[(Value.slice (some ⟨b_36,0,none⟩) 0 0),(Value.slice a_40 n_41 c_42)]⟩) (HP.set (HP.set h_7 b_36 (.cells 118 [] 0)) b_44 (.cells 118 (splice zB 0 l_43) 0)) fun u_45 h_46=>(slcV u_45 fun a_47 n_48 c_49=>(opS Tryz.prog (Builtin.append_ #[110,110] 110 ⟨[(Value.slice a_47 n_48 c_49),(Value.slice (some ⟨b_44,0,none⟩) 1 1)]⟩) h_46 fun u_50 h_51=>(slcV u_50 fun a_52 n_53 c_54=>(ptrN x0 fun b_55 o_56=>(HP.st h_51 b_55 (o_56+2) (Value.slice a_52 n_53 c_54) fun h_57=>(F97_j1 (List.set x1 0 (Value.int .i64 i_11)) zB h_57  K)))))))) else False))))))∧(∀ b_58:Nat,h_7 b_58=.none→(ptrN x0 fun b_59 o_60=>(ldL (cellsN (List.set x1 0 (Value.int .i64 i_11)) 0 26) fun l_61=>(if List.length l_61=26 then (∀ b_62:Nat,(HP.set h_7 b_58 (.cells 118 [] 0)) b_62=.none→(ldV (HP.cell (HP.set (HP.set h_7 b_58 (.cells 118 [] 0)) b_62 (.cells 118 (splice zB 0 l_61) 0)) b_59 (o_60+2)) fun v_63=>(slcV v_63 fun a_64 n_65 c_66=>(opS Tryz.prog (Builtin.append_ #[110,110] 110 ⟨[(Value.slice (some ⟨b_58,0,none⟩) 0 0),(Value.slice a_64 n_65 c_66)]⟩) (HP.set (HP.set h_7 b_58 (.cells 118 [] 0)) b_62 (.cells 118 (splice zB 0 l_61) 0)) fun u_67 h_68=>(slcV u_67 fun a_69 n_70 c_71=>(opS Tryz.prog (Builtin.append_ #[110,110] 110 ⟨[(Value.slice a_69 n_70 c_71),(Value.slice (some ⟨b_62,0,none⟩) 1 1)]⟩) h_68 fun u_72 h_73=>(slcV u_72 fun a_74 n_75 c_76=>(ptrN x0 fun b_77 o_78=>(HP.st h_73 b_77 (o_78+2) (Value.slice a_74 n_75 c_76) fun h_79=>(F97_j1 (List.set x1 0 (Value.int .i64 i_11)) zB h_79  K)))))))))) else False))))∧(ptrN x0 fun b_80 o_81=>(ldL (cellsN (List.set x1 0 (Value.int .i64 i_11)) 0 26) fun l_82=>(if List.length l_82=26 then (∀ b_83:Nat,h_7 b_83=.none→(∀ b_84:Nat,(HP.set h_7 b_83 (.cells 118 (splice zB 0 l_82) 0)) b_84=.none→(ldV (HP.cell (HP.set (HP.set h_7 b_83 (.cells 118 (splice zB 0 l_82) 0)) b_84 (.cells 118 [] 0)) b_80 (o_81+2)) fun v_85=>(slcV v_85 fun a_86 n_87 c_88=>(opS Tryz.prog (Builtin.append_ #[110,110] 110 ⟨[(Value.slice (some ⟨b_84,0,none⟩) 0 0),(Value.slice a_86 n_87 c_88)]⟩) (HP.set (HP.set h_7 b_83 (.cells 118 (splice zB 0 l_82) 0)) b_84 (.cells 118 [] 0)) fun u_89 h_90=>(slcV u_89 fun a_91 n_92 c_93=>(opS Tryz.prog (Builtin.append_ #[110,110] 110 ⟨[(Value.slice a_91 n_92 c_93),(Value.slice (some ⟨b_83,0,none⟩) 1 1)]⟩) h_90 fun u_94 h_95=>(slcV u_94 fun a_96 n_97 c_98=>(ptrN x0 fun b_99 o_100=>(HP.st h_95 b_99 (o_100+2) (Value.slice a_96 n_97 c_98) fun h_101=>(F97_j1 (List.set x1 0 (Value.int .i64 i_11)) zB h_101  K))))))))))) else False)))∧(ptrN x0 fun b_102 o_103=>(ldV (HP.cell h_7 b_102 (o_103+2)) fun v_104=>(slcV v_104 fun a_105 n_106 c_107=>(∀ b_108:Nat,h_7 b_108=.none→(opS Tryz.prog (Builtin.append_ #[110,110] 110 ⟨[(Value.slice (some ⟨b_108,0,none⟩) 0 0),(Value.slice a_105 n_106 c_107)]⟩) (HP.set h_7 b_108 (.cells 118 [] 0)) fun u_109 h_110=>(slcV u_109 fun a_111 n_112 c_113=>(ldL (cellsN (List.set x1 0 (Value.int .i64 i_11)) 0 26) fun l_114=>(if List.length l_114=26 then (∀ b_115:Nat,h_110 b_115=.none→(opS Tryz.prog (Builtin.append_ #[110,110] 110 ⟨[(Value.slice a_111 n_112 c_113),(Value.slice (some ⟨b_115,0,none⟩) 1 1)]⟩) (HP.set h_110 b_115 (.cells 118 (splice zB 0 l_114) 0)) fun u_116 h_117=>(slcV u_116 fun a_118 n_119 c_120=>(ptrN x0 fun b_121 o_122=>(HP.st h_117 b_121 (o_122+2) (Value.slice a_118 n_119 c_120) fun h_123=>(F97_j1 (List.set x1 0 (Value.int .i64 i_11)) zB h_123  K)))))) else False))))))))∧(ptrN x0 fun b_124 o_125=>(ldV (HP.cell h_7 b_124 (o_125+2)) fun v_126=>(slcV v_126 fun a_127 n_128 c_129=>(∀ b_130:Nat,h_7 b_130=.none→(ldL (cellsN (List.set x1 0 (Value.int .i64 i_11)) 0 26) fun l_131=>(if List.length l_131=26 then (∀ b_132:Nat,(HP.set h_7 b_130 (.cells 118 [] 0)) b_132=.none→(opS Tryz.prog (Builtin.append_ #[110,110] 110 ⟨[(Value.slice (some ⟨b_130,0,none⟩) 0 0),(Value.slice a_127 n_128 c_129)]⟩) (HP.set (HP.set h_7 b_130 (.cells 118 [] 0)) b_132 (.cells 118 (splice zB 0 l_131) 0)) fun u_133 h_134=>(slcV u_133 fun a_135 n_136 c_137=>(opS Tryz.prog (Builtin.append_ #[110,110] 110 ⟨[(Value.slice a_135 n_136 c_137),(Value.slice (some ⟨b_132,0,none⟩) 1 1)]⟩) h_134 fun u_138 h_139=>(slcV u_138 fun a_140 n_141 c_142=>(ptrN x0 fun b_143 o_144=>(HP.st h_139 b_143 (o_144+2) (Value.slice a_140 n_141 c_142) fun h_145=>(F97_j1 (List.set x1 0 (Value.int .i64 i_11)) zB h_145  K)))))))) else False))))))∧(ptrN x0 fun b_146 o_147=>(ldV (HP.cell h_7 b_146 (o_147+2)) fun v_148=>(slcV v_148 fun a_149 n_150 c_151=>(ldL (cellsN (List.set x1 0 (Value.int .i64 i_11)) 0 26) fun l_152=>(if List.length l_152=26 then (∀ b_153:Nat,h_7 b_153=.none→(∀ b_154:Nat,(HP.set h_7 b_153 (.cells 118 (splice zB 0 l_152) 0)) b_154=.none→(opS Tryz.prog (Builtin.append_ #[110,110] 110 ⟨[(Value.slice (some ⟨b_154,0,none⟩) 0 0),(Value.slice a_149 n_150 c_151)]⟩) (HP.set (HP.set h_7 b_153 (.cells 118 (splice zB 0 l_152) 0)) b_154 (.cells 118 [] 0)) fun u_155 h_156=>(slcV u_155 fun a_157 n_158 c_159=>(opS Tryz.prog (Builtin.append_ #[110,110] 110 ⟨[(Value.slice a_157 n_158 c_159),(Value.slice (some ⟨b_153,0,none⟩) 1 1)]⟩) h_156 fun u_160 h_161=>(slcV u_160 fun a_162 n_163 c_164=>(ptrN x0 fun b_165 o_166=>(HP.st h_161 b_165 (o_166+2) (Value.slice a_162 n_163 c_164) fun h_167=>(F97_j1 (List.set x1 0 (Value.int .i64 i_11)) zB h_167  K))))))))) else False)))))∧(ptrN x0 fun b_168 o_169=>(ldL (cellsN (List.set x1 0 (Value.int .i64 i_11)) 0 26) fun l_170=>(if List.length l_170=26 then (∀ b_171:Nat,h_7 b_171=.none→(ldV (HP.cell (HP.set h_7 b_171 (.cells 118 (splice zB 0 l_170) 0)) b_168 (o_169+2)) fun v_172=>(slcV v_172 fun a_173 n_174 c_175=>(∀ b_176:Nat,(HP.set h_7 b_171 (.cells 118 (splice zB 0 l_170) 0)) b_176=.none→(opS Tryz.prog (Builtin.append_ #[110,110] 110 ⟨[(Value.slice (some ⟨b_176,0,none⟩) 0 0),(Value.slice a_173 n_174 c_175)]⟩) (HP.set (HP.set h_7 b_171 (.cells 118 (splice zB 0 l_170) 0)) b_176 (.cells 118 [] 0)) fun u_177 h_178=>(slcV u_177 fun a_179 n_180 c_181=>(opS Tryz.prog (Builtin.append_ #[110,110] 110 ⟨[(Value.slice a_179 n_180 c_181),(Value.slice (some ⟨b_171,0,none⟩) 1 1)]⟩) h_178 fun u_182 h_183=>(slcV u_182 fun a_184 n_185 c_186=>(ptrN x0 fun b_187 o_188=>(HP.st h_183 b_187 (o_188+2) (Value.slice a_184 n_185 c_186) fun h_189=>(F97_j1 (List.set x1 0 (Value.int .i64 i_11)) zB h_189  K))))))))))) else False)))) else False)))))))))
theorem F97_ok (x0:OA) (x1:List Value) (hp:HP) (K:Kh) (h:F97 x0 x1 hp K):CF Tryz.prog 97 [(Value.pointer x0),(Value.agg ⟨x1⟩)] hp K:=
  have L:∀ {Q} n,Snd Tryz.prog 31 (cAt Tryz.f97 (pth n)) Q (CW Tryz.prog 31 [3,4,17] [(3,[(1,5),(1,8),(5,8),(6,8)],[([true,true,false,true],false,[5,6,8,5]),([true,false,true,true],false,[1,5,8,1]),([true,false,true,false],false,[1,5,8,1]),([true,false,false,true],false,[1,6,8,1]),([false,true,false,true],false,[1,8,5,1]),([false,true,false,false],false,[1,8,5,1]),([false,false,true,true],false,[1,6,8,1]),([false,false,false,true],false,[1,6,8,5,1]),([true,true,true,true],true,[0,1,2,3,4,5,6,7,8,9,10,11,12]),([true,true,true,false],true,[0,1,2,3,4,5,7,8,6,9,10,11,12]),([true,true,false,false],true,[0,1,2,3,4,7,8,5,6,9,10,11,12]),([true,false,false,false],true,[0,2,3,4,7,8,1,5,6,9,10,11,12]),([false,true,true,true],true,[0,2,3,4,5,1,6,7,8,9,10,11,12]),([false,true,true,false],true,[0,2,3,4,5,1,7,8,6,9,10,11,12]),([false,false,true,false],true,[0,2,3,4,5,7,8,1,6,9,10,11,12]),([false,false,false,false],true,[0,2,3,4,7,8,5,1,6,9,10,11,12])])] (cAt Tryz.f97 (pth n)) Q):=fun _=>Snd.leaf
  okF h Tryz.func97 (Snd.seq (L 2) (Snd.seq (L 5) (Snd.seq (L 11) (Snd.jn [(3,.r 3 0),(4,.r 4 0),(3,.c 118),(4,.c 118)] (fun a hp=>F97_j1 a.1 a.2.1 hp  K) (L 23) (L 31) (by rfl) (by kernel_rfl))))) (by kernel_rfl) (by kernel_rfl) (by kernel_rfl)
def F109 (x0:OA) (x1:Int) (hp:HP) (K:Kh):Prop:=
  ((∀ b_1:Nat,hp b_1=.none→(ptrN x0 fun b_2 o_3=>(ldV (HP.cell (HP.set hp b_1 (.cells 118 [] 0)) b_2 (o_3+2)) fun v_4=>(slcV v_4 fun a_5 n_6 c_7=>((0≤(x1:Int))∧((x1:Int)≤(c_7:Nat))∧(opS Tryz.prog (Builtin.append_ #[110,110] 110 ⟨[(Value.slice (some ⟨b_1,0,none⟩) 0 0),(Value.slice a_5 (Int.toNat x1) c_7)]⟩) (HP.set hp b_1 (.cells 118 [] 0)) fun u_8 h_9=>(slcV u_8 fun a_10 n_11 c_12=>(ptrN x0 fun b_13 o_14=>(ldV (HP.cell h_9 b_13 (o_14+2)) fun v_15=>(slcV v_15 fun a_16 n_17 c_18=>((0≤((IntKind.wrap .i64 (x1+1)):Int))∧(((IntKind.wrap .i64 (x1+1)):Int)≤(n_17:Nat))∧(n_17≤c_18)∧(opS Tryz.prog (Builtin.append_ #[110,110] 110 ⟨[(Value.slice a_10 n_11 c_12),(Value.slice (sub0 a_16 c_18 (Int.toNat (IntKind.wrap .i64 (x1+1))) 26) (n_17-Int.toNat (IntKind.wrap .i64 (x1+1))) (c_18-Int.toNat (IntKind.wrap .i64 (x1+1))))]⟩) h_9 fun u_19 h_20=>(slcV u_19 fun a_21 n_22 c_23=>(ptrN x0 fun b_24 o_25=>(HP.st h_20 b_24 (o_25+2) (Value.slice a_21 n_22 c_23) fun h_26=>(K (.tuple ⟨[]⟩) h_26))))))))))))))))∧(∀ b_27:Nat,hp b_27=.none→(ptrN x0 fun b_28 o_29=>(ldV (HP.cell (HP.set hp b_27 (.cells 118 [] 0)) b_28 (o_29+2)) fun v_30=>(slcV v_30 fun a_31 n_32 c_33=>((0≤(x1:Int))∧((x1:Int)≤(c_33:Nat))∧(ptrN x0 fun b_34 o_35=>(ldV (HP.cell (HP.set hp b_27 (.cells 118 [] 0)) b_34 (o_35+2)) fun v_36=>(slcV v_36 fun a_37 n_38 c_39=>(opS Tryz.prog (Builtin.append_ #[110,110] 110 ⟨[(Value.slice (some ⟨b_27,0,none⟩) 0 0),(Value.slice a_31 (Int.toNat x1) c_33)]⟩) (HP.set hp b_27 (.cells 118 [] 0)) fun u_40 h_41=>(slcV u_40 fun a_42 n_43 c_44=>((0≤((IntKind.wrap .i64 (x1+1)):Int))∧(((IntKind.wrap .i64 (x1+1)):Int)≤(n_38:Nat))∧(n_38≤c_39)∧(opS Tryz.prog (Builtin.append_ #[110,110] 110 ⟨[(Value.slice a_42 n_43 c_44),(Value.slice (sub0 a_37 c_39 (Int.toNat (IntKind.wrap .i64 (x1+1))) 26) (n_38-Int.toNat (IntKind.wrap .i64 (x1+1))) (c_39-Int.toNat (IntKind.wrap .i64 (x1+1))))]⟩) h_41 fun u_45 h_46=>(slcV u_45 fun a_47 n_48 c_49=>(ptrN x0 fun b_50 o_51=>(HP.st h_46 b_50 (o_51+2) (Value.slice a_47 n_48 c_49) fun h_52=>(K (.tuple ⟨[]⟩) h_52))))))))))))))))∧(ptrN x0 fun b_53 o_54=>(ptrN x0 fun b_55 o_56=>(ldV (HP.cell hp b_55 (o_56+2)) fun v_57=>(slcV v_57 fun a_58 n_59 c_60=>(∀ b_61:Nat,hp b_61=.none→(ldV (HP.cell (HP.set hp b_61 (.cells 118 [] 0)) b_53 (o_54+2)) fun v_62=>(slcV v_62 fun a_63 n_64 c_65=>((0≤(x1:Int))∧((x1:Int)≤(c_65:Nat))∧(opS Tryz.prog (Builtin.append_ #[110,110] 110 ⟨[(Value.slice (some ⟨b_61,0,none⟩) 0 0),(Value.slice a_63 (Int.toNat x1) c_65)]⟩) (HP.set hp b_61 (.cells 118 [] 0)) fun u_66 h_67=>(slcV u_66 fun a_68 n_69 c_70=>((0≤((IntKind.wrap .i64 (x1+1)):Int))∧(((IntKind.wrap .i64 (x1+1)):Int)≤(n_59:Nat))∧(n_59≤c_60)∧(opS Tryz.prog (Builtin.append_ #[110,110] 110 ⟨[(Value.slice a_68 n_69 c_70),(Value.slice (sub0 a_58 c_60 (Int.toNat (IntKind.wrap .i64 (x1+1))) 26) (n_59-Int.toNat (IntKind.wrap .i64 (x1+1))) (c_60-Int.toNat (IntKind.wrap .i64 (x1+1))))]⟩) h_67 fun u_71 h_72=>(slcV u_71 fun a_73 n_74 c_75=>(ptrN x0 fun b_76 o_77=>(HP.st h_72 b_76 (o_77+2) (Value.slice a_73 n_74 c_75) fun h_78=>(K (.tuple ⟨[]⟩) h_78))))))))))))))))∧(ptrN x0 fun b_79 o_80=>(ldV (HP.cell hp b_79 (o_80+2)) fun v_81=>(slcV v_81 fun a_82 n_83 c_84=>(∀ b_85:Nat,hp b_85=.none→((0≤(x1:Int))∧((x1:Int)≤(c_84:Nat))∧(opS Tryz.prog (Builtin.append_ #[110,110] 110 ⟨[(Value.slice (some ⟨b_85,0,none⟩) 0 0),(Value.slice a_82 (Int.toNat x1) c_84)]⟩) (HP.set hp b_85 (.cells 118 [] 0)) fun u_86 h_87=>(slcV u_86 fun a_88 n_89 c_90=>(ptrN x0 fun b_91 o_92=>(ldV (HP.cell h_87 b_91 (o_92+2)) fun v_93=>(slcV v_93 fun a_94 n_95 c_96=>((0≤((IntKind.wrap .i64 (x1+1)):Int))∧(((IntKind.wrap .i64 (x1+1)):Int)≤(n_95:Nat))∧(n_95≤c_96)∧(opS Tryz.prog (Builtin.append_ #[110,110] 110 ⟨[(Value.slice a_88 n_89 c_90),(Value.slice (sub0 a_94 c_96 (Int.toNat (IntKind.wrap .i64 (x1+1))) 26) (n_95-Int.toNat (IntKind.wrap .i64 (x1+1))) (c_96-Int.toNat (IntKind.wrap .i64 (x1+1))))]⟩) h_87 fun u_97 h_98=>(slcV u_97 fun a_99 n_100 c_101=>(ptrN x0 fun b_102 o_103=>(HP.st h_98 b_102 (o_103+2) (Value.slice a_99 n_100 c_101) fun h_104=>(K (.tuple ⟨[]⟩) h_104))))))))))))))))∧(ptrN x0 fun b_105 o_106=>(ldV (HP.cell hp b_105 (o_106+2)) fun v_107=>(slcV v_107 fun a_108 n_109 c_110=>(∀ b_111:Nat,hp b_111=.none→((0≤(x1:Int))∧((x1:Int)≤(c_110:Nat))∧(ptrN x0 fun b_112 o_113=>(ldV (HP.cell (HP.set hp b_111 (.cells 118 [] 0)) b_112 (o_113+2)) fun v_114=>(slcV v_114 fun a_115 n_116 c_117=>(opS Tryz.prog (Builtin.append_ #[110,110] 110 ⟨[(Value.slice (some ⟨b_111,0,none⟩) 0 0),(Value.slice a_108 (Int.toNat x1) c_110)]⟩) (HP.set hp b_111 (.cells 118 [] 0)) fun u_118 h_119=>(slcV u_118 fun a_120 n_121 c_122=>((0≤((IntKind.wrap .i64 (x1+1)):Int))∧(((IntKind.wrap .i64 (x1+1)):Int)≤(n_116:Nat))∧(n_116≤c_117)∧(opS Tryz.prog (Builtin.append_ #[110,110] 110 ⟨[(Value.slice a_120 n_121 c_122),(Value.slice (sub0 a_115 c_117 (Int.toNat (IntKind.wrap .i64 (x1+1))) 26) (n_116-Int.toNat (IntKind.wrap .i64 (x1+1))) (c_117-Int.toNat (IntKind.wrap .i64 (x1+1))))]⟩) h_119 fun u_123 h_124=>(slcV u_123 fun a_125 n_126 c_127=>(ptrN x0 fun b_128 o_129=>(HP.st h_124 b_128 (o_129+2) (Value.slice a_125 n_126 c_127) fun h_130=>(K (.tuple ⟨[]⟩) h_130))))))))))))))))∧(ptrN x0 fun b_131 o_132=>(ldV (HP.cell hp b_131 (o_132+2)) fun v_133=>(slcV v_133 fun a_134 n_135 c_136=>((0≤(x1:Int))∧((x1:Int)≤(c_136:Nat))∧(ptrN x0 fun b_137 o_138=>(ldV (HP.cell hp b_137 (o_138+2)) fun v_139=>(slcV v_139 fun a_140 n_141 c_142=>(∀ b_143:Nat,hp b_143=.none→(opS Tryz.prog (Builtin.append_ #[110,110] 110 ⟨[(Value.slice (some ⟨b_143,0,none⟩) 0 0),(Value.slice a_134 (Int.toNat x1) c_136)]⟩) (HP.set hp b_143 (.cells 118 [] 0)) fun u_144 h_145=>(slcV u_144 fun a_146 n_147 c_148=>((0≤((IntKind.wrap .i64 (x1+1)):Int))∧(((IntKind.wrap .i64 (x1+1)):Int)≤(n_141:Nat))∧(n_141≤c_142)∧(opS Tryz.prog (Builtin.append_ #[110,110] 110 ⟨[(Value.slice a_146 n_147 c_148),(Value.slice (sub0 a_140 c_142 (Int.toNat (IntKind.wrap .i64 (x1+1))) 26) (n_141-Int.toNat (IntKind.wrap .i64 (x1+1))) (c_142-Int.toNat (IntKind.wrap .i64 (x1+1))))]⟩) h_145 fun u_149 h_150=>(slcV u_149 fun a_151 n_152 c_153=>(ptrN x0 fun b_154 o_155=>(HP.st h_150 b_154 (o_155+2) (Value.slice a_151 n_152 c_153) fun h_156=>(K (.tuple ⟨[]⟩) h_156)))))))))))))))))
theorem F109_ok (x0:OA) (x1:Int) (hp:HP) (K:Kh) (h:F109 x0 x1 hp K):CF Tryz.prog 109 [(Value.pointer x0),(Value.int .i64 x1)] hp K:=
  have L:∀ {Q} n,Snd Tryz.prog 23 (cAt Tryz.f109 (pth n)) Q (CW Tryz.prog 23 [] [(0,[(1,5),(1,12),(8,12)],[([true,false,true],false,[1,8,12,1]),([false,false,true],false,[1,8,12,1]),([true,true,true],true,[0,1,2,3,4,5,6,7,8,9,10,11,12,13,14,15,16,17,18,19]),([true,true,false],true,[0,1,2,3,4,5,6,7,9,10,11,12,8,13,14,15,16,17,18,19]),([true,false,false],true,[0,2,3,4,6,9,10,11,12,1,5,7,8,13,14,15,16,17,18,19]),([false,true,true],true,[0,2,3,4,5,1,6,7,8,9,10,11,12,13,14,15,16,17,18,19]),([false,true,false],true,[0,2,3,4,5,1,6,7,9,10,11,12,8,13,14,15,16,17,18,19]),([false,false,false],true,[0,2,3,4,5,6,7,9,10,11,12,1,8,13,14,15,16,17,18,19])])] (cAt Tryz.f109 (pth n)) Q):=fun _=>Snd.leaf
  okF h Tryz.func109 (L 1) (by kernel_rfl) (by kernel_rfl) (by kernel_rfl)
end Go.Proofs
set_option linter.unusedVariables false
set_option linter.unusedSimpArgs false
set_option maxRecDepth 20000
namespace Go.Proofs
open Go Go.HL
def ixB (p:Bd→Bool) (L:List Bd):Int:=match L.findIdx? p with | some k=>(k:Int) | none=>-1
theorem ixB_at {p:Bd→Bool} {L:List Bd} {n:Nat} (h:n<L.length) (hp:p L[n]=true) (hno:∀ j (hj:j<L.length),j<n→p L[j]=false):ixB p L=n:=by
  unfold ixB
  have:L.findIdx? p=some n:=List.findIdx?_eq_some_iff_getElem.2 ⟨h,hp,fun j hj=>by rw [hno j (by omega) hj]; decide⟩
  rw [this]
theorem ixB_none {p:Bd→Bool} {L:List Bd} (hno:∀ j (hj:j<L.length),p L[j]=false):ixB p L=-1:=by
  unfold ixB
  have:L.findIdx? p=none:=List.findIdx?_eq_none_iff.2 fun x hx=>by
    obtain ⟨j,hj,e⟩:=List.getElem_of_mem hx
    rw [← e]; exact hno j hj
  rw [this]
theorem ixB_find (p:Bd→Bool) (L:List Bd):(ixB p L=-1∧L.find? p=none)∨∃ (n:Nat) (h:n<L.length),ixB p L=n∧L.find? p=some L[n]:=by
  unfold ixB
  cases hf:L.findIdx? p with
  | none=>
    refine .inl ⟨rfl,?_⟩
    rw [List.find?_eq_none]
    intro x hx
    rw [List.findIdx?_eq_none_iff.1 hf x hx]; decide
  | some n=>
    obtain ⟨h,hp,hno⟩:=List.findIdx?_eq_some_iff_getElem.1 hf
    refine .inr ⟨n,h,rfl,?_⟩
    rw [List.find?_eq_some_iff_getElem]
    exact ⟨hp,n,h,rfl,fun j hj=>by simpa using hno j hj⟩
theorem ixB_ge (p:Bd→Bool) (L:List Bd):ixB p L≥0↔(L.find? p).isSome=true:=by
  rcases ixB_find p L with ⟨h1,h2⟩ | ⟨n,h,h1,h2⟩
  · rw [h1,h2]; simp
  · rw [h1,h2]; simp
theorem t6_shaped (x:V6 × Int):shaped Tryz.prog 5 95 (t6 x)=true:=by kernel_rfl
theorem eqT6 {x y:V6 × Int} {c:Bool→Prop} (h:c (decide (x=y))):eqAgg Tryz.prog 95 (t6 x) (t6 y) c:=
  eqAgg_of (m:=5) (D:=5) (by kernel_rfl) (t6_shaped x) (t6_shaped y) (by simp [t6_inj]) h
def BL (hp:HP) (r mx last:Nat) (a:Option Addr) (c:Nat) (L:List Bd):Prop:=
  hp.cell r 0=some (.int .i64 mx)∧hp.cell r 1=some (.int .i64 last)∧hp.cell r 2=some (.slice a L.length c)∧Shows hp a L.length 26 (L.flatMap bdc)
section
variable {hp:HP} {r mx last c:Nat} {a:Option Addr} {L:List Bd} {K:Value→HP→Prop}
theorem BL.at (h:BL hp r mx last a c L) {i:Nat} (hi:i<L.length) :
    ∃ b o,a=some ⟨b,o,none⟩∧hp.cellN b (o+i*26) 26=some (bdc L[i])∧∀ j v,(bdc L[i])[j]?=some v→hp.cell b (o+i*26+j)=some v:=by
  obtain ⟨b,o,e,hc⟩:=h.2.2.2.get bdc_len rfl hi
  exact ⟨b,o,e,hc,fun t v hv=>HP.cell_cellN hc hv⟩
theorem bd_inn {b o:Nat} {x:Bd} (h:hp.cellN b o 26=some (bdc x)):hp.cellN b (o+2) 17=some (t6 x.inn):=(cellN_cellN h (by omega)).trans (bdc_inn x)
theorem bd_addr {b o:Nat} {x:Bd} (h:hp.cellN b o 26=some (bdc x)):hp.cellN b (o+2+0) 16=some (v6 x.inn.1):=(cellN_cellN (o':=2) h (by omega)).trans rfl
theorem bd_out {b o:Nat} {x:Bd} (h:hp.cellN b o 26=some (bdc x)):hp.cellN b (o+19) 5=some (t4 x.out):=(cellN_cellN h (by omega)).trans (bdc_out x)
theorem bd_outa {b o:Nat} {x:Bd} (h:hp.cellN b o 26=some (bdc x)):hp.cellN b (o+19+0) 4=some (v4 x.out.1):=(cellN_cellN (o':=19) h (by omega)).trans rfl
theorem C63 {p:Int} (hK:K (.int .i64 (kindB p)) hp):CF Tryz.prog 63 [.int .i64 p] hp K:=by
  refine F63_ok p hp K ?_
  unfold F63
  unfold kindB at hK
  by_cases h1:p=1
  · rw [show (p==1)=true by simp [h1],ite2_true]; rwa [if_pos h1] at hK
  rw [show (p==1)=false by simp [h1],ite2_false]
  rw [if_neg h1] at hK
  by_cases h2:p=6
  · rw [show (p==6)=true by simp [h2],ite2_true]; rwa [if_pos h2] at hK
  rw [show (p==6)=false by simp [h2],ite2_false]
  rw [if_neg h2] at hK
  by_cases h3:p=17
  · rw [show (p==17)=true by simp [h3],ite2_true]; rwa [if_pos h3] at hK
  rw [show (p==17)=false by simp [h3],ite2_false]
  rwa [if_neg h3] at hK
theorem C103 {n:Int} (hK:K (.bool (isPort n)) hp):CF Tryz.prog 103 [.int .i64 n] hp K:=by
  refine F103_ok n hp K ?_
  unfold F103
  unfold isPort at hK
  by_cases h1:n≥0
  · rw [decide_eq_true h1,ite2_true]
    rwa [show decide (n<65536)=decide (0≤n∧n≤65535) from decide_eq_decide.2 (by omega)]
  · rw [decide_eq_false h1,ite2_false]
    rwa [decide_eq_false (by omega)] at hK
theorem C111 {i:Int} (h:BL hp r mx last a c L) (hsm:L.length≤100000) (hK:K (.int .i64 (ixB (fun y=>decide (y.id=i)) L)) hp):CF Tryz.prog 111 [ptr r 0,.int .i64 i] hp K:=by
  refine F111_ok _ i hp K ?_
  unfold F111 F111_j1
  refine LoopP.by (J:=fun k (z:Int) hp'=>hp'=hp∧∃ n:Nat,z=n∧n+k=L.length∧∀ j (hj:j<L.length),j<n→L[j].id≠i) ?_ (n:=L.length) ⟨rfl,0,rfl,by omega,fun j _ hj=>by omega⟩
  rintro I k z hp' ⟨rfl,n,rfl,hnk,hno⟩ hI
  unfold F111_l2
  have r2:=h.2.2.1
  simp only [ptrN_some,Nat.zero_add,r2,ldV_some,slcV_slice]
  by_cases hn:n<L.length
  · obtain ⟨b,o,rfl,g,gd⟩:=h.at hn
    have gd0:=gd 0 _ (bdc_id _)
    rw [decide_eq_true (by omega:(n:Int)<(L.length:Nat)),ite2_true]
    refine ⟨by omega,by omega,?_⟩
    simp only [ptrN_some,Int.toNat_natCast,gd0,ldV_some,intV_int]
    by_cases he:L[n].id=i
    · rw [show (L[n].id==i)=true by simp [he],ite2_true]
      rwa [ixB_at hn (decide_eq_true he) fun j hj hjn=>decide_eq_false (hno j hj hjn)] at hK
    · rw [show (L[n].id==i)=false by simp [he],ite2_false,show IntKind.wrap .i64 ((n:Int)+1)=((n+1:Nat):Int) from wi (by omega) (by omega)]
      refine hI (k-1) _ _ (by omega) ⟨rfl,n+1,rfl,by omega,fun j hj hjn=>?_⟩
      by_cases e:j=n
      · subst e; exact he
      · exact hno j hj (by omega)
  · rw [decide_eq_false (by omega:¬ (n:Int)<(L.length:Nat)),ite2_false]
    rwa [ixB_none fun j hj=>decide_eq_false (hno j hj (by omega))] at hK
set_option maxHeartbeats 1000000 in
theorem C66 {p:Int} {u:V6 × Int} (h:BL hp r mx last a c L) (hsm:L.length≤100000) (hK:K (.int .i64 (ixB (fun y=>decide (y.proto=p∧y.inn=u)) L)) hp):CF Tryz.prog 66 [ptr r 0,.int .i64 p,.agg ⟨t6 u⟩] hp K:=by
  refine F66_ok _ p (t6 u) hp K ?_
  unfold F66 F66_j1
  refine LoopP.by (J:=fun k (z:Int) hp'=>hp'=hp∧∃ n:Nat,z=n∧n+k=L.length∧∀ j (hj:j<L.length),j<n→¬ (L[j].proto=p∧L[j].inn=u)) ?_ (n:=L.length) ⟨rfl,0,rfl,by omega,fun j _ hj=>by omega⟩
  rintro I k z hp' ⟨rfl,n,rfl,hnk,hno⟩ hI
  unfold F66_l2
  have r2:=h.2.2.1
  simp only [ptrN_some,Nat.zero_add,r2,ldV_some,slcV_slice]
  by_cases hn:n<L.length
  · obtain ⟨b,o,rfl,g,gd⟩:=h.at hn
    have gd1:=gd 1 _ (bdc_proto _)
    have gi:=bd_inn g
    rw [decide_eq_true (by omega:(n:Int)<(L.length:Nat)),ite2_true]
    refine ⟨by omega,by omega,?_⟩
    have no:¬ (L[n].proto=p∧L[n].inn=u)→F66_j3 (some ⟨r,0,none⟩) p n false (t6 u) hp' I K:=by
      intro he
      unfold F66_j3
      rw [ite2_false,show IntKind.wrap .i64 ((n:Int)+1)=((n+1:Nat):Int) from wi (by omega) (by omega)]
      refine hI (k-1) _ _ (by omega) ⟨rfl,n+1,rfl,by omega,fun j hj hjn=>?_⟩
      by_cases e:j=n
      · subst e; exact he
      · exact hno j hj (by omega)
    simp only [ptrN_some,Int.toNat_natCast,gd1,ldV_some,intV_int]
    by_cases he:L[n].proto=p
    · rw [show (L[n].proto==p)=true by simp [he],ite2_true]
      refine ⟨by omega,by omega,?_⟩
      rw [gi,ldL_some,t6_cells,ldL_some]
      refine eqT6 ?_
      by_cases hp2:L[n].inn=u
      · rw [decide_eq_true hp2]
        unfold F66_j3
        rw [ite2_true]
        rwa [ixB_at hn (decide_eq_true ⟨he,hp2⟩) fun j hj hjn=>decide_eq_false (hno j hj hjn)] at hK
      · rw [decide_eq_false hp2]
        exact no fun hh=>hp2 hh.2
    · rw [show (L[n].proto==p)=false by simp [he],ite2_false]
      exact no fun hh=>he hh.1
  · rw [decide_eq_false (by omega:¬ (n:Int)<(L.length:Nat)),ite2_false]
    rwa [ixB_none fun j hj=>decide_eq_false (hno j hj (by omega))] at hK
set_option maxHeartbeats 1000000 in
theorem C67 {p:Int} {u:Q × Int} (h:BL hp r mx last a c L) (hsm:L.length≤100000) (hK:K (.int .i64 (ixB (fun y=>decide (y.proto=p∧y.out=u)) L)) hp):CF Tryz.prog 67 [ptr r 0,.int .i64 p,.agg ⟨t4 u⟩] hp K:=by
  refine F67_ok _ p (t4 u) hp K ?_
  unfold F67 F67_j1
  refine LoopP.by (J:=fun k (z:Int) hp'=>hp'=hp∧∃ n:Nat,z=n∧n+k=L.length∧∀ j (hj:j<L.length),j<n→¬ (L[j].proto=p∧L[j].out=u)) ?_ (n:=L.length) ⟨rfl,0,rfl,by omega,fun j _ hj=>by omega⟩
  rintro I k z hp' ⟨rfl,n,rfl,hnk,hno⟩ hI
  unfold F67_l2
  have r2:=h.2.2.1
  simp only [ptrN_some,Nat.zero_add,r2,ldV_some,slcV_slice]
  by_cases hn:n<L.length
  · obtain ⟨b,o,rfl,g,gd⟩:=h.at hn
    have gd1:=gd 1 _ (bdc_proto _)
    have gi:=bd_out g
    rw [decide_eq_true (by omega:(n:Int)<(L.length:Nat)),ite2_true]
    refine ⟨by omega,by omega,?_⟩
    have no:¬ (L[n].proto=p∧L[n].out=u)→F67_j3 (some ⟨r,0,none⟩) p n false (t4 u) hp' I K:=by
      intro he
      unfold F67_j3
      rw [ite2_false,show IntKind.wrap .i64 ((n:Int)+1)=((n+1:Nat):Int) from wi (by omega) (by omega)]
      refine hI (k-1) _ _ (by omega) ⟨rfl,n+1,rfl,by omega,fun j hj hjn=>?_⟩
      by_cases e:j=n
      · subst e; exact he
      · exact hno j hj (by omega)
    simp only [ptrN_some,Int.toNat_natCast,gd1,ldV_some,intV_int]
    by_cases he:L[n].proto=p
    · rw [show (L[n].proto==p)=true by simp [he],ite2_true]
      refine ⟨by omega,by omega,?_⟩
      rw [gi,ldL_some,t4_all,ldL_some]
      refine eq75 ?_
      by_cases hp2:L[n].out=u
      · rw [decide_eq_true hp2]
        unfold F67_j3
        rw [ite2_true]
        rwa [ixB_at hn (decide_eq_true ⟨he,hp2⟩) fun j hj hjn=>decide_eq_false (hno j hj hjn)] at hK
      · rw [decide_eq_false hp2]
        exact no fun hh=>hp2 hh.2
    · rw [show (L[n].proto==p)=false by simp [he],ite2_false]
      exact no fun hh=>he hh.1
  · rw [decide_eq_false (by omega:¬ (n:Int)<(L.length:Nat)),ite2_false]
    rwa [ixB_none fun j hj=>decide_eq_false (hno j hj (by omega))] at hK
theorem C94 {p:Int} {u:V6 × Int} (h:BL hp r mx last a c L) (hsm:L.length≤100000) (hK:K (.int .i64 (mayB p u L mx)) hp):CF Tryz.prog 94 [ptr r 0,.int .i64 p,.agg ⟨t6 u⟩] hp K:=by
  refine F94_ok _ p (t6 u) hp K ?_
  unfold F94
  refine C63 ?_
  rw [intV_int]
  unfold mayB at hK
  by_cases h1:kindB p<0
  · rw [decide_eq_true h1,ite2_true]; rwa [if_pos h1] at hK
  rw [decide_eq_false h1,ite2_false]
  rw [if_neg h1] at hK
  rw [show (t6 u)[16]?=some (.int .i64 u.2) from rfl,ldV_some,intV_int]
  refine C103 ?_
  rw [boolV_bool]
  by_cases h2:isPort u.2=false
  · rw [h2,Bool.not_false,ite2_true]; rwa [if_pos h2] at hK
  rw [show isPort u.2=true by simpa using h2,Bool.not_true,ite2_false]
  rw [if_neg h2] at hK
  rw [t6_cells,ldL_some]
  refine C66 h hsm ?_
  rw [intV_int]
  unfold find6 at hK
  by_cases h3:(L.find? fun y=>decide (y.proto=p∧y.inn=u)).isSome=true
  · rw [decide_eq_true ((ixB_ge _ _).2 h3),ite2_true]; rwa [if_pos h3] at hK
  rw [decide_eq_false fun e=>h3 ((ixB_ge _ _).1 e),ite2_false]
  rw [if_neg h3] at hK
  simp only [ptrN_some,Nat.zero_add,h.1,h.2.2.1,ldV_some,slcV_slice,intV_int]
  by_cases h4:L.length≥mx
  · rw [decide_eq_true (by omega),ite2_true]; rwa [if_pos h4] at hK
  · rw [decide_eq_false (by omega),ite2_false]; rwa [if_neg h4] at hK
end
end Go.Proofs
set_option linter.unusedVariables false
set_option linter.unusedSimpArgs false
set_option maxRecDepth 20000
namespace Go.Proofs
open Go Go.HL
structure RB where
  a:Option Addr
  c:Nat
  pa:Option Addr
  pc:Nat
  q:Nat→Nat
  la:Option Addr
  n:Nat
  lc:Nat
  s:Nat→Option Addr
  k:Nat→Nat
structure RefB (z hq:HP) (r:Nat) (l:List Q) (low high:Int) (mx last:Nat) (L:List Bd) (H:Nat→List ((Q × Int) × Bool)) (x:RB):Prop where
  tab:hq r=.cells 113 [.int .i64 mx,.int .i64 last,.slice x.a L.length x.c,.slice x.pa 3 x.pc] 0
  lst:Row hq x.a L.length x.c 118 26 (L.flatMap bdc)
  pls:Row hq x.pa 3 x.pc 114 1 [ptr (x.q 0) 0,ptr (x.q 1) 0,ptr (x.q 2) 0]
  pol:∀ k,k<3→RefQ z hq (x.q k) x.la x.n x.lc l low high (H k) (x.s k) (x.k k)
  inj:∀ i j,i<3→j<3→x.q i=x.q j→i=j
  zr:z r=.none
  zl:∀ b,x.a=some ⟨b,0,none⟩→z b=.none
section
variable {z hq hq' hp:HP} {r mx last:Nat} {l:List Q} {low high:Int} {L:List Bd} {H:Nat→List ((Q × Int) × Bool)} {x:RB} {K:Value→HP→Prop}
theorem keep_row {s:Option Addr} {n c e size:Nat} {xs:List Value} {b e' sp:Nat} {cs:List Value} (h:Row hq s n c e size xs) (hb:hq b=.cells e' cs sp) (he:e≠e') (hs:HSub (hq.set b .none) hq'):Row hq' s n c e size xs:=by
  rcases h with h | ⟨b',h1,h2,h3,h4⟩
  · exact .inl h
  · refine .inr ⟨b',h1,h2,h3,?_⟩
    have hne:b'≠b:=fun e=>by rw [e,hb] at h4; cases h4; exact he rfl
    exact hs.cells (by rw [HP.set_ne _ _ hne]; exact h4)
theorem keep_cells {q:Nat} {e sp:Nat} {xs:List Value} {b e' sp':Nat} {cs:List Value} (h:hq q=.cells e xs sp) (hb:hq b=.cells e' cs sp') (he:e≠e') (hs:HSub (hq.set b .none) hq'):hq' q=.cells e xs sp:=by
  have hne:q≠b:=fun e=>by rw [e,hb] at h; cases h; exact he rfl
  exact hs.cells (by rw [HP.set_ne _ _ hne]; exact h)
theorem keep_base {b:Nat} (h:HSub z hq) (hz:z b=.none) (hs:HSub (hq.set b .none) hq'):HSub z hq':=by
  refine HSub.trans (fun x=>?_) hs
  by_cases hx:x=b
  · subst hx; exact .inl hz
  · rw [HP.set_ne _ _ hx]; exact h x
theorem keep_pool {q:Nat} {a:Option Addr} {n c:Nat} {held:List ((Q × Int) × Bool)} {s:Option Addr} {k:Nat} {b e' sp:Nat} {cs:List Value} (h:RefQ z hq q a n c l low high held s k) (hb:hq b=.cells e' cs sp) (h1:117≠e') (h2:186≠e') (hz:z b=.none)
    (hs:HSub (hq.set b .none) hq'):RefQ z hq' q a n c l low high held s k:=by
  obtain ⟨g1,g2,g3,g4,g5,g6⟩:=h
  exact ⟨keep_base g1 hz hs,g2,g3,g4,keep_cells g5 hb h1 hs,keep_row g6 hb h2 hs⟩
theorem RefB.base (h:RefB z hq r l low high mx last L H x):HSub z hq:=(h.pol 0 (by omega)).1
theorem RefB.bl (h:RefB z hq r l low high mx last L H x):BL hq r mx last x.a x.c L:=⟨HP.cell_of h.tab,HP.cell_of h.tab,HP.cell_of h.tab,h.lst.shows⟩
theorem RefB.list {last':Nat} {L':List Bd} {a':Option Addr} {c':Nat} (h:RefB z hq r l low high mx last L H x) (hs:HSub (hq.set r .none) hq') (ht:hq' r=.cells 113 [.int .i64 mx,.int .i64 last',.slice a' L'.length c',.slice x.pa 3 x.pc] 0)
    (hrow:Row hq' a' L'.length c' 118 26 (L'.flatMap bdc)) (hf:∀ b,a'=some ⟨b,0,none⟩→hq b=.none):RefB z hq' r l low high mx last' L' H { x with a:=a',c:=c' } where
  tab:=ht
  lst:=hrow
  pls:=keep_row h.pls h.tab (by decide) hs
  pol k hk:=keep_pool (h.pol k hk) h.tab (by decide) (by decide) h.zr hs
  inj:=h.inj
  zr:=h.zr
  zl b e:=by
    rcases h.base b with e' | e'
    · exact e'
    · rw [e',hf b e]
theorem RefB.chg {k:Nat} {held:List ((Q × Int) × Bool)} {s':Option Addr} {k':Nat} (h:RefB z hq r l low high mx last L H x) (hk:k<3) (hs:HSub (hq.set (x.q k) .none) hq') (hr:RefQ z hq' (x.q k) x.la x.n x.lc l low high held s' k') :
    RefB z hq' r l low high mx last L (fun j=>if j=k then held else H j) { x with s:=fun j=>if j=k then s' else x.s j,k:=fun j=>if j=k then k' else x.k j } where
  tab:=keep_cells h.tab (h.pol k hk).2.2.2.2.1 (by decide) hs
  lst:=keep_row h.lst (h.pol k hk).2.2.2.2.1 (by decide) hs
  pls:=keep_row h.pls (h.pol k hk).2.2.2.2.1 (by decide) hs
  pol j hj:=by
    by_cases e:j=k
    · subst e
      simp only [if_true]
      exact hr
    · simp only [e,if_false]
      obtain ⟨g1,g2,g3,g4,g5,g6⟩:=h.pol j hj
      have gk:=(h.pol k hk).2.2.2.2.1
      refine ⟨hr.1,g2,g3,g4,?_,keep_row g6 gk (by decide) hs⟩
      have hne:x.q j≠x.q k:=fun e'=>e (h.inj j k hj hk e')
      exact hs.cells (by rw [HP.set_ne _ _ hne]; exact g5)
  inj:=h.inj
  zr:=h.zr
  zl:=h.zl
theorem none_sub {r:Nat} (h:HSub hq hq'):HSub (hq.set r .none) hq':=fun x=>by
  by_cases hx:x=r
  · subst hx; exact .inl (HP.set_eq ..)
  · rw [HP.set_ne _ _ hx]; exact h x
theorem sub_set {r:Nat} {e:Ent} (h:HSub hq hq') (hr:hq r=.none):HSub hq (hq'.set r e):=fun x=>by
  by_cases hx:x=r
  · subst hx; exact .inl hr
  · rw [HP.set_ne _ _ hx]; exact h x
theorem bdz_spl (y:Bd):splice [(Value.int .i64 0),(Value.int .i64 0),(Value.int .u8 0),(Value.int .u8 0),(Value.int .u8 0),(Value.int .u8 0),(Value.int .u8 0),(Value.int .u8 0),(Value.int .u8 0),(Value.int .u8 0),(Value.int .u8 0),(Value.int .u8 0),(Value.int .u8 0),(Value.int .u8 0),(Value.int .u8 0),(Value.int .u8 0),(Value.int .u8 0),(Value.int .u8 0),(Value.int .i64 0),(Value.int .u8 0),(Value.int .u8 0),(Value.int .u8 0),(Value.int .u8 0),(Value.int .i64 0),(Value.bool false),(Value.int .i64 0)] 0 (bdc y)=bdc y:=bd_spl rfl
set_option maxHeartbeats 4000000 in
theorem C97 {w:Bd} (h:RefB z hq r l low high mx last L H x) (hlast:last<500000) (hl:L.length≤65535)
    (hK:∀ hq' x',RefB z hq' r l low high mx (last+1) (L++[⟨((last+1:Nat):Int),w.proto,w.inn,w.out,w.st,w.ses⟩]) H x'→K (.agg ⟨bdc ⟨((last+1:Nat):Int),w.proto,w.inn,w.out,w.st,w.ses⟩⟩) hq'):CF Tryz.prog 97 [ptr r 0,.agg ⟨bdc w⟩] hq K:=by
  refine F97_ok _ (bdc w) hq K ?_
  unfold F97
  obtain ⟨a,c,pa,pc,q,la,nn,lc,s,kk⟩:=x
  have h1:=h.tab
  have h2:=h.lst
  simp only at h1 h2
  have hc1:hq.cell r 1=some (.int .i64 last):=HP.cell_of h1
  simp only [ptrN_some,Nat.zero_add,hc1,ldV_some,intV_int]
  have w1:IntKind.wrap .i64 ((last:Int)+1)=((last+1:Nat):Int):=wi (by omega) (by omega)
  rw [w1]
  refine HP.st_at h1 (by simp) ?_
  have hset:([Value.int .i64 (mx:Nat),.int .i64 (last:Nat),.slice a L.length c,.slice pa 3 pc].set 1 (.int .i64 ((last+1:Nat):Int)))=[.int .i64 (mx:Nat),.int .i64 ((last+1:Nat):Int),.slice a L.length c,.slice pa 3 pc]:=rfl
  rw [hset]
  have g1:(hq.set r (.cells 113 [.int .i64 (mx:Nat),.int .i64 ((last+1:Nat):Int),.slice a L.length c,.slice pa 3 pc] 0)) r=.cells 113 [.int .i64 (mx:Nat),.int .i64 ((last+1:Nat):Int),.slice a L.length c,.slice pa 3 pc] 0:=HP.set_eq ..
  have g2:Row (hq.set r (.cells 113 [.int .i64 (mx:Nat),.int .i64 ((last+1:Nat):Int),.slice a L.length c,.slice pa 3 pc] 0)) a L.length c 118 26 (L.flatMap bdc):=by
    rcases h2 with h | ⟨b,r1,r2,r3,r4⟩
    · exact .inl h
    · exact .inr ⟨b,r1,r2,r3,by rw [HP.set_ne _ _ (fun e=>by rw [e,h1] at r4; cases r4)]; exact r4⟩
  have s00:HSub (hq.set r .none) (hq.set r (.cells 113 [.int .i64 (mx:Nat),.int .i64 ((last+1:Nat):Int),.slice a L.length c,.slice pa 3 pc] 0)):=sub_set (HSub.refl _ |> none_sub) (HP.set_eq ..)
  have f00:∀ b',(hq.set r (.cells 113 [.int .i64 (mx:Nat),.int .i64 ((last+1:Nat):Int),.slice a L.length c,.slice pa 3 pc] 0)) b'=.none→hq b'=.none:=fun b' e=>by
    by_cases hb:b'=r
    · rw [hb,HP.set_eq] at e; cases e
    · rwa [HP.set_ne _ _ hb] at e
  generalize hq.set r (.cells 113 [.int .i64 (mx:Nat),.int .i64 ((last+1:Nat):Int),.slice a L.length c,.slice pa 3 pc] 0)=hq1 at *
  clear h1 h2 hc1 hset w1
  have k1:∀ {hp:HP},HSub hq1 hp→hp.cell r 1=some (.int .i64 ((last+1:Nat):Int)):=fun hs=>HP.cell_of (hs.cells g1)
  have k2:∀ {hp:HP},HSub hq1 hp→hp.cell r 2=some (.slice a L.length c):=fun hs=>HP.cell_of (hs.cells g1)
  have x1:=k1 (HSub.refl hq1)
  have x2:=k2 (HSub.refl hq1)
  have hz:List.set (bdc w) 0 (.int .i64 ((last+1:Nat):Int))=bdc ⟨((last+1:Nat):Int),w.proto,w.inn,w.out,w.st,w.ses⟩:=rfl
  have fin:∀ hp2 a2 c2,HSub hq1 hp2→(∀ b',a2=some ⟨b',0,none⟩→hq1 b'=.none)→Row hp2 a2 (L.length+1) c2 118 26 (L.flatMap bdc++bdc ⟨((last+1:Nat):Int),w.proto,w.inn,w.out,w.st,w.ses⟩) →
      HP.st hp2 r 2 (.slice a2 (L.length+1) c2) fun h=>F97_j1 (bdc ⟨((last+1:Nat):Int),w.proto,w.inn,w.out,w.st,w.ses⟩) [(Value.int .i64 0),(Value.int .i64 0),(Value.int .u8 0),(Value.int .u8 0),(Value.int .u8 0),(Value.int .u8 0),(Value.int .u8 0),(Value.int .u8 0),(Value.int .u8 0),(Value.int .u8 0),(Value.int .u8 0),(Value.int .u8 0),(Value.int .u8 0),(Value.int .u8 0),(Value.int .u8 0),(Value.int .u8 0),(Value.int .u8 0),(Value.int .u8 0),(Value.int .i64 0),(Value.int .u8 0),(Value.int .u8 0),(Value.int .u8 0),(Value.int .u8 0),(Value.int .i64 0),(Value.bool false),(Value.int .i64 0)] h K:=by
    intro hp2 a2 c2 hs hf hrow
    refine HP.st_at (hs.cells g1) (by simp) ?_
    unfold F97_j1
    rw [bdc_cells,ldL_some]
    rw [if_pos (bdc_len _),if_pos (bdc_one _),if_pos (by simp [bdc_len]),bdz_spl,bdc_cells,ldL_some]
    refine hK _ _ (h.list (last':=last+1) (L':=L++[⟨((last+1:Nat):Int),w.proto,w.inn,w.out,w.st,w.ses⟩]) (a':=a2) (c':=c2) (sub_set (s00.trans hs) (HP.set_eq ..)) (by rw [HP.set_eq,List.length_append]; rfl) ?_ fun b' e=>f00 b' (hf b' e))
    rw [List.length_append,List.flatMap_append]
    have e1:([(⟨((last+1:Nat):Int),w.proto,w.inn,w.out,w.st,w.ses⟩:Bd)]).flatMap bdc=bdc ⟨((last+1:Nat):Int),w.proto,w.inn,w.out,w.st,w.ses⟩:=by simp
    rw [e1]
    rcases hrow with h | ⟨b,r1,r2,r3,r4⟩
    · exact .inl h
    · exact .inr ⟨b,r1,r2,r3,by rw [HP.set_ne _ _ (fun e=>by have:=hf b r1; rw [e,g1] at this; cases this)]; exact r4⟩
  have app1:∀ (b0:Nat) (h0 hp:HP) {X:Value→HP→Prop},HSub hq1 h0→HSub h0 hp→h0 b0=.none→hp b0=.cells 118 [] 0→(∀ hp2 a2 c2,HSub h0 hp2→(∀ b',a2=some ⟨b',0,none⟩→h0 b'=.none)→Row hp2 a2 L.length c2 118 26 (L.flatMap bdc)→X (.slice a2 (0+L.length) c2) hp2) →
      opS Tryz.prog (Builtin.append_ #[110,110] 110 ⟨[.slice (some ⟨b0,0,none⟩) 0 0,.slice a L.length c]⟩) hp X:=by
    intro b0 h0 hp X hs0 hs hb0 hb hX
    have hr0:Row hp (some ⟨b0,0,none⟩) 0 0 118 26 []:=.inr ⟨b0,rfl,Nat.le_refl _,rfl,hb⟩
    refine opS_appF (e:=118) (size:=26) (bytes:=72) (by kernel_rfl) hr0 (g2.sub (hs0.trans hs)).shows (all_flat bdc_one _) (by omega) (by omega) ?_
    intro s2 c2 hp2 hrow2 hf2
    obtain ⟨k1,k2⟩:=hf2 h0 hs (fun b' e=>by cases e; exact hb0)
    exact hX hp2 s2 c2 k1 k2 (by rw [Nat.zero_add] at hrow2; simpa using hrow2)
  have app2:∀ (hp2:HP) (a2:Option Addr) (c2 b2:Nat) {X:Value→HP→Prop},HSub hq1 hp2→(∀ b',a2=some ⟨b',0,none⟩→hq1 b'=.none)→Row hp2 a2 L.length c2 118 26 (L.flatMap bdc)→hp2 b2=.cells 118 (bdc ⟨((last+1:Nat):Int),w.proto,w.inn,w.out,w.st,w.ses⟩) 0 →
      (∀ hp3 a3 c3,HSub hq1 hp3→(∀ b',a3=some ⟨b',0,none⟩→hq1 b'=.none)→Row hp3 a3 (L.length+1) c3 118 26 (L.flatMap bdc++bdc ⟨((last+1:Nat):Int),w.proto,w.inn,w.out,w.st,w.ses⟩)→X (.slice a3 (L.length+1) c3) hp3) →
      opS Tryz.prog (Builtin.append_ #[110,110] 110 ⟨[.slice a2 L.length c2,.slice (some ⟨b2,0,none⟩) 1 1]⟩) hp2 X:=by
    intro hp2 a2 c2 b2 X hs hf hrow hb2 hX
    refine opS_appF (e:=118) (size:=26) (bytes:=72) (by kernel_rfl) hrow (.inr ⟨b2,0,rfl,by rw [HP.cellN_of hb2]; exact cellsN_all rfl⟩) (bdc_one _) (by omega) (by omega) ?_
    intro s3 c3 hp3 hrow3 hf3
    obtain ⟨k1,k2⟩:=hf3 hq1 hs hf
    exact hX hp3 s3 c3 k1 k2 hrow3
  rw [x1]
  simp only [ldV_some,intV_int,hz]
  rw [if_pos (by rw [bdc_len]; omega)]
  simp only [bdc_cells,ldL_some,bdz_spl,ptrN_some,Nat.zero_add]
  repeat' apply And.intro
  all_goals
    have y2:=x2
    try simp only [y2,ldV_some,slcV_slice,ldL_some,bdz_spl]
    first
      | (rw [if_pos (bdc_len _)]
         refine fun (b2:Nat) (hb2':hq1 b2=Ent.none)=>?_
         have s2:=HSub.set_fresh hq1 (.cells 118 (bdc ⟨((last+1:Nat):Int),w.proto,w.inn,w.out,w.st,w.ses⟩) 0) hb2'
         have y2:=k2 s2
         try simp only [y2,ldV_some,slcV_slice]
         refine fun (b0:Nat) (hb0:(hq1.set b2 (.cells 118 (bdc ⟨((last+1:Nat):Int),w.proto,w.inn,w.out,w.st,w.ses⟩) 0)) b0=Ent.none)=>?_
         have hne:b2≠b0:=fun e=>by rw [e,HP.set_eq] at hb0; cases hb0
         have s1:=s2.trans (HSub.set_fresh _ (.cells 118 [] 0) hb0)
         have y2:=k2 s1
         try simp only [y2,ldV_some,slcV_slice]
         refine app1 b0 (hq1.set b2 (.cells 118 (bdc ⟨((last+1:Nat):Int),w.proto,w.inn,w.out,w.st,w.ses⟩) 0)) _ (HSub.set_fresh _ _ hb2') (HSub.set_fresh _ _ hb0) hb0 (HP.set_eq ..) fun hp2 a2 c2 hs2 hf2 hrow2=>?_
         rw [Nat.zero_add]
         have s2:=(HSub.set_fresh hq1 (.cells 118 (bdc ⟨((last+1:Nat):Int),w.proto,w.inn,w.out,w.st,w.ses⟩) 0) hb2').trans hs2
         simp only [slcV_slice]
         refine app2 hp2 a2 c2 b2 s2 (fun b' e=>by
           have:=hf2 b' e
           by_cases hb:b'=b2
           · rw [hb]; exact hb2'
           · rwa [HP.set_ne _ _ hb] at this) hrow2 (hs2.cells (HP.set_eq ..)) fun hp3 a3 c3 hs3 hf3 hrow3=>?_
         simp only [slcV_slice]
         exact fin hp3 a3 c3 hs3 hf3 hrow3)
      | (refine fun (b0:Nat) (hb0:hq1 b0=Ent.none)=>?_
         have s0:=HSub.set_fresh hq1 (.cells 118 [] 0) hb0
         have y2:=k2 s0
         try simp only [y2,ldV_some,slcV_slice,ldL_some,bdz_spl]
         first
           | (rw [if_pos (bdc_len _)]
              refine fun (b2:Nat) (hb2:(hq1.set b0 (.cells 118 [] 0)) b2=Ent.none)=>?_
              have hne:b2≠b0:=fun e=>by rw [e,HP.set_eq] at hb2; cases hb2
              have hb2':hq1 b2=.none:=by rwa [HP.set_ne _ _ hne] at hb2
              have s1:=s0.trans (HSub.set_fresh _ (.cells 118 (bdc ⟨((last+1:Nat):Int),w.proto,w.inn,w.out,w.st,w.ses⟩) 0) hb2)
              have y2:=k2 s1
              try simp only [y2,ldV_some,slcV_slice]
              refine app1 b0 (hq1.set b2 (.cells 118 (bdc ⟨((last+1:Nat):Int),w.proto,w.inn,w.out,w.st,w.ses⟩) 0)) _ (HSub.set_fresh _ _ hb2') (s0.set b2 _) (by rw [HP.set_ne _ _ hne.symm]; exact hb0) (by rw [HP.set_ne _ _ hne.symm,HP.set_eq]) fun hp2 a2 c2 hs2 hf2 hrow2=>?_
              rw [Nat.zero_add]
              have s2:=(HSub.set_fresh hq1 (.cells 118 (bdc ⟨((last+1:Nat):Int),w.proto,w.inn,w.out,w.st,w.ses⟩) 0) hb2').trans hs2
              simp only [slcV_slice]
              refine app2 hp2 a2 c2 b2 s2 (fun b' e=>by
                have:=hf2 b' e
                by_cases hb:b'=b2
                · rw [hb]; exact hb2'
                · rwa [HP.set_ne _ _ hb] at this) hrow2 (hs2.cells (HP.set_eq ..)) fun hp3 a3 c3 hs3 hf3 hrow3=>?_
              simp only [slcV_slice]
              exact fin hp3 a3 c3 hs3 hf3 hrow3)
           | (refine app1 b0 hq1 _ (HSub.refl hq1) s0 hb0 (HP.set_eq ..) fun hp2 a2 c2 hs2 hf2 hrow2=>?_
              rw [Nat.zero_add]
              simp only [slcV_slice,ldL_some]
              rw [if_pos (bdc_len _)]
              refine fun (b2:Nat) (hb2:hp2 b2=Ent.none)=>?_
              have s2:=HSub.set_fresh hp2 (.cells 118 (bdc ⟨((last+1:Nat):Int),w.proto,w.inn,w.out,w.st,w.ses⟩) 0) hb2
              refine app2 _ a2 c2 b2 (hs2.trans s2) hf2 (hrow2.sub s2) (HP.set_eq ..) fun hp3 a3 c3 hs3 hf3 hrow3=>?_
              simp only [slcV_slice]
              exact fin hp3 a3 c3 hs3 hf3 hrow3))
set_option maxHeartbeats 4000000 in
theorem C109 {n:Nat} (h:RefB z hq r l low high mx last L H x) (hi:n<L.length) (hl:L.length≤65535)
    (hK:∀ hq' x',RefB z hq' r l low high mx last (L.take n++L.drop (n+1)) H x'→K (.tuple ⟨[]⟩) hq'):CF Tryz.prog 109 [ptr r 0,.int .i64 n] hq K:=by
  refine F109_ok _ (n:Int) hq K ?_
  unfold F109
  obtain ⟨a,c,pa,pc,q,la,nn,lc,s,kk⟩:=x
  have h1:=h.tab
  have h2:=h.lst
  simp only at h1 h2
  have hc2:∀ {hp:HP},HSub hq hp→hp.cell r 2=some (.slice a L.length c):=fun hs=>HP.cell_of (hs.cells h1)
  have hc20:=hc2 (HSub.refl hq)
  have hcn:L.length≤c:=by
    rcases h2 with ⟨_,h0,h3,_⟩ | ⟨_,_,h3,_,_⟩
    · omega
    · exact h3
  have wi1:IntKind.wrap .i64 ((n:Int)+1)=((n+1:Nat):Int):=wi (by omega) (by omega)
  have fin:∀ hp2 a2 c2,HSub hq hp2→(∀ b',a2=some ⟨b',0,none⟩→hq b'=.none)→Row hp2 a2 (L.take n++L.drop (n+1)).length c2 118 26 ((L.take n++L.drop (n+1)).flatMap bdc) →
      HP.st hp2 r 2 (.slice a2 (L.take n++L.drop (n+1)).length c2) fun h=>K (.tuple ⟨[]⟩) h:=by
    intro hp2 a2 c2 hs hf hrow
    refine HP.st_at (hs.cells h1) (by simp) ?_
    refine hK _ _ (h.list (last':=last) (L':=L.take n++L.drop (n+1)) (a':=a2) (c':=c2) (sub_set (none_sub hs) (HP.set_eq ..)) (by rw [HP.set_eq]; rfl) ?_ hf)
    rcases hrow with h | ⟨b,r1,r2,r3,r4⟩
    · exact .inl h
    · exact .inr ⟨b,r1,r2,r3,by rw [HP.set_ne _ _ (fun e=>by have:=hf b r1; rw [e,h1] at this; cases this)]; exact r4⟩
  simp only [ptrN_some,Nat.zero_add,hc20,ldV_some,slcV_slice,wi1,Int.toNat_natCast]
  have hlen:(L.take n++L.drop (n+1)).length=n+(L.length-(n+1)):=by simp; omega
  have app:∀ (b0:Nat) {X:Value→HP→Prop},hq b0=.none→(∀ hp2 a2 c2,HSub hq hp2→(∀ b',a2=some ⟨b',0,none⟩→hq b'=.none)→Row hp2 a2 n c2 118 26 ((L.take n).flatMap bdc)→X (.slice a2 (0+n) c2) hp2) →
      opS Tryz.prog (Builtin.append_ #[110,110] 110 ⟨[.slice (some ⟨b0,0,none⟩) 0 0,.slice a n c]⟩) (hq.set b0 (.cells 118 [] 0)) X:=by
    intro b0 X hb0 hX
    have s0:=HSub.set_fresh hq (.cells 118 [] 0) hb0
    have hr0:Row (hq.set b0 (.cells 118 [] 0)) (some ⟨b0,0,none⟩) 0 0 118 26 []:=.inr ⟨b0,rfl,Nat.le_refl _,rfl,by rw [HP.set_eq]⟩
    have hsh:=(h2.sub s0).shows.take bdc_len rfl (Nat.le_of_lt hi)
    refine opS_appF (e:=118) (size:=26) (bytes:=72) (by kernel_rfl) hr0 hsh (all_flat bdc_one _) (by omega) (by omega) ?_
    intro s2 c2 hp2 hrow2 hf2
    obtain ⟨k1,k2⟩:=hf2 hq s0 (fun b' e=>by cases e; exact hb0)
    exact hX hp2 s2 c2 k1 k2 (by rw [Nat.zero_add] at hrow2; simpa using hrow2)
  have app2:∀ (hp2:HP) (a2:Option Addr) (c2:Nat) {X:Value→HP→Prop},HSub hq hp2→(∀ b',a2=some ⟨b',0,none⟩→hq b'=.none)→Row hp2 a2 n c2 118 26 ((L.take n).flatMap bdc) →
      (∀ hp3 a3 c3,HSub hq hp3→(∀ b',a3=some ⟨b',0,none⟩→hq b'=.none)→Row hp3 a3 (L.take n++L.drop (n+1)).length c3 118 26 ((L.take n++L.drop (n+1)).flatMap bdc)→X (.slice a3 (L.take n++L.drop (n+1)).length c3) hp3) →
      opS Tryz.prog (Builtin.append_ #[110,110] 110 ⟨[.slice a2 n c2,.slice (sub0 a c (n+1) 26) (L.length-(n+1)) (c-(n+1))]⟩) hp2 X:=by
    intro hp2 a2 c2 X hs hf hrow hX
    have hsh:=Shows.subF (enc:=bdc) (i:=n+1) (h2.sub hs).shows bdc_len rfl hcn (by omega)
    refine opS_appF (e:=118) (size:=26) (bytes:=72) (by kernel_rfl) hrow hsh (all_flat bdc_one _) (by omega) (by omega) ?_
    intro s3 c3 hp3 hrow3 hf3
    obtain ⟨k1,k2⟩:=hf3 hq hs hf
    rw [← List.flatMap_append,← hlen] at hrow3
    rw [← hlen]
    exact hX hp3 s3 c3 k1 k2 hrow3
  repeat' apply And.intro
  all_goals try omega
  all_goals
    try simp only [ptrN_some,Nat.zero_add,hc20,ldV_some,slcV_slice]
    refine fun (b0:Nat) (hb0:hq b0=Ent.none)=>?_
    have s0:=HSub.set_fresh hq (.cells 118 [] 0) hb0
    have hc21:=hc2 s0
    try simp only [ptrN_some,Nat.zero_add,hc21,ldV_some,slcV_slice]
    first
      | refine ⟨by omega,by omega,?_⟩
      | skip
    try simp only [ptrN_some,Nat.zero_add,hc21,ldV_some,slcV_slice]
    refine app b0 hb0 fun hp2 a2 c2 hs2 hf2 hrow2=>?_
    have hc22:=hc2 hs2
    rw [Nat.zero_add]
    simp only [ptrN_some,Nat.zero_add,hc22,ldV_some,slcV_slice]
    refine ⟨by omega,by omega,hcn,?_⟩
    refine app2 hp2 a2 c2 hs2 hf2 hrow2 fun hp3 a3 c3 hs3 hf3 hrow3=>?_
    simp only [slcV_slice,ptrN_some,Nat.zero_add]
    exact fin hp3 a3 c3 hs3 hf3 hrow3
end
end Go.Proofs
set_option linter.unusedVariables false
set_option maxRecDepth 20000
namespace Go.Proofs
open Go Go.HL
def F48_j2 (x0:OA) (x1:Int) (x3:Bool) (x11:OA) (k6 k8 k12:List Value) (hp:HP) (K:Kh):Prop:=
  (ldL (cellsN k12 0 4) fun l_15=>(ldV (k6)[16]? fun v_16=>(intV v_16 .i64 fun i_17=>(CF Tryz.prog 95 [(Value.pointer x11),(Value.agg ⟨l_15⟩),(Value.int .i64 i_17),(Value.bool ((x1:Int)==1))] hp fun u_18 h_19=>(tup2V u_18 fun u_20 u_21=>(aggV u_20 fun l_22=>(intV u_21 .i64 fun i_23=>(if List.length l_22=5 then (if List.all l_22 one=true then (if 0+List.length l_22≤List.length [(Value.int .u8 0),(Value.int .u8 0),(Value.int .u8 0),(Value.int .u8 0),(Value.int .i64 0)] then (ite2 ((i_23:Int) != 0) (if List.length zB=26 then (if List.all zB one=true then (if 0+List.length zB≤List.length k8 then (ldL (cellsN (splice k8 0 zB) 0 26) fun l_24=>(K (.tuple ⟨[(.agg ⟨l_24⟩),(Value.int .i64 13)]⟩) h_19)) else False) else False) else False) (ite2 x3 (ldL (cellsN (splice [(Value.int .u8 0),(Value.int .u8 0),(Value.int .u8 0),(Value.int .u8 0),(Value.int .i64 0)] 0 l_22) 0 5) fun l_25=>(CF Tryz.prog 96 [(Value.pointer x11),(Value.agg ⟨l_25⟩)] h_19 fun u_26 h_27=>(intV u_26 .i64 fun i_28=>(if List.length zB=26 then (if List.all zB one=true then (if 0+List.length zB≤List.length k8 then (ldL (cellsN (splice k8 0 zB) 0 26) fun l_29=>(K (.tuple ⟨[(.agg ⟨l_29⟩),(Value.int .i64 0)]⟩) h_27)) else False) else False) else False)))) (ldL (cellsN k6 0 17) fun l_30=>(ldL (cellsN (splice [(Value.int .u8 0),(Value.int .u8 0),(Value.int .u8 0),(Value.int .u8 0),(Value.int .i64 0)] 0 l_22) 0 5) fun l_31=>(if List.length l_30=17 then (if List.length l_31=5 then (CF Tryz.prog 97 [(Value.pointer x0),(Value.agg ⟨(splice (splice [(Value.int .i64 0),(Value.int .i64 x1),(Value.int .u8 0),(Value.int .u8 0),(Value.int .u8 0),(Value.int .u8 0),(Value.int .u8 0),(Value.int .u8 0),(Value.int .u8 0),(Value.int .u8 0),(Value.int .u8 0),(Value.int .u8 0),(Value.int .u8 0),(Value.int .u8 0),(Value.int .u8 0),(Value.int .u8 0),(Value.int .u8 0),(Value.int .u8 0),(Value.int .i64 0),(Value.int .u8 0),(Value.int .u8 0),(Value.int .u8 0),(Value.int .u8 0),(Value.int .i64 0),(Value.bool false),(Value.int .i64 0)] 2 l_30) 19 l_31)⟩)] h_19 fun u_32 h_33=>(aggV u_32 fun l_34=>(if List.length l_34=26 then (if List.all l_34 one=true then (if 0+List.length l_34≤List.length k8 then (ldL (cellsN (splice k8 0 l_34) 0 26) fun l_35=>(K (.tuple ⟨[(.agg ⟨l_35⟩),(Value.int .i64 0)]⟩) h_33)) else False) else False) else False))) else False) else False))))) else False) else False) else False))))))))
def F48_j5 (x0:OA) (x1:Int) (x3:Bool) (x11:OA) (x13:Int) (k6 k8 k12:List Value) (hp:HP) (I4:(Int × (List Value))→HP→Prop) (K:Value→HP→Prop):Prop:=
  (I4 ((IntKind.wrap .i64 (x13-1)),k12) hp)
def F48_l4 (x0:OA) (x1:Int) (x3:Bool) (x11:OA) (k6 k8:List Value) (K:Kh) (I4:(Int × (List Value))→HP→Prop) (x13:Int) (k12:List Value) (hp:HP):Prop:=
  (ite2 (decide ((x13:Int)≥0)) (ptrN x0 fun b_36 o_37=>(ldV (HP.cell hp b_36 (o_37+2)) fun v_38=>(slcV v_38 fun a_39 n_40 c_41=>((0≤(x13:Int))∧((x13:Int)<(n_40:Nat))∧(ptrN a_39 fun b_42 o_43=>(ldL (HP.cellN hp b_42 (((o_43+Int.toNat x13*26)+2)+0) 16) fun l_44=>(ldL (cellsN k6 0 16) fun l_45=>(eqAgg Tryz.prog 93 l_44 l_45 fun q_46=>(ite2 q_46 (ptrN x0 fun b_47 o_48=>(ldV (HP.cell hp b_47 (o_48+2)) fun v_49=>(slcV v_49 fun a_50 n_51 c_52=>((0≤(x13:Int))∧((x13:Int)<(n_51:Nat))∧(ptrN a_50 fun b_53 o_54=>(ldL (HP.cellN hp b_53 (((o_54+Int.toNat x13*26)+19)+0) 4) fun l_55=>(if List.length l_55=4 then (if List.all l_55 one=true then (if 0+List.length l_55≤List.length k12 then (F48_j5 x0 x1 x3 x11 x13 k6 k8 (splice k12 0 l_55) hp I4 K) else False) else False) else False))))))) (F48_j5 x0 x1 x3 x11 x13 k6 k8 k12 hp I4 K)))))))))) (F48_j2 x0 x1 x3 x11 k6 k8 k12 hp  K))
def F48_j3 (x0:OA) (x1:Int) (x3:Bool) (x11:OA) (x13:Int) (k6 k8 k12:List Value) (hp:HP) (K:Kh):Prop:=
  (LoopP (σ:=Int × (List Value)) (fun I s hp=>F48_l4 x0 x1 x3 x11 k6 k8  K I s.1 s.2 hp) (x13,k12) hp)
def F48_j1 (x0:OA) (x1:Int) (x3:Bool) (x11:OA) (k6 k8:List Value) (hp:HP) (K:Kh):Prop:=
  (ptrN x11 fun b_6 o_7=>(ldV (HP.cell hp b_6 (o_7+0)) fun v_8=>(slcV v_8 fun a_9 n_10 c_11=>((0≤(0:Int))∧((0:Int)<(n_10:Nat))∧(ptrN a_9 fun b_12 o_13=>(ldL (HP.cellN hp b_12 (o_13+Int.toNat 0*4) 4) fun l_14=>(if List.length l_14=4 then (if List.all l_14 one=true then (if 0+List.length l_14≤List.length [(Value.int .u8 0),(Value.int .u8 0),(Value.int .u8 0),(Value.int .u8 0)] then (ptrN x0 fun b_56 o_57=>(ldV (HP.cell hp b_56 (o_57+2)) fun v_58=>(slcV v_58 fun a_59 n_60 c_61=>(F48_j3 x0 x1 x3 x11 (IntKind.wrap .i64 ((n_60:Nat)-1)) k6 k8 (splice [(Value.int .u8 0),(Value.int .u8 0),(Value.int .u8 0),(Value.int .u8 0)] 0 l_14) hp  K)))) else False) else False) else False)))))))
def F48 (x0:OA) (x1:Int) (x2:List Value) (x3:Bool) (hp:HP) (K:Kh):Prop:=
  (ldL (cellsN x2 0 17) fun l_1=>(CF Tryz.prog 94 [(Value.pointer x0),(Value.int .i64 x1),(Value.agg ⟨l_1⟩)] hp fun u_2 h_3=>(intV u_2 .i64 fun i_4=>(ite2 ((i_4:Int) != 0) (if List.length zB=26 then (if List.all zB one=true then (if 0+List.length zB≤List.length zB then (ldL (cellsN (splice zB 0 zB) 0 26) fun l_5=>(K (.tuple ⟨[(.agg ⟨l_5⟩),(Value.int .i64 i_4)]⟩) h_3)) else False) else False) else False) ((ptrN x0 fun b_62 o_63=>(ldV (HP.cell h_3 b_62 (o_63+3)) fun v_64=>(slcV v_64 fun a_65 n_66 c_67=>(CF Tryz.prog 63 [(Value.int .i64 x1)] h_3 fun u_68 h_69=>(intV u_68 .i64 fun i_70=>((0≤(i_70:Int))∧((i_70:Int)<(n_66:Nat))∧(ptrN a_65 fun b_71 o_72=>(ldV (HP.cell h_69 b_71 (o_72+Int.toNat i_70*1)) fun v_73=>(ptrV v_73 fun p_74=>(F48_j1 x0 x1 x3 p_74 x2 zB h_69  K))))))))))∧(ptrN x0 fun b_75 o_76=>(CF Tryz.prog 63 [(Value.int .i64 x1)] h_3 fun u_77 h_78=>(intV u_77 .i64 fun i_79=>(ldV (HP.cell h_78 b_75 (o_76+3)) fun v_80=>(slcV v_80 fun a_81 n_82 c_83=>((0≤(i_79:Int))∧((i_79:Int)<(n_82:Nat))∧(ptrN a_81 fun b_84 o_85=>(ldV (HP.cell h_78 b_84 (o_85+Int.toNat i_79*1)) fun v_86=>(ptrV v_86 fun p_87=>(F48_j1 x0 x1 x3 p_87 x2 zB h_78  K)))))))))))))))
theorem F48_ok (x0:OA) (x1:Int) (x2:List Value) (x3:Bool) (hp:HP) (K:Kh) (h:F48 x0 x1 x2 x3 hp K):CF Tryz.prog 48 [(Value.pointer x0),(Value.int .i64 x1),(Value.agg ⟨x2⟩),(Value.bool x3)] hp K:=
  have L:∀ {Q} n,Snd Tryz.prog 93 (cAt Tryz.f48 (pth n)) Q (CW Tryz.prog 93 [6,8,12,14,57,72] [(4,[(3,5)],[([true],true,[0,1,2,3,4,5,6,7,8]),([false],true,[0,1,2,4,5,3,6,7,8])])] (cAt Tryz.f48 (pth n)) Q):=fun _=>Snd.leaf
  okF h Tryz.func48 (Snd.seq (L 2) (Snd.seq (L 5) (Snd.seq (L 11) (Snd.jn [(0,.p),(1,.i .i64),(3,.b),(6,.r 6 0),(8,.r 8 0),(11,.p),(6,.c 95),(8,.c 118)] (fun a hp=>F48_j1 a.1 a.2.1 a.2.2.1 a.2.2.2.1 a.2.2.2.2.1 a.2.2.2.2.2.1 hp  K) (L 23) (Snd.seq (L 47) (Snd.jn [(0,.p),(1,.i .i64),(3,.b),(6,.r 6 0),(8,.r 8 0),(11,.p),(12,.r 12 0),(6,.c 95),(8,.c 118),(12,.c 54)] (fun a hp=>F48_j2 a.1 a.2.1 a.2.2.1 a.2.2.2.1 a.2.2.2.2.1 a.2.2.2.2.2.1 a.2.2.2.2.2.2.1 hp  K) (Snd.jn [(0,.p),(1,.i .i64),(3,.b),(6,.r 6 0),(8,.r 8 0),(11,.p),(12,.r 12 0),(13,.i .i64),(6,.c 95),(8,.c 118),(12,.c 54)] (fun a hp=>F48_j3 a.1 a.2.1 a.2.2.1 a.2.2.2.1 a.2.2.2.2.1 a.2.2.2.2.2.1 a.2.2.2.2.2.2.1 a.2.2.2.2.2.2.2.1 hp  K) (L 159) (Snd.block 0 (Snd.lp (σ:=Int × (List Value)) [(0,.p),(1,.i .i64),(3,.b),(6,.r 6 0),(8,.r 8 0),(11,.p),(12,.r 12 0),(13,.i .i64),(6,.c 95),(8,.c 118),(12,.c 54)] (fun a=>(a.2.2.2.2.1,a.2.2.2.2.2.2.2.1)) (fun a s=>(a.1,a.2.1,a.2.2.1,a.2.2.2.1,s.1,a.2.2.2.2.2.1,a.2.2.2.2.2.2.1,s.2,())) (fun a I s hp=>F48_l4 a.1 a.2.1 a.2.2.1 a.2.2.2.1 a.2.2.2.2.2.1 a.2.2.2.2.2.2.1  K I s.1 s.2 hp) (fun I4=>(Snd.seq (L 1119) (Snd.jn [(0,.p),(1,.i .i64),(3,.b),(6,.r 6 0),(8,.r 8 0),(11,.p),(12,.r 12 0),(13,.i .i64),(6,.c 95),(8,.c 118),(12,.c 54)] (fun a hp=>F48_j5 a.1 a.2.1 a.2.2.1 a.2.2.2.1 a.2.2.2.2.1 a.2.2.2.2.2.1 a.2.2.2.2.2.2.1 a.2.2.2.2.2.2.2.1 hp (fun s hp=>I4 (a.1,a.2.1,a.2.2.1,a.2.2.2.1,s.1,a.2.2.2.2.2.1,a.2.2.2.2.2.2.1,s.2,()) hp) K) (L 2655) (L 3679) (by rfl) (by kernel_rfl)))) (by rfl) (by kernel_rfl) (by kernel_rfl))) (by rfl) (by kernel_rfl)) (L 127) (by rfl) (by kernel_rfl))) (by rfl) (by kernel_rfl))))) (by kernel_rfl) (by kernel_rfl) (by kernel_rfl)
def F51_j3 (x0:OA) (x1:Int) (x10:OA) (x59:Bool) (k6 k7 k8:List Value) (hp:HP) (K:Kh):Prop:=
  (ite2 x59 (if List.length zB=26 then (if List.all zB one=true then (if 0+List.length zB≤List.length k8 then (ldL (cellsN (splice k8 0 zB) 0 26) fun l_13=>(K (.tuple ⟨[(.agg ⟨l_13⟩),(Value.int .i64 5)]⟩) hp)) else False) else False) else False) (ptrN x0 fun b_14 o_15=>(ldV (HP.cell hp b_14 (o_15+2)) fun v_16=>(slcV v_16 fun a_17 n_18 c_19=>(ptrN x0 fun b_20 o_21=>(ldV (HP.cell hp b_20 (o_21+0)) fun v_22=>(intV v_22 .i64 fun i_23=>(ite2 (decide (((n_18:Nat):Int)≥i_23)) (if List.length zB=26 then (if List.all zB one=true then (if 0+List.length zB≤List.length k8 then (ldL (cellsN (splice k8 0 zB) 0 26) fun l_24=>(K (.tuple ⟨[(.agg ⟨l_24⟩),(Value.int .i64 6)]⟩) hp)) else False) else False) else False) (ldL (cellsN k7 0 5) fun l_25=>(CF Tryz.prog 106 [(Value.pointer x10),(Value.agg ⟨l_25⟩)] hp fun u_26 h_27=>(intV u_26 .i64 fun i_28=>(ldL (cellsN k6 0 17) fun l_29=>(ldL (cellsN k7 0 5) fun l_30=>(if List.length l_29=17 then (if List.length l_30=5 then (CF Tryz.prog 97 [(Value.pointer x0),(Value.agg ⟨(List.set (splice (splice [(Value.int .i64 0),(Value.int .i64 x1),(Value.int .u8 0),(Value.int .u8 0),(Value.int .u8 0),(Value.int .u8 0),(Value.int .u8 0),(Value.int .u8 0),(Value.int .u8 0),(Value.int .u8 0),(Value.int .u8 0),(Value.int .u8 0),(Value.int .u8 0),(Value.int .u8 0),(Value.int .u8 0),(Value.int .u8 0),(Value.int .u8 0),(Value.int .u8 0),(Value.int .i64 0),(Value.int .u8 0),(Value.int .u8 0),(Value.int .u8 0),(Value.int .u8 0),(Value.int .i64 0),(Value.bool false),(Value.int .i64 0)] 2 l_29) 19 l_30) 24 (Value.bool true))⟩)] h_27 fun u_31 h_32=>(aggV u_31 fun l_33=>(if List.length l_33=26 then (if List.all l_33 one=true then (if 0+List.length l_33≤List.length k8 then (ldL (cellsN (splice k8 0 l_33) 0 26) fun l_34=>(K (.tuple ⟨[(.agg ⟨l_34⟩),(Value.int .i64 0)]⟩) h_32)) else False) else False) else False))) else False) else False))))))))))))))
def F51_j2 (x0:OA) (x1:Int) (x10:OA) (x41:Bool) (k6 k7 k8:List Value) (hp:HP) (K:Kh):Prop:=
  (ite2 x41 (if List.length zB=26 then (if List.all zB one=true then (if 0+List.length zB≤List.length k8 then (ldL (cellsN (splice k8 0 zB) 0 26) fun l_5=>(K (.tuple ⟨[(.agg ⟨l_5⟩),(Value.int .i64 1)]⟩) hp)) else False) else False) else False) (ldL (cellsN k7 0 5) fun l_6=>(CF Tryz.prog 105 [(Value.pointer x10),(Value.agg ⟨l_6⟩)] hp fun u_7 h_8=>(tup2V u_7 fun u_9 u_10=>(boolV u_9 fun q_11=>(boolV u_10 fun q_12=>(ite2 q_11 (F51_j3 x0 x1 x10 true k6 k7 k8 h_8  K) (ite2 q_12 (F51_j3 x0 x1 x10 true k6 k7 k8 h_8  K) (ldL (cellsN k6 0 17) fun l_35=>(CF Tryz.prog 66 [(Value.pointer x0),(Value.int .i64 x1),(Value.agg ⟨l_35⟩)] h_8 fun u_36 h_37=>(intV u_36 .i64 fun i_38=>(F51_j3 x0 x1 x10 (decide ((i_38:Int)≥0)) k6 k7 k8 h_37  K))))))))))))
def F51_j1 (x0:OA) (x1:Int) (x10:OA) (k6 k7 k8:List Value) (hp:HP) (K:Kh):Prop:=
  (ldV (k6)[16]? fun v_39=>(intV v_39 .i64 fun i_40=>(CF Tryz.prog 103 [(Value.int .i64 i_40)] hp fun u_41 h_42=>(boolV u_41 fun q_43=>(ite2 (!q_43) (F51_j2 x0 x1 x10 true k6 k7 k8 h_42  K) (ldV (k7)[4]? fun v_44=>(intV v_44 .i64 fun i_45=>(CF Tryz.prog 103 [(Value.int .i64 i_45)] h_42 fun u_46 h_47=>(boolV u_46 fun q_48=>(ite2 (!q_48) (F51_j2 x0 x1 x10 true k6 k7 k8 h_47  K) (ldL (cellsN k7 0 4) fun l_49=>(CF Tryz.prog 104 [(Value.pointer x10),(Value.agg ⟨l_49⟩)] h_47 fun u_50 h_51=>(boolV u_50 fun q_52=>(F51_j2 x0 x1 x10 (!q_52) k6 k7 k8 h_51  K))))))))))))))
def F51 (x0:OA) (x1:Int) (x2 x3:List Value) (hp:HP) (K:Kh):Prop:=
  (CF Tryz.prog 63 [(Value.int .i64 x1)] hp fun u_1 h_2=>(intV u_1 .i64 fun i_3=>(ite2 (decide ((i_3:Int)<0)) (if List.length zB=26 then (if List.all zB one=true then (if 0+List.length zB≤List.length zB then (ldL (cellsN (splice zB 0 zB) 0 26) fun l_4=>(K (.tuple ⟨[(.agg ⟨l_4⟩),(Value.int .i64 10)]⟩) h_2)) else False) else False) else False) ((ptrN x0 fun b_53 o_54=>(ldV (HP.cell h_2 b_53 (o_54+3)) fun v_55=>(slcV v_55 fun a_56 n_57 c_58=>(CF Tryz.prog 63 [(Value.int .i64 x1)] h_2 fun u_59 h_60=>(intV u_59 .i64 fun i_61=>((0≤(i_61:Int))∧((i_61:Int)<(n_57:Nat))∧(ptrN a_56 fun b_62 o_63=>(ldV (HP.cell h_60 b_62 (o_63+Int.toNat i_61*1)) fun v_64=>(ptrV v_64 fun p_65=>(F51_j1 x0 x1 p_65 x2 x3 zB h_60  K))))))))))∧(ptrN x0 fun b_66 o_67=>(CF Tryz.prog 63 [(Value.int .i64 x1)] h_2 fun u_68 h_69=>(intV u_68 .i64 fun i_70=>(ldV (HP.cell h_69 b_66 (o_67+3)) fun v_71=>(slcV v_71 fun a_72 n_73 c_74=>((0≤(i_70:Int))∧((i_70:Int)<(n_73:Nat))∧(ptrN a_72 fun b_75 o_76=>(ldV (HP.cell h_69 b_75 (o_76+Int.toNat i_70*1)) fun v_77=>(ptrV v_77 fun p_78=>(F51_j1 x0 x1 p_78 x2 x3 zB h_69  K))))))))))))))
theorem F51_ok (x0:OA) (x1:Int) (x2 x3:List Value) (hp:HP) (K:Kh) (h:F51 x0 x1 x2 x3 hp K):CF Tryz.prog 51 [(Value.pointer x0),(Value.int .i64 x1),(Value.agg ⟨x2⟩),(Value.agg ⟨x3⟩)] hp K:=
  have L:∀ {Q} n,Snd Tryz.prog 81 (cAt Tryz.f51 (pth n)) Q (CW Tryz.prog 81 [6,7,8,25,30,37] [(3,[(3,5)],[([true],true,[0,1,2,3,4,5,6,7,8]),([false],true,[0,1,2,4,5,3,6,7,8])])] (cAt Tryz.f51 (pth n)) Q):=fun _=>Snd.leaf
  okF h Tryz.func51 (Snd.seq (L 2) (Snd.seq (L 5) (Snd.jn [(0,.p),(1,.i .i64),(6,.r 6 0),(7,.r 7 0),(8,.r 8 0),(10,.p),(6,.c 95),(7,.c 56),(8,.c 118)] (fun a hp=>F51_j1 a.1 a.2.1 a.2.2.1 a.2.2.2.1 a.2.2.2.2.1 a.2.2.2.2.2.1 hp  K) (L 11) (Snd.seq (Snd.jn [(0,.p),(1,.i .i64),(6,.r 6 0),(7,.r 7 0),(8,.r 8 0),(10,.p),(41,.b),(6,.c 95),(7,.c 56),(8,.c 118)] (fun a hp=>F51_j2 a.1 a.2.1 a.2.2.1 a.2.2.2.1 a.2.2.2.2.1 a.2.2.2.2.2.1 a.2.2.2.2.2.2.1 hp  K) (L 39) (L 55) (by rfl) (by kernel_rfl)) (Snd.seq (L 47) (Snd.seq (Snd.jn [(0,.p),(1,.i .i64),(6,.r 6 0),(7,.r 7 0),(8,.r 8 0),(10,.p),(59,.b),(6,.c 95),(7,.c 56),(8,.c 118)] (fun a hp=>F51_j3 a.1 a.2.1 a.2.2.1 a.2.2.2.1 a.2.2.2.2.1 a.2.2.2.2.2.1 a.2.2.2.2.2.2.1 hp  K) (L 159) (L 223) (by rfl) (by kernel_rfl)) (L 127)))) (by rfl) (by kernel_rfl)))) (by kernel_rfl) (by kernel_rfl) (by kernel_rfl)
def F53_j2 (k6 k9:List Value) (hp:HP) (K:Kh):Prop:=
  (ldL (cellsN k9 0 26) fun l_21=>(if List.length l_21=26 then (if List.all l_21 one=true then (if 0+List.length l_21≤List.length k6 then (ldL (cellsN (splice k6 0 l_21) 0 26) fun l_22=>(K (.tuple ⟨[(.agg ⟨l_22⟩),(Value.int .i64 0)]⟩) hp)) else False) else False) else False))
def F53_j1 (x0:OA) (x1 x8:Int) (x30:Bool) (k6:List Value) (hp:HP) (K:Kh):Prop:=
  (ite2 x30 (if List.length zB=26 then (if List.all zB one=true then (if 0+List.length zB≤List.length k6 then (ldL (cellsN (splice k6 0 zB) 0 26) fun l_9=>(K (.tuple ⟨[(.agg ⟨l_9⟩),(Value.int .i64 4)]⟩) hp)) else False) else False) else False) (ptrN x0 fun b_10 o_11=>(ldV (HP.cell hp b_10 (o_11+2)) fun v_12=>(slcV v_12 fun a_13 n_14 c_15=>((0≤(x8:Int))∧((x8:Int)<(n_14:Nat))∧(ptrN a_13 fun b_16 o_17=>(ldL (HP.cellN hp b_16 (o_17+Int.toNat x8*26) 26) fun l_18=>(if List.length l_18=26 then (if List.all l_18 one=true then (if 0+List.length l_18≤List.length zB then (CF Tryz.prog 109 [(Value.pointer x0),(Value.int .i64 x8)] hp fun u_19 h_20=>((ptrN x0 fun b_23 o_24=>(ldV (HP.cell h_20 b_23 (o_24+3)) fun v_25=>(slcV v_25 fun a_26 n_27 c_28=>(CF Tryz.prog 63 [(Value.int .i64 x1)] h_20 fun u_29 h_30=>(intV u_29 .i64 fun i_31=>((0≤(i_31:Int))∧((i_31:Int)<(n_27:Nat))∧(ptrN a_26 fun b_32 o_33=>(ldV (HP.cell h_30 b_32 (o_33+Int.toNat i_31*1)) fun v_34=>(ptrV v_34 fun p_35=>(ldL (cellsN (splice zB 0 l_18) 19 5) fun l_36=>(CF Tryz.prog 110 [(Value.pointer p_35),(Value.agg ⟨l_36⟩)] h_30 fun u_37 h_38=>(intV u_37 .i64 fun i_39=>(F53_j2 k6 (splice zB 0 l_18) h_38  K)))))))))))))∧(ptrN x0 fun b_40 o_41=>(CF Tryz.prog 63 [(Value.int .i64 x1)] h_20 fun u_42 h_43=>(intV u_42 .i64 fun i_44=>(ldV (HP.cell h_43 b_40 (o_41+3)) fun v_45=>(slcV v_45 fun a_46 n_47 c_48=>((0≤(i_44:Int))∧((i_44:Int)<(n_47:Nat))∧(ptrN a_46 fun b_49 o_50=>(ldV (HP.cell h_43 b_49 (o_50+Int.toNat i_44*1)) fun v_51=>(ptrV v_51 fun p_52=>(ldL (cellsN (splice zB 0 l_18) 19 5) fun l_53=>(CF Tryz.prog 110 [(Value.pointer p_52),(Value.agg ⟨l_53⟩)] h_43 fun u_54 h_55=>(intV u_54 .i64 fun i_56=>(F53_j2 k6 (splice zB 0 l_18) h_55  K))))))))))))))) else False) else False) else False))))))))
def F53 (x0:OA) (x1:Int) (x2:List Value) (hp:HP) (K:Kh):Prop:=
  (CF Tryz.prog 63 [(Value.int .i64 x1)] hp fun u_1 h_2=>(intV u_1 .i64 fun i_3=>(ite2 (decide ((i_3:Int)<0)) (if List.length zB=26 then (if List.all zB one=true then (if 0+List.length zB≤List.length zB then (ldL (cellsN (splice zB 0 zB) 0 26) fun l_4=>(K (.tuple ⟨[(.agg ⟨l_4⟩),(Value.int .i64 10)]⟩) h_2)) else False) else False) else False) (ldL (cellsN x2 0 17) fun l_5=>(CF Tryz.prog 66 [(Value.pointer x0),(Value.int .i64 x1),(Value.agg ⟨l_5⟩)] h_2 fun u_6 h_7=>(intV u_6 .i64 fun i_8=>(ite2 (decide ((i_8:Int)<0)) (F53_j1 x0 x1 i_8 true zB h_7  K) (ptrN x0 fun b_57 o_58=>(ldV (HP.cell h_7 b_57 (o_58+2)) fun v_59=>(slcV v_59 fun a_60 n_61 c_62=>((0≤(i_8:Int))∧((i_8:Int)<(n_61:Nat))∧(ptrN a_60 fun b_63 o_64=>(ldV (HP.cell h_7 b_63 ((o_64+Int.toNat i_8*26)+24)) fun v_65=>(boolV v_65 fun q_66=>(F53_j1 x0 x1 i_8 (!q_66) zB h_7  K)))))))))))))))
theorem F53_ok (x0:OA) (x1:Int) (x2:List Value) (hp:HP) (K:Kh) (h:F53 x0 x1 x2 hp K):CF Tryz.prog 53 [(Value.pointer x0),(Value.int .i64 x1),(Value.agg ⟨x2⟩)] hp K:=
  have L:∀ {Q} n,Snd Tryz.prog 54 (cAt Tryz.f53 (pth n)) Q (CW Tryz.prog 54 [5,6,9,50] [(8,[(3,5)],[([true],true,[0,1,2,3,4,5,6,7,8,9,10]),([false],true,[0,1,2,4,5,3,6,7,8,9,10])])] (cAt Tryz.f53 (pth n)) Q):=fun _=>Snd.leaf
  okF h Tryz.func53 (Snd.seq (L 2) (Snd.seq (L 5) (Snd.seq (L 11) (Snd.seq (Snd.jn [(0,.p),(1,.i .i64),(6,.r 6 0),(8,.i .i64),(30,.b),(6,.c 118)] (fun a hp=>F53_j1 a.1 a.2.1 a.2.2.1 a.2.2.2.1 a.2.2.2.2.1 hp  K) (L 39) (L 55) (by rfl) (by kernel_rfl)) (Snd.seq (L 47) (Snd.seq (L 95) (Snd.jn [(6,.r 6 0),(9,.r 9 0),(6,.c 118),(9,.c 118)] (fun a hp=>F53_j2 a.1 a.2.1 hp  K) (L 191) (L 255) (by rfl) (by kernel_rfl)))))))) (by kernel_rfl) (by kernel_rfl) (by kernel_rfl)
def F56 (x0:OA) (x1:Int) (hp:HP) (K:Kh):Prop:=
  (CF Tryz.prog 111 [(Value.pointer x0),(Value.int .i64 x1)] hp fun u_1 h_2=>(intV u_1 .i64 fun i_3=>(ite2 (decide ((i_3:Int)<0)) (K (Value.int .i64 4) h_2) (ptrN x0 fun b_4 o_5=>(ldV (HP.cell h_2 b_4 (o_5+2)) fun v_6=>(slcV v_6 fun a_7 n_8 c_9=>(ptrN x0 fun b_10 o_11=>(ldV (HP.cell h_2 b_10 (o_11+2)) fun v_12=>(slcV v_12 fun a_13 n_14 c_15=>((0≤(i_3:Int))∧((i_3:Int)<(n_14:Nat))∧(ptrN a_13 fun b_16 o_17=>(ldV (HP.cell h_2 b_16 ((o_17+Int.toNat i_3*26)+25)) fun v_18=>(intV v_18 .i64 fun i_19=>((0≤(i_3:Int))∧((i_3:Int)<(n_8:Nat))∧(ptrN a_7 fun b_20 o_21=>(HP.st h_2 b_20 ((o_21+Int.toNat i_3*26)+25) (Value.int .i64 (IntKind.wrap .i64 (i_19+1))) fun h_22=>(K (Value.int .i64 0) h_22)))))))))))))))))
theorem F56_ok (x0:OA) (x1:Int) (hp:HP) (K:Kh) (h:F56 x0 x1 hp K):CF Tryz.prog 56 [(Value.pointer x0),(Value.int .i64 x1)] hp K:=
  have L:∀ {Q} n,Snd Tryz.prog 27 (cAt Tryz.f56 (pth n)) Q (CW Tryz.prog 27 [] [] (cAt Tryz.f56 (pth n)) Q):=fun _=>Snd.leaf
  okF h Tryz.func56 (L 1) (by kernel_rfl) (by kernel_rfl) (by kernel_rfl)
def F58_j2 (hp:HP) (K:Kh):Prop:=
  (K (.tuple ⟨[(Value.bool true),(Value.int .i64 0)]⟩) hp)
def F58_j1 (x0:OA) (x6:Int) (x51:Bool) (k7:List Value) (hp:HP) (K:Kh):Prop:=
  (ite2 x51 (K (.tuple ⟨[(Value.bool false),(Value.int .i64 0)]⟩) hp) (CF Tryz.prog 109 [(Value.pointer x0),(Value.int .i64 x6)] hp fun u_42 h_43=>((ptrN x0 fun b_44 o_45=>(ldV (HP.cell h_43 b_44 (o_45+3)) fun v_46=>(slcV v_46 fun a_47 n_48 c_49=>(ldV (k7)[1]? fun v_50=>(intV v_50 .i64 fun i_51=>(CF Tryz.prog 63 [(Value.int .i64 i_51)] h_43 fun u_52 h_53=>(intV u_52 .i64 fun i_54=>((0≤(i_54:Int))∧((i_54:Int)<(n_48:Nat))∧(ptrN a_47 fun b_55 o_56=>(ldV (HP.cell h_53 b_55 (o_56+Int.toNat i_54*1)) fun v_57=>(ptrV v_57 fun p_58=>(ldL (cellsN k7 19 5) fun l_59=>(CF Tryz.prog 96 [(Value.pointer p_58),(Value.agg ⟨l_59⟩)] h_53 fun u_60 h_61=>(intV u_60 .i64 fun i_62=>(F58_j2  h_61  K)))))))))))))))∧(ptrN x0 fun b_63 o_64=>(ldV (k7)[1]? fun v_65=>(intV v_65 .i64 fun i_66=>(CF Tryz.prog 63 [(Value.int .i64 i_66)] h_43 fun u_67 h_68=>(intV u_67 .i64 fun i_69=>(ldV (HP.cell h_68 b_63 (o_64+3)) fun v_70=>(slcV v_70 fun a_71 n_72 c_73=>((0≤(i_69:Int))∧((i_69:Int)<(n_72:Nat))∧(ptrN a_71 fun b_74 o_75=>(ldV (HP.cell h_68 b_74 (o_75+Int.toNat i_69*1)) fun v_76=>(ptrV v_76 fun p_77=>(ldL (cellsN k7 19 5) fun l_78=>(CF Tryz.prog 96 [(Value.pointer p_77),(Value.agg ⟨l_78⟩)] h_68 fun u_79 h_80=>(intV u_79 .i64 fun i_81=>(F58_j2  h_80  K))))))))))))))))))
def F58 (x0:OA) (x1:Int) (hp:HP) (K:Kh):Prop:=
  (CF Tryz.prog 111 [(Value.pointer x0),(Value.int .i64 x1)] hp fun u_1 h_2=>(intV u_1 .i64 fun i_3=>(ite2 (decide ((i_3:Int)<0)) (K (.tuple ⟨[(Value.bool false),(Value.int .i64 4)]⟩) h_2) (ptrN x0 fun b_4 o_5=>(ldV (HP.cell h_2 b_4 (o_5+2)) fun v_6=>(slcV v_6 fun a_7 n_8 c_9=>((0≤(i_3:Int))∧((i_3:Int)<(n_8:Nat))∧(ptrN a_7 fun b_10 o_11=>(ldV (HP.cell h_2 b_10 ((o_11+Int.toNat i_3*26)+25)) fun v_12=>(intV v_12 .i64 fun i_13=>(ite2 ((i_13:Int)==0) (K (.tuple ⟨[(Value.bool false),(Value.int .i64 11)]⟩) h_2) (ptrN x0 fun b_14 o_15=>(ldV (HP.cell h_2 b_14 (o_15+2)) fun v_16=>(slcV v_16 fun a_17 n_18 c_19=>(ptrN x0 fun b_20 o_21=>(ldV (HP.cell h_2 b_20 (o_21+2)) fun v_22=>(slcV v_22 fun a_23 n_24 c_25=>((0≤(i_3:Int))∧((i_3:Int)<(n_24:Nat))∧(ptrN a_23 fun b_26 o_27=>(ldV (HP.cell h_2 b_26 ((o_27+Int.toNat i_3*26)+25)) fun v_28=>(intV v_28 .i64 fun i_29=>((0≤(i_3:Int))∧((i_3:Int)<(n_18:Nat))∧(ptrN a_17 fun b_30 o_31=>(HP.st h_2 b_30 ((o_31+Int.toNat i_3*26)+25) (Value.int .i64 (IntKind.wrap .i64 (i_29-1))) fun h_32=>(ptrN x0 fun b_33 o_34=>(ldV (HP.cell h_32 b_33 (o_34+2)) fun v_35=>(slcV v_35 fun a_36 n_37 c_38=>((0≤(i_3:Int))∧((i_3:Int)<(n_37:Nat))∧(ptrN a_36 fun b_39 o_40=>(ldL (HP.cellN h_32 b_39 (o_40+Int.toNat i_3*26) 26) fun l_41=>(if List.length l_41=26 then (if List.all l_41 one=true then (if 0+List.length l_41≤List.length zB then (ldV ((splice zB 0 l_41))[24]? fun v_82=>(boolV v_82 fun q_83=>(ite2 q_83 (F58_j1 x0 i_3 true (splice zB 0 l_41) h_32  K) (ldV ((splice zB 0 l_41))[25]? fun v_84=>(intV v_84 .i64 fun i_85=>(F58_j1 x0 i_3 (decide ((i_85:Int) > 0)) (splice zB 0 l_41) h_32  K)))))) else False) else False) else False)))))))))))))))))))))))))))))))
theorem F58_ok (x0:OA) (x1:Int) (hp:HP) (K:Kh) (h:F58 x0 x1 hp K):CF Tryz.prog 58 [(Value.pointer x0),(Value.int .i64 x1)] hp K:=
  have L:∀ {Q} n,Snd Tryz.prog 67 (cAt Tryz.f58 (pth n)) Q (CW Tryz.prog 67 [7,45,48,59,64] [(11,[(3,6)],[([true],true,[0,1,2,3,4,5,6,7,8,9,10,11]),([false],true,[0,1,2,4,5,6,3,7,8,9,10,11])])] (cAt Tryz.f58 (pth n)) Q):=fun _=>Snd.leaf
  okF h Tryz.func58 (Snd.seq (L 2) (Snd.seq (L 5) (Snd.seq (L 11) (Snd.seq (L 23) (Snd.seq (L 47) (Snd.seq (L 95) (Snd.seq (Snd.jn [(0,.p),(6,.i .i64),(7,.r 7 0),(51,.b),(7,.c 118)] (fun a hp=>F58_j1 a.1 a.2.1 a.2.2.1 a.2.2.2.1 hp  K) (L 319) (L 447) (by rfl) (by kernel_rfl)) (Snd.seq (L 383) (Snd.jn [] (fun a hp=>F58_j2  hp  K) (L 767) (L 1023) (by rfl) (by kernel_rfl)))))))))) (by kernel_rfl) (by kernel_rfl) (by kernel_rfl)
end Go.Proofs
set_option linter.unusedVariables false
set_option linter.unusedSimpArgs false
set_option maxRecDepth 20000
namespace Go.Proofs
open Go Go.HL
theorem fm_setG {α:Type} {enc:α→List Value} {sz:Nat} (he:∀ x,(enc x).length=sz):∀ (L:List α) {i k:Nat} {v:Value} {y:α} (hi:i<L.length),k<sz→(enc L[i]).set k v=enc y→(L.flatMap enc).set (i*sz+k) v=(L.set i y).flatMap enc
  | x::L,0,k,v,y,hi,hk,h=>by
    rw [List.flatMap_cons,List.set_cons_zero,List.flatMap_cons,Nat.zero_mul,Nat.zero_add,List.set_append_left _ _ (by rw [he]; exact hk)]
    rw [show (enc x).set k v=enc y from h]
  | x::L,i+1,k,v,y,hi,hk,h=>by
    rw [List.flatMap_cons,List.set_cons_succ,List.flatMap_cons,List.set_append_right _ _ (by rw [he,Nat.succ_mul]; omega),he,show (i+1)*sz+k-sz=i*sz+k by rw [Nat.succ_mul]; omega]
    rw [fm_setG he L (by simpa using hi) hk (by simpa using h)]
theorem updB_set:∀ {L:List Bd} {n:Nat} {i s:Int} (hn:n<L.length),(L.map (·.id)).Nodup→L[n].id=i→updB i s L=L.set n { L[n] with ses:=s }
  | x::L,0,i,s,hn,hd,h=>by
    have hx:x.id=i:=h
    have h2:x.id ∉ L.map (·.id):=(List.nodup_cons.1 (show (x.id::L.map (·.id)).Nodup from hd)).1
    unfold updB
    rw [List.map_cons,List.set_cons_zero]
    congr 1
    · unfold setS; rw [if_pos hx]; rfl
    · conv=>rhs; rw [← List.map_id L]
      refine List.map_congr_left fun y hy=>?_
      unfold setS
      rw [if_neg fun e=>h2 (by rw [hx,← e]; exact List.mem_map.2 ⟨y,hy,rfl⟩)]; rfl
  | x::L,n+1,i,s,hn,hd,h=>by
    have hn':n<L.length:=by simpa using hn
    have hi:L[n].id=i:=by simpa using h
    have hd2:=List.nodup_cons.1 (show (x.id::L.map (·.id)).Nodup from hd)
    have hx:x.id≠i:=fun e=>hd2.1 (by rw [e,← hi]; exact List.mem_map.2 ⟨L[n],List.getElem_mem _,rfl⟩)
    unfold updB
    rw [List.map_cons,List.set_cons_succ]
    congr 1
    · unfold setS; rw [if_neg hx]
    · exact updB_set hn' hd2.2 hi
theorem cut_filterB {L:List Bd} (hn:(L.map (·.id)).Nodup) {b:Nat} (hb:b<L.length):L.take b++L.drop (b+1)=L.filter fun z=>decide (z.id≠L[b].id):=by
  have e:L=L.take b++L[b]::L.drop (b+1):=by rw [← List.drop_eq_getElem_cons hb,List.take_append_drop]
  have key:∀ (y:Bd) (A B:List Bd),((A++y::B).map (·.id)).Nodup→A++B=(A++y::B).filter fun z=>decide (z.id≠y.id):=by
    intro y A B h
    rw [List.map_append,List.map_cons] at h
    have h2:=List.nodup_append.1 h
    have h3:=List.nodup_cons.1 h2.2.1
    rw [List.filter_append,List.filter_cons]
    have:decide (y.id≠y.id)=false:=by simp
    rw [this]
    simp only [Bool.false_eq_true,if_false]
    congr 1
    · refine (List.filter_eq_self.2 fun z hz=>?_).symm
      have:=h2.2.2 _ (List.mem_map.2 ⟨z,hz,rfl⟩) y.id (by simp)
      simpa using this
    · refine (List.filter_eq_self.2 fun z hz=>?_).symm
      have:z.id≠y.id:=fun e'=>h3.1 (e'▸List.mem_map.2 ⟨z,hz,rfl⟩)
      simpa using this
  have:=key L[b] (L.take b) (L.drop (b+1)) (by rw [← e]; exact hn)
  rw [← e] at this
  exact this
section
variable {z hq hq' hp:HP} {r mx last n:Nat} {l:List Q} {low high:Int} {L:List Bd} {H:Nat→List ((Q × Int) × Bool)} {x:RB} {K:Value→HP→Prop}
theorem InvB.idsB (h:InvB l low high mx last n L):(L.map (·.id)).Nodup:=h.asc.imp fun h e=>by omega
theorem RefB.inpl {L':List Bd} {b:Nat} (h:RefB z hq r l low high mx last L H x) (hb:x.a=some ⟨b,0,none⟩) (hl:L'.length=L.length) (g:hq b=.cells 118 (L.flatMap bdc) ((x.c-L.length)*26)) (hc:L.length≤x.c) :
    RefB z (hq.set b (.cells 118 (L'.flatMap bdc) ((x.c-L.length)*26))) r l low high mx last L' H x:=by
  have hs:HSub (hq.set b .none) (hq.set b (.cells 118 (L'.flatMap bdc) ((x.c-L.length)*26))):=sub_set (none_sub (HSub.refl _)) (HP.set_eq ..)
  have hlen:(L'.flatMap bdc).length=L'.length*26:=by
    induction L' generalizing L with
    | nil=>rfl
    | cons y L' ih=>
      have:∀ M:List Bd,(M.flatMap bdc).length=M.length*26:=fun M=>by
        induction M with
        | nil=>rfl
        | cons y M ihM=>rw [List.flatMap_cons,List.length_append,ihM,bdc_len,List.length_cons]; omega
      exact this _
  exact { tab:=by rw [hl]; exact keep_cells h.tab g (by decide) hs
          lst:=.inr ⟨b,hb,by omega,hlen,by rw [HP.set_eq,hl]⟩
          pls:=keep_row h.pls g (by decide) hs
          pol:=fun k hk=>keep_pool (h.pol k hk) g (by decide) (by decide) (h.zl b hb) hs
          inj:=h.inj
          zr:=h.zr
          zl:=h.zl }
abbrev RefW (z hq:HP) (r:Nat) (l:List Q) (low high:Int) (mx last:Nat) (L:List Bd) (x:RB):Prop:=RefB z hq r l low high mx last L (fun k=>heldB L k) x
theorem RefB.eqH {H':Nat→List ((Q × Int) × Bool)} (h:RefB z hq r l low high mx last L H x) (e:∀ k,k<3→H k=H' k):RefB z hq r l low high mx last L H' x:=
  { h with pol:=fun k hk=>by rw [← e k hk]; exact h.pol k hk }
theorem RefW.ses {b k:Nat} {s:Int} (h:RefW z hq r l low high mx last L x) (hn:(L.map (·.id)).Nodup) (hk:k<L.length) (hb:x.a=some ⟨b,0,none⟩) {X:HP→Prop}
    (hX:RefW z (hq.set b (.cells 118 ((updB L[k].id s L).flatMap bdc) ((x.c-L.length)*26))) r l low high mx last (updB L[k].id s L) x→X (hq.set b (.cells 118 ((updB L[k].id s L).flatMap bdc) ((x.c-L.length)*26)))) :
    hq.st b (0+k*26+25) (.int .i64 s) X:=by
  rcases h.lst with ⟨_,e,_⟩ | ⟨b',hb',hc,hlen,g⟩
  · omega
  rw [hb] at hb'
  cases hb'
  refine HP.st_at g (by omega) ?_
  rw [Nat.zero_add,fm_setG bdc_len L (y:={ L[k] with ses:=s }) hk (by omega) rfl,← updB_set hk hn rfl]
  refine hX ?_
  exact (h.inpl hb (upd_len ..) g hc).eqH fun j _=>(held_upd ..).symm
theorem C56 {i:Int} (h:RefW z hq r l low high mx last L x) (hi:InvB l low high mx last n L) (hsm:L.length≤65535) (hno:findI i L=none→K (.int .i64 4) hq)
    (hyes:∀ b,findI i L=some b→∀ hq' x',RefW z hq' r l low high mx last (updB i (b.ses+1) L) x'→K (.int .i64 0) hq'):CF Tryz.prog 56 [ptr r 0,.int .i64 i] hq K:=by
  refine F56_ok _ i hq K ?_
  unfold F56
  refine C111 h.bl (by omega) ?_
  rw [intV_int]
  rcases ixB_find (fun y=>decide (y.id=i)) L with ⟨h1,h2⟩ | ⟨k,hk,h1,h2⟩
  · rw [h1,decide_eq_true (by omega),ite2_true]
    exact hno h2
  rw [h1,decide_eq_false (by omega),ite2_false]
  have hid:L[k].id=i:=by simpa using List.find?_some h2
  have hc2:=h.bl.2.2.1
  obtain ⟨b,o,ea,g,gd⟩:=h.bl.at hk
  have gs:=gd 25 _ (bdc_ses _)
  have ho:o=0:=by
    rcases h.lst with ⟨e,_⟩ | ⟨b',e,_⟩
    · rw [e] at ea; cases ea
    · rw [e] at ea; cases ea; rfl
  subst ho
  simp only [ptrN_some,Nat.zero_add,hc2,ldV_some,slcV_slice]
  refine ⟨by omega,by omega,?_⟩
  rw [ea,ptrN_some,Int.toNat_natCast,gs,ldV_some,intV_int]
  obtain ⟨_,_,_,s0,s1⟩:=hi.ok _ (List.getElem_mem hk)
  have hnn:=hi.n
  refine ⟨by omega,by omega,?_⟩
  rw [ptrN_some,show IntKind.wrap .i64 (L[k].ses+1)=L[k].ses+1 from w64 (by omega) (by omega)]
  refine h.ses hi.idsB hk ea fun h'=>?_
  rw [hid] at h'
  rw [hid]
  exact hyes _ h2 _ _ h'
theorem RefB.pl (h:RefB z hq r l low high mx last L H x) {k:Int} (h0:0≤k) (h3:k<3):∃ pb,x.pa=some ⟨pb,0,none⟩∧hq.cell pb (0+Int.toNat k*1)=some (ptr (x.q k.toNat) 0):=by
  rcases h.pls with ⟨_,e,_⟩ | ⟨pb,e,_,_,g⟩
  · cases e
  refine ⟨pb,e,?_⟩
  rcases (by omega:k=0∨k=1∨k=2) with rfl | rfl | rfl <;> exact HP.cell_of g
end
end Go.Proofs
