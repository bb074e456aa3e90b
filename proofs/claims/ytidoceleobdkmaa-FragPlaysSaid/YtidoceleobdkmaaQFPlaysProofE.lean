/- Parts of the proof of FPlaysProof: the logic of what is known of memory, functions' contracts. -/
import Derived.Test.YtidoceleobdkmaaQFPlaysProofD
import Derived.Test.YtidoceleobdkmaaHlAbb
import Derived.Test.YtidoceleobdkmaaHlOrd2
import Derived.Test.YtidoceleobdkmaaProg
set_option linter.unusedVariables false
set_option maxRecDepth 20000
namespace Go.Proofs
open Go Go.HL
def pdc (x:PD):List Value:=pd x.1 x.2
theorem pdc_len (x:PD):(pdc x).length=7:=rfl
theorem pdc_one (x:PD):(pdc x).all one=true:=rfl
def rfc (max source:Int) (s:Option Addr) (n c:Nat):List Value:=[.int .i64 max,.int .i64 source,.slice s n c]
def RefR (hp:HP) (w:Nat) (max source:Int) (L:List PD):Prop:=∃ (s:Option Addr) (c:Nat),hp w=.cells 106 (rfc max source s L.length c) 0∧Row hp s L.length c 118 7 (L.flatMap pdc)
theorem RefR.sub {hp hp':HP} {w:Nat} {max source:Int} {L:List PD} (h:RefR hp w max source L) (hs:HSub hp hp'):RefR hp' w max source L:=by
  obtain ⟨s,c,h1,h2⟩:=h
  exact ⟨s,c,hs.cells h1,h2.sub hs⟩
def RefS (hp hp':HP) (w:Nat) (max source:Int) (L L':List PD):Prop:=
  (L'=L∧HSub hp hp')∨∃ (s:Option Addr) (c:Nat),hp' w=.cells 106 (rfc max source s L'.length c) 0∧Row hp' s L'.length c 118 7 (L'.flatMap pdc)∧∀ h0,HSub h0 hp→h0 w=.none→HSub h0 hp'∧∀ b,s=some ⟨b,0,none⟩→h0 b=.none
theorem RefS.ref {hp hp':HP} {w:Nat} {max source:Int} {L L':List PD} (h:RefR hp w max source L) (hs:RefS hp hp' w max source L L'):RefR hp' w max source L':=by
  rcases hs with ⟨rfl,hs⟩ | ⟨s,c,h1,h2,_⟩
  · exact h.sub hs
  · exact ⟨s,c,h1,h2⟩
theorem RefS.trans {hp hp' hp'':HP} {w:Nat} {max source:Int} {L L' L'':List PD} (h:RefS hp hp' w max source L L') (k:RefS hp' hp'' w max source L' L''):RefS hp hp'' w max source L L'':=by
  rcases k with ⟨rfl,ks⟩ | ⟨s,c,k1,k2,k3⟩
  · rcases h with ⟨rfl,hs⟩ | ⟨s,c,h1,h2,h3⟩
    · exact .inl ⟨rfl,hs.trans ks⟩
    · exact .inr ⟨s,c,ks.cells h1,h2.sub ks,fun h0 g1 g2=>⟨(h3 h0 g1 g2).1.trans ks,(h3 h0 g1 g2).2⟩⟩
  · refine .inr ⟨s,c,k1,k2,fun h0 g1 g2=>?_⟩
    rcases h with ⟨rfl,hs⟩ | ⟨s',c',h1,h2,h3⟩
    · exact k3 h0 (g1.trans hs) g2
    · exact k3 h0 (h3 h0 g1 g2).1 g2
section
variable {hp:HP} {K:Value→HP→Prop} {w:Nat} {max source:Int} {L:List PD} {s:Option Addr} {n c:Nat} {l:List PD}
theorem C139 {x:PD} (h:K (.int .i64 x.1.toW) hp):CF Try.prog 139 [.agg ⟨pdc x⟩] hp K:=by
  refine F139_ok (pdc x) hp K ?_
  unfold F139
  exact h
theorem C111 {key:ByteArray} (hr:RefR hp w max source L) (hL:L.length≤100000)
    (hK:∀ hp' (s:Option Addr) (c:Nat),HSub hp hp'→Row hp' s (ofL key L).length c 118 7 ((ofL key L).flatMap pdc)→K (.slice s (ofL key L).length c) hp'):CF Try.prog 111 [ptr w 0,.string key] hp K:=by
  refine F111_ok _ key hp K ?_
  unfold F111 F111_j2
  obtain ⟨sL,cL,h1,h2⟩:=hr
  refine LoopP.by (J:=fun r (y:Option Addr × Nat × Nat × Int) hp'=>∃ i:Nat,y.2.2.2=i∧i+r=L.length∧HSub hp hp'∧Row hp' y.1 y.2.1 y.2.2.1 118 7 ((ofL key (L.take i)).flatMap pdc)∧y.2.1=(ofL key (L.take i)).length∧∀ b,y.1=some ⟨b,0,none⟩→hp b=.none) ?_
    (n:=L.length) ⟨0,rfl,by omega,HSub.refl _,.inl ⟨rfl,rfl,rfl,rfl⟩,rfl,fun b e=>by cases e⟩
  rintro I r ⟨s,n,c,y⟩ hp2 ⟨i,hy,hir,hs,hrow,hn,hfr⟩ hgo
  simp only at hy hrow hn hfr
  subst hy hn
  unfold F111_l3
  simp only []
  have hc:∀ hp',HSub hp hp'→∀ o,hp'.cell w o=(rfc max source sL L.length cL)[o]?:=fun hp' hs' o=>HP.cell_of (hs'.cells h1)
  have c2:(rfc max source sL L.length cL)[2]?=some (.slice sL L.length cL):=rfl
  simp only [ptrN_some,hc hp2 hs,Nat.zero_add,c2,ldV_some,slcV_slice]
  by_cases hi:i<L.length
  rotate_left
  · rw [decide_eq_false (by omega:¬ (i:Int)<((L.length:Nat):Int)),ite2_false]
    unfold F111_j1
    rw [List.take_of_length_le (by omega)] at *
    exact hK hp2 s c hs hrow
  rw [decide_eq_true (by omega:(i:Int)<((L.length:Nat):Int)),ite2_true]
  obtain ⟨b,o,hao,hg⟩:=(h2.sub hs).shows.get pdc_len rfl hi
  have g0:hp2.cell b (o+i*7+0)=some (.string L[i].1.key):=HP.cell_cellN (j:=0) hg rfl
  have w1:IntKind.wrap .i64 ((i:Int)+1)=((i+1:Nat):Int):=wiN (by omega) (by omega)
  have hof:ofL key (L.take (i+1))=ofL key (L.take i)++if L[i].1.key=key then [L[i]] else []:=by
    rw [List.take_succ_eq_append_getElem hi,of_snoc]
  have hle:(ofL key (L.take i)).length≤i:=by
    have:=List.length_filter_le (fun x:PD=>decide (x.1.key=key)) (L.take i)
    rw [List.length_take] at this
    unfold ofL; omega
  have hz:splice [(Value.string ⟨#[]⟩),(Value.string ⟨#[]⟩),(Value.int .i64 0),(Value.bool false),(Value.string ⟨#[]⟩),(Value.string ⟨#[]⟩),(Value.int .i64 0)] 0 (pdc L[i])=pdc L[i]:=splice_all rfl
  simp only [hao,ptrN_some,Int.toNat_natCast,g0,hg,ldV_some,ldL_some,strV_string,str_eq,pdc_len,if_true,hz]
  refine ⟨by omega,by omega,?_⟩
  by_cases hk:L[i].1.key=key
  rotate_left
  · rw [decide_eq_false hk,ite2_false]
    unfold F111_j4
    rw [w1]
    rw [if_neg hk,List.append_nil] at hof
    exact hgo (r-1) _ _ (by omega) ⟨i+1,rfl,by omega,hs,by rw [hof]; exact hrow,by simp only [hof],hfr⟩
  rw [decide_eq_true hk,ite2_true]
  rw [if_pos hk] at hof
  refine ⟨by omega,by omega,?_⟩
  intro b3 hb3
  have s3:=HSub.set_fresh hp2 (.cells 118 (pdc L[i]) 0) hb3
  refine opS_appF (e:=118) (size:=7) (bytes:=88) (by kernel_rfl) (hrow.sub s3) (.inr ⟨b3,0,rfl,by rw [HP.cellN_of (HP.set_eq ..)]; exact cellsN_all rfl⟩) (pdc_one _) (by omega) (by omega) ?_
  intro s4 c4 hp4 hrow4 hf4
  obtain ⟨k1,k2⟩:=hf4 hp (hs.trans s3) hfr
  rw [slcV_slice]
  unfold F111_j4
  rw [w1]
  have e1:(ofL key (L.take i)).flatMap pdc++pdc L[i]=(ofL key (L.take (i+1))).flatMap pdc:=by rw [hof,List.flatMap_append]; simp
  have e2:(ofL key (L.take i)).length+1=(ofL key (L.take (i+1))).length:=by rw [hof]; simp
  rw [e1,e2] at hrow4
  rw [e2]
  exact hgo (r-1) _ _ (by omega) ⟨i+1,rfl,by omega,k1,hrow4,rfl,k2⟩
theorem off_snoc {k:ByteArray} {L:List PD} {x:PD}:offL k (L++[x])=offL k L++if x.1.key=k then [] else [x]:=by
  unfold offL; rw [List.filter_append]
  by_cases h:x.1.key=k <;> simp [h]
theorem C112 {key:ByteArray} (hr:RefR hp w max source L) (hL:L.length≤100000)
    (hK:∀ hp',RefS hp hp' w max source L (offL key L)→K (.tuple ⟨[]⟩) hp'):CF Try.prog 112 [ptr w 0,.string key] hp K:=by
  refine F112_ok _ key hp K ?_
  unfold F112 F112_j2
  obtain ⟨sL,cL,h1,h2⟩:=hr
  refine LoopP.by (J:=fun r (y:Option Addr × Nat × Nat × Int) hp'=>∃ i:Nat,y.2.2.2=i∧i+r=L.length∧HSub hp hp'∧Row hp' y.1 y.2.1 y.2.2.1 118 7 ((offL key (L.take i)).flatMap pdc)∧y.2.1=(offL key (L.take i)).length∧∀ b,y.1=some ⟨b,0,none⟩→hp b=.none) ?_
    (n:=L.length) ⟨0,rfl,by omega,HSub.refl _,.inl ⟨rfl,rfl,rfl,rfl⟩,rfl,fun b e=>by cases e⟩
  rintro I r ⟨s,n,c,y⟩ hp2 ⟨i,hy,hir,hs,hrow,hn,hfr⟩ hgo
  simp only at hy hrow hn hfr
  subst hy hn
  unfold F112_l3
  simp only []
  have hc:∀ hp',HSub hp hp'→∀ o,hp'.cell w o=(rfc max source sL L.length cL)[o]?:=fun hp' hs' o=>HP.cell_of (hs'.cells h1)
  have c2:(rfc max source sL L.length cL)[2]?=some (.slice sL L.length cL):=rfl
  simp only [ptrN_some,hc hp2 hs,Nat.zero_add,c2,ldV_some,slcV_slice]
  by_cases hi:i<L.length
  rotate_left
  · rw [decide_eq_false (by omega:¬ (i:Int)<((L.length:Nat):Int)),ite2_false]
    unfold F112_j1
    rw [List.take_of_length_le (by omega)] at *
    rw [ptrN_some]
    refine HP.st_at (hs.cells h1) (by simp [rfc]) ?_
    have e1:(rfc max source sL L.length cL).set 2 (.slice s (offL key L).length c)=rfc max source s (offL key L).length c:=rfl
    rw [Nat.zero_add,e1]
    refine hK _ (.inr ⟨s,c,HP.set_eq ..,?_,fun h0 g1 g2=>⟨(g1.trans hs).up g2 _,fun b e=>g1.none (hfr b e)⟩⟩)
    rcases hrow with g | ⟨b,rfl,g1,g2,g3⟩
    · exact .inl g
    · refine .inr ⟨b,rfl,g1,g2,?_⟩
      rw [HP.set_ne _ _ (fun e=>by rw [e,hs.cells h1] at g3; cases g3)]; exact g3
  rw [decide_eq_true (by omega:(i:Int)<((L.length:Nat):Int)),ite2_true]
  obtain ⟨b,o,hao,hg⟩:=(h2.sub hs).shows.get pdc_len rfl hi
  have g0:hp2.cell b (o+i*7+0)=some (.string L[i].1.key):=HP.cell_cellN (j:=0) hg rfl
  have w1:IntKind.wrap .i64 ((i:Int)+1)=((i+1:Nat):Int):=wiN (by omega) (by omega)
  have hof:offL key (L.take (i+1))=offL key (L.take i)++if L[i].1.key=key then [] else [L[i]]:=by
    rw [List.take_succ_eq_append_getElem hi,off_snoc]
  have hle:(offL key (L.take i)).length≤i:=by
    have:=List.length_filter_le (fun x:PD=>!decide (x.1.key=key)) (L.take i)
    rw [List.length_take] at this
    unfold offL; omega
  have hz:splice [(Value.string ⟨#[]⟩),(Value.string ⟨#[]⟩),(Value.int .i64 0),(Value.bool false),(Value.string ⟨#[]⟩),(Value.string ⟨#[]⟩),(Value.int .i64 0)] 0 (pdc L[i])=pdc L[i]:=splice_all rfl
  simp only [hao,ptrN_some,Int.toNat_natCast,g0,hg,ldV_some,ldL_some,strV_string,str_eq,pdc_len,if_true,hz]
  refine ⟨by omega,by omega,?_⟩
  by_cases hk:L[i].1.key=key
  · rw [decide_eq_true hk,Bool.not_true,ite2_false]
    unfold F112_j4
    rw [w1]
    rw [if_pos hk,List.append_nil] at hof
    exact hgo (r-1) _ _ (by omega) ⟨i+1,rfl,by omega,hs,by rw [hof]; exact hrow,by simp only [hof],hfr⟩
  rw [decide_eq_false hk,Bool.not_false,ite2_true]
  rw [if_neg hk] at hof
  refine ⟨by omega,by omega,?_⟩
  intro b3 hb3
  have s3:=HSub.set_fresh hp2 (.cells 118 (pdc L[i]) 0) hb3
  refine opS_appF (e:=118) (size:=7) (bytes:=88) (by kernel_rfl) (hrow.sub s3) (.inr ⟨b3,0,rfl,by rw [HP.cellN_of (HP.set_eq ..)]; exact cellsN_all rfl⟩) (pdc_one _) (by omega) (by omega) ?_
  intro s4 c4 hp4 hrow4 hf4
  obtain ⟨k1,k2⟩:=hf4 hp (hs.trans s3) hfr
  rw [slcV_slice]
  unfold F112_j4
  rw [w1]
  have e1:(offL key (L.take i)).flatMap pdc++pdc L[i]=(offL key (L.take (i+1))).flatMap pdc:=by rw [hof,List.flatMap_append]; simp
  have e2:(offL key (L.take i)).length+1=(offL key (L.take (i+1))).length:=by rw [hof]; simp
  rw [e1,e2] at hrow4
  rw [e2]
  exact hgo (r-1) _ _ (by omega) ⟨i+1,rfl,by omega,k1,hrow4,rfl,k2⟩
end
end Go.Proofs
set_option linter.unusedVariables false
set_option maxRecDepth 20000
namespace Go.Proofs
open Go Go.HL
section
variable {e E:Env} {x0a:OA} {x0n x0c:Nat} {x3 x4:Int} {hp:HP} {K:Env→PV→HP→Prop}
abbrev R113 (p n:Nat):=RW Try.prog 110 [] (opsAt Try.f113 (pth p)) (List.range n)
theorem F113_r0:R113 2 1 e V0 hp K=
 K (upd e 2 (sB false)) V0 hp:= by kernel_rfl
theorem F113_r1:R113 133 4 (w2 e 3 (sI x3) 0 (sS x0a x0n x0c)) V0 hp K=
 K (w6 e 3 (sI x3) 0 (sS x0a x0n x0c) 5 (sI x3) 6 (sS x0a x0n x0c) 7 (sI ((x0n:Nat))) 8 (sB ((decide (x3<x0n))))) V0 hp:= by kernel_rfl
theorem F113_r2:R113 229 3 (upd e 3 (sI x3)) V0 hp K=
 K (w4 e 3 (sI x3) 9 (sI x3) 10 (sI ((wr (x3+1)))) 3 (sI ((wr (x3+1))))) V0 hp:= by kernel_rfl
def F113_j3 (x0a:OA) (x0n x0c:Nat) (x3:Int) (hp:HP) (I2:(Int)→HP→Prop) (K:Kh):Prop:=
  (I2 (IntKind.wrap .i64 (x3+1)) hp)
theorem F113_r3:R113 8485 3 (w2 e 4 (sI x4) 3 (sI x3)) V0 hp K=
 K (w5 e 4 (sI x4) 3 (sI x3) 11 (sI x4) 12 (sI x3) 13 (sB (decide (x4<x3)))) V0 hp:= by kernel_rfl
theorem F113_r4:R113 297253 1 e V0 hp K=
 K (upd e 2 (sB false)) V0 hp:= by kernel_rfl
theorem F113_r5:R113 608549 1 e V0 hp K=
 K (upd e 2 (sB false)) V0 hp:= by kernel_rfl
theorem F113_r6:R113 641317 1 e V0 hp K=
 K (upd e 2 (sB false)) V0 hp:= by kernel_rfl
theorem F113_r7:R113 14629 3 (upd e 4 (sI x4)) V0 hp K=
 K (w4 e 4 (sI x4) 14 (sI x4) 15 (sI ((wr (x4+1)))) 4 (sI ((wr (x4+1))))) V0 hp:= by kernel_rfl
def F113_j8 (x0a:OA) (x0n x0c:Nat) (x3 x4:Int) (x109:Bool) (hp:HP) (I2 I5:(Int)→HP→Prop) (K:Kh):Prop:=
  (ite2 x109 (K (.bool false) hp) (I5 (IntKind.wrap .i64 (x4+1)) hp))
theorem F113_r8 {e:Env} {x0a:OA} {x0n:Nat} {x0c:Nat} {x3:Int} {x4:Int} {hp:HP} {K:Env→PV→HP→Prop}:RW Try.prog 110 [] (opsAt Try.f113 (pth 182565)) [0,1,2,3,4,5,6,7,8,9,10,11,12,13,14,15,16,17,18,19,20,21,22,23,24,25,26,27,28,29,30,31,32,33,34,35,36,37,38,39] (w3 e 4 (sI x4) 3 (sI x3) 0 (sS x0a x0n x0c)) V0 hp K=
    ((0≤x3)∧(x3<x0n)∧(ptrN x0a fun b1 o2=>ldV (HP.cell hp b1 ((o2+Int.toNat x3*7)+3)) fun v3=>boolV v3 fun q4=>ite2 (!q4) ((0≤x4)∧(x4<x0n)∧(ptrN x0a fun b5 o6=>ldL (HP.cellN hp b5 (o6+Int.toNat x4*7) 7) fun l7=>CF Try.prog 139 [(.agg ⟨l7⟩)] hp fun u8 h9=>intV u8 .i64 fun i10=>(0≤x3)∧(x3<x0n)∧(ptrN x0a fun b11 o12=>ldL (HP.cellN h9 b11 (o12+Int.toNat x3*7) 7) fun l13=>CF Try.prog 139 [(.agg ⟨l13⟩)] h9 fun u14 h15=>intV u14 .i64 fun i16=>ite2 (decide (i10 > i16)) (K (w3 (w8 (w8 (w8 (w8 (w8 e 4 (sI x4) 3 (sI x3) 0 (sS x0a x0n x0c) 70 (sS x0a x0n x0c) 71 (sI x3) 72 (sQ b1 (o2+Int.toNat x3*7)) 73 (sQ b1 ((o2+Int.toNat x3*7)+3)) 74 (sB q4)) 75 (sB ((!q4))) 76 (sB true) 77 (sS x0a x0n x0c) 78 (sI x4) 79 (sQ b5 (o6+Int.toNat x4*7)) 80 (sA l7) 81 (sI i10) 82 (sS x0a x0n x0c)) 83 (sI x3) 84 (sQ b11 (o12+Int.toNat x3*7)) 85 (sA l13) 86 (sI i16) 87 (sB (decide (i10 > i16))) 88 (sB (decide (i10 > i16))) 89 (sB true) 90 sU) 91 sU 92 sU 93 sU 94 sU 95 sU 96 sU 97 sU 98 sU) 99 sU 100 sU 101 sU 102 sU 103 sU 104 sU 105 sU 106 sU) 107 sU 108 sU 109 (sB true)) V0 h15) ((0≤x4)∧(x4<x0n)∧(ptrN x0a fun b17 o18=>ldV (HP.cell h15 b17 ((o18+Int.toNat x4*7)+3)) fun v19=>boolV v19 fun q20=>ite2 (!q20) ((0≤x3)∧(x3<x0n)∧(ptrN x0a fun b21 o22=>ldL (HP.cellN h15 b21 (o22+Int.toNat x3*7) 7) fun l23=>CF Try.prog 139 [(.agg ⟨l23⟩)] h15 fun u24 h25=>intV u24 .i64 fun i26=>(0≤x4)∧(x4<x0n)∧(ptrN x0a fun b27 o28=>ldL (HP.cellN h25 b27 (o28+Int.toNat x4*7) 7) fun l29=>CF Try.prog 139 [(.agg ⟨l29⟩)] h25 fun u30 h31=>intV u30 .i64 fun i32=>K (w3 (w8 (w8 (w8 (w8 (w8 e 4 (sI x4) 3 (sI x3) 0 (sS x0a x0n x0c) 70 (sS x0a x0n x0c) 71 (sI x3) 72 (sQ b1 (o2+Int.toNat x3*7)) 73 (sQ b1 ((o2+Int.toNat x3*7)+3)) 74 (sB q4)) 75 (sB ((!q4))) 76 (sB true) 77 (sS x0a x0n x0c) 78 (sI x4) 79 (sQ b5 (o6+Int.toNat x4*7)) 80 (sA l7) 81 (sI i10) 82 (sS x0a x0n x0c)) 83 (sI x3) 84 (sQ b11 (o12+Int.toNat x3*7)) 85 (sA l13) 86 (sI i16) 87 (sB (decide (i10 > i16))) 88 (sB (decide (i10 > i16))) 89 (sB false) 90 (sS x0a x0n x0c)) 91 (sI x4) 92 (sQ b17 (o18+Int.toNat x4*7)) 93 (sQ b17 ((o18+Int.toNat x4*7)+3)) 94 (sB q20) 95 (sB ((!q20))) 96 (sB true) 97 (sS x0a x0n x0c) 98 (sI x3)) 99 (sQ b21 (o22+Int.toNat x3*7)) 100 (sA l23) 101 (sI i26) 102 (sS x0a x0n x0c) 103 (sI x4) 104 (sQ b27 (o28+Int.toNat x4*7)) 105 (sA l29) 106 (sI i32)) 107 (sB (decide (i26 > i32))) 108 (sB (decide (i26 > i32))) 109 (sB (decide (i26 > i32)))) V0 h31))) (K (w3 (w8 (w8 (w8 (w8 (w8 e 4 (sI x4) 3 (sI x3) 0 (sS x0a x0n x0c) 70 (sS x0a x0n x0c) 71 (sI x3) 72 (sQ b1 (o2+Int.toNat x3*7)) 73 (sQ b1 ((o2+Int.toNat x3*7)+3)) 74 (sB q4)) 75 (sB ((!q4))) 76 (sB true) 77 (sS x0a x0n x0c) 78 (sI x4) 79 (sQ b5 (o6+Int.toNat x4*7)) 80 (sA l7) 81 (sI i10) 82 (sS x0a x0n x0c)) 83 (sI x3) 84 (sQ b11 (o12+Int.toNat x3*7)) 85 (sA l13) 86 (sI i16) 87 (sB (decide (i10 > i16))) 88 (sB (decide (i10 > i16))) 89 (sB false) 90 (sS x0a x0n x0c)) 91 (sI x4) 92 (sQ b17 (o18+Int.toNat x4*7)) 93 (sQ b17 ((o18+Int.toNat x4*7)+3)) 94 (sB q20) 95 (sB ((!q20))) 96 (sB false) 97 sU 98 sU) 99 sU 100 sU 101 sU 102 sU 103 sU 104 sU 105 sU 106 sU) 107 sU 108 (sB false) 109 (sB false)) V0 h15)))))) ((0≤x4)∧(x4<x0n)∧(ptrN x0a fun b33 o34=>ldV (HP.cell hp b33 ((o34+Int.toNat x4*7)+3)) fun v35=>boolV v35 fun q36=>ite2 (!q36) ((0≤x3)∧(x3<x0n)∧(ptrN x0a fun b37 o38=>ldL (HP.cellN hp b37 (o38+Int.toNat x3*7) 7) fun l39=>CF Try.prog 139 [(.agg ⟨l39⟩)] hp fun u40 h41=>intV u40 .i64 fun i42=>(0≤x4)∧(x4<x0n)∧(ptrN x0a fun b43 o44=>ldL (HP.cellN h41 b43 (o44+Int.toNat x4*7) 7) fun l45=>CF Try.prog 139 [(.agg ⟨l45⟩)] h41 fun u46 h47=>intV u46 .i64 fun i48=>K (w3 (w8 (w8 (w8 (w8 (w8 e 4 (sI x4) 3 (sI x3) 0 (sS x0a x0n x0c) 70 (sS x0a x0n x0c) 71 (sI x3) 72 (sQ b1 (o2+Int.toNat x3*7)) 73 (sQ b1 ((o2+Int.toNat x3*7)+3)) 74 (sB q4)) 75 (sB ((!q4))) 76 (sB false) 77 sU 78 sU 79 sU 80 sU 81 sU 82 sU) 83 sU 84 sU 85 sU 86 sU 87 sU 88 (sB false) 89 (sB false) 90 (sS x0a x0n x0c)) 91 (sI x4) 92 (sQ b33 (o34+Int.toNat x4*7)) 93 (sQ b33 ((o34+Int.toNat x4*7)+3)) 94 (sB q36) 95 (sB ((!q36))) 96 (sB true) 97 (sS x0a x0n x0c) 98 (sI x3)) 99 (sQ b37 (o38+Int.toNat x3*7)) 100 (sA l39) 101 (sI i42) 102 (sS x0a x0n x0c) 103 (sI x4) 104 (sQ b43 (o44+Int.toNat x4*7)) 105 (sA l45) 106 (sI i48)) 107 (sB (decide (i42 > i48))) 108 (sB (decide (i42 > i48))) 109 (sB (decide (i42 > i48)))) V0 h47))) (K (w3 (w8 (w8 (w8 (w8 (w8 e 4 (sI x4) 3 (sI x3) 0 (sS x0a x0n x0c) 70 (sS x0a x0n x0c) 71 (sI x3) 72 (sQ b1 (o2+Int.toNat x3*7)) 73 (sQ b1 ((o2+Int.toNat x3*7)+3)) 74 (sB q4)) 75 (sB ((!q4))) 76 (sB false) 77 sU 78 sU 79 sU 80 sU 81 sU 82 sU) 83 sU 84 sU 85 sU 86 sU 87 sU 88 (sB false) 89 (sB false) 90 (sS x0a x0n x0c)) 91 (sI x4) 92 (sQ b33 (o34+Int.toNat x4*7)) 93 (sQ b33 ((o34+Int.toNat x4*7)+3)) 94 (sB q36) 95 (sB ((!q36))) 96 (sB false) 97 sU 98 sU) 99 sU 100 sU 101 sU 102 sU 103 sU 104 sU 105 sU 106 sU) 107 sU 108 (sB false) 109 (sB false)) V0 hp))))):=by kernel_rfl
theorem F113_r9 {e:Env} {x0a:OA} {x0n:Nat} {x0c:Nat} {x3:Int} {x4:Int} {hp:HP} {K:Env→PV→HP→Prop}:RW Try.prog 110 [] (opsAt Try.f113 (pth 182565)) [0,1,2,3,4,5,6,7,8,9,10,11,12,13,14,15,16,17,18,19,20,21,22,23,24,25,26,27,28,29,30,32,33,34,35,31,36,37,38,39] (w3 e 4 (sI x4) 3 (sI x3) 0 (sS x0a x0n x0c)) V0 hp K=
    ((0≤x3)∧(x3<x0n)∧(ptrN x0a fun b1 o2=>ldV (HP.cell hp b1 ((o2+Int.toNat x3*7)+3)) fun v3=>boolV v3 fun q4=>ite2 (!q4) ((0≤x4)∧(x4<x0n)∧(ptrN x0a fun b5 o6=>ldL (HP.cellN hp b5 (o6+Int.toNat x4*7) 7) fun l7=>CF Try.prog 139 [(.agg ⟨l7⟩)] hp fun u8 h9=>intV u8 .i64 fun i10=>(0≤x3)∧(x3<x0n)∧(ptrN x0a fun b11 o12=>ldL (HP.cellN h9 b11 (o12+Int.toNat x3*7) 7) fun l13=>CF Try.prog 139 [(.agg ⟨l13⟩)] h9 fun u14 h15=>intV u14 .i64 fun i16=>ite2 (decide (i10 > i16)) (K (w3 (w8 (w8 (w8 (w8 (w8 e 4 (sI x4) 3 (sI x3) 0 (sS x0a x0n x0c) 70 (sS x0a x0n x0c) 71 (sI x3) 72 (sQ b1 (o2+Int.toNat x3*7)) 73 (sQ b1 ((o2+Int.toNat x3*7)+3)) 74 (sB q4)) 75 (sB ((!q4))) 76 (sB true) 77 (sS x0a x0n x0c) 78 (sI x4) 79 (sQ b5 (o6+Int.toNat x4*7)) 80 (sA l7) 81 (sI i10) 82 (sS x0a x0n x0c)) 83 (sI x3) 84 (sQ b11 (o12+Int.toNat x3*7)) 85 (sA l13) 86 (sI i16) 87 (sB (decide (i10 > i16))) 88 (sB (decide (i10 > i16))) 89 (sB true) 90 sU) 91 sU 92 sU 93 sU 94 sU 95 sU 96 sU 97 sU 98 sU) 99 sU 100 sU 102 sU 103 sU 104 sU 105 sU 101 sU 106 sU) 107 sU 108 sU 109 (sB true)) V0 h15) ((0≤x4)∧(x4<x0n)∧(ptrN x0a fun b17 o18=>ldV (HP.cell h15 b17 ((o18+Int.toNat x4*7)+3)) fun v19=>boolV v19 fun q20=>ite2 (!q20) ((0≤x3)∧(x3<x0n)∧(ptrN x0a fun b21 o22=>ldL (HP.cellN h15 b21 (o22+Int.toNat x3*7) 7) fun l23=>(0≤x4)∧(x4<x0n)∧(ptrN x0a fun b24 o25=>ldL (HP.cellN h15 b24 (o25+Int.toNat x4*7) 7) fun l26=>CF Try.prog 139 [(.agg ⟨l23⟩)] h15 fun u27 h28=>intV u27 .i64 fun i29=>CF Try.prog 139 [(.agg ⟨l26⟩)] h28 fun u30 h31=>intV u30 .i64 fun i32=>K (w3 (w8 (w8 (w8 (w8 (w8 e 4 (sI x4) 3 (sI x3) 0 (sS x0a x0n x0c) 70 (sS x0a x0n x0c) 71 (sI x3) 72 (sQ b1 (o2+Int.toNat x3*7)) 73 (sQ b1 ((o2+Int.toNat x3*7)+3)) 74 (sB q4)) 75 (sB ((!q4))) 76 (sB true) 77 (sS x0a x0n x0c) 78 (sI x4) 79 (sQ b5 (o6+Int.toNat x4*7)) 80 (sA l7) 81 (sI i10) 82 (sS x0a x0n x0c)) 83 (sI x3) 84 (sQ b11 (o12+Int.toNat x3*7)) 85 (sA l13) 86 (sI i16) 87 (sB (decide (i10 > i16))) 88 (sB (decide (i10 > i16))) 89 (sB false) 90 (sS x0a x0n x0c)) 91 (sI x4) 92 (sQ b17 (o18+Int.toNat x4*7)) 93 (sQ b17 ((o18+Int.toNat x4*7)+3)) 94 (sB q20) 95 (sB ((!q20))) 96 (sB true) 97 (sS x0a x0n x0c) 98 (sI x3)) 99 (sQ b21 (o22+Int.toNat x3*7)) 100 (sA l23) 102 (sS x0a x0n x0c) 103 (sI x4) 104 (sQ b24 (o25+Int.toNat x4*7)) 105 (sA l26) 101 (sI i29) 106 (sI i32)) 107 (sB (decide (i29 > i32))) 108 (sB (decide (i29 > i32))) 109 (sB (decide (i29 > i32)))) V0 h31))) (K (w3 (w8 (w8 (w8 (w8 (w8 e 4 (sI x4) 3 (sI x3) 0 (sS x0a x0n x0c) 70 (sS x0a x0n x0c) 71 (sI x3) 72 (sQ b1 (o2+Int.toNat x3*7)) 73 (sQ b1 ((o2+Int.toNat x3*7)+3)) 74 (sB q4)) 75 (sB ((!q4))) 76 (sB true) 77 (sS x0a x0n x0c) 78 (sI x4) 79 (sQ b5 (o6+Int.toNat x4*7)) 80 (sA l7) 81 (sI i10) 82 (sS x0a x0n x0c)) 83 (sI x3) 84 (sQ b11 (o12+Int.toNat x3*7)) 85 (sA l13) 86 (sI i16) 87 (sB (decide (i10 > i16))) 88 (sB (decide (i10 > i16))) 89 (sB false) 90 (sS x0a x0n x0c)) 91 (sI x4) 92 (sQ b17 (o18+Int.toNat x4*7)) 93 (sQ b17 ((o18+Int.toNat x4*7)+3)) 94 (sB q20) 95 (sB ((!q20))) 96 (sB false) 97 sU 98 sU) 99 sU 100 sU 102 sU 103 sU 104 sU 105 sU 101 sU 106 sU) 107 sU 108 (sB false) 109 (sB false)) V0 h15)))))) ((0≤x4)∧(x4<x0n)∧(ptrN x0a fun b33 o34=>ldV (HP.cell hp b33 ((o34+Int.toNat x4*7)+3)) fun v35=>boolV v35 fun q36=>ite2 (!q36) ((0≤x3)∧(x3<x0n)∧(ptrN x0a fun b37 o38=>ldL (HP.cellN hp b37 (o38+Int.toNat x3*7) 7) fun l39=>(0≤x4)∧(x4<x0n)∧(ptrN x0a fun b40 o41=>ldL (HP.cellN hp b40 (o41+Int.toNat x4*7) 7) fun l42=>CF Try.prog 139 [(.agg ⟨l39⟩)] hp fun u43 h44=>intV u43 .i64 fun i45=>CF Try.prog 139 [(.agg ⟨l42⟩)] h44 fun u46 h47=>intV u46 .i64 fun i48=>K (w3 (w8 (w8 (w8 (w8 (w8 e 4 (sI x4) 3 (sI x3) 0 (sS x0a x0n x0c) 70 (sS x0a x0n x0c) 71 (sI x3) 72 (sQ b1 (o2+Int.toNat x3*7)) 73 (sQ b1 ((o2+Int.toNat x3*7)+3)) 74 (sB q4)) 75 (sB ((!q4))) 76 (sB false) 77 sU 78 sU 79 sU 80 sU 81 sU 82 sU) 83 sU 84 sU 85 sU 86 sU 87 sU 88 (sB false) 89 (sB false) 90 (sS x0a x0n x0c)) 91 (sI x4) 92 (sQ b33 (o34+Int.toNat x4*7)) 93 (sQ b33 ((o34+Int.toNat x4*7)+3)) 94 (sB q36) 95 (sB ((!q36))) 96 (sB true) 97 (sS x0a x0n x0c) 98 (sI x3)) 99 (sQ b37 (o38+Int.toNat x3*7)) 100 (sA l39) 102 (sS x0a x0n x0c) 103 (sI x4) 104 (sQ b40 (o41+Int.toNat x4*7)) 105 (sA l42) 101 (sI i45) 106 (sI i48)) 107 (sB (decide (i45 > i48))) 108 (sB (decide (i45 > i48))) 109 (sB (decide (i45 > i48)))) V0 h47))) (K (w3 (w8 (w8 (w8 (w8 (w8 e 4 (sI x4) 3 (sI x3) 0 (sS x0a x0n x0c) 70 (sS x0a x0n x0c) 71 (sI x3) 72 (sQ b1 (o2+Int.toNat x3*7)) 73 (sQ b1 ((o2+Int.toNat x3*7)+3)) 74 (sB q4)) 75 (sB ((!q4))) 76 (sB false) 77 sU 78 sU 79 sU 80 sU 81 sU 82 sU) 83 sU 84 sU 85 sU 86 sU 87 sU 88 (sB false) 89 (sB false) 90 (sS x0a x0n x0c)) 91 (sI x4) 92 (sQ b33 (o34+Int.toNat x4*7)) 93 (sQ b33 ((o34+Int.toNat x4*7)+3)) 94 (sB q36) 95 (sB ((!q36))) 96 (sB false) 97 sU 98 sU) 99 sU 100 sU 102 sU 103 sU 104 sU 105 sU 101 sU 106 sU) 107 sU 108 (sB false) 109 (sB false)) V0 hp))))):=by kernel_rfl
theorem F113_r10 {e:Env} {x0a:OA} {x0n:Nat} {x0c:Nat} {x3:Int} {x4:Int} {hp:HP} {K:Env→PV→HP→Prop}:RW Try.prog 110 [] (opsAt Try.f113 (pth 182565)) [0,1,2,3,4,5,6,7,8,9,10,12,13,14,15,11,16,17,18,19,20,21,22,23,24,25,26,27,28,29,30,31,32,33,34,35,36,37,38,39] (w3 e 4 (sI x4) 3 (sI x3) 0 (sS x0a x0n x0c)) V0 hp K=
    ((0≤x3)∧(x3<x0n)∧(ptrN x0a fun b1 o2=>ldV (HP.cell hp b1 ((o2+Int.toNat x3*7)+3)) fun v3=>boolV v3 fun q4=>ite2 (!q4) ((0≤x4)∧(x4<x0n)∧(ptrN x0a fun b5 o6=>ldL (HP.cellN hp b5 (o6+Int.toNat x4*7) 7) fun l7=>(0≤x3)∧(x3<x0n)∧(ptrN x0a fun b8 o9=>ldL (HP.cellN hp b8 (o9+Int.toNat x3*7) 7) fun l10=>CF Try.prog 139 [(.agg ⟨l7⟩)] hp fun u11 h12=>intV u11 .i64 fun i13=>CF Try.prog 139 [(.agg ⟨l10⟩)] h12 fun u14 h15=>intV u14 .i64 fun i16=>ite2 (decide (i13 > i16)) (K (w3 (w8 (w8 (w8 (w8 (w8 e 4 (sI x4) 3 (sI x3) 0 (sS x0a x0n x0c) 70 (sS x0a x0n x0c) 71 (sI x3) 72 (sQ b1 (o2+Int.toNat x3*7)) 73 (sQ b1 ((o2+Int.toNat x3*7)+3)) 74 (sB q4)) 75 (sB ((!q4))) 76 (sB true) 77 (sS x0a x0n x0c) 78 (sI x4) 79 (sQ b5 (o6+Int.toNat x4*7)) 80 (sA l7) 82 (sS x0a x0n x0c) 83 (sI x3)) 84 (sQ b8 (o9+Int.toNat x3*7)) 85 (sA l10) 81 (sI i13) 86 (sI i16) 87 (sB (decide (i13 > i16))) 88 (sB (decide (i13 > i16))) 89 (sB true) 90 sU) 91 sU 92 sU 93 sU 94 sU 95 sU 96 sU 97 sU 98 sU) 99 sU 100 sU 101 sU 102 sU 103 sU 104 sU 105 sU 106 sU) 107 sU 108 sU 109 (sB true)) V0 h15) ((0≤x4)∧(x4<x0n)∧(ptrN x0a fun b17 o18=>ldV (HP.cell h15 b17 ((o18+Int.toNat x4*7)+3)) fun v19=>boolV v19 fun q20=>ite2 (!q20) ((0≤x3)∧(x3<x0n)∧(ptrN x0a fun b21 o22=>ldL (HP.cellN h15 b21 (o22+Int.toNat x3*7) 7) fun l23=>CF Try.prog 139 [(.agg ⟨l23⟩)] h15 fun u24 h25=>intV u24 .i64 fun i26=>(0≤x4)∧(x4<x0n)∧(ptrN x0a fun b27 o28=>ldL (HP.cellN h25 b27 (o28+Int.toNat x4*7) 7) fun l29=>CF Try.prog 139 [(.agg ⟨l29⟩)] h25 fun u30 h31=>intV u30 .i64 fun i32=>K (w3 (w8 (w8 (w8 (w8 (w8 e 4 (sI x4) 3 (sI x3) 0 (sS x0a x0n x0c) 70 (sS x0a x0n x0c) 71 (sI x3) 72 (sQ b1 (o2+Int.toNat x3*7)) 73 (sQ b1 ((o2+Int.toNat x3*7)+3)) 74 (sB q4)) 75 (sB ((!q4))) 76 (sB true) 77 (sS x0a x0n x0c) 78 (sI x4) 79 (sQ b5 (o6+Int.toNat x4*7)) 80 (sA l7) 82 (sS x0a x0n x0c) 83 (sI x3)) 84 (sQ b8 (o9+Int.toNat x3*7)) 85 (sA l10) 81 (sI i13) 86 (sI i16) 87 (sB (decide (i13 > i16))) 88 (sB (decide (i13 > i16))) 89 (sB false) 90 (sS x0a x0n x0c)) 91 (sI x4) 92 (sQ b17 (o18+Int.toNat x4*7)) 93 (sQ b17 ((o18+Int.toNat x4*7)+3)) 94 (sB q20) 95 (sB ((!q20))) 96 (sB true) 97 (sS x0a x0n x0c) 98 (sI x3)) 99 (sQ b21 (o22+Int.toNat x3*7)) 100 (sA l23) 101 (sI i26) 102 (sS x0a x0n x0c) 103 (sI x4) 104 (sQ b27 (o28+Int.toNat x4*7)) 105 (sA l29) 106 (sI i32)) 107 (sB (decide (i26 > i32))) 108 (sB (decide (i26 > i32))) 109 (sB (decide (i26 > i32)))) V0 h31))) (K (w3 (w8 (w8 (w8 (w8 (w8 e 4 (sI x4) 3 (sI x3) 0 (sS x0a x0n x0c) 70 (sS x0a x0n x0c) 71 (sI x3) 72 (sQ b1 (o2+Int.toNat x3*7)) 73 (sQ b1 ((o2+Int.toNat x3*7)+3)) 74 (sB q4)) 75 (sB ((!q4))) 76 (sB true) 77 (sS x0a x0n x0c) 78 (sI x4) 79 (sQ b5 (o6+Int.toNat x4*7)) 80 (sA l7) 82 (sS x0a x0n x0c) 83 (sI x3)) 84 (sQ b8 (o9+Int.toNat x3*7)) 85 (sA l10) 81 (sI i13) 86 (sI i16) 87 (sB (decide (i13 > i16))) 88 (sB (decide (i13 > i16))) 89 (sB false) 90 (sS x0a x0n x0c)) 91 (sI x4) 92 (sQ b17 (o18+Int.toNat x4*7)) 93 (sQ b17 ((o18+Int.toNat x4*7)+3)) 94 (sB q20) 95 (sB ((!q20))) 96 (sB false) 97 sU 98 sU) 99 sU 100 sU 101 sU 102 sU 103 sU 104 sU 105 sU 106 sU) 107 sU 108 (sB false) 109 (sB false)) V0 h15)))))) ((0≤x4)∧(x4<x0n)∧(ptrN x0a fun b33 o34=>ldV (HP.cell hp b33 ((o34+Int.toNat x4*7)+3)) fun v35=>boolV v35 fun q36=>ite2 (!q36) ((0≤x3)∧(x3<x0n)∧(ptrN x0a fun b37 o38=>ldL (HP.cellN hp b37 (o38+Int.toNat x3*7) 7) fun l39=>CF Try.prog 139 [(.agg ⟨l39⟩)] hp fun u40 h41=>intV u40 .i64 fun i42=>(0≤x4)∧(x4<x0n)∧(ptrN x0a fun b43 o44=>ldL (HP.cellN h41 b43 (o44+Int.toNat x4*7) 7) fun l45=>CF Try.prog 139 [(.agg ⟨l45⟩)] h41 fun u46 h47=>intV u46 .i64 fun i48=>K (w3 (w8 (w8 (w8 (w8 (w8 e 4 (sI x4) 3 (sI x3) 0 (sS x0a x0n x0c) 70 (sS x0a x0n x0c) 71 (sI x3) 72 (sQ b1 (o2+Int.toNat x3*7)) 73 (sQ b1 ((o2+Int.toNat x3*7)+3)) 74 (sB q4)) 75 (sB ((!q4))) 76 (sB false) 77 sU 78 sU 79 sU 80 sU 82 sU 83 sU) 84 sU 85 sU 81 sU 86 sU 87 sU 88 (sB false) 89 (sB false) 90 (sS x0a x0n x0c)) 91 (sI x4) 92 (sQ b33 (o34+Int.toNat x4*7)) 93 (sQ b33 ((o34+Int.toNat x4*7)+3)) 94 (sB q36) 95 (sB ((!q36))) 96 (sB true) 97 (sS x0a x0n x0c) 98 (sI x3)) 99 (sQ b37 (o38+Int.toNat x3*7)) 100 (sA l39) 101 (sI i42) 102 (sS x0a x0n x0c) 103 (sI x4) 104 (sQ b43 (o44+Int.toNat x4*7)) 105 (sA l45) 106 (sI i48)) 107 (sB (decide (i42 > i48))) 108 (sB (decide (i42 > i48))) 109 (sB (decide (i42 > i48)))) V0 h47))) (K (w3 (w8 (w8 (w8 (w8 (w8 e 4 (sI x4) 3 (sI x3) 0 (sS x0a x0n x0c) 70 (sS x0a x0n x0c) 71 (sI x3) 72 (sQ b1 (o2+Int.toNat x3*7)) 73 (sQ b1 ((o2+Int.toNat x3*7)+3)) 74 (sB q4)) 75 (sB ((!q4))) 76 (sB false) 77 sU 78 sU 79 sU 80 sU 82 sU 83 sU) 84 sU 85 sU 81 sU 86 sU 87 sU 88 (sB false) 89 (sB false) 90 (sS x0a x0n x0c)) 91 (sI x4) 92 (sQ b33 (o34+Int.toNat x4*7)) 93 (sQ b33 ((o34+Int.toNat x4*7)+3)) 94 (sB q36) 95 (sB ((!q36))) 96 (sB false) 97 sU 98 sU) 99 sU 100 sU 101 sU 102 sU 103 sU 104 sU 105 sU 106 sU) 107 sU 108 (sB false) 109 (sB false)) V0 hp))))):=by kernel_rfl
theorem F113_r11 {e:Env} {x0a:OA} {x0n:Nat} {x0c:Nat} {x3:Int} {x4:Int} {hp:HP} {K:Env→PV→HP→Prop}:RW Try.prog 110 [] (opsAt Try.f113 (pth 182565)) [0,1,2,3,4,5,6,7,8,9,10,12,13,14,15,11,16,17,18,19,20,21,22,23,24,25,26,27,28,29,30,32,33,34,35,31,36,37,38,39] (w3 e 4 (sI x4) 3 (sI x3) 0 (sS x0a x0n x0c)) V0 hp K=
    ((0≤x3)∧(x3<x0n)∧(ptrN x0a fun b1 o2=>ldV (HP.cell hp b1 ((o2+Int.toNat x3*7)+3)) fun v3=>boolV v3 fun q4=>ite2 (!q4) ((0≤x4)∧(x4<x0n)∧(ptrN x0a fun b5 o6=>ldL (HP.cellN hp b5 (o6+Int.toNat x4*7) 7) fun l7=>(0≤x3)∧(x3<x0n)∧(ptrN x0a fun b8 o9=>ldL (HP.cellN hp b8 (o9+Int.toNat x3*7) 7) fun l10=>CF Try.prog 139 [(.agg ⟨l7⟩)] hp fun u11 h12=>intV u11 .i64 fun i13=>CF Try.prog 139 [(.agg ⟨l10⟩)] h12 fun u14 h15=>intV u14 .i64 fun i16=>ite2 (decide (i13 > i16)) (K (w3 (w8 (w8 (w8 (w8 (w8 e 4 (sI x4) 3 (sI x3) 0 (sS x0a x0n x0c) 70 (sS x0a x0n x0c) 71 (sI x3) 72 (sQ b1 (o2+Int.toNat x3*7)) 73 (sQ b1 ((o2+Int.toNat x3*7)+3)) 74 (sB q4)) 75 (sB ((!q4))) 76 (sB true) 77 (sS x0a x0n x0c) 78 (sI x4) 79 (sQ b5 (o6+Int.toNat x4*7)) 80 (sA l7) 82 (sS x0a x0n x0c) 83 (sI x3)) 84 (sQ b8 (o9+Int.toNat x3*7)) 85 (sA l10) 81 (sI i13) 86 (sI i16) 87 (sB (decide (i13 > i16))) 88 (sB (decide (i13 > i16))) 89 (sB true) 90 sU) 91 sU 92 sU 93 sU 94 sU 95 sU 96 sU 97 sU 98 sU) 99 sU 100 sU 102 sU 103 sU 104 sU 105 sU 101 sU 106 sU) 107 sU 108 sU 109 (sB true)) V0 h15) ((0≤x4)∧(x4<x0n)∧(ptrN x0a fun b17 o18=>ldV (HP.cell h15 b17 ((o18+Int.toNat x4*7)+3)) fun v19=>boolV v19 fun q20=>ite2 (!q20) ((0≤x3)∧(x3<x0n)∧(ptrN x0a fun b21 o22=>ldL (HP.cellN h15 b21 (o22+Int.toNat x3*7) 7) fun l23=>(0≤x4)∧(x4<x0n)∧(ptrN x0a fun b24 o25=>ldL (HP.cellN h15 b24 (o25+Int.toNat x4*7) 7) fun l26=>CF Try.prog 139 [(.agg ⟨l23⟩)] h15 fun u27 h28=>intV u27 .i64 fun i29=>CF Try.prog 139 [(.agg ⟨l26⟩)] h28 fun u30 h31=>intV u30 .i64 fun i32=>K (w3 (w8 (w8 (w8 (w8 (w8 e 4 (sI x4) 3 (sI x3) 0 (sS x0a x0n x0c) 70 (sS x0a x0n x0c) 71 (sI x3) 72 (sQ b1 (o2+Int.toNat x3*7)) 73 (sQ b1 ((o2+Int.toNat x3*7)+3)) 74 (sB q4)) 75 (sB ((!q4))) 76 (sB true) 77 (sS x0a x0n x0c) 78 (sI x4) 79 (sQ b5 (o6+Int.toNat x4*7)) 80 (sA l7) 82 (sS x0a x0n x0c) 83 (sI x3)) 84 (sQ b8 (o9+Int.toNat x3*7)) 85 (sA l10) 81 (sI i13) 86 (sI i16) 87 (sB (decide (i13 > i16))) 88 (sB (decide (i13 > i16))) 89 (sB false) 90 (sS x0a x0n x0c)) 91 (sI x4) 92 (sQ b17 (o18+Int.toNat x4*7)) 93 (sQ b17 ((o18+Int.toNat x4*7)+3)) 94 (sB q20) 95 (sB ((!q20))) 96 (sB true) 97 (sS x0a x0n x0c) 98 (sI x3)) 99 (sQ b21 (o22+Int.toNat x3*7)) 100 (sA l23) 102 (sS x0a x0n x0c) 103 (sI x4) 104 (sQ b24 (o25+Int.toNat x4*7)) 105 (sA l26) 101 (sI i29) 106 (sI i32)) 107 (sB (decide (i29 > i32))) 108 (sB (decide (i29 > i32))) 109 (sB (decide (i29 > i32)))) V0 h31))) (K (w3 (w8 (w8 (w8 (w8 (w8 e 4 (sI x4) 3 (sI x3) 0 (sS x0a x0n x0c) 70 (sS x0a x0n x0c) 71 (sI x3) 72 (sQ b1 (o2+Int.toNat x3*7)) 73 (sQ b1 ((o2+Int.toNat x3*7)+3)) 74 (sB q4)) 75 (sB ((!q4))) 76 (sB true) 77 (sS x0a x0n x0c) 78 (sI x4) 79 (sQ b5 (o6+Int.toNat x4*7)) 80 (sA l7) 82 (sS x0a x0n x0c) 83 (sI x3)) 84 (sQ b8 (o9+Int.toNat x3*7)) 85 (sA l10) 81 (sI i13) 86 (sI i16) 87 (sB (decide (i13 > i16))) 88 (sB (decide (i13 > i16))) 89 (sB false) 90 (sS x0a x0n x0c)) 91 (sI x4) 92 (sQ b17 (o18+Int.toNat x4*7)) 93 (sQ b17 ((o18+Int.toNat x4*7)+3)) 94 (sB q20) 95 (sB ((!q20))) 96 (sB false) 97 sU 98 sU) 99 sU 100 sU 102 sU 103 sU 104 sU 105 sU 101 sU 106 sU) 107 sU 108 (sB false) 109 (sB false)) V0 h15)))))) ((0≤x4)∧(x4<x0n)∧(ptrN x0a fun b33 o34=>ldV (HP.cell hp b33 ((o34+Int.toNat x4*7)+3)) fun v35=>boolV v35 fun q36=>ite2 (!q36) ((0≤x3)∧(x3<x0n)∧(ptrN x0a fun b37 o38=>ldL (HP.cellN hp b37 (o38+Int.toNat x3*7) 7) fun l39=>(0≤x4)∧(x4<x0n)∧(ptrN x0a fun b40 o41=>ldL (HP.cellN hp b40 (o41+Int.toNat x4*7) 7) fun l42=>CF Try.prog 139 [(.agg ⟨l39⟩)] hp fun u43 h44=>intV u43 .i64 fun i45=>CF Try.prog 139 [(.agg ⟨l42⟩)] h44 fun u46 h47=>intV u46 .i64 fun i48=>K (w3 (w8 (w8 (w8 (w8 (w8 e 4 (sI x4) 3 (sI x3) 0 (sS x0a x0n x0c) 70 (sS x0a x0n x0c) 71 (sI x3) 72 (sQ b1 (o2+Int.toNat x3*7)) 73 (sQ b1 ((o2+Int.toNat x3*7)+3)) 74 (sB q4)) 75 (sB ((!q4))) 76 (sB false) 77 sU 78 sU 79 sU 80 sU 82 sU 83 sU) 84 sU 85 sU 81 sU 86 sU 87 sU 88 (sB false) 89 (sB false) 90 (sS x0a x0n x0c)) 91 (sI x4) 92 (sQ b33 (o34+Int.toNat x4*7)) 93 (sQ b33 ((o34+Int.toNat x4*7)+3)) 94 (sB q36) 95 (sB ((!q36))) 96 (sB true) 97 (sS x0a x0n x0c) 98 (sI x3)) 99 (sQ b37 (o38+Int.toNat x3*7)) 100 (sA l39) 102 (sS x0a x0n x0c) 103 (sI x4) 104 (sQ b40 (o41+Int.toNat x4*7)) 105 (sA l42) 101 (sI i45) 106 (sI i48)) 107 (sB (decide (i45 > i48))) 108 (sB (decide (i45 > i48))) 109 (sB (decide (i45 > i48)))) V0 h47))) (K (w3 (w8 (w8 (w8 (w8 (w8 e 4 (sI x4) 3 (sI x3) 0 (sS x0a x0n x0c) 70 (sS x0a x0n x0c) 71 (sI x3) 72 (sQ b1 (o2+Int.toNat x3*7)) 73 (sQ b1 ((o2+Int.toNat x3*7)+3)) 74 (sB q4)) 75 (sB ((!q4))) 76 (sB false) 77 sU 78 sU 79 sU 80 sU 82 sU 83 sU) 84 sU 85 sU 81 sU 86 sU 87 sU 88 (sB false) 89 (sB false) 90 (sS x0a x0n x0c)) 91 (sI x4) 92 (sQ b33 (o34+Int.toNat x4*7)) 93 (sQ b33 ((o34+Int.toNat x4*7)+3)) 94 (sB q36) 95 (sB ((!q36))) 96 (sB false) 97 sU 98 sU) 99 sU 100 sU 102 sU 103 sU 104 sU 105 sU 101 sU 106 sU) 107 sU 108 (sB false) 109 (sB false)) V0 hp))))):=by kernel_rfl
def F113_j7 (x0a:OA) (x0n x0c:Nat) (x3 x4:Int) (x69:Bool) (hp:HP) (I2 I5:(Int)→HP→Prop) (K:Kh):Prop:=
  (ite2 x69 (K (.bool false) hp) (((0≤x3)∧(x3<x0n)∧(ptrN x0a fun b1 o2=>ldV (HP.cell hp b1 ((o2+Int.toNat x3*7)+3)) fun v3=>boolV v3 fun q4=>ite2 (!q4) ((0≤x4)∧(x4<x0n)∧(ptrN x0a fun b5 o6=>ldL (HP.cellN hp b5 (o6+Int.toNat x4*7) 7) fun l7=>CF Try.prog 139 [(.agg ⟨l7⟩)] hp fun u8 h9=>intV u8 .i64 fun i10=>(0≤x3)∧(x3<x0n)∧(ptrN x0a fun b11 o12=>ldL (HP.cellN h9 b11 (o12+Int.toNat x3*7) 7) fun l13=>CF Try.prog 139 [(.agg ⟨l13⟩)] h9 fun u14 h15=>intV u14 .i64 fun i16=>ite2 (decide (i10 > i16)) (F113_j8 x0a x0n x0c x3 x4 true h15 I2 I5 K) ((0≤x4)∧(x4<x0n)∧(ptrN x0a fun b17 o18=>ldV (HP.cell h15 b17 ((o18+Int.toNat x4*7)+3)) fun v19=>boolV v19 fun q20=>ite2 (!q20) ((0≤x3)∧(x3<x0n)∧(ptrN x0a fun b21 o22=>ldL (HP.cellN h15 b21 (o22+Int.toNat x3*7) 7) fun l23=>CF Try.prog 139 [(.agg ⟨l23⟩)] h15 fun u24 h25=>intV u24 .i64 fun i26=>(0≤x4)∧(x4<x0n)∧(ptrN x0a fun b27 o28=>ldL (HP.cellN h25 b27 (o28+Int.toNat x4*7) 7) fun l29=>CF Try.prog 139 [(.agg ⟨l29⟩)] h25 fun u30 h31=>intV u30 .i64 fun i32=>F113_j8 x0a x0n x0c x3 x4 (decide (i26 > i32)) h31 I2 I5 K))) (F113_j8 x0a x0n x0c x3 x4 false h15 I2 I5 K)))))) ((0≤x4)∧(x4<x0n)∧(ptrN x0a fun b33 o34=>ldV (HP.cell hp b33 ((o34+Int.toNat x4*7)+3)) fun v35=>boolV v35 fun q36=>ite2 (!q36) ((0≤x3)∧(x3<x0n)∧(ptrN x0a fun b37 o38=>ldL (HP.cellN hp b37 (o38+Int.toNat x3*7) 7) fun l39=>CF Try.prog 139 [(.agg ⟨l39⟩)] hp fun u40 h41=>intV u40 .i64 fun i42=>(0≤x4)∧(x4<x0n)∧(ptrN x0a fun b43 o44=>ldL (HP.cellN h41 b43 (o44+Int.toNat x4*7) 7) fun l45=>CF Try.prog 139 [(.agg ⟨l45⟩)] h41 fun u46 h47=>intV u46 .i64 fun i48=>F113_j8 x0a x0n x0c x3 x4 (decide (i42 > i48)) h47 I2 I5 K))) (F113_j8 x0a x0n x0c x3 x4 false hp I2 I5 K)))))∧((0≤x3)∧(x3<x0n)∧(ptrN x0a fun b49 o50=>ldV (HP.cell hp b49 ((o50+Int.toNat x3*7)+3)) fun v51=>boolV v51 fun q52=>ite2 (!q52) ((0≤x4)∧(x4<x0n)∧(ptrN x0a fun b53 o54=>ldL (HP.cellN hp b53 (o54+Int.toNat x4*7) 7) fun l55=>CF Try.prog 139 [(.agg ⟨l55⟩)] hp fun u56 h57=>intV u56 .i64 fun i58=>(0≤x3)∧(x3<x0n)∧(ptrN x0a fun b59 o60=>ldL (HP.cellN h57 b59 (o60+Int.toNat x3*7) 7) fun l61=>CF Try.prog 139 [(.agg ⟨l61⟩)] h57 fun u62 h63=>intV u62 .i64 fun i64=>ite2 (decide (i58 > i64)) (F113_j8 x0a x0n x0c x3 x4 true h63 I2 I5 K) ((0≤x4)∧(x4<x0n)∧(ptrN x0a fun b65 o66=>ldV (HP.cell h63 b65 ((o66+Int.toNat x4*7)+3)) fun v67=>boolV v67 fun q68=>ite2 (!q68) ((0≤x3)∧(x3<x0n)∧(ptrN x0a fun b69 o70=>ldL (HP.cellN h63 b69 (o70+Int.toNat x3*7) 7) fun l71=>(0≤x4)∧(x4<x0n)∧(ptrN x0a fun b72 o73=>ldL (HP.cellN h63 b72 (o73+Int.toNat x4*7) 7) fun l74=>CF Try.prog 139 [(.agg ⟨l71⟩)] h63 fun u75 h76=>intV u75 .i64 fun i77=>CF Try.prog 139 [(.agg ⟨l74⟩)] h76 fun u78 h79=>intV u78 .i64 fun i80=>F113_j8 x0a x0n x0c x3 x4 (decide (i77 > i80)) h79 I2 I5 K))) (F113_j8 x0a x0n x0c x3 x4 false h63 I2 I5 K)))))) ((0≤x4)∧(x4<x0n)∧(ptrN x0a fun b81 o82=>ldV (HP.cell hp b81 ((o82+Int.toNat x4*7)+3)) fun v83=>boolV v83 fun q84=>ite2 (!q84) ((0≤x3)∧(x3<x0n)∧(ptrN x0a fun b85 o86=>ldL (HP.cellN hp b85 (o86+Int.toNat x3*7) 7) fun l87=>(0≤x4)∧(x4<x0n)∧(ptrN x0a fun b88 o89=>ldL (HP.cellN hp b88 (o89+Int.toNat x4*7) 7) fun l90=>CF Try.prog 139 [(.agg ⟨l87⟩)] hp fun u91 h92=>intV u91 .i64 fun i93=>CF Try.prog 139 [(.agg ⟨l90⟩)] h92 fun u94 h95=>intV u94 .i64 fun i96=>F113_j8 x0a x0n x0c x3 x4 (decide (i93 > i96)) h95 I2 I5 K))) (F113_j8 x0a x0n x0c x3 x4 false hp I2 I5 K)))))∧((0≤x3)∧(x3<x0n)∧(ptrN x0a fun b97 o98=>ldV (HP.cell hp b97 ((o98+Int.toNat x3*7)+3)) fun v99=>boolV v99 fun q100=>ite2 (!q100) ((0≤x4)∧(x4<x0n)∧(ptrN x0a fun b101 o102=>ldL (HP.cellN hp b101 (o102+Int.toNat x4*7) 7) fun l103=>(0≤x3)∧(x3<x0n)∧(ptrN x0a fun b104 o105=>ldL (HP.cellN hp b104 (o105+Int.toNat x3*7) 7) fun l106=>CF Try.prog 139 [(.agg ⟨l103⟩)] hp fun u107 h108=>intV u107 .i64 fun i109=>CF Try.prog 139 [(.agg ⟨l106⟩)] h108 fun u110 h111=>intV u110 .i64 fun i112=>ite2 (decide (i109 > i112)) (F113_j8 x0a x0n x0c x3 x4 true h111 I2 I5 K) ((0≤x4)∧(x4<x0n)∧(ptrN x0a fun b113 o114=>ldV (HP.cell h111 b113 ((o114+Int.toNat x4*7)+3)) fun v115=>boolV v115 fun q116=>ite2 (!q116) ((0≤x3)∧(x3<x0n)∧(ptrN x0a fun b117 o118=>ldL (HP.cellN h111 b117 (o118+Int.toNat x3*7) 7) fun l119=>CF Try.prog 139 [(.agg ⟨l119⟩)] h111 fun u120 h121=>intV u120 .i64 fun i122=>(0≤x4)∧(x4<x0n)∧(ptrN x0a fun b123 o124=>ldL (HP.cellN h121 b123 (o124+Int.toNat x4*7) 7) fun l125=>CF Try.prog 139 [(.agg ⟨l125⟩)] h121 fun u126 h127=>intV u126 .i64 fun i128=>F113_j8 x0a x0n x0c x3 x4 (decide (i122 > i128)) h127 I2 I5 K))) (F113_j8 x0a x0n x0c x3 x4 false h111 I2 I5 K)))))) ((0≤x4)∧(x4<x0n)∧(ptrN x0a fun b129 o130=>ldV (HP.cell hp b129 ((o130+Int.toNat x4*7)+3)) fun v131=>boolV v131 fun q132=>ite2 (!q132) ((0≤x3)∧(x3<x0n)∧(ptrN x0a fun b133 o134=>ldL (HP.cellN hp b133 (o134+Int.toNat x3*7) 7) fun l135=>CF Try.prog 139 [(.agg ⟨l135⟩)] hp fun u136 h137=>intV u136 .i64 fun i138=>(0≤x4)∧(x4<x0n)∧(ptrN x0a fun b139 o140=>ldL (HP.cellN h137 b139 (o140+Int.toNat x4*7) 7) fun l141=>CF Try.prog 139 [(.agg ⟨l141⟩)] h137 fun u142 h143=>intV u142 .i64 fun i144=>F113_j8 x0a x0n x0c x3 x4 (decide (i138 > i144)) h143 I2 I5 K))) (F113_j8 x0a x0n x0c x3 x4 false hp I2 I5 K)))))∧((0≤x3)∧(x3<x0n)∧(ptrN x0a fun b145 o146=>ldV (HP.cell hp b145 ((o146+Int.toNat x3*7)+3)) fun v147=>boolV v147 fun q148=>ite2 (!q148) ((0≤x4)∧(x4<x0n)∧(ptrN x0a fun b149 o150=>ldL (HP.cellN hp b149 (o150+Int.toNat x4*7) 7) fun l151=>(0≤x3)∧(x3<x0n)∧(ptrN x0a fun b152 o153=>ldL (HP.cellN hp b152 (o153+Int.toNat x3*7) 7) fun l154=>CF Try.prog 139 [(.agg ⟨l151⟩)] hp fun u155 h156=>intV u155 .i64 fun i157=>CF Try.prog 139 [(.agg ⟨l154⟩)] h156 fun u158 h159=>intV u158 .i64 fun i160=>ite2 (decide (i157 > i160)) (F113_j8 x0a x0n x0c x3 x4 true h159 I2 I5 K) ((0≤x4)∧(x4<x0n)∧(ptrN x0a fun b161 o162=>ldV (HP.cell h159 b161 ((o162+Int.toNat x4*7)+3)) fun v163=>boolV v163 fun q164=>ite2 (!q164) ((0≤x3)∧(x3<x0n)∧(ptrN x0a fun b165 o166=>ldL (HP.cellN h159 b165 (o166+Int.toNat x3*7) 7) fun l167=>(0≤x4)∧(x4<x0n)∧(ptrN x0a fun b168 o169=>ldL (HP.cellN h159 b168 (o169+Int.toNat x4*7) 7) fun l170=>CF Try.prog 139 [(.agg ⟨l167⟩)] h159 fun u171 h172=>intV u171 .i64 fun i173=>CF Try.prog 139 [(.agg ⟨l170⟩)] h172 fun u174 h175=>intV u174 .i64 fun i176=>F113_j8 x0a x0n x0c x3 x4 (decide (i173 > i176)) h175 I2 I5 K))) (F113_j8 x0a x0n x0c x3 x4 false h159 I2 I5 K)))))) ((0≤x4)∧(x4<x0n)∧(ptrN x0a fun b177 o178=>ldV (HP.cell hp b177 ((o178+Int.toNat x4*7)+3)) fun v179=>boolV v179 fun q180=>ite2 (!q180) ((0≤x3)∧(x3<x0n)∧(ptrN x0a fun b181 o182=>ldL (HP.cellN hp b181 (o182+Int.toNat x3*7) 7) fun l183=>(0≤x4)∧(x4<x0n)∧(ptrN x0a fun b184 o185=>ldL (HP.cellN hp b184 (o185+Int.toNat x4*7) 7) fun l186=>CF Try.prog 139 [(.agg ⟨l183⟩)] hp fun u187 h188=>intV u187 .i64 fun i189=>CF Try.prog 139 [(.agg ⟨l186⟩)] h188 fun u190 h191=>intV u190 .i64 fun i192=>F113_j8 x0a x0n x0c x3 x4 (decide (i189 > i192)) h191 I2 I5 K))) (F113_j8 x0a x0n x0c x3 x4 false hp I2 I5 K)))))))
theorem F113_r12 (h:E=upd (w2 e 4 (sI x4) 3 (sI x3)) 0 (sS x0a x0n x0c)):R113 149797 14 E V0 hp K=
    ((0≤x3)∧(x3<x0n)∧(ptrN x0a fun b1 o2=>ldV (HP.cell hp b1 ((o2+Int.toNat x3*7)+3)) fun v3=>boolV v3 fun q4=>ite2 (!q4) ((0≤x4)∧(x4<x0n)∧(ptrN x0a fun b5 o6=>ldV (HP.cell hp b5 ((o6+Int.toNat x4*7)+3)) fun v7=>boolV v7 fun q8=>K (w6 (w8 E 56 (sS x0a x0n x0c) 57 (sI x3) 58 (sQ b1 (o2+Int.toNat x3*7)) 59 (sQ b1 ((o2+Int.toNat x3*7)+3)) 60 (sB q4) 61 (sB ((!q4))) 62 (sB true) 63 (sS x0a x0n x0c)) 64 (sI x4) 65 (sQ b5 (o6+Int.toNat x4*7)) 66 (sQ b5 ((o6+Int.toNat x4*7)+3)) 67 (sB q8) 68 (sB ((!q8))) 69 (sB ((!q8)))) V0 hp)) (K (w6 (w8 E 56 (sS x0a x0n x0c) 57 (sI x3) 58 (sQ b1 (o2+Int.toNat x3*7)) 59 (sQ b1 ((o2+Int.toNat x3*7)+3)) 60 (sB q4) 61 (sB ((!q4))) 62 (sB false) 63 sU) 64 sU 65 sU 66 sU 67 sU 68 sU 69 (sB false)) V0 hp))):=by subst h; kernel_rfl
def F113_j6 (x0a:OA) (x0n x0c:Nat) (x3 x4:Int) (x55:Bool) (hp:HP) (I2 I5:(Int)→HP→Prop) (K:Kh):Prop:=
  (ite2 x55 (K (.bool false) hp) ((0≤x3)∧(x3<x0n)∧(ptrN x0a fun b193 o194=>ldV (HP.cell hp b193 ((o194+Int.toNat x3*7)+3)) fun v195=>boolV v195 fun q196=>ite2 (!q196) ((0≤x4)∧(x4<x0n)∧(ptrN x0a fun b197 o198=>ldV (HP.cell hp b197 ((o198+Int.toNat x4*7)+3)) fun v199=>boolV v199 fun q200=>F113_j7 x0a x0n x0c x3 x4 (!q200) hp I2 I5 K)) (F113_j7 x0a x0n x0c x3 x4 false hp I2 I5 K))))
theorem F113_r13 {e:Env} {x0a:OA} {x0n:Nat} {x0c:Nat} {x3:Int} {x4:Int} {hp:HP} {K:Env→PV→HP→Prop}:RW Try.prog 110 [] (opsAt Try.f113 (pth 67877)) [0,1,2,3,4,5,6,7,8,9,10,11,12,13,14,15,16,17,18,19,20,21,22,23,24,25,26,27,28,29,30,31,32,33,34,35,36,37,38,39] (w3 e 4 (sI x4) 3 (sI x3) 0 (sS x0a x0n x0c)) V0 hp K=
    ((0≤x3)∧(x3<x0n)∧(ptrN x0a fun b1 o2=>ldV (HP.cell hp b1 ((o2+Int.toNat x3*7)+2)) fun v3=>intV v3 .i64 fun i4=>(0≤x4)∧(x4<x0n)∧(ptrN x0a fun b5 o6=>ldL (HP.cellN hp b5 (o6+Int.toNat x4*7) 7) fun l7=>CF Try.prog 139 [(.agg ⟨l7⟩)] hp fun u8 h9=>intV u8 .i64 fun i10=>ite2 (decide (i4<i10)) ((0≤x4)∧(x4<x0n)∧(ptrN x0a fun b11 o12=>ldV (HP.cell h9 b11 ((o12+Int.toNat x4*7)+2)) fun v13=>intV v13 .i64 fun i14=>(0≤x3)∧(x3<x0n)∧(ptrN x0a fun b15 o16=>ldL (HP.cellN h9 b15 (o16+Int.toNat x3*7) 7) fun l17=>CF Try.prog 139 [(.agg ⟨l17⟩)] h9 fun u18 h19=>intV u18 .i64 fun i20=>ite2 (decide (i14<i20)) ((0≤x3)∧(x3<x0n)∧(ptrN x0a fun b21 o22=>ldV (HP.cell h19 b21 ((o22+Int.toNat x3*7)+4)) fun v23=>strV v23 fun s24=>ite2 (!((ByteArray.toList s24)==(ByteArray.toList (⟨#[]⟩:ByteArray)))) ((0≤x4)∧(x4<x0n)∧(ptrN x0a fun b25 o26=>ldV (HP.cell h19 b25 ((o26+Int.toNat x4*7)+4)) fun v27=>strV v27 fun s28=>K (w3 (w8 (w8 (w8 (w8 (w8 e 4 (sI x4) 3 (sI x3) 0 (sS x0a x0n x0c) 16 (sS x0a x0n x0c) 17 (sI x3) 18 (sQ b1 (o2+Int.toNat x3*7)) 19 (sQ b1 ((o2+Int.toNat x3*7)+2)) 20 (sI i4)) 21 (sS x0a x0n x0c) 22 (sI x4) 23 (sQ b5 (o6+Int.toNat x4*7)) 24 (sA l7) 25 (sI i10) 26 (sB (decide (i4<i10))) 27 (sB true) 28 (sS x0a x0n x0c)) 29 (sI x4) 30 (sQ b11 (o12+Int.toNat x4*7)) 31 (sQ b11 ((o12+Int.toNat x4*7)+2)) 32 (sI i14) 33 (sS x0a x0n x0c) 34 (sI x3) 35 (sQ b15 (o16+Int.toNat x3*7)) 36 (sA l17)) 37 (sI i20) 38 (sB (decide (i14<i20))) 39 (sB (decide (i14<i20))) 40 (sB true) 41 (sS x0a x0n x0c) 42 (sI x3) 43 (sQ b21 (o22+Int.toNat x3*7)) 44 (sQ b21 ((o22+Int.toNat x3*7)+4))) 45 (sT s24) 46 (sB ((!((ByteArray.toList s24)==(ByteArray.toList (⟨#[]⟩:ByteArray)))))) 47 (sB ((!((ByteArray.toList s24)==(ByteArray.toList (⟨#[]⟩:ByteArray)))))) 48 (sB true) 49 (sS x0a x0n x0c) 50 (sI x4) 51 (sQ b25 (o26+Int.toNat x4*7)) 52 (sQ b25 ((o26+Int.toNat x4*7)+4))) 53 (sT s28) 54 (sB ((!((ByteArray.toList s28)==(ByteArray.toList (⟨#[]⟩:ByteArray)))))) 55 (sB ((!((ByteArray.toList s28)==(ByteArray.toList (⟨#[]⟩:ByteArray))))))) V0 h19)) (K (w3 (w8 (w8 (w8 (w8 (w8 e 4 (sI x4) 3 (sI x3) 0 (sS x0a x0n x0c) 16 (sS x0a x0n x0c) 17 (sI x3) 18 (sQ b1 (o2+Int.toNat x3*7)) 19 (sQ b1 ((o2+Int.toNat x3*7)+2)) 20 (sI i4)) 21 (sS x0a x0n x0c) 22 (sI x4) 23 (sQ b5 (o6+Int.toNat x4*7)) 24 (sA l7) 25 (sI i10) 26 (sB (decide (i4<i10))) 27 (sB true) 28 (sS x0a x0n x0c)) 29 (sI x4) 30 (sQ b11 (o12+Int.toNat x4*7)) 31 (sQ b11 ((o12+Int.toNat x4*7)+2)) 32 (sI i14) 33 (sS x0a x0n x0c) 34 (sI x3) 35 (sQ b15 (o16+Int.toNat x3*7)) 36 (sA l17)) 37 (sI i20) 38 (sB (decide (i14<i20))) 39 (sB (decide (i14<i20))) 40 (sB true) 41 (sS x0a x0n x0c) 42 (sI x3) 43 (sQ b21 (o22+Int.toNat x3*7)) 44 (sQ b21 ((o22+Int.toNat x3*7)+4))) 45 (sT s24) 46 (sB ((!((ByteArray.toList s24)==(ByteArray.toList (⟨#[]⟩:ByteArray)))))) 47 (sB ((!((ByteArray.toList s24)==(ByteArray.toList (⟨#[]⟩:ByteArray)))))) 48 (sB false) 49 sU 50 sU 51 sU 52 sU) 53 sU 54 sU 55 (sB false)) V0 h19))) (K (w3 (w8 (w8 (w8 (w8 (w8 e 4 (sI x4) 3 (sI x3) 0 (sS x0a x0n x0c) 16 (sS x0a x0n x0c) 17 (sI x3) 18 (sQ b1 (o2+Int.toNat x3*7)) 19 (sQ b1 ((o2+Int.toNat x3*7)+2)) 20 (sI i4)) 21 (sS x0a x0n x0c) 22 (sI x4) 23 (sQ b5 (o6+Int.toNat x4*7)) 24 (sA l7) 25 (sI i10) 26 (sB (decide (i4<i10))) 27 (sB true) 28 (sS x0a x0n x0c)) 29 (sI x4) 30 (sQ b11 (o12+Int.toNat x4*7)) 31 (sQ b11 ((o12+Int.toNat x4*7)+2)) 32 (sI i14) 33 (sS x0a x0n x0c) 34 (sI x3) 35 (sQ b15 (o16+Int.toNat x3*7)) 36 (sA l17)) 37 (sI i20) 38 (sB (decide (i14<i20))) 39 (sB (decide (i14<i20))) 40 (sB false) 41 sU 42 sU 43 sU 44 sU) 45 sU 46 sU 47 (sB false) 48 (sB false) 49 sU 50 sU 51 sU 52 sU) 53 sU 54 sU 55 (sB false)) V0 h19)))) (K (w3 (w8 (w8 (w8 (w8 (w8 e 4 (sI x4) 3 (sI x3) 0 (sS x0a x0n x0c) 16 (sS x0a x0n x0c) 17 (sI x3) 18 (sQ b1 (o2+Int.toNat x3*7)) 19 (sQ b1 ((o2+Int.toNat x3*7)+2)) 20 (sI i4)) 21 (sS x0a x0n x0c) 22 (sI x4) 23 (sQ b5 (o6+Int.toNat x4*7)) 24 (sA l7) 25 (sI i10) 26 (sB (decide (i4<i10))) 27 (sB false) 28 sU) 29 sU 30 sU 31 sU 32 sU 33 sU 34 sU 35 sU 36 sU) 37 sU 38 sU 39 (sB false) 40 (sB false) 41 sU 42 sU 43 sU 44 sU) 45 sU 46 sU 47 (sB false) 48 (sB false) 49 sU 50 sU 51 sU 52 sU) 53 sU 54 sU 55 (sB false)) V0 h9)))):=by kernel_rfl
theorem F113_r14 {e:Env} {x0a:OA} {x0n:Nat} {x0c:Nat} {x3:Int} {x4:Int} {hp:HP} {K:Env→PV→HP→Prop}:RW Try.prog 110 [] (opsAt Try.f113 (pth 67877)) [0,1,2,3,4,5,6,7,8,9,10,11,12,13,14,15,17,18,19,20,21,16,22,23,24,25,26,27,28,29,30,31,32,33,34,35,36,37,38,39] (w3 e 4 (sI x4) 3 (sI x3) 0 (sS x0a x0n x0c)) V0 hp K=
    ((0≤x3)∧(x3<x0n)∧(ptrN x0a fun b1 o2=>ldV (HP.cell hp b1 ((o2+Int.toNat x3*7)+2)) fun v3=>intV v3 .i64 fun i4=>(0≤x4)∧(x4<x0n)∧(ptrN x0a fun b5 o6=>ldL (HP.cellN hp b5 (o6+Int.toNat x4*7) 7) fun l7=>CF Try.prog 139 [(.agg ⟨l7⟩)] hp fun u8 h9=>intV u8 .i64 fun i10=>ite2 (decide (i4<i10)) ((0≤x4)∧(x4<x0n)∧(ptrN x0a fun b11 o12=>(0≤x3)∧(x3<x0n)∧(ptrN x0a fun b13 o14=>ldL (HP.cellN h9 b13 (o14+Int.toNat x3*7) 7) fun l15=>CF Try.prog 139 [(.agg ⟨l15⟩)] h9 fun u16 h17=>intV u16 .i64 fun i18=>ldV (HP.cell h17 b11 ((o12+Int.toNat x4*7)+2)) fun v19=>intV v19 .i64 fun i20=>ite2 (decide (i20<i18)) ((0≤x3)∧(x3<x0n)∧(ptrN x0a fun b21 o22=>ldV (HP.cell h17 b21 ((o22+Int.toNat x3*7)+4)) fun v23=>strV v23 fun s24=>ite2 (!((ByteArray.toList s24)==(ByteArray.toList (⟨#[]⟩:ByteArray)))) ((0≤x4)∧(x4<x0n)∧(ptrN x0a fun b25 o26=>ldV (HP.cell h17 b25 ((o26+Int.toNat x4*7)+4)) fun v27=>strV v27 fun s28=>K (w3 (w8 (w8 (w8 (w8 (w8 e 4 (sI x4) 3 (sI x3) 0 (sS x0a x0n x0c) 16 (sS x0a x0n x0c) 17 (sI x3) 18 (sQ b1 (o2+Int.toNat x3*7)) 19 (sQ b1 ((o2+Int.toNat x3*7)+2)) 20 (sI i4)) 21 (sS x0a x0n x0c) 22 (sI x4) 23 (sQ b5 (o6+Int.toNat x4*7)) 24 (sA l7) 25 (sI i10) 26 (sB (decide (i4<i10))) 27 (sB true) 28 (sS x0a x0n x0c)) 29 (sI x4) 30 (sQ b11 (o12+Int.toNat x4*7)) 31 (sQ b11 ((o12+Int.toNat x4*7)+2)) 33 (sS x0a x0n x0c) 34 (sI x3) 35 (sQ b13 (o14+Int.toNat x3*7)) 36 (sA l15) 37 (sI i18)) 32 (sI i20) 38 (sB (decide (i20<i18))) 39 (sB (decide (i20<i18))) 40 (sB true) 41 (sS x0a x0n x0c) 42 (sI x3) 43 (sQ b21 (o22+Int.toNat x3*7)) 44 (sQ b21 ((o22+Int.toNat x3*7)+4))) 45 (sT s24) 46 (sB ((!((ByteArray.toList s24)==(ByteArray.toList (⟨#[]⟩:ByteArray)))))) 47 (sB ((!((ByteArray.toList s24)==(ByteArray.toList (⟨#[]⟩:ByteArray)))))) 48 (sB true) 49 (sS x0a x0n x0c) 50 (sI x4) 51 (sQ b25 (o26+Int.toNat x4*7)) 52 (sQ b25 ((o26+Int.toNat x4*7)+4))) 53 (sT s28) 54 (sB ((!((ByteArray.toList s28)==(ByteArray.toList (⟨#[]⟩:ByteArray)))))) 55 (sB ((!((ByteArray.toList s28)==(ByteArray.toList (⟨#[]⟩:ByteArray))))))) V0 h17)) (K (w3 (w8 (w8 (w8 (w8 (w8 e 4 (sI x4) 3 (sI x3) 0 (sS x0a x0n x0c) 16 (sS x0a x0n x0c) 17 (sI x3) 18 (sQ b1 (o2+Int.toNat x3*7)) 19 (sQ b1 ((o2+Int.toNat x3*7)+2)) 20 (sI i4)) 21 (sS x0a x0n x0c) 22 (sI x4) 23 (sQ b5 (o6+Int.toNat x4*7)) 24 (sA l7) 25 (sI i10) 26 (sB (decide (i4<i10))) 27 (sB true) 28 (sS x0a x0n x0c)) 29 (sI x4) 30 (sQ b11 (o12+Int.toNat x4*7)) 31 (sQ b11 ((o12+Int.toNat x4*7)+2)) 33 (sS x0a x0n x0c) 34 (sI x3) 35 (sQ b13 (o14+Int.toNat x3*7)) 36 (sA l15) 37 (sI i18)) 32 (sI i20) 38 (sB (decide (i20<i18))) 39 (sB (decide (i20<i18))) 40 (sB true) 41 (sS x0a x0n x0c) 42 (sI x3) 43 (sQ b21 (o22+Int.toNat x3*7)) 44 (sQ b21 ((o22+Int.toNat x3*7)+4))) 45 (sT s24) 46 (sB ((!((ByteArray.toList s24)==(ByteArray.toList (⟨#[]⟩:ByteArray)))))) 47 (sB ((!((ByteArray.toList s24)==(ByteArray.toList (⟨#[]⟩:ByteArray)))))) 48 (sB false) 49 sU 50 sU 51 sU 52 sU) 53 sU 54 sU 55 (sB false)) V0 h17))) (K (w3 (w8 (w8 (w8 (w8 (w8 e 4 (sI x4) 3 (sI x3) 0 (sS x0a x0n x0c) 16 (sS x0a x0n x0c) 17 (sI x3) 18 (sQ b1 (o2+Int.toNat x3*7)) 19 (sQ b1 ((o2+Int.toNat x3*7)+2)) 20 (sI i4)) 21 (sS x0a x0n x0c) 22 (sI x4) 23 (sQ b5 (o6+Int.toNat x4*7)) 24 (sA l7) 25 (sI i10) 26 (sB (decide (i4<i10))) 27 (sB true) 28 (sS x0a x0n x0c)) 29 (sI x4) 30 (sQ b11 (o12+Int.toNat x4*7)) 31 (sQ b11 ((o12+Int.toNat x4*7)+2)) 33 (sS x0a x0n x0c) 34 (sI x3) 35 (sQ b13 (o14+Int.toNat x3*7)) 36 (sA l15) 37 (sI i18)) 32 (sI i20) 38 (sB (decide (i20<i18))) 39 (sB (decide (i20<i18))) 40 (sB false) 41 sU 42 sU 43 sU 44 sU) 45 sU 46 sU 47 (sB false) 48 (sB false) 49 sU 50 sU 51 sU 52 sU) 53 sU 54 sU 55 (sB false)) V0 h17)))) (K (w3 (w8 (w8 (w8 (w8 (w8 e 4 (sI x4) 3 (sI x3) 0 (sS x0a x0n x0c) 16 (sS x0a x0n x0c) 17 (sI x3) 18 (sQ b1 (o2+Int.toNat x3*7)) 19 (sQ b1 ((o2+Int.toNat x3*7)+2)) 20 (sI i4)) 21 (sS x0a x0n x0c) 22 (sI x4) 23 (sQ b5 (o6+Int.toNat x4*7)) 24 (sA l7) 25 (sI i10) 26 (sB (decide (i4<i10))) 27 (sB false) 28 sU) 29 sU 30 sU 31 sU 33 sU 34 sU 35 sU 36 sU 37 sU) 32 sU 38 sU 39 (sB false) 40 (sB false) 41 sU 42 sU 43 sU 44 sU) 45 sU 46 sU 47 (sB false) 48 (sB false) 49 sU 50 sU 51 sU 52 sU) 53 sU 54 sU 55 (sB false)) V0 h9)))):=by kernel_rfl
theorem F113_r15 {e:Env} {x0a:OA} {x0n:Nat} {x0c:Nat} {x3:Int} {x4:Int} {hp:HP} {K:Env→PV→HP→Prop}:RW Try.prog 110 [] (opsAt Try.f113 (pth 67877)) [0,1,2,3,5,6,7,8,9,4,10,11,12,13,14,15,16,17,18,19,20,21,22,23,24,25,26,27,28,29,30,31,32,33,34,35,36,37,38,39] (w3 e 4 (sI x4) 3 (sI x3) 0 (sS x0a x0n x0c)) V0 hp K=
    ((0≤x3)∧(x3<x0n)∧(ptrN x0a fun b1 o2=>(0≤x4)∧(x4<x0n)∧(ptrN x0a fun b3 o4=>ldL (HP.cellN hp b3 (o4+Int.toNat x4*7) 7) fun l5=>CF Try.prog 139 [(.agg ⟨l5⟩)] hp fun u6 h7=>intV u6 .i64 fun i8=>ldV (HP.cell h7 b1 ((o2+Int.toNat x3*7)+2)) fun v9=>intV v9 .i64 fun i10=>ite2 (decide (i10<i8)) ((0≤x4)∧(x4<x0n)∧(ptrN x0a fun b11 o12=>ldV (HP.cell h7 b11 ((o12+Int.toNat x4*7)+2)) fun v13=>intV v13 .i64 fun i14=>(0≤x3)∧(x3<x0n)∧(ptrN x0a fun b15 o16=>ldL (HP.cellN h7 b15 (o16+Int.toNat x3*7) 7) fun l17=>CF Try.prog 139 [(.agg ⟨l17⟩)] h7 fun u18 h19=>intV u18 .i64 fun i20=>ite2 (decide (i14<i20)) ((0≤x3)∧(x3<x0n)∧(ptrN x0a fun b21 o22=>ldV (HP.cell h19 b21 ((o22+Int.toNat x3*7)+4)) fun v23=>strV v23 fun s24=>ite2 (!((ByteArray.toList s24)==(ByteArray.toList (⟨#[]⟩:ByteArray)))) ((0≤x4)∧(x4<x0n)∧(ptrN x0a fun b25 o26=>ldV (HP.cell h19 b25 ((o26+Int.toNat x4*7)+4)) fun v27=>strV v27 fun s28=>K (w3 (w8 (w8 (w8 (w8 (w8 e 4 (sI x4) 3 (sI x3) 0 (sS x0a x0n x0c) 16 (sS x0a x0n x0c) 17 (sI x3) 18 (sQ b1 (o2+Int.toNat x3*7)) 19 (sQ b1 ((o2+Int.toNat x3*7)+2)) 21 (sS x0a x0n x0c)) 22 (sI x4) 23 (sQ b3 (o4+Int.toNat x4*7)) 24 (sA l5) 25 (sI i8) 20 (sI i10) 26 (sB (decide (i10<i8))) 27 (sB true) 28 (sS x0a x0n x0c)) 29 (sI x4) 30 (sQ b11 (o12+Int.toNat x4*7)) 31 (sQ b11 ((o12+Int.toNat x4*7)+2)) 32 (sI i14) 33 (sS x0a x0n x0c) 34 (sI x3) 35 (sQ b15 (o16+Int.toNat x3*7)) 36 (sA l17)) 37 (sI i20) 38 (sB (decide (i14<i20))) 39 (sB (decide (i14<i20))) 40 (sB true) 41 (sS x0a x0n x0c) 42 (sI x3) 43 (sQ b21 (o22+Int.toNat x3*7)) 44 (sQ b21 ((o22+Int.toNat x3*7)+4))) 45 (sT s24) 46 (sB ((!((ByteArray.toList s24)==(ByteArray.toList (⟨#[]⟩:ByteArray)))))) 47 (sB ((!((ByteArray.toList s24)==(ByteArray.toList (⟨#[]⟩:ByteArray)))))) 48 (sB true) 49 (sS x0a x0n x0c) 50 (sI x4) 51 (sQ b25 (o26+Int.toNat x4*7)) 52 (sQ b25 ((o26+Int.toNat x4*7)+4))) 53 (sT s28) 54 (sB ((!((ByteArray.toList s28)==(ByteArray.toList (⟨#[]⟩:ByteArray)))))) 55 (sB ((!((ByteArray.toList s28)==(ByteArray.toList (⟨#[]⟩:ByteArray))))))) V0 h19)) (K (w3 (w8 (w8 (w8 (w8 (w8 e 4 (sI x4) 3 (sI x3) 0 (sS x0a x0n x0c) 16 (sS x0a x0n x0c) 17 (sI x3) 18 (sQ b1 (o2+Int.toNat x3*7)) 19 (sQ b1 ((o2+Int.toNat x3*7)+2)) 21 (sS x0a x0n x0c)) 22 (sI x4) 23 (sQ b3 (o4+Int.toNat x4*7)) 24 (sA l5) 25 (sI i8) 20 (sI i10) 26 (sB (decide (i10<i8))) 27 (sB true) 28 (sS x0a x0n x0c)) 29 (sI x4) 30 (sQ b11 (o12+Int.toNat x4*7)) 31 (sQ b11 ((o12+Int.toNat x4*7)+2)) 32 (sI i14) 33 (sS x0a x0n x0c) 34 (sI x3) 35 (sQ b15 (o16+Int.toNat x3*7)) 36 (sA l17)) 37 (sI i20) 38 (sB (decide (i14<i20))) 39 (sB (decide (i14<i20))) 40 (sB true) 41 (sS x0a x0n x0c) 42 (sI x3) 43 (sQ b21 (o22+Int.toNat x3*7)) 44 (sQ b21 ((o22+Int.toNat x3*7)+4))) 45 (sT s24) 46 (sB ((!((ByteArray.toList s24)==(ByteArray.toList (⟨#[]⟩:ByteArray)))))) 47 (sB ((!((ByteArray.toList s24)==(ByteArray.toList (⟨#[]⟩:ByteArray)))))) 48 (sB false) 49 sU 50 sU 51 sU 52 sU) 53 sU 54 sU 55 (sB false)) V0 h19))) (K (w3 (w8 (w8 (w8 (w8 (w8 e 4 (sI x4) 3 (sI x3) 0 (sS x0a x0n x0c) 16 (sS x0a x0n x0c) 17 (sI x3) 18 (sQ b1 (o2+Int.toNat x3*7)) 19 (sQ b1 ((o2+Int.toNat x3*7)+2)) 21 (sS x0a x0n x0c)) 22 (sI x4) 23 (sQ b3 (o4+Int.toNat x4*7)) 24 (sA l5) 25 (sI i8) 20 (sI i10) 26 (sB (decide (i10<i8))) 27 (sB true) 28 (sS x0a x0n x0c)) 29 (sI x4) 30 (sQ b11 (o12+Int.toNat x4*7)) 31 (sQ b11 ((o12+Int.toNat x4*7)+2)) 32 (sI i14) 33 (sS x0a x0n x0c) 34 (sI x3) 35 (sQ b15 (o16+Int.toNat x3*7)) 36 (sA l17)) 37 (sI i20) 38 (sB (decide (i14<i20))) 39 (sB (decide (i14<i20))) 40 (sB false) 41 sU 42 sU 43 sU 44 sU) 45 sU 46 sU 47 (sB false) 48 (sB false) 49 sU 50 sU 51 sU 52 sU) 53 sU 54 sU 55 (sB false)) V0 h19)))) (K (w3 (w8 (w8 (w8 (w8 (w8 e 4 (sI x4) 3 (sI x3) 0 (sS x0a x0n x0c) 16 (sS x0a x0n x0c) 17 (sI x3) 18 (sQ b1 (o2+Int.toNat x3*7)) 19 (sQ b1 ((o2+Int.toNat x3*7)+2)) 21 (sS x0a x0n x0c)) 22 (sI x4) 23 (sQ b3 (o4+Int.toNat x4*7)) 24 (sA l5) 25 (sI i8) 20 (sI i10) 26 (sB (decide (i10<i8))) 27 (sB false) 28 sU) 29 sU 30 sU 31 sU 32 sU 33 sU 34 sU 35 sU 36 sU) 37 sU 38 sU 39 (sB false) 40 (sB false) 41 sU 42 sU 43 sU 44 sU) 45 sU 46 sU 47 (sB false) 48 (sB false) 49 sU 50 sU 51 sU 52 sU) 53 sU 54 sU 55 (sB false)) V0 h7)))):=by kernel_rfl
theorem F113_r16 {e:Env} {x0a:OA} {x0n:Nat} {x0c:Nat} {x3:Int} {x4:Int} {hp:HP} {K:Env→PV→HP→Prop}:RW Try.prog 110 [] (opsAt Try.f113 (pth 67877)) [0,1,2,3,5,6,7,8,9,4,10,11,12,13,14,15,17,18,19,20,21,16,22,23,24,25,26,27,28,29,30,31,32,33,34,35,36,37,38,39] (w3 e 4 (sI x4) 3 (sI x3) 0 (sS x0a x0n x0c)) V0 hp K=
    ((0≤x3)∧(x3<x0n)∧(ptrN x0a fun b1 o2=>(0≤x4)∧(x4<x0n)∧(ptrN x0a fun b3 o4=>ldL (HP.cellN hp b3 (o4+Int.toNat x4*7) 7) fun l5=>CF Try.prog 139 [(.agg ⟨l5⟩)] hp fun u6 h7=>intV u6 .i64 fun i8=>ldV (HP.cell h7 b1 ((o2+Int.toNat x3*7)+2)) fun v9=>intV v9 .i64 fun i10=>ite2 (decide (i10<i8)) ((0≤x4)∧(x4<x0n)∧(ptrN x0a fun b11 o12=>(0≤x3)∧(x3<x0n)∧(ptrN x0a fun b13 o14=>ldL (HP.cellN h7 b13 (o14+Int.toNat x3*7) 7) fun l15=>CF Try.prog 139 [(.agg ⟨l15⟩)] h7 fun u16 h17=>intV u16 .i64 fun i18=>ldV (HP.cell h17 b11 ((o12+Int.toNat x4*7)+2)) fun v19=>intV v19 .i64 fun i20=>ite2 (decide (i20<i18)) ((0≤x3)∧(x3<x0n)∧(ptrN x0a fun b21 o22=>ldV (HP.cell h17 b21 ((o22+Int.toNat x3*7)+4)) fun v23=>strV v23 fun s24=>ite2 (!((ByteArray.toList s24)==(ByteArray.toList (⟨#[]⟩:ByteArray)))) ((0≤x4)∧(x4<x0n)∧(ptrN x0a fun b25 o26=>ldV (HP.cell h17 b25 ((o26+Int.toNat x4*7)+4)) fun v27=>strV v27 fun s28=>K (w3 (w8 (w8 (w8 (w8 (w8 e 4 (sI x4) 3 (sI x3) 0 (sS x0a x0n x0c) 16 (sS x0a x0n x0c) 17 (sI x3) 18 (sQ b1 (o2+Int.toNat x3*7)) 19 (sQ b1 ((o2+Int.toNat x3*7)+2)) 21 (sS x0a x0n x0c)) 22 (sI x4) 23 (sQ b3 (o4+Int.toNat x4*7)) 24 (sA l5) 25 (sI i8) 20 (sI i10) 26 (sB (decide (i10<i8))) 27 (sB true) 28 (sS x0a x0n x0c)) 29 (sI x4) 30 (sQ b11 (o12+Int.toNat x4*7)) 31 (sQ b11 ((o12+Int.toNat x4*7)+2)) 33 (sS x0a x0n x0c) 34 (sI x3) 35 (sQ b13 (o14+Int.toNat x3*7)) 36 (sA l15) 37 (sI i18)) 32 (sI i20) 38 (sB (decide (i20<i18))) 39 (sB (decide (i20<i18))) 40 (sB true) 41 (sS x0a x0n x0c) 42 (sI x3) 43 (sQ b21 (o22+Int.toNat x3*7)) 44 (sQ b21 ((o22+Int.toNat x3*7)+4))) 45 (sT s24) 46 (sB ((!((ByteArray.toList s24)==(ByteArray.toList (⟨#[]⟩:ByteArray)))))) 47 (sB ((!((ByteArray.toList s24)==(ByteArray.toList (⟨#[]⟩:ByteArray)))))) 48 (sB true) 49 (sS x0a x0n x0c) 50 (sI x4) 51 (sQ b25 (o26+Int.toNat x4*7)) 52 (sQ b25 ((o26+Int.toNat x4*7)+4))) 53 (sT s28) 54 (sB ((!((ByteArray.toList s28)==(ByteArray.toList (⟨#[]⟩:ByteArray)))))) 55 (sB ((!((ByteArray.toList s28)==(ByteArray.toList (⟨#[]⟩:ByteArray))))))) V0 h17)) (K (w3 (w8 (w8 (w8 (w8 (w8 e 4 (sI x4) 3 (sI x3) 0 (sS x0a x0n x0c) 16 (sS x0a x0n x0c) 17 (sI x3) 18 (sQ b1 (o2+Int.toNat x3*7)) 19 (sQ b1 ((o2+Int.toNat x3*7)+2)) 21 (sS x0a x0n x0c)) 22 (sI x4) 23 (sQ b3 (o4+Int.toNat x4*7)) 24 (sA l5) 25 (sI i8) 20 (sI i10) 26 (sB (decide (i10<i8))) 27 (sB true) 28 (sS x0a x0n x0c)) 29 (sI x4) 30 (sQ b11 (o12+Int.toNat x4*7)) 31 (sQ b11 ((o12+Int.toNat x4*7)+2)) 33 (sS x0a x0n x0c) 34 (sI x3) 35 (sQ b13 (o14+Int.toNat x3*7)) 36 (sA l15) 37 (sI i18)) 32 (sI i20) 38 (sB (decide (i20<i18))) 39 (sB (decide (i20<i18))) 40 (sB true) 41 (sS x0a x0n x0c) 42 (sI x3) 43 (sQ b21 (o22+Int.toNat x3*7)) 44 (sQ b21 ((o22+Int.toNat x3*7)+4))) 45 (sT s24) 46 (sB ((!((ByteArray.toList s24)==(ByteArray.toList (⟨#[]⟩:ByteArray)))))) 47 (sB ((!((ByteArray.toList s24)==(ByteArray.toList (⟨#[]⟩:ByteArray)))))) 48 (sB false) 49 sU 50 sU 51 sU 52 sU) 53 sU 54 sU 55 (sB false)) V0 h17))) (K (w3 (w8 (w8 (w8 (w8 (w8 e 4 (sI x4) 3 (sI x3) 0 (sS x0a x0n x0c) 16 (sS x0a x0n x0c) 17 (sI x3) 18 (sQ b1 (o2+Int.toNat x3*7)) 19 (sQ b1 ((o2+Int.toNat x3*7)+2)) 21 (sS x0a x0n x0c)) 22 (sI x4) 23 (sQ b3 (o4+Int.toNat x4*7)) 24 (sA l5) 25 (sI i8) 20 (sI i10) 26 (sB (decide (i10<i8))) 27 (sB true) 28 (sS x0a x0n x0c)) 29 (sI x4) 30 (sQ b11 (o12+Int.toNat x4*7)) 31 (sQ b11 ((o12+Int.toNat x4*7)+2)) 33 (sS x0a x0n x0c) 34 (sI x3) 35 (sQ b13 (o14+Int.toNat x3*7)) 36 (sA l15) 37 (sI i18)) 32 (sI i20) 38 (sB (decide (i20<i18))) 39 (sB (decide (i20<i18))) 40 (sB false) 41 sU 42 sU 43 sU 44 sU) 45 sU 46 sU 47 (sB false) 48 (sB false) 49 sU 50 sU 51 sU 52 sU) 53 sU 54 sU 55 (sB false)) V0 h17)))) (K (w3 (w8 (w8 (w8 (w8 (w8 e 4 (sI x4) 3 (sI x3) 0 (sS x0a x0n x0c) 16 (sS x0a x0n x0c) 17 (sI x3) 18 (sQ b1 (o2+Int.toNat x3*7)) 19 (sQ b1 ((o2+Int.toNat x3*7)+2)) 21 (sS x0a x0n x0c)) 22 (sI x4) 23 (sQ b3 (o4+Int.toNat x4*7)) 24 (sA l5) 25 (sI i8) 20 (sI i10) 26 (sB (decide (i10<i8))) 27 (sB false) 28 sU) 29 sU 30 sU 31 sU 33 sU 34 sU 35 sU 36 sU 37 sU) 32 sU 38 sU 39 (sB false) 40 (sB false) 41 sU 42 sU 43 sU 44 sU) 45 sU 46 sU 47 (sB false) 48 (sB false) 49 sU 50 sU 51 sU 52 sU) 53 sU 54 sU 55 (sB false)) V0 h7)))):=by kernel_rfl
def F113_l5 (x0a:OA) (x0n x0c:Nat) (x3:Int) (I2:(Int)→HP→Prop) (K:Kh) (I5:(Int)→HP→Prop) (x4:Int) (hp:HP):Prop:=
  (ite2 (decide (x4<x3)) (((0≤x3)∧(x3<x0n)∧(ptrN x0a fun b201 o202=>ldV (HP.cell hp b201 ((o202+Int.toNat x3*7)+2)) fun v203=>intV v203 .i64 fun i204=>(0≤x4)∧(x4<x0n)∧(ptrN x0a fun b205 o206=>ldL (HP.cellN hp b205 (o206+Int.toNat x4*7) 7) fun l207=>CF Try.prog 139 [(.agg ⟨l207⟩)] hp fun u208 h209=>intV u208 .i64 fun i210=>ite2 (decide (i204<i210)) ((0≤x4)∧(x4<x0n)∧(ptrN x0a fun b211 o212=>ldV (HP.cell h209 b211 ((o212+Int.toNat x4*7)+2)) fun v213=>intV v213 .i64 fun i214=>(0≤x3)∧(x3<x0n)∧(ptrN x0a fun b215 o216=>ldL (HP.cellN h209 b215 (o216+Int.toNat x3*7) 7) fun l217=>CF Try.prog 139 [(.agg ⟨l217⟩)] h209 fun u218 h219=>intV u218 .i64 fun i220=>ite2 (decide (i214<i220)) ((0≤x3)∧(x3<x0n)∧(ptrN x0a fun b221 o222=>ldV (HP.cell h219 b221 ((o222+Int.toNat x3*7)+4)) fun v223=>strV v223 fun s224=>ite2 (!((ByteArray.toList s224)==(ByteArray.toList (⟨#[]⟩:ByteArray)))) ((0≤x4)∧(x4<x0n)∧(ptrN x0a fun b225 o226=>ldV (HP.cell h219 b225 ((o226+Int.toNat x4*7)+4)) fun v227=>strV v227 fun s228=>F113_j6 x0a x0n x0c x3 x4 (!((ByteArray.toList s228)==(ByteArray.toList (⟨#[]⟩:ByteArray)))) h219 I2 I5 K)) (F113_j6 x0a x0n x0c x3 x4 false h219 I2 I5 K))) (F113_j6 x0a x0n x0c x3 x4 false h219 I2 I5 K)))) (F113_j6 x0a x0n x0c x3 x4 false h209 I2 I5 K))))∧((0≤x3)∧(x3<x0n)∧(ptrN x0a fun b229 o230=>ldV (HP.cell hp b229 ((o230+Int.toNat x3*7)+2)) fun v231=>intV v231 .i64 fun i232=>(0≤x4)∧(x4<x0n)∧(ptrN x0a fun b233 o234=>ldL (HP.cellN hp b233 (o234+Int.toNat x4*7) 7) fun l235=>CF Try.prog 139 [(.agg ⟨l235⟩)] hp fun u236 h237=>intV u236 .i64 fun i238=>ite2 (decide (i232<i238)) ((0≤x4)∧(x4<x0n)∧(ptrN x0a fun b239 o240=>(0≤x3)∧(x3<x0n)∧(ptrN x0a fun b241 o242=>ldL (HP.cellN h237 b241 (o242+Int.toNat x3*7) 7) fun l243=>CF Try.prog 139 [(.agg ⟨l243⟩)] h237 fun u244 h245=>intV u244 .i64 fun i246=>ldV (HP.cell h245 b239 ((o240+Int.toNat x4*7)+2)) fun v247=>intV v247 .i64 fun i248=>ite2 (decide (i248<i246)) ((0≤x3)∧(x3<x0n)∧(ptrN x0a fun b249 o250=>ldV (HP.cell h245 b249 ((o250+Int.toNat x3*7)+4)) fun v251=>strV v251 fun s252=>ite2 (!((ByteArray.toList s252)==(ByteArray.toList (⟨#[]⟩:ByteArray)))) ((0≤x4)∧(x4<x0n)∧(ptrN x0a fun b253 o254=>ldV (HP.cell h245 b253 ((o254+Int.toNat x4*7)+4)) fun v255=>strV v255 fun s256=>F113_j6 x0a x0n x0c x3 x4 (!((ByteArray.toList s256)==(ByteArray.toList (⟨#[]⟩:ByteArray)))) h245 I2 I5 K)) (F113_j6 x0a x0n x0c x3 x4 false h245 I2 I5 K))) (F113_j6 x0a x0n x0c x3 x4 false h245 I2 I5 K)))) (F113_j6 x0a x0n x0c x3 x4 false h237 I2 I5 K))))∧((0≤x3)∧(x3<x0n)∧(ptrN x0a fun b257 o258=>(0≤x4)∧(x4<x0n)∧(ptrN x0a fun b259 o260=>ldL (HP.cellN hp b259 (o260+Int.toNat x4*7) 7) fun l261=>CF Try.prog 139 [(.agg ⟨l261⟩)] hp fun u262 h263=>intV u262 .i64 fun i264=>ldV (HP.cell h263 b257 ((o258+Int.toNat x3*7)+2)) fun v265=>intV v265 .i64 fun i266=>ite2 (decide (i266<i264)) ((0≤x4)∧(x4<x0n)∧(ptrN x0a fun b267 o268=>ldV (HP.cell h263 b267 ((o268+Int.toNat x4*7)+2)) fun v269=>intV v269 .i64 fun i270=>(0≤x3)∧(x3<x0n)∧(ptrN x0a fun b271 o272=>ldL (HP.cellN h263 b271 (o272+Int.toNat x3*7) 7) fun l273=>CF Try.prog 139 [(.agg ⟨l273⟩)] h263 fun u274 h275=>intV u274 .i64 fun i276=>ite2 (decide (i270<i276)) ((0≤x3)∧(x3<x0n)∧(ptrN x0a fun b277 o278=>ldV (HP.cell h275 b277 ((o278+Int.toNat x3*7)+4)) fun v279=>strV v279 fun s280=>ite2 (!((ByteArray.toList s280)==(ByteArray.toList (⟨#[]⟩:ByteArray)))) ((0≤x4)∧(x4<x0n)∧(ptrN x0a fun b281 o282=>ldV (HP.cell h275 b281 ((o282+Int.toNat x4*7)+4)) fun v283=>strV v283 fun s284=>F113_j6 x0a x0n x0c x3 x4 (!((ByteArray.toList s284)==(ByteArray.toList (⟨#[]⟩:ByteArray)))) h275 I2 I5 K)) (F113_j6 x0a x0n x0c x3 x4 false h275 I2 I5 K))) (F113_j6 x0a x0n x0c x3 x4 false h275 I2 I5 K)))) (F113_j6 x0a x0n x0c x3 x4 false h263 I2 I5 K))))∧((0≤x3)∧(x3<x0n)∧(ptrN x0a fun b285 o286=>(0≤x4)∧(x4<x0n)∧(ptrN x0a fun b287 o288=>ldL (HP.cellN hp b287 (o288+Int.toNat x4*7) 7) fun l289=>CF Try.prog 139 [(.agg ⟨l289⟩)] hp fun u290 h291=>intV u290 .i64 fun i292=>ldV (HP.cell h291 b285 ((o286+Int.toNat x3*7)+2)) fun v293=>intV v293 .i64 fun i294=>ite2 (decide (i294<i292)) ((0≤x4)∧(x4<x0n)∧(ptrN x0a fun b295 o296=>(0≤x3)∧(x3<x0n)∧(ptrN x0a fun b297 o298=>ldL (HP.cellN h291 b297 (o298+Int.toNat x3*7) 7) fun l299=>CF Try.prog 139 [(.agg ⟨l299⟩)] h291 fun u300 h301=>intV u300 .i64 fun i302=>ldV (HP.cell h301 b295 ((o296+Int.toNat x4*7)+2)) fun v303=>intV v303 .i64 fun i304=>ite2 (decide (i304<i302)) ((0≤x3)∧(x3<x0n)∧(ptrN x0a fun b305 o306=>ldV (HP.cell h301 b305 ((o306+Int.toNat x3*7)+4)) fun v307=>strV v307 fun s308=>ite2 (!((ByteArray.toList s308)==(ByteArray.toList (⟨#[]⟩:ByteArray)))) ((0≤x4)∧(x4<x0n)∧(ptrN x0a fun b309 o310=>ldV (HP.cell h301 b309 ((o310+Int.toNat x4*7)+4)) fun v311=>strV v311 fun s312=>F113_j6 x0a x0n x0c x3 x4 (!((ByteArray.toList s312)==(ByteArray.toList (⟨#[]⟩:ByteArray)))) h301 I2 I5 K)) (F113_j6 x0a x0n x0c x3 x4 false h301 I2 I5 K))) (F113_j6 x0a x0n x0c x3 x4 false h301 I2 I5 K)))) (F113_j6 x0a x0n x0c x3 x4 false h291 I2 I5 K))))) (F113_j3 x0a x0n x0c x3 hp I2 K))
def F113_j4 (x0a:OA) (x0n x0c:Nat) (x3 x4:Int) (hp:HP) (I2:(Int)→HP→Prop) (K:Kh):Prop:=
  (LoopP (σ:=Int) (fun I s hp=>F113_l5 x0a x0n x0c x3 I2 K I s hp) x4 hp)
theorem F113_r17:R113 549 1 e V0 hp K=
 K (upd e 4 (sI 0)) V0 hp:= by kernel_rfl
theorem F113_r18:R113 11 1 e V0 hp K=
 K (upd e 2 (sB true)) V0 hp:= by kernel_rfl
def F113_l2 (x0a:OA) (x0n x0c:Nat) (K:Kh) (I2:(Int)→HP→Prop) (x3:Int) (hp:HP):Prop:=
  (ite2 (decide (x3<x0n)) (F113_j4 x0a x0n x0c x3 0 hp I2 K) (K (.bool true) hp))
def F113_j1 (x0a:OA) (x0n x0c:Nat) (x3:Int) (hp:HP) (K:Kh):Prop:=
  (LoopP (σ:=Int) (fun I s hp=>F113_l2 x0a x0n x0c  K I s hp) x3 hp)
theorem F113_r19:R113 9 1 e V0 hp K=
 K (upd e 3 (sI 0)) V0 hp:= by kernel_rfl
def F113 (x0a:OA) (x0n x0c:Nat) (hp:HP) (K:Kh):Prop:=
  (F113_j1 x0a x0n x0c 0 hp  K)
noncomputable abbrev o113 (k n:Nat):Code:=.region k (opsAt Try.f113 (pth n)) false
noncomputable def F113_code:Code:=(.seq (o113 0 2) (.seq (.seq (o113 1 9) (.block 0 (.loop (.seq (.seq (o113 2 133) (.cond (.tmp 8) .skip (.exit 0))) (.seq (.block 1 (.seq (o113 4 549) (.block 2 (.loop (.seq (.seq (o113 5 8485) (.cond (.tmp 13) .skip (.exit 2))) (.seq (.block 3 (.seq (.seq (.region 7 (opsAt Try.f113 (pth 67877)) true) (.cond (.tmp 55) (.seq (o113 8 297253) .ret) .skip)) (.seq (.seq (o113 9 149797) (.cond (.tmp 69) (.seq (o113 10 608549) .ret) .skip)) (.seq (.region 11 (opsAt Try.f113 (pth 182565)) true) (.cond (.tmp 109) (.seq (o113 12 641317) .ret) .skip))))) (o113 6 14629))))))) (o113 3 229)))))) (.seq (o113 13 11) .ret)))
theorem F113_body:Try.f113.body=some F113_code:=by kernel_rfl
theorem F113_ok (x0a:OA) (x0n x0c:Nat) (hp:HP) (K:Kh) (h:F113 x0a x0n x0c hp K):CF Try.prog 113 [(.slice x0a x0n x0c)] hp K:=by
 refine .inl ⟨by kernel_rfl,AC.intro (N:=110) Try.func113 F113_body rfl (Nat.le_of_ble_eq_true rfl) ?_⟩
 unfold F113 at h
 refine Ar F113_r0 ?_ (r1 0 Rn) (z1 Sn) Sn
 refine Aq (As (fun env pv hp=>∃ x0a x0n x0c x3,Sub (w2 E0 3 (sI x3) 0 (sS x0a x0n x0c)) env∧Sub V0 pv∧F113_j1 x0a x0n x0c x3 hp  K) ?_ ?_)
 ·refine Ag F113_r19 ?_ (r1 0 Rn) (z1 Sn) Sn
  exact ⟨_,_,_,_,(z2 Sn),Sn,h⟩
 ·rintro env pv hp ⟨x0a,x0n,x0c,x3,he,hv,h⟩
  refine Ae ?_ (r2 0 3 Rn) he hv
  unfold F113_j1 at h
  refine AWP.block (AWP.loop (σ:=Int) _ (fun s=>w2 E0 3 (sI s) 0 (sS x0a x0n x0c)) (fun s=>V0) x3 h (fun s=>r2 0 3 Rn) (z2 Sn) Sn ?_)
  intro I2 x3 hp h
  replace h:F113_l2 x0a x0n x0c  K I2 x3 hp:=h
  unfold F113_l2 at h
  refine Aq (Ar F113_r1 ?_ (r2 0 3 Rn) (z2 Sn) Sn)
  refine Ac h rfl (fun h=>?_) (fun h=>?_)
  ·refine AWP.skip (As (fun env pv hp=>∃ x3,Sub (w2 E0 3 (sI x3) 0 (sS x0a x0n x0c)) env∧Sub V0 pv∧F113_j3 x0a x0n x0c x3 hp I2 K) ?_ ?_)
   ·refine AWP.block (As (fun env pv hp=>∃ x3 x4,Sub (w3 E0 4 (sI x4) 3 (sI x3) 0 (sS x0a x0n x0c)) env∧Sub V0 pv∧F113_j4 x0a x0n x0c x3 x4 hp I2 K) ?_ ?_)
    ·refine Ag F113_r17 ?_ (r2 0 3 Rn) (z2 Sn) Sn
     exact ⟨_,_,(z3 Sn),Sn,h⟩
    ·rintro env pv hp ⟨x3,x4,he,hv,h⟩
     refine Ae ?_ (r3 0 3 4 Rn) he hv
     unfold F113_j4 at h
     refine AWP.block (AWP.loop (σ:=Int) _ (fun s=>w3 E0 4 (sI s) 3 (sI x3) 0 (sS x0a x0n x0c)) (fun s=>V0) x4 h (fun s=>r3 0 3 4 Rn) (z3 Sn) Sn ?_)
     intro I5 x4 hp h
     replace h:F113_l5 x0a x0n x0c x3 I2 K I5 x4 hp:=h
     unfold F113_l5 at h
     refine Aq (Ar F113_r3 ?_ (r3 3 4 0 Rn) (z3 Sn) Sn)
     refine Ac h rfl (fun h=>?_) (fun h=>?_)
     ·refine AWP.skip (Aq (AWP.block (Aq (As (fun env pv hp=>∃ x4 x55,Sub (w4 E0 55 (sB x55) 4 (sI x4) 3 (sI x3) 0 (sS x0a x0n x0c)) env∧Sub V0 pv∧F113_j6 x0a x0n x0c x3 x4 x55 hp I2 I5 K) ?_ ?_))))
      ·refine AWP.rgnF (cf:=[(4,9),(16,21)]) (c:=[([true,true],true,[0,1,2,3,4,5,6,7,8,9,10,11,12,13,14,15,16,17,18,19,20,21,22,23,24,25,26,27,28,29,30,31,32,33,34,35,36,37,38,39]),([true,false],true,[0,1,2,3,4,5,6,7,8,9,10,11,12,13,14,15,17,18,19,20,21,16,22,23,24,25,26,27,28,29,30,31,32,33,34,35,36,37,38,39]),([false,true],true,[0,1,2,3,5,6,7,8,9,4,10,11,12,13,14,15,16,17,18,19,20,21,22,23,24,25,26,27,28,29,30,31,32,33,34,35,36,37,38,39]),([false,false],true,[0,1,2,3,5,6,7,8,9,4,10,11,12,13,14,15,17,18,19,20,21,16,22,23,24,25,26,27,28,29,30,31,32,33,34,35,36,37,38,39])]) (by kernel_rfl) (by kernel_rfl) (by kernel_rfl) (by kernel_rfl) (allO_t (Eq.mpr F113_r13 ?_) (allO_t (Eq.mpr F113_r14 ?_) (allO_t (Eq.mpr F113_r15 ?_) (allO_t (Eq.mpr F113_r16 ?_) trivial)))) (r3 0 3 4 Rn) (z3 Sn) Sn
       ·replace h:=h.1
        refine ⟨h.1,h.2.1,mN h.2.2 (fun b201 o202 h=>mV h (fun v203 h=>mI h (fun i204 h=>⟨h.1,h.2.1,mN h.2.2 fun b205 o206 h=>mL h fun l207 h=>mC h fun u208 h209 h=>mI h fun i210 h=>?_⟩)))⟩
        refine mt h (fun h=>?_) (fun h=>?_)
        ·refine ⟨h.1,h.2.1,mN h.2.2 (fun b211 o212 h=>mV h (fun v213 h=>mI h (fun i214 h=>⟨h.1,h.2.1,mN h.2.2 fun b215 o216 h=>mL h fun l217 h=>mC h fun u218 h219 h=>mI h fun i220 h=>?_⟩)))⟩
         refine mt h (fun h=>?_) (fun h=>?_)
         ·refine ⟨h.1,h.2.1,mN h.2.2 fun b221 o222 h=>mV h fun v223 h=>ms h fun s224 h=>?_⟩
          refine mt h (fun h=>?_) (fun h=>?_)
          ·refine ⟨h.1,h.2.1,mN h.2.2 fun b225 o226 h=>mV h fun v227 h=>ms h fun s228 h=>?_⟩
           exact ⟨_,_,(z4 Sn),Sn,h⟩
          ·exact ⟨_,_,(z4 Sn),Sn,h⟩
         ·exact ⟨_,_,(z4 Sn),Sn,h⟩
        ·exact ⟨_,_,(z4 Sn),Sn,h⟩
       ·replace h:=h.2.1
        refine ⟨h.1,h.2.1,mN h.2.2 (fun b229 o230 h=>mV h (fun v231 h=>mI h (fun i232 h=>⟨h.1,h.2.1,mN h.2.2 fun b233 o234 h=>mL h fun l235 h=>mC h fun u236 h237 h=>mI h fun i238 h=>?_⟩)))⟩
        refine mt h (fun h=>?_) (fun h=>?_)
        ·refine ⟨h.1,h.2.1,mN h.2.2 (fun b239 o240 h=>⟨h.1,h.2.1,mN h.2.2 fun b241 o242 h=>mL h fun l243 h=>mC h fun u244 h245 h=>mI h fun i246 h=>mV h fun v247 h=>mI h fun i248 h=>?_⟩)⟩
         refine mt h (fun h=>?_) (fun h=>?_)
         ·refine ⟨h.1,h.2.1,mN h.2.2 fun b249 o250 h=>mV h fun v251 h=>ms h fun s252 h=>?_⟩
          refine mt h (fun h=>?_) (fun h=>?_)
          ·refine ⟨h.1,h.2.1,mN h.2.2 fun b253 o254 h=>mV h fun v255 h=>ms h fun s256 h=>?_⟩
           exact ⟨_,_,(z4 Sn),Sn,h⟩
          ·exact ⟨_,_,(z4 Sn),Sn,h⟩
         ·exact ⟨_,_,(z4 Sn),Sn,h⟩
        ·exact ⟨_,_,(z4 Sn),Sn,h⟩
       ·replace h:=h.2.2.1
        refine ⟨h.1,h.2.1,mN h.2.2 (fun b257 o258 h=>⟨h.1,h.2.1,mN h.2.2 fun b259 o260 h=>mL h fun l261 h=>mC h fun u262 h263 h=>mI h fun i264 h=>mV h fun v265 h=>mI h fun i266 h=>?_⟩)⟩
        refine mt h (fun h=>?_) (fun h=>?_)
        ·refine ⟨h.1,h.2.1,mN h.2.2 (fun b267 o268 h=>mV h (fun v269 h=>mI h (fun i270 h=>⟨h.1,h.2.1,mN h.2.2 fun b271 o272 h=>mL h fun l273 h=>mC h fun u274 h275 h=>mI h fun i276 h=>?_⟩)))⟩
         refine mt h (fun h=>?_) (fun h=>?_)
         ·refine ⟨h.1,h.2.1,mN h.2.2 fun b277 o278 h=>mV h fun v279 h=>ms h fun s280 h=>?_⟩
          refine mt h (fun h=>?_) (fun h=>?_)
          ·refine ⟨h.1,h.2.1,mN h.2.2 fun b281 o282 h=>mV h fun v283 h=>ms h fun s284 h=>?_⟩
           exact ⟨_,_,(z4 Sn),Sn,h⟩
          ·exact ⟨_,_,(z4 Sn),Sn,h⟩
         ·exact ⟨_,_,(z4 Sn),Sn,h⟩
        ·exact ⟨_,_,(z4 Sn),Sn,h⟩
       ·replace h:=h.2.2.2
        refine ⟨h.1,h.2.1,mN h.2.2 (fun b285 o286 h=>⟨h.1,h.2.1,mN h.2.2 fun b287 o288 h=>mL h fun l289 h=>mC h fun u290 h291 h=>mI h fun i292 h=>mV h fun v293 h=>mI h fun i294 h=>?_⟩)⟩
        refine mt h (fun h=>?_) (fun h=>?_)
        ·refine ⟨h.1,h.2.1,mN h.2.2 (fun b295 o296 h=>⟨h.1,h.2.1,mN h.2.2 fun b297 o298 h=>mL h fun l299 h=>mC h fun u300 h301 h=>mI h fun i302 h=>mV h fun v303 h=>mI h fun i304 h=>?_⟩)⟩
         refine mt h (fun h=>?_) (fun h=>?_)
         ·refine ⟨h.1,h.2.1,mN h.2.2 fun b305 o306 h=>mV h fun v307 h=>ms h fun s308 h=>?_⟩
          refine mt h (fun h=>?_) (fun h=>?_)
          ·refine ⟨h.1,h.2.1,mN h.2.2 fun b309 o310 h=>mV h fun v311 h=>ms h fun s312 h=>?_⟩
           exact ⟨_,_,(z4 Sn),Sn,h⟩
          ·exact ⟨_,_,(z4 Sn),Sn,h⟩
         ·exact ⟨_,_,(z4 Sn),Sn,h⟩
        ·exact ⟨_,_,(z4 Sn),Sn,h⟩
      ·rintro env pv hp ⟨x4,x55,he,hv,h⟩
       refine Ae ?_ (r4 0 3 4 55 Rn) he hv
       unfold F113_j6 at h
       refine Ac h rfl (fun h=>?_) (fun h=>?_)
       ·refine Ar F113_r4 ?_ Rn Sn Sn
        refine AWP.ret ?_
        exact h
       ·refine AWP.skip (Aq (As (fun env pv hp=>∃ x4 x69,Sub (w4 E0 69 (sB x69) 4 (sI x4) 3 (sI x3) 0 (sS x0a x0n x0c)) env∧Sub V0 pv∧F113_j7 x0a x0n x0c x3 x4 x69 hp I2 I5 K) ?_ ?_))
        ·refine Ag (F113_r12 rfl) ?_ (r3 0 3 4 Rn) (z3 Sn) Sn
         refine ⟨h.1,h.2.1,mN h.2.2 fun b193 o194 h=>mV h fun v195 h=>mB h fun q196 h=>?_⟩
         refine mt h (fun h=>?_) (fun h=>?_)
         ·refine ⟨h.1,h.2.1,mN h.2.2 fun b197 o198 h=>mV h fun v199 h=>mB h fun q200 h=>?_⟩
          exact ⟨_,_,(z4 Sn),Sn,h⟩
         ·exact ⟨_,_,(z4 Sn),Sn,h⟩
        ·rintro env pv hp ⟨x4,x69,he,hv,h⟩
         refine Ae ?_ (r4 0 3 4 69 Rn) he hv
         unfold F113_j7 at h
         refine Ac h rfl (fun h=>?_) (fun h=>?_)
         ·refine Ar F113_r5 ?_ Rn Sn Sn
          refine AWP.ret ?_
          exact h
         ·refine AWP.skip (As (fun env pv hp=>∃ x4 x109,Sub (w4 E0 109 (sB x109) 4 (sI x4) 3 (sI x3) 0 (sS x0a x0n x0c)) env∧Sub V0 pv∧F113_j8 x0a x0n x0c x3 x4 x109 hp I2 I5 K) ?_ ?_)
          ·refine AWP.rgnF (cf:=[(11,15),(31,35)]) (c:=[([true,true],true,[0,1,2,3,4,5,6,7,8,9,10,11,12,13,14,15,16,17,18,19,20,21,22,23,24,25,26,27,28,29,30,31,32,33,34,35,36,37,38,39]),([true,false],true,[0,1,2,3,4,5,6,7,8,9,10,11,12,13,14,15,16,17,18,19,20,21,22,23,24,25,26,27,28,29,30,32,33,34,35,31,36,37,38,39]),([false,true],true,[0,1,2,3,4,5,6,7,8,9,10,12,13,14,15,11,16,17,18,19,20,21,22,23,24,25,26,27,28,29,30,31,32,33,34,35,36,37,38,39]),([false,false],true,[0,1,2,3,4,5,6,7,8,9,10,12,13,14,15,11,16,17,18,19,20,21,22,23,24,25,26,27,28,29,30,32,33,34,35,31,36,37,38,39])]) (by kernel_rfl) (by kernel_rfl) (by kernel_rfl) (by kernel_rfl) (allO_t (Eq.mpr F113_r8 ?_) (allO_t (Eq.mpr F113_r9 ?_) (allO_t (Eq.mpr F113_r10 ?_) (allO_t (Eq.mpr F113_r11 ?_) trivial)))) (r3 0 3 4 Rn) (z3 Sn) Sn
           ·replace h:=h.1
            refine ⟨h.1,h.2.1,mN h.2.2 fun b1 o2 h=>mV h fun v3 h=>mB h fun q4 h=>?_⟩
            refine mt h (fun h=>?_) (fun h=>?_)
            ·refine ⟨h.1,h.2.1,mN h.2.2 (fun b5 o6 h=>mL h (fun l7 h=>mC h (fun u8 h9 h=>mI h (fun i10 h=>⟨h.1,h.2.1,mN h.2.2 fun b11 o12 h=>mL h fun l13 h=>mC h fun u14 h15 h=>mI h fun i16 h=>?_⟩))))⟩
             refine mt h (fun h=>?_) (fun h=>?_)
             ·exact ⟨_,_,(z4 Sn),Sn,h⟩
             ·refine ⟨h.1,h.2.1,mN h.2.2 fun b17 o18 h=>mV h fun v19 h=>mB h fun q20 h=>?_⟩
              refine mt h (fun h=>?_) (fun h=>?_)
              ·refine ⟨h.1,h.2.1,mN h.2.2 (fun b21 o22 h=>mL h (fun l23 h=>mC h (fun u24 h25 h=>mI h (fun i26 h=>⟨h.1,h.2.1,mN h.2.2 fun b27 o28 h=>mL h fun l29 h=>mC h fun u30 h31 h=>mI h fun i32 h=>?_⟩))))⟩
               exact ⟨_,_,(z4 Sn),Sn,h⟩
              ·exact ⟨_,_,(z4 Sn),Sn,h⟩
            ·refine ⟨h.1,h.2.1,mN h.2.2 fun b33 o34 h=>mV h fun v35 h=>mB h fun q36 h=>?_⟩
             refine mt h (fun h=>?_) (fun h=>?_)
             ·refine ⟨h.1,h.2.1,mN h.2.2 (fun b37 o38 h=>mL h (fun l39 h=>mC h (fun u40 h41 h=>mI h (fun i42 h=>⟨h.1,h.2.1,mN h.2.2 fun b43 o44 h=>mL h fun l45 h=>mC h fun u46 h47 h=>mI h fun i48 h=>?_⟩))))⟩
              exact ⟨_,_,(z4 Sn),Sn,h⟩
             ·exact ⟨_,_,(z4 Sn),Sn,h⟩
           ·replace h:=h.2.1
            refine ⟨h.1,h.2.1,mN h.2.2 fun b49 o50 h=>mV h fun v51 h=>mB h fun q52 h=>?_⟩
            refine mt h (fun h=>?_) (fun h=>?_)
            ·refine ⟨h.1,h.2.1,mN h.2.2 (fun b53 o54 h=>mL h (fun l55 h=>mC h (fun u56 h57 h=>mI h (fun i58 h=>⟨h.1,h.2.1,mN h.2.2 fun b59 o60 h=>mL h fun l61 h=>mC h fun u62 h63 h=>mI h fun i64 h=>?_⟩))))⟩
             refine mt h (fun h=>?_) (fun h=>?_)
             ·exact ⟨_,_,(z4 Sn),Sn,h⟩
             ·refine ⟨h.1,h.2.1,mN h.2.2 fun b65 o66 h=>mV h fun v67 h=>mB h fun q68 h=>?_⟩
              refine mt h (fun h=>?_) (fun h=>?_)
              ·refine ⟨h.1,h.2.1,mN h.2.2 (fun b69 o70 h=>mL h (fun l71 h=>⟨h.1,h.2.1,mN h.2.2 fun b72 o73 h=>mL h fun l74 h=>mC h fun u75 h76 h=>mI h fun i77 h=>mC h fun u78 h79 h=>mI h fun i80 h=>?_⟩))⟩
               exact ⟨_,_,(z4 Sn),Sn,h⟩
              ·exact ⟨_,_,(z4 Sn),Sn,h⟩
            ·refine ⟨h.1,h.2.1,mN h.2.2 fun b81 o82 h=>mV h fun v83 h=>mB h fun q84 h=>?_⟩
             refine mt h (fun h=>?_) (fun h=>?_)
             ·refine ⟨h.1,h.2.1,mN h.2.2 (fun b85 o86 h=>mL h (fun l87 h=>⟨h.1,h.2.1,mN h.2.2 fun b88 o89 h=>mL h fun l90 h=>mC h fun u91 h92 h=>mI h fun i93 h=>mC h fun u94 h95 h=>mI h fun i96 h=>?_⟩))⟩
              exact ⟨_,_,(z4 Sn),Sn,h⟩
             ·exact ⟨_,_,(z4 Sn),Sn,h⟩
           ·replace h:=h.2.2.1
            refine ⟨h.1,h.2.1,mN h.2.2 fun b97 o98 h=>mV h fun v99 h=>mB h fun q100 h=>?_⟩
            refine mt h (fun h=>?_) (fun h=>?_)
            ·refine ⟨h.1,h.2.1,mN h.2.2 (fun b101 o102 h=>mL h (fun l103 h=>⟨h.1,h.2.1,mN h.2.2 fun b104 o105 h=>mL h fun l106 h=>mC h fun u107 h108 h=>mI h fun i109 h=>mC h fun u110 h111 h=>mI h fun i112 h=>?_⟩))⟩
             refine mt h (fun h=>?_) (fun h=>?_)
             ·exact ⟨_,_,(z4 Sn),Sn,h⟩
             ·refine ⟨h.1,h.2.1,mN h.2.2 fun b113 o114 h=>mV h fun v115 h=>mB h fun q116 h=>?_⟩
              refine mt h (fun h=>?_) (fun h=>?_)
              ·refine ⟨h.1,h.2.1,mN h.2.2 (fun b117 o118 h=>mL h (fun l119 h=>mC h (fun u120 h121 h=>mI h (fun i122 h=>⟨h.1,h.2.1,mN h.2.2 fun b123 o124 h=>mL h fun l125 h=>mC h fun u126 h127 h=>mI h fun i128 h=>?_⟩))))⟩
               exact ⟨_,_,(z4 Sn),Sn,h⟩
              ·exact ⟨_,_,(z4 Sn),Sn,h⟩
            ·refine ⟨h.1,h.2.1,mN h.2.2 fun b129 o130 h=>mV h fun v131 h=>mB h fun q132 h=>?_⟩
             refine mt h (fun h=>?_) (fun h=>?_)
             ·refine ⟨h.1,h.2.1,mN h.2.2 (fun b133 o134 h=>mL h (fun l135 h=>mC h (fun u136 h137 h=>mI h (fun i138 h=>⟨h.1,h.2.1,mN h.2.2 fun b139 o140 h=>mL h fun l141 h=>mC h fun u142 h143 h=>mI h fun i144 h=>?_⟩))))⟩
              exact ⟨_,_,(z4 Sn),Sn,h⟩
             ·exact ⟨_,_,(z4 Sn),Sn,h⟩
           ·replace h:=h.2.2.2
            refine ⟨h.1,h.2.1,mN h.2.2 fun b145 o146 h=>mV h fun v147 h=>mB h fun q148 h=>?_⟩
            refine mt h (fun h=>?_) (fun h=>?_)
            ·refine ⟨h.1,h.2.1,mN h.2.2 (fun b149 o150 h=>mL h (fun l151 h=>⟨h.1,h.2.1,mN h.2.2 fun b152 o153 h=>mL h fun l154 h=>mC h fun u155 h156 h=>mI h fun i157 h=>mC h fun u158 h159 h=>mI h fun i160 h=>?_⟩))⟩
             refine mt h (fun h=>?_) (fun h=>?_)
             ·exact ⟨_,_,(z4 Sn),Sn,h⟩
             ·refine ⟨h.1,h.2.1,mN h.2.2 fun b161 o162 h=>mV h fun v163 h=>mB h fun q164 h=>?_⟩
              refine mt h (fun h=>?_) (fun h=>?_)
              ·refine ⟨h.1,h.2.1,mN h.2.2 (fun b165 o166 h=>mL h (fun l167 h=>⟨h.1,h.2.1,mN h.2.2 fun b168 o169 h=>mL h fun l170 h=>mC h fun u171 h172 h=>mI h fun i173 h=>mC h fun u174 h175 h=>mI h fun i176 h=>?_⟩))⟩
               exact ⟨_,_,(z4 Sn),Sn,h⟩
              ·exact ⟨_,_,(z4 Sn),Sn,h⟩
            ·refine ⟨h.1,h.2.1,mN h.2.2 fun b177 o178 h=>mV h fun v179 h=>mB h fun q180 h=>?_⟩
             refine mt h (fun h=>?_) (fun h=>?_)
             ·refine ⟨h.1,h.2.1,mN h.2.2 (fun b181 o182 h=>mL h (fun l183 h=>⟨h.1,h.2.1,mN h.2.2 fun b184 o185 h=>mL h fun l186 h=>mC h fun u187 h188 h=>mI h fun i189 h=>mC h fun u190 h191 h=>mI h fun i192 h=>?_⟩))⟩
              exact ⟨_,_,(z4 Sn),Sn,h⟩
             ·exact ⟨_,_,(z4 Sn),Sn,h⟩
          ·rintro env pv hp ⟨x4,x109,he,hv,h⟩
           refine Ae ?_ (r4 0 3 4 109 Rn) he hv
           unfold F113_j8 at h
           refine Ac h rfl (fun h=>?_) (fun h=>?_)
           ·refine Ar F113_r6 ?_ Rn Sn Sn
            refine AWP.ret ?_
            exact h
           ·refine AWP.skip (Ag F113_r7 ?_ (r3 4 0 3 Rn) (z3 Sn) Sn)
            exact ⟨_,(z3 Sn),Sn,h⟩
     ·refine AWP.exit ?_
      exact ⟨_,(z2 Sn),Sn,h⟩
   ·rintro env pv hp ⟨x3,he,hv,h⟩
    refine Ae ?_ (r2 0 3 Rn) he hv
    unfold F113_j3 at h
    refine Ag F113_r2 ?_ (r2 3 0 Rn) (z2 Sn) Sn
    exact ⟨_,(z2 Sn),Sn,h⟩
  ·refine AWP.exit ?_
   refine Ar F113_r18 ?_ Rn Sn Sn
   refine AWP.ret ?_
   exact h
end
section
variable {e E:Env} {x0a:OA} {x0n x0c:Nat} {x5 x6:Int} {x7 x8:ByteArray} {x9 x10 x11:Int} {hp:HP} {K:Env→PV→HP→Prop}
abbrev R114 (p n:Nat):=RW Try.prog 94 [] (opsAt Try.f114 (pth p)) (List.range n)
theorem F114_r0:R114 2 3 e V0 hp K=
 K (w3 e 2 (sV (.string (⟨#[]⟩:ByteArray))) 3 (sV (.string (⟨#[]⟩:ByteArray))) 4 (sB false)) V0 hp:= by kernel_rfl
theorem F114_r1:R114 5 1 e V0 hp K=
 K (upd e 5 (sI ((-1)))) V0 hp:= by kernel_rfl
theorem F114_r2:R114 39 2 (upd e 5 (sI x5)) V0 hp K=
 K (w3 e 5 (sI x5) 29 (sI x5) 30 (sB (decide (x5<0)))) V0 hp:= by kernel_rfl
theorem F114_r3:R114 151 3 e V0 hp K=
 K (w3 e 2 (sV (.string (⟨#[]⟩:ByteArray))) 3 (sV (.string (⟨#[]⟩:ByteArray))) 4 (sB false)) V0 hp:= by kernel_rfl
theorem F114_r4:R114 47 1 e V0 hp K=
 K (upd e 7 (sV (.string (⟨#[]⟩:ByteArray)))) V0 hp:= by kernel_rfl
theorem F114_r5 (h:E=upd (upd e 8 (sT x8)) 7 (sT x7)):R114 767 5 E V0 hp K=
 K (w5 E 92 (sT x7) 93 (sT x8) 2 (sT x7) 3 (sT x8) 4 (sB true)) V0 hp:= by subst h; kernel_rfl
def F114_j4 (x7 x8:ByteArray) (hp:HP) (K:Kh):Prop:=
  (K (.tuple ⟨[(.string x7),(.string x8),(.bool true)]⟩) hp)
theorem F114_r6:R114 8575 4 (w2 e 11 (sI x11) 0 (sS x0a x0n x0c)) V0 hp K=
 K (w6 e 11 (sI x11) 0 (sS x0a x0n x0c) 75 (sI x11) 76 (sS x0a x0n x0c) 77 (sI ((x0n:Nat))) 78 (sB ((decide (x11<x0n))))) V0 hp:= by kernel_rfl
theorem F114_r7:R114 14719 3 (upd e 11 (sI x11)) V0 hp K=
 K (w4 e 11 (sI x11) 79 (sI x11) 80 (sI ((wr (x11+1)))) 11 (sI ((wr (x11+1))))) V0 hp:= by kernel_rfl
def F114_j7 (x0a:OA) (x0n x0c:Nat) (x7 x8:ByteArray) (x11:Int) (hp:HP) (I6:(ByteArray × Int)→HP→Prop) (K:Kh):Prop:=
  (I6 (x8,(IntKind.wrap .i64 (x11+1))) hp)
theorem F114_r8:R114 35199 6 (w2 e 11 (sI x11) 0 (sS x0a x0n x0c)) V0 hp K=
    ((0≤x11)∧(x11<x0n)∧(ptrN x0a fun b1 o2=>ldV (HP.cell hp b1 ((o2+Int.toNat x11*7)+2)) fun v3=>intV v3 .i64 fun i4=>K (w8 e 11 (sI x11) 0 (sS x0a x0n x0c) 81 (sS x0a x0n x0c) 82 (sI x11) 83 (sQ b1 (o2+Int.toNat x11*7)) 84 (sQ b1 ((o2+Int.toNat x11*7)+2)) 85 (sI i4) 86 (sB ((i4==0)))) V0 hp)):=by kernel_rfl
theorem F114_r9:R114 84351 6 (w2 e 11 (sI x11) 0 (sS x0a x0n x0c)) V0 hp K=
    ((0≤x11)∧(x11<x0n)∧(ptrN x0a fun b1 o2=>ldV (HP.cell hp b1 ((o2+Int.toNat x11*7)+5)) fun v3=>strV v3 fun s4=>K (w8 e 11 (sI x11) 0 (sS x0a x0n x0c) 87 (sS x0a x0n x0c) 88 (sI x11) 89 (sQ b1 (o2+Int.toNat x11*7)) 90 (sQ b1 ((o2+Int.toNat x11*7)+5)) 91 (sT s4) 8 (sT s4)) V0 hp)):=by kernel_rfl
def F114_l6 (x0a:OA) (x0n x0c:Nat) (x7:ByteArray) (K:Kh) (I6:(ByteArray × Int)→HP→Prop) (x8:ByteArray) (x11:Int) (hp:HP):Prop:=
  (ite2 (decide (x11<x0n)) ((0≤x11)∧(x11<x0n)∧(ptrN x0a fun b1 o2=>ldV (HP.cell hp b1 ((o2+Int.toNat x11*7)+2)) fun v3=>intV v3 .i64 fun i4=>ite2 (i4==0) ((0≤x11)∧(x11<x0n)∧(ptrN x0a fun b5 o6=>ldV (HP.cell hp b5 ((o6+Int.toNat x11*7)+5)) fun v7=>strV v7 fun s8=>F114_j7 x0a x0n x0c x7 s8 x11 hp I6 K)) (F114_j7 x0a x0n x0c x7 x8 x11 hp I6 K))) (F114_j4 x7 x8 hp  K))
def F114_j5 (x0a:OA) (x0n x0c:Nat) (x7 x8:ByteArray) (x11:Int) (hp:HP) (K:Kh):Prop:=
  (LoopP (σ:=ByteArray × Int) (fun I s hp=>F114_l6 x0a x0n x0c x7  K I s.1 s.2 hp) (x8,x11) hp)
theorem F114_r10:R114 639 1 e V0 hp K=
 K (upd e 11 (sI 0)) V0 hp:= by kernel_rfl
def F114_j3 (x0a:OA) (x0n x0c:Nat) (x7 x8:ByteArray) (hp:HP) (K:Kh):Prop:=
  (F114_j5 x0a x0n x0c x7 x8 0 hp  K)
theorem F114_r11:R114 2111 4 (w2 e 7 (sT x7) 5 (sI x5)) V0 hp K=
 K (w6 e 7 (sT x7) 5 (sI x5) 31 (sT x7) 32 (sI ((ByteArray.size x7:Nat))) 33 (sI x5) 34 (sB ((decide (((ByteArray.size x7:Nat):Int)<x5))))) V0 hp:= by kernel_rfl
theorem F114_r12:R114 4671 3 (upd e 7 (sT x7)) V0 hp K=
 K (w4 e 7 (sT x7) 35 (sT x7) 36 (sI ((ByteArray.size x7:Nat))) 9 (sI ((ByteArray.size x7:Nat)))) V0 hp:= by kernel_rfl
theorem F114_r13:R114 23103 4 (w2 e 9 (sI x9) 7 (sT x7)) V0 hp K=
 K (w6 e 9 (sI x9) 7 (sT x7) 71 (sT x7) 72 (sI ((ByteArray.size x7:Nat))) 73 (sI x9) 74 (sB ((((ByteArray.size x7:Nat):Int)==x9)))) V0 hp:= by kernel_rfl
theorem F114_r14:R114 80447 3 e V0 hp K=
 K (w3 e 2 (sV (.string (⟨#[]⟩:ByteArray))) 3 (sV (.string (⟨#[]⟩:ByteArray))) 4 (sB false)) V0 hp:= by kernel_rfl
def F114_j9 (x0a:OA) (x0n x0c:Nat) (x5:Int) (x7 x8:ByteArray) (x9:Int) (hp:HP) (I8:(ByteArray)→HP→Prop) (K:Kh):Prop:=
  (ite2 (((ByteArray.size x7:Nat):Int)==x9) (K (.tuple ⟨[(.string (⟨#[]⟩:ByteArray)),(.string (⟨#[]⟩:ByteArray)),.bool false]⟩) hp) (I8 x7 hp))
theorem F114_r15:R114 272959 4 (w2 e 10 (sI x10) 0 (sS x0a x0n x0c)) V0 hp K=
 K (w6 e 10 (sI x10) 0 (sS x0a x0n x0c) 37 (sI x10) 38 (sS x0a x0n x0c) 39 (sI ((x0n:Nat))) 40 (sB ((decide (x10<x0n))))) V0 hp:= by kernel_rfl
theorem F114_r16:R114 469567 3 (upd e 10 (sI x10)) V0 hp K=
 K (w4 e 10 (sI x10) 41 (sI x10) 42 (sI ((wr (x10+1)))) 10 (sI ((wr (x10+1))))) V0 hp:= by kernel_rfl
def F114_j12 (x0a:OA) (x0n x0c:Nat) (x5:Int) (x7 x8:ByteArray) (x9 x10:Int) (hp:HP) (I8:(ByteArray)→HP→Prop) (I11:(ByteArray × Int)→HP→Prop) (K:Kh):Prop:=
  (I11 (x7,(IntKind.wrap .i64 (x10+1))) hp)
theorem F114_r17 (h:E=upd (w2 e 10 (sI x10) 7 (sT x7)) 0 (sS x0a x0n x0c)):R114 2697791 8 E V0 hp K=
    ((0≤x10)∧(x10<x0n)∧(ptrN x0a fun b1 o2=>ldV (HP.cell hp b1 ((o2+Int.toNat x10*7)+4)) fun v3=>strV v3 fun s4=>(ByteArray.size x7+ByteArray.size s4≤9223372036854775807)∧(K (w8 E 64 (sT x7) 65 (sS x0a x0n x0c) 66 (sI x10) 67 (sQ b1 (o2+Int.toNat x10*7)) 68 (sQ b1 ((o2+Int.toNat x10*7)+4)) 69 (sT s4) 70 (sV (.string (x7++s4))) 7 (sV (.string (x7++s4)))) V0 hp))):=by subst h; kernel_rfl
def F114_j13 (x0a:OA) (x0n x0c:Nat) (x5:Int) (x7 x8:ByteArray) (x9 x10:Int) (x63:Bool) (hp:HP) (I8:(ByteArray)→HP→Prop) (I11:(ByteArray × Int)→HP→Prop) (K:Kh):Prop:=
  (ite2 x63 ((0≤x10)∧(x10<x0n)∧(ptrN x0a fun b9 o10=>ldV (HP.cell hp b9 ((o10+Int.toNat x10*7)+4)) fun v11=>strV v11 fun s12=>(ByteArray.size x7+ByteArray.size s12≤9223372036854775807)∧(F114_j12 x0a x0n x0c x5 (x7++s12) x8 x9 x10 hp I8 I11 K))) (F114_j12 x0a x0n x0c x5 x7 x8 x9 x10 hp I8 I11 K))
theorem F114_r18 (h:E=upd (w3 e 10 (sI x10) 9 (sI x9) 7 (sT x7)) 0 (sS x0a x0n x0c)):R114 1124927 21 E V0 hp K=
    ((0≤x10)∧(x10<x0n)∧(ptrN x0a fun b1 o2=>ldV (HP.cell hp b1 ((o2+Int.toNat x10*7)+2)) fun v3=>intV v3 .i64 fun i4=>ite2 (i4==x9) ((0≤x10)∧(x10<x0n)∧(ptrN x0a fun b5 o6=>ldV (HP.cell hp b5 ((o6+Int.toNat x10*7)+4)) fun v7=>strV v7 fun s8=>ite2 (!((ByteArray.toList s8)==(ByteArray.toList (⟨#[]⟩:ByteArray)))) (K (w5 (w8 (w8 E 43 (sS x0a x0n x0c) 44 (sI x10) 45 (sQ b1 (o2+Int.toNat x10*7)) 46 (sQ b1 ((o2+Int.toNat x10*7)+2)) 47 (sI i4) 48 (sI x9) 49 (sB ((i4==x9))) 50 (sB true)) 51 (sS x0a x0n x0c) 52 (sI x10) 53 (sQ b5 (o6+Int.toNat x10*7)) 54 (sQ b5 ((o6+Int.toNat x10*7)+4)) 55 (sT s8) 56 (sB ((!((ByteArray.toList s8)==(ByteArray.toList (⟨#[]⟩:ByteArray)))))) 57 (sB ((!((ByteArray.toList s8)==(ByteArray.toList (⟨#[]⟩:ByteArray)))))) 58 (sB true)) 59 (sT x7) 60 (sI ((ByteArray.size x7:Nat))) 61 (sI x9) 62 (sB ((((ByteArray.size x7:Nat):Int)==x9))) 63 (sB ((((ByteArray.size x7:Nat):Int)==x9)))) V0 hp) (K (w5 (w8 (w8 E 43 (sS x0a x0n x0c) 44 (sI x10) 45 (sQ b1 (o2+Int.toNat x10*7)) 46 (sQ b1 ((o2+Int.toNat x10*7)+2)) 47 (sI i4) 48 (sI x9) 49 (sB ((i4==x9))) 50 (sB true)) 51 (sS x0a x0n x0c) 52 (sI x10) 53 (sQ b5 (o6+Int.toNat x10*7)) 54 (sQ b5 ((o6+Int.toNat x10*7)+4)) 55 (sT s8) 56 (sB ((!((ByteArray.toList s8)==(ByteArray.toList (⟨#[]⟩:ByteArray)))))) 57 (sB ((!((ByteArray.toList s8)==(ByteArray.toList (⟨#[]⟩:ByteArray)))))) 58 (sB false)) 59 sU 60 sU 61 sU 62 sU 63 (sB false)) V0 hp))) (K (w5 (w8 (w8 E 43 (sS x0a x0n x0c) 44 (sI x10) 45 (sQ b1 (o2+Int.toNat x10*7)) 46 (sQ b1 ((o2+Int.toNat x10*7)+2)) 47 (sI i4) 48 (sI x9) 49 (sB ((i4==x9))) 50 (sB false)) 51 sU 52 sU 53 sU 54 sU 55 sU 56 sU 57 (sB false) 58 (sB false)) 59 sU 60 sU 61 sU 62 sU 63 (sB false)) V0 hp))):=by subst h; kernel_rfl
def F114_l11 (x0a:OA) (x0n x0c:Nat) (x5:Int) (x8:ByteArray) (x9:Int) (I8:(ByteArray)→HP→Prop) (K:Kh) (I11:(ByteArray × Int)→HP→Prop) (x7:ByteArray) (x10:Int) (hp:HP):Prop:=
  (ite2 (decide (x10<x0n)) ((0≤x10)∧(x10<x0n)∧(ptrN x0a fun b13 o14=>ldV (HP.cell hp b13 ((o14+Int.toNat x10*7)+2)) fun v15=>intV v15 .i64 fun i16=>ite2 (i16==x9) ((0≤x10)∧(x10<x0n)∧(ptrN x0a fun b17 o18=>ldV (HP.cell hp b17 ((o18+Int.toNat x10*7)+4)) fun v19=>strV v19 fun s20=>ite2 (!((ByteArray.toList s20)==(ByteArray.toList (⟨#[]⟩:ByteArray)))) (F114_j13 x0a x0n x0c x5 x7 x8 x9 x10 (((ByteArray.size x7:Nat):Int)==x9) hp I8 I11 K) (F114_j13 x0a x0n x0c x5 x7 x8 x9 x10 false hp I8 I11 K))) (F114_j13 x0a x0n x0c x5 x7 x8 x9 x10 false hp I8 I11 K))) (F114_j9 x0a x0n x0c x5 x7 x8 x9 hp I8 K))
def F114_j10 (x0a:OA) (x0n x0c:Nat) (x5:Int) (x7 x8:ByteArray) (x9 x10:Int) (hp:HP) (I8:(ByteArray)→HP→Prop) (K:Kh):Prop:=
  (LoopP (σ:=ByteArray × Int) (fun I s hp=>F114_l11 x0a x0n x0c x5 x8 x9 I8 K I s.1 s.2 hp) (x7,x10) hp)
theorem F114_r19:R114 19007 1 e V0 hp K=
 K (upd e 10 (sI 0)) V0 hp:= by kernel_rfl
def F114_l8 (x0a:OA) (x0n x0c:Nat) (x5:Int) (x8:ByteArray) (K:Kh) (I8:(ByteArray)→HP→Prop) (x7:ByteArray) (hp:HP):Prop:=
  (ite2 (decide (((ByteArray.size x7:Nat):Int)<x5)) (F114_j10 x0a x0n x0c x5 x7 x8 (ByteArray.size x7:Nat) 0 hp I8 K) (F114_j3 x0a x0n x0c x7 x8 hp  K))
def F114_j2 (x0a:OA) (x0n x0c:Nat) (x5:Int) (x7 x8:ByteArray) (hp:HP) (K:Kh):Prop:=
  (LoopP (σ:=ByteArray) (fun I s hp=>F114_l8 x0a x0n x0c x5 x8  K I s hp) x7 hp)
theorem F114_r20:R114 95 1 e V0 hp K=
 K (upd e 8 (sV (.string (⟨#[]⟩:ByteArray)))) V0 hp:= by kernel_rfl
def F114_j1 (x0a:OA) (x0n x0c:Nat) (x5:Int) (hp:HP) (K:Kh):Prop:=
  (ite2 (decide (x5<0)) (K (.tuple ⟨[(.string (⟨#[]⟩:ByteArray)),(.string (⟨#[]⟩:ByteArray)),.bool false]⟩) hp) (F114_j2 x0a x0n x0c x5 (⟨#[]⟩:ByteArray) (⟨#[]⟩:ByteArray) hp  K))
theorem F114_r21:R114 267 4 (w2 e 6 (sI x6) 0 (sS x0a x0n x0c)) V0 hp K=
 K (w6 e 6 (sI x6) 0 (sS x0a x0n x0c) 12 (sI x6) 13 (sS x0a x0n x0c) 14 (sI ((x0n:Nat))) 15 (sB ((decide (x6<x0n))))) V0 hp:= by kernel_rfl
theorem F114_r22:R114 459 3 (upd e 6 (sI x6)) V0 hp K=
 K (w4 e 6 (sI x6) 16 (sI x6) 17 (sI ((wr (x6+1)))) 6 (sI ((wr (x6+1))))) V0 hp:= by kernel_rfl
def F114_j16 (x0a:OA) (x0n x0c:Nat) (x5 x6:Int) (hp:HP) (I15:(Int × Int)→HP→Prop) (K:Kh):Prop:=
  (I15 (x5,(IntKind.wrap .i64 (x6+1))) hp)
theorem F114_r23:R114 1099 6 (w2 e 6 (sI x6) 0 (sS x0a x0n x0c)) V0 hp K=
    ((0≤x6)∧(x6<x0n)∧(ptrN x0a fun b1 o2=>ldV (HP.cell hp b1 ((o2+Int.toNat x6*7)+3)) fun v3=>boolV v3 fun q4=>K (w8 e 6 (sI x6) 0 (sS x0a x0n x0c) 18 (sS x0a x0n x0c) 19 (sI x6) 20 (sQ b1 (o2+Int.toNat x6*7)) 21 (sQ b1 ((o2+Int.toNat x6*7)+3)) 22 (sB q4) 23 (sB ((!q4)))) V0 hp)):=by kernel_rfl
theorem F114_r24:R114 2635 6 (w2 e 6 (sI x6) 0 (sS x0a x0n x0c)) V0 hp K=
    ((0≤x6)∧(x6<x0n)∧(ptrN x0a fun b1 o2=>ldL (HP.cellN hp b1 (o2+Int.toNat x6*7) 7) fun l3=>CF Try.prog 139 [(.agg ⟨l3⟩)] hp fun u4 h5=>intV u4 .i64 fun i6=>K (w8 e 6 (sI x6) 0 (sS x0a x0n x0c) 24 (sS x0a x0n x0c) 25 (sI x6) 26 (sQ b1 (o2+Int.toNat x6*7)) 27 (sA l3) 28 (sI i6) 5 (sI i6)) V0 h5)):=by kernel_rfl
def F114_l15 (x0a:OA) (x0n x0c:Nat) (K:Kh) (I15:(Int × Int)→HP→Prop) (x5 x6:Int) (hp:HP):Prop:=
  (ite2 (decide (x6<x0n)) ((0≤x6)∧(x6<x0n)∧(ptrN x0a fun b21 o22=>ldV (HP.cell hp b21 ((o22+Int.toNat x6*7)+3)) fun v23=>boolV v23 fun q24=>ite2 (!q24) ((0≤x6)∧(x6<x0n)∧(ptrN x0a fun b25 o26=>ldL (HP.cellN hp b25 (o26+Int.toNat x6*7) 7) fun l27=>CF Try.prog 139 [(.agg ⟨l27⟩)] hp fun u28 h29=>intV u28 .i64 fun i30=>F114_j16 x0a x0n x0c i30 x6 h29 I15 K)) (F114_j16 x0a x0n x0c x5 x6 hp I15 K))) (F114_j1 x0a x0n x0c x5 hp  K))
def F114_j14 (x0a:OA) (x0n x0c:Nat) (x5 x6:Int) (hp:HP) (K:Kh):Prop:=
  (LoopP (σ:=Int × Int) (fun I s hp=>F114_l15 x0a x0n x0c  K I s.1 s.2 hp) (x5,x6) hp)
theorem F114_r25:R114 19 1 e V0 hp K=
 K (upd e 6 (sI 0)) V0 hp:= by kernel_rfl
def F114 (x0a:OA) (x0n x0c:Nat) (hp:HP) (K:Kh):Prop:=
  (F114_j14 x0a x0n x0c (-1) 0 hp  K)
noncomputable abbrev o114 (k n:Nat):Code:=.region k (opsAt Try.f114 (pth n)) false
noncomputable def F114_code:Code:=(.seq (o114 0 2) (.seq (o114 1 5) (.seq (.seq (o114 2 19) (.block 0 (.loop (.seq (.seq (o114 3 267) (.cond (.tmp 15) .skip (.exit 0))) (.seq (.block 1 (.seq (o114 5 1099) (.cond (.tmp 23) (o114 6 2635) .skip))) (o114 4 459)))))) (.seq (.seq (o114 7 39) (.cond (.tmp 30) (.seq (o114 8 151) .ret) .skip)) (.seq (o114 9 47) (.seq (o114 10 95) (.seq (.block 2 (.loop (.seq (.seq (o114 11 2111) (.cond (.tmp 34) .skip (.exit 2))) (.block 3 (.seq (o114 12 4671) (.seq (.seq (o114 13 19007) (.block 4 (.loop (.seq (.seq (o114 14 272959) (.cond (.tmp 40) .skip (.exit 4))) (.seq (.block 5 (.seq (o114 16 1124927) (.cond (.tmp 63) (o114 17 2697791) .skip))) (o114 15 469567)))))) (.seq (o114 18 23103) (.cond (.tmp 74) (.seq (o114 19 80447) .ret) .skip)))))))) (.seq (.seq (o114 20 639) (.block 6 (.loop (.seq (.seq (o114 21 8575) (.cond (.tmp 78) .skip (.exit 6))) (.seq (.block 7 (.seq (o114 23 35199) (.cond (.tmp 86) (o114 24 84351) .skip))) (o114 22 14719)))))) (.seq (o114 25 767) .ret)))))))))
theorem F114_body:Try.f114.body=some F114_code:=by kernel_rfl
theorem F114_ok (x0a:OA) (x0n x0c:Nat) (hp:HP) (K:Kh) (h:F114 x0a x0n x0c hp K):CF Try.prog 114 [(.slice x0a x0n x0c)] hp K:=by
 refine .inl ⟨by kernel_rfl,AC.intro (N:=94) Try.func114 F114_body rfl (Nat.le_of_ble_eq_true rfl) ?_⟩
 unfold F114 at h
 refine Ar F114_r0 ?_ (r1 0 Rn) (z1 Sn) Sn
 refine Ar F114_r1 ?_ (r1 0 Rn) (z1 Sn) Sn
 refine As (fun env pv hp=>∃ x0a x0n x0c x5,Sub (w2 E0 5 (sI x5) 0 (sS x0a x0n x0c)) env∧Sub V0 pv∧F114_j1 x0a x0n x0c x5 hp  K) ?_ ?_
 ·refine As (fun env pv hp=>∃ x0a x0n x0c x5 x6,Sub (w3 E0 6 (sI x6) 5 (sI x5) 0 (sS x0a x0n x0c)) env∧Sub V0 pv∧F114_j14 x0a x0n x0c x5 x6 hp  K) ?_ ?_
  ·refine Ag F114_r25 ?_ (r2 0 5 Rn) (z2 Sn) Sn
   exact ⟨_,_,_,_,_,(z3 Sn),Sn,h⟩
  ·rintro env pv hp ⟨x0a,x0n,x0c,x5,x6,he,hv,h⟩
   refine Ae ?_ (r3 0 5 6 Rn) he hv
   unfold F114_j14 at h
   refine AWP.block (AWP.loop (σ:=Int × Int) _ (fun s=>w3 E0 6 (sI (s.2)) 5 (sI (s.1)) 0 (sS x0a x0n x0c)) (fun s=>V0) (x5,x6) h (fun s=>r3 0 5 6 Rn) (z3 Sn) Sn ?_)
   intro I15 s hp h
   obtain ⟨x5,x6⟩:=s
   replace h:F114_l15 x0a x0n x0c  K I15 x5 x6 hp:=h
   unfold F114_l15 at h
   refine Aq (Ar F114_r21 ?_ (r3 0 6 5 Rn) (z3 Sn) Sn)
   refine Ac h rfl (fun h=>?_) (fun h=>?_)
   ·refine AWP.skip (As (fun env pv hp=>∃ x5 x6,Sub (w3 E0 6 (sI x6) 5 (sI x5) 0 (sS x0a x0n x0c)) env∧Sub V0 pv∧F114_j16 x0a x0n x0c x5 x6 hp I15 K) ?_ ?_)
    ·refine AWP.block (Ar F114_r23 ?_ (r3 0 6 5 Rn) (z3 Sn) Sn)
     refine ⟨h.1,h.2.1,mN h.2.2 fun b21 o22 h=>mV h fun v23 h=>mB h fun q24 h=>?_⟩
     refine Ac h rfl (fun h=>?_) (fun h=>?_)
     ·refine Ag F114_r24 ?_ (r2 0 6 Rn) (z2 Sn) Sn
      refine ⟨h.1,h.2.1,mN h.2.2 fun b25 o26 h=>mL h fun l27 h=>mC h fun u28 h29 h=>mI h fun i30 h=>?_⟩
      exact ⟨_,_,(z3 Sn),Sn,h⟩
     ·refine AWP.skip ?_
      exact ⟨_,_,(z3 Sn),Sn,h⟩
    ·rintro env pv hp ⟨x5,x6,he,hv,h⟩
     refine Ae ?_ (r3 0 5 6 Rn) he hv
     unfold F114_j16 at h
     refine Ag F114_r22 ?_ (r3 6 0 5 Rn) (z3 Sn) Sn
     exact ⟨_,(z3 Sn),Sn,h⟩
   ·refine AWP.exit ?_
    exact ⟨_,_,_,_,(z2 Sn),Sn,h⟩
 ·rintro env pv hp ⟨x0a,x0n,x0c,x5,he,hv,h⟩
  refine Ae ?_ (r2 0 5 Rn) he hv
  unfold F114_j1 at h
  refine Aq (Ar F114_r2 ?_ (r2 5 0 Rn) (z2 Sn) Sn)
  refine Ac h rfl (fun h=>?_) (fun h=>?_)
  ·refine Ar F114_r3 ?_ Rn Sn Sn
   refine AWP.ret ?_
   exact h
  ·refine AWP.skip (Ar F114_r4 ?_ (r2 0 5 Rn) (z2 Sn) Sn)
   refine As (fun env pv hp=>∃ x0a x0n x0c x5 x7 x8,Sub (w4 E0 8 (sT x8) 7 (sT x7) 5 (sI x5) 0 (sS x0a x0n x0c)) env∧Sub V0 pv∧F114_j2 x0a x0n x0c x5 x7 x8 hp  K) ?_ ?_
   ·refine Ag F114_r20 ?_ (r3 0 5 7 Rn) (z3 Sn) Sn
    exact ⟨_,_,_,_,_,_,(z4 Sn),Sn,h⟩
   ·rintro env pv hp ⟨x0a,x0n,x0c,x5,x7,x8,he,hv,h⟩
    refine Ae ?_ (r4 0 5 7 8 Rn) he hv
    unfold F114_j2 at h
    refine As (fun env pv hp=>∃ x0a x0n x0c x7 x8,Sub (w3 E0 8 (sT x8) 7 (sT x7) 0 (sS x0a x0n x0c)) env∧Sub V0 pv∧F114_j3 x0a x0n x0c x7 x8 hp  K) ?_ ?_
    ·refine AWP.block (AWP.loop (σ:=ByteArray) _ (fun s=>w4 E0 8 (sT x8) 7 (sT s) 5 (sI x5) 0 (sS x0a x0n x0c)) (fun s=>V0) x7 h (fun s=>r4 0 5 7 8 Rn) (z4 Sn) Sn ?_)
     intro I8 x7 hp h
     replace h:F114_l8 x0a x0n x0c x5 x8  K I8 x7 hp:=h
     unfold F114_l8 at h
     refine Aq (Ar F114_r11 ?_ (r4 5 7 0 8 Rn) (z4 Sn) Sn)
     refine Ac h rfl (fun h=>?_) (fun h=>?_)
     ·refine AWP.skip (AWP.block (Ar F114_r12 ?_ (r4 7 0 5 8 Rn) (z4 Sn) Sn))
      refine As (fun env pv hp=>∃ x7 x9,Sub (w5 E0 9 (sI x9) 8 (sT x8) 7 (sT x7) 5 (sI x5) 0 (sS x0a x0n x0c)) env∧Sub V0 pv∧F114_j9 x0a x0n x0c x5 x7 x8 x9 hp I8 K) ?_ ?_
      ·refine As (fun env pv hp=>∃ x7 x9 x10,Sub (w6 E0 10 (sI x10) 9 (sI x9) 8 (sT x8) 7 (sT x7) 5 (sI x5) 0 (sS x0a x0n x0c)) env∧Sub V0 pv∧F114_j10 x0a x0n x0c x5 x7 x8 x9 x10 hp I8 K) ?_ ?_
       ·refine Ag F114_r19 ?_ (r5 0 5 7 8 9 Rn) (z5 Sn) Sn
        exact ⟨_,_,_,(z6 Sn),Sn,h⟩
       ·rintro env pv hp ⟨x7,x9,x10,he,hv,h⟩
        refine Ae ?_ (r6 0 5 7 8 9 10 Rn) he hv
        unfold F114_j10 at h
        refine AWP.block (AWP.loop (σ:=ByteArray × Int) _ (fun s=>w6 E0 10 (sI (s.2)) 9 (sI x9) 8 (sT x8) 7 (sV (.string s.1)) 5 (sI x5) 0 (sS x0a x0n x0c)) (fun s=>V0) (x7,x10) h (fun s=>r6 0 5 7 8 9 10 Rn) (z6 Sn) Sn ?_)
        intro I11 s hp h
        obtain ⟨x7,x10⟩:=s
        replace h:F114_l11 x0a x0n x0c x5 x8 x9 I8 K I11 x7 x10 hp:=h
        unfold F114_l11 at h
        refine Aq (Ar F114_r15 ?_ (r6 0 10 5 7 8 9 Rn) (z6 Sn) Sn)
        refine Ac h rfl (fun h=>?_) (fun h=>?_)
        ·refine AWP.skip (As (fun env pv hp=>∃ x7 x10,Sub (w6 E0 10 (sI x10) 9 (sI x9) 8 (sT x8) 7 (sT x7) 5 (sI x5) 0 (sS x0a x0n x0c)) env∧Sub V0 pv∧F114_j12 x0a x0n x0c x5 x7 x8 x9 x10 hp I8 I11 K) ?_ ?_)
         ·refine AWP.block (As (fun env pv hp=>∃ x7 x10 x63,Sub (w7 E0 63 (sB x63) 10 (sI x10) 9 (sI x9) 8 (sT x8) 7 (sT x7) 5 (sI x5) 0 (sS x0a x0n x0c)) env∧Sub V0 pv∧F114_j13 x0a x0n x0c x5 x7 x8 x9 x10 x63 hp I8 I11 K) ?_ ?_)
          ·refine Ag (F114_r18 rfl) ?_ (r6 0 7 9 10 5 8 Rn) (z6 Sn) Sn
           refine ⟨h.1,h.2.1,mN h.2.2 fun b13 o14 h=>mV h fun v15 h=>mI h fun i16 h=>?_⟩
           refine mt h (fun h=>?_) (fun h=>?_)
           ·refine ⟨h.1,h.2.1,mN h.2.2 fun b17 o18 h=>mV h fun v19 h=>ms h fun s20 h=>?_⟩
            refine mt h (fun h=>?_) (fun h=>?_)
            ·exact ⟨_,_,_,(z7 Sn),Sn,h⟩
            ·exact ⟨_,_,_,(z7 Sn),Sn,h⟩
           ·exact ⟨_,_,_,(z7 Sn),Sn,h⟩
          ·rintro env pv hp ⟨x7,x10,x63,he,hv,h⟩
           refine Ae ?_ (r7 0 5 7 8 9 10 63 Rn) he hv
           unfold F114_j13 at h
           refine Ac h rfl (fun h=>?_) (fun h=>?_)
           ·refine Ag (F114_r17 rfl) ?_ (r6 0 7 10 5 8 9 Rn) (z6 Sn) Sn
            refine ⟨h.1,h.2.1,mN h.2.2 (fun b9 o10 h=>mV h (fun v11 h=>ms h (fun s12 h=>⟨h.1,?_⟩)))⟩
            replace h:=h.2
            exact ⟨_,_,(z6 Sn),Sn,h⟩
           ·refine AWP.skip ?_
            exact ⟨_,_,(z6 Sn),Sn,h⟩
         ·rintro env pv hp ⟨x7,x10,he,hv,h⟩
          refine Ae ?_ (r6 0 5 7 8 9 10 Rn) he hv
          unfold F114_j12 at h
          refine Ag F114_r16 ?_ (r6 10 0 5 7 8 9 Rn) (z6 Sn) Sn
          exact ⟨_,(z6 Sn),Sn,h⟩
        ·refine AWP.exit ?_
         exact ⟨_,_,(z5 Sn),Sn,h⟩
      ·rintro env pv hp ⟨x7,x9,he,hv,h⟩
       refine Ae ?_ (r5 0 5 7 8 9 Rn) he hv
       unfold F114_j9 at h
       refine Ar F114_r13 ?_ (r5 7 9 0 5 8 Rn) (z5 Sn) Sn
       refine Ac h rfl (fun h=>?_) (fun h=>?_)
       ·refine Ar F114_r14 ?_ Rn Sn Sn
        refine AWP.ret ?_
        exact h
       ·refine AWP.skip ?_
        exact ⟨_,(z4 Sn),Sn,h⟩
     ·refine AWP.exit ?_
      exact ⟨_,_,_,_,_,(z3 Sn),Sn,h⟩
    ·rintro env pv hp ⟨x0a,x0n,x0c,x7,x8,he,hv,h⟩
     refine Ae ?_ (r3 0 7 8 Rn) he hv
     unfold F114_j3 at h
     refine As (fun env pv hp=>∃ x7 x8,Sub (w2 E0 8 (sT x8) 7 (sT x7)) env∧Sub V0 pv∧F114_j4 x7 x8 hp  K) ?_ ?_
     ·refine As (fun env pv hp=>∃ x0a x0n x0c x7 x8 x11,Sub (w4 E0 11 (sI x11) 8 (sT x8) 7 (sT x7) 0 (sS x0a x0n x0c)) env∧Sub V0 pv∧F114_j5 x0a x0n x0c x7 x8 x11 hp  K) ?_ ?_
      ·refine Ag F114_r10 ?_ (r3 0 7 8 Rn) (z3 Sn) Sn
       exact ⟨_,_,_,_,_,_,(z4 Sn),Sn,h⟩
      ·rintro env pv hp ⟨x0a,x0n,x0c,x7,x8,x11,he,hv,h⟩
       refine Ae ?_ (r4 0 7 8 11 Rn) he hv
       unfold F114_j5 at h
       refine AWP.block (AWP.loop (σ:=ByteArray × Int) _ (fun s=>w4 E0 11 (sI (s.2)) 8 (sV (.string s.1)) 7 (sT x7) 0 (sS x0a x0n x0c)) (fun s=>V0) (x8,x11) h (fun s=>r4 0 7 8 11 Rn) (z4 Sn) Sn ?_)
       intro I6 s hp h
       obtain ⟨x8,x11⟩:=s
       replace h:F114_l6 x0a x0n x0c x7  K I6 x8 x11 hp:=h
       unfold F114_l6 at h
       refine Aq (Ar F114_r6 ?_ (r4 0 11 7 8 Rn) (z4 Sn) Sn)
       refine Ac h rfl (fun h=>?_) (fun h=>?_)
       ·refine AWP.skip (As (fun env pv hp=>∃ x8 x11,Sub (w4 E0 11 (sI x11) 8 (sT x8) 7 (sT x7) 0 (sS x0a x0n x0c)) env∧Sub V0 pv∧F114_j7 x0a x0n x0c x7 x8 x11 hp I6 K) ?_ ?_)
        ·refine AWP.block (Ar F114_r8 ?_ (r4 0 11 7 8 Rn) (z4 Sn) Sn)
         refine ⟨h.1,h.2.1,mN h.2.2 fun b1 o2 h=>mV h fun v3 h=>mI h fun i4 h=>?_⟩
         refine Ac h rfl (fun h=>?_) (fun h=>?_)
         ·refine Ag F114_r9 ?_ (r3 0 11 7 Rn) (z3 Sn) Sn
          refine ⟨h.1,h.2.1,mN h.2.2 fun b5 o6 h=>mV h fun v7 h=>ms h fun s8 h=>?_⟩
          exact ⟨_,_,(z4 Sn),Sn,h⟩
         ·refine AWP.skip ?_
          exact ⟨_,_,(z4 Sn),Sn,h⟩
        ·rintro env pv hp ⟨x8,x11,he,hv,h⟩
         refine Ae ?_ (r4 0 7 8 11 Rn) he hv
         unfold F114_j7 at h
         refine Ag F114_r7 ?_ (r4 11 0 7 8 Rn) (z4 Sn) Sn
         exact ⟨_,(z4 Sn),Sn,h⟩
       ·refine AWP.exit ?_
        exact ⟨_,_,(z2 Sn),Sn,h⟩
     ·rintro env pv hp ⟨x7,x8,he,hv,h⟩
      refine Ae ?_ (r2 7 8 Rn) he hv
      unfold F114_j4 at h
      refine Ar (F114_r5 rfl) ?_ (r2 7 8 Rn) (z2 Sn) Sn
      refine AWP.ret ?_
      exact h
end
end Go.Proofs
set_option linter.unusedVariables false
set_option maxRecDepth 20000
namespace Go.Proofs
open Go Go.HL
section
variable {hp:HP} {K:Value→HP→Prop} {w:Nat} {max source:Int} {L:List PD} {s:Option Addr} {n c:Nat} {l:List PD}
set_option maxHeartbeats 4000000 in
theorem C113 (hs:Shows hp s n 7 (l.flatMap pdc)) (hl:l.length=n) (hn:n≤100000) (hr:∀ x∈l,rightP x.1=true) (h:K (.bool (fitD (l.map (·.1)))) hp):CF Try.prog 113 [.slice s n c] hp K:=by
  refine F113_ok s n c hp K ?_
  unfold F113 F113_j1
  have call:∀ (x:PD) (X:Int→HP→Prop),X x.1.toW hp→CF Try.prog 139 [.agg ⟨pdc x⟩] hp fun u h=>intV u .i64 fun i=>X i h:=fun x X hx=>C139 (by rw [intV_int]; exact hx)
  have hprefix:∀ i,Oks ((l.map (·.1)).take i)→i<l.length→∀ (hi:i<l.length),(∀ k (hk:k<i),okPair l[i].1 (l[k]'(by omega)).1=true)→Oks ((l.map (·.1)).take (i+1)):=by
    intro i ho _ hi hk
    rw [List.take_succ_eq_append_getElem (by simpa using hi)]
    unfold Oks at *
    rw [List.pairwise_append]
    refine ⟨ho,by simp,fun a ha b hb=>?_⟩
    rw [List.mem_singleton.1 hb]
    obtain ⟨k,hk1,rfl⟩:=List.getElem_of_mem ha
    rw [List.length_take,List.length_map] at hk1
    simp only [List.getElem_take,List.getElem_map]
    exact hk k (by omega)
  refine LoopP.by (J:=fun r (z:Int) hp'=>hp'=hp∧∃ i:Nat,z=i∧i+r=n∧Oks ((l.map (·.1)).take i)) ?_ (n:=n) ⟨rfl,0,rfl,by omega,by unfold Oks; simp⟩
  rintro I r z hp' ⟨rfl,i,rfl,hir,hoi⟩ hgo
  unfold F113_l2
  by_cases hi:i<n
  rotate_left
  · rw [decide_eq_false (by omega:¬ ((i:Nat):Int)<((n:Nat):Int)),ite2_false]
    rw [List.take_of_length_le (by rw [List.length_map]; omega)] at hoi
    have:fitD (l.map (·.1))=true:=by unfold fitD; exact decide_eq_true hoi
    rw [this] at h; exact h
  rw [decide_eq_true (by omega:((i:Nat):Int)<((n:Nat):Int)),ite2_true]
  have hil:i<l.length:=by omega
  unfold F113_j4
  refine LoopP.by (J:=fun r2 (z:Int) hp2=>hp2=hp'∧∃ k:Nat,z=k∧k+r2=i∧∀ k' (hk:k'<k),∀ (hk2:k'<l.length),okPair l[i].1 l[k'].1=true) ?_ (n:=i) ⟨rfl,0,rfl,by omega,fun k' hk=>absurd hk (by omega)⟩
  rintro I2 r2 z2 hp2 ⟨rfl,k,rfl,hkr,hoks⟩ hgo2
  unfold F113_l5
  have w1:IntKind.wrap .i64 ((i:Int)+1)=((i+1:Nat):Int):=wiN (by omega) (by omega)
  have w2:IntKind.wrap .i64 ((k:Int)+1)=((k+1:Nat):Int):=wiN (by omega) (by omega)
  by_cases hk:k<i
  rotate_left
  · rw [decide_eq_false (by omega:¬ ((k:Nat):Int)<((i:Nat):Int)),ite2_false]
    unfold F113_j3
    rw [w1]
    exact hgo (r-1) _ _ (by omega) ⟨rfl,i+1,rfl,by omega,hprefix i hoi hil hil fun k' hk'=>hoks k' (by omega) (by omega)⟩
  rw [decide_eq_true (by omega:((k:Nat):Int)<((i:Nat):Int)),ite2_true]
  have hkl:k<l.length:=by omega
  obtain ⟨b,o,hao,hgi⟩:=hs.get pdc_len hl hi
  obtain ⟨b',o',hao',hgk⟩:=hs.get pdc_len hl (show k<n by omega)
  rw [hao] at hao'
  cases hao'
  have rx:=hr _ (List.getElem_mem hil)
  have ry:=hr _ (List.getElem_mem hkl)
  obtain ⟨x1,_,_,_⟩:=right_to rx
  obtain ⟨y1,_,_,_⟩:=right_to ry
  have gi2:hp2.cell b (o+i*7+2)=some (.int .i64 l[i].1.at_):=HP.cell_cellN (j:=2) hgi rfl
  have gi3:hp2.cell b (o+i*7+3)=some (.bool l[i].1.more):=HP.cell_cellN (j:=3) hgi rfl
  have gi4:hp2.cell b (o+i*7+4)=some (.string l[i].1.data):=HP.cell_cellN (j:=4) hgi rfl
  have gk2:hp2.cell b (o+k*7+2)=some (.int .i64 l[k].1.at_):=HP.cell_cellN (j:=2) hgk rfl
  have gk3:hp2.cell b (o+k*7+3)=some (.bool l[k].1.more):=HP.cell_cellN (j:=3) hgk rfl
  have gk4:hp2.cell b (o+k*7+4)=some (.string l[k].1.data):=HP.cell_cellN (j:=4) hgk rfl
  have no:okPair l[i].1 l[k].1=false→K (.bool false) hp2:=fun e=>by
    have:fitD (l.map (·.1))=false:=by
      unfold fitD
      refine decide_eq_false fun ho=>?_
      unfold Oks at ho
      have:=List.pairwise_iff_getElem.1 ho k i (by simpa using hkl) (by simpa using hil) hk
      simp only [List.getElem_map] at this
      rw [e] at this; cases this
    rw [this] at h; exact h
  have yes:okPair l[i].1 l[k].1=true→I2 ((k+1:Nat):Int) hp2:=fun e=>by
    refine hgo2 (r2-1) _ _ (by omega) ⟨rfl,k+1,rfl,by omega,fun k' hk' hk2=>?_⟩
    by_cases hkk:k'=k
    · subst hkk; exact e
    · exact hoks k' (by omega) hk2
  have ei:0≤((i:Nat):Int)∧((i:Nat):Int)<((n:Nat):Int):=by omega
  have ek:0≤((k:Nat):Int)∧((k:Nat):Int)<((n:Nat):Int):=by omega
  generalize l[i]=x at *
  generalize l[k]=y at *
  clear hgo hgo2 hoks hprefix hoi hr hs h
  have eight:∀ q:Bool,(q=false→okPair x.1 y.1=true)→(q=true→okPair x.1 y.1=false)→F113_j8 (some ⟨b,o,none⟩) n c i k q hp2 I I2 K:=by
    intro q h1 h2
    unfold F113_j8
    rw [w2]
    cases q
    · rw [ite2_false]; exact yes (h1 rfl)
    · rw [ite2_true]; exact no (h2 rfl)
  have okq:okPair x.1 y.1=(!(decide (x.1.at_<y.1.toW)&&decide (y.1.at_<x.1.toW)&&!decide (x.1.data=e0s)&&!decide (y.1.data=e0s))&&(x.1.more||y.1.more)&&!(!x.1.more&&decide (y.1.toW > x.1.toW))&&!(!y.1.more&&decide (x.1.toW > y.1.toW))):=by
    rw [x1,y1]; rfl
  have ee:(⟨#[]⟩:ByteArray)=e0s:=rfl
  have seven : (decide (x.1.at_<y.1.toW)&&decide (y.1.at_<x.1.toW)&&!decide (x.1.data=e0s)&&!decide (y.1.data=e0s))=false→∀ q:Bool,q=(!x.1.more&&!y.1.more)→F113_j7 (some ⟨b,o,none⟩) n c i k q hp2 I I2 K:=by
    intro h1 q hq
    rw [h1] at okq
    subst hq
    unfold F113_j7
    cases hxm:x.1.more <;> cases hym:y.1.more <;> cases hA:decide (y.1.toW > x.1.toW) <;> cases hB:decide (x.1.toW > y.1.toW)
    all_goals
      rw [hxm,hym,hA,hB] at okq
      first
        | (show ite2 true _ _; rw [ite2_true]; exact no okq)
        | (show ite2 false _ _
           rw [ite2_false]
           repeat' apply And.intro
           all_goals first
             | omega
             | (repeat (first | (refine call _ _ ?_) | (refine ⟨by omega,by omega,?_⟩) | (simp only [ptrN_some,Int.toNat_natCast,hgi,hgk,gi3,gk3,ldV_some,ldL_some,boolV_bool,intV_int,hxm,hym,hA,hB,Bool.not_true,Bool.not_false,ite2_true,ite2_false]))
                exact eight _ (fun e=>by first | exact okq | cases e) (fun e=>by first | exact okq | cases e)))
  have six:∀ q:Bool,q=(decide (x.1.at_<y.1.toW)&&decide (y.1.at_<x.1.toW)&&!decide (x.1.data=e0s)&&!decide (y.1.data=e0s))→F113_j6 (some ⟨b,o,none⟩) n c i k q hp2 I I2 K:=by
    intro q hq
    unfold F113_j6
    cases q
    · rw [ite2_false]
      simp only [ptrN_some,Int.toNat_natCast,gi3,ldV_some,boolV_bool]
      refine ⟨by omega,by omega,?_⟩
      cases hxm:x.1.more
      · rw [Bool.not_false,ite2_true]
        simp only [ptrN_some,Int.toNat_natCast,gk3,ldV_some,boolV_bool]
        exact ⟨by omega,by omega,seven hq.symm _ (by rw [hxm]; rfl)⟩
      · rw [Bool.not_true,ite2_false]
        exact seven hq.symm _ (by rw [hxm]; rfl)
    · rw [ite2_true]
      rw [← hq] at okq
      exact no okq
  rw [hao]
  cases hA:decide (x.1.at_<y.1.toW) <;> cases hB:decide (y.1.at_<x.1.toW) <;> cases hC:decide (x.1.data=e0s) <;> cases hD:decide (y.1.data=e0s)
  all_goals
    rw [hA,hB,hC,hD] at six
    repeat' apply And.intro
    all_goals first
      | omega
      | (repeat (first | exact six _ rfl | (refine call _ _ ?_) | (refine ⟨by omega,by omega,?_⟩) | (simp only [ptrN_some,Int.toNat_natCast,hgi,hgk,gi2,gk2,gi4,gk4,ldV_some,ldL_some,strV_string,intV_int,str_eq,ee,hA,hB,hC,hD,Bool.not_true,Bool.not_false,ite2_true,ite2_false])))
theorem scan_size {a:Int}:∀ {l:List Pc} {d:ByteArray},d.size≤(scanD a l d).size
  | [],d=>Nat.le_refl _
  | x::l,d=>by
    rw [scanD]
    split
    · refine Nat.le_trans ?_ scan_size
      rw [ByteArray.size_append]; omega
    · exact scan_size
theorem lastD_le {l:List Pc} (hr:∀ x∈l,rightP x=true):lastD l≤65535:=by
  unfold lastD
  have:∀ (l:List Pc) (a:Int),(∀ x∈l,rightP x=true)→a≤65535→l.foldl (fun a x=>if x.more then a else x.to) a≤65535:=by
    intro l
    induction l with
    | nil=>intro a _ h; exact h
    | cons x l ih=>
      intro a hr h
      rw [List.foldl_cons]
      refine ih _ (fun y hy=>hr y (by simp [hy])) ?_
      split
      · exact h
      · obtain ⟨_,_,_,h4,_⟩:=rightP_iff.1 (hr x (by simp))
        exact h4
  exact this l (-1) hr (by omega)
set_option maxHeartbeats 2000000 in
theorem C114 (hs:Shows hp s n 7 (l.flatMap pdc)) (hl:l.length=n) (hn:n≤100000) (hr:∀ x∈l,rightP x.1=true)
    (hno:joinD (l.map (·.1))=none→K (.tuple ⟨[.string e0s,.string e0s,.bool false]⟩) hp)
    (hyes:∀ d,joinD (l.map (·.1))=some d→K (.tuple ⟨[.string d,.string (headD (l.map (·.1))),.bool true]⟩) hp):CF Try.prog 114 [.slice s n c] hp K:=by
  refine F114_ok s n c hp K ?_
  unfold F114 F114_j14
  have hrm:∀ x∈l.map (·.1),rightP x=true:=fun x hx=>by
    obtain ⟨y,hy,rfl⟩:=List.mem_map.1 hx; exact hr y hy
  have ee:(⟨#[]⟩:ByteArray)=e0s:=rfl
  have w1:∀ i:Nat,i<n→IntKind.wrap .i64 ((i:Int)+1)=((i+1:Nat):Int):=fun i hi=>wiN (by omega) (by omega)
  have hmlen:(l.map (·.1)).length=n:=by rw [List.length_map]; exact hl
  have get:∀ i (hi:i<n),∃ b o,s=some ⟨b,o,none⟩∧hp.cellN b (o+i*7) 7=some (pdc (l[i]'(hl▸hi))):=fun i hi=>hs.get pdc_len hl hi
  have one:F114_j1 s n c (lastD (l.map (·.1))) hp K:=by
    unfold F114_j1
    have hle:=lastD_le hrm
    unfold joinD at hno hyes
    generalize hlast:lastD (l.map (·.1))=last at *
    by_cases h0:last<0
    · rw [decide_eq_true h0,ite2_true]
      rw [if_pos h0] at hno
      exact hno rfl
    rw [decide_eq_false h0,ite2_false]
    rw [if_neg h0] at hno hyes
    unfold F114_j2
    rw [ee]
    refine LoopP.by (J:=fun k (d:ByteArray) hp'=>hp'=hp∧last-d.size≤k∧loopD (l.map (·.1)) last k d=loopD (l.map (·.1)) last last.toNat e0s) ?_ (n:=last.toNat) ⟨rfl,by show last-((0:Nat):Int)≤_; omega,rfl⟩
    rintro I k d hp' ⟨rfl,hk,hjl⟩ hgo
    unfold F114_l8
    by_cases hd:(d.size:Int)<last
    rotate_left
    · rw [decide_eq_false hd,ite2_false]
      have hsome:loopD (l.map (·.1)) last k d=some d:=by cases k <;> simp only [loopD,hd,if_false]
      rw [hsome] at hjl
      have hK:=hyes d hjl.symm
      unfold F114_j3 F114_j5
      refine LoopP.by (J:=fun r (y:ByteArray × Int) hp2=>hp2=hp'∧∃ i:Nat,y.2=i∧i+r=n∧y.1=headD ((l.map (·.1)).take i)) ?_ (n:=n) ⟨rfl,0,rfl,by omega,rfl⟩
      rintro I2 r ⟨x8,y⟩ hp2 ⟨rfl,i,hy,hir,hx8⟩ hgo2
      simp only at hy hx8
      subst hy hx8
      unfold F114_l6
      simp only []
      by_cases hi:i<n
      rotate_left
      · rw [decide_eq_false (by omega:¬ ((i:Nat):Int)<((n:Nat):Int)),ite2_false]
        unfold F114_j4
        rw [List.take_of_length_le (by omega)]
        exact hK
      rw [decide_eq_true (by omega:((i:Nat):Int)<((n:Nat):Int)),ite2_true]
      obtain ⟨b,o,hao,hg⟩:=get i hi
      have g2:hp2.cell b (o+i*7+2)=some (.int .i64 (l[i]'(hl▸hi)).1.at_):=HP.cell_cellN (j:=2) hg rfl
      have g5:hp2.cell b (o+i*7+5)=some (.string (l[i]'(hl▸hi)).1.head):=HP.cell_cellN (j:=5) hg rfl
      have hhd:headD ((l.map (·.1)).take (i+1))=if (l[i]'(hl▸hi)).1.at_=0 then (l[i]'(hl▸hi)).1.head else headD ((l.map (·.1)).take i):=by
        unfold headD
        rw [List.take_succ_eq_append_getElem (by omega),List.foldl_append]
        simp
      simp only [hao,ptrN_some,Int.toNat_natCast,g2,g5,ldV_some,intV_int,strV_string]
      refine ⟨by omega,by omega,?_⟩
      unfold F114_j7
      rw [w1 i hi]
      by_cases ha:(l[i]'(hl▸hi)).1.at_=0
      · have e:((l[i]'(hl▸hi)).1.at_==0)=true:=by simpa using ha
        rw [e,ite2_true]
        rw [if_pos ha] at hhd
        exact ⟨by omega,by omega,hgo2 (r-1) _ _ (by omega) ⟨rfl,i+1,rfl,by omega,hhd.symm⟩⟩
      · have e:((l[i]'(hl▸hi)).1.at_==0)=false:=by simpa using ha
        rw [e,ite2_false]
        rw [if_neg ha] at hhd
        exact hgo2 (r-1) _ _ (by omega) ⟨rfl,i+1,rfl,by omega,hhd.symm⟩
    rw [decide_eq_true hd,ite2_true]
    obtain ⟨k',rfl⟩:∃ k',k=k'+1:=⟨k-1,by omega⟩
    rw [loopD,if_pos hd] at hjl
    unfold F114_j10
    refine LoopP.by (J:=fun r (y:ByteArray × Int) hp2=>hp2=hp'∧∃ i:Nat,y.2=i∧i+r=n∧y.1.size≤d.size+65535∧scanD d.size ((l.map (·.1)).drop i) y.1=scanD d.size (l.map (·.1)) d) ?_ (n:=n) ⟨rfl,0,rfl,by omega,by simp,by simp⟩
    rintro I2 r ⟨x7,y⟩ hp2 ⟨rfl,i,hy,hir,hsz,hsc⟩ hgo2
    simp only at hy hsz hsc
    subst hy
    unfold F114_l11
    simp only []
    by_cases hi:i<n
    rotate_left
    · rw [decide_eq_false (by omega:¬ ((i:Nat):Int)<((n:Nat):Int)),ite2_false]
      rw [List.drop_of_length_le (by omega),scanD] at hsc
      unfold F114_j9
      rw [← hsc] at hjl
      have hge:d.size≤x7.size:=by rw [hsc]; exact scan_size
      by_cases he:x7.size=d.size
      · have e:(((x7.size:Nat):Int)==((d.size:Nat):Int))=true:=by rw [he]; simp
        rw [e,ite2_true]
        rw [if_pos he] at hjl
        exact hno hjl.symm
      · have e:(((x7.size:Nat):Int)==((d.size:Nat):Int))=false:=by rw [beq_eq_false_iff_ne]; omega
        rw [e,ite2_false]
        rw [if_neg he] at hjl
        exact hgo k' _ _ (by omega) ⟨rfl,by omega,hjl⟩
    rw [decide_eq_true (by omega:((i:Nat):Int)<((n:Nat):Int)),ite2_true]
    obtain ⟨b,o,hao,hg⟩:=get i hi
    have g2:hp2.cell b (o+i*7+2)=some (.int .i64 (l[i]'(hl▸hi)).1.at_):=HP.cell_cellN (j:=2) hg rfl
    have g4:hp2.cell b (o+i*7+4)=some (.string (l[i]'(hl▸hi)).1.data):=HP.cell_cellN (j:=4) hg rfl
    have hri:=hr _ (List.getElem_mem (hl▸hi:i<l.length))
    have hds:(l[i]'(hl▸hi)).1.data.size≤65535:=by
      obtain ⟨h1,_,_,h4,_⟩:=rightP_iff.1 hri
      omega
    have hdrop:scanD d.size ((l.map (·.1)).drop i) x7=scanD d.size ((l.map (·.1)).drop (i+1)) (if (l[i]'(hl▸hi)).1.at_=d.size∧(l[i]'(hl▸hi)).1.data≠e0s∧(x7.size:Int)=d.size then x7++(l[i]'(hl▸hi)).1.data else x7):=by
      rw [List.drop_eq_getElem_cons (by omega),scanD]
      simp
    rw [hdrop] at hsc
    generalize l[i]'(hl▸hi)=x at *
    simp only [hao,ptrN_some,Int.toNat_natCast,g2,g4,ldV_some,intV_int,strV_string,str_eq,ee]
    refine ⟨by omega,by omega,?_⟩
    rw [← hao]
    have skip:¬ (x.1.at_=d.size∧x.1.data≠e0s∧(x7.size:Int)=d.size)→F114_j13 s n c last x7 e0s (d.size:Nat) i false hp2 I I2 K:=fun hc=>by
      unfold F114_j13 F114_j12
      rw [ite2_false,w1 i hi]
      rw [if_neg hc] at hsc
      exact hgo2 (r-1) _ _ (by omega) ⟨rfl,i+1,rfl,by omega,hsz,hsc⟩
    by_cases ha:x.1.at_=d.size
    rotate_left
    · have e:(x.1.at_==((d.size:Nat):Int))=false:=by rw [beq_eq_false_iff_ne]; exact ha
      rw [e,ite2_false]
      exact skip (fun h=>ha h.1)
    have e:(x.1.at_==((d.size:Nat):Int))=true:=by rw [beq_iff_eq]; exact ha
    rw [e,ite2_true]
    refine ⟨by omega,by omega,?_⟩
    by_cases hemp:x.1.data=e0s
    · rw [decide_eq_true hemp,Bool.not_true,ite2_false]
      exact skip (fun h=>h.2.1 hemp)
    rw [decide_eq_false hemp,Bool.not_false,ite2_true]
    by_cases heq:x7.size=d.size
    rotate_left
    · have e:(((x7.size:Nat):Int)==((d.size:Nat):Int))=false:=by rw [beq_eq_false_iff_ne]; omega
      rw [e]
      exact skip (fun h=>heq (by omega))
    have e:(((x7.size:Nat):Int)==((d.size:Nat):Int))=true:=by rw [heq]; simp
    rw [e]
    unfold F114_j13 F114_j12
    rw [ite2_true,hao]
    simp only [ptrN_some,Int.toNat_natCast,g4,ldV_some,strV_string,w1 i hi]
    rw [if_pos ⟨ha,hemp,by omega⟩] at hsc
    refine ⟨by omega,by omega,by omega,?_⟩
    exact hgo2 (r-1) _ _ (by omega) ⟨rfl,i+1,rfl,by omega,by rw [ByteArray.size_append]; omega,hsc⟩
  refine LoopP.by (J:=fun r (y:Int × Int) hp'=>hp'=hp∧∃ i:Nat,y.2=i∧i+r=n∧y.1=lastD ((l.map (·.1)).take i)) ?_ (n:=n) ⟨rfl,0,rfl,by omega,rfl⟩
  rintro I r ⟨x5,y⟩ hp' ⟨rfl,i,hy,hir,hx5⟩ hgo
  simp only at hy hx5
  subst hy hx5
  unfold F114_l15
  simp only []
  by_cases hi:i<n
  rotate_left
  · rw [decide_eq_false (by omega:¬ ((i:Nat):Int)<((n:Nat):Int)),ite2_false]
    rw [List.take_of_length_le (by omega)]
    exact one
  rw [decide_eq_true (by omega:((i:Nat):Int)<((n:Nat):Int)),ite2_true]
  obtain ⟨b,o,hao,hg⟩:=get i hi
  have g3:hp'.cell b (o+i*7+3)=some (.bool (l[i]'(hl▸hi)).1.more):=HP.cell_cellN (j:=3) hg rfl
  have hri:=hr _ (List.getElem_mem (hl▸hi:i<l.length))
  have htw:=(right_to hri).1
  have hhd:lastD ((l.map (·.1)).take (i+1))=if (l[i]'(hl▸hi)).1.more=true then lastD ((l.map (·.1)).take i) else (l[i]'(hl▸hi)).1.to:=by
    unfold lastD
    rw [List.take_succ_eq_append_getElem (by omega),List.foldl_append]
    simp
  generalize l[i]'(hl▸hi)=x at *
  simp only [hao,ptrN_some,Int.toNat_natCast,g3,hg,ldV_some,ldL_some,boolV_bool]
  refine ⟨by omega,by omega,?_⟩
  unfold F114_j16
  rw [w1 i hi]
  cases hm:x.1.more
  · rw [Bool.not_false,ite2_true]
    refine ⟨by omega,by omega,?_⟩
    refine C139 ?_
    rw [intV_int]
    rw [hm] at hhd
    refine hgo (r-1) _ _ (by omega) ⟨rfl,i+1,rfl,by omega,?_⟩
    simp only [htw]
    rw [hhd]; rfl
  · rw [Bool.not_true,ite2_false]
    rw [hm,if_pos rfl] at hhd
    exact hgo (r-1) _ _ (by omega) ⟨rfl,i+1,rfl,by omega,hhd.symm⟩
set_option maxHeartbeats 2000000 in
theorem C69 (hr:RefR hp w max source L) (hL:L.length≤100000)
    (hK:∀ hp' (s:Option Addr) (c:Nat),HSub hp hp'→Row hp' s (keysD L).length c 9 1 ((keysD L).flatMap fun k=>[sw k])→K (.slice s (keysD L).length c) hp'):CF Try.prog 69 [ptr w 0] hp K:=by
  refine F69_ok _ hp K ?_
  unfold F69 F69_j2
  obtain ⟨sL,cL,h1,h2⟩:=hr
  have hkl:∀ M:List PD,(keysD M).length≤M.length:=fun M=>by
    induction M using snoc_ind with
    | h0=>exact Nat.le_refl _
    | h1 l x ih=>
      rw [keysD_snoc,List.length_append,List.length_singleton]
      split
      · omega
      · rw [List.length_append,List.length_singleton]; omega
  refine LoopP.by (J:=fun r (y:Option Addr × Nat × Nat × Int) hp'=>∃ i:Nat,y.2.2.2=i∧i+r=L.length∧HSub hp hp'∧Row hp' y.1 y.2.1 y.2.2.1 9 1 ((keysD (L.take i)).flatMap fun k=>[sw k])∧y.2.1=(keysD (L.take i)).length∧∀ b,y.1=some ⟨b,0,none⟩→hp b=.none) ?_
    (n:=L.length) ⟨0,rfl,by omega,HSub.refl _,.inl ⟨rfl,rfl,rfl,rfl⟩,rfl,fun b e=>by cases e⟩
  rintro I r ⟨s,n,c,y⟩ hp2 ⟨i,hy,hir,hs,hrow,hn,hfr⟩ hgo
  simp only at hy hrow hn hfr
  subst hy hn
  unfold F69_l3
  simp only []
  have hc:∀ hp',HSub hp hp'→∀ o,hp'.cell w o=(rfc max source sL L.length cL)[o]?:=fun hp' hs' o=>HP.cell_of (hs'.cells h1)
  have c2:(rfc max source sL L.length cL)[2]?=some (.slice sL L.length cL):=rfl
  simp only [ptrN_some,hc hp2 hs,Nat.zero_add,c2,ldV_some,slcV_slice]
  by_cases hi:i<L.length
  rotate_left
  · rw [decide_eq_false (by omega:¬ (i:Int)<((L.length:Nat):Int)),ite2_false]
    unfold F69_j1
    rw [List.take_of_length_le (by omega)] at *
    exact hK hp2 s c hs hrow
  rw [decide_eq_true (by omega:(i:Int)<((L.length:Nat):Int)),ite2_true]
  obtain ⟨b,o,hao,hg⟩:=(h2.sub hs).shows.get pdc_len rfl hi
  have g0:hp2.cell b (o+i*7+0)=some (.string L[i].1.key):=HP.cell_cellN (j:=0) hg rfl
  have w1:IntKind.wrap .i64 ((i:Int)+1)=((i+1:Nat):Int):=wiN (by omega) (by omega)
  have hsn:keysD (L.take (i+1))=if L[i].1.key∈keysD (L.take i) then keysD (L.take i) else keysD (L.take i)++[L[i].1.key]:=by
    rw [List.take_succ_eq_append_getElem hi,keysD_snoc]
  have hki:=hkl (L.take i)
  rw [List.length_take] at hki
  generalize hkk:L[i].1.key=kk at *
  generalize hks:keysD (L.take i)=ks at *
  unfold F69_j6
  refine LoopP.by (J:=fun r2 (y:Bool × Int) hp3=>hp3=hp2∧∃ k:Nat,y.2=k∧k+r2=ks.length∧y.1=(ks.take k).any fun x=>decide (x=kk)) ?_ (n:=ks.length) ⟨rfl,0,rfl,by omega,by simp⟩
  rintro I2 r2 ⟨x5,y⟩ hp3 ⟨rfl,k,hy,hkr,hx5⟩ hgo2
  simp only at hy hx5
  subst hy
  unfold F69_l7
  simp only []
  by_cases hk:k<ks.length
  · rw [decide_eq_true (by omega:(k:Int)<((ks.length:Nat):Int)),ite2_true]
    have w2:IntKind.wrap .i64 ((k:Int)+1)=((k+1:Nat):Int):=wiN (by omega) (by omega)
    have hany:((ks.take (k+1)).any fun x=>decide (x=kk))=((ks.take k).any (fun x=>decide (x=kk))||decide (ks[k]=kk)):=by
      rw [List.take_succ_eq_append_getElem hk,List.any_append]; simp
    cases x5
    · rw [ite2_false]
      obtain ⟨bk,ok,hak,hgk⟩:=Shows.get (size:=1) (enc:=fun k:ByteArray=>[sw k]) hrow.shows (fun _=>rfl) rfl hk
      have gk:=HP.cell_cellN (j:=0) hgk rfl
      rw [Nat.add_zero] at gk
      rw [hak]
      simp only [ptrN_some,Int.toNat_natCast,gk,ldV_some]
      refine ⟨by omega,by omega,?_⟩
      show strV (Value.string ks[k]) _
      simp only [strV_string,hc hp3 hs,Nat.zero_add,c2,ldV_some,slcV_slice,hao,ptrN_some,Int.toNat_natCast,g0,str_eq]
      refine ⟨by omega,by omega,?_⟩
      simp only [ptrN_some,Int.toNat_natCast,g0,ldV_some,strV_string,str_eq]
      unfold F69_j8
      rw [w2]
      refine hgo2 (r2-1) _ _ (by omega) ⟨rfl,k+1,rfl,by omega,?_⟩
      rw [hany,← hx5,Bool.false_or]
    · rw [ite2_true]
      unfold F69_j8
      rw [w2]
      refine hgo2 (r2-1) _ _ (by omega) ⟨rfl,k+1,rfl,by omega,?_⟩
      rw [hany,← hx5,Bool.true_or]
  rw [decide_eq_false (by omega:¬ (k:Int)<((ks.length:Nat):Int)),ite2_false]
  rw [List.take_of_length_le (by omega)] at hx5
  unfold F69_j5 F69_j4
  rw [w1]
  by_cases hm:kk∈ks
  · have:x5=true:=by rw [hx5,List.any_eq_true]; exact ⟨kk,hm,decide_eq_true rfl⟩
    rw [this,Bool.not_true,ite2_false]
    rw [if_pos hm] at hsn
    exact hgo (r-1) _ _ (by omega) ⟨i+1,rfl,by omega,hs,by rw [hsn]; exact hrow,by simp only [hsn],hfr⟩
  · have:x5=false:=by
      rw [hx5,List.any_eq_false]
      intro x hx e
      exact hm (by rw [← of_decide_eq_true e]; exact hx)
    rw [this,Bool.not_false,ite2_true]
    rw [if_neg hm] at hsn
    simp only [ptrN_some,hc hp3 hs,Nat.zero_add,c2,ldV_some,slcV_slice,hao,Int.toNat_natCast,g0,strV_string]
    refine ⟨by omega,by omega,?_⟩
    simp only [ptrN_some,Int.toNat_natCast,g0,ldV_some,strV_string]
    intro b3 hb3
    have s3:=HSub.set_fresh hp3 (.cells 9 [.string kk] 0) hb3
    refine opS_appF (e:=9) (size:=1) (bytes:=16) (by kernel_rfl) (hrow.sub s3) (.inr ⟨b3,0,rfl,by rw [HP.cellN_of (HP.set_eq ..)]; exact cellsN_all rfl⟩) rfl (by omega) (by omega) ?_
    intro s4 c4 hp4 hrow4 hf4
    obtain ⟨k1,k2⟩:=hf4 hp (hs.trans s3) hfr
    rw [slcV_slice]
    have e1:(ks.flatMap fun k=>[sw k])++[Value.string kk]=(keysD (L.take (i+1))).flatMap fun k=>[sw k]:=by rw [hsn,List.flatMap_append]; rfl
    have e2:ks.length+1=(keysD (L.take (i+1))).length:=by rw [hsn]; simp
    rw [e1,e2] at hrow4
    rw [e2]
    exact hgo (r-1) _ _ (by omega) ⟨i+1,rfl,by omega,k1,hrow4,rfl,k2⟩
end
end Go.Proofs
set_option linter.unusedVariables false
set_option maxRecDepth 20000
namespace Go.Proofs
open Go Go.HL
section
variable {e E:Env} {x0:OA} {x1:List Value} {x2:Int} {x9a:OA} {x9n x9c:Nat} {x10 x11 x12:Int} {x13 x14:ByteArray} {x15:Bool} {k4 k6:List Value} {hp:HP} {K:Env→PV→HP→Prop}
abbrev R65 (p n:Nat):=RW Try.prog 185 [4,6,28,42,51,61,75,83,88,92,94,96,116,140,148,162,175,178] (opsAt Try.f65 (pth p)) (List.range n)
theorem F65_r0:R65 2 4 (upd e 1 (sA x1)) V0 hp K=
 K (w5 e 1 (sA x1) 4 (sR 4 0) 6 (sR 6 0) 7 (sB false) 8 (sI 0)) (w2 V0 4 (118,x1) 6 (114,[.string ⟨#[]⟩,.string ⟨#[]⟩,.string ⟨#[]⟩,.int .i64 0])) hp:= by kernel_rfl
theorem F65_r1:R65 37 4 (upd e 6 (sR 6 0)) (upd V0 6 (114,k6)) hp K=
    (if List.length [(Value.string ⟨#[]⟩),.string ⟨#[]⟩,.string ⟨#[]⟩,.int .i64 0]=4 then (if List.all [(Value.string ⟨#[]⟩),.string ⟨#[]⟩,.string ⟨#[]⟩,.int .i64 0] one=true then (if 0+List.length [(Value.string ⟨#[]⟩),.string ⟨#[]⟩,.string ⟨#[]⟩,.int .i64 0]≤List.length k6 then (K (w4 e 6 (sR 6 0) 22 (sV (.agg ⟨[.string ⟨#[]⟩,.string ⟨#[]⟩,.string ⟨#[]⟩,.int .i64 0]⟩)) 7 (sB false) 8 (sI 1)) (w2 V0 6 (114,k6) 6 (114,(splice k6 0 [.string ⟨#[]⟩,.string ⟨#[]⟩,.string ⟨#[]⟩,.int .i64 0]))) hp) else False) else False) else False):=by kernel_rfl
theorem F65_r2:R65 19 3 (upd e 4 (sR 4 0)) (w2 V0 6 (114,k6) 4 (118,k4)) hp K=
 ldL (cellsN k4 0 7) fun l1=>(CF Try.prog 68 [(.agg ⟨l1⟩)] hp fun u2 h3=>boolV u2 fun q4=>K (w4 e 4 (sR 4 0) 23 (sA l1) 24 (sB q4) 25 (sB ((!q4)))) (w2 V0 6 (114,k6) 4 (118,k4)) h3):= by kernel_rfl
theorem F65_r3:R65 75 4 (upd e 6 (sR 6 0)) (upd V0 6 (114,k6)) hp K=
    (if List.length [(Value.string ⟨#[]⟩),.string ⟨#[]⟩,.string ⟨#[]⟩,.int .i64 0]=4 then (if List.all [(Value.string ⟨#[]⟩),.string ⟨#[]⟩,.string ⟨#[]⟩,.int .i64 0] one=true then (if 0+List.length [(Value.string ⟨#[]⟩),.string ⟨#[]⟩,.string ⟨#[]⟩,.int .i64 0]≤List.length k6 then (K (w4 e 6 (sR 6 0) 26 (sV (.agg ⟨[.string ⟨#[]⟩,.string ⟨#[]⟩,.string ⟨#[]⟩,.int .i64 0]⟩)) 7 (sB false) 8 (sI 8)) (w2 V0 6 (114,k6) 6 (114,(splice k6 0 [.string ⟨#[]⟩,.string ⟨#[]⟩,.string ⟨#[]⟩,.int .i64 0]))) hp) else False) else False) else False):=by kernel_rfl
theorem F65_r4:R65 23 5 (w2 e 4 (sR 4 0) 0 (sP x0)) (w2 V0 6 (114,k6) 4 (118,k4)) hp K=
 ldV (k4)[0]? fun v1=>(strV v1 fun s2=>CF Try.prog 111 [(.pointer x0),(.string s2)] hp fun u3 h4=>slcV u3 fun a5 n6 c7=>K (w7 e 4 (sR 4 0) 0 (sP x0) 27 (sP x0) 28 (sR 4 0) 29 (sT s2) 30 (sS a5 n6 c7) 9 (sS a5 n6 c7)) (w2 V0 6 (114,k6) 4 (118,k4)) h4):= by kernel_rfl
theorem F65_r5:R65 47 1 e (w2 V0 6 (114,k6) 4 (118,k4)) hp K=
 K (upd e 10 (sI 0)) (w2 V0 6 (114,k6) 4 (118,k4)) hp:= by kernel_rfl
theorem F65_r6:R65 1215 4 (w2 e 4 (sR 4 0) 0 (sP x0)) (w2 V0 6 (114,k6) 4 (118,k4)) hp K=
 ldV (k4)[0]? fun v1=>(strV v1 fun s2=>CF Try.prog 112 [(.pointer x0),(.string s2)] hp fun u3 h4=>K (w6 e 4 (sR 4 0) 0 (sP x0) 74 (sP x0) 75 (sR 4 0) 76 (sT s2) 77 (sV u3)) (w2 V0 6 (114,k6) 4 (118,k4)) h4):= by kernel_rfl
theorem F65_r7:R65 2751 4 (upd e 6 (sR 6 0)) (upd V0 6 (114,k6)) hp K=
    (if List.length [(Value.string ⟨#[]⟩),.string ⟨#[]⟩,.string ⟨#[]⟩,.int .i64 0]=4 then (if List.all [(Value.string ⟨#[]⟩),.string ⟨#[]⟩,.string ⟨#[]⟩,.int .i64 0] one=true then (if 0+List.length [(Value.string ⟨#[]⟩),.string ⟨#[]⟩,.string ⟨#[]⟩,.int .i64 0]≤List.length k6 then (K (w4 e 6 (sR 6 0) 78 (sV (.agg ⟨[.string ⟨#[]⟩,.string ⟨#[]⟩,.string ⟨#[]⟩,.int .i64 0]⟩)) 7 (sB false) 8 (sI 5)) (w2 V0 6 (114,k6) 6 (114,(splice k6 0 [.string ⟨#[]⟩,.string ⟨#[]⟩,.string ⟨#[]⟩,.int .i64 0]))) hp) else False) else False) else False):=by kernel_rfl
theorem F65_r8:R65 2431 10 (w2 e 6 (sR 6 0) 4 (sR 4 0)) (w2 V0 6 (114,k6) 4 (118,k4)) hp K=
 ldV (k4)[0]? fun v1=>(strV v1 fun s2=>ldV (k4)[5]? fun v3=>strV v3 fun s4=>ldV (k4)[4]? fun v5=>strV v5 fun s6=>if List.length [(Value.string s2),(.string s4),(.string s6),(.int .i64 1)]=4 then (if List.all [(Value.string s2),(.string s4),(.string s6),(.int .i64 1)] one=true then (if 0+List.length [(Value.string s2),(.string s4),(.string s6),(.int .i64 1)]≤List.length k6 then (K (w3 (w8 e 6 (sR 6 0) 4 (sR 4 0) 92 (sR 4 0) 93 (sT s2) 94 (sR 4 5) 95 (sT s4) 96 (sR 4 4) 97 (sT s6)) 98 (sV (.agg ⟨[(.string s2),(.string s4),(.string s6),(.int .i64 1)]⟩)) 7 (sB true) 8 (sI 0)) (w3 V0 6 (114,k6) 4 (118,k4) 6 (114,(splice k6 0 [(.string s2),(.string s4),(.string s6),(.int .i64 1)]))) hp) else False) else False) else False):= by kernel_rfl
theorem F65_r9:R65 2559 10 (upd e 0 (sP x0)) (w2 V0 6 (114,k6) 4 (118,k4)) hp K=
 ptrN x0 fun b1 o2=>(ldV (HP.cell hp b1 (o2+2)) fun v3=>slcV v3 fun a4 n5 c6=>ptrN x0 fun b7 o8=>ldV (HP.cell hp b7 (o8+0)) fun v9=>intV v9 .i64 fun i10=>K (w3 (w8 e 0 (sP x0) 121 (sP x0) 122 (sQ b1 o2) 123 (sQ b1 (o2+2)) 124 (sS a4 n5 c6) 125 (sI ((n5:Nat))) 126 (sP x0) 127 (sQ b7 o8)) 128 (sQ b7 (o8+0)) 129 (sI i10) 130 (sB ((decide (((n5:Nat):Int)≥i10))))) (w2 V0 6 (114,k6) 4 (118,k4)) hp):= by kernel_rfl
theorem F65_r10:R65 9727 4 (upd e 6 (sR 6 0)) (upd V0 6 (114,k6)) hp K=
    (if List.length [(Value.string ⟨#[]⟩),.string ⟨#[]⟩,.string ⟨#[]⟩,.int .i64 0]=4 then (if List.all [(Value.string ⟨#[]⟩),.string ⟨#[]⟩,.string ⟨#[]⟩,.int .i64 0] one=true then (if 0+List.length [(Value.string ⟨#[]⟩),.string ⟨#[]⟩,.string ⟨#[]⟩,.int .i64 0]≤List.length k6 then (K (w4 e 6 (sR 6 0) 131 (sV (.agg ⟨[.string ⟨#[]⟩,.string ⟨#[]⟩,.string ⟨#[]⟩,.int .i64 0]⟩)) 7 (sB false) 8 (sI 6)) (w2 V0 6 (114,k6) 6 (114,(splice k6 0 [.string ⟨#[]⟩,.string ⟨#[]⟩,.string ⟨#[]⟩,.int .i64 0]))) hp) else False) else False) else False):=by kernel_rfl
theorem F65_r11:R65 5119 6 (w2 e 10 (sI x10) 0 (sP x0)) (w2 V0 6 (114,k6) 4 (118,k4)) hp K=
 ptrN x0 fun b1 o2=>(ldV (HP.cell hp b1 (o2+1)) fun v3=>intV v3 .i64 fun i4=>K (w8 e 10 (sI x10) 0 (sP x0) 132 (sI x10) 133 (sP x0) 134 (sQ b1 o2) 135 (sQ b1 (o2+1)) 136 (sI i4) 137 (sB (decide (x10≥i4)))) (w2 V0 6 (114,k6) 4 (118,k4)) hp):= by kernel_rfl
theorem F65_r12:R65 19455 4 (upd e 6 (sR 6 0)) (upd V0 6 (114,k6)) hp K=
    (if List.length [(Value.string ⟨#[]⟩),.string ⟨#[]⟩,.string ⟨#[]⟩,.int .i64 0]=4 then (if List.all [(Value.string ⟨#[]⟩),.string ⟨#[]⟩,.string ⟨#[]⟩,.int .i64 0] one=true then (if 0+List.length [(Value.string ⟨#[]⟩),.string ⟨#[]⟩,.string ⟨#[]⟩,.int .i64 0]≤List.length k6 then (K (w4 e 6 (sR 6 0) 138 (sV (.agg ⟨[.string ⟨#[]⟩,.string ⟨#[]⟩,.string ⟨#[]⟩,.int .i64 0]⟩)) 7 (sB false) 8 (sI 11)) (w2 V0 6 (114,k6) 6 (114,(splice k6 0 [.string ⟨#[]⟩,.string ⟨#[]⟩,.string ⟨#[]⟩,.int .i64 0]))) hp) else False) else False) else False):=by kernel_rfl
theorem F65_r13:R65 6143 3 (w2 e 4 (sR 4 0) 2 (sI x2)) (w2 V0 6 (114,k6) 4 (118,k4)) hp K=
    (if 6<List.length k4 then (K (w4 e 4 (sR 4 0) 2 (sI x2) 139 (sI x2) 140 (sR 4 6)) (w3 V0 6 (114,k6) 4 (118,k4) 4 (118,(List.set k4 6 (.int .i64 x2)))) hp) else False):=by kernel_rfl
theorem F65_r14:R65 49151 5 (w2 e 4 (sR 4 0) 0 (sP x0)) (w2 V0 6 (114,k6) 4 (118,k4)) hp K=
 ldV (k4)[0]? fun v1=>(strV v1 fun s2=>CF Try.prog 111 [(.pointer x0),(.string s2)] hp fun u3 h4=>slcV u3 fun a5 n6 c7=>K (w7 e 4 (sR 4 0) 0 (sP x0) 161 (sP x0) 162 (sR 4 0) 163 (sT s2) 164 (sS a5 n6 c7) 9 (sS a5 n6 c7)) (w2 V0 6 (114,k6) 4 (118,k4)) h4):= by kernel_rfl
theorem F65_r15:R65 98303 9 (upd e 9 (sS x9a x9n x9c)) (w2 V0 6 (114,k6) 4 (118,k4)) hp K=
 CF Try.prog 114 [(.slice x9a x9n x9c)] hp fun u1 h2=>(tup3V u1 fun u3 u4 u5=>strV u3 fun s6=>strV u4 fun s7=>boolV u5 fun q8=>K (w2 (w8 e 9 (sS x9a x9n x9c) 166 (sS x9a x9n x9c) 167 (sV (.tuple ⟨[(.string s6),(.string s7),(.bool q8)]⟩)) 165 (sV (.tuple ⟨[(.string s6),(.string s7),(.bool q8)]⟩)) 168 (sT s6) 169 (sT s7) 170 (sB q8) 13 (sT s6)) 14 (sT s7) 15 (sB q8)) (w2 V0 6 (114,k6) 4 (118,k4)) h2):= by kernel_rfl
theorem F65_r16:R65 327679 2 (upd e 15 (sB x15)) (w2 V0 6 (114,k6) 4 (118,k4)) hp K=
 K (w3 e 15 (sB x15) 171 (sB x15) 172 (sB ((!x15)))) (w2 V0 6 (114,k6) 4 (118,k4)) hp:= by kernel_rfl
theorem F65_r17:R65 1245183 4 (upd e 6 (sR 6 0)) (upd V0 6 (114,k6)) hp K=
    (if List.length [(Value.string ⟨#[]⟩),.string ⟨#[]⟩,.string ⟨#[]⟩,.int .i64 0]=4 then (if List.all [(Value.string ⟨#[]⟩),.string ⟨#[]⟩,.string ⟨#[]⟩,.int .i64 0] one=true then (if 0+List.length [(Value.string ⟨#[]⟩),.string ⟨#[]⟩,.string ⟨#[]⟩,.int .i64 0]≤List.length k6 then (K (w4 e 6 (sR 6 0) 173 (sV (.agg ⟨[.string ⟨#[]⟩,.string ⟨#[]⟩,.string ⟨#[]⟩,.int .i64 0]⟩)) 7 (sB false) 8 (sI 0)) (w2 V0 6 (114,k6) 6 (114,(splice k6 0 [.string ⟨#[]⟩,.string ⟨#[]⟩,.string ⟨#[]⟩,.int .i64 0]))) hp) else False) else False) else False):=by kernel_rfl
theorem F65_r18:R65 393215 4 (w2 e 4 (sR 4 0) 0 (sP x0)) (w2 V0 6 (114,k6) 4 (118,k4)) hp K=
 ldV (k4)[0]? fun v1=>(strV v1 fun s2=>CF Try.prog 112 [(.pointer x0),(.string s2)] hp fun u3 h4=>K (w6 e 4 (sR 4 0) 0 (sP x0) 174 (sP x0) 175 (sR 4 0) 176 (sT s2) 177 (sV u3)) (w2 V0 6 (114,k6) 4 (118,k4)) h4):= by kernel_rfl
theorem F65_r19 (h:E=upd (w4 e 14 (sT x14) 13 (sT x13) 9 (sS x9a x9n x9c) 6 (sR 6 0)) 4 (sR 4 0)):R65 786431 10 E (w2 V0 6 (114,k6) 4 (118,k4)) hp K=
 ldV (k4)[0]? fun v1=>(strV v1 fun s2=>if List.length [(Value.string s2),(.string x14),(.string x13),(.int .i64 (x9n:Nat))]=4 then (if List.all [(Value.string s2),(.string x14),(.string x13),(.int .i64 (x9n:Nat))] one=true then (if 0+List.length [(Value.string s2),(.string x14),(.string x13),(.int .i64 (x9n:Nat))]≤List.length k6 then (K (upd (w8 E 178 (sR 4 0) 179 (sT s2) 180 (sT x14) 181 (sT x13) 182 (sS x9a x9n x9c) 183 (sI ((x9n:Nat))) 184 (sV (.agg ⟨[(.string s2),(.string x14),(.string x13),(.int .i64 (x9n:Nat))]⟩)) 7 (sB true)) 8 (sI 0)) (w3 V0 6 (114,k6) 4 (118,k4) 6 (114,(splice k6 0 [(.string s2),(.string x14),(.string x13),(.int .i64 (x9n:Nat))]))) hp) else False) else False) else False):= by subst h; kernel_rfl
def F65_j7 (x0:OA) (k4 k6:List Value) (hp:HP) (K:Kh):Prop:=
  (ldV (k4)[0]? fun v42=>strV v42 fun s43=>CF Try.prog 111 [(.pointer x0),(.string s43)] hp fun u44 h45=>slcV u44 fun a46 n47 c48=>CF Try.prog 114 [(.slice a46 n47 c48)] h45 fun u49 h50=>tup3V u49 fun u51 u52 u53=>strV u51 fun s54=>strV u52 fun s55=>boolV u53 fun q56=>ite2 (!q56) (if List.length [(Value.string ⟨#[]⟩),.string ⟨#[]⟩,.string ⟨#[]⟩,.int .i64 0]=4 then (if List.all [(Value.string ⟨#[]⟩),.string ⟨#[]⟩,.string ⟨#[]⟩,.int .i64 0] one=true then (if 0+List.length [(Value.string ⟨#[]⟩),.string ⟨#[]⟩,.string ⟨#[]⟩,.int .i64 0]≤List.length k6 then (ldL (cellsN (splice k6 0 [.string ⟨#[]⟩,.string ⟨#[]⟩,.string ⟨#[]⟩,.int .i64 0]) 0 4) fun l57=>K (.tuple ⟨[(.agg ⟨l57⟩),.bool false,.int .i64 0]⟩) h50) else False) else False) else False) (ldV (k4)[0]? fun v58=>strV v58 fun s59=>CF Try.prog 112 [(.pointer x0),(.string s59)] h50 fun u60 h61=>ldV (k4)[0]? fun v62=>strV v62 fun s63=>if List.length [(Value.string s63),(.string s55),(.string s54),(.int .i64 (n47:Nat))]=4 then (if List.all [(Value.string s63),(.string s55),(.string s54),(.int .i64 (n47:Nat))] one=true then (if 0+List.length [(Value.string s63),(.string s55),(.string s54),(.int .i64 (n47:Nat))]≤List.length k6 then (ldL (cellsN (splice k6 0 [(.string s63),(.string s55),(.string s54),(.int .i64 (n47:Nat))]) 0 4) fun l64=>K (.tuple ⟨[(.agg ⟨l64⟩),(.bool true),.int .i64 0]⟩) h61) else False) else False) else False))
theorem F65_r20 {e:Env} {x0:OA} {k4:List Value} {k6:List Value} {hp:HP} {K:Env→PV→HP→Prop}:RW Try.prog 185 [4,6,28,42,51,61,75,83,88,92,94,96,116,140,148,162,175,178] (opsAt Try.f65 (pth 24575)) [0,1,2,3,4,5,6,7,8,9,10,11,12] (w2 e 4 (sR 4 0) 0 (sP x0)) (w2 V0 6 (114,k6) 4 (118,k4)) hp K=
    (∀ b1:Nat,hp b1=.none→(ptrN x0 fun b2 o3=>ldV (HP.cell (HP.set hp b1 (.cells 118 [] 0)) b2 (o3+2)) fun v4=>slcV v4 fun a5 n6 c7=>opS Try.prog (Builtin.append_ #[104,104] 104 ⟨[(.slice (some ⟨b1,0,none⟩) 0 0),(.slice a5 n6 c7)]⟩) (HP.set hp b1 (.cells 118 [] 0)) fun u8 h9=>slcV u8 fun a10 n11 c12=>ldL (cellsN k4 0 7) fun l13=>if List.length l13=7 then (∀ b14:Nat,h9 b14=.none→(opS Try.prog (Builtin.append_ #[104,104] 104 ⟨[(.slice a10 n11 c12),(.slice (some ⟨b14,0,none⟩) 1 1)]⟩) (HP.set h9 b14 (.cells 118 (splice [.string ⟨#[]⟩,.string ⟨#[]⟩,.int .i64 0,.bool false,.string ⟨#[]⟩,.string ⟨#[]⟩,.int .i64 0] 0 l13) 0)) fun u15 h16=>slcV u15 fun a17 n18 c19=>ptrN x0 fun b20 o21=>HP.st h16 b20 (o21+2) (.slice a17 n18 c19) fun h22=>K (w6 (w8 e 4 (sR 4 0) 0 (sP x0) 149 (sP x0) 150 (sV (.slice (some ⟨b1,0,none⟩) 0 0)) 151 (sP x0) 152 (sQ b2 o3) 153 (sQ b2 (o3+2)) 154 (sS a5 n6 c7)) 155 (sS a10 n11 c12) 156 (sA l13) 157 (sV (.slice (some ⟨b14,0,none⟩) 1 1)) 158 (sS a17 n18 c19) 159 (sQ b20 o21) 160 (sQ b20 (o21+2))) (w2 V0 6 (114,k6) 4 (118,k4)) h22)) else False)):=by kernel_rfl
theorem F65_r21 {e:Env} {x0:OA} {k4:List Value} {k6:List Value} {hp:HP} {K:Env→PV→HP→Prop}:RW Try.prog 185 [4,6,28,42,51,61,75,83,88,92,94,96,116,140,148,162,175,178] (opsAt Try.f65 (pth 24575)) [0,1,2,3,4,5,7,8,6,9,10,11,12] (w2 e 4 (sR 4 0) 0 (sP x0)) (w2 V0 6 (114,k6) 4 (118,k4)) hp K=
    (∀ b1:Nat,hp b1=.none→(ptrN x0 fun b2 o3=>ldV (HP.cell (HP.set hp b1 (.cells 118 [] 0)) b2 (o3+2)) fun v4=>slcV v4 fun a5 n6 c7=>ldL (cellsN k4 0 7) fun l8=>if List.length l8=7 then (∀ b9:Nat,(HP.set hp b1 (.cells 118 [] 0)) b9=.none→(opS Try.prog (Builtin.append_ #[104,104] 104 ⟨[(.slice (some ⟨b1,0,none⟩) 0 0),(.slice a5 n6 c7)]⟩) (HP.set (HP.set hp b1 (.cells 118 [] 0)) b9 (.cells 118 (splice [.string ⟨#[]⟩,.string ⟨#[]⟩,.int .i64 0,.bool false,.string ⟨#[]⟩,.string ⟨#[]⟩,.int .i64 0] 0 l8) 0)) fun u10 h11=>slcV u10 fun a12 n13 c14=>opS Try.prog (Builtin.append_ #[104,104] 104 ⟨[(.slice a12 n13 c14),(.slice (some ⟨b9,0,none⟩) 1 1)]⟩) h11 fun u15 h16=>slcV u15 fun a17 n18 c19=>ptrN x0 fun b20 o21=>HP.st h16 b20 (o21+2) (.slice a17 n18 c19) fun h22=>K (w6 (w8 e 4 (sR 4 0) 0 (sP x0) 149 (sP x0) 150 (sV (.slice (some ⟨b1,0,none⟩) 0 0)) 151 (sP x0) 152 (sQ b2 o3) 153 (sQ b2 (o3+2)) 154 (sS a5 n6 c7)) 156 (sA l8) 157 (sV (.slice (some ⟨b9,0,none⟩) 1 1)) 155 (sS a12 n13 c14) 158 (sS a17 n18 c19) 159 (sQ b20 o21) 160 (sQ b20 (o21+2))) (w2 V0 6 (114,k6) 4 (118,k4)) h22)) else False)):=by kernel_rfl
theorem F65_r22 {e:Env} {x0:OA} {k4:List Value} {k6:List Value} {hp:HP} {K:Env→PV→HP→Prop}:RW Try.prog 185 [4,6,28,42,51,61,75,83,88,92,94,96,116,140,148,162,175,178] (opsAt Try.f65 (pth 24575)) [0,1,2,3,4,7,8,5,6,9,10,11,12] (w2 e 4 (sR 4 0) 0 (sP x0)) (w2 V0 6 (114,k6) 4 (118,k4)) hp K=
    (∀ b1:Nat,hp b1=.none→(ptrN x0 fun b2 o3=>ldL (cellsN k4 0 7) fun l4=>if List.length l4=7 then (∀ b5:Nat,(HP.set hp b1 (.cells 118 [] 0)) b5=.none→(ldV (HP.cell (HP.set (HP.set hp b1 (.cells 118 [] 0)) b5 (.cells 118 (splice [.string ⟨#[]⟩,.string ⟨#[]⟩,.int .i64 0,.bool false,.string ⟨#[]⟩,.string ⟨#[]⟩,.int .i64 0] 0 l4) 0)) b2 (o3+2)) fun v6=>slcV v6 fun a7 n8 c9=>opS Try.prog (Builtin.append_ #[104,104] 104 ⟨[(.slice (some ⟨b1,0,none⟩) 0 0),(.slice a7 n8 c9)]⟩) (HP.set (HP.set hp b1 (.cells 118 [] 0)) b5 (.cells 118 (splice [.string ⟨#[]⟩,.string ⟨#[]⟩,.int .i64 0,.bool false,.string ⟨#[]⟩,.string ⟨#[]⟩,.int .i64 0] 0 l4) 0)) fun u10 h11=>slcV u10 fun a12 n13 c14=>opS Try.prog (Builtin.append_ #[104,104] 104 ⟨[(.slice a12 n13 c14),(.slice (some ⟨b5,0,none⟩) 1 1)]⟩) h11 fun u15 h16=>slcV u15 fun a17 n18 c19=>ptrN x0 fun b20 o21=>HP.st h16 b20 (o21+2) (.slice a17 n18 c19) fun h22=>K (w6 (w8 e 4 (sR 4 0) 0 (sP x0) 149 (sP x0) 150 (sV (.slice (some ⟨b1,0,none⟩) 0 0)) 151 (sP x0) 152 (sQ b2 o3) 153 (sQ b2 (o3+2)) 156 (sA l4)) 157 (sV (.slice (some ⟨b5,0,none⟩) 1 1)) 154 (sS a7 n8 c9) 155 (sS a12 n13 c14) 158 (sS a17 n18 c19) 159 (sQ b20 o21) 160 (sQ b20 (o21+2))) (w2 V0 6 (114,k6) 4 (118,k4)) h22)) else False)):=by kernel_rfl
theorem F65_r23 {e:Env} {x0:OA} {k4:List Value} {k6:List Value} {hp:HP} {K:Env→PV→HP→Prop}:RW Try.prog 185 [4,6,28,42,51,61,75,83,88,92,94,96,116,140,148,162,175,178] (opsAt Try.f65 (pth 24575)) [0,2,3,4,7,8,1,5,6,9,10,11,12] (w2 e 4 (sR 4 0) 0 (sP x0)) (w2 V0 6 (114,k6) 4 (118,k4)) hp K=
 ptrN x0 fun b1 o2=>(ldL (cellsN k4 0 7) fun l3=>if List.length l3=7 then (∀ b4:Nat,hp b4=.none→(∀ b5:Nat,(HP.set hp b4 (.cells 118 (splice [.string ⟨#[]⟩,.string ⟨#[]⟩,.int .i64 0,.bool false,.string ⟨#[]⟩,.string ⟨#[]⟩,.int .i64 0] 0 l3) 0)) b5=.none→(ldV (HP.cell (HP.set (HP.set hp b4 (.cells 118 (splice [.string ⟨#[]⟩,.string ⟨#[]⟩,.int .i64 0,.bool false,.string ⟨#[]⟩,.string ⟨#[]⟩,.int .i64 0] 0 l3) 0)) b5 (.cells 118 [] 0)) b1 (o2+2)) fun v6=>slcV v6 fun a7 n8 c9=>opS Try.prog (Builtin.append_ #[104,104] 104 ⟨[(.slice (some ⟨b5,0,none⟩) 0 0),(.slice a7 n8 c9)]⟩) (HP.set (HP.set hp b4 (.cells 118 (splice [.string ⟨#[]⟩,.string ⟨#[]⟩,.int .i64 0,.bool false,.string ⟨#[]⟩,.string ⟨#[]⟩,.int .i64 0] 0 l3) 0)) b5 (.cells 118 [] 0)) fun u10 h11=>slcV u10 fun a12 n13 c14=>opS Try.prog (Builtin.append_ #[104,104] 104 ⟨[(.slice a12 n13 c14),(.slice (some ⟨b4,0,none⟩) 1 1)]⟩) h11 fun u15 h16=>slcV u15 fun a17 n18 c19=>ptrN x0 fun b20 o21=>HP.st h16 b20 (o21+2) (.slice a17 n18 c19) fun h22=>K (w6 (w8 e 4 (sR 4 0) 0 (sP x0) 149 (sP x0) 151 (sP x0) 152 (sQ b1 o2) 153 (sQ b1 (o2+2)) 156 (sA l3) 157 (sV (.slice (some ⟨b4,0,none⟩) 1 1))) 150 (sV (.slice (some ⟨b5,0,none⟩) 0 0)) 154 (sS a7 n8 c9) 155 (sS a12 n13 c14) 158 (sS a17 n18 c19) 159 (sQ b20 o21) 160 (sQ b20 (o21+2))) (w2 V0 6 (114,k6) 4 (118,k4)) h22))) else False):= by kernel_rfl
theorem F65_r24 {e:Env} {x0:OA} {k4:List Value} {k6:List Value} {hp:HP} {K:Env→PV→HP→Prop}:RW Try.prog 185 [4,6,28,42,51,61,75,83,88,92,94,96,116,140,148,162,175,178] (opsAt Try.f65 (pth 24575)) [0,2,3,4,5,1,6,7,8,9,10,11,12] (w2 e 4 (sR 4 0) 0 (sP x0)) (w2 V0 6 (114,k6) 4 (118,k4)) hp K=
 ptrN x0 fun b1 o2=>(ldV (HP.cell hp b1 (o2+2)) fun v3=>slcV v3 fun a4 n5 c6=>∀ b7:Nat,hp b7=.none→(opS Try.prog (Builtin.append_ #[104,104] 104 ⟨[(.slice (some ⟨b7,0,none⟩) 0 0),(.slice a4 n5 c6)]⟩) (HP.set hp b7 (.cells 118 [] 0)) fun u8 h9=>slcV u8 fun a10 n11 c12=>ldL (cellsN k4 0 7) fun l13=>if List.length l13=7 then (∀ b14:Nat,h9 b14=.none→(opS Try.prog (Builtin.append_ #[104,104] 104 ⟨[(.slice a10 n11 c12),(.slice (some ⟨b14,0,none⟩) 1 1)]⟩) (HP.set h9 b14 (.cells 118 (splice [.string ⟨#[]⟩,.string ⟨#[]⟩,.int .i64 0,.bool false,.string ⟨#[]⟩,.string ⟨#[]⟩,.int .i64 0] 0 l13) 0)) fun u15 h16=>slcV u15 fun a17 n18 c19=>ptrN x0 fun b20 o21=>HP.st h16 b20 (o21+2) (.slice a17 n18 c19) fun h22=>K (w6 (w8 e 4 (sR 4 0) 0 (sP x0) 149 (sP x0) 151 (sP x0) 152 (sQ b1 o2) 153 (sQ b1 (o2+2)) 154 (sS a4 n5 c6) 150 (sV (.slice (some ⟨b7,0,none⟩) 0 0))) 155 (sS a10 n11 c12) 156 (sA l13) 157 (sV (.slice (some ⟨b14,0,none⟩) 1 1)) 158 (sS a17 n18 c19) 159 (sQ b20 o21) 160 (sQ b20 (o21+2))) (w2 V0 6 (114,k6) 4 (118,k4)) h22)) else False)):= by kernel_rfl
theorem F65_r25 {e:Env} {x0:OA} {k4:List Value} {k6:List Value} {hp:HP} {K:Env→PV→HP→Prop}:RW Try.prog 185 [4,6,28,42,51,61,75,83,88,92,94,96,116,140,148,162,175,178] (opsAt Try.f65 (pth 24575)) [0,2,3,4,5,1,7,8,6,9,10,11,12] (w2 e 4 (sR 4 0) 0 (sP x0)) (w2 V0 6 (114,k6) 4 (118,k4)) hp K=
 ptrN x0 fun b1 o2=>(ldV (HP.cell hp b1 (o2+2)) fun v3=>slcV v3 fun a4 n5 c6=>∀ b7:Nat,hp b7=.none→(ldL (cellsN k4 0 7) fun l8=>if List.length l8=7 then (∀ b9:Nat,(HP.set hp b7 (.cells 118 [] 0)) b9=.none→(opS Try.prog (Builtin.append_ #[104,104] 104 ⟨[(.slice (some ⟨b7,0,none⟩) 0 0),(.slice a4 n5 c6)]⟩) (HP.set (HP.set hp b7 (.cells 118 [] 0)) b9 (.cells 118 (splice [.string ⟨#[]⟩,.string ⟨#[]⟩,.int .i64 0,.bool false,.string ⟨#[]⟩,.string ⟨#[]⟩,.int .i64 0] 0 l8) 0)) fun u10 h11=>slcV u10 fun a12 n13 c14=>opS Try.prog (Builtin.append_ #[104,104] 104 ⟨[(.slice a12 n13 c14),(.slice (some ⟨b9,0,none⟩) 1 1)]⟩) h11 fun u15 h16=>slcV u15 fun a17 n18 c19=>ptrN x0 fun b20 o21=>HP.st h16 b20 (o21+2) (.slice a17 n18 c19) fun h22=>K (w6 (w8 e 4 (sR 4 0) 0 (sP x0) 149 (sP x0) 151 (sP x0) 152 (sQ b1 o2) 153 (sQ b1 (o2+2)) 154 (sS a4 n5 c6) 150 (sV (.slice (some ⟨b7,0,none⟩) 0 0))) 156 (sA l8) 157 (sV (.slice (some ⟨b9,0,none⟩) 1 1)) 155 (sS a12 n13 c14) 158 (sS a17 n18 c19) 159 (sQ b20 o21) 160 (sQ b20 (o21+2))) (w2 V0 6 (114,k6) 4 (118,k4)) h22)) else False)):= by kernel_rfl
theorem F65_r26 {e:Env} {x0:OA} {k4:List Value} {k6:List Value} {hp:HP} {K:Env→PV→HP→Prop}:RW Try.prog 185 [4,6,28,42,51,61,75,83,88,92,94,96,116,140,148,162,175,178] (opsAt Try.f65 (pth 24575)) [0,2,3,4,5,7,8,1,6,9,10,11,12] (w2 e 4 (sR 4 0) 0 (sP x0)) (w2 V0 6 (114,k6) 4 (118,k4)) hp K=
 ptrN x0 fun b1 o2=>(ldV (HP.cell hp b1 (o2+2)) fun v3=>slcV v3 fun a4 n5 c6=>ldL (cellsN k4 0 7) fun l7=>if List.length l7=7 then (∀ b8:Nat,hp b8=.none→(∀ b9:Nat,(HP.set hp b8 (.cells 118 (splice [.string ⟨#[]⟩,.string ⟨#[]⟩,.int .i64 0,.bool false,.string ⟨#[]⟩,.string ⟨#[]⟩,.int .i64 0] 0 l7) 0)) b9=.none→(opS Try.prog (Builtin.append_ #[104,104] 104 ⟨[(.slice (some ⟨b9,0,none⟩) 0 0),(.slice a4 n5 c6)]⟩) (HP.set (HP.set hp b8 (.cells 118 (splice [.string ⟨#[]⟩,.string ⟨#[]⟩,.int .i64 0,.bool false,.string ⟨#[]⟩,.string ⟨#[]⟩,.int .i64 0] 0 l7) 0)) b9 (.cells 118 [] 0)) fun u10 h11=>slcV u10 fun a12 n13 c14=>opS Try.prog (Builtin.append_ #[104,104] 104 ⟨[(.slice a12 n13 c14),(.slice (some ⟨b8,0,none⟩) 1 1)]⟩) h11 fun u15 h16=>slcV u15 fun a17 n18 c19=>ptrN x0 fun b20 o21=>HP.st h16 b20 (o21+2) (.slice a17 n18 c19) fun h22=>K (w6 (w8 e 4 (sR 4 0) 0 (sP x0) 149 (sP x0) 151 (sP x0) 152 (sQ b1 o2) 153 (sQ b1 (o2+2)) 154 (sS a4 n5 c6) 156 (sA l7)) 157 (sV (.slice (some ⟨b8,0,none⟩) 1 1)) 150 (sV (.slice (some ⟨b9,0,none⟩) 0 0)) 155 (sS a12 n13 c14) 158 (sS a17 n18 c19) 159 (sQ b20 o21) 160 (sQ b20 (o21+2))) (w2 V0 6 (114,k6) 4 (118,k4)) h22))) else False):= by kernel_rfl
theorem F65_r27 {e:Env} {x0:OA} {k4:List Value} {k6:List Value} {hp:HP} {K:Env→PV→HP→Prop}:RW Try.prog 185 [4,6,28,42,51,61,75,83,88,92,94,96,116,140,148,162,175,178] (opsAt Try.f65 (pth 24575)) [0,2,3,4,7,8,5,1,6,9,10,11,12] (w2 e 4 (sR 4 0) 0 (sP x0)) (w2 V0 6 (114,k6) 4 (118,k4)) hp K=
 ptrN x0 fun b1 o2=>(ldL (cellsN k4 0 7) fun l3=>if List.length l3=7 then (∀ b4:Nat,hp b4=.none→(ldV (HP.cell (HP.set hp b4 (.cells 118 (splice [.string ⟨#[]⟩,.string ⟨#[]⟩,.int .i64 0,.bool false,.string ⟨#[]⟩,.string ⟨#[]⟩,.int .i64 0] 0 l3) 0)) b1 (o2+2)) fun v5=>slcV v5 fun a6 n7 c8=>∀ b9:Nat,(HP.set hp b4 (.cells 118 (splice [.string ⟨#[]⟩,.string ⟨#[]⟩,.int .i64 0,.bool false,.string ⟨#[]⟩,.string ⟨#[]⟩,.int .i64 0] 0 l3) 0)) b9=.none→(opS Try.prog (Builtin.append_ #[104,104] 104 ⟨[(.slice (some ⟨b9,0,none⟩) 0 0),(.slice a6 n7 c8)]⟩) (HP.set (HP.set hp b4 (.cells 118 (splice [.string ⟨#[]⟩,.string ⟨#[]⟩,.int .i64 0,.bool false,.string ⟨#[]⟩,.string ⟨#[]⟩,.int .i64 0] 0 l3) 0)) b9 (.cells 118 [] 0)) fun u10 h11=>slcV u10 fun a12 n13 c14=>opS Try.prog (Builtin.append_ #[104,104] 104 ⟨[(.slice a12 n13 c14),(.slice (some ⟨b4,0,none⟩) 1 1)]⟩) h11 fun u15 h16=>slcV u15 fun a17 n18 c19=>ptrN x0 fun b20 o21=>HP.st h16 b20 (o21+2) (.slice a17 n18 c19) fun h22=>K (w6 (w8 e 4 (sR 4 0) 0 (sP x0) 149 (sP x0) 151 (sP x0) 152 (sQ b1 o2) 153 (sQ b1 (o2+2)) 156 (sA l3) 157 (sV (.slice (some ⟨b4,0,none⟩) 1 1))) 154 (sS a6 n7 c8) 150 (sV (.slice (some ⟨b9,0,none⟩) 0 0)) 155 (sS a12 n13 c14) 158 (sS a17 n18 c19) 159 (sQ b20 o21) 160 (sQ b20 (o21+2))) (w2 V0 6 (114,k6) 4 (118,k4)) h22))) else False):= by kernel_rfl
def F65_j6 (x0:OA) (k4 k6:List Value) (hp:HP) (K:Kh):Prop:=
  ((∀ b65:Nat,hp b65=.none→(ptrN x0 fun b66 o67=>ldV (HP.cell (HP.set hp b65 (.cells 118 [] 0)) b66 (o67+2)) fun v68=>slcV v68 fun a69 n70 c71=>opS Try.prog (Builtin.append_ #[104,104] 104 ⟨[(.slice (some ⟨b65,0,none⟩) 0 0),(.slice a69 n70 c71)]⟩) (HP.set hp b65 (.cells 118 [] 0)) fun u72 h73=>slcV u72 fun a74 n75 c76=>ldL (cellsN k4 0 7) fun l77=>if List.length l77=7 then (∀ b78:Nat,h73 b78=.none→(opS Try.prog (Builtin.append_ #[104,104] 104 ⟨[(.slice a74 n75 c76),(.slice (some ⟨b78,0,none⟩) 1 1)]⟩) (HP.set h73 b78 (.cells 118 (splice [.string ⟨#[]⟩,.string ⟨#[]⟩,.int .i64 0,.bool false,.string ⟨#[]⟩,.string ⟨#[]⟩,.int .i64 0] 0 l77) 0)) fun u79 h80=>slcV u79 fun a81 n82 c83=>ptrN x0 fun b84 o85=>HP.st h80 b84 (o85+2) (.slice a81 n82 c83) fun h86=>F65_j7 x0 k4 k6 h86  K)) else False))∧(∀ b87:Nat,hp b87=.none→(ptrN x0 fun b88 o89=>ldV (HP.cell (HP.set hp b87 (.cells 118 [] 0)) b88 (o89+2)) fun v90=>slcV v90 fun a91 n92 c93=>ldL (cellsN k4 0 7) fun l94=>if List.length l94=7 then (∀ b95:Nat,(HP.set hp b87 (.cells 118 [] 0)) b95=.none→(opS Try.prog (Builtin.append_ #[104,104] 104 ⟨[(.slice (some ⟨b87,0,none⟩) 0 0),(.slice a91 n92 c93)]⟩) (HP.set (HP.set hp b87 (.cells 118 [] 0)) b95 (.cells 118 (splice [.string ⟨#[]⟩,.string ⟨#[]⟩,.int .i64 0,.bool false,.string ⟨#[]⟩,.string ⟨#[]⟩,.int .i64 0] 0 l94) 0)) fun u96 h97=>slcV u96 fun a98 n99 c100=>opS Try.prog (Builtin.append_ #[104,104] 104 ⟨[(.slice a98 n99 c100),(.slice (some ⟨b95,0,none⟩) 1 1)]⟩) h97 fun u101 h102=>slcV u101 fun a103 n104 c105=>ptrN x0 fun b106 o107=>HP.st h102 b106 (o107+2) (.slice a103 n104 c105) fun h108=>F65_j7 x0 k4 k6 h108  K)) else False))∧(∀ b109:Nat,hp b109=.none→(ptrN x0 fun b110 o111=>ldL (cellsN k4 0 7) fun l112=>if List.length l112=7 then (∀ b113:Nat,(HP.set hp b109 (.cells 118 [] 0)) b113=.none→(ldV (HP.cell (HP.set (HP.set hp b109 (.cells 118 [] 0)) b113 (.cells 118 (splice [.string ⟨#[]⟩,.string ⟨#[]⟩,.int .i64 0,.bool false,.string ⟨#[]⟩,.string ⟨#[]⟩,.int .i64 0] 0 l112) 0)) b110 (o111+2)) fun v114=>slcV v114 fun a115 n116 c117=>opS Try.prog (Builtin.append_ #[104,104] 104 ⟨[(.slice (some ⟨b109,0,none⟩) 0 0),(.slice a115 n116 c117)]⟩) (HP.set (HP.set hp b109 (.cells 118 [] 0)) b113 (.cells 118 (splice [.string ⟨#[]⟩,.string ⟨#[]⟩,.int .i64 0,.bool false,.string ⟨#[]⟩,.string ⟨#[]⟩,.int .i64 0] 0 l112) 0)) fun u118 h119=>slcV u118 fun a120 n121 c122=>opS Try.prog (Builtin.append_ #[104,104] 104 ⟨[(.slice a120 n121 c122),(.slice (some ⟨b113,0,none⟩) 1 1)]⟩) h119 fun u123 h124=>slcV u123 fun a125 n126 c127=>ptrN x0 fun b128 o129=>HP.st h124 b128 (o129+2) (.slice a125 n126 c127) fun h130=>F65_j7 x0 k4 k6 h130  K)) else False))∧(ptrN x0 fun b131 o132=>ldL (cellsN k4 0 7) fun l133=>if List.length l133=7 then (∀ b134:Nat,hp b134=.none→(∀ b135:Nat,(HP.set hp b134 (.cells 118 (splice [.string ⟨#[]⟩,.string ⟨#[]⟩,.int .i64 0,.bool false,.string ⟨#[]⟩,.string ⟨#[]⟩,.int .i64 0] 0 l133) 0)) b135=.none→(ldV (HP.cell (HP.set (HP.set hp b134 (.cells 118 (splice [.string ⟨#[]⟩,.string ⟨#[]⟩,.int .i64 0,.bool false,.string ⟨#[]⟩,.string ⟨#[]⟩,.int .i64 0] 0 l133) 0)) b135 (.cells 118 [] 0)) b131 (o132+2)) fun v136=>slcV v136 fun a137 n138 c139=>opS Try.prog (Builtin.append_ #[104,104] 104 ⟨[(.slice (some ⟨b135,0,none⟩) 0 0),(.slice a137 n138 c139)]⟩) (HP.set (HP.set hp b134 (.cells 118 (splice [.string ⟨#[]⟩,.string ⟨#[]⟩,.int .i64 0,.bool false,.string ⟨#[]⟩,.string ⟨#[]⟩,.int .i64 0] 0 l133) 0)) b135 (.cells 118 [] 0)) fun u140 h141=>slcV u140 fun a142 n143 c144=>opS Try.prog (Builtin.append_ #[104,104] 104 ⟨[(.slice a142 n143 c144),(.slice (some ⟨b134,0,none⟩) 1 1)]⟩) h141 fun u145 h146=>slcV u145 fun a147 n148 c149=>ptrN x0 fun b150 o151=>HP.st h146 b150 (o151+2) (.slice a147 n148 c149) fun h152=>F65_j7 x0 k4 k6 h152  K))) else False)∧(ptrN x0 fun b153 o154=>ldV (HP.cell hp b153 (o154+2)) fun v155=>slcV v155 fun a156 n157 c158=>∀ b159:Nat,hp b159=.none→(opS Try.prog (Builtin.append_ #[104,104] 104 ⟨[(.slice (some ⟨b159,0,none⟩) 0 0),(.slice a156 n157 c158)]⟩) (HP.set hp b159 (.cells 118 [] 0)) fun u160 h161=>slcV u160 fun a162 n163 c164=>ldL (cellsN k4 0 7) fun l165=>if List.length l165=7 then (∀ b166:Nat,h161 b166=.none→(opS Try.prog (Builtin.append_ #[104,104] 104 ⟨[(.slice a162 n163 c164),(.slice (some ⟨b166,0,none⟩) 1 1)]⟩) (HP.set h161 b166 (.cells 118 (splice [.string ⟨#[]⟩,.string ⟨#[]⟩,.int .i64 0,.bool false,.string ⟨#[]⟩,.string ⟨#[]⟩,.int .i64 0] 0 l165) 0)) fun u167 h168=>slcV u167 fun a169 n170 c171=>ptrN x0 fun b172 o173=>HP.st h168 b172 (o173+2) (.slice a169 n170 c171) fun h174=>F65_j7 x0 k4 k6 h174  K)) else False))∧(ptrN x0 fun b175 o176=>ldV (HP.cell hp b175 (o176+2)) fun v177=>slcV v177 fun a178 n179 c180=>∀ b181:Nat,hp b181=.none→(ldL (cellsN k4 0 7) fun l182=>if List.length l182=7 then (∀ b183:Nat,(HP.set hp b181 (.cells 118 [] 0)) b183=.none→(opS Try.prog (Builtin.append_ #[104,104] 104 ⟨[(.slice (some ⟨b181,0,none⟩) 0 0),(.slice a178 n179 c180)]⟩) (HP.set (HP.set hp b181 (.cells 118 [] 0)) b183 (.cells 118 (splice [.string ⟨#[]⟩,.string ⟨#[]⟩,.int .i64 0,.bool false,.string ⟨#[]⟩,.string ⟨#[]⟩,.int .i64 0] 0 l182) 0)) fun u184 h185=>slcV u184 fun a186 n187 c188=>opS Try.prog (Builtin.append_ #[104,104] 104 ⟨[(.slice a186 n187 c188),(.slice (some ⟨b183,0,none⟩) 1 1)]⟩) h185 fun u189 h190=>slcV u189 fun a191 n192 c193=>ptrN x0 fun b194 o195=>HP.st h190 b194 (o195+2) (.slice a191 n192 c193) fun h196=>F65_j7 x0 k4 k6 h196  K)) else False))∧(ptrN x0 fun b197 o198=>ldV (HP.cell hp b197 (o198+2)) fun v199=>slcV v199 fun a200 n201 c202=>ldL (cellsN k4 0 7) fun l203=>if List.length l203=7 then (∀ b204:Nat,hp b204=.none→(∀ b205:Nat,(HP.set hp b204 (.cells 118 (splice [.string ⟨#[]⟩,.string ⟨#[]⟩,.int .i64 0,.bool false,.string ⟨#[]⟩,.string ⟨#[]⟩,.int .i64 0] 0 l203) 0)) b205=.none→(opS Try.prog (Builtin.append_ #[104,104] 104 ⟨[(.slice (some ⟨b205,0,none⟩) 0 0),(.slice a200 n201 c202)]⟩) (HP.set (HP.set hp b204 (.cells 118 (splice [.string ⟨#[]⟩,.string ⟨#[]⟩,.int .i64 0,.bool false,.string ⟨#[]⟩,.string ⟨#[]⟩,.int .i64 0] 0 l203) 0)) b205 (.cells 118 [] 0)) fun u206 h207=>slcV u206 fun a208 n209 c210=>opS Try.prog (Builtin.append_ #[104,104] 104 ⟨[(.slice a208 n209 c210),(.slice (some ⟨b204,0,none⟩) 1 1)]⟩) h207 fun u211 h212=>slcV u211 fun a213 n214 c215=>ptrN x0 fun b216 o217=>HP.st h212 b216 (o217+2) (.slice a213 n214 c215) fun h218=>F65_j7 x0 k4 k6 h218  K))) else False)∧(ptrN x0 fun b219 o220=>ldL (cellsN k4 0 7) fun l221=>if List.length l221=7 then (∀ b222:Nat,hp b222=.none→(ldV (HP.cell (HP.set hp b222 (.cells 118 (splice [.string ⟨#[]⟩,.string ⟨#[]⟩,.int .i64 0,.bool false,.string ⟨#[]⟩,.string ⟨#[]⟩,.int .i64 0] 0 l221) 0)) b219 (o220+2)) fun v223=>slcV v223 fun a224 n225 c226=>∀ b227:Nat,(HP.set hp b222 (.cells 118 (splice [.string ⟨#[]⟩,.string ⟨#[]⟩,.int .i64 0,.bool false,.string ⟨#[]⟩,.string ⟨#[]⟩,.int .i64 0] 0 l221) 0)) b227=.none→(opS Try.prog (Builtin.append_ #[104,104] 104 ⟨[(.slice (some ⟨b227,0,none⟩) 0 0),(.slice a224 n225 c226)]⟩) (HP.set (HP.set hp b222 (.cells 118 (splice [.string ⟨#[]⟩,.string ⟨#[]⟩,.int .i64 0,.bool false,.string ⟨#[]⟩,.string ⟨#[]⟩,.int .i64 0] 0 l221) 0)) b227 (.cells 118 [] 0)) fun u228 h229=>slcV u228 fun a230 n231 c232=>opS Try.prog (Builtin.append_ #[104,104] 104 ⟨[(.slice a230 n231 c232),(.slice (some ⟨b222,0,none⟩) 1 1)]⟩) h229 fun u233 h234=>slcV u233 fun a235 n236 c237=>ptrN x0 fun b238 o239=>HP.st h234 b238 (o239+2) (.slice a235 n236 c237) fun h240=>F65_j7 x0 k4 k6 h240  K))) else False))
theorem F65_r28:R65 20479 3 (upd e 9 (sS x9a x9n x9c)) (w2 V0 6 (114,k6) 4 (118,k4)) hp K=
 K (w4 e 9 (sS x9a x9n x9c) 141 (sS x9a x9n x9c) 142 (sI ((x9n:Nat))) 143 (sB ((decide (((x9n:Nat):Int) > 0))))) (w2 V0 6 (114,k6) 4 (118,k4)) hp:= by kernel_rfl
theorem F65_r29:R65 45055 6 (w2 e 9 (sS x9a x9n x9c) 4 (sR 4 0)) (w2 V0 6 (114,k6) 4 (118,k4)) hp K=
    ((0≤(0:Int))∧((0:Int)<x9n)∧(ptrN x9a fun b1 o2=>ldV (HP.cell hp b1 ((o2+Int.toNat 0*7)+6)) fun v3=>intV v3 .i64 fun i4=>if 6<List.length k4 then (K (w7 e 9 (sS x9a x9n x9c) 4 (sR 4 0) 144 (sS x9a x9n x9c) 145 (sQ b1 (o2+Int.toNat 0*7)) 146 (sQ b1 ((o2+Int.toNat 0*7)+6)) 147 (sI i4) 148 (sR 4 6)) (w3 V0 6 (114,k6) 4 (118,k4) 4 (118,(List.set k4 6 (.int .i64 i4)))) hp) else False)):=by kernel_rfl
def F65_j5 (x0:OA) (x2:Int) (x9a:OA) (x9n x9c:Nat) (x10:Int) (k4 k6:List Value) (hp:HP) (K:Kh):Prop:=
  (ptrN x0 fun b26 o27=>ldV (HP.cell hp b26 (o27+2)) fun v28=>slcV v28 fun a29 n30 c31=>ptrN x0 fun b32 o33=>ldV (HP.cell hp b32 (o33+0)) fun v34=>intV v34 .i64 fun i35=>ite2 (decide (((n30:Nat):Int)≥i35)) (if List.length [(Value.string ⟨#[]⟩),.string ⟨#[]⟩,.string ⟨#[]⟩,.int .i64 0]=4 then (if List.all [(Value.string ⟨#[]⟩),.string ⟨#[]⟩,.string ⟨#[]⟩,.int .i64 0] one=true then (if 0+List.length [(Value.string ⟨#[]⟩),.string ⟨#[]⟩,.string ⟨#[]⟩,.int .i64 0]≤List.length k6 then (ldL (cellsN (splice k6 0 [.string ⟨#[]⟩,.string ⟨#[]⟩,.string ⟨#[]⟩,.int .i64 0]) 0 4) fun l36=>K (.tuple ⟨[(.agg ⟨l36⟩),.bool false,(.int .i64 6)]⟩) hp) else False) else False) else False) (ptrN x0 fun b37 o38=>ldV (HP.cell hp b37 (o38+1)) fun v39=>intV v39 .i64 fun i40=>ite2 (decide (x10≥i40)) (if List.length [(Value.string ⟨#[]⟩),.string ⟨#[]⟩,.string ⟨#[]⟩,.int .i64 0]=4 then (if List.all [(Value.string ⟨#[]⟩),.string ⟨#[]⟩,.string ⟨#[]⟩,.int .i64 0] one=true then (if 0+List.length [(Value.string ⟨#[]⟩),.string ⟨#[]⟩,.string ⟨#[]⟩,.int .i64 0]≤List.length k6 then (ldL (cellsN (splice k6 0 [.string ⟨#[]⟩,.string ⟨#[]⟩,.string ⟨#[]⟩,.int .i64 0]) 0 4) fun l41=>K (.tuple ⟨[(.agg ⟨l41⟩),.bool false,(.int .i64 11)]⟩) hp) else False) else False) else False) (if 6<List.length k4 then (ite2 (decide (((x9n:Nat):Int) > 0)) ((0≤(0:Int))∧((0:Int)<x9n)∧(ptrN x9a fun b241 o242=>ldV (HP.cell hp b241 ((o242+Int.toNat 0*7)+6)) fun v243=>intV v243 .i64 fun i244=>if 6<List.length (List.set k4 6 (.int .i64 x2)) then (F65_j6 x0 (List.set (List.set k4 6 (.int .i64 x2)) 6 (.int .i64 i244)) k6 hp  K) else False)) (F65_j6 x0 (List.set k4 6 (.int .i64 x2)) k6 hp  K)) else False)))
theorem F65_r30:R65 17151 7 (w2 e 12 (sI x12) 0 (sP x0)) (w2 V0 6 (114,k6) 4 (118,k4)) hp K=
 ptrN x0 fun b1 o2=>(ldV (HP.cell hp b1 (o2+2)) fun v3=>slcV v3 fun a4 n5 c6=>K (upd (w8 e 12 (sI x12) 0 (sP x0) 99 (sI x12) 100 (sP x0) 101 (sQ b1 o2) 102 (sQ b1 (o2+2)) 103 (sS a4 n5 c6) 104 (sI ((n5:Nat)))) 105 (sB ((decide (x12<n5))))) (w2 V0 6 (114,k6) 4 (118,k4)) hp):= by kernel_rfl
theorem F65_r31:R65 29439 3 (upd e 12 (sI x12)) (w2 V0 6 (114,k6) 4 (118,k4)) hp K=
 K (w4 e 12 (sI x12) 106 (sI x12) 107 (sI ((wr (x12+1)))) 12 (sI ((wr (x12+1))))) (w2 V0 6 (114,k6) 4 (118,k4)) hp:= by kernel_rfl
def F65_j10 (x0:OA) (x2:Int) (x9a:OA) (x9n x9c:Nat) (x10 x12:Int) (k4 k6:List Value) (hp:HP) (I9:(Int × Int)→HP→Prop) (K:Kh):Prop:=
  (I9 (x10,(IntKind.wrap .i64 (x12+1))) hp)
theorem F65_r32 (h:E=upd (w2 e 12 (sI x12) 4 (sR 4 0)) 0 (sP x0)):R65 70399 11 E (w2 V0 6 (114,k6) 4 (118,k4)) hp K=
    (ptrN x0 fun b1 o2=>ldV (HP.cell hp b1 (o2+2)) fun v3=>slcV v3 fun a4 n5 c6=>(0≤x12)∧(x12<n5)∧(ptrN a4 fun b7 o8=>ldV (HP.cell hp b7 ((o8+Int.toNat x12*7)+1)) fun v9=>strV v9 fun s10=>ldV (k4)[1]? fun v11=>strV v11 fun s12=>K (w3 (w8 E 108 (sP x0) 109 (sQ b1 o2) 110 (sQ b1 (o2+2)) 111 (sS a4 n5 c6) 112 (sI x12) 113 (sQ b7 (o8+Int.toNat x12*7)) 114 (sQ b7 ((o8+Int.toNat x12*7)+1)) 115 (sT s10)) 116 (sR 4 1) 117 (sT s12) 118 (sB (((ByteArray.toList s10)==(ByteArray.toList s12))))) (w2 V0 6 (114,k6) 4 (118,k4)) hp)):=by subst h; kernel_rfl
theorem F65_r33:R65 168703 3 (upd e 10 (sI x10)) (w2 V0 6 (114,k6) 4 (118,k4)) hp K=
 K (w4 e 10 (sI x10) 119 (sI x10) 120 (sI ((wr (x10+1)))) 10 (sI ((wr (x10+1))))) (w2 V0 6 (114,k6) 4 (118,k4)) hp:= by kernel_rfl
def F65_l9 (x0:OA) (x2:Int) (x9a:OA) (x9n x9c:Nat) (k4 k6:List Value) (K:Kh) (I9:(Int × Int)→HP→Prop) (x10 x12:Int) (hp:HP):Prop:=
  (ptrN x0 fun b245 o246=>ldV (HP.cell hp b245 (o246+2)) fun v247=>slcV v247 fun a248 n249 c250=>ite2 (decide (x12<n249)) (ptrN x0 fun b251 o252=>ldV (HP.cell hp b251 (o252+2)) fun v253=>slcV v253 fun a254 n255 c256=>(0≤x12)∧(x12<n255)∧(ptrN a254 fun b257 o258=>ldV (HP.cell hp b257 ((o258+Int.toNat x12*7)+1)) fun v259=>strV v259 fun s260=>ldV (k4)[1]? fun v261=>strV v261 fun s262=>ite2 ((ByteArray.toList s260)==(ByteArray.toList s262)) (F65_j10 x0 x2 x9a x9n x9c (IntKind.wrap .i64 (x10+1)) x12 k4 k6 hp I9 K) (F65_j10 x0 x2 x9a x9n x9c x10 x12 k4 k6 hp I9 K))) (F65_j5 x0 x2 x9a x9n x9c x10 k4 k6 hp  K))
def F65_j8 (x0:OA) (x2:Int) (x9a:OA) (x9n x9c:Nat) (x10 x12:Int) (k4 k6:List Value) (hp:HP) (K:Kh):Prop:=
  (LoopP (σ:=Int × Int) (fun I s hp=>F65_l9 x0 x2 x9a x9n x9c k4 k6  K I s.1 s.2 hp) (x10,x12) hp)
theorem F65_r34:R65 1279 1 e (w2 V0 6 (114,k6) 4 (118,k4)) hp K=
 K (upd e 12 (sI 0)) (w2 V0 6 (114,k6) 4 (118,k4)) hp:= by kernel_rfl
def F65_j4 (x0:OA) (x2:Int) (x9a:OA) (x9n x9c:Nat) (x10:Int) (x91:Bool) (k4 k6:List Value) (hp:HP) (K:Kh):Prop:=
  (ite2 x91 (ldV (k4)[0]? fun v19=>strV v19 fun s20=>ldV (k4)[5]? fun v21=>strV v21 fun s22=>ldV (k4)[4]? fun v23=>strV v23 fun s24=>if List.length [(Value.string s20),(.string s22),(.string s24),(.int .i64 1)]=4 then (if List.all [(Value.string s20),(.string s22),(.string s24),(.int .i64 1)] one=true then (if 0+List.length [(Value.string s20),(.string s22),(.string s24),(.int .i64 1)]≤List.length k6 then (ldL (cellsN (splice k6 0 [(.string s20),(.string s22),(.string s24),(.int .i64 1)]) 0 4) fun l25=>K (.tuple ⟨[(.agg ⟨l25⟩),(.bool true),.int .i64 0]⟩) hp) else False) else False) else False) (F65_j8 x0 x2 x9a x9n x9c x10 0 k4 k6 hp  K))
theorem F65_r35 (h:E=upd (upd e 9 (sS x9a x9n x9c)) 4 (sR 4 0)):R65 639 13 E (w2 V0 6 (114,k6) 4 (118,k4)) hp K=
 ite2 (((x9n:Nat):Int)==0) (ldV (k4)[2]? fun v1=>intV v1 .i64 fun i2=>ite2 (i2==0) (ldV (k4)[3]? fun v3=>boolV v3 fun q4=>K (w5 (w8 E 79 (sS x9a x9n x9c) 80 (sI ((x9n:Nat))) 81 (sB ((((x9n:Nat):Int)==0))) 82 (sB true) 83 (sR 4 2) 84 (sI i2) 85 (sB ((i2==0))) 86 (sB ((i2==0)))) 87 (sB true) 88 (sR 4 3) 89 (sB q4) 90 (sB ((!q4))) 91 (sB ((!q4)))) (w2 V0 6 (114,k6) 4 (118,k4)) hp) (K (w5 (w8 E 79 (sS x9a x9n x9c) 80 (sI ((x9n:Nat))) 81 (sB ((((x9n:Nat):Int)==0))) 82 (sB true) 83 (sR 4 2) 84 (sI i2) 85 (sB ((i2==0))) 86 (sB ((i2==0)))) 87 (sB false) 88 sU 89 sU 90 sU 91 (sB false)) (w2 V0 6 (114,k6) 4 (118,k4)) hp)) (K (w5 (w8 E 79 (sS x9a x9n x9c) 80 (sI ((x9n:Nat))) 81 (sB ((((x9n:Nat):Int)==0))) 82 (sB false) 83 sU 84 sU 85 sU 86 (sB false)) 87 (sB false) 88 sU 89 sU 90 sU 91 (sB false)) (w2 V0 6 (114,k6) 4 (118,k4)) hp):= by subst h; kernel_rfl
def F65_j3 (x0:OA) (x2:Int) (x9a:OA) (x9n x9c:Nat) (x10:Int) (x73:Bool) (k4 k6:List Value) (hp:HP) (K:Kh):Prop:=
  (ite2 x73 (ldV (k4)[0]? fun v14=>strV v14 fun s15=>CF Try.prog 112 [(.pointer x0),(.string s15)] hp fun u16 h17=>if List.length [(Value.string ⟨#[]⟩),.string ⟨#[]⟩,.string ⟨#[]⟩,.int .i64 0]=4 then (if List.all [(Value.string ⟨#[]⟩),.string ⟨#[]⟩,.string ⟨#[]⟩,.int .i64 0] one=true then (if 0+List.length [(Value.string ⟨#[]⟩),.string ⟨#[]⟩,.string ⟨#[]⟩,.int .i64 0]≤List.length k6 then (ldL (cellsN (splice k6 0 [.string ⟨#[]⟩,.string ⟨#[]⟩,.string ⟨#[]⟩,.int .i64 0]) 0 4) fun l18=>K (.tuple ⟨[(.agg ⟨l18⟩),.bool false,(.int .i64 5)]⟩) h17) else False) else False) else False) (ite2 (((x9n:Nat):Int)==0) (ldV (k4)[2]? fun v263=>intV v263 .i64 fun i264=>ite2 (i264==0) (ldV (k4)[3]? fun v265=>boolV v265 fun q266=>F65_j4 x0 x2 x9a x9n x9c x10 (!q266) k4 k6 hp  K) (F65_j4 x0 x2 x9a x9n x9c x10 false k4 k6 hp  K)) (F65_j4 x0 x2 x9a x9n x9c x10 false k4 k6 hp  K)))
theorem F65_r36 {e:Env} {x9a:OA} {x9n:Nat} {x9c:Nat} {k4:List Value} {k6:List Value} {hp:HP} {K:Env→PV→HP→Prop}:RW Try.prog 185 [4,6,28,42,51,61,75,83,88,92,94,96,116,140,148,162,175,178] (opsAt Try.f65 (pth 319)) [0,1,2,3,4,5,6,7] (w2 e 9 (sS x9a x9n x9c) 4 (sR 4 0)) (w2 V0 6 (114,k6) 4 (118,k4)) hp K=
    (∀ b1:Nat,hp b1=.none→(opS Try.prog (Builtin.append_ #[104,104] 104 ⟨[(.slice (some ⟨b1,0,none⟩) 0 0),(.slice x9a x9n x9c)]⟩) (HP.set hp b1 (.cells 118 [] 0)) fun u2 h3=>slcV u2 fun a4 n5 c6=>ldL (cellsN k4 0 7) fun l7=>if List.length l7=7 then (∀ b8:Nat,h3 b8=.none→(opS Try.prog (Builtin.append_ #[104,104] 104 ⟨[(.slice a4 n5 c6),(.slice (some ⟨b8,0,none⟩) 1 1)]⟩) (HP.set h3 b8 (.cells 118 (splice [.string ⟨#[]⟩,.string ⟨#[]⟩,.int .i64 0,.bool false,.string ⟨#[]⟩,.string ⟨#[]⟩,.int .i64 0] 0 l7) 0)) fun u9 h10=>slcV u9 fun a11 n12 c13=>CF Try.prog 113 [(.slice a11 n12 c13)] h10 fun u14 h15=>boolV u14 fun q16=>K (w2 (w8 e 9 (sS x9a x9n x9c) 4 (sR 4 0) 66 (sV (.slice (some ⟨b1,0,none⟩) 0 0)) 67 (sS x9a x9n x9c) 68 (sS a4 n5 c6) 69 (sA l7) 70 (sV (.slice (some ⟨b8,0,none⟩) 1 1)) 71 (sS a11 n12 c13)) 72 (sB q16) 73 (sB ((!q16)))) (w2 V0 6 (114,k6) 4 (118,k4)) h15)) else False)):=by kernel_rfl
theorem F65_r37 {e:Env} {x9a:OA} {x9n:Nat} {x9c:Nat} {k4:List Value} {k6:List Value} {hp:HP} {K:Env→PV→HP→Prop}:RW Try.prog 185 [4,6,28,42,51,61,75,83,88,92,94,96,116,140,148,162,175,178] (opsAt Try.f65 (pth 319)) [0,1,3,4,2,5,6,7] (w2 e 9 (sS x9a x9n x9c) 4 (sR 4 0)) (w2 V0 6 (114,k6) 4 (118,k4)) hp K=
    (∀ b1:Nat,hp b1=.none→(ldL (cellsN k4 0 7) fun l2=>if List.length l2=7 then (∀ b3:Nat,(HP.set hp b1 (.cells 118 [] 0)) b3=.none→(opS Try.prog (Builtin.append_ #[104,104] 104 ⟨[(.slice (some ⟨b1,0,none⟩) 0 0),(.slice x9a x9n x9c)]⟩) (HP.set (HP.set hp b1 (.cells 118 [] 0)) b3 (.cells 118 (splice [.string ⟨#[]⟩,.string ⟨#[]⟩,.int .i64 0,.bool false,.string ⟨#[]⟩,.string ⟨#[]⟩,.int .i64 0] 0 l2) 0)) fun u4 h5=>slcV u4 fun a6 n7 c8=>opS Try.prog (Builtin.append_ #[104,104] 104 ⟨[(.slice a6 n7 c8),(.slice (some ⟨b3,0,none⟩) 1 1)]⟩) h5 fun u9 h10=>slcV u9 fun a11 n12 c13=>CF Try.prog 113 [(.slice a11 n12 c13)] h10 fun u14 h15=>boolV u14 fun q16=>K (w2 (w8 e 9 (sS x9a x9n x9c) 4 (sR 4 0) 66 (sV (.slice (some ⟨b1,0,none⟩) 0 0)) 67 (sS x9a x9n x9c) 69 (sA l2) 70 (sV (.slice (some ⟨b3,0,none⟩) 1 1)) 68 (sS a6 n7 c8) 71 (sS a11 n12 c13)) 72 (sB q16) 73 (sB ((!q16)))) (w2 V0 6 (114,k6) 4 (118,k4)) h15)) else False)):=by kernel_rfl
theorem F65_r38 {e:Env} {x9a:OA} {x9n:Nat} {x9c:Nat} {k4:List Value} {k6:List Value} {hp:HP} {K:Env→PV→HP→Prop}:RW Try.prog 185 [4,6,28,42,51,61,75,83,88,92,94,96,116,140,148,162,175,178] (opsAt Try.f65 (pth 319)) [1,3,4,0,2,5,6,7] (w2 e 9 (sS x9a x9n x9c) 4 (sR 4 0)) (w2 V0 6 (114,k6) 4 (118,k4)) hp K=
 ldL (cellsN k4 0 7) fun l1=>(if List.length l1=7 then (∀ b2:Nat,hp b2=.none→(∀ b3:Nat,(HP.set hp b2 (.cells 118 (splice [.string ⟨#[]⟩,.string ⟨#[]⟩,.int .i64 0,.bool false,.string ⟨#[]⟩,.string ⟨#[]⟩,.int .i64 0] 0 l1) 0)) b3=.none→(opS Try.prog (Builtin.append_ #[104,104] 104 ⟨[(.slice (some ⟨b3,0,none⟩) 0 0),(.slice x9a x9n x9c)]⟩) (HP.set (HP.set hp b2 (.cells 118 (splice [.string ⟨#[]⟩,.string ⟨#[]⟩,.int .i64 0,.bool false,.string ⟨#[]⟩,.string ⟨#[]⟩,.int .i64 0] 0 l1) 0)) b3 (.cells 118 [] 0)) fun u4 h5=>slcV u4 fun a6 n7 c8=>opS Try.prog (Builtin.append_ #[104,104] 104 ⟨[(.slice a6 n7 c8),(.slice (some ⟨b2,0,none⟩) 1 1)]⟩) h5 fun u9 h10=>slcV u9 fun a11 n12 c13=>CF Try.prog 113 [(.slice a11 n12 c13)] h10 fun u14 h15=>boolV u14 fun q16=>K (w2 (w8 e 9 (sS x9a x9n x9c) 4 (sR 4 0) 67 (sS x9a x9n x9c) 69 (sA l1) 70 (sV (.slice (some ⟨b2,0,none⟩) 1 1)) 66 (sV (.slice (some ⟨b3,0,none⟩) 0 0)) 68 (sS a6 n7 c8) 71 (sS a11 n12 c13)) 72 (sB q16) 73 (sB ((!q16)))) (w2 V0 6 (114,k6) 4 (118,k4)) h15))) else False):= by kernel_rfl
def F65_j2 (x0:OA) (x2:Int) (x9a:OA) (x9n x9c:Nat) (x10:Int) (k4 k6:List Value) (hp:HP) (K:Kh):Prop:=
  ((∀ b267:Nat,hp b267=.none→(opS Try.prog (Builtin.append_ #[104,104] 104 ⟨[(.slice (some ⟨b267,0,none⟩) 0 0),(.slice x9a x9n x9c)]⟩) (HP.set hp b267 (.cells 118 [] 0)) fun u268 h269=>slcV u268 fun a270 n271 c272=>ldL (cellsN k4 0 7) fun l273=>if List.length l273=7 then (∀ b274:Nat,h269 b274=.none→(opS Try.prog (Builtin.append_ #[104,104] 104 ⟨[(.slice a270 n271 c272),(.slice (some ⟨b274,0,none⟩) 1 1)]⟩) (HP.set h269 b274 (.cells 118 (splice [.string ⟨#[]⟩,.string ⟨#[]⟩,.int .i64 0,.bool false,.string ⟨#[]⟩,.string ⟨#[]⟩,.int .i64 0] 0 l273) 0)) fun u275 h276=>slcV u275 fun a277 n278 c279=>CF Try.prog 113 [(.slice a277 n278 c279)] h276 fun u280 h281=>boolV u280 fun q282=>F65_j3 x0 x2 x9a x9n x9c x10 (!q282) k4 k6 h281  K)) else False))∧(∀ b283:Nat,hp b283=.none→(ldL (cellsN k4 0 7) fun l284=>if List.length l284=7 then (∀ b285:Nat,(HP.set hp b283 (.cells 118 [] 0)) b285=.none→(opS Try.prog (Builtin.append_ #[104,104] 104 ⟨[(.slice (some ⟨b283,0,none⟩) 0 0),(.slice x9a x9n x9c)]⟩) (HP.set (HP.set hp b283 (.cells 118 [] 0)) b285 (.cells 118 (splice [.string ⟨#[]⟩,.string ⟨#[]⟩,.int .i64 0,.bool false,.string ⟨#[]⟩,.string ⟨#[]⟩,.int .i64 0] 0 l284) 0)) fun u286 h287=>slcV u286 fun a288 n289 c290=>opS Try.prog (Builtin.append_ #[104,104] 104 ⟨[(.slice a288 n289 c290),(.slice (some ⟨b285,0,none⟩) 1 1)]⟩) h287 fun u291 h292=>slcV u291 fun a293 n294 c295=>CF Try.prog 113 [(.slice a293 n294 c295)] h292 fun u296 h297=>boolV u296 fun q298=>F65_j3 x0 x2 x9a x9n x9c x10 (!q298) k4 k6 h297  K)) else False))∧(ldL (cellsN k4 0 7) fun l299=>if List.length l299=7 then (∀ b300:Nat,hp b300=.none→(∀ b301:Nat,(HP.set hp b300 (.cells 118 (splice [.string ⟨#[]⟩,.string ⟨#[]⟩,.int .i64 0,.bool false,.string ⟨#[]⟩,.string ⟨#[]⟩,.int .i64 0] 0 l299) 0)) b301=.none→(opS Try.prog (Builtin.append_ #[104,104] 104 ⟨[(.slice (some ⟨b301,0,none⟩) 0 0),(.slice x9a x9n x9c)]⟩) (HP.set (HP.set hp b300 (.cells 118 (splice [.string ⟨#[]⟩,.string ⟨#[]⟩,.int .i64 0,.bool false,.string ⟨#[]⟩,.string ⟨#[]⟩,.int .i64 0] 0 l299) 0)) b301 (.cells 118 [] 0)) fun u302 h303=>slcV u302 fun a304 n305 c306=>opS Try.prog (Builtin.append_ #[104,104] 104 ⟨[(.slice a304 n305 c306),(.slice (some ⟨b300,0,none⟩) 1 1)]⟩) h303 fun u307 h308=>slcV u307 fun a309 n310 c311=>CF Try.prog 113 [(.slice a309 n310 c311)] h308 fun u312 h313=>boolV u312 fun q314=>F65_j3 x0 x2 x9a x9n x9c x10 (!q314) k4 k6 h313  K))) else False))
theorem F65_r39:R65 2143 4 (w2 e 11 (sI x11) 9 (sS x9a x9n x9c)) (w2 V0 6 (114,k6) 4 (118,k4)) hp K=
 K (w6 e 11 (sI x11) 9 (sS x9a x9n x9c) 31 (sI x11) 32 (sS x9a x9n x9c) 33 (sI ((x9n:Nat))) 34 (sB ((decide (x11<x9n))))) (w2 V0 6 (114,k6) 4 (118,k4)) hp:= by kernel_rfl
theorem F65_r40:R65 37471 4 (upd e 6 (sR 6 0)) (upd V0 6 (114,k6)) hp K=
    (if List.length [(Value.string ⟨#[]⟩),.string ⟨#[]⟩,.string ⟨#[]⟩,.int .i64 0]=4 then (if List.all [(Value.string ⟨#[]⟩),.string ⟨#[]⟩,.string ⟨#[]⟩,.int .i64 0] one=true then (if 0+List.length [(Value.string ⟨#[]⟩),.string ⟨#[]⟩,.string ⟨#[]⟩,.int .i64 0]≤List.length k6 then (K (w4 e 6 (sR 6 0) 65 (sV (.agg ⟨[.string ⟨#[]⟩,.string ⟨#[]⟩,.string ⟨#[]⟩,.int .i64 0]⟩)) 7 (sB false) 8 (sI 0)) (w2 V0 6 (114,k6) 6 (114,(splice k6 0 [.string ⟨#[]⟩,.string ⟨#[]⟩,.string ⟨#[]⟩,.int .i64 0]))) hp) else False) else False) else False):=by kernel_rfl
theorem F65_r41:R65 3679 3 (upd e 11 (sI x11)) (w2 V0 6 (114,k6) 4 (118,k4)) hp K=
 K (w4 e 11 (sI x11) 35 (sI x11) 36 (sI ((wr (x11+1)))) 11 (sI ((wr (x11+1))))) (w2 V0 6 (114,k6) 4 (118,k4)) hp:= by kernel_rfl
def F65_j13 (x0:OA) (x2:Int) (x9a:OA) (x9n x9c:Nat) (x10 x11:Int) (x64:Bool) (k4 k6:List Value) (hp:HP) (I12:(Int × (List Value))→HP→Prop) (K:Kh):Prop:=
  (ite2 x64 (if List.length [(Value.string ⟨#[]⟩),.string ⟨#[]⟩,.string ⟨#[]⟩,.int .i64 0]=4 then (if List.all [(Value.string ⟨#[]⟩),.string ⟨#[]⟩,.string ⟨#[]⟩,.int .i64 0] one=true then (if 0+List.length [(Value.string ⟨#[]⟩),.string ⟨#[]⟩,.string ⟨#[]⟩,.int .i64 0]≤List.length k6 then (ldL (cellsN (splice k6 0 [.string ⟨#[]⟩,.string ⟨#[]⟩,.string ⟨#[]⟩,.int .i64 0]) 0 4) fun l315=>K (.tuple ⟨[(.agg ⟨l315⟩),.bool false,.int .i64 0]⟩) hp) else False) else False) else False) (I12 ((IntKind.wrap .i64 (x11+1)),k6) hp))
theorem F65_r42 (h:E=upd (w2 e 11 (sI x11) 9 (sS x9a x9n x9c)) 4 (sR 4 0)):R65 8799 28 E (w2 V0 6 (114,k6) 4 (118,k4)) hp K=
    ((0≤x11)∧(x11<x9n)∧(ptrN x9a fun b1 o2=>ldV (HP.cell hp b1 ((o2+Int.toNat x11*7)+2)) fun v3=>intV v3 .i64 fun i4=>ldV (k4)[2]? fun v5=>intV v5 .i64 fun i6=>ite2 (i4==i6) ((0≤x11)∧(x11<x9n)∧(ptrN x9a fun b7 o8=>ldV (HP.cell hp b7 ((o8+Int.toNat x11*7)+3)) fun v9=>boolV v9 fun q10=>ldV (k4)[3]? fun v11=>boolV v11 fun q12=>ite2 (q10==q12) ((0≤x11)∧(x11<x9n)∧(ptrN x9a fun b13 o14=>ldV (HP.cell hp b13 ((o14+Int.toNat x11*7)+4)) fun v15=>strV v15 fun s16=>ldV (k4)[4]? fun v17=>strV v17 fun s18=>K (w4 (w8 (w8 (w8 E 37 (sS x9a x9n x9c) 38 (sI x11) 39 (sQ b1 (o2+Int.toNat x11*7)) 40 (sQ b1 ((o2+Int.toNat x11*7)+2)) 41 (sI i4) 42 (sR 4 2) 43 (sI i6) 44 (sB ((i4==i6)))) 45 (sB true) 46 (sS x9a x9n x9c) 47 (sI x11) 48 (sQ b7 (o8+Int.toNat x11*7)) 49 (sQ b7 ((o8+Int.toNat x11*7)+3)) 50 (sB q10) 51 (sR 4 3) 52 (sB q12)) 53 (sB ((q10==q12))) 54 (sB ((q10==q12))) 55 (sB true) 56 (sS x9a x9n x9c) 57 (sI x11) 58 (sQ b13 (o14+Int.toNat x11*7)) 59 (sQ b13 ((o14+Int.toNat x11*7)+4)) 60 (sT s16)) 61 (sR 4 4) 62 (sT s18) 63 (sB (((ByteArray.toList s16)==(ByteArray.toList s18)))) 64 (sB (((ByteArray.toList s16)==(ByteArray.toList s18))))) (w2 V0 6 (114,k6) 4 (118,k4)) hp)) (K (w4 (w8 (w8 (w8 E 37 (sS x9a x9n x9c) 38 (sI x11) 39 (sQ b1 (o2+Int.toNat x11*7)) 40 (sQ b1 ((o2+Int.toNat x11*7)+2)) 41 (sI i4) 42 (sR 4 2) 43 (sI i6) 44 (sB ((i4==i6)))) 45 (sB true) 46 (sS x9a x9n x9c) 47 (sI x11) 48 (sQ b7 (o8+Int.toNat x11*7)) 49 (sQ b7 ((o8+Int.toNat x11*7)+3)) 50 (sB q10) 51 (sR 4 3) 52 (sB q12)) 53 (sB ((q10==q12))) 54 (sB ((q10==q12))) 55 (sB false) 56 sU 57 sU 58 sU 59 sU 60 sU) 61 sU 62 sU 63 sU 64 (sB false)) (w2 V0 6 (114,k6) 4 (118,k4)) hp))) (K (w4 (w8 (w8 (w8 E 37 (sS x9a x9n x9c) 38 (sI x11) 39 (sQ b1 (o2+Int.toNat x11*7)) 40 (sQ b1 ((o2+Int.toNat x11*7)+2)) 41 (sI i4) 42 (sR 4 2) 43 (sI i6) 44 (sB ((i4==i6)))) 45 (sB false) 46 sU 47 sU 48 sU 49 sU 50 sU 51 sU 52 sU) 53 sU 54 (sB false) 55 (sB false) 56 sU 57 sU 58 sU 59 sU 60 sU) 61 sU 62 sU 63 sU 64 (sB false)) (w2 V0 6 (114,k6) 4 (118,k4)) hp))):=by subst h; kernel_rfl
def F65_l12 (x0:OA) (x2:Int) (x9a:OA) (x9n x9c:Nat) (x10:Int) (k4:List Value) (K:Kh) (I12:(Int × (List Value))→HP→Prop) (x11:Int) (k6:List Value) (hp:HP):Prop:=
  (ite2 (decide (x11<x9n)) ((0≤x11)∧(x11<x9n)∧(ptrN x9a fun b316 o317=>ldV (HP.cell hp b316 ((o317+Int.toNat x11*7)+2)) fun v318=>intV v318 .i64 fun i319=>ldV (k4)[2]? fun v320=>intV v320 .i64 fun i321=>ite2 (i319==i321) ((0≤x11)∧(x11<x9n)∧(ptrN x9a fun b322 o323=>ldV (HP.cell hp b322 ((o323+Int.toNat x11*7)+3)) fun v324=>boolV v324 fun q325=>ldV (k4)[3]? fun v326=>boolV v326 fun q327=>ite2 (q325==q327) ((0≤x11)∧(x11<x9n)∧(ptrN x9a fun b328 o329=>ldV (HP.cell hp b328 ((o329+Int.toNat x11*7)+4)) fun v330=>strV v330 fun s331=>ldV (k4)[4]? fun v332=>strV v332 fun s333=>F65_j13 x0 x2 x9a x9n x9c x10 x11 ((ByteArray.toList s331)==(ByteArray.toList s333)) k4 k6 hp I12 K)) (F65_j13 x0 x2 x9a x9n x9c x10 x11 false k4 k6 hp I12 K))) (F65_j13 x0 x2 x9a x9n x9c x10 x11 false k4 k6 hp I12 K))) (F65_j2 x0 x2 x9a x9n x9c x10 k4 k6 hp  K))
def F65_j11 (x0:OA) (x2:Int) (x9a:OA) (x9n x9c:Nat) (x10 x11:Int) (k4 k6:List Value) (hp:HP) (K:Kh):Prop:=
  (LoopP (σ:=Int × (List Value)) (fun I s hp=>F65_l12 x0 x2 x9a x9n x9c x10 k4  K I s.1 s.2 hp) (x11,k6) hp)
theorem F65_r43:R65 159 1 e (w2 V0 6 (114,k6) 4 (118,k4)) hp K=
 K (upd e 11 (sI 0)) (w2 V0 6 (114,k6) 4 (118,k4)) hp:= by kernel_rfl
def F65_j1 (x0:OA) (x2:Int) (x21:Bool) (k4 k6:List Value) (hp:HP) (K:Kh):Prop:=
  (ite2 x21 (if List.length [(Value.string ⟨#[]⟩),.string ⟨#[]⟩,.string ⟨#[]⟩,.int .i64 0]=4 then (if List.all [(Value.string ⟨#[]⟩),.string ⟨#[]⟩,.string ⟨#[]⟩,.int .i64 0] one=true then (if 0+List.length [(Value.string ⟨#[]⟩),.string ⟨#[]⟩,.string ⟨#[]⟩,.int .i64 0]≤List.length k6 then (ldL (cellsN (splice k6 0 [.string ⟨#[]⟩,.string ⟨#[]⟩,.string ⟨#[]⟩,.int .i64 0]) 0 4) fun l1=>K (.tuple ⟨[(.agg ⟨l1⟩),.bool false,(.int .i64 1)]⟩) hp) else False) else False) else False) (ldL (cellsN k4 0 7) fun l2=>CF Try.prog 68 [(.agg ⟨l2⟩)] hp fun u3 h4=>boolV u3 fun q5=>ite2 (!q5) (if List.length [(Value.string ⟨#[]⟩),.string ⟨#[]⟩,.string ⟨#[]⟩,.int .i64 0]=4 then (if List.all [(Value.string ⟨#[]⟩),.string ⟨#[]⟩,.string ⟨#[]⟩,.int .i64 0] one=true then (if 0+List.length [(Value.string ⟨#[]⟩),.string ⟨#[]⟩,.string ⟨#[]⟩,.int .i64 0]≤List.length k6 then (ldL (cellsN (splice k6 0 [.string ⟨#[]⟩,.string ⟨#[]⟩,.string ⟨#[]⟩,.int .i64 0]) 0 4) fun l6=>K (.tuple ⟨[(.agg ⟨l6⟩),.bool false,(.int .i64 8)]⟩) h4) else False) else False) else False) (ldV (k4)[0]? fun v7=>strV v7 fun s8=>CF Try.prog 111 [(.pointer x0),(.string s8)] h4 fun u9 h10=>slcV u9 fun a11 n12 c13=>F65_j11 x0 x2 a11 n12 c13 0 0 k4 k6 h10  K)))
theorem F65_r44:R65 9 6 (upd e 2 (sI x2)) (w2 V0 6 (114,k6) 4 (118,k4)) hp K=
 ite2 (decide (x2<0)) (K (w7 e 2 (sI x2) 16 (sI x2) 17 (sB (decide (x2<0))) 18 (sB true) 19 sU 20 sU 21 (sB true)) (w2 V0 6 (114,k6) 4 (118,k4)) hp) (K (w7 e 2 (sI x2) 16 (sI x2) 17 (sB (decide (x2<0))) 18 (sB false) 19 (sI x2) 20 (sB (decide (x2 > 4611686018427387904))) 21 (sB (decide (x2 > 4611686018427387904)))) (w2 V0 6 (114,k6) 4 (118,k4)) hp):= by kernel_rfl
def F65 (x0:OA) (x1:List Value) (x2:Int) (hp:HP) (K:Kh):Prop:=
  (ite2 (decide (x2<0)) (F65_j1 x0 x2 true x1 [.string ⟨#[]⟩,.string ⟨#[]⟩,.string ⟨#[]⟩,.int .i64 0] hp  K) (F65_j1 x0 x2 (decide (x2 > 4611686018427387904)) x1 [.string ⟨#[]⟩,.string ⟨#[]⟩,.string ⟨#[]⟩,.int .i64 0] hp  K))
noncomputable abbrev o65 (k n:Nat):Code:=.region k (opsAt Try.f65 (pth n)) false
noncomputable def F65_code:Code:=(.seq (o65 0 2) (.seq (.seq (o65 1 9) (.cond (.tmp 21) (.seq (o65 2 37) .ret) .skip)) (.seq (.seq (o65 3 19) (.cond (.tmp 25) (.seq (o65 4 75) .ret) .skip)) (.seq (o65 5 23) (.seq (o65 6 47) (.seq (.seq (o65 7 159) (.block 0 (.loop (.seq (.seq (o65 8 2143) (.cond (.tmp 34) .skip (.exit 0))) (.seq (.block 1 (.seq (.region 10 (opsAt Try.f65 (pth 8799)) true) (.cond (.tmp 64) (.seq (o65 11 37471) .ret) .skip))) (o65 9 3679)))))) (.seq (.seq (.region 12 (opsAt Try.f65 (pth 319)) true) (.cond (.tmp 73) (.seq (o65 13 1215) (.seq (o65 14 2751) .ret)) .skip)) (.seq (.seq (o65 15 639) (.cond (.tmp 91) (.seq (o65 16 2431) .ret) .skip)) (.seq (.seq (o65 17 1279) (.block 2 (.loop (.seq (.seq (o65 18 17151) (.cond (.tmp 105) .skip (.exit 2))) (.seq (.block 3 (.seq (.region 20 (opsAt Try.f65 (pth 70399)) true) (.cond (.tmp 118) (o65 21 168703) .skip))) (o65 19 29439)))))) (.seq (.seq (.region 22 (opsAt Try.f65 (pth 2559)) true) (.cond (.tmp 130) (.seq (o65 23 9727) .ret) .skip)) (.seq (.seq (o65 24 5119) (.cond (.tmp 137) (.seq (o65 25 19455) .ret) .skip)) (.seq (o65 26 6143) (.seq (.seq (o65 27 20479) (.cond (.tmp 143) (o65 28 45055) .skip)) (.seq (.region 29 (opsAt Try.f65 (pth 24575)) true) (.seq (o65 30 49151) (.seq (o65 31 98303) (.seq (.seq (o65 32 327679) (.cond (.tmp 172) (.seq (o65 33 1245183) .ret) .skip)) (.seq (o65 34 393215) (.seq (o65 35 786431) .ret)))))))))))))))))))
theorem F65_body:Try.f65.body=some F65_code:=by kernel_rfl
theorem F65_ok (x0:OA) (x1:List Value) (x2:Int) (hp:HP) (K:Kh) (h:F65 x0 x1 x2 hp K):CF Try.prog 65 [(.pointer x0),(.agg ⟨x1⟩),(.int .i64 x2)] hp K:=by
 refine .inl ⟨by kernel_rfl,AC.intro (N:=185) Try.func65 F65_body rfl (Nat.le_of_ble_eq_true rfl) ?_⟩
 unfold F65 at h
 refine Ar F65_r0 ?_ (r3 1 0 2 Rn) (z3 Sn) Sn
 refine Aq (As (fun env pv hp=>∃ x0 x2 x21 k4 k6,Sub (w5 E0 21 (sB x21) 6 (sR 6 0) 4 (sR 4 0) 2 (sI x2) 0 (sP x0)) env∧Sub (w2 V0 6 (114,k6) 4 (118,k4)) pv∧(F65_j1 x0 x2 x21 k4 k6 hp  K)) ?_ ?_)
 ·refine Ag F65_r44 ?_ (r2 2 0 (rp 4 4 0 (rp 6 6 0 Rn))) (z4 Sn) (z2 Sn)
  refine mt h (fun h=>?_) (fun h=>?_)
  ·exact ⟨_,_,_,_,_,(z5 Sn),(z2 Sn),h⟩
  ·exact ⟨_,_,_,_,_,(z5 Sn),(z2 Sn),h⟩
 ·rintro env pv hp ⟨x0,x2,x21,k4,k6,he,hv,h⟩
  refine Ae ?_ (r2 0 2 (rp 4 4 0 (rp 6 6 0 (r1 21 Rn)))) he hv
  unfold F65_j1 at h
  refine Ac h rfl (fun h=>?_) (fun h=>?_)
  ·refine Ar F65_r1 ?_ (rp 6 6 0 Rn) (z1 Sn) (z1 Sn)
   refine mf h fun h=>mf h fun h=>mf h fun h=>?_
   refine AWP.ret ?_
   exact h
  ·refine AWP.skip (Aq (Ar F65_r2 ?_ (rp 4 4 0 (r2 0 2 (rp 6 6 0 Rn))) (z4 Sn) (z2 Sn)))
   refine mL h fun l2 h=>mC h fun u3 h4 h=>mB h fun q5 h=>?_
   refine Ac h rfl (fun h=>?_) (fun h=>?_)
   ·refine Ar F65_r3 ?_ (rp 6 6 0 Rn) (z1 Sn) (z1 Sn)
    refine mf h fun h=>mf h fun h=>mf h fun h=>?_
    refine AWP.ret ?_
    exact h
   ·refine AWP.skip (Ar F65_r4 ?_ (r1 0 (rp 4 4 0 (r1 2 (rp 6 6 0 Rn)))) (z4 Sn) (z2 Sn))
    refine mV h fun v7 h=>ms h fun s8 h=>mC h fun u9 h10 h=>mS h fun a11 n12 c13 h=>?_
    refine Ar F65_r5 ?_ (r2 0 2 (rp 4 4 0 (rp 6 6 0 (r1 9 Rn)))) (z5 Sn) (z2 Sn)
    refine As (fun env pv hp=>∃ x0 x2 x9a x9n x9c x10 k4 k6,Sub (w6 E0 10 (sI x10) 9 (sS x9a x9n x9c) 6 (sR 6 0) 4 (sR 4 0) 2 (sI x2) 0 (sP x0)) env∧Sub (w2 V0 6 (114,k6) 4 (118,k4)) pv∧(F65_j2 x0 x2 x9a x9n x9c x10 k4 k6 hp  K)) ?_ ?_
    ·refine As (fun env pv hp=>∃ x0 x2 x9a x9n x9c x10 x11 k4 k6,Sub (w7 E0 11 (sI x11) 10 (sI x10) 9 (sS x9a x9n x9c) 6 (sR 6 0) 4 (sR 4 0) 2 (sI x2) 0 (sP x0)) env∧Sub (w2 V0 6 (114,k6) 4 (118,k4)) pv∧(F65_j11 x0 x2 x9a x9n x9c x10 x11 k4 k6 hp  K)) ?_ ?_
     ·refine Ag F65_r43 ?_ (r2 0 2 (rp 4 4 0 (rp 6 6 0 (r2 9 10 Rn)))) (z6 Sn) (z2 Sn)
      exact ⟨_,_,_,_,_,_,_,_,_,(z7 Sn),(z2 Sn),h⟩
     ·rintro env pv hp ⟨x0,x2,x9a,x9n,x9c,x10,x11,k4,k6,he,hv,h⟩
      refine Ae ?_ (r2 0 2 (rp 4 4 0 (rp 6 6 0 (r3 9 10 11 Rn)))) he hv
      unfold F65_j11 at h
      refine AWP.block (AWP.loop (σ:=Int × (List Value)) _ (fun s=>w7 E0 11 (sI (s.1)) 10 (sI x10) 9 (sS x9a x9n x9c) 6 (sR 6 0) 4 (sR 4 0) 2 (sI x2) 0 (sP x0)) (fun s=>w2 V0 6 (114,s.2) 4 (118,k4)) (x11,k6) h (fun s=>r2 0 2 (rp 4 4 0 (rp 6 6 0 (r3 9 10 11 Rn)))) (z7 Sn) (z2 Sn) ?_)
      intro I12 s hp h
      obtain ⟨x11,k6⟩:=s
      replace h:F65_l12 x0 x2 x9a x9n x9c x10 k4  K I12 x11 k6 hp:=h
      unfold F65_l12 at h
      refine Aq (Ar F65_r39 ?_ (r4 9 11 0 2 (rp 4 4 0 (rp 6 6 0 (r1 10 Rn)))) (z7 Sn) (z2 Sn))
      refine Ac h rfl (fun h=>?_) (fun h=>?_)
      ·refine AWP.skip (Aq (AWP.block (As (fun env pv hp=>∃ x11 x64 k6,Sub (w8 E0 64 (sB x64) 11 (sI x11) 10 (sI x10) 9 (sS x9a x9n x9c) 6 (sR 6 0) 4 (sR 4 0) 2 (sI x2) 0 (sP x0)) env∧Sub (w2 V0 6 (114,k6) 4 (118,k4)) pv∧(F65_j13 x0 x2 x9a x9n x9c x10 x11 x64 k4 k6 hp I12 K)) ?_ ?_)))
       ·refine AWP.rgnE (by kernel_rfl) (by kernel_rfl) (F65_r42 rfl) ?_ (rp 4 4 0 (r4 9 11 0 2 (rp 6 6 0 (r1 10 Rn)))) (z7 Sn) (z2 Sn)
        refine ⟨h.1,h.2.1,mN h.2.2 fun b316 o317 h=>mV h fun v318 h=>mI h fun i319 h=>mV h fun v320 h=>mI h fun i321 h=>?_⟩
        refine mt h (fun h=>?_) (fun h=>?_)
        ·refine ⟨h.1,h.2.1,mN h.2.2 fun b322 o323 h=>mV h fun v324 h=>mB h fun q325 h=>mV h fun v326 h=>mB h fun q327 h=>?_⟩
         refine mt h (fun h=>?_) (fun h=>?_)
         ·refine ⟨h.1,h.2.1,mN h.2.2 fun b328 o329 h=>mV h fun v330 h=>ms h fun s331 h=>mV h fun v332 h=>ms h fun s333 h=>?_⟩
          exact ⟨_,_,_,(z8 Sn),(z2 Sn),h⟩
         ·exact ⟨_,_,_,(z8 Sn),(z2 Sn),h⟩
        ·exact ⟨_,_,_,(z8 Sn),(z2 Sn),h⟩
       ·rintro env pv hp ⟨x11,x64,k6,he,hv,h⟩
        refine Ae ?_ (r2 0 2 (rp 4 4 0 (rp 6 6 0 (r4 9 10 11 64 Rn)))) he hv
        unfold F65_j13 at h
        refine Ac h rfl (fun h=>?_) (fun h=>?_)
        ·refine Ar F65_r40 ?_ (rp 6 6 0 Rn) (z1 Sn) (z1 Sn)
         refine mf h fun h=>mf h fun h=>mf h fun h=>?_
         refine AWP.ret ?_
         exact h
        ·refine AWP.skip (Ag F65_r41 ?_ (r3 11 0 2 (rp 4 4 0 (rp 6 6 0 (r2 9 10 Rn)))) (z7 Sn) (z2 Sn))
         exact ⟨_,(z7 Sn),(z2 Sn),h⟩
      ·refine AWP.exit ?_
       exact ⟨_,_,_,_,_,_,_,_,(z6 Sn),(z2 Sn),h⟩
    ·rintro env pv hp ⟨x0,x2,x9a,x9n,x9c,x10,k4,k6,he,hv,h⟩
     refine Ae ?_ (r2 0 2 (rp 4 4 0 (rp 6 6 0 (r2 9 10 Rn)))) he hv
     unfold F65_j2 at h
     refine Aq (As (fun env pv hp=>∃ x0 x2 x9a x9n x9c x10 x73 k4 k6,Sub (w7 E0 73 (sB x73) 10 (sI x10) 9 (sS x9a x9n x9c) 6 (sR 6 0) 4 (sR 4 0) 2 (sI x2) 0 (sP x0)) env∧Sub (w2 V0 6 (114,k6) 4 (118,k4)) pv∧(F65_j3 x0 x2 x9a x9n x9c x10 x73 k4 k6 hp  K)) ?_ ?_)
     ·refine AWP.rgnF (cf:=[(0,4),(2,4)]) (c:=[([true,true],true,[0,1,2,3,4,5,6,7]),([true,false],true,[0,1,3,4,2,5,6,7]),([false,true],false,[0,2,4,0]),([false,false],true,[1,3,4,0,2,5,6,7])]) (by kernel_rfl) (by kernel_rfl) (by kernel_rfl) (by kernel_rfl) (allO_t (Eq.mpr F65_r36 ?_) (allO_t (Eq.mpr F65_r37 ?_) (allO_f (allO_t (Eq.mpr F65_r38 ?_) trivial)))) (rp 4 4 0 (r3 9 0 2 (rp 6 6 0 (r1 10 Rn)))) (z6 Sn) (z2 Sn)
      ·replace h:=h.1
       refine fun b267 hb_b_267=>?_
       replace h:=h b267 hb_b_267
       refine mO h fun u268 h269 h=>mS h fun a270 n271 c272 h=>mL h fun l273 h=>mf h fun h=>?_
       refine fun b274 hb_b_274=>?_
       replace h:=h b274 hb_b_274
       refine mO h fun u275 h276 h=>mS h fun a277 n278 c279 h=>mC h fun u280 h281 h=>mB h fun q282 h=>?_
       exact ⟨_,_,_,_,_,_,_,_,_,(z7 Sn),(z2 Sn),h⟩
      ·replace h:=h.2.1
       refine fun b283 hb_b_283=>?_
       replace h:=h b283 hb_b_283
       refine mL h fun l284 h=>mf h fun h=>?_
       refine fun b285 hb_b_285=>?_
       replace h:=h b285 hb_b_285
       refine mO h fun u286 h287 h=>mS h fun a288 n289 c290 h=>mO h fun u291 h292 h=>mS h fun a293 n294 c295 h=>mC h fun u296 h297 h=>mB h fun q298 h=>?_
       exact ⟨_,_,_,_,_,_,_,_,_,(z7 Sn),(z2 Sn),h⟩
      ·replace h:=h.2.2
       refine mL h fun l299 h=>mf h fun h=>?_
       refine fun b300 hb_b_300=>?_
       replace h:=h b300 hb_b_300
       refine fun b301 hb_b_301=>?_
       replace h:=h b301 hb_b_301
       refine mO h fun u302 h303 h=>mS h fun a304 n305 c306 h=>mO h fun u307 h308 h=>mS h fun a309 n310 c311 h=>mC h fun u312 h313 h=>mB h fun q314 h=>?_
       exact ⟨_,_,_,_,_,_,_,_,_,(z7 Sn),(z2 Sn),h⟩
     ·rintro env pv hp ⟨x0,x2,x9a,x9n,x9c,x10,x73,k4,k6,he,hv,h⟩
      refine Ae ?_ (r2 0 2 (rp 4 4 0 (rp 6 6 0 (r3 9 10 73 Rn)))) he hv
      unfold F65_j3 at h
      refine Ac h rfl (fun h=>?_) (fun h=>?_)
      ·refine Ar F65_r6 ?_ (r1 0 (rp 4 4 0 (rp 6 6 0 Rn))) (z3 Sn) (z2 Sn)
       refine mV h fun v14 h=>ms h fun s15 h=>mC h fun u16 h17 h=>?_
       refine Ar F65_r7 ?_ (rp 6 6 0 Rn) (z1 Sn) (z1 Sn)
       refine mf h fun h=>mf h fun h=>mf h fun h=>?_
       refine AWP.ret ?_
       exact h
      ·refine AWP.skip (Aq (As (fun env pv hp=>∃ x0 x2 x9a x9n x9c x10 x91 k4 k6,Sub (w7 E0 91 (sB x91) 10 (sI x10) 9 (sS x9a x9n x9c) 6 (sR 6 0) 4 (sR 4 0) 2 (sI x2) 0 (sP x0)) env∧Sub (w2 V0 6 (114,k6) 4 (118,k4)) pv∧(F65_j4 x0 x2 x9a x9n x9c x10 x91 k4 k6 hp  K)) ?_ ?_))
       ·refine Ag (F65_r35 rfl) ?_ (rp 4 4 0 (r3 9 0 2 (rp 6 6 0 (r1 10 Rn)))) (z6 Sn) (z2 Sn)
        refine mt h (fun h=>?_) (fun h=>?_)
        ·refine mV h fun v263 h=>mI h fun i264 h=>?_
         refine mt h (fun h=>?_) (fun h=>?_)
         ·refine mV h fun v265 h=>mB h fun q266 h=>?_
          exact ⟨_,_,_,_,_,_,_,_,_,(z7 Sn),(z2 Sn),h⟩
         ·exact ⟨_,_,_,_,_,_,_,_,_,(z7 Sn),(z2 Sn),h⟩
        ·exact ⟨_,_,_,_,_,_,_,_,_,(z7 Sn),(z2 Sn),h⟩
       ·rintro env pv hp ⟨x0,x2,x9a,x9n,x9c,x10,x91,k4,k6,he,hv,h⟩
        refine Ae ?_ (r2 0 2 (rp 4 4 0 (rp 6 6 0 (r3 9 10 91 Rn)))) he hv
        unfold F65_j4 at h
        refine Ac h rfl (fun h=>?_) (fun h=>?_)
        ·refine Ar F65_r8 ?_ (rp 4 4 0 (rp 6 6 0 Rn)) (z2 Sn) (z2 Sn)
         refine mV h fun v19 h=>ms h fun s20 h=>mV h fun v21 h=>ms h fun s22 h=>mV h fun v23 h=>ms h fun s24 h=>mf h fun h=>mf h fun h=>mf h fun h=>?_
         refine AWP.ret ?_
         exact h
        ·refine AWP.skip (As (fun env pv hp=>∃ x0 x2 x9a x9n x9c x10 k4 k6,Sub (w6 E0 10 (sI x10) 9 (sS x9a x9n x9c) 6 (sR 6 0) 4 (sR 4 0) 2 (sI x2) 0 (sP x0)) env∧Sub (w2 V0 6 (114,k6) 4 (118,k4)) pv∧(F65_j5 x0 x2 x9a x9n x9c x10 k4 k6 hp  K)) ?_ ?_)
         ·refine As (fun env pv hp=>∃ x0 x2 x9a x9n x9c x10 x12 k4 k6,Sub (w7 E0 12 (sI x12) 10 (sI x10) 9 (sS x9a x9n x9c) 6 (sR 6 0) 4 (sR 4 0) 2 (sI x2) 0 (sP x0)) env∧Sub (w2 V0 6 (114,k6) 4 (118,k4)) pv∧(F65_j8 x0 x2 x9a x9n x9c x10 x12 k4 k6 hp  K)) ?_ ?_
          ·refine Ag F65_r34 ?_ (r2 0 2 (rp 4 4 0 (rp 6 6 0 (r2 9 10 Rn)))) (z6 Sn) (z2 Sn)
           exact ⟨_,_,_,_,_,_,_,_,_,(z7 Sn),(z2 Sn),h⟩
          ·rintro env pv hp ⟨x0,x2,x9a,x9n,x9c,x10,x12,k4,k6,he,hv,h⟩
           refine Ae ?_ (r2 0 2 (rp 4 4 0 (rp 6 6 0 (r3 9 10 12 Rn)))) he hv
           unfold F65_j8 at h
           refine AWP.block (AWP.loop (σ:=Int × Int) _ (fun s=>w7 E0 12 (sI (s.2)) 10 (sI (s.1)) 9 (sS x9a x9n x9c) 6 (sR 6 0) 4 (sR 4 0) 2 (sI x2) 0 (sP x0)) (fun s=>w2 V0 6 (114,k6) 4 (118,k4)) (x10,x12) h (fun s=>r2 0 2 (rp 4 4 0 (rp 6 6 0 (r3 9 10 12 Rn)))) (z7 Sn) (z2 Sn) ?_)
           intro I9 s hp h
           obtain ⟨x10,x12⟩:=s
           replace h:F65_l9 x0 x2 x9a x9n x9c k4 k6  K I9 x10 x12 hp:=h
           unfold F65_l9 at h
           refine Aq (Ar F65_r30 ?_ (r3 0 12 2 (rp 4 4 0 (rp 6 6 0 (r2 9 10 Rn)))) (z7 Sn) (z2 Sn))
           refine mN h fun b245 o246 h=>mV h fun v247 h=>mS h fun a248 n249 c250 h=>?_
           refine Ac h rfl (fun h=>?_) (fun h=>?_)
           ·refine AWP.skip (As (fun env pv hp=>∃ x10 x12,Sub (w7 E0 12 (sI x12) 10 (sI x10) 9 (sS x9a x9n x9c) 6 (sR 6 0) 4 (sR 4 0) 2 (sI x2) 0 (sP x0)) env∧Sub (w2 V0 6 (114,k6) 4 (118,k4)) pv∧(F65_j10 x0 x2 x9a x9n x9c x10 x12 k4 k6 hp I9 K)) ?_ ?_)
            ·refine AWP.block (Aq (AWP.rgnE (by kernel_rfl) (by kernel_rfl) (F65_r32 rfl) ?_ (r1 0 (rp 4 4 0 (r2 12 2 (rp 6 6 0 (r2 9 10 Rn))))) (z7 Sn) (z2 Sn)))
             refine mN h (fun b251 o252 h=>mV h (fun v253 h=>mS h (fun a254 n255 c256 h=>⟨h.1,h.2.1,mN h.2.2 fun b257 o258 h=>mV h fun v259 h=>ms h fun s260 h=>mV h fun v261 h=>ms h fun s262 h=>?_⟩)))
             refine Ac h rfl (fun h=>?_) (fun h=>?_)
             ·refine Ag F65_r33 ?_ (r3 10 0 2 (rp 4 4 0 (rp 6 6 0 (r2 9 12 Rn)))) (z7 Sn) (z2 Sn)
              exact ⟨_,_,(z7 Sn),(z2 Sn),h⟩
             ·refine AWP.skip ?_
              exact ⟨_,_,(z7 Sn),(z2 Sn),h⟩
            ·rintro env pv hp ⟨x10,x12,he,hv,h⟩
             refine Ae ?_ (r2 0 2 (rp 4 4 0 (rp 6 6 0 (r3 9 10 12 Rn)))) he hv
             unfold F65_j10 at h
             refine Ag F65_r31 ?_ (r3 12 0 2 (rp 4 4 0 (rp 6 6 0 (r2 9 10 Rn)))) (z7 Sn) (z2 Sn)
             exact ⟨_,(z7 Sn),(z2 Sn),h⟩
           ·refine AWP.exit ?_
            exact ⟨_,_,_,_,_,_,_,_,(z6 Sn),(z2 Sn),h⟩
         ·rintro env pv hp ⟨x0,x2,x9a,x9n,x9c,x10,k4,k6,he,hv,h⟩
          refine Ae ?_ (r2 0 2 (rp 4 4 0 (rp 6 6 0 (r2 9 10 Rn)))) he hv
          unfold F65_j5 at h
          refine Aq (Aq (AWP.rgnE (by kernel_rfl) (by kernel_rfl) F65_r9 ?_ (r2 0 2 (rp 4 4 0 (rp 6 6 0 (r2 9 10 Rn)))) (z6 Sn) (z2 Sn)))
          refine mN h fun b26 o27 h=>mV h fun v28 h=>mS h fun a29 n30 c31 h=>mN h fun b32 o33 h=>mV h fun v34 h=>mI h fun i35 h=>?_
          refine Ac h rfl (fun h=>?_) (fun h=>?_)
          ·refine Ar F65_r10 ?_ (rp 6 6 0 Rn) (z1 Sn) (z1 Sn)
           refine mf h fun h=>mf h fun h=>mf h fun h=>?_
           refine AWP.ret ?_
           exact h
          ·refine AWP.skip (Aq (Ar F65_r11 ?_ (r3 0 10 2 (rp 4 4 0 (rp 6 6 0 (r1 9 Rn)))) (z6 Sn) (z2 Sn)))
           refine mN h fun b37 o38 h=>mV h fun v39 h=>mI h fun i40 h=>?_
           refine Ac h rfl (fun h=>?_) (fun h=>?_)
           ·refine Ar F65_r12 ?_ (rp 6 6 0 Rn) (z1 Sn) (z1 Sn)
            refine mf h fun h=>mf h fun h=>mf h fun h=>?_
            refine AWP.ret ?_
            exact h
           ·refine AWP.skip (Ar F65_r13 ?_ (r1 2 (rp 4 4 0 (r1 0 (rp 6 6 0 (r1 9 Rn))))) (z5 Sn) (z2 Sn))
            refine mf h fun h=>?_
            refine As (fun env pv hp=>∃ x0 k4 k6,Sub (w3 E0 6 (sR 6 0) 4 (sR 4 0) 0 (sP x0)) env∧Sub (w2 V0 6 (114,k6) 4 (118,k4)) pv∧(F65_j6 x0 k4 k6 hp  K)) ?_ ?_
            ·refine Ar F65_r28 ?_ (r2 9 0 (rp 4 4 0 (rp 6 6 0 Rn))) (z4 Sn) (z2 Sn)
             refine Ac h rfl (fun h=>?_) (fun h=>?_)
             ·refine Ag F65_r29 ?_ (rp 4 4 0 (r2 9 0 (rp 6 6 0 Rn))) (z4 Sn) (z2 Sn)
              refine ⟨h.1,h.2.1,mN h.2.2 fun b241 o242 h=>mV h fun v243 h=>mI h fun i244 h=>mf h fun h=>?_⟩
              exact ⟨_,_,_,(z3 Sn),(z2 Sn),h⟩
             ·refine AWP.skip ?_
              exact ⟨_,_,_,(z3 Sn),(z2 Sn),h⟩
            ·rintro env pv hp ⟨x0,k4,k6,he,hv,h⟩
             refine Ae ?_ (r1 0 (rp 4 4 0 (rp 6 6 0 Rn))) he hv
             unfold F65_j6 at h
             refine As (fun env pv hp=>∃ x0 k4 k6,Sub (w3 E0 6 (sR 6 0) 4 (sR 4 0) 0 (sP x0)) env∧Sub (w2 V0 6 (114,k6) 4 (118,k4)) pv∧(F65_j7 x0 k4 k6 hp  K)) ?_ ?_
             ·refine AWP.rgnF (cf:=[(1,5),(1,8),(5,8),(6,8)]) (c:=[([true,true,true,true],true,[0,1,2,3,4,5,6,7,8,9,10,11,12]),([true,true,true,false],true,[0,1,2,3,4,5,7,8,6,9,10,11,12]),([true,true,false,true],false,[5,6,8,5]),([true,true,false,false],true,[0,1,2,3,4,7,8,5,6,9,10,11,12]),([true,false,true,true],false,[1,5,8,1]),([true,false,true,false],false,[1,5,8,1]),([true,false,false,true],false,[1,6,8,1]),([true,false,false,false],true,[0,2,3,4,7,8,1,5,6,9,10,11,12]),([false,true,true,true],true,[0,2,3,4,5,1,6,7,8,9,10,11,12]),([false,true,true,false],true,[0,2,3,4,5,1,7,8,6,9,10,11,12]),([false,true,false,true],false,[1,8,5,1]),([false,true,false,false],false,[1,8,5,1]),([false,false,true,true],false,[1,6,8,1]),([false,false,true,false],true,[0,2,3,4,5,7,8,1,6,9,10,11,12]),([false,false,false,true],false,[1,6,8,5,1]),([false,false,false,false],true,[0,2,3,4,7,8,5,1,6,9,10,11,12])]) (by kernel_rfl) (by kernel_rfl) (by kernel_rfl) (by kernel_rfl) (allO_t (Eq.mpr F65_r20 ?_) (allO_t (Eq.mpr F65_r21 ?_) (allO_f (allO_t (Eq.mpr F65_r22 ?_) (allO_f (allO_f (allO_f (allO_t (Eq.mpr F65_r23 ?_) (allO_t (Eq.mpr F65_r24 ?_) (allO_t (Eq.mpr F65_r25 ?_) (allO_f (allO_f (allO_f (allO_t (Eq.mpr F65_r26 ?_) (allO_f (allO_t (Eq.mpr F65_r27 ?_) trivial)))))))))))))))) (r1 0 (rp 4 4 0 (rp 6 6 0 Rn))) (z3 Sn) (z2 Sn)
              ·replace h:=h.1
               refine fun b65 hb_b_65=>?_
               replace h:=h b65 hb_b_65
               refine mN h fun b66 o67 h=>mV h fun v68 h=>mS h fun a69 n70 c71 h=>mO h fun u72 h73 h=>mS h fun a74 n75 c76 h=>mL h fun l77 h=>mf h fun h=>?_
               refine fun b78 hb_b_78=>?_
               replace h:=h b78 hb_b_78
               refine mO h fun u79 h80 h=>mS h fun a81 n82 c83 h=>mN h fun b84 o85 h=>mw h fun h86 h=>?_
               exact ⟨_,_,_,(z3 Sn),(z2 Sn),h⟩
              ·replace h:=h.2.1
               refine fun b87 hb_b_87=>?_
               replace h:=h b87 hb_b_87
               refine mN h fun b88 o89 h=>mV h fun v90 h=>mS h fun a91 n92 c93 h=>mL h fun l94 h=>mf h fun h=>?_
               refine fun b95 hb_b_95=>?_
               replace h:=h b95 hb_b_95
               refine mO h fun u96 h97 h=>mS h fun a98 n99 c100 h=>mO h fun u101 h102 h=>mS h fun a103 n104 c105 h=>mN h fun b106 o107 h=>mw h fun h108 h=>?_
               exact ⟨_,_,_,(z3 Sn),(z2 Sn),h⟩
              ·replace h:=h.2.2.1
               refine fun b109 hb_b_109=>?_
               replace h:=h b109 hb_b_109
               refine mN h fun b110 o111 h=>mL h fun l112 h=>mf h fun h=>?_
               refine fun b113 hb_b_113=>?_
               replace h:=h b113 hb_b_113
               refine mV h fun v114 h=>mS h fun a115 n116 c117 h=>mO h fun u118 h119 h=>mS h fun a120 n121 c122 h=>mO h fun u123 h124 h=>mS h fun a125 n126 c127 h=>mN h fun b128 o129 h=>mw h fun h130 h=>?_
               exact ⟨_,_,_,(z3 Sn),(z2 Sn),h⟩
              ·replace h:=h.2.2.2.1
               refine mN h fun b131 o132 h=>mL h fun l133 h=>mf h fun h=>?_
               refine fun b134 hb_b_134=>?_
               replace h:=h b134 hb_b_134
               refine fun b135 hb_b_135=>?_
               replace h:=h b135 hb_b_135
               refine mV h fun v136 h=>mS h fun a137 n138 c139 h=>mO h fun u140 h141 h=>mS h fun a142 n143 c144 h=>mO h fun u145 h146 h=>mS h fun a147 n148 c149 h=>mN h fun b150 o151 h=>mw h fun h152 h=>?_
               exact ⟨_,_,_,(z3 Sn),(z2 Sn),h⟩
              ·replace h:=h.2.2.2.2.1
               refine mN h fun b153 o154 h=>mV h fun v155 h=>mS h fun a156 n157 c158 h=>?_
               refine fun b159 hb_b_159=>?_
               replace h:=h b159 hb_b_159
               refine mO h fun u160 h161 h=>mS h fun a162 n163 c164 h=>mL h fun l165 h=>mf h fun h=>?_
               refine fun b166 hb_b_166=>?_
               replace h:=h b166 hb_b_166
               refine mO h fun u167 h168 h=>mS h fun a169 n170 c171 h=>mN h fun b172 o173 h=>mw h fun h174 h=>?_
               exact ⟨_,_,_,(z3 Sn),(z2 Sn),h⟩
              ·replace h:=h.2.2.2.2.2.1
               refine mN h fun b175 o176 h=>mV h fun v177 h=>mS h fun a178 n179 c180 h=>?_
               refine fun b181 hb_b_181=>?_
               replace h:=h b181 hb_b_181
               refine mL h fun l182 h=>mf h fun h=>?_
               refine fun b183 hb_b_183=>?_
               replace h:=h b183 hb_b_183
               refine mO h fun u184 h185 h=>mS h fun a186 n187 c188 h=>mO h fun u189 h190 h=>mS h fun a191 n192 c193 h=>mN h fun b194 o195 h=>mw h fun h196 h=>?_
               exact ⟨_,_,_,(z3 Sn),(z2 Sn),h⟩
              ·replace h:=h.2.2.2.2.2.2.1
               refine mN h fun b197 o198 h=>mV h fun v199 h=>mS h fun a200 n201 c202 h=>mL h fun l203 h=>mf h fun h=>?_
               refine fun b204 hb_b_204=>?_
               replace h:=h b204 hb_b_204
               refine fun b205 hb_b_205=>?_
               replace h:=h b205 hb_b_205
               refine mO h fun u206 h207 h=>mS h fun a208 n209 c210 h=>mO h fun u211 h212 h=>mS h fun a213 n214 c215 h=>mN h fun b216 o217 h=>mw h fun h218 h=>?_
               exact ⟨_,_,_,(z3 Sn),(z2 Sn),h⟩
              ·replace h:=h.2.2.2.2.2.2.2
               refine mN h fun b219 o220 h=>mL h fun l221 h=>mf h fun h=>?_
               refine fun b222 hb_b_222=>?_
               replace h:=h b222 hb_b_222
               refine mV h fun v223 h=>mS h fun a224 n225 c226 h=>?_
               refine fun b227 hb_b_227=>?_
               replace h:=h b227 hb_b_227
               refine mO h fun u228 h229 h=>mS h fun a230 n231 c232 h=>mO h fun u233 h234 h=>mS h fun a235 n236 c237 h=>mN h fun b238 o239 h=>mw h fun h240 h=>?_
               exact ⟨_,_,_,(z3 Sn),(z2 Sn),h⟩
             ·rintro env pv hp ⟨x0,k4,k6,he,hv,h⟩
              refine Ae ?_ (r1 0 (rp 4 4 0 (rp 6 6 0 Rn))) he hv
              unfold F65_j7 at h
              refine Ar F65_r14 ?_ (r1 0 (rp 4 4 0 (rp 6 6 0 Rn))) (z3 Sn) (z2 Sn)
              refine mV h fun v42 h=>ms h fun s43 h=>mC h fun u44 h45 h=>mS h fun a46 n47 c48 h=>?_
              refine Ar F65_r15 ?_ (r2 9 0 (rp 4 4 0 (rp 6 6 0 Rn))) (z4 Sn) (z2 Sn)
              refine mC h fun u49 h50 h=>mU h fun u51 u52 u53 h=>ms h fun s54 h=>ms h fun s55 h=>mB h fun q56 h=>?_
              refine Aq (Ar F65_r16 ?_ (r2 15 0 (rp 4 4 0 (rp 6 6 0 (r3 9 13 14 Rn)))) (z7 Sn) (z2 Sn))
              refine Ac h rfl (fun h=>?_) (fun h=>?_)
              ·refine Ar F65_r17 ?_ (rp 6 6 0 Rn) (z1 Sn) (z1 Sn)
               refine mf h fun h=>mf h fun h=>mf h fun h=>?_
               refine AWP.ret ?_
               exact h
              ·refine AWP.skip (Ar F65_r18 ?_ (r1 0 (rp 4 4 0 (rp 6 6 0 (r3 9 13 14 Rn)))) (z6 Sn) (z2 Sn))
               refine mV h fun v58 h=>ms h fun s59 h=>mC h fun u60 h61 h=>?_
               refine Ar (F65_r19 rfl) ?_ (rp 4 4 0 (rp 6 6 0 (r3 9 13 14 Rn))) (z5 Sn) (z2 Sn)
               refine mV h fun v62 h=>ms h fun s63 h=>mf h fun h=>mf h fun h=>mf h fun h=>?_
               refine AWP.ret ?_
               exact h
end
end Go.Proofs
