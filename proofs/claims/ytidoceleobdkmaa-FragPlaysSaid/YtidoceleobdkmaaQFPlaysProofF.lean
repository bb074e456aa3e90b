/- Parts of the proof of FPlaysProof: the logic of what is known of memory, functions' contracts. -/
import Derived.Test.YtidoceleobdkmaaQFPlaysProofE
import Derived.Test.YtidoceleobdkmaaHlAbb
import Derived.Test.YtidoceleobdkmaaHlOrd2
import Derived.Test.YtidoceleobdkmaaProg
import Derived.Test.YtidoceleobdkmaaHlDec
import Derived.DataShut
set_option linter.unusedVariables false
set_option maxRecDepth 20000
namespace Go.Proofs
open Go Go.HL
section
variable {hp:HP} {K:Value→HP→Prop} {X:Value→HP→Prop} {w:Nat} {max source:Int} {L:List PD} {s:Option Addr} {n c b b2:Nat} {xs:List Value} {x:PD} {p:Pc}
theorem app2A {hp1:HP} (hrow:Row hp s n c 118 7 xs) (h1:xs.all one=true) (hn:n≤100000) (hs:HSub hp hp1) (hb1:hp1 b=.cells 118 [] 0) (hb:hp b=.none)
    (h:∀ hp2 s2 c2,HSub hp hp2→Row hp2 s2 (n+1) c2 118 7 (xs++pdc x)→(∀ b',s2=some ⟨b',0,none⟩→hp b'=.none)→X (.slice s2 (n+1) c2) hp2) :
    opS Try.prog (Builtin.append_ #[104,104] 104 ⟨[.slice (some ⟨b,0,none⟩) 0 0,.slice s n c]⟩) hp1 fun u h=>slcV u fun a m k=>∀ b2:Nat,h b2=.none→opS Try.prog (Builtin.append_ #[104,104] 104 ⟨[.slice a m k,.slice (some ⟨b2,0,none⟩) 1 1]⟩) (HP.set h b2 (.cells 118 (pdc x) 0)) X:=by
  have r0:Row hp1 (some ⟨b,0,none⟩) 0 0 118 7 []:=.inr ⟨b,rfl,Nat.le_refl _,rfl,hb1⟩
  refine opS_appF (e:=118) (size:=7) (bytes:=88) (by kernel_rfl) r0 (hrow.sub hs).shows h1 (by omega) (by omega) ?_
  intro s3 c3 hp3 hrow3 hf3
  obtain ⟨k1,k2⟩:=hf3 hp hs (fun b' e=>by cases e; exact hb)
  rw [slcV_slice]
  intro b2 hb2
  have s4:=HSub.set_fresh hp3 (.cells 118 (pdc x) 0) hb2
  refine opS_appF (e:=118) (size:=7) (bytes:=88) (by kernel_rfl) (hrow3.sub s4) (.inr ⟨b2,0,rfl,by rw [HP.cellN_of (HP.set_eq ..)]; exact cellsN_all rfl⟩) (pdc_one _) (by omega) (by omega) ?_
  intro s5 c5 hp5 hrow5 hf5
  obtain ⟨g1,g2⟩:=hf5 hp (k1.trans s4) k2
  rw [Nat.zero_add,List.nil_append] at hrow5
  rw [Nat.zero_add]
  exact h _ _ _ g1 hrow5 g2
theorem app2B {hp1:HP} (hrow:Row hp s n c 118 7 xs) (h1:xs.all one=true) (hn:n≤100000) (hs:HSub hp hp1) (hb1:hp1 b=.cells 118 [] 0) (hb:hp b=.none) (hb21:hp1 b2=.cells 118 (pdc x) 0) (hb2:hp b2=.none)
    (h:∀ hp2 s2 c2,HSub hp hp2→Row hp2 s2 (n+1) c2 118 7 (xs++pdc x)→(∀ b',s2=some ⟨b',0,none⟩→hp b'=.none)→X (.slice s2 (n+1) c2) hp2) :
    opS Try.prog (Builtin.append_ #[104,104] 104 ⟨[.slice (some ⟨b,0,none⟩) 0 0,.slice s n c]⟩) hp1 fun u h=>slcV u fun a m k=>opS Try.prog (Builtin.append_ #[104,104] 104 ⟨[.slice a m k,.slice (some ⟨b2,0,none⟩) 1 1]⟩) h X:=by
  have r0:Row hp1 (some ⟨b,0,none⟩) 0 0 118 7 []:=.inr ⟨b,rfl,Nat.le_refl _,rfl,hb1⟩
  have hne:b2≠b:=fun e=>by
    rw [e,hb1] at hb21
    exact absurd (congrArg List.length (Ent.cells.inj hb21).2.1) (by rw [pdc_len]; decide)
  refine opS_appF (e:=118) (size:=7) (bytes:=88) (by kernel_rfl) r0 (hrow.sub hs).shows h1 (by omega) (by omega) ?_
  intro s3 c3 hp3 hrow3 hf3
  obtain ⟨k1,k2⟩:=hf3 hp hs (fun b' e=>by cases e; exact hb)
  obtain ⟨k3,_⟩:=hf3 (hp.set b2 (.cells 118 (pdc x) 0)) (hs.set_of hb21) (fun b' e=>by cases e; rw [HP.set_ne _ _ hne.symm]; exact hb)
  have hb23:hp3 b2=.cells 118 (pdc x) 0:=k3.cells (HP.set_eq ..)
  rw [slcV_slice]
  refine opS_appF (e:=118) (size:=7) (bytes:=88) (by kernel_rfl) hrow3 (.inr ⟨b2,0,rfl,by rw [HP.cellN_of hb23]; exact cellsN_all rfl⟩) (pdc_one _) (by omega) (by omega) ?_
  intro s5 c5 hp5 hrow5 hf5
  obtain ⟨g1,g2⟩:=hf5 hp k1 k2
  rw [Nat.zero_add,List.nil_append] at hrow5
  rw [Nat.zero_add]
  exact h _ _ _ g1 hrow5 g2
theorem app2B1 (hrow:Row hp s n c 118 7 xs) (h1:xs.all one=true) (hn:n≤100000) (hb:hp b=.none) (hb2:(HP.set hp b (.cells 118 [] 0)) b2=.none)
    (h:∀ hp2 s2 c2,HSub hp hp2→Row hp2 s2 (n+1) c2 118 7 (xs++pdc x)→(∀ b',s2=some ⟨b',0,none⟩→hp b'=.none)→X (.slice s2 (n+1) c2) hp2) :
    opS Try.prog (Builtin.append_ #[104,104] 104 ⟨[.slice (some ⟨b,0,none⟩) 0 0,.slice s n c]⟩) (HP.set (HP.set hp b (.cells 118 [] 0)) b2 (.cells 118 (pdc x) 0)) fun u h=>slcV u fun a m k=>opS Try.prog (Builtin.append_ #[104,104] 104 ⟨[.slice a m k,.slice (some ⟨b2,0,none⟩) 1 1]⟩) h X:=by
  have hne:b≠b2:=fun e=>by rw [← e,HP.set_eq] at hb2; cases hb2
  have s1:=HSub.set_fresh hp (.cells 118 [] 0) hb
  exact app2B hrow h1 hn (s1.trans (HSub.set_fresh _ _ hb2)) (by rw [HP.set_ne _ _ hne,HP.set_eq]) hb (HP.set_eq ..) (s1.none hb2) h
theorem app2B2 (hrow:Row hp s n c 118 7 xs) (h1:xs.all one=true) (hn:n≤100000) (hb2:hp b2=.none) (hb:(HP.set hp b2 (.cells 118 (pdc x) 0)) b=.none)
    (h:∀ hp2 s2 c2,HSub hp hp2→Row hp2 s2 (n+1) c2 118 7 (xs++pdc x)→(∀ b',s2=some ⟨b',0,none⟩→hp b'=.none)→X (.slice s2 (n+1) c2) hp2) :
    opS Try.prog (Builtin.append_ #[104,104] 104 ⟨[.slice (some ⟨b,0,none⟩) 0 0,.slice s n c]⟩) (HP.set (HP.set hp b2 (.cells 118 (pdc x) 0)) b (.cells 118 [] 0)) fun u h=>slcV u fun a m k=>opS Try.prog (Builtin.append_ #[104,104] 104 ⟨[.slice a m k,.slice (some ⟨b2,0,none⟩) 1 1]⟩) h X:=by
  have hne:b2≠b:=fun e=>by rw [← e,HP.set_eq] at hb; cases hb
  have s1:=HSub.set_fresh hp (.cells 118 (pdc x) 0) hb2
  exact app2B hrow h1 hn (s1.trans (HSub.set_fresh _ _ hb)) (HP.set_eq ..) (s1.none hb) (by rw [HP.set_ne _ _ hne,HP.set_eq]) hb2 h
theorem pdl_one (l:List PD):(l.flatMap pdc).all one=true:=by
  rw [List.all_eq_true]
  intro v hv
  obtain ⟨x,_,hx⟩:=List.mem_flatMap.1 hv
  exact List.all_eq_true.1 (pdc_one x) v hx
theorem of_len (k:ByteArray) (L:List PD):(ofL k L).length≤L.length:=List.length_filter_le ..
theorem ref7 {due:Int} {z:List Value} (hz:z=zeroW) (hr:RefR hp w max source L) (hL:L.length≤100000) (hri:∀ x∈L,rightP x.1=true)
    (hno:∀ hp',joinD ((ofL p.key L).map (·.1))=none→HSub hp hp'→K (.tuple ⟨[.agg ⟨zeroW⟩,.bool false,.int .i64 0]⟩) hp')
    (hyes:∀ hp' d,joinD ((ofL p.key L).map (·.1))=some d→RefS hp hp' w max source L (offL p.key L)→K (.tuple ⟨[.agg ⟨wh p.key (headD ((ofL p.key L).map (·.1))) d (ofL p.key L).length⟩,.bool true,.int .i64 0]⟩) hp') :
    F65_j7 (some ⟨w,0,none⟩) (pd p due) z hp K:=by
  unfold F65_j7
  have k0:(pd p due)[0]?=some (.string p.key):=rfl
  simp only [k0,ldV_some,strV_string]
  refine C111 hr hL ?_
  intro hp' s c hs hrow
  rw [slcV_slice]
  have hol:=of_len p.key L
  refine C114 hrow.shows rfl (by omega) (fun x hx=>hri x (List.mem_filter.1 hx).1) (fun hj=>?_) (fun d hj=>?_)
  · simp only [tup3V_mk,strV_string,boolV_bool,Bool.not_false,ite2_true]
    subst hz
    exact ifI rfl (ifI rfl (ifI (Nat.le_refl 4) (hno hp' hj hs)))
  · simp only [tup3V_mk,strV_string,boolV_bool,Bool.not_true,ite2_false]
    refine C112 (hr.sub hs) hL ?_
    intro hp2 hs2
    subst hz
    exact ifI rfl (ifI rfl (ifI (Nat.le_refl 4) (hyes hp2 d hj ((RefS.trans (.inl ⟨rfl,hs⟩) hs2)))))
set_option maxHeartbeats 1000000 in
theorem ref6 {due:Int} {z:List Value} (hz:z=zeroW) (hr:RefR hp w max source L) (hL:L.length≤90000) (hri:∀ x∈L,rightP x.1=true) (hrp:rightP p=true)
    (hno:∀ hp',joinD ((ofL p.key (L++[(p,due)])).map (·.1))=none→RefS hp hp' w max source L (L++[(p,due)])→K (.tuple ⟨[.agg ⟨zeroW⟩,.bool false,.int .i64 0]⟩) hp')
    (hyes:∀ hp' d,joinD ((ofL p.key (L++[(p,due)])).map (·.1))=some d→RefS hp hp' w max source L (offL p.key (L++[(p,due)]))→K (.tuple ⟨[.agg ⟨wh p.key (headD ((ofL p.key (L++[(p,due)])).map (·.1))) d (ofL p.key (L++[(p,due)])).length⟩,.bool true,.int .i64 0]⟩) hp') :
    F65_j6 (some ⟨w,0,none⟩) (pd p due) z hp K:=by
  have fin:∀ hp2 s2 c2,HSub hp hp2→Row hp2 s2 (L.length+1) c2 118 7 (L.flatMap pdc++pdc (p,due))→(∀ b',s2=some ⟨b',0,none⟩→hp b'=.none)→HP.st hp2 w (0+2) (.slice s2 (L.length+1) c2) fun h=>F65_j7 (some ⟨w,0,none⟩) (pd p due) z h K:=by
    obtain ⟨sL,cL,h1,h2⟩:=hr
    intro hp2 s2 c2 hs hrow hf
    refine HP.st_at (hs.cells h1) (by simp [rfc]) ?_
    have e1:(rfc max source sL L.length cL).set (0+2) (.slice s2 (L.length+1) c2)=rfc max source s2 (L++[(p,due)]).length c2:=by rw [List.length_append]; rfl
    have e2:L.flatMap pdc++pdc (p,due)=(L++[(p,due)]).flatMap pdc:=by rw [List.flatMap_append]; simp
    have e3:L.length+1=(L++[(p,due)]).length:=by simp
    rw [e1]
    rw [e2,e3] at hrow
    have stp:RefS hp (hp2.set w (.cells 106 (rfc max source s2 (L++[(p,due)]).length c2) 0)) w max source L (L++[(p,due)]):=by
      refine .inr ⟨s2,c2,HP.set_eq ..,?_,fun h0 g1 g2=>⟨(g1.trans hs).up g2 _,fun b e=>g1.none (hf b e)⟩⟩
      rcases hrow with g | ⟨b,rfl,g1,g2,g3⟩
      · exact .inl g
      · refine .inr ⟨b,rfl,g1,g2,?_⟩
        rw [HP.set_ne _ _ (fun e=>by rw [e,hs.cells h1] at g3; cases g3)]; exact g3
    refine ref7 hz (stp.ref ⟨sL,cL,h1,h2⟩) (by rw [← e3]; omega) ?_ (fun hp' hj hs'=>hno hp' hj (stp.trans (.inl ⟨rfl,hs'⟩))) (fun hp' d hj hs'=>hyes hp' d hj (stp.trans hs'))
    intro x hx
    rcases List.mem_append.1 hx with hx | hx
    · exact hri x hx
    · rw [List.mem_singleton.1 hx]; exact hrp
  obtain ⟨sL,cL,h1,h2⟩:=hr
  have hc:∀ hp',HSub hp hp'→∀ o,hp'.cell w o=(rfc max source sL L.length cL)[o]?:=fun hp' hs' o=>HP.cell_of (hs'.cells h1)
  have c2:(rfc max source sL L.length cL)[0+2]?=some (.slice sL L.length cL):=rfl
  have c7:cellsN (pd p due) 0 7=some (pd p due):=rfl
  have e7:List.length (pd p due)=7:=rfl
  have hz7:splice [(Value.string ⟨#[]⟩),(Value.string ⟨#[]⟩),(Value.int .i64 0),(Value.bool false),(Value.string ⟨#[]⟩),(Value.string ⟨#[]⟩),(Value.int .i64 0)] 0 (pd p due)=pd p due:=splice_all rfl
  have hb:=pdl_one L
  have hn:L.length≤100000:=by omega
  unfold F65_j6
  simp only [ptrN_some,c7,e7,ldL_some,if_true,hz7]
  have done:∀ (Y:Value→HP→Prop),(∀ u h,Y u h=slcV u fun a n c=>HP.st h w (0+2) (.slice a n c) fun h=>F65_j7 (some ⟨w,0,none⟩) (pd p due) z h K)→∀ hp2 s2 c2,HSub hp hp2→Row hp2 s2 (L.length+1) c2 118 7 (L.flatMap pdc++pdc (p,due))→(∀ b',s2=some ⟨b',0,none⟩→hp b'=.none)→Y (.slice s2 (L.length+1) c2) hp2:=by
    intro Y hY hp2 s2 c2 a1 a2 a3
    rw [hY,slcV_slice]
    exact fin hp2 s2 c2 a1 a2 a3
  repeat' with_reducible apply And.intro
  all_goals first
    | (intro b hb
       rw [hc _ (HSub.set_fresh hp _ hb)]
       simp only [c2,ldV_some,slcV_slice]
       exact app2A (x:=(p,due)) h2 (pdl_one L) hn (HSub.set_fresh hp _ hb) (HP.set_eq ..) hb (done _ fun _ _=>rfl))
    | (intro b hb
       rw [hc _ (HSub.set_fresh hp _ hb)]
       simp only [c2,ldV_some,slcV_slice]
       intro b2 hb2
       exact app2B1 (x:=(p,due)) h2 (pdl_one L) hn hb hb2 (done _ fun _ _=>rfl))
    | (intro b hb b2 hb2
       rw [hc _ ((HSub.set_fresh hp _ hb).trans (HSub.set_fresh _ _ hb2))]
       simp only [c2,ldV_some,slcV_slice]
       exact app2B1 (x:=(p,due)) h2 (pdl_one L) hn hb hb2 (done _ fun _ _=>rfl))
    | (intro b hb b2 hb2
       rw [hc _ ((HSub.set_fresh hp _ hb).trans (HSub.set_fresh _ _ hb2))]
       simp only [c2,ldV_some,slcV_slice]
       exact app2B2 (x:=(p,due)) h2 (pdl_one L) hn hb hb2 (done _ fun _ _=>rfl))
    | (rw [hc _ (HSub.refl hp)]
       simp only [c2,ldV_some,slcV_slice]
       intro b hb
       exact app2A (x:=(p,due)) h2 (pdl_one L) hn (HSub.set_fresh hp _ hb) (HP.set_eq ..) hb (done _ fun _ _=>rfl))
    | (rw [hc _ (HSub.refl hp)]
       simp only [c2,ldV_some,slcV_slice]
       intro b hb b2 hb2
       exact app2B1 (x:=(p,due)) h2 (pdl_one L) hn hb hb2 (done _ fun _ _=>rfl))
    | (rw [hc _ (HSub.refl hp)]
       simp only [c2,ldV_some,slcV_slice]
       intro b hb b2 hb2
       exact app2B2 (x:=(p,due)) h2 (pdl_one L) hn hb hb2 (done _ fun _ _=>rfl))
    | (intro b hb
       rw [hc _ (HSub.set_fresh hp _ hb)]
       simp only [c2,ldV_some,slcV_slice]
       intro b2 hb2
       exact app2B2 (x:=(p,due)) h2 (pdl_one L) hn hb hb2 (done _ fun _ _=>rfl))
set_option maxHeartbeats 1000000 in
theorem C65 {due:Int} (hr:RefR hp w max source L) (hL:L.length≤90000) (hri:∀ x∈L,rightP x.1=true) (hok:okP p)
    (hK:∀ hp',RefS hp hp' w max source L (putD max source L p due).2.2.2→K (.tuple ⟨[.agg ⟨(putD max source L p due).1⟩,.bool (putD max source L p due).2.1,.int .i64 (putD max source L p due).2.2.1]⟩) hp'):CF Try.prog 65 [ptr w 0,.agg ⟨pd p 0⟩,.int .i64 due] hp K:=by
  refine F65_ok _ (pd p 0) due hp K ?_
  unfold F65
  have said:∀ hp' z b e L',putD max source L p due=(z,b,e,L')→RefS hp hp' w max source L L'→K (.tuple ⟨[.agg ⟨z⟩,.bool b,.int .i64 e]⟩) hp':=fun hp' z b e L' he hs=>by
    have:=hK hp'; rw [he] at this; exact this hs
  clear hK
  unfold putD at said
  have hbad:¬ okDue due→F65_j1 (some ⟨w,0,none⟩) due true (pd p 0) zeroW hp K:=fun h0=>by
    rw [if_pos h0] at said
    unfold F65_j1
    rw [ite2_true]
    exact ifI rfl (ifI rfl (ifI (Nat.le_refl 4) (said hp _ _ _ _ rfl (.inl ⟨rfl,HSub.refl _⟩))))
  by_cases h1:due<0
  · rw [decide_eq_true h1,ite2_true]
    exact hbad (fun h=>by unfold okDue at h; omega)
  rw [decide_eq_false h1,ite2_false]
  by_cases h2:due > 4611686018427387904
  · rw [decide_eq_true h2]
    exact hbad (fun h=>by unfold okDue at h; omega)
  rw [decide_eq_false h2]
  have h0:okDue due:=⟨by omega,by omega⟩
  rw [if_neg (fun h=>h h0)] at said
  clear hbad
  unfold F65_j1
  rw [ite2_false]
  have c7:∀ d,cellsN (pd p d) 0 7=some (pd p d):=fun _=>rfl
  have k0:∀ d,(pd p d)[0]?=some (.string p.key):=fun _=>rfl
  have k1:∀ d,(pd p d)[1]?=some (.string p.src):=fun _=>rfl
  have k2:∀ d,(pd p d)[2]?=some (.int .i64 p.at_):=fun _=>rfl
  have k3:∀ d,(pd p d)[3]?=some (.bool p.more):=fun _=>rfl
  have k4:∀ d,(pd p d)[4]?=some (.string p.data):=fun _=>rfl
  have k5:∀ d,(pd p d)[5]?=some (.string p.head):=fun _=>rfl
  rw [c7,ldL_some]
  refine C68 hok ?_
  rw [boolV_bool]
  cases hrp:rightP p
  · rw [Bool.not_false,ite2_true]
    rw [if_pos hrp] at said
    exact ifI rfl (ifI rfl (ifI (Nat.le_refl 4) (said hp _ _ _ _ rfl (.inl ⟨rfl,HSub.refl _⟩))))
  rw [Bool.not_true,ite2_false,k0,ldV_some,strV_string]
  rw [if_neg (by rw [hrp]; decide)] at said
  refine C111 hr (by omega) ?_
  intro hp1 s c hs1 hrow
  rw [slcV_slice]
  have hol:=of_len p.key L
  have hro:∀ x∈ofL p.key L,rightP x.1=true:=fun x hx=>hri x (List.mem_filter.1 hx).1
  have hdue:dueD p.key L due=match ofL p.key L with | []=>due | x::_=>x.2:=by unfold dueD; rfl
  generalize hl:ofL p.key L=l at *
  have hr1:=hr.sub hs1
  have sh:=hrow.shows
  unfold F65_j11
  refine LoopP.by (J:=fun r (y:Int × List Value) hp'=>hp'=hp1∧y.2=zeroW∧∃ i:Nat,y.1=i∧i+r=l.length∧((l.take i).map (·.1)).any (sameP p)=false) ?_ (n:=l.length) ⟨rfl,rfl,0,rfl,by omega,rfl⟩
  rintro I r ⟨y,z⟩ hp2 ⟨rfl,hz,i,hy,hir,hany⟩ hgo
  simp only at hy hz
  subst hy
  unfold F65_l12
  simp only []
  by_cases hi:i<l.length
  · rw [decide_eq_true (by omega:(i:Int)<((l.length:Nat):Int)),ite2_true]
    obtain ⟨b,o,hao,hg⟩:=sh.get pdc_len rfl hi
    have g2:hp2.cell b (o+i*7+2)=some (.int .i64 l[i].1.at_):=HP.cell_cellN (j:=2) hg rfl
    have g3:hp2.cell b (o+i*7+3)=some (.bool l[i].1.more):=HP.cell_cellN (j:=3) hg rfl
    have g4:hp2.cell b (o+i*7+4)=some (.string l[i].1.data):=HP.cell_cellN (j:=4) hg rfl
    have w1:IntKind.wrap .i64 ((i:Int)+1)=((i+1:Nat):Int):=wiN (by omega) (by omega)
    have hsn:((l.take (i+1)).map (·.1)).any (sameP p)=(((l.take i).map (·.1)).any (sameP p)||sameP p l[i].1):=by
      rw [List.take_succ_eq_append_getElem hi,List.map_append,List.any_append]; simp
    have j13:∀ q:Bool,q=sameP p l[i].1→F65_j13 (some ⟨w,0,none⟩) due s l.length c 0 i q (pd p 0) z hp2 I K:=by
      intro q hq
      unfold F65_j13
      cases q
      · rw [ite2_false,w1]
        exact hgo (r-1) _ _ (by omega) ⟨rfl,hz,i+1,rfl,by omega,by rw [hsn,hany,← hq]; rfl⟩
      · rw [ite2_true]
        have ha:(l.map (·.1)).any (sameP p)=true:=by
          rw [List.any_eq_true]
          exact ⟨l[i].1,List.mem_map.2 ⟨l[i],List.getElem_mem hi,rfl⟩,hq.symm⟩
        rw [if_pos ha] at said
        subst hz
        exact ifI rfl (ifI rfl (ifI (Nat.le_refl 4) (said hp2 _ _ _ _ rfl (.inl ⟨rfl,hs1⟩))))
    have hq:sameP p l[i].1=(decide (l[i].1.at_=p.at_)&&decide (l[i].1.more=p.more)&&decide (l[i].1.data=p.data)):=by
      have dc:∀ {α:Type} [DecidableEq α] (a b:α),decide (a=b)=decide (b=a):=fun a b=>by rw [decide_eq_decide]; exact eq_comm
      unfold sameP
      rw [dc p.at_,dc p.more,dc p.data]
    simp only [hao,ptrN_some,Int.toNat_natCast,g2,g3,g4,k2,k3,k4,ldV_some,intV_int,boolV_bool,strV_string,str_eq]
    rw [← hao]
    refine ⟨by omega,by omega,?_⟩
    have b1:(l[i].1.at_==p.at_)=decide (l[i].1.at_=p.at_):=rfl
    have b2:(l[i].1.more==p.more)=decide (l[i].1.more=p.more):=by cases l[i].1.more <;> cases p.more <;> rfl
    rw [b1,b2]
    by_cases ha:l[i].1.at_=p.at_
    · rw [decide_eq_true ha,ite2_true]
      refine ⟨by omega,by omega,?_⟩
      by_cases hm:l[i].1.more=p.more
      · rw [decide_eq_true hm,ite2_true]
        exact ⟨by omega,by omega,j13 _ (by rw [hq,decide_eq_true ha,decide_eq_true hm]; rfl)⟩
      · rw [decide_eq_false hm,ite2_false]
        exact j13 _ (by rw [hq,decide_eq_true ha,decide_eq_false hm]; rfl)
    · rw [decide_eq_false ha,ite2_false]
      exact j13 _ (by rw [hq,decide_eq_false ha]; rfl)
  rw [decide_eq_false (by omega:¬ (i:Int)<((l.length:Nat):Int)),ite2_false]
  rw [List.take_of_length_le (by omega)] at hany
  rw [if_neg (by rw [hany]; decide)] at said
  clear hgo hir hany
  have three:∀ hp3,HSub hp2 hp3→F65_j3 (some ⟨w,0,none⟩) due s l.length c 0 (!fitD ((l++[(p,(0:Int))]).map (·.1))) (pd p 0) z hp3 K:=by
    intro hp3 hs3
    have hr3:=hr1.sub hs3
    have sh3:=(hrow.sub hs3).shows
    have hs13:=hs1.trans hs3
    have em:(l++[(p,(0:Int))]).map (·.1)=l.map (·.1)++[p]:=by simp
    rw [em]
    unfold F65_j3
    cases hfit:fitD (l.map (·.1)++[p])
    · rw [Bool.not_false,ite2_true,k0,ldV_some,strV_string]
      rw [if_pos hfit] at said
      refine C112 hr3 (by omega) ?_
      intro hp4 hs4
      subst hz
      exact ifI rfl (ifI rfl (ifI (Nat.le_refl 4) (said hp4 _ _ _ _ rfl (RefS.trans (.inl ⟨rfl,hs13⟩) hs4))))
    rw [Bool.not_true,ite2_false,k2,k3]
    rw [if_neg (by rw [hfit]; decide)] at said
    have four:∀ q:Bool,q=decide (l=[]∧p.at_=0∧p.more=false)→F65_j4 (some ⟨w,0,none⟩) due s l.length c 0 q (pd p 0) z hp3 K:=by
      intro q hq
      unfold F65_j4
      by_cases ha:l=[]∧p.at_=0∧p.more=false
      · rw [hq,decide_eq_true ha,ite2_true,k0,k4,k5]
        simp only [ldV_some,strV_string]
        rw [if_pos ha] at said
        subst hz
        exact ifI rfl (ifI rfl (ifI (Nat.le_refl 4) (said hp3 _ _ _ _ rfl (.inl ⟨rfl,hs13⟩))))
      rw [hq,decide_eq_false ha,ite2_false]
      rw [if_neg ha] at said
      unfold F65_j8
      obtain ⟨sL,cL,h1,h2⟩:=hr3
      have c2:(rfc max source sL L.length cL)[0+2]?=some (.slice sL L.length cL):=rfl
      have c1:(rfc max source sL L.length cL)[0+1]?=some (.int .i64 source):=rfl
      have c0:(rfc max source sL L.length cL)[0+0]?=some (.int .i64 max):=rfl
      refine LoopP.by (J:=fun r (y:Int × Int) hp'=>hp'=hp3∧∃ i:Nat,y.2=i∧i+r=L.length∧y.1=(cntP p.src ((L.take i).map (·.1)):Nat)) ?_ (n:=L.length) ⟨rfl,0,rfl,by omega,rfl⟩
      rintro I r ⟨y1,y2⟩ hp4 ⟨rfl,i,hy,hir,hy1⟩ hgo
      simp only at hy hy1
      subst hy hy1
      unfold F65_l9
      simp only [ptrN_some,HP.cell_of h1,c2,ldV_some,slcV_slice]
      by_cases hi:i<L.length
      · rw [decide_eq_true (by omega:(i:Int)<((L.length:Nat):Int)),ite2_true]
        obtain ⟨b,o,hao,hg⟩:=h2.shows.get pdc_len rfl hi
        have g1:hp4.cell b (o+i*7+1)=some (.string L[i].1.src):=HP.cell_cellN (j:=1) hg rfl
        have hle:cntP p.src ((L.take i).map (·.1))≤i:=by
          refine Nat.le_trans cnt_le ?_
          rw [List.length_map,List.length_take]; omega
        have w1:IntKind.wrap .i64 ((i:Int)+1)=((i+1:Nat):Int):=wiN (by omega) (by omega)
        have w2:IntKind.wrap .i64 (((cntP p.src ((L.take i).map (·.1)):Nat):Int)+1)=((cntP p.src ((L.take i).map (·.1))+1:Nat):Int):=wiN (by omega) (by omega)
        have hsn:cntP p.src ((L.take (i+1)).map (·.1))=cntP p.src ((L.take i).map (·.1))+if L[i].1.src=p.src then 1 else 0:=by
          rw [List.take_succ_eq_append_getElem hi,List.map_append,cnt_app]
          congr 1
          unfold cntP
          by_cases h:L[i].1.src=p.src <;> simp [h]
        simp only [hao,ptrN_some,Int.toNat_natCast,g1,k1,ldV_some,strV_string,str_eq]
        refine ⟨by omega,by omega,?_⟩
        unfold F65_j10
        rw [w1,w2]
        by_cases h:L[i].1.src=p.src
        · rw [decide_eq_true h,ite2_true]
          rw [if_pos h] at hsn
          exact hgo (r-1) _ _ (by omega) ⟨rfl,i+1,rfl,by omega,by rw [hsn]⟩
        · rw [decide_eq_false h,ite2_false]
          rw [if_neg h] at hsn
          exact hgo (r-1) _ _ (by omega) ⟨rfl,i+1,rfl,by omega,by rw [hsn]; rfl⟩
      rw [decide_eq_false (by omega:¬ (i:Int)<((L.length:Nat):Int)),ite2_false]
      rw [List.take_of_length_le (by omega)]
      clear hgo hir
      unfold F65_j5
      simp only [ptrN_some,HP.cell_of h1,c2,c1,c0,ldV_some,slcV_slice,intV_int]
      by_cases hf:((L.length:Nat):Int)≥max
      · rw [decide_eq_true hf,ite2_true]
        rw [if_pos hf] at said
        subst hz
        exact ifI rfl (ifI rfl (ifI (Nat.le_refl 4) (said hp4 _ _ _ _ rfl (.inl ⟨rfl,hs13⟩))))
      rw [decide_eq_false hf,ite2_false]
      rw [if_neg hf] at said
      by_cases hso:((cntP p.src (L.map (·.1)):Nat):Int)≥source
      · rw [decide_eq_true hso,ite2_true]
        rw [if_pos hso] at said
        subst hz
        exact ifI rfl (ifI rfl (ifI (Nat.le_refl 4) (said hp4 _ _ _ _ rfl (.inl ⟨rfl,hs13⟩))))
      rw [decide_eq_false hso,ite2_false]
      rw [if_neg hso] at said
      refine ifI (show 6<7 by decide) ?_
      have e6:∀ d d',List.set (pd p d) 6 (.int .i64 d')=pd p d':=fun _ _=>rfl
      have six:F65_j6 (some ⟨w,0,none⟩) (pd p (dueD p.key L due)) z hp4 K:=by
        refine ref6 hz ⟨sL,cL,h1,h2⟩ hL hri hrp (fun hp' hj hs'=>?_) (fun hp' d hj hs'=>?_)
        · rw [hj] at said
          exact said hp' _ _ _ _ rfl (RefS.trans (.inl ⟨rfl,hs13⟩) hs')
        · rw [hj] at said
          exact said hp' _ _ _ _ rfl (RefS.trans (.inl ⟨rfl,hs13⟩) hs')
      by_cases hl0:l=[]
      · have:decide (((l.length:Nat):Int) > 0)=false:=decide_eq_false (by rw [hl0]; simp)
        rw [this,ite2_false,e6]
        rw [hdue,hl0] at six
        exact six
      · have hl1:0<l.length:=List.length_pos_iff.2 hl0
        rw [decide_eq_true (by omega:((l.length:Nat):Int) > 0),ite2_true]
        obtain ⟨b,o,hao,hg⟩:=sh3.get pdc_len rfl hl1
        have g6:hp4.cell b (o+0*7+6)=some (.int .i64 l[0].2):=HP.cell_cellN (j:=6) hg rfl
        have hd:dueD p.key L due=l[0].2:=by
          rw [hdue]
          cases l with
          | nil=>exact absurd rfl hl0
          | cons a l=>rfl
        have t0:Int.toNat 0=0:=rfl
        simp only [hao,ptrN_some,t0,g6,ldV_some,intV_int,e6]
        rw [hd] at six
        exact ⟨by omega,by omega,ifI (show 6<7 by decide) six⟩
    have l0:(((l.length:Nat):Int)==0)=decide (l=[]):=by
      cases l with
      | nil=>rfl
      | cons a l=>rw [decide_eq_false (by simp)]; rw [beq_eq_false_iff_ne]; simp; omega
    have a0:(p.at_==0)=decide (p.at_=0):=rfl
    simp only [ldV_some,intV_int,boolV_bool]
    rw [l0,a0]
    by_cases hl0:l=[]
    · rw [decide_eq_true hl0,ite2_true]
      by_cases ha0:p.at_=0
      · rw [decide_eq_true ha0,ite2_true]
        refine four _ ?_
        cases hm:p.more
        · rw [decide_eq_true ⟨hl0,ha0,rfl⟩]; rfl
        · rw [decide_eq_false (fun h=>by cases h.2.2)]; rfl
      · rw [decide_eq_false ha0,ite2_false]
        exact four _ (decide_eq_false (fun h=>ha0 h.2.1)).symm
    · rw [decide_eq_false hl0,ite2_false]
      exact four _ (decide_eq_false (fun h=>hl0 h.1)).symm
  have c113:∀ hp3 s2 c2,HSub hp2 hp3→Row hp3 s2 (l.length+1) c2 118 7 (l.flatMap pdc++pdc (p,0))→CF Try.prog 113 [.slice s2 (l.length+1) c2] hp3 fun u h=>boolV u fun q=>F65_j3 (some ⟨w,0,none⟩) due s l.length c 0 (!q) (pd p 0) z h K:=by
    intro hp3 s2 c2 hs3 hr3
    have e2:l.flatMap pdc++pdc (p,0)=(l++[(p,(0:Int))]).flatMap pdc:=by rw [List.flatMap_append]; simp
    rw [e2] at hr3
    refine C113 hr3.shows (by simp) (by omega) (fun x hx=>?_) ?_
    · rcases List.mem_append.1 hx with hx | hx
      · exact hro x hx
      · rw [List.mem_singleton.1 hx]; exact hrp
    · rw [boolV_bool]
      exact three hp3 hs3
  have done:∀ (Y:Value→HP→Prop),(∀ u h,Y u h=slcV u fun a n k=>CF Try.prog 113 [.slice a n k] h fun u h=>boolV u fun q=>F65_j3 (some ⟨w,0,none⟩) due s l.length c 0 (!q) (pd p 0) z h K)→∀ hp3 s2 c2,HSub hp2 hp3→Row hp3 s2 (l.length+1) c2 118 7 (l.flatMap pdc++pdc (p,0))→(∀ b',s2=some ⟨b',0,none⟩→hp2 b'=.none)→Y (.slice s2 (l.length+1) c2) hp3:=by
    intro Y hY hp3 s2 c2 a1 a2 _
    rw [hY,slcV_slice]
    exact c113 hp3 s2 c2 a1 a2
  have hz7:splice [(Value.string ⟨#[]⟩),(Value.string ⟨#[]⟩),(Value.int .i64 0),(Value.bool false),(Value.string ⟨#[]⟩),(Value.string ⟨#[]⟩),(Value.int .i64 0)] 0 (pd p 0)=pd p 0:=splice_all rfl
  have e7:List.length (pd p 0)=7:=rfl
  have hn:l.length≤100000:=by omega
  unfold F65_j2
  simp only [c7,e7,ldL_some,if_true,hz7]
  refine ⟨fun b hb=>?_,fun b hb b2 hb2=>?_,fun b hb b2 hb2=>?_⟩
  · exact app2A (x:=(p,0)) hrow (pdl_one l) hn (HSub.set_fresh hp2 _ hb) (HP.set_eq ..) hb (done _ fun _ _=>rfl)
  · exact app2B1 (x:=(p,0)) hrow (pdl_one l) hn hb hb2 (done _ fun _ _=>rfl)
  · exact app2B2 (x:=(p,0)) hrow (pdl_one l) hn hb hb2 (done _ fun _ _=>rfl)
end
end Go.Proofs
set_option linter.unusedVariables false
set_option maxRecDepth 20000
namespace Go.Proofs
open Go Go.HL
section
variable {e E:Env} {x0:OA} {x1:Int} {x5a:OA} {x5n x5c:Nat} {x6a:OA} {x6n x6c:Nat} {x7:ByteArray} {x8:Int} {x9:Bool} {x10:Int} {x11a:OA} {x11n x11c:Nat} {x12a:OA} {x12n x12c:Nat} {x13:ByteArray} {x14:Int} {hp:HP} {K:Env→PV→HP→Prop}
abbrev R63 (p n:Nat):=RW Try.prog 89 [] (opsAt Try.f63 (pth p)) (List.range n)
theorem F63_r0:R63 2 1 e V0 hp K=
 K (upd e 4 (sS none 0 0)) V0 hp:= by kernel_rfl
theorem F63_r1:R63 67 3 (upd e 0 (sP x0)) V0 hp K=
 CF Try.prog 69 [(.pointer x0)] hp fun u1 h2=>(slcV u1 fun a3 n4 c5=>K (w4 e 0 (sP x0) 15 (sP x0) 16 (sS a3 n4 c5) 6 (sS a3 n4 c5)) V0 h2):= by kernel_rfl
theorem F63_r2:R63 163 1 e V0 hp K=
 K (upd e 7 (sV (.string (⟨#[]⟩:ByteArray)))) V0 hp:= by kernel_rfl
theorem F63_r3:R63 355 1 e V0 hp K=
 K (upd e 8 (sI 0)) V0 hp:= by kernel_rfl
theorem F63_r4:R63 739 1 e V0 hp K=
 K (upd e 9 (sB false)) V0 hp:= by kernel_rfl
theorem F63_r5:R63 5091 2 (upd e 9 (sB x9)) V0 hp K=
 K (w3 e 9 (sB x9) 55 (sB x9) 56 (sB ((!x9)))) V0 hp:= by kernel_rfl
theorem F63_r6:R63 19427 2 (upd e 5 (sS x5a x5n x5c)) V0 hp K=
 K (w3 e 5 (sS x5a x5n x5c) 57 (sS x5a x5n x5c) 4 (sS x5a x5n x5c)) V0 hp:= by kernel_rfl
theorem F63_r7:R63 6115 4 (w2 e 7 (sT x7) 0 (sP x0)) V0 hp K=
 CF Try.prog 111 [(.pointer x0),(.string x7)] hp fun u1 h2=>(slcV u1 fun a3 n4 c5=>K (w6 e 7 (sT x7) 0 (sP x0) 58 (sP x0) 59 (sT x7) 60 (sS a3 n4 c5) 12 (sS a3 n4 c5)) V0 h2):= by kernel_rfl
theorem F63_r8:R63 12259 1 e V0 hp K=
 K (upd e 13 (sV (.string (⟨#[]⟩:ByteArray)))) V0 hp:= by kernel_rfl
theorem F63_r9 (h:E=upd (w3 e 13 (sT x13) 12 (sS x12a x12n x12c) 7 (sT x7)) 5 (sS x5a x5n x5c)):R63 49123 9 E V0 hp K=
    (if List.length [(Value.string x7),(.string x13),.string ⟨#[]⟩,(.int .i64 (x12n:Nat))]=4 then (∀ b1:Nat,hp b1=.none→(opS Try.prog (Builtin.append_ #[111,111] 111 ⟨[(.slice x5a x5n x5c),(.slice (some ⟨b1,0,none⟩) 1 1)]⟩) (HP.set hp b1 (.cells 114 (splice [.string ⟨#[]⟩,.string ⟨#[]⟩,.string ⟨#[]⟩,.int .i64 0] 0 [(.string x7),(.string x13),.string ⟨#[]⟩,(.int .i64 (x12n:Nat))]) 0)) fun u2 h3=>slcV u2 fun a4 n5 c6=>K (upd (w8 E 78 (sS x5a x5n x5c) 79 (sT x7) 80 (sT x13) 81 (sS x12a x12n x12c) 82 (sI ((x12n:Nat))) 83 (sV (.agg ⟨[(.string x7),(.string x13),.string ⟨#[]⟩,(.int .i64 (x12n:Nat))]⟩)) 84 (sV (.slice (some ⟨b1,0,none⟩) 1 1)) 85 (sS a4 n5 c6)) 5 (sS a4 n5 c6)) V0 h3)) else False):=by subst h; kernel_rfl
theorem F63_r10:R63 65507 3 (w2 e 7 (sT x7) 0 (sP x0)) V0 hp K=
 CF Try.prog 112 [(.pointer x0),(.string x7)] hp fun u1 h2=>(K (w5 e 7 (sT x7) 0 (sP x0) 86 (sP x0) 87 (sT x7) 88 (sV u1)) V0 h2):= by kernel_rfl
def F63_j4 (x0:OA) (x1:Int) (x5a:OA) (x5n x5c:Nat) (x7:ByteArray) (x12a:OA) (x12n x12c:Nat) (x13:ByteArray) (hp:HP) (I2:(OA × Nat × Nat)→HP→Prop) (K:Kh):Prop:=
  (if List.length [(Value.string x7),(.string x13),.string ⟨#[]⟩,(.int .i64 (x12n:Nat))]=4 then (∀ b11:Nat,hp b11=.none→(opS Try.prog (Builtin.append_ #[111,111] 111 ⟨[(.slice x5a x5n x5c),(.slice (some ⟨b11,0,none⟩) 1 1)]⟩) (HP.set hp b11 (.cells 114 (splice [.string ⟨#[]⟩,.string ⟨#[]⟩,.string ⟨#[]⟩,.int .i64 0] 0 [(.string x7),(.string x13),.string ⟨#[]⟩,(.int .i64 (x12n:Nat))]) 0)) fun u12 h13=>slcV u12 fun a14 n15 c16=>CF Try.prog 112 [(.pointer x0),(.string x7)] h13 fun u17 h18=>I2 (a14,n15,c16) h18)) else False)
theorem F63_r11 (h:E=upd (upd e 14 (sI x14)) 12 (sS x12a x12n x12c)):R63 548835 4 E V0 hp K=
 K (w4 E 61 (sI x14) 62 (sS x12a x12n x12c) 63 (sI ((x12n:Nat))) 64 (sB ((decide (x14<x12n))))) V0 hp:= by subst h; kernel_rfl
theorem F63_r12:R63 942051 3 (upd e 14 (sI x14)) V0 hp K=
 K (w4 e 14 (sI x14) 65 (sI x14) 66 (sI ((wr (x14+1)))) 14 (sI ((wr (x14+1))))) V0 hp:= by kernel_rfl
def F63_j7 (x0:OA) (x1:Int) (x5a:OA) (x5n x5c:Nat) (x7:ByteArray) (x12a:OA) (x12n x12c:Nat) (x13:ByteArray) (x14:Int) (hp:HP) (I2:(OA × Nat × Nat)→HP→Prop) (I6:(ByteArray × Int)→HP→Prop) (K:Kh):Prop:=
  (I6 (x13,(IntKind.wrap .i64 (x14+1))) hp)
theorem F63_r13 (h:E=upd (upd e 14 (sI x14)) 12 (sS x12a x12n x12c)):R63 2252771 6 E V0 hp K=
    ((0≤x14)∧(x14<x12n)∧(ptrN x12a fun b1 o2=>ldV (HP.cell hp b1 ((o2+Int.toNat x14*7)+2)) fun v3=>intV v3 .i64 fun i4=>K (w6 E 67 (sS x12a x12n x12c) 68 (sI x14) 69 (sQ b1 (o2+Int.toNat x14*7)) 70 (sQ b1 ((o2+Int.toNat x14*7)+2)) 71 (sI i4) 72 (sB ((i4==0)))) V0 hp)):=by subst h; kernel_rfl
theorem F63_r14 (h:E=upd (upd e 14 (sI x14)) 12 (sS x12a x12n x12c)):R63 5398499 6 E V0 hp K=
    ((0≤x14)∧(x14<x12n)∧(ptrN x12a fun b1 o2=>ldV (HP.cell hp b1 ((o2+Int.toNat x14*7)+5)) fun v3=>strV v3 fun s4=>K (w6 E 73 (sS x12a x12n x12c) 74 (sI x14) 75 (sQ b1 (o2+Int.toNat x14*7)) 76 (sQ b1 ((o2+Int.toNat x14*7)+5)) 77 (sT s4) 13 (sT s4)) V0 hp)):=by subst h; kernel_rfl
def F63_l6 (x0:OA) (x1:Int) (x5a:OA) (x5n x5c:Nat) (x7:ByteArray) (x12a:OA) (x12n x12c:Nat) (I2:(OA × Nat × Nat)→HP→Prop) (K:Kh) (I6:(ByteArray × Int)→HP→Prop) (x13:ByteArray) (x14:Int) (hp:HP):Prop:=
  (ite2 (decide (x14<x12n)) ((0≤x14)∧(x14<x12n)∧(ptrN x12a fun b19 o20=>ldV (HP.cell hp b19 ((o20+Int.toNat x14*7)+2)) fun v21=>intV v21 .i64 fun i22=>ite2 (i22==0) ((0≤x14)∧(x14<x12n)∧(ptrN x12a fun b23 o24=>ldV (HP.cell hp b23 ((o24+Int.toNat x14*7)+5)) fun v25=>strV v25 fun s26=>F63_j7 x0 x1 x5a x5n x5c x7 x12a x12n x12c s26 x14 hp I2 I6 K)) (F63_j7 x0 x1 x5a x5n x5c x7 x12a x12n x12c x13 x14 hp I2 I6 K))) (F63_j4 x0 x1 x5a x5n x5c x7 x12a x12n x12c x13 hp I2 K))
def F63_j5 (x0:OA) (x1:Int) (x5a:OA) (x5n x5c:Nat) (x7:ByteArray) (x12a:OA) (x12n x12c:Nat) (x13:ByteArray) (x14:Int) (hp:HP) (I2:(OA × Nat × Nat)→HP→Prop) (K:Kh):Prop:=
  (LoopP (σ:=ByteArray × Int) (fun I s hp=>F63_l6 x0 x1 x5a x5n x5c x7 x12a x12n x12c I2 K I s.1 s.2 hp) (x13,x14) hp)
theorem F63_r15:R63 40931 1 e V0 hp K=
 K (upd e 14 (sI 0)) V0 hp:= by kernel_rfl
def F63_j3 (x0:OA) (x1:Int) (x5a:OA) (x5n x5c:Nat) (x7:ByteArray) (x9:Bool) (hp:HP) (I2:(OA × Nat × Nat)→HP→Prop) (K:Kh):Prop:=
  (ite2 (!x9) (K (.slice x5a x5n x5c) hp) (CF Try.prog 111 [(.pointer x0),(.string x7)] hp fun u6 h7=>slcV u6 fun a8 n9 c10=>F63_j5 x0 x1 x5a x5n x5c x7 a8 n9 c10 (⟨#[]⟩:ByteArray) 0 h7 I2 K))
theorem F63_r16:R63 34275 4 (w2 e 10 (sI x10) 6 (sS x6a x6n x6c)) V0 hp K=
 K (w6 e 10 (sI x10) 6 (sS x6a x6n x6c) 17 (sI x10) 18 (sS x6a x6n x6c) 19 (sI ((x6n:Nat))) 20 (sB ((decide (x10<x6n))))) V0 hp:= by kernel_rfl
theorem F63_r17:R63 58851 3 (upd e 10 (sI x10)) V0 hp K=
 K (w4 e 10 (sI x10) 21 (sI x10) 22 (sI ((wr (x10+1)))) 10 (sI ((wr (x10+1))))) V0 hp:= by kernel_rfl
def F63_j10 (x0:OA) (x1:Int) (x5a:OA) (x5n x5c:Nat) (x6a:OA) (x6n x6c:Nat) (x7:ByteArray) (x8:Int) (x9:Bool) (x10:Int) (hp:HP) (I2:(OA × Nat × Nat)→HP→Prop) (I9:(ByteArray × Int × Bool × Int)→HP→Prop) (K:Kh):Prop:=
  (I9 (x7,x8,x9,(IntKind.wrap .i64 (x10+1))) hp)
theorem F63_r18 (h:E=upd (w2 e 10 (sI x10) 6 (sS x6a x6n x6c)) 0 (sP x0)):R63 140771 7 E V0 hp K=
    ((0≤x10)∧(x10<x6n)∧(ptrN x6a fun b1 o2=>ldV (HP.cell hp b1 (o2+Int.toNat x10*1)) fun v3=>strV v3 fun s4=>CF Try.prog 111 [(.pointer x0),(.string s4)] hp fun u5 h6=>slcV u5 fun a7 n8 c9=>K (w7 E 23 (sP x0) 24 (sS x6a x6n x6c) 25 (sI x10) 26 (sQ b1 (o2+Int.toNat x10*1)) 27 (sT s4) 28 (sS a7 n8 c9) 11 (sS a7 n8 c9)) V0 h6)):=by subst h; kernel_rfl
theorem F63_r19:R63 1254883 5 (w2 e 10 (sI x10) 6 (sS x6a x6n x6c)) V0 hp K=
    ((0≤x10)∧(x10<x6n)∧(ptrN x6a fun b1 o2=>ldV (HP.cell hp b1 (o2+Int.toNat x10*1)) fun v3=>strV v3 fun s4=>K (w7 e 10 (sI x10) 6 (sS x6a x6n x6c) 47 (sS x6a x6n x6c) 48 (sI x10) 49 (sQ b1 (o2+Int.toNat x10*1)) 50 (sT s4) 7 (sT s4)) V0 hp)):=by kernel_rfl
theorem F63_r20:R63 2827747 5 (upd e 11 (sS x11a x11n x11c)) V0 hp K=
    ((0≤(0:Int))∧((0:Int)<x11n)∧(ptrN x11a fun b1 o2=>ldV (HP.cell hp b1 ((o2+Int.toNat 0*7)+6)) fun v3=>intV v3 .i64 fun i4=>K (w6 e 11 (sS x11a x11n x11c) 51 (sS x11a x11n x11c) 52 (sQ b1 (o2+Int.toNat 0*7)) 53 (sQ b1 ((o2+Int.toNat 0*7)+6)) 54 (sI i4) 8 (sI i4)) V0 hp)):=by kernel_rfl
theorem F63_r21:R63 3876323 1 e V0 hp K=
 K (upd e 9 (sB true)) V0 hp:= by kernel_rfl
def F63_j11 (x0:OA) (x1:Int) (x5a:OA) (x5n x5c:Nat) (x6a:OA) (x6n x6c:Nat) (x7:ByteArray) (x8:Int) (x9:Bool) (x10:Int) (x11a:OA) (x11n x11c:Nat) (x46:Bool) (hp:HP) (I2:(OA × Nat × Nat)→HP→Prop) (I9:(ByteArray × Int × Bool × Int)→HP→Prop) (K:Kh):Prop:=
  (ite2 x46 ((0≤x10)∧(x10<x6n)∧(ptrN x6a fun b36 o37=>ldV (HP.cell hp b36 (o37+Int.toNat x10*1)) fun v38=>strV v38 fun s39=>(0≤(0:Int))∧((0:Int)<x11n)∧(ptrN x11a fun b40 o41=>ldV (HP.cell hp b40 ((o41+Int.toNat 0*7)+6)) fun v42=>intV v42 .i64 fun i43=>F63_j10 x0 x1 x5a x5n x5c x6a x6n x6c s39 i43 true x10 hp I2 I9 K))) (F63_j10 x0 x1 x5a x5n x5c x6a x6n x6c x7 x8 x9 x10 hp I2 I9 K))
theorem F63_r22 (h:E=upd (w3 e 11 (sS x11a x11n x11c) 9 (sB x9) 8 (sI x8)) 1 (sI x1)):R63 337379 18 E V0 hp K=
    ((0≤(0:Int))∧((0:Int)<x11n)∧(ptrN x11a fun b1 o2=>ldV (HP.cell hp b1 ((o2+Int.toNat 0*7)+6)) fun v3=>intV v3 .i64 fun i4=>ite2 (decide (i4≤x1)) (ite2 (!x9) (K (w2 (w8 (w8 E 29 (sS x11a x11n x11c) 30 (sQ b1 (o2+Int.toNat 0*7)) 31 (sQ b1 ((o2+Int.toNat 0*7)+6)) 32 (sI i4) 33 (sI x1) 34 (sB (decide (i4≤x1))) 35 (sB true) 36 (sB x9)) 37 (sB ((!x9))) 38 (sB true) 39 sU 40 sU 41 sU 42 sU 43 sU 44 sU) 45 (sB true) 46 (sB true)) V0 hp) ((0≤(0:Int))∧((0:Int)<x11n)∧(ptrN x11a fun b5 o6=>ldV (HP.cell hp b5 ((o6+Int.toNat 0*7)+6)) fun v7=>intV v7 .i64 fun i8=>K (w2 (w8 (w8 E 29 (sS x11a x11n x11c) 30 (sQ b1 (o2+Int.toNat 0*7)) 31 (sQ b1 ((o2+Int.toNat 0*7)+6)) 32 (sI i4) 33 (sI x1) 34 (sB (decide (i4≤x1))) 35 (sB true) 36 (sB x9)) 37 (sB ((!x9))) 38 (sB false) 39 (sS x11a x11n x11c) 40 (sQ b5 (o6+Int.toNat 0*7)) 41 (sQ b5 ((o6+Int.toNat 0*7)+6)) 42 (sI i8) 43 (sI x8) 44 (sB (decide (i8<x8)))) 45 (sB (decide (i8<x8))) 46 (sB (decide (i8<x8)))) V0 hp))) (K (w2 (w8 (w8 E 29 (sS x11a x11n x11c) 30 (sQ b1 (o2+Int.toNat 0*7)) 31 (sQ b1 ((o2+Int.toNat 0*7)+6)) 32 (sI i4) 33 (sI x1) 34 (sB (decide (i4≤x1))) 35 (sB false) 36 sU) 37 sU 38 sU 39 sU 40 sU 41 sU 42 sU 43 sU 44 sU) 45 sU 46 (sB false)) V0 hp))):=by subst h; kernel_rfl
def F63_l9 (x0:OA) (x1:Int) (x5a:OA) (x5n x5c:Nat) (x6a:OA) (x6n x6c:Nat) (I2:(OA × Nat × Nat)→HP→Prop) (K:Kh) (I9:(ByteArray × Int × Bool × Int)→HP→Prop) (x7:ByteArray) (x8:Int) (x9:Bool) (x10:Int) (hp:HP):Prop:=
  (ite2 (decide (x10<x6n)) ((0≤x10)∧(x10<x6n)∧(ptrN x6a fun b27 o28=>ldV (HP.cell hp b27 (o28+Int.toNat x10*1)) fun v29=>strV v29 fun s30=>CF Try.prog 111 [(.pointer x0),(.string s30)] hp fun u31 h32=>slcV u31 fun a33 n34 c35=>(0≤(0:Int))∧((0:Int)<n34)∧(ptrN a33 fun b44 o45=>ldV (HP.cell h32 b44 ((o45+Int.toNat 0*7)+6)) fun v46=>intV v46 .i64 fun i47=>ite2 (decide (i47≤x1)) (ite2 (!x9) (F63_j11 x0 x1 x5a x5n x5c x6a x6n x6c x7 x8 x9 x10 a33 n34 c35 true h32 I2 I9 K) ((0≤(0:Int))∧((0:Int)<n34)∧(ptrN a33 fun b48 o49=>ldV (HP.cell h32 b48 ((o49+Int.toNat 0*7)+6)) fun v50=>intV v50 .i64 fun i51=>F63_j11 x0 x1 x5a x5n x5c x6a x6n x6c x7 x8 x9 x10 a33 n34 c35 (decide (i51<x8)) h32 I2 I9 K))) (F63_j11 x0 x1 x5a x5n x5c x6a x6n x6c x7 x8 x9 x10 a33 n34 c35 false h32 I2 I9 K)))) (F63_j3 x0 x1 x5a x5n x5c x7 x9 hp I2 K))
def F63_j8 (x0:OA) (x1:Int) (x5a:OA) (x5n x5c:Nat) (x6a:OA) (x6n x6c:Nat) (x7:ByteArray) (x8:Int) (x9:Bool) (x10:Int) (hp:HP) (I2:(OA × Nat × Nat)→HP→Prop) (K:Kh):Prop:=
  (LoopP (σ:=ByteArray × Int × Bool × Int) (fun I s hp=>F63_l9 x0 x1 x5a x5n x5c x6a x6n x6c I2 K I s.1 s.2.1 s.2.2.1 s.2.2.2 hp) (x7,x8,x9,x10) hp)
theorem F63_r23:R63 2531 1 e V0 hp K=
 K (upd e 10 (sI 0)) V0 hp:= by kernel_rfl
def F63_l2 (x0:OA) (x1:Int) (K:Kh) (I2:(OA × Nat × Nat)→HP→Prop) (x5a:OA) (x5n x5c:Nat) (hp:HP):Prop:=
  (CF Try.prog 69 [(.pointer x0)] hp fun u1 h2=>slcV u1 fun a3 n4 c5=>F63_j8 x0 x1 x5a x5n x5c a3 n4 c5 (⟨#[]⟩:ByteArray) 0 false 0 h2 I2 K)
def F63_j1 (x0:OA) (x1:Int) (x5a:OA) (x5n x5c:Nat) (hp:HP) (K:Kh):Prop:=
  (LoopP (σ:=OA × Nat × Nat) (fun I s hp=>F63_l2 x0 x1  K I s.1 s.2.1 s.2.2 hp) (x5a,x5n,x5c) hp)
theorem F63_r24:R63 5 1 e V0 hp K=
 K (upd e 5 (sS none 0 0)) V0 hp:= by kernel_rfl
def F63 (x0:OA) (x1:Int) (hp:HP) (K:Kh):Prop:=
  (F63_j1 x0 x1 none 0 0 hp  K)
noncomputable abbrev o63 (k n:Nat):Code:=.region k (opsAt Try.f63 (pth n)) false
noncomputable def F63_code:Code:=(.seq (o63 0 2) (.seq (o63 1 5) (.block 0 (.loop (.block 1 (.seq (o63 2 67) (.seq (o63 3 163) (.seq (o63 4 355) (.seq (o63 5 739) (.seq (.seq (o63 6 2531) (.block 2 (.loop (.seq (.seq (o63 7 34275) (.cond (.tmp 20) .skip (.exit 2))) (.seq (.block 3 (.seq (o63 9 140771) (.seq (o63 10 337379) (.cond (.tmp 46) (.seq (o63 11 1254883) (.seq (o63 12 2827747) (o63 13 3876323))) .skip)))) (o63 8 58851)))))) (.seq (.seq (o63 14 5091) (.cond (.tmp 56) (.seq (o63 15 19427) .ret) .skip)) (.seq (o63 16 6115) (.seq (o63 17 12259) (.seq (.seq (o63 18 40931) (.block 4 (.loop (.seq (.seq (o63 19 548835) (.cond (.tmp 64) .skip (.exit 4))) (.seq (.block 5 (.seq (o63 21 2252771) (.cond (.tmp 72) (o63 22 5398499) .skip))) (o63 20 942051)))))) (.seq (o63 23 49123) (o63 24 65507))))))))))))))))
theorem F63_body:Try.f63.body=some F63_code:=by kernel_rfl
theorem F63_ok (x0:OA) (x1:Int) (hp:HP) (K:Kh) (h:F63 x0 x1 hp K):CF Try.prog 63 [(.pointer x0),(.int .i64 x1)] hp K:=by
 refine .inl ⟨by kernel_rfl,AC.intro (N:=89) Try.func63 F63_body rfl (Nat.le_of_ble_eq_true rfl) ?_⟩
 unfold F63 at h
 refine Ar F63_r0 ?_ (r2 0 1 Rn) (z2 Sn) Sn
 refine As (fun env pv hp=>∃ x0 x1 x5a x5n x5c,Sub (w3 E0 5 (sS x5a x5n x5c) 1 (sI x1) 0 (sP x0)) env∧Sub V0 pv∧F63_j1 x0 x1 x5a x5n x5c hp  K) ?_ ?_
 ·refine Ag F63_r24 ?_ (r2 0 1 Rn) (z2 Sn) Sn
  exact ⟨_,_,_,_,_,(z3 Sn),Sn,h⟩
 ·rintro env pv hp ⟨x0,x1,x5a,x5n,x5c,he,hv,h⟩
  refine Ae ?_ (r3 0 1 5 Rn) he hv
  unfold F63_j1 at h
  refine AWP.block (AWP.loop (σ:=OA × Nat × Nat) _ (fun s=>w3 E0 5 (sV (.slice s.1 s.2.1 s.2.2)) 1 (sI x1) 0 (sP x0)) (fun s=>V0) (x5a,x5n,x5c) h (fun s=>r3 0 1 5 Rn) (z3 Sn) Sn ?_)
  intro I2 s hp h
  obtain ⟨x5a,x5n,x5c⟩:=s
  replace h:F63_l2 x0 x1  K I2 x5a x5n x5c hp:=h
  unfold F63_l2 at h
  refine AWP.block (Ar F63_r1 ?_ (r3 0 1 5 Rn) (z3 Sn) Sn)
  refine mC h fun u1 h2 h=>mS h fun a3 n4 c5 h=>?_
  refine Ar F63_r2 ?_ (r4 0 1 5 6 Rn) (z4 Sn) Sn
  refine Ar F63_r3 ?_ (r5 0 1 5 6 7 Rn) (z5 Sn) Sn
  refine Ar F63_r4 ?_ (r6 0 1 5 6 7 8 Rn) (z6 Sn) Sn
  refine As (fun env pv hp=>∃ x5a x5n x5c x7 x9,Sub (w5 E0 9 (sB x9) 7 (sT x7) 5 (sS x5a x5n x5c) 1 (sI x1) 0 (sP x0)) env∧Sub V0 pv∧F63_j3 x0 x1 x5a x5n x5c x7 x9 hp I2 K) ?_ ?_
  ·refine As (fun env pv hp=>∃ x5a x5n x5c x6a x6n x6c x7 x8 x9 x10,Sub (w8 E0 10 (sI x10) 9 (sB x9) 8 (sI x8) 7 (sT x7) 6 (sS x6a x6n x6c) 5 (sS x5a x5n x5c) 1 (sI x1) 0 (sP x0)) env∧Sub V0 pv∧F63_j8 x0 x1 x5a x5n x5c x6a x6n x6c x7 x8 x9 x10 hp I2 K) ?_ ?_
   ·refine Ag F63_r23 ?_ (r7 0 1 5 6 7 8 9 Rn) (z7 Sn) Sn
    exact ⟨_,_,_,_,_,_,_,_,_,_,(z8 Sn),Sn,h⟩
   ·rintro env pv hp ⟨x5a,x5n,x5c,x6a,x6n,x6c,x7,x8,x9,x10,he,hv,h⟩
    refine Ae ?_ (r8 0 1 5 6 7 8 9 10 Rn) he hv
    unfold F63_j8 at h
    refine AWP.block (AWP.loop (σ:=ByteArray × Int × Bool × Int) _ (fun s=>w8 E0 10 (sI (s.2.2.2)) 9 (sB (s.2.2.1)) 8 (sI (s.2.1)) 7 (sV (.string s.1)) 6 (sS x6a x6n x6c) 5 (sS x5a x5n x5c) 1 (sI x1) 0 (sP x0)) (fun s=>V0) (x7,x8,x9,x10) h (fun s=>r8 0 1 5 6 7 8 9 10 Rn) (z8 Sn) Sn ?_)
    intro I9 s hp h
    obtain ⟨x7,x8,x9,x10⟩:=s
    replace h:F63_l9 x0 x1 x5a x5n x5c x6a x6n x6c I2 K I9 x7 x8 x9 x10 hp:=h
    unfold F63_l9 at h
    refine Aq (Ar F63_r16 ?_ (r8 6 10 0 1 5 7 8 9 Rn) (z8 Sn) Sn)
    refine Ac h rfl (fun h=>?_) (fun h=>?_)
    ·refine AWP.skip (As (fun env pv hp=>∃ x7 x8 x9 x10,Sub (w8 E0 10 (sI x10) 9 (sB x9) 8 (sI x8) 7 (sT x7) 6 (sS x6a x6n x6c) 5 (sS x5a x5n x5c) 1 (sI x1) 0 (sP x0)) env∧Sub V0 pv∧F63_j10 x0 x1 x5a x5n x5c x6a x6n x6c x7 x8 x9 x10 hp I2 I9 K) ?_ ?_)
     ·refine AWP.block (Ar (F63_r18 rfl) ?_ (r8 0 6 10 1 5 7 8 9 Rn) (z8 Sn) Sn)
      refine ⟨h.1,h.2.1,mN h.2.2 fun b27 o28 h=>mV h fun v29 h=>ms h fun s30 h=>mC h fun u31 h32 h=>mS h fun a33 n34 c35 h=>?_⟩
      refine As (fun env pv hp=>∃ x7 x8 x9 x10 x11a x11n x11c x46,Sub (w2 (w8 E0 46 (sB x46) 11 (sS x11a x11n x11c) 10 (sI x10) 9 (sB x9) 8 (sI x8) 7 (sT x7) 6 (sS x6a x6n x6c) 5 (sS x5a x5n x5c)) 1 (sI x1) 0 (sP x0)) env∧Sub V0 pv∧F63_j11 x0 x1 x5a x5n x5c x6a x6n x6c x7 x8 x9 x10 x11a x11n x11c x46 hp I2 I9 K) ?_ ?_
      ·refine Ag (F63_r22 rfl) ?_ (r8 1 8 9 11 0 5 6 7 (r1 10 Rn)) (z1 (z8 Sn)) Sn
       refine ⟨h.1,h.2.1,mN h.2.2 fun b44 o45 h=>mV h fun v46 h=>mI h fun i47 h=>?_⟩
       refine mt h (fun h=>?_) (fun h=>?_)
       ·refine mt h (fun h=>?_) (fun h=>?_)
        ·exact ⟨_,_,_,_,_,_,_,_,(z2 (z8 Sn)),Sn,h⟩
        ·refine ⟨h.1,h.2.1,mN h.2.2 fun b48 o49 h=>mV h fun v50 h=>mI h fun i51 h=>?_⟩
         exact ⟨_,_,_,_,_,_,_,_,(z2 (z8 Sn)),Sn,h⟩
       ·exact ⟨_,_,_,_,_,_,_,_,(z2 (z8 Sn)),Sn,h⟩
      ·rintro env pv hp ⟨x7,x8,x9,x10,x11a,x11n,x11c,x46,he,hv,h⟩
       refine Ae ?_ (r8 0 1 5 6 7 8 9 10 (r2 11 46 Rn)) he hv
       unfold F63_j11 at h
       refine Ac h rfl (fun h=>?_) (fun h=>?_)
       ·refine Ar F63_r19 ?_ (r6 6 10 0 1 5 11 Rn) (z6 Sn) Sn
        refine ⟨h.1,h.2.1,mN h.2.2 fun b36 o37 h=>mV h fun v38 h=>ms h fun s39 h=>?_⟩
        refine Ar F63_r20 ?_ (r7 11 0 1 5 6 7 10 Rn) (z7 Sn) Sn
        refine ⟨h.1,h.2.1,mN h.2.2 fun b40 o41 h=>mV h fun v42 h=>mI h fun i43 h=>?_⟩
        refine Ag F63_r21 ?_ (r7 0 1 5 6 7 8 10 Rn) (z7 Sn) Sn
        exact ⟨_,_,_,_,(z8 Sn),Sn,h⟩
       ·refine AWP.skip ?_
        exact ⟨_,_,_,_,(z8 Sn),Sn,h⟩
     ·rintro env pv hp ⟨x7,x8,x9,x10,he,hv,h⟩
      refine Ae ?_ (r8 0 1 5 6 7 8 9 10 Rn) he hv
      unfold F63_j10 at h
      refine Ag F63_r17 ?_ (r8 10 0 1 5 6 7 8 9 Rn) (z8 Sn) Sn
      exact ⟨_,(z8 Sn),Sn,h⟩
    ·refine AWP.exit ?_
     exact ⟨_,_,_,_,_,(z5 Sn),Sn,h⟩
  ·rintro env pv hp ⟨x5a,x5n,x5c,x7,x9,he,hv,h⟩
   refine Ae ?_ (r5 0 1 5 7 9 Rn) he hv
   unfold F63_j3 at h
   refine Aq (Ar F63_r5 ?_ (r5 9 0 1 5 7 Rn) (z5 Sn) Sn)
   refine Ac h rfl (fun h=>?_) (fun h=>?_)
   ·refine Ar F63_r6 ?_ (r1 5 Rn) (z1 Sn) Sn
    refine AWP.ret ?_
    exact h
   ·refine AWP.skip (Ar F63_r7 ?_ (r4 0 7 1 5 Rn) (z4 Sn) Sn)
    refine mC h fun u6 h7 h=>mS h fun a8 n9 c10 h=>?_
    refine Ar F63_r8 ?_ (r5 0 1 5 7 12 Rn) (z5 Sn) Sn
    refine As (fun env pv hp=>∃ x5a x5n x5c x7 x12a x12n x12c x13,Sub (w6 E0 13 (sT x13) 12 (sS x12a x12n x12c) 7 (sT x7) 5 (sS x5a x5n x5c) 1 (sI x1) 0 (sP x0)) env∧Sub V0 pv∧F63_j4 x0 x1 x5a x5n x5c x7 x12a x12n x12c x13 hp I2 K) ?_ ?_
    ·refine As (fun env pv hp=>∃ x5a x5n x5c x7 x12a x12n x12c x13 x14,Sub (w7 E0 14 (sI x14) 13 (sT x13) 12 (sS x12a x12n x12c) 7 (sT x7) 5 (sS x5a x5n x5c) 1 (sI x1) 0 (sP x0)) env∧Sub V0 pv∧F63_j5 x0 x1 x5a x5n x5c x7 x12a x12n x12c x13 x14 hp I2 K) ?_ ?_
     ·refine Ag F63_r15 ?_ (r6 0 1 5 7 12 13 Rn) (z6 Sn) Sn
      exact ⟨_,_,_,_,_,_,_,_,_,(z7 Sn),Sn,h⟩
     ·rintro env pv hp ⟨x5a,x5n,x5c,x7,x12a,x12n,x12c,x13,x14,he,hv,h⟩
      refine Ae ?_ (r7 0 1 5 7 12 13 14 Rn) he hv
      unfold F63_j5 at h
      refine AWP.block (AWP.loop (σ:=ByteArray × Int) _ (fun s=>w7 E0 14 (sI (s.2)) 13 (sV (.string s.1)) 12 (sS x12a x12n x12c) 7 (sT x7) 5 (sS x5a x5n x5c) 1 (sI x1) 0 (sP x0)) (fun s=>V0) (x13,x14) h (fun s=>r7 0 1 5 7 12 13 14 Rn) (z7 Sn) Sn ?_)
      intro I6 s hp h
      obtain ⟨x13,x14⟩:=s
      replace h:F63_l6 x0 x1 x5a x5n x5c x7 x12a x12n x12c I2 K I6 x13 x14 hp:=h
      unfold F63_l6 at h
      refine Aq (Ar (F63_r11 rfl) ?_ (r7 12 14 0 1 5 7 13 Rn) (z7 Sn) Sn)
      refine Ac h rfl (fun h=>?_) (fun h=>?_)
      ·refine AWP.skip (As (fun env pv hp=>∃ x13 x14,Sub (w7 E0 14 (sI x14) 13 (sT x13) 12 (sS x12a x12n x12c) 7 (sT x7) 5 (sS x5a x5n x5c) 1 (sI x1) 0 (sP x0)) env∧Sub V0 pv∧F63_j7 x0 x1 x5a x5n x5c x7 x12a x12n x12c x13 x14 hp I2 I6 K) ?_ ?_)
       ·refine AWP.block (Ar (F63_r13 rfl) ?_ (r7 12 14 0 1 5 7 13 Rn) (z7 Sn) Sn)
        refine ⟨h.1,h.2.1,mN h.2.2 fun b19 o20 h=>mV h fun v21 h=>mI h fun i22 h=>?_⟩
        refine Ac h rfl (fun h=>?_) (fun h=>?_)
        ·refine Ag (F63_r14 rfl) ?_ (r6 12 14 0 1 5 7 Rn) (z6 Sn) Sn
         refine ⟨h.1,h.2.1,mN h.2.2 fun b23 o24 h=>mV h fun v25 h=>ms h fun s26 h=>?_⟩
         exact ⟨_,_,(z7 Sn),Sn,h⟩
        ·refine AWP.skip ?_
         exact ⟨_,_,(z7 Sn),Sn,h⟩
       ·rintro env pv hp ⟨x13,x14,he,hv,h⟩
        refine Ae ?_ (r7 0 1 5 7 12 13 14 Rn) he hv
        unfold F63_j7 at h
        refine Ag F63_r12 ?_ (r7 14 0 1 5 7 12 13 Rn) (z7 Sn) Sn
        exact ⟨_,(z7 Sn),Sn,h⟩
      ·refine AWP.exit ?_
       exact ⟨_,_,_,_,_,_,_,_,(z6 Sn),Sn,h⟩
    ·rintro env pv hp ⟨x5a,x5n,x5c,x7,x12a,x12n,x12c,x13,he,hv,h⟩
     refine Ae ?_ (r6 0 1 5 7 12 13 Rn) he hv
     unfold F63_j4 at h
     refine Ar (F63_r9 rfl) ?_ (r6 5 7 12 13 0 1 Rn) (z6 Sn) Sn
     refine mf h fun h=>?_
     refine fun b11 hb_b_11=>?_
     replace h:=h b11 hb_b_11
     refine mO h fun u12 h13 h=>mS h fun a14 n15 c16 h=>?_
     refine Ag F63_r10 ?_ (r4 0 7 1 5 Rn) (z4 Sn) Sn
     refine mC h fun u17 h18 h=>?_
     exact ⟨_,(z3 Sn),Sn,h⟩
end
section
variable {e E:Env} {x0 x1 k2 k3:List Value} {hp:HP} {K:Env→PV→HP→Prop}
abbrev R64 (p n:Nat):=RW Try.prog 31 [2,3,5,7,11,13,18,20,25,27] (opsAt Try.f64 (pth p)) (List.range n)
theorem F64_r0:R64 2 3 (w2 e 1 (sA x1) 0 (sA x0)) V0 hp K=
 K (w5 e 1 (sA x1) 0 (sA x0) 2 (sR 2 0) 3 (sR 3 0) 4 (sB false)) (w2 V0 2 (36,x0) 3 (114,x1)) hp:= by kernel_rfl
theorem F64_r1 (h:E=upd (upd e 3 (sR 3 0)) 2 (sR 2 0)):R64 5 27 E (w2 V0 3 (114,k3) 2 (36,k2)) hp K=
 ldV (k2)[0]? fun v1=>(strV v1 fun s2=>ldV (k3)[0]? fun v3=>strV v3 fun s4=>ite2 ((ByteArray.toList s2)==(ByteArray.toList s4)) (ldV (k2)[1]? fun v5=>strV v5 fun s6=>ldV (k3)[1]? fun v7=>strV v7 fun s8=>ite2 ((ByteArray.toList s6)==(ByteArray.toList s8)) (ldV (k2)[2]? fun v9=>strV v9 fun s10=>ldV (k3)[2]? fun v11=>strV v11 fun s12=>ite2 ((ByteArray.toList s10)==(ByteArray.toList s12)) (ldV (k2)[3]? fun v13=>intV v13 .i64 fun i14=>ldV (k3)[3]? fun v15=>intV v15 .i64 fun i16=>K (w3 (w8 (w8 (w8 E 5 (sR 2 0) 6 (sT s2) 7 (sR 3 0) 8 (sT s4) 9 (sB (((ByteArray.toList s2)==(ByteArray.toList s4)))) 10 (sB true) 11 (sR 2 1) 12 (sT s6)) 13 (sR 3 1) 14 (sT s8) 15 (sB (((ByteArray.toList s6)==(ByteArray.toList s8)))) 16 (sB (((ByteArray.toList s6)==(ByteArray.toList s8)))) 17 (sB true) 18 (sR 2 2) 19 (sT s10) 20 (sR 3 2)) 21 (sT s12) 22 (sB (((ByteArray.toList s10)==(ByteArray.toList s12)))) 23 (sB (((ByteArray.toList s10)==(ByteArray.toList s12)))) 24 (sB true) 25 (sR 2 3) 26 (sI i14) 27 (sR 3 3) 28 (sI i16)) 29 (sB ((i14==i16))) 30 (sB ((i14==i16))) 4 (sB ((i14==i16)))) (w2 V0 3 (114,k3) 2 (36,k2)) hp) (K (w3 (w8 (w8 (w8 E 5 (sR 2 0) 6 (sT s2) 7 (sR 3 0) 8 (sT s4) 9 (sB (((ByteArray.toList s2)==(ByteArray.toList s4)))) 10 (sB true) 11 (sR 2 1) 12 (sT s6)) 13 (sR 3 1) 14 (sT s8) 15 (sB (((ByteArray.toList s6)==(ByteArray.toList s8)))) 16 (sB (((ByteArray.toList s6)==(ByteArray.toList s8)))) 17 (sB true) 18 (sR 2 2) 19 (sT s10) 20 (sR 3 2)) 21 (sT s12) 22 (sB (((ByteArray.toList s10)==(ByteArray.toList s12)))) 23 (sB (((ByteArray.toList s10)==(ByteArray.toList s12)))) 24 (sB false) 25 sU 26 sU 27 sU 28 sU) 29 sU 30 (sB false) 4 (sB false)) (w2 V0 3 (114,k3) 2 (36,k2)) hp)) (K (w3 (w8 (w8 (w8 E 5 (sR 2 0) 6 (sT s2) 7 (sR 3 0) 8 (sT s4) 9 (sB (((ByteArray.toList s2)==(ByteArray.toList s4)))) 10 (sB true) 11 (sR 2 1) 12 (sT s6)) 13 (sR 3 1) 14 (sT s8) 15 (sB (((ByteArray.toList s6)==(ByteArray.toList s8)))) 16 (sB (((ByteArray.toList s6)==(ByteArray.toList s8)))) 17 (sB false) 18 sU 19 sU 20 sU) 21 sU 22 sU 23 (sB false) 24 (sB false) 25 sU 26 sU 27 sU 28 sU) 29 sU 30 (sB false) 4 (sB false)) (w2 V0 3 (114,k3) 2 (36,k2)) hp)) (K (w3 (w8 (w8 (w8 E 5 (sR 2 0) 6 (sT s2) 7 (sR 3 0) 8 (sT s4) 9 (sB (((ByteArray.toList s2)==(ByteArray.toList s4)))) 10 (sB false) 11 sU 12 sU) 13 sU 14 sU 15 sU 16 (sB false) 17 (sB false) 18 sU 19 sU 20 sU) 21 sU 22 sU 23 (sB false) 24 (sB false) 25 sU 26 sU 27 sU 28 sU) 29 sU 30 (sB false) 4 (sB false)) (w2 V0 3 (114,k3) 2 (36,k2)) hp)):= by subst h; kernel_rfl
def F64 (x0 x1:List Value) (hp:HP) (K:Kh):Prop:=
  (ldV (x0)[0]? fun v1=>strV v1 fun s2=>ldV (x1)[0]? fun v3=>strV v3 fun s4=>ite2 ((ByteArray.toList s2)==(ByteArray.toList s4)) (ldV (x0)[1]? fun v5=>strV v5 fun s6=>ldV (x1)[1]? fun v7=>strV v7 fun s8=>ite2 ((ByteArray.toList s6)==(ByteArray.toList s8)) (ldV (x0)[2]? fun v9=>strV v9 fun s10=>ldV (x1)[2]? fun v11=>strV v11 fun s12=>ite2 ((ByteArray.toList s10)==(ByteArray.toList s12)) (ldV (x0)[3]? fun v13=>intV v13 .i64 fun i14=>ldV (x1)[3]? fun v15=>intV v15 .i64 fun i16=>K (.bool (i14==i16)) hp) (K (.bool false) hp)) (K (.bool false) hp)) (K (.bool false) hp))
noncomputable def F64_code:Code:=(.seq (.region 0 (opsAt Try.f64 (pth 2)) false) (.seq (.region 1 (opsAt Try.f64 (pth 5)) false) .ret))
theorem F64_body:Try.f64.body=some F64_code:=by kernel_rfl
theorem F64_ok (x0 x1:List Value) (hp:HP) (K:Kh) (h:F64 x0 x1 hp K):CF Try.prog 64 [(.agg ⟨x0⟩),(.agg ⟨x1⟩)] hp K:=by
 refine .inl ⟨by kernel_rfl,AC.intro (N:=31) Try.func64 F64_body rfl (Nat.le_of_ble_eq_true rfl) ?_⟩
 unfold F64 at h
 refine Ar F64_r0 ?_ (r2 0 1 Rn) (z2 Sn) Sn
 refine Ar (F64_r1 rfl) ?_ (rp 2 2 0 (rp 3 3 0 Rn)) (z2 Sn) (z2 Sn)
 refine mV h fun v1 h=>ms h fun s2 h=>mV h fun v3 h=>ms h fun s4 h=>?_
 refine mt h (fun h=>?_) (fun h=>?_)
 ·refine mV h fun v5 h=>ms h fun s6 h=>mV h fun v7 h=>ms h fun s8 h=>?_
  refine mt h (fun h=>?_) (fun h=>?_)
  ·refine mV h fun v9 h=>ms h fun s10 h=>mV h fun v11 h=>ms h fun s12 h=>?_
   refine mt h (fun h=>?_) (fun h=>?_)
   ·refine mV h fun v13 h=>mI h fun i14 h=>mV h fun v15 h=>mI h fun i16 h=>?_
    refine AWP.ret ?_
    exact h
   ·refine AWP.ret ?_
    exact h
  ·refine AWP.ret ?_
   exact h
 ·refine AWP.ret ?_
  exact h
end
section
variable {e E:Env} {x0 x1:Int} {x2a:OA} {x2n x2c:Nat} {x7:OA} {x8:Int} {x9:OA} {x10:Int} {x12a:OA} {x12n x12c:Nat} {x13a:OA} {x13n x13c:Nat} {x14:Int} {x16:Bool} {x17:Int} {x19:Bool} {x20:Int} {x21a:OA} {x21n x21c:Nat} {x22a:OA} {x22n x22c:Nat} {x23 x24 x25:Int} {k11 k15 k18:List Value} {hp:HP} {K:Env→PV→HP→Prop}
abbrev R16 (p n:Nat):=RW Try.prog 220 [11,15,18,78,82,86,112,114,122,125,146,149,191,192,213,214] (opsAt Try.f16 (pth p)) (List.range n)
theorem F16_r0:R16 2 1 e V0 hp K=
 K (upd e 6 (sB false)) V0 hp:= by kernel_rfl
theorem F16_r1:R16 9 2 (upd e 2 (sS x2a x2n x2c)) V0 hp K=
 CF Try.prog 61 [(.slice x2a x2n x2c)] hp fun u1 h2=>(boolV u1 fun q3=>K (w3 e 2 (sS x2a x2n x2c) 26 (sS x2a x2n x2c) 27 (sB q3)) V0 h2):= by kernel_rfl
theorem F16_r2:R16 37 2 e V0 hp K=
 CF Try.prog 22 [] hp fun u1 h2=>(boolV u1 fun q3=>K (w2 e 28 (sB q3) 6 (sB q3)) V0 h2):= by kernel_rfl
theorem F16_r3:R16 11 8 (w2 e 1 (sI x1) 0 (sI x0)) V0 hp K=
 CF Try.prog 25 [(.int .i64 x0),(.int .i64 x1)] hp fun u1 h2=>(tup2V u1 fun u3 u4=>ptrV u3 fun p5=>intV u4 .i64 fun i6=>K (w2 (w8 e 1 (sI x1) 0 (sI x0) 30 (sI x0) 31 (sI x1) 32 (sV (.tuple ⟨[(.pointer p5),(.int .i64 i6)]⟩)) 29 (sV (.tuple ⟨[(.pointer p5),(.int .i64 i6)]⟩)) 33 (sP p5) 34 (sI i6)) 7 (sP p5) 8 (sI i6)) V0 h2):= by kernel_rfl
theorem F16_r4 (h:E=upd (upd e 8 (sI x8)) 7 (sP x7)):R16 151 10 E V0 hp K=
 ite2 (Option.isNone x7) (ite2 (x8==1) (CF Try.prog 22 [] hp fun u1 h2=>boolV u1 fun q3=>K (w2 (w8 E 49 (sP x7) 50 (sB ((Option.isNone x7))) 51 (sB true) 52 (sI x8) 53 (sB ((x8==1))) 54 (sB ((x8==1))) 55 (sB true) 56 (sB q3)) 57 (sB q3) 6 (sB q3)) V0 h2) (K (w2 (w8 E 49 (sP x7) 50 (sB ((Option.isNone x7))) 51 (sB true) 52 (sI x8) 53 (sB ((x8==1))) 54 (sB ((x8==1))) 55 (sB false) 56 sU) 57 (sB false) 6 (sB false)) V0 hp)) (K (w2 (w8 E 49 (sP x7) 50 (sB ((Option.isNone x7))) 51 (sB false) 52 sU 53 sU 54 (sB false) 55 (sB false) 56 sU) 57 (sB false) 6 (sB false)) V0 hp):= by subst h; kernel_rfl
theorem F16_r5:R16 303 1 e V0 hp K=
 K (upd e 6 (sB false)) V0 hp:= by kernel_rfl
theorem F16_r6:R16 95 5 (w2 e 1 (sI x1) 0 (sI x0)) V0 hp K=
    (∀ b1:Nat,hp b1=.none→(K (w7 e 1 (sI x1) 0 (sI x0) 64 (sI x0) 65 (sI x1) 66 (sV (.agg ⟨[(.int .i64 x0),(.int .i64 x1),(.slice none 0 0)]⟩)) 67 (sQ b1 0) 9 (sQ b1 0)) V0 (HP.set hp b1 (.cells 106 [(.int .i64 x0),(.int .i64 x1),(.slice none 0 0)] 0)))):=by kernel_rfl
theorem F16_r7:R16 383 2 e V0 hp K=
 CF Try.prog 22 [] hp fun u1 h2=>(boolV u1 fun q3=>K (w2 e 219 (sB q3) 6 (sB q3)) V0 h2):= by kernel_rfl
def F16_j3 (hp:HP) (K:Kh):Prop:=
  (CF Try.prog 22 [] hp fun u17 h18=>boolV u17 fun q19=>K (.bool q19) h18)
theorem F16_r8:R16 4287 4 (w2 e 10 (sI x10) 2 (sS x2a x2n x2c)) V0 hp K=
 K (w6 e 10 (sI x10) 2 (sS x2a x2n x2c) 68 (sI x10) 69 (sS x2a x2n x2c) 70 (sI ((x2n:Nat))) 71 (sB ((decide (x10<x2n))))) V0 hp:= by kernel_rfl
theorem F16_r9:R16 7359 3 (upd e 10 (sI x10)) V0 hp K=
 K (w4 e 10 (sI x10) 72 (sI x10) 73 (sI ((wr (x10+1)))) 10 (sI ((wr (x10+1))))) V0 hp:= by kernel_rfl
def F16_j6 (x2a:OA) (x2n x2c:Nat) (x7 x9:OA) (x10:Int) (hp:HP) (I5:(Int)→HP→Prop) (K:Kh):Prop:=
  (I5 (IntKind.wrap .i64 (x10+1)) hp)
theorem F16_r10:R16 17599 6 (w2 e 10 (sI x10) 2 (sS x2a x2n x2c)) V0 hp K=
    ((0≤x10)∧(x10<x2n)∧(ptrN x2a fun b1 o2=>ldL (HP.cellN hp b1 (o2+Int.toNat x10*8) 8) fun l3=>if List.length l3=8 then (if List.all l3 one=true then (if 0+List.length l3≤List.length [(Value.int .u8 0),.string ⟨#[]⟩,.string ⟨#[]⟩,.int .i64 0,.bool false,.string ⟨#[]⟩,.string ⟨#[]⟩,.int .i64 0] then (K (w7 e 10 (sI x10) 2 (sS x2a x2n x2c) 74 (sS x2a x2n x2c) 75 (sI x10) 76 (sQ b1 (o2+Int.toNat x10*8)) 77 (sA l3) 11 (sR 11 0)) (w2 V0 11 (108,[.int .u8 0,.string ⟨#[]⟩,.string ⟨#[]⟩,.int .i64 0,.bool false,.string ⟨#[]⟩,.string ⟨#[]⟩,.int .i64 0]) 11 (108,(splice [.int .u8 0,.string ⟨#[]⟩,.string ⟨#[]⟩,.int .i64 0,.bool false,.string ⟨#[]⟩,.string ⟨#[]⟩,.int .i64 0] 0 l3))) hp) else False) else False) else False)):=by kernel_rfl
theorem F16_r11:R16 91327 3 (upd e 7 (sP x7)) (upd V0 11 (108,k11)) hp K=
 CF Try.prog 60 [(.pointer x7)] hp fun u1 h2=>(slcV u1 fun a3 n4 c5=>K (w4 e 7 (sP x7) 155 (sP x7) 156 (sS a3 n4 c5) 21 (sS a3 n4 c5)) (upd V0 11 (108,k11)) h2):= by kernel_rfl
theorem F16_r12:R16 189631 3 (upd e 9 (sP x9)) (upd V0 11 (108,k11)) hp K=
 CF Try.prog 69 [(.pointer x9)] hp fun u1 h2=>(slcV u1 fun a3 n4 c5=>K (w4 e 9 (sP x9) 157 (sP x9) 158 (sS a3 n4 c5) 22 (sS a3 n4 c5)) (upd V0 11 (108,k11)) h2):= by kernel_rfl
theorem F16_r13:R16 2483391 1 e V0 hp K=
 K (upd e 6 (sB false)) V0 hp:= by kernel_rfl
theorem F16_r14:R16 779455 1 e (upd V0 11 (108,k11)) hp K=
 K (upd e 23 (sI 0)) (upd V0 11 (108,k11)) hp:= by kernel_rfl
theorem F16_r15 (h:E=upd (w2 e 23 (sI x23) 11 (sR 11 0)) 7 (sP x7)):R16 6284479 7 E (upd V0 11 (108,k11)) hp K=
 ldV (k11)[2]? fun v1=>(strV v1 fun s2=>CF Try.prog 70 [(.pointer x7),(.string s2)] hp fun u3 h4=>intV u3 .i64 fun i5=>K (w7 E 212 (sP x7) 213 (sR 11 1) 214 (sR 11 2) 215 (sT s2) 216 (sI i5) 217 (sI x23) 218 (sB ((i5 != x23)))) (upd V0 11 (108,k11)) h4):= by subst h; kernel_rfl
theorem F16_r16:R16 20964543 1 e V0 hp K=
 K (upd e 6 (sB false)) V0 hp:= by kernel_rfl
def F16_j10 (x2a:OA) (x2n x2c:Nat) (x7 x9:OA) (x10 x23:Int) (k11:List Value) (hp:HP) (I5:(Int)→HP→Prop) (K:Kh):Prop:=
  (ldV (k11)[2]? fun v33=>strV v33 fun s34=>CF Try.prog 70 [(.pointer x7),(.string s34)] hp fun u35 h36=>intV u35 .i64 fun i37=>ite2 (i37 != x23) (K (.bool false) h36) (F16_j6 x2a x2n x2c x7 x9 x10 h36 I5 K))
theorem F16_r17 (h:E=upd (upd e 25 (sI x25)) 21 (sS x21a x21n x21c)):R16 70247615 4 E (upd V0 11 (108,k11)) hp K=
 K (w4 E 197 (sI x25) 198 (sS x21a x21n x21c) 199 (sI ((x21n:Nat))) 200 (sB ((decide (x25<x21n))))) (upd V0 11 (108,k11)) hp:= by subst h; kernel_rfl
theorem F16_r18 (h:E=upd (w2 e 25 (sI x25) 22 (sS x22a x22n x22c)) 21 (sS x21a x21n x21c)):R16 288351423 9 E (upd V0 11 (108,k11)) hp K=
    ((0≤x25)∧(x25<x21n)∧(ptrN x21a fun b1 o2=>ldV (HP.cell hp b1 (o2+Int.toNat x25*1)) fun v3=>strV v3 fun s4=>(0≤x25)∧(x25<x22n)∧(ptrN x22a fun b5 o6=>ldV (HP.cell hp b5 (o6+Int.toNat x25*1)) fun v7=>strV v7 fun s8=>K (upd (w8 E 203 (sS x21a x21n x21c) 204 (sI x25) 205 (sQ b1 (o2+Int.toNat x25*1)) 206 (sT s4) 207 (sS x22a x22n x22c) 208 (sI x25) 209 (sQ b5 (o6+Int.toNat x25*1)) 210 (sT s8)) 211 (sB ((!((ByteArray.toList s4)==(ByteArray.toList s8)))))) (upd V0 11 (108,k11)) hp))):=by subst h; kernel_rfl
theorem F16_r19:R16 1227875519 1 e V0 hp K=
 K (upd e 6 (sB false)) V0 hp:= by kernel_rfl
theorem F16_r20:R16 120579263 3 (upd e 25 (sI x25)) (upd V0 11 (108,k11)) hp K=
 K (w4 e 25 (sI x25) 201 (sI x25) 202 (sI ((wr (x25+1)))) 25 (sI ((wr (x25+1))))) (upd V0 11 (108,k11)) hp:= by kernel_rfl
def F16_l12 (x2a:OA) (x2n x2c:Nat) (x7 x9:OA) (x10:Int) (x21a:OA) (x21n x21c:Nat) (x22a:OA) (x22n x22c:Nat) (x23:Int) (k11:List Value) (I5:(Int)→HP→Prop) (K:Kh) (I12:(Int)→HP→Prop) (x25:Int) (hp:HP):Prop:=
  (ite2 (decide (x25<x21n)) ((0≤x25)∧(x25<x21n)∧(ptrN x21a fun b38 o39=>ldV (HP.cell hp b38 (o39+Int.toNat x25*1)) fun v40=>strV v40 fun s41=>(0≤x25)∧(x25<x22n)∧(ptrN x22a fun b42 o43=>ldV (HP.cell hp b42 (o43+Int.toNat x25*1)) fun v44=>strV v44 fun s45=>ite2 (!((ByteArray.toList s41)==(ByteArray.toList s45))) (K (.bool false) hp) (I12 (IntKind.wrap .i64 (x25+1)) hp)))) (F16_j10 x2a x2n x2c x7 x9 x10 x23 k11 hp I5 K))
def F16_j11 (x2a:OA) (x2n x2c:Nat) (x7 x9:OA) (x10:Int) (x21a:OA) (x21n x21c:Nat) (x22a:OA) (x22n x22c:Nat) (x23 x25:Int) (k11:List Value) (hp:HP) (I5:(Int)→HP→Prop) (K:Kh):Prop:=
  (LoopP (σ:=Int) (fun I s hp=>F16_l12 x2a x2n x2c x7 x9 x10 x21a x21n x21c x22a x22n x22c x23 k11 I5 K I s hp) x25 hp)
theorem F16_r21:R16 5235903 1 e (upd V0 11 (108,k11)) hp K=
 K (upd e 25 (sI 0)) (upd V0 11 (108,k11)) hp:= by kernel_rfl
def F16_j9 (x2a:OA) (x2n x2c:Nat) (x7 x9:OA) (x10:Int) (x21a:OA) (x21n x21c:Nat) (x22a:OA) (x22n x22c:Nat) (x23:Int) (k11:List Value) (hp:HP) (I5:(Int)→HP→Prop) (K:Kh):Prop:=
  (F16_j11 x2a x2n x2c x7 x9 x10 x21a x21n x21c x22a x22n x22c x23 0 k11 hp I5 K)
theorem F16_r22:R16 35120319 7 (w2 e 24 (sI x24) 9 (sP x9)) (upd V0 11 (108,k11)) hp K=
 ptrN x9 fun b1 o2=>(ldV (HP.cell hp b1 (o2+2)) fun v3=>slcV v3 fun a4 n5 c6=>K (upd (w8 e 24 (sI x24) 9 (sP x9) 174 (sI x24) 175 (sP x9) 176 (sQ b1 o2) 177 (sQ b1 (o2+2)) 178 (sS a4 n5 c6) 179 (sI ((n5:Nat)))) 180 (sB ((decide (x24<n5))))) (upd V0 11 (108,k11)) hp):= by kernel_rfl
theorem F16_r23:R16 60286143 3 (upd e 24 (sI x24)) (upd V0 11 (108,k11)) hp K=
 K (w4 e 24 (sI x24) 181 (sI x24) 182 (sI ((wr (x24+1)))) 24 (sI ((wr (x24+1))))) (upd V0 11 (108,k11)) hp:= by kernel_rfl
def F16_j15 (x2a:OA) (x2n x2c:Nat) (x7 x9:OA) (x10:Int) (x21a:OA) (x21n x21c:Nat) (x22a:OA) (x22n x22c:Nat) (x23 x24:Int) (k11:List Value) (hp:HP) (I5:(Int)→HP→Prop) (I14:(Int × Int)→HP→Prop) (K:Kh):Prop:=
  (I14 (x23,(IntKind.wrap .i64 (x24+1))) hp)
theorem F16_r24 (h:E=upd (w2 e 24 (sI x24) 11 (sR 11 0)) 9 (sP x9)):R16 144172223 12 E (upd V0 11 (108,k11)) hp K=
    (ptrN x9 fun b1 o2=>ldV (HP.cell hp b1 (o2+2)) fun v3=>slcV v3 fun a4 n5 c6=>(0≤x24)∧(x24<n5)∧(ptrN a4 fun b7 o8=>ldV (HP.cell hp b7 ((o8+Int.toNat x24*7)+1)) fun v9=>strV v9 fun s10=>ldV (k11)[2]? fun v11=>strV v11 fun s12=>K (w4 (w8 E 183 (sP x9) 184 (sQ b1 o2) 185 (sQ b1 (o2+2)) 186 (sS a4 n5 c6) 187 (sI x24) 188 (sQ b7 (o8+Int.toNat x24*7)) 189 (sQ b7 ((o8+Int.toNat x24*7)+1)) 190 (sT s10)) 191 (sR 11 1) 192 (sR 11 2) 193 (sT s12) 194 (sB (((ByteArray.toList s10)==(ByteArray.toList s12))))) (upd V0 11 (108,k11)) hp)):=by subst h; kernel_rfl
theorem F16_r25:R16 345498815 3 (upd e 23 (sI x23)) (upd V0 11 (108,k11)) hp K=
 K (w4 e 23 (sI x23) 195 (sI x23) 196 (sI ((wr (x23+1)))) 23 (sI ((wr (x23+1))))) (upd V0 11 (108,k11)) hp:= by kernel_rfl
def F16_l14 (x2a:OA) (x2n x2c:Nat) (x7 x9:OA) (x10:Int) (x21a:OA) (x21n x21c:Nat) (x22a:OA) (x22n x22c:Nat) (k11:List Value) (I5:(Int)→HP→Prop) (K:Kh) (I14:(Int × Int)→HP→Prop) (x23 x24:Int) (hp:HP):Prop:=
  (ptrN x9 fun b46 o47=>ldV (HP.cell hp b46 (o47+2)) fun v48=>slcV v48 fun a49 n50 c51=>ite2 (decide (x24<n50)) (ptrN x9 fun b52 o53=>ldV (HP.cell hp b52 (o53+2)) fun v54=>slcV v54 fun a55 n56 c57=>(0≤x24)∧(x24<n56)∧(ptrN a55 fun b58 o59=>ldV (HP.cell hp b58 ((o59+Int.toNat x24*7)+1)) fun v60=>strV v60 fun s61=>ldV (k11)[2]? fun v62=>strV v62 fun s63=>ite2 ((ByteArray.toList s61)==(ByteArray.toList s63)) (F16_j15 x2a x2n x2c x7 x9 x10 x21a x21n x21c x22a x22n x22c (IntKind.wrap .i64 (x23+1)) x24 k11 hp I5 I14 K) (F16_j15 x2a x2n x2c x7 x9 x10 x21a x21n x21c x22a x22n x22c x23 x24 k11 hp I5 I14 K))) (F16_j9 x2a x2n x2c x7 x9 x10 x21a x21n x21c x22a x22n x22c x23 k11 hp I5 K))
def F16_j13 (x2a:OA) (x2n x2c:Nat) (x7 x9:OA) (x10:Int) (x21a:OA) (x21n x21c:Nat) (x22a:OA) (x22n x22c:Nat) (x23 x24:Int) (k11:List Value) (hp:HP) (I5:(Int)→HP→Prop) (K:Kh):Prop:=
  (LoopP (σ:=Int × Int) (fun I s hp=>F16_l14 x2a x2n x2c x7 x9 x10 x21a x21n x21c x22a x22n x22c k11 I5 K I s.1 s.2 hp) (x23,x24) hp)
theorem F16_r26:R16 2614463 1 e (upd V0 11 (108,k11)) hp K=
 K (upd e 24 (sI 0)) (upd V0 11 (108,k11)) hp:= by kernel_rfl
def F16_j8 (x2a:OA) (x2n x2c:Nat) (x7 x9:OA) (x10:Int) (x21a:OA) (x21n x21c:Nat) (x22a:OA) (x22n x22c:Nat) (x173:Bool) (k11:List Value) (hp:HP) (I5:(Int)→HP→Prop) (K:Kh):Prop:=
  (ite2 x173 (K (.bool false) hp) (F16_j13 x2a x2n x2c x7 x9 x10 x21a x21n x21c x22a x22n x22c 0 0 k11 hp I5 K))
theorem F16_r27 {e:Env} {x7:OA} {x9:OA} {x21a:OA} {x21n:Nat} {x21c:Nat} {x22a:OA} {x22n:Nat} {x22c:Nat} {k11:List Value} {hp:HP} {K:Env→PV→HP→Prop}:RW Try.prog 220 [11,15,18,78,82,86,112,114,122,125,146,149,191,192,213,214] (opsAt Try.f16 (pth 648383)) [0,1,2,3,4,5,6,7,8,9,10,11,12,13,14] (w4 e 22 (sS x22a x22n x22c) 21 (sS x21a x21n x21c) 9 (sP x9) 7 (sP x7)) (upd V0 11 (108,k11)) hp K=
 ite2 (((x21n:Nat):Int) != x22n) (K (w3 (w8 (w8 e 22 (sS x22a x22n x22c) 21 (sS x21a x21n x21c) 9 (sP x9) 7 (sP x7) 159 (sS x21a x21n x21c) 160 (sI ((x21n:Nat))) 161 (sS x22a x22n x22c) 162 (sI ((x22n:Nat)))) 163 (sB ((((x21n:Nat):Int) != x22n))) 164 (sB true) 165 sU 166 sU 167 sU 168 sU 169 sU 170 sU) 171 sU 172 sU 173 (sB true)) (upd V0 11 (108,k11)) hp) (CF Try.prog 27 [(.pointer x7)] hp fun u1 h2=>intV u1 .i64 fun i3=>ptrN x9 fun b4 o5=>ldV (HP.cell h2 b4 (o5+2)) fun v6=>slcV v6 fun a7 n8 c9=>K (w3 (w8 (w8 e 22 (sS x22a x22n x22c) 21 (sS x21a x21n x21c) 9 (sP x9) 7 (sP x7) 159 (sS x21a x21n x21c) 160 (sI ((x21n:Nat))) 161 (sS x22a x22n x22c) 162 (sI ((x22n:Nat)))) 163 (sB ((((x21n:Nat):Int) != x22n))) 164 (sB false) 165 (sP x7) 166 (sI i3) 167 (sP x9) 168 (sQ b4 o5) 169 (sQ b4 (o5+2)) 170 (sS a7 n8 c9)) 171 (sI ((n8:Nat))) 172 (sB ((i3 != n8))) 173 (sB ((i3 != n8)))) (upd V0 11 (108,k11)) h2):= by kernel_rfl
theorem F16_r28 {e:Env} {x7:OA} {x9:OA} {x21a:OA} {x21n:Nat} {x21c:Nat} {x22a:OA} {x22n:Nat} {x22c:Nat} {k11:List Value} {hp:HP} {K:Env→PV→HP→Prop}:RW Try.prog 220 [11,15,18,78,82,86,112,114,122,125,146,149,191,192,213,214] (opsAt Try.f16 (pth 648383)) [0,1,2,3,4,5,6,8,9,10,11,7,12,13,14] (w4 e 22 (sS x22a x22n x22c) 21 (sS x21a x21n x21c) 9 (sP x9) 7 (sP x7)) (upd V0 11 (108,k11)) hp K=
 ite2 (((x21n:Nat):Int) != x22n) (K (w3 (w8 (w8 e 22 (sS x22a x22n x22c) 21 (sS x21a x21n x21c) 9 (sP x9) 7 (sP x7) 159 (sS x21a x21n x21c) 160 (sI ((x21n:Nat))) 161 (sS x22a x22n x22c) 162 (sI ((x22n:Nat)))) 163 (sB ((((x21n:Nat):Int) != x22n))) 164 (sB true) 165 sU 167 sU 168 sU 169 sU 170 sU 166 sU) 171 sU 172 sU 173 (sB true)) (upd V0 11 (108,k11)) hp) (ptrN x9 fun b1 o2=>ldV (HP.cell hp b1 (o2+2)) fun v3=>slcV v3 fun a4 n5 c6=>CF Try.prog 27 [(.pointer x7)] hp fun u7 h8=>intV u7 .i64 fun i9=>K (w3 (w8 (w8 e 22 (sS x22a x22n x22c) 21 (sS x21a x21n x21c) 9 (sP x9) 7 (sP x7) 159 (sS x21a x21n x21c) 160 (sI ((x21n:Nat))) 161 (sS x22a x22n x22c) 162 (sI ((x22n:Nat)))) 163 (sB ((((x21n:Nat):Int) != x22n))) 164 (sB false) 165 (sP x7) 167 (sP x9) 168 (sQ b1 o2) 169 (sQ b1 (o2+2)) 170 (sS a4 n5 c6) 166 (sI i9)) 171 (sI ((n5:Nat))) 172 (sB ((i9 != n5))) 173 (sB ((i9 != n5)))) (upd V0 11 (108,k11)) h8):= by kernel_rfl
def F16_j7 (x2a:OA) (x2n x2c:Nat) (x7 x9:OA) (x10:Int) (k11:List Value) (hp:HP) (I5:(Int)→HP→Prop) (K:Kh):Prop:=
  (CF Try.prog 60 [(.pointer x7)] hp fun u23 h24=>slcV u23 fun a25 n26 c27=>CF Try.prog 69 [(.pointer x9)] h24 fun u28 h29=>slcV u28 fun a30 n31 c32=>(ite2 (((n26:Nat):Int) != n31) (F16_j8 x2a x2n x2c x7 x9 x10 a25 n26 c27 a30 n31 c32 true k11 h29 I5 K) (CF Try.prog 27 [(.pointer x7)] h29 fun u64 h65=>intV u64 .i64 fun i66=>ptrN x9 fun b67 o68=>ldV (HP.cell h65 b67 (o68+2)) fun v69=>slcV v69 fun a70 n71 c72=>F16_j8 x2a x2n x2c x7 x9 x10 a25 n26 c27 a30 n31 c32 (i66 != n71) k11 h65 I5 K))∧(ite2 (((n26:Nat):Int) != n31) (F16_j8 x2a x2n x2c x7 x9 x10 a25 n26 c27 a30 n31 c32 true k11 h29 I5 K) (ptrN x9 fun b73 o74=>ldV (HP.cell h29 b73 (o74+2)) fun v75=>slcV v75 fun a76 n77 c78=>CF Try.prog 27 [(.pointer x7)] h29 fun u79 h80=>intV u79 .i64 fun i81=>F16_j8 x2a x2n x2c x7 x9 x10 a25 n26 c27 a30 n31 c32 (i81 != n77) k11 h80 I5 K)))
theorem F16_r29:R16 74943 3 (upd e 11 (sR 11 0)) (upd V0 11 (108,k11)) hp K=
 ldV (k11)[0]? fun v1=>(intV v1 .u8 fun i2=>K (w4 e 11 (sR 11 0) 78 (sR 11 0) 79 (sV (.int .u8 i2)) 80 (sB ((i2==0)))) (upd V0 11 (108,k11)) hp):= by kernel_rfl
theorem F16_r30:R16 304319 5 (w2 e 11 (sR 11 0) 7 (sP x7)) (upd V0 11 (108,k11)) hp K=
 ldV (k11)[7]? fun v1=>(intV v1 .i64 fun i2=>CF Try.prog 62 [(.pointer x7),(.int .i64 i2)] hp fun u3 h4=>slcV u3 fun a5 n6 c7=>K (w7 e 11 (sR 11 0) 7 (sP x7) 81 (sP x7) 82 (sR 11 7) 83 (sI i2) 84 (sS a5 n6 c7) 12 (sS a5 n6 c7)) (upd V0 11 (108,k11)) h4):= by kernel_rfl
theorem F16_r31:R16 697535 5 (w2 e 11 (sR 11 0) 9 (sP x9)) (upd V0 11 (108,k11)) hp K=
 ldV (k11)[7]? fun v1=>(intV v1 .i64 fun i2=>CF Try.prog 63 [(.pointer x9),(.int .i64 i2)] hp fun u3 h4=>slcV u3 fun a5 n6 c7=>K (w7 e 11 (sR 11 0) 9 (sP x9) 85 (sP x9) 86 (sR 11 7) 87 (sI i2) 88 (sS a5 n6 c7) 13 (sS a5 n6 c7)) (upd V0 11 (108,k11)) h4):= by kernel_rfl
theorem F16_r32 (h:E=upd (upd e 13 (sS x13a x13n x13c)) 12 (sS x12a x12n x12c)):R16 2532543 5 E (upd V0 11 (108,k11)) hp K=
 K (w5 E 89 (sS x12a x12n x12c) 90 (sI ((x12n:Nat))) 91 (sS x13a x13n x13c) 92 (sI ((x13n:Nat))) 93 (sB ((((x12n:Nat):Int) != x13n)))) (upd V0 11 (108,k11)) hp:= by subst h; kernel_rfl
theorem F16_r33:R16 9872575 1 e V0 hp K=
 K (upd e 6 (sB false)) V0 hp:= by kernel_rfl
theorem F16_r34 (h:E=upd (upd e 14 (sI x14)) 12 (sS x12a x12n x12c)):R16 35562687 4 E (upd V0 11 (108,k11)) hp K=
 K (w4 E 94 (sI x14) 95 (sS x12a x12n x12c) 96 (sI ((x12n:Nat))) 97 (sB ((decide (x14<x12n))))) (upd V0 11 (108,k11)) hp:= by subst h; kernel_rfl
theorem F16_r35 (h:E=upd (w2 e 14 (sI x14) 13 (sS x13a x13n x13c)) 12 (sS x12a x12n x12c)):R16 144614591 10 E (upd V0 11 (108,k11)) hp K=
    ((0≤x14)∧(x14<x12n)∧(ptrN x12a fun b1 o2=>ldL (HP.cellN hp b1 (o2+Int.toNat x14*4) 4) fun l3=>(0≤x14)∧(x14<x13n)∧(ptrN x13a fun b4 o5=>ldL (HP.cellN hp b4 (o5+Int.toNat x14*4) 4) fun l6=>CF Try.prog 64 [(.agg ⟨l3⟩),(.agg ⟨l6⟩)] hp fun u7 h8=>boolV u7 fun q9=>K (w2 (w8 E 100 (sS x12a x12n x12c) 101 (sI x14) 102 (sQ b1 (o2+Int.toNat x14*4)) 103 (sA l3) 104 (sS x13a x13n x13c) 105 (sI x14) 106 (sQ b4 (o5+Int.toNat x14*4)) 107 (sA l6)) 108 (sB q9) 109 (sB ((!q9)))) (upd V0 11 (108,k11)) h8))):=by subst h; kernel_rfl
theorem F16_r36:R16 614376639 1 e V0 hp K=
 K (upd e 6 (sB false)) V0 hp:= by kernel_rfl
theorem F16_r37:R16 60728511 3 (upd e 14 (sI x14)) (upd V0 11 (108,k11)) hp K=
 K (w4 e 14 (sI x14) 98 (sI x14) 99 (sI ((wr (x14+1)))) 14 (sI ((wr (x14+1))))) (upd V0 11 (108,k11)) hp:= by kernel_rfl
def F16_l17 (x2a:OA) (x2n x2c:Nat) (x7 x9:OA) (x10:Int) (x12a:OA) (x12n x12c:Nat) (x13a:OA) (x13n x13c:Nat) (k11:List Value) (I5:(Int)→HP→Prop) (K:Kh) (I17:(Int)→HP→Prop) (x14:Int) (hp:HP):Prop:=
  (ite2 (decide (x14<x12n)) ((0≤x14)∧(x14<x12n)∧(ptrN x12a fun b98 o99=>ldL (HP.cellN hp b98 (o99+Int.toNat x14*4) 4) fun l100=>(0≤x14)∧(x14<x13n)∧(ptrN x13a fun b101 o102=>ldL (HP.cellN hp b101 (o102+Int.toNat x14*4) 4) fun l103=>CF Try.prog 64 [(.agg ⟨l100⟩),(.agg ⟨l103⟩)] hp fun u104 h105=>boolV u104 fun q106=>ite2 (!q106) (K (.bool false) h105) (I17 (IntKind.wrap .i64 (x14+1)) h105)))) (F16_j7 x2a x2n x2c x7 x9 x10 k11 hp I5 K))
def F16_j16 (x2a:OA) (x2n x2c:Nat) (x7 x9:OA) (x10:Int) (x12a:OA) (x12n x12c:Nat) (x13a:OA) (x13n x13c:Nat) (x14:Int) (k11:List Value) (hp:HP) (I5:(Int)→HP→Prop) (K:Kh):Prop:=
  (LoopP (σ:=Int) (fun I s hp=>F16_l17 x2a x2n x2c x7 x9 x10 x12a x12n x12c x13a x13n x13c k11 I5 K I s hp) x14 hp)
theorem F16_r38:R16 3056831 1 e (upd V0 11 (108,k11)) hp K=
 K (upd e 14 (sI 0)) (upd V0 11 (108,k11)) hp:= by kernel_rfl
theorem F16_r39:R16 369855 14 (w2 e 11 (sR 11 0) 7 (sP x7)) (upd V0 11 (108,k11)) hp K=
 ldL (cellsN k11 1 6) fun l1=>(ldV (k11)[7]? fun v2=>intV v2 .i64 fun i3=>CF Try.prog 26 [(.pointer x7),(.agg ⟨l1⟩),(.int .i64 i3)] hp fun u4 h5=>tup3V u4 fun u6 u7 u8=>aggV u6 fun l9=>boolV u7 fun q10=>intV u8 .i64 fun i11=>if List.length l9=4 then (if List.all l9 one=true then (if 0+List.length l9≤List.length [(Value.string ⟨#[]⟩),.string ⟨#[]⟩,.string ⟨#[]⟩,.int .i64 0] then (K (w7 (w8 e 11 (sR 11 0) 7 (sP x7) 111 (sP x7) 112 (sR 11 1) 113 (sA l1) 114 (sR 11 7) 115 (sI i3) 116 (sV (.tuple ⟨[(.agg ⟨l9⟩),(.bool q10),(.int .i64 i11)]⟩))) 110 (sV (.tuple ⟨[(.agg ⟨l9⟩),(.bool q10),(.int .i64 i11)]⟩)) 117 (sA l9) 118 (sB q10) 119 (sI i11) 15 (sR 15 0) 16 (sB q10) 17 (sI i11)) (w3 V0 11 (108,k11) 15 (36,[.string ⟨#[]⟩,.string ⟨#[]⟩,.string ⟨#[]⟩,.int .i64 0]) 15 (36,(splice [.string ⟨#[]⟩,.string ⟨#[]⟩,.string ⟨#[]⟩,.int .i64 0] 0 l9))) h5) else False) else False) else False):= by kernel_rfl
theorem F16_r40:R16 5219519 1 e V0 hp K=
 K (upd e 6 (sB false)) V0 hp:= by kernel_rfl
def F16_j19 (x2a:OA) (x2n x2c:Nat) (x7 x9:OA) (x10:Int) (x154:Bool) (k11:List Value) (hp:HP) (I5:(Int)→HP→Prop) (K:Kh):Prop:=
  (ite2 x154 (K (.bool false) hp) (F16_j7 x2a x2n x2c x7 x9 x10 k11 hp I5 K))
theorem F16_r41 (h:E=upd (w6 e 20 (sI x20) 19 (sB x19) 18 (sR 18 0) 17 (sI x17) 16 (sB x16) 15 (sR 15 0)) 11 (sR 11 0)):R16 1549503 24 E (w3 V0 18 (114,k18) 15 (36,k15) 11 (108,k11)) hp K=
 ldL (cellsN k15 0 4) fun l1=>(ldL (cellsN k18 0 4) fun l2=>CF Try.prog 64 [(.agg ⟨l1⟩),(.agg ⟨l2⟩)] hp fun u3 h4=>boolV u3 fun q5=>ite2 (!q5) (K (w8 (w8 (w8 E 131 (sA l1) 132 (sA l2) 133 (sB q5) 134 (sB ((!q5))) 135 (sB true) 136 sU 137 sU 138 sU) 139 (sB true) 140 (sB true) 141 sU 142 sU 143 sU 144 (sB true) 145 (sB true) 146 sU) 147 sU 148 sU 149 sU 150 sU 151 sU 152 sU 153 sU 154 (sB true)) (w3 V0 18 (114,k18) 15 (36,k15) 11 (108,k11)) h4) (ite2 (!(x16==x19)) (K (w8 (w8 (w8 E 131 (sA l1) 132 (sA l2) 133 (sB q5) 134 (sB ((!q5))) 135 (sB false) 136 (sB x16) 137 (sB x19) 138 (sB ((!(x16==x19))))) 139 (sB ((!(x16==x19)))) 140 (sB true) 141 sU 142 sU 143 sU 144 (sB true) 145 (sB true) 146 sU) 147 sU 148 sU 149 sU 150 sU 151 sU 152 sU 153 sU 154 (sB true)) (w3 V0 18 (114,k18) 15 (36,k15) 11 (108,k11)) h4) (ite2 (x17 != x20) (K (w8 (w8 (w8 E 131 (sA l1) 132 (sA l2) 133 (sB q5) 134 (sB ((!q5))) 135 (sB false) 136 (sB x16) 137 (sB x19) 138 (sB ((!(x16==x19))))) 139 (sB ((!(x16==x19)))) 140 (sB false) 141 (sI x17) 142 (sI x20) 143 (sB ((x17 != x20))) 144 (sB ((x17 != x20))) 145 (sB true) 146 sU) 147 sU 148 sU 149 sU 150 sU 151 sU 152 sU 153 sU 154 (sB true)) (w3 V0 18 (114,k18) 15 (36,k15) 11 (108,k11)) h4) (ldL (cellsN k11 1 6) fun l6=>CF Try.prog 67 [(.agg ⟨l6⟩)] h4 fun u7 h8=>boolV u7 fun q9=>ldL (cellsN k11 1 6) fun l10=>CF Try.prog 66 [(.agg ⟨l10⟩)] h8 fun u11 h12=>aggV u11 fun l13=>CF Try.prog 68 [(.agg ⟨l13⟩)] h12 fun u14 h15=>boolV u14 fun q16=>K (w8 (w8 (w8 E 131 (sA l1) 132 (sA l2) 133 (sB q5) 134 (sB ((!q5))) 135 (sB false) 136 (sB x16) 137 (sB x19) 138 (sB ((!(x16==x19))))) 139 (sB ((!(x16==x19)))) 140 (sB false) 141 (sI x17) 142 (sI x20) 143 (sB ((x17 != x20))) 144 (sB ((x17 != x20))) 145 (sB false) 146 (sR 11 1)) 147 (sA l6) 148 (sB q9) 149 (sR 11 1) 150 (sA l10) 151 (sA l13) 152 (sB q16) 153 (sB ((!(q9==q16)))) 154 (sB ((!(q9==q16))))) (w3 V0 18 (114,k18) 15 (36,k15) 11 (108,k11)) h15)))):= by subst h; kernel_rfl
def F16_j18 (x2a:OA) (x2n x2c:Nat) (x7 x9:OA) (x10:Int) (x16:Bool) (x17:Int) (x19:Bool) (x20:Int) (k11 k15 k18:List Value) (hp:HP) (I5:(Int)→HP→Prop) (K:Kh):Prop:=
  (ldL (cellsN k15 0 4) fun l118=>ldL (cellsN k18 0 4) fun l119=>CF Try.prog 64 [(.agg ⟨l118⟩),(.agg ⟨l119⟩)] hp fun u120 h121=>boolV u120 fun q122=>ite2 (!q122) (F16_j19 x2a x2n x2c x7 x9 x10 true k11 h121 I5 K) (ite2 (!(x16==x19)) (F16_j19 x2a x2n x2c x7 x9 x10 true k11 h121 I5 K) (ite2 (x17 != x20) (F16_j19 x2a x2n x2c x7 x9 x10 true k11 h121 I5 K) (ldL (cellsN k11 1 6) fun l123=>CF Try.prog 67 [(.agg ⟨l123⟩)] h121 fun u124 h125=>boolV u124 fun q126=>ldL (cellsN k11 1 6) fun l127=>CF Try.prog 66 [(.agg ⟨l127⟩)] h125 fun u128 h129=>aggV u128 fun l130=>CF Try.prog 68 [(.agg ⟨l130⟩)] h129 fun u131 h132=>boolV u131 fun q133=>F16_j19 x2a x2n x2c x7 x9 x10 (!(q126==q133)) k11 h132 I5 K))))
theorem F16_r42 {e:Env} {x9:OA} {k11:List Value} {k15:List Value} {hp:HP} {K:Env→PV→HP→Prop}:RW Try.prog 220 [11,15,18,78,82,86,112,114,122,125,146,149,191,192,213,214] (opsAt Try.f16 (pth 763071)) [0,1,2,3,4,5,6,7,8,9,10,11,12,13,14] (w2 e 11 (sR 11 0) 9 (sP x9)) (w2 V0 15 (36,k15) 11 (108,k11)) hp K=
 ldL (cellsN k11 1 6) fun l1=>(CF Try.prog 66 [(.agg ⟨l1⟩)] hp fun u2 h3=>aggV u2 fun l4=>ldV (k11)[7]? fun v5=>intV v5 .i64 fun i6=>CF Try.prog 65 [(.pointer x9),(.agg ⟨l4⟩),(.int .i64 i6)] h3 fun u7 h8=>tup3V u7 fun u9 u10 u11=>aggV u9 fun l12=>boolV u10 fun q13=>intV u11 .i64 fun i14=>if List.length l12=4 then (if List.all l12 one=true then (if 0+List.length l12≤List.length [(Value.string ⟨#[]⟩),.string ⟨#[]⟩,.string ⟨#[]⟩,.int .i64 0] then (K (w8 (w8 e 11 (sR 11 0) 9 (sP x9) 121 (sP x9) 122 (sR 11 1) 123 (sA l1) 124 (sA l4) 125 (sR 11 7) 126 (sI i6)) 127 (sV (.tuple ⟨[(.agg ⟨l12⟩),(.bool q13),(.int .i64 i14)]⟩)) 120 (sV (.tuple ⟨[(.agg ⟨l12⟩),(.bool q13),(.int .i64 i14)]⟩)) 128 (sA l12) 129 (sB q13) 130 (sI i14) 18 (sR 18 0) 19 (sB q13) 20 (sI i14)) (w4 V0 15 (36,k15) 11 (108,k11) 18 (114,[.string ⟨#[]⟩,.string ⟨#[]⟩,.string ⟨#[]⟩,.int .i64 0]) 18 (114,(splice [.string ⟨#[]⟩,.string ⟨#[]⟩,.string ⟨#[]⟩,.int .i64 0] 0 l12))) h8) else False) else False) else False):= by kernel_rfl
theorem F16_r43 {e:Env} {x9:OA} {k11:List Value} {k15:List Value} {hp:HP} {K:Env→PV→HP→Prop}:RW Try.prog 220 [11,15,18,78,82,86,112,114,122,125,146,149,191,192,213,214] (opsAt Try.f16 (pth 763071)) [0,1,2,3,4,11,5,6,7,8,9,10,12,13,14] (w2 e 11 (sR 11 0) 9 (sP x9)) (w2 V0 15 (36,k15) 11 (108,k11)) hp K=
 ldL (cellsN k11 1 6) fun l1=>(CF Try.prog 66 [(.agg ⟨l1⟩)] hp fun u2 h3=>aggV u2 fun l4=>ldV (k11)[7]? fun v5=>intV v5 .i64 fun i6=>CF Try.prog 65 [(.pointer x9),(.agg ⟨l4⟩),(.int .i64 i6)] h3 fun u7 h8=>tup3V u7 fun u9 u10 u11=>aggV u9 fun l12=>boolV u10 fun q13=>intV u11 .i64 fun i14=>if List.length l12=4 then (if List.all l12 one=true then (if 0+List.length l12≤List.length [(Value.string ⟨#[]⟩),.string ⟨#[]⟩,.string ⟨#[]⟩,.int .i64 0] then (K (w8 (w8 e 11 (sR 11 0) 9 (sP x9) 121 (sP x9) 122 (sR 11 1) 123 (sA l1) 124 (sA l4) 125 (sR 11 7) 18 (sR 18 0)) 126 (sI i6) 127 (sV (.tuple ⟨[(.agg ⟨l12⟩),(.bool q13),(.int .i64 i14)]⟩)) 120 (sV (.tuple ⟨[(.agg ⟨l12⟩),(.bool q13),(.int .i64 i14)]⟩)) 128 (sA l12) 129 (sB q13) 130 (sI i14) 19 (sB q13) 20 (sI i14)) (w4 V0 15 (36,k15) 11 (108,k11) 18 (114,[.string ⟨#[]⟩,.string ⟨#[]⟩,.string ⟨#[]⟩,.int .i64 0]) 18 (114,(splice [.string ⟨#[]⟩,.string ⟨#[]⟩,.string ⟨#[]⟩,.int .i64 0] 0 l12))) h8) else False) else False) else False):= by kernel_rfl
theorem F16_r44 {e:Env} {x9:OA} {k11:List Value} {k15:List Value} {hp:HP} {K:Env→PV→HP→Prop}:RW Try.prog 220 [11,15,18,78,82,86,112,114,122,125,146,149,191,192,213,214] (opsAt Try.f16 (pth 763071)) [0,1,4,5,11,2,3,6,7,8,9,10,12,13,14] (w2 e 11 (sR 11 0) 9 (sP x9)) (w2 V0 15 (36,k15) 11 (108,k11)) hp K=
 ldV (k11)[7]? fun v1=>(intV v1 .i64 fun i2=>ldL (cellsN k11 1 6) fun l3=>CF Try.prog 66 [(.agg ⟨l3⟩)] hp fun u4 h5=>aggV u4 fun l6=>CF Try.prog 65 [(.pointer x9),(.agg ⟨l6⟩),(.int .i64 i2)] h5 fun u7 h8=>tup3V u7 fun u9 u10 u11=>aggV u9 fun l12=>boolV u10 fun q13=>intV u11 .i64 fun i14=>if List.length l12=4 then (if List.all l12 one=true then (if 0+List.length l12≤List.length [(Value.string ⟨#[]⟩),.string ⟨#[]⟩,.string ⟨#[]⟩,.int .i64 0] then (K (w8 (w8 e 11 (sR 11 0) 9 (sP x9) 121 (sP x9) 122 (sR 11 1) 125 (sR 11 7) 126 (sI i2) 18 (sR 18 0) 123 (sA l3)) 124 (sA l6) 127 (sV (.tuple ⟨[(.agg ⟨l12⟩),(.bool q13),(.int .i64 i14)]⟩)) 120 (sV (.tuple ⟨[(.agg ⟨l12⟩),(.bool q13),(.int .i64 i14)]⟩)) 128 (sA l12) 129 (sB q13) 130 (sI i14) 19 (sB q13) 20 (sI i14)) (w4 V0 15 (36,k15) 11 (108,k11) 18 (114,[.string ⟨#[]⟩,.string ⟨#[]⟩,.string ⟨#[]⟩,.int .i64 0]) 18 (114,(splice [.string ⟨#[]⟩,.string ⟨#[]⟩,.string ⟨#[]⟩,.int .i64 0] 0 l12))) h8) else False) else False) else False):= by kernel_rfl
theorem F16_r45 {e:Env} {x9:OA} {k11:List Value} {k15:List Value} {hp:HP} {K:Env→PV→HP→Prop}:RW Try.prog 220 [11,15,18,78,82,86,112,114,122,125,146,149,191,192,213,214] (opsAt Try.f16 (pth 763071)) [0,1,4,11,2,3,5,6,7,8,9,10,12,13,14] (w2 e 11 (sR 11 0) 9 (sP x9)) (w2 V0 15 (36,k15) 11 (108,k11)) hp K=
 ldL (cellsN k11 1 6) fun l1=>(CF Try.prog 66 [(.agg ⟨l1⟩)] hp fun u2 h3=>aggV u2 fun l4=>ldV (k11)[7]? fun v5=>intV v5 .i64 fun i6=>CF Try.prog 65 [(.pointer x9),(.agg ⟨l4⟩),(.int .i64 i6)] h3 fun u7 h8=>tup3V u7 fun u9 u10 u11=>aggV u9 fun l12=>boolV u10 fun q13=>intV u11 .i64 fun i14=>if List.length l12=4 then (if List.all l12 one=true then (if 0+List.length l12≤List.length [(Value.string ⟨#[]⟩),.string ⟨#[]⟩,.string ⟨#[]⟩,.int .i64 0] then (K (w8 (w8 e 11 (sR 11 0) 9 (sP x9) 121 (sP x9) 122 (sR 11 1) 125 (sR 11 7) 18 (sR 18 0) 123 (sA l1) 124 (sA l4)) 126 (sI i6) 127 (sV (.tuple ⟨[(.agg ⟨l12⟩),(.bool q13),(.int .i64 i14)]⟩)) 120 (sV (.tuple ⟨[(.agg ⟨l12⟩),(.bool q13),(.int .i64 i14)]⟩)) 128 (sA l12) 129 (sB q13) 130 (sI i14) 19 (sB q13) 20 (sI i14)) (w4 V0 15 (36,k15) 11 (108,k11) 18 (114,[.string ⟨#[]⟩,.string ⟨#[]⟩,.string ⟨#[]⟩,.int .i64 0]) 18 (114,(splice [.string ⟨#[]⟩,.string ⟨#[]⟩,.string ⟨#[]⟩,.int .i64 0] 0 l12))) h8) else False) else False) else False):= by kernel_rfl
def F16_l5 (x2a:OA) (x2n x2c:Nat) (x7 x9:OA) (K:Kh) (I5:(Int)→HP→Prop) (x10:Int) (hp:HP):Prop:=
  (ite2 (decide (x10<x2n)) ((0≤x10)∧(x10<x2n)∧(ptrN x2a fun b20 o21=>ldL (HP.cellN hp b20 (o21+Int.toNat x10*8) 8) fun l22=>if List.length l22=8 then (if List.all l22 one=true then (if 0+List.length l22≤List.length [(Value.int .u8 0),.string ⟨#[]⟩,.string ⟨#[]⟩,.int .i64 0,.bool false,.string ⟨#[]⟩,.string ⟨#[]⟩,.int .i64 0] then (ldV ((splice [.int .u8 0,.string ⟨#[]⟩,.string ⟨#[]⟩,.int .i64 0,.bool false,.string ⟨#[]⟩,.string ⟨#[]⟩,.int .i64 0] 0 l22))[0]? fun v82=>intV v82 .u8 fun i83=>ite2 (i83==0) (ldV ((splice [.int .u8 0,.string ⟨#[]⟩,.string ⟨#[]⟩,.int .i64 0,.bool false,.string ⟨#[]⟩,.string ⟨#[]⟩,.int .i64 0] 0 l22))[7]? fun v84=>intV v84 .i64 fun i85=>CF Try.prog 62 [(.pointer x7),(.int .i64 i85)] hp fun u86 h87=>slcV u86 fun a88 n89 c90=>ldV ((splice [.int .u8 0,.string ⟨#[]⟩,.string ⟨#[]⟩,.int .i64 0,.bool false,.string ⟨#[]⟩,.string ⟨#[]⟩,.int .i64 0] 0 l22))[7]? fun v91=>intV v91 .i64 fun i92=>CF Try.prog 63 [(.pointer x9),(.int .i64 i92)] h87 fun u93 h94=>slcV u93 fun a95 n96 c97=>ite2 (((n89:Nat):Int) != n96) (K (.bool false) h94) (F16_j16 x2a x2n x2c x7 x9 x10 a88 n89 c90 a95 n96 c97 0 (splice [.int .u8 0,.string ⟨#[]⟩,.string ⟨#[]⟩,.int .i64 0,.bool false,.string ⟨#[]⟩,.string ⟨#[]⟩,.int .i64 0] 0 l22) h94 I5 K)) (ldL (cellsN (splice [.int .u8 0,.string ⟨#[]⟩,.string ⟨#[]⟩,.int .i64 0,.bool false,.string ⟨#[]⟩,.string ⟨#[]⟩,.int .i64 0] 0 l22) 1 6) fun l107=>ldV ((splice [.int .u8 0,.string ⟨#[]⟩,.string ⟨#[]⟩,.int .i64 0,.bool false,.string ⟨#[]⟩,.string ⟨#[]⟩,.int .i64 0] 0 l22))[7]? fun v108=>intV v108 .i64 fun i109=>CF Try.prog 26 [(.pointer x7),(.agg ⟨l107⟩),(.int .i64 i109)] hp fun u110 h111=>tup3V u110 fun u112 u113 u114=>aggV u112 fun l115=>boolV u113 fun q116=>intV u114 .i64 fun i117=>if List.length l115=4 then (if List.all l115 one=true then (if 0+List.length l115≤List.length [(Value.string ⟨#[]⟩),.string ⟨#[]⟩,.string ⟨#[]⟩,.int .i64 0] then ((ldL (cellsN (splice [.int .u8 0,.string ⟨#[]⟩,.string ⟨#[]⟩,.int .i64 0,.bool false,.string ⟨#[]⟩,.string ⟨#[]⟩,.int .i64 0] 0 l22) 1 6) fun l134=>CF Try.prog 66 [(.agg ⟨l134⟩)] h111 fun u135 h136=>aggV u135 fun l137=>ldV ((splice [.int .u8 0,.string ⟨#[]⟩,.string ⟨#[]⟩,.int .i64 0,.bool false,.string ⟨#[]⟩,.string ⟨#[]⟩,.int .i64 0] 0 l22))[7]? fun v138=>intV v138 .i64 fun i139=>CF Try.prog 65 [(.pointer x9),(.agg ⟨l137⟩),(.int .i64 i139)] h136 fun u140 h141=>tup3V u140 fun u142 u143 u144=>aggV u142 fun l145=>boolV u143 fun q146=>intV u144 .i64 fun i147=>if List.length l145=4 then (if List.all l145 one=true then (if 0+List.length l145≤List.length [(Value.string ⟨#[]⟩),.string ⟨#[]⟩,.string ⟨#[]⟩,.int .i64 0] then (F16_j18 x2a x2n x2c x7 x9 x10 q116 i117 q146 i147 (splice [.int .u8 0,.string ⟨#[]⟩,.string ⟨#[]⟩,.int .i64 0,.bool false,.string ⟨#[]⟩,.string ⟨#[]⟩,.int .i64 0] 0 l22) (splice [.string ⟨#[]⟩,.string ⟨#[]⟩,.string ⟨#[]⟩,.int .i64 0] 0 l115) (splice [.string ⟨#[]⟩,.string ⟨#[]⟩,.string ⟨#[]⟩,.int .i64 0] 0 l145) h141 I5 K) else False) else False) else False)∧(ldL (cellsN (splice [.int .u8 0,.string ⟨#[]⟩,.string ⟨#[]⟩,.int .i64 0,.bool false,.string ⟨#[]⟩,.string ⟨#[]⟩,.int .i64 0] 0 l22) 1 6) fun l148=>CF Try.prog 66 [(.agg ⟨l148⟩)] h111 fun u149 h150=>aggV u149 fun l151=>ldV ((splice [.int .u8 0,.string ⟨#[]⟩,.string ⟨#[]⟩,.int .i64 0,.bool false,.string ⟨#[]⟩,.string ⟨#[]⟩,.int .i64 0] 0 l22))[7]? fun v152=>intV v152 .i64 fun i153=>CF Try.prog 65 [(.pointer x9),(.agg ⟨l151⟩),(.int .i64 i153)] h150 fun u154 h155=>tup3V u154 fun u156 u157 u158=>aggV u156 fun l159=>boolV u157 fun q160=>intV u158 .i64 fun i161=>if List.length l159=4 then (if List.all l159 one=true then (if 0+List.length l159≤List.length [(Value.string ⟨#[]⟩),.string ⟨#[]⟩,.string ⟨#[]⟩,.int .i64 0] then (F16_j18 x2a x2n x2c x7 x9 x10 q116 i117 q160 i161 (splice [.int .u8 0,.string ⟨#[]⟩,.string ⟨#[]⟩,.int .i64 0,.bool false,.string ⟨#[]⟩,.string ⟨#[]⟩,.int .i64 0] 0 l22) (splice [.string ⟨#[]⟩,.string ⟨#[]⟩,.string ⟨#[]⟩,.int .i64 0] 0 l115) (splice [.string ⟨#[]⟩,.string ⟨#[]⟩,.string ⟨#[]⟩,.int .i64 0] 0 l159) h155 I5 K) else False) else False) else False)∧(ldV ((splice [.int .u8 0,.string ⟨#[]⟩,.string ⟨#[]⟩,.int .i64 0,.bool false,.string ⟨#[]⟩,.string ⟨#[]⟩,.int .i64 0] 0 l22))[7]? fun v162=>intV v162 .i64 fun i163=>ldL (cellsN (splice [.int .u8 0,.string ⟨#[]⟩,.string ⟨#[]⟩,.int .i64 0,.bool false,.string ⟨#[]⟩,.string ⟨#[]⟩,.int .i64 0] 0 l22) 1 6) fun l164=>CF Try.prog 66 [(.agg ⟨l164⟩)] h111 fun u165 h166=>aggV u165 fun l167=>CF Try.prog 65 [(.pointer x9),(.agg ⟨l167⟩),(.int .i64 i163)] h166 fun u168 h169=>tup3V u168 fun u170 u171 u172=>aggV u170 fun l173=>boolV u171 fun q174=>intV u172 .i64 fun i175=>if List.length l173=4 then (if List.all l173 one=true then (if 0+List.length l173≤List.length [(Value.string ⟨#[]⟩),.string ⟨#[]⟩,.string ⟨#[]⟩,.int .i64 0] then (F16_j18 x2a x2n x2c x7 x9 x10 q116 i117 q174 i175 (splice [.int .u8 0,.string ⟨#[]⟩,.string ⟨#[]⟩,.int .i64 0,.bool false,.string ⟨#[]⟩,.string ⟨#[]⟩,.int .i64 0] 0 l22) (splice [.string ⟨#[]⟩,.string ⟨#[]⟩,.string ⟨#[]⟩,.int .i64 0] 0 l115) (splice [.string ⟨#[]⟩,.string ⟨#[]⟩,.string ⟨#[]⟩,.int .i64 0] 0 l173) h169 I5 K) else False) else False) else False)∧(ldL (cellsN (splice [.int .u8 0,.string ⟨#[]⟩,.string ⟨#[]⟩,.int .i64 0,.bool false,.string ⟨#[]⟩,.string ⟨#[]⟩,.int .i64 0] 0 l22) 1 6) fun l176=>CF Try.prog 66 [(.agg ⟨l176⟩)] h111 fun u177 h178=>aggV u177 fun l179=>ldV ((splice [.int .u8 0,.string ⟨#[]⟩,.string ⟨#[]⟩,.int .i64 0,.bool false,.string ⟨#[]⟩,.string ⟨#[]⟩,.int .i64 0] 0 l22))[7]? fun v180=>intV v180 .i64 fun i181=>CF Try.prog 65 [(.pointer x9),(.agg ⟨l179⟩),(.int .i64 i181)] h178 fun u182 h183=>tup3V u182 fun u184 u185 u186=>aggV u184 fun l187=>boolV u185 fun q188=>intV u186 .i64 fun i189=>if List.length l187=4 then (if List.all l187 one=true then (if 0+List.length l187≤List.length [(Value.string ⟨#[]⟩),.string ⟨#[]⟩,.string ⟨#[]⟩,.int .i64 0] then (F16_j18 x2a x2n x2c x7 x9 x10 q116 i117 q188 i189 (splice [.int .u8 0,.string ⟨#[]⟩,.string ⟨#[]⟩,.int .i64 0,.bool false,.string ⟨#[]⟩,.string ⟨#[]⟩,.int .i64 0] 0 l22) (splice [.string ⟨#[]⟩,.string ⟨#[]⟩,.string ⟨#[]⟩,.int .i64 0] 0 l115) (splice [.string ⟨#[]⟩,.string ⟨#[]⟩,.string ⟨#[]⟩,.int .i64 0] 0 l187) h183 I5 K) else False) else False) else False)) else False) else False) else False)) else False) else False) else False)) (F16_j3  hp  K))
def F16_j4 (x2a:OA) (x2n x2c:Nat) (x7 x9:OA) (x10:Int) (hp:HP) (K:Kh):Prop:=
  (LoopP (σ:=Int) (fun I s hp=>F16_l5 x2a x2n x2c x7 x9  K I s hp) x10 hp)
theorem F16_r46:R16 319 1 e V0 hp K=
 K (upd e 10 (sI 0)) V0 hp:= by kernel_rfl
def F16_j2 (x0 x1:Int) (x2a:OA) (x2n x2c:Nat) (x7:OA) (x63:Bool) (hp:HP) (K:Kh):Prop:=
  (ite2 x63 (K (.bool false) hp) (∀ b16:Nat,hp b16=.none→(F16_j4 x2a x2n x2c x7 (some ⟨b16,0,none⟩) 0 (HP.set hp b16 (.cells 106 [(.int .i64 x0),(.int .i64 x1),(.slice none 0 0)] 0))  K)))
theorem F16_r47 (h:E=upd (upd e 8 (sI x8)) 7 (sP x7)):R16 79 6 E V0 hp K=
 ite2 (x8 != 0) (K (w6 E 58 (sI x8) 59 (sB ((x8 != 0))) 60 (sB true) 61 sU 62 sU 63 (sB true)) V0 hp) (K (w6 E 58 (sI x8) 59 (sB ((x8 != 0))) 60 (sB false) 61 (sP x7) 62 (sB ((Option.isNone x7))) 63 (sB ((Option.isNone x7)))) V0 hp):= by subst h; kernel_rfl
def F16_j1 (x0 x1:Int) (x2a:OA) (x2n x2c:Nat) (x7:OA) (x8:Int) (x48:Bool) (hp:HP) (K:Kh):Prop:=
  (ite2 x48 (ite2 (Option.isNone x7) (ite2 (x8==1) (CF Try.prog 22 [] hp fun u13 h14=>boolV u13 fun q15=>K (.bool q15) h14) (K (.bool false) hp)) (K (.bool false) hp)) (ite2 (x8 != 0) (F16_j2 x0 x1 x2a x2n x2c x7 true hp  K) (F16_j2 x0 x1 x2a x2n x2c x7 (Option.isNone x7) hp  K)))
theorem F16_r48 (h:E=upd (upd e 1 (sI x1)) 0 (sI x0)):R16 39 14 E V0 hp K=
 ite2 (decide (x0<1)) (K (w6 (w8 E 35 (sI x0) 36 (sB (decide (x0<1))) 37 (sB true) 38 sU 39 sU 40 (sB true) 41 (sB true) 42 sU) 43 sU 44 (sB true) 45 (sB true) 46 sU 47 sU 48 (sB true)) V0 hp) (ite2 (decide (x0 > 65536)) (K (w6 (w8 E 35 (sI x0) 36 (sB (decide (x0<1))) 37 (sB false) 38 (sI x0) 39 (sB (decide (x0 > 65536))) 40 (sB (decide (x0 > 65536))) 41 (sB true) 42 sU) 43 sU 44 (sB true) 45 (sB true) 46 sU 47 sU 48 (sB true)) V0 hp) (ite2 (decide (x1<1)) (K (w6 (w8 E 35 (sI x0) 36 (sB (decide (x0<1))) 37 (sB false) 38 (sI x0) 39 (sB (decide (x0 > 65536))) 40 (sB (decide (x0 > 65536))) 41 (sB false) 42 (sI x1)) 43 (sB (decide (x1<1))) 44 (sB (decide (x1<1))) 45 (sB true) 46 sU 47 sU 48 (sB true)) V0 hp) (K (w6 (w8 E 35 (sI x0) 36 (sB (decide (x0<1))) 37 (sB false) 38 (sI x0) 39 (sB (decide (x0 > 65536))) 40 (sB (decide (x0 > 65536))) 41 (sB false) 42 (sI x1)) 43 (sB (decide (x1<1))) 44 (sB (decide (x1<1))) 45 (sB false) 46 (sI x1) 47 (sB (decide (x1 > 65536))) 48 (sB (decide (x1 > 65536)))) V0 hp))):= by subst h; kernel_rfl
def F16 (x0 x1:Int) (x2a:OA) (x2n x2c:Nat) (hp:HP) (K:Kh):Prop:=
  (CF Try.prog 61 [(.slice x2a x2n x2c)] hp fun u1 h2=>boolV u1 fun q3=>ite2 q3 (CF Try.prog 22 [] h2 fun u4 h5=>boolV u4 fun q6=>K (.bool q6) h5) (CF Try.prog 25 [(.int .i64 x0),(.int .i64 x1)] h2 fun u7 h8=>tup2V u7 fun u9 u10=>ptrV u9 fun p11=>intV u10 .i64 fun i12=>ite2 (decide (x0<1)) (F16_j1 x0 x1 x2a x2n x2c p11 i12 true h8  K) (ite2 (decide (x0 > 65536)) (F16_j1 x0 x1 x2a x2n x2c p11 i12 true h8  K) (ite2 (decide (x1<1)) (F16_j1 x0 x1 x2a x2n x2c p11 i12 true h8  K) (F16_j1 x0 x1 x2a x2n x2c p11 i12 (decide (x1 > 65536)) h8  K)))))
noncomputable abbrev o16 (k n:Nat):Code:=.region k (opsAt Try.f16 (pth n)) false
noncomputable def F16_code:Code:=(.seq (o16 0 2) (.seq (.seq (o16 1 9) (.cond (.tmp 27) (.seq (o16 2 37) .ret) .skip)) (.seq (o16 3 11) (.seq (.seq (o16 4 39) (.cond (.tmp 48) (.seq (o16 5 151) .ret) .skip)) (.seq (.seq (o16 6 79) (.cond (.tmp 63) (.seq (o16 7 303) .ret) .skip)) (.seq (o16 8 95) (.seq (.seq (o16 9 319) (.block 0 (.loop (.seq (.seq (o16 10 4287) (.cond (.tmp 71) .skip (.exit 0))) (.seq (.block 1 (.seq (o16 12 17599) (.seq (.seq (o16 13 74943) (.cond (.tmp 80) (.seq (o16 14 304319) (.seq (o16 15 697535) (.seq (.seq (o16 16 2532543) (.cond (.tmp 93) (.seq (o16 17 9872575) .ret) .skip)) (.seq (o16 18 3056831) (.block 2 (.loop (.seq (.seq (o16 19 35562687) (.cond (.tmp 97) .skip (.exit 2))) (.seq (.block 3 (.seq (.region 21 (opsAt Try.f16 (pth 144614591)) true) (.cond (.tmp 109) (.seq (o16 22 614376639) .ret) .skip))) (o16 20 60728511))))))))) (.seq (o16 23 369855) (.seq (.region 24 (opsAt Try.f16 (pth 763071)) true) (.seq (.region 25 (opsAt Try.f16 (pth 1549503)) true) (.cond (.tmp 154) (.seq (o16 26 5219519) .ret) .skip)))))) (.seq (o16 27 91327) (.seq (o16 28 189631) (.seq (.seq (.region 29 (opsAt Try.f16 (pth 648383)) true) (.cond (.tmp 173) (.seq (o16 30 2483391) .ret) .skip)) (.seq (o16 31 779455) (.seq (.seq (o16 32 2614463) (.block 4 (.loop (.seq (.seq (o16 33 35120319) (.cond (.tmp 180) .skip (.exit 4))) (.seq (.block 5 (.seq (.region 35 (opsAt Try.f16 (pth 144172223)) true) (.cond (.tmp 194) (o16 36 345498815) .skip))) (o16 34 60286143)))))) (.seq (.seq (o16 37 5235903) (.block 6 (.loop (.seq (.seq (o16 38 70247615) (.cond (.tmp 200) .skip (.exit 6))) (.seq (.block 7 (.seq (.region 40 (opsAt Try.f16 (pth 288351423)) true) (.cond (.tmp 211) (.seq (o16 41 1227875519) .ret) .skip))) (o16 39 120579263)))))) (.seq (o16 42 6284479) (.cond (.tmp 218) (.seq (o16 43 20964543) .ret) .skip))))))))))) (o16 11 7359)))))) (.seq (o16 44 383) .ret))))))))
theorem F16_body:Try.f16.body=some F16_code:=by kernel_rfl
theorem F16_ok (x0 x1:Int) (x2a:OA) (x2n x2c:Nat) (hp:HP) (K:Kh) (h:F16 x0 x1 x2a x2n x2c hp K):CF Try.prog 16 [(.int .i64 x0),(.int .i64 x1),(.slice x2a x2n x2c)] hp K:=by
 refine .inl ⟨by kernel_rfl,AC.intro (N:=220) Try.func16 F16_body rfl (Nat.le_of_ble_eq_true rfl) ?_⟩
 unfold F16 at h
 refine Ar F16_r0 ?_ (r3 0 1 2 Rn) (z3 Sn) Sn
 refine Aq (Ar F16_r1 ?_ (r3 2 0 1 Rn) (z3 Sn) Sn)
 refine mC h fun u1 h2 h=>mB h fun q3 h=>?_
 refine Ac h rfl (fun h=>?_) (fun h=>?_)
 ·refine Ar F16_r2 ?_ Rn Sn Sn
  refine mC h fun u4 h5 h=>mB h fun q6 h=>?_
  refine AWP.ret ?_
  exact h
 ·refine AWP.skip (Ar F16_r3 ?_ (r3 0 1 2 Rn) (z3 Sn) Sn)
  refine mC h fun u7 h8 h=>mT h fun u9 u10 h=>mP h fun p11 h=>mI h fun i12 h=>?_
  refine Aq (As (fun env pv hp=>∃ x0 x1 x2a x2n x2c x7 x8 x48,Sub (w6 E0 48 (sB x48) 8 (sI x8) 7 (sP x7) 2 (sS x2a x2n x2c) 1 (sI x1) 0 (sI x0)) env∧Sub V0 pv∧F16_j1 x0 x1 x2a x2n x2c x7 x8 x48 hp  K) ?_ ?_)
  ·refine Ag (F16_r48 rfl) ?_ (r5 0 1 2 7 8 Rn) (z5 Sn) Sn
   refine mt h (fun h=>?_) (fun h=>?_)
   ·exact ⟨_,_,_,_,_,_,_,_,(z6 Sn),Sn,h⟩
   ·refine mt h (fun h=>?_) (fun h=>?_)
    ·exact ⟨_,_,_,_,_,_,_,_,(z6 Sn),Sn,h⟩
    ·refine mt h (fun h=>?_) (fun h=>?_)
     ·exact ⟨_,_,_,_,_,_,_,_,(z6 Sn),Sn,h⟩
     ·exact ⟨_,_,_,_,_,_,_,_,(z6 Sn),Sn,h⟩
  ·rintro env pv hp ⟨x0,x1,x2a,x2n,x2c,x7,x8,x48,he,hv,h⟩
   refine Ae ?_ (r6 0 1 2 7 8 48 Rn) he hv
   unfold F16_j1 at h
   refine Ac h rfl (fun h=>?_) (fun h=>?_)
   ·refine Ar (F16_r4 rfl) ?_ (r2 7 8 Rn) (z2 Sn) Sn
    refine mt h (fun h=>?_) (fun h=>?_)
    ·refine mt h (fun h=>?_) (fun h=>?_)
     ·refine mC h fun u13 h14 h=>mB h fun q15 h=>?_
      refine AWP.ret ?_
      exact h
     ·refine AWP.ret ?_
      exact h
    ·refine AWP.ret ?_
     exact h
   ·refine AWP.skip (Aq (As (fun env pv hp=>∃ x0 x1 x2a x2n x2c x7 x63,Sub (w5 E0 63 (sB x63) 7 (sP x7) 2 (sS x2a x2n x2c) 1 (sI x1) 0 (sI x0)) env∧Sub V0 pv∧F16_j2 x0 x1 x2a x2n x2c x7 x63 hp  K) ?_ ?_))
    ·refine Ag (F16_r47 rfl) ?_ (r5 7 8 0 1 2 Rn) (z5 Sn) Sn
     refine mt h (fun h=>?_) (fun h=>?_)
     ·exact ⟨_,_,_,_,_,_,_,(z5 Sn),Sn,h⟩
     ·exact ⟨_,_,_,_,_,_,_,(z5 Sn),Sn,h⟩
    ·rintro env pv hp ⟨x0,x1,x2a,x2n,x2c,x7,x63,he,hv,h⟩
     refine Ae ?_ (r5 0 1 2 7 63 Rn) he hv
     unfold F16_j2 at h
     refine Ac h rfl (fun h=>?_) (fun h=>?_)
     ·refine Ar F16_r5 ?_ Rn Sn Sn
      refine AWP.ret ?_
      exact h
     ·refine AWP.skip (Ar F16_r6 ?_ (r4 0 1 2 7 Rn) (z4 Sn) Sn)
      refine fun b16 hb_b_16=>?_
      replace h:=h b16 hb_b_16
      refine As (fun env pv hp=>Sub E0 env∧Sub V0 pv∧F16_j3  hp  K) ?_ ?_
      ·refine As (fun env pv hp=>∃ x2a x2n x2c x7 x9 x10,Sub (w4 E0 10 (sI x10) 9 (sP x9) 7 (sP x7) 2 (sS x2a x2n x2c)) env∧Sub V0 pv∧F16_j4 x2a x2n x2c x7 x9 x10 hp  K) ?_ ?_
       ·refine Ag F16_r46 ?_ (r3 2 7 9 Rn) (z3 Sn) Sn
        exact ⟨_,_,_,_,_,_,(z4 Sn),Sn,h⟩
       ·rintro env pv hp ⟨x2a,x2n,x2c,x7,x9,x10,he,hv,h⟩
        refine Ae ?_ (r4 2 7 9 10 Rn) he hv
        unfold F16_j4 at h
        refine AWP.block (AWP.loop (σ:=Int) _ (fun s=>w4 E0 10 (sI s) 9 (sP x9) 7 (sP x7) 2 (sS x2a x2n x2c)) (fun s=>V0) x10 h (fun s=>r4 2 7 9 10 Rn) (z4 Sn) Sn ?_)
        intro I5 x10 hp h
        replace h:F16_l5 x2a x2n x2c x7 x9  K I5 x10 hp:=h
        unfold F16_l5 at h
        refine Aq (Ar F16_r8 ?_ (r4 2 10 7 9 Rn) (z4 Sn) Sn)
        refine Ac h rfl (fun h=>?_) (fun h=>?_)
        ·refine AWP.skip (As (fun env pv hp=>∃ x10,Sub (w4 E0 10 (sI x10) 9 (sP x9) 7 (sP x7) 2 (sS x2a x2n x2c)) env∧Sub V0 pv∧F16_j6 x2a x2n x2c x7 x9 x10 hp I5 K) ?_ ?_)
         ·refine AWP.block (Ar F16_r10 ?_ (r4 2 10 7 9 Rn) (z4 Sn) Sn)
          refine ⟨h.1,h.2.1,mN h.2.2 fun b20 o21 h=>mL h fun l22 h=>mf h fun h=>mf h fun h=>mf h fun h=>?_⟩
          refine As (fun env pv hp=>∃ x10 k11,Sub (w5 E0 11 (sR 11 0) 10 (sI x10) 9 (sP x9) 7 (sP x7) 2 (sS x2a x2n x2c)) env∧Sub (upd V0 11 (108,k11)) pv∧(F16_j7 x2a x2n x2c x7 x9 x10 k11 hp I5 K)) ?_ ?_
          ·refine Ar F16_r29 ?_ (rp 11 11 0 (r4 2 7 9 10 Rn)) (z5 Sn) (z1 Sn)
           refine mV h fun v82 h=>mI h fun i83 h=>?_
           refine Ac h rfl (fun h=>?_) (fun h=>?_)
           ·refine Ar F16_r30 ?_ (r1 7 (rp 11 11 0 (r3 2 9 10 Rn))) (z5 Sn) (z1 Sn)
            refine mV h fun v84 h=>mI h fun i85 h=>mC h fun u86 h87 h=>mS h fun a88 n89 c90 h=>?_
            refine Ar F16_r31 ?_ (r1 9 (rp 11 11 0 (r4 2 7 10 12 Rn))) (z6 Sn) (z1 Sn)
            refine mV h fun v91 h=>mI h fun i92 h=>mC h fun u93 h94 h=>mS h fun a95 n96 c97 h=>?_
            refine Aq (Ar (F16_r32 rfl) ?_ (r6 12 13 2 7 9 10 (rp 11 11 0 Rn)) (z7 Sn) (z1 Sn))
            refine Ac h rfl (fun h=>?_) (fun h=>?_)
            ·refine Ar F16_r33 ?_ Rn Sn Sn
             refine AWP.ret ?_
             exact h
            ·refine AWP.skip (As (fun env pv hp=>∃ x10 x12a x12n x12c x13a x13n x13c x14 k11,Sub (w8 E0 14 (sI x14) 13 (sS x13a x13n x13c) 12 (sS x12a x12n x12c) 11 (sR 11 0) 10 (sI x10) 9 (sP x9) 7 (sP x7) 2 (sS x2a x2n x2c)) env∧Sub (upd V0 11 (108,k11)) pv∧(F16_j16 x2a x2n x2c x7 x9 x10 x12a x12n x12c x13a x13n x13c x14 k11 hp I5 K)) ?_ ?_)
             ·refine Ag F16_r38 ?_ (r4 2 7 9 10 (rp 11 11 0 (r2 12 13 Rn))) (z7 Sn) (z1 Sn)
              exact ⟨_,_,_,_,_,_,_,_,_,(z8 Sn),(z1 Sn),h⟩
             ·rintro env pv hp ⟨x10,x12a,x12n,x12c,x13a,x13n,x13c,x14,k11,he,hv,h⟩
              refine Ae ?_ (r4 2 7 9 10 (rp 11 11 0 (r3 12 13 14 Rn))) he hv
              unfold F16_j16 at h
              refine AWP.block (AWP.loop (σ:=Int) _ (fun s=>w8 E0 14 (sI s) 13 (sS x13a x13n x13c) 12 (sS x12a x12n x12c) 11 (sR 11 0) 10 (sI x10) 9 (sP x9) 7 (sP x7) 2 (sS x2a x2n x2c)) (fun s=>upd V0 11 (108,k11)) x14 h (fun s=>r4 2 7 9 10 (rp 11 11 0 (r3 12 13 14 Rn))) (z8 Sn) (z1 Sn) ?_)
              intro I17 x14 hp h
              replace h:F16_l17 x2a x2n x2c x7 x9 x10 x12a x12n x12c x13a x13n x13c k11 I5 K I17 x14 hp:=h
              unfold F16_l17 at h
              refine Aq (Ar (F16_r34 rfl) ?_ (r6 12 14 2 7 9 10 (rp 11 11 0 (r1 13 Rn))) (z8 Sn) (z1 Sn))
              refine Ac h rfl (fun h=>?_) (fun h=>?_)
              ·refine AWP.skip (Aq (AWP.block (Aq (AWP.rgnE (by kernel_rfl) (by kernel_rfl) (F16_r35 rfl) ?_ (r7 12 13 14 2 7 9 10 (rp 11 11 0 Rn)) (z8 Sn) (z1 Sn)))))
               refine ⟨h.1,h.2.1,mN h.2.2 (fun b98 o99 h=>mL h (fun l100 h=>⟨h.1,h.2.1,mN h.2.2 fun b101 o102 h=>mL h fun l103 h=>mC h fun u104 h105 h=>mB h fun q106 h=>?_⟩))⟩
               refine Ac h rfl (fun h=>?_) (fun h=>?_)
               ·refine Ar F16_r36 ?_ Rn Sn Sn
                refine AWP.ret ?_
                exact h
               ·refine AWP.skip (Ag F16_r37 ?_ (r5 14 2 7 9 10 (rp 11 11 0 (r2 12 13 Rn))) (z8 Sn) (z1 Sn))
                exact ⟨_,(z8 Sn),(z1 Sn),h⟩
              ·refine AWP.exit ?_
               exact ⟨_,_,(z5 Sn),(z1 Sn),h⟩
           ·refine Ar F16_r39 ?_ (r1 7 (rp 11 11 0 (r3 2 9 10 Rn))) (z5 Sn) (z1 Sn)
            refine mL h fun l107 h=>mV h fun v108 h=>mI h fun i109 h=>mC h fun u110 h111 h=>mU h fun u112 u113 u114 h=>mA h fun l115 h=>mB h fun q116 h=>mI h fun i117 h=>mf h fun h=>mf h fun h=>mf h fun h=>?_
            refine As (fun env pv hp=>∃ x10 x16 x17 x19 x20 k11 k15 k18,Sub (w3 (w8 E0 20 (sI x20) 19 (sB x19) 18 (sR 18 0) 17 (sI x17) 16 (sB x16) 15 (sR 15 0) 11 (sR 11 0) 10 (sI x10)) 9 (sP x9) 7 (sP x7) 2 (sS x2a x2n x2c)) env∧Sub (w3 V0 18 (114,k18) 15 (36,k15) 11 (108,k11)) pv∧(F16_j18 x2a x2n x2c x7 x9 x10 x16 x17 x19 x20 k11 k15 k18 hp I5 K)) ?_ ?_
            ·refine AWP.rgnF (cf:=[(2,11),(5,11)]) (c:=[([true,true],true,[0,1,2,3,4,5,6,7,8,9,10,11,12,13,14]),([true,false],true,[0,1,2,3,4,11,5,6,7,8,9,10,12,13,14]),([false,true],true,[0,1,4,5,11,2,3,6,7,8,9,10,12,13,14]),([false,false],true,[0,1,4,11,2,3,5,6,7,8,9,10,12,13,14])]) (by kernel_rfl) (by kernel_rfl) (by kernel_rfl) (by kernel_rfl) (allO_t (Eq.mpr F16_r42 ?_) (allO_t (Eq.mpr F16_r43 ?_) (allO_t (Eq.mpr F16_r44 ?_) (allO_t (Eq.mpr F16_r45 ?_) trivial)))) (r1 9 (rp 11 11 0 (r3 2 7 10 (rp 15 15 0 (r2 16 17 Rn))))) (z8 Sn) (z2 Sn)
             ·replace h:=h.1
              refine mL h fun l134 h=>mC h fun u135 h136 h=>mA h fun l137 h=>mV h fun v138 h=>mI h fun i139 h=>mC h fun u140 h141 h=>mU h fun u142 u143 u144 h=>mA h fun l145 h=>mB h fun q146 h=>mI h fun i147 h=>mf h fun h=>mf h fun h=>mf h fun h=>?_
              exact ⟨_,_,_,_,_,_,_,_,(z3 (z8 Sn)),(z3 Sn),h⟩
             ·replace h:=h.2.1
              refine mL h fun l148 h=>mC h fun u149 h150 h=>mA h fun l151 h=>mV h fun v152 h=>mI h fun i153 h=>mC h fun u154 h155 h=>mU h fun u156 u157 u158 h=>mA h fun l159 h=>mB h fun q160 h=>mI h fun i161 h=>mf h fun h=>mf h fun h=>mf h fun h=>?_
              exact ⟨_,_,_,_,_,_,_,_,(z3 (z8 Sn)),(z3 Sn),h⟩
             ·replace h:=h.2.2.1
              refine mV h fun v162 h=>mI h fun i163 h=>mL h fun l164 h=>mC h fun u165 h166 h=>mA h fun l167 h=>mC h fun u168 h169 h=>mU h fun u170 u171 u172 h=>mA h fun l173 h=>mB h fun q174 h=>mI h fun i175 h=>mf h fun h=>mf h fun h=>mf h fun h=>?_
              exact ⟨_,_,_,_,_,_,_,_,(z3 (z8 Sn)),(z3 Sn),h⟩
             ·replace h:=h.2.2.2
              refine mL h fun l176 h=>mC h fun u177 h178 h=>mA h fun l179 h=>mV h fun v180 h=>mI h fun i181 h=>mC h fun u182 h183 h=>mU h fun u184 u185 u186 h=>mA h fun l187 h=>mB h fun q188 h=>mI h fun i189 h=>mf h fun h=>mf h fun h=>mf h fun h=>?_
              exact ⟨_,_,_,_,_,_,_,_,(z3 (z8 Sn)),(z3 Sn),h⟩
            ·rintro env pv hp ⟨x10,x16,x17,x19,x20,k11,k15,k18,he,hv,h⟩
             refine Ae ?_ (r4 2 7 9 10 (rp 11 11 0 (rp 15 15 0 (r2 16 17 (rp 18 18 0 (r2 19 20 Rn)))))) he hv
             unfold F16_j18 at h
             refine As (fun env pv hp=>∃ x10 x154 k11,Sub (w6 E0 154 (sB x154) 11 (sR 11 0) 10 (sI x10) 9 (sP x9) 7 (sP x7) 2 (sS x2a x2n x2c)) env∧Sub (upd V0 11 (108,k11)) pv∧(F16_j19 x2a x2n x2c x7 x9 x10 x154 k11 hp I5 K)) ?_ ?_
             ·refine AWP.rgnE (by kernel_rfl) (by kernel_rfl) (F16_r41 rfl) ?_ (rp 11 11 0 (rp 15 15 0 (r2 16 17 (rp 18 18 0 (r6 19 20 2 7 9 10 Rn))))) (z3 (z8 Sn)) (z3 Sn)
              refine mL h fun l118 h=>mL h fun l119 h=>mC h fun u120 h121 h=>mB h fun q122 h=>?_
              refine mt h (fun h=>?_) (fun h=>?_)
              ·exact ⟨_,_,_,(z6 Sn),(z1 Sn),h⟩
              ·refine mt h (fun h=>?_) (fun h=>?_)
               ·exact ⟨_,_,_,(z6 Sn),(z1 Sn),h⟩
               ·refine mt h (fun h=>?_) (fun h=>?_)
                ·exact ⟨_,_,_,(z6 Sn),(z1 Sn),h⟩
                ·refine mL h fun l123 h=>mC h fun u124 h125 h=>mB h fun q126 h=>mL h fun l127 h=>mC h fun u128 h129 h=>mA h fun l130 h=>mC h fun u131 h132 h=>mB h fun q133 h=>?_
                 exact ⟨_,_,_,(z6 Sn),(z1 Sn),h⟩
             ·rintro env pv hp ⟨x10,x154,k11,he,hv,h⟩
              refine Ae ?_ (r4 2 7 9 10 (rp 11 11 0 (r1 154 Rn))) he hv
              unfold F16_j19 at h
              refine Ac h rfl (fun h=>?_) (fun h=>?_)
              ·refine Ar F16_r40 ?_ Rn Sn Sn
               refine AWP.ret ?_
               exact h
              ·refine AWP.skip ?_
               exact ⟨_,_,(z5 Sn),(z1 Sn),h⟩
          ·rintro env pv hp ⟨x10,k11,he,hv,h⟩
           refine Ae ?_ (r4 2 7 9 10 (rp 11 11 0 Rn)) he hv
           unfold F16_j7 at h
           refine Ar F16_r11 ?_ (r4 7 2 9 10 (rp 11 11 0 Rn)) (z5 Sn) (z1 Sn)
           refine mC h fun u23 h24 h=>mS h fun a25 n26 c27 h=>?_
           refine Ar F16_r12 ?_ (r4 9 2 7 10 (rp 11 11 0 (r1 21 Rn))) (z6 Sn) (z1 Sn)
           refine mC h fun u28 h29 h=>mS h fun a30 n31 c32 h=>?_
           refine Aq (As (fun env pv hp=>∃ x10 x21a x21n x21c x22a x22n x22c x173 k11,Sub (w8 E0 173 (sB x173) 22 (sS x22a x22n x22c) 21 (sS x21a x21n x21c) 11 (sR 11 0) 10 (sI x10) 9 (sP x9) 7 (sP x7) 2 (sS x2a x2n x2c)) env∧Sub (upd V0 11 (108,k11)) pv∧(F16_j8 x2a x2n x2c x7 x9 x10 x21a x21n x21c x22a x22n x22c x173 k11 hp I5 K)) ?_ ?_)
           ·refine AWP.rgnF (cf:=[(7,11)]) (c:=[([true],true,[0,1,2,3,4,5,6,7,8,9,10,11,12,13,14]),([false],true,[0,1,2,3,4,5,6,8,9,10,11,7,12,13,14])]) (by kernel_rfl) (by kernel_rfl) (by kernel_rfl) (by kernel_rfl) (allO_t (Eq.mpr F16_r27 ?_) (allO_t (Eq.mpr F16_r28 ?_) trivial)) (r6 7 9 21 22 2 10 (rp 11 11 0 Rn)) (z7 Sn) (z1 Sn)
            ·replace h:=h.1
             refine mt h (fun h=>?_) (fun h=>?_)
             ·exact ⟨_,_,_,_,_,_,_,_,_,(z8 Sn),(z1 Sn),h⟩
             ·refine mC h fun u64 h65 h=>mI h fun i66 h=>mN h fun b67 o68 h=>mV h fun v69 h=>mS h fun a70 n71 c72 h=>?_
              exact ⟨_,_,_,_,_,_,_,_,_,(z8 Sn),(z1 Sn),h⟩
            ·replace h:=h.2
             refine mt h (fun h=>?_) (fun h=>?_)
             ·exact ⟨_,_,_,_,_,_,_,_,_,(z8 Sn),(z1 Sn),h⟩
             ·refine mN h fun b73 o74 h=>mV h fun v75 h=>mS h fun a76 n77 c78 h=>mC h fun u79 h80 h=>mI h fun i81 h=>?_
              exact ⟨_,_,_,_,_,_,_,_,_,(z8 Sn),(z1 Sn),h⟩
           ·rintro env pv hp ⟨x10,x21a,x21n,x21c,x22a,x22n,x22c,x173,k11,he,hv,h⟩
            refine Ae ?_ (r4 2 7 9 10 (rp 11 11 0 (r3 21 22 173 Rn))) he hv
            unfold F16_j8 at h
            refine Ac h rfl (fun h=>?_) (fun h=>?_)
            ·refine Ar F16_r13 ?_ Rn Sn Sn
             refine AWP.ret ?_
             exact h
            ·refine AWP.skip (Ar F16_r14 ?_ (r4 2 7 9 10 (rp 11 11 0 (r2 21 22 Rn))) (z7 Sn) (z1 Sn))
             refine As (fun env pv hp=>∃ x10 x21a x21n x21c x22a x22n x22c x23 k11,Sub (w8 E0 23 (sI x23) 22 (sS x22a x22n x22c) 21 (sS x21a x21n x21c) 11 (sR 11 0) 10 (sI x10) 9 (sP x9) 7 (sP x7) 2 (sS x2a x2n x2c)) env∧Sub (upd V0 11 (108,k11)) pv∧(F16_j9 x2a x2n x2c x7 x9 x10 x21a x21n x21c x22a x22n x22c x23 k11 hp I5 K)) ?_ ?_
             ·refine As (fun env pv hp=>∃ x10 x21a x21n x21c x22a x22n x22c x23 x24 k11,Sub (upd (w8 E0 24 (sI x24) 23 (sI x23) 22 (sS x22a x22n x22c) 21 (sS x21a x21n x21c) 11 (sR 11 0) 10 (sI x10) 9 (sP x9) 7 (sP x7)) 2 (sS x2a x2n x2c)) env∧Sub (upd V0 11 (108,k11)) pv∧(F16_j13 x2a x2n x2c x7 x9 x10 x21a x21n x21c x22a x22n x22c x23 x24 k11 hp I5 K)) ?_ ?_
              ·refine Ag F16_r26 ?_ (r4 2 7 9 10 (rp 11 11 0 (r3 21 22 23 Rn))) (z8 Sn) (z1 Sn)
               exact ⟨_,_,_,_,_,_,_,_,_,_,(z1 (z8 Sn)),(z1 Sn),h⟩
              ·rintro env pv hp ⟨x10,x21a,x21n,x21c,x22a,x22n,x22c,x23,x24,k11,he,hv,h⟩
               refine Ae ?_ (r4 2 7 9 10 (rp 11 11 0 (r4 21 22 23 24 Rn))) he hv
               unfold F16_j13 at h
               refine AWP.block (AWP.loop (σ:=Int × Int) _ (fun s=>upd (w8 E0 24 (sI (s.2)) 23 (sI (s.1)) 22 (sS x22a x22n x22c) 21 (sS x21a x21n x21c) 11 (sR 11 0) 10 (sI x10) 9 (sP x9) 7 (sP x7)) 2 (sS x2a x2n x2c)) (fun s=>upd V0 11 (108,k11)) (x23,x24) h (fun s=>r4 2 7 9 10 (rp 11 11 0 (r4 21 22 23 24 Rn))) (z1 (z8 Sn)) (z1 Sn) ?_)
               intro I14 s hp h
               obtain ⟨x23,x24⟩:=s
               replace h:F16_l14 x2a x2n x2c x7 x9 x10 x21a x21n x21c x22a x22n x22c k11 I5 K I14 x23 x24 hp:=h
               unfold F16_l14 at h
               refine Aq (Ar F16_r22 ?_ (r5 9 24 2 7 10 (rp 11 11 0 (r3 21 22 23 Rn))) (z1 (z8 Sn)) (z1 Sn))
               refine mN h fun b46 o47 h=>mV h fun v48 h=>mS h fun a49 n50 c51 h=>?_
               refine Ac h rfl (fun h=>?_) (fun h=>?_)
               ·refine AWP.skip (As (fun env pv hp=>∃ x23 x24,Sub (upd (w8 E0 24 (sI x24) 23 (sI x23) 22 (sS x22a x22n x22c) 21 (sS x21a x21n x21c) 11 (sR 11 0) 10 (sI x10) 9 (sP x9) 7 (sP x7)) 2 (sS x2a x2n x2c)) env∧Sub (upd V0 11 (108,k11)) pv∧(F16_j15 x2a x2n x2c x7 x9 x10 x21a x21n x21c x22a x22n x22c x23 x24 k11 hp I5 I14 K)) ?_ ?_)
                ·refine AWP.block (Aq (AWP.rgnE (by kernel_rfl) (by kernel_rfl) (F16_r24 rfl) ?_ (r1 9 (rp 11 11 0 (r7 24 2 7 10 21 22 23 Rn))) (z1 (z8 Sn)) (z1 Sn)))
                 refine mN h (fun b52 o53 h=>mV h (fun v54 h=>mS h (fun a55 n56 c57 h=>⟨h.1,h.2.1,mN h.2.2 fun b58 o59 h=>mV h fun v60 h=>ms h fun s61 h=>mV h fun v62 h=>ms h fun s63 h=>?_⟩)))
                 refine Ac h rfl (fun h=>?_) (fun h=>?_)
                 ·refine Ag F16_r25 ?_ (r5 23 2 7 9 10 (rp 11 11 0 (r3 21 22 24 Rn))) (z1 (z8 Sn)) (z1 Sn)
                  exact ⟨_,_,(z1 (z8 Sn)),(z1 Sn),h⟩
                 ·refine AWP.skip ?_
                  exact ⟨_,_,(z1 (z8 Sn)),(z1 Sn),h⟩
                ·rintro env pv hp ⟨x23,x24,he,hv,h⟩
                 refine Ae ?_ (r4 2 7 9 10 (rp 11 11 0 (r4 21 22 23 24 Rn))) he hv
                 unfold F16_j15 at h
                 refine Ag F16_r23 ?_ (r5 24 2 7 9 10 (rp 11 11 0 (r3 21 22 23 Rn))) (z1 (z8 Sn)) (z1 Sn)
                 exact ⟨_,(z1 (z8 Sn)),(z1 Sn),h⟩
               ·refine AWP.exit ?_
                exact ⟨_,_,_,_,_,_,_,_,_,(z8 Sn),(z1 Sn),h⟩
             ·rintro env pv hp ⟨x10,x21a,x21n,x21c,x22a,x22n,x22c,x23,k11,he,hv,h⟩
              refine Ae ?_ (r4 2 7 9 10 (rp 11 11 0 (r3 21 22 23 Rn))) he hv
              unfold F16_j9 at h
              refine As (fun env pv hp=>∃ x10 x23 k11,Sub (w6 E0 23 (sI x23) 11 (sR 11 0) 10 (sI x10) 9 (sP x9) 7 (sP x7) 2 (sS x2a x2n x2c)) env∧Sub (upd V0 11 (108,k11)) pv∧(F16_j10 x2a x2n x2c x7 x9 x10 x23 k11 hp I5 K)) ?_ ?_
              ·refine As (fun env pv hp=>∃ x10 x21a x21n x21c x22a x22n x22c x23 x25 k11,Sub (upd (w8 E0 25 (sI x25) 23 (sI x23) 22 (sS x22a x22n x22c) 21 (sS x21a x21n x21c) 11 (sR 11 0) 10 (sI x10) 9 (sP x9) 7 (sP x7)) 2 (sS x2a x2n x2c)) env∧Sub (upd V0 11 (108,k11)) pv∧(F16_j11 x2a x2n x2c x7 x9 x10 x21a x21n x21c x22a x22n x22c x23 x25 k11 hp I5 K)) ?_ ?_
               ·refine Ag F16_r21 ?_ (r4 2 7 9 10 (rp 11 11 0 (r3 21 22 23 Rn))) (z8 Sn) (z1 Sn)
                exact ⟨_,_,_,_,_,_,_,_,_,_,(z1 (z8 Sn)),(z1 Sn),h⟩
               ·rintro env pv hp ⟨x10,x21a,x21n,x21c,x22a,x22n,x22c,x23,x25,k11,he,hv,h⟩
                refine Ae ?_ (r4 2 7 9 10 (rp 11 11 0 (r4 21 22 23 25 Rn))) he hv
                unfold F16_j11 at h
                refine AWP.block (AWP.loop (σ:=Int) _ (fun s=>upd (w8 E0 25 (sI s) 23 (sI x23) 22 (sS x22a x22n x22c) 21 (sS x21a x21n x21c) 11 (sR 11 0) 10 (sI x10) 9 (sP x9) 7 (sP x7)) 2 (sS x2a x2n x2c)) (fun s=>upd V0 11 (108,k11)) x25 h (fun s=>r4 2 7 9 10 (rp 11 11 0 (r4 21 22 23 25 Rn))) (z1 (z8 Sn)) (z1 Sn) ?_)
                intro I12 x25 hp h
                replace h:F16_l12 x2a x2n x2c x7 x9 x10 x21a x21n x21c x22a x22n x22c x23 k11 I5 K I12 x25 hp:=h
                unfold F16_l12 at h
                refine Aq (Ar (F16_r17 rfl) ?_ (r6 21 25 2 7 9 10 (rp 11 11 0 (r2 22 23 Rn))) (z1 (z8 Sn)) (z1 Sn))
                refine Ac h rfl (fun h=>?_) (fun h=>?_)
                ·refine AWP.skip (Aq (AWP.block (Aq (AWP.rgnE (by kernel_rfl) (by kernel_rfl) (F16_r18 rfl) ?_ (r7 21 22 25 2 7 9 10 (rp 11 11 0 (r1 23 Rn))) (z1 (z8 Sn)) (z1 Sn)))))
                 refine ⟨h.1,h.2.1,mN h.2.2 (fun b38 o39 h=>mV h (fun v40 h=>ms h (fun s41 h=>⟨h.1,h.2.1,mN h.2.2 fun b42 o43 h=>mV h fun v44 h=>ms h fun s45 h=>?_⟩)))⟩
                 refine Ac h rfl (fun h=>?_) (fun h=>?_)
                 ·refine Ar F16_r19 ?_ Rn Sn Sn
                  refine AWP.ret ?_
                  exact h
                 ·refine AWP.skip (Ag F16_r20 ?_ (r5 25 2 7 9 10 (rp 11 11 0 (r3 21 22 23 Rn))) (z1 (z8 Sn)) (z1 Sn))
                  exact ⟨_,(z1 (z8 Sn)),(z1 Sn),h⟩
                ·refine AWP.exit ?_
                 exact ⟨_,_,_,(z6 Sn),(z1 Sn),h⟩
              ·rintro env pv hp ⟨x10,x23,k11,he,hv,h⟩
               refine Ae ?_ (r4 2 7 9 10 (rp 11 11 0 (r1 23 Rn))) he hv
               unfold F16_j10 at h
               refine Ar (F16_r15 rfl) ?_ (r1 7 (rp 11 11 0 (r4 23 2 9 10 Rn))) (z6 Sn) (z1 Sn)
               refine mV h fun v33 h=>ms h fun s34 h=>mC h fun u35 h36 h=>mI h fun i37 h=>?_
               refine Ac h rfl (fun h=>?_) (fun h=>?_)
               ·refine Ar F16_r16 ?_ Rn Sn Sn
                refine AWP.ret ?_
                exact h
               ·refine AWP.skip ?_
                exact ⟨_,(z4 Sn),Sn,h⟩
         ·rintro env pv hp ⟨x10,he,hv,h⟩
          refine Ae ?_ (r4 2 7 9 10 Rn) he hv
          unfold F16_j6 at h
          refine Ag F16_r9 ?_ (r4 10 2 7 9 Rn) (z4 Sn) Sn
          exact ⟨_,(z4 Sn),Sn,h⟩
        ·refine AWP.exit ?_
         exact ⟨Sn,Sn,h⟩
      ·rintro env pv hp ⟨he,hv,h⟩
       refine Ae ?_ Rn he hv
       unfold F16_j3 at h
       refine Ar F16_r7 ?_ Rn Sn Sn
       refine mC h fun u17 h18 h=>mB h fun q19 h=>?_
       refine AWP.ret ?_
       exact h
end
end Go.Proofs
set_option linter.unusedVariables false
set_option maxRecDepth 20000
namespace Go.Proofs
open Go Go.HL
theorem HSub.less (hp:HP) (b:Nat):HSub (hp.set b .none) hp:=fun x=>by
  by_cases hx:x=b
  · subst hx; left; rw [HP.set_eq]
  · right; rw [HP.set_ne _ _ hx]
section
variable {hp hp':HP} {K:Value→HP→Prop} {w:Nat} {max source:Int} {L L' L1:List PD} {s:Option Addr} {n c b b2:Nat} {xs:List Value} {x:PD} {p:Pc}
theorem C64 {k h d:ByteArray} {m:Int} (hK:K (.bool true) hp):CF Try.prog 64 [.agg ⟨wh k h d m⟩,.agg ⟨wh k h d m⟩] hp K:=by
  refine F64_ok _ _ hp K ?_
  unfold F64
  have k0:(wh k h d m)[0]?=some (.string k):=rfl
  have k1:(wh k h d m)[1]?=some (.string h):=rfl
  have k2:(wh k h d m)[2]?=some (.string d):=rfl
  have k3:(wh k h d m)[3]?=some (.int .i64 m):=rfl
  simp only [k0,k1,k2,k3,ldV_some,strV_string,intV_int,str_eq,decide_true,ite2_true,BEq.rfl]
  exact hK
theorem RefS.less (h:RefS hp hp' w max source L L'):HSub (hp.set w .none) hp':=by
  rcases h with ⟨_,hs⟩ | ⟨s,c,_,_,h3⟩
  · exact (HSub.less hp w).trans hs
  · exact (h3 _ (HSub.less hp w) (HP.set_eq ..)).1
theorem RefS.row {e:TypeId} {size:Nat} (h:RefS hp hp' w max source L L') (hr:RefR hp w max source L) (he:e≠106) (hrow:Row hp s n c e size xs):Row hp' s n c e size xs:=by
  rcases hrow with g | ⟨b,rfl,g1,g2,g3⟩
  · exact .inl g
  · obtain ⟨_,_,hw,_⟩:=hr
    have hne:b≠w:=fun e'=>by
      rw [e',hw] at g3
      exact he (Ent.cells.inj g3).1.symm
    refine .inr ⟨b,rfl,g1,g2,h.less.cells ?_⟩
    rw [HP.set_ne _ _ hne]; exact g3
theorem RefS.beside {hp1 hp5:HP} (h:RefS hp hp1 w max source L L1) (hrow:Row hp1 s n c 114 4 xs) (hfr:∀ b,s=some ⟨b,0,none⟩→hp b=.none)
    (hf:∀ h0,HSub h0 hp1→(∀ b,s=some ⟨b,0,none⟩→h0 b=.none)→HSub h0 hp5):RefS hp hp5 w max source L L1:=by
  rcases h with ⟨rfl,hs⟩ | ⟨sd,cd,e1,e2,e3⟩
  · exact .inl ⟨rfl,hf hp hs hfr⟩
  · rcases hrow with ⟨rfl,_⟩ | ⟨bs,rfl,_,_,gb⟩
    · have:=hf hp1 (HSub.refl _) (fun b e=>by cases e)
      exact .inr ⟨sd,cd,this.cells e1,e2.sub this,fun h0 g1 g2=>⟨(e3 h0 g1 g2).1.trans this,(e3 h0 g1 g2).2⟩⟩
    · have hw:w≠bs:=fun e=>by rw [e,gb] at e1; cases e1
      have:=hf _ (HSub.less hp1 bs) (fun b e=>by cases e; exact HP.set_eq ..)
      have e1':(hp1.set bs .none) w=.cells 106 (rfc max source sd L1.length cd) 0:=by rw [HP.set_ne _ _ hw]; exact e1
      have e2':Row (hp1.set bs .none) sd L1.length cd 118 7 (L1.flatMap pdc):=by
        rcases e2 with g | ⟨b',rfl,g1,g2,g3⟩
        · exact .inl g
        · exact .inr ⟨b',rfl,g1,g2,by rw [HP.set_ne _ _ (fun e=>by rw [e,gb] at g3; cases g3)]; exact g3⟩
      exact .inr ⟨sd,cd,this.cells e1',e2'.sub this,fun h0 g1 g2=>⟨hf h0 (e3 h0 g1 g2).1 (fun b e=>g1.none (hfr b e)),(e3 h0 g1 g2).2⟩⟩
theorem keysD_len:∀ M:List PD,(keysD M).length≤M.length:=fun M=>by
  induction M using snoc_ind with
  | h0=>exact Nat.le_refl _
  | h1 l x ih=>
    rw [keysD_snoc,List.length_append,List.length_singleton]
    split
    · omega
    · rw [List.length_append,List.length_singleton]; omega
theorem of_ne {k:ByteArray} (h:k∈keysD L):0<(ofL k L).length:=by
  obtain ⟨y,hy,e⟩:=mem_keysD.1 h
  refine List.length_pos_iff.2 fun h0=>?_
  have:y∈ofL k L:=List.mem_filter.2 ⟨hy,by simpa using e⟩
  rw [h0] at this; cases this
set_option maxHeartbeats 2000000 in
theorem C63 {now:Int} (hr:RefR hp w max source L) (hL:L.length≤90000)
    (hK:∀ hp' L' (out:List (List Value)) (s:Option Addr) (c:Nat),PopD now L out L'→RefS hp hp' w max source L L'→Row hp' s out.length c 114 4 (out.flatMap fun x=>x)→K (.slice s out.length c) hp') :
    CF Try.prog 63 [ptr w 0,.int .i64 now] hp K:=by
  refine F63_ok _ now hp K ?_
  unfold F63 F63_j1
  refine LoopP.by (J:=fun r (y:Option Addr × Nat × Nat) hp'=>∃ (o:List (List Value)) (L1:List PD),L1.length≤r∧o.length+L1.length≤L.length∧RefS hp hp' w max source L L1∧y.2.1=o.length∧Row hp' y.1 y.2.1 y.2.2 114 4 (o.flatMap fun x=>x)∧(∀ b,y.1=some ⟨b,0,none⟩→hp b=.none)∧∀ out2 L2,PopD now L1 out2 L2→PopD now L (o++out2) L2) ?_
    (n:=L.length) ⟨[],L,Nat.le_refl _,by simp,.inl ⟨rfl,HSub.refl _⟩,rfl,.inl ⟨rfl,rfl,rfl,rfl⟩,fun b e=>(by cases e),fun _ _ h=>h⟩
  rintro I r ⟨s,n,c⟩ hp1 ⟨o,L1,hr1,ho,hst,hn,hrow,hfr,hpop⟩ hgo
  simp only at hn hrow hfr
  subst hn
  unfold F63_l2
  simp only []
  have ref1:=hst.ref hr
  refine C69 ref1 (by omega) ?_
  intro hp2 sk ck hs2 hrk
  rw [slcV_slice]
  have ref2:=ref1.sub hs2
  have hkl:=keysD_len L1
  have hdl:(duesD L1).length=(keysD L1).length:=by unfold duesD; simp
  unfold F63_j8
  refine LoopP.by (J:=fun r2 (y:ByteArray × Int × Bool × Int) hp'=>∃ i:Nat,y.2.2.2=i∧i+r2=(keysD L1).length∧HSub hp2 hp'∧pickD now ((duesD L1).take i) none=if y.2.2.1=true then some (y.1,y.2.1) else none) ?_
    (n:=(keysD L1).length) ⟨0,rfl,by omega,HSub.refl _,rfl⟩
  rintro I2 r2 ⟨x7,x8,x9,y⟩ hp3 ⟨i,hy,hir,hs3,hpk⟩ hgo2
  simp only at hy hpk
  subst hy
  unfold F63_l9
  simp only []
  by_cases hi:i<(keysD L1).length
  · rw [decide_eq_true (by omega:(i:Int)<(((keysD L1).length:Nat):Int)),ite2_true]
    obtain ⟨bk,ok,hak,hgk⟩:=Shows.get (size:=1) (enc:=fun k:ByteArray=>[sw k]) (hrk.sub hs3).shows (fun _=>rfl) rfl hi
    have gk:=HP.cell_cellN (j:=0) hgk rfl
    rw [Nat.add_zero] at gk
    subst hak
    have hmem:(keysD L1)[i]∈keysD L1:=List.getElem_mem hi
    have hdi:(duesD L1)[i]'(by omega)=((keysD L1)[i],dueD (keysD L1)[i] L1 0):=by unfold duesD; simp
    have hsn:pickD now ((duesD L1).take (i+1)) none=if dueD (keysD L1)[i] L1 0≤now∧sooner ((keysD L1)[i],dueD (keysD L1)[i] L1 0) (if x9=true then some (x7,x8) else none)=true then some ((keysD L1)[i],dueD (keysD L1)[i] L1 0) else (if x9=true then some (x7,x8) else none):=by
      rw [List.take_succ_eq_append_getElem (by omega),pick_app,hpk,hdi]
      rfl
    have gk4:∀ hp4,HSub hp3 hp4→hp4.cell bk (ok+i*1)=some (.string (keysD L1)[i]):=fun hp4 hs4=>by
      obtain ⟨bk',ok',hak',hgk'⟩:=Shows.get (size:=1) (enc:=fun k:ByteArray=>[sw k]) (hrk.sub (hs3.trans hs4)).shows (fun _=>rfl) rfl hi
      have gk':=HP.cell_cellN (j:=0) hgk' rfl
      rw [Nat.add_zero] at gk'
      cases hak'
      exact gk'
    generalize (keysD L1)[i]=kk at *
    simp only [ptrN_some,Int.toNat_natCast,gk4 hp3 (HSub.refl _),ldV_some,strV_string]
    refine ⟨by omega,by omega,?_⟩
    refine C111 (ref2.sub hs3) (by omega) ?_
    intro hp4 s4 c4 hs4 hr4
    rw [slcV_slice]
    have hl0:=of_ne hmem
    obtain ⟨b,o2,hao,hg⟩:=hr4.shows.get pdc_len rfl hl0
    have g6:hp4.cell b (o2+0*7+6)=some (.int .i64 (ofL kk L1)[0].2):=HP.cell_cellN (j:=6) hg rfl
    have ht:(ofL kk L1)[0].2=dueD kk L1 0:=by
      unfold dueD
      generalize ofL kk L1=l at *
      cases l with
      | nil=>exact absurd hl0 (by decide)
      | cons a l=>rfl
    rw [ht] at g6
    subst hao
    clear ht hg
    generalize dueD kk L1 0=t at *
    have t0:Int.toNat 0=0:=rfl
    have w1:IntKind.wrap .i64 ((i:Int)+1)=((i+1:Nat):Int):=wiN (by omega) (by omega)
    have j11:∀ q:Bool,(q=true↔(t≤now∧sooner (kk,t) (if x9=true then some (x7,x8) else none)=true))→F63_j11 (some ⟨w,0,none⟩) now s o.length c (some ⟨bk,ok,none⟩) (keysD L1).length ck x7 x8 x9 i (some ⟨b,o2,none⟩) (ofL kk L1).length c4 q hp4 I I2 K:=by
      intro q hq
      unfold F63_j11
      cases q
      · rw [ite2_false]
        unfold F63_j10
        rw [w1]
        refine hgo2 (r2-1) _ _ (by omega) ⟨i+1,rfl,by omega,hs3.trans hs4,?_⟩
        rw [hsn,if_neg (fun h=>by cases hq.2 h)]
      · rw [ite2_true]
        simp only [ptrN_some,Int.toNat_natCast,gk4 hp4 hs4,t0,g6,ldV_some,strV_string,intV_int]
        refine ⟨by omega,by omega,by omega,by omega,?_⟩
        unfold F63_j10
        rw [w1]
        refine hgo2 (r2-1) _ _ (by omega) ⟨i+1,rfl,by omega,hs3.trans hs4,?_⟩
        rw [hsn,if_pos (hq.1 rfl)]
        rfl
    simp only [ptrN_some,t0,g6,ldV_some,intV_int]
    refine ⟨by omega,by omega,?_⟩
    by_cases ht:t≤now
    rotate_left
    · rw [decide_eq_false ht,ite2_false]
      exact j11 false ⟨fun h=>(by cases h),fun h=>absurd h.1 ht⟩
    rw [decide_eq_true ht,ite2_true]
    cases x9
    · rw [Bool.not_false,ite2_true]
      exact j11 true ⟨fun _=>⟨ht,rfl⟩,fun _=>rfl⟩
    · rw [Bool.not_true,ite2_false]
      exact ⟨by omega,by omega,j11 _ ⟨fun h=>⟨ht,h⟩,fun h=>h.2⟩⟩
  rw [decide_eq_false (by omega:¬ (i:Int)<(((keysD L1).length:Nat):Int)),ite2_false]
  rw [List.take_of_length_le (by omega)] at hpk
  clear hgo2
  unfold F63_j3
  cases x9
  · rw [Bool.not_false,ite2_true]
    have:=hpop [] L1 (.stop hpk)
    rw [List.append_nil] at this
    exact hK hp3 L1 o s c this (hst.trans (.inl ⟨rfl,hs2.trans hs3⟩)) (hrow.sub (hs2.trans hs3))
  rw [Bool.not_true,ite2_false]
  have hpk':pickD now (duesD L1) none=some (x7,x8):=hpk
  have hmem:x7∈keysD L1:=by
    rcases pick_mem hpk' with e | ⟨e,_⟩
    · cases e
    · unfold duesD at e
      obtain ⟨k,hk,e⟩:=List.mem_map.1 e
      cases e; exact hk
  have hlen:(ofL x7 L1).length+(offL x7 L1).length=L1.length:=by rw [← List.length_append]; exact of_off_perm.length_eq
  have hpos:=of_ne hmem
  refine C111 (ref2.sub hs3) (by omega) ?_
  intro hp4 s4 c4 hs4 hr4
  rw [slcV_slice]
  have hs14:HSub hp1 hp4:=(hs2.trans hs3).trans hs4
  unfold F63_j5
  refine LoopP.by (J:=fun r3 (y:ByteArray × Int) hp'=>hp'=hp4∧∃ k:Nat,y.2=k∧k+r3=(ofL x7 L1).length∧y.1=headD (((ofL x7 L1).map (·.1)).take k)) ?_ (n:=(ofL x7 L1).length) ⟨rfl,0,rfl,by omega,rfl⟩
  rintro I3 r3 ⟨x13,y⟩ hp5 ⟨rfl,k,hy,hkr,hx13⟩ hgo3
  simp only at hy hx13
  subst hy hx13
  unfold F63_l6
  simp only []
  by_cases hk:k<(ofL x7 L1).length
  · rw [decide_eq_true (by omega:(k:Int)<(((ofL x7 L1).length:Nat):Int)),ite2_true]
    obtain ⟨b,o2,hao,hg⟩:=hr4.shows.get pdc_len rfl hk
    have g2:hp5.cell b (o2+k*7+2)=some (.int .i64 (ofL x7 L1)[k].1.at_):=HP.cell_cellN (j:=2) hg rfl
    have g5:hp5.cell b (o2+k*7+5)=some (.string (ofL x7 L1)[k].1.head):=HP.cell_cellN (j:=5) hg rfl
    have hhd:headD (((ofL x7 L1).map (·.1)).take (k+1))=if (ofL x7 L1)[k].1.at_=0 then (ofL x7 L1)[k].1.head else headD (((ofL x7 L1).map (·.1)).take k):=by
      unfold headD
      rw [List.take_succ_eq_append_getElem (by rw [List.length_map]; omega),List.foldl_append]
      simp
    have w1:IntKind.wrap .i64 ((k:Int)+1)=((k+1:Nat):Int):=wiN (by omega) (by omega)
    subst hao
    simp only [ptrN_some,Int.toNat_natCast,g2,g5,ldV_some,intV_int,strV_string]
    refine ⟨by omega,by omega,?_⟩
    unfold F63_j7
    rw [w1]
    by_cases ha:(ofL x7 L1)[k].1.at_=0
    · have e:((ofL x7 L1)[k].1.at_==0)=true:=by simpa using ha
      rw [e,ite2_true]
      rw [if_pos ha] at hhd
      exact ⟨by omega,by omega,hgo3 (r3-1) _ _ (by omega) ⟨rfl,k+1,rfl,by omega,hhd.symm⟩⟩
    · have e:((ofL x7 L1)[k].1.at_==0)=false:=by simpa using ha
      rw [e,ite2_false]
      rw [if_neg ha] at hhd
      exact hgo3 (r3-1) _ _ (by omega) ⟨rfl,k+1,rfl,by omega,hhd.symm⟩
  rw [decide_eq_false (by omega:¬ (k:Int)<(((ofL x7 L1).length:Nat):Int)),ite2_false]
  rw [List.take_of_length_le (by rw [List.length_map]; omega)]
  clear hgo3 hkr hk
  unfold F63_j4
  refine ifI rfl ?_
  intro b3 hb3
  have hz:splice [(Value.string ⟨#[]⟩),(Value.string ⟨#[]⟩),(Value.string ⟨#[]⟩),(Value.int .i64 0)] 0 [(Value.string x7),(Value.string (headD ((ofL x7 L1).map (·.1)))),(Value.string ⟨#[]⟩),(Value.int .i64 ((ofL x7 L1).length:Nat))]=wh x7 (headD ((ofL x7 L1).map (·.1))) e0s (ofL x7 L1).length:=splice_all rfl
  rw [hz]
  generalize hwh:wh x7 (headD ((ofL x7 L1).map (·.1))) e0s (ofL x7 L1).length=wx at *
  have wlen:wx.length=4:=by rw [← hwh]; rfl
  have wone:wx.all one=true:=by rw [← hwh]; rfl
  have s3:=HSub.set_fresh hp5 (.cells 114 wx 0) hb3
  have st6:RefS hp (hp5.set b3 (.cells 114 wx 0)) w max source L L1:=hst.trans (.inl ⟨rfl,hs14.trans s3⟩)
  have row6:=hrow.sub (hs14.trans s3)
  refine opS_appF (e:=114) (size:=4) (bytes:=56) (by kernel_rfl) row6 (.inr ⟨b3,0,rfl,by rw [HP.cellN_of (HP.set_eq ..)]; exact cellsN_all wlen⟩) wone (by omega) (by omega) ?_
  intro s7 c7 hp7 row7 hf7
  rw [slcV_slice]
  have st7:RefS hp hp7 w max source L L1:=st6.beside row6 hfr fun h0 g1 g2=>(hf7 h0 g1 g2).1
  have ref7:=st7.ref hr
  have hfr7:∀ b,s7=some ⟨b,0,none⟩→hp b=.none:=fun b e=>by
    obtain ⟨_,k2⟩:=hf7 (hp.set w .none) st6.less (fun b' e'=>by
      by_cases hb:b'=w
      · rw [hb,HP.set_eq]
      · rw [HP.set_ne _ _ hb]; exact hfr b' e')
    have hb:=k2 b e
    by_cases hbw:b=w
    · exfalso
      obtain ⟨_,_,hw7,_⟩:=ref7
      rcases row7 with ⟨g,_⟩ | ⟨b',g,_,_,g3⟩
      · rw [g] at e; cases e
      · rw [g] at e; cases e
        rw [hbw,hw7] at g3; cases g3
    · rwa [HP.set_ne _ _ hbw] at hb
  refine C112 ref7 (by omega) ?_
  intro hp8 hs8
  have e2:(o.flatMap fun x=>x)++wx=(o++[wx]).flatMap fun x=>x:=by rw [List.flatMap_append]; simp
  have e3:o.length+1=(o++[wx]).length:=by simp
  rw [e2,e3] at row7
  rw [e3]
  refine hgo (offL x7 L1).length _ _ (by omega) ⟨o++[wx],offL x7 L1,Nat.le_refl _,by rw [← e3]; omega,st7.trans hs8,rfl,hs8.row ref7 (by decide) row7,hfr7,fun out2 L2 h=>?_⟩
  have:=hpop (wx::out2) L2 (by rw [← hwh]; exact .step x7 x8 hpk' h)
  rw [List.append_assoc]
  exact this
end
end Go.Proofs
set_option linter.unusedVariables false
set_option maxRecDepth 20000
namespace Go.Proofs
open Go Go.HL
section
variable {e E:Env} {x0a:OA} {x0n x0c:Nat} {x3:Int} {k4:List Value} {hp:HP} {K:Env→PV→HP→Prop}
abbrev R61 (p n:Nat):=RW Try.prog 41 [4,19,24,30,36] (opsAt Try.f61 (pth p)) (List.range n)
theorem F61_r0:R61 2 1 e V0 hp K=
 K (upd e 2 (sB false)) V0 hp:= by kernel_rfl
theorem F61_r1:R61 9 3 (upd e 0 (sS x0a x0n x0c)) V0 hp K=
 K (w4 e 0 (sS x0a x0n x0c) 5 (sS x0a x0n x0c) 6 (sI ((x0n:Nat))) 7 (sB ((decide (((x0n:Nat):Int) > 150))))) V0 hp:= by kernel_rfl
theorem F61_r2:R61 37 1 e V0 hp K=
 K (upd e 2 (sB true)) V0 hp:= by kernel_rfl
theorem F61_r3:R61 267 4 (w2 e 3 (sI x3) 0 (sS x0a x0n x0c)) V0 hp K=
 K (w6 e 3 (sI x3) 0 (sS x0a x0n x0c) 8 (sI x3) 9 (sS x0a x0n x0c) 10 (sI ((x0n:Nat))) 11 (sB ((decide (x3<x0n))))) V0 hp:= by kernel_rfl
theorem F61_r4:R61 1099 7 (w2 e 3 (sI x3) 0 (sS x0a x0n x0c)) V0 hp K=
    ((0≤x3)∧(x3<x0n)∧(ptrN x0a fun b1 o2=>ldL (HP.cellN hp b1 ((o2+Int.toNat x3*8)+1) 6) fun l3=>if List.length l3=6 then (if List.all l3 one=true then (if 0+List.length l3≤List.length [(Value.string ⟨#[]⟩),.string ⟨#[]⟩,.int .i64 0,.bool false,.string ⟨#[]⟩,.string ⟨#[]⟩] then (K (w8 e 3 (sI x3) 0 (sS x0a x0n x0c) 14 (sS x0a x0n x0c) 15 (sI x3) 16 (sQ b1 (o2+Int.toNat x3*8)) 17 (sQ b1 ((o2+Int.toNat x3*8)+1)) 18 (sA l3) 4 (sR 4 0)) (w2 V0 4 (29,[.string ⟨#[]⟩,.string ⟨#[]⟩,.int .i64 0,.bool false,.string ⟨#[]⟩,.string ⟨#[]⟩]) 4 (29,(splice [.string ⟨#[]⟩,.string ⟨#[]⟩,.int .i64 0,.bool false,.string ⟨#[]⟩,.string ⟨#[]⟩] 0 l3))) hp) else False) else False) else False)):=by kernel_rfl
theorem F61_r5:R61 9803 1 e V0 hp K=
 K (upd e 2 (sB true)) V0 hp:= by kernel_rfl
theorem F61_r6:R61 459 3 (upd e 3 (sI x3)) V0 hp K=
 K (w4 e 3 (sI x3) 12 (sI x3) 13 (sI ((wr (x3+1)))) 3 (sI ((wr (x3+1))))) V0 hp:= by kernel_rfl
def F61_j3 (x0a:OA) (x0n x0c:Nat) (x3:Int) (x40:Bool) (hp:HP) (I2:(Int)→HP→Prop) (K:Kh):Prop:=
  (ite2 x40 (K (.bool true) hp) (I2 (IntKind.wrap .i64 (x3+1)) hp))
theorem F61_r7 (h:E=upd e 4 (sR 4 0)):R61 2635 22 E (upd V0 4 (29,k4)) hp K=
 ldV (k4)[0]? fun v1=>(strV v1 fun s2=>ite2 (decide (((ByteArray.size s2:Nat):Int) > 50)) (K (w6 (w8 (w8 E 19 (sR 4 0) 20 (sT s2) 21 (sI ((ByteArray.size s2:Nat))) 22 (sB ((decide (((ByteArray.size s2:Nat):Int) > 50)))) 23 (sB true) 24 sU 25 sU 26 sU) 27 sU 28 (sB true) 29 (sB true) 30 sU 31 sU 32 sU 33 sU 34 (sB true)) 35 (sB true) 36 sU 37 sU 38 sU 39 sU 40 (sB true)) (upd V0 4 (29,k4)) hp) (ldV (k4)[1]? fun v3=>strV v3 fun s4=>ite2 (decide (((ByteArray.size s4:Nat):Int) > 50)) (K (w6 (w8 (w8 E 19 (sR 4 0) 20 (sT s2) 21 (sI ((ByteArray.size s2:Nat))) 22 (sB ((decide (((ByteArray.size s2:Nat):Int) > 50)))) 23 (sB false) 24 (sR 4 1) 25 (sT s4) 26 (sI ((ByteArray.size s4:Nat)))) 27 (sB ((decide (((ByteArray.size s4:Nat):Int) > 50)))) 28 (sB ((decide (((ByteArray.size s4:Nat):Int) > 50)))) 29 (sB true) 30 sU 31 sU 32 sU 33 sU 34 (sB true)) 35 (sB true) 36 sU 37 sU 38 sU 39 sU 40 (sB true)) (upd V0 4 (29,k4)) hp) (ldV (k4)[5]? fun v5=>strV v5 fun s6=>ite2 (decide (((ByteArray.size s6:Nat):Int) > 50)) (K (w6 (w8 (w8 E 19 (sR 4 0) 20 (sT s2) 21 (sI ((ByteArray.size s2:Nat))) 22 (sB ((decide (((ByteArray.size s2:Nat):Int) > 50)))) 23 (sB false) 24 (sR 4 1) 25 (sT s4) 26 (sI ((ByteArray.size s4:Nat)))) 27 (sB ((decide (((ByteArray.size s4:Nat):Int) > 50)))) 28 (sB ((decide (((ByteArray.size s4:Nat):Int) > 50)))) 29 (sB false) 30 (sR 4 5) 31 (sT s6) 32 (sI ((ByteArray.size s6:Nat))) 33 (sB ((decide (((ByteArray.size s6:Nat):Int) > 50)))) 34 (sB ((decide (((ByteArray.size s6:Nat):Int) > 50))))) 35 (sB true) 36 sU 37 sU 38 sU 39 sU 40 (sB true)) (upd V0 4 (29,k4)) hp) (ldV (k4)[4]? fun v7=>strV v7 fun s8=>K (w6 (w8 (w8 E 19 (sR 4 0) 20 (sT s2) 21 (sI ((ByteArray.size s2:Nat))) 22 (sB ((decide (((ByteArray.size s2:Nat):Int) > 50)))) 23 (sB false) 24 (sR 4 1) 25 (sT s4) 26 (sI ((ByteArray.size s4:Nat)))) 27 (sB ((decide (((ByteArray.size s4:Nat):Int) > 50)))) 28 (sB ((decide (((ByteArray.size s4:Nat):Int) > 50)))) 29 (sB false) 30 (sR 4 5) 31 (sT s6) 32 (sI ((ByteArray.size s6:Nat))) 33 (sB ((decide (((ByteArray.size s6:Nat):Int) > 50)))) 34 (sB ((decide (((ByteArray.size s6:Nat):Int) > 50))))) 35 (sB false) 36 (sR 4 4) 37 (sT s8) 38 (sI ((ByteArray.size s8:Nat))) 39 (sB ((decide (((ByteArray.size s8:Nat):Int) > 300)))) 40 (sB ((decide (((ByteArray.size s8:Nat):Int) > 300))))) (upd V0 4 (29,k4)) hp)))):= by subst h; kernel_rfl
theorem F61_r8:R61 23 1 e V0 hp K=
 K (upd e 2 (sB false)) V0 hp:= by kernel_rfl
def F61_l2 (x0a:OA) (x0n x0c:Nat) (K:Kh) (I2:(Int)→HP→Prop) (x3:Int) (hp:HP):Prop:=
  (ite2 (decide (x3<x0n)) ((0≤x3)∧(x3<x0n)∧(ptrN x0a fun b1 o2=>ldL (HP.cellN hp b1 ((o2+Int.toNat x3*8)+1) 6) fun l3=>if List.length l3=6 then (if List.all l3 one=true then (if 0+List.length l3≤List.length [(Value.string ⟨#[]⟩),.string ⟨#[]⟩,.int .i64 0,.bool false,.string ⟨#[]⟩,.string ⟨#[]⟩] then (ldV ((splice [.string ⟨#[]⟩,.string ⟨#[]⟩,.int .i64 0,.bool false,.string ⟨#[]⟩,.string ⟨#[]⟩] 0 l3))[0]? fun v4=>strV v4 fun s5=>ite2 (decide (((ByteArray.size s5:Nat):Int) > 50)) (F61_j3 x0a x0n x0c x3 true hp I2 K) (ldV ((splice [.string ⟨#[]⟩,.string ⟨#[]⟩,.int .i64 0,.bool false,.string ⟨#[]⟩,.string ⟨#[]⟩] 0 l3))[1]? fun v6=>strV v6 fun s7=>ite2 (decide (((ByteArray.size s7:Nat):Int) > 50)) (F61_j3 x0a x0n x0c x3 true hp I2 K) (ldV ((splice [.string ⟨#[]⟩,.string ⟨#[]⟩,.int .i64 0,.bool false,.string ⟨#[]⟩,.string ⟨#[]⟩] 0 l3))[5]? fun v8=>strV v8 fun s9=>ite2 (decide (((ByteArray.size s9:Nat):Int) > 50)) (F61_j3 x0a x0n x0c x3 true hp I2 K) (ldV ((splice [.string ⟨#[]⟩,.string ⟨#[]⟩,.int .i64 0,.bool false,.string ⟨#[]⟩,.string ⟨#[]⟩] 0 l3))[4]? fun v10=>strV v10 fun s11=>F61_j3 x0a x0n x0c x3 (decide (((ByteArray.size s11:Nat):Int) > 300)) hp I2 K)))) else False) else False) else False)) (K (.bool false) hp))
def F61_j1 (x0a:OA) (x0n x0c:Nat) (x3:Int) (hp:HP) (K:Kh):Prop:=
  (LoopP (σ:=Int) (fun I s hp=>F61_l2 x0a x0n x0c  K I s hp) x3 hp)
theorem F61_r9:R61 19 1 e V0 hp K=
 K (upd e 3 (sI 0)) V0 hp:= by kernel_rfl
def F61 (x0a:OA) (x0n x0c:Nat) (hp:HP) (K:Kh):Prop:=
  (ite2 (decide (((x0n:Nat):Int) > 150)) (K (.bool true) hp) (F61_j1 x0a x0n x0c 0 hp  K))
noncomputable abbrev o61 (k n:Nat):Code:=.region k (opsAt Try.f61 (pth n)) false
noncomputable def F61_code:Code:=(.seq (o61 0 2) (.seq (.seq (o61 1 9) (.cond (.tmp 7) (.seq (o61 2 37) .ret) .skip)) (.seq (.seq (o61 3 19) (.block 0 (.loop (.seq (.seq (o61 4 267) (.cond (.tmp 11) .skip (.exit 0))) (.seq (.block 1 (.seq (o61 6 1099) (.seq (o61 7 2635) (.cond (.tmp 40) (.seq (o61 8 9803) .ret) .skip)))) (o61 5 459)))))) (.seq (o61 9 23) .ret))))
theorem F61_body:Try.f61.body=some F61_code:=by kernel_rfl
theorem F61_ok (x0a:OA) (x0n x0c:Nat) (hp:HP) (K:Kh) (h:F61 x0a x0n x0c hp K):CF Try.prog 61 [(.slice x0a x0n x0c)] hp K:=by
 refine .inl ⟨by kernel_rfl,AC.intro (N:=41) Try.func61 F61_body rfl (Nat.le_of_ble_eq_true rfl) ?_⟩
 unfold F61 at h
 refine Ar F61_r0 ?_ (r1 0 Rn) (z1 Sn) Sn
 refine Aq (Ar F61_r1 ?_ (r1 0 Rn) (z1 Sn) Sn)
 refine Ac h rfl (fun h=>?_) (fun h=>?_)
 ·refine Ar F61_r2 ?_ Rn Sn Sn
  refine AWP.ret ?_
  exact h
 ·refine AWP.skip (Aq (As (fun env pv hp=>∃ x0a x0n x0c x3,Sub (w2 E0 3 (sI x3) 0 (sS x0a x0n x0c)) env∧Sub V0 pv∧F61_j1 x0a x0n x0c x3 hp  K) ?_ ?_))
  ·refine Ag F61_r9 ?_ (r1 0 Rn) (z1 Sn) Sn
   exact ⟨_,_,_,_,(z2 Sn),Sn,h⟩
  ·rintro env pv hp ⟨x0a,x0n,x0c,x3,he,hv,h⟩
   refine Ae ?_ (r2 0 3 Rn) he hv
   unfold F61_j1 at h
   refine AWP.block (AWP.loop (σ:=Int) _ (fun s=>w2 E0 3 (sI s) 0 (sS x0a x0n x0c)) (fun s=>V0) x3 h (fun s=>r2 0 3 Rn) (z2 Sn) Sn ?_)
   intro I2 x3 hp h
   replace h:F61_l2 x0a x0n x0c  K I2 x3 hp:=h
   unfold F61_l2 at h
   refine Aq (Ar F61_r3 ?_ (r2 0 3 Rn) (z2 Sn) Sn)
   refine Ac h rfl (fun h=>?_) (fun h=>?_)
   ·refine AWP.skip (Aq (AWP.block (Ar F61_r4 ?_ (r2 0 3 Rn) (z2 Sn) Sn)))
    refine ⟨h.1,h.2.1,mN h.2.2 fun b1 o2 h=>mL h fun l3 h=>mf h fun h=>mf h fun h=>mf h fun h=>?_⟩
    refine As (fun env pv hp=>∃ x3 x40,Sub (w3 E0 40 (sB x40) 3 (sI x3) 0 (sS x0a x0n x0c)) env∧Sub V0 pv∧F61_j3 x0a x0n x0c x3 x40 hp I2 K) ?_ ?_
    ·refine Ag (F61_r7 rfl) ?_ (rp 4 4 0 (r2 0 3 Rn)) (z3 Sn) (z1 Sn)
     refine mV h fun v4 h=>ms h fun s5 h=>?_
     refine mt h (fun h=>?_) (fun h=>?_)
     ·exact ⟨_,_,(z3 Sn),Sn,h⟩
     ·refine mV h fun v6 h=>ms h fun s7 h=>?_
      refine mt h (fun h=>?_) (fun h=>?_)
      ·exact ⟨_,_,(z3 Sn),Sn,h⟩
      ·refine mV h fun v8 h=>ms h fun s9 h=>?_
       refine mt h (fun h=>?_) (fun h=>?_)
       ·exact ⟨_,_,(z3 Sn),Sn,h⟩
       ·refine mV h fun v10 h=>ms h fun s11 h=>?_
        exact ⟨_,_,(z3 Sn),Sn,h⟩
    ·rintro env pv hp ⟨x3,x40,he,hv,h⟩
     refine Ae ?_ (r3 0 3 40 Rn) he hv
     unfold F61_j3 at h
     refine Ac h rfl (fun h=>?_) (fun h=>?_)
     ·refine Ar F61_r5 ?_ Rn Sn Sn
      refine AWP.ret ?_
      exact h
     ·refine AWP.skip (Ag F61_r6 ?_ (r2 3 0 Rn) (z2 Sn) Sn)
      exact ⟨_,(z2 Sn),Sn,h⟩
   ·refine AWP.exit ?_
    refine Ar F61_r8 ?_ Rn Sn Sn
    refine AWP.ret ?_
    exact h
end
end Go.Proofs
set_option linter.unusedVariables false
set_option maxRecDepth 20000
namespace Go.Proofs
open Go Go.HL
theorem fdec3 {D:Nat} {cs:List Value} (h:wellS Try.prog D 3 cs=true):∃ n:Int,(-9223372036854775808≤n∧n≤9223372036854775807)∧cs=[.int .i64 n]:=by
  cases D with
  | zero=>cases h
  | succ D=>
    unfold wellS at h
    rw [show Try.prog.underlying 3=some (.int .i64) by kernel_rfl] at h
    simp only at h
    split at h
    · rename_i q n
      simp only [Bool.and_eq_true,decide_eq_true_eq] at h
      obtain ⟨rfl,h⟩:=h
      exact ⟨n,(Lit.wf_int_iff _ _).1 h,rfl⟩
    · cases h
theorem fdec4 {D:Nat} {cs:List Value} (h:wellS Try.prog D 4 cs=true):∃ b:Bool,cs=[.bool b]:=by
  cases D with
  | zero=>cases h
  | succ D=>
    unfold wellS at h
    rw [show Try.prog.underlying 4=some .bool by kernel_rfl] at h
    simp only at h
    split at h
    · exact ⟨_,rfl⟩
    · cases h
theorem fdec9 {D:Nat} {cs:List Value} (h:wellS Try.prog D 9 cs=true):∃ s:ByteArray,cs=[.string s]:=by
  cases D with
  | zero=>cases h
  | succ D=>
    unfold wellS at h
    rw [show Try.prog.underlying 9=some .string by kernel_rfl] at h
    simp only at h
    split at h
    · exact ⟨_,rfl⟩
    · cases h
def okAt (p:Pc):Prop:=-9223372036854775808≤p.at_∧p.at_≤9223372036854775807
theorem dec29:∀ (D:Nat) (cs:List Value),wellS Try.prog D 29 cs=true→∃ p:Pc,okAt p∧cs=pc p:=by
  intro D cs h
  cases D with
  | zero=>cases h
  | succ D=>
    obtain ⟨hl,hf⟩:=wellS_struct (fs0:=[(9,0),(9,1),(3,2),(4,3),(9,4),(9,5)]) (by kernel_rfl) (by simp) h
    rw [show Try.prog.cellsOf 29=6 by kernel_rfl] at hl
    have f0:=hf (9,0) (by simp)
    have f1:=hf (9,1) (by simp)
    have f2:=hf (3,2) (by simp)
    have f3:=hf (4,3) (by simp)
    have f4:=hf (9,4) (by simp)
    have f5:=hf (9,5) (by simp)
    simp only [show Try.prog.cellsOf 9=1 by kernel_rfl,show Try.prog.cellsOf 3=1 by kernel_rfl,show Try.prog.cellsOf 4=1 by kernel_rfl] at f0 f1 f2 f3 f4 f5
    obtain ⟨s0,e0⟩:=fdec9 f0
    obtain ⟨s1,e1⟩:=fdec9 f1
    obtain ⟨n2,hn,e2⟩:=fdec3 f2
    obtain ⟨b3,e3⟩:=fdec4 f3
    obtain ⟨s4,e4⟩:=fdec9 f4
    obtain ⟨s5,e5⟩:=fdec9 f5
    match cs,hl with
    | [c0,c1,c2,c3,c4,c5],_=>
      simp only [List.drop_zero,List.drop_succ_cons,List.take_succ_cons,List.take_zero,List.cons.injEq,and_true] at e0 e1 e2 e3 e4 e5
      subst e0; subst e1; subst e2; subst e3; subst e4; subst e5
      exact ⟨⟨s0,s1,n2,b3,s4,s5⟩,hn,rfl⟩
end Go.Proofs
set_option linter.unusedVariables false
set_option maxRecDepth 20000
namespace Go.Proofs
open Go Go.HL
theorem fdec5 {D:Nat} {cs:List Value} (h:wellS Try.prog D 5 cs=true):∃ n:Int,(0≤n∧n≤255)∧cs=[.int .u8 n]:=by
  cases D with
  | zero=>cases h
  | succ D=>
    unfold wellS at h
    rw [show Try.prog.underlying 5=some (.int .u8) by kernel_rfl] at h
    simp only at h
    split at h
    · rename_i q n
      simp only [Bool.and_eq_true,decide_eq_true_eq] at h
      obtain ⟨rfl,hw⟩:=h
      exact ⟨n,(Go.Lit.wf_int_iff _ _).1 hw,rfl⟩
    · cases h
abbrev A16:=Int × Pc × Int
def a16 (a:A16):List Value:=.int .u8 a.1::(pc a.2.1++[.int .i64 a.2.2])
theorem a16_len (a:A16):(a16 a).length=8:=rfl
theorem a16_one (a:A16):(a16 a).all one=true:=rfl
def okA16 (a:A16):Prop:=(0≤a.1∧a.1≤255)∧okAt a.2.1∧(-9223372036854775808≤a.2.2∧a.2.2≤9223372036854775807)
theorem dec108:∀ (D:Nat) (cs:List Value),wellS Try.prog D 108 cs=true→∃ a:A16,okA16 a∧cs=a16 a:=by
  intro D cs h
  cases D with
  | zero=>cases h
  | succ D=>
    obtain ⟨hl,hf⟩:=wellS_struct (fs0:=flds Try.prog 108) rfl (by rw [show flds Try.prog 108=[(5,0),(29,1),(3,7)] by kernel_rfl]; simp) h
    rw [show flds Try.prog 108=[(5,0),(29,1),(3,7)] by kernel_rfl] at hf
    rw [show Try.prog.cellsOf 108=8 by kernel_rfl] at hl
    have f1:=hf (5,0) (by simp)
    have f2:=hf (29,1) (by simp)
    have f3:=hf (3,7) (by simp)
    simp only [show Try.prog.cellsOf 5=1 by kernel_rfl,show Try.prog.cellsOf 29=6 by kernel_rfl,show Try.prog.cellsOf 3=1 by kernel_rfl] at f1 f2 f3
    obtain ⟨n,hn,e1⟩:=fdec5 f1
    obtain ⟨p,hp,e2⟩:=dec29 _ _ f2
    obtain ⟨x,hx,e3⟩:=fdec3 f3
    match cs,hl with
    | [c0,c1,c2,c3,c4,c5,c6,c7],_=>
      simp only [List.drop_zero,List.take_succ_cons,List.take_zero,List.cons.injEq,and_true] at e1
      simp only [List.drop_succ_cons,List.drop_zero,List.take_succ_cons,List.take_zero] at e2
      simp only [List.drop_succ_cons,List.drop_zero,List.take_succ_cons,List.take_zero,List.cons.injEq,and_true] at e3
      refine ⟨(n,p,x),⟨hn,hp,hx⟩,?_⟩
      subst e1 e3
      show _=_::(pc p++[_])
      rw [← e2]; rfl
section
variable {s:Option Addr} {n c:Nat} {l:List A16} {hp:HP} {K:Value→HP→Prop}
theorem C61 (hs:Shows hp s n 8 (l.flatMap a16)) (hl:l.length=n) (h:∀ b:Bool,(b=false→l.length≤150∧∀ x∈l,x.2.1.data.size≤300)→K (.bool b) hp):CF Try.prog 61 [.slice s n c] hp K:=by
  refine F61_ok s n c hp K ?_
  unfold F61
  have yes:K (.bool true) hp:=h true (fun e=>by cases e)
  by_cases h1:n > 150
  · rw [decide_eq_true (by omega:((n:Nat):Int) > 150),ite2_true]; exact yes
  rw [decide_eq_false (by omega:¬ ((n:Nat):Int) > 150),ite2_false]
  unfold F61_j1
  refine LoopP.by (J:=fun k (x:Int) hp'=>hp'=hp∧∃ i:Nat,x=i∧i+k=n∧∀ x∈l.take i,x.2.1.data.size≤300) ?_ (n:=n) ⟨rfl,0,rfl,by omega,fun x hx=>by simp at hx⟩
  rintro I k x hp' ⟨rfl,i,rfl,hik,hall⟩ hI
  unfold F61_l2
  by_cases hi:i<n
  rotate_left
  · rw [decide_eq_false (by omega:¬ (i:Int)<((n:Nat):Int)),ite2_false]
    rw [List.take_of_length_le (by omega)] at hall
    exact h false fun _=>⟨by omega,hall⟩
  rw [decide_eq_true (by omega:(i:Int)<((n:Nat):Int)),ite2_true]
  obtain ⟨b,o,hao,hc⟩:=hs.get a16_len hl hi
  have hpc:=cellN_cellN (o':=1) (n':=6) hc (by omega)
  have e6:cellsN (a16 (l[i]'(hl▸hi))) 1 6=some (pc (l[i]'(hl▸hi)).2.1):=rfl
  rw [e6] at hpc
  have hz:splice [(Value.string ⟨#[]⟩),(Value.string ⟨#[]⟩),(Value.int .i64 0),(Value.bool false),(Value.string ⟨#[]⟩),(Value.string ⟨#[]⟩)] 0 (pc (l[i]'(hl▸hi)).2.1)=pc (l[i]'(hl▸hi)).2.1:=splice_all rfl
  have k0:∀ p:Pc,(pc p)[0]?=some (.string p.key):=fun _=>rfl
  have k1:∀ p:Pc,(pc p)[1]?=some (.string p.src):=fun _=>rfl
  have k4:∀ p:Pc,(pc p)[4]?=some (.string p.data):=fun _=>rfl
  have k5:∀ p:Pc,(pc p)[5]?=some (.string p.head):=fun _=>rfl
  have w1:IntKind.wrap .i64 ((i:Int)+1)=((i+1:Nat):Int):=wiN (by omega) (by omega)
  simp only [hao,ptrN_some,Int.toNat_natCast,hpc,ldL_some,pc_len,pc_one,if_true,hz,k0,k1,k4,k5,ldV_some,strV_string]
  refine ⟨by omega,by omega,?_⟩
  refine ifI (Nat.le_refl _) ?_
  have no:F61_j3 s n c i true hp' I K:=by unfold F61_j3; rw [ite2_true]; exact yes
  rw [hao] at no
  generalize hx:l[i]'(hl▸hi)=a at *
  by_cases g1:((a.2.1.key.size:Nat):Int) > 50
  · rw [decide_eq_true g1,ite2_true]; exact no
  rw [decide_eq_false g1,ite2_false]
  by_cases g2:((a.2.1.src.size:Nat):Int) > 50
  · rw [decide_eq_true g2,ite2_true]; exact no
  rw [decide_eq_false g2,ite2_false]
  by_cases g3:((a.2.1.head.size:Nat):Int) > 50
  · rw [decide_eq_true g3,ite2_true]; exact no
  rw [decide_eq_false g3,ite2_false]
  by_cases g4:((a.2.1.data.size:Nat):Int) > 300
  · rw [decide_eq_true g4]; exact no
  rw [decide_eq_false g4]
  unfold F61_j3
  rw [ite2_false,w1]
  refine hI (k-1) _ _ (by omega) ⟨rfl,i+1,rfl,by omega,?_⟩
  intro y hy
  rw [List.take_succ_eq_append_getElem (hl▸hi)] at hy
  rcases List.mem_append.1 hy with hy | hy
  · exact hall y hy
  · rw [List.mem_singleton.1 hy,hx]; omega
end
section
variable {hp0 hp:HP} {q m mo:Nat} {S:Stt} {K:Value→HP→Prop}
def whK (x:KD):List Value:=wh x.1 (headQ x.2.l) e0s x.2.l.length
theorem whK_len (x:KD):(whK x).length=4:=rfl
theorem told_flat {now:Int} {kds:List KD}:((toldQ now kds).flatMap fun x=>x)=(kds.filter fun x=>decide (x.2.due≤now)).flatMap whK:=by
  unfold toldQ; rw [List.flatMap_map]; rfl
theorem pop_same {now:Int}:∀ {kds:List KD} {S:Stt},(popS S now kds).max=S.max∧(popS S now kds).source=S.source
  | [],S=>⟨rfl,rfl⟩
  | x::l,S=>by
    unfold popS
    rw [List.foldl_cons]
    by_cases hx:x.2.due≤now
    · rw [if_pos hx]
      have:=pop_same (now:=now) (kds:=l) (S:=cutS S x.1 x.2)
      unfold popS at this; exact this
    · rw [if_neg hx]
      have:=pop_same (now:=now) (kds:=l) (S:=S)
      unfold popS at this; exact this
end
end Go.Proofs
set_option linter.unusedVariables false
set_option maxRecDepth 20000
namespace Go.Proofs
open Go Go.HL
section
variable {hp0 hp hp':HP} {q m mo w:Nat} {max source:Int} {S S':Stt} {L L':List PD} {K:Value→HP→Prop}
def Doc (hp0 hp:HP) (q m mo w:Nat) (max source:Int) (S:Stt) (L:List PD):Prop:=
  hp0 w=.none∧∃ (s:Option Addr) (c:Nat),Bes (hp0.set w (.cells 106 (rfc max source s L.length c) 0)) hp q m mo S 118 7 s L.length c (L.flatMap pdc)
theorem Doc.st (h:Doc hp0 hp q m mo w max source S L):StR hp0 hp q m mo S:=by
  obtain ⟨h1,s,c,h2⟩:=h
  exact h2.st.weak (HSub.set_fresh hp0 _ h1)
theorem Doc.ref (h:Doc hp0 hp q m mo w max source S L):RefR hp w max source L:=by
  obtain ⟨h1,s,c,h2⟩:=h
  exact ⟨s,c,h2.st.1.cells (HP.set_eq ..),h2.row⟩
theorem Doc.sub (h:Doc hp0 hp q m mo w max source S L) (hs:HSub hp hp'):Doc hp0 hp' q m mo w max source S L:=by
  obtain ⟨h1,s,c,h2⟩:=h
  exact ⟨h1,s,c,h2.sub hs⟩
theorem Doc.stp (h:Doc hp0 hp q m mo w max source S L) (hs:Stp q m mo hp S hp' S'):Doc hp0 hp' q m mo w max source S' L:=by
  obtain ⟨h1,s,c,h2⟩:=h
  exact ⟨h1,s,c,h2.stp hs⟩
theorem Doc.more (h:Doc hp0 hp q m mo w max source S L) (hs:∀ h0,StR h0 hp q m mo S→StR h0 hp' q m mo S'):Doc hp0 hp' q m mo w max source S' L:=h.stp hs
theorem Doc.step (h:Doc hp0 hp q m mo w max source S L) (hs:RefS hp hp' w max source L L'):Doc hp0 hp' q m mo w max source S L':=by
  rcases hs with ⟨rfl,hs⟩ | ⟨s',c',e1,e2,e3⟩
  · exact h.sub hs
  obtain ⟨h1,s,c,b1,b2,b3⟩:=h
  obtain ⟨hA,hA1,hA2,hA3⟩:∃ hA,StR hp0 hA q m mo S∧HSub hA hp∧hA w=.none:=by
    rcases b2 with ⟨rfl,_⟩ | ⟨b,rfl,_⟩
    · exact ⟨hp.set w .none,StR.cut b3 (by simp) h1,HSub.less hp w,HP.set_eq ..⟩
    · have k:=StR.cut (R:=hp0.set w (.cells 106 (rfc max source (some ⟨b,0,none⟩) L.length c) 0)) b3 (by simp) (b1 b rfl)
      exact ⟨(hp.set b .none).set w .none,k.cut (by simp) h1,(HSub.less _ w).trans (HSub.less hp b),HP.set_eq ..⟩
  obtain ⟨k1,k2⟩:=e3 hA hA2 hA3
  have g1:StR (hp0.set w (.cells 106 (rfc max source s' L'.length c') 0)) (hA.set w (.cells 106 (rfc max source s' L'.length c') 0)) q m mo S:=hA1.add hA3 (HSub.set_fresh hA _ hA3) (HP.set_eq ..)
  have g2:HSub (hA.set w (.cells 106 (rfc max source s' L'.length c') 0)) hp':=k1.set_of e1
  refine ⟨h1,s',c',?_⟩
  rcases e2 with ⟨rfl,g⟩ | ⟨b,rfl,a1,a2,a3⟩
  · exact ⟨fun b e=>(by cases e),.inl ⟨rfl,g⟩,g1.sub g2⟩
  · have hne:b≠w:=fun e=>by rw [e,e1] at a3; cases a3
    have hb:(hA.set w (.cells 106 (rfc max source (some ⟨b,0,none⟩) L'.length c') 0)) b=.none:=by rw [HP.set_ne _ _ hne]; exact k2 b rfl
    exact ⟨fun b' e=>(by cases e; exact g1.1.none hb),.inr ⟨b,rfl,a1,a2,HP.set_eq ..⟩,g1.add hb g2 a3⟩
theorem off_len (k:ByteArray) (L:List PD):(offL k L).length≤L.length:=List.length_filter_le ..
theorem putD_len {p:Pc} {due:Int}:(putD max source L p due).2.2.2.length≤L.length+1:=by
  unfold putD
  have h1:=off_len p.key L
  have h2:=off_len p.key (L++[(p,dueD p.key L due)])
  rw [List.length_append,List.length_singleton] at h2
  split
  · simp
  split
  · simp
  split
  · simp
  split
  · simp only; omega
  split
  · simp
  split
  · simp
  split
  · simp
  split
  · simp
  · simp only; omega
theorem popD_len {now:Int} {out:List (List Value)} (h:PopD now L out L'):L'.length≤L.length:=by
  induction h with
  | stop=>exact Nat.le_refl _
  | step k t _ _ ih=>exact Nat.le_trans ih (off_len k _)
theorem pop_last {now:Int}:∀ {kds:List KD} {S:Stt},(popS S now kds).last=S.last
  | [],S=>rfl
  | x::l,S=>by
    unfold popS
    rw [List.foldl_cons]
    by_cases hx:x.2.due≤now
    · rw [if_pos hx]
      have:=pop_last (now:=now) (kds:=l) (S:=cutS S x.1 x.2)
      unfold popS at this; exact this
    · rw [if_neg hx]
      have:=pop_last (now:=now) (kds:=l) (S:=S)
      unfold popS at this; exact this
theorem put_wh {p:Pc} {due:Int} {z:List Value} {b:Bool} {e:Int} (h:PutR S p due z b e S'):∃ k h d m,z=wh k h d m:=by
  cases h <;> exact ⟨_,_,_,_,rfl⟩
theorem eq_of_sorted {α:Type} {f:α→Int}:∀ {a b:List α},a.Perm b→(b.Pairwise fun x y=>f x<f y)→(a.Pairwise fun x y=>f x≤f y)→a=b
  | a,[],h,_,_=>List.perm_nil.1 h
  | [],y::b,h,_,_=>absurd h.length_eq (by simp)
  | x::a,y::b,h,hb,ha=>by
    rw [List.pairwise_cons] at hb ha
    have hxy:x=y:=by
      rcases List.mem_cons.1 (h.mem_iff.1 (by simp:x∈x::a)) with e | hx
      · exact e
      · rcases List.mem_cons.1 (h.mem_iff.2 (by simp:y∈y::b)) with e | hy
        · exact e.symm
        · have:=hb.1 x hx
          have:=ha.1 y hy
          omega
    subst hxy
    rw [eq_of_sorted (List.Perm.cons_inv h) hb.2 ha.2]
theorem Rel.sameKeys (h:Rel S L) {kds:List KD} (hp:kds.Perm S.D) (hs:kds.Pairwise fun x y=>ltC cfId y x=false):kds.map (·.1)=keysD L:=by
  have hid:∀ x∈S.D,((getL x.1 S.D).map (·.id)).getD 0=x.2.id:=fun x hx=>by rw [getL_of_mem h.inv.keys hx]; rfl
  refine eq_of_sorted (f:=fun k=>((getL k S.D).map (·.id)).getD 0) ?_ ?_ ?_
  · refine (List.perm_ext_iff_of_nodup ((hp.map (·.1)).nodup_iff.2 h.inv.keys) (nodup_keysD L)).2 fun k=>?_
    rw [h.keys,List.mem_map]
    constructor
    · rintro ⟨x,hx,e⟩; exact ⟨x,hp.mem_iff.1 hx,e⟩
    · rintro ⟨x,hx,e⟩; exact ⟨x,hp.mem_iff.2 hx,e⟩
  · refine h.ord.imp_of_mem ?_
    intro a b ha hb hab
    obtain ⟨x,hx,rfl⟩:=h.keys.1 ha
    obtain ⟨y,hy,rfl⟩:=h.keys.1 hb
    rw [hid x hx,hid y hy]
    exact hab x hx y hy rfl rfl
  · rw [List.pairwise_map]
    refine hs.imp_of_mem ?_
    intro x y hx hy hxy
    rw [hid x (hp.mem_iff.1 hx),hid y (hp.mem_iff.1 hy)]
    have:=cfId_ltf.1 hxy
    omega
end
end Go.Proofs
set_option linter.unusedVariables false
set_option maxRecDepth 20000
namespace Go.Proofs
open Go Go.HL
section
variable {hp:HP} {K K':Value→HP→Prop} {q m mo w:Nat} {max source:Int} {S:Stt} {L:List PD} {a:A16}
theorem F16tail {hp0:HP} {s:Option Addr} {n c:Nat} {i:Nat} {I:Int→HP→Prop} (h:Doc hp0 hp q m mo w max source S L) (hrel:Rel S L) (hlen:L.length≤1000) (hi:i≤1000)
    (hI:∀ hp',Doc hp0 hp' q m mo w max source S L→I ((i+1:Nat):Int) hp'):F16_j7 s n c (some ⟨q,0,none⟩) (some ⟨w,0,none⟩) i (a16 a) hp I K:=by
  have hLn:S.n=(L.length:Nat):=by rw [hrel.inv.num,hrel.all.length_eq,List.length_map]
  have hD:S.D.length≤L.length:=by
    have:=len_all hrel.inv.ne
    rw [hrel.all.length_eq,List.length_map] at this
    exact this
  have hkl:=keysD_len L
  have k2:(a16 a)[2]?=some (.string a.2.1.src):=rfl
  unfold F16_j7
  refine C60 h.st (by omega) ?_
  intro hp6 sk ck kds hs6 hperm hpw hrk _
  rw [slcV_slice]
  have d6:=h.sub hs6
  refine C69 d6.ref (by omega) ?_
  intro hp7 sk2 ck2 hs7 hrk2
  rw [slcV_slice]
  have d7:=d6.sub hs7
  have hkeys:kds.map (·.1)=keysD L:=hrel.sameKeys hperm hpw
  have hlk:S.D.length=(keysD L).length:=by rw [← hkeys,List.length_map,hperm.length_eq]
  have e1:(((S.D.length:Nat):Int) != ((keysD L).length:Nat))=false:=by rw [hlk]; simp
  have e2:(S.n != ((L.length:Nat):Int))=false:=by rw [hLn]; simp
  have hrow1:Row hp7 sk S.D.length ck 9 1 ((keysD L).flatMap fun k=>[sw k]):=by
    rw [← hkeys,List.flatMap_map]
    exact hrk.sub hs7
  have ref7:=d7.ref
  have eight:F16_j8 s n c (some ⟨q,0,none⟩) (some ⟨w,0,none⟩) i sk S.D.length ck sk2 (keysD L).length ck2 false (a16 a) hp7 I K:=by
    unfold F16_j8
    rw [ite2_false]
    unfold F16_j13
    obtain ⟨sL,cL,h1,h2⟩:=ref7
    have c2:(rfc max source sL L.length cL)[0+2]?=some (.slice sL L.length cL):=rfl
    refine LoopP.by (J:=fun r (y:Int × Int) hp'=>hp'=hp7∧∃ k:Nat,y.2=k∧k+r=L.length∧y.1=(cntP a.2.1.src ((L.take k).map (·.1)):Nat)) ?_ (n:=L.length) ⟨rfl,0,rfl,by omega,rfl⟩
    rintro I2 r ⟨y1,y2⟩ hp8 ⟨rfl,k,hy,hkr,hy1⟩ hgo
    simp only at hy hy1
    subst hy hy1
    unfold F16_l14
    simp only [ptrN_some,HP.cell_of h1,c2,ldV_some,slcV_slice]
    by_cases hk:k<L.length
    · rw [decide_eq_true (by omega:(k:Int)<((L.length:Nat):Int)),ite2_true]
      obtain ⟨b,o,hao,hg⟩:=h2.shows.get pdc_len rfl hk
      have g1:hp8.cell b (o+k*7+1)=some (.string L[k].1.src):=HP.cell_cellN (j:=1) hg rfl
      have hle:cntP a.2.1.src ((L.take k).map (·.1))≤k:=by
        refine Nat.le_trans cnt_le ?_
        rw [List.length_map,List.length_take]; omega
      have w1:IntKind.wrap .i64 ((k:Int)+1)=((k+1:Nat):Int):=wiN (by omega) (by omega)
      have w2:IntKind.wrap .i64 (((cntP a.2.1.src ((L.take k).map (·.1)):Nat):Int)+1)=((cntP a.2.1.src ((L.take k).map (·.1))+1:Nat):Int):=wiN (by omega) (by omega)
      have hsn:cntP a.2.1.src ((L.take (k+1)).map (·.1))=cntP a.2.1.src ((L.take k).map (·.1))+if L[k].1.src=a.2.1.src then 1 else 0:=by
        rw [List.take_succ_eq_append_getElem hk,List.map_append,cnt_app]
        congr 1
        unfold cntP
        by_cases h:L[k].1.src=a.2.1.src <;> simp [h]
      simp only [hao,ptrN_some,Int.toNat_natCast,g1,k2,ldV_some,strV_string,str_eq]
      refine ⟨by omega,by omega,?_⟩
      unfold F16_j15
      rw [w1,w2]
      by_cases h:L[k].1.src=a.2.1.src
      · rw [decide_eq_true h,ite2_true]
        rw [if_pos h] at hsn
        exact hgo (r-1) _ _ (by omega) ⟨rfl,k+1,rfl,by omega,by rw [hsn]⟩
      · rw [decide_eq_false h,ite2_false]
        rw [if_neg h] at hsn
        exact hgo (r-1) _ _ (by omega) ⟨rfl,k+1,rfl,by omega,by rw [hsn]; rfl⟩
    rw [decide_eq_false (by omega:¬ (k:Int)<((L.length:Nat):Int)),ite2_false]
    rw [List.take_of_length_le (by omega)]
    clear hgo hkr
    unfold F16_j9 F16_j11
    refine LoopP.by (J:=fun r (z:Int) hp'=>hp'=hp8∧∃ k:Nat,z=k∧k+r=S.D.length) ?_ (n:=S.D.length) ⟨rfl,0,rfl,by omega⟩
    rintro I3 r3 z hp9 ⟨rfl,k3,rfl,hkr⟩ hgo
    unfold F16_l12
    by_cases hk3:k3<S.D.length
    · rw [decide_eq_true (by omega:(k3:Int)<((S.D.length:Nat):Int)),ite2_true]
      obtain ⟨b1,o1,ha1,hg1⟩:=Shows.get (size:=1) (enc:=fun k:ByteArray=>[sw k]) hrow1.shows (fun _=>rfl) hlk.symm hk3
      obtain ⟨b2,o2,ha2,hg2⟩:=Shows.get (size:=1) (enc:=fun k:ByteArray=>[sw k]) hrk2.shows (fun _=>rfl) rfl (by omega:k3<(keysD L).length)
      have g1:=HP.cell_cellN (j:=0) hg1 rfl
      have g2:=HP.cell_cellN (j:=0) hg2 rfl
      rw [Nat.add_zero] at g1 g2
      have w1:IntKind.wrap .i64 ((k3:Int)+1)=((k3+1:Nat):Int):=wiN (by omega) (by omega)
      simp only [ha1,ha2,ptrN_some,Int.toNat_natCast,g1,g2,ldV_some]
      refine ⟨by omega,by omega,?_⟩
      show strV (Value.string _) _
      rw [strV_string]
      refine ⟨by omega,by omega,?_⟩
      show strV (Value.string _) _
      simp only [strV_string,str_eq,decide_true,Bool.not_true,ite2_false]
      rw [w1]
      exact hgo (r3-1) _ _ (by omega) ⟨rfl,k3+1,rfl,by omega⟩
    rw [decide_eq_false (by omega:¬ (k3:Int)<((S.D.length:Nat):Int)),ite2_false]
    unfold F16_j10
    rw [k2,ldV_some,strV_string]
    refine C70 d7.st ?_
    have e3:((getL a.2.1.src S.of).getD 0 != ((cntP a.2.1.src (L.map (·.1)):Nat):Int))=false:=by
      rw [hrel.inv.of,cnt_perm hrel.all]; simp
    rw [intV_int,e3,ite2_false]
    unfold F16_j6
    have w1:IntKind.wrap .i64 ((i:Int)+1)=((i+1:Nat):Int):=wiN (by omega) (by omega)
    rw [w1]
    exact hI _ d7
  obtain ⟨sL,cL,h1,h2⟩:=ref7
  have c2:(rfc max source sL L.length cL)[0+2]?=some (.slice sL L.length cL):=rfl
  rw [e1,ite2_false]
  refine ⟨?_,?_⟩
  · refine C27 d7.st ?_
    simp only [intV_int,ptrN_some,HP.cell_of h1,c2,ldV_some,slcV_slice,e2]
    exact eight
  · rw [ite2_false]
    simp only [intV_int,ptrN_some,HP.cell_of h1,c2,ldV_some,slcV_slice]
    refine C27 d7.st ?_
    simp only [intV_int,e2]
    exact eight
set_option maxHeartbeats 2000000 in
theorem C16 {x0 x1:Int} {s:Option Addr} {n c:Nat} {l:List A16} (hs:Shows hp s n 8 (l.flatMap a16)) (hl:l.length=n) (hok:∀ x∈l,okA16 x) (h:K (.bool true) hp):CF Try.prog 16 [.int .i64 x0,.int .i64 x1,.slice s n c] hp K:=by
  refine CF.drop (F16_ok x0 x1 s n c hp _ ?_)
  unfold F16
  have hk:∀ hp',HSub hp hp'→CF Try.prog 22 [] hp' fun u h=>boolV u fun q=>∃ hp'',HSub hp'' h∧K (.bool q) hp'':=by
    intro hp' hs
    refine C22 ?_
    rw [boolV_bool]
    exact ⟨hp,hs,h⟩
  refine C61 hs hl fun b hgreat=>?_
  rw [boolV_bool]
  cases b
  rotate_left
  · rw [ite2_true]; exact hk hp (HSub.refl _)
  obtain ⟨hl150,hdata⟩:=hgreat rfl
  rw [ite2_false]
  refine C25 (fun hn=>?_) (fun hk25 q m mo hp1 hst=>?_)
  · have bad:F16_j1 x0 x1 s n c none 1 true hp (fun v hp'=>∃ hp'',HSub hp'' hp'∧K v hp''):=by
      unfold F16_j1
      rw [ite2_true]
      show ite2 true _ _
      rw [ite2_true]
      show ite2 true _ _
      rw [ite2_true]
      exact hk hp (HSub.refl _)
    have pp:∀ c:Option Addr→Prop,ptrV (.pointer none) c=c none:=fun _=>rfl
    simp only [tup2V_mk,intV_int,pp]
    by_cases g1:x0<1
    · rw [decide_eq_true g1,ite2_true]; exact bad
    rw [decide_eq_false g1,ite2_false]
    by_cases g2:x0 > 65536
    · rw [decide_eq_true g2,ite2_true]; exact bad
    rw [decide_eq_false g2,ite2_false]
    by_cases g3:x1<1
    · rw [decide_eq_true g3,ite2_true]; exact bad
    rw [decide_eq_false g3,ite2_false]
    rw [decide_eq_true (by omega:x1 > 65536)]
    exact bad
  have g1':=hst hp (HSub.refl _)
  have pp:∀ c:Option Addr→Prop,ptrV (ptr q 0) c=c (some ⟨q,0,none⟩):=fun _=>rfl
  simp only [tup2V_mk,intV_int,pp]
  rw [decide_eq_false (by omega:¬ x0<1),ite2_false,decide_eq_false (by omega:¬ x0 > 65536),ite2_false,decide_eq_false (by omega:¬ x1<1),ite2_false,decide_eq_false (by omega:¬ x1 > 65536)]
  unfold F16_j1
  rw [ite2_false]
  show ite2 false _ _
  rw [ite2_false]
  show F16_j2 x0 x1 s n c _ false _ _
  unfold F16_j2
  rw [ite2_false]
  intro w hw
  have hw0:hp w=.none:=g1'.1.none hw
  have g2':=g1'.add hw (HSub.set_fresh hp1 (.cells 106 (rfc x0 x1 none 0 0) 0) hw) (HP.set_eq ..)
  have g3':Doc hp (hp1.set w (.cells 106 (rfc x0 x1 none 0 0) 0)) q m mo w x0 x1 ⟨x0,x1,0,0,[],[]⟩ []:=⟨hw0,none,0,Bes.nil g2'⟩
  show F16_j4 s n c (some ⟨q,0,none⟩) (some ⟨w,0,none⟩) 0 (hp1.set w (.cells 106 (rfc x0 x1 none 0 0) 0)) _
  generalize hp1.set w (.cells 106 (rfc x0 x1 none 0 0) 0)=hp2 at g3'
  unfold F16_j4
  refine LoopP.by (J:=fun r (z:Int) hp'=>∃ (i:Nat) (S:Stt) (L:List PD),z=i∧i+r=n∧Doc hp hp' q m mo w x0 x1 S L∧Rel S L∧S.max=x0∧S.source=x1∧(0≤S.last∧S.last≤i)∧L.length≤i) ?_
    (n:=n) ⟨0,⟨x0,x1,0,0,[],[]⟩,[],rfl,by omega,g3',Rel.empty (by omega) (by omega) (by omega),rfl,rfl,⟨Int.le_refl _,Int.le_refl _⟩,Nat.le_refl _⟩
  rintro I r z hp3 ⟨i,S,L,rfl,hir,d3,hrel,hmx,hsx,hlast,hLi⟩ hgo
  have hsub3:HSub hp hp3:=d3.st.1
  unfold F16_l5
  by_cases hi:i<n
  rotate_left
  · rw [decide_eq_false (by omega:¬ (i:Int)<((n:Nat):Int)),ite2_false]
    unfold F16_j3
    exact hk hp3 hsub3
  rw [decide_eq_true (by omega:(i:Int)<((n:Nat):Int)),ite2_true]
  obtain ⟨b,o,hao,hc0⟩:=hs.get a16_len hl hi
  have hxl:l[i]'(hl▸hi)∈l:=List.getElem_mem _
  generalize hx:l[i]'(hl▸hi)=a at *
  have cN:=HP.cellN_sub hsub3 hc0
  have hz8:splice [(Value.int .u8 0),(Value.string ⟨#[]⟩),(Value.string ⟨#[]⟩),(Value.int .i64 0),(Value.bool false),(Value.string ⟨#[]⟩),(Value.string ⟨#[]⟩),(Value.int .i64 0)] 0 (a16 a)=a16 a:=splice_all rfl
  simp only [hao,ptrN_some,Int.toNat_natCast,cN,ldL_some,hz8]
  refine ⟨by omega,by omega,ifI rfl (ifI (a16_one a) (ifI (Nat.le_refl 8) ?_))⟩
  rw [← hao]
  have k0:(a16 a)[0]?=some (.int .u8 a.1):=rfl
  have k7:(a16 a)[7]?=some (.int .i64 a.2.2):=rfl
  have k16:cellsN (a16 a) 1 6=some (pc a.2.1):=rfl
  obtain ⟨ha1,ha2,ha3⟩:=hok a hxl
  have hd300:=hdata a hxl
  have okp:okP a.2.1:=⟨ha2,by omega⟩
  have hLn:S.n=(L.length:Nat):=by rw [hrel.inv.num,hrel.all.length_eq,List.length_map]
  have hD:S.D.length≤L.length:=by
    have:=len_all hrel.inv.ne
    rw [hrel.all.length_eq,List.length_map] at this
    exact this
  have hri:∀ x∈L,rightP x.1=true:=fun x hx=>by
    obtain ⟨y,hy,e⟩:=hrel.mem x hx
    have hp:=hrel.perm y hy
    exact hrel.inv.right y hy x.1 (hp.mem_iff.2 (List.mem_map.2 ⟨x,List.mem_filter.2 ⟨hx,by simpa using e.symm⟩,rfl⟩))
  have tail:∀ (hp5:HP) (S5:Stt) (L5:List PD),Doc hp hp5 q m mo w x0 x1 S5 L5→Rel S5 L5→S5.max=x0→S5.source=x1→(0≤S5.last∧S5.last≤i+1)→L5.length≤i+1 →
      F16_j7 s n c (some ⟨q,0,none⟩) (some ⟨w,0,none⟩) i (a16 a) hp5 I (fun v hp'=>∃ hp'',HSub hp'' hp'∧K v hp''):=by
    intro hp5 S5 L5 d5 hrel5 hmx5 hsx5 hlast5 hL5
    refine F16tail d5 hrel5 (by omega) (by omega) fun hp6 d6=>?_
    exact hgo (r-1) _ _ (by omega) ⟨i+1,S5,L5,rfl,by omega,d6,hrel5,hmx5,hsx5,by omega,hL5⟩
  simp only [k0,ldV_some,intV_int]
  by_cases hdo:a.1=0
  · have ed:(a.1==0)=true:=by simpa using hdo
    rw [ed,ite2_true]
    simp only [k7,ldV_some,intV_int]
    refine C62 d3.st (by omega) (fun kd hkd=>Nat.le_trans (hrel.inv.lenl hkd) (by omega)) ?_
    intro hp5 so no co kds hperm hpw hbes hno
    rw [slcV_slice]
    have d5:=d3.more fun h0 g=>(hbes h0 g).st
    have row5:=(hbes _ d3.st).row
    refine C63 d5.ref (by omega) ?_
    intro hp6 L6 out s6 c6 hpop hs6 row6
    rw [slcV_slice]
    obtain ⟨hout,hrel6⟩:=pop_rel hrel hperm hpw hpop
    have d6:=d5.step hs6
    have row5':=hs6.row d5.ref (by decide) row5
    have hm5:(popS S a.2.2 kds).max=S.max∧(popS S a.2.2 kds).source=S.source:=pop_same
    have hl5:(popS S a.2.2 kds).last=S.last:=pop_last
    have hL6:=popD_len hpop
    subst hout
    have hnk:(toldQ a.2.2 kds).length=(kds.filter fun x=>decide (x.2.due≤a.2.2)).length:=by unfold toldQ; rw [List.length_map]
    rw [hno] at row5' ⊢
    rw [told_flat,hnk] at row5' row6
    rw [hnk]
    have en:((((kds.filter fun x=>decide (x.2.due≤a.2.2)).length:Nat):Int) != (((kds.filter fun x=>decide (x.2.due≤a.2.2)).length:Nat):Int))=false:=by simp
    rw [en,ite2_false]
    have hkd:(kds.filter fun x=>decide (x.2.due≤a.2.2)).length≤kds.length:=List.length_filter_le ..
    have hkp:=hperm.length_eq
    generalize (kds.filter fun x=>decide (x.2.due≤a.2.2))=gone at *
    unfold F16_j16
    refine LoopP.by (J:=fun r (z:Int) hp'=>hp'=hp6∧∃ k:Nat,z=k∧k+r=gone.length) ?_ (n:=gone.length) ⟨rfl,0,rfl,by omega⟩
    rintro I2 r2 z hp7 ⟨rfl,k,rfl,hkr⟩ hgo2
    unfold F16_l17
    by_cases hk:k<gone.length
    · rw [decide_eq_true (by omega:(k:Int)<((gone.length:Nat):Int)),ite2_true]
      obtain ⟨b1,o1,hb1,hg1⟩:=row5'.shows.get whK_len rfl hk
      obtain ⟨b2,o2,hb2,hg2⟩:=row6.shows.get whK_len rfl hk
      have w1:IntKind.wrap .i64 ((k:Int)+1)=((k+1:Nat):Int):=wiN (by omega) (by omega)
      simp only [hb1,hb2,ptrN_some,Int.toNat_natCast,hg1,hg2,ldL_some]
      refine ⟨by omega,by omega,by omega,by omega,?_⟩
      unfold whK
      refine C64 ?_
      rw [boolV_bool,Bool.not_true,ite2_false,w1]
      exact hgo2 (r2-1) _ _ (by omega) ⟨rfl,k+1,rfl,by omega⟩
    rw [decide_eq_false (by omega:¬ (k:Int)<((gone.length:Nat):Int)),ite2_false]
    exact tail _ _ _ d6 hrel6 (hm5.1.trans hmx) (hm5.2.trans hsx) (by rw [hl5]; omega) (by omega)
  · have ed:(a.1==0)=false:=by simpa using hdo
    rw [ed,ite2_false]
    simp only [k7,k16,ldV_some,ldL_some,intV_int]
    refine C26 (p:=a.2.1) d3.st okp (fun d hg=>Nat.le_trans (hrel.inv.lenl (getL_some_mem hg)) (by omega)) (fun d hg=>hrel.inv.right _ (getL_some_mem hg)) ?_
    intro hp5 z bb ee S5 hput hstp
    have d5:=d3.stp hstp
    obtain ⟨L5,hpd,hrel5,hlast5,hmax5,hsrc5⟩:=put_rel hrel ⟨hlast.1,by omega⟩ hput
    rw [hmx,hsx] at hpd
    have hL5:=putD_len (max:=x0) (source:=x1) (L:=L) (p:=a.2.1) (due:=a.2.2)
    have h65:∀ {K2:Value→HP→Prop},(∀ hp6,RefS hp5 hp6 w x0 x1 L L5→K2 (.tuple ⟨[.agg ⟨z⟩,.bool bb,.int .i64 ee]⟩) hp6)→CF Try.prog 65 [.pointer (some ⟨w,0,none⟩),.agg ⟨pd a.2.1 0⟩,.int .i64 a.2.2] hp5 K2:=fun {K2} hK2=>by
      refine C65 d5.ref (by omega) hri okp fun hp6 hs6=>?_
      rw [hpd] at hs6 ⊢
      exact hK2 hp6 hs6
    rw [hpd] at hL5
    obtain ⟨zk,zh,zd,zm,rfl⟩:=put_wh hput
    have hz4:splice [(Value.string ⟨#[]⟩),(Value.string ⟨#[]⟩),(Value.string ⟨#[]⟩),(Value.int .i64 0)] 0 (wh zk zh zd zm)=wh zk zh zd zm:=splice_all rfl
    have j18:∀ hp6,RefS hp5 hp6 w x0 x1 L L5→F16_j18 s n c (some ⟨q,0,none⟩) (some ⟨w,0,none⟩) i bb ee bb ee (a16 a) (wh zk zh zd zm) (wh zk zh zd zm) hp6 I (fun v hp'=>∃ hp'',HSub hp'' hp'∧K v hp''):=by
      intro hp6 hs6
      unfold F16_j18
      have c4:cellsN (wh zk zh zd zm) 0 4=some (wh zk zh zd zm):=rfl
      rw [c4]
      simp only [ldL_some]
      refine C64 ?_
      have e1:(ee != ee)=false:=by simp
      rw [boolV_bool,Bool.not_true,ite2_false,BEq.rfl,Bool.not_true,ite2_false,e1,ite2_false,k16,ldL_some]
      refine C67 okp ?_
      rw [boolV_bool]
      simp only [k16,ldL_some]
      refine C66 ?_
      rw [aggV_agg]
      refine C68 okp ?_
      rw [boolV_bool,BEq.rfl]
      unfold F16_j19
      rw [Bool.not_true,ite2_false]
      exact tail _ _ _ (d5.step hs6) hrel5 (hmax5.trans hmx) (hsrc5.trans hsx) (by omega) (by simp only at hL5; omega)
    simp only [tup3V_mk,aggV_agg,boolV_bool,intV_int]
    refine ifI rfl (ifI rfl (ifI (Nat.le_refl 4) ?_))
    simp only [k7,k16,ldV_some,ldL_some,intV_int,hz4]
    repeat' with_reducible apply And.intro
    all_goals
      refine C66 ?_
      simp only [aggV_agg,k7,ldV_some,intV_int]
      refine h65 fun hp6 hs6=>?_
      simp only [tup3V_mk,aggV_agg,boolV_bool,intV_int]
      exact ifI rfl (ifI rfl (ifI (Nat.le_refl 4) (by rw [hz4]; exact j18 hp6 hs6)))
end
end Go.Proofs
