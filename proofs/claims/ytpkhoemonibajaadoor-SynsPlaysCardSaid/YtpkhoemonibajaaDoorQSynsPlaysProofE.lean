/- Parts of the proof of SynsPlaysProof: the logic of what is known of memory, functions' contracts. -/
import Derived.Test.YtpkhoemonibajaaDoorQSynsPlaysProofD
import Derived.Test.YtpkhoemonibajaaDoorHlArg
import Derived.DataShut
import Derived.Test.YtpkhoemonibajaaDoorHlAbb
import Derived.Test.YtpkhoemonibajaaDoorProg
import Derived.Test.YtpkhoemonibajaaDoorHlDec
import Derived.Test.YtpkhoemonibajaaDoorRows
import Derived.Test.YtpkhoemonibajaaDoorHlLaid
import Derived.ProofKit
import Derived.LaidLaws
set_option linter.unusedVariables false
set_option linter.unusedSimpArgs false
set_option linter.unusedVariables false
set_option linter.unusedSimpArgs false
set_option maxRecDepth 20000
namespace Go.Proofs
open Go Go.HL
open Go.Exp (Th tlt Ord setW dropW insW)
section
variable {hq hp:HP} {r:Nat} {last:Nat} {L:List Sy} {K:Value→HP→Prop}
set_option maxHeartbeats 4000000 in
theorem C51 {mx:Nat} {o p:Q × Int} {due:Int} {text:ByteArray} (h:RefS hq r (mx:Nat) last L) (hlast:last<500000) (hl:L.length≤100000)
    (hno:∀ e,putE mx o p due text L=e→e≠0→K (.int .i64 e) hq)
    (hyes:putE mx o p due text L=0→∀ hq',RefS hq' r (mx:Nat) (last+1) (L++[⟨(last+1:Nat),o,p,due,text⟩])→K (.int .i64 0) hq') :
    CF Tryd.prog 51 [ptr r 0,.agg ⟨t4 o⟩,.agg ⟨t4 p⟩,.int .i64 due,.string text] hq K:=by
  refine F51_ok _ (t4 o) (t4 p) due text hq K ?_
  unfold F51
  by_cases c1:text.size > 65536
  · rw [decide_eq_true (by omega:((text.size:Nat):Int) > 65536),ite2_true]
    exact hno 3 (by unfold putE; rw [if_pos c1]) (by decide)
  rw [decide_eq_false (by omega:¬ ((text.size:Nat):Int) > 65536),ite2_false]
  by_cases c2:due<0
  · rw [decide_eq_true c2,ite2_true]
    unfold F51_j1
    rw [ite2_true]
    exact hno 1 (by unfold putE; rw [if_neg c1,if_pos (.inl c2)]) (by decide)
  rw [decide_eq_false c2,ite2_false]
  unfold F51_j1
  by_cases c3:due > 4611686018427387904
  · rw [decide_eq_true c3,ite2_true]
    exact hno 1 (by unfold putE; rw [if_neg c1,if_pos (.inr c3)]) (by decide)
  rw [decide_eq_false c3,ite2_false]
  have c23:¬ (due<0∨due > 4611686018427387904):=by omega
  simp only [t4_cells,ldL_some]
  refine C49 h (by omega) fun v hv=>?_
  rw [intV_int]
  rcases hv with ⟨rfl,hf⟩ | ⟨j,hj,rfl,hf⟩
  rotate_left
  · rw [decide_eq_true (by omega),ite2_true]
    exact hno 5 (by unfold putE; rw [if_neg c1,if_neg c23,if_pos (by rw [hf]; rfl)]) (by decide)
  rw [decide_eq_false (by omega),ite2_false]
  obtain ⟨a,c,h1,h2⟩:=h
  have hc:∀ t,hq.cell r t=_:=fun t=>HP.cell_of h1
  have hc0:hq.cell r 0=some (.int .i64 mx):=hc 0
  have hc1:hq.cell r 1=some (.int .i64 last):=hc 1
  have hc2:hq.cell r 2=some (.slice a L.length c):=hc 2
  simp only [ptrN_some,Nat.zero_add,hc0,hc1,hc2,ldV_some,slcV_slice,intV_int]
  by_cases c4:L.length≥mx
  · rw [decide_eq_true (by omega:((L.length:Nat):Int)≥(mx:Nat)),ite2_true]
    exact hno 6 (by unfold putE; rw [if_neg c1,if_neg c23,if_neg (by rw [hf]; simp),if_pos c4]) (by decide)
  rw [decide_eq_false (by omega:¬ ((L.length:Nat):Int)≥(mx:Nat)),ite2_false]
  have hput:putE mx o p due text L=0:=by unfold putE; rw [if_neg c1,if_neg c23,if_neg (by rw [hf]; simp),if_neg c4]
  have hyes:=hyes hput
  have w1:IntKind.wrap .i64 ((last:Int)+1)=((last+1:Nat):Int):=wi (by omega) (by omega)
  rw [w1]
  refine HP.st_at h1 (by simp) ?_
  have hset:([Value.int .i64 (mx:Nat),.int .i64 (last:Nat),.slice a L.length c].set 1 (.int .i64 ((last+1:Nat):Int)))=[.int .i64 (mx:Nat),.int .i64 ((last+1:Nat):Int),.slice a L.length c]:=rfl
  rw [hset]
  have g1:(hq.set r (.cells 90 [.int .i64 (mx:Nat),.int .i64 ((last+1:Nat):Int),.slice a L.length c] 0)) r=.cells 90 [.int .i64 (mx:Nat),.int .i64 ((last+1:Nat):Int),.slice a L.length c] 0:=HP.set_eq ..
  have g2:Row (hq.set r (.cells 90 [.int .i64 (mx:Nat),.int .i64 ((last+1:Nat):Int),.slice a L.length c] 0)) a L.length c 93 13 (L.flatMap syc):=by
    rcases h2 with h | ⟨b,r1,r2,r3,r4⟩
    · exact .inl h
    · exact .inr ⟨b,r1,r2,r3,by rw [HP.set_ne _ _ (fun e=>by rw [e,h1] at r4; cases r4)]; exact r4⟩
  generalize hq.set r (.cells 90 [.int .i64 (mx:Nat),.int .i64 ((last+1:Nat):Int),.slice a L.length c] 0)=hq1 at *
  clear h1 h2 hc hc0 hc1 hc2 hset w1 hno hf
  have k1:∀ {hp:HP},HSub hq1 hp→hp.cell r 1=some (.int .i64 ((last+1:Nat):Int)):=fun hs=>HP.cell_of (hs.cells g1)
  have k2:∀ {hp:HP},HSub hq1 hp→hp.cell r 2=some (.slice a L.length c):=fun hs=>HP.cell_of (hs.cells g1)
  have x1:=k1 (HSub.refl hq1)
  have x2:=k2 (HSub.refl hq1)
  have hz:∀ i:Int,(List.set (List.set (splice (splice [(Value.int .i64 i),(Value.int .u8 0),(Value.int .u8 0),(Value.int .u8 0),(Value.int .u8 0),(Value.int .i64 0),(Value.int .u8 0),(Value.int .u8 0),(Value.int .u8 0),(Value.int .u8 0),(Value.int .i64 0),(Value.int .i64 0),(Value.string ⟨#[]⟩)] 1 (t4 o)) 6 (t4 p)) 11 (Value.int .i64 due)) 12 (Value.string text))=syc ⟨i,o,p,due,text⟩:=fun _=>rfl
  have fin:∀ hp2 a2 c2,HSub hq1 hp2→(∀ b',a2=some ⟨b',0,none⟩→hq1 b'=.none)→Row hp2 a2 (L.length+1) c2 93 13 (L.flatMap syc++syc ⟨((last+1:Nat):Int),o,p,due,text⟩) →
      HP.st hp2 r 2 (.slice a2 (L.length+1) c2) fun h=>K (.int .i64 0) h:=by
    intro hp2 a2 c2 hs hf hrow
    refine HP.st_at (hs.cells g1) (by simp) ?_
    refine hyes _ ⟨a2,c2,by rw [HP.set_eq,List.length_append]; rfl,?_⟩
    rw [List.length_append,List.flatMap_append]
    have e1:([(⟨((last+1:Nat):Int),o,p,due,text⟩:Sy)]).flatMap syc=syc ⟨((last+1:Nat):Int),o,p,due,text⟩:=by simp
    rw [e1]
    rcases hrow with h | ⟨b,r1,r2,r3,r4⟩
    · exact .inl h
    · exact .inr ⟨b,r1,r2,r3,by rw [HP.set_ne _ _ (fun e=>by have:=hf b r1; rw [e,g1] at this; cases this)]; exact r4⟩
  have app1:∀ (b0:Nat) (h0 hp:HP) {X:Value→HP→Prop},HSub hq1 h0→HSub h0 hp→h0 b0=.none→hp b0=.cells 93 [] 0→(∀ hp2 a2 c2,HSub h0 hp2→(∀ b',a2=some ⟨b',0,none⟩→h0 b'=.none)→Row hp2 a2 L.length c2 93 13 (L.flatMap syc)→X (.slice a2 (0+L.length) c2) hp2) →
      opS Tryd.prog (Builtin.append_ #[88,88] 88 ⟨[.slice (some ⟨b0,0,none⟩) 0 0,.slice a L.length c]⟩) hp X:=by
    intro b0 h0 hp X hs0 hs hb0 hb hX
    have hr0:Row hp (some ⟨b0,0,none⟩) 0 0 93 13 []:=.inr ⟨b0,rfl,Nat.le_refl _,rfl,hb⟩
    refine opS_appF (e:=93) (size:=13) (bytes:=64) (by kernel_rfl) hr0 (g2.sub (hs0.trans hs)).shows (all_flat syc_one _) (by omega) (by omega) ?_
    intro s2 c2 hp2 hrow2 hf2
    obtain ⟨k1,k2⟩:=hf2 h0 hs (fun b' e=>by cases e; exact hb0)
    exact hX hp2 s2 c2 k1 k2 (by rw [Nat.zero_add] at hrow2; simpa using hrow2)
  have app2:∀ (hp2:HP) (a2:Option Addr) (c2 b2:Nat) {X:Value→HP→Prop},HSub hq1 hp2→(∀ b',a2=some ⟨b',0,none⟩→hq1 b'=.none)→Row hp2 a2 L.length c2 93 13 (L.flatMap syc)→hp2 b2=.cells 93 (syc ⟨((last+1:Nat):Int),o,p,due,text⟩) 0 →
      (∀ hp3 a3 c3,HSub hq1 hp3→(∀ b',a3=some ⟨b',0,none⟩→hq1 b'=.none)→Row hp3 a3 (L.length+1) c3 93 13 (L.flatMap syc++syc ⟨((last+1:Nat):Int),o,p,due,text⟩)→X (.slice a3 (L.length+1) c3) hp3) →
      opS Tryd.prog (Builtin.append_ #[88,88] 88 ⟨[.slice a2 L.length c2,.slice (some ⟨b2,0,none⟩) 1 1]⟩) hp2 X:=by
    intro hp2 a2 c2 b2 X hs hf hrow hb2 hX
    refine opS_appF (e:=93) (size:=13) (bytes:=64) (by kernel_rfl) hrow (.inr ⟨b2,0,rfl,by rw [HP.cellN_of hb2]; exact cellsN_all rfl⟩) (syc_one _) (by omega) (by omega) ?_
    intro s3 c3 hp3 hrow3 hf3
    obtain ⟨k1,k2⟩:=hf3 hq1 hs hf
    exact hX hp3 s3 c3 k1 k2 hrow3
  repeat' apply And.intro
  all_goals
    have y1:=x1
    have y2:=x2
    try simp only [ptrN_some,Nat.zero_add,y1,y2,ldV_some,slcV_slice,intV_int,t4_cells,ldL_some,hz,syz,syc_splice]
    first
      | (refine ifI rfl (ifI rfl (ifI (syc_len _) ?_))
         refine fun (b2:Nat) (hb2':hq1 b2=Ent.none)=>?_
         have s2:=HSub.set_fresh hq1 (.cells 93 (syc ⟨((last+1:Nat):Int),o,p,due,text⟩) 0) hb2'
         have y1:=k1 s2
         have y2:=k2 s2
         try simp only [ptrN_some,Nat.zero_add,y1,y2,ldV_some,slcV_slice,intV_int,t4_cells,ldL_some,hz,syz,syc_splice]
         refine fun (b0:Nat) (hb0:(hq1.set b2 (.cells 93 (syc ⟨((last+1:Nat):Int),o,p,due,text⟩) 0)) b0=Ent.none)=>?_
         have hne:b2≠b0:=fun e=>by rw [e,HP.set_eq] at hb0; cases hb0
         have s1:=s2.trans (HSub.set_fresh _ (.cells 93 [] 0) hb0)
         have y1:=k1 s1
         have y2:=k2 s1
         try simp only [ptrN_some,Nat.zero_add,y1,y2,ldV_some,slcV_slice,intV_int,t4_cells,ldL_some,hz,syz,syc_splice]
         refine app1 b0 (hq1.set b2 (.cells 93 (syc ⟨((last+1:Nat):Int),o,p,due,text⟩) 0)) _ (HSub.set_fresh _ _ hb2') (HSub.set_fresh _ _ hb0) hb0 (HP.set_eq ..) fun hp2 a2 c2 hs2 hf2 hrow2=>?_
         rw [Nat.zero_add]
         have s2:=(HSub.set_fresh hq1 (.cells 93 (syc ⟨((last+1:Nat):Int),o,p,due,text⟩) 0) hb2').trans hs2
         have y1:=k1 s2
         have y2:=k2 s2
         try simp only [ptrN_some,Nat.zero_add,y1,y2,ldV_some,slcV_slice,intV_int,t4_cells,ldL_some,hz,syz,syc_splice]
         refine app2 hp2 a2 c2 b2 s2 (fun b' e=>by
           have:=hf2 b' e
           by_cases hb:b'=b2
           · rw [hb]; exact hb2'
           · rwa [HP.set_ne _ _ hb] at this) hrow2 (hs2.cells (HP.set_eq ..)) fun hp3 a3 c3 hs3 hf3 hrow3=>?_
         simp only [slcV_slice,ptrN_some,Nat.zero_add]
         exact fin hp3 a3 c3 hs3 hf3 hrow3)
      | (refine fun (b0:Nat) (hb0:hq1 b0=Ent.none)=>?_
         have s0:=HSub.set_fresh hq1 (.cells 93 [] 0) hb0
         have y1:=k1 s0
         have y2:=k2 s0
         try simp only [ptrN_some,Nat.zero_add,y1,y2,ldV_some,slcV_slice,intV_int,t4_cells,ldL_some,hz,syz,syc_splice]
         first
           | (refine ifI rfl (ifI rfl (ifI (syc_len _) ?_))
              refine fun (b2:Nat) (hb2:(hq1.set b0 (.cells 93 [] 0)) b2=Ent.none)=>?_
              have hne:b2≠b0:=fun e=>by rw [e,HP.set_eq] at hb2; cases hb2
              have hb2':hq1 b2=.none:=by rwa [HP.set_ne _ _ hne] at hb2
              have s1:=s0.trans (HSub.set_fresh _ (.cells 93 (syc ⟨((last+1:Nat):Int),o,p,due,text⟩) 0) hb2)
              have y1:=k1 s1
              have y2:=k2 s1
              try simp only [ptrN_some,Nat.zero_add,y1,y2,ldV_some,slcV_slice,intV_int,t4_cells,ldL_some,hz,syz,syc_splice]
              refine app1 b0 (hq1.set b2 (.cells 93 (syc ⟨((last+1:Nat):Int),o,p,due,text⟩) 0)) _ (HSub.set_fresh _ _ hb2') (s0.set b2 _) (by rw [HP.set_ne _ _ hne.symm]; exact hb0) (by rw [HP.set_ne _ _ hne.symm,HP.set_eq]) fun hp2 a2 c2 hs2 hf2 hrow2=>?_
              rw [Nat.zero_add]
              have s2:=(HSub.set_fresh hq1 (.cells 93 (syc ⟨((last+1:Nat):Int),o,p,due,text⟩) 0) hb2').trans hs2
              have y1:=k1 s2
              have y2:=k2 s2
              try simp only [ptrN_some,Nat.zero_add,y1,y2,ldV_some,slcV_slice,intV_int,t4_cells,ldL_some,hz,syz,syc_splice]
              refine app2 hp2 a2 c2 b2 s2 (fun b' e=>by
                have:=hf2 b' e
                by_cases hb:b'=b2
                · rw [hb]; exact hb2'
                · rwa [HP.set_ne _ _ hb] at this) hrow2 (hs2.cells (HP.set_eq ..)) fun hp3 a3 c3 hs3 hf3 hrow3=>?_
              simp only [slcV_slice,ptrN_some,Nat.zero_add]
              exact fin hp3 a3 c3 hs3 hf3 hrow3)
           | (refine app1 b0 hq1 _ (HSub.refl hq1) s0 hb0 (HP.set_eq ..) fun hp2 a2 c2 hs2 hf2 hrow2=>?_
              rw [Nat.zero_add]
              have y1:=k1 hs2
              have y2:=k2 hs2
              try simp only [ptrN_some,Nat.zero_add,y1,y2,ldV_some,slcV_slice,intV_int,t4_cells,ldL_some,hz,syz,syc_splice]
              refine ifI rfl (ifI rfl (ifI (syc_len _) ?_))
              refine fun (b2:Nat) (hb2:hp2 b2=Ent.none)=>?_
              have s2:=HSub.set_fresh hp2 (.cells 93 (syc ⟨((last+1:Nat):Int),o,p,due,text⟩) 0) hb2
              have y1:=k1 (hs2.trans s2)
              have y2:=k2 (hs2.trans s2)
              try simp only [ptrN_some,Nat.zero_add,y1,y2,ldV_some,slcV_slice,intV_int,t4_cells,ldL_some,hz,syz,syc_splice]
              refine app2 _ a2 c2 b2 (hs2.trans s2) hf2 (hrow2.sub s2) (HP.set_eq ..) fun hp3 a3 c3 hs3 hf3 hrow3=>?_
              simp only [slcV_slice,ptrN_some,Nat.zero_add]
              exact fin hp3 a3 c3 hs3 hf3 hrow3))
theorem cut_filter {L:List Sy} (hn:(L.map (·.id)).Nodup) {b:Nat} (hb:b<L.length):L.take b++L.drop (b+1)=L.filter fun z=>decide (z.id≠L[b].id):=by
  have e:L=L.take b++L[b]::L.drop (b+1):=by rw [← List.drop_eq_getElem_cons hb,List.take_append_drop]
  have key:∀ (y:Sy) (A B:List Sy),((A++y::B).map (·.id)).Nodup→A++B=(A++y::B).filter fun z=>decide (z.id≠y.id):=by
    intro y A B h
    rw [List.map_append,List.map_cons] at h
    have h2:=List.nodup_append.1 h
    have h3:=List.nodup_cons.1 h2.2.1
    rw [List.filter_append,List.filter_cons]
    have:decide (y.id≠y.id)=false:=by simp
    rw [this]
    simp only [Bool.false_eq_true,if_false]
    congr 1
    · refine (List.filter_eq_self.2 fun z hz=>?_).symm
      have:=h2.2.2 _ (List.mem_map.2 ⟨z,hz,rfl⟩) y.id (by simp)
      simpa using this
    · refine (List.filter_eq_self.2 fun z hz=>?_).symm
      have:z.id≠y.id:=fun e'=>h3.1 (e'▸List.mem_map.2 ⟨z,hz,rfl⟩)
      simpa using this
  have:=key L[b] (L.take b) (L.drop (b+1)) (by rw [← e]; exact hn)
  rw [← e] at this
  exact this
theorem N52 {mx:Int} {ps:Nat→HP} {j:Nat} {i:Nat} (hP:Parts hp ps) (h:RefS (ps j) r mx last L) (hi:i<L.length) (hl:L.length≤1000000)
    (hK:∀ l hp',RefS l r mx last (L.take i++L.drop (i+1))→Parts hp' (pu ps j l)→K (.agg ⟨syc L[i]⟩) hp'):CF Tryd.prog 52 [ptr r 0,.int .i64 i] hp K:=by
  refine CF.part hP j (C52 (K:=fun u l=>u=.agg ⟨syc L[i]⟩∧RefS l r mx last (L.take i++L.drop (i+1))) h hi hl fun l hl=>⟨rfl,hl⟩) ?_
  rintro u l hp' ⟨rfl,hl⟩ hP'
  exact hK l hp' hl hP'
/-- Where the first of those that are due first stands, of so many. -/
def bestS (now:Int) (L:List Sy) (i:Nat) (v:Int):Prop:=
  (v=-1∧∀ j (hj:j<L.length),j<i→¬ L[j].due≤now) ∨
  ∃ (b:Nat) (hb:b<L.length),b<i∧v=b∧L[b].due≤now∧∀ j (hj:j<L.length),j<i→L[j].due≤now→L[b].due<L[j].due∨(L[b].due=L[j].due∧b≤j)
set_option maxHeartbeats 2000000 in
theorem C54 {mx:Int} {now:Int} {w:List Th} (h:RefS hq r mx last L) (hl:L.length≤100000) (hasc:(L.map (·.id)).Pairwise (· < ·)) (hQ:QOk Sy.id Sy.due L w)
    (hK:∀ ps hp' a c,Parts hp' ps→RefS (ps 0) r mx last (restL Sy.due now L)→Row (ps 1) a (popsL Sy.id now L w).length c 93 13 ((popsL Sy.id now L w).flatMap syc)→K (.slice a (popsL Sy.id now L w).length c) hp'):CF Tryd.prog 54 [ptr r 0,.int .i64 now] hq K:=by
  refine F54_ok _ now hq K ?_
  unfold F54 F54_j1
  refine LoopP.by (J:=fun k (st:Option Addr × Nat × Nat) hp=>∃ (ps:Nat→HP) (L':List Sy) (w':List Th) (out:List Sy),k=w'.length∧Parts hp ps∧RefS (ps 0) r mx last L' ∧
      st.2.1=out.length∧Row (ps 1) st.1 st.2.1 st.2.2 93 13 (out.flatMap syc)∧QOk Sy.id Sy.due L' w'∧(L'.map (·.id)).Pairwise (· < ·)∧L'.length≤100000 ∧
      out++popsL Sy.id now L' w'=popsL Sy.id now L w∧restL Sy.due now L'=restL Sy.due now L) ?_
    (n:=w.length) ⟨pu (fun _ _=>.none) 0 hq,L,w,[],rfl,Parts.one (HSub.refl hq),by rw [pu_eq]; exact h,rfl,.inl ⟨rfl,rfl,rfl,rfl⟩,hQ,hasc,hl,rfl,rfl⟩
  rintro I k ⟨a,n,c⟩ hp ⟨ps,L',w',out,hk,hP,hS,hn,hrow,hQ',hasc',hl',hout,hrest⟩ hI
  simp only at hn hrow
  subst hn
  unfold F54_l2 F54_j4
  have hS':=hS.sub (hP.sub 0)
  obtain ⟨a0,c0,g1,g2⟩:=hS'
  have hc2:hp.cell r 2=some (.slice a0 L'.length c0):=HP.cell_of g1
  have hids:(L'.map (·.id)).Nodup:=hasc'.imp fun h e=>by omega
  have three:∀ v,bestS now L' L'.length v→F54_j3 (some ⟨r,0,none⟩) now a out.length c v hp I K:=by
    intro v hv
    unfold F54_j3
    rcases hv with ⟨rfl,hno⟩ | ⟨b,hb,_,rfl,hbn,hmin⟩
    · rw [decide_eq_true (by omega),ite2_true]
      have hst:∀ t,w'.head?=some t→¬ t.2≤now:=by
        intro t ht hle
        cases hw:w' with
        | nil=>rw [hw] at ht; cases ht
        | cons t' w2=>
          rw [hw] at ht hQ'
          cases ht
          obtain ⟨x,hx,_,hx2,_⟩:=hQ'.head
          obtain ⟨j,hj,rfl⟩:=List.getElem_of_mem hx
          exact hno j hj hj (by omega)
      obtain ⟨e1,e2⟩:=pops_stop hQ' hst
      rw [e1,List.append_nil] at hout
      rw [e2] at hrest
      subst hout
      exact hK ps hp a c hP (hrest▸hS) hrow
    · rw [decide_eq_false (by omega),ite2_false]
      cases hw:w' with
      | nil=>
        rw [hw] at hQ'
        have:=hQ'.len
        simp at this
        omega
      | cons t w2=>
        subst hw
        obtain ⟨x,hx,hx1,hx2,hx3⟩:=hQ'.head
        obtain ⟨j,hj,rfl⟩:=List.getElem_of_mem hx
        have hmono:∀ i j (hi:i<L'.length) (hj:j<L'.length),i<j→L'[i].id<L'[j].id:=fun i j hi hj hij=>by
          have:=List.pairwise_iff_getElem.1 hasc' i j (by simpa using hi) (by simpa using hj) hij
          simpa using this
        have hd:=hx3 L'[b] (List.getElem_mem hb)
        have hm:=hmin j hj hj (by omega)
        have hbj:b=j:=by
          rcases Nat.lt_trichotomy b j with h | h | h
          · have:=hmono b j hb hj h; omega
          · exact h
          · omega
        subst hbj
        have hle:t.2≤now:=by omega
        obtain ⟨e1,e2⟩:=pops_step (x:=L'[b]) hids hQ' hle (List.getElem_mem hb) hx1
        refine N52 (j:=0) hP hS hb (by omega) fun l hp1 hl1 P1=>?_
        rw [aggV_agg]
        refine ifI (syc_len _) ?_
        intro b4 hb4
        simp only [syz,syc_splice]
        have P2:Parts (hp1.set b4 (.cells 93 (syc L'[b]) 0)) (pu ps 0 l):=P1.weak (HSub.set_fresh _ _ hb4)
        have hlen:out.length+1≤100000:=by
          have h1:=congrArg List.length hout
          rw [e1] at h1
          simp only [List.length_append,List.length_cons] at h1
          have h2:(popsL Sy.id now L w).length≤w.length:=by
            unfold popsL
            exact Nat.le_trans (List.length_filterMap_le _ _) ((List.takeWhile_sublist _).length_le)
          have h3:=hQ.len
          omega
        refine opS_appP (e:=93) (size:=13) (bytes:=64) (by kernel_rfl) P2 1 (s:=a) (n:=out.length) (c:=c) (xs:=out.flatMap syc) (by rw [pu_ne _ _ (by omega)]; exact hrow)
          (ys:=syc L'[b]) (.inr ⟨b4,0,rfl,by rw [HP.cellN_of (HP.set_eq ..)]; exact cellsN_all rfl⟩) (syc_one _) (by simp [syc]) (by omega) (by omega) ?_
        intro a2 c2 hp2 rr hr P3
        rw [slcV_slice]
        rw [cut_filter hids hb,hx1] at hl1
        have hQ2:=hQ'.cut (i:=t.1)
        rw [hQ'.tail] at hQ2
        refine hI w2.length _ _ (by rw [hk]; simp) ⟨_,_,w2,out++[L'[b]],rfl,P3,?_,?_,?_,hQ2,?_,?_,?_,?_⟩
        · rw [pu_ne _ _ (by omega),pu_eq]; exact hl1
        · simp
        · rw [pu_eq]
          show Row rr a2 (out.length+1) c2 93 13 _
          rw [List.flatMap_append]
          simpa using hr
        · exact hasc'.sublist (List.filter_sublist.map _)
        · exact Nat.le_trans (List.length_filter_le _ _) hl'
        · rw [← hout,e1,List.append_assoc]; rfl
        · rw [e2]; exact hrest
  refine LoopP.by (J:=fun k2 (st:Int × Int) hp'=>hp'=hp∧∃ i:Nat,st.2=i∧i+k2=L'.length∧bestS now L' i st.1) ?_ (n:=L'.length) ⟨rfl,0,rfl,by omega,.inl ⟨rfl,fun j _ hj=>by omega⟩⟩
  rintro I5 k2 ⟨v,x⟩ hp' ⟨rfl,i,hx,hik,hb⟩ hI5
  simp only at hx hb
  subst hx
  unfold F54_l5
  simp only [ptrN_some,Nat.zero_add,hc2,ldV_some,slcV_slice]
  by_cases hi:i<L'.length
  · rw [decide_eq_true (by omega:(i:Int)<(L'.length:Nat)),ite2_true]
    obtain ⟨b',off,rfl,g,gd⟩:=Shows.at g2.shows rfl hi
    have gd11:=gd 11 _ (syc_due _)
    simp only [ptrN_some,Int.toNat_natCast,gd11,ldV_some,intV_int]
    refine ⟨by omega,by omega,?_⟩
    have w1:IntKind.wrap .i64 ((i:Int)+1)=((i+1:Nat):Int):=wi (by omega) (by omega)
    have yes:(∀ j (hj:j<L'.length),j<i→L'[j].due≤now→L'[i].due<L'[j].due)→L'[i].due≤now→F54_j7 (some ⟨r,0,none⟩) now a out.length c v i true hp' I I5 K:=by
      intro hlt hn
      unfold F54_j7 F54_j6
      rw [ite2_true,w1]
      refine hI5 (k2-1) _ _ (by omega) ⟨rfl,i+1,rfl,by omega,.inr ⟨i,hi,by omega,rfl,hn,fun j hj hji hjn=>?_⟩⟩
      by_cases e:j=i
      · subst e; exact .inr ⟨rfl,Nat.le_refl _⟩
      · exact .inl (hlt j hj (by omega) hjn)
    have no:bestS now L' (i+1) v→F54_j7 (some ⟨r,0,none⟩) now a out.length c v i false hp' I I5 K:=by
      intro hb'
      unfold F54_j7 F54_j6
      rw [ite2_false,w1]
      exact hI5 (k2-1) _ _ (by omega) ⟨rfl,i+1,rfl,by omega,hb'⟩
    by_cases hd:L'[i].due≤now
    · rw [decide_eq_true hd,ite2_true]
      rcases hb with ⟨rfl,hno⟩ | ⟨b,hb,hbi,rfl,hbn,hmin⟩
      · rw [decide_eq_true (by omega),ite2_true]
        exact yes (fun j hj hji hjn=>absurd hjn (hno j hj hji)) hd
      · rw [decide_eq_false (by omega),ite2_false]
        refine ⟨by omega,by omega,by omega,by omega,?_⟩
        obtain ⟨b2,off2,e2,g',gd'⟩:=Shows.at g2.shows rfl hb
        cases e2
        have gd12:=gd' 11 _ (syc_due _)
        simp only [Int.toNat_natCast,gd12,ldV_some,intV_int]
        by_cases hlt:L'[i].due<L'[b].due
        · rw [decide_eq_true hlt]
          refine yes (fun j hj hji hjn=>?_) hd
          have:=hmin j hj hji hjn
          omega
        · rw [decide_eq_false hlt]
          refine no (.inr ⟨b,hb,by omega,rfl,hbn,fun j hj hji hjn=>?_⟩)
          by_cases e:j=i
          · subst e
            rcases Nat.lt_or_ge b j with h | h
            · by_cases he:L'[b].due=L'[j].due
              · exact .inr ⟨he,by omega⟩
              · left; omega
            · omega
          · exact hmin j hj (by omega) hjn
    · rw [decide_eq_false hd,ite2_false]
      refine no ?_
      rcases hb with ⟨rfl,hno⟩ | ⟨b,hb,hbi,rfl,hbn,hmin⟩
      · refine .inl ⟨rfl,fun j hj hji=>?_⟩
        by_cases e:j=i
        · subst e; exact hd
        · exact hno j hj (by omega)
      · refine .inr ⟨b,hb,by omega,rfl,hbn,fun j hj hji hjn=>?_⟩
        by_cases e:j=i
        · subst e; exact absurd hjn hd
        · exact hmin j hj (by omega) hjn
  · rw [decide_eq_false (by omega:¬ (i:Int)<(L'.length:Nat)),ite2_false]
    have:i=L'.length:=by omega
    subst this
    exact three v hb
end
end Go.Proofs
set_option linter.unusedVariables false
set_option maxRecDepth 20000
namespace Go.Proofs
open Go Go.HL
theorem dec5 {D:Nat} {cs:List Value} (h:wellS Tryd.prog D 5 cs=true):∃ n:Int,(0≤n∧n≤255)∧cs=[.int .u8 n]:=by
  cases D with
  | zero=>cases h
  | succ D=>
    unfold wellS at h
    rw [show Tryd.prog.underlying 5=some (.int .u8) by kernel_rfl] at h
    simp only at h
    split at h
    · rename_i q n
      simp only [Bool.and_eq_true,decide_eq_true_eq] at h
      obtain ⟨rfl,hw⟩:=h
      exact ⟨n,(Go.Lit.wf_int_iff _ _).1 hw,rfl⟩
    · cases h
theorem dec3 {D:Nat} {cs:List Value} (h:wellS Tryd.prog D 3 cs=true):∃ n:Int,(-9223372036854775808≤n∧n≤9223372036854775807)∧cs=[.int .i64 n]:=by
  cases D with
  | zero=>cases h
  | succ D=>
    unfold wellS at h
    rw [show Tryd.prog.underlying 3=some (.int .i64) by kernel_rfl] at h
    simp only at h
    split at h
    · rename_i q n
      simp only [Bool.and_eq_true,decide_eq_true_eq] at h
      obtain ⟨rfl,hw⟩:=h
      exact ⟨n,(Go.Lit.wf_int_iff _ _).1 hw,rfl⟩
    · cases h
end Go.Proofs
set_option linter.unusedVariables false
set_option maxRecDepth 20000
namespace Go.Proofs
open Go Go.HL
section
variable {e:Env} {x0a:OA} {x0n x0c:Nat} {x3:Int} {hp:HP} {K:Env→PV→HP→Prop}
abbrev R30 (p n:Nat):=RW Tryd.prog 20 [] (opsAt Tryd.f30 (pth p)) (List.range n)
theorem F30_r0:R30 2 1 e V0 hp K=
 K (upd e 2 (sB false)) V0 hp:= by kernel_rfl
theorem F30_r1:R30 9 3 (upd e 0 (sS x0a x0n x0c)) V0 hp K=
 K (w4 e 0 (sS x0a x0n x0c) 4 (sS x0a x0n x0c) 5 (sI ((x0n:Nat))) 6 (sB ((decide (((x0n:Nat):Int) > 150))))) V0 hp:= by kernel_rfl
theorem F30_r2:R30 37 1 e V0 hp K=
 K (upd e 2 (sB true)) V0 hp:= by kernel_rfl
theorem F30_r3:R30 267 4 (w2 e 3 (sI x3) 0 (sS x0a x0n x0c)) V0 hp K=
 K (w6 e 3 (sI x3) 0 (sS x0a x0n x0c) 7 (sI x3) 8 (sS x0a x0n x0c) 9 (sI ((x0n:Nat))) 10 (sB ((decide (x3<x0n))))) V0 hp:= by kernel_rfl
theorem F30_r4:R30 1099 7 (w2 e 3 (sI x3) 0 (sS x0a x0n x0c)) V0 hp K=
    ((0≤x3)∧(x3<x0n)∧(ptrN x0a fun b1 o2=>ldV (HP.cell hp b1 ((o2+Int.toNat x3*6)+5)) fun v3=>strV v3 fun s4=>K (upd (w8 e 3 (sI x3) 0 (sS x0a x0n x0c) 13 (sS x0a x0n x0c) 14 (sI x3) 15 (sQ b1 (o2+Int.toNat x3*6)) 16 (sQ b1 ((o2+Int.toNat x3*6)+5)) 17 (sT s4) 18 (sI ((ByteArray.size s4:Nat)))) 19 (sB ((decide (((ByteArray.size s4:Nat):Int) > 100))))) V0 hp)):=by kernel_rfl
theorem F30_r5:R30 4683 1 e V0 hp K=
 K (upd e 2 (sB true)) V0 hp:= by kernel_rfl
theorem F30_r6:R30 459 3 (upd e 3 (sI x3)) V0 hp K=
 K (w4 e 3 (sI x3) 11 (sI x3) 12 (sI ((wr (x3+1)))) 3 (sI ((wr (x3+1))))) V0 hp:= by kernel_rfl
theorem F30_r7:R30 23 1 e V0 hp K=
 K (upd e 2 (sB false)) V0 hp:= by kernel_rfl
def F30_l2 (x0a:OA) (x0n x0c:Nat) (K:Kh) (I2:(Int)→HP→Prop) (x3:Int) (hp:HP):Prop:=
  (ite2 (decide (x3<x0n)) ((0≤x3)∧(x3<x0n)∧(ptrN x0a fun b1 o2=>ldV (HP.cell hp b1 ((o2+Int.toNat x3*6)+5)) fun v3=>strV v3 fun s4=>ite2 (decide (((ByteArray.size s4:Nat):Int) > 100)) (K (.bool true) hp) (I2 (IntKind.wrap .i64 (x3+1)) hp))) (K (.bool false) hp))
def F30_j1 (x0a:OA) (x0n x0c:Nat) (x3:Int) (hp:HP) (K:Kh):Prop:=
  (LoopP (σ:=Int) (fun I s hp=>F30_l2 x0a x0n x0c  K I s hp) x3 hp)
theorem F30_r8:R30 19 1 e V0 hp K=
 K (upd e 3 (sI 0)) V0 hp:= by kernel_rfl
def F30 (x0a:OA) (x0n x0c:Nat) (hp:HP) (K:Kh):Prop:=
  (ite2 (decide (((x0n:Nat):Int) > 150)) (K (.bool true) hp) (F30_j1 x0a x0n x0c 0 hp  K))
noncomputable abbrev o30 (k n:Nat):Code:=.region k (opsAt Tryd.f30 (pth n)) false
noncomputable def F30_code:Code:=(.seq (o30 0 2) (.seq (.seq (o30 1 9) (.cond (.tmp 6) (.seq (o30 2 37) .ret) .skip)) (.seq (.seq (o30 3 19) (.block 0 (.loop (.seq (.seq (o30 4 267) (.cond (.tmp 10) .skip (.exit 0))) (.seq (.block 1 (.seq (o30 6 1099) (.cond (.tmp 19) (.seq (o30 7 4683) .ret) .skip))) (o30 5 459)))))) (.seq (o30 8 23) .ret))))
theorem F30_body:Tryd.f30.body=some F30_code:=by kernel_rfl
theorem F30_ok (x0a:OA) (x0n x0c:Nat) (hp:HP) (K:Kh) (h:F30 x0a x0n x0c hp K):CF Tryd.prog 30 [(.slice x0a x0n x0c)] hp K:=by
 refine .inl ⟨by kernel_rfl,AC.intro (N:=20) Tryd.func30 F30_body rfl (Nat.le_of_ble_eq_true rfl) ?_⟩
 unfold F30 at h
 refine Ar F30_r0 ?_ (r1 0 Rn) (z1 Sn) Sn
 refine Aq (Ar F30_r1 ?_ (r1 0 Rn) (z1 Sn) Sn)
 refine Ac h rfl (fun h=>?_) (fun h=>?_)
 ·refine Ar F30_r2 ?_ Rn Sn Sn
  refine AWP.ret ?_
  exact h
 ·refine AWP.skip (Aq (As (fun env pv hp=>∃ x0a x0n x0c x3,Sub (w2 E0 3 (sI x3) 0 (sS x0a x0n x0c)) env∧Sub V0 pv∧F30_j1 x0a x0n x0c x3 hp  K) ?_ ?_))
  ·refine Ag F30_r8 ?_ (r1 0 Rn) (z1 Sn) Sn
   exact ⟨_,_,_,_,(z2 Sn),Sn,h⟩
  ·rintro env pv hp ⟨x0a,x0n,x0c,x3,he,hv,h⟩
   refine Ae ?_ (r2 0 3 Rn) he hv
   unfold F30_j1 at h
   refine AWP.block (AWP.loop (σ:=Int) _ (fun s=>w2 E0 3 (sI s) 0 (sS x0a x0n x0c)) (fun s=>V0) x3 h (fun s=>r2 0 3 Rn) (z2 Sn) Sn ?_)
   intro I2 x3 hp h
   replace h:F30_l2 x0a x0n x0c  K I2 x3 hp:=h
   unfold F30_l2 at h
   refine Aq (Ar F30_r3 ?_ (r2 0 3 Rn) (z2 Sn) Sn)
   refine Ac h rfl (fun h=>?_) (fun h=>?_)
   ·refine AWP.skip (Aq (AWP.block (Ar F30_r4 ?_ (r2 0 3 Rn) (z2 Sn) Sn)))
    refine ⟨h.1,h.2.1,mN h.2.2 fun b1 o2 h=>mV h fun v3 h=>ms h fun s4 h=>?_⟩
    refine Ac h rfl (fun h=>?_) (fun h=>?_)
    ·refine Ar F30_r5 ?_ Rn Sn Sn
     refine AWP.ret ?_
     exact h
    ·refine AWP.skip (Ag F30_r6 ?_ (r2 3 0 Rn) (z2 Sn) Sn)
     exact ⟨_,(z2 Sn),Sn,h⟩
   ·refine AWP.exit ?_
    refine Ar F30_r7 ?_ Rn Sn Sn
    refine AWP.ret ?_
    exact h
end
end Go.Proofs
set_option linter.unusedVariables false
set_option linter.unusedSimpArgs false
set_option maxRecDepth 20000
namespace Go.Proofs
open Go Go.HL
theorem dec9 {D:Nat} {cs:List Value} (h:wellS Tryd.prog D 9 cs=true):∃ s:ByteArray,cs=[.string s]:=by
  cases D with
  | zero=>cases h
  | succ D=>
    unfold wellS at h
    rw [show Tryd.prog.underlying 9=some .string by kernel_rfl] at h
    simp only at h
    split at h
    · exact ⟨_,rfl⟩
    · cases h
/-- An act: what, two bytes, a port, a due, a text. -/
structure A24 where
  what:Int
  a:Int
  b:Int
  port:Int
  due:Int
  text:ByteArray
def a24 (x:A24):List Value:=[.int .u8 x.what,.int .u8 x.a,.int .u8 x.b,.int .i64 x.port,.int .i64 x.due,.string x.text]
theorem a24_len (x:A24):(a24 x).length=6:=rfl
theorem a24_one (x:A24):(a24 x).all one=true:=rfl
def okA24 (x:A24):Prop:=okB x.a∧okB x.b∧okZ x.port∧okZ x.due
def a240:A24:=⟨0,0,0,0,0,⟨#[]⟩⟩
theorem a24z:([(Value.int .u8 0),(Value.int .u8 0),(Value.int .u8 0),(Value.int .i64 0),(Value.int .i64 0),(Value.string ⟨#[]⟩)]:List Value)=a24 a240:=rfl
theorem a24_splice (x y:A24):splice (a24 x) 0 (a24 y)=a24 y:=splice_all rfl
theorem a24_0 (x:A24):(a24 x)[0]?=some (.int .u8 x.what):=rfl
theorem a24_1 (x:A24):(a24 x)[1]?=some (.int .u8 x.a):=rfl
theorem a24_2 (x:A24):(a24 x)[2]?=some (.int .u8 x.b):=rfl
theorem a24_3 (x:A24):(a24 x)[3]?=some (.int .i64 x.port):=rfl
theorem a24_4 (x:A24):(a24 x)[4]?=some (.int .i64 x.due):=rfl
theorem a24_5 (x:A24):(a24 x)[5]?=some (.string x.text):=rfl
theorem t4z:([(Value.int .u8 0),(Value.int .u8 0),(Value.int .u8 0),(Value.int .u8 0),(Value.int .i64 0)]:List Value)=t4 zT:=rfl
theorem t4_splice (x y:Q × Int):splice (t4 x) 0 (t4 y)=t4 y:=splice_all rfl
theorem dec59:∀ (D:Nat) (cs:List Value),wellS Tryd.prog D 59 cs=true→∃ a:A24,okA24 a∧cs=a24 a:=by
  intro D cs h
  cases D with
  | zero=>cases h
  | succ D=>
    obtain ⟨hl,hf⟩:=wellS_struct (fs0:=[(5,0),(5,1),(5,2),(3,3),(3,4),(9,5)]) (by kernel_rfl) (by simp) h
    rw [show Tryd.prog.cellsOf 59=6 by kernel_rfl] at hl
    have f0:=hf (5,0) (by simp)
    have f1:=hf (5,1) (by simp)
    have f2:=hf (5,2) (by simp)
    have f3:=hf (3,3) (by simp)
    have f4:=hf (3,4) (by simp)
    have f5:=hf (9,5) (by simp)
    simp only [show Tryd.prog.cellsOf 5=1 by kernel_rfl,show Tryd.prog.cellsOf 3=1 by kernel_rfl,show Tryd.prog.cellsOf 9=1 by kernel_rfl] at f0 f1 f2 f3 f4 f5
    obtain ⟨n0,h0,e0⟩:=dec5 f0
    obtain ⟨n1,h1,e1⟩:=dec5 f1
    obtain ⟨n2,h2,e2⟩:=dec5 f2
    obtain ⟨n3,h3,e3⟩:=dec3 f3
    obtain ⟨n4,h4,e4⟩:=dec3 f4
    obtain ⟨s5,e5⟩:=dec9 f5
    match cs,hl with
    | [c0,c1,c2,c3,c4,c5],_=>
      simp only [List.drop_zero,List.drop_succ_cons,List.take_succ_cons,List.take_zero,List.cons.injEq,and_true] at e0 e1 e2 e3 e4 e5
      subst e0; subst e1; subst e2; subst e3; subst e4; subst e5
      exact ⟨⟨n0,n1,n2,n3,n4,s5⟩,⟨h1,h2,h3,h4⟩,rfl⟩
section
variable {hp:HP} {K:Value→HP→Prop}
theorem C30 {s:Option Addr} {n c:Nat} {l:List A24} (hs:Shows hp s n 6 (l.flatMap a24)) (hl:l.length=n) (h:∀ b:Bool,(b=false→n≤150∧∀ x∈l,x.text.size≤100)→K (.bool b) hp):CF Tryd.prog 30 [.slice s n c] hp K:=by
  refine F30_ok s n c hp K ?_
  unfold F30
  have yes:K (.bool true) hp:=h true (fun e=>by cases e)
  by_cases h1:n > 150
  · rw [decide_eq_true (by omega:((n:Nat):Int) > 150),ite2_true]; exact yes
  rw [decide_eq_false (by omega:¬ ((n:Nat):Int) > 150),ite2_false]
  unfold F30_j1
  refine LoopP.by (J:=fun k (x:Int) hp'=>hp'=hp∧∃ i:Nat,x=i∧i+k=n∧∀ y∈l.take i,y.text.size≤100) ?_ (n:=n) ⟨rfl,0,rfl,by omega,fun y hy=>by simp at hy⟩
  rintro I k x hp' ⟨rfl,i,rfl,hik,ha⟩ hI
  unfold F30_l2
  by_cases hi:i<n
  · rw [decide_eq_true (by omega:(i:Int)<(n:Int)),ite2_true]
    obtain ⟨b,o,rfl,hc⟩:=hs.get a24_len hl hi
    have hc5:=HP.cell_cellN hc (a24_5 _)
    simp only [ptrN_some,Int.toNat_natCast,hc5,ldV_some,strV_string]
    refine ⟨by omega,by omega,?_⟩
    by_cases h2:(l[i]'(hl▸hi)).text.size > 100
    · rw [decide_eq_true (by omega),ite2_true]; exact yes
    · have w1:IntKind.wrap .i64 ((i:Int)+1)=((i+1:Nat):Int):=wi (by omega) (by omega)
      rw [decide_eq_false (by omega),ite2_false,w1]
      refine hI (k-1) _ _ (by omega) ⟨rfl,i+1,rfl,by omega,fun y hy=>?_⟩
      rw [List.take_succ_eq_append_getElem (hl▸hi)] at hy
      rcases List.mem_append.1 hy with hy | hy
      · exact ha y hy
      · rw [List.mem_singleton.1 hy]; omega
  · rw [decide_eq_false (by omega:¬ (i:Int)<(n:Int)),ite2_false]
    refine h false fun _=>⟨by omega,?_⟩
    rw [List.take_of_length_le (by omega)] at ha
    exact ha
end
end Go.Proofs
set_option linter.unusedVariables false
set_option maxRecDepth 20000
set_option maxHeartbeats 4000000
namespace Go.Proofs
open Go Go.HL
section
variable {e E:Env} {x0:Int} {x1a:OA} {x1n x1c:Nat} {x5:OA} {x6:Int} {x7:OA} {x8:Int} {x13:Bool} {x14 x16 x107:Int} {k9 k10 k11 k12 k15:List Value} {hp:HP} {K:Env→PV→HP→Prop}
abbrev R9 (p n:Nat):=RW Tryd.prog 186 [9,10,11,12,15,59,61,64,106,113,115,121,123,158,162] (opsAt Tryd.f9 (pth p)) (List.range n)
theorem F9_r0:R9 2 1 e V0 hp K=
 K (upd e 4 (sB false)) V0 hp:= by kernel_rfl
theorem F9_r1:R9 9 2 (upd e 1 (sS x1a x1n x1c)) V0 hp K=
 CF Tryd.prog 30 [(.slice x1a x1n x1c)] hp fun u1 h2=>(boolV u1 fun q3=>K (w3 e 1 (sS x1a x1n x1c) 17 (sS x1a x1n x1c) 18 (sB q3)) V0 h2):= by kernel_rfl
theorem F9_r2:R9 37 2 e V0 hp K=
 CF Tryd.prog 31 [] hp fun u1 h2=>(boolV u1 fun q3=>K (w2 e 19 (sB q3) 4 (sB q3)) V0 h2):= by kernel_rfl
theorem F9_r3:R9 11 7 (upd e 0 (sI x0)) V0 hp K=
 CF Tryd.prog 32 [(.int .i64 x0)] hp fun u1 h2=>(tup2V u1 fun u3 u4=>ptrV u3 fun p5=>intV u4 .i64 fun i6=>K (w8 e 0 (sI x0) 21 (sI x0) 22 (sV (.tuple ⟨[(.pointer p5),(.int .i64 i6)]⟩)) 20 (sV (.tuple ⟨[(.pointer p5),(.int .i64 i6)]⟩)) 23 (sP p5) 24 (sI i6) 5 (sP p5) 6 (sI i6)) V0 h2):= by kernel_rfl
theorem F9_r4 (h:E=upd (upd e 6 (sI x6)) 5 (sP x5)):R9 151 10 E V0 hp K=
 ite2 (Option.isNone x5) (ite2 (x6==1) (CF Tryd.prog 31 [] hp fun u1 h2=>boolV u1 fun q3=>K (w2 (w8 E 31 (sP x5) 32 (sB ((Option.isNone x5))) 33 (sB true) 34 (sI x6) 35 (sB ((x6==1))) 36 (sB ((x6==1))) 37 (sB true) 38 (sB q3)) 39 (sB q3) 4 (sB q3)) V0 h2) (K (w2 (w8 E 31 (sP x5) 32 (sB ((Option.isNone x5))) 33 (sB true) 34 (sI x6) 35 (sB ((x6==1))) 36 (sB ((x6==1))) 37 (sB false) 38 sU) 39 (sB false) 4 (sB false)) V0 hp)) (K (w2 (w8 E 31 (sP x5) 32 (sB ((Option.isNone x5))) 33 (sB false) 34 sU 35 sU 36 (sB false) 37 (sB false) 38 sU) 39 (sB false) 4 (sB false)) V0 hp):= by subst h; kernel_rfl
theorem F9_r5:R9 303 1 e V0 hp K=
 K (upd e 4 (sB false)) V0 hp:= by kernel_rfl
theorem F9_r6:R9 95 4 (upd e 0 (sI x0)) V0 hp K=
    (∀ b1:Nat,hp b1=.none→(K (w5 e 0 (sI x0) 46 (sI x0) 47 (sV (.agg ⟨[(.int .i64 x0),.int .i64 0,(.slice none 0 0)]⟩)) 48 (sQ b1 0) 7 (sQ b1 0)) V0 (HP.set hp b1 (.cells 90 [(.int .i64 x0),.int .i64 0,(.slice none 0 0)] 0)))):=by kernel_rfl
theorem F9_r7:R9 383 2 e V0 hp K=
 CF Tryd.prog 31 [] hp fun u1 h2=>(boolV u1 fun q3=>K (w2 e 185 (sB q3) 4 (sB q3)) V0 h2):= by kernel_rfl
def F9_j3 (hp:HP) (K:Kh):Prop:=
  (CF Tryd.prog 31 [] hp fun u17 h18=>boolV u17 fun q19=>K (.bool q19) h18)
theorem F9_r8:R9 4287 4 (w2 e 8 (sI x8) 1 (sS x1a x1n x1c)) V0 hp K=
 K (w6 e 8 (sI x8) 1 (sS x1a x1n x1c) 49 (sI x8) 50 (sS x1a x1n x1c) 51 (sI ((x1n:Nat))) 52 (sB ((decide (x8<x1n))))) V0 hp:= by kernel_rfl
theorem F9_r9:R9 17599 6 (w2 e 8 (sI x8) 1 (sS x1a x1n x1c)) V0 hp K=
    ((0≤x8)∧(x8<x1n)∧(ptrN x1a fun b1 o2=>ldL (HP.cellN hp b1 (o2+Int.toNat x8*6) 6) fun l3=>if List.length l3=6 then (if List.all l3 one=true then (if 0+List.length l3≤List.length [(Value.int .u8 0),.int .u8 0,.int .u8 0,.int .i64 0,.int .i64 0,.string ⟨#[]⟩] then (K (w7 e 8 (sI x8) 1 (sS x1a x1n x1c) 55 (sS x1a x1n x1c) 56 (sI x8) 57 (sQ b1 (o2+Int.toNat x8*6)) 58 (sA l3) 9 (sR 9 0)) (w2 V0 9 (59,[.int .u8 0,.int .u8 0,.int .u8 0,.int .i64 0,.int .i64 0,.string ⟨#[]⟩]) 9 (59,(splice [.int .u8 0,.int .u8 0,.int .u8 0,.int .i64 0,.int .i64 0,.string ⟨#[]⟩] 0 l3))) hp) else False) else False) else False)):=by kernel_rfl
theorem F9_r10:R9 42175 7 (upd e 9 (sR 9 0)) (upd V0 9 (59,k9)) hp K=
 ldV (k9)[1]? fun v1=>(intV v1 .u8 fun i2=>ldV (k9)[3]? fun v3=>intV v3 .i64 fun i4=>CF Tryd.prog 34 [(.int .u8 i2),(.int .i64 i4)] hp fun u5 h6=>aggV u5 fun l7=>if List.length l7=5 then (if List.all l7 one=true then (if 0+List.length l7≤List.length [(Value.int .u8 0),.int .u8 0,.int .u8 0,.int .u8 0,.int .i64 0] then (K (w7 e 9 (sR 9 0) 59 (sR 9 1) 60 (sV (.int .u8 i2)) 61 (sR 9 3) 62 (sI i4) 63 (sA l7) 10 (sR 10 0)) (w3 V0 9 (59,k9) 10 (34,[.int .u8 0,.int .u8 0,.int .u8 0,.int .u8 0,.int .i64 0]) 10 (34,(splice [.int .u8 0,.int .u8 0,.int .u8 0,.int .u8 0,.int .i64 0] 0 l7))) h6) else False) else False) else False):= by kernel_rfl
theorem F9_r11:R9 91327 5 (upd e 9 (sR 9 0)) (w2 V0 10 (34,k10) 9 (59,k9)) hp K=
 ldV (k9)[2]? fun v1=>(intV v1 .u8 fun i2=>CF Tryd.prog 34 [(.int .u8 i2),(.int .i64 9)] hp fun u3 h4=>aggV u3 fun l5=>if List.length l5=5 then (if List.all l5 one=true then (if 0+List.length l5≤List.length [(Value.int .u8 0),.int .u8 0,.int .u8 0,.int .u8 0,.int .i64 0] then (K (w5 e 9 (sR 9 0) 64 (sR 9 2) 65 (sV (.int .u8 i2)) 66 (sA l5) 11 (sR 11 0)) (w4 V0 10 (34,k10) 9 (59,k9) 11 (34,[.int .u8 0,.int .u8 0,.int .u8 0,.int .u8 0,.int .i64 0]) 11 (34,(splice [.int .u8 0,.int .u8 0,.int .u8 0,.int .u8 0,.int .i64 0] 0 l5))) h4) else False) else False) else False):= by kernel_rfl
theorem F9_r12 (h:E=upd (w2 e 11 (sR 11 0) 10 (sR 10 0)) 5 (sP x5)):R9 189631 10 E (w3 V0 11 (34,k11) 10 (34,k10) 9 (59,k9)) hp K=
 ldL (cellsN k10 0 5) fun l1=>(ldL (cellsN k11 0 5) fun l2=>CF Tryd.prog 39 [(.pointer x5),(.agg ⟨l1⟩),(.agg ⟨l2⟩)] hp fun u3 h4=>tup2V u3 fun u5 u6=>aggV u5 fun l7=>boolV u6 fun q8=>if List.length l7=13 then (if List.all l7 one=true then (if 0+List.length l7≤List.length [(Value.int .i64 0),.int .u8 0,.int .u8 0,.int .u8 0,.int .u8 0,.int .i64 0,.int .u8 0,.int .u8 0,.int .u8 0,.int .u8 0,.int .i64 0,.int .i64 0,.string ⟨#[]⟩] then (K (upd (w8 E 68 (sP x5) 69 (sA l1) 70 (sA l2) 71 (sV (.tuple ⟨[(.agg ⟨l7⟩),(.bool q8)]⟩)) 67 (sV (.tuple ⟨[(.agg ⟨l7⟩),(.bool q8)]⟩)) 72 (sA l7) 73 (sB q8) 12 (sR 12 0)) 13 (sB q8)) (w5 V0 11 (34,k11) 10 (34,k10) 9 (59,k9) 12 (62,[.int .i64 0,.int .u8 0,.int .u8 0,.int .u8 0,.int .u8 0,.int .i64 0,.int .u8 0,.int .u8 0,.int .u8 0,.int .u8 0,.int .i64 0,.int .i64 0,.string ⟨#[]⟩]) 12 (62,(splice [.int .i64 0,.int .u8 0,.int .u8 0,.int .u8 0,.int .u8 0,.int .i64 0,.int .u8 0,.int .u8 0,.int .u8 0,.int .u8 0,.int .i64 0,.int .i64 0,.string ⟨#[]⟩] 0 l7))) h4) else False) else False) else False):= by subst h; kernel_rfl
theorem F9_r13 (h:E=upd (w2 e 11 (sR 11 0) 10 (sR 10 0)) 7 (sP x7)):R9 386239 5 E (w4 V0 12 (62,k12) 11 (34,k11) 10 (34,k10) 9 (59,k9)) hp K=
 ldL (cellsN k10 0 5) fun l1=>(ldL (cellsN k11 0 5) fun l2=>CF Tryd.prog 49 [(.pointer x7),(.agg ⟨l1⟩),(.agg ⟨l2⟩)] hp fun u3 h4=>intV u3 .i64 fun i5=>K (w5 E 74 (sP x7) 75 (sA l1) 76 (sA l2) 77 (sI i5) 14 (sI i5)) (w4 V0 12 (62,k12) 11 (34,k11) 10 (34,k10) 9 (59,k9)) h4):= by subst h; kernel_rfl
theorem F9_r14:R9 4973759 1 e V0 hp K=
 K (upd e 4 (sB false)) V0 hp:= by kernel_rfl
theorem F9_r15:R9 10478783 1 e V0 hp K=
 K (upd e 4 (sB false)) V0 hp:= by kernel_rfl
theorem F9_r16:R9 7359 3 (upd e 8 (sI x8)) V0 hp K=
 K (w4 e 8 (sI x8) 53 (sI x8) 54 (sI ((wr (x8+1)))) 8 (sI ((wr (x8+1))))) V0 hp:= by kernel_rfl
def F9_j8 (x1a:OA) (x1n x1c:Nat) (x5 x7:OA) (x8:Int) (x184:Bool) (hp:HP) (I5:(Int)→HP→Prop) (K:Kh):Prop:=
  (ite2 x184 (K (.bool false) hp) (I5 (IntKind.wrap .i64 (x8+1)) hp))
theorem F9_r17 {e:Env} {x5:OA} {x7:OA} {hp:HP} {K:Env→PV→HP→Prop}:RW Tryd.prog 186 [9,10,11,12,15,59,61,64,106,113,115,121,123,158,162] (opsAt Tryd.f9 (pth 3138751)) [0,1,2,3,4,5,6,7,8,9,10,11,12,13,14,15,16,17] (w2 e 7 (sP x7) 5 (sP x5)) V0 hp K=
 CF Tryd.prog 55 [(.pointer x5)] hp fun u1 h2=>(slcV u1 fun a3 n4 c5=>ptrN x7 fun b6 o7=>ldV (HP.cell h2 b6 (o7+2)) fun v8=>slcV v8 fun a9 n10 c11=>CF Tryd.prog 53 [(.slice a3 n4 c5),(.slice a9 n10 c11)] h2 fun u12 h13=>boolV u12 fun q14=>ite2 (!q14) (K (w4 (w8 (w8 e 7 (sP x7) 5 (sP x5) 167 (sP x5) 168 (sS a3 n4 c5) 169 (sP x7) 170 (sQ b6 o7) 171 (sQ b6 (o7+2)) 172 (sS a9 n10 c11)) 173 (sB q14) 174 (sB ((!q14))) 175 (sB true) 176 sU 177 sU 178 sU 179 sU 180 sU) 181 sU 182 sU 183 sU 184 (sB true)) V0 h13) (CF Tryd.prog 38 [(.pointer x5)] h13 fun u15 h16=>intV u15 .i64 fun i17=>ptrN x7 fun b18 o19=>ldV (HP.cell h16 b18 (o19+2)) fun v20=>slcV v20 fun a21 n22 c23=>K (w4 (w8 (w8 e 7 (sP x7) 5 (sP x5) 167 (sP x5) 168 (sS a3 n4 c5) 169 (sP x7) 170 (sQ b6 o7) 171 (sQ b6 (o7+2)) 172 (sS a9 n10 c11)) 173 (sB q14) 174 (sB ((!q14))) 175 (sB false) 176 (sP x5) 177 (sI i17) 178 (sP x7) 179 (sQ b18 o19) 180 (sQ b18 (o19+2))) 181 (sS a21 n22 c23) 182 (sI ((n22:Nat))) 183 (sB ((i17 != n22))) 184 (sB ((i17 != n22)))) V0 h16)):= by kernel_rfl
theorem F9_r18 {e:Env} {x5:OA} {x7:OA} {hp:HP} {K:Env→PV→HP→Prop}:RW Tryd.prog 186 [9,10,11,12,15,59,61,64,106,113,115,121,123,158,162] (opsAt Tryd.f9 (pth 3138751)) [0,1,2,3,4,5,6,7,8,9,11,12,13,14,10,15,16,17] (w2 e 7 (sP x7) 5 (sP x5)) V0 hp K=
 CF Tryd.prog 55 [(.pointer x5)] hp fun u1 h2=>(slcV u1 fun a3 n4 c5=>ptrN x7 fun b6 o7=>ldV (HP.cell h2 b6 (o7+2)) fun v8=>slcV v8 fun a9 n10 c11=>CF Tryd.prog 53 [(.slice a3 n4 c5),(.slice a9 n10 c11)] h2 fun u12 h13=>boolV u12 fun q14=>ite2 (!q14) (K (w4 (w8 (w8 e 7 (sP x7) 5 (sP x5) 167 (sP x5) 168 (sS a3 n4 c5) 169 (sP x7) 170 (sQ b6 o7) 171 (sQ b6 (o7+2)) 172 (sS a9 n10 c11)) 173 (sB q14) 174 (sB ((!q14))) 175 (sB true) 176 sU 178 sU 179 sU 180 sU 181 sU) 177 sU 182 sU 183 sU 184 (sB true)) V0 h13) (ptrN x7 fun b15 o16=>ldV (HP.cell h13 b15 (o16+2)) fun v17=>slcV v17 fun a18 n19 c20=>CF Tryd.prog 38 [(.pointer x5)] h13 fun u21 h22=>intV u21 .i64 fun i23=>K (w4 (w8 (w8 e 7 (sP x7) 5 (sP x5) 167 (sP x5) 168 (sS a3 n4 c5) 169 (sP x7) 170 (sQ b6 o7) 171 (sQ b6 (o7+2)) 172 (sS a9 n10 c11)) 173 (sB q14) 174 (sB ((!q14))) 175 (sB false) 176 (sP x5) 178 (sP x7) 179 (sQ b15 o16) 180 (sQ b15 (o16+2)) 181 (sS a18 n19 c20)) 177 (sI i23) 182 (sI ((n19:Nat))) 183 (sB ((i23 != n19))) 184 (sB ((i23 != n19)))) V0 h22)):= by kernel_rfl
theorem F9_r19 {e:Env} {x5:OA} {x7:OA} {hp:HP} {K:Env→PV→HP→Prop}:RW Tryd.prog 186 [9,10,11,12,15,59,61,64,106,113,115,121,123,158,162] (opsAt Tryd.f9 (pth 3138751)) [0,2,3,4,5,1,6,7,8,9,10,11,12,13,14,15,16,17] (w2 e 7 (sP x7) 5 (sP x5)) V0 hp K=
 ptrN x7 fun b1 o2=>(ldV (HP.cell hp b1 (o2+2)) fun v3=>slcV v3 fun a4 n5 c6=>CF Tryd.prog 55 [(.pointer x5)] hp fun u7 h8=>slcV u7 fun a9 n10 c11=>CF Tryd.prog 53 [(.slice a9 n10 c11),(.slice a4 n5 c6)] h8 fun u12 h13=>boolV u12 fun q14=>ite2 (!q14) (K (w4 (w8 (w8 e 7 (sP x7) 5 (sP x5) 167 (sP x5) 169 (sP x7) 170 (sQ b1 o2) 171 (sQ b1 (o2+2)) 172 (sS a4 n5 c6) 168 (sS a9 n10 c11)) 173 (sB q14) 174 (sB ((!q14))) 175 (sB true) 176 sU 177 sU 178 sU 179 sU 180 sU) 181 sU 182 sU 183 sU 184 (sB true)) V0 h13) (CF Tryd.prog 38 [(.pointer x5)] h13 fun u15 h16=>intV u15 .i64 fun i17=>ptrN x7 fun b18 o19=>ldV (HP.cell h16 b18 (o19+2)) fun v20=>slcV v20 fun a21 n22 c23=>K (w4 (w8 (w8 e 7 (sP x7) 5 (sP x5) 167 (sP x5) 169 (sP x7) 170 (sQ b1 o2) 171 (sQ b1 (o2+2)) 172 (sS a4 n5 c6) 168 (sS a9 n10 c11)) 173 (sB q14) 174 (sB ((!q14))) 175 (sB false) 176 (sP x5) 177 (sI i17) 178 (sP x7) 179 (sQ b18 o19) 180 (sQ b18 (o19+2))) 181 (sS a21 n22 c23) 182 (sI ((n22:Nat))) 183 (sB ((i17 != n22))) 184 (sB ((i17 != n22)))) V0 h16)):= by kernel_rfl
theorem F9_r20 {e:Env} {x5:OA} {x7:OA} {hp:HP} {K:Env→PV→HP→Prop}:RW Tryd.prog 186 [9,10,11,12,15,59,61,64,106,113,115,121,123,158,162] (opsAt Tryd.f9 (pth 3138751)) [0,2,3,4,5,1,6,7,8,9,11,12,13,14,10,15,16,17] (w2 e 7 (sP x7) 5 (sP x5)) V0 hp K=
 ptrN x7 fun b1 o2=>(ldV (HP.cell hp b1 (o2+2)) fun v3=>slcV v3 fun a4 n5 c6=>CF Tryd.prog 55 [(.pointer x5)] hp fun u7 h8=>slcV u7 fun a9 n10 c11=>CF Tryd.prog 53 [(.slice a9 n10 c11),(.slice a4 n5 c6)] h8 fun u12 h13=>boolV u12 fun q14=>ite2 (!q14) (K (w4 (w8 (w8 e 7 (sP x7) 5 (sP x5) 167 (sP x5) 169 (sP x7) 170 (sQ b1 o2) 171 (sQ b1 (o2+2)) 172 (sS a4 n5 c6) 168 (sS a9 n10 c11)) 173 (sB q14) 174 (sB ((!q14))) 175 (sB true) 176 sU 178 sU 179 sU 180 sU 181 sU) 177 sU 182 sU 183 sU 184 (sB true)) V0 h13) (ptrN x7 fun b15 o16=>ldV (HP.cell h13 b15 (o16+2)) fun v17=>slcV v17 fun a18 n19 c20=>CF Tryd.prog 38 [(.pointer x5)] h13 fun u21 h22=>intV u21 .i64 fun i23=>K (w4 (w8 (w8 e 7 (sP x7) 5 (sP x5) 167 (sP x5) 169 (sP x7) 170 (sQ b1 o2) 171 (sQ b1 (o2+2)) 172 (sS a4 n5 c6) 168 (sS a9 n10 c11)) 173 (sB q14) 174 (sB ((!q14))) 175 (sB false) 176 (sP x5) 178 (sP x7) 179 (sQ b15 o16) 180 (sQ b15 (o16+2)) 181 (sS a18 n19 c20)) 177 (sI i23) 182 (sI ((n19:Nat))) 183 (sB ((i23 != n19))) 184 (sB ((i23 != n19)))) V0 h22)):= by kernel_rfl
def F9_j7 (x1a:OA) (x1n x1c:Nat) (x5 x7:OA) (x8:Int) (hp:HP) (I5:(Int)→HP→Prop) (K:Kh):Prop:=
  ((CF Tryd.prog 55 [(.pointer x5)] hp fun u48 h49=>slcV u48 fun a50 n51 c52=>ptrN x7 fun b53 o54=>ldV (HP.cell h49 b53 (o54+2)) fun v55=>slcV v55 fun a56 n57 c58=>CF Tryd.prog 53 [(.slice a50 n51 c52),(.slice a56 n57 c58)] h49 fun u59 h60=>boolV u59 fun q61=>ite2 (!q61) (F9_j8 x1a x1n x1c x5 x7 x8 true h60 I5 K) (CF Tryd.prog 38 [(.pointer x5)] h60 fun u62 h63=>intV u62 .i64 fun i64=>ptrN x7 fun b65 o66=>ldV (HP.cell h63 b65 (o66+2)) fun v67=>slcV v67 fun a68 n69 c70=>F9_j8 x1a x1n x1c x5 x7 x8 (i64 != n69) h63 I5 K))∧(CF Tryd.prog 55 [(.pointer x5)] hp fun u71 h72=>slcV u71 fun a73 n74 c75=>ptrN x7 fun b76 o77=>ldV (HP.cell h72 b76 (o77+2)) fun v78=>slcV v78 fun a79 n80 c81=>CF Tryd.prog 53 [(.slice a73 n74 c75),(.slice a79 n80 c81)] h72 fun u82 h83=>boolV u82 fun q84=>ite2 (!q84) (F9_j8 x1a x1n x1c x5 x7 x8 true h83 I5 K) (ptrN x7 fun b85 o86=>ldV (HP.cell h83 b85 (o86+2)) fun v87=>slcV v87 fun a88 n89 c90=>CF Tryd.prog 38 [(.pointer x5)] h83 fun u91 h92=>intV u91 .i64 fun i93=>F9_j8 x1a x1n x1c x5 x7 x8 (i93 != n89) h92 I5 K))∧(ptrN x7 fun b94 o95=>ldV (HP.cell hp b94 (o95+2)) fun v96=>slcV v96 fun a97 n98 c99=>CF Tryd.prog 55 [(.pointer x5)] hp fun u100 h101=>slcV u100 fun a102 n103 c104=>CF Tryd.prog 53 [(.slice a102 n103 c104),(.slice a97 n98 c99)] h101 fun u105 h106=>boolV u105 fun q107=>ite2 (!q107) (F9_j8 x1a x1n x1c x5 x7 x8 true h106 I5 K) (CF Tryd.prog 38 [(.pointer x5)] h106 fun u108 h109=>intV u108 .i64 fun i110=>ptrN x7 fun b111 o112=>ldV (HP.cell h109 b111 (o112+2)) fun v113=>slcV v113 fun a114 n115 c116=>F9_j8 x1a x1n x1c x5 x7 x8 (i110 != n115) h109 I5 K))∧(ptrN x7 fun b117 o118=>ldV (HP.cell hp b117 (o118+2)) fun v119=>slcV v119 fun a120 n121 c122=>CF Tryd.prog 55 [(.pointer x5)] hp fun u123 h124=>slcV u123 fun a125 n126 c127=>CF Tryd.prog 53 [(.slice a125 n126 c127),(.slice a120 n121 c122)] h124 fun u128 h129=>boolV u128 fun q130=>ite2 (!q130) (F9_j8 x1a x1n x1c x5 x7 x8 true h129 I5 K) (ptrN x7 fun b131 o132=>ldV (HP.cell h129 b131 (o132+2)) fun v133=>slcV v133 fun a134 n135 c136=>CF Tryd.prog 38 [(.pointer x5)] h129 fun u137 h138=>intV u137 .i64 fun i139=>F9_j8 x1a x1n x1c x5 x7 x8 (i139 != n135) h138 I5 K)))
theorem F9_r21:R9 2614463 2 (upd e 9 (sR 9 0)) (w3 V0 11 (34,k11) 10 (34,k10) 9 (59,k9)) hp K=
 ldV (k9)[0]? fun v1=>(intV v1 .u8 fun i2=>K (w3 e 9 (sR 9 0) 106 (sR 9 0) 107 (sV (.int .u8 i2))) (w3 V0 11 (34,k11) 10 (34,k10) 9 (59,k9)) hp):= by kernel_rfl
theorem F9_r22:R9 9954495 2 (upd e 107 (sV (.int .u8 x107))) (w3 V0 11 (34,k11) 10 (34,k10) 9 (59,k9)) hp K=
 K (w3 e 107 (sV (.int .u8 x107)) 109 (sB ((x107==0))) 108 (sB ((x107==0)))) (w3 V0 11 (34,k11) 10 (34,k10) 9 (59,k9)) hp:= by kernel_rfl
theorem F9_r23 (h:E=upd (w4 e 11 (sR 11 0) 10 (sR 10 0) 9 (sR 9 0) 7 (sP x7)) 5 (sP x5)):R9 39314623 17 E (w3 V0 11 (34,k11) 10 (34,k10) 9 (59,k9)) hp K=
 ldL (cellsN k10 0 5) fun l1=>(ldL (cellsN k11 0 5) fun l2=>ldV (k9)[4]? fun v3=>intV v3 .i64 fun i4=>ldV (k9)[5]? fun v5=>strV v5 fun s6=>CF Tryd.prog 33 [(.pointer x5),(.agg ⟨l1⟩),(.agg ⟨l2⟩),(.int .i64 i4),(.string s6)] hp fun u7 h8=>intV u7 .i64 fun i9=>ldL (cellsN k10 0 5) fun l10=>ldL (cellsN k11 0 5) fun l11=>ldV (k9)[4]? fun v12=>intV v12 .i64 fun i13=>ldV (k9)[5]? fun v14=>strV v14 fun s15=>CF Tryd.prog 51 [(.pointer x7),(.agg ⟨l10⟩),(.agg ⟨l11⟩),(.int .i64 i13),(.string s15)] h8 fun u16 h17=>intV u16 .i64 fun i18=>K (upd (w8 (w8 E 110 (sP x5) 111 (sA l1) 112 (sA l2) 113 (sR 9 4) 114 (sI i4) 115 (sR 9 5) 116 (sT s6) 117 (sI i9)) 118 (sP x7) 119 (sA l10) 120 (sA l11) 121 (sR 9 4) 122 (sI i13) 123 (sR 9 5) 124 (sT s15) 125 (sI i18)) 126 (sB ((i9 != i18)))) (w3 V0 11 (34,k11) 10 (34,k10) 9 (59,k9)) h17):= by subst h; kernel_rfl
theorem F9_r24:R9 156755135 1 e V0 hp K=
 K (upd e 4 (sB false)) V0 hp:= by kernel_rfl
theorem F9_r25:R9 47703231 2 (upd e 107 (sV (.int .u8 x107))) (w3 V0 11 (34,k11) 10 (34,k10) 9 (59,k9)) hp K=
 K (w3 e 107 (sV (.int .u8 x107)) 128 (sB ((x107==1))) 127 (sB ((x107==1)))) (w3 V0 11 (34,k11) 10 (34,k10) 9 (59,k9)) hp:= by kernel_rfl
theorem F9_r26 (h:E=upd (w2 e 11 (sR 11 0) 10 (sR 10 0)) 5 (sP x5)):R9 165143743 10 E (w2 V0 11 (34,k11) 10 (34,k10)) hp K=
 ldL (cellsN k10 0 5) fun l1=>(ldL (cellsN k11 0 5) fun l2=>CF Tryd.prog 35 [(.pointer x5),(.agg ⟨l1⟩),(.agg ⟨l2⟩)] hp fun u3 h4=>tup2V u3 fun u5 u6=>aggV u5 fun l7=>intV u6 .i64 fun i8=>if List.length l7=13 then (if List.all l7 one=true then (if 0+List.length l7≤List.length [(Value.int .i64 0),.int .u8 0,.int .u8 0,.int .u8 0,.int .u8 0,.int .i64 0,.int .u8 0,.int .u8 0,.int .u8 0,.int .u8 0,.int .i64 0,.int .i64 0,.string ⟨#[]⟩] then (K (upd (w8 E 130 (sP x5) 131 (sA l1) 132 (sA l2) 133 (sV (.tuple ⟨[(.agg ⟨l7⟩),(.int .i64 i8)]⟩)) 129 (sV (.tuple ⟨[(.agg ⟨l7⟩),(.int .i64 i8)]⟩)) 134 (sA l7) 135 (sI i8) 15 (sR 15 0)) 16 (sI i8)) (w4 V0 11 (34,k11) 10 (34,k10) 15 (62,[.int .i64 0,.int .u8 0,.int .u8 0,.int .u8 0,.int .u8 0,.int .i64 0,.int .u8 0,.int .u8 0,.int .u8 0,.int .u8 0,.int .i64 0,.int .i64 0,.string ⟨#[]⟩]) 15 (62,(splice [.int .i64 0,.int .u8 0,.int .u8 0,.int .u8 0,.int .u8 0,.int .i64 0,.int .u8 0,.int .u8 0,.int .u8 0,.int .u8 0,.int .i64 0,.int .i64 0,.string ⟨#[]⟩] 0 l7))) h4) else False) else False) else False):= by subst h; kernel_rfl
theorem F9_r27:R9 634905791 2 (upd e 14 (sI x14)) (upd V0 15 (62,k15)) hp K=
 K (w3 e 14 (sI x14) 136 (sI x14) 137 (sB (decide (x14<0)))) (upd V0 15 (62,k15)) hp:= by kernel_rfl
theorem F9_r28:R9 19693823167 1 e V0 hp K=
 K (upd e 4 (sB false)) V0 hp:= by kernel_rfl
def F9_j9 (x1a:OA) (x1n x1c:Nat) (x5 x7:OA) (x8:Int) (x144:Bool) (hp:HP) (I5:(Int)→HP→Prop) (K:Kh):Prop:=
  (ite2 x144 (K (.bool false) hp) (F9_j7 x1a x1n x1c x5 x7 x8 hp I5 K))
theorem F9_r29 (h:E=upd (upd e 16 (sI x16)) 15 (sR 15 0)):R9 4661437631 7 E (upd V0 15 (62,k15)) hp K=
 ite2 (x16 != 4) (K (w7 E 138 (sI x16) 139 (sB ((x16 != 4))) 140 (sB true) 141 sU 142 sU 143 sU 144 (sB true)) (upd V0 15 (62,k15)) hp) (ldL (cellsN k15 0 13) fun l1=>eqAgg Tryd.prog 62 l1 [.int .i64 0,.int .u8 0,.int .u8 0,.int .u8 0,.int .u8 0,.int .i64 0,.int .u8 0,.int .u8 0,.int .u8 0,.int .u8 0,.int .i64 0,.int .i64 0,.string ⟨#[]⟩] fun q2=>K (w7 E 138 (sI x16) 139 (sB ((x16 != 4))) 140 (sB false) 141 (sA l1) 142 (sV (.agg ⟨[.int .i64 0,.int .u8 0,.int .u8 0,.int .u8 0,.int .u8 0,.int .i64 0,.int .u8 0,.int .u8 0,.int .u8 0,.int .u8 0,.int .i64 0,.int .i64 0,.string ⟨#[]⟩]⟩)) 143 (sB ((!q2))) 144 (sB ((!q2)))) (upd V0 15 (62,k15)) hp):= by subst h; kernel_rfl
theorem F9_r30:R9 2648171711 1 e V0 hp K=
 K (upd e 4 (sB false)) V0 hp:= by kernel_rfl
def F9_j10 (x1a:OA) (x1n x1c:Nat) (x5 x7:OA) (x8:Int) (x154:Bool) (hp:HP) (I5:(Int)→HP→Prop) (K:Kh):Prop:=
  (ite2 x154 (K (.bool false) hp) (F9_j7 x1a x1n x1c x5 x7 x8 hp I5 K))
theorem F9_r31 (h:E=upd (w3 e 16 (sI x16) 15 (sR 15 0) 14 (sI x14)) 7 (sP x7)):R9 769123519 10 E (upd V0 15 (62,k15)) hp K=
 ite2 (x16 != 0) (K (w2 (w8 E 145 (sI x16) 146 (sB ((x16 != 0))) 147 (sB true) 148 sU 149 sU 150 sU 151 sU 152 sU) 153 sU 154 (sB true)) (upd V0 15 (62,k15)) hp) (ldL (cellsN k15 0 13) fun l1=>CF Tryd.prog 52 [(.pointer x7),(.int .i64 x14)] hp fun u2 h3=>aggV u2 fun l4=>CF Tryd.prog 50 [(.agg ⟨l1⟩),(.agg ⟨l4⟩)] h3 fun u5 h6=>boolV u5 fun q7=>K (w2 (w8 E 145 (sI x16) 146 (sB ((x16 != 0))) 147 (sB false) 148 (sA l1) 149 (sP x7) 150 (sI x14) 151 (sA l4) 152 (sB q7)) 153 (sB ((!q7))) 154 (sB ((!q7)))) (upd V0 15 (62,k15)) h6):= by subst h; kernel_rfl
theorem F9_r32:R9 198698175 2 (upd e 107 (sV (.int .u8 x107))) (upd V0 9 (59,k9)) hp K=
 K (w3 e 107 (sV (.int .u8 x107)) 156 (sB ((x107==2))) 155 (sB ((x107==2)))) (upd V0 9 (59,k9)) hp:= by kernel_rfl
theorem F9_r33 (h:E=upd (w2 e 9 (sR 9 0) 7 (sP x7)) 5 (sP x5)):R9 668460223 10 E (upd V0 9 (59,k9)) hp K=
 ldV (k9)[4]? fun v1=>(intV v1 .i64 fun i2=>CF Tryd.prog 37 [(.pointer x5),(.int .i64 i2)] hp fun u3 h4=>slcV u3 fun a5 n6 c7=>ldV (k9)[4]? fun v8=>intV v8 .i64 fun i9=>CF Tryd.prog 54 [(.pointer x7),(.int .i64 i9)] h4 fun u10 h11=>slcV u10 fun a12 n13 c14=>CF Tryd.prog 53 [(.slice a5 n6 c7),(.slice a12 n13 c14)] h11 fun u15 h16=>boolV u15 fun q17=>K (w2 (w8 E 157 (sP x5) 158 (sR 9 4) 159 (sI i2) 160 (sS a5 n6 c7) 161 (sP x7) 162 (sR 9 4) 163 (sI i9) 164 (sS a12 n13 c14)) 165 (sB q17) 166 (sB ((!q17)))) (upd V0 9 (59,k9)) h16):= by subst h; kernel_rfl
theorem F9_r34:R9 2547508415 1 e V0 hp K=
 K (upd e 4 (sB false)) V0 hp:= by kernel_rfl
def F9_j6 (x1a:OA) (x1n x1c:Nat) (x5 x7:OA) (x8 x14:Int) (x105:Bool) (k9 k10 k11:List Value) (hp:HP) (I5:(Int)→HP→Prop) (K:Kh):Prop:=
  (ite2 x105 (K (.bool false) hp) (ldV (k9)[0]? fun v140=>intV v140 .u8 fun i141=>ite2 (i141==0) (ldL (cellsN k10 0 5) fun l142=>ldL (cellsN k11 0 5) fun l143=>ldV (k9)[4]? fun v144=>intV v144 .i64 fun i145=>ldV (k9)[5]? fun v146=>strV v146 fun s147=>CF Tryd.prog 33 [(.pointer x5),(.agg ⟨l142⟩),(.agg ⟨l143⟩),(.int .i64 i145),(.string s147)] hp fun u148 h149=>intV u148 .i64 fun i150=>ldL (cellsN k10 0 5) fun l151=>ldL (cellsN k11 0 5) fun l152=>ldV (k9)[4]? fun v153=>intV v153 .i64 fun i154=>ldV (k9)[5]? fun v155=>strV v155 fun s156=>CF Tryd.prog 51 [(.pointer x7),(.agg ⟨l151⟩),(.agg ⟨l152⟩),(.int .i64 i154),(.string s156)] h149 fun u157 h158=>intV u157 .i64 fun i159=>ite2 (i150 != i159) (K (.bool false) h158) (F9_j7 x1a x1n x1c x5 x7 x8 h158 I5 K)) (ite2 (i141==1) (ldL (cellsN k10 0 5) fun l160=>ldL (cellsN k11 0 5) fun l161=>CF Tryd.prog 35 [(.pointer x5),(.agg ⟨l160⟩),(.agg ⟨l161⟩)] hp fun u162 h163=>tup2V u162 fun u164 u165=>aggV u164 fun l166=>intV u165 .i64 fun i167=>if List.length l166=13 then (if List.all l166 one=true then (if 0+List.length l166≤List.length [(Value.int .i64 0),.int .u8 0,.int .u8 0,.int .u8 0,.int .u8 0,.int .i64 0,.int .u8 0,.int .u8 0,.int .u8 0,.int .u8 0,.int .i64 0,.int .i64 0,.string ⟨#[]⟩] then (ite2 (decide (x14<0)) (ite2 (i167 != 4) (F9_j9 x1a x1n x1c x5 x7 x8 true h163 I5 K) (ldL (cellsN (splice [.int .i64 0,.int .u8 0,.int .u8 0,.int .u8 0,.int .u8 0,.int .i64 0,.int .u8 0,.int .u8 0,.int .u8 0,.int .u8 0,.int .i64 0,.int .i64 0,.string ⟨#[]⟩] 0 l166) 0 13) fun l168=>eqAgg Tryd.prog 62 l168 [.int .i64 0,.int .u8 0,.int .u8 0,.int .u8 0,.int .u8 0,.int .i64 0,.int .u8 0,.int .u8 0,.int .u8 0,.int .u8 0,.int .i64 0,.int .i64 0,.string ⟨#[]⟩] fun q169=>F9_j9 x1a x1n x1c x5 x7 x8 (!q169) h163 I5 K)) (ite2 (i167 != 0) (F9_j10 x1a x1n x1c x5 x7 x8 true h163 I5 K) (ldL (cellsN (splice [.int .i64 0,.int .u8 0,.int .u8 0,.int .u8 0,.int .u8 0,.int .i64 0,.int .u8 0,.int .u8 0,.int .u8 0,.int .u8 0,.int .i64 0,.int .i64 0,.string ⟨#[]⟩] 0 l166) 0 13) fun l170=>CF Tryd.prog 52 [(.pointer x7),(.int .i64 x14)] h163 fun u171 h172=>aggV u171 fun l173=>CF Tryd.prog 50 [(.agg ⟨l170⟩),(.agg ⟨l173⟩)] h172 fun u174 h175=>boolV u174 fun q176=>F9_j10 x1a x1n x1c x5 x7 x8 (!q176) h175 I5 K))) else False) else False) else False) (ite2 (i141==2) (ldV (k9)[4]? fun v177=>intV v177 .i64 fun i178=>CF Tryd.prog 37 [(.pointer x5),(.int .i64 i178)] hp fun u179 h180=>slcV u179 fun a181 n182 c183=>ldV (k9)[4]? fun v184=>intV v184 .i64 fun i185=>CF Tryd.prog 54 [(.pointer x7),(.int .i64 i185)] h180 fun u186 h187=>slcV u186 fun a188 n189 c190=>CF Tryd.prog 53 [(.slice a181 n182 c183),(.slice a188 n189 c190)] h187 fun u191 h192=>boolV u191 fun q193=>ite2 (!q193) (K (.bool false) h192) (F9_j7 x1a x1n x1c x5 x7 x8 h192 I5 K)) (F9_j7 x1a x1n x1c x5 x7 x8 hp I5 K)))))
theorem F9_r35 (h:E=upd (w3 e 14 (sI x14) 13 (sB x13) 12 (sR 12 0)) 7 (sP x7)):R9 1303743 28 E (w4 V0 12 (62,k12) 11 (34,k11) 10 (34,k10) 9 (59,k9)) hp K=
    (ite2 (!(x13==(decide (x14≥0)))) (K (w4 (w8 (w8 (w8 E 78 (sB x13) 79 (sI x14) 80 (sB (decide (x14≥0))) 81 (sB ((!(x13==(decide (x14≥0)))))) 82 (sB true) 83 sU 84 sU 85 sU) 86 sU 87 sU 88 sU 89 sU 90 sU 91 sU 92 sU 93 sU) 94 sU 95 sU 96 (sB true) 97 (sB true) 98 sU 99 sU 100 sU 101 sU) 102 sU 103 sU 104 sU 105 (sB true)) (w4 V0 12 (62,k12) 11 (34,k11) 10 (34,k10) 9 (59,k9)) hp) (ite2 x13 (ldL (cellsN k12 0 13) fun l1=>ptrN x7 fun b2 o3=>ldV (HP.cell hp b2 (o3+2)) fun v4=>slcV v4 fun a5 n6 c7=>(0≤x14)∧(x14<n6)∧(ptrN a5 fun b8 o9=>ldL (HP.cellN hp b8 (o9+Int.toNat x14*13) 13) fun l10=>CF Tryd.prog 50 [(.agg ⟨l1⟩),(.agg ⟨l10⟩)] hp fun u11 h12=>boolV u11 fun q13=>ite2 (!q13) (K (w4 (w8 (w8 (w8 E 78 (sB x13) 79 (sI x14) 80 (sB (decide (x14≥0))) 81 (sB ((!(x13==(decide (x14≥0)))))) 82 (sB false) 83 (sB x13) 84 (sB true) 85 (sA l1)) 86 (sP x7) 87 (sQ b2 o3) 88 (sQ b2 (o3+2)) 89 (sS a5 n6 c7) 90 (sI x14) 91 (sQ b8 (o9+Int.toNat x14*13)) 92 (sA l10) 93 (sB q13)) 94 (sB ((!q13))) 95 (sB ((!q13))) 96 (sB ((!q13))) 97 (sB true) 98 sU 99 sU 100 sU 101 sU) 102 sU 103 sU 104 sU 105 (sB true)) (w4 V0 12 (62,k12) 11 (34,k11) 10 (34,k10) 9 (59,k9)) h12) (ite2 (!x13) (ldL (cellsN k12 0 13) fun l14=>eqAgg Tryd.prog 62 l14 [.int .i64 0,.int .u8 0,.int .u8 0,.int .u8 0,.int .u8 0,.int .i64 0,.int .u8 0,.int .u8 0,.int .u8 0,.int .u8 0,.int .i64 0,.int .i64 0,.string ⟨#[]⟩] fun q15=>K (w4 (w8 (w8 (w8 E 78 (sB x13) 79 (sI x14) 80 (sB (decide (x14≥0))) 81 (sB ((!(x13==(decide (x14≥0)))))) 82 (sB false) 83 (sB x13) 84 (sB true) 85 (sA l1)) 86 (sP x7) 87 (sQ b2 o3) 88 (sQ b2 (o3+2)) 89 (sS a5 n6 c7) 90 (sI x14) 91 (sQ b8 (o9+Int.toNat x14*13)) 92 (sA l10) 93 (sB q13)) 94 (sB ((!q13))) 95 (sB ((!q13))) 96 (sB ((!q13))) 97 (sB false) 98 (sB x13) 99 (sB ((!x13))) 100 (sB true) 101 (sA l14)) 102 (sV (.agg ⟨[.int .i64 0,.int .u8 0,.int .u8 0,.int .u8 0,.int .u8 0,.int .i64 0,.int .u8 0,.int .u8 0,.int .u8 0,.int .u8 0,.int .i64 0,.int .i64 0,.string ⟨#[]⟩]⟩)) 103 (sB ((!q15))) 104 (sB ((!q15))) 105 (sB ((!q15)))) (w4 V0 12 (62,k12) 11 (34,k11) 10 (34,k10) 9 (59,k9)) h12) (K (w4 (w8 (w8 (w8 E 78 (sB x13) 79 (sI x14) 80 (sB (decide (x14≥0))) 81 (sB ((!(x13==(decide (x14≥0)))))) 82 (sB false) 83 (sB x13) 84 (sB true) 85 (sA l1)) 86 (sP x7) 87 (sQ b2 o3) 88 (sQ b2 (o3+2)) 89 (sS a5 n6 c7) 90 (sI x14) 91 (sQ b8 (o9+Int.toNat x14*13)) 92 (sA l10) 93 (sB q13)) 94 (sB ((!q13))) 95 (sB ((!q13))) 96 (sB ((!q13))) 97 (sB false) 98 (sB x13) 99 (sB ((!x13))) 100 (sB false) 101 sU) 102 sU 103 sU 104 (sB false) 105 (sB false)) (w4 V0 12 (62,k12) 11 (34,k11) 10 (34,k10) 9 (59,k9)) h12)))) (ite2 (!x13) (ldL (cellsN k12 0 13) fun l16=>eqAgg Tryd.prog 62 l16 [.int .i64 0,.int .u8 0,.int .u8 0,.int .u8 0,.int .u8 0,.int .i64 0,.int .u8 0,.int .u8 0,.int .u8 0,.int .u8 0,.int .i64 0,.int .i64 0,.string ⟨#[]⟩] fun q17=>K (w4 (w8 (w8 (w8 E 78 (sB x13) 79 (sI x14) 80 (sB (decide (x14≥0))) 81 (sB ((!(x13==(decide (x14≥0)))))) 82 (sB false) 83 (sB x13) 84 (sB false) 85 sU) 86 sU 87 sU 88 sU 89 sU 90 sU 91 sU 92 sU 93 sU) 94 sU 95 (sB false) 96 (sB false) 97 (sB false) 98 (sB x13) 99 (sB ((!x13))) 100 (sB true) 101 (sA l16)) 102 (sV (.agg ⟨[.int .i64 0,.int .u8 0,.int .u8 0,.int .u8 0,.int .u8 0,.int .i64 0,.int .u8 0,.int .u8 0,.int .u8 0,.int .u8 0,.int .i64 0,.int .i64 0,.string ⟨#[]⟩]⟩)) 103 (sB ((!q17))) 104 (sB ((!q17))) 105 (sB ((!q17)))) (w4 V0 12 (62,k12) 11 (34,k11) 10 (34,k10) 9 (59,k9)) hp) (K (w4 (w8 (w8 (w8 E 78 (sB x13) 79 (sI x14) 80 (sB (decide (x14≥0))) 81 (sB ((!(x13==(decide (x14≥0)))))) 82 (sB false) 83 (sB x13) 84 (sB false) 85 sU) 86 sU 87 sU 88 sU 89 sU 90 sU 91 sU 92 sU 93 sU) 94 sU 95 (sB false) 96 (sB false) 97 (sB false) 98 (sB x13) 99 (sB ((!x13))) 100 (sB false) 101 sU) 102 sU 103 sU 104 (sB false) 105 (sB false)) (w4 V0 12 (62,k12) 11 (34,k11) 10 (34,k10) 9 (59,k9)) hp)))):=by subst h; kernel_rfl
def F9_l5 (x1a:OA) (x1n x1c:Nat) (x5 x7:OA) (K:Kh) (I5:(Int)→HP→Prop) (x8:Int) (hp:HP):Prop:=
  (ite2 (decide (x8<x1n)) ((0≤x8)∧(x8<x1n)∧(ptrN x1a fun b20 o21=>ldL (HP.cellN hp b20 (o21+Int.toNat x8*6) 6) fun l22=>if List.length l22=6 then (if List.all l22 one=true then (if 0+List.length l22≤List.length [(Value.int .u8 0),.int .u8 0,.int .u8 0,.int .i64 0,.int .i64 0,.string ⟨#[]⟩] then (ldV ((splice [.int .u8 0,.int .u8 0,.int .u8 0,.int .i64 0,.int .i64 0,.string ⟨#[]⟩] 0 l22))[1]? fun v23=>intV v23 .u8 fun i24=>ldV ((splice [.int .u8 0,.int .u8 0,.int .u8 0,.int .i64 0,.int .i64 0,.string ⟨#[]⟩] 0 l22))[3]? fun v25=>intV v25 .i64 fun i26=>CF Tryd.prog 34 [(.int .u8 i24),(.int .i64 i26)] hp fun u27 h28=>aggV u27 fun l29=>if List.length l29=5 then (if List.all l29 one=true then (if 0+List.length l29≤List.length [(Value.int .u8 0),.int .u8 0,.int .u8 0,.int .u8 0,.int .i64 0] then (ldV ((splice [.int .u8 0,.int .u8 0,.int .u8 0,.int .i64 0,.int .i64 0,.string ⟨#[]⟩] 0 l22))[2]? fun v30=>intV v30 .u8 fun i31=>CF Tryd.prog 34 [(.int .u8 i31),(.int .i64 9)] h28 fun u32 h33=>aggV u32 fun l34=>if List.length l34=5 then (if List.all l34 one=true then (if 0+List.length l34≤List.length [(Value.int .u8 0),.int .u8 0,.int .u8 0,.int .u8 0,.int .i64 0] then (ldL (cellsN (splice [.int .u8 0,.int .u8 0,.int .u8 0,.int .u8 0,.int .i64 0] 0 l29) 0 5) fun l35=>ldL (cellsN (splice [.int .u8 0,.int .u8 0,.int .u8 0,.int .u8 0,.int .i64 0] 0 l34) 0 5) fun l36=>CF Tryd.prog 39 [(.pointer x5),(.agg ⟨l35⟩),(.agg ⟨l36⟩)] h33 fun u37 h38=>tup2V u37 fun u39 u40=>aggV u39 fun l41=>boolV u40 fun q42=>if List.length l41=13 then (if List.all l41 one=true then (if 0+List.length l41≤List.length [(Value.int .i64 0),.int .u8 0,.int .u8 0,.int .u8 0,.int .u8 0,.int .i64 0,.int .u8 0,.int .u8 0,.int .u8 0,.int .u8 0,.int .i64 0,.int .i64 0,.string ⟨#[]⟩] then (ldL (cellsN (splice [.int .u8 0,.int .u8 0,.int .u8 0,.int .u8 0,.int .i64 0] 0 l29) 0 5) fun l43=>ldL (cellsN (splice [.int .u8 0,.int .u8 0,.int .u8 0,.int .u8 0,.int .i64 0] 0 l34) 0 5) fun l44=>CF Tryd.prog 49 [(.pointer x7),(.agg ⟨l43⟩),(.agg ⟨l44⟩)] h38 fun u45 h46=>intV u45 .i64 fun i47=>ite2 (!(q42==(decide (i47≥0)))) (F9_j6 x1a x1n x1c x5 x7 x8 i47 true (splice [.int .u8 0,.int .u8 0,.int .u8 0,.int .i64 0,.int .i64 0,.string ⟨#[]⟩] 0 l22) (splice [.int .u8 0,.int .u8 0,.int .u8 0,.int .u8 0,.int .i64 0] 0 l29) (splice [.int .u8 0,.int .u8 0,.int .u8 0,.int .u8 0,.int .i64 0] 0 l34) h46 I5 K) (ite2 q42 (ldL (cellsN (splice [.int .i64 0,.int .u8 0,.int .u8 0,.int .u8 0,.int .u8 0,.int .i64 0,.int .u8 0,.int .u8 0,.int .u8 0,.int .u8 0,.int .i64 0,.int .i64 0,.string ⟨#[]⟩] 0 l41) 0 13) fun l194=>ptrN x7 fun b195 o196=>ldV (HP.cell h46 b195 (o196+2)) fun v197=>slcV v197 fun a198 n199 c200=>(0≤i47)∧(i47<n199)∧(ptrN a198 fun b201 o202=>ldL (HP.cellN h46 b201 (o202+Int.toNat i47*13) 13) fun l203=>CF Tryd.prog 50 [(.agg ⟨l194⟩),(.agg ⟨l203⟩)] h46 fun u204 h205=>boolV u204 fun q206=>ite2 (!q206) (F9_j6 x1a x1n x1c x5 x7 x8 i47 true (splice [.int .u8 0,.int .u8 0,.int .u8 0,.int .i64 0,.int .i64 0,.string ⟨#[]⟩] 0 l22) (splice [.int .u8 0,.int .u8 0,.int .u8 0,.int .u8 0,.int .i64 0] 0 l29) (splice [.int .u8 0,.int .u8 0,.int .u8 0,.int .u8 0,.int .i64 0] 0 l34) h205 I5 K) (ite2 (!q42) (ldL (cellsN (splice [.int .i64 0,.int .u8 0,.int .u8 0,.int .u8 0,.int .u8 0,.int .i64 0,.int .u8 0,.int .u8 0,.int .u8 0,.int .u8 0,.int .i64 0,.int .i64 0,.string ⟨#[]⟩] 0 l41) 0 13) fun l207=>eqAgg Tryd.prog 62 l207 [.int .i64 0,.int .u8 0,.int .u8 0,.int .u8 0,.int .u8 0,.int .i64 0,.int .u8 0,.int .u8 0,.int .u8 0,.int .u8 0,.int .i64 0,.int .i64 0,.string ⟨#[]⟩] fun q208=>F9_j6 x1a x1n x1c x5 x7 x8 i47 (!q208) (splice [.int .u8 0,.int .u8 0,.int .u8 0,.int .i64 0,.int .i64 0,.string ⟨#[]⟩] 0 l22) (splice [.int .u8 0,.int .u8 0,.int .u8 0,.int .u8 0,.int .i64 0] 0 l29) (splice [.int .u8 0,.int .u8 0,.int .u8 0,.int .u8 0,.int .i64 0] 0 l34) h205 I5 K) (F9_j6 x1a x1n x1c x5 x7 x8 i47 false (splice [.int .u8 0,.int .u8 0,.int .u8 0,.int .i64 0,.int .i64 0,.string ⟨#[]⟩] 0 l22) (splice [.int .u8 0,.int .u8 0,.int .u8 0,.int .u8 0,.int .i64 0] 0 l29) (splice [.int .u8 0,.int .u8 0,.int .u8 0,.int .u8 0,.int .i64 0] 0 l34) h205 I5 K)))) (ite2 (!q42) (ldL (cellsN (splice [.int .i64 0,.int .u8 0,.int .u8 0,.int .u8 0,.int .u8 0,.int .i64 0,.int .u8 0,.int .u8 0,.int .u8 0,.int .u8 0,.int .i64 0,.int .i64 0,.string ⟨#[]⟩] 0 l41) 0 13) fun l209=>eqAgg Tryd.prog 62 l209 [.int .i64 0,.int .u8 0,.int .u8 0,.int .u8 0,.int .u8 0,.int .i64 0,.int .u8 0,.int .u8 0,.int .u8 0,.int .u8 0,.int .i64 0,.int .i64 0,.string ⟨#[]⟩] fun q210=>F9_j6 x1a x1n x1c x5 x7 x8 i47 (!q210) (splice [.int .u8 0,.int .u8 0,.int .u8 0,.int .i64 0,.int .i64 0,.string ⟨#[]⟩] 0 l22) (splice [.int .u8 0,.int .u8 0,.int .u8 0,.int .u8 0,.int .i64 0] 0 l29) (splice [.int .u8 0,.int .u8 0,.int .u8 0,.int .u8 0,.int .i64 0] 0 l34) h46 I5 K) (F9_j6 x1a x1n x1c x5 x7 x8 i47 false (splice [.int .u8 0,.int .u8 0,.int .u8 0,.int .i64 0,.int .i64 0,.string ⟨#[]⟩] 0 l22) (splice [.int .u8 0,.int .u8 0,.int .u8 0,.int .u8 0,.int .i64 0] 0 l29) (splice [.int .u8 0,.int .u8 0,.int .u8 0,.int .u8 0,.int .i64 0] 0 l34) h46 I5 K)))) else False) else False) else False) else False) else False) else False) else False) else False) else False) else False) else False) else False)) (F9_j3  hp  K))
def F9_j4 (x1a:OA) (x1n x1c:Nat) (x5 x7:OA) (x8:Int) (hp:HP) (K:Kh):Prop:=
  (LoopP (σ:=Int) (fun I s hp=>F9_l5 x1a x1n x1c x5 x7  K I s hp) x8 hp)
theorem F9_r36:R9 319 1 e V0 hp K=
 K (upd e 8 (sI 0)) V0 hp:= by kernel_rfl
def F9_j2 (x0:Int) (x1a:OA) (x1n x1c:Nat) (x5:OA) (x45:Bool) (hp:HP) (K:Kh):Prop:=
  (ite2 x45 (K (.bool false) hp) (∀ b16:Nat,hp b16=.none→(F9_j4 x1a x1n x1c x5 (some ⟨b16,0,none⟩) 0 (HP.set hp b16 (.cells 90 [(.int .i64 x0),.int .i64 0,(.slice none 0 0)] 0))  K)))
theorem F9_r37 (h:E=upd (upd e 6 (sI x6)) 5 (sP x5)):R9 79 6 E V0 hp K=
 ite2 (x6 != 0) (K (w6 E 40 (sI x6) 41 (sB ((x6 != 0))) 42 (sB true) 43 sU 44 sU 45 (sB true)) V0 hp) (K (w6 E 40 (sI x6) 41 (sB ((x6 != 0))) 42 (sB false) 43 (sP x5) 44 (sB ((Option.isNone x5))) 45 (sB ((Option.isNone x5)))) V0 hp):= by subst h; kernel_rfl
def F9_j1 (x0:Int) (x1a:OA) (x1n x1c:Nat) (x5:OA) (x6:Int) (x30:Bool) (hp:HP) (K:Kh):Prop:=
  (ite2 x30 (ite2 (Option.isNone x5) (ite2 (x6==1) (CF Tryd.prog 31 [] hp fun u13 h14=>boolV u13 fun q15=>K (.bool q15) h14) (K (.bool false) hp)) (K (.bool false) hp)) (ite2 (x6 != 0) (F9_j2 x0 x1a x1n x1c x5 true hp  K) (F9_j2 x0 x1a x1n x1c x5 (Option.isNone x5) hp  K)))
theorem F9_r38:R9 39 6 (upd e 0 (sI x0)) V0 hp K=
 ite2 (decide (x0<1)) (K (w7 e 0 (sI x0) 25 (sI x0) 26 (sB (decide (x0<1))) 27 (sB true) 28 sU 29 sU 30 (sB true)) V0 hp) (K (w7 e 0 (sI x0) 25 (sI x0) 26 (sB (decide (x0<1))) 27 (sB false) 28 (sI x0) 29 (sB (decide (x0 > 65536))) 30 (sB (decide (x0 > 65536)))) V0 hp):= by kernel_rfl
def F9 (x0:Int) (x1a:OA) (x1n x1c:Nat) (hp:HP) (K:Kh):Prop:=
  (CF Tryd.prog 30 [(.slice x1a x1n x1c)] hp fun u1 h2=>boolV u1 fun q3=>ite2 q3 (CF Tryd.prog 31 [] h2 fun u4 h5=>boolV u4 fun q6=>K (.bool q6) h5) (CF Tryd.prog 32 [(.int .i64 x0)] h2 fun u7 h8=>tup2V u7 fun u9 u10=>ptrV u9 fun p11=>intV u10 .i64 fun i12=>ite2 (decide (x0<1)) (F9_j1 x0 x1a x1n x1c p11 i12 true h8  K) (F9_j1 x0 x1a x1n x1c p11 i12 (decide (x0 > 65536)) h8  K)))
noncomputable abbrev o9 (k n:Nat):Code:=.region k (opsAt Tryd.f9 (pth n)) false
noncomputable def F9_code:Code:=(.seq (o9 0 2) (.seq (.seq (o9 1 9) (.cond (.tmp 18) (.seq (o9 2 37) .ret) .skip)) (.seq (o9 3 11) (.seq (.seq (o9 4 39) (.cond (.tmp 30) (.seq (o9 5 151) .ret) .skip)) (.seq (.seq (o9 6 79) (.cond (.tmp 45) (.seq (o9 7 303) .ret) .skip)) (.seq (o9 8 95) (.seq (.seq (o9 9 319) (.block 0 (.loop (.seq (.seq (o9 10 4287) (.cond (.tmp 52) .skip (.exit 0))) (.seq (.block 1 (.seq (o9 12 17599) (.seq (o9 13 42175) (.seq (o9 14 91327) (.seq (o9 15 189631) (.seq (o9 16 386239) (.seq (.seq (.region 17 (opsAt Tryd.f9 (pth 1303743)) true) (.cond (.tmp 105) (.seq (o9 18 4973759) .ret) .skip)) (.seq (.seq (o9 19 2614463) (.block 2 (.seq (o9 20 9954495) (.cond (.tmp 108) (.seq (.region 21 (opsAt Tryd.f9 (pth 39314623)) true) (.cond (.tmp 126) (.seq (o9 22 156755135) .ret) .skip)) (.seq (o9 23 47703231) (.cond (.tmp 127) (.seq (o9 24 165143743) (.seq (.seq (o9 25 634905791) (.cond (.tmp 137) (.seq (.seq (o9 26 4661437631) (.cond (.tmp 144) (.seq (o9 27 19693823167) .ret) .skip)) (.exit 2)) .skip)) (.seq (.region 28 (opsAt Tryd.f9 (pth 769123519)) true) (.cond (.tmp 154) (.seq (o9 29 2648171711) .ret) .skip)))) (.seq (o9 30 198698175) (.cond (.tmp 155) (.seq (.region 31 (opsAt Tryd.f9 (pth 668460223)) true) (.cond (.tmp 166) (.seq (o9 32 2547508415) .ret) .skip)) .skip)))))))) (.seq (.region 33 (opsAt Tryd.f9 (pth 3138751)) true) (.cond (.tmp 184) (.seq (o9 34 10478783) .ret) .skip)))))))))) (o9 11 7359)))))) (.seq (o9 35 383) .ret))))))))
theorem F9_body:Tryd.f9.body=some F9_code:=by kernel_rfl
theorem F9_ok (x0:Int) (x1a:OA) (x1n x1c:Nat) (hp:HP) (K:Kh) (h:F9 x0 x1a x1n x1c hp K):CF Tryd.prog 9 [(.int .i64 x0),(.slice x1a x1n x1c)] hp K:=by
 refine .inl ⟨by kernel_rfl,AC.intro (N:=186) Tryd.func9 F9_body rfl (Nat.le_of_ble_eq_true rfl) ?_⟩
 unfold F9 at h
 refine Ar F9_r0 ?_ (r2 0 1 Rn) (z2 Sn) Sn
 refine Aq (Ar F9_r1 ?_ (r2 1 0 Rn) (z2 Sn) Sn)
 refine mC h fun u1 h2 h=>mB h fun q3 h=>?_
 refine Ac h rfl (fun h=>?_) (fun h=>?_)
 ·refine Ar F9_r2 ?_ Rn Sn Sn
  refine mC h fun u4 h5 h=>mB h fun q6 h=>?_
  refine AWP.ret ?_
  exact h
 ·refine AWP.skip (Ar F9_r3 ?_ (r2 0 1 Rn) (z2 Sn) Sn)
  refine mC h fun u7 h8 h=>mT h fun u9 u10 h=>mP h fun p11 h=>mI h fun i12 h=>?_
  refine Aq (As (fun env pv hp=>∃ x0 x1a x1n x1c x5 x6 x30,Sub (w5 E0 30 (sB x30) 6 (sI x6) 5 (sP x5) 1 (sS x1a x1n x1c) 0 (sI x0)) env∧Sub V0 pv∧F9_j1 x0 x1a x1n x1c x5 x6 x30 hp  K) ?_ ?_)
  ·refine Ag F9_r38 ?_ (r4 0 1 5 6 Rn) (z4 Sn) Sn
   refine mt h (fun h=>?_) (fun h=>?_)
   ·exact ⟨_,_,_,_,_,_,_,(z5 Sn),Sn,h⟩
   ·exact ⟨_,_,_,_,_,_,_,(z5 Sn),Sn,h⟩
  ·rintro env pv hp ⟨x0,x1a,x1n,x1c,x5,x6,x30,he,hv,h⟩
   refine Ae ?_ (r5 0 1 5 6 30 Rn) he hv
   unfold F9_j1 at h
   refine Ac h rfl (fun h=>?_) (fun h=>?_)
   ·refine Ar (F9_r4 rfl) ?_ (r2 5 6 Rn) (z2 Sn) Sn
    refine mt h (fun h=>?_) (fun h=>?_)
    ·refine mt h (fun h=>?_) (fun h=>?_)
     ·refine mC h fun u13 h14 h=>mB h fun q15 h=>?_
      refine AWP.ret ?_
      exact h
     ·refine AWP.ret ?_
      exact h
    ·refine AWP.ret ?_
     exact h
   ·refine AWP.skip (Aq (As (fun env pv hp=>∃ x0 x1a x1n x1c x5 x45,Sub (w4 E0 45 (sB x45) 5 (sP x5) 1 (sS x1a x1n x1c) 0 (sI x0)) env∧Sub V0 pv∧F9_j2 x0 x1a x1n x1c x5 x45 hp  K) ?_ ?_))
    ·refine Ag (F9_r37 rfl) ?_ (r4 5 6 0 1 Rn) (z4 Sn) Sn
     refine mt h (fun h=>?_) (fun h=>?_)
     ·exact ⟨_,_,_,_,_,_,(z4 Sn),Sn,h⟩
     ·exact ⟨_,_,_,_,_,_,(z4 Sn),Sn,h⟩
    ·rintro env pv hp ⟨x0,x1a,x1n,x1c,x5,x45,he,hv,h⟩
     refine Ae ?_ (r4 0 1 5 45 Rn) he hv
     unfold F9_j2 at h
     refine Ac h rfl (fun h=>?_) (fun h=>?_)
     ·refine Ar F9_r5 ?_ Rn Sn Sn
      refine AWP.ret ?_
      exact h
     ·refine AWP.skip (Ar F9_r6 ?_ (r3 0 1 5 Rn) (z3 Sn) Sn)
      refine fun b16 hb_b_16=>?_
      replace h:=h b16 hb_b_16
      refine As (fun env pv hp=>Sub E0 env∧Sub V0 pv∧F9_j3  hp  K) ?_ ?_
      ·refine As (fun env pv hp=>∃ x1a x1n x1c x5 x7 x8,Sub (w4 E0 8 (sI x8) 7 (sP x7) 5 (sP x5) 1 (sS x1a x1n x1c)) env∧Sub V0 pv∧F9_j4 x1a x1n x1c x5 x7 x8 hp  K) ?_ ?_
       ·refine Ag F9_r36 ?_ (r3 1 5 7 Rn) (z3 Sn) Sn
        exact ⟨_,_,_,_,_,_,(z4 Sn),Sn,h⟩
       ·rintro env pv hp ⟨x1a,x1n,x1c,x5,x7,x8,he,hv,h⟩
        refine Ae ?_ (r4 1 5 7 8 Rn) he hv
        unfold F9_j4 at h
        refine AWP.block (AWP.loop (σ:=Int) _ (fun s=>w4 E0 8 (sI s) 7 (sP x7) 5 (sP x5) 1 (sS x1a x1n x1c)) (fun s=>V0) x8 h (fun s=>r4 1 5 7 8 Rn) (z4 Sn) Sn ?_)
        intro I5 x8 hp h
        replace h:F9_l5 x1a x1n x1c x5 x7  K I5 x8 hp:=h
        unfold F9_l5 at h
        refine Aq (Ar F9_r8 ?_ (r4 1 8 5 7 Rn) (z4 Sn) Sn)
        refine Ac h rfl (fun h=>?_) (fun h=>?_)
        ·refine AWP.skip (Aq (AWP.block (Ar F9_r9 ?_ (r4 1 8 5 7 Rn) (z4 Sn) Sn)))
         refine ⟨h.1,h.2.1,mN h.2.2 fun b20 o21 h=>mL h fun l22 h=>mf h fun h=>mf h fun h=>mf h fun h=>?_⟩
         refine Ar F9_r10 ?_ (rp 9 9 0 (r4 1 5 7 8 Rn)) (z5 Sn) (z1 Sn)
         refine mV h fun v23 h=>mI h fun i24 h=>mV h fun v25 h=>mI h fun i26 h=>mC h fun u27 h28 h=>mA h fun l29 h=>mf h fun h=>mf h fun h=>mf h fun h=>?_
         refine Ar F9_r11 ?_ (rp 9 9 0 (r4 1 5 7 8 (rp 10 10 0 Rn))) (z6 Sn) (z2 Sn)
         refine mV h fun v30 h=>mI h fun i31 h=>mC h fun u32 h33 h=>mA h fun l34 h=>mf h fun h=>mf h fun h=>mf h fun h=>?_
         refine Ar (F9_r12 rfl) ?_ (r1 5 (rp 10 10 0 (rp 11 11 0 (r3 1 7 8 (rp 9 9 0 Rn))))) (z7 Sn) (z3 Sn)
         refine mL h fun l35 h=>mL h fun l36 h=>mC h fun u37 h38 h=>mT h fun u39 u40 h=>mA h fun l41 h=>mB h fun q42 h=>mf h fun h=>mf h fun h=>mf h fun h=>?_
         refine Ar (F9_r13 rfl) ?_ (r1 7 (rp 10 10 0 (rp 11 11 0 (r3 1 5 8 (rp 9 9 0 (rp 12 12 0 (r1 13 Rn))))))) (z1 (z8 Sn)) (z4 Sn)
         refine mL h fun l43 h=>mL h fun l44 h=>mC h fun u45 h46 h=>mI h fun i47 h=>?_
         refine Aq (As (fun env pv hp=>∃ x8 x14 x105 k9 k10 k11,Sub (upd (w8 E0 105 (sB x105) 14 (sI x14) 11 (sR 11 0) 10 (sR 10 0) 9 (sR 9 0) 8 (sI x8) 7 (sP x7) 5 (sP x5)) 1 (sS x1a x1n x1c)) env∧Sub (w3 V0 11 (34,k11) 10 (34,k10) 9 (59,k9)) pv∧(F9_j6 x1a x1n x1c x5 x7 x8 x14 x105 k9 k10 k11 hp I5 K)) ?_ ?_)
         ·refine AWP.rgnD (by kernel_rfl) (by kernel_rfl) (F9_r35 rfl) ?_ (r1 7 (rp 12 12 0 (r5 13 14 1 5 8 (rp 9 9 0 (rp 10 10 0 (rp 11 11 0 Rn)))))) (z2 (z8 Sn)) (z4 Sn)
          refine mt h (fun h=>?_) (fun h=>?_)
          ·exact ⟨_,_,_,_,_,_,(z1 (z8 Sn)),(z3 Sn),h⟩
          ·refine mt h (fun h=>?_) (fun h=>?_)
           ·refine mL h (fun l194 h=>mN h (fun b195 o196 h=>mV h (fun v197 h=>mS h (fun a198 n199 c200 h=>⟨h.1,h.2.1,mN h.2.2 fun b201 o202 h=>mL h fun l203 h=>mC h fun u204 h205 h=>mB h fun q206 h=>?_⟩))))
            refine mt h (fun h=>?_) (fun h=>?_)
            ·exact ⟨_,_,_,_,_,_,(z1 (z8 Sn)),(z3 Sn),h⟩
            ·refine mt h (fun h=>?_) (fun h=>?_)
             ·refine mL h fun l207 h=>mE h fun q208 h=>?_
              exact ⟨_,_,_,_,_,_,(z1 (z8 Sn)),(z3 Sn),h⟩
             ·exact ⟨_,_,_,_,_,_,(z1 (z8 Sn)),(z3 Sn),h⟩
           ·refine mt h (fun h=>?_) (fun h=>?_)
            ·refine mL h fun l209 h=>mE h fun q210 h=>?_
             exact ⟨_,_,_,_,_,_,(z1 (z8 Sn)),(z3 Sn),h⟩
            ·exact ⟨_,_,_,_,_,_,(z1 (z8 Sn)),(z3 Sn),h⟩
         ·rintro env pv hp ⟨x8,x14,x105,k9,k10,k11,he,hv,h⟩
          refine Ae ?_ (r4 1 5 7 8 (rp 9 9 0 (rp 10 10 0 (rp 11 11 0 (r2 14 105 Rn))))) he hv
          unfold F9_j6 at h
          refine Ac h rfl (fun h=>?_) (fun h=>?_)
          ·refine Ar F9_r14 ?_ Rn Sn Sn
           refine AWP.ret ?_
           exact h
          ·refine AWP.skip (As (fun env pv hp=>∃ x8,Sub (w4 E0 8 (sI x8) 7 (sP x7) 5 (sP x5) 1 (sS x1a x1n x1c)) env∧Sub V0 pv∧F9_j7 x1a x1n x1c x5 x7 x8 hp I5 K) ?_ ?_)
           ·refine Ar F9_r21 ?_ (rp 9 9 0 (r4 1 5 7 8 (rp 10 10 0 (rp 11 11 0 (r1 14 Rn))))) (z8 Sn) (z3 Sn)
            refine mV h fun v140 h=>mI h fun i141 h=>?_
            refine AWP.block (Ar F9_r22 ?_ (r5 107 1 5 7 8 (rp 9 9 0 (rp 10 10 0 (rp 11 11 0 (r1 14 Rn))))) (z1 (z8 Sn)) (z3 Sn))
            refine Ac h rfl (fun h=>?_) (fun h=>?_)
            ·refine Aq (AWP.rgnD (by kernel_rfl) (by kernel_rfl) (F9_r23 rfl) ?_ (r2 5 7 (rp 9 9 0 (rp 10 10 0 (rp 11 11 0 (r2 1 8 Rn))))) (z7 Sn) (z3 Sn))
             refine mL h fun l142 h=>mL h fun l143 h=>mV h fun v144 h=>mI h fun i145 h=>mV h fun v146 h=>ms h fun s147 h=>mC h fun u148 h149 h=>mI h fun i150 h=>mL h fun l151 h=>mL h fun l152 h=>mV h fun v153 h=>mI h fun i154 h=>mV h fun v155 h=>ms h fun s156 h=>mC h fun u157 h158 h=>mI h fun i159 h=>?_
             refine Ac h rfl (fun h=>?_) (fun h=>?_)
             ·refine Ar F9_r24 ?_ Rn Sn Sn
              refine AWP.ret ?_
              exact h
             ·refine AWP.skip ?_
              exact ⟨_,(z4 Sn),Sn,h⟩
            ·refine Ar F9_r25 ?_ (r5 107 1 5 7 8 (rp 9 9 0 (rp 10 10 0 (rp 11 11 0 (r1 14 Rn))))) (z1 (z8 Sn)) (z3 Sn)
             refine Ac h rfl (fun h=>?_) (fun h=>?_)
             ·refine Ar (F9_r26 rfl) ?_ (r1 5 (rp 10 10 0 (rp 11 11 0 (r4 1 7 8 14 Rn)))) (z7 Sn) (z2 Sn)
              refine mL h fun l160 h=>mL h fun l161 h=>mC h fun u162 h163 h=>mT h fun u164 u165 h=>mA h fun l166 h=>mI h fun i167 h=>mf h fun h=>mf h fun h=>mf h fun h=>?_
              refine Aq (Ar F9_r27 ?_ (r5 14 1 5 7 8 (rp 15 15 0 (r1 16 Rn))) (z7 Sn) (z1 Sn))
              refine Ac h rfl (fun h=>?_) (fun h=>?_)
              ·refine Aq (As (fun env pv hp=>∃ x8 x144,Sub (w5 E0 144 (sB x144) 8 (sI x8) 7 (sP x7) 5 (sP x5) 1 (sS x1a x1n x1c)) env∧Sub V0 pv∧F9_j9 x1a x1n x1c x5 x7 x8 x144 hp I5 K) ?_ ?_)
               ·refine Ag (F9_r29 rfl) ?_ (rp 15 15 0 (r5 16 1 5 7 8 Rn)) (z6 Sn) (z1 Sn)
                refine mt h (fun h=>?_) (fun h=>?_)
                ·exact ⟨_,_,(z5 Sn),Sn,h⟩
                ·refine mL h fun l168 h=>mE h fun q169 h=>?_
                 exact ⟨_,_,(z5 Sn),Sn,h⟩
               ·rintro env pv hp ⟨x8,x144,he,hv,h⟩
                refine Ae ?_ (r5 1 5 7 8 144 Rn) he hv
                unfold F9_j9 at h
                refine Ac h rfl (fun h=>?_) (fun h=>?_)
                ·refine Ar F9_r28 ?_ Rn Sn Sn
                 refine AWP.ret ?_
                 exact h
                ·refine AWP.skip (AWP.exit ?_)
                 exact ⟨_,(z4 Sn),Sn,h⟩
              ·refine AWP.skip (As (fun env pv hp=>∃ x8 x154,Sub (w5 E0 154 (sB x154) 8 (sI x8) 7 (sP x7) 5 (sP x5) 1 (sS x1a x1n x1c)) env∧Sub V0 pv∧F9_j10 x1a x1n x1c x5 x7 x8 x154 hp I5 K) ?_ ?_)
               ·refine AWP.rgnD (by kernel_rfl) (by kernel_rfl) (F9_r31 rfl) ?_ (r2 7 14 (rp 15 15 0 (r4 16 1 5 8 Rn))) (z7 Sn) (z1 Sn)
                refine mt h (fun h=>?_) (fun h=>?_)
                ·exact ⟨_,_,(z5 Sn),Sn,h⟩
                ·refine mL h fun l170 h=>mC h fun u171 h172 h=>mA h fun l173 h=>mC h fun u174 h175 h=>mB h fun q176 h=>?_
                 exact ⟨_,_,(z5 Sn),Sn,h⟩
               ·rintro env pv hp ⟨x8,x154,he,hv,h⟩
                refine Ae ?_ (r5 1 5 7 8 154 Rn) he hv
                unfold F9_j10 at h
                refine Ac h rfl (fun h=>?_) (fun h=>?_)
                ·refine Ar F9_r30 ?_ Rn Sn Sn
                 refine AWP.ret ?_
                 exact h
                ·refine AWP.skip ?_
                 exact ⟨_,(z4 Sn),Sn,h⟩
             ·refine Ar F9_r32 ?_ (r5 107 1 5 7 8 (rp 9 9 0 Rn)) (z6 Sn) (z1 Sn)
              refine Ac h rfl (fun h=>?_) (fun h=>?_)
              ·refine Aq (AWP.rgnD (by kernel_rfl) (by kernel_rfl) (F9_r33 rfl) ?_ (r2 5 7 (rp 9 9 0 (r2 1 8 Rn))) (z5 Sn) (z1 Sn))
               refine mV h fun v177 h=>mI h fun i178 h=>mC h fun u179 h180 h=>mS h fun a181 n182 c183 h=>mV h fun v184 h=>mI h fun i185 h=>mC h fun u186 h187 h=>mS h fun a188 n189 c190 h=>mC h fun u191 h192 h=>mB h fun q193 h=>?_
               refine Ac h rfl (fun h=>?_) (fun h=>?_)
               ·refine Ar F9_r34 ?_ Rn Sn Sn
                refine AWP.ret ?_
                exact h
               ·refine AWP.skip ?_
                exact ⟨_,(z4 Sn),Sn,h⟩
              ·refine AWP.skip ?_
               exact ⟨_,(z4 Sn),Sn,h⟩
           ·rintro env pv hp ⟨x8,he,hv,h⟩
            refine Ae ?_ (r4 1 5 7 8 Rn) he hv
            unfold F9_j7 at h
            refine As (fun env pv hp=>∃ x8 x184,Sub (w5 E0 184 (sB x184) 8 (sI x8) 7 (sP x7) 5 (sP x5) 1 (sS x1a x1n x1c)) env∧Sub V0 pv∧F9_j8 x1a x1n x1c x5 x7 x8 x184 hp I5 K) ?_ ?_
            ·refine AWP.rgnC (cf:=[(1,5),(10,14)]) (c:=[([true,true],true,[0,1,2,3,4,5,6,7,8,9,10,11,12,13,14,15,16,17]),([true,false],true,[0,1,2,3,4,5,6,7,8,9,11,12,13,14,10,15,16,17]),([false,true],true,[0,2,3,4,5,1,6,7,8,9,10,11,12,13,14,15,16,17]),([false,false],true,[0,2,3,4,5,1,6,7,8,9,11,12,13,14,10,15,16,17])]) (by kernel_rfl) (by kernel_rfl) (by kernel_rfl) (by kernel_rfl) (allO_t (Eq.mpr F9_r17 ?_) (allO_t (Eq.mpr F9_r18 ?_) (allO_t (Eq.mpr F9_r19 ?_) (allO_t (Eq.mpr F9_r20 ?_) trivial)))) (r4 5 7 1 8 Rn) (z4 Sn) Sn
             ·replace h:=h.1
              refine mC h fun u48 h49 h=>mS h fun a50 n51 c52 h=>mN h fun b53 o54 h=>mV h fun v55 h=>mS h fun a56 n57 c58 h=>mC h fun u59 h60 h=>mB h fun q61 h=>?_
              refine mt h (fun h=>?_) (fun h=>?_)
              ·exact ⟨_,_,(z5 Sn),Sn,h⟩
              ·refine mC h fun u62 h63 h=>mI h fun i64 h=>mN h fun b65 o66 h=>mV h fun v67 h=>mS h fun a68 n69 c70 h=>?_
               exact ⟨_,_,(z5 Sn),Sn,h⟩
             ·replace h:=h.2.1
              refine mC h fun u71 h72 h=>mS h fun a73 n74 c75 h=>mN h fun b76 o77 h=>mV h fun v78 h=>mS h fun a79 n80 c81 h=>mC h fun u82 h83 h=>mB h fun q84 h=>?_
              refine mt h (fun h=>?_) (fun h=>?_)
              ·exact ⟨_,_,(z5 Sn),Sn,h⟩
              ·refine mN h fun b85 o86 h=>mV h fun v87 h=>mS h fun a88 n89 c90 h=>mC h fun u91 h92 h=>mI h fun i93 h=>?_
               exact ⟨_,_,(z5 Sn),Sn,h⟩
             ·replace h:=h.2.2.1
              refine mN h fun b94 o95 h=>mV h fun v96 h=>mS h fun a97 n98 c99 h=>mC h fun u100 h101 h=>mS h fun a102 n103 c104 h=>mC h fun u105 h106 h=>mB h fun q107 h=>?_
              refine mt h (fun h=>?_) (fun h=>?_)
              ·exact ⟨_,_,(z5 Sn),Sn,h⟩
              ·refine mC h fun u108 h109 h=>mI h fun i110 h=>mN h fun b111 o112 h=>mV h fun v113 h=>mS h fun a114 n115 c116 h=>?_
               exact ⟨_,_,(z5 Sn),Sn,h⟩
             ·replace h:=h.2.2.2
              refine mN h fun b117 o118 h=>mV h fun v119 h=>mS h fun a120 n121 c122 h=>mC h fun u123 h124 h=>mS h fun a125 n126 c127 h=>mC h fun u128 h129 h=>mB h fun q130 h=>?_
              refine mt h (fun h=>?_) (fun h=>?_)
              ·exact ⟨_,_,(z5 Sn),Sn,h⟩
              ·refine mN h fun b131 o132 h=>mV h fun v133 h=>mS h fun a134 n135 c136 h=>mC h fun u137 h138 h=>mI h fun i139 h=>?_
               exact ⟨_,_,(z5 Sn),Sn,h⟩
            ·rintro env pv hp ⟨x8,x184,he,hv,h⟩
             refine Ae ?_ (r5 1 5 7 8 184 Rn) he hv
             unfold F9_j8 at h
             refine Ac h rfl (fun h=>?_) (fun h=>?_)
             ·refine Ar F9_r15 ?_ Rn Sn Sn
              refine AWP.ret ?_
              exact h
             ·refine AWP.skip (Ag F9_r16 ?_ (r4 8 1 5 7 Rn) (z4 Sn) Sn)
              exact ⟨_,(z4 Sn),Sn,h⟩
        ·refine AWP.exit ?_
         exact ⟨Sn,Sn,h⟩
      ·rintro env pv hp ⟨he,hv,h⟩
       refine Ae ?_ Rn he hv
       unfold F9_j3 at h
       refine Ar F9_r7 ?_ Rn Sn Sn
       refine mC h fun u17 h18 h=>mB h fun q19 h=>?_
       refine AWP.ret ?_
       exact h
end
end Go.Proofs
set_option linter.unusedVariables false
set_option linter.unusedSimpArgs false
set_option maxRecDepth 20000
namespace Go.Proofs
open Go Go.HL
open Go.Exp (Th tlt Ord setW dropW insW)
section
variable {tb:Obj} {hp0:HP} {K:Value→HP→Prop} {s r mx:Nat}
/-- Both stores, of one list, beside what was known at first. -/
def St24 (tb:Obj) (hp0 hp:HP) (s r mx last:Nat) (L:List Sy):Prop:=
  ∃ (ps:Nat→HP) (w:List Th),Parts hp ps∧ps 0=hp0.set 0 .none∧SyW tb (ps 1) s mx last L w∧RefS (ps 2) r (mx:Nat) last L∧∀ i,3≤i→∀ b,ps i b=.none
theorem St24.of {hp:HP} {last:Nat} {L:List Sy} {ps:Nat→HP} {w:List Th} (hP:Parts hp ps) (h0:ps 0=hp0.set 0 .none) (h1:SyW tb (ps 1) s mx last L w) (h2:RefS (ps 2) r (mx:Nat) last L):St24 tb hp0 hp s r mx last L:=
  ⟨_,w,hP.cut 3,by simpa using h0,by simpa using h1,by simpa using h2,fun i hi b=>by simp only [show ¬ i<3 by omega,if_false]⟩
theorem N51no {ps:Nat→HP} {hp:HP} {last:Nat} {L:List Sy} {o p:Q × Int} {due:Int} {text:ByteArray} {e:Int} (h:RefS hp r (mx:Nat) last L) (hlast:last<500000) (hl:L.length≤100000) (he:putE mx o p due text L=e) (hne:e≠0)
    (hK:K (.int .i64 e) hp):CF Tryd.prog 51 [ptr r 0,.agg ⟨t4 o⟩,.agg ⟨t4 p⟩,.int .i64 due,.string text] hp K:=
  C51 h hlast hl (fun e' he' _=>by rw [he] at he'; rw [← he']; exact hK) fun h0=>absurd (he.symm.trans h0) hne
theorem N51yes {ps:Nat→HP} {hp:HP} {last:Nat} {L:List Sy} {o p:Q × Int} {due:Int} {text:ByteArray} (hP:Parts hp ps) (i:Nat) (h:RefS (ps i) r (mx:Nat) last L) (hlast:last<500000) (hl:L.length≤100000) (he:putE mx o p due text L=0)
    (hK:∀ l hp',RefS l r (mx:Nat) (last+1) (L++[⟨(last+1:Nat),o,p,due,text⟩])→Parts hp' (pu ps i l)→K (.int .i64 0) hp'):CF Tryd.prog 51 [ptr r 0,.agg ⟨t4 o⟩,.agg ⟨t4 p⟩,.int .i64 due,.string text] hp K:=by
  refine CF.part hP i (C51 (K:=fun u l=>u=.int .i64 0∧RefS l r (mx:Nat) (last+1) (L++[⟨(last+1:Nat),o,p,due,text⟩])) h hlast hl (fun e h1 h2=>absurd (h1.symm.trans he) h2) fun _ l hl=>⟨rfl,hl⟩) ?_
  rintro u l hp'' ⟨rfl,hl⟩ hP'
  exact hK l hp'' hl hP'
theorem N54 {ps:Nat→HP} {hp:HP} {last:Nat} {L:List Sy} {w:List Th} {now:Int} {i j:Nat} (hP:Parts hp ps) (hij:j≠i) (hj:∀ b,ps j b=.none) (h:RefS (ps i) r (mx:Nat) last L) (hl:L.length≤100000) (hasc:(L.map (·.id)).Pairwise (· < ·)) (hQ:QOk Sy.id Sy.due L w)
    (hK:∀ l q hp' a c,RefS l r (mx:Nat) last (restL Sy.due now L)→Row q a (popsL Sy.id now L w).length c 93 13 ((popsL Sy.id now L w).flatMap syc)→Parts hp' (pu (pu ps i l) j q)→K (.slice a (popsL Sy.id now L w).length c) hp'):CF Tryd.prog 54 [ptr r 0,.int .i64 now] hp K:=by
  refine CF.part hP i (C54 (K:=fun u q=>∃ qs a c,u=.slice a (popsL Sy.id now L w).length c∧Parts q qs∧RefS (qs 0) r (mx:Nat) last (restL Sy.due now L)∧Row (qs 1) a (popsL Sy.id now L w).length c 93 13 ((popsL Sy.id now L w).flatMap syc)) h hl hasc hQ
    fun qs hq' a c h1 h2 h3=>⟨qs,a,c,rfl,h1,h2,h3⟩) ?_
  rintro u q hp'' ⟨qs,a,c,rfl,h1,h2,h3⟩ hP'
  refine hK (qs 0) (qs 1) hp'' a c h2 h3 ?_
  have:=hP'.split (i:=i) (j:=j) hij (fun b=>by rw [pu_ne _ _ hij]; exact hj b) (l:=qs 0) (r:=qs 1) (by rw [pu_eq]; exact h1.sub 0) (by rw [pu_eq]; exact h1.sub 1) (h1.dis 0 1 (by omega))
  have e:pu (pu (pu ps i q) i (qs 0)) j (qs 1)=pu (pu ps i (qs 0)) j (qs 1):=by
    funext k
    by_cases h1:k=j
    · subst h1; rw [pu_eq,pu_eq]
    · rw [pu_ne _ _ h1,pu_ne _ _ h1]
      by_cases h2:k=i
      · subst h2; rw [pu_eq,pu_eq]
      · rw [pu_ne _ _ h2,pu_ne _ _ h2,pu_ne _ _ h2]
  rw [e] at this
  exact this
set_option maxHeartbeats 4000000 in
theorem C9 {x:Int} {a0:Option Addr} {n0 c0:Nat} {acts:List A24} (ht:TabR tb hp0) (hs0:Shows hp0 a0 n0 6 (acts.flatMap a24)) (hl0:acts.length=n0) (hok:∀ y∈acts,okA24 y) (hx:okZ x)
    (h:K (.bool true) hp0):CF Tryd.prog 9 [.int .i64 x,.slice a0 n0 c0] hp0 K:=by
  refine CF.drop (F9_ok x a0 n0 c0 hp0 _ ?_)
  unfold F9
  have wk:∀ hp',HSub hp0 hp'→TabR tb hp'→CF Tryd.prog 31 [] hp' fun u h=>boolV u fun q=>∃ hp'',HSub hp'' h∧K (.bool q) hp'':=by
    intro hp' hs ht'
    refine C31 ht' fun hp2 h2=>?_
    rw [boolV_bool]
    exact ⟨hp0,hs.trans h2,h⟩
  refine C30 hs0 hl0 fun g hg=>?_
  rw [boolV_bool]
  cases g with
  | true=>rw [ite2_true]; exact wk hp0 (HSub.refl _) ht
  | false=>
  rw [ite2_false]
  obtain ⟨hn0,htx⟩:=hg rfl
  by_cases hm:x<1∨x > 65536
  · refine N32bad ht hm ?_
    simp only [tup2V_mk,ppn,intV_int]
    have e:F9_j1 x a0 n0 c0 none 1 true hp0 fun v hp'=>∃ hp'',HSub hp'' hp'∧K v hp'':=by
      unfold F9_j1
      show ite2 true (ite2 true (ite2 true _ _) _) _
      simp only [ite2_true]
      exact wk hp0 (HSub.refl _) ht
    by_cases h1:x<1
    · rw [decide_eq_true h1,ite2_true]; exact e
    · rw [decide_eq_false h1,ite2_false,decide_eq_true (by omega:x > 65536)]; exact e
  refine N32ok (startP_ok ht) 1 (startP_1 ht) (by omega) fun s l hp1 h1 P1=>?_
  simp only [tup2V_mk,pp,intV_int]
  rw [decide_eq_false (by omega),ite2_false,decide_eq_false (by omega)]
  unfold F9_j1
  show ite2 false _ (ite2 false _ _)
  simp only [ite2_false]
  unfold F9_j2
  show ite2 false _ _
  rw [ite2_false]
  intro r hr
  have P2:=P1.new 2 hr (.cells 90 [(Value.int .i64 x),(Value.int .i64 0),(Value.slice none 0 0)] 0)
  obtain ⟨mx,rfl⟩:∃ mx:Nat,x=mx:=⟨x.toNat,by omega⟩
  rw [Int.toNat_natCast] at h1
  have st0:St24 tb hp0 (hp1.set r (.cells 90 [(Value.int .i64 (mx:Nat)),(Value.int .i64 0),(Value.slice none 0 0)] 0)) s r mx 0 []:=by
    refine St24.of P2 (by rw [pu_ne _ _ (by omega),pu_ne _ _ (by omega),startP_0]) (w:=[]) ?_ ?_
    · rw [pu_ne _ _ (by omega),pu_eq]; exact h1
    · rw [pu_eq]
      exact ⟨none,0,HP.set_eq ..,.inl ⟨rfl,rfl,rfl,rfl⟩⟩
  clear P1 P2 h1
  unfold F9_j4
  refine LoopP.by (J:=fun k (y:Int) hp=>∃ (i last:Nat) (L:List Sy),y=i∧i+k=n0∧St24 tb hp0 hp s r mx last L∧last≤i∧L.length≤i) ?_ (n:=n0) ⟨0,0,[],rfl,by omega,st0,Nat.le_refl _,Nat.le_refl _⟩
  clear st0
  rintro I k y hp ⟨i,last,L,rfl,hik,hst,hla,hLi⟩ hI
  unfold F9_l5
  have tabs:∀ {hp:HP} {last:Nat} {L:List Sy},St24 tb hp0 hp s r mx last L→TabR tb hp∧HSub hp0 hp:=by
    rintro hp last L ⟨ps,w,hP,g0,g1,g2,g3⟩
    have ht':=(g1.sub (hP.sub 1)).tab
    exact ⟨ht',finish ht hP g0 ht'⟩
  obtain ⟨htp,hsp⟩:=tabs hst
  by_cases hi:i<n0
  rotate_left
  · rw [decide_eq_false (by omega:¬ (i:Int)<(n0:Int)),ite2_false]
    unfold F9_j3
    exact wk hp hsp htp
  rw [decide_eq_true (by omega:(i:Int)<(n0:Int)),ite2_true]
  obtain ⟨b,o,hab,hc⟩:=(hs0.sub hsp).get a24_len hl0 hi
  have hact:=hok _ (List.getElem_mem (hl0▸hi))
  have htxt:=htx _ (List.getElem_mem (hl0▸hi))
  generalize acts[i]'(hl0▸hi)=A at hc hact htxt
  have w1:IntKind.wrap .i64 ((i:Int)+1)=((i+1:Nat):Int):=wi (by omega) (by omega)
  rw [hab]
  try simp only [syz]
  simp only [ptrN_some,Int.toNat_natCast,hc,ldL_some,a24z,a24_splice]
  refine ⟨by omega,by omega,ifI (a24_len A) (ifI (a24_one A) (ifI (by rw [a24_len,a24_len]; omega) ?_))⟩
  simp only [a24_1,a24_3,ldV_some,intV_int]
  refine C34 ?_
  simp only [aggV_agg,t4z]
  refine ifI rfl (ifI rfl (ifI (by rw [t4_len,t4_len]; omega) ?_))
  simp only [a24_2,ldV_some,intV_int]
  refine C34 ?_
  simp only [aggV_agg]
  refine ifI rfl (ifI rfl (ifI (by rw [t4_len,t4_len]; omega) ?_))
  simp only [t4_splice,t4_cells,ldL_some]
  have o1:okT (ta A.a A.port):=ta_ok hact.1 hact.2.2.1
  have o2:okT (ta A.b 9):=ta_ok hact.2.1 (okZc rfl)
  generalize ta A.a A.port=q1 at o1
  generalize ta A.b 9=q2 at o2
  have seven:∀ (hp:HP) (last:Nat) (L:List Sy),St24 tb hp0 hp s r mx last L→last≤i+1→L.length≤i+1 →
      F9_j7 (some ⟨b,o,none⟩) n0 c0 (some ⟨s,0,none⟩) (some ⟨r,0,none⟩) i hp I (fun v hp'=>∃ hp'',HSub hp'' hp'∧K v hp''):=by
    rintro hp last L ⟨ps,w,hP,g0,g1,g2,g3⟩ hla hLi
    unfold F9_j7
    obtain ⟨ar,cr,q1,q2⟩:=g2
    have cell:∀ {hp':HP} {ps':Nat→HP},Parts hp' ps'→ps' 2=ps 2→hp'.cell r 2=some (.slice ar L.length cr):=fun hP' e=>HP.cell_of ((hP'.at 2 e).cells q1)
    have fin:∀ {hp':HP} {rr:HP},Parts hp' (pu ps 3 rr)→F9_j8 (some ⟨b,o,none⟩) n0 c0 (some ⟨s,0,none⟩) (some ⟨r,0,none⟩) i (((L.length:Nat):Int) != ((L.length:Nat):Int)) hp' I (fun v hp'=>∃ hp'',HSub hp'' hp'∧K v hp''):=by
      intro hp' rr P
      unfold F9_j8
      have e:(((L.length:Nat):Int) != ((L.length:Nat):Int))=false:=by simp
      rw [e,ite2_false,w1]
      refine hI (k-1) _ _ (by omega) ⟨i+1,last,L,rfl,by omega,?_,hla,hLi⟩
      exact St24.of P (by rw [pu_ne _ _ (by omega)]; exact g0) (by rw [pu_ne _ _ (by omega)]; exact g1) (by rw [pu_ne _ _ (by omega)]; exact ⟨ar,cr,q1,q2⟩)
    have c20:=cell hP rfl
    refine ⟨?_,?_,?_,?_⟩
    all_goals
      try simp only [ptrN_some,Nat.zero_add,c20,ldV_some,slcV_slice]
      refine N55 hP (i:=1) (j:=3) (by omega) (g3 3 (by omega)) g1 (by omega) fun rr hp2 a c hrow P2=>?_
      have c21:=cell P2 (by rw [pu_ne _ _ (by omega)])
      simp only [slcV_slice,ptrN_some,Nat.zero_add,c21,ldV_some]
      refine C53 (l:=L) (l':=L) (hrow.sub (P2.at 3 (pu_eq ..))).shows (q2.sub (P2.at 2 (by rw [pu_ne _ _ (by omega)]))).shows rfl rfl (by omega) ?_
      rw [boolV_bool,decide_eq_true rfl,Bool.not_true,ite2_false]
      try simp only [slcV_slice,ptrN_some,Nat.zero_add,c21,ldV_some]
      refine C38 (g1.sub (P2.at 1 (by rw [pu_ne _ _ (by omega)]))) ?_
      simp only [intV_int,slcV_slice,ptrN_some,Nat.zero_add,c21,ldV_some]
      exact fin P2
  obtain ⟨ps,w,hP,g0,g1,g2,g3⟩:=hst
  have hinv:=g1.inv
  refine C39 (g1.sub (hP.sub 1)) o1 o2 ?_
  simp only [tup2V_mk,aggV_agg,boolV_bool,syz]
  refine ifI (syc_len _) (ifI (syc_one _) (ifI (by rw [syc_len,syc_len]; omega) ?_))
  refine C49 (g2.sub (hP.sub 2)) (by omega) fun v hv=>?_
  rw [intV_int]
  simp only [syc_splice,syc_cells,ldL_some]
  have six:atS q1 q2 L v→F9_j6 (some ⟨b,o,none⟩) n0 c0 (some ⟨s,0,none⟩) (some ⟨r,0,none⟩) i v false (a24 A) (t4 q1) (t4 q2) hp I (fun v hp'=>∃ hp'',HSub hp'' hp'∧K v hp''):=by
    intro hv
    unfold F9_j6
    simp only [ite2_false,a24_0,a24_4,a24_5,ldV_some,intV_int,strV_string,t4_cells,ldL_some]
    have pass:St24 tb hp0 hp s r mx last L:=St24.of hP g0 g1 g2
    by_cases d0:A.what=0
    · rw [show (A.what==0)=true by simp [d0],ite2_true]
      by_cases he:putE mx q1 q2 A.due A.text L=0
      · refine N33yes hP 1 g1 o1 o2 (by omega) he fun l2 hp2 h2 P2=>?_
        rw [intV_int]
        refine N51yes P2 2 (by rw [pu_ne _ _ (by omega)]; exact g2) (by omega) (by omega) he (ps:=pu ps 1 l2) fun l3 hp3 h3 P3=>?_
        rw [intV_int]
        show ite2 false _ _
        rw [ite2_false]
        refine seven hp3 (last+1) _ (St24.of P3 (by rw [pu_ne _ _ (by omega),pu_ne _ _ (by omega)]; exact g0) (by rw [pu_ne _ _ (by omega),pu_eq]; exact h2) (by rw [pu_eq]; exact h3)) (by omega) (by simp; omega)
      · refine N33no (g1.sub (hP.sub 1)) o1 o2 (by omega) rfl he ?_
        rw [intV_int]
        refine N51no (ps:=ps) (g2.sub (hP.sub 2)) (by omega) (by omega) rfl he ?_
        rw [intV_int]
        have e:(putE mx q1 q2 A.due A.text L != putE mx q1 q2 A.due A.text L)=false:=by simp
        rw [e,ite2_false]
        exact seven hp last L pass (by omega) (by omega)
    rw [show (A.what==0)=false by simp [d0],ite2_false]
    by_cases d1:A.what=1
    · rw [show (A.what==1)=true by simp [d1],ite2_true]
      rcases hv with ⟨rfl,hf⟩ | ⟨j,hj,rfl,hf⟩
      · refine N35no (g1.sub (hP.sub 1)) o1 o2 hf ?_
        simp only [tup2V_mk,aggV_agg,intV_int,syz]
        refine ifI rfl (ifI rfl (ifI (by rw [syc_len]; omega) ?_))
        rw [decide_eq_true (by omega),ite2_true]
        show ite2 false _ _
        rw [ite2_false,syc_splice,syc_cells,ldL_some]
        refine eq62 ?_
        unfold F9_j9
        rw [decide_eq_true rfl,Bool.not_true,ite2_false]
        exact seven hp last L pass (by omega) (by omega)
      · refine N35yes hP 1 g1 o1 o2 hf fun l2 hp2 h2 P2=>?_
        simp only [tup2V_mk,aggV_agg,intV_int,syz]
        refine ifI (syc_len _) (ifI (syc_one _) (ifI (by rw [syc_len,syc_len]; omega) ?_))
        rw [decide_eq_false (by omega),ite2_false]
        show ite2 false _ _
        rw [ite2_false,syc_splice,syc_cells,ldL_some]
        refine N52 (j:=2) P2 (by rw [pu_ne _ _ (by omega)]; exact g2) hj (by omega) fun l3 hp3 h3 P3=>?_
        rw [aggV_agg]
        refine C50 ?_
        unfold F9_j10
        rw [boolV_bool,decide_eq_true rfl,Bool.not_true,ite2_false]
        rw [cut_filter hinv.ids hj] at h3
        refine seven hp3 last _ (St24.of P3 (by rw [pu_ne _ _ (by omega),pu_ne _ _ (by omega)]; exact g0) (by rw [pu_ne _ _ (by omega),pu_eq]; exact h2) (by rw [pu_eq]; exact h3)) (by omega) ?_
        have:=List.length_filter_le (fun z:Sy=>decide (z.id≠L[j].id)) L
        omega
    rw [show (A.what==1)=false by simp [d1],ite2_false]
    by_cases d2:A.what=2
    · rw [show (A.what==2)=true by simp [d2],ite2_true]
      refine N37 hP 1 (j:=3) (by omega) (g3 3 (by omega)) g1 fun l2 rr hp2 a c w' h2 hr2 P2=>?_
      rw [slcV_slice]
      refine N54 (i:=2) (j:=4) P2 (by omega) (fun b=>by rw [pu_ne _ _ (by omega),pu_ne _ _ (by omega)]; exact g3 4 (by omega) b) (by rw [pu_ne _ _ (by omega),pu_ne _ _ (by omega)]; exact g2) (by omega) hinv.asc g1.qok fun l3 q3 hp3 a3 c3 h3 hr3 P3=>?_
      rw [slcV_slice]
      have hpl:(popsL Sy.id A.due L w).length≤1000000:=by
        have h2:(popsL Sy.id A.due L w).length≤w.length:=by
          unfold popsL
          exact Nat.le_trans (List.length_filterMap_le _ _) ((List.takeWhile_sublist _).length_le)
        have h3:=g1.qok.len
        omega
      refine C53 (hr2.sub (P3.at 3 (by rw [pu_ne _ _ (by omega),pu_ne _ _ (by omega),pu_eq]))).shows (hr3.sub (P3.at 4 (pu_eq ..))).shows rfl rfl hpl ?_
      rw [boolV_bool,decide_eq_true rfl,Bool.not_true,ite2_false]
      refine seven hp3 last _ (St24.of P3 (w:=w') (by rw [pu_ne _ _ (by omega),pu_ne _ _ (by omega),pu_ne _ _ (by omega),pu_ne _ _ (by omega)]; exact g0) (by rw [pu_ne _ _ (by omega),pu_ne _ _ (by omega),pu_ne _ _ (by omega),pu_eq]; exact h2) (by rw [pu_ne _ _ (by omega),pu_eq]; exact h3)) (by omega) ?_
      have:=List.length_filter_le (fun x:Sy=>decide (¬ x.due≤A.due)) L
      unfold restL
      omega
    rw [show (A.what==2)=false by simp [d2],ite2_false]
    exact seven hp last L pass (by omega) (by omega)
  have hv0:=hv
  rcases hv with ⟨rfl,hf⟩ | ⟨j,hj,rfl,hf⟩
  · rw [hf]
    show ite2 (!(false==decide ((-1:Int)≥0))) _ _
    rw [show (!(false==decide ((-1:Int)≥0)))=false from rfl,ite2_false]
    show ite2 false _ (ite2 true _ _)
    simp only [ite2_false,ite2_true,Option.getD_none]
    refine eq62 ?_
    rw [decide_eq_true rfl,Bool.not_true]
    exact six hv0
  · rw [hf]
    rw [decide_eq_true (by omega:(j:Int)≥0)]
    show ite2 false _ (ite2 true _ _)
    obtain ⟨ar,cr,q1',q2'⟩:=g2.sub (hP.sub 2)
    have c20:hp.cell r 2=some (.slice ar L.length cr):=HP.cell_of q1'
    simp only [ite2_false,ite2_true,Option.getD_some,ptrN_some,Nat.zero_add,c20,ldV_some,slcV_slice]
    refine ⟨by omega,by omega,?_⟩
    obtain ⟨b2,o2',e2,gg,_⟩:=Shows.at q2'.shows rfl hj
    rw [e2]
    simp only [ptrN_some,Int.toNat_natCast,gg,ldL_some]
    refine C50 ?_
    rw [boolV_bool,decide_eq_true rfl,Bool.not_true,ite2_false]
    show ite2 false _ _
    rw [ite2_false]
    exact six hv0
end
end Go.Proofs
namespace Go.Proofs.YtpkhoemonibajaaDoor
open Go Go.HL Go.Proofs
def theLaid : List (String × DataW Unit) := [("math/bits.deBruijn32tab", Rows.laid_math_bits_deBruijn32tab), ("math/bits.deBruijn64tab", Rows.laid_math_bits_deBruijn64tab), ("internal/strconv.uint64pow10", Rows.laid_internal_strconv_uint64pow10)]
theorem tabOf {W:World} (h:laidMetH Tryd.prog theLaid W):∃ o,hpAll W 0=.obj o∧TabO o:=by
  have h':laidMet Tryd.prog theLaid W:=h
  obtain ⟨ps,hv,_⟩:=h'
  obtain ⟨q1,h1⟩:=laidVars_tail hv
  obtain ⟨q2,h2⟩:=laidVars_tail h1
  have ht : Lib.TabIs Tryd.prog W "internal/strconv.uint64pow10" .u64 Lib.pow10Tab :=
    tabIs_of_vars (rest:=[]) (g:=0) (t:=267) (e:=233) (n:=20) (by kernel_rfl) (by kernel_rfl) (by kernel_rfl) (by kernel_rfl) (by kernel_rfl) (by kernel_rfl) h2
  obtain ⟨o,ho,hO⟩:=tabO_of ht
  exact ⟨o,by unfold hpAll; rw [ho],hO⟩
/-- What a table's cells are. -/
def cellsLaid:DataW Unit→Array Value
  | .agg ps=>(ps.map fun d=>match d with | .lit (.int k n)=>Value.int k n | _=>.int .i64 0).toArray
  | _=>#[]
def layAt (b:Nat) (d:DataW Unit) (h:Array Obj):Array Obj:=h.modify b fun | .cells _ t fz=>.cells (cellsLaid d) t fz | o=>o
noncomputable def laidWorld (os:Os) (I:Input):World:=
  { World.holding Tryd.prog os I with heap:=layAt 0 Rows.laid_internal_strconv_uint64pow10 (layAt 1 Rows.laid_math_bits_deBruijn32tab (layAt 2 Rows.laid_math_bits_deBruijn64tab (World.holding Tryd.prog os I).heap)) }
end Go.Proofs.YtpkhoemonibajaaDoor
