/- Parts of the proof of BibPlaysProof: the logic of what is known of memory, functions' contracts. -/
import Derived.Test.YtpkhoemonibajaaGreatDoorQBibPlaysProofE
import Derived.Test.YtpkhoemonibajaaGreatDoorRows
import Derived.Test.YtpkhoemonibajaaGreatDoorHlLaid
import Derived.Test.YtpkhoemonibajaaGreatDoorHlArg
import Derived.ProofKit
import Derived.LaidLaws
set_option linter.unusedVariables false
set_option linter.unusedSimpArgs false
set_option linter.unusedVariables false
set_option linter.unusedSimpArgs false
set_option linter.unusedSectionVars false
set_option maxRecDepth 20000
namespace Go.Proofs
open Go Go.HL
section
variable {tb:Obj} {hp z:HP} {t r mx la n:Nat} {l:List Q} {low high:Int} {L:List Bd} {x:RB} {K:Value→HP→Prop}
variable {A:A21} (hA:okA21 A) (hsm:L.length≤60000) (hT:BdW tb hp t l low high mx la n L) (hD:RefW z hp r l low high mx la L x) (hK:K (.bool true) hp)
include hA hsm hT hD hK
theorem st6:F17_j6 (some ⟨r,0,none⟩) (find4 A.proto (ta A.b A.t) L).isSome (a21 A) (bdc ((find4 A.proto (ta A.b A.t) L).getD bd0)) hp K:=by
  unfold F17_j6
  simp only [a21_2,a21_3,a21_5,ldV_some,intV_int]
  refine C45 ?_
  rw [aggV_agg]
  refine C67 hD.bl (by omega) ?_
  rw [intV_int]
  unfold find4
  rcases ixB_find (fun y=>decide (y.proto=A.proto∧y.out=ta A.b A.t)) L with ⟨e1,e2⟩ | ⟨k,hk,e1,e2⟩
  · rw [e1,e2]
    exact hK
  · rw [e1,e2,decide_eq_true (by omega:(k:Int)≥0)]
    show ite2 true (ite2 false _ _) _
    rw [ite2_true,ite2_false]
    obtain ⟨b,o,eab,g,_⟩:=hD.bl.at hk
    have hc2:=hD.bl.2.2.1
    rw [Option.getD_some,bdc_cells,ldL_some,ptrN_some,Nat.zero_add,hc2,ldV_some,slcV_slice]
    refine ⟨by omega,by omega,?_⟩
    rw [eab,ptrN_some,Int.toNat_natCast,g,ldL_some]
    refine C49 ?_
    rw [boolV_bool]
    exact hK
theorem st5:F17_j5 (some ⟨t,0,none⟩) (some ⟨r,0,none⟩) false (a21 A) hp K:=by
  have h6:=st6 hA hsm hT hD hK
  obtain ⟨ha,hb,hp',hx,ht',hn'⟩:=hA
  unfold F17_j5
  rw [ite2_false]
  simp only [a21_2,a21_3,a21_5,ldV_some,intV_int,and_self]
  refine C45 ?_
  rw [aggV_agg]
  refine W44 hT hp' (ta_ok hb ht') ?_
  unfold toldV
  simp only [tup2V_mk,aggV_agg,boolV_bool]
  rw [if_pos (bdc_len _),if_pos (bdc_one _),if_pos (by simp [bdc_len]),bdz_spl]
  exact h6
theorem st4:F17_j4 (some ⟨t,0,none⟩) (some ⟨r,0,none⟩) (find6 A.proto (inT A.a A.x) L).isSome (a21 A) (bdc ((find6 A.proto (inT A.a A.x) L).getD bd0)) hp K:=by
  have h5:=st5 hA hsm hT hD hK
  unfold F17_j4
  simp only [a21_1,a21_3,a21_4,ldV_some,intV_int]
  refine C43 ?_
  rw [aggV_agg]
  refine C66 hD.bl (by omega) ?_
  rw [intV_int]
  unfold find6
  rcases ixB_find (fun y=>decide (y.proto=A.proto∧y.inn=inT A.a A.x)) L with ⟨e1,e2⟩ | ⟨k,hk,e1,e2⟩
  · rw [e1,e2]
    exact h5
  · rw [e1,e2,decide_eq_true (by omega:(k:Int)≥0)]
    show ite2 false _ (ite2 true _ _)
    rw [ite2_false,ite2_true]
    obtain ⟨b,o,eab,g,_⟩:=hD.bl.at hk
    have hc2:=hD.bl.2.2.1
    rw [Option.getD_some,bdc_cells,ldL_some,ptrN_some,Nat.zero_add,hc2,ldV_some,slcV_slice]
    refine ⟨by omega,by omega,?_⟩
    rw [eab,ptrN_some,Int.toNat_natCast,g,ldL_some]
    refine C49 ?_
    rw [boolV_bool]
    exact h5
theorem st3:F17_j3 (some ⟨t,0,none⟩) (some ⟨r,0,none⟩) (a21 A) hp K:=by
  have h4:=st4 hA hsm hT hD hK
  obtain ⟨ha,hb,hp',hx,ht',hn'⟩:=hA
  unfold F17_j3
  simp only [a21_1,a21_3,a21_4,ldV_some,intV_int,and_self]
  refine C43 ?_
  rw [aggV_agg]
  refine W65 hT hp' (inT_ok ha hx) ?_
  unfold toldV
  simp only [tup2V_mk,aggV_agg,boolV_bool]
  rw [if_pos (bdc_len _),if_pos (bdc_one _),if_pos (by simp [bdc_len]),bdz_spl]
  exact h4
end
section
variable {tb:Obj} {hp z:HP} {t r mx la n:Nat} {l:List Q} {low high:Int} {L:List Bd} {x:RB} {K:Value→HP→Prop}
variable {A:A21} (hA:okA21 A) (hsm:L.length≤60000) (hT:BdW tb hp t l low high mx la n L) (hD:RefW z hp r l low high mx la L x)
include hA hsm hT hD
theorem st2 (hK:∀ hp',HSub hp hp'→K (.bool true) hp'):F17_j2 (some ⟨t,0,none⟩) (some ⟨r,0,none⟩) (a21 A) hp K:=by
  unfold F17_j2
  intro b hb
  have s:=HSub.set_fresh hp (.cells 3 [(Value.int .i64 1),(Value.int .i64 6),(Value.int .i64 17)] 0) hb
  have gb:(hp.set b (.cells 3 [(Value.int .i64 1),(Value.int .i64 6),(Value.int .i64 17)] 0)) b=.cells 3 [(Value.int .i64 1),(Value.int .i64 6),(Value.int .i64 17)] 0:=HP.set_eq ..
  have hT:=hT.sub s
  have hD:=RefB.sub hD s
  have hK:=hK _ s
  generalize hp.set b (.cells 3 [(Value.int .i64 1),(Value.int .i64 6),(Value.int .i64 17)] 0)=hp1 at hT hD hK gb ⊢
  have hi:=hT.inv
  have h3:=st3 hA hsm hT hD hK
  unfold F17_j7
  refine LoopP.by (J:=fun k (y:Int) hp'=>hp'=hp1∧∃ i:Nat,y=i∧i+k=3) ?_ (n:=3) ⟨rfl,0,rfl,rfl⟩
  rintro I k y hp' ⟨rfl,i,rfl,hik⟩ hI
  unfold F17_l8
  by_cases hi3:i<3
  rotate_left
  · rw [decide_eq_false (by omega:¬ (i:Int)<((3:Nat):Int)),ite2_false]
    exact h3
  rw [decide_eq_true (by omega:(i:Int)<((3:Nat):Int)),ite2_true]
  refine ⟨by omega,by omega,?_⟩
  obtain ⟨p,hk0,hc⟩:∃ p:Int,0≤kindB p∧hp'.cell b (0+i*1)=some (.int .i64 p):=by
    rcases (by omega:i=0∨i=1∨i=2) with rfl | rfl | rfl
    · exact ⟨1,by decide,HP.cell_of gb⟩
    · exact ⟨6,by decide,HP.cell_of gb⟩
    · exact ⟨17,by decide,HP.cell_of gb⟩
  obtain ⟨k3,kn⟩:=kind_nat hk0
  have hk3:=(kind_lt (p:=p)).1
  obtain ⟨pb,epa,gp⟩:=hD.pl hk0 hk3
  have hc3:hp'.cell r 3=some (.slice x.pa 3 x.pc):=HP.cell_of hD.tab
  have ef:freeB l low high L p=freeQ l low high (heldB L ((kindB p).toNat:Nat)):=by
    unfold freeB
    rw [if_neg (by omega),kn]
  have body:CF Tryz.prog 64 [.pointer (some ⟨x.q (kindB p).toNat,0,none⟩)] hp' fun u h=>intV u .i64 fun v=>F17_j9 (some ⟨t,0,none⟩) (some ⟨r,0,none⟩) (some ⟨b,0,none⟩) 3 3 ((3:Nat):Int) i (freeB l low high L p != v) (a21 A) h I K:=by
    refine R64 hD k3 hi.len4 (Nat.le_trans (held_len _) (by omega)) hi.ports ?_
    rw [intV_int,ef]
    unfold F17_j9
    rw [show (freeQ l low high (heldB L ((kindB p).toNat:Nat)) != freeQ l low high (heldB L ((kindB p).toNat:Nat)))=false by simp,ite2_false,show IntKind.wrap .i64 ((i:Int)+1)=((i+1:Nat):Int) from wi (by omega) (by omega)]
    exact hI (k-1) _ _ (by omega) ⟨rfl,i+1,rfl,by omega⟩
  rw [ptrN_some,Int.toNat_natCast,hc,ldV_some,intV_int]
  repeat' apply And.intro
  all_goals
    try simp only [ptrN_some,Nat.zero_add,hc3,ldV_some,slcV_slice]
    refine W62 hT (by omega) ?_
    rw [intV_int]
    try simp only [ptrN_some,Nat.zero_add,hc3,ldV_some,slcV_slice]
    refine C63 ?_
    rw [intV_int]
    try simp only [ptrN_some,Nat.zero_add,hc3,ldV_some,slcV_slice]
    refine ⟨hk0,by omega,?_⟩
    rw [epa,ptrN_some,gp,ldV_some,pq]
    exact body
end
end Go.Proofs
set_option linter.unusedVariables false
set_option linter.unusedSimpArgs false
set_option linter.unusedSectionVars false
set_option maxRecDepth 20000
namespace Go.Proofs
open Go Go.HL
section
variable {tb:Obj} {hp0 hp z:HP} {t r b0 mx la ld n:Nat} {l:List Q} {low high:Int} {L M:List Bd} {K:Value→HP→Prop}
set_option maxHeartbeats 1000000 in
theorem C17 {A:A21} (hA:okA21 A) (hsm:L.length≤10000) (h:StB tb hp0 z hp t r b0 l low high mx la n L la L) (hK:∀ hp',StB tb hp0 z hp' t r b0 l low high mx la n L la L→K (.bool true) hp'):CF Tryz.prog 17 [ptr t 0,ptr r 0,.agg ⟨a21 A⟩] hp K:=by
  refine F17_ok _ _ (a21 A) hp K ?_
  unfold F17
  obtain ⟨ps,x,P,h0,h1,h2,hz,hb,hf⟩:=h
  have hi:=h1.inv
  refine N60 P (i:=1) (j:=3) (by omega) (hf 3 (by omega)) h1 hsm fun rr hp2 a c hrow P2=>?_
  rw [slcV_slice]
  have hT:BdW tb hp2 t l low high mx la n L:=h1.sub (P2.at 1 (by rw [pu_ne _ _ (by omega)]))
  have hD:RefW z hp2 r l low high mx la L x:=RefB.sub h2 (P2.at 2 (by rw [pu_ne _ _ (by omega)]))
  have hrow2:=hrow.sub (P2.at 3 (pu_eq ..))
  have hc2:=hD.bl.2.2.1
  have hne:(((L.length:Nat):Int) != ((L.length:Nat):Int))=false:=by simp
  have fin:∀ hp',HSub hp2 hp'→K (.bool true) hp':=fun hp' hs=>hK hp' (StB.of (P2.weak hs) (by rw [pu_ne _ _ (by omega)]; exact h0) (by rw [pu_ne _ _ (by omega)]; exact h1) (by rw [pu_ne _ _ (by omega)]; exact h2) hz hb)
  have end2:=st2 hA (by omega) hT hD fin
  have one:F17_j1 (some ⟨t,0,none⟩) (some ⟨r,0,none⟩) a L.length c false (a21 A) hp2 K:=by
    unfold F17_j1
    rw [ite2_false]
    unfold F17_j10
    refine LoopP.by (J:=fun k (y:Int) hp'=>hp'=hp2∧∃ i:Nat,y=i∧i+k=L.length) ?_ (n:=L.length) ⟨rfl,0,rfl,by omega⟩
    rintro I k y hp' ⟨rfl,i,rfl,hik⟩ hI
    unfold F17_l11
    by_cases hiL:i<L.length
    rotate_left
    · rw [decide_eq_false (by omega:¬ (i:Int)<(L.length:Nat)),ite2_false]
      exact end2
    rw [decide_eq_true (by omega:(i:Int)<(L.length:Nat)),ite2_true]
    refine ⟨by omega,by omega,?_⟩
    obtain ⟨b,o,ea,g,gd⟩:=row_bd hrow2 hiL
    obtain ⟨b2,o2,ea2,g2,_⟩:=hD.bl.at hiL
    have gd0:=gd 0 _ (bdc_id _)
    rw [ea,ptrN_some,Int.toNat_natCast,gd0,ldV_some,intV_int]
    refine W61 hT ?_
    rw [findI_of hi.ids (List.getElem_mem hiL)]
    unfold toldV
    simp only [tup2V_mk,aggV_agg,boolV_bool]
    rw [if_pos (bdc_len _),if_pos (bdc_one _),if_pos (by simp [bdc_len])]
    refine ⟨by omega,by omega,?_⟩
    rw [ptrN_some,g,ldL_some,ptrN_some,Nat.zero_add,hc2,ldV_some,slcV_slice]
    refine ⟨by omega,by omega,?_⟩
    rw [ea2,ptrN_some,g2,ldL_some]
    refine C49 ?_
    rw [boolV_bool,Bool.not_true,ite2_false,Option.isSome_some,Bool.not_true,ite2_false,Option.getD_some,bdz_spl,bdc_cells,ldL_some]
    refine ⟨by omega,by omega,?_⟩
    rw [ptrN_some,g,ldL_some]
    refine eq36 ?_
    rw [decide_eq_true rfl]
    unfold F17_j12
    rw [Bool.not_true,ite2_false,show IntKind.wrap .i64 ((i:Int)+1)=((i+1:Nat):Int) from wi (by omega) (by omega)]
    exact hI (k-1) _ _ (by omega) ⟨rfl,i+1,rfl,by omega⟩
  constructor
  · rw [ptrN_some,Nat.zero_add,hc2,ldV_some,slcV_slice,hne,ite2_false]
    refine W46 hT ?_
    rw [intV_int,ptrN_some,Nat.zero_add,hc2,ldV_some,slcV_slice,hne]
    exact one
  · rw [ptrN_some,Nat.zero_add,hc2,ldV_some,slcV_slice,hne,ite2_false,ptrN_some,Nat.zero_add,hc2,ldV_some,slcV_slice]
    refine W46 hT ?_
    rw [intV_int,hne]
    exact one
set_option maxHeartbeats 2000000 in
theorem C4 {low high mx:Int} {a1 a2:Option Addr} {n1 c1 n2 c2:Nat} {l:List Q} {acts:List A21} (ht:TabR tb hp0) (hs1:Shows hp0 a1 n1 4 (l.flatMap v4)) (hl1:l.length=n1) (hc1:n1≤c1) (hq:∀ q∈l,okQ q) (h1:okZ low) (h2:okZ high) (h3:okZ mx)
    (hs2:Shows hp0 a2 n2 7 (acts.flatMap a21)) (hl2:acts.length=n2) (hok:∀ y∈acts,okA21 y) (h:K (.bool true) hp0) :
    CF Tryz.prog 4 [.slice a1 n1 c1,.int .i64 low,.int .i64 high,.int .i64 mx,.slice a2 n2 c2] hp0 K:=by
  refine CF.drop (F4_ok a1 n1 c1 low high mx a2 n2 c2 hp0 _ ?_)
  unfold F4
  have wk:∀ hp',HSub hp0 hp'→TabR tb hp'→CF Tryz.prog 12 [] hp' fun u h=>boolV u fun q=>∃ hp'',HSub hp'' h∧K (.bool q) hp'':=by
    intro hp' hs ht'
    refine C12 ht' fun hp2 h2=>?_
    rw [boolV_bool]
    exact ⟨hp0,hs.trans h2,h⟩
  refine C11 h1 h2 fun g hg=>?_
  rw [boolV_bool]
  cases g with
  | true=>rw [ite2_true]; exact wk hp0 (HSub.refl _) ht
  | false=>
  rw [ite2_false]
  obtain ⟨hn10,hn150,_⟩:=hg rfl
  have bad:¬ newBOk l low high mx→F4_j1 a1 n1 c1 low high mx a2 n2 c2 none 1 true hp0 fun v hp'=>∃ hp'',HSub hp'' hp'∧K v hp'':=fun _=>by
    unfold F4_j1
    show ite2 true (ite2 true (ite2 true _ _) _) _
    simp only [ite2_true]
    exact wk hp0 (HSub.refl _) ht
  refine N13 (startP_ok ht) (by rw [startP_0]; exact shows_off ht hs1 hl1) (startP_1 ht) hl1 hc1 h1 h2 hq (fun hb=>?_) fun hb t d hp1 hd P1=>?_
  · simp only [tup2V_mk,ppn,intV_int]
    refine C14 hs1 hl1 (by omega) h1 h2 ?_
    rw [boolV_bool]
    have bad:=bad hb
    by_cases c1:newOk l low high=true
    rotate_left
    · rw [show newOk l low high=false by simpa using c1,Bool.not_false,ite2_true]; exact bad
    rw [c1,Bool.not_true,ite2_false]
    by_cases c2:mx<1
    · rw [decide_eq_true c2,ite2_true]; exact bad
    rw [decide_eq_false c2,ite2_false]
    have c3:mx > 65536:=by
      unfold newBOk at hb
      by_cases c:mx > 65536
      · exact c
      · exact absurd ⟨c1,by omega,by omega⟩ hb
    rw [decide_eq_true c3]; exact bad
  obtain ⟨k1,k2,k3⟩:=hb
  have hnew:=k1
  simp only [newOk,Bool.and_eq_true,decide_eq_true_eq] at hnew
  have hlen1:1≤l.length:=hnew.1.1.1.1.1.1
  simp only [tup2V_mk,pp,intV_int]
  have hT1:TabR tb hp1:=by
    have:=(hd.sub (P1.at 1 (pu_eq ..))).tab
    exact this
  have hs01:HSub hp0 hp1:=finish ht P1 (by rw [pu_ne _ _ (by omega)]; exact startP_0) hT1
  refine C14 (hs1.sub hs01) hl1 (by omega) h1 h2 ?_
  rw [boolV_bool,k1,Bool.not_true,ite2_false,decide_eq_false (by omega),ite2_false,decide_eq_false (by omega)]
  unfold F4_j1
  show ite2 false _ (ite2 false _ _)
  simp only [ite2_false]
  unfold F4_j2
  show ite2 false _ _
  rw [ite2_false]
  obtain ⟨b0,o0,ea1,hcell⟩:∃ b0 o0,a1=some ⟨b0,o0,none⟩∧(hp0.set 0 .none).cellN b0 o0 (n1*4)=some (l.flatMap v4):=by
    rcases shows_off ht hs1 hl1 with ⟨e,_⟩ | ⟨b,o,e,hc⟩
    · omega
    · exact ⟨b,o,e,hc⟩
  have hb0:b0≠0:=by
    rintro rfl
    unfold HP.cellN at hcell
    rw [HP.set_eq] at hcell
    cases hcell
  have hcell0:hp0.cellN b0 o0 (n1*4)=some (l.flatMap v4):=by
    unfold HP.cellN at hcell ⊢
    rwa [HP.set_ne _ _ hb0] at hcell
  have hne:hp0 b0≠.none:=fun e=>by
    unfold HP.cellN at hcell0
    rw [e] at hcell0
    cases hcell0
  have P2:=P1.split (i:=0) (j:=2) (by omega) (fun b=>by rw [pu_ne _ _ (by omega)]; exact startP_free (by omega) b) (l:=(hp0.set 0 .none).set b0 .none) (r:=HP.onlyF b0 (hp0 b0))
    (by
      rw [pu_ne _ _ (by omega),startP_0]
      intro x
      by_cases hx:x=b0
      · subst hx; exact .inl (HP.set_eq ..)
      · rw [HP.set_ne _ _ hx]; exact .inr rfl)
    (by
      rw [pu_ne _ _ (by omega),startP_0]
      exact HSub.onlyF (by rw [HP.set_ne _ _ hb0]))
    (fun x=>by
      by_cases hx:x=b0
      · subst hx; exact .inl (HP.set_eq ..)
      · exact .inr (HP.onlyF_ne _ hx))
  obtain ⟨m,rfl⟩:∃ m:Nat,mx=m:=⟨mx.toNat,by omega⟩
  rw [Int.toNat_natCast] at hd
  subst hl1
  have hsz:Shows (HP.onlyF b0 (hp0 b0)) a1 l.length 4 (l.flatMap v4):=.inr ⟨b0,o0,ea1,by
    unfold HP.cellN at hcell0 ⊢
    rw [HP.onlyF_eq]; exact hcell0⟩
  refine CF.part P2 2 (C15 (K:=fun v hq'=>∃ r x,v=ptr r 0∧RefW (HP.onlyF b0 (hp0 b0)) hq' r l low high m 0 [] x) (by rw [pu_eq]; exact hsz) fun hq' r x hr=>⟨r,x,rfl,by rw [pu_eq] at hr; exact hr⟩) ?_
  rintro v dd hp2 ⟨r,x,rfl,hr⟩ P3
  rw [pp]
  have st0:StB tb hp0 (HP.onlyF b0 (hp0 b0)) hp2 t r b0 l low high m 0 0 [] 0 []:=by
    refine StB.of P3 (by rw [pu_ne _ _ (by omega),pu_ne _ _ (by omega),pu_eq]) ?_ (by rw [pu_eq]; exact hr) (HP.onlyF_eq ..) hne
    rw [pu_ne _ _ (by omega),pu_ne _ _ (by omega),pu_ne _ _ (by omega),pu_eq]
    exact hd
  clear P1 P2 P3 hd hr
  unfold F4_j4
  refine LoopP.by (J:=fun k (y:Int) hp=>∃ (i la nn:Nat) (L:List Bd),y=i∧i+k=n2∧StB tb hp0 (HP.onlyF b0 (hp0 b0)) hp t r b0 l low high m la nn L la L∧la≤i∧nn≤i∧L.length≤i) ?_ (n:=n2) ⟨0,0,0,[],rfl,by omega,st0,Nat.le_refl _,Nat.le_refl _,Nat.le_refl _⟩
  clear st0
  rintro I k y hp ⟨i,la,nn,L,rfl,hik,hst,hla,hnn,hLi⟩ hI
  unfold F4_l5
  have hsp:=hst.fin ht
  by_cases hi:i<n2
  rotate_left
  · rw [decide_eq_false (by omega:¬ (i:Int)<(n2:Int)),ite2_false]
    unfold F4_j3
    exact wk hp hsp hst.wt.tab
  rw [decide_eq_true (by omega:(i:Int)<(n2:Int)),ite2_true]
  obtain ⟨b,o,hab,hc⟩:=(hs2.sub hsp).get a21_len hl2 hi
  have hact:=hok _ (List.getElem_mem (hl2▸hi))
  have hcs:∀ hp',HSub hp0 hp'→hp'.cellN b (o+i*7) 7=some (a21 (acts[i]'(hl2▸hi))):=fun hp' hs=>by
    obtain ⟨b',o',hab',hc'⟩:=(hs2.sub hs).get a21_len hl2 hi
    rw [hab] at hab'
    cases hab'
    exact hc'
  generalize acts[i]'(hl2▸hi)=A at hc hact hcs
  have w1:IntKind.wrap .i64 ((i:Int)+1)=((i+1:Nat):Int):=wi (by omega) (by omega)
  refine ⟨by omega,by omega,?_⟩
  rw [hab,ptrN_some,Int.toNat_natCast,hc,ldL_some]
  refine C16 hact (by omega) (by omega) (by omega) hst fun hp3 la' nn' L' h3 hn' hla' hL'=>?_
  rw [boolV_bool,Bool.not_true,ite2_false]
  refine ⟨by omega,by omega,?_⟩
  rw [ptrN_some,hcs hp3 (h3.fin ht),ldL_some]
  refine C17 hact (by omega) h3 fun hp4 h4=>?_
  rw [boolV_bool,Bool.not_true]
  unfold F4_j6
  rw [ite2_false,w1]
  exact hI (k-1) _ _ (by omega) ⟨i+1,la',nn',L',rfl,by omega,h4,by omega,by omega,by omega⟩
end
end Go.Proofs
namespace Go.Proofs.YtpkhoemonibajaaGreatDoor
open Go Go.HL Go.Proofs
def theLaid : List (String × DataW Unit) := [("math/bits.deBruijn32tab", Rows.laid_math_bits_deBruijn32tab), ("math/bits.deBruijn64tab", Rows.laid_math_bits_deBruijn64tab), ("internal/strconv.uint64pow10", Rows.laid_internal_strconv_uint64pow10)]
theorem tabOf {W:World} (h:laidMetH Tryz.prog theLaid W):∃ o,hpAll W 0=.obj o∧TabO o:=by
  have h':laidMet Tryz.prog theLaid W:=h
  obtain ⟨ps,hv,_⟩:=h'
  obtain ⟨q1,h1⟩:=laidVars_tail hv
  obtain ⟨q2,h2⟩:=laidVars_tail h1
  have ht : Lib.TabIs Tryz.prog W "internal/strconv.uint64pow10" .u64 Lib.pow10Tab :=
    tabIs_of_vars (rest:=[]) (g:=0) (t:=255) (e:=227) (n:=20) (by kernel_rfl) (by kernel_rfl) (by kernel_rfl) (by kernel_rfl) (by kernel_rfl) (by kernel_rfl) h2
  obtain ⟨o,ho,hO⟩:=tabO_of ht
  exact ⟨o,by unfold hpAll; rw [ho],hO⟩
/-- What a table's cells are. -/
def cellsLaid:DataW Unit→Array Value
  | .agg ps=>(ps.map fun d=>match d with | .lit (.int k n)=>Value.int k n | _=>.int .i64 0).toArray
  | _=>#[]
def layAt (b:Nat) (d:DataW Unit) (h:Array Obj):Array Obj:=h.modify b fun | .cells _ t fz=>.cells (cellsLaid d) t fz | o=>o
noncomputable def laidWorld (os:Os) (I:Input):World:=
  { World.holding Tryz.prog os I with heap:=layAt 0 Rows.laid_internal_strconv_uint64pow10 (layAt 1 Rows.laid_math_bits_deBruijn32tab (layAt 2 Rows.laid_math_bits_deBruijn64tab (World.holding Tryz.prog os I).heap)) }
end Go.Proofs.YtpkhoemonibajaaGreatDoor
