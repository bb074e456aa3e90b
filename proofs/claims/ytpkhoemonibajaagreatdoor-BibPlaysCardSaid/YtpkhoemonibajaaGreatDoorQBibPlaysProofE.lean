/- Parts of the proof of BibPlaysProof: the logic of what is known of memory, functions' contracts. -/
import Derived.Test.YtpkhoemonibajaaGreatDoorQBibPlaysProofD
import Derived.Test.YtpkhoemonibajaaGreatDoorHlCW
import Derived.Test.YtpkhoemonibajaaGreatDoorHlZ
import Derived.Test.YtpkhoemonibajaaGreatDoorProg
import Derived.Test.YtpkhoemonibajaaGreatDoorHlArg
import Derived.DataShut
import Derived.Test.YtpkhoemonibajaaGreatDoorHlDec
set_option linter.unusedVariables false
set_option linter.unusedSimpArgs false
set_option linter.unusedVariables false
set_option linter.unusedSimpArgs false
set_option maxRecDepth 20000
namespace Go.Proofs
open Go Go.HL
section
variable {z hq hq' hp:HP} {r mx last n:Nat} {l:List Q} {low high:Int} {L:List Bd} {H:Nat→List ((Q × Int) × Bool)} {x:RB} {K:Value→HP→Prop}
theorem mayQ_in (hi:InvB l low high mx last n L) {b:Bd} (hb:b∈L):mayQ l b.out=0:=by
  obtain ⟨h1,h2,_⟩:=hi.pool b hb
  unfold mayQ
  rw [if_pos ⟨h2,h1⟩]
theorem RefB.len (h:RefB z hq r l low high mx last L H x):l.length=x.n:=(h.pol 0 (by omega)).2.2.2.1
theorem held_cut (hi:InvB l low high mx last n L) {b:Bd} (hb:b∈L):∀ j,j<3→(if j=(kindB b.proto).toNat then delL b.out (heldB L ((kindB b.proto).toNat:Nat)) else heldB L (j:Nat))=heldB (L.filter fun y=>decide (y.id≠b.id)) (j:Nat):=by
  intro j hj
  obtain ⟨hk,_⟩:=hi.ok b hb
  obtain ⟨k3,kn⟩:=kind_nat hk
  by_cases e:j=(kindB b.proto).toNat
  · rw [if_pos e,e,kn]; exact held_del hi hb
  · rw [if_neg e]
    exact (held_del_ne hb hi.ids (by omega)).symm
section
variable {k:Nat} {t:Q × Int} (h:RefB z hq r l low high mx last L H x) (k3:k<3) (hn:l.length≤4) (hl:(H k).length≤65535)
include h k3 hn hl
theorem R110 (e:releaseQ l (H k) t=0) (hK:∀ hq' x',RefB z hq' r l low high mx last L (fun j=>if j=k then delL t (H k) else H j) x'→K (.int .i64 0) hq'):CF Tryz.prog 110 [.pointer (some ⟨x.q k,0,none⟩),.agg ⟨t4 t⟩] hq K:=
  C110 (h.pol k k3) (by rw [← h.len]; exact hn) hl (fun e'=>absurd e e') fun _ hp' s' k' hs hr=>hK _ _ (h.chg k3 hs hr)
theorem R96 (e:giveQ l (H k) t=0) (hK:∀ hq' x',RefB z hq' r l low high mx last L (fun j=>if j=k then delL t (H k) else H j) x'→K (.int .i64 0) hq'):CF Tryz.prog 96 [.pointer (some ⟨x.q k,0,none⟩),.agg ⟨t4 t⟩] hq K:=
  C96 (h.pol k k3) (by rw [← h.len]; exact hn) hl (fun e'=>absurd e e') fun _ hp' s' k' hs hr=>hK _ _ (h.chg k3 hs hr)
theorem R106 (e:reserveQ l (H k) t=0) (hK:∀ hq' x',RefB z hq' r l low high mx last L (fun j=>if j=k then putL t true (H k) else H j) x'→K (.int .i64 0) hq'):CF Tryz.prog 106 [.pointer (some ⟨x.q k,0,none⟩),.agg ⟨t4 t⟩] hq K:=
  C106 (h.pol k k3) (by rw [← h.len]; exact hn) hl (fun e'=>absurd e e') fun _ hp' s' k' hs hr=>hK _ _ (h.chg k3 hs hr)
theorem R95 {first:Q} {y:Int} {plain:Bool} (hb:0≤low∧low≤65535∧0≤high∧high≤65535) (hnd:l.Nodup) (hp:isPort y=true)
    (hfull:takeQ l low high (H k) first y plain=none→K (.tuple ⟨[.agg ⟨t4 (q0,0)⟩,.int .i64 6]⟩) hq)
    (hgot:∀ t,takeQ l low high (H k) first y plain=some t→∀ hq' x',x'.q=x.q→RefB z hq' r l low high mx last L (fun j=>if j=k then putL t false (H k) else H j) x'→K (.tuple ⟨[.agg ⟨t4 t⟩,.int .i64 0]⟩) hq') :
    CF Tryz.prog 95 [.pointer (some ⟨x.q k,0,none⟩),.agg ⟨v4 first⟩,.int .i64 y,.bool plain] hq K:=
  C95 (h.pol k k3) (by rw [← h.len]; exact hn) hl hb hnd (fun e=>by rw [hp] at e; cases e) (fun _ e=>hfull e) fun _ t ht hp' s' k' hs hr=>hgot t ht hp' { x with s:=fun j=>if j=k then s' else x.s j,k:=fun j=>if j=k then k' else x.k j } rfl (h.chg k3 hs hr)
theorem R64 (hb:0≤low∧low≤65535∧0≤high∧high≤65535) (hK:K (.int .i64 (freeQ l low high (H k))) hq):CF Tryz.prog 64 [.pointer (some ⟨x.q k,0,none⟩)] hq K:=
  C64 (h.pol k k3) (by rw [← h.len]; exact hn) hl hb hK
end
set_option maxHeartbeats 1000000 in
theorem C53 {p:Int} {u:V6 × Int} (h:RefW z hq r l low high mx last L x) (hi:InvB l low high mx last n L) (hsm:L.length≤65535)
    (hno:unbB L p u≠0→K (.tuple ⟨[.agg ⟨bdc bd0⟩,.int .i64 (unbB L p u)]⟩) hq)
    (hyes:∀ b,find6 p u L=some b→unbB L p u=0→b.st=true→∀ hq' x',RefW z hq' r l low high mx last (L.filter fun y=>decide (y.id≠b.id)) x'→K (.tuple ⟨[.agg ⟨bdc b⟩,.int .i64 0]⟩) hq') :
    CF Tryz.prog 53 [ptr r 0,.int .i64 p,.agg ⟨t6 u⟩] hq K:=by
  refine F53_ok _ p (t6 u) hq K ?_
  unfold F53
  refine C63 ?_
  rw [intV_int]
  by_cases c1:kindB p<0
  · rw [decide_eq_true c1,ite2_true]
    have e:unbB L p u=10:=if_pos c1
    rw [e] at hno
    exact ifI rfl (ifI rfl (ifI (Nat.le_refl 26) (hno (by decide))))
  rw [decide_eq_false c1,ite2_false,t6_cells,ldL_some]
  refine C66 h.bl (by omega) ?_
  rw [intV_int]
  have no:∀ (v:Int) (hne:¬ ((find6 p u L).map (·.st))=some true),F53_j1 (some ⟨r,0,none⟩) p v true (bdc bd0) hq K:=fun v hne=>by
    have e:unbB L p u=4:=by unfold unbB; rw [if_neg c1,if_neg hne]
    rw [e] at hno
    unfold F53_j1
    rw [ite2_true]
    exact ifI rfl (ifI rfl (ifI (Nat.le_refl 26) (hno (by decide))))
  rcases ixB_find (fun y=>decide (y.proto=p∧y.inn=u)) L with ⟨h1,h2⟩ | ⟨k,hk,h1,h2⟩
  · rw [h1,decide_eq_true (by omega),ite2_true]
    exact no _ (by unfold find6; rw [h2]; simp)
  rw [h1,decide_eq_false (by omega),ite2_false]
  have hf:find6 p u L=some L[k]:=h2
  obtain ⟨hb,hpr,_⟩:=find6_mem hf
  have hc2:=h.bl.2.2.1
  obtain ⟨b,o,ea,g,gd⟩:=h.bl.at hk
  have gs:=gd 24 _ (bdc_st _)
  simp only [ptrN_some,Nat.zero_add,hc2,ldV_some,slcV_slice]
  refine ⟨by omega,by omega,?_⟩
  rw [ea,ptrN_some,Int.toNat_natCast,gs,ldV_some,boolV_bool]
  by_cases hst:L[k].st=true
  rotate_left
  · rw [show L[k].st=false by simpa using hst]
    exact no _ (by rw [hf]; simpa using hst)
  rw [hst,Bool.not_true]
  unfold F53_j1
  rw [ite2_false]
  simp only [ptrN_some,Nat.zero_add,hc2,ldV_some,slcV_slice]
  refine ⟨by omega,by omega,?_⟩
  rw [ea,ptrN_some,Int.toNat_natCast,g,ldL_some,if_pos (bdc_len _),if_pos (bdc_one _),if_pos (by simp [bdc_len])]
  simp only [bdz_spl]
  refine C109 h hk hsm fun hq2 x2 h2=>?_
  have hk0:0≤kindB p:=by omega
  obtain ⟨k3,kn⟩:=kind_nat hk0
  have hk3:=(kind_lt (p:=p)).1
  obtain ⟨pb,epa,gp⟩:=h2.pl hk0 hk3
  have hc3:hq2.cell r 3=some (.slice x2.pa 3 x2.pc):=HP.cell_of h2.tab
  have eun:unbB L p u=0:=by unfold unbB; rw [if_neg c1,if_pos (by rw [hf]; simp [hst])]
  have erel:releaseQ l (heldB L ((kindB p).toNat:Nat)) L[k].out=0:=by
    unfold releaseQ
    rw [mayQ_in hi hb,kn,← hpr,held_get hi (by rw [hpr]; exact hk0),find4_of hi hb]
    simp [hst]
  have rel:CF Tryz.prog 110 [.pointer (some ⟨x2.q (kindB p).toNat,0,none⟩),.agg ⟨t4 L[k].out⟩] hq2 fun u_37 h_38=>intV u_37 .i64 fun i_39=>F53_j2 (bdc bd0) (bdc L[k]) h_38 K:=by
    refine R110 h2 k3 hi.len4 (Nat.le_trans (held_len _) hsm) erel fun hq3 x3 h3=>?_
    rw [intV_int]
    unfold F53_j2
    rw [bdc_cells,ldL_some,if_pos (bdc_len _),if_pos (bdc_one _),if_pos (by simp [bdc_len]),bdc_splice,bdc_cells,ldL_some]
    refine hyes _ hf eun hst hq3 x3 ?_
    rw [cut_filterB hi.ids hk] at h3
    refine h3.eqH fun j hj=>?_
    have hh:=held_cut hi hb j hj
    rw [hpr] at hh
    exact hh
  constructor
  · simp only [ptrN_some,Nat.zero_add,hc3,ldV_some,slcV_slice]
    refine C63 ?_
    rw [intV_int]
    refine ⟨hk0,by omega,?_⟩
    rw [epa,ptrN_some,gp,ldV_some,pq,bdc_out,ldL_some]
    exact rel
  · try simp only [ptrN_some]
    refine C63 ?_
    rw [intV_int]
    simp only [Nat.zero_add,hc3,ldV_some,slcV_slice]
    refine ⟨hk0,by omega,?_⟩
    rw [epa,ptrN_some,gp,ldV_some,pq,bdc_out,ldL_some]
    exact rel
theorem C58 {i:Int} (h:RefW z hq r l low high mx last L x) (hi:InvB l low high mx last n L) (hsm:L.length≤65535) (hno:findI i L=none→K (.tuple ⟨[.bool false,.int .i64 4]⟩) hq)
    (hz:∀ b,findI i L=some b→b.ses=0→K (.tuple ⟨[.bool false,.int .i64 11]⟩) hq)
    (hyes:∀ b,findI i L=some b→1≤b.ses→∀ hq' x',RefW z hq' r l low high mx last (dropB b L) x'→K (.tuple ⟨[.bool (!(b.st||decide (1<b.ses))),.int .i64 0]⟩) hq'):CF Tryz.prog 58 [ptr r 0,.int .i64 i] hq K:=by
  refine F58_ok _ i hq K ?_
  unfold F58
  refine C111 h.bl (by omega) ?_
  rw [intV_int]
  rcases ixB_find (fun y=>decide (y.id=i)) L with ⟨h1,h2⟩ | ⟨k,hk,h1,h2⟩
  · rw [h1,decide_eq_true (by omega),ite2_true]
    exact hno h2
  rw [h1,decide_eq_false (by omega),ite2_false]
  have hf:findI i L=some L[k]:=h2
  obtain ⟨hb,hid⟩:=findI_mem hf
  have hc2:=h.bl.2.2.1
  obtain ⟨b,o,ea,g,gd⟩:=h.bl.at hk
  have gs:=gd 25 _ (bdc_ses _)
  have ho:o=0:=by
    rcases h.lst with ⟨e,_⟩ | ⟨b',e,_⟩
    · rw [e] at ea; cases ea
    · rw [e] at ea; cases ea; rfl
  subst ho
  obtain ⟨hk0,_,_,s0,s1⟩:=hi.ok _ hb
  have hnn:=hi.n
  simp only [ptrN_some,Nat.zero_add,hc2,ldV_some,slcV_slice]
  refine ⟨by omega,by omega,?_⟩
  rw [ea,ptrN_some,Int.toNat_natCast,gs,ldV_some,intV_int]
  by_cases c0:L[k].ses=0
  · rw [show (L[k].ses==0)=true by simp [c0],ite2_true]
    exact hz _ hf c0
  rw [show (L[k].ses==0)=false by simp [c0],ite2_false]
  have hyes:=hyes _ hf (by omega)
  refine ⟨by omega,by omega,?_⟩
  rw [ptrN_some,gs,ldV_some,intV_int]
  refine ⟨by omega,by omega,?_⟩
  rw [ptrN_some,show IntKind.wrap .i64 (L[k].ses-1)=L[k].ses-1 from w64 (by omega) (by omega)]
  refine RefW.ses h hi.idsB hk ea fun h'=>?_
  generalize hq.set b (.cells 118 ((updB L[k].id (L[k].ses-1) L).flatMap bdc) ((x.c-L.length)*26))=hq1 at h' ⊢
  have hi':=hi.upd (i:=L[k].id) (s:=L[k].ses-1) (by omega)
  have hlen:(updB L[k].id (L[k].ses-1) L).length=L.length:=upd_len ..
  have hk':k<(updB L[k].id (L[k].ses-1) L).length:=by omega
  have hy:(updB L[k].id (L[k].ses-1) L)[k]={ L[k] with ses:=L[k].ses-1 }:=by
    simp only [updB_set hk hi.idsB rfl,List.getElem_set_self]
  have hc2':=h'.bl.2.2.1
  obtain ⟨b',o',ea',g',gd'⟩:=h'.bl.at hk'
  rw [hy] at g'
  rw [hc2',ldV_some,slcV_slice]
  refine ⟨by omega,by omega,?_⟩
  rw [ea',ptrN_some,g',ldL_some,if_pos (bdc_len _),if_pos (bdc_one _),if_pos (by simp [bdc_len])]
  simp only [bdz_spl,bdc_st,bdc_ses,ldV_some,boolV_bool,intV_int]
  by_cases c3:L[k].st=true∨1<L[k].ses
  · have ed:dropB L[k] L=updB L[k].id (L[k].ses-1) L:=if_pos c3
    have stay:F58_j1 (some ⟨r,0,none⟩) k true (bdc { L[k] with ses:=L[k].ses-1 }) hq1 K:=by
      unfold F58_j1
      rw [ite2_true]
      have:=hyes hq1 x (by rw [ed]; exact h')
      rw [show (L[k].st||decide (1<L[k].ses))=true by simpa using c3] at this
      exact this
    by_cases c4:L[k].st=true
    · rw [c4,ite2_true]
      exact stay
    · have c6:=c3.resolve_left c4
      rw [show L[k].st=false by simpa using c4,ite2_false,decide_eq_true (by omega:L[k].ses-1 > 0)]
      exact stay
  have c4:L[k].st=false:=by
    cases e:L[k].st with
    | false=>rfl
    | true=>exact absurd (.inl e) c3
  have c5:L[k].ses=1:=by
    have:¬ 1<L[k].ses:=fun e=>c3 (.inr e)
    omega
  have ed:dropB L[k] L=L.filter fun z=>decide (z.id≠L[k].id):=if_neg c3
  rw [c4,ite2_false,decide_eq_false (by omega)]
  unfold F58_j1
  rw [ite2_false]
  refine C109 h' hk' (by omega) fun hq2 x2 h2'=>?_
  obtain ⟨k3,kn⟩:=kind_nat hk0
  have hk3:=(kind_lt (p:=L[k].proto)).1
  obtain ⟨pb,epa,gp⟩:=h2'.pl hk0 hk3
  have hc3:hq2.cell r 3=some (.slice x2.pa 3 x2.pc):=HP.cell_of h2'.tab
  have eg:giveQ l (heldB (updB L[k].id (L[k].ses-1) L) ((kindB L[k].proto).toNat:Nat)) L[k].out=0:=by
    unfold giveQ
    rw [held_upd,mayQ_in hi hb,kn,held_get hi hk0,find4_of hi hb]
    simp [c4]
  have rel:CF Tryz.prog 96 [.pointer (some ⟨x2.q (kindB L[k].proto).toNat,0,none⟩),.agg ⟨t4 L[k].out⟩] hq2 fun u_37 h_38=>intV u_37 .i64 fun i_39=>F58_j2 h_38 K:=by
    refine R96 h2' k3 hi.len4 (Nat.le_trans (held_len _) (by omega)) eg fun hq3 x3 h3=>?_
    rw [intV_int]
    unfold F58_j2
    have:=hyes hq3 x3 (by
      rw [ed,← upd_cut L[k].id (L[k].ses-1) L]
      have e2:=cut_filterB hi'.ids hk'
      rw [hy] at e2
      rw [e2] at h3
      refine h3.eqH fun j hj=>?_
      have hh:=held_cut hi' (b:={ L[k] with ses:=L[k].ses-1 }) (by rw [← hy]; exact List.getElem_mem _) j hj
      exact hh)
    rw [c4,c5] at this
    exact this
  constructor
  · simp only [ptrN_some,Nat.zero_add,hc3,ldV_some,slcV_slice,bdc_proto,intV_int]
    refine C63 ?_
    rw [intV_int]
    refine ⟨hk0,by omega,?_⟩
    rw [epa,ptrN_some,gp,ldV_some,pq,bdc_out,ldL_some]
    exact rel
  · simp only [ptrN_some,bdc_proto,ldV_some,intV_int]
    refine C63 ?_
    rw [intV_int]
    simp only [Nat.zero_add,hc3,ldV_some,slcV_slice]
    refine ⟨hk0,by omega,?_⟩
    rw [epa,ptrN_some,gp,ldV_some,pq,bdc_out,ldL_some]
    exact rel
theorem held_add {p:Int} {u:Q × Int} {y:Bd} (hk:0≤kindB p) (hy:y.proto=p) (ho:y.out=u) (hg:getL u (heldB L (kindB p))=none):∀ j,j<3→(if j=(kindB p).toNat then putL u y.st (heldB L ((kindB p).toNat:Nat)) else heldB L (j:Nat))=heldB (L++[y]) (j:Nat):=by
  intro j hj
  obtain ⟨k3,kn⟩:=kind_nat hk
  rw [held_put,hy,ho]
  by_cases e:j=(kindB p).toNat
  · rw [if_pos e,if_pos (by rw [e]; exact kn.symm),e,kn]
    exact putL_none hg
  · rw [if_neg e,if_neg (fun e'=>e (by omega))]
set_option maxHeartbeats 1000000 in
theorem C51 {p:Int} {a:V6 × Int} {u:Q × Int} (h:RefW z hq r l low high mx last L x) (hi:InvB l low high mx last n L) (hsm:L.length≤65535) (hlast:last<500000)
    (hno:bindB l mx L p a u≠0→K (.tuple ⟨[.agg ⟨bdc bd0⟩,.int .i64 (bindB l mx L p a u)]⟩) hq)
    (hyes:bindB l mx L p a u=0→∀ hq' x',RefW z hq' r l low high mx (last+1) (L++[⟨((last+1:Nat):Int),p,a,u,true,0⟩]) x'→K (.tuple ⟨[.agg ⟨bdc ⟨((last+1:Nat):Int),p,a,u,true,0⟩⟩,.int .i64 0]⟩) hq') :
    CF Tryz.prog 51 [ptr r 0,.int .i64 p,.agg ⟨t6 a⟩,.agg ⟨t4 u⟩] hq K:=by
  refine F51_ok _ p (t6 a) (t4 u) hq K ?_
  unfold F51
  refine C63 ?_
  rw [intV_int]
  by_cases c1:kindB p<0
  · rw [decide_eq_true c1,ite2_true]
    have e:bindB l mx L p a u=10:=if_pos c1
    rw [e] at hno
    exact ifI rfl (ifI rfl (ifI (Nat.le_refl 26) (hno (by decide))))
  rw [decide_eq_false c1,ite2_false]
  have hk0:0≤kindB p:=by omega
  obtain ⟨k3,kn⟩:=kind_nat hk0
  have hk3:=(kind_lt (p:=p)).1
  obtain ⟨pb,epa,gp⟩:=h.pl hk0 hk3
  have hc3:hq.cell r 3=some (.slice x.pa 3 x.pc):=HP.cell_of h.tab
  have hlen:x.n≤4:=by rw [← h.len]; exact hi.len4
  have three:isPort a.2=true∧isPort u.2=true∧u.1∈l→find4 p u L=none→find6 p a L=none→F51_j3 (some ⟨r,0,none⟩) p (some ⟨x.q (kindB p).toNat,0,none⟩) false (t6 a) (t4 u) (bdc bd0) hq K:=by
    intro hok f4 f6
    unfold F51_j3
    rw [ite2_false]
    have hc2:=h.bl.2.2.1
    have hc0:=h.bl.1
    simp only [ptrN_some,Nat.zero_add,hc2,hc0,ldV_some,slcV_slice,intV_int]
    have eb:bindB l mx L p a u=if L.length≥mx then 6 else 0:=by
      unfold bindB mayB
      rw [if_neg c1,if_neg (by simpa using hok),if_neg (by rw [f4]; simp),if_neg c1,if_neg (by rw [hok.1]; simp),if_neg (by rw [f6]; simp)]
    by_cases c6:L.length≥mx
    · rw [decide_eq_true (by omega:((L.length:Nat):Int)≥(mx:Nat)),ite2_true]
      rw [if_pos c6] at eb
      rw [eb] at hno
      exact ifI rfl (ifI rfl (ifI (Nat.le_refl 26) (hno (by decide))))
    rw [if_neg c6] at eb
    have hyes:=hyes eb
    rw [decide_eq_false (by omega:¬ ((L.length:Nat):Int)≥(mx:Nat)),ite2_false,t4_all,ldL_some]
    have hg:getL u (heldB L (kindB p))=none:=by rw [held_get hi hk0,f4]; rfl
    have hm:mayQ l u=0:=if_pos ⟨hok.2.1,hok.2.2⟩
    have er:reserveQ l (heldB L ((kindB p).toNat:Nat)) u=0:=by unfold reserveQ; rw [if_neg (by rw [hm]; simp),kn,hg]; rfl
    refine R106 h k3 hi.len4 (Nat.le_trans (held_len _) hsm) er fun hq2 x2 h2=>?_
    rw [intV_int,t6_cells,ldL_some,ldL_some,if_pos (t6_len _),if_pos (t4_len _),bd_newS]
    refine C97 h2 hlast hsm fun hq3 x3 h3=>?_
    rw [aggV_agg,if_pos (bdc_len _),if_pos (bdc_one _),if_pos (by simp [bdc_len]),bd_spl rfl,bdc_cells,ldL_some]
    refine hyes hq3 x3 (h3.eqH fun j hj=>?_)
    exact held_add (y:=⟨((last+1:Nat):Int),p,a,u,true,0⟩) hk0 rfl rfl hg j hj
  have five:isPort a.2=true∧isPort u.2=true∧u.1∈l→((find4 p u L).isSome=true∨(find6 p a L).isSome=true)→F51_j3 (some ⟨r,0,none⟩) p (some ⟨x.q (kindB p).toNat,0,none⟩) true (t6 a) (t4 u) (bdc bd0) hq K:=by
    intro hok hor
    unfold F51_j3
    rw [ite2_true]
    have eb:bindB l mx L p a u=5:=by
      unfold bindB mayB
      rw [if_neg c1,if_neg (by simpa using hok)]
      by_cases f4:(find4 p u L).isSome=true
      · rw [if_pos f4]
      · rw [if_neg f4,if_neg c1,if_neg (by rw [hok.1]; simp),if_pos (hor.resolve_left f4)]
    rw [eb] at hno
    exact ifI rfl (ifI rfl (ifI (Nat.le_refl 26) (hno (by decide))))
  have two:isPort a.2=true∧isPort u.2=true∧u.1∈l→F51_j2 (some ⟨r,0,none⟩) p (some ⟨x.q (kindB p).toNat,0,none⟩) false (t6 a) (t4 u) (bdc bd0) hq K:=by
    intro hok
    unfold F51_j2
    rw [ite2_false,t4_all,ldL_some]
    have hl4:(heldB L ((kindB p).toNat:Nat)).length≤65535:=Nat.le_trans (held_len _) hsm
    refine C105 (t:=u) (h.pol _ k3) hl4 ?_
    simp only [tup2V_mk,boolV_bool]
    have hg:getL u (heldB L (kindB p))=(find4 p u L).map (·.st):=held_get hi hk0 u
    unfold is_
    rw [kn,hg]
    cases f4:find4 p u L with
    | some y=>
      have f:=five hok (.inl (by rw [f4]; rfl))
      cases hs:y.st with
      | true=>simp only [Option.map_some,hs,Bool.not_true,ite2_false,ite2_true]; exact f
      | false=>simp only [Option.map_some,hs,Bool.not_false,ite2_true]; exact f
    | none=>
      simp only [Option.map_none,ite2_false,t6_cells,ldL_some]
      refine C66 h.bl (by omega) ?_
      rw [intV_int]
      by_cases f6:(find6 p a L).isSome=true
      · rw [decide_eq_true ((ixB_ge _ _).2 f6)]
        exact five hok (.inr f6)
      · rw [decide_eq_false fun e=>f6 ((ixB_ge _ _).1 e)]
        exact three hok f4 (by simpa using f6)
  have bad:¬ (isPort a.2=true∧isPort u.2=true∧u.1∈l)→F51_j2 (some ⟨r,0,none⟩) p (some ⟨x.q (kindB p).toNat,0,none⟩) true (t6 a) (t4 u) (bdc bd0) hq K:=by
    intro hb
    unfold F51_j2
    rw [ite2_true]
    have eb:bindB l mx L p a u=1:=by unfold bindB; rw [if_neg c1,if_pos hb]
    rw [eb] at hno
    exact ifI rfl (ifI rfl (ifI (Nat.le_refl 26) (hno (by decide))))
  have one:F51_j1 (some ⟨r,0,none⟩) p (some ⟨x.q (kindB p).toNat,0,none⟩) (t6 a) (t4 u) (bdc bd0) hq K:=by
    unfold F51_j1
    rw [t6_port,ldV_some,intV_int]
    refine C103 ?_
    rw [boolV_bool]
    by_cases a1:isPort a.2=true
    rotate_left
    · rw [show isPort a.2=false by simpa using a1,Bool.not_false,ite2_true]
      exact bad fun e=>a1 e.1
    rw [a1,Bool.not_true,ite2_false,show (t4 u)[4]?=some (.int .i64 u.2) from rfl,ldV_some,intV_int]
    refine C103 ?_
    rw [boolV_bool]
    by_cases a2:isPort u.2=true
    rotate_left
    · rw [show isPort u.2=false by simpa using a2,Bool.not_false,ite2_true]
      exact bad fun e=>a2 e.2.1
    rw [a2,Bool.not_true,ite2_false,show cellsN (t4 u) 0 4=some (v4 u.1) from rfl,ldL_some]
    refine C104 (h.pol _ k3) hlen ?_
    rw [boolV_bool]
    by_cases a3:u.1∈l
    · rw [decide_eq_true a3]
      exact two ⟨a1,a2,a3⟩
    · rw [decide_eq_false a3]
      exact bad fun e=>a3 e.2.2
  constructor
  · simp only [ptrN_some,Nat.zero_add,hc3,ldV_some,slcV_slice]
    refine C63 ?_
    rw [intV_int]
    refine ⟨hk0,by omega,?_⟩
    rw [epa,ptrN_some,gp,ldV_some,pq]
    exact one
  · try simp only [ptrN_some]
    refine C63 ?_
    rw [intV_int]
    simp only [Nat.zero_add,hc3,ldV_some,slcV_slice]
    refine ⟨hk0,by omega,?_⟩
    rw [epa,ptrN_some,gp,ldV_some,pq]
    exact one
end
end Go.Proofs
set_option linter.unusedVariables false
set_option linter.unusedSimpArgs false
set_option maxRecDepth 20000
namespace Go.Proofs
open Go Go.HL
section
variable {z hq hq' hp:HP} {r mx last n:Nat} {l:List Q} {low high:Int} {L:List Bd} {H:Nat→List ((Q × Int) × Bool)} {x:RB} {K:Value→HP→Prop}
theorem v4z (q:Q):splice [(Value.int .u8 0),(Value.int .u8 0),(Value.int .u8 0),(Value.int .u8 0)] 0 (v4 q)=v4 q:=splice_all rfl
theorem t4z5 (q:Q × Int):splice [(Value.int .u8 0),(Value.int .u8 0),(Value.int .u8 0),(Value.int .u8 0),(Value.int .i64 0)] 0 (t4 q)=t4 q:=splice_all rfl
theorem v4_one' (q:Q):(v4 q).all one=true:=rfl
theorem pairB_cons (a:V6) (f:Q) (b:Bd) (L:List Bd):pairB a f (b::L)=if b.inn.1=a then b.out.1 else pairB a f L:=by
  unfold pairB
  rw [List.find?_cons]
  by_cases h:b.inn.1=a
  · rw [decide_eq_true h,if_pos h]; rfl
  · rw [decide_eq_false h,if_neg h]
theorem getL_put_self {held:List ((Q × Int) × Bool)} {t:Q × Int} {b:Bool}:getL t (putL t b held)=some b:=by rw [getL_put,if_pos rfl]
set_option maxHeartbeats 1000000 in
theorem C48 {p:Int} {a:V6 × Int} {only:Bool} (h:RefW z hq r l low high mx last L x) (hi:InvB l low high mx last n L) (hsm:L.length≤60000) (hlast:last<500000)
    (hno:roomB l low high mx L p a≠0→K (.tuple ⟨[.agg ⟨bdc bd0⟩,.int .i64 (roomB l low high mx L p a)]⟩) hq)
    (hroom:only=true→roomB l low high mx L p a=0→∀ hq' x',RefW z hq' r l low high mx last L x'→K (.tuple ⟨[.agg ⟨bdc bd0⟩,.int .i64 0]⟩) hq')
    (hyes:only=false→roomB l low high mx L p a=0→∀ u,tkB l low high L p a=some u→∀ hq' x',RefW z hq' r l low high mx (last+1) (L++[⟨((last+1:Nat):Int),p,a,u,false,0⟩]) x'→K (.tuple ⟨[.agg ⟨bdc ⟨((last+1:Nat):Int),p,a,u,false,0⟩⟩,.int .i64 0]⟩) hq') :
    CF Tryz.prog 48 [ptr r 0,.int .i64 p,.agg ⟨t6 a⟩,.bool only] hq K:=by
  refine F48_ok _ p (t6 a) only hq K ?_
  unfold F48
  rw [t6_cells,ldL_some]
  refine C94 h.bl (by omega) ?_
  rw [intV_int]
  by_cases c1:mayB p a L mx=0
  rotate_left
  · rw [show (mayB p a L mx != 0)=true by simp [c1],ite2_true]
    have er:roomB l low high mx L p a=mayB p a L mx:=by unfold roomB; rw [if_pos c1]
    rw [er] at hno
    exact ifI rfl (ifI rfl (ifI (Nat.le_refl 26) (hno c1)))
  rw [show (mayB p a L mx != 0)=false by simp [c1],ite2_false]
  obtain ⟨hk0,hport,f6,hlt⟩:=mayB_0 c1
  obtain ⟨k3,kn⟩:=kind_nat hk0
  have hk3:=(kind_lt (p:=p)).1
  obtain ⟨pb,epa,gp⟩:=h.pl hk0 hk3
  have hc3:hq.cell r 3=some (.slice x.pa 3 x.pc):=HP.cell_of h.tab
  have hnew:=hi.new
  simp only [newOk,Bool.and_eq_true,decide_eq_true_eq] at hnew
  have hnd:l.Nodup:=hnew.2
  have hlen1:1≤l.length:=hnew.1.1.1.1.1.1
  have hl4:(heldB L ((kindB p).toNat:Nat)).length≤65535:=Nat.le_trans (held_len _) (by omega)
  have two:F48_j2 (some ⟨r,0,none⟩) p only (some ⟨x.q (kindB p).toNat,0,none⟩) (t6 a) (bdc bd0) (v4 (pairB a.1 (l.headD zq4) L)) hq K:=by
    unfold F48_j2
    rw [v4_cells,ldL_some,t6_port,ldV_some,intV_int]
    have er:∀ o,takeQ l low high (heldB L ((kindB p).toNat:Nat)) (pairB a.1 (l.headD zq4) L) a.2 (p==1)=o→tkB l low high L p a=o:=by
      intro o e
      unfold tkB takeB
      rw [← kn]; exact e
    refine R95 h k3 hi.len4 hl4 hi.ports hnd hport (fun e=>?_) fun u e hq2 x2 hxq h2=>?_
    · have e':=er _ e
      have eb:roomB l low high mx L p a=13:=by unfold roomB; rw [if_neg (by simp [c1]),e']; rfl
      rw [eb] at hno
      simp only [tup2V_mk,aggV_agg,intV_int]
      rw [if_pos (t4_len _),if_pos (t4_one _),if_pos (by simp [t4_len]),show ((6:Int) != 0)=true from rfl,ite2_true]
      exact ifI rfl (ifI rfl (ifI (Nat.le_refl 26) (hno (by decide))))
    have e':=er _ e
    have eb:roomB l low high mx L p a=0:=by unfold roomB; rw [if_neg (by simp [c1]),e']; rfl
    obtain ⟨u1,u2,u3,u4,u5,u6,u7⟩:=tkB_some hi hk0 e'
    simp only [tup2V_mk,aggV_agg,intV_int]
    rw [if_pos (t4_len _),if_pos (t4_one _),if_pos (by simp [t4_len]),show ((0:Int) != 0)=false from rfl,ite2_false]
    simp only [t4z5,t4_all,t6_cells,ldL_some]
    cases honly:only with
    | true=>
      rw [ite2_true]
      have hg:giveQ l (if (kindB p).toNat=(kindB p).toNat then putL u false (heldB L ((kindB p).toNat:Nat)) else heldB L ((kindB p).toNat:Nat)) u=0:=by
        rw [if_pos rfl]
        unfold giveQ
        have hm:mayQ l u=0:=if_pos ⟨u4,u1⟩
        rw [hm,getL_put_self]
        rfl
      rw [← hxq]
      have hl5:(if (kindB p).toNat=(kindB p).toNat then putL u false (heldB L ((kindB p).toNat:Nat)) else heldB L ((kindB p).toNat:Nat)).length≤65535:=by
        rw [if_pos rfl,kn,putL_none u7,List.length_append]
        have:=held_len (L:=L) (kindB p)
        have:=hi.len
        have:=hi.mx
        simp
        omega
      refine R96 h2 k3 hi.len4 hl5 hg fun hq3 x3 h3=>?_
      rw [intV_int]
      refine ifI rfl (ifI rfl (ifI (Nat.le_refl 26) ?_))
      refine hroom honly eb hq3 x3 (h3.eqH fun j hj=>?_)
      by_cases ej:j=(kindB p).toNat
      · rw [if_pos ej,if_pos rfl,ej,kn]
        exact delL_putN u7
      · rw [if_neg ej,if_neg ej]
    | false=>
      rw [ite2_false,if_pos (t6_len _),if_pos (t4_len _),bd_new]
      refine C97 h2 hlast (by omega) fun hq3 x3 h3=>?_
      rw [aggV_agg,if_pos (bdc_len _),if_pos (bdc_one _),if_pos (by simp [bdc_len]),bd_spl rfl,bdc_cells,ldL_some]
      refine hyes honly eb u e' hq3 x3 (h3.eqH fun j hj=>?_)
      exact held_add (y:=⟨((last+1:Nat):Int),p,a,u,false,0⟩) hk0 rfl rfl u7 j hj
  have one:F48_j1 (some ⟨r,0,none⟩) p only (some ⟨x.q (kindB p).toNat,0,none⟩) (t6 a) (bdc bd0) hq K:=by
    unfold F48_j1
    obtain ⟨g1,g2,g3,g4,g5,g6⟩:=h.pol _ k3
    have q0':hq.cell (x.q (kindB p).toNat) 0=some (.slice x.la x.n x.lc):=HP.cell_of g5
    obtain ⟨b,o,ela,hc⟩:=(g3.sub g1).get v4_len g4 (i:=0) (by omega)
    have hc2:=h.bl.2.2.1
    simp only [ptrN_some,Nat.zero_add,q0',ldV_some,slcV_slice]
    refine ⟨by omega,by omega,?_⟩
    rw [ela,ptrN_some,show Int.toNat 0=0 from rfl,hc,ldL_some,if_pos (v4_len _),if_pos (v4_one' _),if_pos (by simp [v4_len])]
    rw [hc2,ldV_some,slcV_slice,v4z]
    have hh:l[0]'(by omega)=l.headD zq4:=by
      cases l with
      | nil=>simp at hlen1
      | cons q l=>rfl
    rw [hh,show IntKind.wrap .i64 (((L.length:Nat):Int)-1)=(L.length:Nat)-1 from w64 (by omega) (by omega)]
    unfold F48_j3
    refine LoopP.by (J:=fun k (st:Int × List Value) hp'=>hp'=hq∧k≤L.length∧st.1=(k:Int)-1∧st.2=v4 (pairB a.1 (l.headD zq4) (L.drop k))) ?_ (n:=L.length) ⟨rfl,Nat.le_refl _,rfl,by rw [List.drop_length]; rfl⟩
    rintro I k ⟨y,cs⟩ hp' ⟨rfl,hk,hy,hcs⟩ hI
    simp only at hy hcs
    subst hy hcs
    unfold F48_l4
    cases k with
    | zero=>
      rw [decide_eq_false (by omega),ite2_false]
      rw [List.drop_zero]
      exact two
    | succ k=>
      rw [decide_eq_true (by omega),ite2_true]
      have hkl:k<L.length:=by omega
      obtain ⟨b2,o2,ea2,g,gd⟩:=h.bl.at hkl
      have e1:(((k+1:Nat):Int)-1)=(k:Nat):=by omega
      rw [e1]
      simp only [ptrN_some,Nat.zero_add,hc2,ldV_some,slcV_slice]
      refine ⟨by omega,by omega,?_⟩
      rw [ea2,ptrN_some,Int.toNat_natCast,bd_addr g,ldL_some,t6_addr,ldL_some]
      refine eq30 ?_
      have ed:=List.drop_eq_getElem_cons hkl
      have w1:IntKind.wrap .i64 (((k:Nat):Int)-1)=(k:Nat)-1:=w64 (by omega) (by omega)
      by_cases c:L[k].inn.1=a.1
      · rw [decide_eq_true c,ite2_true]
        refine ⟨by omega,by omega,?_⟩
        rw [ptrN_some,bd_outa g,ldL_some,if_pos (v4_len _),if_pos (v4_one' _),if_pos (by simp [v4_len]),splice_all (by simp [v4_len])]
        unfold F48_j5
        rw [w1]
        exact hI k _ _ (by omega) ⟨rfl,by omega,rfl,by rw [ed,pairB_cons,if_pos c]⟩
      · rw [decide_eq_false c,ite2_false]
        unfold F48_j5
        rw [w1]
        exact hI k _ _ (by omega) ⟨rfl,by omega,rfl,by rw [ed,pairB_cons,if_neg c]⟩
  constructor
  · simp only [ptrN_some,Nat.zero_add,hc3,ldV_some,slcV_slice]
    refine C63 ?_
    rw [intV_int]
    refine ⟨hk0,by omega,?_⟩
    rw [epa,ptrN_some,gp,ldV_some,pq]
    exact one
  · try simp only [ptrN_some]
    refine C63 ?_
    rw [intV_int]
    simp only [Nat.zero_add,hc3,ldV_some,slcV_slice]
    refine ⟨hk0,by omega,?_⟩
    rw [epa,ptrN_some,gp,ldV_some,pq]
    exact one
end
end Go.Proofs
set_option linter.unusedVariables false
set_option maxRecDepth 20000
namespace Go.Proofs
open Go Go.HL
def F43 (x0 x1:Int) (hp:HP) (K:Kh):Prop:=
  (if List.length [(Value.int .u8 32),(Value.int .u8 1),(Value.int .u8 0),(Value.int .u8 0),(Value.int .u8 0),(Value.int .u8 0),(Value.int .u8 0),(Value.int .u8 0),(Value.int .u8 0),(Value.int .u8 0),(Value.int .u8 0),(Value.int .u8 0),(Value.int .u8 0),(Value.int .u8 0),(Value.int .u8 0),(Value.int .u8 x0)]=16 then (if List.length (List.set (splice [(Value.int .u8 0),(Value.int .u8 0),(Value.int .u8 0),(Value.int .u8 0),(Value.int .u8 0),(Value.int .u8 0),(Value.int .u8 0),(Value.int .u8 0),(Value.int .u8 0),(Value.int .u8 0),(Value.int .u8 0),(Value.int .u8 0),(Value.int .u8 0),(Value.int .u8 0),(Value.int .u8 0),(Value.int .u8 0),(Value.int .i64 0)] 0 [(Value.int .u8 32),(Value.int .u8 1),(Value.int .u8 0),(Value.int .u8 0),(Value.int .u8 0),(Value.int .u8 0),(Value.int .u8 0),(Value.int .u8 0),(Value.int .u8 0),(Value.int .u8 0),(Value.int .u8 0),(Value.int .u8 0),(Value.int .u8 0),(Value.int .u8 0),(Value.int .u8 0),(Value.int .u8 x0)]) 16 (Value.int .i64 x1))=17 then (if List.all (List.set (splice [(Value.int .u8 0),(Value.int .u8 0),(Value.int .u8 0),(Value.int .u8 0),(Value.int .u8 0),(Value.int .u8 0),(Value.int .u8 0),(Value.int .u8 0),(Value.int .u8 0),(Value.int .u8 0),(Value.int .u8 0),(Value.int .u8 0),(Value.int .u8 0),(Value.int .u8 0),(Value.int .u8 0),(Value.int .u8 0),(Value.int .i64 0)] 0 [(Value.int .u8 32),(Value.int .u8 1),(Value.int .u8 0),(Value.int .u8 0),(Value.int .u8 0),(Value.int .u8 0),(Value.int .u8 0),(Value.int .u8 0),(Value.int .u8 0),(Value.int .u8 0),(Value.int .u8 0),(Value.int .u8 0),(Value.int .u8 0),(Value.int .u8 0),(Value.int .u8 0),(Value.int .u8 x0)]) 16 (Value.int .i64 x1)) one=true then (if 0+List.length (List.set (splice [(Value.int .u8 0),(Value.int .u8 0),(Value.int .u8 0),(Value.int .u8 0),(Value.int .u8 0),(Value.int .u8 0),(Value.int .u8 0),(Value.int .u8 0),(Value.int .u8 0),(Value.int .u8 0),(Value.int .u8 0),(Value.int .u8 0),(Value.int .u8 0),(Value.int .u8 0),(Value.int .u8 0),(Value.int .u8 0),(Value.int .i64 0)] 0 [(Value.int .u8 32),(Value.int .u8 1),(Value.int .u8 0),(Value.int .u8 0),(Value.int .u8 0),(Value.int .u8 0),(Value.int .u8 0),(Value.int .u8 0),(Value.int .u8 0),(Value.int .u8 0),(Value.int .u8 0),(Value.int .u8 0),(Value.int .u8 0),(Value.int .u8 0),(Value.int .u8 0),(Value.int .u8 x0)]) 16 (Value.int .i64 x1))≤List.length [(Value.int .u8 0),(Value.int .u8 0),(Value.int .u8 0),(Value.int .u8 0),(Value.int .u8 0),(Value.int .u8 0),(Value.int .u8 0),(Value.int .u8 0),(Value.int .u8 0),(Value.int .u8 0),(Value.int .u8 0),(Value.int .u8 0),(Value.int .u8 0),(Value.int .u8 0),(Value.int .u8 0),(Value.int .u8 0),(Value.int .i64 0)] then (ldL (cellsN (splice [(Value.int .u8 0),(Value.int .u8 0),(Value.int .u8 0),(Value.int .u8 0),(Value.int .u8 0),(Value.int .u8 0),(Value.int .u8 0),(Value.int .u8 0),(Value.int .u8 0),(Value.int .u8 0),(Value.int .u8 0),(Value.int .u8 0),(Value.int .u8 0),(Value.int .u8 0),(Value.int .u8 0),(Value.int .u8 0),(Value.int .i64 0)] 0 (List.set (splice [(Value.int .u8 0),(Value.int .u8 0),(Value.int .u8 0),(Value.int .u8 0),(Value.int .u8 0),(Value.int .u8 0),(Value.int .u8 0),(Value.int .u8 0),(Value.int .u8 0),(Value.int .u8 0),(Value.int .u8 0),(Value.int .u8 0),(Value.int .u8 0),(Value.int .u8 0),(Value.int .u8 0),(Value.int .u8 0),(Value.int .i64 0)] 0 [(Value.int .u8 32),(Value.int .u8 1),(Value.int .u8 0),(Value.int .u8 0),(Value.int .u8 0),(Value.int .u8 0),(Value.int .u8 0),(Value.int .u8 0),(Value.int .u8 0),(Value.int .u8 0),(Value.int .u8 0),(Value.int .u8 0),(Value.int .u8 0),(Value.int .u8 0),(Value.int .u8 0),(Value.int .u8 x0)]) 16 (Value.int .i64 x1))) 0 17) fun l_1=>(K (.agg ⟨l_1⟩) hp)) else False) else False) else False) else False)
theorem F43_ok (x0 x1:Int) (hp:HP) (K:Kh) (h:F43 x0 x1 hp K):CF Tryz.prog 43 [(Value.int .u8 x0),(Value.int .i64 x1)] hp K:=
  have L:∀ {Q} n,Snd Tryz.prog 9 (cAt Tryz.f43 (pth n)) Q (CW Tryz.prog 9 [4] [] (cAt Tryz.f43 (pth n)) Q):=fun _=>Snd.leaf
  okF h Tryz.func43 (L 1) (by kernel_rfl) (by kernel_rfl) (by kernel_rfl)
def F45 (x0 x1:Int) (hp:HP) (K:Kh):Prop:=
  (if List.length [(Value.int .u8 1),(Value.int .u8 0),(Value.int .u8 0),(Value.int .u8 x0)]=4 then (if List.length (List.set (splice [(Value.int .u8 0),(Value.int .u8 0),(Value.int .u8 0),(Value.int .u8 0),(Value.int .i64 0)] 0 [(Value.int .u8 1),(Value.int .u8 0),(Value.int .u8 0),(Value.int .u8 x0)]) 4 (Value.int .i64 x1))=5 then (if List.all (List.set (splice [(Value.int .u8 0),(Value.int .u8 0),(Value.int .u8 0),(Value.int .u8 0),(Value.int .i64 0)] 0 [(Value.int .u8 1),(Value.int .u8 0),(Value.int .u8 0),(Value.int .u8 x0)]) 4 (Value.int .i64 x1)) one=true then (if 0+List.length (List.set (splice [(Value.int .u8 0),(Value.int .u8 0),(Value.int .u8 0),(Value.int .u8 0),(Value.int .i64 0)] 0 [(Value.int .u8 1),(Value.int .u8 0),(Value.int .u8 0),(Value.int .u8 x0)]) 4 (Value.int .i64 x1))≤List.length [(Value.int .u8 0),(Value.int .u8 0),(Value.int .u8 0),(Value.int .u8 0),(Value.int .i64 0)] then (ldL (cellsN (splice [(Value.int .u8 0),(Value.int .u8 0),(Value.int .u8 0),(Value.int .u8 0),(Value.int .i64 0)] 0 (List.set (splice [(Value.int .u8 0),(Value.int .u8 0),(Value.int .u8 0),(Value.int .u8 0),(Value.int .i64 0)] 0 [(Value.int .u8 1),(Value.int .u8 0),(Value.int .u8 0),(Value.int .u8 x0)]) 4 (Value.int .i64 x1))) 0 5) fun l_1=>(K (.agg ⟨l_1⟩) hp)) else False) else False) else False) else False)
theorem F45_ok (x0 x1:Int) (hp:HP) (K:Kh) (h:F45 x0 x1 hp K):CF Tryz.prog 45 [(Value.int .u8 x0),(Value.int .i64 x1)] hp K:=
  have L:∀ {Q} n,Snd Tryz.prog 9 (cAt Tryz.f45 (pth n)) Q (CW Tryz.prog 9 [4] [] (cAt Tryz.f45 (pth n)) Q):=fun _=>Snd.leaf
  okF h Tryz.func45 (L 1) (by kernel_rfl) (by kernel_rfl) (by kernel_rfl)
def F11 (x0a:OA) (x0n x0c:Nat) (x1 x2:Int) (x3a:OA) (x3n x3c:Nat) (hp:HP) (K:Kh):Prop:=
  (ite2 (decide (((x0n:Nat):Int) > 10)) (K (Value.bool true) hp) (ite2 (decide (((x3n:Nat):Int) > 150)) (K (Value.bool true) hp) (ite2 (decide (((IntKind.wrap .i64 (x2-x1)):Int) > 60)) (K (Value.bool true) hp) (ite2 (decide (((IntKind.wrap .i64 (x2-x1)):Int)<0)) (K (Value.bool (decide ((x2:Int) > x1))) hp) (K (Value.bool false) hp)))))
theorem F11_ok (x0a:OA) (x0n x0c:Nat) (x1 x2:Int) (x3a:OA) (x3n x3c:Nat) (hp:HP) (K:Kh) (h:F11 x0a x0n x0c x1 x2 x3a x3n x3c hp K):CF Tryz.prog 11 [(Value.slice x0a x0n x0c),(Value.int .i64 x1),(Value.int .i64 x2),(Value.slice x3a x3n x3c)] hp K:=
  have L:∀ {Q} n,Snd Tryz.prog 34 (cAt Tryz.f11 (pth n)) Q (CW Tryz.prog 34 [] [] (cAt Tryz.f11 (pth n)) Q):=fun _=>Snd.leaf
  okF h Tryz.func11 (L 1) (by kernel_rfl) (by kernel_rfl) (by kernel_rfl)
def F12_j1 (x1:OA) (x20:Bool) (hp:HP) (K:Kh):Prop:=
  (ite2 x20 (K (Value.bool false) hp) (CF Tryz.prog 43 [(Value.int .u8 1),(Value.int .i64 5000)] hp fun u_8 h_9=>(aggV u_8 fun l_10=>(CF Tryz.prog 42 [(Value.pointer x1),(Value.int .i64 17),(Value.agg ⟨l_10⟩)] h_9 fun u_11 h_12=>(tup2V u_11 fun u_13 u_14=>(aggV u_13 fun l_15=>(intV u_14 .i64 fun i_16=>(if List.length l_15=26 then (if List.all l_15 one=true then (if 0+List.length l_15≤List.length zB then (CF Tryz.prog 43 [(Value.int .u8 1),(Value.int .i64 5000)] h_12 fun u_17 h_18=>(aggV u_17 fun l_19=>(CF Tryz.prog 42 [(Value.pointer x1),(Value.int .i64 17),(Value.agg ⟨l_19⟩)] h_18 fun u_20 h_21=>(tup2V u_20 fun u_22 u_23=>(aggV u_22 fun l_24=>(intV u_23 .i64 fun i_25=>(if List.length l_24=26 then (if List.all l_24 one=true then (if 0+List.length l_24≤List.length zB then (CF Tryz.prog 45 [(Value.int .u8 1),(Value.int .i64 1024)] h_21 fun u_26 h_27=>(aggV u_26 fun l_28=>(CF Tryz.prog 44 [(Value.pointer x1),(Value.int .i64 17),(Value.agg ⟨l_28⟩)] h_27 fun u_29 h_30=>(tup2V u_29 fun u_31 u_32=>(aggV u_31 fun l_33=>(boolV u_32 fun q_34=>(if List.length l_33=26 then (if List.all l_33 one=true then (if 0+List.length l_33≤List.length zB then (ite2 ((i_16:Int)==0) (ite2 ((i_25:Int)==5) (ldV ((splice zB 0 l_15))[0]? fun v_35=>(intV v_35 .i64 fun i_36=>(ite2 ((i_36:Int)==1) (ldL (cellsN (splice zB 0 l_15) 19 5) fun l_37=>(CF Tryz.prog 45 [(Value.int .u8 1),(Value.int .i64 1024)] h_30 fun u_38 h_39=>(aggV u_38 fun l_40=>(eqAgg Tryz.prog 56 l_37 l_40 fun q_41=>(ite2 q_41 (ite2 q_34 (ldL (cellsN (splice zB 0 l_33) 0 26) fun l_42=>(ldL (cellsN (splice zB 0 l_15) 0 26) fun l_43=>(eqAgg Tryz.prog 97 l_42 l_43 fun q_44=>(ite2 q_44 (CF Tryz.prog 46 [(Value.pointer x1)] h_39 fun u_45 h_46=>(intV u_45 .i64 fun i_47=>(K (Value.bool ((i_47:Int)==1)) h_46))) (K (Value.bool false) h_39))))) (K (Value.bool false) h_39)) (K (Value.bool false) h_39)))))) (K (Value.bool false) h_30)))) (K (Value.bool false) h_30)) (K (Value.bool false) h_30)) else False) else False) else False))))))) else False) else False) else False))))))) else False) else False) else False))))))))
def F12 (hp:HP) (K:Kh):Prop:=
  (if List.length [(Value.int .u8 1),(Value.int .u8 0),(Value.int .u8 0),(Value.int .u8 1)]=4 then (∀ b_1:Nat,hp b_1=.none→(CF Tryz.prog 13 [(Value.slice (some ⟨b_1,0,none⟩) 1 1),(Value.int .i64 1024),(Value.int .i64 1027),(Value.int .i64 3)] (HP.set hp b_1 (.cells 54 (splice [(Value.int .u8 0),(Value.int .u8 0),(Value.int .u8 0),(Value.int .u8 0)] 0 [(Value.int .u8 1),(Value.int .u8 0),(Value.int .u8 0),(Value.int .u8 1)]) 0)) fun u_2 h_3=>(tup2V u_2 fun u_4 u_5=>(ptrV u_4 fun p_6=>(intV u_5 .i64 fun i_7=>(ite2 ((i_7:Int) != 0) (F12_j1 p_6 true h_3  K) (F12_j1 p_6 (Option.isNone p_6) h_3  K))))))) else False)
theorem F12_ok (hp:HP) (K:Kh) (h:F12  hp K):CF Tryz.prog 12 [] hp K:=
  have L:∀ {Q} n,Snd Tryz.prog 69 (cAt Tryz.f12 (pth n)) Q (CW Tryz.prog 69 [3,5,7,46,51] [] (cAt Tryz.f12 (pth n)) Q):=fun _=>Snd.leaf
  okF h Tryz.func12 (Snd.seq (L 2) (Snd.seq (L 5) (Snd.seq (Snd.jn [(1,.p),(20,.b)] (fun a hp=>F12_j1 a.1 a.2.1 hp  K) (L 19) (L 27) (by rfl) (by kernel_rfl)) (L 15)))) (by kernel_rfl) (by kernel_rfl) (by kernel_rfl)
def F49 (x0 x1:List Value) (hp:HP) (K:Kh):Prop:=
  (ldV (x0)[0]? fun v_1=>(intV v_1 .i64 fun i_2=>(ldV (x1)[0]? fun v_3=>(intV v_3 .i64 fun i_4=>(ite2 ((i_2:Int)==i_4) (ldV (x0)[1]? fun v_5=>(intV v_5 .i64 fun i_6=>(ldV (x1)[1]? fun v_7=>(intV v_7 .i64 fun i_8=>(ite2 ((i_6:Int)==i_8) (ldL (cellsN x0 2 17) fun l_9=>(ldL (cellsN x1 2 17) fun l_10=>(eqAgg Tryz.prog 95 l_9 l_10 fun q_11=>(ite2 q_11 (ldL (cellsN x0 19 5) fun l_12=>(ldL (cellsN x1 19 5) fun l_13=>(eqAgg Tryz.prog 56 l_12 l_13 fun q_14=>(ite2 q_14 (ldV (x0)[24]? fun v_15=>(boolV v_15 fun q_16=>(ldV (x1)[24]? fun v_17=>(boolV v_17 fun q_18=>(ite2 (q_16==q_18) (ldV (x0)[25]? fun v_19=>(intV v_19 .i64 fun i_20=>(ldV (x1)[25]? fun v_21=>(intV v_21 .i64 fun i_22=>(K (Value.bool ((i_20:Int)==i_22)) hp))))) (K (Value.bool false) hp)))))) (K (Value.bool false) hp))))) (K (Value.bool false) hp))))) (K (Value.bool false) hp)))))) (K (Value.bool false) hp))))))
theorem F49_ok (x0 x1:List Value) (hp:HP) (K:Kh) (h:F49 x0 x1 hp K):CF Tryz.prog 49 [(Value.agg ⟨x0⟩),(Value.agg ⟨x1⟩)] hp K:=
  have L:∀ {Q} n,Snd Tryz.prog 45 (cAt Tryz.f49 (pth n)) Q (CW Tryz.prog 45 [2,3,5,7,11,13,18,20,25,27,32,34,39,41] [] (cAt Tryz.f49 (pth n)) Q):=fun _=>Snd.leaf
  okF h Tryz.func49 (L 1) (by kernel_rfl) (by kernel_rfl) (by kernel_rfl)
def F55_j2 (x0:OA) (x5:Int) (hp:HP) (K:Kh):Prop:=
  (ptrN x0 fun b_11 o_12=>(ldV (HP.cell hp b_11 (o_12+2)) fun v_13=>(slcV v_13 fun a_14 n_15 c_16=>((0≤(x5:Int))∧((x5:Int)<(n_15:Nat))∧(ptrN a_14 fun b_17 o_18=>(ldV (HP.cell hp b_17 ((o_18+Int.toNat x5*26)+0)) fun v_19=>(intV v_19 .i64 fun i_20=>(K (Value.int .i64 i_20) hp))))))))
def F55_j1 (x0:OA) (x16:Bool) (k3:List Value) (hp:HP) (K:Kh):Prop:=
  (ite2 x16 (ldV (k3)[6]? fun v_1=>(intV v_1 .i64 fun i_2=>(K (Value.int .i64 i_2) hp))) (ldV (k3)[6]? fun v_3=>(intV v_3 .i64 fun i_4=>(ptrN x0 fun b_5 o_6=>(ldV (HP.cell hp b_5 (o_6+2)) fun v_7=>(slcV v_7 fun a_8 n_9 c_10=>((((n_9:Nat):Int)≠0)∧(ite2 (decide (((Int.tmod i_4 (n_9:Nat)):Int)<0)) (ptrN x0 fun b_21 o_22=>(ldV (HP.cell hp b_21 (o_22+2)) fun v_23=>(slcV v_23 fun a_24 n_25 c_26=>(F55_j2 x0 (IntKind.wrap .i64 ((Int.tmod i_4 (n_9:Nat))+(n_25:Nat))) hp  K)))) (F55_j2 x0 (Int.tmod i_4 (n_9:Nat)) hp  K)))))))))
def F55 (x0:OA) (x1:List Value) (hp:HP) (K:Kh):Prop:=
  (ldV (x1)[0]? fun v_27=>(intV v_27 .u8 fun i_28=>(ite2 (decide ((i_28:Int)≥5)) (F55_j1 x0 true x1 hp  K) (ptrN x0 fun b_29 o_30=>(ldV (HP.cell hp b_29 (o_30+2)) fun v_31=>(slcV v_31 fun a_32 n_33 c_34=>(F55_j1 x0 (((n_33:Nat):Int)==0) x1 hp  K)))))))
theorem F55_ok (x0:OA) (x1:List Value) (hp:HP) (K:Kh) (h:F55 x0 x1 hp K):CF Tryz.prog 55 [(Value.pointer x0),(Value.agg ⟨x1⟩)] hp K:=
  have L:∀ {Q} n,Snd Tryz.prog 44 (cAt Tryz.f55 (pth n)) Q (CW Tryz.prog 44 [3,6,17,19] [] (cAt Tryz.f55 (pth n)) Q):=fun _=>Snd.leaf
  okF h Tryz.func55 (Snd.seq (L 2) (Snd.seq (Snd.jn [(0,.p),(3,.r 3 0),(16,.b),(3,.c 51)] (fun a hp=>F55_j1 a.1 a.2.1 a.2.2.1 hp  K) (L 9) (L 13) (by rfl) (by kernel_rfl)) (Snd.seq (L 11) (Snd.jn [(0,.p),(5,.i .i64)] (fun a hp=>F55_j2 a.1 a.2.1 hp  K) (L 23) (L 31) (by rfl) (by kernel_rfl))))) (by kernel_rfl) (by kernel_rfl) (by kernel_rfl)
end Go.Proofs
set_option linter.unusedVariables false
set_option linter.unusedSimpArgs false
set_option maxRecDepth 20000
namespace Go.Proofs
open Go Go.HL
theorem bdc_shaped (x:Bd):shaped Tryz.prog 5 97 (bdc x)=true:=by kernel_rfl
theorem eq36 {x y:Bd} {c:Bool→Prop} (h:c (decide (x=y))):eqAgg Tryz.prog 97 (bdc x) (bdc y) c:=
  eqAgg_of (m:=5) (D:=5) (by kernel_rfl) (bdc_shaped x) (bdc_shaped y) (by simp [bdc_inj]) h
def inT (a port:Int):V6 × Int:=(((32,1,0,0),(0,0,0,0),(0,0,0,0),(0,0,0,a)),port)
theorem inT_ok {a port:Int} (ha:okB a) (hz:okZ port):okT6 (inT a port):=by
  have b0:okB 0:=okBc rfl
  exact ⟨⟨⟨okBc rfl,okBc rfl,b0,b0⟩,⟨b0,b0,b0,b0⟩,⟨b0,b0,b0,b0⟩,⟨b0,b0,b0,ha⟩⟩,hz⟩
section
variable {tb:Obj} {hp:HP} {K:Value→HP→Prop}
theorem C43 {a port:Int} (h:K (.agg ⟨t6 (inT a port)⟩) hp):CF Tryz.prog 43 [.int .u8 a,.int .i64 port] hp K:=by
  refine F43_ok a port hp K ?_
  unfold F43
  exact ifI rfl (ifI rfl (ifI rfl (ifI (Nat.le_refl 17) h)))
theorem C45 {a port:Int} (h:K (.agg ⟨t4 (ta a port)⟩) hp):CF Tryz.prog 45 [.int .u8 a,.int .i64 port] hp K:=by
  refine F45_ok a port hp K ?_
  unfold F45
  exact ifI rfl (ifI rfl (ifI rfl (ifI (Nat.le_refl 5) h)))
theorem C11 {a b:Option Addr} {n c m d:Nat} {low high:Int} (hl:okZ low) (hh:okZ high) (h:∀ g:Bool,(g=false→n≤10∧m≤150∧high-low≤60)→K (.bool g) hp):CF Tryz.prog 11 [.slice a n c,.int .i64 low,.int .i64 high,.slice b m d] hp K:=by
  refine F11_ok a n c low high b m d hp K ?_
  unfold F11
  have yes:K (.bool true) hp:=h true (fun e=>by cases e)
  by_cases h1:n > 10
  · rw [decide_eq_true (by omega:((n:Nat):Int) > 10),ite2_true]; exact yes
  rw [decide_eq_false (by omega:¬ ((n:Nat):Int) > 10),ite2_false]
  by_cases h2:m > 150
  · rw [decide_eq_true (by omega:((m:Nat):Int) > 150),ite2_true]; exact yes
  rw [decide_eq_false (by omega:¬ ((m:Nat):Int) > 150),ite2_false]
  unfold okZ at hl hh
  have key:∀ x:Int,x=IntKind.wrap .i64 (high-low)→(x=high-low∧-9223372036854775808≤high-low∧high-low≤9223372036854775807)∨(x=high-low-18446744073709551616∧high-low > 9223372036854775807)∨(x=high-low+18446744073709551616∧high-low < -9223372036854775808):=by
    intro x hx
    subst hx
    by_cases a1:high-low > 9223372036854775807
    · refine .inr (.inl ⟨?_,a1⟩)
      have e:(high-low) % 18446744073709551616=high-low:=Int.emod_eq_of_lt (by omega) (by omega)
      show (if (true&&decide ((high-low) % 18446744073709551616≥9223372036854775808))=true then (high-low) % 18446744073709551616-18446744073709551616 else (high-low) % 18446744073709551616)=_
      rw [e,if_pos (by rw [decide_eq_true (by omega)]; rfl)]
    · by_cases a2:high-low < -9223372036854775808
      · refine .inr (.inr ⟨?_,a2⟩)
        have e:(high-low) % 18446744073709551616=high-low+18446744073709551616:=by omega
        show (if (true&&decide ((high-low) % 18446744073709551616≥9223372036854775808))=true then (high-low) % 18446744073709551616-18446744073709551616 else (high-low) % 18446744073709551616)=_
        rw [e,if_neg (by rw [decide_eq_false (by omega)]; simp)]
      · exact .inl ⟨w64 (by omega) (by omega),by omega,by omega⟩
  have hk:=key _ rfl
  generalize IntKind.wrap .i64 (high-low)=x at hk
  by_cases h3:x > 60
  · rw [decide_eq_true h3,ite2_true]; exact yes
  rw [decide_eq_false h3,ite2_false]
  by_cases h4:x<0
  · rw [decide_eq_true h4,ite2_true]
    refine h _ fun e=>?_
    have e:=of_decide_eq_false e
    exact ⟨by omega,by omega,by omega⟩
  rw [decide_eq_false h4,ite2_false]
  exact h false fun _=>⟨by omega,by omega,by omega⟩
def qB:Q:=(1,0,0,1)
theorem okqB:∀ q∈[qB],okQ q:=fun q hq=>by
  rw [List.mem_singleton.1 hq]
  exact ⟨okBc rfl,okBc rfl,okBc rfl,okBc rfl⟩
theorem newOkB:newBOk [qB] 1024 1027 3:=⟨by decide,by decide,by decide⟩
theorem rowB {b1:Nat} (hb0:b1≠0) (hp:HP):Shows (hp.set b1 (.cells 54 (v4 qB) 0)) (some ⟨b1,0,none⟩) 1 4 ([qB].flatMap v4):=
  .inr ⟨b1,0,rfl,by rw [HP.cellN_of (HP.set_eq ..)]; rfl⟩
set_option maxHeartbeats 1000000 in
theorem C12 (ht:TabR tb hp) (hK:∀ hp',HSub hp hp'→K (.bool true) hp'):CF Tryz.prog 12 [] hp K:=by
  refine F12_ok hp K ?_
  unfold F12
  refine ifI rfl ?_
  refine fun (b1:Nat) (hb1:hp b1=Ent.none)=>?_
  have ht0:TabR tb (hp.set b1 (.cells 54 (v4 qB) 0)):=ht.set hb1 _
  have hs0:HSub hp (hp.set b1 (.cells 54 (v4 qB) 0)):=HSub.set_fresh hp _ hb1
  have hb0:b1≠0:=fun e=>by rw [e,ht.1] at hb1; cases hb1
  have hrow:=rowB hb0 hp
  show CF Tryz.prog 13 _ (hp.set b1 (.cells 54 (v4 qB) 0)) _
  generalize hp.set b1 (.cells 54 (v4 qB) 0)=hp0 at *
  refine S13 ht0 (l:=[qB]) hrow rfl (Nat.le_refl _) (okZc rfl) (okZc rfl) okqB (fun hne=>absurd newOkB hne) fun _ t hp1 h1=>?_
  rw [tup2V_mk,pq,intV_int,show ((0:Int) != 0)=false from rfl,ite2_false]
  show F12_j1 (some ⟨t,0,none⟩) false hp1 K
  unfold F12_j1
  rw [ite2_false]
  have o1:okT6 (inT 1 5000):=inT_ok (okBc rfl) (okZc rfl)
  refine C43 ?_
  rw [aggV_agg]
  refine S42 h1 (okZc rfl) o1 (by decide) (fun hne=>absurd (by kernel_rfl) hne) fun _ u hu hp2 h2=>?_
  have eu:u=ta 1 1024:=by
    have:tkB [qB] 1024 1027 [] 17 (inT 1 5000)=some (ta 1 1024):=by kernel_rfl
    rw [this] at hu; exact (Option.some.inj hu).symm
  subst eu
  rw [tup2V_mk,aggV_agg,intV_int,if_pos (bdc_len _),if_pos (bdc_one _),if_pos (by simp [bdc_len]),bd_spl rfl]
  refine C43 ?_
  rw [aggV_agg]
  refine S42 h2 (okZc rfl) o1 (by decide) (fun _ hp3 h3=>?_) fun e=>absurd e (by decide +kernel)
  rw [tup2V_mk,aggV_agg,intV_int,if_pos (bdc_len _),if_pos (bdc_one _),if_pos (by simp [bdc_len])]
  refine C45 ?_
  rw [aggV_agg]
  refine W44 h3.w (okZc rfl) (ta_ok (okBc rfl) (okZc rfl)) ?_
  have ef:find4 17 (ta 1 1024) ([]++[(⟨((0+1:Nat):Int),17,inT 1 5000,ta 1 1024,false,0⟩:Bd)])=some ⟨1,17,inT 1 5000,ta 1 1024,false,0⟩:=by kernel_rfl
  rw [ef]
  unfold toldV
  rw [tup2V_mk,aggV_agg,boolV_bool,if_pos (bdc_len _),if_pos (bdc_one _),if_pos (by simp [bdc_len])]
  simp only [Option.getD_some]
  rw [bd_spl rfl]
  rw [show ((0:Int)==0)=true from rfl,ite2_true,show (roomB [qB] 1024 1027 (3:Int).toNat ([]++[(⟨((0+1:Nat):Int),17,inT 1 5000,ta 1 1024,false,0⟩:Bd)]) 17 (inT 1 5000)==5)=true by kernel_rfl,ite2_true,bdc_id,ldV_some,intV_int]
  show ite2 true _ _
  rw [ite2_true,bdc_out,ldL_some]
  refine C45 ?_
  rw [aggV_agg]
  refine eq75 ?_
  rw [decide_eq_true rfl,ite2_true]
  show ite2 true _ _
  rw [ite2_true,bdc_cells,ldL_some,bdc_cells,ldL_some]
  refine eq36 ?_
  rw [show (⟨((0+1:Nat):Int),17,inT 1 5000,ta 1 1024,false,0⟩:Bd)=⟨1,17,inT 1 5000,ta 1 1024,false,0⟩ from rfl,decide_eq_true rfl,ite2_true]
  refine W46 h3.w ?_
  rw [intV_int]
  exact hK hp3 (hs0.trans (h3.fin ht0))
end
end Go.Proofs
set_option linter.unusedVariables false
set_option maxRecDepth 20000
namespace Go.Proofs
open Go Go.HL
theorem dec5 {D:Nat} {cs:List Value} (h:wellS Tryz.prog D 5 cs=true):∃ n:Int,(0≤n∧n≤255)∧cs=[.int .u8 n]:=by
  cases D with
  | zero=>cases h
  | succ D=>
    unfold wellS at h
    rw [show Tryz.prog.underlying 5=some (.int .u8) by kernel_rfl] at h
    simp only at h
    split at h
    · rename_i q n
      simp only [Bool.and_eq_true,decide_eq_true_eq] at h
      obtain ⟨rfl,hw⟩:=h
      exact ⟨n,(Go.Lit.wf_int_iff _ _).1 hw,rfl⟩
    · cases h
theorem dec3 {D:Nat} {cs:List Value} (h:wellS Tryz.prog D 3 cs=true):∃ n:Int,(-9223372036854775808≤n∧n≤9223372036854775807)∧cs=[.int .i64 n]:=by
  cases D with
  | zero=>cases h
  | succ D=>
    unfold wellS at h
    rw [show Tryz.prog.underlying 3=some (.int .i64) by kernel_rfl] at h
    simp only at h
    split at h
    · rename_i q n
      simp only [Bool.and_eq_true,decide_eq_true_eq] at h
      obtain ⟨rfl,hw⟩:=h
      exact ⟨n,(Go.Lit.wf_int_iff _ _).1 hw,rfl⟩
    · cases h
theorem dec73:∀ (D:Nat) (cs:List Value),wellS Tryz.prog D 54 cs=true→∃ q:Q,okQ q∧cs=v4 q:=by
  intro D cs h
  cases D with
  | zero=>cases h
  | succ D=>
    unfold wellS at h
    rw [show Tryz.prog.underlying 54=some (.array 4 5) by kernel_rfl] at h
    simp only [show Tryz.prog.cellsOf 54=4 by kernel_rfl,show Tryz.prog.cellsOf 5=1 by kernel_rfl,Bool.and_eq_true,decide_eq_true_eq,List.all_eq_true,List.mem_range] at h
    obtain ⟨hl,he⟩:=h
    match cs,hl with
    | [c0,c1,c2,c3],_=>
      obtain ⟨n0,r0,e0⟩:=dec5 (he 0 (by omega))
      obtain ⟨n1,r1,e1⟩:=dec5 (he 1 (by omega))
      obtain ⟨n2,r2,e2⟩:=dec5 (he 2 (by omega))
      obtain ⟨n3,r3,e3⟩:=dec5 (he 3 (by omega))
      simp at e0 e1 e2 e3
      subst e0; subst e1; subst e2; subst e3
      exact ⟨(n0,n1,n2,n3),⟨r0,r1,r2,r3⟩,rfl⟩
end Go.Proofs
set_option linter.unusedVariables false
set_option linter.unusedSimpArgs false
set_option maxRecDepth 20000
namespace Go.Proofs
open Go Go.HL
structure A21 where
  what:Int
  a:Int
  b:Int
  proto:Int
  x:Int
  t:Int
  n:Int
def a21 (y:A21):List Value:=[.int .u8 y.what,.int .u8 y.a,.int .u8 y.b,.int .i64 y.proto,.int .i64 y.x,.int .i64 y.t,.int .i64 y.n]
theorem a21_len (y:A21):(a21 y).length=7:=rfl
def okA21 (y:A21):Prop:=okB y.a∧okB y.b∧okZ y.proto∧okZ y.x∧okZ y.t∧okZ y.n
theorem a21_cells (y:A21):cellsN (a21 y) 0 7=some (a21 y):=rfl
theorem a21_0 (y:A21):(a21 y)[0]?=some (.int .u8 y.what):=rfl
theorem a21_1 (y:A21):(a21 y)[1]?=some (.int .u8 y.a):=rfl
theorem a21_2 (y:A21):(a21 y)[2]?=some (.int .u8 y.b):=rfl
theorem a21_3 (y:A21):(a21 y)[3]?=some (.int .i64 y.proto):=rfl
theorem a21_4 (y:A21):(a21 y)[4]?=some (.int .i64 y.x):=rfl
theorem a21_5 (y:A21):(a21 y)[5]?=some (.int .i64 y.t):=rfl
theorem a21_6 (y:A21):(a21 y)[6]?=some (.int .i64 y.n):=rfl
theorem dec108:∀ (D:Nat) (cs:List Value),wellS Tryz.prog D 51 cs=true→∃ a:A21,okA21 a∧cs=a21 a:=by
  intro D cs h
  cases D with
  | zero=>cases h
  | succ D=>
    obtain ⟨hl,hf⟩:=wellS_struct (fs0:=[(5,0),(5,1),(5,2),(3,3),(3,4),(3,5),(3,6)]) (by kernel_rfl) (by simp) h
    rw [show Tryz.prog.cellsOf 51=7 by kernel_rfl] at hl
    have f0:=hf (5,0) (by simp)
    have f1:=hf (5,1) (by simp)
    have f2:=hf (5,2) (by simp)
    have f3:=hf (3,3) (by simp)
    have f4:=hf (3,4) (by simp)
    have f5:=hf (3,5) (by simp)
    have f6:=hf (3,6) (by simp)
    simp only [show Tryz.prog.cellsOf 5=1 by kernel_rfl,show Tryz.prog.cellsOf 3=1 by kernel_rfl] at f0 f1 f2 f3 f4 f5 f6
    obtain ⟨n0,h0,e0⟩:=dec5 f0
    obtain ⟨n1,h1,e1⟩:=dec5 f1
    obtain ⟨n2,h2,e2⟩:=dec5 f2
    obtain ⟨n3,h3,e3⟩:=dec3 f3
    obtain ⟨n4,h4,e4⟩:=dec3 f4
    obtain ⟨n5,h5,e5⟩:=dec3 f5
    obtain ⟨n6,h6,e6⟩:=dec3 f6
    match cs,hl with
    | [c0,c1,c2,c3,c4,c5,c6],_=>
      simp only [List.drop_zero,List.drop_succ_cons,List.take_succ_cons,List.take_zero,List.cons.injEq,and_true] at e0 e1 e2 e3 e4 e5 e6
      subst e0; subst e1; subst e2; subst e3; subst e4; subst e5; subst e6
      exact ⟨⟨n0,n1,n2,n3,n4,n5,n6⟩,⟨h1,h2,h3,h4,h5,h6⟩,rfl⟩
section
variable {tb:Obj} {hp0 hp:HP} {t:Nat} {l:List Q} {low high:Int} {mx last n:Nat} {L:List Bd} {K:Value→HP→Prop}
theorem row_bd {hp:HP} {a:Option Addr} {c:Nat} {L:List Bd} {i:Nat} (h:Row hp a L.length c 97 26 (L.flatMap bdc)) (hi:i<L.length) :
    ∃ b o,a=some ⟨b,o,none⟩∧hp.cellN b (o+i*26) 26=some (bdc L[i])∧∀ j v,(bdc L[i])[j]?=some v→hp.cell b (o+i*26+j)=some v:=by
  obtain ⟨b,o,e,hc⟩:=h.shows.get bdc_len rfl hi
  exact ⟨b,o,e,hc,fun t v hv=>HP.cell_cellN hc hv⟩
end
end Go.Proofs
set_option linter.unusedVariables false
set_option linter.unusedSimpArgs false
set_option maxRecDepth 20000
namespace Go.Proofs
open Go Go.HL
section
variable {z hq hq' hp:HP} {r mx last n:Nat} {l:List Q} {low high:Int} {L:List Bd} {H:Nat→List ((Q × Int) × Bool)} {x:RB} {K:Value→HP→Prop}
theorem RefB.sub (h:RefB z hq r l low high mx last L H x) (hs:HSub hq hp):RefB z hp r l low high mx last L H x where
  tab:=hs.cells h.tab
  lst:=h.lst.sub hs
  pls:=h.pls.sub hs
  pol k hk:=(h.pol k hk).sub hs
  inj:=h.inj
  zr:=h.zr
  zl:=h.zl
set_option maxHeartbeats 2000000 in
theorem C15 {a:Option Addr} {c:Nat} (hs:Shows hq a l.length 4 (l.flatMap v4))
    (hK:∀ hq' r x,RefW hq hq' r l low high mx 0 [] x→K (ptr r 0) hq'):CF Tryz.prog 15 [.slice a l.length c,.int .i64 low,.int .i64 high,.int .i64 (mx:Nat)] hq K:=by
  refine F15_ok a l.length c low high (mx:Nat) hq K ?_
  unfold F15 F15_j2
  intro r hr
  have P0:Parts (hq.set r (.cells 113 [.int .i64 (mx:Nat),.int .i64 0,.slice none 0 0,.slice none 0 0] 0)) (pu (fun _ _=>.none) 0 (hq.set r (.cells 113 [.int .i64 (mx:Nat),.int .i64 0,.slice none 0 0,.slice none 0 0] 0))):=Parts.one (HSub.refl _)
  refine LoopP.by (J:=fun k (y:Int) hp=>∃ (i:Nat) (q:Nat→Nat) (ps:Nat→HP) (pa:Option Addr) (pc:Nat),y=i∧i+k=3∧Parts hp ps ∧
      ps 0 r=.cells 113 [.int .i64 (mx:Nat),.int .i64 0,.slice none 0 0,.slice pa i pc] 0∧(∀ j,j<i→ps 0 (q j)=.cells 117 [.slice a l.length c,.int .i64 low,.int .i64 high,.slice none 0 0] 0) ∧
      (∀ i' j,i'<i→j<i→q i'=q j→i'=j)∧Row (ps 1) pa i pc 114 1 ((List.range i).map fun j=>ptr (q j) 0)∧HSub hq (ps 0)∧∀ j,j<i→hq (q j)=.none) ?_ (n:=3)
    ⟨0,fun _=>0,_,none,0,rfl,rfl,P0,by rw [pu_eq,HP.set_eq],fun j hj=>by omega,fun i' j hi'=>by omega,.inl ⟨rfl,rfl,rfl,rfl⟩,by rw [pu_eq]; exact HSub.set_fresh _ _ hr,fun j hj=>by omega⟩
  rintro I k y hp ⟨i,q,ps,pa,pc,rfl,hik,P,ht,hqs,hinj,hrow,hb,hqn⟩ hI
  unfold F15_l3
  by_cases hi:i<3
  · rw [decide_eq_true (by omega:(i:Int)<3),ite2_true]
    have hc3:hp.cell r 3=some (.slice pa i pc):=HP.cell_of ((P.at 0 rfl).cells ht)
    simp only [ptrN_some,Nat.zero_add,hc3,ldV_some,slcV_slice]
    intro b8 hb8
    have P1:=P.new 0 hb8 (.cells 117 [.slice a l.length c,.int .i64 low,.int .i64 high,.slice none 0 0] 0)
    intro b9 hb9
    have P2:=P1.weak (HSub.set_fresh _ (.cells 114 [ptr b8 0] 0) hb9)
    have h80:ps 0 b8=.none:=by
      rcases P.sub 0 b8 with e | e
      · exact e
      · rw [e,hb8]
    have hqb8:hq b8=.none:=by
      rcases hb b8 with e | e
      · exact e
      · rw [e,h80]
    refine opS_appP (e:=114) (size:=1) (bytes:=8) (by kernel_rfl) P2 1 (s:=pa) (n:=i) (c:=pc) (by rw [pu_ne _ _ (by omega)]; exact hrow)
      (ys:=[ptr b8 0]) (.inr ⟨b9,0,rfl,by rw [HP.cellN_of (HP.set_eq ..)]; exact cellsN_all rfl⟩) rfl (by simp) (by omega) (by omega) ?_
    intro a2 c2 hp2 rr hrr P3
    rw [slcV_slice]
    have hbr:r≠b8:=fun e=>by rw [← e,ht] at h80; cases h80
    have ht3:(pu (pu ps 0 ((ps 0).set b8 (.cells 117 [.slice a l.length c,.int .i64 low,.int .i64 high,.slice none 0 0] 0))) 1 rr) 0 r=.cells 113 [.int .i64 (mx:Nat),.int .i64 0,.slice none 0 0,.slice pa i pc] 0:=by
      rw [pu_ne _ _ (by omega),pu_eq,HP.set_ne _ _ hbr]; exact ht
    refine HP.st_at ((P3.at 0 rfl).cells ht3) (by simp) ?_
    have P4:=P3.put 0 (b:=r) (by rw [ht3]; intro e; cases e) (.cells 113 ([Value.int .i64 (mx:Nat),.int .i64 0,.slice none 0 0,.slice pa i pc].set 3 (.slice a2 (i+1) c2)) 0)
    rw [show IntKind.wrap .i64 ((i:Int)+1)=((i+1:Nat):Int) from wi (by omega) (by omega)]
    refine hI (k-1) _ _ (by omega) ⟨i+1,fun j=>if j=i then b8 else q j,_,a2,c2,rfl,by omega,P4,?_,?_,?_,?_,?_,?_⟩
    · rw [pu_eq,HP.set_eq]; rfl
    · intro j hj
      rw [pu_eq,pu_ne _ _ (by omega),pu_eq]
      by_cases e:j=i
      · simp only [e,if_true]
        rw [HP.set_ne _ _ hbr.symm,HP.set_eq]
      · simp only [e,if_false]
        have h1:=hqs j (by omega)
        rw [HP.set_ne _ _ (fun e'=>by rw [e',ht] at h1; cases h1),HP.set_ne _ _ (fun e'=>by rw [e',h80] at h1; cases h1)]
        exact h1
    · intro i' j hi' hj e
      have hne:∀ j,j<i→q j≠b8:=fun j hj e=>by
        have h1:=hqs j hj
        rw [e,h80] at h1; cases h1
      by_cases e1:i'=i
      · by_cases e2:j=i
        · omega
        · simp only [e1,e2,if_true,if_false] at e
          exact absurd e.symm (hne j (by omega))
      · by_cases e2:j=i
        · simp only [e1,e2,if_true,if_false] at e
          exact absurd e (hne i' (by omega))
        · simp only [e1,e2,if_false] at e
          exact hinj i' j (by omega) (by omega) e
    · rw [pu_ne _ _ (by omega),pu_eq,List.range_succ,List.map_append]
      have e:((List.range i).map fun j=>ptr (if j=i then b8 else q j) 0)=(List.range i).map fun j=>ptr (q j) 0:=List.map_congr_left fun j hj=>by
        have:=List.mem_range.1 hj
        rw [if_neg (by omega)]
      rw [e]
      simpa using hrr
    · rw [pu_eq,pu_ne _ _ (by omega),pu_eq]
      refine sub_set (HSub.trans hb (HSub.set_fresh _ _ h80)) hr
    · intro j hj
      by_cases e:j=i
      · simp only [e,if_true]; exact hqb8
      · simp only [e,if_false]; exact hqn j (by omega)
  · rw [decide_eq_false (by omega:¬ (i:Int)<3),ite2_false]
    have:i=3:=by omega
    subst this
    unfold F15_j1
    refine hK hp r ⟨none,0,pa,pc,q,a,l.length,c,fun _=>none,fun _=>0⟩ ?_
    have h0:=P.at 0 rfl
    exact { tab:=h0.cells ht
            lst:=.inl ⟨rfl,rfl,rfl,rfl⟩
            pls:=hrow.sub (P.at 1 rfl)
            pol:=fun k hk=>⟨hb.trans h0,hqn k hk,hs,rfl,h0.cells (hqs k hk),.inl ⟨rfl,rfl,rfl,rfl⟩⟩
            inj:=hinj
            zr:=hr
            zl:=fun b e=>by cases e }
end
end Go.Proofs
set_option linter.unusedVariables false
set_option linter.unusedSimpArgs false
set_option maxRecDepth 20000
namespace Go.Proofs
open Go Go.HL
section
variable {tb:Obj} {hp0 hp z:HP} {t r b0 mx la ld n:Nat} {l:List Q} {low high:Int} {L M:List Bd} {K:Value→HP→Prop}
def StB (tb:Obj) (hp0 z hp:HP) (t r b0:Nat) (l:List Q) (low high:Int) (mx la n:Nat) (L:List Bd) (ld:Nat) (M:List Bd):Prop:=
  ∃ (ps:Nat→HP) (x:RB),Parts hp ps∧ps 0=(hp0.set 0 .none).set b0 .none∧BdW tb (ps 1) t l low high mx la n L∧RefW z (ps 2) r l low high mx ld M x∧z b0=hp0 b0∧hp0 b0≠.none∧∀ i,3≤i→∀ b,ps i b=.none
theorem StB.of {ps:Nat→HP} {x:RB} (hP:Parts hp ps) (h0:ps 0=(hp0.set 0 .none).set b0 .none) (h1:BdW tb (ps 1) t l low high mx la n L) (h2:RefW z (ps 2) r l low high mx ld M x) (hz:z b0=hp0 b0) (hb:hp0 b0≠.none):StB tb hp0 z hp t r b0 l low high mx la n L ld M:=
  ⟨_,x,hP.cut 3,by simpa using h0,by simpa using h1,by simpa using h2,hz,hb,fun i hi b=>by simp only [show ¬ i<3 by omega,if_false]⟩
theorem StB.wt (h:StB tb hp0 z hp t r b0 l low high mx la n L ld M):BdW tb hp t l low high mx la n L:=by
  obtain ⟨ps,x,P,h0,h1,h2,_⟩:=h
  exact h1.sub (P.sub 1)
theorem StB.rf (h:StB tb hp0 z hp t r b0 l low high mx la n L ld M):∃ x,RefW z hp r l low high mx ld M x:=by
  obtain ⟨ps,x,P,h0,h1,h2,_⟩:=h
  exact ⟨x,RefB.sub h2 (P.sub 2)⟩
theorem StB.fin (h:StB tb hp0 z hp t r b0 l low high mx la n L ld M) (ht:TabR tb hp0):HSub hp0 hp:=by
  have hw:=h.wt.tab
  obtain ⟨x',hr⟩:=h.rf
  obtain ⟨ps,x,P,h0,h1,h2,hz,hb,_⟩:=h
  intro b
  by_cases e0:b=0
  · subst e0; right; rw [ht.1,hw.1]
  by_cases e1:b=b0
  · subst e1
    right
    rcases hr.base b with e | e
    · rw [hz] at e; exact absurd e hb
    · rw [← hz,e]
  · have:=P.sub 0 b
    rw [h0,HP.set_ne _ _ e1,HP.set_ne _ _ e0] at this
    exact this
theorem Y42 (h:StB tb hp0 z hp t r b0 l low high mx la n L ld M) {p:Int} {a:V6 × Int} (hp':okZ p) (ha:okT6 a) (hn:n<1000000)
    (hno:roomB l low high mx L p a≠0→∀ hp',StB tb hp0 z hp' t r b0 l low high mx la n L ld M→K (.tuple ⟨[.agg ⟨bdc bd0⟩,.int .i64 (roomB l low high mx L p a)]⟩) hp')
    (hyes:roomB l low high mx L p a=0→∀ u,tkB l low high L p a=some u→∀ hp',StB tb hp0 z hp' t r b0 l low high mx (la+1) (n+1) (L++[⟨((la+1:Nat):Int),p,a,u,false,0⟩]) ld M→K (.tuple ⟨[.agg ⟨bdc ⟨((la+1:Nat):Int),p,a,u,false,0⟩⟩,.int .i64 0]⟩) hp') :
    CF Tryz.prog 42 [ptr t 0,.int .i64 p,.agg ⟨t6 a⟩] hp K:=by
  obtain ⟨ps,x,P,h0,h1,h2,hz,hb,_⟩:=h
  exact N42 P 1 h1 hp' ha hn (fun e q hp' hq P'=>hno e hp' (StB.of P' (by rw [pu_ne _ _ (by omega)]; exact h0) (by rw [pu_eq]; exact hq) (by rw [pu_ne _ _ (by omega)]; exact h2) hz hb))
    fun e u hu q hp' hq P'=>hyes e u hu hp' (StB.of P' (by rw [pu_ne _ _ (by omega)]; exact h0) (by rw [pu_eq]; exact hq) (by rw [pu_ne _ _ (by omega)]; exact h2) hz hb)
theorem Y59 (h:StB tb hp0 z hp t r b0 l low high mx la n L ld M) {p:Int} {a:V6 × Int} (hp':okZ p) (ha:okT6 a)
    (hK:∀ hp',StB tb hp0 z hp' t r b0 l low high mx la n L ld M→K (.int .i64 (roomB l low high mx L p a)) hp'):CF Tryz.prog 59 [ptr t 0,.int .i64 p,.agg ⟨t6 a⟩] hp K:=by
  obtain ⟨ps,x,P,h0,h1,h2,hz,hb,_⟩:=h
  exact N59 P 1 h1 hp' ha fun q hp' hq P'=>hK hp' (StB.of P' (by rw [pu_ne _ _ (by omega)]; exact h0) (by rw [pu_eq]; exact hq) (by rw [pu_ne _ _ (by omega)]; exact h2) hz hb)
theorem Y50 (h:StB tb hp0 z hp t r b0 l low high mx la n L ld M) {p:Int} {a:V6 × Int} {u:Q × Int} (hp':okZ p) (ha:okT6 a) (hu:okT u) (hn:n<1000000)
    (hno:bindB l mx L p a u≠0→∀ hp',StB tb hp0 z hp' t r b0 l low high mx la n L ld M→K (.tuple ⟨[.agg ⟨bdc bd0⟩,.int .i64 (bindB l mx L p a u)]⟩) hp')
    (hyes:bindB l mx L p a u=0→∀ hp',StB tb hp0 z hp' t r b0 l low high mx (la+1) (n+1) (L++[⟨((la+1:Nat):Int),p,a,u,true,0⟩]) ld M→K (.tuple ⟨[.agg ⟨bdc ⟨((la+1:Nat):Int),p,a,u,true,0⟩⟩,.int .i64 0]⟩) hp') :
    CF Tryz.prog 50 [ptr t 0,.int .i64 p,.agg ⟨t6 a⟩,.agg ⟨t4 u⟩] hp K:=by
  obtain ⟨ps,x,P,h0,h1,h2,hz,hb,_⟩:=h
  exact N50 P 1 h1 hp' ha hu hn (fun e q hp' hq P'=>hno e hp' (StB.of P' (by rw [pu_ne _ _ (by omega)]; exact h0) (by rw [pu_eq]; exact hq) (by rw [pu_ne _ _ (by omega)]; exact h2) hz hb))
    fun e q hp' hq P'=>hyes e hp' (StB.of P' (by rw [pu_ne _ _ (by omega)]; exact h0) (by rw [pu_eq]; exact hq) (by rw [pu_ne _ _ (by omega)]; exact h2) hz hb)
theorem Y52 (h:StB tb hp0 z hp t r b0 l low high mx la n L ld M) {p:Int} {a:V6 × Int} (hp':okZ p) (ha:okT6 a)
    (hno:unbB L p a≠0→∀ hp',StB tb hp0 z hp' t r b0 l low high mx la n L ld M→K (.tuple ⟨[.agg ⟨bdc bd0⟩,.int .i64 (unbB L p a)]⟩) hp')
    (hyes:∀ b,find6 p a L=some b→unbB L p a=0→b.st=true→∀ hp',StB tb hp0 z hp' t r b0 l low high mx la n (L.filter fun y=>decide (y.id≠b.id)) ld M→K (.tuple ⟨[.agg ⟨bdc b⟩,.int .i64 0]⟩) hp') :
    CF Tryz.prog 52 [ptr t 0,.int .i64 p,.agg ⟨t6 a⟩] hp K:=by
  obtain ⟨ps,x,P,h0,h1,h2,hz,hb,_⟩:=h
  exact N52 P 1 h1 hp' ha (fun e q hp' hq P'=>hno e hp' (StB.of P' (by rw [pu_ne _ _ (by omega)]; exact h0) (by rw [pu_eq]; exact hq) (by rw [pu_ne _ _ (by omega)]; exact h2) hz hb))
    fun b hb' e hs q hp' hq P'=>hyes b hb' e hs hp' (StB.of P' (by rw [pu_ne _ _ (by omega)]; exact h0) (by rw [pu_eq]; exact hq) (by rw [pu_ne _ _ (by omega)]; exact h2) hz hb)
theorem Y54 (h:StB tb hp0 z hp t r b0 l low high mx la n L ld M) {k:Int} (hn:n<1000000)
    (hno:findI k L=none→∀ hp',StB tb hp0 z hp' t r b0 l low high mx la n L ld M→K (.int .i64 4) hp')
    (hyes:∀ b,findI k L=some b→∀ hp',StB tb hp0 z hp' t r b0 l low high mx la (n+1) (updB k (b.ses+1) L) ld M→K (.int .i64 0) hp'):CF Tryz.prog 54 [ptr t 0,.int .i64 k] hp K:=by
  obtain ⟨ps,x,P,h0,h1,h2,hz,hb,_⟩:=h
  exact N54 P 1 h1 hn (fun e q hp' hq P'=>hno e hp' (StB.of P' (by rw [pu_ne _ _ (by omega)]; exact h0) (by rw [pu_eq]; exact hq) (by rw [pu_ne _ _ (by omega)]; exact h2) hz hb))
    fun b hb' q hp' hq P'=>hyes b hb' hp' (StB.of P' (by rw [pu_ne _ _ (by omega)]; exact h0) (by rw [pu_eq]; exact hq) (by rw [pu_ne _ _ (by omega)]; exact h2) hz hb)
theorem Y57 (h:StB tb hp0 z hp t r b0 l low high mx la n L ld M) {k:Int}
    (hno:findI k L=none→∀ hp',StB tb hp0 z hp' t r b0 l low high mx la n L ld M→K (.tuple ⟨[.bool false,.int .i64 4]⟩) hp')
    (hz0:∀ b,findI k L=some b→b.ses=0→∀ hp',StB tb hp0 z hp' t r b0 l low high mx la n L ld M→K (.tuple ⟨[.bool false,.int .i64 11]⟩) hp')
    (hyes:∀ b,findI k L=some b→1≤b.ses→∀ hp',StB tb hp0 z hp' t r b0 l low high mx la n (dropB b L) ld M→K (.tuple ⟨[.bool (!(b.st||decide (1<b.ses))),.int .i64 0]⟩) hp'):CF Tryz.prog 57 [ptr t 0,.int .i64 k] hp K:=by
  obtain ⟨ps,x,P,h0,h1,h2,hz,hb,_⟩:=h
  exact N57 P 1 h1 (fun e q hp' hq P'=>hno e hp' (StB.of P' (by rw [pu_ne _ _ (by omega)]; exact h0) (by rw [pu_eq]; exact hq) (by rw [pu_ne _ _ (by omega)]; exact h2) hz hb))
    (fun b hb' e q hp' hq P'=>hz0 b hb' e hp' (StB.of P' (by rw [pu_ne _ _ (by omega)]; exact h0) (by rw [pu_eq]; exact hq) (by rw [pu_ne _ _ (by omega)]; exact h2) hz hb))
    fun b hb' e q hp' hq P'=>hyes b hb' e hp' (StB.of P' (by rw [pu_ne _ _ (by omega)]; exact h0) (by rw [pu_eq]; exact hq) (by rw [pu_ne _ _ (by omega)]; exact h2) hz hb)
theorem stepD {f:FuncId} {args:List Value} {D:Value→Nat→List Bd→Prop} (h:StB tb hp0 z hp t r b0 l low high mx la n L ld M)
    (hc:∀ hq x,RefW z hq r l low high mx ld M x→CF Tryz.prog f args hq fun v hq'=>∃ ld' M' x',RefW z hq' r l low high mx ld' M' x'∧D v ld' M')
    (hK:∀ v ld' M' hp',D v ld' M'→StB tb hp0 z hp' t r b0 l low high mx la n L ld' M'→K v hp'):CF Tryz.prog f args hp K:=by
  obtain ⟨ps,x,P,h0,h1,h2,hz,hb,_⟩:=h
  refine CF.part P 2 (hc _ x h2) ?_
  rintro v q hp' ⟨ld',M',x',hq,hD⟩ P'
  exact hK v ld' M' hp' hD (StB.of P' (by rw [pu_ne _ _ (by omega)]; exact h0) (by rw [pu_ne _ _ (by omega)]; exact h1) (by rw [pu_eq]; exact hq) hz hb)
theorem C49 {y:Bd} {hp:HP} (hK:K (.bool true) hp):CF Tryz.prog 49 [.agg ⟨bdc y⟩,.agg ⟨bdc y⟩] hp K:=by
  refine F49_ok (bdc y) (bdc y) hp K ?_
  unfold F49
  simp only [bdc_id,bdc_proto,bdc_inn,bdc_out,bdc_st,bdc_ses,ldV_some,ldL_some,intV_int,boolV_bool,show ∀ z:Int,(z==z)=true from fun z=>by simp,show ∀ z:Bool,(z==z)=true from fun z=>by simp,ite2_true]
  refine eqT6 ?_
  rw [decide_eq_true rfl,ite2_true]
  refine eq75 ?_
  rw [decide_eq_true rfl,ite2_true]
  exact hK
def idA (A:A21) (M:List Bd):Int:=
  if A.what≥5 then A.n else if h:M.length=0 then A.n else
    let k:=Int.tmod A.n (M.length:Nat)
    let k:=if k<0 then k+(M.length:Nat) else k
    if hk:k.toNat<M.length then M[k.toNat].id else 0
theorem C55 {A:A21} {a:Option Addr} {c:Nat} (h:BL hp r mx ld a c M) (hsm:M.length≤60000) (hA:okA21 A) (hK:K (.int .i64 (idA A M)) hp):CF Tryz.prog 55 [ptr r 0,.agg ⟨a21 A⟩] hp K:=by
  refine F55_ok _ (a21 A) hp K ?_
  unfold F55
  unfold idA at hK
  have hc2:=h.2.2.1
  simp only [a21_0,ldV_some,intV_int,ptrN_some,Nat.zero_add,hc2,slcV_slice]
  by_cases h5:A.what≥5
  · rw [decide_eq_true h5,ite2_true]
    rw [if_pos h5] at hK
    unfold F55_j1
    rw [ite2_true,a21_6,ldV_some,intV_int]
    exact hK
  rw [decide_eq_false h5,ite2_false]
  rw [if_neg h5] at hK
  unfold F55_j1
  by_cases h0:M.length=0
  · rw [show (((M.length:Nat):Int)==0)=true by simp [h0],ite2_true,a21_6,ldV_some,intV_int]
    rw [dif_pos h0] at hK
    exact hK
  rw [show (((M.length:Nat):Int)==0)=false by simpa using h0,ite2_false]
  rw [dif_neg h0] at hK
  simp only [a21_6,ldV_some,intV_int,ptrN_some,Nat.zero_add,hc2,slcV_slice]
  refine ⟨by omega,?_⟩
  have seven:∀ k:Int,0≤k→∀ hk:k<(M.length:Nat),K (.int .i64 (M[k.toNat]'(by omega)).id) hp→F55_j2 (some ⟨r,0,none⟩) k hp K:=by
    intro k k0 k1 hK
    obtain ⟨m,rfl⟩:∃ m:Nat,k=m:=⟨k.toNat,by omega⟩
    unfold F55_j2
    obtain ⟨b,o,rfl,_,gd⟩:=h.at (i:=m) (by omega)
    have gd0:=gd 0 _ (bdc_id _)
    simp only [ptrN_some,Nat.zero_add,hc2,ldV_some,slcV_slice]
    refine ⟨k0,k1,?_⟩
    rw [Int.toNat_natCast,gd0,ldV_some,intV_int]
    exact hK
  have t1:=Int.tmod_lt_of_pos A.n (show (0:Int)<(M.length:Nat) by omega)
  have t2:-((M.length:Nat):Int)<Int.tmod A.n (M.length:Nat):=by
    have:=Int.lt_tmod_of_pos A.n (show (0:Int)<(M.length:Nat) by omega)
    omega
  simp only at hK
  by_cases hk:Int.tmod A.n (M.length:Nat)<0
  · rw [decide_eq_true hk,ite2_true,w64 (by omega) (by omega)]
    rw [if_pos hk,dif_pos (by omega)] at hK
    exact seven _ (by omega) (by omega) hK
  · rw [decide_eq_false hk,ite2_false]
    rw [if_neg hk,dif_pos (by omega)] at hK
    exact seven _ (by omega) (by omega) hK
end
end Go.Proofs
set_option linter.unusedVariables false
set_option maxRecDepth 20000
namespace Go.Proofs
open Go Go.HL
def F16_j2 (x8 x10:Int) (k7 k9:List Value) (hp:HP) (K:Kh):Prop:=
  (ldL (cellsN k7 0 26) fun l_3=>(ldL (cellsN k9 0 26) fun l_4=>(CF Tryz.prog 49 [(Value.agg ⟨l_3⟩),(Value.agg ⟨l_4⟩)] hp fun u_5 h_6=>(boolV u_5 fun q_7=>(ite2 q_7 (K (Value.bool ((x8:Int)==x10)) h_6) (K (Value.bool false) h_6))))))
def F16_j1 (x1:OA) (x8:Int) (k5 k7:List Value) (hp:HP) (K:Kh):Prop:=
  ((ldV (k5)[3]? fun v_8=>(intV v_8 .i64 fun i_9=>(ldV (k5)[1]? fun v_10=>(intV v_10 .u8 fun i_11=>(ldV (k5)[4]? fun v_12=>(intV v_12 .i64 fun i_13=>(CF Tryz.prog 43 [(Value.int .u8 i_11),(Value.int .i64 i_13)] hp fun u_14 h_15=>(aggV u_14 fun l_16=>(CF Tryz.prog 48 [(Value.pointer x1),(Value.int .i64 i_9),(Value.agg ⟨l_16⟩),(Value.bool false)] h_15 fun u_17 h_18=>(tup2V u_17 fun u_19 u_20=>(aggV u_19 fun l_21=>(intV u_20 .i64 fun i_22=>(if List.length l_21=26 then (if List.all l_21 one=true then (if 0+List.length l_21≤List.length zB then (F16_j2 x8 i_22 k7 (splice zB 0 l_21) h_18  K) else False) else False) else False)))))))))))))∧(ldV (k5)[3]? fun v_23=>(intV v_23 .i64 fun i_24=>(ldV (k5)[1]? fun v_25=>(intV v_25 .u8 fun i_26=>(ldV (k5)[4]? fun v_27=>(intV v_27 .i64 fun i_28=>(CF Tryz.prog 43 [(Value.int .u8 i_26),(Value.int .i64 i_28)] hp fun u_29 h_30=>(aggV u_29 fun l_31=>(CF Tryz.prog 48 [(Value.pointer x1),(Value.int .i64 i_24),(Value.agg ⟨l_31⟩),(Value.bool false)] h_30 fun u_32 h_33=>(tup2V u_32 fun u_34 u_35=>(aggV u_34 fun l_36=>(intV u_35 .i64 fun i_37=>(if List.length l_36=26 then (if List.all l_36 one=true then (if 0+List.length l_36≤List.length zB then (F16_j2 x8 i_37 k7 (splice zB 0 l_36) h_33  K) else False) else False) else False)))))))))))))∧(ldV (k5)[3]? fun v_38=>(intV v_38 .i64 fun i_39=>(ldV (k5)[4]? fun v_40=>(intV v_40 .i64 fun i_41=>(ldV (k5)[1]? fun v_42=>(intV v_42 .u8 fun i_43=>(CF Tryz.prog 43 [(Value.int .u8 i_43),(Value.int .i64 i_41)] hp fun u_44 h_45=>(aggV u_44 fun l_46=>(CF Tryz.prog 48 [(Value.pointer x1),(Value.int .i64 i_39),(Value.agg ⟨l_46⟩),(Value.bool false)] h_45 fun u_47 h_48=>(tup2V u_47 fun u_49 u_50=>(aggV u_49 fun l_51=>(intV u_50 .i64 fun i_52=>(if List.length l_51=26 then (if List.all l_51 one=true then (if 0+List.length l_51≤List.length zB then (F16_j2 x8 i_52 k7 (splice zB 0 l_51) h_48  K) else False) else False) else False)))))))))))))∧(ldV (k5)[3]? fun v_53=>(intV v_53 .i64 fun i_54=>(ldV (k5)[1]? fun v_55=>(intV v_55 .u8 fun i_56=>(ldV (k5)[4]? fun v_57=>(intV v_57 .i64 fun i_58=>(CF Tryz.prog 43 [(Value.int .u8 i_56),(Value.int .i64 i_58)] hp fun u_59 h_60=>(aggV u_59 fun l_61=>(CF Tryz.prog 48 [(Value.pointer x1),(Value.int .i64 i_54),(Value.agg ⟨l_61⟩),(Value.bool false)] h_60 fun u_62 h_63=>(tup2V u_62 fun u_64 u_65=>(aggV u_64 fun l_66=>(intV u_65 .i64 fun i_67=>(if List.length l_66=26 then (if List.all l_66 one=true then (if 0+List.length l_66≤List.length zB then (F16_j2 x8 i_67 k7 (splice zB 0 l_66) h_63  K) else False) else False) else False)))))))))))))∧(ldV (k5)[1]? fun v_68=>(intV v_68 .u8 fun i_69=>(ldV (k5)[4]? fun v_70=>(intV v_70 .i64 fun i_71=>(CF Tryz.prog 43 [(Value.int .u8 i_69),(Value.int .i64 i_71)] hp fun u_72 h_73=>(aggV u_72 fun l_74=>(ldV (k5)[3]? fun v_75=>(intV v_75 .i64 fun i_76=>(CF Tryz.prog 48 [(Value.pointer x1),(Value.int .i64 i_76),(Value.agg ⟨l_74⟩),(Value.bool false)] h_73 fun u_77 h_78=>(tup2V u_77 fun u_79 u_80=>(aggV u_79 fun l_81=>(intV u_80 .i64 fun i_82=>(if List.length l_81=26 then (if List.all l_81 one=true then (if 0+List.length l_81≤List.length zB then (F16_j2 x8 i_82 k7 (splice zB 0 l_81) h_78  K) else False) else False) else False)))))))))))))∧(ldV (k5)[1]? fun v_83=>(intV v_83 .u8 fun i_84=>(ldV (k5)[3]? fun v_85=>(intV v_85 .i64 fun i_86=>(ldV (k5)[4]? fun v_87=>(intV v_87 .i64 fun i_88=>(CF Tryz.prog 43 [(Value.int .u8 i_84),(Value.int .i64 i_88)] hp fun u_89 h_90=>(aggV u_89 fun l_91=>(CF Tryz.prog 48 [(Value.pointer x1),(Value.int .i64 i_86),(Value.agg ⟨l_91⟩),(Value.bool false)] h_90 fun u_92 h_93=>(tup2V u_92 fun u_94 u_95=>(aggV u_94 fun l_96=>(intV u_95 .i64 fun i_97=>(if List.length l_96=26 then (if List.all l_96 one=true then (if 0+List.length l_96≤List.length zB then (F16_j2 x8 i_97 k7 (splice zB 0 l_96) h_93  K) else False) else False) else False)))))))))))))∧(ldV (k5)[4]? fun v_98=>(intV v_98 .i64 fun i_99=>(ldV (k5)[3]? fun v_100=>(intV v_100 .i64 fun i_101=>(ldV (k5)[1]? fun v_102=>(intV v_102 .u8 fun i_103=>(CF Tryz.prog 43 [(Value.int .u8 i_103),(Value.int .i64 i_99)] hp fun u_104 h_105=>(aggV u_104 fun l_106=>(CF Tryz.prog 48 [(Value.pointer x1),(Value.int .i64 i_101),(Value.agg ⟨l_106⟩),(Value.bool false)] h_105 fun u_107 h_108=>(tup2V u_107 fun u_109 u_110=>(aggV u_109 fun l_111=>(intV u_110 .i64 fun i_112=>(if List.length l_111=26 then (if List.all l_111 one=true then (if 0+List.length l_111≤List.length zB then (F16_j2 x8 i_112 k7 (splice zB 0 l_111) h_108  K) else False) else False) else False)))))))))))))∧(ldV (k5)[3]? fun v_113=>(intV v_113 .i64 fun i_114=>(ldV (k5)[1]? fun v_115=>(intV v_115 .u8 fun i_116=>(ldV (k5)[4]? fun v_117=>(intV v_117 .i64 fun i_118=>(CF Tryz.prog 43 [(Value.int .u8 i_116),(Value.int .i64 i_118)] hp fun u_119 h_120=>(aggV u_119 fun l_121=>(CF Tryz.prog 48 [(Value.pointer x1),(Value.int .i64 i_114),(Value.agg ⟨l_121⟩),(Value.bool false)] h_120 fun u_122 h_123=>(tup2V u_122 fun u_124 u_125=>(aggV u_124 fun l_126=>(intV u_125 .i64 fun i_127=>(if List.length l_126=26 then (if List.all l_126 one=true then (if 0+List.length l_126≤List.length zB then (F16_j2 x8 i_127 k7 (splice zB 0 l_126) h_123  K) else False) else False) else False))))))))))))))
def F16_j4 (x12 x14:Int) (k11 k13:List Value) (hp:HP) (K:Kh):Prop:=
  (ldL (cellsN k11 0 26) fun l_248=>(ldL (cellsN k13 0 26) fun l_249=>(CF Tryz.prog 49 [(Value.agg ⟨l_248⟩),(Value.agg ⟨l_249⟩)] hp fun u_250 h_251=>(boolV u_250 fun q_252=>(ite2 q_252 (K (Value.bool ((x12:Int)==x14)) h_251) (K (Value.bool false) h_251))))))
def F16_j3 (x1:OA) (x12:Int) (k5 k11:List Value) (hp:HP) (K:Kh):Prop:=
  ((ldV (k5)[3]? fun v_253=>(intV v_253 .i64 fun i_254=>(ldV (k5)[1]? fun v_255=>(intV v_255 .u8 fun i_256=>(ldV (k5)[4]? fun v_257=>(intV v_257 .i64 fun i_258=>(CF Tryz.prog 43 [(Value.int .u8 i_256),(Value.int .i64 i_258)] hp fun u_259 h_260=>(aggV u_259 fun l_261=>(ldV (k5)[2]? fun v_262=>(intV v_262 .u8 fun i_263=>(ldV (k5)[5]? fun v_264=>(intV v_264 .i64 fun i_265=>(CF Tryz.prog 45 [(Value.int .u8 i_263),(Value.int .i64 i_265)] h_260 fun u_266 h_267=>(aggV u_266 fun l_268=>(CF Tryz.prog 51 [(Value.pointer x1),(Value.int .i64 i_254),(Value.agg ⟨l_261⟩),(Value.agg ⟨l_268⟩)] h_267 fun u_269 h_270=>(tup2V u_269 fun u_271 u_272=>(aggV u_271 fun l_273=>(intV u_272 .i64 fun i_274=>(if List.length l_273=26 then (if List.all l_273 one=true then (if 0+List.length l_273≤List.length zB then (F16_j4 x12 i_274 k11 (splice zB 0 l_273) h_270  K) else False) else False) else False)))))))))))))))))))∧(ldV (k5)[3]? fun v_275=>(intV v_275 .i64 fun i_276=>(ldV (k5)[1]? fun v_277=>(intV v_277 .u8 fun i_278=>(ldV (k5)[4]? fun v_279=>(intV v_279 .i64 fun i_280=>(CF Tryz.prog 43 [(Value.int .u8 i_278),(Value.int .i64 i_280)] hp fun u_281 h_282=>(aggV u_281 fun l_283=>(ldV (k5)[2]? fun v_284=>(intV v_284 .u8 fun i_285=>(ldV (k5)[5]? fun v_286=>(intV v_286 .i64 fun i_287=>(CF Tryz.prog 45 [(Value.int .u8 i_285),(Value.int .i64 i_287)] h_282 fun u_288 h_289=>(aggV u_288 fun l_290=>(CF Tryz.prog 51 [(Value.pointer x1),(Value.int .i64 i_276),(Value.agg ⟨l_283⟩),(Value.agg ⟨l_290⟩)] h_289 fun u_291 h_292=>(tup2V u_291 fun u_293 u_294=>(aggV u_293 fun l_295=>(intV u_294 .i64 fun i_296=>(if List.length l_295=26 then (if List.all l_295 one=true then (if 0+List.length l_295≤List.length zB then (F16_j4 x12 i_296 k11 (splice zB 0 l_295) h_292  K) else False) else False) else False)))))))))))))))))))∧(ldV (k5)[3]? fun v_297=>(intV v_297 .i64 fun i_298=>(ldV (k5)[1]? fun v_299=>(intV v_299 .u8 fun i_300=>(ldV (k5)[4]? fun v_301=>(intV v_301 .i64 fun i_302=>(CF Tryz.prog 43 [(Value.int .u8 i_300),(Value.int .i64 i_302)] hp fun u_303 h_304=>(aggV u_303 fun l_305=>(ldV (k5)[5]? fun v_306=>(intV v_306 .i64 fun i_307=>(ldV (k5)[2]? fun v_308=>(intV v_308 .u8 fun i_309=>(CF Tryz.prog 45 [(Value.int .u8 i_309),(Value.int .i64 i_307)] h_304 fun u_310 h_311=>(aggV u_310 fun l_312=>(CF Tryz.prog 51 [(Value.pointer x1),(Value.int .i64 i_298),(Value.agg ⟨l_305⟩),(Value.agg ⟨l_312⟩)] h_311 fun u_313 h_314=>(tup2V u_313 fun u_315 u_316=>(aggV u_315 fun l_317=>(intV u_316 .i64 fun i_318=>(if List.length l_317=26 then (if List.all l_317 one=true then (if 0+List.length l_317≤List.length zB then (F16_j4 x12 i_318 k11 (splice zB 0 l_317) h_314  K) else False) else False) else False)))))))))))))))))))∧(ldV (k5)[3]? fun v_319=>(intV v_319 .i64 fun i_320=>(ldV (k5)[1]? fun v_321=>(intV v_321 .u8 fun i_322=>(ldV (k5)[4]? fun v_323=>(intV v_323 .i64 fun i_324=>(CF Tryz.prog 43 [(Value.int .u8 i_322),(Value.int .i64 i_324)] hp fun u_325 h_326=>(aggV u_325 fun l_327=>(ldV (k5)[2]? fun v_328=>(intV v_328 .u8 fun i_329=>(ldV (k5)[5]? fun v_330=>(intV v_330 .i64 fun i_331=>(CF Tryz.prog 45 [(Value.int .u8 i_329),(Value.int .i64 i_331)] h_326 fun u_332 h_333=>(aggV u_332 fun l_334=>(CF Tryz.prog 51 [(Value.pointer x1),(Value.int .i64 i_320),(Value.agg ⟨l_327⟩),(Value.agg ⟨l_334⟩)] h_333 fun u_335 h_336=>(tup2V u_335 fun u_337 u_338=>(aggV u_337 fun l_339=>(intV u_338 .i64 fun i_340=>(if List.length l_339=26 then (if List.all l_339 one=true then (if 0+List.length l_339≤List.length zB then (F16_j4 x12 i_340 k11 (splice zB 0 l_339) h_336  K) else False) else False) else False)))))))))))))))))))∧(ldV (k5)[3]? fun v_341=>(intV v_341 .i64 fun i_342=>(ldV (k5)[1]? fun v_343=>(intV v_343 .u8 fun i_344=>(ldV (k5)[2]? fun v_345=>(intV v_345 .u8 fun i_346=>(ldV (k5)[5]? fun v_347=>(intV v_347 .i64 fun i_348=>(ldV (k5)[4]? fun v_349=>(intV v_349 .i64 fun i_350=>(CF Tryz.prog 43 [(Value.int .u8 i_344),(Value.int .i64 i_350)] hp fun u_351 h_352=>(aggV u_351 fun l_353=>(CF Tryz.prog 45 [(Value.int .u8 i_346),(Value.int .i64 i_348)] h_352 fun u_354 h_355=>(aggV u_354 fun l_356=>(CF Tryz.prog 51 [(Value.pointer x1),(Value.int .i64 i_342),(Value.agg ⟨l_353⟩),(Value.agg ⟨l_356⟩)] h_355 fun u_357 h_358=>(tup2V u_357 fun u_359 u_360=>(aggV u_359 fun l_361=>(intV u_360 .i64 fun i_362=>(if List.length l_361=26 then (if List.all l_361 one=true then (if 0+List.length l_361≤List.length zB then (F16_j4 x12 i_362 k11 (splice zB 0 l_361) h_358  K) else False) else False) else False)))))))))))))))))))∧(ldV (k5)[3]? fun v_363=>(intV v_363 .i64 fun i_364=>(ldV (k5)[1]? fun v_365=>(intV v_365 .u8 fun i_366=>(ldV (k5)[2]? fun v_367=>(intV v_367 .u8 fun i_368=>(ldV (k5)[4]? fun v_369=>(intV v_369 .i64 fun i_370=>(CF Tryz.prog 43 [(Value.int .u8 i_366),(Value.int .i64 i_370)] hp fun u_371 h_372=>(aggV u_371 fun l_373=>(ldV (k5)[5]? fun v_374=>(intV v_374 .i64 fun i_375=>(CF Tryz.prog 45 [(Value.int .u8 i_368),(Value.int .i64 i_375)] h_372 fun u_376 h_377=>(aggV u_376 fun l_378=>(CF Tryz.prog 51 [(Value.pointer x1),(Value.int .i64 i_364),(Value.agg ⟨l_373⟩),(Value.agg ⟨l_378⟩)] h_377 fun u_379 h_380=>(tup2V u_379 fun u_381 u_382=>(aggV u_381 fun l_383=>(intV u_382 .i64 fun i_384=>(if List.length l_383=26 then (if List.all l_383 one=true then (if 0+List.length l_383≤List.length zB then (F16_j4 x12 i_384 k11 (splice zB 0 l_383) h_380  K) else False) else False) else False)))))))))))))))))))∧(ldV (k5)[3]? fun v_385=>(intV v_385 .i64 fun i_386=>(ldV (k5)[1]? fun v_387=>(intV v_387 .u8 fun i_388=>(ldV (k5)[5]? fun v_389=>(intV v_389 .i64 fun i_390=>(ldV (k5)[4]? fun v_391=>(intV v_391 .i64 fun i_392=>(CF Tryz.prog 43 [(Value.int .u8 i_388),(Value.int .i64 i_392)] hp fun u_393 h_394=>(aggV u_393 fun l_395=>(ldV (k5)[2]? fun v_396=>(intV v_396 .u8 fun i_397=>(CF Tryz.prog 45 [(Value.int .u8 i_397),(Value.int .i64 i_390)] h_394 fun u_398 h_399=>(aggV u_398 fun l_400=>(CF Tryz.prog 51 [(Value.pointer x1),(Value.int .i64 i_386),(Value.agg ⟨l_395⟩),(Value.agg ⟨l_400⟩)] h_399 fun u_401 h_402=>(tup2V u_401 fun u_403 u_404=>(aggV u_403 fun l_405=>(intV u_404 .i64 fun i_406=>(if List.length l_405=26 then (if List.all l_405 one=true then (if 0+List.length l_405≤List.length zB then (F16_j4 x12 i_406 k11 (splice zB 0 l_405) h_402  K) else False) else False) else False)))))))))))))))))))∧(ldV (k5)[3]? fun v_407=>(intV v_407 .i64 fun i_408=>(ldV (k5)[1]? fun v_409=>(intV v_409 .u8 fun i_410=>(ldV (k5)[4]? fun v_411=>(intV v_411 .i64 fun i_412=>(CF Tryz.prog 43 [(Value.int .u8 i_410),(Value.int .i64 i_412)] hp fun u_413 h_414=>(aggV u_413 fun l_415=>(ldV (k5)[2]? fun v_416=>(intV v_416 .u8 fun i_417=>(ldV (k5)[5]? fun v_418=>(intV v_418 .i64 fun i_419=>(CF Tryz.prog 45 [(Value.int .u8 i_417),(Value.int .i64 i_419)] h_414 fun u_420 h_421=>(aggV u_420 fun l_422=>(CF Tryz.prog 51 [(Value.pointer x1),(Value.int .i64 i_408),(Value.agg ⟨l_415⟩),(Value.agg ⟨l_422⟩)] h_421 fun u_423 h_424=>(tup2V u_423 fun u_425 u_426=>(aggV u_425 fun l_427=>(intV u_426 .i64 fun i_428=>(if List.length l_427=26 then (if List.all l_427 one=true then (if 0+List.length l_427≤List.length zB then (F16_j4 x12 i_428 k11 (splice zB 0 l_427) h_424  K) else False) else False) else False)))))))))))))))))))∧(ldV (k5)[3]? fun v_429=>(intV v_429 .i64 fun i_430=>(ldV (k5)[4]? fun v_431=>(intV v_431 .i64 fun i_432=>(ldV (k5)[2]? fun v_433=>(intV v_433 .u8 fun i_434=>(ldV (k5)[5]? fun v_435=>(intV v_435 .i64 fun i_436=>(ldV (k5)[1]? fun v_437=>(intV v_437 .u8 fun i_438=>(CF Tryz.prog 43 [(Value.int .u8 i_438),(Value.int .i64 i_432)] hp fun u_439 h_440=>(aggV u_439 fun l_441=>(CF Tryz.prog 45 [(Value.int .u8 i_434),(Value.int .i64 i_436)] h_440 fun u_442 h_443=>(aggV u_442 fun l_444=>(CF Tryz.prog 51 [(Value.pointer x1),(Value.int .i64 i_430),(Value.agg ⟨l_441⟩),(Value.agg ⟨l_444⟩)] h_443 fun u_445 h_446=>(tup2V u_445 fun u_447 u_448=>(aggV u_447 fun l_449=>(intV u_448 .i64 fun i_450=>(if List.length l_449=26 then (if List.all l_449 one=true then (if 0+List.length l_449≤List.length zB then (F16_j4 x12 i_450 k11 (splice zB 0 l_449) h_446  K) else False) else False) else False)))))))))))))))))))∧(ldV (k5)[3]? fun v_451=>(intV v_451 .i64 fun i_452=>(ldV (k5)[4]? fun v_453=>(intV v_453 .i64 fun i_454=>(ldV (k5)[2]? fun v_455=>(intV v_455 .u8 fun i_456=>(ldV (k5)[1]? fun v_457=>(intV v_457 .u8 fun i_458=>(CF Tryz.prog 43 [(Value.int .u8 i_458),(Value.int .i64 i_454)] hp fun u_459 h_460=>(aggV u_459 fun l_461=>(ldV (k5)[5]? fun v_462=>(intV v_462 .i64 fun i_463=>(CF Tryz.prog 45 [(Value.int .u8 i_456),(Value.int .i64 i_463)] h_460 fun u_464 h_465=>(aggV u_464 fun l_466=>(CF Tryz.prog 51 [(Value.pointer x1),(Value.int .i64 i_452),(Value.agg ⟨l_461⟩),(Value.agg ⟨l_466⟩)] h_465 fun u_467 h_468=>(tup2V u_467 fun u_469 u_470=>(aggV u_469 fun l_471=>(intV u_470 .i64 fun i_472=>(if List.length l_471=26 then (if List.all l_471 one=true then (if 0+List.length l_471≤List.length zB then (F16_j4 x12 i_472 k11 (splice zB 0 l_471) h_468  K) else False) else False) else False)))))))))))))))))))∧(ldV (k5)[3]? fun v_473=>(intV v_473 .i64 fun i_474=>(ldV (k5)[4]? fun v_475=>(intV v_475 .i64 fun i_476=>(ldV (k5)[5]? fun v_477=>(intV v_477 .i64 fun i_478=>(ldV (k5)[1]? fun v_479=>(intV v_479 .u8 fun i_480=>(CF Tryz.prog 43 [(Value.int .u8 i_480),(Value.int .i64 i_476)] hp fun u_481 h_482=>(aggV u_481 fun l_483=>(ldV (k5)[2]? fun v_484=>(intV v_484 .u8 fun i_485=>(CF Tryz.prog 45 [(Value.int .u8 i_485),(Value.int .i64 i_478)] h_482 fun u_486 h_487=>(aggV u_486 fun l_488=>(CF Tryz.prog 51 [(Value.pointer x1),(Value.int .i64 i_474),(Value.agg ⟨l_483⟩),(Value.agg ⟨l_488⟩)] h_487 fun u_489 h_490=>(tup2V u_489 fun u_491 u_492=>(aggV u_491 fun l_493=>(intV u_492 .i64 fun i_494=>(if List.length l_493=26 then (if List.all l_493 one=true then (if 0+List.length l_493≤List.length zB then (F16_j4 x12 i_494 k11 (splice zB 0 l_493) h_490  K) else False) else False) else False)))))))))))))))))))∧(ldV (k5)[3]? fun v_495=>(intV v_495 .i64 fun i_496=>(ldV (k5)[4]? fun v_497=>(intV v_497 .i64 fun i_498=>(ldV (k5)[1]? fun v_499=>(intV v_499 .u8 fun i_500=>(CF Tryz.prog 43 [(Value.int .u8 i_500),(Value.int .i64 i_498)] hp fun u_501 h_502=>(aggV u_501 fun l_503=>(ldV (k5)[2]? fun v_504=>(intV v_504 .u8 fun i_505=>(ldV (k5)[5]? fun v_506=>(intV v_506 .i64 fun i_507=>(CF Tryz.prog 45 [(Value.int .u8 i_505),(Value.int .i64 i_507)] h_502 fun u_508 h_509=>(aggV u_508 fun l_510=>(CF Tryz.prog 51 [(Value.pointer x1),(Value.int .i64 i_496),(Value.agg ⟨l_503⟩),(Value.agg ⟨l_510⟩)] h_509 fun u_511 h_512=>(tup2V u_511 fun u_513 u_514=>(aggV u_513 fun l_515=>(intV u_514 .i64 fun i_516=>(if List.length l_515=26 then (if List.all l_515 one=true then (if 0+List.length l_515≤List.length zB then (F16_j4 x12 i_516 k11 (splice zB 0 l_515) h_512  K) else False) else False) else False)))))))))))))))))))∧(ldV (k5)[3]? fun v_517=>(intV v_517 .i64 fun i_518=>(ldV (k5)[2]? fun v_519=>(intV v_519 .u8 fun i_520=>(ldV (k5)[5]? fun v_521=>(intV v_521 .i64 fun i_522=>(ldV (k5)[1]? fun v_523=>(intV v_523 .u8 fun i_524=>(ldV (k5)[4]? fun v_525=>(intV v_525 .i64 fun i_526=>(CF Tryz.prog 43 [(Value.int .u8 i_524),(Value.int .i64 i_526)] hp fun u_527 h_528=>(aggV u_527 fun l_529=>(CF Tryz.prog 45 [(Value.int .u8 i_520),(Value.int .i64 i_522)] h_528 fun u_530 h_531=>(aggV u_530 fun l_532=>(CF Tryz.prog 51 [(Value.pointer x1),(Value.int .i64 i_518),(Value.agg ⟨l_529⟩),(Value.agg ⟨l_532⟩)] h_531 fun u_533 h_534=>(tup2V u_533 fun u_535 u_536=>(aggV u_535 fun l_537=>(intV u_536 .i64 fun i_538=>(if List.length l_537=26 then (if List.all l_537 one=true then (if 0+List.length l_537≤List.length zB then (F16_j4 x12 i_538 k11 (splice zB 0 l_537) h_534  K) else False) else False) else False)))))))))))))))))))∧(ldV (k5)[3]? fun v_539=>(intV v_539 .i64 fun i_540=>(ldV (k5)[2]? fun v_541=>(intV v_541 .u8 fun i_542=>(ldV (k5)[1]? fun v_543=>(intV v_543 .u8 fun i_544=>(ldV (k5)[4]? fun v_545=>(intV v_545 .i64 fun i_546=>(CF Tryz.prog 43 [(Value.int .u8 i_544),(Value.int .i64 i_546)] hp fun u_547 h_548=>(aggV u_547 fun l_549=>(ldV (k5)[5]? fun v_550=>(intV v_550 .i64 fun i_551=>(CF Tryz.prog 45 [(Value.int .u8 i_542),(Value.int .i64 i_551)] h_548 fun u_552 h_553=>(aggV u_552 fun l_554=>(CF Tryz.prog 51 [(Value.pointer x1),(Value.int .i64 i_540),(Value.agg ⟨l_549⟩),(Value.agg ⟨l_554⟩)] h_553 fun u_555 h_556=>(tup2V u_555 fun u_557 u_558=>(aggV u_557 fun l_559=>(intV u_558 .i64 fun i_560=>(if List.length l_559=26 then (if List.all l_559 one=true then (if 0+List.length l_559≤List.length zB then (F16_j4 x12 i_560 k11 (splice zB 0 l_559) h_556  K) else False) else False) else False)))))))))))))))))))∧(ldV (k5)[3]? fun v_561=>(intV v_561 .i64 fun i_562=>(ldV (k5)[5]? fun v_563=>(intV v_563 .i64 fun i_564=>(ldV (k5)[1]? fun v_565=>(intV v_565 .u8 fun i_566=>(ldV (k5)[4]? fun v_567=>(intV v_567 .i64 fun i_568=>(CF Tryz.prog 43 [(Value.int .u8 i_566),(Value.int .i64 i_568)] hp fun u_569 h_570=>(aggV u_569 fun l_571=>(ldV (k5)[2]? fun v_572=>(intV v_572 .u8 fun i_573=>(CF Tryz.prog 45 [(Value.int .u8 i_573),(Value.int .i64 i_564)] h_570 fun u_574 h_575=>(aggV u_574 fun l_576=>(CF Tryz.prog 51 [(Value.pointer x1),(Value.int .i64 i_562),(Value.agg ⟨l_571⟩),(Value.agg ⟨l_576⟩)] h_575 fun u_577 h_578=>(tup2V u_577 fun u_579 u_580=>(aggV u_579 fun l_581=>(intV u_580 .i64 fun i_582=>(if List.length l_581=26 then (if List.all l_581 one=true then (if 0+List.length l_581≤List.length zB then (F16_j4 x12 i_582 k11 (splice zB 0 l_581) h_578  K) else False) else False) else False)))))))))))))))))))∧(ldV (k5)[3]? fun v_583=>(intV v_583 .i64 fun i_584=>(ldV (k5)[1]? fun v_585=>(intV v_585 .u8 fun i_586=>(ldV (k5)[4]? fun v_587=>(intV v_587 .i64 fun i_588=>(CF Tryz.prog 43 [(Value.int .u8 i_586),(Value.int .i64 i_588)] hp fun u_589 h_590=>(aggV u_589 fun l_591=>(ldV (k5)[2]? fun v_592=>(intV v_592 .u8 fun i_593=>(ldV (k5)[5]? fun v_594=>(intV v_594 .i64 fun i_595=>(CF Tryz.prog 45 [(Value.int .u8 i_593),(Value.int .i64 i_595)] h_590 fun u_596 h_597=>(aggV u_596 fun l_598=>(CF Tryz.prog 51 [(Value.pointer x1),(Value.int .i64 i_584),(Value.agg ⟨l_591⟩),(Value.agg ⟨l_598⟩)] h_597 fun u_599 h_600=>(tup2V u_599 fun u_601 u_602=>(aggV u_601 fun l_603=>(intV u_602 .i64 fun i_604=>(if List.length l_603=26 then (if List.all l_603 one=true then (if 0+List.length l_603≤List.length zB then (F16_j4 x12 i_604 k11 (splice zB 0 l_603) h_600  K) else False) else False) else False)))))))))))))))))))∧(ldV (k5)[1]? fun v_605=>(intV v_605 .u8 fun i_606=>(ldV (k5)[4]? fun v_607=>(intV v_607 .i64 fun i_608=>(CF Tryz.prog 43 [(Value.int .u8 i_606),(Value.int .i64 i_608)] hp fun u_609 h_610=>(aggV u_609 fun l_611=>(ldV (k5)[2]? fun v_612=>(intV v_612 .u8 fun i_613=>(ldV (k5)[5]? fun v_614=>(intV v_614 .i64 fun i_615=>(CF Tryz.prog 45 [(Value.int .u8 i_613),(Value.int .i64 i_615)] h_610 fun u_616 h_617=>(aggV u_616 fun l_618=>(ldV (k5)[3]? fun v_619=>(intV v_619 .i64 fun i_620=>(CF Tryz.prog 51 [(Value.pointer x1),(Value.int .i64 i_620),(Value.agg ⟨l_611⟩),(Value.agg ⟨l_618⟩)] h_617 fun u_621 h_622=>(tup2V u_621 fun u_623 u_624=>(aggV u_623 fun l_625=>(intV u_624 .i64 fun i_626=>(if List.length l_625=26 then (if List.all l_625 one=true then (if 0+List.length l_625≤List.length zB then (F16_j4 x12 i_626 k11 (splice zB 0 l_625) h_622  K) else False) else False) else False)))))))))))))))))))∧(ldV (k5)[1]? fun v_627=>(intV v_627 .u8 fun i_628=>(ldV (k5)[4]? fun v_629=>(intV v_629 .i64 fun i_630=>(CF Tryz.prog 43 [(Value.int .u8 i_628),(Value.int .i64 i_630)] hp fun u_631 h_632=>(aggV u_631 fun l_633=>(ldV (k5)[2]? fun v_634=>(intV v_634 .u8 fun i_635=>(ldV (k5)[3]? fun v_636=>(intV v_636 .i64 fun i_637=>(ldV (k5)[5]? fun v_638=>(intV v_638 .i64 fun i_639=>(CF Tryz.prog 45 [(Value.int .u8 i_635),(Value.int .i64 i_639)] h_632 fun u_640 h_641=>(aggV u_640 fun l_642=>(CF Tryz.prog 51 [(Value.pointer x1),(Value.int .i64 i_637),(Value.agg ⟨l_633⟩),(Value.agg ⟨l_642⟩)] h_641 fun u_643 h_644=>(tup2V u_643 fun u_645 u_646=>(aggV u_645 fun l_647=>(intV u_646 .i64 fun i_648=>(if List.length l_647=26 then (if List.all l_647 one=true then (if 0+List.length l_647≤List.length zB then (F16_j4 x12 i_648 k11 (splice zB 0 l_647) h_644  K) else False) else False) else False)))))))))))))))))))∧(ldV (k5)[1]? fun v_649=>(intV v_649 .u8 fun i_650=>(ldV (k5)[4]? fun v_651=>(intV v_651 .i64 fun i_652=>(CF Tryz.prog 43 [(Value.int .u8 i_650),(Value.int .i64 i_652)] hp fun u_653 h_654=>(aggV u_653 fun l_655=>(ldV (k5)[5]? fun v_656=>(intV v_656 .i64 fun i_657=>(ldV (k5)[3]? fun v_658=>(intV v_658 .i64 fun i_659=>(ldV (k5)[2]? fun v_660=>(intV v_660 .u8 fun i_661=>(CF Tryz.prog 45 [(Value.int .u8 i_661),(Value.int .i64 i_657)] h_654 fun u_662 h_663=>(aggV u_662 fun l_664=>(CF Tryz.prog 51 [(Value.pointer x1),(Value.int .i64 i_659),(Value.agg ⟨l_655⟩),(Value.agg ⟨l_664⟩)] h_663 fun u_665 h_666=>(tup2V u_665 fun u_667 u_668=>(aggV u_667 fun l_669=>(intV u_668 .i64 fun i_670=>(if List.length l_669=26 then (if List.all l_669 one=true then (if 0+List.length l_669≤List.length zB then (F16_j4 x12 i_670 k11 (splice zB 0 l_669) h_666  K) else False) else False) else False)))))))))))))))))))∧(ldV (k5)[1]? fun v_671=>(intV v_671 .u8 fun i_672=>(ldV (k5)[4]? fun v_673=>(intV v_673 .i64 fun i_674=>(CF Tryz.prog 43 [(Value.int .u8 i_672),(Value.int .i64 i_674)] hp fun u_675 h_676=>(aggV u_675 fun l_677=>(ldV (k5)[3]? fun v_678=>(intV v_678 .i64 fun i_679=>(ldV (k5)[2]? fun v_680=>(intV v_680 .u8 fun i_681=>(ldV (k5)[5]? fun v_682=>(intV v_682 .i64 fun i_683=>(CF Tryz.prog 45 [(Value.int .u8 i_681),(Value.int .i64 i_683)] h_676 fun u_684 h_685=>(aggV u_684 fun l_686=>(CF Tryz.prog 51 [(Value.pointer x1),(Value.int .i64 i_679),(Value.agg ⟨l_677⟩),(Value.agg ⟨l_686⟩)] h_685 fun u_687 h_688=>(tup2V u_687 fun u_689 u_690=>(aggV u_689 fun l_691=>(intV u_690 .i64 fun i_692=>(if List.length l_691=26 then (if List.all l_691 one=true then (if 0+List.length l_691≤List.length zB then (F16_j4 x12 i_692 k11 (splice zB 0 l_691) h_688  K) else False) else False) else False)))))))))))))))))))∧(ldV (k5)[1]? fun v_693=>(intV v_693 .u8 fun i_694=>(ldV (k5)[2]? fun v_695=>(intV v_695 .u8 fun i_696=>(ldV (k5)[5]? fun v_697=>(intV v_697 .i64 fun i_698=>(ldV (k5)[3]? fun v_699=>(intV v_699 .i64 fun i_700=>(ldV (k5)[4]? fun v_701=>(intV v_701 .i64 fun i_702=>(CF Tryz.prog 43 [(Value.int .u8 i_694),(Value.int .i64 i_702)] hp fun u_703 h_704=>(aggV u_703 fun l_705=>(CF Tryz.prog 45 [(Value.int .u8 i_696),(Value.int .i64 i_698)] h_704 fun u_706 h_707=>(aggV u_706 fun l_708=>(CF Tryz.prog 51 [(Value.pointer x1),(Value.int .i64 i_700),(Value.agg ⟨l_705⟩),(Value.agg ⟨l_708⟩)] h_707 fun u_709 h_710=>(tup2V u_709 fun u_711 u_712=>(aggV u_711 fun l_713=>(intV u_712 .i64 fun i_714=>(if List.length l_713=26 then (if List.all l_713 one=true then (if 0+List.length l_713≤List.length zB then (F16_j4 x12 i_714 k11 (splice zB 0 l_713) h_710  K) else False) else False) else False)))))))))))))))))))∧(ldV (k5)[1]? fun v_715=>(intV v_715 .u8 fun i_716=>(ldV (k5)[2]? fun v_717=>(intV v_717 .u8 fun i_718=>(ldV (k5)[3]? fun v_719=>(intV v_719 .i64 fun i_720=>(ldV (k5)[4]? fun v_721=>(intV v_721 .i64 fun i_722=>(CF Tryz.prog 43 [(Value.int .u8 i_716),(Value.int .i64 i_722)] hp fun u_723 h_724=>(aggV u_723 fun l_725=>(ldV (k5)[5]? fun v_726=>(intV v_726 .i64 fun i_727=>(CF Tryz.prog 45 [(Value.int .u8 i_718),(Value.int .i64 i_727)] h_724 fun u_728 h_729=>(aggV u_728 fun l_730=>(CF Tryz.prog 51 [(Value.pointer x1),(Value.int .i64 i_720),(Value.agg ⟨l_725⟩),(Value.agg ⟨l_730⟩)] h_729 fun u_731 h_732=>(tup2V u_731 fun u_733 u_734=>(aggV u_733 fun l_735=>(intV u_734 .i64 fun i_736=>(if List.length l_735=26 then (if List.all l_735 one=true then (if 0+List.length l_735≤List.length zB then (F16_j4 x12 i_736 k11 (splice zB 0 l_735) h_732  K) else False) else False) else False)))))))))))))))))))∧(ldV (k5)[1]? fun v_737=>(intV v_737 .u8 fun i_738=>(ldV (k5)[5]? fun v_739=>(intV v_739 .i64 fun i_740=>(ldV (k5)[3]? fun v_741=>(intV v_741 .i64 fun i_742=>(ldV (k5)[4]? fun v_743=>(intV v_743 .i64 fun i_744=>(CF Tryz.prog 43 [(Value.int .u8 i_738),(Value.int .i64 i_744)] hp fun u_745 h_746=>(aggV u_745 fun l_747=>(ldV (k5)[2]? fun v_748=>(intV v_748 .u8 fun i_749=>(CF Tryz.prog 45 [(Value.int .u8 i_749),(Value.int .i64 i_740)] h_746 fun u_750 h_751=>(aggV u_750 fun l_752=>(CF Tryz.prog 51 [(Value.pointer x1),(Value.int .i64 i_742),(Value.agg ⟨l_747⟩),(Value.agg ⟨l_752⟩)] h_751 fun u_753 h_754=>(tup2V u_753 fun u_755 u_756=>(aggV u_755 fun l_757=>(intV u_756 .i64 fun i_758=>(if List.length l_757=26 then (if List.all l_757 one=true then (if 0+List.length l_757≤List.length zB then (F16_j4 x12 i_758 k11 (splice zB 0 l_757) h_754  K) else False) else False) else False)))))))))))))))))))∧(ldV (k5)[1]? fun v_759=>(intV v_759 .u8 fun i_760=>(ldV (k5)[3]? fun v_761=>(intV v_761 .i64 fun i_762=>(ldV (k5)[4]? fun v_763=>(intV v_763 .i64 fun i_764=>(CF Tryz.prog 43 [(Value.int .u8 i_760),(Value.int .i64 i_764)] hp fun u_765 h_766=>(aggV u_765 fun l_767=>(ldV (k5)[2]? fun v_768=>(intV v_768 .u8 fun i_769=>(ldV (k5)[5]? fun v_770=>(intV v_770 .i64 fun i_771=>(CF Tryz.prog 45 [(Value.int .u8 i_769),(Value.int .i64 i_771)] h_766 fun u_772 h_773=>(aggV u_772 fun l_774=>(CF Tryz.prog 51 [(Value.pointer x1),(Value.int .i64 i_762),(Value.agg ⟨l_767⟩),(Value.agg ⟨l_774⟩)] h_773 fun u_775 h_776=>(tup2V u_775 fun u_777 u_778=>(aggV u_777 fun l_779=>(intV u_778 .i64 fun i_780=>(if List.length l_779=26 then (if List.all l_779 one=true then (if 0+List.length l_779≤List.length zB then (F16_j4 x12 i_780 k11 (splice zB 0 l_779) h_776  K) else False) else False) else False)))))))))))))))))))∧(ldV (k5)[4]? fun v_781=>(intV v_781 .i64 fun i_782=>(ldV (k5)[2]? fun v_783=>(intV v_783 .u8 fun i_784=>(ldV (k5)[5]? fun v_785=>(intV v_785 .i64 fun i_786=>(ldV (k5)[3]? fun v_787=>(intV v_787 .i64 fun i_788=>(ldV (k5)[1]? fun v_789=>(intV v_789 .u8 fun i_790=>(CF Tryz.prog 43 [(Value.int .u8 i_790),(Value.int .i64 i_782)] hp fun u_791 h_792=>(aggV u_791 fun l_793=>(CF Tryz.prog 45 [(Value.int .u8 i_784),(Value.int .i64 i_786)] h_792 fun u_794 h_795=>(aggV u_794 fun l_796=>(CF Tryz.prog 51 [(Value.pointer x1),(Value.int .i64 i_788),(Value.agg ⟨l_793⟩),(Value.agg ⟨l_796⟩)] h_795 fun u_797 h_798=>(tup2V u_797 fun u_799 u_800=>(aggV u_799 fun l_801=>(intV u_800 .i64 fun i_802=>(if List.length l_801=26 then (if List.all l_801 one=true then (if 0+List.length l_801≤List.length zB then (F16_j4 x12 i_802 k11 (splice zB 0 l_801) h_798  K) else False) else False) else False)))))))))))))))))))∧(ldV (k5)[4]? fun v_803=>(intV v_803 .i64 fun i_804=>(ldV (k5)[2]? fun v_805=>(intV v_805 .u8 fun i_806=>(ldV (k5)[3]? fun v_807=>(intV v_807 .i64 fun i_808=>(ldV (k5)[1]? fun v_809=>(intV v_809 .u8 fun i_810=>(CF Tryz.prog 43 [(Value.int .u8 i_810),(Value.int .i64 i_804)] hp fun u_811 h_812=>(aggV u_811 fun l_813=>(ldV (k5)[5]? fun v_814=>(intV v_814 .i64 fun i_815=>(CF Tryz.prog 45 [(Value.int .u8 i_806),(Value.int .i64 i_815)] h_812 fun u_816 h_817=>(aggV u_816 fun l_818=>(CF Tryz.prog 51 [(Value.pointer x1),(Value.int .i64 i_808),(Value.agg ⟨l_813⟩),(Value.agg ⟨l_818⟩)] h_817 fun u_819 h_820=>(tup2V u_819 fun u_821 u_822=>(aggV u_821 fun l_823=>(intV u_822 .i64 fun i_824=>(if List.length l_823=26 then (if List.all l_823 one=true then (if 0+List.length l_823≤List.length zB then (F16_j4 x12 i_824 k11 (splice zB 0 l_823) h_820  K) else False) else False) else False)))))))))))))))))))∧(ldV (k5)[4]? fun v_825=>(intV v_825 .i64 fun i_826=>(ldV (k5)[5]? fun v_827=>(intV v_827 .i64 fun i_828=>(ldV (k5)[3]? fun v_829=>(intV v_829 .i64 fun i_830=>(ldV (k5)[1]? fun v_831=>(intV v_831 .u8 fun i_832=>(CF Tryz.prog 43 [(Value.int .u8 i_832),(Value.int .i64 i_826)] hp fun u_833 h_834=>(aggV u_833 fun l_835=>(ldV (k5)[2]? fun v_836=>(intV v_836 .u8 fun i_837=>(CF Tryz.prog 45 [(Value.int .u8 i_837),(Value.int .i64 i_828)] h_834 fun u_838 h_839=>(aggV u_838 fun l_840=>(CF Tryz.prog 51 [(Value.pointer x1),(Value.int .i64 i_830),(Value.agg ⟨l_835⟩),(Value.agg ⟨l_840⟩)] h_839 fun u_841 h_842=>(tup2V u_841 fun u_843 u_844=>(aggV u_843 fun l_845=>(intV u_844 .i64 fun i_846=>(if List.length l_845=26 then (if List.all l_845 one=true then (if 0+List.length l_845≤List.length zB then (F16_j4 x12 i_846 k11 (splice zB 0 l_845) h_842  K) else False) else False) else False)))))))))))))))))))∧(ldV (k5)[4]? fun v_847=>(intV v_847 .i64 fun i_848=>(ldV (k5)[3]? fun v_849=>(intV v_849 .i64 fun i_850=>(ldV (k5)[1]? fun v_851=>(intV v_851 .u8 fun i_852=>(CF Tryz.prog 43 [(Value.int .u8 i_852),(Value.int .i64 i_848)] hp fun u_853 h_854=>(aggV u_853 fun l_855=>(ldV (k5)[2]? fun v_856=>(intV v_856 .u8 fun i_857=>(ldV (k5)[5]? fun v_858=>(intV v_858 .i64 fun i_859=>(CF Tryz.prog 45 [(Value.int .u8 i_857),(Value.int .i64 i_859)] h_854 fun u_860 h_861=>(aggV u_860 fun l_862=>(CF Tryz.prog 51 [(Value.pointer x1),(Value.int .i64 i_850),(Value.agg ⟨l_855⟩),(Value.agg ⟨l_862⟩)] h_861 fun u_863 h_864=>(tup2V u_863 fun u_865 u_866=>(aggV u_865 fun l_867=>(intV u_866 .i64 fun i_868=>(if List.length l_867=26 then (if List.all l_867 one=true then (if 0+List.length l_867≤List.length zB then (F16_j4 x12 i_868 k11 (splice zB 0 l_867) h_864  K) else False) else False) else False)))))))))))))))))))∧(ldV (k5)[2]? fun v_869=>(intV v_869 .u8 fun i_870=>(ldV (k5)[5]? fun v_871=>(intV v_871 .i64 fun i_872=>(ldV (k5)[3]? fun v_873=>(intV v_873 .i64 fun i_874=>(ldV (k5)[1]? fun v_875=>(intV v_875 .u8 fun i_876=>(ldV (k5)[4]? fun v_877=>(intV v_877 .i64 fun i_878=>(CF Tryz.prog 43 [(Value.int .u8 i_876),(Value.int .i64 i_878)] hp fun u_879 h_880=>(aggV u_879 fun l_881=>(CF Tryz.prog 45 [(Value.int .u8 i_870),(Value.int .i64 i_872)] h_880 fun u_882 h_883=>(aggV u_882 fun l_884=>(CF Tryz.prog 51 [(Value.pointer x1),(Value.int .i64 i_874),(Value.agg ⟨l_881⟩),(Value.agg ⟨l_884⟩)] h_883 fun u_885 h_886=>(tup2V u_885 fun u_887 u_888=>(aggV u_887 fun l_889=>(intV u_888 .i64 fun i_890=>(if List.length l_889=26 then (if List.all l_889 one=true then (if 0+List.length l_889≤List.length zB then (F16_j4 x12 i_890 k11 (splice zB 0 l_889) h_886  K) else False) else False) else False)))))))))))))))))))∧(ldV (k5)[2]? fun v_891=>(intV v_891 .u8 fun i_892=>(ldV (k5)[3]? fun v_893=>(intV v_893 .i64 fun i_894=>(ldV (k5)[1]? fun v_895=>(intV v_895 .u8 fun i_896=>(ldV (k5)[4]? fun v_897=>(intV v_897 .i64 fun i_898=>(CF Tryz.prog 43 [(Value.int .u8 i_896),(Value.int .i64 i_898)] hp fun u_899 h_900=>(aggV u_899 fun l_901=>(ldV (k5)[5]? fun v_902=>(intV v_902 .i64 fun i_903=>(CF Tryz.prog 45 [(Value.int .u8 i_892),(Value.int .i64 i_903)] h_900 fun u_904 h_905=>(aggV u_904 fun l_906=>(CF Tryz.prog 51 [(Value.pointer x1),(Value.int .i64 i_894),(Value.agg ⟨l_901⟩),(Value.agg ⟨l_906⟩)] h_905 fun u_907 h_908=>(tup2V u_907 fun u_909 u_910=>(aggV u_909 fun l_911=>(intV u_910 .i64 fun i_912=>(if List.length l_911=26 then (if List.all l_911 one=true then (if 0+List.length l_911≤List.length zB then (F16_j4 x12 i_912 k11 (splice zB 0 l_911) h_908  K) else False) else False) else False)))))))))))))))))))∧(ldV (k5)[5]? fun v_913=>(intV v_913 .i64 fun i_914=>(ldV (k5)[3]? fun v_915=>(intV v_915 .i64 fun i_916=>(ldV (k5)[1]? fun v_917=>(intV v_917 .u8 fun i_918=>(ldV (k5)[4]? fun v_919=>(intV v_919 .i64 fun i_920=>(CF Tryz.prog 43 [(Value.int .u8 i_918),(Value.int .i64 i_920)] hp fun u_921 h_922=>(aggV u_921 fun l_923=>(ldV (k5)[2]? fun v_924=>(intV v_924 .u8 fun i_925=>(CF Tryz.prog 45 [(Value.int .u8 i_925),(Value.int .i64 i_914)] h_922 fun u_926 h_927=>(aggV u_926 fun l_928=>(CF Tryz.prog 51 [(Value.pointer x1),(Value.int .i64 i_916),(Value.agg ⟨l_923⟩),(Value.agg ⟨l_928⟩)] h_927 fun u_929 h_930=>(tup2V u_929 fun u_931 u_932=>(aggV u_931 fun l_933=>(intV u_932 .i64 fun i_934=>(if List.length l_933=26 then (if List.all l_933 one=true then (if 0+List.length l_933≤List.length zB then (F16_j4 x12 i_934 k11 (splice zB 0 l_933) h_930  K) else False) else False) else False)))))))))))))))))))∧(ldV (k5)[3]? fun v_935=>(intV v_935 .i64 fun i_936=>(ldV (k5)[1]? fun v_937=>(intV v_937 .u8 fun i_938=>(ldV (k5)[4]? fun v_939=>(intV v_939 .i64 fun i_940=>(CF Tryz.prog 43 [(Value.int .u8 i_938),(Value.int .i64 i_940)] hp fun u_941 h_942=>(aggV u_941 fun l_943=>(ldV (k5)[2]? fun v_944=>(intV v_944 .u8 fun i_945=>(ldV (k5)[5]? fun v_946=>(intV v_946 .i64 fun i_947=>(CF Tryz.prog 45 [(Value.int .u8 i_945),(Value.int .i64 i_947)] h_942 fun u_948 h_949=>(aggV u_948 fun l_950=>(CF Tryz.prog 51 [(Value.pointer x1),(Value.int .i64 i_936),(Value.agg ⟨l_943⟩),(Value.agg ⟨l_950⟩)] h_949 fun u_951 h_952=>(tup2V u_951 fun u_953 u_954=>(aggV u_953 fun l_955=>(intV u_954 .i64 fun i_956=>(if List.length l_955=26 then (if List.all l_955 one=true then (if 0+List.length l_955≤List.length zB then (F16_j4 x12 i_956 k11 (splice zB 0 l_955) h_952  K) else False) else False) else False))))))))))))))))))))
def F16_j6 (x16 x18:Int) (k15 k17:List Value) (hp:HP) (K:Kh):Prop:=
  (ldL (cellsN k15 0 26) fun l_1661=>(ldL (cellsN k17 0 26) fun l_1662=>(CF Tryz.prog 49 [(Value.agg ⟨l_1661⟩),(Value.agg ⟨l_1662⟩)] hp fun u_1663 h_1664=>(boolV u_1663 fun q_1665=>(ite2 q_1665 (K (Value.bool ((x16:Int)==x18)) h_1664) (K (Value.bool false) h_1664))))))
def F16_j5 (x1:OA) (x16:Int) (k5 k15:List Value) (hp:HP) (K:Kh):Prop:=
  ((ldV (k5)[3]? fun v_1666=>(intV v_1666 .i64 fun i_1667=>(ldV (k5)[1]? fun v_1668=>(intV v_1668 .u8 fun i_1669=>(ldV (k5)[4]? fun v_1670=>(intV v_1670 .i64 fun i_1671=>(CF Tryz.prog 43 [(Value.int .u8 i_1669),(Value.int .i64 i_1671)] hp fun u_1672 h_1673=>(aggV u_1672 fun l_1674=>(CF Tryz.prog 53 [(Value.pointer x1),(Value.int .i64 i_1667),(Value.agg ⟨l_1674⟩)] h_1673 fun u_1675 h_1676=>(tup2V u_1675 fun u_1677 u_1678=>(aggV u_1677 fun l_1679=>(intV u_1678 .i64 fun i_1680=>(if List.length l_1679=26 then (if List.all l_1679 one=true then (if 0+List.length l_1679≤List.length zB then (F16_j6 x16 i_1680 k15 (splice zB 0 l_1679) h_1676  K) else False) else False) else False)))))))))))))∧(ldV (k5)[3]? fun v_1681=>(intV v_1681 .i64 fun i_1682=>(ldV (k5)[1]? fun v_1683=>(intV v_1683 .u8 fun i_1684=>(ldV (k5)[4]? fun v_1685=>(intV v_1685 .i64 fun i_1686=>(CF Tryz.prog 43 [(Value.int .u8 i_1684),(Value.int .i64 i_1686)] hp fun u_1687 h_1688=>(aggV u_1687 fun l_1689=>(CF Tryz.prog 53 [(Value.pointer x1),(Value.int .i64 i_1682),(Value.agg ⟨l_1689⟩)] h_1688 fun u_1690 h_1691=>(tup2V u_1690 fun u_1692 u_1693=>(aggV u_1692 fun l_1694=>(intV u_1693 .i64 fun i_1695=>(if List.length l_1694=26 then (if List.all l_1694 one=true then (if 0+List.length l_1694≤List.length zB then (F16_j6 x16 i_1695 k15 (splice zB 0 l_1694) h_1691  K) else False) else False) else False)))))))))))))∧(ldV (k5)[3]? fun v_1696=>(intV v_1696 .i64 fun i_1697=>(ldV (k5)[4]? fun v_1698=>(intV v_1698 .i64 fun i_1699=>(ldV (k5)[1]? fun v_1700=>(intV v_1700 .u8 fun i_1701=>(CF Tryz.prog 43 [(Value.int .u8 i_1701),(Value.int .i64 i_1699)] hp fun u_1702 h_1703=>(aggV u_1702 fun l_1704=>(CF Tryz.prog 53 [(Value.pointer x1),(Value.int .i64 i_1697),(Value.agg ⟨l_1704⟩)] h_1703 fun u_1705 h_1706=>(tup2V u_1705 fun u_1707 u_1708=>(aggV u_1707 fun l_1709=>(intV u_1708 .i64 fun i_1710=>(if List.length l_1709=26 then (if List.all l_1709 one=true then (if 0+List.length l_1709≤List.length zB then (F16_j6 x16 i_1710 k15 (splice zB 0 l_1709) h_1706  K) else False) else False) else False)))))))))))))∧(ldV (k5)[3]? fun v_1711=>(intV v_1711 .i64 fun i_1712=>(ldV (k5)[1]? fun v_1713=>(intV v_1713 .u8 fun i_1714=>(ldV (k5)[4]? fun v_1715=>(intV v_1715 .i64 fun i_1716=>(CF Tryz.prog 43 [(Value.int .u8 i_1714),(Value.int .i64 i_1716)] hp fun u_1717 h_1718=>(aggV u_1717 fun l_1719=>(CF Tryz.prog 53 [(Value.pointer x1),(Value.int .i64 i_1712),(Value.agg ⟨l_1719⟩)] h_1718 fun u_1720 h_1721=>(tup2V u_1720 fun u_1722 u_1723=>(aggV u_1722 fun l_1724=>(intV u_1723 .i64 fun i_1725=>(if List.length l_1724=26 then (if List.all l_1724 one=true then (if 0+List.length l_1724≤List.length zB then (F16_j6 x16 i_1725 k15 (splice zB 0 l_1724) h_1721  K) else False) else False) else False)))))))))))))∧(ldV (k5)[1]? fun v_1726=>(intV v_1726 .u8 fun i_1727=>(ldV (k5)[4]? fun v_1728=>(intV v_1728 .i64 fun i_1729=>(CF Tryz.prog 43 [(Value.int .u8 i_1727),(Value.int .i64 i_1729)] hp fun u_1730 h_1731=>(aggV u_1730 fun l_1732=>(ldV (k5)[3]? fun v_1733=>(intV v_1733 .i64 fun i_1734=>(CF Tryz.prog 53 [(Value.pointer x1),(Value.int .i64 i_1734),(Value.agg ⟨l_1732⟩)] h_1731 fun u_1735 h_1736=>(tup2V u_1735 fun u_1737 u_1738=>(aggV u_1737 fun l_1739=>(intV u_1738 .i64 fun i_1740=>(if List.length l_1739=26 then (if List.all l_1739 one=true then (if 0+List.length l_1739≤List.length zB then (F16_j6 x16 i_1740 k15 (splice zB 0 l_1739) h_1736  K) else False) else False) else False)))))))))))))∧(ldV (k5)[1]? fun v_1741=>(intV v_1741 .u8 fun i_1742=>(ldV (k5)[3]? fun v_1743=>(intV v_1743 .i64 fun i_1744=>(ldV (k5)[4]? fun v_1745=>(intV v_1745 .i64 fun i_1746=>(CF Tryz.prog 43 [(Value.int .u8 i_1742),(Value.int .i64 i_1746)] hp fun u_1747 h_1748=>(aggV u_1747 fun l_1749=>(CF Tryz.prog 53 [(Value.pointer x1),(Value.int .i64 i_1744),(Value.agg ⟨l_1749⟩)] h_1748 fun u_1750 h_1751=>(tup2V u_1750 fun u_1752 u_1753=>(aggV u_1752 fun l_1754=>(intV u_1753 .i64 fun i_1755=>(if List.length l_1754=26 then (if List.all l_1754 one=true then (if 0+List.length l_1754≤List.length zB then (F16_j6 x16 i_1755 k15 (splice zB 0 l_1754) h_1751  K) else False) else False) else False)))))))))))))∧(ldV (k5)[4]? fun v_1756=>(intV v_1756 .i64 fun i_1757=>(ldV (k5)[3]? fun v_1758=>(intV v_1758 .i64 fun i_1759=>(ldV (k5)[1]? fun v_1760=>(intV v_1760 .u8 fun i_1761=>(CF Tryz.prog 43 [(Value.int .u8 i_1761),(Value.int .i64 i_1757)] hp fun u_1762 h_1763=>(aggV u_1762 fun l_1764=>(CF Tryz.prog 53 [(Value.pointer x1),(Value.int .i64 i_1759),(Value.agg ⟨l_1764⟩)] h_1763 fun u_1765 h_1766=>(tup2V u_1765 fun u_1767 u_1768=>(aggV u_1767 fun l_1769=>(intV u_1768 .i64 fun i_1770=>(if List.length l_1769=26 then (if List.all l_1769 one=true then (if 0+List.length l_1769≤List.length zB then (F16_j6 x16 i_1770 k15 (splice zB 0 l_1769) h_1766  K) else False) else False) else False)))))))))))))∧(ldV (k5)[3]? fun v_1771=>(intV v_1771 .i64 fun i_1772=>(ldV (k5)[1]? fun v_1773=>(intV v_1773 .u8 fun i_1774=>(ldV (k5)[4]? fun v_1775=>(intV v_1775 .i64 fun i_1776=>(CF Tryz.prog 43 [(Value.int .u8 i_1774),(Value.int .i64 i_1776)] hp fun u_1777 h_1778=>(aggV u_1777 fun l_1779=>(CF Tryz.prog 53 [(Value.pointer x1),(Value.int .i64 i_1772),(Value.agg ⟨l_1779⟩)] h_1778 fun u_1780 h_1781=>(tup2V u_1780 fun u_1782 u_1783=>(aggV u_1782 fun l_1784=>(intV u_1783 .i64 fun i_1785=>(if List.length l_1784=26 then (if List.all l_1784 one=true then (if 0+List.length l_1784≤List.length zB then (F16_j6 x16 i_1785 k15 (splice zB 0 l_1784) h_1781  K) else False) else False) else False))))))))))))))
def F16_j9 (x0:OA) (x25:Int) (k5:List Value) (hp:HP) (K:Kh):Prop:=
  (ldV (k5)[3]? fun v_1936=>(intV v_1936 .i64 fun i_1937=>(ldV (k5)[1]? fun v_1938=>(intV v_1938 .u8 fun i_1939=>(ldV (k5)[4]? fun v_1940=>(intV v_1940 .i64 fun i_1941=>(CF Tryz.prog 43 [(Value.int .u8 i_1939),(Value.int .i64 i_1941)] hp fun u_1942 h_1943=>(aggV u_1942 fun l_1944=>(CF Tryz.prog 59 [(Value.pointer x0),(Value.int .i64 i_1937),(Value.agg ⟨l_1944⟩)] h_1943 fun u_1945 h_1946=>(intV u_1945 .i64 fun i_1947=>(K (Value.bool ((i_1947:Int)==x25)) h_1946)))))))))))
def F16_j8 (x0 x1:OA) (x27:Int) (x154:Bool) (k5:List Value) (hp:HP) (K:Kh):Prop:=
  (ite2 x154 (ldL (cellsN k5 0 7) fun l_1920=>(CF Tryz.prog 55 [(Value.pointer x1),(Value.agg ⟨l_1920⟩)] hp fun u_1921 h_1922=>(intV u_1921 .i64 fun i_1923=>(CF Tryz.prog 57 [(Value.pointer x0),(Value.int .i64 i_1923)] h_1922 fun u_1924 h_1925=>(tup2V u_1924 fun u_1926 u_1927=>(boolV u_1926 fun q_1928=>(intV u_1927 .i64 fun i_1929=>(CF Tryz.prog 58 [(Value.pointer x1),(Value.int .i64 i_1923)] h_1925 fun u_1930 h_1931=>(tup2V u_1930 fun u_1932 u_1933=>(boolV u_1932 fun q_1934=>(intV u_1933 .i64 fun i_1935=>(ite2 (q_1928==q_1934) (K (Value.bool ((i_1929:Int)==i_1935)) h_1931) (K (Value.bool false) h_1931))))))))))))) (ite2 ((x27:Int)==5) ((ldV (k5)[3]? fun v_1948=>(intV v_1948 .i64 fun i_1949=>(ldV (k5)[1]? fun v_1950=>(intV v_1950 .u8 fun i_1951=>(ldV (k5)[4]? fun v_1952=>(intV v_1952 .i64 fun i_1953=>(CF Tryz.prog 43 [(Value.int .u8 i_1951),(Value.int .i64 i_1953)] hp fun u_1954 h_1955=>(aggV u_1954 fun l_1956=>(CF Tryz.prog 48 [(Value.pointer x1),(Value.int .i64 i_1949),(Value.agg ⟨l_1956⟩),(Value.bool true)] h_1955 fun u_1957 h_1958=>(tup2V u_1957 fun u_1959 u_1960=>(aggV u_1959 fun l_1961=>(intV u_1960 .i64 fun i_1962=>(if List.length l_1961=26 then (if List.all l_1961 one=true then (if 0+List.length l_1961≤List.length zB then (F16_j9 x0 i_1962 k5 h_1958  K) else False) else False) else False)))))))))))))∧(ldV (k5)[3]? fun v_1963=>(intV v_1963 .i64 fun i_1964=>(ldV (k5)[1]? fun v_1965=>(intV v_1965 .u8 fun i_1966=>(ldV (k5)[4]? fun v_1967=>(intV v_1967 .i64 fun i_1968=>(CF Tryz.prog 43 [(Value.int .u8 i_1966),(Value.int .i64 i_1968)] hp fun u_1969 h_1970=>(aggV u_1969 fun l_1971=>(CF Tryz.prog 48 [(Value.pointer x1),(Value.int .i64 i_1964),(Value.agg ⟨l_1971⟩),(Value.bool true)] h_1970 fun u_1972 h_1973=>(tup2V u_1972 fun u_1974 u_1975=>(aggV u_1974 fun l_1976=>(intV u_1975 .i64 fun i_1977=>(if List.length l_1976=26 then (if List.all l_1976 one=true then (if 0+List.length l_1976≤List.length zB then (F16_j9 x0 i_1977 k5 h_1973  K) else False) else False) else False)))))))))))))∧(ldV (k5)[3]? fun v_1978=>(intV v_1978 .i64 fun i_1979=>(ldV (k5)[4]? fun v_1980=>(intV v_1980 .i64 fun i_1981=>(ldV (k5)[1]? fun v_1982=>(intV v_1982 .u8 fun i_1983=>(CF Tryz.prog 43 [(Value.int .u8 i_1983),(Value.int .i64 i_1981)] hp fun u_1984 h_1985=>(aggV u_1984 fun l_1986=>(CF Tryz.prog 48 [(Value.pointer x1),(Value.int .i64 i_1979),(Value.agg ⟨l_1986⟩),(Value.bool true)] h_1985 fun u_1987 h_1988=>(tup2V u_1987 fun u_1989 u_1990=>(aggV u_1989 fun l_1991=>(intV u_1990 .i64 fun i_1992=>(if List.length l_1991=26 then (if List.all l_1991 one=true then (if 0+List.length l_1991≤List.length zB then (F16_j9 x0 i_1992 k5 h_1988  K) else False) else False) else False)))))))))))))∧(ldV (k5)[3]? fun v_1993=>(intV v_1993 .i64 fun i_1994=>(ldV (k5)[1]? fun v_1995=>(intV v_1995 .u8 fun i_1996=>(ldV (k5)[4]? fun v_1997=>(intV v_1997 .i64 fun i_1998=>(CF Tryz.prog 43 [(Value.int .u8 i_1996),(Value.int .i64 i_1998)] hp fun u_1999 h_2000=>(aggV u_1999 fun l_2001=>(CF Tryz.prog 48 [(Value.pointer x1),(Value.int .i64 i_1994),(Value.agg ⟨l_2001⟩),(Value.bool true)] h_2000 fun u_2002 h_2003=>(tup2V u_2002 fun u_2004 u_2005=>(aggV u_2004 fun l_2006=>(intV u_2005 .i64 fun i_2007=>(if List.length l_2006=26 then (if List.all l_2006 one=true then (if 0+List.length l_2006≤List.length zB then (F16_j9 x0 i_2007 k5 h_2003  K) else False) else False) else False)))))))))))))∧(ldV (k5)[1]? fun v_2008=>(intV v_2008 .u8 fun i_2009=>(ldV (k5)[4]? fun v_2010=>(intV v_2010 .i64 fun i_2011=>(CF Tryz.prog 43 [(Value.int .u8 i_2009),(Value.int .i64 i_2011)] hp fun u_2012 h_2013=>(aggV u_2012 fun l_2014=>(ldV (k5)[3]? fun v_2015=>(intV v_2015 .i64 fun i_2016=>(CF Tryz.prog 48 [(Value.pointer x1),(Value.int .i64 i_2016),(Value.agg ⟨l_2014⟩),(Value.bool true)] h_2013 fun u_2017 h_2018=>(tup2V u_2017 fun u_2019 u_2020=>(aggV u_2019 fun l_2021=>(intV u_2020 .i64 fun i_2022=>(if List.length l_2021=26 then (if List.all l_2021 one=true then (if 0+List.length l_2021≤List.length zB then (F16_j9 x0 i_2022 k5 h_2018  K) else False) else False) else False)))))))))))))∧(ldV (k5)[1]? fun v_2023=>(intV v_2023 .u8 fun i_2024=>(ldV (k5)[3]? fun v_2025=>(intV v_2025 .i64 fun i_2026=>(ldV (k5)[4]? fun v_2027=>(intV v_2027 .i64 fun i_2028=>(CF Tryz.prog 43 [(Value.int .u8 i_2024),(Value.int .i64 i_2028)] hp fun u_2029 h_2030=>(aggV u_2029 fun l_2031=>(CF Tryz.prog 48 [(Value.pointer x1),(Value.int .i64 i_2026),(Value.agg ⟨l_2031⟩),(Value.bool true)] h_2030 fun u_2032 h_2033=>(tup2V u_2032 fun u_2034 u_2035=>(aggV u_2034 fun l_2036=>(intV u_2035 .i64 fun i_2037=>(if List.length l_2036=26 then (if List.all l_2036 one=true then (if 0+List.length l_2036≤List.length zB then (F16_j9 x0 i_2037 k5 h_2033  K) else False) else False) else False)))))))))))))∧(ldV (k5)[4]? fun v_2038=>(intV v_2038 .i64 fun i_2039=>(ldV (k5)[3]? fun v_2040=>(intV v_2040 .i64 fun i_2041=>(ldV (k5)[1]? fun v_2042=>(intV v_2042 .u8 fun i_2043=>(CF Tryz.prog 43 [(Value.int .u8 i_2043),(Value.int .i64 i_2039)] hp fun u_2044 h_2045=>(aggV u_2044 fun l_2046=>(CF Tryz.prog 48 [(Value.pointer x1),(Value.int .i64 i_2041),(Value.agg ⟨l_2046⟩),(Value.bool true)] h_2045 fun u_2047 h_2048=>(tup2V u_2047 fun u_2049 u_2050=>(aggV u_2049 fun l_2051=>(intV u_2050 .i64 fun i_2052=>(if List.length l_2051=26 then (if List.all l_2051 one=true then (if 0+List.length l_2051≤List.length zB then (F16_j9 x0 i_2052 k5 h_2048  K) else False) else False) else False)))))))))))))∧(ldV (k5)[3]? fun v_2053=>(intV v_2053 .i64 fun i_2054=>(ldV (k5)[1]? fun v_2055=>(intV v_2055 .u8 fun i_2056=>(ldV (k5)[4]? fun v_2057=>(intV v_2057 .i64 fun i_2058=>(CF Tryz.prog 43 [(Value.int .u8 i_2056),(Value.int .i64 i_2058)] hp fun u_2059 h_2060=>(aggV u_2059 fun l_2061=>(CF Tryz.prog 48 [(Value.pointer x1),(Value.int .i64 i_2054),(Value.agg ⟨l_2061⟩),(Value.bool true)] h_2060 fun u_2062 h_2063=>(tup2V u_2062 fun u_2064 u_2065=>(aggV u_2064 fun l_2066=>(intV u_2065 .i64 fun i_2067=>(if List.length l_2066=26 then (if List.all l_2066 one=true then (if 0+List.length l_2066≤List.length zB then (F16_j9 x0 i_2067 k5 h_2063  K) else False) else False) else False)))))))))))))) (K (Value.bool true) hp)))
def F16_j7 (x0 x1:OA) (x27:Int) (x140:Bool) (k5:List Value) (hp:HP) (K:Kh):Prop:=
  (ite2 x140 (ldL (cellsN k5 0 7) fun l_1906=>(CF Tryz.prog 55 [(Value.pointer x1),(Value.agg ⟨l_1906⟩)] hp fun u_1907 h_1908=>(intV u_1907 .i64 fun i_1909=>(CF Tryz.prog 54 [(Value.pointer x0),(Value.int .i64 i_1909)] h_1908 fun u_1910 h_1911=>(intV u_1910 .i64 fun i_1912=>(ldL (cellsN k5 0 7) fun l_1913=>(CF Tryz.prog 55 [(Value.pointer x1),(Value.agg ⟨l_1913⟩)] h_1911 fun u_1914 h_1915=>(intV u_1914 .i64 fun i_1916=>(CF Tryz.prog 56 [(Value.pointer x1),(Value.int .i64 i_1916)] h_1915 fun u_1917 h_1918=>(intV u_1917 .i64 fun i_1919=>(K (Value.bool ((i_1912:Int)==i_1919)) h_1918))))))))))) (ite2 ((x27:Int)==4) (F16_j8 x0 x1 x27 ((x27:Int)==4) k5 hp  K) (F16_j8 x0 x1 x27 ((x27:Int)==7) k5 hp  K)))
def F16 (x0 x1:OA) (x2:List Value) (hp:HP) (K:Kh):Prop:=
  (ldV (x2)[0]? fun v_1=>(intV v_1 .u8 fun i_2=>(ite2 ((i_2:Int)==0) ((ldV (x2)[3]? fun v_128=>(intV v_128 .i64 fun i_129=>(ldV (x2)[1]? fun v_130=>(intV v_130 .u8 fun i_131=>(ldV (x2)[4]? fun v_132=>(intV v_132 .i64 fun i_133=>(CF Tryz.prog 43 [(Value.int .u8 i_131),(Value.int .i64 i_133)] hp fun u_134 h_135=>(aggV u_134 fun l_136=>(CF Tryz.prog 42 [(Value.pointer x0),(Value.int .i64 i_129),(Value.agg ⟨l_136⟩)] h_135 fun u_137 h_138=>(tup2V u_137 fun u_139 u_140=>(aggV u_139 fun l_141=>(intV u_140 .i64 fun i_142=>(if List.length l_141=26 then (if List.all l_141 one=true then (if 0+List.length l_141≤List.length zB then (F16_j1 x1 i_142 x2 (splice zB 0 l_141) h_138  K) else False) else False) else False)))))))))))))∧(ldV (x2)[3]? fun v_143=>(intV v_143 .i64 fun i_144=>(ldV (x2)[1]? fun v_145=>(intV v_145 .u8 fun i_146=>(ldV (x2)[4]? fun v_147=>(intV v_147 .i64 fun i_148=>(CF Tryz.prog 43 [(Value.int .u8 i_146),(Value.int .i64 i_148)] hp fun u_149 h_150=>(aggV u_149 fun l_151=>(CF Tryz.prog 42 [(Value.pointer x0),(Value.int .i64 i_144),(Value.agg ⟨l_151⟩)] h_150 fun u_152 h_153=>(tup2V u_152 fun u_154 u_155=>(aggV u_154 fun l_156=>(intV u_155 .i64 fun i_157=>(if List.length l_156=26 then (if List.all l_156 one=true then (if 0+List.length l_156≤List.length zB then (F16_j1 x1 i_157 x2 (splice zB 0 l_156) h_153  K) else False) else False) else False)))))))))))))∧(ldV (x2)[3]? fun v_158=>(intV v_158 .i64 fun i_159=>(ldV (x2)[4]? fun v_160=>(intV v_160 .i64 fun i_161=>(ldV (x2)[1]? fun v_162=>(intV v_162 .u8 fun i_163=>(CF Tryz.prog 43 [(Value.int .u8 i_163),(Value.int .i64 i_161)] hp fun u_164 h_165=>(aggV u_164 fun l_166=>(CF Tryz.prog 42 [(Value.pointer x0),(Value.int .i64 i_159),(Value.agg ⟨l_166⟩)] h_165 fun u_167 h_168=>(tup2V u_167 fun u_169 u_170=>(aggV u_169 fun l_171=>(intV u_170 .i64 fun i_172=>(if List.length l_171=26 then (if List.all l_171 one=true then (if 0+List.length l_171≤List.length zB then (F16_j1 x1 i_172 x2 (splice zB 0 l_171) h_168  K) else False) else False) else False)))))))))))))∧(ldV (x2)[3]? fun v_173=>(intV v_173 .i64 fun i_174=>(ldV (x2)[1]? fun v_175=>(intV v_175 .u8 fun i_176=>(ldV (x2)[4]? fun v_177=>(intV v_177 .i64 fun i_178=>(CF Tryz.prog 43 [(Value.int .u8 i_176),(Value.int .i64 i_178)] hp fun u_179 h_180=>(aggV u_179 fun l_181=>(CF Tryz.prog 42 [(Value.pointer x0),(Value.int .i64 i_174),(Value.agg ⟨l_181⟩)] h_180 fun u_182 h_183=>(tup2V u_182 fun u_184 u_185=>(aggV u_184 fun l_186=>(intV u_185 .i64 fun i_187=>(if List.length l_186=26 then (if List.all l_186 one=true then (if 0+List.length l_186≤List.length zB then (F16_j1 x1 i_187 x2 (splice zB 0 l_186) h_183  K) else False) else False) else False)))))))))))))∧(ldV (x2)[1]? fun v_188=>(intV v_188 .u8 fun i_189=>(ldV (x2)[4]? fun v_190=>(intV v_190 .i64 fun i_191=>(CF Tryz.prog 43 [(Value.int .u8 i_189),(Value.int .i64 i_191)] hp fun u_192 h_193=>(aggV u_192 fun l_194=>(ldV (x2)[3]? fun v_195=>(intV v_195 .i64 fun i_196=>(CF Tryz.prog 42 [(Value.pointer x0),(Value.int .i64 i_196),(Value.agg ⟨l_194⟩)] h_193 fun u_197 h_198=>(tup2V u_197 fun u_199 u_200=>(aggV u_199 fun l_201=>(intV u_200 .i64 fun i_202=>(if List.length l_201=26 then (if List.all l_201 one=true then (if 0+List.length l_201≤List.length zB then (F16_j1 x1 i_202 x2 (splice zB 0 l_201) h_198  K) else False) else False) else False)))))))))))))∧(ldV (x2)[1]? fun v_203=>(intV v_203 .u8 fun i_204=>(ldV (x2)[3]? fun v_205=>(intV v_205 .i64 fun i_206=>(ldV (x2)[4]? fun v_207=>(intV v_207 .i64 fun i_208=>(CF Tryz.prog 43 [(Value.int .u8 i_204),(Value.int .i64 i_208)] hp fun u_209 h_210=>(aggV u_209 fun l_211=>(CF Tryz.prog 42 [(Value.pointer x0),(Value.int .i64 i_206),(Value.agg ⟨l_211⟩)] h_210 fun u_212 h_213=>(tup2V u_212 fun u_214 u_215=>(aggV u_214 fun l_216=>(intV u_215 .i64 fun i_217=>(if List.length l_216=26 then (if List.all l_216 one=true then (if 0+List.length l_216≤List.length zB then (F16_j1 x1 i_217 x2 (splice zB 0 l_216) h_213  K) else False) else False) else False)))))))))))))∧(ldV (x2)[4]? fun v_218=>(intV v_218 .i64 fun i_219=>(ldV (x2)[3]? fun v_220=>(intV v_220 .i64 fun i_221=>(ldV (x2)[1]? fun v_222=>(intV v_222 .u8 fun i_223=>(CF Tryz.prog 43 [(Value.int .u8 i_223),(Value.int .i64 i_219)] hp fun u_224 h_225=>(aggV u_224 fun l_226=>(CF Tryz.prog 42 [(Value.pointer x0),(Value.int .i64 i_221),(Value.agg ⟨l_226⟩)] h_225 fun u_227 h_228=>(tup2V u_227 fun u_229 u_230=>(aggV u_229 fun l_231=>(intV u_230 .i64 fun i_232=>(if List.length l_231=26 then (if List.all l_231 one=true then (if 0+List.length l_231≤List.length zB then (F16_j1 x1 i_232 x2 (splice zB 0 l_231) h_228  K) else False) else False) else False)))))))))))))∧(ldV (x2)[3]? fun v_233=>(intV v_233 .i64 fun i_234=>(ldV (x2)[1]? fun v_235=>(intV v_235 .u8 fun i_236=>(ldV (x2)[4]? fun v_237=>(intV v_237 .i64 fun i_238=>(CF Tryz.prog 43 [(Value.int .u8 i_236),(Value.int .i64 i_238)] hp fun u_239 h_240=>(aggV u_239 fun l_241=>(CF Tryz.prog 42 [(Value.pointer x0),(Value.int .i64 i_234),(Value.agg ⟨l_241⟩)] h_240 fun u_242 h_243=>(tup2V u_242 fun u_244 u_245=>(aggV u_244 fun l_246=>(intV u_245 .i64 fun i_247=>(if List.length l_246=26 then (if List.all l_246 one=true then (if 0+List.length l_246≤List.length zB then (F16_j1 x1 i_247 x2 (splice zB 0 l_246) h_243  K) else False) else False) else False)))))))))))))) (ite2 ((i_2:Int)==1) ((ldV (x2)[3]? fun v_957=>(intV v_957 .i64 fun i_958=>(ldV (x2)[1]? fun v_959=>(intV v_959 .u8 fun i_960=>(ldV (x2)[4]? fun v_961=>(intV v_961 .i64 fun i_962=>(CF Tryz.prog 43 [(Value.int .u8 i_960),(Value.int .i64 i_962)] hp fun u_963 h_964=>(aggV u_963 fun l_965=>(ldV (x2)[2]? fun v_966=>(intV v_966 .u8 fun i_967=>(ldV (x2)[5]? fun v_968=>(intV v_968 .i64 fun i_969=>(CF Tryz.prog 45 [(Value.int .u8 i_967),(Value.int .i64 i_969)] h_964 fun u_970 h_971=>(aggV u_970 fun l_972=>(CF Tryz.prog 50 [(Value.pointer x0),(Value.int .i64 i_958),(Value.agg ⟨l_965⟩),(Value.agg ⟨l_972⟩)] h_971 fun u_973 h_974=>(tup2V u_973 fun u_975 u_976=>(aggV u_975 fun l_977=>(intV u_976 .i64 fun i_978=>(if List.length l_977=26 then (if List.all l_977 one=true then (if 0+List.length l_977≤List.length zB then (F16_j3 x1 i_978 x2 (splice zB 0 l_977) h_974  K) else False) else False) else False)))))))))))))))))))∧(ldV (x2)[3]? fun v_979=>(intV v_979 .i64 fun i_980=>(ldV (x2)[1]? fun v_981=>(intV v_981 .u8 fun i_982=>(ldV (x2)[4]? fun v_983=>(intV v_983 .i64 fun i_984=>(CF Tryz.prog 43 [(Value.int .u8 i_982),(Value.int .i64 i_984)] hp fun u_985 h_986=>(aggV u_985 fun l_987=>(ldV (x2)[2]? fun v_988=>(intV v_988 .u8 fun i_989=>(ldV (x2)[5]? fun v_990=>(intV v_990 .i64 fun i_991=>(CF Tryz.prog 45 [(Value.int .u8 i_989),(Value.int .i64 i_991)] h_986 fun u_992 h_993=>(aggV u_992 fun l_994=>(CF Tryz.prog 50 [(Value.pointer x0),(Value.int .i64 i_980),(Value.agg ⟨l_987⟩),(Value.agg ⟨l_994⟩)] h_993 fun u_995 h_996=>(tup2V u_995 fun u_997 u_998=>(aggV u_997 fun l_999=>(intV u_998 .i64 fun i_1000=>(if List.length l_999=26 then (if List.all l_999 one=true then (if 0+List.length l_999≤List.length zB then (F16_j3 x1 i_1000 x2 (splice zB 0 l_999) h_996  K) else False) else False) else False)))))))))))))))))))∧(ldV (x2)[3]? fun v_1001=>(intV v_1001 .i64 fun i_1002=>(ldV (x2)[1]? fun v_1003=>(intV v_1003 .u8 fun i_1004=>(ldV (x2)[4]? fun v_1005=>(intV v_1005 .i64 fun i_1006=>(CF Tryz.prog 43 [(Value.int .u8 i_1004),(Value.int .i64 i_1006)] hp fun u_1007 h_1008=>(aggV u_1007 fun l_1009=>(ldV (x2)[5]? fun v_1010=>(intV v_1010 .i64 fun i_1011=>(ldV (x2)[2]? fun v_1012=>(intV v_1012 .u8 fun i_1013=>(CF Tryz.prog 45 [(Value.int .u8 i_1013),(Value.int .i64 i_1011)] h_1008 fun u_1014 h_1015=>(aggV u_1014 fun l_1016=>(CF Tryz.prog 50 [(Value.pointer x0),(Value.int .i64 i_1002),(Value.agg ⟨l_1009⟩),(Value.agg ⟨l_1016⟩)] h_1015 fun u_1017 h_1018=>(tup2V u_1017 fun u_1019 u_1020=>(aggV u_1019 fun l_1021=>(intV u_1020 .i64 fun i_1022=>(if List.length l_1021=26 then (if List.all l_1021 one=true then (if 0+List.length l_1021≤List.length zB then (F16_j3 x1 i_1022 x2 (splice zB 0 l_1021) h_1018  K) else False) else False) else False)))))))))))))))))))∧(ldV (x2)[3]? fun v_1023=>(intV v_1023 .i64 fun i_1024=>(ldV (x2)[1]? fun v_1025=>(intV v_1025 .u8 fun i_1026=>(ldV (x2)[4]? fun v_1027=>(intV v_1027 .i64 fun i_1028=>(CF Tryz.prog 43 [(Value.int .u8 i_1026),(Value.int .i64 i_1028)] hp fun u_1029 h_1030=>(aggV u_1029 fun l_1031=>(ldV (x2)[2]? fun v_1032=>(intV v_1032 .u8 fun i_1033=>(ldV (x2)[5]? fun v_1034=>(intV v_1034 .i64 fun i_1035=>(CF Tryz.prog 45 [(Value.int .u8 i_1033),(Value.int .i64 i_1035)] h_1030 fun u_1036 h_1037=>(aggV u_1036 fun l_1038=>(CF Tryz.prog 50 [(Value.pointer x0),(Value.int .i64 i_1024),(Value.agg ⟨l_1031⟩),(Value.agg ⟨l_1038⟩)] h_1037 fun u_1039 h_1040=>(tup2V u_1039 fun u_1041 u_1042=>(aggV u_1041 fun l_1043=>(intV u_1042 .i64 fun i_1044=>(if List.length l_1043=26 then (if List.all l_1043 one=true then (if 0+List.length l_1043≤List.length zB then (F16_j3 x1 i_1044 x2 (splice zB 0 l_1043) h_1040  K) else False) else False) else False)))))))))))))))))))∧(ldV (x2)[3]? fun v_1045=>(intV v_1045 .i64 fun i_1046=>(ldV (x2)[1]? fun v_1047=>(intV v_1047 .u8 fun i_1048=>(ldV (x2)[2]? fun v_1049=>(intV v_1049 .u8 fun i_1050=>(ldV (x2)[5]? fun v_1051=>(intV v_1051 .i64 fun i_1052=>(ldV (x2)[4]? fun v_1053=>(intV v_1053 .i64 fun i_1054=>(CF Tryz.prog 43 [(Value.int .u8 i_1048),(Value.int .i64 i_1054)] hp fun u_1055 h_1056=>(aggV u_1055 fun l_1057=>(CF Tryz.prog 45 [(Value.int .u8 i_1050),(Value.int .i64 i_1052)] h_1056 fun u_1058 h_1059=>(aggV u_1058 fun l_1060=>(CF Tryz.prog 50 [(Value.pointer x0),(Value.int .i64 i_1046),(Value.agg ⟨l_1057⟩),(Value.agg ⟨l_1060⟩)] h_1059 fun u_1061 h_1062=>(tup2V u_1061 fun u_1063 u_1064=>(aggV u_1063 fun l_1065=>(intV u_1064 .i64 fun i_1066=>(if List.length l_1065=26 then (if List.all l_1065 one=true then (if 0+List.length l_1065≤List.length zB then (F16_j3 x1 i_1066 x2 (splice zB 0 l_1065) h_1062  K) else False) else False) else False)))))))))))))))))))∧(ldV (x2)[3]? fun v_1067=>(intV v_1067 .i64 fun i_1068=>(ldV (x2)[1]? fun v_1069=>(intV v_1069 .u8 fun i_1070=>(ldV (x2)[2]? fun v_1071=>(intV v_1071 .u8 fun i_1072=>(ldV (x2)[4]? fun v_1073=>(intV v_1073 .i64 fun i_1074=>(CF Tryz.prog 43 [(Value.int .u8 i_1070),(Value.int .i64 i_1074)] hp fun u_1075 h_1076=>(aggV u_1075 fun l_1077=>(ldV (x2)[5]? fun v_1078=>(intV v_1078 .i64 fun i_1079=>(CF Tryz.prog 45 [(Value.int .u8 i_1072),(Value.int .i64 i_1079)] h_1076 fun u_1080 h_1081=>(aggV u_1080 fun l_1082=>(CF Tryz.prog 50 [(Value.pointer x0),(Value.int .i64 i_1068),(Value.agg ⟨l_1077⟩),(Value.agg ⟨l_1082⟩)] h_1081 fun u_1083 h_1084=>(tup2V u_1083 fun u_1085 u_1086=>(aggV u_1085 fun l_1087=>(intV u_1086 .i64 fun i_1088=>(if List.length l_1087=26 then (if List.all l_1087 one=true then (if 0+List.length l_1087≤List.length zB then (F16_j3 x1 i_1088 x2 (splice zB 0 l_1087) h_1084  K) else False) else False) else False)))))))))))))))))))∧(ldV (x2)[3]? fun v_1089=>(intV v_1089 .i64 fun i_1090=>(ldV (x2)[1]? fun v_1091=>(intV v_1091 .u8 fun i_1092=>(ldV (x2)[5]? fun v_1093=>(intV v_1093 .i64 fun i_1094=>(ldV (x2)[4]? fun v_1095=>(intV v_1095 .i64 fun i_1096=>(CF Tryz.prog 43 [(Value.int .u8 i_1092),(Value.int .i64 i_1096)] hp fun u_1097 h_1098=>(aggV u_1097 fun l_1099=>(ldV (x2)[2]? fun v_1100=>(intV v_1100 .u8 fun i_1101=>(CF Tryz.prog 45 [(Value.int .u8 i_1101),(Value.int .i64 i_1094)] h_1098 fun u_1102 h_1103=>(aggV u_1102 fun l_1104=>(CF Tryz.prog 50 [(Value.pointer x0),(Value.int .i64 i_1090),(Value.agg ⟨l_1099⟩),(Value.agg ⟨l_1104⟩)] h_1103 fun u_1105 h_1106=>(tup2V u_1105 fun u_1107 u_1108=>(aggV u_1107 fun l_1109=>(intV u_1108 .i64 fun i_1110=>(if List.length l_1109=26 then (if List.all l_1109 one=true then (if 0+List.length l_1109≤List.length zB then (F16_j3 x1 i_1110 x2 (splice zB 0 l_1109) h_1106  K) else False) else False) else False)))))))))))))))))))∧(ldV (x2)[3]? fun v_1111=>(intV v_1111 .i64 fun i_1112=>(ldV (x2)[1]? fun v_1113=>(intV v_1113 .u8 fun i_1114=>(ldV (x2)[4]? fun v_1115=>(intV v_1115 .i64 fun i_1116=>(CF Tryz.prog 43 [(Value.int .u8 i_1114),(Value.int .i64 i_1116)] hp fun u_1117 h_1118=>(aggV u_1117 fun l_1119=>(ldV (x2)[2]? fun v_1120=>(intV v_1120 .u8 fun i_1121=>(ldV (x2)[5]? fun v_1122=>(intV v_1122 .i64 fun i_1123=>(CF Tryz.prog 45 [(Value.int .u8 i_1121),(Value.int .i64 i_1123)] h_1118 fun u_1124 h_1125=>(aggV u_1124 fun l_1126=>(CF Tryz.prog 50 [(Value.pointer x0),(Value.int .i64 i_1112),(Value.agg ⟨l_1119⟩),(Value.agg ⟨l_1126⟩)] h_1125 fun u_1127 h_1128=>(tup2V u_1127 fun u_1129 u_1130=>(aggV u_1129 fun l_1131=>(intV u_1130 .i64 fun i_1132=>(if List.length l_1131=26 then (if List.all l_1131 one=true then (if 0+List.length l_1131≤List.length zB then (F16_j3 x1 i_1132 x2 (splice zB 0 l_1131) h_1128  K) else False) else False) else False)))))))))))))))))))∧(ldV (x2)[3]? fun v_1133=>(intV v_1133 .i64 fun i_1134=>(ldV (x2)[4]? fun v_1135=>(intV v_1135 .i64 fun i_1136=>(ldV (x2)[2]? fun v_1137=>(intV v_1137 .u8 fun i_1138=>(ldV (x2)[5]? fun v_1139=>(intV v_1139 .i64 fun i_1140=>(ldV (x2)[1]? fun v_1141=>(intV v_1141 .u8 fun i_1142=>(CF Tryz.prog 43 [(Value.int .u8 i_1142),(Value.int .i64 i_1136)] hp fun u_1143 h_1144=>(aggV u_1143 fun l_1145=>(CF Tryz.prog 45 [(Value.int .u8 i_1138),(Value.int .i64 i_1140)] h_1144 fun u_1146 h_1147=>(aggV u_1146 fun l_1148=>(CF Tryz.prog 50 [(Value.pointer x0),(Value.int .i64 i_1134),(Value.agg ⟨l_1145⟩),(Value.agg ⟨l_1148⟩)] h_1147 fun u_1149 h_1150=>(tup2V u_1149 fun u_1151 u_1152=>(aggV u_1151 fun l_1153=>(intV u_1152 .i64 fun i_1154=>(if List.length l_1153=26 then (if List.all l_1153 one=true then (if 0+List.length l_1153≤List.length zB then (F16_j3 x1 i_1154 x2 (splice zB 0 l_1153) h_1150  K) else False) else False) else False)))))))))))))))))))∧(ldV (x2)[3]? fun v_1155=>(intV v_1155 .i64 fun i_1156=>(ldV (x2)[4]? fun v_1157=>(intV v_1157 .i64 fun i_1158=>(ldV (x2)[2]? fun v_1159=>(intV v_1159 .u8 fun i_1160=>(ldV (x2)[1]? fun v_1161=>(intV v_1161 .u8 fun i_1162=>(CF Tryz.prog 43 [(Value.int .u8 i_1162),(Value.int .i64 i_1158)] hp fun u_1163 h_1164=>(aggV u_1163 fun l_1165=>(ldV (x2)[5]? fun v_1166=>(intV v_1166 .i64 fun i_1167=>(CF Tryz.prog 45 [(Value.int .u8 i_1160),(Value.int .i64 i_1167)] h_1164 fun u_1168 h_1169=>(aggV u_1168 fun l_1170=>(CF Tryz.prog 50 [(Value.pointer x0),(Value.int .i64 i_1156),(Value.agg ⟨l_1165⟩),(Value.agg ⟨l_1170⟩)] h_1169 fun u_1171 h_1172=>(tup2V u_1171 fun u_1173 u_1174=>(aggV u_1173 fun l_1175=>(intV u_1174 .i64 fun i_1176=>(if List.length l_1175=26 then (if List.all l_1175 one=true then (if 0+List.length l_1175≤List.length zB then (F16_j3 x1 i_1176 x2 (splice zB 0 l_1175) h_1172  K) else False) else False) else False)))))))))))))))))))∧(ldV (x2)[3]? fun v_1177=>(intV v_1177 .i64 fun i_1178=>(ldV (x2)[4]? fun v_1179=>(intV v_1179 .i64 fun i_1180=>(ldV (x2)[5]? fun v_1181=>(intV v_1181 .i64 fun i_1182=>(ldV (x2)[1]? fun v_1183=>(intV v_1183 .u8 fun i_1184=>(CF Tryz.prog 43 [(Value.int .u8 i_1184),(Value.int .i64 i_1180)] hp fun u_1185 h_1186=>(aggV u_1185 fun l_1187=>(ldV (x2)[2]? fun v_1188=>(intV v_1188 .u8 fun i_1189=>(CF Tryz.prog 45 [(Value.int .u8 i_1189),(Value.int .i64 i_1182)] h_1186 fun u_1190 h_1191=>(aggV u_1190 fun l_1192=>(CF Tryz.prog 50 [(Value.pointer x0),(Value.int .i64 i_1178),(Value.agg ⟨l_1187⟩),(Value.agg ⟨l_1192⟩)] h_1191 fun u_1193 h_1194=>(tup2V u_1193 fun u_1195 u_1196=>(aggV u_1195 fun l_1197=>(intV u_1196 .i64 fun i_1198=>(if List.length l_1197=26 then (if List.all l_1197 one=true then (if 0+List.length l_1197≤List.length zB then (F16_j3 x1 i_1198 x2 (splice zB 0 l_1197) h_1194  K) else False) else False) else False)))))))))))))))))))∧(ldV (x2)[3]? fun v_1199=>(intV v_1199 .i64 fun i_1200=>(ldV (x2)[4]? fun v_1201=>(intV v_1201 .i64 fun i_1202=>(ldV (x2)[1]? fun v_1203=>(intV v_1203 .u8 fun i_1204=>(CF Tryz.prog 43 [(Value.int .u8 i_1204),(Value.int .i64 i_1202)] hp fun u_1205 h_1206=>(aggV u_1205 fun l_1207=>(ldV (x2)[2]? fun v_1208=>(intV v_1208 .u8 fun i_1209=>(ldV (x2)[5]? fun v_1210=>(intV v_1210 .i64 fun i_1211=>(CF Tryz.prog 45 [(Value.int .u8 i_1209),(Value.int .i64 i_1211)] h_1206 fun u_1212 h_1213=>(aggV u_1212 fun l_1214=>(CF Tryz.prog 50 [(Value.pointer x0),(Value.int .i64 i_1200),(Value.agg ⟨l_1207⟩),(Value.agg ⟨l_1214⟩)] h_1213 fun u_1215 h_1216=>(tup2V u_1215 fun u_1217 u_1218=>(aggV u_1217 fun l_1219=>(intV u_1218 .i64 fun i_1220=>(if List.length l_1219=26 then (if List.all l_1219 one=true then (if 0+List.length l_1219≤List.length zB then (F16_j3 x1 i_1220 x2 (splice zB 0 l_1219) h_1216  K) else False) else False) else False)))))))))))))))))))∧(ldV (x2)[3]? fun v_1221=>(intV v_1221 .i64 fun i_1222=>(ldV (x2)[2]? fun v_1223=>(intV v_1223 .u8 fun i_1224=>(ldV (x2)[5]? fun v_1225=>(intV v_1225 .i64 fun i_1226=>(ldV (x2)[1]? fun v_1227=>(intV v_1227 .u8 fun i_1228=>(ldV (x2)[4]? fun v_1229=>(intV v_1229 .i64 fun i_1230=>(CF Tryz.prog 43 [(Value.int .u8 i_1228),(Value.int .i64 i_1230)] hp fun u_1231 h_1232=>(aggV u_1231 fun l_1233=>(CF Tryz.prog 45 [(Value.int .u8 i_1224),(Value.int .i64 i_1226)] h_1232 fun u_1234 h_1235=>(aggV u_1234 fun l_1236=>(CF Tryz.prog 50 [(Value.pointer x0),(Value.int .i64 i_1222),(Value.agg ⟨l_1233⟩),(Value.agg ⟨l_1236⟩)] h_1235 fun u_1237 h_1238=>(tup2V u_1237 fun u_1239 u_1240=>(aggV u_1239 fun l_1241=>(intV u_1240 .i64 fun i_1242=>(if List.length l_1241=26 then (if List.all l_1241 one=true then (if 0+List.length l_1241≤List.length zB then (F16_j3 x1 i_1242 x2 (splice zB 0 l_1241) h_1238  K) else False) else False) else False)))))))))))))))))))∧(ldV (x2)[3]? fun v_1243=>(intV v_1243 .i64 fun i_1244=>(ldV (x2)[2]? fun v_1245=>(intV v_1245 .u8 fun i_1246=>(ldV (x2)[1]? fun v_1247=>(intV v_1247 .u8 fun i_1248=>(ldV (x2)[4]? fun v_1249=>(intV v_1249 .i64 fun i_1250=>(CF Tryz.prog 43 [(Value.int .u8 i_1248),(Value.int .i64 i_1250)] hp fun u_1251 h_1252=>(aggV u_1251 fun l_1253=>(ldV (x2)[5]? fun v_1254=>(intV v_1254 .i64 fun i_1255=>(CF Tryz.prog 45 [(Value.int .u8 i_1246),(Value.int .i64 i_1255)] h_1252 fun u_1256 h_1257=>(aggV u_1256 fun l_1258=>(CF Tryz.prog 50 [(Value.pointer x0),(Value.int .i64 i_1244),(Value.agg ⟨l_1253⟩),(Value.agg ⟨l_1258⟩)] h_1257 fun u_1259 h_1260=>(tup2V u_1259 fun u_1261 u_1262=>(aggV u_1261 fun l_1263=>(intV u_1262 .i64 fun i_1264=>(if List.length l_1263=26 then (if List.all l_1263 one=true then (if 0+List.length l_1263≤List.length zB then (F16_j3 x1 i_1264 x2 (splice zB 0 l_1263) h_1260  K) else False) else False) else False)))))))))))))))))))∧(ldV (x2)[3]? fun v_1265=>(intV v_1265 .i64 fun i_1266=>(ldV (x2)[5]? fun v_1267=>(intV v_1267 .i64 fun i_1268=>(ldV (x2)[1]? fun v_1269=>(intV v_1269 .u8 fun i_1270=>(ldV (x2)[4]? fun v_1271=>(intV v_1271 .i64 fun i_1272=>(CF Tryz.prog 43 [(Value.int .u8 i_1270),(Value.int .i64 i_1272)] hp fun u_1273 h_1274=>(aggV u_1273 fun l_1275=>(ldV (x2)[2]? fun v_1276=>(intV v_1276 .u8 fun i_1277=>(CF Tryz.prog 45 [(Value.int .u8 i_1277),(Value.int .i64 i_1268)] h_1274 fun u_1278 h_1279=>(aggV u_1278 fun l_1280=>(CF Tryz.prog 50 [(Value.pointer x0),(Value.int .i64 i_1266),(Value.agg ⟨l_1275⟩),(Value.agg ⟨l_1280⟩)] h_1279 fun u_1281 h_1282=>(tup2V u_1281 fun u_1283 u_1284=>(aggV u_1283 fun l_1285=>(intV u_1284 .i64 fun i_1286=>(if List.length l_1285=26 then (if List.all l_1285 one=true then (if 0+List.length l_1285≤List.length zB then (F16_j3 x1 i_1286 x2 (splice zB 0 l_1285) h_1282  K) else False) else False) else False)))))))))))))))))))∧(ldV (x2)[3]? fun v_1287=>(intV v_1287 .i64 fun i_1288=>(ldV (x2)[1]? fun v_1289=>(intV v_1289 .u8 fun i_1290=>(ldV (x2)[4]? fun v_1291=>(intV v_1291 .i64 fun i_1292=>(CF Tryz.prog 43 [(Value.int .u8 i_1290),(Value.int .i64 i_1292)] hp fun u_1293 h_1294=>(aggV u_1293 fun l_1295=>(ldV (x2)[2]? fun v_1296=>(intV v_1296 .u8 fun i_1297=>(ldV (x2)[5]? fun v_1298=>(intV v_1298 .i64 fun i_1299=>(CF Tryz.prog 45 [(Value.int .u8 i_1297),(Value.int .i64 i_1299)] h_1294 fun u_1300 h_1301=>(aggV u_1300 fun l_1302=>(CF Tryz.prog 50 [(Value.pointer x0),(Value.int .i64 i_1288),(Value.agg ⟨l_1295⟩),(Value.agg ⟨l_1302⟩)] h_1301 fun u_1303 h_1304=>(tup2V u_1303 fun u_1305 u_1306=>(aggV u_1305 fun l_1307=>(intV u_1306 .i64 fun i_1308=>(if List.length l_1307=26 then (if List.all l_1307 one=true then (if 0+List.length l_1307≤List.length zB then (F16_j3 x1 i_1308 x2 (splice zB 0 l_1307) h_1304  K) else False) else False) else False)))))))))))))))))))∧(ldV (x2)[1]? fun v_1309=>(intV v_1309 .u8 fun i_1310=>(ldV (x2)[4]? fun v_1311=>(intV v_1311 .i64 fun i_1312=>(CF Tryz.prog 43 [(Value.int .u8 i_1310),(Value.int .i64 i_1312)] hp fun u_1313 h_1314=>(aggV u_1313 fun l_1315=>(ldV (x2)[2]? fun v_1316=>(intV v_1316 .u8 fun i_1317=>(ldV (x2)[5]? fun v_1318=>(intV v_1318 .i64 fun i_1319=>(CF Tryz.prog 45 [(Value.int .u8 i_1317),(Value.int .i64 i_1319)] h_1314 fun u_1320 h_1321=>(aggV u_1320 fun l_1322=>(ldV (x2)[3]? fun v_1323=>(intV v_1323 .i64 fun i_1324=>(CF Tryz.prog 50 [(Value.pointer x0),(Value.int .i64 i_1324),(Value.agg ⟨l_1315⟩),(Value.agg ⟨l_1322⟩)] h_1321 fun u_1325 h_1326=>(tup2V u_1325 fun u_1327 u_1328=>(aggV u_1327 fun l_1329=>(intV u_1328 .i64 fun i_1330=>(if List.length l_1329=26 then (if List.all l_1329 one=true then (if 0+List.length l_1329≤List.length zB then (F16_j3 x1 i_1330 x2 (splice zB 0 l_1329) h_1326  K) else False) else False) else False)))))))))))))))))))∧(ldV (x2)[1]? fun v_1331=>(intV v_1331 .u8 fun i_1332=>(ldV (x2)[4]? fun v_1333=>(intV v_1333 .i64 fun i_1334=>(CF Tryz.prog 43 [(Value.int .u8 i_1332),(Value.int .i64 i_1334)] hp fun u_1335 h_1336=>(aggV u_1335 fun l_1337=>(ldV (x2)[2]? fun v_1338=>(intV v_1338 .u8 fun i_1339=>(ldV (x2)[3]? fun v_1340=>(intV v_1340 .i64 fun i_1341=>(ldV (x2)[5]? fun v_1342=>(intV v_1342 .i64 fun i_1343=>(CF Tryz.prog 45 [(Value.int .u8 i_1339),(Value.int .i64 i_1343)] h_1336 fun u_1344 h_1345=>(aggV u_1344 fun l_1346=>(CF Tryz.prog 50 [(Value.pointer x0),(Value.int .i64 i_1341),(Value.agg ⟨l_1337⟩),(Value.agg ⟨l_1346⟩)] h_1345 fun u_1347 h_1348=>(tup2V u_1347 fun u_1349 u_1350=>(aggV u_1349 fun l_1351=>(intV u_1350 .i64 fun i_1352=>(if List.length l_1351=26 then (if List.all l_1351 one=true then (if 0+List.length l_1351≤List.length zB then (F16_j3 x1 i_1352 x2 (splice zB 0 l_1351) h_1348  K) else False) else False) else False)))))))))))))))))))∧(ldV (x2)[1]? fun v_1353=>(intV v_1353 .u8 fun i_1354=>(ldV (x2)[4]? fun v_1355=>(intV v_1355 .i64 fun i_1356=>(CF Tryz.prog 43 [(Value.int .u8 i_1354),(Value.int .i64 i_1356)] hp fun u_1357 h_1358=>(aggV u_1357 fun l_1359=>(ldV (x2)[5]? fun v_1360=>(intV v_1360 .i64 fun i_1361=>(ldV (x2)[3]? fun v_1362=>(intV v_1362 .i64 fun i_1363=>(ldV (x2)[2]? fun v_1364=>(intV v_1364 .u8 fun i_1365=>(CF Tryz.prog 45 [(Value.int .u8 i_1365),(Value.int .i64 i_1361)] h_1358 fun u_1366 h_1367=>(aggV u_1366 fun l_1368=>(CF Tryz.prog 50 [(Value.pointer x0),(Value.int .i64 i_1363),(Value.agg ⟨l_1359⟩),(Value.agg ⟨l_1368⟩)] h_1367 fun u_1369 h_1370=>(tup2V u_1369 fun u_1371 u_1372=>(aggV u_1371 fun l_1373=>(intV u_1372 .i64 fun i_1374=>(if List.length l_1373=26 then (if List.all l_1373 one=true then (if 0+List.length l_1373≤List.length zB then (F16_j3 x1 i_1374 x2 (splice zB 0 l_1373) h_1370  K) else False) else False) else False)))))))))))))))))))∧(ldV (x2)[1]? fun v_1375=>(intV v_1375 .u8 fun i_1376=>(ldV (x2)[4]? fun v_1377=>(intV v_1377 .i64 fun i_1378=>(CF Tryz.prog 43 [(Value.int .u8 i_1376),(Value.int .i64 i_1378)] hp fun u_1379 h_1380=>(aggV u_1379 fun l_1381=>(ldV (x2)[3]? fun v_1382=>(intV v_1382 .i64 fun i_1383=>(ldV (x2)[2]? fun v_1384=>(intV v_1384 .u8 fun i_1385=>(ldV (x2)[5]? fun v_1386=>(intV v_1386 .i64 fun i_1387=>(CF Tryz.prog 45 [(Value.int .u8 i_1385),(Value.int .i64 i_1387)] h_1380 fun u_1388 h_1389=>(aggV u_1388 fun l_1390=>(CF Tryz.prog 50 [(Value.pointer x0),(Value.int .i64 i_1383),(Value.agg ⟨l_1381⟩),(Value.agg ⟨l_1390⟩)] h_1389 fun u_1391 h_1392=>(tup2V u_1391 fun u_1393 u_1394=>(aggV u_1393 fun l_1395=>(intV u_1394 .i64 fun i_1396=>(if List.length l_1395=26 then (if List.all l_1395 one=true then (if 0+List.length l_1395≤List.length zB then (F16_j3 x1 i_1396 x2 (splice zB 0 l_1395) h_1392  K) else False) else False) else False)))))))))))))))))))∧(ldV (x2)[1]? fun v_1397=>(intV v_1397 .u8 fun i_1398=>(ldV (x2)[2]? fun v_1399=>(intV v_1399 .u8 fun i_1400=>(ldV (x2)[5]? fun v_1401=>(intV v_1401 .i64 fun i_1402=>(ldV (x2)[3]? fun v_1403=>(intV v_1403 .i64 fun i_1404=>(ldV (x2)[4]? fun v_1405=>(intV v_1405 .i64 fun i_1406=>(CF Tryz.prog 43 [(Value.int .u8 i_1398),(Value.int .i64 i_1406)] hp fun u_1407 h_1408=>(aggV u_1407 fun l_1409=>(CF Tryz.prog 45 [(Value.int .u8 i_1400),(Value.int .i64 i_1402)] h_1408 fun u_1410 h_1411=>(aggV u_1410 fun l_1412=>(CF Tryz.prog 50 [(Value.pointer x0),(Value.int .i64 i_1404),(Value.agg ⟨l_1409⟩),(Value.agg ⟨l_1412⟩)] h_1411 fun u_1413 h_1414=>(tup2V u_1413 fun u_1415 u_1416=>(aggV u_1415 fun l_1417=>(intV u_1416 .i64 fun i_1418=>(if List.length l_1417=26 then (if List.all l_1417 one=true then (if 0+List.length l_1417≤List.length zB then (F16_j3 x1 i_1418 x2 (splice zB 0 l_1417) h_1414  K) else False) else False) else False)))))))))))))))))))∧(ldV (x2)[1]? fun v_1419=>(intV v_1419 .u8 fun i_1420=>(ldV (x2)[2]? fun v_1421=>(intV v_1421 .u8 fun i_1422=>(ldV (x2)[3]? fun v_1423=>(intV v_1423 .i64 fun i_1424=>(ldV (x2)[4]? fun v_1425=>(intV v_1425 .i64 fun i_1426=>(CF Tryz.prog 43 [(Value.int .u8 i_1420),(Value.int .i64 i_1426)] hp fun u_1427 h_1428=>(aggV u_1427 fun l_1429=>(ldV (x2)[5]? fun v_1430=>(intV v_1430 .i64 fun i_1431=>(CF Tryz.prog 45 [(Value.int .u8 i_1422),(Value.int .i64 i_1431)] h_1428 fun u_1432 h_1433=>(aggV u_1432 fun l_1434=>(CF Tryz.prog 50 [(Value.pointer x0),(Value.int .i64 i_1424),(Value.agg ⟨l_1429⟩),(Value.agg ⟨l_1434⟩)] h_1433 fun u_1435 h_1436=>(tup2V u_1435 fun u_1437 u_1438=>(aggV u_1437 fun l_1439=>(intV u_1438 .i64 fun i_1440=>(if List.length l_1439=26 then (if List.all l_1439 one=true then (if 0+List.length l_1439≤List.length zB then (F16_j3 x1 i_1440 x2 (splice zB 0 l_1439) h_1436  K) else False) else False) else False)))))))))))))))))))∧(ldV (x2)[1]? fun v_1441=>(intV v_1441 .u8 fun i_1442=>(ldV (x2)[5]? fun v_1443=>(intV v_1443 .i64 fun i_1444=>(ldV (x2)[3]? fun v_1445=>(intV v_1445 .i64 fun i_1446=>(ldV (x2)[4]? fun v_1447=>(intV v_1447 .i64 fun i_1448=>(CF Tryz.prog 43 [(Value.int .u8 i_1442),(Value.int .i64 i_1448)] hp fun u_1449 h_1450=>(aggV u_1449 fun l_1451=>(ldV (x2)[2]? fun v_1452=>(intV v_1452 .u8 fun i_1453=>(CF Tryz.prog 45 [(Value.int .u8 i_1453),(Value.int .i64 i_1444)] h_1450 fun u_1454 h_1455=>(aggV u_1454 fun l_1456=>(CF Tryz.prog 50 [(Value.pointer x0),(Value.int .i64 i_1446),(Value.agg ⟨l_1451⟩),(Value.agg ⟨l_1456⟩)] h_1455 fun u_1457 h_1458=>(tup2V u_1457 fun u_1459 u_1460=>(aggV u_1459 fun l_1461=>(intV u_1460 .i64 fun i_1462=>(if List.length l_1461=26 then (if List.all l_1461 one=true then (if 0+List.length l_1461≤List.length zB then (F16_j3 x1 i_1462 x2 (splice zB 0 l_1461) h_1458  K) else False) else False) else False)))))))))))))))))))∧(ldV (x2)[1]? fun v_1463=>(intV v_1463 .u8 fun i_1464=>(ldV (x2)[3]? fun v_1465=>(intV v_1465 .i64 fun i_1466=>(ldV (x2)[4]? fun v_1467=>(intV v_1467 .i64 fun i_1468=>(CF Tryz.prog 43 [(Value.int .u8 i_1464),(Value.int .i64 i_1468)] hp fun u_1469 h_1470=>(aggV u_1469 fun l_1471=>(ldV (x2)[2]? fun v_1472=>(intV v_1472 .u8 fun i_1473=>(ldV (x2)[5]? fun v_1474=>(intV v_1474 .i64 fun i_1475=>(CF Tryz.prog 45 [(Value.int .u8 i_1473),(Value.int .i64 i_1475)] h_1470 fun u_1476 h_1477=>(aggV u_1476 fun l_1478=>(CF Tryz.prog 50 [(Value.pointer x0),(Value.int .i64 i_1466),(Value.agg ⟨l_1471⟩),(Value.agg ⟨l_1478⟩)] h_1477 fun u_1479 h_1480=>(tup2V u_1479 fun u_1481 u_1482=>(aggV u_1481 fun l_1483=>(intV u_1482 .i64 fun i_1484=>(if List.length l_1483=26 then (if List.all l_1483 one=true then (if 0+List.length l_1483≤List.length zB then (F16_j3 x1 i_1484 x2 (splice zB 0 l_1483) h_1480  K) else False) else False) else False)))))))))))))))))))∧(ldV (x2)[4]? fun v_1485=>(intV v_1485 .i64 fun i_1486=>(ldV (x2)[2]? fun v_1487=>(intV v_1487 .u8 fun i_1488=>(ldV (x2)[5]? fun v_1489=>(intV v_1489 .i64 fun i_1490=>(ldV (x2)[3]? fun v_1491=>(intV v_1491 .i64 fun i_1492=>(ldV (x2)[1]? fun v_1493=>(intV v_1493 .u8 fun i_1494=>(CF Tryz.prog 43 [(Value.int .u8 i_1494),(Value.int .i64 i_1486)] hp fun u_1495 h_1496=>(aggV u_1495 fun l_1497=>(CF Tryz.prog 45 [(Value.int .u8 i_1488),(Value.int .i64 i_1490)] h_1496 fun u_1498 h_1499=>(aggV u_1498 fun l_1500=>(CF Tryz.prog 50 [(Value.pointer x0),(Value.int .i64 i_1492),(Value.agg ⟨l_1497⟩),(Value.agg ⟨l_1500⟩)] h_1499 fun u_1501 h_1502=>(tup2V u_1501 fun u_1503 u_1504=>(aggV u_1503 fun l_1505=>(intV u_1504 .i64 fun i_1506=>(if List.length l_1505=26 then (if List.all l_1505 one=true then (if 0+List.length l_1505≤List.length zB then (F16_j3 x1 i_1506 x2 (splice zB 0 l_1505) h_1502  K) else False) else False) else False)))))))))))))))))))∧(ldV (x2)[4]? fun v_1507=>(intV v_1507 .i64 fun i_1508=>(ldV (x2)[2]? fun v_1509=>(intV v_1509 .u8 fun i_1510=>(ldV (x2)[3]? fun v_1511=>(intV v_1511 .i64 fun i_1512=>(ldV (x2)[1]? fun v_1513=>(intV v_1513 .u8 fun i_1514=>(CF Tryz.prog 43 [(Value.int .u8 i_1514),(Value.int .i64 i_1508)] hp fun u_1515 h_1516=>(aggV u_1515 fun l_1517=>(ldV (x2)[5]? fun v_1518=>(intV v_1518 .i64 fun i_1519=>(CF Tryz.prog 45 [(Value.int .u8 i_1510),(Value.int .i64 i_1519)] h_1516 fun u_1520 h_1521=>(aggV u_1520 fun l_1522=>(CF Tryz.prog 50 [(Value.pointer x0),(Value.int .i64 i_1512),(Value.agg ⟨l_1517⟩),(Value.agg ⟨l_1522⟩)] h_1521 fun u_1523 h_1524=>(tup2V u_1523 fun u_1525 u_1526=>(aggV u_1525 fun l_1527=>(intV u_1526 .i64 fun i_1528=>(if List.length l_1527=26 then (if List.all l_1527 one=true then (if 0+List.length l_1527≤List.length zB then (F16_j3 x1 i_1528 x2 (splice zB 0 l_1527) h_1524  K) else False) else False) else False)))))))))))))))))))∧(ldV (x2)[4]? fun v_1529=>(intV v_1529 .i64 fun i_1530=>(ldV (x2)[5]? fun v_1531=>(intV v_1531 .i64 fun i_1532=>(ldV (x2)[3]? fun v_1533=>(intV v_1533 .i64 fun i_1534=>(ldV (x2)[1]? fun v_1535=>(intV v_1535 .u8 fun i_1536=>(CF Tryz.prog 43 [(Value.int .u8 i_1536),(Value.int .i64 i_1530)] hp fun u_1537 h_1538=>(aggV u_1537 fun l_1539=>(ldV (x2)[2]? fun v_1540=>(intV v_1540 .u8 fun i_1541=>(CF Tryz.prog 45 [(Value.int .u8 i_1541),(Value.int .i64 i_1532)] h_1538 fun u_1542 h_1543=>(aggV u_1542 fun l_1544=>(CF Tryz.prog 50 [(Value.pointer x0),(Value.int .i64 i_1534),(Value.agg ⟨l_1539⟩),(Value.agg ⟨l_1544⟩)] h_1543 fun u_1545 h_1546=>(tup2V u_1545 fun u_1547 u_1548=>(aggV u_1547 fun l_1549=>(intV u_1548 .i64 fun i_1550=>(if List.length l_1549=26 then (if List.all l_1549 one=true then (if 0+List.length l_1549≤List.length zB then (F16_j3 x1 i_1550 x2 (splice zB 0 l_1549) h_1546  K) else False) else False) else False)))))))))))))))))))∧(ldV (x2)[4]? fun v_1551=>(intV v_1551 .i64 fun i_1552=>(ldV (x2)[3]? fun v_1553=>(intV v_1553 .i64 fun i_1554=>(ldV (x2)[1]? fun v_1555=>(intV v_1555 .u8 fun i_1556=>(CF Tryz.prog 43 [(Value.int .u8 i_1556),(Value.int .i64 i_1552)] hp fun u_1557 h_1558=>(aggV u_1557 fun l_1559=>(ldV (x2)[2]? fun v_1560=>(intV v_1560 .u8 fun i_1561=>(ldV (x2)[5]? fun v_1562=>(intV v_1562 .i64 fun i_1563=>(CF Tryz.prog 45 [(Value.int .u8 i_1561),(Value.int .i64 i_1563)] h_1558 fun u_1564 h_1565=>(aggV u_1564 fun l_1566=>(CF Tryz.prog 50 [(Value.pointer x0),(Value.int .i64 i_1554),(Value.agg ⟨l_1559⟩),(Value.agg ⟨l_1566⟩)] h_1565 fun u_1567 h_1568=>(tup2V u_1567 fun u_1569 u_1570=>(aggV u_1569 fun l_1571=>(intV u_1570 .i64 fun i_1572=>(if List.length l_1571=26 then (if List.all l_1571 one=true then (if 0+List.length l_1571≤List.length zB then (F16_j3 x1 i_1572 x2 (splice zB 0 l_1571) h_1568  K) else False) else False) else False)))))))))))))))))))∧(ldV (x2)[2]? fun v_1573=>(intV v_1573 .u8 fun i_1574=>(ldV (x2)[5]? fun v_1575=>(intV v_1575 .i64 fun i_1576=>(ldV (x2)[3]? fun v_1577=>(intV v_1577 .i64 fun i_1578=>(ldV (x2)[1]? fun v_1579=>(intV v_1579 .u8 fun i_1580=>(ldV (x2)[4]? fun v_1581=>(intV v_1581 .i64 fun i_1582=>(CF Tryz.prog 43 [(Value.int .u8 i_1580),(Value.int .i64 i_1582)] hp fun u_1583 h_1584=>(aggV u_1583 fun l_1585=>(CF Tryz.prog 45 [(Value.int .u8 i_1574),(Value.int .i64 i_1576)] h_1584 fun u_1586 h_1587=>(aggV u_1586 fun l_1588=>(CF Tryz.prog 50 [(Value.pointer x0),(Value.int .i64 i_1578),(Value.agg ⟨l_1585⟩),(Value.agg ⟨l_1588⟩)] h_1587 fun u_1589 h_1590=>(tup2V u_1589 fun u_1591 u_1592=>(aggV u_1591 fun l_1593=>(intV u_1592 .i64 fun i_1594=>(if List.length l_1593=26 then (if List.all l_1593 one=true then (if 0+List.length l_1593≤List.length zB then (F16_j3 x1 i_1594 x2 (splice zB 0 l_1593) h_1590  K) else False) else False) else False)))))))))))))))))))∧(ldV (x2)[2]? fun v_1595=>(intV v_1595 .u8 fun i_1596=>(ldV (x2)[3]? fun v_1597=>(intV v_1597 .i64 fun i_1598=>(ldV (x2)[1]? fun v_1599=>(intV v_1599 .u8 fun i_1600=>(ldV (x2)[4]? fun v_1601=>(intV v_1601 .i64 fun i_1602=>(CF Tryz.prog 43 [(Value.int .u8 i_1600),(Value.int .i64 i_1602)] hp fun u_1603 h_1604=>(aggV u_1603 fun l_1605=>(ldV (x2)[5]? fun v_1606=>(intV v_1606 .i64 fun i_1607=>(CF Tryz.prog 45 [(Value.int .u8 i_1596),(Value.int .i64 i_1607)] h_1604 fun u_1608 h_1609=>(aggV u_1608 fun l_1610=>(CF Tryz.prog 50 [(Value.pointer x0),(Value.int .i64 i_1598),(Value.agg ⟨l_1605⟩),(Value.agg ⟨l_1610⟩)] h_1609 fun u_1611 h_1612=>(tup2V u_1611 fun u_1613 u_1614=>(aggV u_1613 fun l_1615=>(intV u_1614 .i64 fun i_1616=>(if List.length l_1615=26 then (if List.all l_1615 one=true then (if 0+List.length l_1615≤List.length zB then (F16_j3 x1 i_1616 x2 (splice zB 0 l_1615) h_1612  K) else False) else False) else False)))))))))))))))))))∧(ldV (x2)[5]? fun v_1617=>(intV v_1617 .i64 fun i_1618=>(ldV (x2)[3]? fun v_1619=>(intV v_1619 .i64 fun i_1620=>(ldV (x2)[1]? fun v_1621=>(intV v_1621 .u8 fun i_1622=>(ldV (x2)[4]? fun v_1623=>(intV v_1623 .i64 fun i_1624=>(CF Tryz.prog 43 [(Value.int .u8 i_1622),(Value.int .i64 i_1624)] hp fun u_1625 h_1626=>(aggV u_1625 fun l_1627=>(ldV (x2)[2]? fun v_1628=>(intV v_1628 .u8 fun i_1629=>(CF Tryz.prog 45 [(Value.int .u8 i_1629),(Value.int .i64 i_1618)] h_1626 fun u_1630 h_1631=>(aggV u_1630 fun l_1632=>(CF Tryz.prog 50 [(Value.pointer x0),(Value.int .i64 i_1620),(Value.agg ⟨l_1627⟩),(Value.agg ⟨l_1632⟩)] h_1631 fun u_1633 h_1634=>(tup2V u_1633 fun u_1635 u_1636=>(aggV u_1635 fun l_1637=>(intV u_1636 .i64 fun i_1638=>(if List.length l_1637=26 then (if List.all l_1637 one=true then (if 0+List.length l_1637≤List.length zB then (F16_j3 x1 i_1638 x2 (splice zB 0 l_1637) h_1634  K) else False) else False) else False)))))))))))))))))))∧(ldV (x2)[3]? fun v_1639=>(intV v_1639 .i64 fun i_1640=>(ldV (x2)[1]? fun v_1641=>(intV v_1641 .u8 fun i_1642=>(ldV (x2)[4]? fun v_1643=>(intV v_1643 .i64 fun i_1644=>(CF Tryz.prog 43 [(Value.int .u8 i_1642),(Value.int .i64 i_1644)] hp fun u_1645 h_1646=>(aggV u_1645 fun l_1647=>(ldV (x2)[2]? fun v_1648=>(intV v_1648 .u8 fun i_1649=>(ldV (x2)[5]? fun v_1650=>(intV v_1650 .i64 fun i_1651=>(CF Tryz.prog 45 [(Value.int .u8 i_1649),(Value.int .i64 i_1651)] h_1646 fun u_1652 h_1653=>(aggV u_1652 fun l_1654=>(CF Tryz.prog 50 [(Value.pointer x0),(Value.int .i64 i_1640),(Value.agg ⟨l_1647⟩),(Value.agg ⟨l_1654⟩)] h_1653 fun u_1655 h_1656=>(tup2V u_1655 fun u_1657 u_1658=>(aggV u_1657 fun l_1659=>(intV u_1658 .i64 fun i_1660=>(if List.length l_1659=26 then (if List.all l_1659 one=true then (if 0+List.length l_1659≤List.length zB then (F16_j3 x1 i_1660 x2 (splice zB 0 l_1659) h_1656  K) else False) else False) else False)))))))))))))))))))) (ite2 ((i_2:Int)==2) ((ldV (x2)[3]? fun v_1786=>(intV v_1786 .i64 fun i_1787=>(ldV (x2)[1]? fun v_1788=>(intV v_1788 .u8 fun i_1789=>(ldV (x2)[4]? fun v_1790=>(intV v_1790 .i64 fun i_1791=>(CF Tryz.prog 43 [(Value.int .u8 i_1789),(Value.int .i64 i_1791)] hp fun u_1792 h_1793=>(aggV u_1792 fun l_1794=>(CF Tryz.prog 52 [(Value.pointer x0),(Value.int .i64 i_1787),(Value.agg ⟨l_1794⟩)] h_1793 fun u_1795 h_1796=>(tup2V u_1795 fun u_1797 u_1798=>(aggV u_1797 fun l_1799=>(intV u_1798 .i64 fun i_1800=>(if List.length l_1799=26 then (if List.all l_1799 one=true then (if 0+List.length l_1799≤List.length zB then (F16_j5 x1 i_1800 x2 (splice zB 0 l_1799) h_1796  K) else False) else False) else False)))))))))))))∧(ldV (x2)[3]? fun v_1801=>(intV v_1801 .i64 fun i_1802=>(ldV (x2)[1]? fun v_1803=>(intV v_1803 .u8 fun i_1804=>(ldV (x2)[4]? fun v_1805=>(intV v_1805 .i64 fun i_1806=>(CF Tryz.prog 43 [(Value.int .u8 i_1804),(Value.int .i64 i_1806)] hp fun u_1807 h_1808=>(aggV u_1807 fun l_1809=>(CF Tryz.prog 52 [(Value.pointer x0),(Value.int .i64 i_1802),(Value.agg ⟨l_1809⟩)] h_1808 fun u_1810 h_1811=>(tup2V u_1810 fun u_1812 u_1813=>(aggV u_1812 fun l_1814=>(intV u_1813 .i64 fun i_1815=>(if List.length l_1814=26 then (if List.all l_1814 one=true then (if 0+List.length l_1814≤List.length zB then (F16_j5 x1 i_1815 x2 (splice zB 0 l_1814) h_1811  K) else False) else False) else False)))))))))))))∧(ldV (x2)[3]? fun v_1816=>(intV v_1816 .i64 fun i_1817=>(ldV (x2)[4]? fun v_1818=>(intV v_1818 .i64 fun i_1819=>(ldV (x2)[1]? fun v_1820=>(intV v_1820 .u8 fun i_1821=>(CF Tryz.prog 43 [(Value.int .u8 i_1821),(Value.int .i64 i_1819)] hp fun u_1822 h_1823=>(aggV u_1822 fun l_1824=>(CF Tryz.prog 52 [(Value.pointer x0),(Value.int .i64 i_1817),(Value.agg ⟨l_1824⟩)] h_1823 fun u_1825 h_1826=>(tup2V u_1825 fun u_1827 u_1828=>(aggV u_1827 fun l_1829=>(intV u_1828 .i64 fun i_1830=>(if List.length l_1829=26 then (if List.all l_1829 one=true then (if 0+List.length l_1829≤List.length zB then (F16_j5 x1 i_1830 x2 (splice zB 0 l_1829) h_1826  K) else False) else False) else False)))))))))))))∧(ldV (x2)[3]? fun v_1831=>(intV v_1831 .i64 fun i_1832=>(ldV (x2)[1]? fun v_1833=>(intV v_1833 .u8 fun i_1834=>(ldV (x2)[4]? fun v_1835=>(intV v_1835 .i64 fun i_1836=>(CF Tryz.prog 43 [(Value.int .u8 i_1834),(Value.int .i64 i_1836)] hp fun u_1837 h_1838=>(aggV u_1837 fun l_1839=>(CF Tryz.prog 52 [(Value.pointer x0),(Value.int .i64 i_1832),(Value.agg ⟨l_1839⟩)] h_1838 fun u_1840 h_1841=>(tup2V u_1840 fun u_1842 u_1843=>(aggV u_1842 fun l_1844=>(intV u_1843 .i64 fun i_1845=>(if List.length l_1844=26 then (if List.all l_1844 one=true then (if 0+List.length l_1844≤List.length zB then (F16_j5 x1 i_1845 x2 (splice zB 0 l_1844) h_1841  K) else False) else False) else False)))))))))))))∧(ldV (x2)[1]? fun v_1846=>(intV v_1846 .u8 fun i_1847=>(ldV (x2)[4]? fun v_1848=>(intV v_1848 .i64 fun i_1849=>(CF Tryz.prog 43 [(Value.int .u8 i_1847),(Value.int .i64 i_1849)] hp fun u_1850 h_1851=>(aggV u_1850 fun l_1852=>(ldV (x2)[3]? fun v_1853=>(intV v_1853 .i64 fun i_1854=>(CF Tryz.prog 52 [(Value.pointer x0),(Value.int .i64 i_1854),(Value.agg ⟨l_1852⟩)] h_1851 fun u_1855 h_1856=>(tup2V u_1855 fun u_1857 u_1858=>(aggV u_1857 fun l_1859=>(intV u_1858 .i64 fun i_1860=>(if List.length l_1859=26 then (if List.all l_1859 one=true then (if 0+List.length l_1859≤List.length zB then (F16_j5 x1 i_1860 x2 (splice zB 0 l_1859) h_1856  K) else False) else False) else False)))))))))))))∧(ldV (x2)[1]? fun v_1861=>(intV v_1861 .u8 fun i_1862=>(ldV (x2)[3]? fun v_1863=>(intV v_1863 .i64 fun i_1864=>(ldV (x2)[4]? fun v_1865=>(intV v_1865 .i64 fun i_1866=>(CF Tryz.prog 43 [(Value.int .u8 i_1862),(Value.int .i64 i_1866)] hp fun u_1867 h_1868=>(aggV u_1867 fun l_1869=>(CF Tryz.prog 52 [(Value.pointer x0),(Value.int .i64 i_1864),(Value.agg ⟨l_1869⟩)] h_1868 fun u_1870 h_1871=>(tup2V u_1870 fun u_1872 u_1873=>(aggV u_1872 fun l_1874=>(intV u_1873 .i64 fun i_1875=>(if List.length l_1874=26 then (if List.all l_1874 one=true then (if 0+List.length l_1874≤List.length zB then (F16_j5 x1 i_1875 x2 (splice zB 0 l_1874) h_1871  K) else False) else False) else False)))))))))))))∧(ldV (x2)[4]? fun v_1876=>(intV v_1876 .i64 fun i_1877=>(ldV (x2)[3]? fun v_1878=>(intV v_1878 .i64 fun i_1879=>(ldV (x2)[1]? fun v_1880=>(intV v_1880 .u8 fun i_1881=>(CF Tryz.prog 43 [(Value.int .u8 i_1881),(Value.int .i64 i_1877)] hp fun u_1882 h_1883=>(aggV u_1882 fun l_1884=>(CF Tryz.prog 52 [(Value.pointer x0),(Value.int .i64 i_1879),(Value.agg ⟨l_1884⟩)] h_1883 fun u_1885 h_1886=>(tup2V u_1885 fun u_1887 u_1888=>(aggV u_1887 fun l_1889=>(intV u_1888 .i64 fun i_1890=>(if List.length l_1889=26 then (if List.all l_1889 one=true then (if 0+List.length l_1889≤List.length zB then (F16_j5 x1 i_1890 x2 (splice zB 0 l_1889) h_1886  K) else False) else False) else False)))))))))))))∧(ldV (x2)[3]? fun v_1891=>(intV v_1891 .i64 fun i_1892=>(ldV (x2)[1]? fun v_1893=>(intV v_1893 .u8 fun i_1894=>(ldV (x2)[4]? fun v_1895=>(intV v_1895 .i64 fun i_1896=>(CF Tryz.prog 43 [(Value.int .u8 i_1894),(Value.int .i64 i_1896)] hp fun u_1897 h_1898=>(aggV u_1897 fun l_1899=>(CF Tryz.prog 52 [(Value.pointer x0),(Value.int .i64 i_1892),(Value.agg ⟨l_1899⟩)] h_1898 fun u_1900 h_1901=>(tup2V u_1900 fun u_1902 u_1903=>(aggV u_1902 fun l_1904=>(intV u_1903 .i64 fun i_1905=>(if List.length l_1904=26 then (if List.all l_1904 one=true then (if 0+List.length l_1904≤List.length zB then (F16_j5 x1 i_1905 x2 (splice zB 0 l_1904) h_1901  K) else False) else False) else False)))))))))))))) (ite2 ((i_2:Int)==3) (F16_j7 x0 x1 i_2 ((i_2:Int)==3) x2 hp  K) (F16_j7 x0 x1 i_2 ((i_2:Int)==6) x2 hp  K)))))))
theorem F16_ok (x0 x1:OA) (x2:List Value) (hp:HP) (K:Kh) (h:F16 x0 x1 x2 hp K):CF Tryz.prog 16 [(Value.pointer x0),(Value.pointer x1),(Value.agg ⟨x2⟩)] hp K:=
  have L:∀ {Q} n,Snd Tryz.prog 205 (cAt Tryz.f16 (pth n)) Q (CW Tryz.prog 205 [5,7,9,11,13,15,17,24,26,32,34,36,44,46,48,66,68,70,73,75,83,85,87,90,92,110,112,114,122,124,126,184,186,188,195,197,199] [(3,[(2,12),(4,12),(6,12)],[([true,true,true],true,[0,1,2,3,4,5,6,7,8,9,10,11,12,13,14]),([true,true,false],true,[0,1,2,3,4,5,12,6,7,8,9,10,11,13,14]),([true,false,true],true,[0,1,2,3,5,6,12,4,7,8,9,10,11,13,14]),([true,false,false],true,[0,1,2,3,5,12,4,6,7,8,9,10,11,13,14]),([false,true,true],true,[0,1,3,4,5,6,7,12,2,8,9,10,11,13,14]),([false,true,false],true,[0,1,3,4,5,12,2,6,7,8,9,10,11,13,14]),([false,false,true],true,[0,1,3,5,6,12,2,4,7,8,9,10,11,13,14]),([false,false,false],true,[0,1,3,5,12,2,4,6,7,8,9,10,11,13,14])]),(4,[(2,12),(4,12),(6,12)],[([true,true,true],true,[0,1,2,3,4,5,6,7,8,9,10,11,12,13,14]),([true,true,false],true,[0,1,2,3,4,5,12,6,7,8,9,10,11,13,14]),([true,false,true],true,[0,1,2,3,5,6,12,4,7,8,9,10,11,13,14]),([true,false,false],true,[0,1,2,3,5,12,4,6,7,8,9,10,11,13,14]),([false,true,true],true,[0,1,3,4,5,6,7,12,2,8,9,10,11,13,14]),([false,true,false],true,[0,1,3,4,5,12,2,6,7,8,9,10,11,13,14]),([false,false,true],true,[0,1,3,5,6,12,2,4,7,8,9,10,11,13,14]),([false,false,false],true,[0,1,3,5,12,2,4,6,7,8,9,10,11,13,14])]),(7,[(2,17),(4,17),(6,17),(9,17),(11,17)],[([true,true,true,true,true],true,[0,1,2,3,4,5,6,7,8,9,10,11,12,13,14,15,16,17,18,19]),([true,true,true,true,false],true,[0,1,2,3,4,5,6,7,8,9,10,17,11,12,13,14,15,16,18,19]),([true,true,true,false,true],true,[0,1,2,3,4,5,6,7,8,10,11,17,9,12,13,14,15,16,18,19]),([true,true,true,false,false],true,[0,1,2,3,4,5,6,7,8,10,17,9,11,12,13,14,15,16,18,19]),([true,true,false,true,true],true,[0,1,2,3,4,5,8,9,10,11,17,6,7,12,13,14,15,16,18,19]),([true,true,false,true,false],true,[0,1,2,3,4,5,8,9,10,17,6,7,11,12,13,14,15,16,18,19]),([true,true,false,false,true],true,[0,1,2,3,4,5,8,10,11,17,6,7,9,12,13,14,15,16,18,19]),([true,true,false,false,false],true,[0,1,2,3,4,5,8,10,17,6,7,9,11,12,13,14,15,16,18,19]),([true,false,true,true,true],true,[0,1,2,3,5,6,8,9,10,11,17,4,7,12,13,14,15,16,18,19]),([true,false,true,true,false],true,[0,1,2,3,5,6,8,9,10,17,4,7,11,12,13,14,15,16,18,19]),([true,false,true,false,true],true,[0,1,2,3,5,6,8,10,11,17,4,7,9,12,13,14,15,16,18,19]),([true,false,true,false,false],true,[0,1,2,3,5,6,8,10,17,4,7,9,11,12,13,14,15,16,18,19]),([true,false,false,true,true],true,[0,1,2,3,5,8,9,10,11,17,4,6,7,12,13,14,15,16,18,19]),([true,false,false,true,false],true,[0,1,2,3,5,8,9,10,17,4,6,7,11,12,13,14,15,16,18,19]),([true,false,false,false,true],true,[0,1,2,3,5,8,10,11,17,4,6,7,9,12,13,14,15,16,18,19]),([true,false,false,false,false],true,[0,1,2,3,5,8,10,17,4,6,7,9,11,12,13,14,15,16,18,19]),([false,true,true,true,true],true,[0,1,3,4,5,6,7,8,9,10,11,12,17,2,13,14,15,16,18,19]),([false,true,true,true,false],true,[0,1,3,4,5,6,7,8,9,10,17,2,11,12,13,14,15,16,18,19]),([false,true,true,false,true],true,[0,1,3,4,5,6,7,8,10,11,17,2,9,12,13,14,15,16,18,19]),([false,true,true,false,false],true,[0,1,3,4,5,6,7,8,10,17,2,9,11,12,13,14,15,16,18,19]),([false,true,false,true,true],true,[0,1,3,4,5,8,9,10,11,17,2,6,7,12,13,14,15,16,18,19]),([false,true,false,true,false],true,[0,1,3,4,5,8,9,10,17,2,6,7,11,12,13,14,15,16,18,19]),([false,true,false,false,true],true,[0,1,3,4,5,8,10,11,17,2,6,7,9,12,13,14,15,16,18,19]),([false,true,false,false,false],true,[0,1,3,4,5,8,10,17,2,6,7,9,11,12,13,14,15,16,18,19]),([false,false,true,true,true],true,[0,1,3,5,6,8,9,10,11,17,2,4,7,12,13,14,15,16,18,19]),([false,false,true,true,false],true,[0,1,3,5,6,8,9,10,17,2,4,7,11,12,13,14,15,16,18,19]),([false,false,true,false,true],true,[0,1,3,5,6,8,10,11,17,2,4,7,9,12,13,14,15,16,18,19]),([false,false,true,false,false],true,[0,1,3,5,6,8,10,17,2,4,7,9,11,12,13,14,15,16,18,19]),([false,false,false,true,true],true,[0,1,3,5,8,9,10,11,17,2,4,6,7,12,13,14,15,16,18,19]),([false,false,false,true,false],true,[0,1,3,5,8,9,10,17,2,4,6,7,11,12,13,14,15,16,18,19]),([false,false,false,false,true],true,[0,1,3,5,8,10,11,17,2,4,6,7,9,12,13,14,15,16,18,19]),([false,false,false,false,false],true,[0,1,3,5,8,10,17,2,4,6,7,9,11,12,13,14,15,16,18,19])]),(8,[(2,17),(4,17),(6,17),(9,17),(11,17)],[([true,true,true,true,true],true,[0,1,2,3,4,5,6,7,8,9,10,11,12,13,14,15,16,17,18,19]),([true,true,true,true,false],true,[0,1,2,3,4,5,6,7,8,9,10,17,11,12,13,14,15,16,18,19]),([true,true,true,false,true],true,[0,1,2,3,4,5,6,7,8,10,11,17,9,12,13,14,15,16,18,19]),([true,true,true,false,false],true,[0,1,2,3,4,5,6,7,8,10,17,9,11,12,13,14,15,16,18,19]),([true,true,false,true,true],true,[0,1,2,3,4,5,8,9,10,11,17,6,7,12,13,14,15,16,18,19]),([true,true,false,true,false],true,[0,1,2,3,4,5,8,9,10,17,6,7,11,12,13,14,15,16,18,19]),([true,true,false,false,true],true,[0,1,2,3,4,5,8,10,11,17,6,7,9,12,13,14,15,16,18,19]),([true,true,false,false,false],true,[0,1,2,3,4,5,8,10,17,6,7,9,11,12,13,14,15,16,18,19]),([true,false,true,true,true],true,[0,1,2,3,5,6,8,9,10,11,17,4,7,12,13,14,15,16,18,19]),([true,false,true,true,false],true,[0,1,2,3,5,6,8,9,10,17,4,7,11,12,13,14,15,16,18,19]),([true,false,true,false,true],true,[0,1,2,3,5,6,8,10,11,17,4,7,9,12,13,14,15,16,18,19]),([true,false,true,false,false],true,[0,1,2,3,5,6,8,10,17,4,7,9,11,12,13,14,15,16,18,19]),([true,false,false,true,true],true,[0,1,2,3,5,8,9,10,11,17,4,6,7,12,13,14,15,16,18,19]),([true,false,false,true,false],true,[0,1,2,3,5,8,9,10,17,4,6,7,11,12,13,14,15,16,18,19]),([true,false,false,false,true],true,[0,1,2,3,5,8,10,11,17,4,6,7,9,12,13,14,15,16,18,19]),([true,false,false,false,false],true,[0,1,2,3,5,8,10,17,4,6,7,9,11,12,13,14,15,16,18,19]),([false,true,true,true,true],true,[0,1,3,4,5,6,7,8,9,10,11,12,17,2,13,14,15,16,18,19]),([false,true,true,true,false],true,[0,1,3,4,5,6,7,8,9,10,17,2,11,12,13,14,15,16,18,19]),([false,true,true,false,true],true,[0,1,3,4,5,6,7,8,10,11,17,2,9,12,13,14,15,16,18,19]),([false,true,true,false,false],true,[0,1,3,4,5,6,7,8,10,17,2,9,11,12,13,14,15,16,18,19]),([false,true,false,true,true],true,[0,1,3,4,5,8,9,10,11,17,2,6,7,12,13,14,15,16,18,19]),([false,true,false,true,false],true,[0,1,3,4,5,8,9,10,17,2,6,7,11,12,13,14,15,16,18,19]),([false,true,false,false,true],true,[0,1,3,4,5,8,10,11,17,2,6,7,9,12,13,14,15,16,18,19]),([false,true,false,false,false],true,[0,1,3,4,5,8,10,17,2,6,7,9,11,12,13,14,15,16,18,19]),([false,false,true,true,true],true,[0,1,3,5,6,8,9,10,11,17,2,4,7,12,13,14,15,16,18,19]),([false,false,true,true,false],true,[0,1,3,5,6,8,9,10,17,2,4,7,11,12,13,14,15,16,18,19]),([false,false,true,false,true],true,[0,1,3,5,6,8,10,11,17,2,4,7,9,12,13,14,15,16,18,19]),([false,false,true,false,false],true,[0,1,3,5,6,8,10,17,2,4,7,9,11,12,13,14,15,16,18,19]),([false,false,false,true,true],true,[0,1,3,5,8,9,10,11,17,2,4,6,7,12,13,14,15,16,18,19]),([false,false,false,true,false],true,[0,1,3,5,8,9,10,17,2,4,6,7,11,12,13,14,15,16,18,19]),([false,false,false,false,true],true,[0,1,3,5,8,10,11,17,2,4,6,7,9,12,13,14,15,16,18,19]),([false,false,false,false,false],true,[0,1,3,5,8,10,17,2,4,6,7,9,11,12,13,14,15,16,18,19])]),(11,[(2,12),(4,12),(6,12)],[([true,true,true],true,[0,1,2,3,4,5,6,7,8,9,10,11,12,13,14]),([true,true,false],true,[0,1,2,3,4,5,12,6,7,8,9,10,11,13,14]),([true,false,true],true,[0,1,2,3,5,6,12,4,7,8,9,10,11,13,14]),([true,false,false],true,[0,1,2,3,5,12,4,6,7,8,9,10,11,13,14]),([false,true,true],true,[0,1,3,4,5,6,7,12,2,8,9,10,11,13,14]),([false,true,false],true,[0,1,3,4,5,12,2,6,7,8,9,10,11,13,14]),([false,false,true],true,[0,1,3,5,6,12,2,4,7,8,9,10,11,13,14]),([false,false,false],true,[0,1,3,5,12,2,4,6,7,8,9,10,11,13,14])]),(12,[(2,12),(4,12),(6,12)],[([true,true,true],true,[0,1,2,3,4,5,6,7,8,9,10,11,12,13,14]),([true,true,false],true,[0,1,2,3,4,5,12,6,7,8,9,10,11,13,14]),([true,false,true],true,[0,1,2,3,5,6,12,4,7,8,9,10,11,13,14]),([true,false,false],true,[0,1,2,3,5,12,4,6,7,8,9,10,11,13,14]),([false,true,true],true,[0,1,3,4,5,6,7,12,2,8,9,10,11,13,14]),([false,true,false],true,[0,1,3,4,5,12,2,6,7,8,9,10,11,13,14]),([false,false,true],true,[0,1,3,5,6,12,2,4,7,8,9,10,11,13,14]),([false,false,false],true,[0,1,3,5,12,2,4,6,7,8,9,10,11,13,14])]),(24,[(2,12),(4,12),(6,12)],[([true,true,true],true,[0,1,2,3,4,5,6,7,8,9,10,11,12,13,14]),([true,true,false],true,[0,1,2,3,4,5,12,6,7,8,9,10,11,13,14]),([true,false,true],true,[0,1,2,3,5,6,12,4,7,8,9,10,11,13,14]),([true,false,false],true,[0,1,2,3,5,12,4,6,7,8,9,10,11,13,14]),([false,true,true],true,[0,1,3,4,5,6,7,12,2,8,9,10,11,13,14]),([false,true,false],true,[0,1,3,4,5,12,2,6,7,8,9,10,11,13,14]),([false,false,true],true,[0,1,3,5,6,12,2,4,7,8,9,10,11,13,14]),([false,false,false],true,[0,1,3,5,12,2,4,6,7,8,9,10,11,13,14])])] (cAt Tryz.f16 (pth n)) Q):=fun _=>Snd.leaf
  okF h Tryz.func16 (Snd.seq (L 2) (Snd.seq (Snd.seq (L 9) (Snd.block 0 (Snd.seq (L 37) (Snd.cond 28 (Snd.jn [(1,.p),(5,.r 5 0),(7,.r 7 0),(8,.i .i64),(5,.c 51),(7,.c 97)] (fun a hp=>F16_j1 a.1 a.2.1 a.2.2.1 a.2.2.2.1 hp  K) (L 149) (Snd.jn [(7,.r 7 0),(8,.i .i64),(9,.r 9 0),(10,.i .i64),(7,.c 97),(9,.c 118)] (fun a hp=>F16_j2 a.1 a.2.1 a.2.2.1 a.2.2.2.1 hp  K) (L 341) (L 469) (by rfl) (by kernel_rfl)) (by rfl) (by kernel_rfl)) (Snd.seq (L 181) (Snd.cond 62 (Snd.jn [(1,.p),(5,.r 5 0),(11,.r 11 0),(12,.i .i64),(5,.c 51),(11,.c 97)] (fun a hp=>F16_j3 a.1 a.2.1 a.2.2.1 a.2.2.2.1 hp  K) (L 629) (Snd.jn [(11,.r 11 0),(12,.i .i64),(13,.r 13 0),(14,.i .i64),(11,.c 97),(13,.c 118)] (fun a hp=>F16_j4 a.1 a.2.1 a.2.2.1 a.2.2.2.1 hp  K) (L 1397) (L 1909) (by rfl) (by kernel_rfl)) (by rfl) (by kernel_rfl)) (Snd.seq (L 757) (Snd.cond 106 (Snd.jn [(1,.p),(5,.r 5 0),(15,.r 15 0),(16,.i .i64),(5,.c 51),(15,.c 97)] (fun a hp=>F16_j5 a.1 a.2.1 a.2.2.1 a.2.2.2.1 hp  K) (L 2549) (Snd.jn [(15,.r 15 0),(16,.i .i64),(17,.r 17 0),(18,.i .i64),(15,.c 97),(17,.c 118)] (fun a hp=>F16_j6 a.1 a.2.1 a.2.2.1 a.2.2.2.1 hp  K) (L 5621) (L 7669) (by rfl) (by kernel_rfl)) (by rfl) (by kernel_rfl)) (Snd.jn [(0,.p),(1,.p),(5,.r 5 0),(27,.i .u8),(140,.b),(5,.c 51)] (fun a hp=>F16_j7 a.1 a.2.1 a.2.2.1 a.2.2.2.1 a.2.2.2.2.1 hp  K) (L 3061) (Snd.cond 140 (L 6133) (Snd.jn [(0,.p),(1,.p),(5,.r 5 0),(27,.i .u8),(154,.b),(5,.c 51)] (fun a hp=>F16_j8 a.1 a.2.1 a.2.2.1 a.2.2.2.1 a.2.2.2.2.1 hp  K) (L 12277) (Snd.cond 154 (L 24565) (Snd.seq (L 49141) (Snd.cond 180 (Snd.jn [(0,.p),(5,.r 5 0),(25,.i .i64),(5,.c 51)] (fun a hp=>F16_j9 a.1 a.2.1 a.2.2.1 hp  K) (L 163829) (L 229365) (by rfl) (by kernel_rfl)) (L 131061)))) (by rfl) (by kernel_rfl))) (by rfl) (by kernel_rfl)))))))))) (L 7))) (by kernel_rfl) (by kernel_rfl) (by kernel_rfl)
end Go.Proofs
set_option linter.unusedVariables false
set_option linter.unusedSimpArgs false
set_option linter.unusedSectionVars false
set_option maxRecDepth 20000
namespace Go.Proofs
open Go Go.HL
section
variable {tb:Obj} {hp0 hp z:HP} {t r b0 mx la ld n n':Nat} {l:List Q} {low high:Int} {L M:List Bd} {K:Value→HP→Prop}
theorem Z48 (h:StB tb hp0 z hp t r b0 l low high mx la n L ld M) (hi:InvB l low high mx ld n' M) (hsm:M.length≤60000) (hld:ld<500000) {p:Int} {a:V6 × Int} {only:Bool}
    (hno:roomB l low high mx M p a≠0→∀ hp',StB tb hp0 z hp' t r b0 l low high mx la n L ld M→K (.tuple ⟨[.agg ⟨bdc bd0⟩,.int .i64 (roomB l low high mx M p a)]⟩) hp')
    (hroom:only=true→roomB l low high mx M p a=0→∀ hp',StB tb hp0 z hp' t r b0 l low high mx la n L ld M→K (.tuple ⟨[.agg ⟨bdc bd0⟩,.int .i64 0]⟩) hp')
    (hyes:only=false→roomB l low high mx M p a=0→∀ u,tkB l low high M p a=some u→∀ hp',StB tb hp0 z hp' t r b0 l low high mx la n L (ld+1) (M++[⟨((ld+1:Nat):Int),p,a,u,false,0⟩])→K (.tuple ⟨[.agg ⟨bdc ⟨((ld+1:Nat):Int),p,a,u,false,0⟩⟩,.int .i64 0]⟩) hp') :
    CF Tryz.prog 48 [ptr r 0,.int .i64 p,.agg ⟨t6 a⟩,.bool only] hp K:=by
  refine stepD (D:=fun v ld' M'=>(roomB l low high mx M p a≠0∧v=.tuple ⟨[.agg ⟨bdc bd0⟩,.int .i64 (roomB l low high mx M p a)]⟩∧ld'=ld∧M'=M) ∨
      (only=true∧roomB l low high mx M p a=0∧v=.tuple ⟨[.agg ⟨bdc bd0⟩,.int .i64 0]⟩∧ld'=ld∧M'=M) ∨
      (only=false∧roomB l low high mx M p a=0∧∃ u,tkB l low high M p a=some u∧v=.tuple ⟨[.agg ⟨bdc ⟨((ld+1:Nat):Int),p,a,u,false,0⟩⟩,.int .i64 0]⟩∧ld'=ld+1∧M'=M++[⟨((ld+1:Nat):Int),p,a,u,false,0⟩])) h
    (fun hq x hx=>C48 hx hi hsm hld (fun e=>⟨_,_,x,hx,.inl ⟨e,rfl,rfl,rfl⟩⟩) (fun e1 e2 hq' x' hx'=>⟨_,_,x',hx',.inr (.inl ⟨e1,e2,rfl,rfl,rfl⟩)⟩) fun e1 e2 u hu hq' x' hx'=>⟨_,_,x',hx',.inr (.inr ⟨e1,e2,u,hu,rfl,rfl,rfl⟩)⟩) ?_
  rintro v ld' M' hp' (⟨e,rfl,rfl,rfl⟩ | ⟨e1,e2,rfl,rfl,rfl⟩ | ⟨e1,e2,u,hu,rfl,rfl,rfl⟩) h'
  · exact hno e hp' h'
  · exact hroom e1 e2 hp' h'
  · exact hyes e1 e2 u hu hp' h'
theorem Z51 (h:StB tb hp0 z hp t r b0 l low high mx la n L ld M) (hi:InvB l low high mx ld n' M) (hsm:M.length≤60000) (hld:ld<500000) {p:Int} {a:V6 × Int} {u:Q × Int}
    (hno:bindB l mx M p a u≠0→∀ hp',StB tb hp0 z hp' t r b0 l low high mx la n L ld M→K (.tuple ⟨[.agg ⟨bdc bd0⟩,.int .i64 (bindB l mx M p a u)]⟩) hp')
    (hyes:bindB l mx M p a u=0→∀ hp',StB tb hp0 z hp' t r b0 l low high mx la n L (ld+1) (M++[⟨((ld+1:Nat):Int),p,a,u,true,0⟩])→K (.tuple ⟨[.agg ⟨bdc ⟨((ld+1:Nat):Int),p,a,u,true,0⟩⟩,.int .i64 0]⟩) hp') :
    CF Tryz.prog 51 [ptr r 0,.int .i64 p,.agg ⟨t6 a⟩,.agg ⟨t4 u⟩] hp K:=by
  refine stepD (D:=fun v ld' M'=>(bindB l mx M p a u≠0∧v=.tuple ⟨[.agg ⟨bdc bd0⟩,.int .i64 (bindB l mx M p a u)]⟩∧ld'=ld∧M'=M) ∨
      (bindB l mx M p a u=0∧v=.tuple ⟨[.agg ⟨bdc ⟨((ld+1:Nat):Int),p,a,u,true,0⟩⟩,.int .i64 0]⟩∧ld'=ld+1∧M'=M++[⟨((ld+1:Nat):Int),p,a,u,true,0⟩])) h
    (fun hq x hx=>C51 hx hi (by omega) hld (fun e=>⟨_,_,x,hx,.inl ⟨e,rfl,rfl,rfl⟩⟩) fun e hq' x' hx'=>⟨_,_,x',hx',.inr ⟨e,rfl,rfl,rfl⟩⟩) ?_
  rintro v ld' M' hp' (⟨e,rfl,rfl,rfl⟩ | ⟨e,rfl,rfl,rfl⟩) h'
  · exact hno e hp' h'
  · exact hyes e hp' h'
theorem Z53 (h:StB tb hp0 z hp t r b0 l low high mx la n L ld M) (hi:InvB l low high mx ld n' M) (hsm:M.length≤60000) {p:Int} {a:V6 × Int}
    (hno:unbB M p a≠0→∀ hp',StB tb hp0 z hp' t r b0 l low high mx la n L ld M→K (.tuple ⟨[.agg ⟨bdc bd0⟩,.int .i64 (unbB M p a)]⟩) hp')
    (hyes:∀ b,find6 p a M=some b→unbB M p a=0→b.st=true→∀ hp',StB tb hp0 z hp' t r b0 l low high mx la n L ld (M.filter fun y=>decide (y.id≠b.id))→K (.tuple ⟨[.agg ⟨bdc b⟩,.int .i64 0]⟩) hp') :
    CF Tryz.prog 53 [ptr r 0,.int .i64 p,.agg ⟨t6 a⟩] hp K:=by
  refine stepD (D:=fun v ld' M'=>(unbB M p a≠0∧v=.tuple ⟨[.agg ⟨bdc bd0⟩,.int .i64 (unbB M p a)]⟩∧ld'=ld∧M'=M) ∨
      (∃ b,find6 p a M=some b∧unbB M p a=0∧b.st=true∧v=.tuple ⟨[.agg ⟨bdc b⟩,.int .i64 0]⟩∧ld'=ld∧M'=M.filter fun y=>decide (y.id≠b.id))) h
    (fun hq x hx=>C53 hx hi (by omega) (fun e=>⟨_,_,x,hx,.inl ⟨e,rfl,rfl,rfl⟩⟩) fun b hb e hs hq' x' hx'=>⟨_,_,x',hx',.inr ⟨b,hb,e,hs,rfl,rfl,rfl⟩⟩) ?_
  rintro v ld' M' hp' (⟨e,rfl,rfl,rfl⟩ | ⟨b,hb,e,hs,rfl,rfl,rfl⟩) h'
  · exact hno e hp' h'
  · exact hyes b hb e hs hp' h'
theorem Z56 (h:StB tb hp0 z hp t r b0 l low high mx la n L ld M) (hi:InvB l low high mx ld n' M) (hsm:M.length≤60000) {k:Int} (hno:findI k M=none→∀ hp',StB tb hp0 z hp' t r b0 l low high mx la n L ld M→K (.int .i64 4) hp')
    (hyes:∀ b,findI k M=some b→∀ hp',StB tb hp0 z hp' t r b0 l low high mx la n L ld (updB k (b.ses+1) M)→K (.int .i64 0) hp'):CF Tryz.prog 56 [ptr r 0,.int .i64 k] hp K:=by
  refine stepD (D:=fun v ld' M'=>(findI k M=none∧v=.int .i64 4∧ld'=ld∧M'=M)∨(∃ b,findI k M=some b∧v=.int .i64 0∧ld'=ld∧M'=updB k (b.ses+1) M)) h
    (fun hq x hx=>C56 hx hi (by omega) (fun e=>⟨_,_,x,hx,.inl ⟨e,rfl,rfl,rfl⟩⟩) fun b hb hq' x' hx'=>⟨_,_,x',hx',.inr ⟨b,hb,rfl,rfl,rfl⟩⟩) ?_
  rintro v ld' M' hp' (⟨e,rfl,rfl,rfl⟩ | ⟨b,hb,rfl,rfl,rfl⟩) h'
  · exact hno e hp' h'
  · exact hyes b hb hp' h'
theorem Z58 (h:StB tb hp0 z hp t r b0 l low high mx la n L ld M) (hi:InvB l low high mx ld n' M) (hsm:M.length≤60000) {k:Int} (hno:findI k M=none→∀ hp',StB tb hp0 z hp' t r b0 l low high mx la n L ld M→K (.tuple ⟨[.bool false,.int .i64 4]⟩) hp')
    (hz0:∀ b,findI k M=some b→b.ses=0→∀ hp',StB tb hp0 z hp' t r b0 l low high mx la n L ld M→K (.tuple ⟨[.bool false,.int .i64 11]⟩) hp')
    (hyes:∀ b,findI k M=some b→1≤b.ses→∀ hp',StB tb hp0 z hp' t r b0 l low high mx la n L ld (dropB b M)→K (.tuple ⟨[.bool (!(b.st||decide (1<b.ses))),.int .i64 0]⟩) hp'):CF Tryz.prog 58 [ptr r 0,.int .i64 k] hp K:=by
  refine stepD (D:=fun v ld' M'=>(findI k M=none∧v=.tuple ⟨[.bool false,.int .i64 4]⟩∧ld'=ld∧M'=M)∨(∃ b,findI k M=some b∧b.ses=0∧v=.tuple ⟨[.bool false,.int .i64 11]⟩∧ld'=ld∧M'=M) ∨
      (∃ b,findI k M=some b∧1≤b.ses∧v=.tuple ⟨[.bool (!(b.st||decide (1<b.ses))),.int .i64 0]⟩∧ld'=ld∧M'=dropB b M)) h
    (fun hq x hx=>C58 hx hi (by omega) (fun e=>⟨_,_,x,hx,.inl ⟨e,rfl,rfl,rfl⟩⟩) (fun b hb e=>⟨_,_,x,hx,.inr (.inl ⟨b,hb,e,rfl,rfl,rfl⟩)⟩) fun b hb e hq' x' hx'=>⟨_,_,x',hx',.inr (.inr ⟨b,hb,e,rfl,rfl,rfl⟩)⟩) ?_
  rintro v ld' M' hp' (⟨e,rfl,rfl,rfl⟩ | ⟨b,hb,e,rfl,rfl,rfl⟩ | ⟨b,hb,e,rfl,rfl,rfl⟩) h'
  · exact hno e hp' h'
  · exact hz0 b hb e hp' h'
  · exact hyes b hb e hp' h'
section
variable (h:StB tb hp0 z hp t r b0 l low high mx la n L ld M) (hi:InvB l low high mx ld n' M) (hsm:M.length≤60000) (hld:ld<500000)
include h hi hsm
theorem Z56n {k:Int} (e:findI k M=none) (hK:∀ hp',StB tb hp0 z hp' t r b0 l low high mx la n L ld M→K (.int .i64 4) hp'):CF Tryz.prog 56 [ptr r 0,.int .i64 k] hp K:=
  Z56 h hi hsm (fun _=>hK) fun b hb=>by rw [e] at hb; cases hb
theorem Z56y {k:Int} {b:Bd} (e:findI k M=some b) (hK:∀ hp',StB tb hp0 z hp' t r b0 l low high mx la n L ld (updB k (b.ses+1) M)→K (.int .i64 0) hp'):CF Tryz.prog 56 [ptr r 0,.int .i64 k] hp K:=
  Z56 h hi hsm (fun e'=>by rw [e] at e'; cases e') fun b' hb=>by rw [e] at hb; cases hb; exact hK
theorem Z58n {k:Int} (e:findI k M=none) (hK:∀ hp',StB tb hp0 z hp' t r b0 l low high mx la n L ld M→K (.tuple ⟨[.bool false,.int .i64 4]⟩) hp'):CF Tryz.prog 58 [ptr r 0,.int .i64 k] hp K:=
  Z58 h hi hsm (fun _=>hK) (fun b hb=>by rw [e] at hb; cases hb) fun b hb=>by rw [e] at hb; cases hb
theorem Z58z {k:Int} {b:Bd} (e:findI k M=some b) (e0:b.ses=0) (hK:∀ hp',StB tb hp0 z hp' t r b0 l low high mx la n L ld M→K (.tuple ⟨[.bool false,.int .i64 11]⟩) hp'):CF Tryz.prog 58 [ptr r 0,.int .i64 k] hp K:=
  Z58 h hi hsm (fun e'=>by rw [e] at e'; cases e') (fun b' hb _=>hK) fun b' hb h1=>by rw [e] at hb; cases hb; omega
theorem Z58y {k:Int} {b:Bd} (e:findI k M=some b) (e0:1≤b.ses) (hK:∀ hp',StB tb hp0 z hp' t r b0 l low high mx la n L ld (dropB b M)→K (.tuple ⟨[.bool (!(b.st||decide (1<b.ses))),.int .i64 0]⟩) hp'):CF Tryz.prog 58 [ptr r 0,.int .i64 k] hp K:=
  Z58 h hi hsm (fun e'=>by rw [e] at e'; cases e') (fun b' hb h1=>by rw [e] at hb; cases hb; omega) fun b' hb h1=>by rw [e] at hb; cases hb; exact hK
theorem Z53n {p:Int} {a:V6 × Int} (e:unbB M p a≠0) (hK:∀ hp',StB tb hp0 z hp' t r b0 l low high mx la n L ld M→K (.tuple ⟨[.agg ⟨bdc bd0⟩,.int .i64 (unbB M p a)]⟩) hp'):CF Tryz.prog 53 [ptr r 0,.int .i64 p,.agg ⟨t6 a⟩] hp K:=
  Z53 h hi hsm (fun _=>hK) fun b hb e'=>absurd e' e
theorem Z53y {p:Int} {a:V6 × Int} {b:Bd} (e:unbB M p a=0) (hb:find6 p a M=some b) (hK:∀ hp',StB tb hp0 z hp' t r b0 l low high mx la n L ld (M.filter fun y=>decide (y.id≠b.id))→K (.tuple ⟨[.agg ⟨bdc b⟩,.int .i64 0]⟩) hp') :
    CF Tryz.prog 53 [ptr r 0,.int .i64 p,.agg ⟨t6 a⟩] hp K:=
  Z53 h hi hsm (fun e'=>absurd e e') fun b' hb' _ _=>by rw [hb] at hb'; cases hb'; exact hK
include hld
theorem Z51n {p:Int} {a:V6 × Int} {u:Q × Int} (e:bindB l mx M p a u≠0) (hK:∀ hp',StB tb hp0 z hp' t r b0 l low high mx la n L ld M→K (.tuple ⟨[.agg ⟨bdc bd0⟩,.int .i64 (bindB l mx M p a u)]⟩) hp'):CF Tryz.prog 51 [ptr r 0,.int .i64 p,.agg ⟨t6 a⟩,.agg ⟨t4 u⟩] hp K:=
  Z51 h hi hsm hld (fun _=>hK) fun e'=>absurd e' e
theorem Z51y {p:Int} {a:V6 × Int} {u:Q × Int} (e:bindB l mx M p a u=0) (hK:∀ hp',StB tb hp0 z hp' t r b0 l low high mx la n L (ld+1) (M++[⟨((ld+1:Nat):Int),p,a,u,true,0⟩])→K (.tuple ⟨[.agg ⟨bdc ⟨((ld+1:Nat):Int),p,a,u,true,0⟩⟩,.int .i64 0]⟩) hp') :
    CF Tryz.prog 51 [ptr r 0,.int .i64 p,.agg ⟨t6 a⟩,.agg ⟨t4 u⟩] hp K:=
  Z51 h hi hsm hld (fun e'=>absurd e e') fun _=>hK
theorem Z48n {p:Int} {a:V6 × Int} {only:Bool} (e:roomB l low high mx M p a≠0) (hK:∀ hp',StB tb hp0 z hp' t r b0 l low high mx la n L ld M→K (.tuple ⟨[.agg ⟨bdc bd0⟩,.int .i64 (roomB l low high mx M p a)]⟩) hp'):CF Tryz.prog 48 [ptr r 0,.int .i64 p,.agg ⟨t6 a⟩,.bool only] hp K:=
  Z48 h hi hsm hld (fun _=>hK) (fun _ e'=>absurd e' e) fun _ e'=>absurd e' e
theorem Z48r {p:Int} {a:V6 × Int} (e:roomB l low high mx M p a=0) (hK:∀ hp',StB tb hp0 z hp' t r b0 l low high mx la n L ld M→K (.tuple ⟨[.agg ⟨bdc bd0⟩,.int .i64 0]⟩) hp'):CF Tryz.prog 48 [ptr r 0,.int .i64 p,.agg ⟨t6 a⟩,.bool true] hp K:=
  Z48 h hi hsm hld (fun e'=>absurd e e') (fun _ _=>hK) fun e'=>by cases e'
theorem Z48y {p:Int} {a:V6 × Int} {u:Q × Int} (e:roomB l low high mx M p a=0) (hu:tkB l low high M p a=some u) (hK:∀ hp',StB tb hp0 z hp' t r b0 l low high mx la n L (ld+1) (M++[⟨((ld+1:Nat):Int),p,a,u,false,0⟩])→K (.tuple ⟨[.agg ⟨bdc ⟨((ld+1:Nat):Int),p,a,u,false,0⟩⟩,.int .i64 0]⟩) hp') :
    CF Tryz.prog 48 [ptr r 0,.int .i64 p,.agg ⟨t6 a⟩,.bool false] hp K:=
  Z48 h hi hsm hld (fun e'=>absurd e e') (fun e'=>by cases e') fun _ _ u2 hu2=>by rw [hu] at hu2; cases hu2; exact hK
end
theorem same1 {v:Int} {y:Bd} {hp:HP} {f:FuncId} {hK:K (.bool true) hp}:F16_j2 v v (bdc y) (bdc y) hp K∧F16_j4 v v (bdc y) (bdc y) hp K∧F16_j6 v v (bdc y) (bdc y) hp K:=by
  unfold F16_j2 F16_j4 F16_j6
  simp only [bdc_cells,ldL_some]
  have key:CF Tryz.prog 49 [.agg ⟨bdc y⟩,.agg ⟨bdc y⟩] hp fun u h=>boolV u fun q=>ite2 q (K (.bool (v==v)) h) (K (.bool false) h):=by
    refine C49 ?_
    rw [boolV_bool,ite2_true,show (v==v)=true by simp]
    exact hK
  exact ⟨key,key,key⟩
section
variable {A:A21} (hA:okA21 A) (hi:InvB l low high mx la n L) (hn:n<1000000) (hla:la<500000) (hsm:L.length≤60000) (h:StB tb hp0 z hp t r b0 l low high mx la n L la L)
    (hK:∀ hp' la' n' L',StB tb hp0 z hp' t r b0 l low high mx la' n' L' la' L'→n'≤n+1→la'≤la+1→L'.length≤L.length+1→K (.bool true) hp')
include hA hi hn hla hsm h hK
theorem both0:CF Tryz.prog 42 [ptr t 0,.int .i64 A.proto,.agg ⟨t6 (inT A.a A.x)⟩] hp fun u hp'=>∃ v y,u=.tuple ⟨[.agg ⟨bdc y⟩,.int .i64 v]⟩∧F16_j1 (some ⟨r,0,none⟩) v (a21 A) (bdc y) hp' K:=by
  obtain ⟨ha,hb,hp',hx,ht',hn'⟩:=hA
  have hok:okT6 (inT A.a A.x):=inT_ok ha hx
  refine Y42 h hp' hok hn (fun e hp2 h2=>⟨_,_,rfl,?_⟩) fun e u hu hp2 h2=>⟨_,_,rfl,?_⟩
  · unfold F16_j1
    simp only [a21_1,a21_3,a21_4,ldV_some,intV_int,and_self]
    refine C43 ?_
    rw [aggV_agg]
    refine Z48n h2 hi hsm hla e fun hp3 h3=>?_
    simp only [tup2V_mk,aggV_agg,intV_int]
    rw [if_pos (bdc_len _),if_pos (bdc_one _),if_pos (by simp [bdc_len]),bdz_spl]
    exact (same1 (f:=0) (hK:=hK hp3 la n L h3 (by omega) (by omega) (by omega))).1
  · unfold F16_j1
    simp only [a21_1,a21_3,a21_4,ldV_some,intV_int,and_self]
    refine C43 ?_
    rw [aggV_agg]
    refine Z48y h2 hi hsm hla e hu fun hp3 h3=>?_
    simp only [tup2V_mk,aggV_agg,intV_int]
    rw [if_pos (bdc_len _),if_pos (bdc_one _),if_pos (by simp [bdc_len]),bdz_spl]
    exact (same1 (f:=0) (hK:=hK hp3 (la+1) (n+1) _ h3 (by omega) (by omega) (by simp))).1
theorem both1:CF Tryz.prog 50 [ptr t 0,.int .i64 A.proto,.agg ⟨t6 (inT A.a A.x)⟩,.agg ⟨t4 (ta A.b A.t)⟩] hp fun u hp'=>∃ v y,u=.tuple ⟨[.agg ⟨bdc y⟩,.int .i64 v]⟩∧F16_j3 (some ⟨r,0,none⟩) v (a21 A) (bdc y) hp' K:=by
  obtain ⟨ha,hb,hp',hx,ht',hn'⟩:=hA
  have hok:okT6 (inT A.a A.x):=inT_ok ha hx
  have hou:okT (ta A.b A.t):=ta_ok hb ht'
  refine Y50 h hp' hok hou hn (fun e hp2 h2=>⟨_,_,rfl,?_⟩) fun e hp2 h2=>⟨_,_,rfl,?_⟩
  · unfold F16_j3
    simp only [a21_1,a21_2,a21_3,a21_4,a21_5,ldV_some,intV_int,and_self]
    refine C43 ?_
    rw [aggV_agg]
    refine C45 ?_
    rw [aggV_agg]
    refine Z51n h2 hi hsm hla e fun hp3 h3=>?_
    simp only [tup2V_mk,aggV_agg,intV_int]
    rw [if_pos (bdc_len _),if_pos (bdc_one _),if_pos (by simp [bdc_len]),bdz_spl]
    exact (same1 (f:=0) (hK:=hK hp3 la n L h3 (by omega) (by omega) (by omega))).2.1
  · unfold F16_j3
    simp only [a21_1,a21_2,a21_3,a21_4,a21_5,ldV_some,intV_int,and_self]
    refine C43 ?_
    rw [aggV_agg]
    refine C45 ?_
    rw [aggV_agg]
    refine Z51y h2 hi hsm hla e fun hp3 h3=>?_
    simp only [tup2V_mk,aggV_agg,intV_int]
    rw [if_pos (bdc_len _),if_pos (bdc_one _),if_pos (by simp [bdc_len]),bdz_spl]
    exact (same1 (f:=0) (hK:=hK hp3 (la+1) (n+1) _ h3 (by omega) (by omega) (by simp))).2.1
theorem both2:CF Tryz.prog 52 [ptr t 0,.int .i64 A.proto,.agg ⟨t6 (inT A.a A.x)⟩] hp fun u hp'=>∃ v y,u=.tuple ⟨[.agg ⟨bdc y⟩,.int .i64 v]⟩∧F16_j5 (some ⟨r,0,none⟩) v (a21 A) (bdc y) hp' K:=by
  obtain ⟨ha,hb,hp',hx,ht',hn'⟩:=hA
  have hok:okT6 (inT A.a A.x):=inT_ok ha hx
  refine Y52 h hp' hok (fun e hp2 h2=>⟨_,_,rfl,?_⟩) fun b hb' e hs hp2 h2=>⟨_,_,rfl,?_⟩
  · unfold F16_j5
    simp only [a21_1,a21_3,a21_4,ldV_some,intV_int,and_self]
    refine C43 ?_
    rw [aggV_agg]
    refine Z53n h2 hi hsm e fun hp3 h3=>?_
    simp only [tup2V_mk,aggV_agg,intV_int]
    rw [if_pos (bdc_len _),if_pos (bdc_one _),if_pos (by simp [bdc_len]),bdz_spl]
    exact (same1 (f:=0) (hK:=hK hp3 la n L h3 (by omega) (by omega) (by omega))).2.2
  · unfold F16_j5
    simp only [a21_1,a21_3,a21_4,ldV_some,intV_int,and_self]
    refine C43 ?_
    rw [aggV_agg]
    refine Z53y h2 hi hsm e hb' fun hp3 h3=>?_
    simp only [tup2V_mk,aggV_agg,intV_int]
    rw [if_pos (bdc_len _),if_pos (bdc_one _),if_pos (by simp [bdc_len]),bdz_spl]
    have hl:=List.length_filter_le (fun y:Bd=>decide (y.id≠b.id)) L
    exact (same1 (f:=0) (hK:=hK hp3 la n _ h3 (by omega) (by omega) (by omega))).2.2
theorem both3 {v:Int}:F16_j7 (some ⟨t,0,none⟩) (some ⟨r,0,none⟩) v true (a21 A) hp K:=by
  unfold F16_j7
  rw [ite2_true,a21_cells,ldL_some]
  obtain ⟨x,hx⟩:=h.rf
  refine C55 hx.bl hsm hA ?_
  rw [intV_int]
  refine Y54 h hn (fun e hp2 h2=>?_) fun b hb hp2 h2=>?_
  · rw [intV_int,ldL_some]
    obtain ⟨x2,hx2⟩:=h2.rf
    refine C55 hx2.bl hsm hA ?_
    rw [intV_int]
    refine Z56n h2 hi hsm e fun hp3 h3=>?_
    rw [intV_int]
    exact hK hp3 la n L h3 (by omega) (by omega) (by omega)
  · rw [intV_int,ldL_some]
    obtain ⟨x2,hx2⟩:=h2.rf
    refine C55 hx2.bl hsm hA ?_
    rw [intV_int]
    refine Z56y h2 hi hsm hb fun hp3 h3=>?_
    rw [intV_int]
    exact hK hp3 la (n+1) _ h3 (by omega) (by omega) (by rw [upd_len]; omega)
theorem both4 {v:Int}:F16_j8 (some ⟨t,0,none⟩) (some ⟨r,0,none⟩) v true (a21 A) hp K:=by
  unfold F16_j8
  rw [ite2_true,a21_cells,ldL_some]
  obtain ⟨x,hx⟩:=h.rf
  refine C55 hx.bl hsm hA ?_
  rw [intV_int]
  refine Y57 h (fun e hp2 h2=>?_) (fun b hb e hp2 h2=>?_) fun b hb e hp2 h2=>?_
  · simp only [tup2V_mk,boolV_bool,intV_int]
    refine Z58n h2 hi hsm e fun hp3 h3=>?_
    simp only [tup2V_mk,boolV_bool,intV_int]
    exact hK hp3 la n L h3 (by omega) (by omega) (by omega)
  · simp only [tup2V_mk,boolV_bool,intV_int]
    refine Z58z h2 hi hsm hb e fun hp3 h3=>?_
    simp only [tup2V_mk,boolV_bool,intV_int]
    exact hK hp3 la n L h3 (by omega) (by omega) (by omega)
  · simp only [tup2V_mk,boolV_bool,intV_int]
    refine Z58y h2 hi hsm hb e fun hp3 h3=>?_
    simp only [tup2V_mk,boolV_bool,intV_int]
    have hl:=drop_len b L
    rw [show ((!(b.st||decide (1<b.ses)))==(!(b.st||decide (1<b.ses))))=true by simp,ite2_true]
    exact hK hp3 la n _ h3 (by omega) (by omega) (by omega)
theorem both9 {v:Int} (hv:v=roomB l low high mx L A.proto (inT A.a A.x)):F16_j9 (some ⟨t,0,none⟩) v (a21 A) hp K:=by
  obtain ⟨ha,hb,hp',hx,ht',hn'⟩:=hA
  have hok:okT6 (inT A.a A.x):=inT_ok ha hx
  unfold F16_j9
  simp only [a21_1,a21_3,a21_4,ldV_some,intV_int]
  refine C43 ?_
  rw [aggV_agg]
  refine Y59 h hp' hok fun hp3 h3=>?_
  rw [intV_int,hv,show (roomB l low high mx L A.proto (inT A.a A.x)==roomB l low high mx L A.proto (inT A.a A.x))=true by simp]
  exact hK hp3 la n L h3 (by omega) (by omega) (by omega)
theorem both5a:CF Tryz.prog 48 [ptr r 0,.int .i64 A.proto,.agg ⟨t6 (inT A.a A.x)⟩,.bool true] hp fun u hp'=>∃ v y,u=.tuple ⟨[.agg ⟨bdc y⟩,.int .i64 v]⟩∧F16_j9 (some ⟨t,0,none⟩) v (a21 A) hp' K:=by
  by_cases e:roomB l low high mx L A.proto (inT A.a A.x)=0
  · exact Z48r h hi hsm hla e fun hp2 h2=>⟨_,_,rfl,both9 hA hi hn hla hsm h2 hK e.symm⟩
  · exact Z48n h hi hsm hla e fun hp2 h2=>⟨_,_,rfl,both9 hA hi hn hla hsm h2 hK rfl⟩
theorem both5 {v:Int} (hv:v=5):F16_j8 (some ⟨t,0,none⟩) (some ⟨r,0,none⟩) v false (a21 A) hp K:=by
  have key:=both5a hA hi hn hla hsm h hK
  unfold F16_j8
  rw [ite2_false,show (v==5)=true by simp [hv],ite2_true]
  simp only [a21_1,a21_3,a21_4,ldV_some,intV_int,and_self]
  refine C43 ?_
  rw [aggV_agg]
  refine CF_mono key ?_
  rintro u hp2 ⟨w,y,rfl,h9⟩
  simp only [tup2V_mk,aggV_agg,intV_int]
  rw [if_pos (bdc_len _),if_pos (bdc_one _),if_pos (by simp [bdc_len])]
  exact h9
end
end
end Go.Proofs
set_option linter.unusedVariables false
set_option maxRecDepth 20000
namespace Go.Proofs
open Go Go.HL
def F17_j6 (x1:OA) (x17:Bool) (k5 k16:List Value) (hp:HP) (K:Kh):Prop:=
  (ldV (k5)[3]? fun v_18=>(intV v_18 .i64 fun i_19=>(ldV (k5)[2]? fun v_20=>(intV v_20 .u8 fun i_21=>(ldV (k5)[5]? fun v_22=>(intV v_22 .i64 fun i_23=>(CF Tryz.prog 45 [(Value.int .u8 i_21),(Value.int .i64 i_23)] hp fun u_24 h_25=>(aggV u_24 fun l_26=>(CF Tryz.prog 67 [(Value.pointer x1),(Value.int .i64 i_19),(Value.agg ⟨l_26⟩)] h_25 fun u_27 h_28=>(intV u_27 .i64 fun i_29=>(ite2 (x17==(decide ((i_29:Int)≥0))) (ite2 (!x17) (K (Value.bool true) h_28) (ldL (cellsN k16 0 26) fun l_30=>(ptrN x1 fun b_31 o_32=>(ldV (HP.cell h_28 b_31 (o_32+2)) fun v_33=>(slcV v_33 fun a_34 n_35 c_36=>((0≤(i_29:Int))∧((i_29:Int)<(n_35:Nat))∧(ptrN a_34 fun b_37 o_38=>(ldL (HP.cellN h_28 b_37 (o_38+Int.toNat i_29*26) 26) fun l_39=>(CF Tryz.prog 49 [(Value.agg ⟨l_30⟩),(Value.agg ⟨l_39⟩)] h_28 fun u_40 h_41=>(boolV u_40 fun q_42=>(K (Value.bool q_42) h_41))))))))))) (K (Value.bool false) h_28))))))))))))
def F17_j5 (x0 x1:OA) (x139:Bool) (k5:List Value) (hp:HP) (K:Kh):Prop:=
  (ite2 x139 (K (Value.bool false) hp) ((ldV (k5)[3]? fun v_43=>(intV v_43 .i64 fun i_44=>(ldV (k5)[2]? fun v_45=>(intV v_45 .u8 fun i_46=>(ldV (k5)[5]? fun v_47=>(intV v_47 .i64 fun i_48=>(CF Tryz.prog 45 [(Value.int .u8 i_46),(Value.int .i64 i_48)] hp fun u_49 h_50=>(aggV u_49 fun l_51=>(CF Tryz.prog 44 [(Value.pointer x0),(Value.int .i64 i_44),(Value.agg ⟨l_51⟩)] h_50 fun u_52 h_53=>(tup2V u_52 fun u_54 u_55=>(aggV u_54 fun l_56=>(boolV u_55 fun q_57=>(if List.length l_56=26 then (if List.all l_56 one=true then (if 0+List.length l_56≤List.length zB then (F17_j6 x1 q_57 k5 (splice zB 0 l_56) h_53  K) else False) else False) else False)))))))))))))∧(ldV (k5)[3]? fun v_58=>(intV v_58 .i64 fun i_59=>(ldV (k5)[2]? fun v_60=>(intV v_60 .u8 fun i_61=>(ldV (k5)[5]? fun v_62=>(intV v_62 .i64 fun i_63=>(CF Tryz.prog 45 [(Value.int .u8 i_61),(Value.int .i64 i_63)] hp fun u_64 h_65=>(aggV u_64 fun l_66=>(CF Tryz.prog 44 [(Value.pointer x0),(Value.int .i64 i_59),(Value.agg ⟨l_66⟩)] h_65 fun u_67 h_68=>(tup2V u_67 fun u_69 u_70=>(aggV u_69 fun l_71=>(boolV u_70 fun q_72=>(if List.length l_71=26 then (if List.all l_71 one=true then (if 0+List.length l_71≤List.length zB then (F17_j6 x1 q_72 k5 (splice zB 0 l_71) h_68  K) else False) else False) else False)))))))))))))∧(ldV (k5)[3]? fun v_73=>(intV v_73 .i64 fun i_74=>(ldV (k5)[5]? fun v_75=>(intV v_75 .i64 fun i_76=>(ldV (k5)[2]? fun v_77=>(intV v_77 .u8 fun i_78=>(CF Tryz.prog 45 [(Value.int .u8 i_78),(Value.int .i64 i_76)] hp fun u_79 h_80=>(aggV u_79 fun l_81=>(CF Tryz.prog 44 [(Value.pointer x0),(Value.int .i64 i_74),(Value.agg ⟨l_81⟩)] h_80 fun u_82 h_83=>(tup2V u_82 fun u_84 u_85=>(aggV u_84 fun l_86=>(boolV u_85 fun q_87=>(if List.length l_86=26 then (if List.all l_86 one=true then (if 0+List.length l_86≤List.length zB then (F17_j6 x1 q_87 k5 (splice zB 0 l_86) h_83  K) else False) else False) else False)))))))))))))∧(ldV (k5)[3]? fun v_88=>(intV v_88 .i64 fun i_89=>(ldV (k5)[2]? fun v_90=>(intV v_90 .u8 fun i_91=>(ldV (k5)[5]? fun v_92=>(intV v_92 .i64 fun i_93=>(CF Tryz.prog 45 [(Value.int .u8 i_91),(Value.int .i64 i_93)] hp fun u_94 h_95=>(aggV u_94 fun l_96=>(CF Tryz.prog 44 [(Value.pointer x0),(Value.int .i64 i_89),(Value.agg ⟨l_96⟩)] h_95 fun u_97 h_98=>(tup2V u_97 fun u_99 u_100=>(aggV u_99 fun l_101=>(boolV u_100 fun q_102=>(if List.length l_101=26 then (if List.all l_101 one=true then (if 0+List.length l_101≤List.length zB then (F17_j6 x1 q_102 k5 (splice zB 0 l_101) h_98  K) else False) else False) else False)))))))))))))∧(ldV (k5)[2]? fun v_103=>(intV v_103 .u8 fun i_104=>(ldV (k5)[5]? fun v_105=>(intV v_105 .i64 fun i_106=>(CF Tryz.prog 45 [(Value.int .u8 i_104),(Value.int .i64 i_106)] hp fun u_107 h_108=>(aggV u_107 fun l_109=>(ldV (k5)[3]? fun v_110=>(intV v_110 .i64 fun i_111=>(CF Tryz.prog 44 [(Value.pointer x0),(Value.int .i64 i_111),(Value.agg ⟨l_109⟩)] h_108 fun u_112 h_113=>(tup2V u_112 fun u_114 u_115=>(aggV u_114 fun l_116=>(boolV u_115 fun q_117=>(if List.length l_116=26 then (if List.all l_116 one=true then (if 0+List.length l_116≤List.length zB then (F17_j6 x1 q_117 k5 (splice zB 0 l_116) h_113  K) else False) else False) else False)))))))))))))∧(ldV (k5)[2]? fun v_118=>(intV v_118 .u8 fun i_119=>(ldV (k5)[3]? fun v_120=>(intV v_120 .i64 fun i_121=>(ldV (k5)[5]? fun v_122=>(intV v_122 .i64 fun i_123=>(CF Tryz.prog 45 [(Value.int .u8 i_119),(Value.int .i64 i_123)] hp fun u_124 h_125=>(aggV u_124 fun l_126=>(CF Tryz.prog 44 [(Value.pointer x0),(Value.int .i64 i_121),(Value.agg ⟨l_126⟩)] h_125 fun u_127 h_128=>(tup2V u_127 fun u_129 u_130=>(aggV u_129 fun l_131=>(boolV u_130 fun q_132=>(if List.length l_131=26 then (if List.all l_131 one=true then (if 0+List.length l_131≤List.length zB then (F17_j6 x1 q_132 k5 (splice zB 0 l_131) h_128  K) else False) else False) else False)))))))))))))∧(ldV (k5)[5]? fun v_133=>(intV v_133 .i64 fun i_134=>(ldV (k5)[3]? fun v_135=>(intV v_135 .i64 fun i_136=>(ldV (k5)[2]? fun v_137=>(intV v_137 .u8 fun i_138=>(CF Tryz.prog 45 [(Value.int .u8 i_138),(Value.int .i64 i_134)] hp fun u_139 h_140=>(aggV u_139 fun l_141=>(CF Tryz.prog 44 [(Value.pointer x0),(Value.int .i64 i_136),(Value.agg ⟨l_141⟩)] h_140 fun u_142 h_143=>(tup2V u_142 fun u_144 u_145=>(aggV u_144 fun l_146=>(boolV u_145 fun q_147=>(if List.length l_146=26 then (if List.all l_146 one=true then (if 0+List.length l_146≤List.length zB then (F17_j6 x1 q_147 k5 (splice zB 0 l_146) h_143  K) else False) else False) else False)))))))))))))∧(ldV (k5)[3]? fun v_148=>(intV v_148 .i64 fun i_149=>(ldV (k5)[2]? fun v_150=>(intV v_150 .u8 fun i_151=>(ldV (k5)[5]? fun v_152=>(intV v_152 .i64 fun i_153=>(CF Tryz.prog 45 [(Value.int .u8 i_151),(Value.int .i64 i_153)] hp fun u_154 h_155=>(aggV u_154 fun l_156=>(CF Tryz.prog 44 [(Value.pointer x0),(Value.int .i64 i_149),(Value.agg ⟨l_156⟩)] h_155 fun u_157 h_158=>(tup2V u_157 fun u_159 u_160=>(aggV u_159 fun l_161=>(boolV u_160 fun q_162=>(if List.length l_161=26 then (if List.all l_161 one=true then (if 0+List.length l_161≤List.length zB then (F17_j6 x1 q_162 k5 (splice zB 0 l_161) h_158  K) else False) else False) else False)))))))))))))))
def F17_j4 (x0 x1:OA) (x14:Bool) (k5 k13:List Value) (hp:HP) (K:Kh):Prop:=
  (ldV (k5)[3]? fun v_6=>(intV v_6 .i64 fun i_7=>(ldV (k5)[1]? fun v_8=>(intV v_8 .u8 fun i_9=>(ldV (k5)[4]? fun v_10=>(intV v_10 .i64 fun i_11=>(CF Tryz.prog 43 [(Value.int .u8 i_9),(Value.int .i64 i_11)] hp fun u_12 h_13=>(aggV u_12 fun l_14=>(CF Tryz.prog 66 [(Value.pointer x1),(Value.int .i64 i_7),(Value.agg ⟨l_14⟩)] h_13 fun u_15 h_16=>(intV u_15 .i64 fun i_17=>(ite2 (!(x14==(decide ((i_17:Int)≥0)))) (F17_j5 x0 x1 true k5 h_16  K) (ite2 x14 (ldL (cellsN k13 0 26) fun l_163=>(ptrN x1 fun b_164 o_165=>(ldV (HP.cell h_16 b_164 (o_165+2)) fun v_166=>(slcV v_166 fun a_167 n_168 c_169=>((0≤(i_17:Int))∧((i_17:Int)<(n_168:Nat))∧(ptrN a_167 fun b_170 o_171=>(ldL (HP.cellN h_16 b_170 (o_171+Int.toNat i_17*26) 26) fun l_172=>(CF Tryz.prog 49 [(Value.agg ⟨l_163⟩),(Value.agg ⟨l_172⟩)] h_16 fun u_173 h_174=>(boolV u_173 fun q_175=>(F17_j5 x0 x1 (!q_175) k5 h_174  K)))))))))) (F17_j5 x0 x1 false k5 h_16  K)))))))))))))
def F17_j3 (x0 x1:OA) (k5:List Value) (hp:HP) (K:Kh):Prop:=
  ((ldV (k5)[3]? fun v_176=>(intV v_176 .i64 fun i_177=>(ldV (k5)[1]? fun v_178=>(intV v_178 .u8 fun i_179=>(ldV (k5)[4]? fun v_180=>(intV v_180 .i64 fun i_181=>(CF Tryz.prog 43 [(Value.int .u8 i_179),(Value.int .i64 i_181)] hp fun u_182 h_183=>(aggV u_182 fun l_184=>(CF Tryz.prog 65 [(Value.pointer x0),(Value.int .i64 i_177),(Value.agg ⟨l_184⟩)] h_183 fun u_185 h_186=>(tup2V u_185 fun u_187 u_188=>(aggV u_187 fun l_189=>(boolV u_188 fun q_190=>(if List.length l_189=26 then (if List.all l_189 one=true then (if 0+List.length l_189≤List.length zB then (F17_j4 x0 x1 q_190 k5 (splice zB 0 l_189) h_186  K) else False) else False) else False)))))))))))))∧(ldV (k5)[3]? fun v_191=>(intV v_191 .i64 fun i_192=>(ldV (k5)[1]? fun v_193=>(intV v_193 .u8 fun i_194=>(ldV (k5)[4]? fun v_195=>(intV v_195 .i64 fun i_196=>(CF Tryz.prog 43 [(Value.int .u8 i_194),(Value.int .i64 i_196)] hp fun u_197 h_198=>(aggV u_197 fun l_199=>(CF Tryz.prog 65 [(Value.pointer x0),(Value.int .i64 i_192),(Value.agg ⟨l_199⟩)] h_198 fun u_200 h_201=>(tup2V u_200 fun u_202 u_203=>(aggV u_202 fun l_204=>(boolV u_203 fun q_205=>(if List.length l_204=26 then (if List.all l_204 one=true then (if 0+List.length l_204≤List.length zB then (F17_j4 x0 x1 q_205 k5 (splice zB 0 l_204) h_201  K) else False) else False) else False)))))))))))))∧(ldV (k5)[3]? fun v_206=>(intV v_206 .i64 fun i_207=>(ldV (k5)[4]? fun v_208=>(intV v_208 .i64 fun i_209=>(ldV (k5)[1]? fun v_210=>(intV v_210 .u8 fun i_211=>(CF Tryz.prog 43 [(Value.int .u8 i_211),(Value.int .i64 i_209)] hp fun u_212 h_213=>(aggV u_212 fun l_214=>(CF Tryz.prog 65 [(Value.pointer x0),(Value.int .i64 i_207),(Value.agg ⟨l_214⟩)] h_213 fun u_215 h_216=>(tup2V u_215 fun u_217 u_218=>(aggV u_217 fun l_219=>(boolV u_218 fun q_220=>(if List.length l_219=26 then (if List.all l_219 one=true then (if 0+List.length l_219≤List.length zB then (F17_j4 x0 x1 q_220 k5 (splice zB 0 l_219) h_216  K) else False) else False) else False)))))))))))))∧(ldV (k5)[3]? fun v_221=>(intV v_221 .i64 fun i_222=>(ldV (k5)[1]? fun v_223=>(intV v_223 .u8 fun i_224=>(ldV (k5)[4]? fun v_225=>(intV v_225 .i64 fun i_226=>(CF Tryz.prog 43 [(Value.int .u8 i_224),(Value.int .i64 i_226)] hp fun u_227 h_228=>(aggV u_227 fun l_229=>(CF Tryz.prog 65 [(Value.pointer x0),(Value.int .i64 i_222),(Value.agg ⟨l_229⟩)] h_228 fun u_230 h_231=>(tup2V u_230 fun u_232 u_233=>(aggV u_232 fun l_234=>(boolV u_233 fun q_235=>(if List.length l_234=26 then (if List.all l_234 one=true then (if 0+List.length l_234≤List.length zB then (F17_j4 x0 x1 q_235 k5 (splice zB 0 l_234) h_231  K) else False) else False) else False)))))))))))))∧(ldV (k5)[1]? fun v_236=>(intV v_236 .u8 fun i_237=>(ldV (k5)[4]? fun v_238=>(intV v_238 .i64 fun i_239=>(CF Tryz.prog 43 [(Value.int .u8 i_237),(Value.int .i64 i_239)] hp fun u_240 h_241=>(aggV u_240 fun l_242=>(ldV (k5)[3]? fun v_243=>(intV v_243 .i64 fun i_244=>(CF Tryz.prog 65 [(Value.pointer x0),(Value.int .i64 i_244),(Value.agg ⟨l_242⟩)] h_241 fun u_245 h_246=>(tup2V u_245 fun u_247 u_248=>(aggV u_247 fun l_249=>(boolV u_248 fun q_250=>(if List.length l_249=26 then (if List.all l_249 one=true then (if 0+List.length l_249≤List.length zB then (F17_j4 x0 x1 q_250 k5 (splice zB 0 l_249) h_246  K) else False) else False) else False)))))))))))))∧(ldV (k5)[1]? fun v_251=>(intV v_251 .u8 fun i_252=>(ldV (k5)[3]? fun v_253=>(intV v_253 .i64 fun i_254=>(ldV (k5)[4]? fun v_255=>(intV v_255 .i64 fun i_256=>(CF Tryz.prog 43 [(Value.int .u8 i_252),(Value.int .i64 i_256)] hp fun u_257 h_258=>(aggV u_257 fun l_259=>(CF Tryz.prog 65 [(Value.pointer x0),(Value.int .i64 i_254),(Value.agg ⟨l_259⟩)] h_258 fun u_260 h_261=>(tup2V u_260 fun u_262 u_263=>(aggV u_262 fun l_264=>(boolV u_263 fun q_265=>(if List.length l_264=26 then (if List.all l_264 one=true then (if 0+List.length l_264≤List.length zB then (F17_j4 x0 x1 q_265 k5 (splice zB 0 l_264) h_261  K) else False) else False) else False)))))))))))))∧(ldV (k5)[4]? fun v_266=>(intV v_266 .i64 fun i_267=>(ldV (k5)[3]? fun v_268=>(intV v_268 .i64 fun i_269=>(ldV (k5)[1]? fun v_270=>(intV v_270 .u8 fun i_271=>(CF Tryz.prog 43 [(Value.int .u8 i_271),(Value.int .i64 i_267)] hp fun u_272 h_273=>(aggV u_272 fun l_274=>(CF Tryz.prog 65 [(Value.pointer x0),(Value.int .i64 i_269),(Value.agg ⟨l_274⟩)] h_273 fun u_275 h_276=>(tup2V u_275 fun u_277 u_278=>(aggV u_277 fun l_279=>(boolV u_278 fun q_280=>(if List.length l_279=26 then (if List.all l_279 one=true then (if 0+List.length l_279≤List.length zB then (F17_j4 x0 x1 q_280 k5 (splice zB 0 l_279) h_276  K) else False) else False) else False)))))))))))))∧(ldV (k5)[3]? fun v_281=>(intV v_281 .i64 fun i_282=>(ldV (k5)[1]? fun v_283=>(intV v_283 .u8 fun i_284=>(ldV (k5)[4]? fun v_285=>(intV v_285 .i64 fun i_286=>(CF Tryz.prog 43 [(Value.int .u8 i_284),(Value.int .i64 i_286)] hp fun u_287 h_288=>(aggV u_287 fun l_289=>(CF Tryz.prog 65 [(Value.pointer x0),(Value.int .i64 i_282),(Value.agg ⟨l_289⟩)] h_288 fun u_290 h_291=>(tup2V u_290 fun u_292 u_293=>(aggV u_292 fun l_294=>(boolV u_293 fun q_295=>(if List.length l_294=26 then (if List.all l_294 one=true then (if 0+List.length l_294≤List.length zB then (F17_j4 x0 x1 q_295 k5 (splice zB 0 l_294) h_291  K) else False) else False) else False))))))))))))))
def F17_j9 (x0 x1 x80a:OA) (x80n x80c:Nat) (x81 x82:Int) (x98:Bool) (k5:List Value) (hp:HP) (I8:(Int)→HP→Prop) (K:Kh):Prop:=
  (ite2 x98 (K (Value.bool false) hp) (I8 (IntKind.wrap .i64 (x82+1)) hp))
def F17_l8 (x0 x1 x80a:OA) (x80n x80c:Nat) (x81:Int) (k5:List Value) (K:Kh) (I8:(Int)→HP→Prop) (x82:Int) (hp:HP):Prop:=
  (ite2 (decide ((x82:Int)<x81)) ((0≤(x82:Int))∧((x82:Int)<(x80n:Nat))∧(ptrN x80a fun b_296 o_297=>(ldV (HP.cell hp b_296 (o_297+Int.toNat x82*1)) fun v_298=>(intV v_298 .i64 fun i_299=>((CF Tryz.prog 62 [(Value.pointer x0),(Value.int .i64 i_299)] hp fun u_300 h_301=>(intV u_300 .i64 fun i_302=>(ptrN x1 fun b_303 o_304=>(ldV (HP.cell h_301 b_303 (o_304+3)) fun v_305=>(slcV v_305 fun a_306 n_307 c_308=>(CF Tryz.prog 63 [(Value.int .i64 i_299)] h_301 fun u_309 h_310=>(intV u_309 .i64 fun i_311=>((0≤(i_311:Int))∧((i_311:Int)<(n_307:Nat))∧(ptrN a_306 fun b_312 o_313=>(ldV (HP.cell h_310 b_312 (o_313+Int.toNat i_311*1)) fun v_314=>(ptrV v_314 fun p_315=>(CF Tryz.prog 64 [(Value.pointer p_315)] h_310 fun u_316 h_317=>(intV u_316 .i64 fun i_318=>(F17_j9 x0 x1 x80a x80n x80c x81 x82 ((i_302:Int) != i_318) k5 h_317 I8 K))))))))))))))∧(CF Tryz.prog 62 [(Value.pointer x0),(Value.int .i64 i_299)] hp fun u_319 h_320=>(intV u_319 .i64 fun i_321=>(ptrN x1 fun b_322 o_323=>(CF Tryz.prog 63 [(Value.int .i64 i_299)] h_320 fun u_324 h_325=>(intV u_324 .i64 fun i_326=>(ldV (HP.cell h_325 b_322 (o_323+3)) fun v_327=>(slcV v_327 fun a_328 n_329 c_330=>((0≤(i_326:Int))∧((i_326:Int)<(n_329:Nat))∧(ptrN a_328 fun b_331 o_332=>(ldV (HP.cell h_325 b_331 (o_332+Int.toNat i_326*1)) fun v_333=>(ptrV v_333 fun p_334=>(CF Tryz.prog 64 [(Value.pointer p_334)] h_325 fun u_335 h_336=>(intV u_335 .i64 fun i_337=>(F17_j9 x0 x1 x80a x80n x80c x81 x82 ((i_321:Int) != i_337) k5 h_336 I8 K))))))))))))))∧(ptrN x1 fun b_338 o_339=>(ldV (HP.cell hp b_338 (o_339+3)) fun v_340=>(slcV v_340 fun a_341 n_342 c_343=>(CF Tryz.prog 62 [(Value.pointer x0),(Value.int .i64 i_299)] hp fun u_344 h_345=>(intV u_344 .i64 fun i_346=>(CF Tryz.prog 63 [(Value.int .i64 i_299)] h_345 fun u_347 h_348=>(intV u_347 .i64 fun i_349=>((0≤(i_349:Int))∧((i_349:Int)<(n_342:Nat))∧(ptrN a_341 fun b_350 o_351=>(ldV (HP.cell h_348 b_350 (o_351+Int.toNat i_349*1)) fun v_352=>(ptrV v_352 fun p_353=>(CF Tryz.prog 64 [(Value.pointer p_353)] h_348 fun u_354 h_355=>(intV u_354 .i64 fun i_356=>(F17_j9 x0 x1 x80a x80n x80c x81 x82 ((i_346:Int) != i_356) k5 h_355 I8 K))))))))))))))))))) (F17_j3 x0 x1 k5 hp  K))
def F17_j7 (x0 x1 x80a:OA) (x80n x80c:Nat) (x81 x82:Int) (k5:List Value) (hp:HP) (K:Kh):Prop:=
  (LoopP (σ:=Int) (fun I s hp=>F17_l8 x0 x1 x80a x80n x80c x81 k5  K I s hp) x82 hp)
def F17_j2 (x0 x1:OA) (k5:List Value) (hp:HP) (K:Kh):Prop:=
  (∀ b_357:Nat,hp b_357=.none→(F17_j7 x0 x1 (some ⟨b_357,0,none⟩) 3 3 (3:Nat) 0 k5 (HP.set hp b_357 (.cells 3 [(Value.int .i64 1),(Value.int .i64 6),(Value.int .i64 17)] 0))  K))
def F17_j12 (x0 x1 x7a:OA) (x7n x7c:Nat) (x8:Int) (x79:Bool) (k5:List Value) (hp:HP) (I11:(Int)→HP→Prop) (K:Kh):Prop:=
  (ite2 x79 (K (Value.bool false) hp) (I11 (IntKind.wrap .i64 (x8+1)) hp))
def F17_l11 (x0 x1 x7a:OA) (x7n x7c:Nat) (k5:List Value) (K:Kh) (I11:(Int)→HP→Prop) (x8:Int) (hp:HP):Prop:=
  (ite2 (decide ((x8:Int)<(x7n:Nat))) ((0≤(x8:Int))∧((x8:Int)<(x7n:Nat))∧(ptrN x7a fun b_358 o_359=>(ldV (HP.cell hp b_358 ((o_359+Int.toNat x8*26)+0)) fun v_360=>(intV v_360 .i64 fun i_361=>(CF Tryz.prog 61 [(Value.pointer x0),(Value.int .i64 i_361)] hp fun u_362 h_363=>(tup2V u_362 fun u_364 u_365=>(aggV u_364 fun l_366=>(boolV u_365 fun q_367=>(if List.length l_366=26 then (if List.all l_366 one=true then (if 0+List.length l_366≤List.length zB then ((0≤(x8:Int))∧((x8:Int)<(x7n:Nat))∧(ptrN x7a fun b_368 o_369=>(ldL (HP.cellN h_363 b_368 (o_369+Int.toNat x8*26) 26) fun l_370=>(ptrN x1 fun b_371 o_372=>(ldV (HP.cell h_363 b_371 (o_372+2)) fun v_373=>(slcV v_373 fun a_374 n_375 c_376=>((0≤(x8:Int))∧((x8:Int)<(n_375:Nat))∧(ptrN a_374 fun b_377 o_378=>(ldL (HP.cellN h_363 b_377 (o_378+Int.toNat x8*26) 26) fun l_379=>(CF Tryz.prog 49 [(Value.agg ⟨l_370⟩),(Value.agg ⟨l_379⟩)] h_363 fun u_380 h_381=>(boolV u_380 fun q_382=>(ite2 (!q_382) (F17_j12 x0 x1 x7a x7n x7c x8 true k5 h_381 I11 K) (ite2 (!q_367) (F17_j12 x0 x1 x7a x7n x7c x8 true k5 h_381 I11 K) (ldL (cellsN (splice zB 0 l_366) 0 26) fun l_383=>((0≤(x8:Int))∧((x8:Int)<(x7n:Nat))∧(ptrN x7a fun b_384 o_385=>(ldL (HP.cellN h_381 b_384 (o_385+Int.toNat x8*26) 26) fun l_386=>(eqAgg Tryz.prog 97 l_383 l_386 fun q_387=>(F17_j12 x0 x1 x7a x7n x7c x8 (!q_387) k5 h_381 I11 K))))))))))))))))))) else False) else False) else False))))))))) (F17_j2 x0 x1 k5 hp  K))
def F17_j10 (x0 x1 x7a:OA) (x7n x7c:Nat) (x8:Int) (k5:List Value) (hp:HP) (K:Kh):Prop:=
  (LoopP (σ:=Int) (fun I s hp=>F17_l11 x0 x1 x7a x7n x7c k5  K I s hp) x8 hp)
def F17_j1 (x0 x1 x7a:OA) (x7n x7c:Nat) (x38:Bool) (k5:List Value) (hp:HP) (K:Kh):Prop:=
  (ite2 x38 (K (Value.bool false) hp) (F17_j10 x0 x1 x7a x7n x7c 0 k5 hp  K))
def F17 (x0 x1:OA) (x2:List Value) (hp:HP) (K:Kh):Prop:=
  (CF Tryz.prog 60 [(Value.pointer x0)] hp fun u_1 h_2=>(slcV u_1 fun a_3 n_4 c_5=>((ptrN x1 fun b_388 o_389=>(ldV (HP.cell h_2 b_388 (o_389+2)) fun v_390=>(slcV v_390 fun a_391 n_392 c_393=>(ite2 (((n_4:Nat):Int) != (n_392:Nat)) (F17_j1 x0 x1 a_3 n_4 c_5 true x2 h_2  K) (CF Tryz.prog 46 [(Value.pointer x0)] h_2 fun u_394 h_395=>(intV u_394 .i64 fun i_396=>(ptrN x1 fun b_397 o_398=>(ldV (HP.cell h_395 b_397 (o_398+2)) fun v_399=>(slcV v_399 fun a_400 n_401 c_402=>(F17_j1 x0 x1 a_3 n_4 c_5 ((i_396:Int) != (n_401:Nat)) x2 h_395  K))))))))))∧(ptrN x1 fun b_403 o_404=>(ldV (HP.cell h_2 b_403 (o_404+2)) fun v_405=>(slcV v_405 fun a_406 n_407 c_408=>(ite2 (((n_4:Nat):Int) != (n_407:Nat)) (F17_j1 x0 x1 a_3 n_4 c_5 true x2 h_2  K) (ptrN x1 fun b_409 o_410=>(ldV (HP.cell h_2 b_409 (o_410+2)) fun v_411=>(slcV v_411 fun a_412 n_413 c_414=>(CF Tryz.prog 46 [(Value.pointer x0)] h_2 fun u_415 h_416=>(intV u_415 .i64 fun i_417=>(F17_j1 x0 x1 a_3 n_4 c_5 ((i_417:Int) != (n_413:Nat)) x2 h_416  K)))))))))))))
theorem F17_ok (x0 x1:OA) (x2:List Value) (hp:HP) (K:Kh) (h:F17 x0 x1 x2 hp K):CF Tryz.prog 17 [(Value.pointer x0),(Value.pointer x1),(Value.agg ⟨x2⟩)] hp K:=
  have L:∀ {Q} n,Snd Tryz.prog 180 (cAt Tryz.f17 (pth n)) Q (CW Tryz.prog 180 [5,9,13,16,102,104,106,113,115,117,142,144,146,153,155,157] [(2,[(10,14)],[([true],true,[0,1,2,3,4,5,6,7,8,9,10,11,12,13,14,15,16,17]),([false],true,[0,1,2,3,4,5,6,7,8,9,11,12,13,14,10,15,16,17])]),(13,[(2,6),(6,8)],[([false,false],false,[2,8,6,2]),([true,true],true,[0,1,2,3,4,5,6,7,8,9,10,11,12]),([true,false],true,[0,1,2,3,4,5,7,8,6,9,10,11,12]),([false,true],true,[0,1,3,4,5,6,2,7,8,9,10,11,12])]),(16,[(2,12),(4,12),(6,12)],[([true,true,true],true,[0,1,2,3,4,5,6,7,8,9,10,11,12,13,14]),([true,true,false],true,[0,1,2,3,4,5,12,6,7,8,9,10,11,13,14]),([true,false,true],true,[0,1,2,3,5,6,12,4,7,8,9,10,11,13,14]),([true,false,false],true,[0,1,2,3,5,12,4,6,7,8,9,10,11,13,14]),([false,true,true],true,[0,1,3,4,5,6,7,12,2,8,9,10,11,13,14]),([false,true,false],true,[0,1,3,4,5,12,2,6,7,8,9,10,11,13,14]),([false,false,true],true,[0,1,3,5,6,12,2,4,7,8,9,10,11,13,14]),([false,false,false],true,[0,1,3,5,12,2,4,6,7,8,9,10,11,13,14])]),(20,[(2,12),(4,12),(6,12)],[([true,true,true],true,[0,1,2,3,4,5,6,7,8,9,10,11,12,13,14]),([true,true,false],true,[0,1,2,3,4,5,12,6,7,8,9,10,11,13,14]),([true,false,true],true,[0,1,2,3,5,6,12,4,7,8,9,10,11,13,14]),([true,false,false],true,[0,1,2,3,5,12,4,6,7,8,9,10,11,13,14]),([false,true,true],true,[0,1,3,4,5,6,7,12,2,8,9,10,11,13,14]),([false,true,false],true,[0,1,3,4,5,12,2,6,7,8,9,10,11,13,14]),([false,false,true],true,[0,1,3,5,6,12,2,4,7,8,9,10,11,13,14]),([false,false,false],true,[0,1,3,5,12,2,4,6,7,8,9,10,11,13,14])])] (cAt Tryz.f17 (pth n)) Q):=fun _=>Snd.leaf
  okF h Tryz.func17 (Snd.seq (L 2) (Snd.seq (L 5) (Snd.seq (Snd.jn [(0,.p),(1,.p),(5,.r 5 0),(7,.s),(38,.b),(5,.c 51)] (fun a hp=>F17_j1 a.1 a.2.1 a.2.2.1 a.2.2.2.1 a.2.2.2.2.1 a.2.2.2.2.2.1 a.2.2.2.2.2.2.1 hp  K) (L 19) (L 27) (by rfl) (by kernel_rfl)) (Snd.jn [(0,.p),(1,.p),(5,.r 5 0),(5,.c 51)] (fun a hp=>F17_j2 a.1 a.2.1 a.2.2.1 hp  K) (Snd.jn [(0,.p),(1,.p),(5,.r 5 0),(7,.s),(8,.i .i64),(5,.c 51)] (fun a hp=>F17_j10 a.1 a.2.1 a.2.2.1 a.2.2.2.1 a.2.2.2.2.1 a.2.2.2.2.2.1 a.2.2.2.2.2.2.1 hp  K) (L 39) (Snd.block 0 (Snd.lp (σ:=Int) [(0,.p),(1,.p),(5,.r 5 0),(7,.s),(8,.i .i64),(5,.c 51)] (fun a=>a.2.2.2.2.2.1) (fun a s=>(a.1,a.2.1,a.2.2.1,a.2.2.2.1,a.2.2.2.2.1,s,a.2.2.2.2.2.2.1,())) (fun a I s hp=>F17_l11 a.1 a.2.1 a.2.2.1 a.2.2.2.1 a.2.2.2.2.1 a.2.2.2.2.2.2.1  K I s hp) (fun I11=>(Snd.seq (L 279) (Snd.seq (Snd.block 1 (Snd.seq (L 2199) (Snd.jn [(0,.p),(1,.p),(5,.r 5 0),(7,.s),(8,.i .i64),(79,.b),(5,.c 51)] (fun a hp=>F17_j12 a.1 a.2.1 a.2.2.1 a.2.2.2.1 a.2.2.2.2.1 a.2.2.2.2.2.1 a.2.2.2.2.2.2.1 a.2.2.2.2.2.2.2.1 hp (fun s hp=>I11 (a.1,a.2.1,a.2.2.1,a.2.2.2.1,a.2.2.2.2.1,s,a.2.2.2.2.2.2.2.1,()) hp) K) (L 5271) (L 7319) (by rfl) (by kernel_rfl)))) (L 919)))) (by rfl) (by kernel_rfl) (by kernel_rfl))) (by rfl) (by kernel_rfl)) (Snd.jn [(0,.p),(1,.p),(5,.r 5 0),(5,.c 51)] (fun a hp=>F17_j3 a.1 a.2.1 a.2.2.1 hp  K) (Snd.jn [(0,.p),(1,.p),(5,.r 5 0),(80,.s),(81,.i .i64),(82,.i .i64),(5,.c 51)] (fun a hp=>F17_j7 a.1 a.2.1 a.2.2.1 a.2.2.2.1 a.2.2.2.2.1 a.2.2.2.2.2.1 a.2.2.2.2.2.2.1 a.2.2.2.2.2.2.2.1 hp  K) (L 79) (Snd.block 2 (Snd.lp (σ:=Int) [(0,.p),(1,.p),(5,.r 5 0),(80,.s),(81,.i .i64),(82,.i .i64),(5,.c 51)] (fun a=>a.2.2.2.2.2.2.1) (fun a s=>(a.1,a.2.1,a.2.2.1,a.2.2.2.1,a.2.2.2.2.1,a.2.2.2.2.2.1,s,a.2.2.2.2.2.2.2.1,())) (fun a I s hp=>F17_l8 a.1 a.2.1 a.2.2.1 a.2.2.2.1 a.2.2.2.2.1 a.2.2.2.2.2.1 a.2.2.2.2.2.2.2.1  K I s hp) (fun I8=>(Snd.seq (L 559) (Snd.seq (L 1327) (Snd.seq (Snd.block 3 (Snd.seq (L 9007) (Snd.jn [(0,.p),(1,.p),(5,.r 5 0),(80,.s),(81,.i .i64),(82,.i .i64),(98,.b),(5,.c 51)] (fun a hp=>F17_j9 a.1 a.2.1 a.2.2.1 a.2.2.2.1 a.2.2.2.2.1 a.2.2.2.2.2.1 a.2.2.2.2.2.2.1 a.2.2.2.2.2.2.2.1 a.2.2.2.2.2.2.2.2.1 hp (fun s hp=>I8 (a.1,a.2.1,a.2.2.1,a.2.2.2.1,a.2.2.2.2.1,a.2.2.2.2.2.1,s,a.2.2.2.2.2.2.2.2.1,()) hp) K) (L 21295) (L 29487) (by rfl) (by kernel_rfl)))) (L 3887))))) (by rfl) (by kernel_rfl) (by kernel_rfl))) (by rfl) (by kernel_rfl)) (Snd.jn [(0,.p),(1,.p),(5,.r 5 0),(13,.r 13 0),(14,.b),(5,.c 51),(13,.c 97)] (fun a hp=>F17_j4 a.1 a.2.1 a.2.2.1 a.2.2.2.1 a.2.2.2.2.1 hp  K) (L 95) (Snd.seq (L 191) (Snd.seq (Snd.jn [(0,.p),(1,.p),(5,.r 5 0),(139,.b),(5,.c 51)] (fun a hp=>F17_j5 a.1 a.2.1 a.2.2.1 a.2.2.2.1 hp  K) (L 639) (L 895) (by rfl) (by kernel_rfl)) (Snd.jn [(1,.p),(5,.r 5 0),(16,.r 16 0),(17,.b),(5,.c 51),(16,.c 97)] (fun a hp=>F17_j6 a.1 a.2.1 a.2.2.1 a.2.2.2.1 hp  K) (L 767) (L 1023) (by rfl) (by kernel_rfl)))) (by rfl) (by kernel_rfl)) (by rfl) (by kernel_rfl)) (by rfl) (by kernel_rfl))))) (by kernel_rfl) (by kernel_rfl) (by kernel_rfl)
def F4_j3 (hp:HP) (K:Kh):Prop:=
  (CF Tryz.prog 12 [] hp fun u_19 h_20=>(boolV u_19 fun q_21=>(K (Value.bool q_21) h_20)))
def F4_j6 (x4a:OA) (x4n x4c:Nat) (x11 x13:OA) (x14:Int) (x85:Bool) (hp:HP) (I5:(Int)→HP→Prop) (K:Kh):Prop:=
  (ite2 x85 (K (Value.bool false) hp) (I5 (IntKind.wrap .i64 (x14+1)) hp))
def F4_l5 (x4a:OA) (x4n x4c:Nat) (x11 x13:OA) (K:Kh) (I5:(Int)→HP→Prop) (x14:Int) (hp:HP):Prop:=
  (ite2 (decide ((x14:Int)<(x4n:Nat))) ((0≤(x14:Int))∧((x14:Int)<(x4n:Nat))∧(ptrN x4a fun b_22 o_23=>(ldL (HP.cellN hp b_22 (o_23+Int.toNat x14*7) 7) fun l_24=>(CF Tryz.prog 16 [(Value.pointer x11),(Value.pointer x13),(Value.agg ⟨l_24⟩)] hp fun u_25 h_26=>(boolV u_25 fun q_27=>(ite2 (!q_27) (F4_j6 x4a x4n x4c x11 x13 x14 true h_26 I5 K) ((0≤(x14:Int))∧((x14:Int)<(x4n:Nat))∧(ptrN x4a fun b_28 o_29=>(ldL (HP.cellN h_26 b_28 (o_29+Int.toNat x14*7) 7) fun l_30=>(CF Tryz.prog 17 [(Value.pointer x11),(Value.pointer x13),(Value.agg ⟨l_30⟩)] h_26 fun u_31 h_32=>(boolV u_31 fun q_33=>(F4_j6 x4a x4n x4c x11 x13 x14 (!q_33) h_32 I5 K)))))))))))) (F4_j3  hp  K))
def F4_j4 (x4a:OA) (x4n x4c:Nat) (x11 x13:OA) (x14:Int) (hp:HP) (K:Kh):Prop:=
  (LoopP (σ:=Int) (fun I s hp=>F4_l5 x4a x4n x4c x11 x13  K I s hp) x14 hp)
def F4_j2 (x0a:OA) (x0n x0c:Nat) (x1 x2 x3:Int) (x4a:OA) (x4n x4c:Nat) (x11:OA) (x56:Bool) (hp:HP) (K:Kh):Prop:=
  (ite2 x56 (K (Value.bool false) hp) (CF Tryz.prog 15 [(Value.slice x0a x0n x0c),(Value.int .i64 x1),(Value.int .i64 x2),(Value.int .i64 x3)] hp fun u_16 h_17=>(ptrV u_16 fun p_18=>(F4_j4 x4a x4n x4c x11 p_18 0 h_17  K))))
def F4_j1 (x0a:OA) (x0n x0c:Nat) (x1 x2 x3:Int) (x4a:OA) (x4n x4c:Nat) (x11:OA) (x12:Int) (x41:Bool) (hp:HP) (K:Kh):Prop:=
  (ite2 x41 (ite2 (Option.isNone x11) (ite2 ((x12:Int)==1) (CF Tryz.prog 12 [] hp fun u_13 h_14=>(boolV u_13 fun q_15=>(K (Value.bool q_15) h_14))) (K (Value.bool false) hp)) (K (Value.bool false) hp)) (ite2 ((x12:Int) != 0) (F4_j2 x0a x0n x0c x1 x2 x3 x4a x4n x4c x11 true hp  K) (F4_j2 x0a x0n x0c x1 x2 x3 x4a x4n x4c x11 (Option.isNone x11) hp  K)))
def F4 (x0a:OA) (x0n x0c:Nat) (x1 x2 x3:Int) (x4a:OA) (x4n x4c:Nat) (hp:HP) (K:Kh):Prop:=
  (CF Tryz.prog 11 [(Value.slice x0a x0n x0c),(Value.int .i64 x1),(Value.int .i64 x2),(Value.slice x4a x4n x4c)] hp fun u_1 h_2=>(boolV u_1 fun q_3=>(ite2 q_3 (CF Tryz.prog 12 [] h_2 fun u_4 h_5=>(boolV u_4 fun q_6=>(K (Value.bool q_6) h_5))) (CF Tryz.prog 13 [(Value.slice x0a x0n x0c),(Value.int .i64 x1),(Value.int .i64 x2),(Value.int .i64 x3)] h_2 fun u_7 h_8=>(tup2V u_7 fun u_9 u_10=>(ptrV u_9 fun p_11=>(intV u_10 .i64 fun i_12=>(CF Tryz.prog 14 [(Value.slice x0a x0n x0c),(Value.int .i64 x1),(Value.int .i64 x2)] h_8 fun u_34 h_35=>(boolV u_34 fun q_36=>(ite2 (!q_36) (F4_j1 x0a x0n x0c x1 x2 x3 x4a x4n x4c p_11 i_12 true h_35  K) (ite2 (decide ((x3:Int)<1)) (F4_j1 x0a x0n x0c x1 x2 x3 x4a x4n x4c p_11 i_12 true h_35  K) (F4_j1 x0a x0n x0c x1 x2 x3 x4a x4n x4c p_11 i_12 (decide ((x3:Int) > 65536)) h_35  K))))))))))))
theorem F4_ok (x0a:OA) (x0n x0c:Nat) (x1 x2 x3:Int) (x4a:OA) (x4n x4c:Nat) (hp:HP) (K:Kh) (h:F4 x0a x0n x0c x1 x2 x3 x4a x4n x4c hp K):CF Tryz.prog 4 [(Value.slice x0a x0n x0c),(Value.int .i64 x1),(Value.int .i64 x2),(Value.int .i64 x3),(Value.slice x4a x4n x4c)] hp K:=
  have L:∀ {Q} n,Snd Tryz.prog 87 (cAt Tryz.f4 (pth n)) Q (CW Tryz.prog 87 [] [] (cAt Tryz.f4 (pth n)) Q):=fun _=>Snd.leaf
  okF h Tryz.func4 (Snd.seq (L 2) (Snd.seq (L 5) (Snd.seq (L 11) (Snd.seq (Snd.jn [(0,.s),(1,.i .i64),(2,.i .i64),(3,.i .i64),(4,.s),(11,.p),(12,.i .i64),(41,.b)] (fun a hp=>F4_j1 a.1 a.2.1 a.2.2.1 a.2.2.2.1 a.2.2.2.2.1 a.2.2.2.2.2.1 a.2.2.2.2.2.2.1 a.2.2.2.2.2.2.2.1 a.2.2.2.2.2.2.2.2.1 a.2.2.2.2.2.2.2.2.2.1 a.2.2.2.2.2.2.2.2.2.2.1 a.2.2.2.2.2.2.2.2.2.2.2.1 hp  K) (L 39) (L 55) (by rfl) (by kernel_rfl)) (Snd.seq (Snd.jn [(0,.s),(1,.i .i64),(2,.i .i64),(3,.i .i64),(4,.s),(11,.p),(56,.b)] (fun a hp=>F4_j2 a.1 a.2.1 a.2.2.1 a.2.2.2.1 a.2.2.2.2.1 a.2.2.2.2.2.1 a.2.2.2.2.2.2.1 a.2.2.2.2.2.2.2.1 a.2.2.2.2.2.2.2.2.1 a.2.2.2.2.2.2.2.2.2.1 a.2.2.2.2.2.2.2.2.2.2.1 hp  K) (L 79) (L 111) (by rfl) (by kernel_rfl)) (Snd.seq (L 95) (Snd.jn [] (fun a hp=>F4_j3  hp  K) (Snd.jn [(4,.s),(11,.p),(13,.p),(14,.i .i64)] (fun a hp=>F4_j4 a.1 a.2.1 a.2.2.1 a.2.2.2.1 a.2.2.2.2.1 a.2.2.2.2.2.1 hp  K) (L 319) (Snd.block 0 (Snd.lp (σ:=Int) [(4,.s),(11,.p),(13,.p),(14,.i .i64)] (fun a=>a.2.2.2.2.2.1) (fun a s=>(a.1,a.2.1,a.2.2.1,a.2.2.2.1,a.2.2.2.2.1,s,())) (fun a I s hp=>F4_l5 a.1 a.2.1 a.2.2.1 a.2.2.2.1 a.2.2.2.2.1  K I s hp) (fun I5=>(Snd.seq (L 2239) (Snd.seq (Snd.block 1 (Snd.jn [(4,.s),(11,.p),(13,.p),(14,.i .i64),(85,.b)] (fun a hp=>F4_j6 a.1 a.2.1 a.2.2.1 a.2.2.2.1 a.2.2.2.2.1 a.2.2.2.2.2.1 a.2.2.2.2.2.2.1 hp (fun s hp=>I5 (a.1,a.2.1,a.2.2.1,a.2.2.2.1,a.2.2.2.2.1,s,()) hp) K) (L 17599) (L 25791) (by rfl) (by kernel_rfl))) (L 7359)))) (by rfl) (by kernel_rfl) (by kernel_rfl))) (by rfl) (by kernel_rfl)) (L 255) (by rfl) (by kernel_rfl)))))))) (by kernel_rfl) (by kernel_rfl) (by kernel_rfl)
end Go.Proofs
set_option linter.unusedVariables false
set_option linter.unusedSimpArgs false
set_option linter.unusedSectionVars false
set_option maxRecDepth 20000
namespace Go.Proofs
open Go Go.HL
section
variable {tb:Obj} {hp0 hp z:HP} {t r b0 mx la ld n n':Nat} {l:List Q} {low high:Int} {L M:List Bd} {K:Value→HP→Prop}
section
variable {A:A21} (hA:okA21 A) (hn:n<1000000) (hla:la<500000) (hsm:L.length≤60000) (h:StB tb hp0 z hp t r b0 l low high mx la n L la L)
    (hK:∀ hp' la' n' L',StB tb hp0 z hp' t r b0 l low high mx la' n' L' la' L'→n'≤n+1→la'≤la+1→L'.length≤L.length+1→K (.bool true) hp')
include hA hn hla hsm h hK
theorem C16:CF Tryz.prog 16 [ptr t 0,ptr r 0,.agg ⟨a21 A⟩] hp K:=by
  have hi:=h.wt.inv
  refine F16_ok _ _ (a21 A) hp K ?_
  unfold F16
  rw [a21_0,ldV_some,intV_int]
  by_cases d0:A.what=0
  · rw [show (A.what==0)=true by simp [d0],ite2_true]
    simp only [a21_1,a21_3,a21_4,ldV_some,intV_int,and_self]
    refine C43 ?_
    rw [aggV_agg]
    refine CF_mono (both0 hA hi hn hla hsm h hK) ?_
    rintro u hp2 ⟨w,y,rfl,h9⟩
    simp only [tup2V_mk,aggV_agg,intV_int]
    rw [if_pos (bdc_len _),if_pos (bdc_one _),if_pos (by simp [bdc_len]),bdz_spl]
    exact h9
  rw [show (A.what==0)=false by simp [d0],ite2_false]
  by_cases d1:A.what=1
  · rw [show (A.what==1)=true by simp [d1],ite2_true]
    simp only [a21_1,a21_2,a21_3,a21_4,a21_5,ldV_some,intV_int,and_self]
    refine C43 ?_
    rw [aggV_agg]
    refine C45 ?_
    rw [aggV_agg]
    refine CF_mono (both1 hA hi hn hla hsm h hK) ?_
    rintro u hp2 ⟨w,y,rfl,h9⟩
    simp only [tup2V_mk,aggV_agg,intV_int]
    rw [if_pos (bdc_len _),if_pos (bdc_one _),if_pos (by simp [bdc_len]),bdz_spl]
    exact h9
  rw [show (A.what==1)=false by simp [d1],ite2_false]
  by_cases d2:A.what=2
  · rw [show (A.what==2)=true by simp [d2],ite2_true]
    simp only [a21_1,a21_3,a21_4,ldV_some,intV_int,and_self]
    refine C43 ?_
    rw [aggV_agg]
    refine CF_mono (both2 hA hi hn hla hsm h hK) ?_
    rintro u hp2 ⟨w,y,rfl,h9⟩
    simp only [tup2V_mk,aggV_agg,intV_int]
    rw [if_pos (bdc_len _),if_pos (bdc_one _),if_pos (by simp [bdc_len]),bdz_spl]
    exact h9
  rw [show (A.what==2)=false by simp [d2],ite2_false]
  have hold:=fun v=>both3 (v:=v) hA hi hn hla hsm h hK
  have drop:=fun v=>both4 (v:=v) hA hi hn hla hsm h hK
  by_cases d3:A.what=3
  · rw [show (A.what==3)=true by simp [d3],ite2_true]
    exact hold _
  rw [show (A.what==3)=false by simp [d3],ite2_false]
  by_cases d6:A.what=6
  · rw [show (A.what==6)=true by simp [d6]]
    exact hold _
  rw [show (A.what==6)=false by simp [d6]]
  unfold F16_j7
  rw [ite2_false]
  by_cases d4:A.what=4
  · rw [show (A.what==4)=true by simp [d4],ite2_true]
    exact drop _
  rw [show (A.what==4)=false by simp [d4],ite2_false]
  by_cases d7:A.what=7
  · rw [show (A.what==7)=true by simp [d7]]
    exact drop _
  rw [show (A.what==7)=false by simp [d7]]
  by_cases d5:A.what=5
  · exact both5 hA hi hn hla hsm h hK d5
  unfold F16_j8
  rw [ite2_false,show (A.what==5)=false by simp [d5],ite2_false]
  exact hK hp la n L h (by omega) (by omega) (by omega)
end
end
end Go.Proofs
