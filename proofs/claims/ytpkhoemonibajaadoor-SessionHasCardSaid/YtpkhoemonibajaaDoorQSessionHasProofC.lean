/- Parts of the proof of SessionHasProof: the logic of what is known of memory, functions' contracts. -/
import Derived.Test.YtpkhoemonibajaaDoorQSessionHasProofB
import Derived.Test.YtpkhoemonibajaaDoorHlAbb
import Derived.Test.YtpkhoemonibajaaDoorProg
import Derived.Shelf.SlIterI.Collect
import Derived.Shelf.SlIterI.Nil
import Derived.ChangeKeysEq
import Derived.Sort.LotB
import Derived.Sort.LotC
import Derived.Sort.LotA
set_option linter.unusedVariables false
set_option linter.unusedSimpArgs false
set_option linter.unusedVariables false
set_option linter.unusedSimpArgs false
set_option maxRecDepth 20000
namespace Go.Proofs
open Go Go.HL
open Go.Exp (Th tlt Ord setW dropW insW)
theorem fstS_filter (i:Int) (E:List (Ss × Nat)):(E.filter fun z=>decide (z.1.id≠i)).map (·.1)=(E.map (·.1)).filter fun z=>decide (z.id≠i):=by
  rw [List.filter_map]; rfl
theorem bi_filter (i:Int) (L:List Ss):(L.filter fun z=>decide (z.id≠i)).map bi=(L.map bi).filter fun p=>decide (p.2≠i):=by
  rw [List.filter_map]; rfl
section
variable {tb:Obj} {hq:HP} {s mx last:Nat} {L:List Ss} {E:List (Ss × Nat)} {ps:Nat→HP} {m x q f:Nat} {O:List (Int × Nat)} {w:List Th} {K:Value→HP→Prop}
theorem InvE.inK (h:InvE mx last L) {y:Ss} (hy:y∈L):getL (key4 y.bnd y.peer) (L.map fun b=>(b.key,b.id))=some y.id∧delL (key4 y.bnd y.peer) (L.map fun b=>(b.key,b.id))=(L.filter fun z=>decide (z.id≠y.id)).map fun b=>(b.key,b.id):=by
  constructor
  · have:=find_of (g:=Ss.key) h.keyNd hy
    rw [getL_mapK Ss.key Ss.id]
    show (L.find? fun x=>decide (x.key=y.key)).map Ss.id=_
    rw [this]; rfl
  · rw [delL_mapK Ss.key Ss.id _ h.keyNd]
    congr 1
    exact filter_congr_key (g:=Ss.key) (f:=Ss.id) h.keyNd h.ids hy
set_option maxHeartbeats 4000000 in
/-- Drop. -/
theorem W44 (h:SeW tb hq s mx last L w) {i:Int} (hno:findN i L=none→K (.tuple ⟨[.agg ⟨ssc ss0⟩,.int .i64 4]⟩) hq)
    (hyes:∀ y,findN i L=some y→∀ hq',SeW tb hq' s mx last (L.filter fun z=>decide (z.id≠i)) (dropW i w)→K (.tuple ⟨[.agg ⟨ssc y⟩,.int .i64 0]⟩) hq'):CF Tryd.prog 44 [ptr s 0,.int .i64 i] hq K:=by
  obtain ⟨E,ps,m,x,q,f,O,rfl,h⟩:=h
  refine F44_ok _ i hq K ?_
  unfold F44
  refine C90p h ?_
  obtain ⟨rt,r0,r1,r2,r3,r4,r5⟩:=h.rd
  simp only [boolV_bool,ite2_false,ptrN_some,Nat.zero_add,r2,ldV_some,mapV_map]
  refine rdS_lookup (l:=E.map fun e=>(e.1.id,e.2)) u154 enc3 zw158 h.mapq i (ev:=fun k:Nat=>ptr k 0) (cm:=true) ?_
  rw [h.get]
  cases hf:findN i (E.map (·.1)) with
  | none=>
    rw [findEs_none hf]
    simp only [if_true,Option.map_none,Option.getD_none,Option.isSome_none,tup2V_mk,ptrV_pointer,boolV_bool,Bool.not_false,ite2_true]
    exact ifI rfl (ifI rfl (ifI (Nat.le_refl 9) (hno hf)))
  | some b=>
    obtain ⟨e,he,rfl,hid,hfe⟩:=findEs_some hf
    rw [hfe]
    have hy:=hyes e.1 hf
    clear hyes hno
    obtain ⟨y,bk⟩:=e
    simp only at he hid hy hfe hf
    simp only [if_true,Option.map_some,Option.getD_some,Option.isSome_some,tup2V_mk,pq,boolV_bool,Bool.not_true,ite2_false,ptrN_some,Nat.zero_add,r2,ldV_some,mapV_map]
    have hinv:=h.inv
    have hmem:y∈E.map (·.1):=List.mem_map.2 ⟨(y,bk),he,rfl⟩
    obtain ⟨k1,k2,_,_⟩:=hinv.ok y hmem
    refine opS_delete u154 enc3 h.mapq i (ev:=fun k:Nat=>ptr k 0) fun ent hent=>?_
    rw [delL_mapK (fun z:Ss × Nat=>z.1.id) (fun z=>z.2) i h.ids] at hent
    have P1:=h.parts.put 0 (b:=m) h.main.map.ne ent
    have hm:SeM tb ((ps 0).set m ent) s mx last (E.filter fun z=>decide (z.1.id≠i)) m x q f:=
      ⟨by rw [HP.set_ne _ _ h.main.ms.symm]; exact h.main.tab,by rw [HP.set_eq]; exact hent,fun z hz=>by
        have hz:=(List.mem_filter.1 hz).1
        rw [HP.set_ne _ _ (h.main.bm hz)]; exact h.main.blk z hz,⟨by rw [HP.set_ne _ _ h.main.m0.symm]; exact h.main.dig.1,h.main.dig.2⟩⟩
    have hblk:((ps 0).set m ent) bk=.cells 79 (ssc y) 0:=by rw [HP.set_ne _ _ (h.main.bm he)]; exact h.main.blk _ he
    generalize hq.set m ent=hq1 at *
    generalize (ps 0).set m ent=A at *
    obtain ⟨t0,_,_,_,t3,t4',t5⟩:=hm.rd (P1.at 0 (pu_eq ..))
    have hb1:hq1 bk=.cells 79 (ssc y) 0:=(P1.at 0 (pu_eq ..)).cells hblk
    have b1:hq1.cell bk 1=some (.int .i64 y.bnd):=HP.cell_of hb1
    have b2:hq1.cellN bk 2 5=some (t4 y.peer):=by rw [HP.cellN_of hb1]; rfl
    obtain ⟨i4,d4⟩:=hinv.inK hmem
    have idx:IdxR (pu ps 0 A 1) x mx ((E.map (·.1)).map fun y=>(y.key,y.id)):=h.idx
    have biN:(((E.map (·.1)).map bi).map (·.2)).Nodup:=by
      have:=hinv.ids
      rw [List.map_map]
      exact this
    have hbm:(y.bnd,i)∈(E.map (·.1)).map bi:=List.mem_map.2 ⟨y,hmem,by rw [← hid]; rfl⟩
    obtain ⟨ik,hik⟩:∃ ik,getL y.bnd O=some ik:=by
      cases hg:getL y.bnd O with
      | some k=>exact ⟨k,rfl⟩
      | none=>exact absurd rfl (h.of.none hg _ hbm)
    have j1:∀ l hp',IdxR l x mx (delL (key4 y.bnd y.peer) ((E.map (·.1)).map fun y=>(y.key,y.id)))→Parts hp' (pu (pu ps 0 A) 1 l)→F44_j1 (some ⟨s,0,none⟩) i (some ⟨bk,0,none⟩) (ssc ss0) hp' K:=by
      intro l hp' hl P2
      obtain ⟨_,_,_,_,_,a4,_⟩:=hm.rd (P2.at 0 rfl)
      unfold F44_j1
      simp only [ptrN_some,Nat.zero_add,a4,ldV_some,pq]
      refine N93 P2 2 (q:=q) (w:=w) h.que (by rw [h.qok.len]; have:=hinv.len; have:=hinv.mx; omega) fun l3 hp3 hl3 P3=>?_
      rw [boolV_bool]
      obtain ⟨_,_,_,_,_,_,c5⟩:=hm.rd (P3.at 0 rfl)
      have hb3:hp3 bk=.cells 79 (ssc y) 0:=(P3.at 0 (l:=A) rfl).cells hblk
      have c1:hp3.cell bk 1=some (.int .i64 y.bnd):=HP.cell_of hb3
      rw [c5,ldV_some,mapV_map,c1,ldV_some,intV_int]
      refine lookV (h.of.map.sub (P3.at 3 rfl)) ?_
      rw [hik,mapV_map]
      obtain ⟨hin,hif⟩:=h.of.inner hik
      refine opS_delete u160 enc3 (hin.sub (P3.at 3 rfl)) i (ev:=vb) fun e1 he1=>?_
      have P4:=P3.put 3 (b:=ik) hin.ne e1
      obtain ⟨_,_,_,_,_,_,f5⟩:=hm.rd (P4.at 0 rfl)
      have hb4:(hp3.set ik e1) bk=.cells 79 (ssc y) 0:=(P4.at 0 (l:=A) rfl).cells hblk
      have f1:(hp3.set ik e1).cell bk 1=some (.int .i64 y.bnd):=HP.cell_of hb4
      rw [f5,ldV_some,mapV_map,f1,ldV_some,intV_int]
      have hof:MapE iw mv O (((pu (pu (pu ps 0 A) 1 l) 2 l3 3).set ik e1) f):=by rw [HP.set_ne _ _ hif.symm]; exact h.of.map
      refine lookV (hof.sub (P4.at 3 (pu_eq ..))) ?_
      rw [hik,mapV_map]
      have hin1:MapE iw vb (delL i (innB ((E.map (·.1)).map bi) y.bnd)) (((pu (pu (pu ps 0 A) 1 l) 2 l3 3).set ik e1) ik):=by rw [HP.set_eq]; exact he1
      refine rdS_mapLen u160 (hin1.sub (P4.at 3 (pu_eq ..))) ?_
      rw [intV_int]
      have fin:∀ (hp5:HP) (A3:HP) (O':List (Int × Nat)),Parts hp5 (pu (pu (pu (pu ps 0 A) 1 l) 2 l3) 3 A3)→OfO A3 f O' (((E.map (·.1)).map bi).filter fun p=>decide (p.2≠i))→F44_j2 (some ⟨bk,0,none⟩) (ssc ss0) hp5 K:=by
        intro hp5 A3 O' P5 hO'
        have hb5:hp5 bk=.cells 79 (ssc y) 0:=(P5.at 0 (l:=A) rfl).cells hblk
        unfold F44_j2
        rw [ptrN_some,HP.cellN_of hb5,ssc_cells,ldL_some,if_pos (ssc_len _),if_pos (ssc_one _),if_pos (by simp [ssc_len]),ss_spl (ssc_len _),ssc_cells,ldL_some]
        refine hy hp5 ⟨E.filter fun z=>decide (z.1.id≠i),_,m,x,q,f,O',(fstS_filter i E).symm,P5,hm,?_,?_,?_,?_,?_⟩
        · rw [fstS_filter]
          show IdxR l x mx _
          rw [hid] at d4
          rw [← d4]; exact hl
        · exact hl3
        · rw [fstS_filter,bi_filter]; exact hO'
        · rw [fstS_filter]; exact h.qok.cut
        · rw [fstS_filter]; exact hinv.filter _
      have hlz:(delL i (innB ((E.map (·.1)).map bi) y.bnd)).length=0↔¬ ∃ p∈((E.map (·.1)).map bi).filter (fun p=>decide (p.2≠i)),p.1=y.bnd:=by
        rw [inn_del biN]
        unfold innB
        rw [List.length_map,List.length_eq_zero_iff,List.filter_eq_nil_iff]
        constructor
        · rintro hh ⟨p,hp,e⟩
          exact hh p hp (decide_eq_true e)
        · intro hh p hp e
          exact hh ⟨p,hp,of_decide_eq_true e⟩
      by_cases hz:(delL i (innB ((E.map (·.1)).map bi) y.bnd)).length=0
      · rw [show ((((delL i (innB ((E.map (·.1)).map bi) y.bnd)).length:Nat):Int)==0)=true by rw [hz]; rfl,ite2_true]
        rw [ldV_some,mapV_map,ldV_some,intV_int]
        refine opS_delete u155 enc3 (hof.sub (P4.at 3 (pu_eq ..))) y.bnd (ev:=mv) fun e2 he2=>?_
        have P5:=P4.put 3 (b:=f) (by rw [pu_eq]; exact hof.ne) e2
        rw [pu_eq,pu_pu] at P5
        exact fin _ _ _ P5 (h.of.del_last biN hbm hik he1 he2 (hlz.1 hz))
      · rw [show ((((delL i (innB ((E.map (·.1)).map bi) y.bnd)).length:Nat):Int)==0)=false by rw [beq_eq_false_iff_ne]; omega,ite2_false]
        exact fin _ _ _ P4 (h.of.del_some biN hbm hik he1 (Classical.byContradiction fun hn=>hz (hlz.2 hn)))
    refine ⟨?_,?_⟩
    all_goals
      try simp only [ptrN_some,Nat.zero_add,t3,ldV_some,pq,b1,b2,ldL_some,intV_int]
      refine C91 t0 k1 k2.2 ?_
      simp only [strV_string,t3,ldV_some,pq]
      refine N92 P1 1 idx i4 hinv.mx fun l hp' hl P2=>?_
      rw [boolV_bool]
      exact j1 l hp' hl P2
/-- What Set answers. -/
def setE (i due:Int) (L:List Ss):Int:=if due<0∨due > 4611686018427387904 then 1 else if (findN i L).isNone then 4 else 0
theorem fstS_upd (i st d:Int) (E:List (Ss × Nat)):(E.map fun z=>(setE1 i st d z.1,z.2)).map (·.1)=updS i st d (E.map (·.1)):=by
  unfold updS
  rw [List.map_map,List.map_map]; rfl
set_option maxHeartbeats 1000000 in
/-- Set. -/
theorem W56 (h:SeW tb hq s mx last L w) {i st due:Int} (hno:setE i due L≠0→K (.int .i64 (setE i due L)) hq)
    (hyes:setE i due L=0→∀ hq',SeW tb hq' s mx last (updS i st due L) (setW i due w)→K (.int .i64 0) hq'):CF Tryd.prog 56 [ptr s 0,.int .i64 i,.int .i64 st,.int .i64 due] hq K:=by
  obtain ⟨E,ps,m,x,q,f,O,rfl,h⟩:=h
  refine F56_ok _ i st due hq K ?_
  unfold F56
  refine C90p h ?_
  rw [boolV_bool,ite2_false]
  have bad:(due<0∨due > 4611686018427387904)→F56_j1 (some ⟨s,0,none⟩) i st due true hq K:=fun hd=>by
    have e:setE i due (E.map (·.1))=1:=if_pos hd
    rw [e] at hno
    unfold F56_j1
    rw [ite2_true]
    exact hno (by decide)
  by_cases c1:due<0
  · rw [decide_eq_true c1,ite2_true]; exact bad (.inl c1)
  rw [decide_eq_false c1,ite2_false]
  by_cases c2:due > 4611686018427387904
  · rw [decide_eq_true c2]; exact bad (.inr c2)
  rw [decide_eq_false c2]
  have c12:¬ (due<0∨due > 4611686018427387904):=by omega
  obtain ⟨rt,r0,r1,r2,r3,r4,r5⟩:=h.rd
  unfold F56_j1
  simp only [ite2_false,ptrN_some,Nat.zero_add,r2,ldV_some,mapV_map]
  refine rdS_lookup (l:=E.map fun e=>(e.1.id,e.2)) u154 enc3 zw158 h.mapq i (ev:=fun k:Nat=>ptr k 0) (cm:=true) ?_
  rw [h.get]
  cases hf:findN i (E.map (·.1)) with
  | none=>
    rw [findEs_none hf]
    have e:setE i due (E.map (·.1))=4:=by unfold setE; rw [if_neg c12,hf]; rfl
    rw [e] at hno
    exact hno (by decide)
  | some b=>
    obtain ⟨e,he,rfl,hid,hfe⟩:=findEs_some hf
    rw [hfe]
    have e0:setE i due (E.map (·.1))=0:=by unfold setE; rw [if_neg c12,hf]; rfl
    have hy:=hyes e0
    clear hyes hno bad
    obtain ⟨y,bk⟩:=e
    simp only at he hid hy hfe hf
    have hinv:=h.inv
    have hmem:y∈E.map (·.1):=List.mem_map.2 ⟨(y,bk),he,rfl⟩
    simp only [if_true,Option.map_some,Option.getD_some,Option.isSome_some,tup2V_mk,pq,boolV_bool,Bool.not_true,ite2_false,ptrN_some,Nat.zero_add]
    refine HP.st_at ((h.parts.sub 0).cells (h.main.blk _ he)) (by simp [ssc_len]) ?_
    refine HP.st_at (HP.set_eq ..) (by simp [ssc_len]) ?_
    rw [HP.set_set]
    have hset:((ssc y).set 7 (.int .i64 st)).set 8 (.int .i64 due)=ssc (setE1 i st due y):=by
      unfold setE1
      rw [if_pos hid]; rfl
    rw [hset]
    have P1:=h.parts.put 0 (b:=bk) (by rw [h.main.blk _ he]; simp) (.cells 79 (ssc (setE1 i st due y)) 0)
    have hm:SeM tb ((ps 0).set bk (.cells 79 (ssc (setE1 i st due y)) 0)) s mx last (E.map fun z=>(setE1 i st due z.1,z.2)) m x q f:=by
      refine ⟨by rw [HP.set_ne _ _ (h.main.bs he).symm]; exact h.main.tab,?_,?_,⟨by rw [HP.set_ne _ _ (h.main.b0 he).symm]; exact h.main.dig.1,h.main.dig.2⟩⟩
      · rw [HP.set_ne _ _ (h.main.bm he).symm,List.map_map]
        have:(E.map ((fun e:Ss × Nat=>(e.1.id,e.2)) ∘ fun z=>(setE1 i st due z.1,z.2)))=E.map fun e=>(e.1.id,e.2):=List.map_congr_left fun z _=>by simp only [Function.comp,setE1_id]
        rw [this]; exact h.main.map
      · intro z hz
        obtain ⟨v,hv,rfl⟩:=List.mem_map.1 hz
        by_cases hve:v.1.id=i
        · have:v=(y,bk):=inj_of (g:=fun z:Ss × Nat=>z.1.id) h.ids hv he (by rw [hve,hid])
          rw [this]
          exact HP.set_eq ..
        · have hne:v.2≠bk:=fun e'=>hve (by
            have a:=h.main.blk v hv
            have b:=h.main.blk _ he
            simp only at b
            rw [e',b] at a
            simp only [Ent.cells.injEq,true_and,and_true] at a
            rw [← ssc_inj.1 a,hid])
          simp only
          rw [HP.set_ne _ _ hne]
          unfold setE1
          rw [if_neg hve]
          exact h.main.blk v hv
    obtain ⟨_,_,_,_,_,t4',_⟩:=hm.rd (P1.at 0 (pu_eq ..))
    rw [t4',ldV_some,pq]
    refine N87 P1 2 (q:=q) (w:=w) h.que (by rw [h.qok.len]; have:=hinv.len; have:=hinv.mx; omega) c12 fun l3 hp3 hl3 P3=>?_
    rw [intV_int]
    refine hy hp3 ⟨E.map fun z=>(setE1 i st due z.1,z.2),_,m,x,q,f,O,(fstS_upd i st due E).symm,P3,?_,?_,hl3,?_,?_,?_⟩
    · exact hm
    · rw [fstS_upd,updS_map _ i st due fun z=>by unfold Ss.key; rw [setE1_bnd,setE1_peer,setE1_id]]
      exact h.idx
    · rw [fstS_upd,updS_map bi i st due fun z=>by unfold bi; rw [setE1_bnd,setE1_id]]
      exact h.of
    · rw [fstS_upd]; exact QOk.upd h.qok hinv.ids hmem hid
    · rw [fstS_upd]; exact hinv.upd (by omega)
theorem N44 {hp:HP} {ps:Nat→HP} (hP:Parts hp ps) (k:Nat) (h:SeW tb (ps k) s mx last L w) {i:Int} {y:Ss} (hf:findN i L=some y)
    (hK:∀ l hp',SeW tb l s mx last (L.filter fun z=>decide (z.id≠i)) (dropW i w)→Parts hp' (pu ps k l)→K (.tuple ⟨[.agg ⟨ssc y⟩,.int .i64 0]⟩) hp'):CF Tryd.prog 44 [ptr s 0,.int .i64 i] hp K:=by
  refine CF.part hP k (W44 (K:=fun u l=>u=.tuple ⟨[.agg ⟨ssc y⟩,.int .i64 0]⟩∧SeW tb l s mx last (L.filter fun z=>decide (z.id≠i)) (dropW i w)) h (fun e=>by rw [hf] at e; cases e) fun z hz l hl=>?_) ?_
  · rw [hf] at hz; cases hz; exact ⟨rfl,hl⟩
  rintro u l hp' ⟨rfl,hl⟩ hP'
  exact hK l hp' hl hP'
set_option maxHeartbeats 2000000 in
/-- Pop: what is popped, and the table behind it, lie beside each other. -/
theorem W45 {now:Int} (h:SeW tb hq s mx last L w)
    (hK:∀ ps hp' a c w',Parts hp' ps→SeW tb (ps 0) s mx last (restL Ss.due now L) w'→Row (ps 1) a (popsL Ss.id now L w).length c 79 9 ((popsL Ss.id now L w).flatMap ssc)→(∀ i,2≤i→∀ b,ps i b=.none)→K (.slice a (popsL Ss.id now L w).length c) hp') :
    CF Tryd.prog 45 [ptr s 0,.int .i64 now] hq K:=by
  refine F45_ok _ now hq K ?_
  unfold F45
  have nn:∀ {hp:HP} {L:List Ss} {w:List Th} {X:Value→HP→Prop},SeW tb hp s mx last L w→X (.bool false) hp→CF Tryd.prog 90 [ptr s 0] hp X:=by
    intro hp L w X h hX
    obtain ⟨E,ps,m,x,q,f,O,rfl,h⟩:=h
    exact C90p h hX
  refine nn h ?_
  rw [boolV_bool,ite2_false]
  have nx:∀ {hp:HP} {L:List Ss} {w:List Th} {X:Value→HP→Prop},SeW tb hp s mx last L w→X (.tuple ⟨[.int .i64 ((w.head?.map (·.1)).getD 0),.int .i64 ((w.head?.map (·.2)).getD 0),.bool w.head?.isSome]⟩) hp →
      (ptrN (some ⟨s,0,none⟩) fun b_32 o_33=>(ldV (HP.cell hp b_32 (o_33+4)) fun v_34=>(ptrV v_34 fun p_35=>CF Tryd.prog 89 [(Value.pointer p_35)] hp X))):=by
    intro hp L w X h hX
    obtain ⟨E,ps,m,x,q,f,O,rfl,h⟩:=h
    obtain ⟨_,_,_,_,_,r4,_⟩:=h.rd
    simp only [ptrN_some,Nat.zero_add,r4,ldV_some,pq]
    exact C89 (h.que.sub (h.parts.sub 2)) hX
  refine nx h ?_
  simp only [tup3V_mk,intV_int,boolV_bool]
  unfold F45_j2
  refine LoopP.by (J:=fun k (st:Option Addr × Nat × Nat × Int × Int × Bool) hp=>∃ (ps:Nat→HP) (L':List Ss) (w':List Th) (out:List Ss),k=w'.length∧Parts hp ps∧SeW tb (ps 0) s mx last L' w'∧(∀ i,2≤i→∀ b,ps i b=.none) ∧
      st.2.1=out.length∧Row (ps 1) st.1 st.2.1 st.2.2.1 79 9 (out.flatMap ssc)∧st.2.2.2.1=(w'.head?.map (·.1)).getD 0∧st.2.2.2.2.1=(w'.head?.map (·.2)).getD 0∧st.2.2.2.2.2=w'.head?.isSome ∧
      out++popsL Ss.id now L' w'=popsL Ss.id now L w∧restL Ss.due now L'=restL Ss.due now L) ?_
    (n:=w.length) ⟨pu (fun _ _=>.none) 0 hq,L,w,[],rfl,Parts.one (HSub.refl hq),by rw [pu_eq]; exact h,(fun i hi b=>by rw [pu_ne _ _ (by omega)]),rfl,.inl ⟨rfl,rfl,rfl,rfl⟩,rfl,rfl,rfl,rfl,rfl⟩
  rintro I k ⟨a,n,c,id,due,ok⟩ hp ⟨ps,L',w',out,hk,hP,hS,hfree,hn,hrow,hid,hdue,hok,hout,hrest⟩ hI
  simp only at hn hrow hid hdue hok
  subst hn
  unfold F45_l3
  have hinv:=hS.inv
  have hq0:=hS.qok
  have stop:(∀ t,w'.head?=some t→¬ t.2≤now)→F45_j4 (some ⟨s,0,none⟩) now a out.length c id false hp I K:=by
    intro hst
    unfold F45_j4 F45_j1
    rw [ite2_false]
    obtain ⟨e1,e2⟩:=pops_stop hq0 hst
    rw [e1,List.append_nil] at hout
    rw [e2] at hrest
    subst hout
    exact hK ps hp a c w' hP (hrest▸hS) hrow hfree
  cases hw:w' with
  | nil=>
    rw [hw] at hok
    subst hok
    show ite2 false _ _
    rw [ite2_false]
    exact stop fun t ht=>by rw [hw] at ht; cases ht
  | cons t w2=>
    subst hw
    have hid':id=t.1:=hid
    have hdue':due=t.2:=hdue
    have hok':ok=true:=hok
    subst hid' hdue' hok'
    simp only [ite2_true]
    by_cases hle:t.2≤now
    · rw [decide_eq_true hle]
      unfold F45_j4
      rw [ite2_true]
      obtain ⟨y,hy,hy1,hy2,_⟩:=hq0.head
      obtain ⟨e1,e2⟩:=pops_step hinv.ids hq0 hle hy hy1
      refine N44 hP 0 hS (y:=y) (by rw [← hy1]; exact findN_of hinv hy) fun l hp1 hS1 P1=>?_
      rw [tup2V_mk,aggV_agg,intV_int,if_pos (ssc_len _),if_pos (ssc_one _),if_pos (by simp [ssc_len]),ss_spl rfl,ssc_cells,ldL_some]
      refine ifI (ssc_len y) ?_
      refine fun (b:Nat) (hb:hp1 b=Ent.none)=>?_
      rw [ss_spl rfl]
      have P2:Parts (hp1.set b (.cells 79 (ssc y) 0)) (pu ps 0 l):=P1.weak (HSub.set_fresh _ _ hb)
      have hlen:out.length+1≤65536:=by
        have h1:=congrArg List.length hout
        rw [e1] at h1
        simp only [List.length_append,List.length_cons] at h1
        have h2:(popsL Ss.id now L w).length≤w.length:=by
          unfold popsL
          exact Nat.le_trans (List.length_filterMap_le _ _) ((List.takeWhile_sublist _).length_le)
        have h3:=h.qok.len
        have h4:=h.inv.len
        have h5:=h.inv.mx
        omega
      refine opS_appP (e:=79) (size:=9) (bytes:=48) (by kernel_rfl) P2 1 (s:=a) (n:=out.length) (c:=c) (xs:=out.flatMap ssc) (by rw [pu_ne _ _ (by omega)]; exact hrow)
        (ys:=ssc y) (.inr ⟨b,0,rfl,by rw [HP.cellN_of (HP.set_eq ..)]; exact cellsN_all rfl⟩) (ssc_one y) (by simp [ssc]) (by omega) (by omega) ?_
      intro a2 c2 hp2 r hr P3
      rw [slcV_slice]
      have hS2:SeW tb ((pu (pu ps 0 l) 1 r) 0) s mx last (L'.filter fun z=>decide (Ss.id z≠t.1)) (dropW t.1 (t::w2)):=by
        rw [pu_ne _ _ (by omega),pu_eq]; exact hS1
      have hdw:dropW t.1 (t::w2)=w2:=hq0.tail
      rw [hdw] at hS2
      refine nx (hS2.sub (P3.sub 0)) ?_
      simp only [tup3V_mk,intV_int,boolV_bool]
      refine hI w2.length _ _ (by rw [hk]; simp) ⟨_,_,w2,out++[y],rfl,P3,hS2,fun i hi b=>?_,?_,?_,rfl,rfl,rfl,?_,?_⟩
      · rw [pu_ne _ _ (by omega),pu_ne _ _ (by omega)]; exact hfree i hi b
      · simp
      · rw [pu_eq]
        show Row r a2 (out.length+1) c2 79 9 ((out++[y]).flatMap ssc)
        rw [List.flatMap_append]
        simpa using hr
      · rw [← hout,e1,List.append_assoc]; rfl
      · rw [e2]; exact hrest
    · rw [decide_eq_false hle]
      exact stop fun t' ht'=>by cases ht'; exact hle
end
end Go.Proofs
set_option linter.unusedVariables false
set_option maxRecDepth 20000
namespace Go.Proofs
open Go Go.HL
section
variable {e E:Env} {x0 x1a:OA} {x1n x1c:Nat} {x5a:OA} {x5n x5c:Nat} {x7:Int} {x8a:OA} {x8n x8c:Nat} {x9 x10:Int} {hp:HP} {K:Env→PV→HP→Prop}
abbrev R94 (p n:Nat):=RW Tryd.prog 29 [] (opsAt Tryd.f94 (pth p)) (List.range n)
theorem F94_r0:R94 2 1 e V0 hp K=
 K (upd e 4 (sS none 0 0)) V0 hp:= by kernel_rfl
theorem F94_r1:R94 5 1 e V0 hp K=
 K (upd e 5 (sS none 0 0)) V0 hp:= by kernel_rfl
theorem F94_r2:R94 23 2 (upd e 5 (sS x5a x5n x5c)) V0 hp K=
 CF Tryd.prog 122 [(.slice x5a x5n x5c),(.func (.func 123) ⟨[]⟩ ⟨[]⟩)] hp fun u1 h2=>(K (w3 e 5 (sS x5a x5n x5c) 26 (sS x5a x5n x5c) 27 (sV u1)) V0 h2):= by kernel_rfl
theorem F94_r3:R94 47 2 (upd e 5 (sS x5a x5n x5c)) V0 hp K=
 K (w3 e 5 (sS x5a x5n x5c) 28 (sS x5a x5n x5c) 4 (sS x5a x5n x5c)) V0 hp:= by kernel_rfl
def F94_j1 (x5a:OA) (x5n x5c:Nat) (hp:HP) (K:Kh):Prop:=
  (CF Tryd.prog 122 [(.slice x5a x5n x5c),(.func (.func 123) ⟨[]⟩ ⟨[]⟩)] hp fun u1 h2=>K (.slice x5a x5n x5c) h2)
theorem F94_r4:R94 139 1 (w2 e 10 (sI x10) 9 (sI x9)) V0 hp K=
 K (w3 e 10 (sI x10) 9 (sI x9) 11 (sB (decide (x10<x9)))) V0 hp:= by kernel_rfl
theorem F94_r5:R94 2251 3 (w2 e 10 (sI x10) 8 (sS x8a x8n x8c)) V0 hp K=
    ((0≤x10)∧(x10<x8n)∧(ptrN x8a fun b1 o2=>ldV (HP.cell hp b1 (o2+Int.toNat x10*1)) fun v3=>intV v3 .i64 fun i4=>K (w5 e 10 (sI x10) 8 (sS x8a x8n x8c) 12 (sQ b1 (o2+Int.toNat x10*1)) 13 (sI i4) 7 (sI i4)) V0 hp)):=by kernel_rfl
theorem F94_r6 (h:E=upd (w2 e 7 (sI x7) 5 (sS x5a x5n x5c)) 0 (sP x0)):R94 3275 12 E V0 hp K=
 ptrN x0 fun b1 o2=>(ldV (HP.cell hp b1 (o2+2)) fun v3=>mapV v3 fun m4=>rdS Tryd.prog (Instr.lookup 154 (.map m4) (.int .i64 x7) false) hp fun u5=>ptrV u5 fun p6=>ptrN p6 fun b7 o8=>ldL (HP.cellN hp b7 o8 9) fun l9=>if List.length l9=9 then (∀ b10:Nat,hp b10=.none→(opS Tryd.prog (Builtin.append_ #[83,83] 83 ⟨[(.slice x5a x5n x5c),(.slice (some ⟨b10,0,none⟩) 1 1)]⟩) (HP.set hp b10 (.cells 79 (splice [.int .i64 0,.int .i64 0,.int .u8 0,.int .u8 0,.int .u8 0,.int .u8 0,.int .i64 0,.int .i64 0,.int .i64 0] 0 l9) 0)) fun u11 h12=>slcV u11 fun a13 n14 c15=>K (w4 (w8 E 14 (sS x5a x5n x5c) 15 (sP x0) 16 (sQ b1 o2) 17 (sQ b1 (o2+2)) 18 (sV (.map m4)) 19 (sI x7) 20 (sP p6) 21 (sQ b7 o8)) 22 (sA l9) 23 (sV (.slice (some ⟨b10,0,none⟩) 1 1)) 24 (sS a13 n14 c15) 5 (sS a13 n14 c15)) V0 h12)) else False):= by subst h; kernel_rfl
theorem F94_r7:R94 971 2 (upd e 10 (sI x10)) V0 hp K=
 K (w3 e 10 (sI x10) 25 (sI ((wr (x10+1)))) 10 (sI ((wr (x10+1))))) V0 hp:= by kernel_rfl
def F94_l3 (x0 x8a:OA) (x8n x8c:Nat) (x9:Int) (K:Kh) (I3:(OA × Nat × Nat × Int)→HP→Prop) (x5a:OA) (x5n x5c:Nat) (x10:Int) (hp:HP):Prop:=
  (ite2 (decide (x10<x9)) ((0≤x10)∧(x10<x8n)∧(ptrN x8a fun b3 o4=>ldV (HP.cell hp b3 (o4+Int.toNat x10*1)) fun v5=>intV v5 .i64 fun i6=>ptrN x0 fun b7 o8=>ldV (HP.cell hp b7 (o8+2)) fun v9=>mapV v9 fun m10=>rdS Tryd.prog (Instr.lookup 154 (.map m10) (.int .i64 i6) false) hp fun u11=>ptrV u11 fun p12=>ptrN p12 fun b13 o14=>ldL (HP.cellN hp b13 o14 9) fun l15=>if List.length l15=9 then (∀ b16:Nat,hp b16=.none→(opS Tryd.prog (Builtin.append_ #[83,83] 83 ⟨[(.slice x5a x5n x5c),(.slice (some ⟨b16,0,none⟩) 1 1)]⟩) (HP.set hp b16 (.cells 79 (splice [.int .i64 0,.int .i64 0,.int .u8 0,.int .u8 0,.int .u8 0,.int .u8 0,.int .i64 0,.int .i64 0,.int .i64 0] 0 l15) 0)) fun u17 h18=>slcV u17 fun a19 n20 c21=>I3 (a19,n20,c21,(IntKind.wrap .i64 (x10+1))) h18)) else False)) (F94_j1 x5a x5n x5c hp  K))
def F94_j2 (x0 x5a:OA) (x5n x5c:Nat) (x8a:OA) (x8n x8c:Nat) (x9 x10:Int) (hp:HP) (K:Kh):Prop:=
  (LoopP (σ:=OA × Nat × Nat × Int) (fun I s hp=>F94_l3 x0 x8a x8n x8c x9  K I s.1 s.2.1 s.2.2.1 s.2.2.2 hp) (x5a,x5n,x5c,x10) hp)
theorem F94_r8:R94 19 3 (upd e 1 (sS x1a x1n x1c)) V0 hp K=
 K (w4 e 1 (sS x1a x1n x1c) 8 (sS x1a x1n x1c) 9 (sI ((x1n:Nat))) 10 (sI 0)) V0 hp:= by kernel_rfl
def F94 (x0 x1a:OA) (x1n x1c:Nat) (hp:HP) (K:Kh):Prop:=
  (F94_j2 x0 none 0 0 x1a x1n x1c (x1n:Nat) 0 hp  K)
noncomputable abbrev o94 (k n:Nat):Code:=.region k (opsAt Tryd.f94 (pth n)) false
noncomputable def F94_code:Code:=(.seq (o94 0 2) (.seq (o94 1 5) (.seq (.seq (o94 2 19) (.block 0 (.loop (.seq (o94 3 139) (.seq (.cond (.tmp 11) .skip (.exit 0)) (.seq (.block 1 (.seq (o94 4 2251) (o94 5 3275))) (o94 6 971))))))) (.seq (o94 7 23) (.seq (o94 8 47) .ret)))))
theorem F94_body:Tryd.f94.body=some F94_code:=by kernel_rfl
theorem F94_ok (x0 x1a:OA) (x1n x1c:Nat) (hp:HP) (K:Kh) (h:F94 x0 x1a x1n x1c hp K):CF Tryd.prog 94 [(.pointer x0),(.slice x1a x1n x1c)] hp K:=by
 refine .inl ⟨by kernel_rfl,AC.intro (N:=29) Tryd.func94 F94_body rfl (Nat.le_of_ble_eq_true rfl) ?_⟩
 unfold F94 at h
 refine Ar F94_r0 ?_ (r2 0 1 Rn) (z2 Sn) Sn
 refine Ar F94_r1 ?_ (r2 0 1 Rn) (z2 Sn) Sn
 refine As (fun env pv hp=>∃ x5a x5n x5c,Sub (upd E0 5 (sS x5a x5n x5c)) env∧Sub V0 pv∧F94_j1 x5a x5n x5c hp  K) ?_ ?_
 ·refine As (fun env pv hp=>∃ x0 x5a x5n x5c x8a x8n x8c x9 x10,Sub (w5 E0 10 (sI x10) 9 (sI x9) 8 (sS x8a x8n x8c) 5 (sS x5a x5n x5c) 0 (sP x0)) env∧Sub V0 pv∧F94_j2 x0 x5a x5n x5c x8a x8n x8c x9 x10 hp  K) ?_ ?_
  ·refine Ag F94_r8 ?_ (r3 1 0 5 Rn) (z3 Sn) Sn
   exact ⟨_,_,_,_,_,_,_,_,_,(z5 Sn),Sn,h⟩
  ·rintro env pv hp ⟨x0,x5a,x5n,x5c,x8a,x8n,x8c,x9,x10,he,hv,h⟩
   refine Ae ?_ (r5 0 5 8 9 10 Rn) he hv
   unfold F94_j2 at h
   refine AWP.block (AWP.loop (σ:=OA × Nat × Nat × Int) _ (fun s=>w5 E0 10 (sI (s.2.2.2)) 9 (sI x9) 8 (sS x8a x8n x8c) 5 (sV (.slice s.1 s.2.1 s.2.2.1)) 0 (sP x0)) (fun s=>V0) (x5a,x5n,x5c,x10) h (fun s=>r5 0 5 8 9 10 Rn) (z5 Sn) Sn ?_)
   intro I3 s hp h
   obtain ⟨x5a,x5n,x5c,x10⟩:=s
   replace h:F94_l3 x0 x8a x8n x8c x9  K I3 x5a x5n x5c x10 hp:=h
   unfold F94_l3 at h
   refine Ar F94_r4 ?_ (r5 9 10 0 5 8 Rn) (z5 Sn) Sn
   refine Aq (Ac h rfl (fun h=>?_) (fun h=>?_))
   ·refine AWP.skip (Aq (AWP.block (Ar F94_r5 ?_ (r5 8 10 0 5 9 Rn) (z5 Sn) Sn)))
    refine ⟨h.1,h.2.1,mN h.2.2 fun b3 o4 h=>mV h fun v5 h=>mI h fun i6 h=>?_⟩
    refine Ag (F94_r6 rfl) ?_ (r6 0 5 7 8 9 10 Rn) (z6 Sn) Sn
    refine mN h fun b7 o8 h=>mV h fun v9 h=>mM h fun m10 h=>mR h fun u11 h=>mP h fun p12 h=>mN h fun b13 o14 h=>mL h fun l15 h=>mf h fun h=>?_
    refine fun b16 hb_b_16=>?_
    replace h:=h b16 hb_b_16
    refine mO h fun u17 h18 h=>mS h fun a19 n20 c21 h=>?_
    refine Ag F94_r7 ?_ (r5 10 0 5 8 9 Rn) (z5 Sn) Sn
    exact ⟨_,(z5 Sn),Sn,h⟩
   ·refine AWP.exit ?_
    exact ⟨_,_,_,(z1 Sn),Sn,h⟩
 ·rintro env pv hp ⟨x5a,x5n,x5c,he,hv,h⟩
  refine Ae ?_ (r1 5 Rn) he hv
  unfold F94_j1 at h
  refine Ar F94_r2 ?_ (r1 5 Rn) (z1 Sn) Sn
  refine mC h fun u1 h2 h=>?_
  refine Ar F94_r3 ?_ (r1 5 Rn) (z1 Sn) Sn
  refine AWP.ret ?_
  exact h
end
section
variable {e:Env} {x0 x1 k2 k3:List Value} {hp:HP} {K:Env→PV→HP→Prop}
abbrev R123 (p n:Nat):=RW Tryd.prog 10 [2,3,5,7] (opsAt Tryd.f123 (pth p)) (List.range n)
theorem F123_r0:R123 2 3 (w2 e 1 (sA x1) 0 (sA x0)) V0 hp K=
 K (w5 e 1 (sA x1) 0 (sA x0) 2 (sR 2 0) 3 (sR 3 0) 4 (sI 0)) (w2 V0 2 (79,x0) 3 (79,x1)) hp:= by kernel_rfl
theorem F123_r1:R123 5 6 (w2 e 3 (sR 3 0) 2 (sR 2 0)) (w2 V0 3 (79,k3) 2 (79,k2)) hp K=
 ldV (k2)[0]? fun v1=>(intV v1 .i64 fun i2=>ldV (k3)[0]? fun v3=>intV v3 .i64 fun i4=>CF Tryd.prog 101 [(.int .i64 i2),(.int .i64 i4)] hp fun u5 h6=>intV u5 .i64 fun i7=>K (w8 e 3 (sR 3 0) 2 (sR 2 0) 5 (sR 2 0) 6 (sI i2) 7 (sR 3 0) 8 (sI i4) 9 (sI i7) 4 (sI i7)) (w2 V0 3 (79,k3) 2 (79,k2)) h6):= by kernel_rfl
def F123 (x0 x1:List Value) (hp:HP) (K:Kh):Prop:=
  (ldV (x0)[0]? fun v1=>intV v1 .i64 fun i2=>ldV (x1)[0]? fun v3=>intV v3 .i64 fun i4=>CF Tryd.prog 101 [(.int .i64 i2),(.int .i64 i4)] hp fun u5 h6=>intV u5 .i64 fun i7=>K (.int .i64 i7) h6)
noncomputable def F123_code:Code:=(.seq (.region 0 (opsAt Tryd.f123 (pth 2)) false) (.seq (.region 1 (opsAt Tryd.f123 (pth 5)) false) .ret))
theorem F123_body:Tryd.f123.body=some F123_code:=by kernel_rfl
theorem F123_ok (x0 x1:List Value) (hp:HP) (K:Kh) (h:F123 x0 x1 hp K):CF Tryd.prog 123 [(.agg ⟨x0⟩),(.agg ⟨x1⟩)] hp K:=by
 refine .inl ⟨by kernel_rfl,AC.intro (N:=10) Tryd.func123 F123_body rfl (Nat.le_of_ble_eq_true rfl) ?_⟩
 unfold F123 at h
 refine Ar F123_r0 ?_ (r2 0 1 Rn) (z2 Sn) Sn
 refine Ar F123_r1 ?_ (rp 2 2 0 (rp 3 3 0 Rn)) (z2 Sn) (z2 Sn)
 refine mV h fun v1 h=>mI h fun i2 h=>mV h fun v3 h=>mI h fun i4 h=>mC h fun u5 h6 h=>mI h fun i7 h=>?_
 refine AWP.ret ?_
 exact h
end
section
variable {e:Env} {x0:Option Nat} {x1:OA} {hp:HP} {K:Env→PV→HP→Prop}
abbrev R96 (p n:Nat):=RW Tryd.prog 4 [] (opsAt Tryd.f96 (pth p)) (List.range n)
theorem F96_r0:R96 2 2 (upd e 0 (sV (.map x0))) V0 hp K=
    (∀ b1:Nat,hp b1=.none→(K (w3 e 0 (sV (.map x0)) 1 (sQ b1 0) 2 (sV (Value.nilFunc:Value))) V0 (HP.set hp b1 (.cells 160 [(.map x0)] 0)))):=by kernel_rfl
theorem F96_r1:R96 5 2 (upd e 1 (sP x1)) V0 hp K=
 K (w3 e 1 (sP x1) 3 (sV (.func (.func 125) ⟨[]⟩ ⟨[(.pointer x1)]⟩)) 2 (sV (.func (.func 125) ⟨[]⟩ ⟨[(.pointer x1)]⟩))) V0 hp:= by kernel_rfl
def F96 (x0:Option Nat) (hp:HP) (K:Kh):Prop:=
  (∀ b1:Nat,hp b1=.none→(K (.func (.func 125) ⟨[]⟩ ⟨[(.pointer (some ⟨b1,0,none⟩))]⟩) (HP.set hp b1 (.cells 160 [(.map x0)] 0))))
noncomputable def F96_code:Code:=(.seq (.region 0 (opsAt Tryd.f96 (pth 2)) false) (.seq (.region 1 (opsAt Tryd.f96 (pth 5)) false) .ret))
theorem F96_body:Tryd.f96.body=some F96_code:=by kernel_rfl
theorem F96_ok (x0:Option Nat) (hp:HP) (K:Kh) (h:F96 x0 hp K):CF Tryd.prog 96 [(.map x0)] hp K:=by
 refine .inl ⟨by kernel_rfl,AC.intro (N:=4) Tryd.func96 F96_body rfl (Nat.le_of_ble_eq_true rfl) ?_⟩
 unfold F96 at h
 refine Ar F96_r0 ?_ (r1 0 Rn) (z1 Sn) Sn
 refine fun b1 hb_b_1=>?_
 replace h:=h b1 hb_b_1
 refine Ar F96_r1 ?_ (r1 1 Rn) (z1 Sn) Sn
 refine AWP.ret ?_
 exact h
end
section
variable {e:Env} {x0:Option Nat} {x1:OA} {hp:HP} {K:Env→PV→HP→Prop}
abbrev R102 (p n:Nat):=RW Tryd.prog 4 [] (opsAt Tryd.f102 (pth p)) (List.range n)
theorem F102_r0:R102 2 2 (upd e 0 (sV (.map x0))) V0 hp K=
    (∀ b1:Nat,hp b1=.none→(K (w3 e 0 (sV (.map x0)) 1 (sQ b1 0) 2 (sV (Value.nilFunc:Value))) V0 (HP.set hp b1 (.cells 154 [(.map x0)] 0)))):=by kernel_rfl
theorem F102_r1:R102 5 2 (upd e 1 (sP x1)) V0 hp K=
 K (w3 e 1 (sP x1) 3 (sV (.func (.func 130) ⟨[]⟩ ⟨[(.pointer x1)]⟩)) 2 (sV (.func (.func 130) ⟨[]⟩ ⟨[(.pointer x1)]⟩))) V0 hp:= by kernel_rfl
def F102 (x0:Option Nat) (hp:HP) (K:Kh):Prop:=
  (∀ b1:Nat,hp b1=.none→(K (.func (.func 130) ⟨[]⟩ ⟨[(.pointer (some ⟨b1,0,none⟩))]⟩) (HP.set hp b1 (.cells 154 [(.map x0)] 0))))
noncomputable def F102_code:Code:=(.seq (.region 0 (opsAt Tryd.f102 (pth 2)) false) (.seq (.region 1 (opsAt Tryd.f102 (pth 5)) false) .ret))
theorem F102_body:Tryd.f102.body=some F102_code:=by kernel_rfl
theorem F102_ok (x0:Option Nat) (hp:HP) (K:Kh) (h:F102 x0 hp K):CF Tryd.prog 102 [(.map x0)] hp K:=by
 refine .inl ⟨by kernel_rfl,AC.intro (N:=4) Tryd.func102 F102_body rfl (Nat.le_of_ble_eq_true rfl) ?_⟩
 unfold F102 at h
 refine Ar F102_r0 ?_ (r1 0 Rn) (z1 Sn) Sn
 refine fun b1 hb_b_1=>?_
 replace h:=h b1 hb_b_1
 refine Ar F102_r1 ?_ (r1 1 Rn) (z1 Sn) Sn
 refine AWP.ret ?_
 exact h
end
end Go.Proofs
set_option linter.unusedVariables false
set_option linter.unusedSimpArgs false
set_option maxRecDepth 20000
namespace Go.Proofs
open Go Go.HL Go.Shelf
def itRen:Ren where
  f:=fun | 8=>95 | 11=>124 | 7=>96 | 10=>125 | n=>n
  t:=fun | 0=>0 | 3=>4 | 4=>4 | 23=>160 | 24=>119 | 26=>3 | 27=>165 | 28=>166 | 33=>137 | n=>n
  g:=fun n=>n
def itRen2:Ren where
  f:=fun | 8=>95 | 11=>124 | 7=>102 | 10=>130 | n=>n
  t:=fun | 0=>0 | 3=>158 | 4=>4 | 23=>154 | 24=>119 | 26=>3 | 27=>165 | 28=>166 | 33=>137 | n=>n
  g:=fun n=>n
theorem it_zero {P:Program} {t:TypeId} {z:Value} (h:(P.info? t).bind (·.zero)=some z) (w:World):(zeroValue t).run P w=.ok z w:=itoa_zero h w
theorem it_size {P:Program} {t:TypeId} {n:Nat} (h:(P.info? t).map (·.size)=some n) (w:World):(Go.sizeOf t).run P w=.ok n w:=by
  cases hi:P.info? t with
  | none=>rw [hi] at h; cases h
  | some i=>
    rw [hi] at h
    have hz:i.size=n:=by simpa using h
    simp [Go.sizeOf,typeInfo,hi,hz]
theorem it8:SlLaysZI.n8 Tryd.prog itRen where
  mixed:=by kernel_rfl
  f8 := ⟨"slices.Collect[int]", by decide, by kernel_rfl⟩
  f11 := ⟨"slices.AppendSeq[[]int,int]", by decide, by kernel_rfl⟩
  t0:=by kernel_rfl
  a0:=run_isAgg_plain (t:=itRen.t 0) (d:=(TypeDesc.tuple #[])) (by kernel_rfl) rfl
  z0:=it_size (by kernel_rfl)
  v0:=it_zero (by kernel_rfl)
  t24:=by kernel_rfl
  a24:=run_isAgg_plain (t:=itRen.t 24) (d:=(TypeDesc.slice (itRen.t 26))) (by kernel_rfl) rfl
  z24:=it_size (by kernel_rfl)
  v24:=it_zero (by kernel_rfl)
  t26:=by kernel_rfl
  a26:=run_isAgg_plain (t:=itRen.t 26) (d:=(TypeDesc.int IntKind.i64)) (by kernel_rfl) rfl
  z26:=it_size (by kernel_rfl)
  v26:=it_zero (by kernel_rfl)
  t28:=by kernel_rfl
  a28:=run_isAgg_plain (t:=itRen.t 28) (d:=(TypeDesc.func #[itRen.t 33] #[] false)) (by kernel_rfl) rfl
  z28:=it_size (by kernel_rfl)
  v28:=it_zero (by kernel_rfl)
  i26:=by kernel_rfl
theorem it10:SlLaysZI.n10 Tryd.prog itRen where
  mixed:=by kernel_rfl
  f10 := ⟨"maps.Keys[map[int]bool,int,bool]$1", by decide, by kernel_rfl⟩
  t0:=by kernel_rfl
  a0:=run_isAgg_plain (t:=itRen.t 0) (d:=(TypeDesc.tuple #[])) (by kernel_rfl) rfl
  z0:=it_size (by kernel_rfl)
  v0:=it_zero (by kernel_rfl)
  t4:=by kernel_rfl
  a4:=run_isAgg_plain (t:=itRen.t 4) (d:=(TypeDesc.bool)) (by kernel_rfl) rfl
  z4:=it_size (by kernel_rfl)
  v4:=it_zero (by kernel_rfl)
  t23:=by kernel_rfl
  a23:=run_isAgg_plain (t:=itRen.t 23) (d:=(TypeDesc.map (itRen.t 26) (itRen.t 3))) (by kernel_rfl) rfl
  z23:=it_size (by kernel_rfl)
  v23:=it_zero (by kernel_rfl)
  t26:=by kernel_rfl
  a26:=run_isAgg_plain (t:=itRen.t 26) (d:=(TypeDesc.int IntKind.i64)) (by kernel_rfl) rfl
  z26:=it_size (by kernel_rfl)
  v26:=it_zero (by kernel_rfl)
  t33:=by kernel_rfl
  a33:=run_isAgg_plain (t:=itRen.t 33) (d:=(TypeDesc.func #[itRen.t 26] #[itRen.t 4] false)) (by kernel_rfl) rfl
  z33:=it_size (by kernel_rfl)
  v33:=it_zero (by kernel_rfl)
theorem it10b:SlLaysZI.n10 Tryd.prog itRen2 where
  mixed:=by kernel_rfl
  f10 := ⟨"maps.Keys[map[int]*interpreter/session.Session,int,*interpreter/session.Session]$1", by decide, by kernel_rfl⟩
  t0:=by kernel_rfl
  a0:=run_isAgg_plain (t:=itRen2.t 0) (d:=(TypeDesc.tuple #[])) (by kernel_rfl) rfl
  z0:=it_size (by kernel_rfl)
  v0:=it_zero (by kernel_rfl)
  t4:=by kernel_rfl
  a4:=run_isAgg_plain (t:=itRen2.t 4) (d:=(TypeDesc.bool)) (by kernel_rfl) rfl
  z4:=it_size (by kernel_rfl)
  v4:=it_zero (by kernel_rfl)
  t23:=by kernel_rfl
  a23:=run_isAgg_plain (t:=itRen2.t 23) (d:=(TypeDesc.map (itRen2.t 26) (itRen2.t 3))) (by kernel_rfl) rfl
  z23:=it_size (by kernel_rfl)
  v23:=it_zero (by kernel_rfl)
  t26:=by kernel_rfl
  a26:=run_isAgg_plain (t:=itRen2.t 26) (d:=(TypeDesc.int IntKind.i64)) (by kernel_rfl) rfl
  z26:=it_size (by kernel_rfl)
  v26:=it_zero (by kernel_rfl)
  t33:=by kernel_rfl
  a33:=run_isAgg_plain (t:=itRen2.t 33) (d:=(TypeDesc.func #[itRen2.t 26] #[itRen2.t 4] false)) (by kernel_rfl) rfl
  z33:=it_size (by kernel_rfl)
  v33:=it_zero (by kernel_rfl)
theorem fits_belowD {F:Nat→Prop} {w0 w w':World} {hp:HP} (h:Fits F w0 hp w) (b:RowKit.Below w.heap.size w w'):Fits F w0 hp w':=by
  refine ⟨fun k=>?_,fun k hk=>?_,b.os.trans h.os,b.tape.trans h.tape,b.output.trans h.output,Nat.le_trans h.size b.size⟩
  · have hk:=h.ent k
    by_cases hlt:k<w.heap.size
    · rw [b.block k hlt]; exact hk
    · have hn:w.heap[k]?=none:=by simp; omega
      rw [hn] at hk
      cases e:hp k with
      | none=>trivial
      | cells t cs sp=>rw [e] at hk; obtain ⟨_,_,hk⟩:=hk; cases hk
      | obj o=>rw [e] at hk; cases hk
  · obtain ⟨h1,h2,h3⟩:=h.fr k hk
    exact ⟨h1,Nat.lt_of_lt_of_le h2 b.size,(b.block k h2).trans h3⟩
theorem fits_row {F:Nat→Prop} {w0 w w':World} {hp:HP} (h:Fits F w0 hp w) (b:RowKit.Below w.heap.size w w') {g cap n:Nat} {e:TypeId} {cur:Array Value} {xs:List Value} (hg:w.heap.size≤g) (hw:w'.heap[g]?=some (.cells cur e (0,0)))
    (hle:n≤cap) (hsz:cur.size=cap) (ht:cur.toList.take n=xs):hp g=.none∧Fits F w0 (hp.set g (.cells e xs (cap-n))) w':=by
  have h1:=fits_belowD h b
  have hg0:hp g=.none:=by
    have hk:=h.ent g
    have hn:w.heap[g]?=none:=by simp; omega
    rw [hn] at hk
    cases e:hp g with
    | none=>rfl
    | cells t cs sp=>rw [e] at hk; obtain ⟨_,_,hk⟩:=hk; cases hk
    | obj o=>rw [e] at hk; cases hk
  refine ⟨hg0,fun k=>?_,fun k hk=>?_,h1.os,h1.tape,h1.output,h1.size⟩
  · by_cases hk:k=g
    · subst hk
      rw [HP.set_eq]
      refine ⟨cur.toList.drop n,by rw [List.length_drop,Array.length_toList,hsz],?_⟩
      rw [hw,← ht,List.take_append_drop]
    · rw [HP.set_ne _ _ hk]; exact h1.ent k
  · have hne:k≠g:=fun e=>by have:=(h.fr k hk).2.1; omega
    rw [HP.set_ne _ _ hne]
    exact h1.fr k hk
section
variable {ν:Type} {ev:ν→Value} {l:List (Int × ν)} {hp:HP} {K:Value→HP→Prop}
/-- What Collect leaves: nothing, or a new row. -/
def Coll (hp:HP) (ss:List Int) (K:Value→HP→Prop):Prop:=
  (ss=[]→K (.slice none 0 0) hp)∧(ss≠[]→∀ b c,hp b=.none→ss.length≤c→K (.slice (some ⟨b,0,none⟩) ss.length c) (hp.set b (.cells 3 (ss.map iw) (c-ss.length))))
theorem coll_of {F:Nat→Prop} {w0 w:World} (hf:Fits F w0 hp w) {g:Nat} {lb:Array Value} {S:List Int→Prop} {N:Nat} (hN:N≤1000000) (eg:∀ args w,(callFunc g args).run Tryd.prog w=.ok (.enter g args) w)
    (hseq:SeqGives Fence.wide 3 Tryd.prog g lb encZ S N w) (hS:∀ ss,S ss→Coll hp ss K) :
    Calls Tryd.prog 95 #[.func (.func g) #[] lb] w fun e w'=>∃ v hp',e=.returned v∧Fits F w0 hp' w'∧K v hp':=by
  refine (callsIn_wide.1 (AnyZI.collect_in it8 Fence.wide 5 trivial trivial rfl (by decide) g lb trivial eg S N (Nat.le_trans hN (by decide)) (by omega) w hseq)).mono ?_
  rintro e w' ⟨v,ss,rfl,hs,hrow,hnil,hb⟩
  obtain ⟨hxl,hrow⟩:=hrow
  obtain ⟨k1,k2⟩:=hS ss hs
  rcases hrow with ⟨rfl,hn⟩ | ⟨g',cap,cur,rfl,hg,hw,hle,_,hsz,ht⟩
  · exact ⟨_,hp,rfl,fits_belowD hf hb,k1 (hnil.1 rfl)⟩
  · have hne:ss≠[]:=fun e=>by have:=hnil.2 e; cases this
    rw [Nat.mul_one] at hsz ht
    obtain ⟨h1,h2⟩:=fits_row hf hb hg hw hle hsz ht
    exact ⟨_,_,rfl,h2,k2 hne g' cap h1 hle⟩
theorem owns_of {F:Nat→Prop} {w0 w:World} (hf:Fits F w0 hp w) {mb:Nat} (hM:MapE iw ev l (hp mb)) (hn:(l.map (·.1)).Nodup) (hz:∀ p∈l,okZ p.1) (hsz:l.length≤100000) :
    ∃ D:DataW Unit,w.ownsMap Tryd.prog 3 (fun _=>some (.nil,[])) mb l.length D∧(intKeys D).Perm (l.map (·.1))∧Maps.size D=l.length:=by
  obtain ⟨es,clock,he,hes,hb1,hb2⟩:=hM
  have hw:w.heap[mb]?=some (.map es clock):=by have:=hf.ent mb; rw [he] at this; exact this
  have hlen:es.size=l.length:=by have:=congrArg List.length hes; simpa using this
  have hkeys:es.toList.map (·.key)=l.map fun p=>iw p.1:=by
    have:=congrArg (List.map (·.1)) hes
    rw [List.map_map,List.map_map] at this
    exact this
  have hk3:Tryd.prog.underlying 3=some (.int .i64):=by kernel_rfl
  have rdx:∀ z∈es.toList,∃ p∈l,WideElems.rd (H:=Unit) Tryd.prog 3 (fun _=>some (.nil,[])) z=some (.int .i64 p.1,.nil)∧z.key=iw p.1:=by
    intro z hzm
    have h1:z.key∈l.map fun p=>iw p.1:=by rw [← hkeys]; exact List.mem_map.2 ⟨z,hzm,rfl⟩
    obtain ⟨p,hp,e⟩:=List.mem_map.1 h1
    refine ⟨p,hp,?_,e.symm⟩
    have hwf:(Lit.int .i64 p.1).wf=true:=by obtain ⟨q1,q2⟩:=hz p hp; exact Bool.and_eq_true_iff.2 ⟨decide_eq_true q1,decide_eq_true q2⟩
    have:=Maps.keyOf_int_mk hk3 hwf
    unfold WideElems.rd
    rw [← e]
    simp only [iw,this,Option.bind_some,Option.map_some]
  have hrg:es.toList.map (WideElems.rg (H:=Unit) Tryd.prog 3 (fun _=>some (.nil,[])))=l.map fun p=>(Lit.int .i64 p.1,DataW.nil):=by
    have h1:∀ (xs:List MapEntry) (ys:List (Int × ν)),(∀ z∈xs,z∈es.toList)→xs.map (·.key)=ys.map (fun p=>iw p.1)→xs.map (WideElems.rg (H:=Unit) Tryd.prog 3 (fun _=>some (.nil,[])))=ys.map fun p=>(Lit.int .i64 p.1,DataW.nil):=by
      intro xs
      induction xs with
      | nil=>intro ys _ e; cases ys with | nil=>rfl | cons y ys=>cases e
      | cons z xs ih=>
        intro ys hsub e
        cases ys with
        | nil=>cases e
        | cons y ys=>
          rw [List.map_cons,List.map_cons,List.cons.injEq] at e
          rw [List.map_cons,List.map_cons,ih ys (fun v hv=>hsub v (by simp [hv])) e.2]
          congr 1
          obtain ⟨p,_,e1,e2⟩:=rdx z (hsub z (by simp))
          rw [WideElems.rg_of e1]
          have:p.1=y.1:=by
            have:=e2.symm.trans e.1
            simpa [iw] using this
          rw [this]
    exact h1 _ _ (fun z hz=>hz) hkeys
  have hperm:=Go.WideShapes.sorted_perm (es.toList.map (WideElems.rg (H:=Unit) Tryd.prog 3 (fun _=>some (.nil,[]))))
  refine ⟨_,⟨es,clock,hw,⟨?_,⟨hb1,hb2,?_⟩,fun z hz=>?_⟩,Nat.le_of_eq hlen,rfl⟩,?_,?_⟩
  · rw [hlen]; exact Nat.le_trans hsz (by decide)
  · rw [hkeys]
    have:=hn
    unfold List.Nodup at this ⊢
    rw [List.pairwise_map] at this ⊢
    exact this.imp fun h e=>h (by simpa [iw] using e)
  · obtain ⟨p,_,e1,_⟩:=rdx z hz
    exact ⟨_,e1⟩
  · have h2:=hperm.map (fun p:Lit × DataW Unit=>intOf p.1)
    rw [hrg,List.map_map] at h2
    rw [hrg]
    exact h2
  · have h2:=hperm.length_eq
    rw [Maps.size_eq,h2,List.length_map,Array.length_toList,hlen]
theorem cell_box {F:Nat→Prop} {w0 w:World} (hf:Fits F w0 hp w) {B:Nat} {e:TypeId} {v:Value} (hB:hp B=.cells e [v] 0):B<w.heap.size∧w.cell? ⟨B,0,none⟩=some v:=by
  refine ⟨Ent.ok_lt (hB▸hf.ent B) (by simp),hf.cell (by rw [HP.cell_of hB]; rfl)⟩
theorem C95 {B mb:Nat} (hB:hp B=.cells 160 [.map (some mb)] 0) (hM:MapE iw ev l (hp mb)) (hn:(l.map (·.1)).Nodup) (hz:∀ p∈l,okZ p.1) (hsz:l.length≤100000)
    (hK:∀ ss:List Int,ss.Perm (l.map (·.1))→Coll hp ss K):CF Tryd.prog 95 [.func (.func 125) ⟨[]⟩ ⟨[ptr B 0]⟩] hp K:=by
  refine .inl ⟨by kernel_rfl,fun F w hf=>?_⟩
  obtain ⟨D,h1,h2,h3⟩:=owns_of hf hM hn hz hsz
  obtain ⟨b1,b2⟩:=cell_box hf hB
  exact coll_of hf (N:=Maps.size D) (by omega) (it10.f10.enters rfl) (AnyZI.keys_gives it10 Fence.wide 3 trivial rfl (by decide) B mb l.length D w b1 b2 h1) fun ss hs=>hK ss (hs.trans h2)
theorem C95n {B:Nat} (hB:hp B=.cells 160 [.map none] 0) (hK:K (.slice none 0 0) hp):CF Tryd.prog 95 [.func (.func 125) ⟨[]⟩ ⟨[ptr B 0]⟩] hp K:=by
  refine .inl ⟨by kernel_rfl,fun F w hf=>?_⟩
  obtain ⟨b1,b2⟩:=cell_box hf hB
  exact coll_of hf (N:=0) (by omega) (it10.f10.enters rfl) (AnyZI.keys_gives_nil it10 Fence.wide 3 trivial rfl B w b1 b2) fun ss hs=>⟨fun _=>hK,fun hne=>absurd hs hne⟩
theorem C95b {B mb:Nat} (hB:hp B=.cells 154 [.map (some mb)] 0) (hM:MapE iw ev l (hp mb)) (hn:(l.map (·.1)).Nodup) (hz:∀ p∈l,okZ p.1) (hsz:l.length≤100000)
    (hK:∀ ss:List Int,ss.Perm (l.map (·.1))→Coll hp ss K):CF Tryd.prog 95 [.func (.func 130) ⟨[]⟩ ⟨[ptr B 0]⟩] hp K:=by
  refine .inl ⟨by kernel_rfl,fun F w hf=>?_⟩
  obtain ⟨D,h1,h2,h3⟩:=owns_of hf hM hn hz hsz
  obtain ⟨b1,b2⟩:=cell_box hf hB
  exact coll_of hf (N:=Maps.size D) (by omega) (it10b.f10.enters rfl) (AnyZI.keys_gives it10b Fence.wide 3 trivial rfl (by decide) B mb l.length D w b1 b2 h1) fun ss hs=>hK ss (hs.trans h2)
end
end Go.Proofs
set_option linter.unusedVariables false
set_option maxRecDepth 20000
namespace Go.Proofs
open Go Go.HL
section
variable {e E:Env} {x0a:OA} {x0n x0c:Nat} {x1 x2:Int} {x3:Value} {x8 x9 x10 x11 x12:Int} {hp:HP} {K:Env→PV→HP→Prop}
abbrev R161 (p n:Nat):=RW Tryd.prog 60 [] (opsAt Tryd.f161 (pth p)) (List.range n)
theorem F161_r0:R161 2 2 (upd e 1 (sI x1)) V0 hp K=
 K (w3 e 1 (sI x1) 13 (sI x1) 8 (sI x1)) V0 hp:= by kernel_rfl
theorem F161_r1:R161 5 1 e V0 hp K=
 K (upd e 9 (sI 0)) V0 hp:= by kernel_rfl
theorem F161_r2:R161 11 4 (w2 e 2 (sI x2) 1 (sI x1)) V0 hp K=
 K (w6 e 2 (sI x2) 1 (sI x1) 14 (sI x2) 15 (sI x1) 16 (sI ((wr (x2-x1)))) 10 (sI ((wr (x2-x1))))) V0 hp:= by kernel_rfl
theorem F161_r3:R161 543 2 (upd e 12 (sI x12)) V0 hp K=
 K (w3 e 12 (sI x12) 32 (sI x12) 33 (sB (decide (x12≥0)))) V0 hp:= by kernel_rfl
theorem F161_r4 (h:E=upd (w2 e 12 (sI x12) 8 (sI x8)) 0 (sS x0a x0n x0c)):R161 2207 20 E V0 hp K=
    ((0≤((wr (x8+x12)):Int))∧(((wr (x8+x12)):Int)<x0n)∧(ptrN x0a fun b1 o2=>ldL (HP.cellN hp b1 (o2+Int.toNat (wr (x8+x12))*9) 9) fun l3=>(0≤x8)∧(x8<x0n)∧(ptrN x0a fun b4 o5=>ldL (HP.cellN hp b4 (o5+Int.toNat x8*9) 9) fun l6=>(0≤x8)∧(x8<x0n)∧(ptrN x0a fun b7 o8=>(List.length l3=9)∧(HP.stN hp b7 (o8+Int.toNat x8*9) l3 fun h9=>(0≤((wr (x8+x12)):Int))∧(((wr (x8+x12)):Int)<x0n)∧(ptrN x0a fun b10 o11=>(List.length l6=9)∧(HP.stN h9 b10 (o11+Int.toNat (wr (x8+x12))*9) l6 fun h12=>K (w2 (w8 (w8 E 36 (sS x0a x0n x0c) 37 (sI x8) 38 (sS x0a x0n x0c) 39 (sI x8) 40 (sI x12) 41 (sI ((wr (x8+x12)))) 42 (sS x0a x0n x0c) 43 (sI x8)) 44 (sI x12) 45 (sI ((wr (x8+x12)))) 46 (sV (ptr b1 (o2+Int.toNat (wr (x8+x12))*9))) 47 (sA l3) 48 (sS x0a x0n x0c) 49 (sI x8) 50 (sQ b4 (o5+Int.toNat x8*9)) 51 (sA l6)) 52 (sQ b7 (o8+Int.toNat x8*9)) 53 (sV (ptr b10 (o11+Int.toNat (wr (x8+x12))*9)))) V0 h12))))))):=by subst h; kernel_rfl
theorem F161_r5 (h:E=upd (w4 e 12 (sI x12) 9 (sI x9) 8 (sI x8) 3 (sV x3)) 0 (sS x0a x0n x0c)):R161 3231 6 E V0 hp K=
 CF Tryd.prog 182 [(.slice x0a x0n x0c),(.int .i64 x9),(.int .i64 x12),(.int .i64 x8),x3] hp fun u1 h2=>(K (w6 E 54 (sS x0a x0n x0c) 55 (sI x9) 56 (sI x12) 57 (sI x8) 58 (sV x3) 59 (sV u1)) V0 h2):= by subst h; kernel_rfl
theorem F161_r6:R161 927 3 (upd e 12 (sI x12)) V0 hp K=
 K (w4 e 12 (sI x12) 34 (sI x12) 35 (sI ((wr (x12-1)))) 12 (sI ((wr (x12-1))))) V0 hp:= by kernel_rfl
def F161_l3 (x0a:OA) (x0n x0c:Nat) (x3:Value) (x8 x9:Int) (K:Kh) (I3:(Int)→HP→Prop) (x12:Int) (hp:HP):Prop:=
  (ite2 (decide (x12≥0)) ((0≤((IntKind.wrap .i64 (x8+x12)):Int))∧(((IntKind.wrap .i64 (x8+x12)):Int)<x0n)∧(ptrN x0a fun b1 o2=>ldL (HP.cellN hp b1 (o2+Int.toNat (IntKind.wrap .i64 (x8+x12))*9) 9) fun l3=>(0≤x8)∧(x8<x0n)∧(ptrN x0a fun b4 o5=>ldL (HP.cellN hp b4 (o5+Int.toNat x8*9) 9) fun l6=>(0≤x8)∧(x8<x0n)∧(ptrN x0a fun b7 o8=>(List.length l3=9)∧(HP.stN hp b7 (o8+Int.toNat x8*9) l3 fun h9=>(0≤((IntKind.wrap .i64 (x8+x12)):Int))∧(((IntKind.wrap .i64 (x8+x12)):Int)<x0n)∧(ptrN x0a fun b10 o11=>(List.length l6=9)∧(HP.stN h9 b10 (o11+Int.toNat (IntKind.wrap .i64 (x8+x12))*9) l6 fun h12=>CF Tryd.prog 182 [(.slice x0a x0n x0c),(.int .i64 x9),(.int .i64 x12),(.int .i64 x8),x3] h12 fun u13 h14=>I3 (IntKind.wrap .i64 (x12-1)) h14))))))) (K (.tuple ⟨[]⟩) hp))
def F161_j2 (x0a:OA) (x0n x0c:Nat) (x3:Value) (x8 x9 x12:Int) (hp:HP) (K:Kh):Prop:=
  (LoopP (σ:=Int) (fun I s hp=>F161_l3 x0a x0n x0c x3 x8 x9  K I s hp) x12 hp)
theorem F161_r7:R161 47 3 (upd e 10 (sI x10)) V0 hp K=
 K (w4 e 10 (sI x10) 30 (sI x10) 31 (sI ((wr (x10-1)))) 12 (sI ((wr (x10-1))))) V0 hp:= by kernel_rfl
def F161_j1 (x0a:OA) (x0n x0c:Nat) (x3:Value) (x8 x9 x10:Int) (hp:HP) (K:Kh):Prop:=
  (F161_j2 x0a x0n x0c x3 x8 x9 (IntKind.wrap .i64 (x10-1)) hp  K)
theorem F161_r8:R161 535 2 (upd e 11 (sI x11)) V0 hp K=
 K (w3 e 11 (sI x11) 20 (sI x11) 21 (sB (decide (x11≥0)))) V0 hp:= by kernel_rfl
theorem F161_r9 (h:E=upd (w4 e 11 (sI x11) 10 (sI x10) 8 (sI x8) 3 (sV x3)) 0 (sS x0a x0n x0c)):R161 1175 6 E V0 hp K=
 CF Tryd.prog 182 [(.slice x0a x0n x0c),(.int .i64 x11),(.int .i64 x10),(.int .i64 x8),x3] hp fun u1 h2=>(K (w6 E 24 (sS x0a x0n x0c) 25 (sI x11) 26 (sI x10) 27 (sI x8) 28 (sV x3) 29 (sV u1)) V0 h2):= by subst h; kernel_rfl
theorem F161_r10:R161 919 3 (upd e 11 (sI x11)) V0 hp K=
 K (w4 e 11 (sI x11) 22 (sI x11) 23 (sI ((wr (x11-1)))) 11 (sI ((wr (x11-1))))) V0 hp:= by kernel_rfl
def F161_l5 (x0a:OA) (x0n x0c:Nat) (x3:Value) (x8 x9 x10:Int) (K:Kh) (I5:(Int)→HP→Prop) (x11:Int) (hp:HP):Prop:=
  (ite2 (decide (x11≥0)) (CF Tryd.prog 182 [(.slice x0a x0n x0c),(.int .i64 x11),(.int .i64 x10),(.int .i64 x8),x3] hp fun u15 h16=>I5 (IntKind.wrap .i64 (x11-1)) h16) (F161_j1 x0a x0n x0c x3 x8 x9 x10 hp  K))
def F161_j4 (x0a:OA) (x0n x0c:Nat) (x3:Value) (x8 x9 x10 x11:Int) (hp:HP) (K:Kh):Prop:=
  (LoopP (σ:=Int) (fun I s hp=>F161_l5 x0a x0n x0c x3 x8 x9 x10  K I s hp) x11 hp)
theorem F161_r11:R161 39 4 (upd e 10 (sI x10)) V0 hp K=
    (((2:Int)≠0)∧(K (w5 e 10 (sI x10) 17 (sI x10) 18 (sI ((wr (x10-1)))) 19 (sI ((wr (Int.tdiv (wr (x10-1)) 2)))) 11 (sI ((wr (Int.tdiv (wr (x10-1)) 2))))) V0 hp)):=by kernel_rfl
def F161 (x0a:OA) (x0n x0c:Nat) (x1 x2:Int) (x3:Value) (hp:HP) (K:Kh):Prop:=
  (((2:Int)≠0)∧(F161_j4 x0a x0n x0c x3 x1 0 (IntKind.wrap .i64 (x2-x1)) (IntKind.wrap .i64 (Int.tdiv (IntKind.wrap .i64 ((IntKind.wrap .i64 (x2-x1))-1)) 2)) hp  K))
noncomputable abbrev o161 (k n:Nat):Code:=.region k (opsAt Tryd.f161 (pth n)) false
noncomputable def F161_code:Code:=(.seq (o161 0 2) (.seq (o161 1 5) (.seq (o161 2 11) (.seq (.seq (o161 3 39) (.block 0 (.loop (.seq (.seq (o161 4 535) (.cond (.tmp 21) .skip (.exit 0))) (.seq (.block 1 (o161 6 1175)) (o161 5 919)))))) (.seq (o161 7 47) (.block 2 (.loop (.seq (.seq (o161 8 543) (.cond (.tmp 33) .skip (.exit 2))) (.seq (.block 3 (.seq (.region 10 (opsAt Tryd.f161 (pth 2207)) true) (o161 11 3231))) (o161 9 927))))))))))
theorem F161_body:Tryd.f161.body=some F161_code:=by kernel_rfl
theorem F161_ok (x0a:OA) (x0n x0c:Nat) (x1 x2:Int) (x3:Value) (hp:HP) (K:Kh) (h:F161 x0a x0n x0c x1 x2 x3 hp K):CF Tryd.prog 161 [(.slice x0a x0n x0c),(.int .i64 x1),(.int .i64 x2),x3] hp K:=by
 refine .inl ⟨by kernel_rfl,AC.intro (N:=60) Tryd.func161 F161_body rfl (Nat.le_of_ble_eq_true rfl) ?_⟩
 unfold F161 at h
 refine Ar F161_r0 ?_ (r4 1 0 2 3 Rn) (z4 Sn) Sn
 refine Ar F161_r1 ?_ (r5 0 1 2 3 8 Rn) (z5 Sn) Sn
 refine Ar F161_r2 ?_ (r6 1 2 0 3 8 9 Rn) (z6 Sn) Sn
 refine As (fun env pv hp=>∃ x0a x0n x0c x3 x8 x9 x10,Sub (w5 E0 10 (sI x10) 9 (sI x9) 8 (sI x8) 3 (sV x3) 0 (sS x0a x0n x0c)) env∧Sub V0 pv∧F161_j1 x0a x0n x0c x3 x8 x9 x10 hp  K) ?_ ?_
 ·refine As (fun env pv hp=>∃ x0a x0n x0c x3 x8 x9 x10 x11,Sub (w6 E0 11 (sI x11) 10 (sI x10) 9 (sI x9) 8 (sI x8) 3 (sV x3) 0 (sS x0a x0n x0c)) env∧Sub V0 pv∧F161_j4 x0a x0n x0c x3 x8 x9 x10 x11 hp  K) ?_ ?_
  ·refine Ag F161_r11 ?_ (r5 10 0 3 8 9 Rn) (z5 Sn) Sn
   refine ⟨h.1,?_⟩
   replace h:=h.2
   exact ⟨_,_,_,_,_,_,_,_,(z6 Sn),Sn,h⟩
  ·rintro env pv hp ⟨x0a,x0n,x0c,x3,x8,x9,x10,x11,he,hv,h⟩
   refine Ae ?_ (r6 0 3 8 9 10 11 Rn) he hv
   unfold F161_j4 at h
   refine AWP.block (AWP.loop (σ:=Int) _ (fun s=>w6 E0 11 (sI s) 10 (sI x10) 9 (sI x9) 8 (sI x8) 3 (sV x3) 0 (sS x0a x0n x0c)) (fun s=>V0) x11 h (fun s=>r6 0 3 8 9 10 11 Rn) (z6 Sn) Sn ?_)
   intro I5 x11 hp h
   replace h:F161_l5 x0a x0n x0c x3 x8 x9 x10  K I5 x11 hp:=h
   unfold F161_l5 at h
   refine Aq (Ar F161_r8 ?_ (r6 11 0 3 8 9 10 Rn) (z6 Sn) Sn)
   refine Ac h rfl (fun h=>?_) (fun h=>?_)
   ·refine AWP.skip (Aq (AWP.block (Ag (F161_r9 rfl) ?_ (r6 0 3 8 10 11 9 Rn) (z6 Sn) Sn)))
    refine mC h fun u15 h16 h=>?_
    refine Ag F161_r10 ?_ (r6 11 0 3 8 9 10 Rn) (z6 Sn) Sn
    exact ⟨_,(z6 Sn),Sn,h⟩
   ·refine AWP.exit ?_
    exact ⟨_,_,_,_,_,_,_,(z5 Sn),Sn,h⟩
 ·rintro env pv hp ⟨x0a,x0n,x0c,x3,x8,x9,x10,he,hv,h⟩
  refine Ae ?_ (r5 0 3 8 9 10 Rn) he hv
  unfold F161_j1 at h
  refine As (fun env pv hp=>∃ x0a x0n x0c x3 x8 x9 x12,Sub (w5 E0 12 (sI x12) 9 (sI x9) 8 (sI x8) 3 (sV x3) 0 (sS x0a x0n x0c)) env∧Sub V0 pv∧F161_j2 x0a x0n x0c x3 x8 x9 x12 hp  K) ?_ ?_
  ·refine Ag F161_r7 ?_ (r5 10 0 3 8 9 Rn) (z5 Sn) Sn
   exact ⟨_,_,_,_,_,_,_,(z5 Sn),Sn,h⟩
  ·rintro env pv hp ⟨x0a,x0n,x0c,x3,x8,x9,x12,he,hv,h⟩
   refine Ae ?_ (r5 0 3 8 9 12 Rn) he hv
   unfold F161_j2 at h
   refine AWP.block (AWP.loop (σ:=Int) _ (fun s=>w5 E0 12 (sI s) 9 (sI x9) 8 (sI x8) 3 (sV x3) 0 (sS x0a x0n x0c)) (fun s=>V0) x12 h (fun s=>r5 0 3 8 9 12 Rn) (z5 Sn) Sn ?_)
   intro I3 x12 hp h
   replace h:F161_l3 x0a x0n x0c x3 x8 x9  K I3 x12 hp:=h
   unfold F161_l3 at h
   refine Aq (Ar F161_r3 ?_ (r5 12 0 3 8 9 Rn) (z5 Sn) Sn)
   refine Ac h rfl (fun h=>?_) (fun h=>?_)
   ·refine AWP.skip (Aq (AWP.block (Aq (AWP.rgnD (by kernel_rfl) (by kernel_rfl) (F161_r4 rfl) ?_ (r5 0 8 12 3 9 Rn) (z5 Sn) Sn))))
    refine ⟨h.1,h.2.1,mN h.2.2 (fun b1 o2 h=>mL h (fun l3 h=>⟨h.1,h.2.1,mN h.2.2 (fun b4 o5 h=>mL h (fun l6 h=>⟨h.1,h.2.1,mN h.2.2 (fun b7 o8 h=>⟨h.1,mW h.2 (fun h9 h=>⟨h.1,h.2.1,mN h.2.2 (fun b10 o11 h=>⟨h.1,mW h.2 fun h12 h=>?_⟩)⟩)⟩)⟩))⟩))⟩
    refine Ag (F161_r5 rfl) ?_ (r5 0 3 8 9 12 Rn) (z5 Sn) Sn
    refine mC h fun u13 h14 h=>?_
    refine Ag F161_r6 ?_ (r5 12 0 3 8 9 Rn) (z5 Sn) Sn
    exact ⟨_,(z5 Sn),Sn,h⟩
   ·refine AWP.exit ?_
    exact h
end
section
variable {e E:Env} {x0a:OA} {x0n x0c:Nat} {x1 x2 x8 x9:Int} {hp:HP} {K:Env→PV→HP→Prop}
abbrev R164 (p n:Nat):=RW Tryd.prog 34 [] (opsAt Tryd.f164 (pth p)) (List.range n)
theorem F164_r0:R164 2 2 (upd e 1 (sI x1)) V0 hp K=
 K (w3 e 1 (sI x1) 10 (sI x1) 8 (sI x1)) V0 hp:= by kernel_rfl
theorem F164_r1:R164 67 3 (w2 e 9 (sI x9) 8 (sI x8)) V0 hp K=
 K (w5 e 9 (sI x9) 8 (sI x8) 13 (sI x8) 14 (sI x9) 15 (sB (decide (x8<x9)))) V0 hp:= by kernel_rfl
theorem F164_r2 (h:E=upd (w2 e 9 (sI x9) 8 (sI x8)) 0 (sS x0a x0n x0c)):R164 147 16 E V0 hp K=
    ((0≤x9)∧(x9<x0n)∧(ptrN x0a fun b1 o2=>ldL (HP.cellN hp b1 (o2+Int.toNat x9*9) 9) fun l3=>(0≤x8)∧(x8<x0n)∧(ptrN x0a fun b4 o5=>ldL (HP.cellN hp b4 (o5+Int.toNat x8*9) 9) fun l6=>(0≤x8)∧(x8<x0n)∧(ptrN x0a fun b7 o8=>(List.length l3=9)∧(HP.stN hp b7 (o8+Int.toNat x8*9) l3 fun h9=>(0≤x9)∧(x9<x0n)∧(ptrN x0a fun b10 o11=>(List.length l6=9)∧(HP.stN h9 b10 (o11+Int.toNat x9*9) l6 fun h12=>K (w6 (w8 E 16 (sS x0a x0n x0c) 17 (sI x8) 18 (sS x0a x0n x0c) 19 (sI x9) 20 (sS x0a x0n x0c) 21 (sI x9) 22 (sQ b1 (o2+Int.toNat x9*9)) 23 (sA l3)) 24 (sS x0a x0n x0c) 25 (sI x8) 26 (sQ b4 (o5+Int.toNat x8*9)) 27 (sA l6) 28 (sQ b7 (o8+Int.toNat x8*9)) 29 (sQ b10 (o11+Int.toNat x9*9))) V0 h12))))))):=by subst h; kernel_rfl
theorem F164_r3:R164 339 3 (upd e 8 (sI x8)) V0 hp K=
 K (w4 e 8 (sI x8) 30 (sI x8) 31 (sI ((wr (x8+1)))) 8 (sI ((wr (x8+1))))) V0 hp:= by kernel_rfl
theorem F164_r4:R164 467 3 (upd e 9 (sI x9)) V0 hp K=
 K (w4 e 9 (sI x9) 32 (sI x9) 33 (sI ((wr (x9-1)))) 9 (sI ((wr (x9-1))))) V0 hp:= by kernel_rfl
def F164_l2 (x0a:OA) (x0n x0c:Nat) (K:Kh) (I2:(Int × Int)→HP→Prop) (x8 x9:Int) (hp:HP):Prop:=
  (ite2 (decide (x8<x9)) ((0≤x9)∧(x9<x0n)∧(ptrN x0a fun b1 o2=>ldL (HP.cellN hp b1 (o2+Int.toNat x9*9) 9) fun l3=>(0≤x8)∧(x8<x0n)∧(ptrN x0a fun b4 o5=>ldL (HP.cellN hp b4 (o5+Int.toNat x8*9) 9) fun l6=>(0≤x8)∧(x8<x0n)∧(ptrN x0a fun b7 o8=>(List.length l3=9)∧(HP.stN hp b7 (o8+Int.toNat x8*9) l3 fun h9=>(0≤x9)∧(x9<x0n)∧(ptrN x0a fun b10 o11=>(List.length l6=9)∧(HP.stN h9 b10 (o11+Int.toNat x9*9) l6 fun h12=>I2 ((IntKind.wrap .i64 (x8+1)),(IntKind.wrap .i64 (x9-1))) h12))))))) (K (.tuple ⟨[]⟩) hp))
def F164_j1 (x0a:OA) (x0n x0c:Nat) (x8 x9:Int) (hp:HP) (K:Kh):Prop:=
  (LoopP (σ:=Int × Int) (fun I s hp=>F164_l2 x0a x0n x0c  K I s.1 s.2 hp) (x8,x9) hp)
theorem F164_r5:R164 5 3 (upd e 2 (sI x2)) V0 hp K=
 K (w4 e 2 (sI x2) 11 (sI x2) 12 (sI ((wr (x2-1)))) 9 (sI ((wr (x2-1))))) V0 hp:= by kernel_rfl
def F164 (x0a:OA) (x0n x0c:Nat) (x1 x2:Int) (x3:Value) (hp:HP) (K:Kh):Prop:=
  (F164_j1 x0a x0n x0c x1 (IntKind.wrap .i64 (x2-1)) hp  K)
noncomputable abbrev o164 (k n:Nat):Code:=.region k (opsAt Tryd.f164 (pth n)) false
noncomputable def F164_code:Code:=(.seq (o164 0 2) (.seq (o164 1 5) (.block 0 (.loop (.seq (.seq (o164 2 67) (.cond (.tmp 15) .skip (.exit 0))) (.block 1 (.seq (.region 3 (opsAt Tryd.f164 (pth 147)) true) (.seq (o164 4 339) (o164 5 467)))))))))
theorem F164_body:Tryd.f164.body=some F164_code:=by kernel_rfl
theorem F164_ok (x0a:OA) (x0n x0c:Nat) (x1 x2:Int) (x3:Value) (hp:HP) (K:Kh) (h:F164 x0a x0n x0c x1 x2 x3 hp K):CF Tryd.prog 164 [(.slice x0a x0n x0c),(.int .i64 x1),(.int .i64 x2),x3] hp K:=by
 refine .inl ⟨by kernel_rfl,AC.intro (N:=34) Tryd.func164 F164_body rfl (Nat.le_of_ble_eq_true rfl) ?_⟩
 unfold F164 at h
 refine Ar F164_r0 ?_ (r3 1 0 2 Rn) (z3 Sn) Sn
 refine As (fun env pv hp=>∃ x0a x0n x0c x8 x9,Sub (w3 E0 9 (sI x9) 8 (sI x8) 0 (sS x0a x0n x0c)) env∧Sub V0 pv∧F164_j1 x0a x0n x0c x8 x9 hp  K) ?_ ?_
 ·refine Ag F164_r5 ?_ (r3 2 0 8 Rn) (z3 Sn) Sn
  exact ⟨_,_,_,_,_,(z3 Sn),Sn,h⟩
 ·rintro env pv hp ⟨x0a,x0n,x0c,x8,x9,he,hv,h⟩
  refine Ae ?_ (r3 0 8 9 Rn) he hv
  unfold F164_j1 at h
  refine AWP.block (AWP.loop (σ:=Int × Int) _ (fun s=>w3 E0 9 (sI (s.2)) 8 (sI (s.1)) 0 (sS x0a x0n x0c)) (fun s=>V0) (x8,x9) h (fun s=>r3 0 8 9 Rn) (z3 Sn) Sn ?_)
  intro I2 s hp h
  obtain ⟨x8,x9⟩:=s
  replace h:F164_l2 x0a x0n x0c  K I2 x8 x9 hp:=h
  unfold F164_l2 at h
  refine Aq (Ar F164_r1 ?_ (r3 8 9 0 Rn) (z3 Sn) Sn)
  refine Ac h rfl (fun h=>?_) (fun h=>?_)
  ·refine AWP.skip (AWP.block (Aq (AWP.rgnD (by kernel_rfl) (by kernel_rfl) (F164_r2 rfl) ?_ (r3 0 8 9 Rn) (z3 Sn) Sn)))
   refine ⟨h.1,h.2.1,mN h.2.2 (fun b1 o2 h=>mL h (fun l3 h=>⟨h.1,h.2.1,mN h.2.2 (fun b4 o5 h=>mL h (fun l6 h=>⟨h.1,h.2.1,mN h.2.2 (fun b7 o8 h=>⟨h.1,mW h.2 (fun h9 h=>⟨h.1,h.2.1,mN h.2.2 (fun b10 o11 h=>⟨h.1,mW h.2 fun h12 h=>?_⟩)⟩)⟩)⟩))⟩))⟩
   refine Ar F164_r3 ?_ (r3 8 0 9 Rn) (z3 Sn) Sn
   refine Ag F164_r4 ?_ (r3 9 0 8 Rn) (z3 Sn) Sn
   exact ⟨_,(z3 Sn),Sn,h⟩
  ·refine AWP.exit ?_
   exact h
end
section
variable {e E:Env} {x0a:OA} {x0n x0c:Nat} {x1 x2:Int} {x3:Value} {x9 x10 x11 x12:Int} {hp:HP} {K:Env→PV→HP→Prop}
abbrev R165 (p n:Nat):=RW Tryd.prog 141 [] (opsAt Tryd.f165 (pth p)) (List.range n)
theorem F165_r0:R165 2 1 e V0 hp K=
 K (upd e 8 (sB false)) V0 hp:= by kernel_rfl
theorem F165_r1:R165 5 3 (upd e 1 (sI x1)) V0 hp K=
 K (w4 e 1 (sI x1) 13 (sI x1) 14 (sI ((wr (x1+1)))) 9 (sI ((wr (x1+1))))) V0 hp:= by kernel_rfl
theorem F165_r2:R165 459 3 (upd e 10 (sI x10)) V0 hp K=
 K (w4 e 10 (sI x10) 17 (sI x10) 18 (sI ((wr (x10+1)))) 10 (sI ((wr (x10+1))))) V0 hp:= by kernel_rfl
def F165_j4 (x0a:OA) (x0n x0c:Nat) (x1 x2:Int) (x3:Value) (x9 x10:Int) (hp:HP) (I2:(Int × Int)→HP→Prop) (K:Kh):Prop:=
  (I2 (x9,(IntKind.wrap .i64 (x10+1))) hp)
theorem F165_r3:R165 4683 3 (w2 e 9 (sI x9) 2 (sI x2)) V0 hp K=
 K (w5 e 9 (sI x9) 2 (sI x2) 39 (sI x9) 40 (sI x2) 41 (sB ((x9==x2)))) V0 hp:= by kernel_rfl
theorem F165_r4:R165 19019 1 e V0 hp K=
 K (upd e 8 (sB true)) V0 hp:= by kernel_rfl
theorem F165_r5:R165 9803 4 (w2 e 2 (sI x2) 1 (sI x1)) V0 hp K=
 K (w6 e 2 (sI x2) 1 (sI x1) 42 (sI x2) 43 (sI x1) 44 (sI ((wr (x2-x1)))) 45 (sB ((decide (((wr (x2-x1)):Int)<50))))) V0 hp:= by kernel_rfl
theorem F165_r6:R165 38475 1 e V0 hp K=
 K (upd e 8 (sB false)) V0 hp:= by kernel_rfl
theorem F165_r7:R165 11851 18 (w2 e 9 (sI x9) 0 (sS x0a x0n x0c)) V0 hp K=
    ((0≤((wr (x9-1)):Int))∧(((wr (x9-1)):Int)<x0n)∧(ptrN x0a fun b1 o2=>ldL (HP.cellN hp b1 (o2+Int.toNat (wr (x9-1))*9) 9) fun l3=>(0≤x9)∧(x9<x0n)∧(ptrN x0a fun b4 o5=>ldL (HP.cellN hp b4 (o5+Int.toNat x9*9) 9) fun l6=>(0≤x9)∧(x9<x0n)∧(ptrN x0a fun b7 o8=>(List.length l3=9)∧(HP.stN hp b7 (o8+Int.toNat x9*9) l3 fun h9=>(0≤((wr (x9-1)):Int))∧(((wr (x9-1)):Int)<x0n)∧(ptrN x0a fun b10 o11=>(List.length l6=9)∧(HP.stN h9 b10 (o11+Int.toNat (wr (x9-1))*9) l6 fun h12=>K (w2 (w8 (w8 e 9 (sI x9) 0 (sS x0a x0n x0c) 46 (sS x0a x0n x0c) 47 (sI x9) 48 (sS x0a x0n x0c) 49 (sI x9) 50 (sI ((wr (x9-1)))) 51 (sS x0a x0n x0c)) 52 (sI x9) 53 (sI ((wr (x9-1)))) 54 (sV (ptr b1 (o2+Int.toNat (wr (x9-1))*9))) 55 (sA l3) 56 (sS x0a x0n x0c) 57 (sI x9) 58 (sQ b4 (o5+Int.toNat x9*9)) 59 (sA l6)) 60 (sQ b7 (o8+Int.toNat x9*9)) 61 (sV (ptr b10 (o11+Int.toNat (wr (x9-1))*9)))) V0 h12))))))):=by kernel_rfl
theorem F165_r8:R165 48715 4 (w2 e 9 (sI x9) 2 (sI x2)) V0 hp K=
 K (w6 e 9 (sI x9) 2 (sI x2) 101 (sI x2) 102 (sI x9) 103 (sI ((wr (x2-x9)))) 104 (sB ((decide (((wr (x2-x9)):Int)≥2))))) V0 hp:= by kernel_rfl
theorem F165_r9:R165 2195019 3 (w2 e 12 (sI x12) 2 (sI x2)) V0 hp K=
 K (w5 e 12 (sI x12) 2 (sI x2) 107 (sI x12) 108 (sI x2) 109 (sB (decide (x12<x2)))) V0 hp:= by kernel_rfl
theorem F165_r10 (h:E=upd (w2 e 12 (sI x12) 3 (sV x3)) 0 (sS x0a x0n x0c)):R165 17399371 13 E V0 hp K=
    ((0≤x12)∧(x12<x0n)∧(ptrN x0a fun b1 o2=>ldL (HP.cellN hp b1 (o2+Int.toNat x12*9) 9) fun l3=>(0≤((wr (x12-1)):Int))∧(((wr (x12-1)):Int)<x0n)∧(ptrN x0a fun b4 o5=>ldL (HP.cellN hp b4 (o5+Int.toNat (wr (x12-1))*9) 9) fun l6=>fnV x3 fun f7 ga8 gb9=>CF Tryd.prog f7 (ga8++[(Value.agg ⟨l3⟩),(.agg ⟨l6⟩)]++gb9) hp fun u10 h11=>intV u10 .i64 fun i12=>K (w5 (w8 E 112 (sV x3) 113 (sS x0a x0n x0c) 114 (sI x12) 115 (sQ b1 (o2+Int.toNat x12*9)) 116 (sA l3) 117 (sS x0a x0n x0c) 118 (sI x12) 119 (sI ((wr (x12-1))))) 120 (sV (ptr b4 (o5+Int.toNat (wr (x12-1))*9))) 121 (sA l6) 122 (sI i12) 123 (sB (decide (i12<0))) 124 (sB ((!(decide (i12<0)))))) V0 h11))):=by subst h; kernel_rfl
theorem F165_r11:R165 13205067 18 (w2 e 12 (sI x12) 0 (sS x0a x0n x0c)) V0 hp K=
    ((0≤((wr (x12-1)):Int))∧(((wr (x12-1)):Int)<x0n)∧(ptrN x0a fun b1 o2=>ldL (HP.cellN hp b1 (o2+Int.toNat (wr (x12-1))*9) 9) fun l3=>(0≤x12)∧(x12<x0n)∧(ptrN x0a fun b4 o5=>ldL (HP.cellN hp b4 (o5+Int.toNat x12*9) 9) fun l6=>(0≤x12)∧(x12<x0n)∧(ptrN x0a fun b7 o8=>(List.length l3=9)∧(HP.stN hp b7 (o8+Int.toNat x12*9) l3 fun h9=>(0≤((wr (x12-1)):Int))∧(((wr (x12-1)):Int)<x0n)∧(ptrN x0a fun b10 o11=>(List.length l6=9)∧(HP.stN h9 b10 (o11+Int.toNat (wr (x12-1))*9) l6 fun h12=>K (w2 (w8 (w8 e 12 (sI x12) 0 (sS x0a x0n x0c) 125 (sS x0a x0n x0c) 126 (sI x12) 127 (sS x0a x0n x0c) 128 (sI x12) 129 (sI ((wr (x12-1)))) 130 (sS x0a x0n x0c)) 131 (sI x12) 132 (sI ((wr (x12-1)))) 133 (sV (ptr b1 (o2+Int.toNat (wr (x12-1))*9))) 134 (sA l3) 135 (sS x0a x0n x0c) 136 (sI x12) 137 (sQ b4 (o5+Int.toNat x12*9)) 138 (sA l6)) 139 (sQ b7 (o8+Int.toNat x12*9)) 140 (sV (ptr b10 (o11+Int.toNat (wr (x12-1))*9)))) V0 h12))))))):=by kernel_rfl
theorem F165_r12:R165 3767883 3 (upd e 12 (sI x12)) V0 hp K=
 K (w4 e 12 (sI x12) 110 (sI x12) 111 (sI ((wr (x12+1)))) 12 (sI ((wr (x12+1))))) V0 hp:= by kernel_rfl
def F165_l8 (x0a:OA) (x0n x0c:Nat) (x1 x2:Int) (x3:Value) (x9 x10:Int) (I2:(Int × Int)→HP→Prop) (K:Kh) (I8:(Int)→HP→Prop) (x12:Int) (hp:HP):Prop:=
  (ite2 (decide (x12<x2)) ((0≤x12)∧(x12<x0n)∧(ptrN x0a fun b13 o14=>ldL (HP.cellN hp b13 (o14+Int.toNat x12*9) 9) fun l15=>(0≤((IntKind.wrap .i64 (x12-1)):Int))∧(((IntKind.wrap .i64 (x12-1)):Int)<x0n)∧(ptrN x0a fun b16 o17=>ldL (HP.cellN hp b16 (o17+Int.toNat (IntKind.wrap .i64 (x12-1))*9) 9) fun l18=>fnV x3 fun f19 ga_20 gb_21=>CF Tryd.prog f19 (ga_20++[(Value.agg ⟨l15⟩),(.agg ⟨l18⟩)]++gb_21) hp fun u22 h23=>intV u22 .i64 fun i24=>ite2 (!(decide (i24<0))) (F165_j4 x0a x0n x0c x1 x2 x3 x9 x10 h23 I2 K) ((0≤((IntKind.wrap .i64 (x12-1)):Int))∧(((IntKind.wrap .i64 (x12-1)):Int)<x0n)∧(ptrN x0a fun b25 o26=>ldL (HP.cellN h23 b25 (o26+Int.toNat (IntKind.wrap .i64 (x12-1))*9) 9) fun l27=>(0≤x12)∧(x12<x0n)∧(ptrN x0a fun b28 o29=>ldL (HP.cellN h23 b28 (o29+Int.toNat x12*9) 9) fun l30=>(0≤x12)∧(x12<x0n)∧(ptrN x0a fun b31 o32=>(List.length l27=9)∧(HP.stN h23 b31 (o32+Int.toNat x12*9) l27 fun h33=>(0≤((IntKind.wrap .i64 (x12-1)):Int))∧(((IntKind.wrap .i64 (x12-1)):Int)<x0n)∧(ptrN x0a fun b34 o35=>(List.length l30=9)∧(HP.stN h33 b34 (o35+Int.toNat (IntKind.wrap .i64 (x12-1))*9) l30 fun h36=>I8 (IntKind.wrap .i64 (x12+1)) h36)))))))))) (F165_j4 x0a x0n x0c x1 x2 x3 x9 x10 hp I2 K))
def F165_j7 (x0a:OA) (x0n x0c:Nat) (x1 x2:Int) (x3:Value) (x9 x10 x12:Int) (hp:HP) (I2:(Int × Int)→HP→Prop) (K:Kh):Prop:=
  (LoopP (σ:=Int) (fun I s hp=>F165_l8 x0a x0n x0c x1 x2 x3 x9 x10 I2 K I s hp) x12 hp)
theorem F165_r13:R165 163403 3 (upd e 9 (sI x9)) V0 hp K=
 K (w4 e 9 (sI x9) 105 (sI x9) 106 (sI ((wr (x9+1)))) 12 (sI ((wr (x9+1))))) V0 hp:= by kernel_rfl
def F165_j6 (x0a:OA) (x0n x0c:Nat) (x1 x2:Int) (x3:Value) (x9 x10:Int) (hp:HP) (I2:(Int × Int)→HP→Prop) (K:Kh):Prop:=
  (ite2 (decide (((IntKind.wrap .i64 (x2-x9)):Int)≥2)) (F165_j7 x0a x0n x0c x1 x2 x3 x9 x10 (IntKind.wrap .i64 (x9+1)) hp I2 K) (F165_j4 x0a x0n x0c x1 x2 x3 x9 x10 hp I2 K))
theorem F165_r14:R165 40523 4 (w2 e 9 (sI x9) 1 (sI x1)) V0 hp K=
 K (w6 e 9 (sI x9) 1 (sI x1) 62 (sI x9) 63 (sI x1) 64 (sI ((wr (x9-x1)))) 65 (sB ((decide (((wr (x9-x1)):Int)≥2))))) V0 hp:= by kernel_rfl
theorem F165_r15:R165 2186827 2 (upd e 11 (sI x11)) V0 hp K=
 K (w3 e 11 (sI x11) 68 (sI x11) 69 (sB (decide (x11≥1)))) V0 hp:= by kernel_rfl
theorem F165_r16 (h:E=upd (w2 e 11 (sI x11) 3 (sV x3)) 0 (sS x0a x0n x0c)):R165 17391179 13 E V0 hp K=
    ((0≤x11)∧(x11<x0n)∧(ptrN x0a fun b1 o2=>ldL (HP.cellN hp b1 (o2+Int.toNat x11*9) 9) fun l3=>(0≤((wr (x11-1)):Int))∧(((wr (x11-1)):Int)<x0n)∧(ptrN x0a fun b4 o5=>ldL (HP.cellN hp b4 (o5+Int.toNat (wr (x11-1))*9) 9) fun l6=>fnV x3 fun f7 ga8 gb9=>CF Tryd.prog f7 (ga8++[(Value.agg ⟨l3⟩),(.agg ⟨l6⟩)]++gb9) hp fun u10 h11=>intV u10 .i64 fun i12=>K (w5 (w8 E 72 (sV x3) 73 (sS x0a x0n x0c) 74 (sI x11) 75 (sQ b1 (o2+Int.toNat x11*9)) 76 (sA l3) 77 (sS x0a x0n x0c) 78 (sI x11) 79 (sI ((wr (x11-1))))) 80 (sV (ptr b4 (o5+Int.toNat (wr (x11-1))*9))) 81 (sA l6) 82 (sI i12) 83 (sB (decide (i12<0))) 84 (sB ((!(decide (i12<0)))))) V0 h11))):=by subst h; kernel_rfl
theorem F165_r17:R165 13196875 18 (w2 e 11 (sI x11) 0 (sS x0a x0n x0c)) V0 hp K=
    ((0≤((wr (x11-1)):Int))∧(((wr (x11-1)):Int)<x0n)∧(ptrN x0a fun b1 o2=>ldL (HP.cellN hp b1 (o2+Int.toNat (wr (x11-1))*9) 9) fun l3=>(0≤x11)∧(x11<x0n)∧(ptrN x0a fun b4 o5=>ldL (HP.cellN hp b4 (o5+Int.toNat x11*9) 9) fun l6=>(0≤x11)∧(x11<x0n)∧(ptrN x0a fun b7 o8=>(List.length l3=9)∧(HP.stN hp b7 (o8+Int.toNat x11*9) l3 fun h9=>(0≤((wr (x11-1)):Int))∧(((wr (x11-1)):Int)<x0n)∧(ptrN x0a fun b10 o11=>(List.length l6=9)∧(HP.stN h9 b10 (o11+Int.toNat (wr (x11-1))*9) l6 fun h12=>K (w2 (w8 (w8 e 11 (sI x11) 0 (sS x0a x0n x0c) 85 (sS x0a x0n x0c) 86 (sI x11) 87 (sS x0a x0n x0c) 88 (sI x11) 89 (sI ((wr (x11-1)))) 90 (sS x0a x0n x0c)) 91 (sI x11) 92 (sI ((wr (x11-1)))) 93 (sV (ptr b1 (o2+Int.toNat (wr (x11-1))*9))) 94 (sA l3) 95 (sS x0a x0n x0c) 96 (sI x11) 97 (sQ b4 (o5+Int.toNat x11*9)) 98 (sA l6)) 99 (sQ b7 (o8+Int.toNat x11*9)) 100 (sV (ptr b10 (o11+Int.toNat (wr (x11-1))*9)))) V0 h12))))))):=by kernel_rfl
theorem F165_r18:R165 3759691 3 (upd e 11 (sI x11)) V0 hp K=
 K (w4 e 11 (sI x11) 70 (sI x11) 71 (sI ((wr (x11-1)))) 11 (sI ((wr (x11-1))))) V0 hp:= by kernel_rfl
def F165_l10 (x0a:OA) (x0n x0c:Nat) (x1 x2:Int) (x3:Value) (x9 x10:Int) (I2:(Int × Int)→HP→Prop) (K:Kh) (I10:(Int)→HP→Prop) (x11:Int) (hp:HP):Prop:=
  (ite2 (decide (x11≥1)) ((0≤x11)∧(x11<x0n)∧(ptrN x0a fun b37 o38=>ldL (HP.cellN hp b37 (o38+Int.toNat x11*9) 9) fun l39=>(0≤((IntKind.wrap .i64 (x11-1)):Int))∧(((IntKind.wrap .i64 (x11-1)):Int)<x0n)∧(ptrN x0a fun b40 o41=>ldL (HP.cellN hp b40 (o41+Int.toNat (IntKind.wrap .i64 (x11-1))*9) 9) fun l42=>fnV x3 fun f43 ga_44 gb_45=>CF Tryd.prog f43 (ga_44++[(Value.agg ⟨l39⟩),(.agg ⟨l42⟩)]++gb_45) hp fun u46 h47=>intV u46 .i64 fun i48=>ite2 (!(decide (i48<0))) (F165_j6 x0a x0n x0c x1 x2 x3 x9 x10 h47 I2 K) ((0≤((IntKind.wrap .i64 (x11-1)):Int))∧(((IntKind.wrap .i64 (x11-1)):Int)<x0n)∧(ptrN x0a fun b49 o50=>ldL (HP.cellN h47 b49 (o50+Int.toNat (IntKind.wrap .i64 (x11-1))*9) 9) fun l51=>(0≤x11)∧(x11<x0n)∧(ptrN x0a fun b52 o53=>ldL (HP.cellN h47 b52 (o53+Int.toNat x11*9) 9) fun l54=>(0≤x11)∧(x11<x0n)∧(ptrN x0a fun b55 o56=>(List.length l51=9)∧(HP.stN h47 b55 (o56+Int.toNat x11*9) l51 fun h57=>(0≤((IntKind.wrap .i64 (x11-1)):Int))∧(((IntKind.wrap .i64 (x11-1)):Int)<x0n)∧(ptrN x0a fun b58 o59=>(List.length l54=9)∧(HP.stN h57 b58 (o59+Int.toNat (IntKind.wrap .i64 (x11-1))*9) l54 fun h60=>I10 (IntKind.wrap .i64 (x11-1)) h60)))))))))) (F165_j6 x0a x0n x0c x1 x2 x3 x9 x10 hp I2 K))
def F165_j9 (x0a:OA) (x0n x0c:Nat) (x1 x2:Int) (x3:Value) (x9 x10 x11:Int) (hp:HP) (I2:(Int × Int)→HP→Prop) (K:Kh):Prop:=
  (LoopP (σ:=Int) (fun I s hp=>F165_l10 x0a x0n x0c x1 x2 x3 x9 x10 I2 K I s hp) x11 hp)
theorem F165_r19:R165 155211 3 (upd e 9 (sI x9)) V0 hp K=
 K (w4 e 9 (sI x9) 66 (sI x9) 67 (sI ((wr (x9-1)))) 11 (sI ((wr (x9-1))))) V0 hp:= by kernel_rfl
def F165_j5 (x0a:OA) (x0n x0c:Nat) (x1 x2:Int) (x3:Value) (x9 x10:Int) (hp:HP) (I2:(Int × Int)→HP→Prop) (K:Kh):Prop:=
  (ite2 (x9==x2) (K (.bool true) hp) (ite2 (decide (((IntKind.wrap .i64 (x2-x1)):Int)<50)) (K (.bool false) hp) ((0≤((IntKind.wrap .i64 (x9-1)):Int))∧(((IntKind.wrap .i64 (x9-1)):Int)<x0n)∧(ptrN x0a fun b1 o2=>ldL (HP.cellN hp b1 (o2+Int.toNat (IntKind.wrap .i64 (x9-1))*9) 9) fun l3=>(0≤x9)∧(x9<x0n)∧(ptrN x0a fun b4 o5=>ldL (HP.cellN hp b4 (o5+Int.toNat x9*9) 9) fun l6=>(0≤x9)∧(x9<x0n)∧(ptrN x0a fun b7 o8=>(List.length l3=9)∧(HP.stN hp b7 (o8+Int.toNat x9*9) l3 fun h9=>(0≤((IntKind.wrap .i64 (x9-1)):Int))∧(((IntKind.wrap .i64 (x9-1)):Int)<x0n)∧(ptrN x0a fun b10 o11=>(List.length l6=9)∧(HP.stN h9 b10 (o11+Int.toNat (IntKind.wrap .i64 (x9-1))*9) l6 fun h12=>ite2 (decide (((IntKind.wrap .i64 (x9-x1)):Int)≥2)) (F165_j9 x0a x0n x0c x1 x2 x3 x9 x10 (IntKind.wrap .i64 (x9-1)) h12 I2 K) (F165_j6 x0a x0n x0c x1 x2 x3 x9 x10 h12 I2 K))))))))))
theorem F165_r20:R165 20555 3 (upd e 9 (sI x9)) V0 hp K=
 K (w4 e 9 (sI x9) 37 (sI x9) 38 (sI ((wr (x9+1)))) 9 (sI ((wr (x9+1))))) V0 hp:= by kernel_rfl
def F165_j12 (x0a:OA) (x0n x0c:Nat) (x1 x2:Int) (x3:Value) (x9 x10:Int) (x36:Bool) (hp:HP) (I2:(Int × Int)→HP→Prop) (I11:(Int)→HP→Prop) (K:Kh):Prop:=
  (ite2 x36 (I11 (IntKind.wrap .i64 (x9+1)) hp) (F165_j5 x0a x0n x0c x1 x2 x3 x9 x10 hp I2 K))
theorem F165_r21 (h:E=upd (w3 e 9 (sI x9) 3 (sV x3) 2 (sI x2)) 0 (sS x0a x0n x0c)):R165 16459 18 E V0 hp K=
    (ite2 (decide (x9<x2)) ((0≤x9)∧(x9<x0n)∧(ptrN x0a fun b1 o2=>ldL (HP.cellN hp b1 (o2+Int.toNat x9*9) 9) fun l3=>(0≤((wr (x9-1)):Int))∧(((wr (x9-1)):Int)<x0n)∧(ptrN x0a fun b4 o5=>ldL (HP.cellN hp b4 (o5+Int.toNat (wr (x9-1))*9) 9) fun l6=>fnV x3 fun f7 ga8 gb9=>CF Tryd.prog f7 (ga8++[(Value.agg ⟨l3⟩),(.agg ⟨l6⟩)]++gb9) hp fun u10 h11=>intV u10 .i64 fun i12=>K (w2 (w8 (w8 E 19 (sI x9) 20 (sI x2) 21 (sB (decide (x9<x2))) 22 (sB true) 23 (sV x3) 24 (sS x0a x0n x0c) 25 (sI x9) 26 (sQ b1 (o2+Int.toNat x9*9))) 27 (sA l3) 28 (sS x0a x0n x0c) 29 (sI x9) 30 (sI ((wr (x9-1)))) 31 (sV (ptr b4 (o5+Int.toNat (wr (x9-1))*9))) 32 (sA l6) 33 (sI i12) 34 (sB (decide (i12<0)))) 35 (sB ((!(decide (i12<0))))) 36 (sB ((!(decide (i12<0)))))) V0 h11))) (K (w2 (w8 (w8 E 19 (sI x9) 20 (sI x2) 21 (sB (decide (x9<x2))) 22 (sB false) 23 sU 24 sU 25 sU 26 sU) 27 sU 28 sU 29 sU 30 sU 31 sU 32 sU 33 sU 34 sU) 35 sU 36 (sB false)) V0 hp)):=by subst h; kernel_rfl
def F165_l11 (x0a:OA) (x0n x0c:Nat) (x1 x2:Int) (x3:Value) (x10:Int) (I2:(Int × Int)→HP→Prop) (K:Kh) (I11:(Int)→HP→Prop) (x9:Int) (hp:HP):Prop:=
  (ite2 (decide (x9<x2)) ((0≤x9)∧(x9<x0n)∧(ptrN x0a fun b61 o62=>ldL (HP.cellN hp b61 (o62+Int.toNat x9*9) 9) fun l63=>(0≤((IntKind.wrap .i64 (x9-1)):Int))∧(((IntKind.wrap .i64 (x9-1)):Int)<x0n)∧(ptrN x0a fun b64 o65=>ldL (HP.cellN hp b64 (o65+Int.toNat (IntKind.wrap .i64 (x9-1))*9) 9) fun l66=>fnV x3 fun f67 ga_68 gb_69=>CF Tryd.prog f67 (ga_68++[(Value.agg ⟨l63⟩),(.agg ⟨l66⟩)]++gb_69) hp fun u70 h71=>intV u70 .i64 fun i72=>F165_j12 x0a x0n x0c x1 x2 x3 x9 x10 (!(decide (i72<0))) h71 I2 I11 K))) (F165_j12 x0a x0n x0c x1 x2 x3 x9 x10 false hp I2 I11 K))
def F165_j3 (x0a:OA) (x0n x0c:Nat) (x1 x2:Int) (x3:Value) (x9 x10:Int) (hp:HP) (I2:(Int × Int)→HP→Prop) (K:Kh):Prop:=
  (LoopP (σ:=Int) (fun I s hp=>F165_l11 x0a x0n x0c x1 x2 x3 x10 I2 K I s hp) x9 hp)
theorem F165_r22:R165 267 2 (upd e 10 (sI x10)) V0 hp K=
 K (w3 e 10 (sI x10) 15 (sI x10) 16 (sB (decide (x10<5)))) V0 hp:= by kernel_rfl
theorem F165_r23:R165 23 1 e V0 hp K=
 K (upd e 8 (sB false)) V0 hp:= by kernel_rfl
def F165_l2 (x0a:OA) (x0n x0c:Nat) (x1 x2:Int) (x3:Value) (K:Kh) (I2:(Int × Int)→HP→Prop) (x9 x10:Int) (hp:HP):Prop:=
  (ite2 (decide (x10<5)) (F165_j3 x0a x0n x0c x1 x2 x3 x9 x10 hp I2 K) (K (.bool false) hp))
def F165_j1 (x0a:OA) (x0n x0c:Nat) (x1 x2:Int) (x3:Value) (x9 x10:Int) (hp:HP) (K:Kh):Prop:=
  (LoopP (σ:=Int × Int) (fun I s hp=>F165_l2 x0a x0n x0c x1 x2 x3  K I s.1 s.2 hp) (x9,x10) hp)
theorem F165_r24:R165 19 1 e V0 hp K=
 K (upd e 10 (sI 0)) V0 hp:= by kernel_rfl
def F165 (x0a:OA) (x0n x0c:Nat) (x1 x2:Int) (x3:Value) (hp:HP) (K:Kh):Prop:=
  (F165_j1 x0a x0n x0c x1 x2 x3 (IntKind.wrap .i64 (x1+1)) 0 hp  K)
noncomputable abbrev o165 (k n:Nat):Code:=.region k (opsAt Tryd.f165 (pth n)) false
noncomputable def F165_code:Code:=(.seq (o165 0 2) (.seq (o165 1 5) (.seq (.seq (o165 2 19) (.block 0 (.loop (.seq (.seq (o165 3 267) (.cond (.tmp 16) .skip (.exit 0))) (.seq (.block 1 (.seq (.block 2 (.loop (.seq (.seq (.region 5 (opsAt Tryd.f165 (pth 16459)) true) (.cond (.tmp 36) .skip (.exit 2))) (.block 3 (o165 6 20555))))) (.seq (.seq (o165 7 4683) (.cond (.tmp 41) (.seq (o165 8 19019) .ret) .skip)) (.seq (.seq (o165 9 9803) (.cond (.tmp 45) (.seq (o165 10 38475) .ret) .skip)) (.seq (.region 11 (opsAt Tryd.f165 (pth 11851)) true) (.seq (.seq (o165 12 40523) (.cond (.tmp 65) (.seq (o165 13 155211) (.block 4 (.loop (.seq (.seq (o165 14 2186827) (.cond (.tmp 69) .skip (.exit 4))) (.seq (.block 5 (.seq (.seq (.region 16 (opsAt Tryd.f165 (pth 17391179)) true) (.cond (.tmp 84) (.exit 4) .skip)) (.region 17 (opsAt Tryd.f165 (pth 13196875)) true))) (o165 15 3759691)))))) .skip)) (.seq (o165 18 48715) (.cond (.tmp 104) (.seq (o165 19 163403) (.block 6 (.loop (.seq (.seq (o165 20 2195019) (.cond (.tmp 109) .skip (.exit 6))) (.seq (.block 7 (.seq (.seq (.region 22 (opsAt Tryd.f165 (pth 17399371)) true) (.cond (.tmp 124) (.exit 6) .skip)) (.region 23 (opsAt Tryd.f165 (pth 13205067)) true))) (o165 21 3767883)))))) .skip)))))))) (o165 4 459)))))) (.seq (o165 24 23) .ret))))
theorem F165_body:Tryd.f165.body=some F165_code:=by kernel_rfl
theorem F165_ok (x0a:OA) (x0n x0c:Nat) (x1 x2:Int) (x3:Value) (hp:HP) (K:Kh) (h:F165 x0a x0n x0c x1 x2 x3 hp K):CF Tryd.prog 165 [(.slice x0a x0n x0c),(.int .i64 x1),(.int .i64 x2),x3] hp K:=by
 refine .inl ⟨by kernel_rfl,AC.intro (N:=141) Tryd.func165 F165_body rfl (Nat.le_of_ble_eq_true rfl) ?_⟩
 unfold F165 at h
 refine Ar F165_r0 ?_ (r4 0 1 2 3 Rn) (z4 Sn) Sn
 refine Ar F165_r1 ?_ (r4 1 0 2 3 Rn) (z4 Sn) Sn
 refine Aq (As (fun env pv hp=>∃ x0a x0n x0c x1 x2 x3 x9 x10,Sub (w6 E0 10 (sI x10) 9 (sI x9) 3 (sV x3) 2 (sI x2) 1 (sI x1) 0 (sS x0a x0n x0c)) env∧Sub V0 pv∧F165_j1 x0a x0n x0c x1 x2 x3 x9 x10 hp  K) ?_ ?_)
 ·refine Ag F165_r24 ?_ (r5 0 1 2 3 9 Rn) (z5 Sn) Sn
  exact ⟨_,_,_,_,_,_,_,_,(z6 Sn),Sn,h⟩
 ·rintro env pv hp ⟨x0a,x0n,x0c,x1,x2,x3,x9,x10,he,hv,h⟩
  refine Ae ?_ (r6 0 1 2 3 9 10 Rn) he hv
  unfold F165_j1 at h
  refine AWP.block (AWP.loop (σ:=Int × Int) _ (fun s=>w6 E0 10 (sI (s.2)) 9 (sI (s.1)) 3 (sV x3) 2 (sI x2) 1 (sI x1) 0 (sS x0a x0n x0c)) (fun s=>V0) (x9,x10) h (fun s=>r6 0 1 2 3 9 10 Rn) (z6 Sn) Sn ?_)
  intro I2 s hp h
  obtain ⟨x9,x10⟩:=s
  replace h:F165_l2 x0a x0n x0c x1 x2 x3  K I2 x9 x10 hp:=h
  unfold F165_l2 at h
  refine As (fun env pv hp=>∃ x9 x10,Sub (w6 E0 10 (sI x10) 9 (sI x9) 3 (sV x3) 2 (sI x2) 1 (sI x1) 0 (sS x0a x0n x0c)) env∧Sub V0 pv∧F165_j3 x0a x0n x0c x1 x2 x3 x9 x10 hp I2 K) ?_ ?_
  ·refine Ar F165_r22 ?_ (r6 10 0 1 2 3 9 Rn) (z6 Sn) Sn
   refine Ac h rfl (fun h=>?_) (fun h=>?_)
   ·refine AWP.skip ?_
    exact ⟨_,_,(z6 Sn),Sn,h⟩
   ·refine AWP.exit ?_
    refine Ar F165_r23 ?_ Rn Sn Sn
    refine AWP.ret ?_
    exact h
  ·rintro env pv hp ⟨x9,x10,he,hv,h⟩
   refine Ae ?_ (r6 0 1 2 3 9 10 Rn) he hv
   unfold F165_j3 at h
   refine As (fun env pv hp=>∃ x9 x10,Sub (w6 E0 10 (sI x10) 9 (sI x9) 3 (sV x3) 2 (sI x2) 1 (sI x1) 0 (sS x0a x0n x0c)) env∧Sub V0 pv∧F165_j4 x0a x0n x0c x1 x2 x3 x9 x10 hp I2 K) ?_ ?_
   ·refine AWP.block (As (fun env pv hp=>∃ x9 x10,Sub (w6 E0 10 (sI x10) 9 (sI x9) 3 (sV x3) 2 (sI x2) 1 (sI x1) 0 (sS x0a x0n x0c)) env∧Sub V0 pv∧F165_j5 x0a x0n x0c x1 x2 x3 x9 x10 hp I2 K) ?_ ?_)
    ·refine AWP.block (AWP.loop (σ:=Int) _ (fun s=>w6 E0 10 (sI x10) 9 (sI s) 3 (sV x3) 2 (sI x2) 1 (sI x1) 0 (sS x0a x0n x0c)) (fun s=>V0) x9 h (fun s=>r6 0 1 2 3 9 10 Rn) (z6 Sn) Sn ?_)
     intro I11 x9 hp h
     replace h:F165_l11 x0a x0n x0c x1 x2 x3 x10 I2 K I11 x9 hp:=h
     unfold F165_l11 at h
     refine Aq (As (fun env pv hp=>∃ x9 x36,Sub (w7 E0 36 (sB x36) 10 (sI x10) 9 (sI x9) 3 (sV x3) 2 (sI x2) 1 (sI x1) 0 (sS x0a x0n x0c)) env∧Sub V0 pv∧F165_j12 x0a x0n x0c x1 x2 x3 x9 x10 x36 hp I2 I11 K) ?_ ?_)
     ·refine AWP.rgnD (by kernel_rfl) (by kernel_rfl) (F165_r21 rfl) ?_ (r6 0 2 3 9 1 10 Rn) (z6 Sn) Sn
      refine mt h (fun h=>?_) (fun h=>?_)
      ·refine ⟨h.1,h.2.1,mN h.2.2 (fun b61 o62 h=>mL h (fun l63 h=>⟨h.1,h.2.1,mN h.2.2 fun b64 o65 h=>mL h fun l66 h=>mF h fun f67 ga_68 gb_69 h=>mC h fun u70 h71 h=>mI h fun i72 h=>?_⟩))⟩
       exact ⟨_,_,(z7 Sn),Sn,h⟩
      ·exact ⟨_,_,(z7 Sn),Sn,h⟩
     ·rintro env pv hp ⟨x9,x36,he,hv,h⟩
      refine Ae ?_ (r7 0 1 2 3 9 10 36 Rn) he hv
      unfold F165_j12 at h
      refine Ac h rfl (fun h=>?_) (fun h=>?_)
      ·refine AWP.skip (AWP.block (Ag F165_r20 ?_ (r6 9 0 1 2 3 10 Rn) (z6 Sn) Sn))
       exact ⟨_,(z6 Sn),Sn,h⟩
      ·refine AWP.exit ?_
       exact ⟨_,_,(z6 Sn),Sn,h⟩
    ·rintro env pv hp ⟨x9,x10,he,hv,h⟩
     refine Ae ?_ (r6 0 1 2 3 9 10 Rn) he hv
     unfold F165_j5 at h
     refine Aq (Ar F165_r3 ?_ (r6 2 9 0 1 3 10 Rn) (z6 Sn) Sn)
     refine Ac h rfl (fun h=>?_) (fun h=>?_)
     ·refine Ar F165_r4 ?_ Rn Sn Sn
      refine AWP.ret ?_
      exact h
     ·refine AWP.skip (Aq (Ar F165_r5 ?_ (r6 1 2 0 3 9 10 Rn) (z6 Sn) Sn))
      refine Ac h rfl (fun h=>?_) (fun h=>?_)
      ·refine Ar F165_r6 ?_ Rn Sn Sn
       refine AWP.ret ?_
       exact h
      ·refine AWP.skip (Aq (AWP.rgnD (by kernel_rfl) (by kernel_rfl) F165_r7 ?_ (r6 0 9 1 2 3 10 Rn) (z6 Sn) Sn))
       refine ⟨h.1,h.2.1,mN h.2.2 (fun b1 o2 h=>mL h (fun l3 h=>⟨h.1,h.2.1,mN h.2.2 (fun b4 o5 h=>mL h (fun l6 h=>⟨h.1,h.2.1,mN h.2.2 (fun b7 o8 h=>⟨h.1,mW h.2 (fun h9 h=>⟨h.1,h.2.1,mN h.2.2 (fun b10 o11 h=>⟨h.1,mW h.2 fun h12 h=>?_⟩)⟩)⟩)⟩))⟩))⟩
       refine As (fun env pv hp=>∃ x9 x10,Sub (w6 E0 10 (sI x10) 9 (sI x9) 3 (sV x3) 2 (sI x2) 1 (sI x1) 0 (sS x0a x0n x0c)) env∧Sub V0 pv∧F165_j6 x0a x0n x0c x1 x2 x3 x9 x10 hp I2 K) ?_ ?_
       ·refine Ar F165_r14 ?_ (r6 1 9 0 2 3 10 Rn) (z6 Sn) Sn
        refine Ac h rfl (fun h=>?_) (fun h=>?_)
        ·refine As (fun env pv hp=>∃ x9 x10 x11,Sub (w7 E0 11 (sI x11) 10 (sI x10) 9 (sI x9) 3 (sV x3) 2 (sI x2) 1 (sI x1) 0 (sS x0a x0n x0c)) env∧Sub V0 pv∧F165_j9 x0a x0n x0c x1 x2 x3 x9 x10 x11 hp I2 K) ?_ ?_
         ·refine Ag F165_r19 ?_ (r6 9 0 1 2 3 10 Rn) (z6 Sn) Sn
          exact ⟨_,_,_,(z7 Sn),Sn,h⟩
         ·rintro env pv hp ⟨x9,x10,x11,he,hv,h⟩
          refine Ae ?_ (r7 0 1 2 3 9 10 11 Rn) he hv
          unfold F165_j9 at h
          refine AWP.block (AWP.loop (σ:=Int) _ (fun s=>w7 E0 11 (sI s) 10 (sI x10) 9 (sI x9) 3 (sV x3) 2 (sI x2) 1 (sI x1) 0 (sS x0a x0n x0c)) (fun s=>V0) x11 h (fun s=>r7 0 1 2 3 9 10 11 Rn) (z7 Sn) Sn ?_)
          intro I10 x11 hp h
          replace h:F165_l10 x0a x0n x0c x1 x2 x3 x9 x10 I2 K I10 x11 hp:=h
          unfold F165_l10 at h
          refine Aq (Ar F165_r15 ?_ (r7 11 0 1 2 3 9 10 Rn) (z7 Sn) Sn)
          refine Ac h rfl (fun h=>?_) (fun h=>?_)
          ·refine AWP.skip (Aq (AWP.block (Aq (Aq (AWP.rgnD (by kernel_rfl) (by kernel_rfl) (F165_r16 rfl) ?_ (r7 0 3 11 1 2 9 10 Rn) (z7 Sn) Sn)))))
           refine ⟨h.1,h.2.1,mN h.2.2 (fun b37 o38 h=>mL h (fun l39 h=>⟨h.1,h.2.1,mN h.2.2 fun b40 o41 h=>mL h fun l42 h=>mF h fun f43 ga_44 gb_45 h=>mC h fun u46 h47 h=>mI h fun i48 h=>?_⟩))⟩
           refine Ac h rfl (fun h=>?_) (fun h=>?_)
           ·refine AWP.exit ?_
            exact ⟨_,_,(z6 Sn),Sn,h⟩
           ·refine AWP.skip (AWP.rgnD (by kernel_rfl) (by kernel_rfl) F165_r17 ?_ (r7 0 11 1 2 3 9 10 Rn) (z7 Sn) Sn)
            refine ⟨h.1,h.2.1,mN h.2.2 (fun b49 o50 h=>mL h (fun l51 h=>⟨h.1,h.2.1,mN h.2.2 (fun b52 o53 h=>mL h (fun l54 h=>⟨h.1,h.2.1,mN h.2.2 (fun b55 o56 h=>⟨h.1,mW h.2 (fun h57 h=>⟨h.1,h.2.1,mN h.2.2 (fun b58 o59 h=>⟨h.1,mW h.2 fun h60 h=>?_⟩)⟩)⟩)⟩))⟩))⟩
            refine Ag F165_r18 ?_ (r7 11 0 1 2 3 9 10 Rn) (z7 Sn) Sn
            exact ⟨_,(z7 Sn),Sn,h⟩
          ·refine AWP.exit ?_
           exact ⟨_,_,(z6 Sn),Sn,h⟩
        ·refine AWP.skip ?_
         exact ⟨_,_,(z6 Sn),Sn,h⟩
       ·rintro env pv hp ⟨x9,x10,he,hv,h⟩
        refine Ae ?_ (r6 0 1 2 3 9 10 Rn) he hv
        unfold F165_j6 at h
        refine Ar F165_r8 ?_ (r6 2 9 0 1 3 10 Rn) (z6 Sn) Sn
        refine Ac h rfl (fun h=>?_) (fun h=>?_)
        ·refine As (fun env pv hp=>∃ x9 x10 x12,Sub (w7 E0 12 (sI x12) 10 (sI x10) 9 (sI x9) 3 (sV x3) 2 (sI x2) 1 (sI x1) 0 (sS x0a x0n x0c)) env∧Sub V0 pv∧F165_j7 x0a x0n x0c x1 x2 x3 x9 x10 x12 hp I2 K) ?_ ?_
         ·refine Ag F165_r13 ?_ (r6 9 0 1 2 3 10 Rn) (z6 Sn) Sn
          exact ⟨_,_,_,(z7 Sn),Sn,h⟩
         ·rintro env pv hp ⟨x9,x10,x12,he,hv,h⟩
          refine Ae ?_ (r7 0 1 2 3 9 10 12 Rn) he hv
          unfold F165_j7 at h
          refine AWP.block (AWP.loop (σ:=Int) _ (fun s=>w7 E0 12 (sI s) 10 (sI x10) 9 (sI x9) 3 (sV x3) 2 (sI x2) 1 (sI x1) 0 (sS x0a x0n x0c)) (fun s=>V0) x12 h (fun s=>r7 0 1 2 3 9 10 12 Rn) (z7 Sn) Sn ?_)
          intro I8 x12 hp h
          replace h:F165_l8 x0a x0n x0c x1 x2 x3 x9 x10 I2 K I8 x12 hp:=h
          unfold F165_l8 at h
          refine Aq (Ar F165_r9 ?_ (r7 2 12 0 1 3 9 10 Rn) (z7 Sn) Sn)
          refine Ac h rfl (fun h=>?_) (fun h=>?_)
          ·refine AWP.skip (Aq (AWP.block (Aq (Aq (AWP.rgnD (by kernel_rfl) (by kernel_rfl) (F165_r10 rfl) ?_ (r7 0 3 12 1 2 9 10 Rn) (z7 Sn) Sn)))))
           refine ⟨h.1,h.2.1,mN h.2.2 (fun b13 o14 h=>mL h (fun l15 h=>⟨h.1,h.2.1,mN h.2.2 fun b16 o17 h=>mL h fun l18 h=>mF h fun f19 ga_20 gb_21 h=>mC h fun u22 h23 h=>mI h fun i24 h=>?_⟩))⟩
           refine Ac h rfl (fun h=>?_) (fun h=>?_)
           ·refine AWP.exit ?_
            exact ⟨_,_,(z6 Sn),Sn,h⟩
           ·refine AWP.skip (AWP.rgnD (by kernel_rfl) (by kernel_rfl) F165_r11 ?_ (r7 0 12 1 2 3 9 10 Rn) (z7 Sn) Sn)
            refine ⟨h.1,h.2.1,mN h.2.2 (fun b25 o26 h=>mL h (fun l27 h=>⟨h.1,h.2.1,mN h.2.2 (fun b28 o29 h=>mL h (fun l30 h=>⟨h.1,h.2.1,mN h.2.2 (fun b31 o32 h=>⟨h.1,mW h.2 (fun h33 h=>⟨h.1,h.2.1,mN h.2.2 (fun b34 o35 h=>⟨h.1,mW h.2 fun h36 h=>?_⟩)⟩)⟩)⟩))⟩))⟩
            refine Ag F165_r12 ?_ (r7 12 0 1 2 3 9 10 Rn) (z7 Sn) Sn
            exact ⟨_,(z7 Sn),Sn,h⟩
          ·refine AWP.exit ?_
           exact ⟨_,_,(z6 Sn),Sn,h⟩
        ·refine AWP.skip ?_
         exact ⟨_,_,(z6 Sn),Sn,h⟩
   ·rintro env pv hp ⟨x9,x10,he,hv,h⟩
    refine Ae ?_ (r6 0 1 2 3 9 10 Rn) he hv
    unfold F165_j4 at h
    refine Ag F165_r2 ?_ (r6 10 0 1 2 3 9 Rn) (z6 Sn) Sn
    exact ⟨_,(z6 Sn),Sn,h⟩
end
section
variable {e E:Env} {x0a:OA} {x0n x0c:Nat} {x1 x2 x3:Int} {x4:Value} {x11 x12:Int} {hp:HP} {K:Env→PV→HP→Prop}
abbrev R166 (p n:Nat):=RW Tryd.prog 90 [] (opsAt Tryd.f166 (pth p)) (List.range n)
theorem F166_r0:R166 2 1 e V0 hp K=
 K (upd e 10 (sI 0)) V0 hp:= by kernel_rfl
theorem F166_r1 (h:E=upd (w2 e 3 (sI x3) 1 (sI x1)) 0 (sS x0a x0n x0c)):R166 5 16 E V0 hp K=
    ((0≤x3)∧(x3<x0n)∧(ptrN x0a fun b1 o2=>ldL (HP.cellN hp b1 (o2+Int.toNat x3*9) 9) fun l3=>(0≤x1)∧(x1<x0n)∧(ptrN x0a fun b4 o5=>ldL (HP.cellN hp b4 (o5+Int.toNat x1*9) 9) fun l6=>(0≤x1)∧(x1<x0n)∧(ptrN x0a fun b7 o8=>(List.length l3=9)∧(HP.stN hp b7 (o8+Int.toNat x1*9) l3 fun h9=>(0≤x3)∧(x3<x0n)∧(ptrN x0a fun b10 o11=>(List.length l6=9)∧(HP.stN h9 b10 (o11+Int.toNat x3*9) l6 fun h12=>K (w6 (w8 E 13 (sS x0a x0n x0c) 14 (sI x1) 15 (sS x0a x0n x0c) 16 (sI x3) 17 (sS x0a x0n x0c) 18 (sI x3) 19 (sQ b1 (o2+Int.toNat x3*9)) 20 (sA l3)) 21 (sS x0a x0n x0c) 22 (sI x1) 23 (sQ b4 (o5+Int.toNat x1*9)) 24 (sA l6) 25 (sQ b7 (o8+Int.toNat x1*9)) 26 (sQ b10 (o11+Int.toNat x3*9))) V0 h12))))))):=by subst h; kernel_rfl
theorem F166_r2:R166 47 2 (upd e 11 (sI x11)) V0 hp K=
 K (w3 e 11 (sI x11) 89 (sI x11) 10 (sI x11)) V0 hp:= by kernel_rfl
def F166_j2 (x11:Int) (hp:HP) (K:Kh):Prop:=
  (K (.int .i64 x11) hp)
theorem F166_r3:R166 2439 3 (w2 e 12 (sI x12) 11 (sI x11)) V0 hp K=
 K (w5 e 12 (sI x12) 11 (sI x11) 68 (sI x11) 69 (sI x12) 70 (sB (decide (x11 > x12)))) V0 hp:= by kernel_rfl
theorem F166_r4 (h:E=upd (w2 e 12 (sI x12) 11 (sI x11)) 0 (sS x0a x0n x0c)):R166 2951 16 E V0 hp K=
    ((0≤x12)∧(x12<x0n)∧(ptrN x0a fun b1 o2=>ldL (HP.cellN hp b1 (o2+Int.toNat x12*9) 9) fun l3=>(0≤x11)∧(x11<x0n)∧(ptrN x0a fun b4 o5=>ldL (HP.cellN hp b4 (o5+Int.toNat x11*9) 9) fun l6=>(0≤x11)∧(x11<x0n)∧(ptrN x0a fun b7 o8=>(List.length l3=9)∧(HP.stN hp b7 (o8+Int.toNat x11*9) l3 fun h9=>(0≤x12)∧(x12<x0n)∧(ptrN x0a fun b10 o11=>(List.length l6=9)∧(HP.stN h9 b10 (o11+Int.toNat x12*9) l6 fun h12=>K (w6 (w8 E 71 (sS x0a x0n x0c) 72 (sI x11) 73 (sS x0a x0n x0c) 74 (sI x12) 75 (sS x0a x0n x0c) 76 (sI x12) 77 (sQ b1 (o2+Int.toNat x12*9)) 78 (sA l3)) 79 (sS x0a x0n x0c) 80 (sI x11) 81 (sQ b4 (o5+Int.toNat x11*9)) 82 (sA l6) 83 (sQ b7 (o8+Int.toNat x11*9)) 84 (sQ b10 (o11+Int.toNat x12*9))) V0 h12))))))):=by subst h; kernel_rfl
theorem F166_r5:R166 6023 3 (upd e 11 (sI x11)) V0 hp K=
 K (w4 e 11 (sI x11) 85 (sI x11) 86 (sI ((wr (x11+1)))) 11 (sI ((wr (x11+1))))) V0 hp:= by kernel_rfl
theorem F166_r6:R166 8071 3 (upd e 12 (sI x12)) V0 hp K=
 K (w4 e 12 (sI x12) 87 (sI x12) 88 (sI ((wr (x12-1)))) 12 (sI ((wr (x12-1))))) V0 hp:= by kernel_rfl
def F166_j5 (x0a:OA) (x0n x0c:Nat) (x1:Int) (x4:Value) (x11 x12:Int) (hp:HP) (I3:(Int × Int)→HP→Prop) (K:Kh):Prop:=
  (ite2 (decide (x11 > x12)) (F166_j2 x11 hp  K) ((0≤x12)∧(x12<x0n)∧(ptrN x0a fun b13 o14=>ldL (HP.cellN hp b13 (o14+Int.toNat x12*9) 9) fun l15=>(0≤x11)∧(x11<x0n)∧(ptrN x0a fun b16 o17=>ldL (HP.cellN hp b16 (o17+Int.toNat x11*9) 9) fun l18=>(0≤x11)∧(x11<x0n)∧(ptrN x0a fun b19 o20=>(List.length l15=9)∧(HP.stN hp b19 (o20+Int.toNat x11*9) l15 fun h21=>(0≤x12)∧(x12<x0n)∧(ptrN x0a fun b22 o23=>(List.length l18=9)∧(HP.stN h21 b22 (o23+Int.toNat x12*9) l18 fun h24=>I3 ((IntKind.wrap .i64 (x11+1)),(IntKind.wrap .i64 (x12-1))) h24))))))))
theorem F166_r7:R166 10375 3 (upd e 12 (sI x12)) V0 hp K=
 K (w4 e 12 (sI x12) 66 (sI x12) 67 (sI ((wr (x12-1)))) 12 (sI ((wr (x12-1))))) V0 hp:= by kernel_rfl
def F166_j7 (x0a:OA) (x0n x0c:Nat) (x1:Int) (x4:Value) (x11 x12:Int) (x65:Bool) (hp:HP) (I3:(Int × Int)→HP→Prop) (I6:(Int)→HP→Prop) (K:Kh):Prop:=
  (ite2 x65 (I6 (IntKind.wrap .i64 (x12-1)) hp) (F166_j5 x0a x0n x0c x1 x4 x11 x12 hp I3 K))
theorem F166_r8 (h:E=upd (w4 e 12 (sI x12) 11 (sI x11) 4 (sV x4) 1 (sI x1)) 0 (sS x0a x0n x0c)):R166 8327 16 E V0 hp K=
    (ite2 (decide (x11≤x12)) ((0≤x1)∧(x1<x0n)∧(ptrN x0a fun b1 o2=>ldL (HP.cellN hp b1 (o2+Int.toNat x1*9) 9) fun l3=>(0≤x12)∧(x12<x0n)∧(ptrN x0a fun b4 o5=>ldL (HP.cellN hp b4 (o5+Int.toNat x12*9) 9) fun l6=>fnV x4 fun f7 ga8 gb9=>CF Tryd.prog f7 (ga8++[(Value.agg ⟨l3⟩),(.agg ⟨l6⟩)]++gb9) hp fun u10 h11=>intV u10 .i64 fun i12=>K (w8 (w8 E 50 (sI x11) 51 (sI x12) 52 (sB (decide (x11≤x12))) 53 (sB true) 54 (sV x4) 55 (sS x0a x0n x0c) 56 (sI x1) 57 (sQ b1 (o2+Int.toNat x1*9))) 58 (sA l3) 59 (sS x0a x0n x0c) 60 (sI x12) 61 (sQ b4 (o5+Int.toNat x12*9)) 62 (sA l6) 63 (sI i12) 64 (sB (decide (i12<0))) 65 (sB (decide (i12<0)))) V0 h11))) (K (w8 (w8 E 50 (sI x11) 51 (sI x12) 52 (sB (decide (x11≤x12))) 53 (sB false) 54 sU 55 sU 56 sU 57 sU) 58 sU 59 sU 60 sU 61 sU 62 sU 63 sU 64 sU 65 (sB false)) V0 hp)):=by subst h; kernel_rfl
def F166_l6 (x0a:OA) (x0n x0c:Nat) (x1:Int) (x4:Value) (x11:Int) (I3:(Int × Int)→HP→Prop) (K:Kh) (I6:(Int)→HP→Prop) (x12:Int) (hp:HP):Prop:=
  (ite2 (decide (x11≤x12)) ((0≤x1)∧(x1<x0n)∧(ptrN x0a fun b25 o26=>ldL (HP.cellN hp b25 (o26+Int.toNat x1*9) 9) fun l27=>(0≤x12)∧(x12<x0n)∧(ptrN x0a fun b28 o29=>ldL (HP.cellN hp b28 (o29+Int.toNat x12*9) 9) fun l30=>fnV x4 fun f31 ga_32 gb_33=>CF Tryd.prog f31 (ga_32++[(Value.agg ⟨l27⟩),(.agg ⟨l30⟩)]++gb_33) hp fun u34 h35=>intV u34 .i64 fun i36=>F166_j7 x0a x0n x0c x1 x4 x11 x12 (decide (i36<0)) h35 I3 I6 K))) (F166_j7 x0a x0n x0c x1 x4 x11 x12 false hp I3 I6 K))
def F166_j4 (x0a:OA) (x0n x0c:Nat) (x1:Int) (x4:Value) (x11 x12:Int) (hp:HP) (I3:(Int × Int)→HP→Prop) (K:Kh):Prop:=
  (LoopP (σ:=Int) (fun I s hp=>F166_l6 x0a x0n x0c x1 x4 x11 I3 K I s hp) x12 hp)
theorem F166_r9:R166 5127 3 (upd e 11 (sI x11)) V0 hp K=
 K (w4 e 11 (sI x11) 48 (sI x11) 49 (sI ((wr (x11+1)))) 11 (sI ((wr (x11+1))))) V0 hp:= by kernel_rfl
def F166_j9 (x0a:OA) (x0n x0c:Nat) (x1:Int) (x4:Value) (x11 x12:Int) (x47:Bool) (hp:HP) (I3:(Int × Int)→HP→Prop) (I8:(Int)→HP→Prop) (K:Kh):Prop:=
  (ite2 x47 (I8 (IntKind.wrap .i64 (x11+1)) hp) (F166_j4 x0a x0n x0c x1 x4 x11 x12 hp I3 K))
theorem F166_r10 (h:E=upd (w4 e 12 (sI x12) 11 (sI x11) 4 (sV x4) 1 (sI x1)) 0 (sS x0a x0n x0c)):R166 4103 17 E V0 hp K=
    (ite2 (decide (x11≤x12)) ((0≤x1)∧(x1<x0n)∧(ptrN x0a fun b1 o2=>ldL (HP.cellN hp b1 (o2+Int.toNat x1*9) 9) fun l3=>(0≤x11)∧(x11<x0n)∧(ptrN x0a fun b4 o5=>ldL (HP.cellN hp b4 (o5+Int.toNat x11*9) 9) fun l6=>fnV x4 fun f7 ga8 gb9=>CF Tryd.prog f7 (ga8++[(Value.agg ⟨l3⟩),(.agg ⟨l6⟩)]++gb9) hp fun u10 h11=>intV u10 .i64 fun i12=>K (upd (w8 (w8 E 31 (sI x11) 32 (sI x12) 33 (sB (decide (x11≤x12))) 34 (sB true) 35 (sV x4) 36 (sS x0a x0n x0c) 37 (sI x1) 38 (sQ b1 (o2+Int.toNat x1*9))) 39 (sA l3) 40 (sS x0a x0n x0c) 41 (sI x11) 42 (sQ b4 (o5+Int.toNat x11*9)) 43 (sA l6) 44 (sI i12) 45 (sB (decide (i12<0))) 46 (sB ((!(decide (i12<0)))))) 47 (sB ((!(decide (i12<0)))))) V0 h11))) (K (upd (w8 (w8 E 31 (sI x11) 32 (sI x12) 33 (sB (decide (x11≤x12))) 34 (sB false) 35 sU 36 sU 37 sU 38 sU) 39 sU 40 sU 41 sU 42 sU 43 sU 44 sU 45 sU 46 sU) 47 (sB false)) V0 hp)):=by subst h; kernel_rfl
def F166_l8 (x0a:OA) (x0n x0c:Nat) (x1:Int) (x4:Value) (x12:Int) (I3:(Int × Int)→HP→Prop) (K:Kh) (I8:(Int)→HP→Prop) (x11:Int) (hp:HP):Prop:=
  (ite2 (decide (x11≤x12)) ((0≤x1)∧(x1<x0n)∧(ptrN x0a fun b37 o38=>ldL (HP.cellN hp b37 (o38+Int.toNat x1*9) 9) fun l39=>(0≤x11)∧(x11<x0n)∧(ptrN x0a fun b40 o41=>ldL (HP.cellN hp b40 (o41+Int.toNat x11*9) 9) fun l42=>fnV x4 fun f43 ga_44 gb_45=>CF Tryd.prog f43 (ga_44++[(Value.agg ⟨l39⟩),(.agg ⟨l42⟩)]++gb_45) hp fun u46 h47=>intV u46 .i64 fun i48=>F166_j9 x0a x0n x0c x1 x4 x11 x12 (!(decide (i48<0))) h47 I3 I8 K))) (F166_j9 x0a x0n x0c x1 x4 x11 x12 false hp I3 I8 K))
def F166_l3 (x0a:OA) (x0n x0c:Nat) (x1:Int) (x4:Value) (K:Kh) (I3:(Int × Int)→HP→Prop) (x11 x12:Int) (hp:HP):Prop:=
  (LoopP (σ:=Int) (fun I s hp=>F166_l8 x0a x0n x0c x1 x4 x12 I3 K I s hp) x11 hp)
def F166_j1 (x0a:OA) (x0n x0c:Nat) (x1:Int) (x4:Value) (x11 x12:Int) (hp:HP) (K:Kh):Prop:=
  (LoopP (σ:=Int × Int) (fun I s hp=>F166_l3 x0a x0n x0c x1 x4  K I s.1 s.2 hp) (x11,x12) hp)
theorem F166_r11:R166 11 6 (w2 e 2 (sI x2) 1 (sI x1)) V0 hp K=
 K (w8 e 2 (sI x2) 1 (sI x1) 27 (sI x1) 28 (sI ((wr (x1+1)))) 29 (sI x2) 30 (sI ((wr (x2-1)))) 11 (sI ((wr (x1+1)))) 12 (sI ((wr (x2-1))))) V0 hp:= by kernel_rfl
def F166 (x0a:OA) (x0n x0c:Nat) (x1 x2 x3:Int) (x4:Value) (hp:HP) (K:Kh):Prop:=
  ((0≤x3)∧(x3<x0n)∧(ptrN x0a fun b1 o2=>ldL (HP.cellN hp b1 (o2+Int.toNat x3*9) 9) fun l3=>(0≤x1)∧(x1<x0n)∧(ptrN x0a fun b4 o5=>ldL (HP.cellN hp b4 (o5+Int.toNat x1*9) 9) fun l6=>(0≤x1)∧(x1<x0n)∧(ptrN x0a fun b7 o8=>(List.length l3=9)∧(HP.stN hp b7 (o8+Int.toNat x1*9) l3 fun h9=>(0≤x3)∧(x3<x0n)∧(ptrN x0a fun b10 o11=>(List.length l6=9)∧(HP.stN h9 b10 (o11+Int.toNat x3*9) l6 fun h12=>F166_j1 x0a x0n x0c x1 x4 (IntKind.wrap .i64 (x1+1)) (IntKind.wrap .i64 (x2-1)) h12  K)))))))
noncomputable abbrev o166 (k n:Nat):Code:=.region k (opsAt Tryd.f166 (pth n)) false
noncomputable def F166_code:Code:=(.seq (o166 0 2) (.seq (.region 1 (opsAt Tryd.f166 (pth 5)) true) (.seq (o166 2 11) (.seq (.block 0 (.loop (.block 1 (.seq (.block 2 (.loop (.seq (.seq (.region 3 (opsAt Tryd.f166 (pth 4103)) true) (.cond (.tmp 47) .skip (.exit 2))) (.block 3 (o166 4 5127))))) (.seq (.block 4 (.loop (.seq (.seq (.region 5 (opsAt Tryd.f166 (pth 8327)) true) (.cond (.tmp 65) .skip (.exit 4))) (.block 5 (o166 6 10375))))) (.seq (.seq (o166 7 2439) (.cond (.tmp 70) (.exit 0) .skip)) (.seq (.region 8 (opsAt Tryd.f166 (pth 2951)) true) (.seq (o166 9 6023) (o166 10 8071))))))))) (.seq (o166 11 47) .ret)))))
theorem F166_body:Tryd.f166.body=some F166_code:=by kernel_rfl
theorem F166_ok (x0a:OA) (x0n x0c:Nat) (x1 x2 x3:Int) (x4:Value) (hp:HP) (K:Kh) (h:F166 x0a x0n x0c x1 x2 x3 x4 hp K):CF Tryd.prog 166 [(.slice x0a x0n x0c),(.int .i64 x1),(.int .i64 x2),(.int .i64 x3),x4] hp K:=by
 refine .inl ⟨by kernel_rfl,AC.intro (N:=90) Tryd.func166 F166_body rfl (Nat.le_of_ble_eq_true rfl) ?_⟩
 unfold F166 at h
 refine Ar F166_r0 ?_ (r5 0 1 2 3 4 Rn) (z5 Sn) Sn
 refine Aq (AWP.rgnD (by kernel_rfl) (by kernel_rfl) (F166_r1 rfl) ?_ (r5 0 1 3 2 4 Rn) (z5 Sn) Sn)
 refine ⟨h.1,h.2.1,mN h.2.2 (fun b1 o2 h=>mL h (fun l3 h=>⟨h.1,h.2.1,mN h.2.2 (fun b4 o5 h=>mL h (fun l6 h=>⟨h.1,h.2.1,mN h.2.2 (fun b7 o8 h=>⟨h.1,mW h.2 (fun h9 h=>⟨h.1,h.2.1,mN h.2.2 (fun b10 o11 h=>⟨h.1,mW h.2 fun h12 h=>?_⟩)⟩)⟩)⟩))⟩))⟩
 refine As (fun env pv hp=>∃ x0a x0n x0c x1 x4 x11 x12,Sub (w5 E0 12 (sI x12) 11 (sI x11) 4 (sV x4) 1 (sI x1) 0 (sS x0a x0n x0c)) env∧Sub V0 pv∧F166_j1 x0a x0n x0c x1 x4 x11 x12 hp  K) ?_ ?_
 ·refine Ag F166_r11 ?_ (r4 1 2 0 4 Rn) (z4 Sn) Sn
  exact ⟨_,_,_,_,_,_,_,(z5 Sn),Sn,h⟩
 ·rintro env pv hp ⟨x0a,x0n,x0c,x1,x4,x11,x12,he,hv,h⟩
  refine Ae ?_ (r5 0 1 4 11 12 Rn) he hv
  unfold F166_j1 at h
  refine As (fun env pv hp=>∃ x11,Sub (upd E0 11 (sI x11)) env∧Sub V0 pv∧F166_j2 x11 hp  K) ?_ ?_
  ·refine AWP.block (AWP.loop (σ:=Int × Int) _ (fun s=>w5 E0 12 (sI (s.2)) 11 (sI (s.1)) 4 (sV x4) 1 (sI x1) 0 (sS x0a x0n x0c)) (fun s=>V0) (x11,x12) h (fun s=>r5 0 1 4 11 12 Rn) (z5 Sn) Sn ?_)
   intro I3 s hp h
   obtain ⟨x11,x12⟩:=s
   replace h:F166_l3 x0a x0n x0c x1 x4  K I3 x11 x12 hp:=h
   unfold F166_l3 at h
   refine AWP.block (As (fun env pv hp=>∃ x11 x12,Sub (w5 E0 12 (sI x12) 11 (sI x11) 4 (sV x4) 1 (sI x1) 0 (sS x0a x0n x0c)) env∧Sub V0 pv∧F166_j4 x0a x0n x0c x1 x4 x11 x12 hp I3 K) ?_ ?_)
   ·refine AWP.block (AWP.loop (σ:=Int) _ (fun s=>w5 E0 12 (sI x12) 11 (sI s) 4 (sV x4) 1 (sI x1) 0 (sS x0a x0n x0c)) (fun s=>V0) x11 h (fun s=>r5 0 1 4 11 12 Rn) (z5 Sn) Sn ?_)
    intro I8 x11 hp h
    replace h:F166_l8 x0a x0n x0c x1 x4 x12 I3 K I8 x11 hp:=h
    unfold F166_l8 at h
    refine Aq (As (fun env pv hp=>∃ x11 x47,Sub (w6 E0 47 (sB x47) 12 (sI x12) 11 (sI x11) 4 (sV x4) 1 (sI x1) 0 (sS x0a x0n x0c)) env∧Sub V0 pv∧F166_j9 x0a x0n x0c x1 x4 x11 x12 x47 hp I3 I8 K) ?_ ?_)
    ·refine AWP.rgnD (by kernel_rfl) (by kernel_rfl) (F166_r10 rfl) ?_ (r5 0 1 4 11 12 Rn) (z5 Sn) Sn
     refine mt h (fun h=>?_) (fun h=>?_)
     ·refine ⟨h.1,h.2.1,mN h.2.2 (fun b37 o38 h=>mL h (fun l39 h=>⟨h.1,h.2.1,mN h.2.2 fun b40 o41 h=>mL h fun l42 h=>mF h fun f43 ga_44 gb_45 h=>mC h fun u46 h47 h=>mI h fun i48 h=>?_⟩))⟩
      exact ⟨_,_,(z6 Sn),Sn,h⟩
     ·exact ⟨_,_,(z6 Sn),Sn,h⟩
    ·rintro env pv hp ⟨x11,x47,he,hv,h⟩
     refine Ae ?_ (r6 0 1 4 11 12 47 Rn) he hv
     unfold F166_j9 at h
     refine Ac h rfl (fun h=>?_) (fun h=>?_)
     ·refine AWP.skip (AWP.block (Ag F166_r9 ?_ (r5 11 0 1 4 12 Rn) (z5 Sn) Sn))
      exact ⟨_,(z5 Sn),Sn,h⟩
     ·refine AWP.exit ?_
      exact ⟨_,_,(z5 Sn),Sn,h⟩
   ·rintro env pv hp ⟨x11,x12,he,hv,h⟩
    refine Ae ?_ (r5 0 1 4 11 12 Rn) he hv
    unfold F166_j4 at h
    refine As (fun env pv hp=>∃ x11 x12,Sub (w5 E0 12 (sI x12) 11 (sI x11) 4 (sV x4) 1 (sI x1) 0 (sS x0a x0n x0c)) env∧Sub V0 pv∧F166_j5 x0a x0n x0c x1 x4 x11 x12 hp I3 K) ?_ ?_
    ·refine AWP.block (AWP.loop (σ:=Int) _ (fun s=>w5 E0 12 (sI s) 11 (sI x11) 4 (sV x4) 1 (sI x1) 0 (sS x0a x0n x0c)) (fun s=>V0) x12 h (fun s=>r5 0 1 4 11 12 Rn) (z5 Sn) Sn ?_)
     intro I6 x12 hp h
     replace h:F166_l6 x0a x0n x0c x1 x4 x11 I3 K I6 x12 hp:=h
     unfold F166_l6 at h
     refine Aq (As (fun env pv hp=>∃ x12 x65,Sub (w6 E0 65 (sB x65) 12 (sI x12) 11 (sI x11) 4 (sV x4) 1 (sI x1) 0 (sS x0a x0n x0c)) env∧Sub V0 pv∧F166_j7 x0a x0n x0c x1 x4 x11 x12 x65 hp I3 I6 K) ?_ ?_)
     ·refine AWP.rgnD (by kernel_rfl) (by kernel_rfl) (F166_r8 rfl) ?_ (r5 0 1 4 11 12 Rn) (z5 Sn) Sn
      refine mt h (fun h=>?_) (fun h=>?_)
      ·refine ⟨h.1,h.2.1,mN h.2.2 (fun b25 o26 h=>mL h (fun l27 h=>⟨h.1,h.2.1,mN h.2.2 fun b28 o29 h=>mL h fun l30 h=>mF h fun f31 ga_32 gb_33 h=>mC h fun u34 h35 h=>mI h fun i36 h=>?_⟩))⟩
       exact ⟨_,_,(z6 Sn),Sn,h⟩
      ·exact ⟨_,_,(z6 Sn),Sn,h⟩
     ·rintro env pv hp ⟨x12,x65,he,hv,h⟩
      refine Ae ?_ (r6 0 1 4 11 12 65 Rn) he hv
      unfold F166_j7 at h
      refine Ac h rfl (fun h=>?_) (fun h=>?_)
      ·refine AWP.skip (AWP.block (Ag F166_r7 ?_ (r5 12 0 1 4 11 Rn) (z5 Sn) Sn))
       exact ⟨_,(z5 Sn),Sn,h⟩
      ·refine AWP.exit ?_
       exact ⟨_,_,(z5 Sn),Sn,h⟩
    ·rintro env pv hp ⟨x11,x12,he,hv,h⟩
     refine Ae ?_ (r5 0 1 4 11 12 Rn) he hv
     unfold F166_j5 at h
     refine Aq (Ar F166_r3 ?_ (r5 11 12 0 1 4 Rn) (z5 Sn) Sn)
     refine Ac h rfl (fun h=>?_) (fun h=>?_)
     ·refine AWP.exit ?_
      exact ⟨_,(z1 Sn),Sn,h⟩
     ·refine AWP.skip (Aq (AWP.rgnD (by kernel_rfl) (by kernel_rfl) (F166_r4 rfl) ?_ (r5 0 11 12 1 4 Rn) (z5 Sn) Sn))
      refine ⟨h.1,h.2.1,mN h.2.2 (fun b13 o14 h=>mL h (fun l15 h=>⟨h.1,h.2.1,mN h.2.2 (fun b16 o17 h=>mL h (fun l18 h=>⟨h.1,h.2.1,mN h.2.2 (fun b19 o20 h=>⟨h.1,mW h.2 (fun h21 h=>⟨h.1,h.2.1,mN h.2.2 (fun b22 o23 h=>⟨h.1,mW h.2 fun h24 h=>?_⟩)⟩)⟩)⟩))⟩))⟩
      refine Ar F166_r5 ?_ (r5 11 0 1 4 12 Rn) (z5 Sn) Sn
      refine Ag F166_r6 ?_ (r5 12 0 1 4 11 Rn) (z5 Sn) Sn
      exact ⟨_,(z5 Sn),Sn,h⟩
  ·rintro env pv hp ⟨x11,he,hv,h⟩
   refine Ae ?_ (r1 11 Rn) he hv
   unfold F166_j2 at h
   refine Ar F166_r2 ?_ (r1 11 Rn) (z1 Sn) Sn
   refine AWP.ret ?_
   exact h
end
section
variable {e E:Env} {x0a:OA} {x0n x0c:Nat} {x1 x2 x3:Int} {x4:Value} {x12 x13:Int} {hp:HP} {K:Env→PV→HP→Prop}
abbrev R167 (p n:Nat):=RW Tryd.prog 178 [] (opsAt Tryd.f167 (pth p)) (List.range n)
theorem F167_r0:R167 2 2 e V0 hp K=
 K (w2 e 10 (sI 0) 11 (sB false)) V0 hp:= by kernel_rfl
theorem F167_r1 (h:E=upd (w2 e 3 (sI x3) 1 (sI x1)) 0 (sS x0a x0n x0c)):R167 5 16 E V0 hp K=
    ((0≤x3)∧(x3<x0n)∧(ptrN x0a fun b1 o2=>ldL (HP.cellN hp b1 (o2+Int.toNat x3*9) 9) fun l3=>(0≤x1)∧(x1<x0n)∧(ptrN x0a fun b4 o5=>ldL (HP.cellN hp b4 (o5+Int.toNat x1*9) 9) fun l6=>(0≤x1)∧(x1<x0n)∧(ptrN x0a fun b7 o8=>(List.length l3=9)∧(HP.stN hp b7 (o8+Int.toNat x1*9) l3 fun h9=>(0≤x3)∧(x3<x0n)∧(ptrN x0a fun b10 o11=>(List.length l6=9)∧(HP.stN h9 b10 (o11+Int.toNat x3*9) l6 fun h12=>K (w6 (w8 E 14 (sS x0a x0n x0c) 15 (sI x1) 16 (sS x0a x0n x0c) 17 (sI x3) 18 (sS x0a x0n x0c) 19 (sI x3) 20 (sQ b1 (o2+Int.toNat x3*9)) 21 (sA l3)) 22 (sS x0a x0n x0c) 23 (sI x1) 24 (sQ b4 (o5+Int.toNat x1*9)) 25 (sA l6) 26 (sQ b7 (o8+Int.toNat x1*9)) 27 (sQ b10 (o11+Int.toNat x3*9))) V0 h12))))))):=by subst h; kernel_rfl
theorem F167_r2:R167 159 3 (w2 e 13 (sI x13) 12 (sI x12)) V0 hp K=
 K (w5 e 13 (sI x13) 12 (sI x12) 69 (sI x12) 70 (sI x13) 71 (sB (decide (x12 > x13)))) V0 hp:= by kernel_rfl
theorem F167_r3 (h:E=upd (w2 e 13 (sI x13) 1 (sI x1)) 0 (sS x0a x0n x0c)):R167 607 16 E V0 hp K=
    ((0≤x1)∧(x1<x0n)∧(ptrN x0a fun b1 o2=>ldL (HP.cellN hp b1 (o2+Int.toNat x1*9) 9) fun l3=>(0≤x13)∧(x13<x0n)∧(ptrN x0a fun b4 o5=>ldL (HP.cellN hp b4 (o5+Int.toNat x13*9) 9) fun l6=>(0≤x13)∧(x13<x0n)∧(ptrN x0a fun b7 o8=>(List.length l3=9)∧(HP.stN hp b7 (o8+Int.toNat x13*9) l3 fun h9=>(0≤x1)∧(x1<x0n)∧(ptrN x0a fun b10 o11=>(List.length l6=9)∧(HP.stN h9 b10 (o11+Int.toNat x1*9) l6 fun h12=>K (w6 (w8 E 72 (sS x0a x0n x0c) 73 (sI x13) 74 (sS x0a x0n x0c) 75 (sI x1) 76 (sS x0a x0n x0c) 77 (sI x1) 78 (sQ b1 (o2+Int.toNat x1*9)) 79 (sA l3)) 80 (sS x0a x0n x0c) 81 (sI x13) 82 (sQ b4 (o5+Int.toNat x13*9)) 83 (sA l6) 84 (sQ b7 (o8+Int.toNat x13*9)) 85 (sQ b10 (o11+Int.toNat x1*9))) V0 h12))))))):=by subst h; kernel_rfl
theorem F167_r4:R167 1375 3 (upd e 13 (sI x13)) V0 hp K=
 K (w4 e 13 (sI x13) 86 (sI x13) 10 (sI x13) 11 (sB true)) V0 hp:= by kernel_rfl
theorem F167_r5 (h:E=upd (w2 e 13 (sI x13) 12 (sI x12)) 0 (sS x0a x0n x0c)):R167 191 16 E V0 hp K=
    ((0≤x13)∧(x13<x0n)∧(ptrN x0a fun b1 o2=>ldL (HP.cellN hp b1 (o2+Int.toNat x13*9) 9) fun l3=>(0≤x12)∧(x12<x0n)∧(ptrN x0a fun b4 o5=>ldL (HP.cellN hp b4 (o5+Int.toNat x12*9) 9) fun l6=>(0≤x12)∧(x12<x0n)∧(ptrN x0a fun b7 o8=>(List.length l3=9)∧(HP.stN hp b7 (o8+Int.toNat x12*9) l3 fun h9=>(0≤x13)∧(x13<x0n)∧(ptrN x0a fun b10 o11=>(List.length l6=9)∧(HP.stN h9 b10 (o11+Int.toNat x13*9) l6 fun h12=>K (w6 (w8 E 87 (sS x0a x0n x0c) 88 (sI x12) 89 (sS x0a x0n x0c) 90 (sI x13) 91 (sS x0a x0n x0c) 92 (sI x13) 93 (sQ b1 (o2+Int.toNat x13*9)) 94 (sA l3)) 95 (sS x0a x0n x0c) 96 (sI x12) 97 (sQ b4 (o5+Int.toNat x12*9)) 98 (sA l6) 99 (sQ b7 (o8+Int.toNat x12*9)) 100 (sQ b10 (o11+Int.toNat x13*9))) V0 h12))))))):=by subst h; kernel_rfl
theorem F167_r6:R167 383 3 (upd e 12 (sI x12)) V0 hp K=
 K (w4 e 12 (sI x12) 101 (sI x12) 102 (sI ((wr (x12+1)))) 12 (sI ((wr (x12+1))))) V0 hp:= by kernel_rfl
theorem F167_r7 (h:E=upd (w2 e 13 (sI x13) 1 (sI x1)) 0 (sS x0a x0n x0c)):R167 3071 16 E V0 hp K=
    ((0≤x1)∧(x1<x0n)∧(ptrN x0a fun b1 o2=>ldL (HP.cellN hp b1 (o2+Int.toNat x1*9) 9) fun l3=>(0≤x13)∧(x13<x0n)∧(ptrN x0a fun b4 o5=>ldL (HP.cellN hp b4 (o5+Int.toNat x13*9) 9) fun l6=>(0≤x13)∧(x13<x0n)∧(ptrN x0a fun b7 o8=>(List.length l3=9)∧(HP.stN hp b7 (o8+Int.toNat x13*9) l3 fun h9=>(0≤x1)∧(x1<x0n)∧(ptrN x0a fun b10 o11=>(List.length l6=9)∧(HP.stN h9 b10 (o11+Int.toNat x1*9) l6 fun h12=>K (w6 (w8 E 163 (sS x0a x0n x0c) 164 (sI x13) 165 (sS x0a x0n x0c) 166 (sI x1) 167 (sS x0a x0n x0c) 168 (sI x1) 169 (sQ b1 (o2+Int.toNat x1*9)) 170 (sA l3)) 171 (sS x0a x0n x0c) 172 (sI x13) 173 (sQ b4 (o5+Int.toNat x13*9)) 174 (sA l6) 175 (sQ b7 (o8+Int.toNat x13*9)) 176 (sQ b10 (o11+Int.toNat x1*9))) V0 h12))))))):=by subst h; kernel_rfl
theorem F167_r8:R167 6143 3 (upd e 13 (sI x13)) V0 hp K=
 K (w4 e 13 (sI x13) 177 (sI x13) 10 (sI x13) 11 (sB false)) V0 hp:= by kernel_rfl
def F167_j5 (x0a:OA) (x0n x0c:Nat) (x1 x13:Int) (hp:HP) (K:Kh):Prop:=
  ((0≤x1)∧(x1<x0n)∧(ptrN x0a fun b37 o38=>ldL (HP.cellN hp b37 (o38+Int.toNat x1*9) 9) fun l39=>(0≤x13)∧(x13<x0n)∧(ptrN x0a fun b40 o41=>ldL (HP.cellN hp b40 (o41+Int.toNat x13*9) 9) fun l42=>(0≤x13)∧(x13<x0n)∧(ptrN x0a fun b43 o44=>(List.length l39=9)∧(HP.stN hp b43 (o44+Int.toNat x13*9) l39 fun h45=>(0≤x1)∧(x1<x0n)∧(ptrN x0a fun b46 o47=>(List.length l42=9)∧(HP.stN h45 b46 (o47+Int.toNat x1*9) l42 fun h48=>K (.tuple ⟨[(.int .i64 x13),.bool false]⟩) h48)))))))
theorem F167_r9:R167 156159 3 (w2 e 13 (sI x13) 12 (sI x12)) V0 hp K=
 K (w5 e 13 (sI x13) 12 (sI x12) 142 (sI x12) 143 (sI x13) 144 (sB (decide (x12 > x13)))) V0 hp:= by kernel_rfl
theorem F167_r10 (h:E=upd (w2 e 13 (sI x13) 12 (sI x12)) 0 (sS x0a x0n x0c)):R167 188927 16 E V0 hp K=
    ((0≤x13)∧(x13<x0n)∧(ptrN x0a fun b1 o2=>ldL (HP.cellN hp b1 (o2+Int.toNat x13*9) 9) fun l3=>(0≤x12)∧(x12<x0n)∧(ptrN x0a fun b4 o5=>ldL (HP.cellN hp b4 (o5+Int.toNat x12*9) 9) fun l6=>(0≤x12)∧(x12<x0n)∧(ptrN x0a fun b7 o8=>(List.length l3=9)∧(HP.stN hp b7 (o8+Int.toNat x12*9) l3 fun h9=>(0≤x13)∧(x13<x0n)∧(ptrN x0a fun b10 o11=>(List.length l6=9)∧(HP.stN h9 b10 (o11+Int.toNat x13*9) l6 fun h12=>K (w6 (w8 E 145 (sS x0a x0n x0c) 146 (sI x12) 147 (sS x0a x0n x0c) 148 (sI x13) 149 (sS x0a x0n x0c) 150 (sI x13) 151 (sQ b1 (o2+Int.toNat x13*9)) 152 (sA l3)) 153 (sS x0a x0n x0c) 154 (sI x12) 155 (sQ b4 (o5+Int.toNat x12*9)) 156 (sA l6) 157 (sQ b7 (o8+Int.toNat x12*9)) 158 (sQ b10 (o11+Int.toNat x13*9))) V0 h12))))))):=by subst h; kernel_rfl
theorem F167_r11:R167 385535 3 (upd e 12 (sI x12)) V0 hp K=
 K (w4 e 12 (sI x12) 159 (sI x12) 160 (sI ((wr (x12+1)))) 12 (sI ((wr (x12+1))))) V0 hp:= by kernel_rfl
theorem F167_r12:R167 516607 3 (upd e 13 (sI x13)) V0 hp K=
 K (w4 e 13 (sI x13) 161 (sI x13) 162 (sI ((wr (x13-1)))) 13 (sI ((wr (x13-1))))) V0 hp:= by kernel_rfl
def F167_j8 (x0a:OA) (x0n x0c:Nat) (x1:Int) (x4:Value) (x12 x13:Int) (hp:HP) (I6:(Int × Int)→HP→Prop) (K:Kh):Prop:=
  (ite2 (decide (x12 > x13)) (F167_j5 x0a x0n x0c x1 x13 hp  K) ((0≤x13)∧(x13<x0n)∧(ptrN x0a fun b49 o50=>ldL (HP.cellN hp b49 (o50+Int.toNat x13*9) 9) fun l51=>(0≤x12)∧(x12<x0n)∧(ptrN x0a fun b52 o53=>ldL (HP.cellN hp b52 (o53+Int.toNat x12*9) 9) fun l54=>(0≤x12)∧(x12<x0n)∧(ptrN x0a fun b55 o56=>(List.length l51=9)∧(HP.stN hp b55 (o56+Int.toNat x12*9) l51 fun h57=>(0≤x13)∧(x13<x0n)∧(ptrN x0a fun b58 o59=>(List.length l54=9)∧(HP.stN h57 b58 (o59+Int.toNat x13*9) l54 fun h60=>I6 ((IntKind.wrap .i64 (x12+1)),(IntKind.wrap .i64 (x13-1))) h60))))))))
theorem F167_r13:R167 664063 3 (upd e 13 (sI x13)) V0 hp K=
 K (w4 e 13 (sI x13) 140 (sI x13) 141 (sI ((wr (x13-1)))) 13 (sI ((wr (x13-1))))) V0 hp:= by kernel_rfl
def F167_j10 (x0a:OA) (x0n x0c:Nat) (x1:Int) (x4:Value) (x12 x13:Int) (x139:Bool) (hp:HP) (I6:(Int × Int)→HP→Prop) (I9:(Int)→HP→Prop) (K:Kh):Prop:=
  (ite2 x139 (I9 (IntKind.wrap .i64 (x13-1)) hp) (F167_j8 x0a x0n x0c x1 x4 x12 x13 hp I6 K))
theorem F167_r14 (h:E=upd (w4 e 13 (sI x13) 12 (sI x12) 4 (sV x4) 1 (sI x1)) 0 (sS x0a x0n x0c)):R167 532991 17 E V0 hp K=
    (ite2 (decide (x12≤x13)) ((0≤x13)∧(x13<x0n)∧(ptrN x0a fun b1 o2=>ldL (HP.cellN hp b1 (o2+Int.toNat x13*9) 9) fun l3=>(0≤x1)∧(x1<x0n)∧(ptrN x0a fun b4 o5=>ldL (HP.cellN hp b4 (o5+Int.toNat x1*9) 9) fun l6=>fnV x4 fun f7 ga8 gb9=>CF Tryd.prog f7 (ga8++[(Value.agg ⟨l3⟩),(.agg ⟨l6⟩)]++gb9) hp fun u10 h11=>intV u10 .i64 fun i12=>K (upd (w8 (w8 E 123 (sI x12) 124 (sI x13) 125 (sB (decide (x12≤x13))) 126 (sB true) 127 (sV x4) 128 (sS x0a x0n x0c) 129 (sI x13) 130 (sQ b1 (o2+Int.toNat x13*9))) 131 (sA l3) 132 (sS x0a x0n x0c) 133 (sI x1) 134 (sQ b4 (o5+Int.toNat x1*9)) 135 (sA l6) 136 (sI i12) 137 (sB (decide (i12<0))) 138 (sB ((!(decide (i12<0)))))) 139 (sB ((!(decide (i12<0)))))) V0 h11))) (K (upd (w8 (w8 E 123 (sI x12) 124 (sI x13) 125 (sB (decide (x12≤x13))) 126 (sB false) 127 sU 128 sU 129 sU 130 sU) 131 sU 132 sU 133 sU 134 sU 135 sU 136 sU 137 sU 138 sU) 139 (sB false)) V0 hp)):=by subst h; kernel_rfl
def F167_l9 (x0a:OA) (x0n x0c:Nat) (x1:Int) (x4:Value) (x12:Int) (I6:(Int × Int)→HP→Prop) (K:Kh) (I9:(Int)→HP→Prop) (x13:Int) (hp:HP):Prop:=
  (ite2 (decide (x12≤x13)) ((0≤x13)∧(x13<x0n)∧(ptrN x0a fun b61 o62=>ldL (HP.cellN hp b61 (o62+Int.toNat x13*9) 9) fun l63=>(0≤x1)∧(x1<x0n)∧(ptrN x0a fun b64 o65=>ldL (HP.cellN hp b64 (o65+Int.toNat x1*9) 9) fun l66=>fnV x4 fun f67 ga_68 gb_69=>CF Tryd.prog f67 (ga_68++[(Value.agg ⟨l63⟩),(.agg ⟨l66⟩)]++gb_69) hp fun u70 h71=>intV u70 .i64 fun i72=>F167_j10 x0a x0n x0c x1 x4 x12 x13 (!(decide (i72<0))) h71 I6 I9 K))) (F167_j10 x0a x0n x0c x1 x4 x12 x13 false hp I6 I9 K))
def F167_j7 (x0a:OA) (x0n x0c:Nat) (x1:Int) (x4:Value) (x12 x13:Int) (hp:HP) (I6:(Int × Int)→HP→Prop) (K:Kh):Prop:=
  (LoopP (σ:=Int) (fun I s hp=>F167_l9 x0a x0n x0c x1 x4 x12 I6 K I s hp) x13 hp)
theorem F167_r15:R167 328191 3 (upd e 12 (sI x12)) V0 hp K=
 K (w4 e 12 (sI x12) 121 (sI x12) 122 (sI ((wr (x12+1)))) 12 (sI ((wr (x12+1))))) V0 hp:= by kernel_rfl
def F167_j12 (x0a:OA) (x0n x0c:Nat) (x1:Int) (x4:Value) (x12 x13:Int) (x120:Bool) (hp:HP) (I6:(Int × Int)→HP→Prop) (I11:(Int)→HP→Prop) (K:Kh):Prop:=
  (ite2 x120 (I11 (IntKind.wrap .i64 (x12+1)) hp) (F167_j7 x0a x0n x0c x1 x4 x12 x13 hp I6 K))
theorem F167_r16 (h:E=upd (w4 e 13 (sI x13) 12 (sI x12) 4 (sV x4) 1 (sI x1)) 0 (sS x0a x0n x0c)):R167 262655 16 E V0 hp K=
    (ite2 (decide (x12≤x13)) ((0≤x12)∧(x12<x0n)∧(ptrN x0a fun b1 o2=>ldL (HP.cellN hp b1 (o2+Int.toNat x12*9) 9) fun l3=>(0≤x1)∧(x1<x0n)∧(ptrN x0a fun b4 o5=>ldL (HP.cellN hp b4 (o5+Int.toNat x1*9) 9) fun l6=>fnV x4 fun f7 ga8 gb9=>CF Tryd.prog f7 (ga8++[(Value.agg ⟨l3⟩),(.agg ⟨l6⟩)]++gb9) hp fun u10 h11=>intV u10 .i64 fun i12=>K (w8 (w8 E 105 (sI x12) 106 (sI x13) 107 (sB (decide (x12≤x13))) 108 (sB true) 109 (sV x4) 110 (sS x0a x0n x0c) 111 (sI x12) 112 (sQ b1 (o2+Int.toNat x12*9))) 113 (sA l3) 114 (sS x0a x0n x0c) 115 (sI x1) 116 (sQ b4 (o5+Int.toNat x1*9)) 117 (sA l6) 118 (sI i12) 119 (sB (decide (i12<0))) 120 (sB (decide (i12<0)))) V0 h11))) (K (w8 (w8 E 105 (sI x12) 106 (sI x13) 107 (sB (decide (x12≤x13))) 108 (sB false) 109 sU 110 sU 111 sU 112 sU) 113 sU 114 sU 115 sU 116 sU 117 sU 118 sU 119 sU 120 (sB false)) V0 hp)):=by subst h; kernel_rfl
def F167_l11 (x0a:OA) (x0n x0c:Nat) (x1:Int) (x4:Value) (x13:Int) (I6:(Int × Int)→HP→Prop) (K:Kh) (I11:(Int)→HP→Prop) (x12:Int) (hp:HP):Prop:=
  (ite2 (decide (x12≤x13)) ((0≤x12)∧(x12<x0n)∧(ptrN x0a fun b73 o74=>ldL (HP.cellN hp b73 (o74+Int.toNat x12*9) 9) fun l75=>(0≤x1)∧(x1<x0n)∧(ptrN x0a fun b76 o77=>ldL (HP.cellN hp b76 (o77+Int.toNat x1*9) 9) fun l78=>fnV x4 fun f79 ga_80 gb_81=>CF Tryd.prog f79 (ga_80++[(Value.agg ⟨l75⟩),(.agg ⟨l78⟩)]++gb_81) hp fun u82 h83=>intV u82 .i64 fun i84=>F167_j12 x0a x0n x0c x1 x4 x12 x13 (decide (i84<0)) h83 I6 I11 K))) (F167_j12 x0a x0n x0c x1 x4 x12 x13 false hp I6 I11 K))
def F167_l6 (x0a:OA) (x0n x0c:Nat) (x1:Int) (x4:Value) (K:Kh) (I6:(Int × Int)→HP→Prop) (x12 x13:Int) (hp:HP):Prop:=
  (LoopP (σ:=Int) (fun I s hp=>F167_l11 x0a x0n x0c x1 x4 x13 I6 K I s hp) x12 hp)
def F167_j4 (x0a:OA) (x0n x0c:Nat) (x1:Int) (x4:Value) (x12 x13:Int) (hp:HP) (K:Kh):Prop:=
  (LoopP (σ:=Int × Int) (fun I s hp=>F167_l6 x0a x0n x0c x1 x4  K I s.1 s.2 hp) (x12,x13) hp)
theorem F167_r17:R167 767 3 (upd e 13 (sI x13)) V0 hp K=
 K (w4 e 13 (sI x13) 103 (sI x13) 104 (sI ((wr (x13-1)))) 13 (sI ((wr (x13-1))))) V0 hp:= by kernel_rfl
def F167_j3 (x0a:OA) (x0n x0c:Nat) (x1:Int) (x4:Value) (x12 x13:Int) (hp:HP) (K:Kh):Prop:=
  (ite2 (decide (x12 > x13)) ((0≤x1)∧(x1<x0n)∧(ptrN x0a fun b13 o14=>ldL (HP.cellN hp b13 (o14+Int.toNat x1*9) 9) fun l15=>(0≤x13)∧(x13<x0n)∧(ptrN x0a fun b16 o17=>ldL (HP.cellN hp b16 (o17+Int.toNat x13*9) 9) fun l18=>(0≤x13)∧(x13<x0n)∧(ptrN x0a fun b19 o20=>(List.length l15=9)∧(HP.stN hp b19 (o20+Int.toNat x13*9) l15 fun h21=>(0≤x1)∧(x1<x0n)∧(ptrN x0a fun b22 o23=>(List.length l18=9)∧(HP.stN h21 b22 (o23+Int.toNat x1*9) l18 fun h24=>K (.tuple ⟨[(.int .i64 x13),(.bool true)]⟩) h24))))))) ((0≤x13)∧(x13<x0n)∧(ptrN x0a fun b25 o26=>ldL (HP.cellN hp b25 (o26+Int.toNat x13*9) 9) fun l27=>(0≤x12)∧(x12<x0n)∧(ptrN x0a fun b28 o29=>ldL (HP.cellN hp b28 (o29+Int.toNat x12*9) 9) fun l30=>(0≤x12)∧(x12<x0n)∧(ptrN x0a fun b31 o32=>(List.length l27=9)∧(HP.stN hp b31 (o32+Int.toNat x12*9) l27 fun h33=>(0≤x13)∧(x13<x0n)∧(ptrN x0a fun b34 o35=>(List.length l30=9)∧(HP.stN h33 b34 (o35+Int.toNat x13*9) l30 fun h36=>F167_j4 x0a x0n x0c x1 x4 (IntKind.wrap .i64 (x12+1)) (IntKind.wrap .i64 (x13-1)) h36  K))))))))
theorem F167_r18:R167 655 3 (upd e 13 (sI x13)) V0 hp K=
 K (w4 e 13 (sI x13) 67 (sI x13) 68 (sI ((wr (x13-1)))) 13 (sI ((wr (x13-1))))) V0 hp:= by kernel_rfl
def F167_j14 (x0a:OA) (x0n x0c:Nat) (x1:Int) (x4:Value) (x12 x13:Int) (x66:Bool) (hp:HP) (I13:(Int)→HP→Prop) (K:Kh):Prop:=
  (ite2 x66 (I13 (IntKind.wrap .i64 (x13-1)) hp) (F167_j3 x0a x0n x0c x1 x4 x12 x13 hp  K))
theorem F167_r19 (h:E=upd (w4 e 13 (sI x13) 12 (sI x12) 4 (sV x4) 1 (sI x1)) 0 (sS x0a x0n x0c)):R167 527 17 E V0 hp K=
    (ite2 (decide (x12≤x13)) ((0≤x13)∧(x13<x0n)∧(ptrN x0a fun b1 o2=>ldL (HP.cellN hp b1 (o2+Int.toNat x13*9) 9) fun l3=>(0≤x1)∧(x1<x0n)∧(ptrN x0a fun b4 o5=>ldL (HP.cellN hp b4 (o5+Int.toNat x1*9) 9) fun l6=>fnV x4 fun f7 ga8 gb9=>CF Tryd.prog f7 (ga8++[(Value.agg ⟨l3⟩),(.agg ⟨l6⟩)]++gb9) hp fun u10 h11=>intV u10 .i64 fun i12=>K (upd (w8 (w8 E 50 (sI x12) 51 (sI x13) 52 (sB (decide (x12≤x13))) 53 (sB true) 54 (sV x4) 55 (sS x0a x0n x0c) 56 (sI x13) 57 (sQ b1 (o2+Int.toNat x13*9))) 58 (sA l3) 59 (sS x0a x0n x0c) 60 (sI x1) 61 (sQ b4 (o5+Int.toNat x1*9)) 62 (sA l6) 63 (sI i12) 64 (sB (decide (i12<0))) 65 (sB ((!(decide (i12<0)))))) 66 (sB ((!(decide (i12<0)))))) V0 h11))) (K (upd (w8 (w8 E 50 (sI x12) 51 (sI x13) 52 (sB (decide (x12≤x13))) 53 (sB false) 54 sU 55 sU 56 sU 57 sU) 58 sU 59 sU 60 sU 61 sU 62 sU 63 sU 64 sU 65 sU) 66 (sB false)) V0 hp)):=by subst h; kernel_rfl
def F167_l13 (x0a:OA) (x0n x0c:Nat) (x1:Int) (x4:Value) (x12:Int) (K:Kh) (I13:(Int)→HP→Prop) (x13:Int) (hp:HP):Prop:=
  (ite2 (decide (x12≤x13)) ((0≤x13)∧(x13<x0n)∧(ptrN x0a fun b85 o86=>ldL (HP.cellN hp b85 (o86+Int.toNat x13*9) 9) fun l87=>(0≤x1)∧(x1<x0n)∧(ptrN x0a fun b88 o89=>ldL (HP.cellN hp b88 (o89+Int.toNat x1*9) 9) fun l90=>fnV x4 fun f91 ga_92 gb_93=>CF Tryd.prog f91 (ga_92++[(Value.agg ⟨l87⟩),(.agg ⟨l90⟩)]++gb_93) hp fun u94 h95=>intV u94 .i64 fun i96=>F167_j14 x0a x0n x0c x1 x4 x12 x13 (!(decide (i96<0))) h95 I13 K))) (F167_j14 x0a x0n x0c x1 x4 x12 x13 false hp I13 K))
def F167_j2 (x0a:OA) (x0n x0c:Nat) (x1:Int) (x4:Value) (x12 x13:Int) (hp:HP) (K:Kh):Prop:=
  (LoopP (σ:=Int) (fun I s hp=>F167_l13 x0a x0n x0c x1 x4 x12  K I s hp) x13 hp)
theorem F167_r20:R167 327 3 (upd e 12 (sI x12)) V0 hp K=
 K (w4 e 12 (sI x12) 48 (sI x12) 49 (sI ((wr (x12+1)))) 12 (sI ((wr (x12+1))))) V0 hp:= by kernel_rfl
def F167_j16 (x0a:OA) (x0n x0c:Nat) (x1:Int) (x4:Value) (x12 x13:Int) (x47:Bool) (hp:HP) (I15:(Int)→HP→Prop) (K:Kh):Prop:=
  (ite2 x47 (I15 (IntKind.wrap .i64 (x12+1)) hp) (F167_j2 x0a x0n x0c x1 x4 x12 x13 hp  K))
theorem F167_r21 (h:E=upd (w4 e 13 (sI x13) 12 (sI x12) 4 (sV x4) 1 (sI x1)) 0 (sS x0a x0n x0c)):R167 263 16 E V0 hp K=
    (ite2 (decide (x12≤x13)) ((0≤x12)∧(x12<x0n)∧(ptrN x0a fun b1 o2=>ldL (HP.cellN hp b1 (o2+Int.toNat x12*9) 9) fun l3=>(0≤x1)∧(x1<x0n)∧(ptrN x0a fun b4 o5=>ldL (HP.cellN hp b4 (o5+Int.toNat x1*9) 9) fun l6=>fnV x4 fun f7 ga8 gb9=>CF Tryd.prog f7 (ga8++[(Value.agg ⟨l3⟩),(.agg ⟨l6⟩)]++gb9) hp fun u10 h11=>intV u10 .i64 fun i12=>K (w8 (w8 E 32 (sI x12) 33 (sI x13) 34 (sB (decide (x12≤x13))) 35 (sB true) 36 (sV x4) 37 (sS x0a x0n x0c) 38 (sI x12) 39 (sQ b1 (o2+Int.toNat x12*9))) 40 (sA l3) 41 (sS x0a x0n x0c) 42 (sI x1) 43 (sQ b4 (o5+Int.toNat x1*9)) 44 (sA l6) 45 (sI i12) 46 (sB (decide (i12<0))) 47 (sB (decide (i12<0)))) V0 h11))) (K (w8 (w8 E 32 (sI x12) 33 (sI x13) 34 (sB (decide (x12≤x13))) 35 (sB false) 36 sU 37 sU 38 sU 39 sU) 40 sU 41 sU 42 sU 43 sU 44 sU 45 sU 46 sU 47 (sB false)) V0 hp)):=by subst h; kernel_rfl
def F167_l15 (x0a:OA) (x0n x0c:Nat) (x1:Int) (x4:Value) (x13:Int) (K:Kh) (I15:(Int)→HP→Prop) (x12:Int) (hp:HP):Prop:=
  (ite2 (decide (x12≤x13)) ((0≤x12)∧(x12<x0n)∧(ptrN x0a fun b97 o98=>ldL (HP.cellN hp b97 (o98+Int.toNat x12*9) 9) fun l99=>(0≤x1)∧(x1<x0n)∧(ptrN x0a fun b100 o101=>ldL (HP.cellN hp b100 (o101+Int.toNat x1*9) 9) fun l102=>fnV x4 fun f103 ga_104 gb_105=>CF Tryd.prog f103 (ga_104++[(Value.agg ⟨l99⟩),(.agg ⟨l102⟩)]++gb_105) hp fun u106 h107=>intV u106 .i64 fun i108=>F167_j16 x0a x0n x0c x1 x4 x12 x13 (decide (i108<0)) h107 I15 K))) (F167_j16 x0a x0n x0c x1 x4 x12 x13 false hp I15 K))
def F167_j1 (x0a:OA) (x0n x0c:Nat) (x1:Int) (x4:Value) (x12 x13:Int) (hp:HP) (K:Kh):Prop:=
  (LoopP (σ:=Int) (fun I s hp=>F167_l15 x0a x0n x0c x1 x4 x13  K I s hp) x12 hp)
theorem F167_r22:R167 11 6 (w2 e 2 (sI x2) 1 (sI x1)) V0 hp K=
 K (w8 e 2 (sI x2) 1 (sI x1) 28 (sI x1) 29 (sI ((wr (x1+1)))) 30 (sI x2) 31 (sI ((wr (x2-1)))) 12 (sI ((wr (x1+1)))) 13 (sI ((wr (x2-1))))) V0 hp:= by kernel_rfl
def F167 (x0a:OA) (x0n x0c:Nat) (x1 x2 x3:Int) (x4:Value) (hp:HP) (K:Kh):Prop:=
  ((0≤x3)∧(x3<x0n)∧(ptrN x0a fun b1 o2=>ldL (HP.cellN hp b1 (o2+Int.toNat x3*9) 9) fun l3=>(0≤x1)∧(x1<x0n)∧(ptrN x0a fun b4 o5=>ldL (HP.cellN hp b4 (o5+Int.toNat x1*9) 9) fun l6=>(0≤x1)∧(x1<x0n)∧(ptrN x0a fun b7 o8=>(List.length l3=9)∧(HP.stN hp b7 (o8+Int.toNat x1*9) l3 fun h9=>(0≤x3)∧(x3<x0n)∧(ptrN x0a fun b10 o11=>(List.length l6=9)∧(HP.stN h9 b10 (o11+Int.toNat x3*9) l6 fun h12=>F167_j1 x0a x0n x0c x1 x4 (IntKind.wrap .i64 (x1+1)) (IntKind.wrap .i64 (x2-1)) h12  K)))))))
noncomputable abbrev o167 (k n:Nat):Code:=.region k (opsAt Tryd.f167 (pth n)) false
noncomputable def F167_code:Code:=(.seq (o167 0 2) (.seq (.region 1 (opsAt Tryd.f167 (pth 5)) true) (.seq (o167 2 11) (.seq (.block 0 (.loop (.seq (.seq (.region 3 (opsAt Tryd.f167 (pth 263)) true) (.cond (.tmp 47) .skip (.exit 0))) (.block 1 (o167 4 327))))) (.seq (.block 2 (.loop (.seq (.seq (.region 5 (opsAt Tryd.f167 (pth 527)) true) (.cond (.tmp 66) .skip (.exit 2))) (.block 3 (o167 6 655))))) (.seq (.seq (o167 7 159) (.cond (.tmp 71) (.seq (.region 8 (opsAt Tryd.f167 (pth 607)) true) (.seq (o167 9 1375) .ret)) .skip)) (.seq (.region 10 (opsAt Tryd.f167 (pth 191)) true) (.seq (o167 11 383) (.seq (o167 12 767) (.seq (.block 4 (.loop (.block 5 (.seq (.block 6 (.loop (.seq (.seq (.region 13 (opsAt Tryd.f167 (pth 262655)) true) (.cond (.tmp 120) .skip (.exit 6))) (.block 7 (o167 14 328191))))) (.seq (.block 8 (.loop (.seq (.seq (.region 15 (opsAt Tryd.f167 (pth 532991)) true) (.cond (.tmp 139) .skip (.exit 8))) (.block 9 (o167 16 664063))))) (.seq (.seq (o167 17 156159) (.cond (.tmp 144) (.exit 4) .skip)) (.seq (.region 18 (opsAt Tryd.f167 (pth 188927)) true) (.seq (o167 19 385535) (o167 20 516607))))))))) (.seq (.region 21 (opsAt Tryd.f167 (pth 3071)) true) (.seq (o167 22 6143) .ret))))))))))))
theorem F167_body:Tryd.f167.body=some F167_code:=by kernel_rfl
theorem F167_ok (x0a:OA) (x0n x0c:Nat) (x1 x2 x3:Int) (x4:Value) (hp:HP) (K:Kh) (h:F167 x0a x0n x0c x1 x2 x3 x4 hp K):CF Tryd.prog 167 [(.slice x0a x0n x0c),(.int .i64 x1),(.int .i64 x2),(.int .i64 x3),x4] hp K:=by
 refine .inl ⟨by kernel_rfl,AC.intro (N:=178) Tryd.func167 F167_body rfl (Nat.le_of_ble_eq_true rfl) ?_⟩
 unfold F167 at h
 refine Ar F167_r0 ?_ (r5 0 1 2 3 4 Rn) (z5 Sn) Sn
 refine Aq (AWP.rgnD (by kernel_rfl) (by kernel_rfl) (F167_r1 rfl) ?_ (r5 0 1 3 2 4 Rn) (z5 Sn) Sn)
 refine ⟨h.1,h.2.1,mN h.2.2 (fun b1 o2 h=>mL h (fun l3 h=>⟨h.1,h.2.1,mN h.2.2 (fun b4 o5 h=>mL h (fun l6 h=>⟨h.1,h.2.1,mN h.2.2 (fun b7 o8 h=>⟨h.1,mW h.2 (fun h9 h=>⟨h.1,h.2.1,mN h.2.2 (fun b10 o11 h=>⟨h.1,mW h.2 fun h12 h=>?_⟩)⟩)⟩)⟩))⟩))⟩
 refine As (fun env pv hp=>∃ x0a x0n x0c x1 x4 x12 x13,Sub (w5 E0 13 (sI x13) 12 (sI x12) 4 (sV x4) 1 (sI x1) 0 (sS x0a x0n x0c)) env∧Sub V0 pv∧F167_j1 x0a x0n x0c x1 x4 x12 x13 hp  K) ?_ ?_
 ·refine Ag F167_r22 ?_ (r4 1 2 0 4 Rn) (z4 Sn) Sn
  exact ⟨_,_,_,_,_,_,_,(z5 Sn),Sn,h⟩
 ·rintro env pv hp ⟨x0a,x0n,x0c,x1,x4,x12,x13,he,hv,h⟩
  refine Ae ?_ (r5 0 1 4 12 13 Rn) he hv
  unfold F167_j1 at h
  refine As (fun env pv hp=>∃ x0a x0n x0c x1 x4 x12 x13,Sub (w5 E0 13 (sI x13) 12 (sI x12) 4 (sV x4) 1 (sI x1) 0 (sS x0a x0n x0c)) env∧Sub V0 pv∧F167_j2 x0a x0n x0c x1 x4 x12 x13 hp  K) ?_ ?_
  ·refine AWP.block (AWP.loop (σ:=Int) _ (fun s=>w5 E0 13 (sI x13) 12 (sI s) 4 (sV x4) 1 (sI x1) 0 (sS x0a x0n x0c)) (fun s=>V0) x12 h (fun s=>r5 0 1 4 12 13 Rn) (z5 Sn) Sn ?_)
   intro I15 x12 hp h
   replace h:F167_l15 x0a x0n x0c x1 x4 x13  K I15 x12 hp:=h
   unfold F167_l15 at h
   refine Aq (As (fun env pv hp=>∃ x12 x47,Sub (w6 E0 47 (sB x47) 13 (sI x13) 12 (sI x12) 4 (sV x4) 1 (sI x1) 0 (sS x0a x0n x0c)) env∧Sub V0 pv∧F167_j16 x0a x0n x0c x1 x4 x12 x13 x47 hp I15 K) ?_ ?_)
   ·refine AWP.rgnD (by kernel_rfl) (by kernel_rfl) (F167_r21 rfl) ?_ (r5 0 1 4 12 13 Rn) (z5 Sn) Sn
    refine mt h (fun h=>?_) (fun h=>?_)
    ·refine ⟨h.1,h.2.1,mN h.2.2 (fun b97 o98 h=>mL h (fun l99 h=>⟨h.1,h.2.1,mN h.2.2 fun b100 o101 h=>mL h fun l102 h=>mF h fun f103 ga_104 gb_105 h=>mC h fun u106 h107 h=>mI h fun i108 h=>?_⟩))⟩
     exact ⟨_,_,(z6 Sn),Sn,h⟩
    ·exact ⟨_,_,(z6 Sn),Sn,h⟩
   ·rintro env pv hp ⟨x12,x47,he,hv,h⟩
    refine Ae ?_ (r6 0 1 4 12 13 47 Rn) he hv
    unfold F167_j16 at h
    refine Ac h rfl (fun h=>?_) (fun h=>?_)
    ·refine AWP.skip (AWP.block (Ag F167_r20 ?_ (r5 12 0 1 4 13 Rn) (z5 Sn) Sn))
     exact ⟨_,(z5 Sn),Sn,h⟩
    ·refine AWP.exit ?_
     exact ⟨_,_,_,_,_,_,_,(z5 Sn),Sn,h⟩
  ·rintro env pv hp ⟨x0a,x0n,x0c,x1,x4,x12,x13,he,hv,h⟩
   refine Ae ?_ (r5 0 1 4 12 13 Rn) he hv
   unfold F167_j2 at h
   refine As (fun env pv hp=>∃ x0a x0n x0c x1 x4 x12 x13,Sub (w5 E0 13 (sI x13) 12 (sI x12) 4 (sV x4) 1 (sI x1) 0 (sS x0a x0n x0c)) env∧Sub V0 pv∧F167_j3 x0a x0n x0c x1 x4 x12 x13 hp  K) ?_ ?_
   ·refine AWP.block (AWP.loop (σ:=Int) _ (fun s=>w5 E0 13 (sI s) 12 (sI x12) 4 (sV x4) 1 (sI x1) 0 (sS x0a x0n x0c)) (fun s=>V0) x13 h (fun s=>r5 0 1 4 12 13 Rn) (z5 Sn) Sn ?_)
    intro I13 x13 hp h
    replace h:F167_l13 x0a x0n x0c x1 x4 x12  K I13 x13 hp:=h
    unfold F167_l13 at h
    refine Aq (As (fun env pv hp=>∃ x13 x66,Sub (w6 E0 66 (sB x66) 13 (sI x13) 12 (sI x12) 4 (sV x4) 1 (sI x1) 0 (sS x0a x0n x0c)) env∧Sub V0 pv∧F167_j14 x0a x0n x0c x1 x4 x12 x13 x66 hp I13 K) ?_ ?_)
    ·refine AWP.rgnD (by kernel_rfl) (by kernel_rfl) (F167_r19 rfl) ?_ (r5 0 1 4 12 13 Rn) (z5 Sn) Sn
     refine mt h (fun h=>?_) (fun h=>?_)
     ·refine ⟨h.1,h.2.1,mN h.2.2 (fun b85 o86 h=>mL h (fun l87 h=>⟨h.1,h.2.1,mN h.2.2 fun b88 o89 h=>mL h fun l90 h=>mF h fun f91 ga_92 gb_93 h=>mC h fun u94 h95 h=>mI h fun i96 h=>?_⟩))⟩
      exact ⟨_,_,(z6 Sn),Sn,h⟩
     ·exact ⟨_,_,(z6 Sn),Sn,h⟩
    ·rintro env pv hp ⟨x13,x66,he,hv,h⟩
     refine Ae ?_ (r6 0 1 4 12 13 66 Rn) he hv
     unfold F167_j14 at h
     refine Ac h rfl (fun h=>?_) (fun h=>?_)
     ·refine AWP.skip (AWP.block (Ag F167_r18 ?_ (r5 13 0 1 4 12 Rn) (z5 Sn) Sn))
      exact ⟨_,(z5 Sn),Sn,h⟩
     ·refine AWP.exit ?_
      exact ⟨_,_,_,_,_,_,_,(z5 Sn),Sn,h⟩
   ·rintro env pv hp ⟨x0a,x0n,x0c,x1,x4,x12,x13,he,hv,h⟩
    refine Ae ?_ (r5 0 1 4 12 13 Rn) he hv
    unfold F167_j3 at h
    refine Aq (Ar F167_r2 ?_ (r5 12 13 0 1 4 Rn) (z5 Sn) Sn)
    refine Ac h rfl (fun h=>?_) (fun h=>?_)
    ·refine Aq (AWP.rgnD (by kernel_rfl) (by kernel_rfl) (F167_r3 rfl) ?_ (r3 0 1 13 Rn) (z3 Sn) Sn)
     refine ⟨h.1,h.2.1,mN h.2.2 (fun b13 o14 h=>mL h (fun l15 h=>⟨h.1,h.2.1,mN h.2.2 (fun b16 o17 h=>mL h (fun l18 h=>⟨h.1,h.2.1,mN h.2.2 (fun b19 o20 h=>⟨h.1,mW h.2 (fun h21 h=>⟨h.1,h.2.1,mN h.2.2 (fun b22 o23 h=>⟨h.1,mW h.2 fun h24 h=>?_⟩)⟩)⟩)⟩))⟩))⟩
     refine Ar F167_r4 ?_ (r1 13 Rn) (z1 Sn) Sn
     refine AWP.ret ?_
     exact h
    ·refine AWP.skip (Aq (AWP.rgnD (by kernel_rfl) (by kernel_rfl) (F167_r5 rfl) ?_ (r5 0 12 13 1 4 Rn) (z5 Sn) Sn))
     refine ⟨h.1,h.2.1,mN h.2.2 (fun b25 o26 h=>mL h (fun l27 h=>⟨h.1,h.2.1,mN h.2.2 (fun b28 o29 h=>mL h (fun l30 h=>⟨h.1,h.2.1,mN h.2.2 (fun b31 o32 h=>⟨h.1,mW h.2 (fun h33 h=>⟨h.1,h.2.1,mN h.2.2 (fun b34 o35 h=>⟨h.1,mW h.2 fun h36 h=>?_⟩)⟩)⟩)⟩))⟩))⟩
     refine Ar F167_r6 ?_ (r5 12 0 1 4 13 Rn) (z5 Sn) Sn
     refine As (fun env pv hp=>∃ x0a x0n x0c x1 x4 x12 x13,Sub (w5 E0 13 (sI x13) 12 (sI x12) 4 (sV x4) 1 (sI x1) 0 (sS x0a x0n x0c)) env∧Sub V0 pv∧F167_j4 x0a x0n x0c x1 x4 x12 x13 hp  K) ?_ ?_
     ·refine Ag F167_r17 ?_ (r5 13 0 1 4 12 Rn) (z5 Sn) Sn
      exact ⟨_,_,_,_,_,_,_,(z5 Sn),Sn,h⟩
     ·rintro env pv hp ⟨x0a,x0n,x0c,x1,x4,x12,x13,he,hv,h⟩
      refine Ae ?_ (r5 0 1 4 12 13 Rn) he hv
      unfold F167_j4 at h
      refine As (fun env pv hp=>∃ x0a x0n x0c x1 x13,Sub (w3 E0 13 (sI x13) 1 (sI x1) 0 (sS x0a x0n x0c)) env∧Sub V0 pv∧F167_j5 x0a x0n x0c x1 x13 hp  K) ?_ ?_
      ·refine AWP.block (AWP.loop (σ:=Int × Int) _ (fun s=>w5 E0 13 (sI (s.2)) 12 (sI (s.1)) 4 (sV x4) 1 (sI x1) 0 (sS x0a x0n x0c)) (fun s=>V0) (x12,x13) h (fun s=>r5 0 1 4 12 13 Rn) (z5 Sn) Sn ?_)
       intro I6 s hp h
       obtain ⟨x12,x13⟩:=s
       replace h:F167_l6 x0a x0n x0c x1 x4  K I6 x12 x13 hp:=h
       unfold F167_l6 at h
       refine AWP.block (As (fun env pv hp=>∃ x12 x13,Sub (w5 E0 13 (sI x13) 12 (sI x12) 4 (sV x4) 1 (sI x1) 0 (sS x0a x0n x0c)) env∧Sub V0 pv∧F167_j7 x0a x0n x0c x1 x4 x12 x13 hp I6 K) ?_ ?_)
       ·refine AWP.block (AWP.loop (σ:=Int) _ (fun s=>w5 E0 13 (sI x13) 12 (sI s) 4 (sV x4) 1 (sI x1) 0 (sS x0a x0n x0c)) (fun s=>V0) x12 h (fun s=>r5 0 1 4 12 13 Rn) (z5 Sn) Sn ?_)
        intro I11 x12 hp h
        replace h:F167_l11 x0a x0n x0c x1 x4 x13 I6 K I11 x12 hp:=h
        unfold F167_l11 at h
        refine Aq (As (fun env pv hp=>∃ x12 x120,Sub (w6 E0 120 (sB x120) 13 (sI x13) 12 (sI x12) 4 (sV x4) 1 (sI x1) 0 (sS x0a x0n x0c)) env∧Sub V0 pv∧F167_j12 x0a x0n x0c x1 x4 x12 x13 x120 hp I6 I11 K) ?_ ?_)
        ·refine AWP.rgnD (by kernel_rfl) (by kernel_rfl) (F167_r16 rfl) ?_ (r5 0 1 4 12 13 Rn) (z5 Sn) Sn
         refine mt h (fun h=>?_) (fun h=>?_)
         ·refine ⟨h.1,h.2.1,mN h.2.2 (fun b73 o74 h=>mL h (fun l75 h=>⟨h.1,h.2.1,mN h.2.2 fun b76 o77 h=>mL h fun l78 h=>mF h fun f79 ga_80 gb_81 h=>mC h fun u82 h83 h=>mI h fun i84 h=>?_⟩))⟩
          exact ⟨_,_,(z6 Sn),Sn,h⟩
         ·exact ⟨_,_,(z6 Sn),Sn,h⟩
        ·rintro env pv hp ⟨x12,x120,he,hv,h⟩
         refine Ae ?_ (r6 0 1 4 12 13 120 Rn) he hv
         unfold F167_j12 at h
         refine Ac h rfl (fun h=>?_) (fun h=>?_)
         ·refine AWP.skip (AWP.block (Ag F167_r15 ?_ (r5 12 0 1 4 13 Rn) (z5 Sn) Sn))
          exact ⟨_,(z5 Sn),Sn,h⟩
         ·refine AWP.exit ?_
          exact ⟨_,_,(z5 Sn),Sn,h⟩
       ·rintro env pv hp ⟨x12,x13,he,hv,h⟩
        refine Ae ?_ (r5 0 1 4 12 13 Rn) he hv
        unfold F167_j7 at h
        refine As (fun env pv hp=>∃ x12 x13,Sub (w5 E0 13 (sI x13) 12 (sI x12) 4 (sV x4) 1 (sI x1) 0 (sS x0a x0n x0c)) env∧Sub V0 pv∧F167_j8 x0a x0n x0c x1 x4 x12 x13 hp I6 K) ?_ ?_
        ·refine AWP.block (AWP.loop (σ:=Int) _ (fun s=>w5 E0 13 (sI s) 12 (sI x12) 4 (sV x4) 1 (sI x1) 0 (sS x0a x0n x0c)) (fun s=>V0) x13 h (fun s=>r5 0 1 4 12 13 Rn) (z5 Sn) Sn ?_)
         intro I9 x13 hp h
         replace h:F167_l9 x0a x0n x0c x1 x4 x12 I6 K I9 x13 hp:=h
         unfold F167_l9 at h
         refine Aq (As (fun env pv hp=>∃ x13 x139,Sub (w6 E0 139 (sB x139) 13 (sI x13) 12 (sI x12) 4 (sV x4) 1 (sI x1) 0 (sS x0a x0n x0c)) env∧Sub V0 pv∧F167_j10 x0a x0n x0c x1 x4 x12 x13 x139 hp I6 I9 K) ?_ ?_)
         ·refine AWP.rgnD (by kernel_rfl) (by kernel_rfl) (F167_r14 rfl) ?_ (r5 0 1 4 12 13 Rn) (z5 Sn) Sn
          refine mt h (fun h=>?_) (fun h=>?_)
          ·refine ⟨h.1,h.2.1,mN h.2.2 (fun b61 o62 h=>mL h (fun l63 h=>⟨h.1,h.2.1,mN h.2.2 fun b64 o65 h=>mL h fun l66 h=>mF h fun f67 ga_68 gb_69 h=>mC h fun u70 h71 h=>mI h fun i72 h=>?_⟩))⟩
           exact ⟨_,_,(z6 Sn),Sn,h⟩
          ·exact ⟨_,_,(z6 Sn),Sn,h⟩
         ·rintro env pv hp ⟨x13,x139,he,hv,h⟩
          refine Ae ?_ (r6 0 1 4 12 13 139 Rn) he hv
          unfold F167_j10 at h
          refine Ac h rfl (fun h=>?_) (fun h=>?_)
          ·refine AWP.skip (AWP.block (Ag F167_r13 ?_ (r5 13 0 1 4 12 Rn) (z5 Sn) Sn))
           exact ⟨_,(z5 Sn),Sn,h⟩
          ·refine AWP.exit ?_
           exact ⟨_,_,(z5 Sn),Sn,h⟩
        ·rintro env pv hp ⟨x12,x13,he,hv,h⟩
         refine Ae ?_ (r5 0 1 4 12 13 Rn) he hv
         unfold F167_j8 at h
         refine Aq (Ar F167_r9 ?_ (r5 12 13 0 1 4 Rn) (z5 Sn) Sn)
         refine Ac h rfl (fun h=>?_) (fun h=>?_)
         ·refine AWP.exit ?_
          exact ⟨_,_,_,_,_,(z3 Sn),Sn,h⟩
         ·refine AWP.skip (Aq (AWP.rgnD (by kernel_rfl) (by kernel_rfl) (F167_r10 rfl) ?_ (r5 0 12 13 1 4 Rn) (z5 Sn) Sn))
          refine ⟨h.1,h.2.1,mN h.2.2 (fun b49 o50 h=>mL h (fun l51 h=>⟨h.1,h.2.1,mN h.2.2 (fun b52 o53 h=>mL h (fun l54 h=>⟨h.1,h.2.1,mN h.2.2 (fun b55 o56 h=>⟨h.1,mW h.2 (fun h57 h=>⟨h.1,h.2.1,mN h.2.2 (fun b58 o59 h=>⟨h.1,mW h.2 fun h60 h=>?_⟩)⟩)⟩)⟩))⟩))⟩
          refine Ar F167_r11 ?_ (r5 12 0 1 4 13 Rn) (z5 Sn) Sn
          refine Ag F167_r12 ?_ (r5 13 0 1 4 12 Rn) (z5 Sn) Sn
          exact ⟨_,(z5 Sn),Sn,h⟩
      ·rintro env pv hp ⟨x0a,x0n,x0c,x1,x13,he,hv,h⟩
       refine Ae ?_ (r3 0 1 13 Rn) he hv
       unfold F167_j5 at h
       refine Aq (AWP.rgnD (by kernel_rfl) (by kernel_rfl) (F167_r7 rfl) ?_ (r3 0 1 13 Rn) (z3 Sn) Sn)
       refine ⟨h.1,h.2.1,mN h.2.2 (fun b37 o38 h=>mL h (fun l39 h=>⟨h.1,h.2.1,mN h.2.2 (fun b40 o41 h=>mL h (fun l42 h=>⟨h.1,h.2.1,mN h.2.2 (fun b43 o44 h=>⟨h.1,mW h.2 (fun h45 h=>⟨h.1,h.2.1,mN h.2.2 (fun b46 o47 h=>⟨h.1,mW h.2 fun h48 h=>?_⟩)⟩)⟩)⟩))⟩))⟩
       refine Ar F167_r8 ?_ (r1 13 Rn) (z1 Sn) Sn
       refine AWP.ret ?_
       exact h
end
section
variable {e E:Env} {x0a:OA} {x0n x0c:Nat} {x1 x2 x3:Int} {x4:Value} {x10 x11:Int} {hp:HP} {K:Env→PV→HP→Prop}
abbrev R182 (p n:Nat):=RW Tryd.prog 82 [] (opsAt Tryd.f182 (pth p)) (List.range n)
theorem F182_r0:R182 33 4 (upd e 10 (sI x10)) V0 hp K=
 K (w5 e 10 (sI x10) 13 (sI x10) 14 (sI ((wr (2*x10)))) 15 (sI ((wr ((wr (2*x10))+1)))) 11 (sI ((wr ((wr (2*x10))+1))))) V0 hp:= by kernel_rfl
theorem F182_r1:R182 145 3 (w2 e 11 (sI x11) 2 (sI x2)) V0 hp K=
 K (w5 e 11 (sI x11) 2 (sI x2) 16 (sI x11) 17 (sI x2) 18 (sB (decide (x11≥x2)))) V0 hp:= by kernel_rfl
theorem F182_r2 (h:E=upd (w4 e 11 (sI x11) 10 (sI x10) 4 (sV x4) 3 (sI x3)) 0 (sS x0a x0n x0c)):R182 625 16 E V0 hp K=
    ((0≤((wr (x3+x10)):Int))∧(((wr (x3+x10)):Int)<x0n)∧(ptrN x0a fun b1 o2=>ldL (HP.cellN hp b1 (o2+Int.toNat (wr (x3+x10))*9) 9) fun l3=>(0≤((wr (x3+x11)):Int))∧(((wr (x3+x11)):Int)<x0n)∧(ptrN x0a fun b4 o5=>ldL (HP.cellN hp b4 (o5+Int.toNat (wr (x3+x11))*9) 9) fun l6=>fnV x4 fun f7 ga8 gb9=>CF Tryd.prog f7 (ga8++[(Value.agg ⟨l3⟩),(.agg ⟨l6⟩)]++gb9) hp fun u10 h11=>intV u10 .i64 fun i12=>K (w8 (w8 E 43 (sV x4) 44 (sS x0a x0n x0c) 45 (sI x3) 46 (sI x10) 47 (sI ((wr (x3+x10)))) 48 (sV (ptr b1 (o2+Int.toNat (wr (x3+x10))*9))) 49 (sA l3) 50 (sS x0a x0n x0c)) 51 (sI x3) 52 (sI x11) 53 (sI ((wr (x3+x11)))) 54 (sV (ptr b4 (o5+Int.toNat (wr (x3+x11))*9))) 55 (sA l6) 56 (sI i12) 57 (sB (decide (i12<0))) 58 (sB ((!(decide (i12<0)))))) V0 h11))):=by subst h; kernel_rfl
theorem F182_r3 (h:E=upd (w3 e 11 (sI x11) 10 (sI x10) 3 (sI x3)) 0 (sS x0a x0n x0c)):R182 753 24 E V0 hp K=
    ((0≤((wr (x3+x11)):Int))∧(((wr (x3+x11)):Int)<x0n)∧(ptrN x0a fun b1 o2=>ldL (HP.cellN hp b1 (o2+Int.toNat (wr (x3+x11))*9) 9) fun l3=>(0≤((wr (x3+x10)):Int))∧(((wr (x3+x10)):Int)<x0n)∧(ptrN x0a fun b4 o5=>ldL (HP.cellN hp b4 (o5+Int.toNat (wr (x3+x10))*9) 9) fun l6=>(0≤((wr (x3+x10)):Int))∧(((wr (x3+x10)):Int)<x0n)∧(ptrN x0a fun b7 o8=>(List.length l3=9)∧(HP.stN hp b7 (o8+Int.toNat (wr (x3+x10))*9) l3 fun h9=>(0≤((wr (x3+x11)):Int))∧(((wr (x3+x11)):Int)<x0n)∧(ptrN x0a fun b10 o11=>(List.length l6=9)∧(HP.stN h9 b10 (o11+Int.toNat (wr (x3+x11))*9) l6 fun h12=>K (w6 (w8 (w8 E 59 (sS x0a x0n x0c) 60 (sI x3) 61 (sI x10) 62 (sI ((wr (x3+x10)))) 63 (sS x0a x0n x0c) 64 (sI x3) 65 (sI x11) 66 (sI ((wr (x3+x11))))) 67 (sS x0a x0n x0c) 68 (sI x3) 69 (sI x11) 70 (sI ((wr (x3+x11)))) 71 (sV (ptr b1 (o2+Int.toNat (wr (x3+x11))*9))) 72 (sA l3) 73 (sS x0a x0n x0c) 74 (sI x3)) 75 (sI x10) 76 (sI ((wr (x3+x10)))) 77 (sV (ptr b4 (o5+Int.toNat (wr (x3+x10))*9))) 78 (sA l6) 79 (sV (ptr b7 (o8+Int.toNat (wr (x3+x10))*9))) 80 (sV (ptr b10 (o11+Int.toNat (wr (x3+x11))*9)))) V0 h12))))))):=by subst h; kernel_rfl
theorem F182_r4:R182 1009 2 (upd e 11 (sI x11)) V0 hp K=
 K (w3 e 11 (sI x11) 81 (sI x11) 10 (sI x11)) V0 hp:= by kernel_rfl
def F182_j3 (x0a:OA) (x0n x0c:Nat) (x2 x3:Int) (x4:Value) (x10 x11:Int) (hp:HP) (I2:(Int)→HP→Prop) (K:Kh):Prop:=
  ((0≤((IntKind.wrap .i64 (x3+x10)):Int))∧(((IntKind.wrap .i64 (x3+x10)):Int)<x0n)∧(ptrN x0a fun b1 o2=>ldL (HP.cellN hp b1 (o2+Int.toNat (IntKind.wrap .i64 (x3+x10))*9) 9) fun l3=>(0≤((IntKind.wrap .i64 (x3+x11)):Int))∧(((IntKind.wrap .i64 (x3+x11)):Int)<x0n)∧(ptrN x0a fun b4 o5=>ldL (HP.cellN hp b4 (o5+Int.toNat (IntKind.wrap .i64 (x3+x11))*9) 9) fun l6=>fnV x4 fun f7 ga_8 gb_9=>CF Tryd.prog f7 (ga_8++[(Value.agg ⟨l3⟩),(.agg ⟨l6⟩)]++gb_9) hp fun u10 h11=>intV u10 .i64 fun i12=>ite2 (!(decide (i12<0))) (K (.tuple ⟨[]⟩) h11) ((0≤((IntKind.wrap .i64 (x3+x11)):Int))∧(((IntKind.wrap .i64 (x3+x11)):Int)<x0n)∧(ptrN x0a fun b13 o14=>ldL (HP.cellN h11 b13 (o14+Int.toNat (IntKind.wrap .i64 (x3+x11))*9) 9) fun l15=>(0≤((IntKind.wrap .i64 (x3+x10)):Int))∧(((IntKind.wrap .i64 (x3+x10)):Int)<x0n)∧(ptrN x0a fun b16 o17=>ldL (HP.cellN h11 b16 (o17+Int.toNat (IntKind.wrap .i64 (x3+x10))*9) 9) fun l18=>(0≤((IntKind.wrap .i64 (x3+x10)):Int))∧(((IntKind.wrap .i64 (x3+x10)):Int)<x0n)∧(ptrN x0a fun b19 o20=>(List.length l15=9)∧(HP.stN h11 b19 (o20+Int.toNat (IntKind.wrap .i64 (x3+x10))*9) l15 fun h21=>(0≤((IntKind.wrap .i64 (x3+x11)):Int))∧(((IntKind.wrap .i64 (x3+x11)):Int)<x0n)∧(ptrN x0a fun b22 o23=>(List.length l18=9)∧(HP.stN h21 b22 (o23+Int.toNat (IntKind.wrap .i64 (x3+x11))*9) l18 fun h24=>I2 x11 h24))))))))))
theorem F182_r5:R182 689 3 (upd e 11 (sI x11)) V0 hp K=
 K (w4 e 11 (sI x11) 41 (sI x11) 42 (sI ((wr (x11+1)))) 11 (sI ((wr (x11+1))))) V0 hp:= by kernel_rfl
def F182_j4 (x0a:OA) (x0n x0c:Nat) (x2 x3:Int) (x4:Value) (x10 x11:Int) (x40:Bool) (hp:HP) (I2:(Int)→HP→Prop) (K:Kh):Prop:=
  (ite2 x40 (F182_j3 x0a x0n x0c x2 x3 x4 x10 (IntKind.wrap .i64 (x11+1)) hp I2 K) (F182_j3 x0a x0n x0c x2 x3 x4 x10 x11 hp I2 K))
theorem F182_r6 (h:E=upd (w4 e 11 (sI x11) 4 (sV x4) 3 (sI x3) 2 (sI x2)) 0 (sS x0a x0n x0c)):R182 305 22 E V0 hp K=
    (ite2 (decide (((wr (x11+1)):Int)<x2)) ((0≤((wr (x3+x11)):Int))∧(((wr (x3+x11)):Int)<x0n)∧(ptrN x0a fun b1 o2=>ldL (HP.cellN hp b1 (o2+Int.toNat (wr (x3+x11))*9) 9) fun l3=>(0≤((wr ((wr (x3+x11))+1)):Int))∧(((wr ((wr (x3+x11))+1)):Int)<x0n)∧(ptrN x0a fun b4 o5=>ldL (HP.cellN hp b4 (o5+Int.toNat (wr ((wr (x3+x11))+1))*9) 9) fun l6=>fnV x4 fun f7 ga8 gb9=>CF Tryd.prog f7 (ga8++[(Value.agg ⟨l3⟩),(.agg ⟨l6⟩)]++gb9) hp fun u10 h11=>intV u10 .i64 fun i12=>K (w6 (w8 (w8 E 19 (sI x11) 20 (sI ((wr (x11+1)))) 21 (sI x2) 22 (sB ((decide (((wr (x11+1)):Int)<x2)))) 23 (sB true) 24 (sV x4) 25 (sS x0a x0n x0c) 26 (sI x3)) 27 (sI x11) 28 (sI ((wr (x3+x11)))) 29 (sV (ptr b1 (o2+Int.toNat (wr (x3+x11))*9))) 30 (sA l3) 31 (sS x0a x0n x0c) 32 (sI x3) 33 (sI x11) 34 (sI ((wr (x3+x11))))) 35 (sI ((wr ((wr (x3+x11))+1)))) 36 (sV (ptr b4 (o5+Int.toNat (wr ((wr (x3+x11))+1))*9))) 37 (sA l6) 38 (sI i12) 39 (sB (decide (i12<0))) 40 (sB (decide (i12<0)))) V0 h11))) (K (w6 (w8 (w8 E 19 (sI x11) 20 (sI ((wr (x11+1)))) 21 (sI x2) 22 (sB ((decide (((wr (x11+1)):Int)<x2)))) 23 (sB false) 24 sU 25 sU 26 sU) 27 sU 28 sU 29 sU 30 sU 31 sU 32 sU 33 sU 34 sU) 35 sU 36 sU 37 sU 38 sU 39 sU 40 (sB false)) V0 hp)):=by subst h; kernel_rfl
def F182_l2 (x0a:OA) (x0n x0c:Nat) (x2 x3:Int) (x4:Value) (K:Kh) (I2:(Int)→HP→Prop) (x10:Int) (hp:HP):Prop:=
  (ite2 (decide (((IntKind.wrap .i64 ((IntKind.wrap .i64 (2*x10))+1)):Int)≥x2)) (K (.tuple ⟨[]⟩) hp) (ite2 (decide (((IntKind.wrap .i64 ((IntKind.wrap .i64 ((IntKind.wrap .i64 (2*x10))+1))+1)):Int)<x2)) ((0≤((IntKind.wrap .i64 (x3+(IntKind.wrap .i64 ((IntKind.wrap .i64 (2*x10))+1)))):Int))∧(((IntKind.wrap .i64 (x3+(IntKind.wrap .i64 ((IntKind.wrap .i64 (2*x10))+1)))):Int)<x0n)∧(ptrN x0a fun b25 o26=>ldL (HP.cellN hp b25 (o26+Int.toNat (IntKind.wrap .i64 (x3+(IntKind.wrap .i64 ((IntKind.wrap .i64 (2*x10))+1))))*9) 9) fun l27=>(0≤((IntKind.wrap .i64 ((IntKind.wrap .i64 (x3+(IntKind.wrap .i64 ((IntKind.wrap .i64 (2*x10))+1))))+1)):Int))∧(((IntKind.wrap .i64 ((IntKind.wrap .i64 (x3+(IntKind.wrap .i64 ((IntKind.wrap .i64 (2*x10))+1))))+1)):Int)<x0n)∧(ptrN x0a fun b28 o29=>ldL (HP.cellN hp b28 (o29+Int.toNat (IntKind.wrap .i64 ((IntKind.wrap .i64 (x3+(IntKind.wrap .i64 ((IntKind.wrap .i64 (2*x10))+1))))+1))*9) 9) fun l30=>fnV x4 fun f31 ga_32 gb_33=>CF Tryd.prog f31 (ga_32++[(Value.agg ⟨l27⟩),(.agg ⟨l30⟩)]++gb_33) hp fun u34 h35=>intV u34 .i64 fun i36=>F182_j4 x0a x0n x0c x2 x3 x4 x10 (IntKind.wrap .i64 ((IntKind.wrap .i64 (2*x10))+1)) (decide (i36<0)) h35 I2 K))) (F182_j4 x0a x0n x0c x2 x3 x4 x10 (IntKind.wrap .i64 ((IntKind.wrap .i64 (2*x10))+1)) false hp I2 K)))
def F182_j1 (x0a:OA) (x0n x0c:Nat) (x2 x3:Int) (x4:Value) (x10:Int) (hp:HP) (K:Kh):Prop:=
  (LoopP (σ:=Int) (fun I s hp=>F182_l2 x0a x0n x0c x2 x3 x4  K I s hp) x10 hp)
theorem F182_r7:R182 2 2 (upd e 1 (sI x1)) V0 hp K=
 K (w3 e 1 (sI x1) 12 (sI x1) 10 (sI x1)) V0 hp:= by kernel_rfl
def F182 (x0a:OA) (x0n x0c:Nat) (x1 x2 x3:Int) (x4:Value) (hp:HP) (K:Kh):Prop:=
  (F182_j1 x0a x0n x0c x2 x3 x4 x1 hp  K)
noncomputable abbrev o182 (k n:Nat):Code:=.region k (opsAt Tryd.f182 (pth n)) false
noncomputable def F182_code:Code:=(.seq (o182 0 2) (.block 0 (.loop (.block 1 (.seq (o182 1 33) (.seq (.seq (o182 2 145) (.cond (.tmp 18) (.exit 0) .skip)) (.seq (.seq (.region 3 (opsAt Tryd.f182 (pth 305)) true) (.cond (.tmp 40) (o182 4 689) .skip)) (.seq (.seq (.region 5 (opsAt Tryd.f182 (pth 625)) true) (.cond (.tmp 58) .ret .skip)) (.seq (.region 6 (opsAt Tryd.f182 (pth 753)) true) (o182 7 1009))))))))))
theorem F182_body:Tryd.f182.body=some F182_code:=by kernel_rfl
theorem F182_ok (x0a:OA) (x0n x0c:Nat) (x1 x2 x3:Int) (x4:Value) (hp:HP) (K:Kh) (h:F182 x0a x0n x0c x1 x2 x3 x4 hp K):CF Tryd.prog 182 [(.slice x0a x0n x0c),(.int .i64 x1),(.int .i64 x2),(.int .i64 x3),x4] hp K:=by
 refine .inl ⟨by kernel_rfl,AC.intro (N:=82) Tryd.func182 F182_body rfl (Nat.le_of_ble_eq_true rfl) ?_⟩
 unfold F182 at h
 refine As (fun env pv hp=>∃ x0a x0n x0c x2 x3 x4 x10,Sub (w5 E0 10 (sI x10) 4 (sV x4) 3 (sI x3) 2 (sI x2) 0 (sS x0a x0n x0c)) env∧Sub V0 pv∧F182_j1 x0a x0n x0c x2 x3 x4 x10 hp  K) ?_ ?_
 ·refine Ag F182_r7 ?_ (r5 1 0 2 3 4 Rn) (z5 Sn) Sn
  exact ⟨_,_,_,_,_,_,_,(z5 Sn),Sn,h⟩
 ·rintro env pv hp ⟨x0a,x0n,x0c,x2,x3,x4,x10,he,hv,h⟩
  refine Ae ?_ (r5 0 2 3 4 10 Rn) he hv
  unfold F182_j1 at h
  refine AWP.block (AWP.loop (σ:=Int) _ (fun s=>w5 E0 10 (sI s) 4 (sV x4) 3 (sI x3) 2 (sI x2) 0 (sS x0a x0n x0c)) (fun s=>V0) x10 h (fun s=>r5 0 2 3 4 10 Rn) (z5 Sn) Sn ?_)
  intro I2 x10 hp h
  replace h:F182_l2 x0a x0n x0c x2 x3 x4  K I2 x10 hp:=h
  unfold F182_l2 at h
  refine AWP.block (Ar F182_r0 ?_ (r5 10 0 2 3 4 Rn) (z5 Sn) Sn)
  refine Aq (Ar F182_r1 ?_ (r6 2 11 0 3 4 10 Rn) (z6 Sn) Sn)
  refine Ac h rfl (fun h=>?_) (fun h=>?_)
  ·refine AWP.exit ?_
   exact h
  ·refine AWP.skip (As (fun env pv hp=>∃ x10 x11,Sub (w6 E0 11 (sI x11) 10 (sI x10) 4 (sV x4) 3 (sI x3) 2 (sI x2) 0 (sS x0a x0n x0c)) env∧Sub V0 pv∧F182_j3 x0a x0n x0c x2 x3 x4 x10 x11 hp I2 K) ?_ ?_)
   ·refine As (fun env pv hp=>∃ x10 x11 x40,Sub (w7 E0 40 (sB x40) 11 (sI x11) 10 (sI x10) 4 (sV x4) 3 (sI x3) 2 (sI x2) 0 (sS x0a x0n x0c)) env∧Sub V0 pv∧F182_j4 x0a x0n x0c x2 x3 x4 x10 x11 x40 hp I2 K) ?_ ?_
    ·refine AWP.rgnD (by kernel_rfl) (by kernel_rfl) (F182_r6 rfl) ?_ (r6 0 2 3 4 11 10 Rn) (z6 Sn) Sn
     refine mt h (fun h=>?_) (fun h=>?_)
     ·refine ⟨h.1,h.2.1,mN h.2.2 (fun b25 o26 h=>mL h (fun l27 h=>⟨h.1,h.2.1,mN h.2.2 fun b28 o29 h=>mL h fun l30 h=>mF h fun f31 ga_32 gb_33 h=>mC h fun u34 h35 h=>mI h fun i36 h=>?_⟩))⟩
      exact ⟨_,_,_,(z7 Sn),Sn,h⟩
     ·exact ⟨_,_,_,(z7 Sn),Sn,h⟩
    ·rintro env pv hp ⟨x10,x11,x40,he,hv,h⟩
     refine Ae ?_ (r7 0 2 3 4 10 11 40 Rn) he hv
     unfold F182_j4 at h
     refine Ac h rfl (fun h=>?_) (fun h=>?_)
     ·refine Ag F182_r5 ?_ (r6 11 0 2 3 4 10 Rn) (z6 Sn) Sn
      exact ⟨_,_,(z6 Sn),Sn,h⟩
     ·refine AWP.skip ?_
      exact ⟨_,_,(z6 Sn),Sn,h⟩
   ·rintro env pv hp ⟨x10,x11,he,hv,h⟩
    refine Ae ?_ (r6 0 2 3 4 10 11 Rn) he hv
    unfold F182_j3 at h
    refine Aq (Aq (AWP.rgnD (by kernel_rfl) (by kernel_rfl) (F182_r2 rfl) ?_ (r6 0 3 4 10 11 2 Rn) (z6 Sn) Sn))
    refine ⟨h.1,h.2.1,mN h.2.2 (fun b1 o2 h=>mL h (fun l3 h=>⟨h.1,h.2.1,mN h.2.2 fun b4 o5 h=>mL h fun l6 h=>mF h fun f7 ga_8 gb_9 h=>mC h fun u10 h11 h=>mI h fun i12 h=>?_⟩))⟩
    refine Ac h rfl (fun h=>?_) (fun h=>?_)
    ·refine AWP.ret ?_
     exact h
    ·refine AWP.skip (Aq (AWP.rgnD (by kernel_rfl) (by kernel_rfl) (F182_r3 rfl) ?_ (r6 0 3 10 11 2 4 Rn) (z6 Sn) Sn))
     refine ⟨h.1,h.2.1,mN h.2.2 (fun b13 o14 h=>mL h (fun l15 h=>⟨h.1,h.2.1,mN h.2.2 (fun b16 o17 h=>mL h (fun l18 h=>⟨h.1,h.2.1,mN h.2.2 (fun b19 o20 h=>⟨h.1,mW h.2 (fun h21 h=>⟨h.1,h.2.1,mN h.2.2 (fun b22 o23 h=>⟨h.1,mW h.2 fun h24 h=>?_⟩)⟩)⟩)⟩))⟩))⟩
     refine Ag F182_r4 ?_ (r5 11 0 2 3 4 Rn) (z5 Sn) Sn
     exact ⟨_,(z5 Sn),Sn,h⟩
end
end Go.Proofs
set_option linter.unusedVariables false
set_option maxRecDepth 20000
namespace Go.Proofs
open Go Go.HL
section
variable {f:FuncId} {ga gb:List Value} {hp0:HP} {b sp n c:Nat} {cf:Ss→Ss→Int}
theorem S182 (hc:CmpOk Tryd.prog f ga gb hp0 b 79 sp ssc n cf) {d:Array Ss} {lo hi fst:Nat} {K:Value→HP→Prop} (hs:d.size=n) (hlo:lo≤hi) (hf:fst+hi≤n) (hn:n≤1000000000)
    (h:K (.tuple ⟨[]⟩) (HA hp0 b 79 sp ssc (Sort.siftDown (ltC cf) hi fst lo d))) :
    CF Tryd.prog 182 [.slice (some ⟨b,0,none⟩) n c,.int .i64 lo,.int .i64 hi,.int .i64 fst,.func (.func f) ⟨ga⟩ ⟨gb⟩] (HA hp0 b 79 sp ssc d) K:=by
  refine F182_ok _ n c lo hi fst _ _ K ?_
  unfold F182 F182_j1
  refine LoopP.by (J:=fun k (x:Int) hp=>∃ (r:Nat) (d':Array Ss),x=r∧hp=HA hp0 b 79 sp ssc d'∧d'.size=n∧r≤hi∧k=hi-r∧Sort.siftDown (ltC cf) hi fst r d'=Sort.siftDown (ltC cf) hi fst lo d) ?_
    (n:=hi-lo) ⟨lo,d,rfl,rfl,hs,hlo,rfl,rfl⟩
  rintro I k x hp ⟨r,d',rfl,rfl,hs',hr,rfl,he⟩ hI
  unfold F182_l2
  have w1:IntKind.wrap .i64 (2*(r:Int))=((2*r:Nat):Int):=wi (by omega) (by omega)
  have w2:IntKind.wrap .i64 (((2*r:Nat):Int)+1)=((2*r+1:Nat):Int):=wi (by omega) (by omega)
  have w3:IntKind.wrap .i64 (((2*r+1:Nat):Int)+1)=((2*r+2:Nat):Int):=wi (by omega) (by omega)
  have w4:IntKind.wrap .i64 ((fst:Int)+((2*r+1:Nat):Int))=((fst+(2*r+1):Nat):Int):=wi (by omega) (by omega)
  have w5:IntKind.wrap .i64 (((fst+(2*r+1):Nat):Int)+1)=((fst+(2*r+1)+1:Nat):Int):=wi (by omega) (by omega)
  simp only [w1,w2,w3,w4,w5]
  rw [Sort.siftDown] at he
  by_cases h1:2*r+1≥hi
  · rw [dif_pos h1] at he
    rw [decide_eq_true (by omega:((2*r+1:Nat):Int)≥(hi:Int)),ite2_true,he]
    exact h
  rw [dif_neg h1] at he
  rw [decide_eq_false (by omega:¬ ((2*r+1:Nat):Int)≥(hi:Int)),ite2_false]
  have tail:∀ ch:Nat,ch<hi→r<ch→(if !ltC cf d'[fst+r]! d'[fst+ch]! then d' else Sort.siftDown (ltC cf) hi fst ch (Sort.swp d' (fst+r) (fst+ch)))=Sort.siftDown (ltC cf) hi fst lo d →
      F182_j3 (some ⟨b,0,none⟩) n c hi fst (.func (.func f) ⟨ga⟩ ⟨gb⟩) r ch (HA hp0 b 79 sp ssc d') I K:=by
    intro ch hch hrc ht
    unfold F182_j3
    have v1:IntKind.wrap .i64 ((fst:Int)+(r:Int))=((fst+r:Nat):Int):=wi (by omega) (by omega)
    have v2:IntKind.wrap .i64 ((fst:Int)+(ch:Int))=((fst+ch:Nat):Int):=wi (by omega) (by omega)
    simp only [v1,v2]
    refine cmpP hc ssc_len hs' (i:=fst+r) (j:=fst+ch) rfl rfl (by omega) (by omega) ?_
    have hl:decide (cf d'[fst+r]! d'[fst+ch]!<0)=ltC cf d'[fst+r]! d'[fst+ch]! := rfl
    rw [hl]
    cases hlt:ltC cf d'[fst+r]! d'[fst+ch]!
    · rw [hlt] at ht
      simp only [Bool.not_false,if_true] at ht
      simp only [Bool.not_false,ite2_true]
      rw [ht]; exact h
    · rw [hlt] at ht
      simp only [Bool.not_true,Bool.false_eq_true,if_false] at ht
      simp only [Bool.not_true,ite2_false]
      refine swapP ssc_len ssc_one hs' (i:=fst+r) (j:=fst+ch) rfl rfl (by omega) (by omega) ?_
      exact hI (hi-ch) _ _ (by omega) ⟨ch,_,rfl,rfl,by rw [swp_size]; exact hs',by omega,rfl,ht⟩
  by_cases h2:2*r+1+1<hi
  · rw [decide_eq_true (by omega:((2*r+2:Nat):Int)<(hi:Int)),ite2_true]
    refine cmpP hc ssc_len hs' (i:=fst+(2*r+1)) (j:=fst+(2*r+1)+1) rfl rfl (by omega) (by omega) ?_
    have hl:decide (cf d'[fst+(2*r+1)]! d'[fst+(2*r+1)+1]!<0)=ltC cf d'[fst+(2*r+1)]! d'[fst+(2*r+1)+1]! := rfl
    rw [hl]
    unfold F182_j4
    rw [decide_eq_true h2,Bool.true_and] at he
    cases hlt:ltC cf d'[fst+(2*r+1)]! d'[fst+(2*r+1)+1]!
    · rw [hlt] at he
      simp only [Bool.false_eq_true,if_false] at he
      rw [ite2_false]
      exact tail (2*r+1) (by omega) (by omega) he
    · rw [hlt] at he
      simp only [if_true] at he
      rw [ite2_true,w3]
      refine tail (2*r+2) (by omega) (by omega) ?_
      rw [dif_pos (by omega:2*r+2<hi)] at he
      exact he
  · rw [decide_eq_false (by omega:¬ ((2*r+2:Nat):Int)<(hi:Int)),ite2_false]
    rw [decide_eq_false h2,Bool.false_and] at he
    simp only [Bool.false_eq_true,if_false] at he
    unfold F182_j4
    rw [ite2_false]
    exact tail (2*r+1) (by omega) (by omega) he
theorem sift_size_ssc {α:Type} [Inhabited α] (lt:α→α→Bool) (hi fst:Nat):∀ (m r:Nat) (d:Array α),hi-r≤m→(Sort.siftDown lt hi fst r d).size=d.size:=by
  intro m
  induction m with
  | zero=>
    intro r d hm
    rw [Sort.siftDown,dif_pos (by omega)]
  | succ m ih=>
    intro r d hm
    rw [Sort.siftDown]
    repeat' split
    all_goals first
      | rfl
      | (rw [ih _ _ (by omega),swp_size])
theorem S161 (hc:CmpOk Tryd.prog f ga gb hp0 b 79 sp ssc n cf) {d:Array Ss} {lo hi:Nat} {K:Value→HP→Prop} (hs:d.size=n) (hlo:lo≤hi) (hf:hi≤n) (hn:n≤1000000000)
    (h:K (.tuple ⟨[]⟩) (HA hp0 b 79 sp ssc (Sort.heapSort (ltC cf) d lo hi))) :
    CF Tryd.prog 161 [.slice (some ⟨b,0,none⟩) n c,.int .i64 lo,.int .i64 hi,.func (.func f) ⟨ga⟩ ⟨gb⟩] (HA hp0 b 79 sp ssc d) K:=by
  refine F161_ok _ n c lo hi _ _ K ?_
  unfold F161 F161_j4
  have w1:IntKind.wrap .i64 ((hi:Int)-(lo:Int))=((hi-lo:Nat):Int):=wi (by omega) (by omega)
  refine ⟨by omega,?_⟩
  rw [w1]
  generalize hm:hi-lo=m at *
  have w2:IntKind.wrap .i64 ((m:Int)-1)=(m:Int)-1:=w64 (by omega) (by omega)
  have w3:Int.tdiv ((m:Int)-1) 2=(((m-1) / 2:Nat):Int):=by
    cases m with
    | zero=>rfl
    | succ m=>
      have:((m+1:Nat):Int)-1=(m:Int):=by omega
      rw [this]; simp only [Nat.add_sub_cancel]
      rfl
  have w4:IntKind.wrap .i64 ((((m-1) / 2:Nat):Int))=(((m-1) / 2:Nat):Int):=wi rfl (by omega)
  rw [w2,w3,w4]
  unfold Sort.heapSort at h
  rw [hm] at h
  refine LoopP.by (J:=fun k (x:Int) hp=>∃ (d':Array Ss),x=(k:Int)-1∧hp=HA hp0 b 79 sp ssc d'∧d'.size=n∧k≤(m-1) / 2+1∧Sort.heapBuild (ltC cf) m lo k d'=Sort.heapBuild (ltC cf) m lo ((m-1) / 2+1) d) ?_
    (n:=(m-1) / 2+1) ⟨d,by omega,rfl,hs,Nat.le_refl _,rfl⟩
  rintro I k x hp ⟨d',rfl,rfl,hs',hk,he⟩ hI
  unfold F161_l5
  cases k with
  | succ k=>
    have e1:((k+1:Nat):Int)-1=(k:Int):=by omega
    rw [e1,decide_eq_true (by omega:(k:Int)≥0),ite2_true]
    refine S182 hc hs' (by omega) (by omega) hn ?_
    rw [w64 (by omega) (by omega)]
    rw [Sort.heapBuild] at he
    exact hI k _ _ (by omega) ⟨_,rfl,rfl,by rw [sift_size_ssc _ _ _ _ _ _ (Nat.le_refl _)]; exact hs',by omega,he⟩
  | zero=>
    rw [decide_eq_false (by omega:¬ (((0:Nat):Int)-1)≥0),ite2_false]
    rw [Sort.heapBuild] at he
    rw [← he] at h
    unfold F161_j1 F161_j2
    rw [w2]
    refine LoopP.by (J:=fun k (x:Int) hp=>∃ (d2:Array Ss),x=(k:Int)-1∧hp=HA hp0 b 79 sp ssc d2∧d2.size=n∧k≤m∧Sort.heapPop (ltC cf) lo k d2=Sort.heapPop (ltC cf) lo m d') ?_
      (n:=m) ⟨d',rfl,rfl,hs',Nat.le_refl _,rfl⟩
    rintro I2 k2 x2 hp2 ⟨d2,rfl,rfl,hs2,hk2,he2⟩ hI2
    unfold F161_l3
    cases k2 with
    | succ k=>
      have e1:((k+1:Nat):Int)-1=(k:Int):=by omega
      have v1:IntKind.wrap .i64 ((lo:Int)+(k:Int))=((lo+k:Nat):Int):=wi (by omega) (by omega)
      rw [e1,decide_eq_true (by omega:(k:Int)≥0),ite2_true,v1]
      refine swapP ssc_len ssc_one hs2 (i:=lo) (j:=lo+k) rfl rfl (by omega) (by omega) ?_
      have hz:(Value.int .i64 0)=Value.int .i64 ((0:Nat):Int):=rfl
      rw [hz]
      refine S182 hc (by rw [swp_size]; exact hs2) (by omega) (by omega) hn ?_
      rw [w64 (by omega) (by omega)]
      rw [Sort.heapPop] at he2
      exact hI2 k _ _ (by omega) ⟨_,rfl,rfl,by rw [sift_size_ssc _ _ _ _ _ _ (Nat.le_refl _),swp_size]; exact hs2,by omega,he2⟩
    | zero=>
      rw [decide_eq_false (by omega:¬ (((0:Nat):Int)-1)≥0),ite2_false]
      rw [Sort.heapPop] at he2
      rw [he2]; exact h
theorem S164 {v:Value} {d:Array Ss} {lo hi:Nat} {K:Value→HP→Prop} (hs:d.size=n) (hlo:lo<hi) (hf:hi≤n) (hn:n≤1000000000)
    (h:K (.tuple ⟨[]⟩) (HA hp0 b 79 sp ssc (Sort.reverseRange d lo hi))) :
    CF Tryd.prog 164 [.slice (some ⟨b,0,none⟩) n c,.int .i64 lo,.int .i64 hi,v] (HA hp0 b 79 sp ssc d) K:=by
  refine F164_ok _ n c lo hi _ _ K ?_
  unfold F164 F164_j1
  have w1:IntKind.wrap .i64 ((hi:Int)-1)=((hi-1:Nat):Int):=wi (by omega) (by omega)
  rw [w1]
  unfold Sort.reverseRange at h
  refine LoopP.by (J:=fun k (s:Int × Int) hp=>∃ (i j:Nat) (d':Array Ss),s=((i:Int),(j:Int))∧hp=HA hp0 b 79 sp ssc d'∧d'.size=n∧j<n∧k=j-i∧Sort.reverseLoop i j d'=Sort.reverseLoop lo (hi-1) d) ?_
    (n:=hi-1-lo) ⟨lo,hi-1,d,rfl,rfl,hs,by omega,rfl,rfl⟩
  rintro I k x hp ⟨i,j,d',rfl,rfl,hs',hj,rfl,he⟩ hI
  unfold F164_l2
  rw [Sort.reverseLoop] at he
  by_cases hij:i<j
  · rw [if_pos hij] at he
    simp only []
    rw [decide_eq_true (by omega:(i:Int)<(j:Int)),ite2_true]
    refine swapP ssc_len ssc_one hs' (i:=i) (j:=j) rfl rfl (by omega) (by omega) ?_
    have v1:IntKind.wrap .i64 ((i:Int)+1)=((i+1:Nat):Int):=wi (by omega) (by omega)
    have v2:IntKind.wrap .i64 ((j:Int)-1)=((j-1:Nat):Int):=wi (by omega) (by omega)
    rw [v1,v2]
    exact hI (j-1-(i+1)) _ _ (by omega) ⟨i+1,j-1,_,rfl,rfl,by rw [swp_size]; exact hs',by omega,rfl,he⟩
  · rw [if_neg hij] at he
    simp only []
    rw [decide_eq_false (by omega:¬ (i:Int)<(j:Int)),ite2_false,he]
    exact h
end
end Go.Proofs
set_option linter.unusedVariables false
set_option maxRecDepth 20000
namespace Go.Proofs
open Go Go.HL
section
variable {f:FuncId} {ga gb:List Value} {hp0:HP} {b sp n c:Nat} {cf:Ss→Ss→Int}
theorem S165 (hc:CmpOk Tryd.prog f ga gb hp0 b 79 sp ssc n cf) {d:Array Ss} {lo hi:Nat} {K:Value→HP→Prop} (hs:d.size=n) (hlo:lo<hi) (hf:hi≤n) (hn:n≤1000000000)
    (h:K (.bool (Sort.partialInsertionSort (ltC cf) d lo hi).2) (HA hp0 b 79 sp ssc (Sort.partialInsertionSort (ltC cf) d lo hi).1)) :
    CF Tryd.prog 165 [.slice (some ⟨b,0,none⟩) n c,.int .i64 lo,.int .i64 hi,.func (.func f) ⟨ga⟩ ⟨gb⟩] (HA hp0 b 79 sp ssc d) K:=by
  refine F165_ok _ n c lo hi _ _ K ?_
  unfold F165 F165_j1
  have w1:IntKind.wrap .i64 ((lo:Int)+1)=((lo+1:Nat):Int):=wi (by omega) (by omega)
  rw [w1]
  generalize hR:Sort.partialInsertionSort (ltC cf) d lo hi=R at h
  unfold Sort.partialInsertionSort at hR
  refine LoopP.by (J:=fun k (s:Int × Int) hp=>∃ (i:Nat) (d':Array Ss),s=((i:Int),5-(k:Int))∧k≤5∧hp=HA hp0 b 79 sp ssc d'∧d'.size=n∧lo<i∧i≤hi∧Sort.partialIns (ltC cf) lo hi k i d'=R) ?_
    (n:=5) ⟨lo+1,d,rfl,Nat.le_refl _,rfl,hs,by omega,by omega,hR⟩
  rintro I k x hp ⟨i,d',rfl,hk5,rfl,hs',hli,hih,he⟩ hI
  unfold F165_l2
  simp only []
  cases k with
  | zero=>
    rw [decide_eq_false (by omega:¬ (5-((0:Nat):Int))<5),ite2_false]
    rw [Sort.partialIns] at he
    rw [← he] at h
    exact h
  | succ k=>
    rw [decide_eq_true (by omega:(5-((k+1:Nat):Int))<5),ite2_true]
    rw [Sort.partialIns_succ] at he
    unfold F165_j3
    have fin4:∀ (i:Nat) (d3:Array Ss),lo<i→i≤hi→d3.size=n→Sort.partialIns (ltC cf) lo hi k i d3=R →
        F165_j4 (some ⟨b,0,none⟩) n c lo hi (.func (.func f) ⟨ga⟩ ⟨gb⟩) i (5-((k+1:Nat):Int)) (HA hp0 b 79 sp ssc d3) I K:=by
      intro i d3 h1 h2 h3 h4
      unfold F165_j4
      have:IntKind.wrap .i64 (5-((k+1:Nat):Int)+1)=5-(k:Int):=by rw [w64 (by omega) (by omega)]; omega
      rw [this]
      exact hI k _ _ (by omega) ⟨i,d3,rfl,by omega,rfl,h3,h1,h2,h4⟩
    have fin6:∀ (i:Nat) (d2:Array Ss),lo<i→i<hi→d2.size=n→Sort.partialIns (ltC cf) lo hi k i (Sort.fixUp (ltC cf) hi i d2)=R →
        F165_j6 (some ⟨b,0,none⟩) n c lo hi (.func (.func f) ⟨ga⟩ ⟨gb⟩) i (5-((k+1:Nat):Int)) (HA hp0 b 79 sp ssc d2) I K:=by
      intro i d2 h1 h2 h3 h4
      unfold F165_j6
      have v:IntKind.wrap .i64 ((hi:Int)-(i:Int))=((hi-i:Nat):Int):=wi (by omega) (by omega)
      rw [v]
      unfold Sort.fixUp at h4
      by_cases h2':hi-i≥2
      · rw [if_pos h2'] at h4
        rw [decide_eq_true (by omega:((hi-i:Nat):Int)≥2),ite2_true]
        unfold F165_j7
        have v1:IntKind.wrap .i64 ((i:Int)+1)=((i+1:Nat):Int):=wi (by omega) (by omega)
        rw [v1]
        refine LoopP.by (J:=fun m (y:Int) hp=>∃ (j:Nat) (d3:Array Ss),y=j∧hp=HA hp0 b 79 sp ssc d3∧d3.size=n∧i<j∧m=hi-j∧Sort.shiftUp (ltC cf) hi j d3=Sort.shiftUp (ltC cf) hi (i+1) d2) ?_
          (n:=hi-(i+1)) ⟨i+1,d2,rfl,rfl,h3,by omega,rfl,rfl⟩
        rintro I8 m y hp ⟨j,d3,rfl,rfl,h5,h6,rfl,h7⟩ hI8
        unfold F165_l8
        rw [Sort.shiftUp] at h7
        by_cases hj:j<hi
        · rw [if_pos hj] at h7
          have v2:IntKind.wrap .i64 ((j:Int)-1)=((j-1:Nat):Int):=wi (by omega) (by omega)
          have v3:IntKind.wrap .i64 ((j:Int)+1)=((j+1:Nat):Int):=wi (by omega) (by omega)
          simp only [v2,v3]
          rw [decide_eq_true (by omega:(j:Int)<(hi:Int)),ite2_true]
          refine cmpP hc ssc_len h5 (i:=j) (j:=j-1) rfl rfl (by omega) (by omega) ?_
          have hl:decide (cf d3[j]! d3[j-1]!<0)=ltC cf d3[j]! d3[j-1]! := rfl
          rw [hl]
          cases hlt:ltC cf d3[j]! d3[j-1]!
          · rw [hlt] at h7
            simp only [Bool.not_false,if_true] at h7
            simp only [Bool.not_false,ite2_true]
            rw [← h7] at h4
            exact fin4 i d3 h1 (by omega) h5 h4
          · rw [hlt] at h7
            simp only [Bool.not_true,Bool.false_eq_true,if_false] at h7
            simp only [Bool.not_true,ite2_false]
            refine swapP ssc_len ssc_one h5 (i:=j) (j:=j-1) rfl rfl (by omega) (by omega) ?_
            exact hI8 (hi-(j+1)) _ _ (by omega) ⟨j+1,_,rfl,rfl,by rw [swp_size]; exact h5,by omega,rfl,h7⟩
        · rw [if_neg hj] at h7
          rw [decide_eq_false (by omega:¬ (j:Int)<(hi:Int)),ite2_false]
          rw [← h7] at h4
          exact fin4 i d3 h1 (by omega) h5 h4
      · rw [if_neg h2'] at h4
        rw [decide_eq_false (by omega:¬ ((hi-i:Nat):Int)≥2),ite2_false]
        exact fin4 i d2 h1 (by omega) h3 h4
    have fin5:∀ (i:Nat),lo<i→i≤hi→Sort.scanSorted (ltC cf) d' hi i=i →
        (if i=hi then (d',true) else if hi-lo<50 then (d',false) else Sort.partialIns (ltC cf) lo hi k i (Sort.fixUp (ltC cf) hi i (Sort.fixDown (ltC cf) lo i (Sort.swp d' i (i-1)))))=R →
        F165_j5 (some ⟨b,0,none⟩) n c lo hi (.func (.func f) ⟨ga⟩ ⟨gb⟩) i (5-((k+1:Nat):Int)) (HA hp0 b 79 sp ssc d') I K:=by
      intro i h1 h2 _ h4
      unfold F165_j5
      by_cases hih:i=hi
      · rw [if_pos hih] at h4
        subst hih
        simp only [beq_self_eq_true,ite2_true]
        rw [← h4] at h
        exact h
      rw [if_neg hih] at h4
      have hb:((i:Int)==(hi:Int))=false:=by
        rw [beq_eq_false_iff_ne]; omega
      rw [hb,ite2_false]
      have v:IntKind.wrap .i64 ((hi:Int)-(lo:Int))=((hi-lo:Nat):Int):=wi (by omega) (by omega)
      rw [v]
      by_cases h50:hi-lo<50
      · rw [if_pos h50] at h4
        rw [decide_eq_true (by omega:((hi-lo:Nat):Int)<50),ite2_true]
        rw [← h4] at h
        exact h
      rw [if_neg h50] at h4
      rw [decide_eq_false (by omega:¬ ((hi-lo:Nat):Int)<50),ite2_false]
      have v2:IntKind.wrap .i64 ((i:Int)-1)=((i-1:Nat):Int):=wi (by omega) (by omega)
      have v3:IntKind.wrap .i64 ((i:Int)-(lo:Int))=((i-lo:Nat):Int):=wi (by omega) (by omega)
      simp only [v2,v3]
      refine swapP ssc_len ssc_one hs' (i:=i) (j:=i-1) rfl rfl (by omega) (by omega) ?_
      have hs1:(Sort.swp d' i (i-1)).size=n:=by rw [swp_size]; exact hs'
      generalize Sort.swp d' i (i-1)=d1 at *
      unfold Sort.fixDown at h4
      by_cases hd:i-lo≥2
      · rw [if_pos hd] at h4
        rw [decide_eq_true (by omega:((i-lo:Nat):Int)≥2),ite2_true]
        unfold F165_j9
        refine LoopP.by (J:=fun m (y:Int) hp=>∃ (d2:Array Ss),y=m∧hp=HA hp0 b 79 sp ssc d2∧d2.size=n∧m<n∧Sort.shiftDown (ltC cf) m d2=Sort.shiftDown (ltC cf) (i-1) d1) ?_
          (n:=i-1) ⟨d1,rfl,rfl,hs1,by omega,rfl⟩
        rintro I10 m y hp ⟨d2,rfl,rfl,h5,h6,h7⟩ hI10
        unfold F165_l10
        cases m with
        | zero=>
          rw [Sort.shiftDown] at h7
          rw [decide_eq_false (by omega:¬ ((0:Nat):Int)≥1),ite2_false]
          rw [← h7] at h4
          exact fin6 i d2 h1 (by omega) h5 h4
        | succ m=>
          rw [Sort.shiftDown] at h7
          have v4:IntKind.wrap .i64 (((m+1:Nat):Int)-1)=(m:Int):=wi (by omega) (by omega)
          simp only [v4]
          rw [decide_eq_true (by omega:((m+1:Nat):Int)≥1),ite2_true]
          refine cmpP hc ssc_len h5 (i:=m+1) (j:=m) rfl rfl (by omega) (by omega) ?_
          have hl:decide (cf d2[m+1]! d2[m]!<0)=ltC cf d2[m+1]! d2[m]! := rfl
          rw [hl]
          cases hlt:ltC cf d2[m+1]! d2[m]!
          · rw [hlt] at h7
            simp only [Bool.not_false,if_true] at h7
            simp only [Bool.not_false,ite2_true]
            rw [← h7] at h4
            exact fin6 i d2 h1 (by omega) h5 h4
          · rw [hlt] at h7
            simp only [Bool.not_true,Bool.false_eq_true,if_false] at h7
            simp only [Bool.not_true,ite2_false]
            refine swapP ssc_len ssc_one h5 (i:=m+1) (j:=m) rfl rfl (by omega) (by omega) ?_
            exact hI10 m _ _ (by omega) ⟨_,rfl,rfl,by rw [swp_size]; exact h5,by omega,h7⟩
      · rw [if_neg hd] at h4
        rw [decide_eq_false (by omega:¬ ((i-lo:Nat):Int)≥2),ite2_false]
        exact fin6 i d1 h1 (by omega) hs1 h4
    refine LoopP.by (J:=fun m (y:Int) hp=>∃ (i':Nat),y=i'∧hp=HA hp0 b 79 sp ssc d'∧lo<i'∧i'≤hi∧m=hi-i'∧Sort.scanSorted (ltC cf) d' hi i'=Sort.scanSorted (ltC cf) d' hi i) ?_
      (n:=hi-i) ⟨i,rfl,rfl,hli,hih,rfl,rfl⟩
    rintro I11 m y hp ⟨i',rfl,rfl,h1,h2,rfl,h7⟩ hI11
    unfold F165_l11
    rw [← h7] at he
    have out:Sort.scanSorted (ltC cf) d' hi i'=i'→F165_j12 (some ⟨b,0,none⟩) n c lo hi (.func (.func f) ⟨ga⟩ ⟨gb⟩) i' (5-((k+1:Nat):Int)) false (HA hp0 b 79 sp ssc d') I I11 K:=by
      intro hq
      unfold F165_j12
      rw [ite2_false]
      rw [hq] at he
      exact fin5 i' h1 h2 hq he
    by_cases hj:i'<hi
    · have v2:IntKind.wrap .i64 ((i':Int)-1)=((i' - 1:Nat):Int):=wi (by omega) (by omega)
      simp only [v2]
      rw [decide_eq_true (by omega:(i':Int)<(hi:Int)),ite2_true]
      refine cmpP hc ssc_len hs' (i:=i') (j:=i' - 1) rfl rfl (by omega) (by omega) ?_
      have hl:decide (cf d'[i']! d'[i' - 1]!<0)=ltC cf d'[i']! d'[i' - 1]! := rfl
      rw [hl]
      cases hlt:ltC cf d'[i']! d'[i' - 1]!
      · unfold F165_j12
        have v3:IntKind.wrap .i64 ((i':Int)+1)=((i'+1:Nat):Int):=wi (by omega) (by omega)
        simp only [Bool.not_false,ite2_true,v3]
        refine hI11 (hi-(i'+1)) _ _ (by omega) ⟨i'+1,rfl,rfl,by omega,by omega,rfl,?_⟩
        rw [← h7]
        rw [Sort.scanSorted.eq_def (ltC cf) d' hi i',hlt,decide_eq_true hj]
        simp
      · simp only [Bool.not_true]
        refine out ?_
        rw [Sort.scanSorted,hlt]
        simp
    · rw [decide_eq_false (by omega:¬ (i':Int)<(hi:Int)),ite2_false]
      refine out ?_
      rw [Sort.scanSorted,decide_eq_false hj]
      simp
end
end Go.Proofs
set_option linter.unusedVariables false
set_option maxRecDepth 20000
namespace Go.Proofs
open Go Go.HL
section
variable {f:FuncId} {ga gb:List Value} {hp0:HP} {b sp n c:Nat} {cf:Ss→Ss→Int}
theorem S166 (hc:CmpOk Tryd.prog f ga gb hp0 b 79 sp ssc n cf) {d:Array Ss} {lo hi pv:Nat} {K:Value→HP→Prop} (hs:d.size=n) (hlo:lo<hi) (hf:hi≤n) (hp:pv<n) (hn:n≤1000000000)
    (h:K (.int .i64 ((Sort.partitionEqual (ltC cf) d lo hi pv).1:Nat)) (HA hp0 b 79 sp ssc (Sort.partitionEqual (ltC cf) d lo hi pv).2)) :
    CF Tryd.prog 166 [.slice (some ⟨b,0,none⟩) n c,.int .i64 lo,.int .i64 hi,.int .i64 pv,.func (.func f) ⟨ga⟩ ⟨gb⟩] (HA hp0 b 79 sp ssc d) K:=by
  refine F166_ok _ n c lo hi pv _ _ K ?_
  unfold F166
  refine swapP ssc_len ssc_one hs (i:=lo) (j:=pv) rfl rfl (by omega) (by omega) ?_
  unfold Sort.partitionEqual at h
  have hs1:(Sort.swp d lo pv).size=n:=by rw [swp_size]; exact hs
  generalize Sort.swp d lo pv=d1 at *
  have w1:IntKind.wrap .i64 ((lo:Int)+1)=((lo+1:Nat):Int):=wi (by omega) (by omega)
  have w2:IntKind.wrap .i64 ((hi:Int)-1)=((hi-1:Nat):Int):=wi (by omega) (by omega)
  rw [w1,w2]
  generalize hR:Sort.partEqLoop (ltC cf) lo (lo+1) (hi-1) d1=R at h
  unfold F166_j1
  refine LoopP.by (J:=fun k (s:Int × Int) hp=>∃ (i j:Nat) (d':Array Ss),s=((i:Int),(j:Int))∧hp=HA hp0 b 79 sp ssc d'∧d'.size=n∧lo<i∧i≤j+2∧j<n∧k=j+1-i∧Sort.partEqLoop (ltC cf) lo i j d'=R) ?_
    (n:=hi-1+1-(lo+1)) ⟨lo+1,hi-1,d1,rfl,rfl,hs1,by omega,by omega,by omega,rfl,hR⟩
  rintro I k x hp ⟨i,j,d',rfl,rfl,hs',hli,hij,hj,rfl,he⟩ hI
  unfold F166_l3
  simp only []
  rw [Sort.partEqLoop_eq] at he
  refine LoopP.by (J:=fun m (y:Int) hp=>∃ (i':Nat),y=i'∧hp=HA hp0 b 79 sp ssc d'∧i≤i'∧i'≤j+2∧m=j+2-i'∧Sort.scanUp (fun x=>!ltC cf d'[lo]! x) d' j i'=Sort.scanUp (fun x=>!ltC cf d'[lo]! x) d' j i) ?_
    (n:=j+2-i) ⟨i,rfl,rfl,Nat.le_refl _,hij,rfl,rfl⟩
  rintro I8 m y hp ⟨i',rfl,rfl,h1,h2,rfl,h7⟩ hI8
  unfold F166_l8
  rw [← h7] at he
  have out:Sort.scanUp (fun x=>!ltC cf d'[lo]! x) d' j i'=i'→F166_j9 (some ⟨b,0,none⟩) n c lo (.func (.func f) ⟨ga⟩ ⟨gb⟩) i' j false (HA hp0 b 79 sp ssc d') I I8 K:=by
    intro hq
    rw [hq] at he
    unfold F166_j9 F166_j4
    rw [ite2_false]
    refine LoopP.by (J:=fun m (y:Int) hp=>∃ (j':Nat),y=j'∧hp=HA hp0 b 79 sp ssc d'∧j'≤j∧m=j'∧Sort.scanDown (fun x=>ltC cf d'[lo]! x) d' i' j'=Sort.scanDown (fun x=>ltC cf d'[lo]! x) d' i' j) ?_
      (n:=j) ⟨j,rfl,rfl,Nat.le_refl _,rfl,rfl⟩
    rintro I6 m y hp ⟨j',rfl,rfl,g1,rfl,g7⟩ hI6
    unfold F166_l6
    rw [← g7] at he
    have out2:Sort.scanDown (fun x=>ltC cf d'[lo]! x) d' i' m=m→F166_j7 (some ⟨b,0,none⟩) n c lo (.func (.func f) ⟨ga⟩ ⟨gb⟩) i' m false (HA hp0 b 79 sp ssc d') I I6 K:=by
      intro hq2
      rw [hq2] at he
      unfold F166_j7 F166_j5
      rw [ite2_false]
      by_cases hgt:i' > m
      · rw [if_pos hgt] at he
        rw [decide_eq_true (by omega:(i':Int) > (m:Int)),ite2_true]
        unfold F166_j2
        rw [← he] at h
        exact h
      · rw [if_neg hgt] at he
        rw [decide_eq_false (by omega:¬ (i':Int) > (m:Int)),ite2_false]
        refine swapP ssc_len ssc_one hs' (i:=i') (j:=m) rfl rfl (by omega) (by omega) ?_
        have v1:IntKind.wrap .i64 ((i':Int)+1)=((i'+1:Nat):Int):=wi (by omega) (by omega)
        have v2:IntKind.wrap .i64 ((m:Int)-1)=((m-1:Nat):Int):=wi (by omega) (by omega)
        rw [v1,v2]
        exact hI (m-1+1-(i'+1)) _ _ (by omega) ⟨i'+1,m-1,_,rfl,rfl,by rw [swp_size]; exact hs',by omega,by omega,by omega,rfl,he⟩
    by_cases hle:i'≤m
    · rw [decide_eq_true (by omega:(i':Int)≤(m:Int)),ite2_true]
      refine cmpP hc ssc_len hs' (i:=lo) (j:=m) rfl rfl (by omega) (by omega) ?_
      have hl:decide (cf d'[lo]! d'[m]!<0)=ltC cf d'[lo]! d'[m]! := rfl
      rw [hl]
      obtain ⟨m,rfl⟩:∃ m',m=m'+1:=⟨m-1,by omega⟩
      cases hlt:ltC cf d'[lo]! d'[m+1]!
      · refine out2 ?_
        rw [Sort.scanDown,hlt]
        simp
      · unfold F166_j7
        have v2:IntKind.wrap .i64 (((m+1:Nat):Int)-1)=(m:Int):=wi (by omega) (by omega)
        rw [ite2_true,v2]
        refine hI6 m _ _ (by omega) ⟨m,rfl,rfl,by omega,rfl,?_⟩
        rw [← g7,Sort.scanDown.eq_def _ _ _ (m+1)]
        simp only [hlt,decide_eq_true hle,Bool.and_self,if_true]
    · rw [decide_eq_false (by omega:¬ (i':Int)≤(m:Int)),ite2_false]
      refine out2 ?_
      cases m with
      | zero=>rw [Sort.scanDown]
      | succ m=>rw [Sort.scanDown,decide_eq_false hle]; simp
  by_cases hle:i'≤j
  · rw [decide_eq_true (by omega:(i':Int)≤(j:Int)),ite2_true]
    refine cmpP hc ssc_len hs' (i:=lo) (j:=i') rfl rfl (by omega) (by omega) ?_
    have hl:decide (cf d'[lo]! d'[i']!<0)=ltC cf d'[lo]! d'[i']! := rfl
    rw [hl]
    cases hlt:ltC cf d'[lo]! d'[i']!
    · unfold F166_j9
      have v2:IntKind.wrap .i64 ((i':Int)+1)=((i'+1:Nat):Int):=wi (by omega) (by omega)
      simp only [Bool.not_false,ite2_true,v2]
      refine hI8 (j+2-(i'+1)) _ _ (by omega) ⟨i'+1,rfl,rfl,by omega,by omega,rfl,?_⟩
      rw [← h7,Sort.scanUp.eq_def _ _ _ i']
      simp only [hlt,decide_eq_true hle,Bool.not_false,Bool.and_self,if_true]
    · simp only [Bool.not_true]
      refine out ?_
      rw [Sort.scanUp,hlt]
      simp
  · rw [decide_eq_false (by omega:¬ (i':Int)≤(j:Int)),ite2_false]
    refine out ?_
    rw [Sort.scanUp,decide_eq_false hle]
    simp
end
end Go.Proofs
set_option linter.unusedVariables false
set_option maxRecDepth 20000
namespace Go.Proofs
open Go Go.HL
section
variable {f:FuncId} {ga gb:List Value} {hp0:HP} {b sp n c:Nat} {cf:Ss→Ss→Int}
theorem S167 (hc:CmpOk Tryd.prog f ga gb hp0 b 79 sp ssc n cf) {d:Array Ss} {lo hi pv:Nat} {K:Value→HP→Prop} (hs:d.size=n) (hlo:lo<hi) (hf:hi≤n) (hp:pv<n) (hn:n≤1000000000)
    (h:K (.tuple ⟨[.int .i64 ((Sort.partition (ltC cf) d lo hi pv).1:Nat),.bool (Sort.partition (ltC cf) d lo hi pv).2.1]⟩) (HA hp0 b 79 sp ssc (Sort.partition (ltC cf) d lo hi pv).2.2)) :
    CF Tryd.prog 167 [.slice (some ⟨b,0,none⟩) n c,.int .i64 lo,.int .i64 hi,.int .i64 pv,.func (.func f) ⟨ga⟩ ⟨gb⟩] (HA hp0 b 79 sp ssc d) K:=by
  refine F167_ok _ n c lo hi pv _ _ K ?_
  unfold F167
  refine swapP ssc_len ssc_one hs (i:=lo) (j:=pv) rfl rfl (by omega) (by omega) ?_
  unfold Sort.partition at h
  have hs':(Sort.swp d lo pv).size=n:=by rw [swp_size]; exact hs
  generalize Sort.swp d lo pv=d' at *
  have w1:IntKind.wrap .i64 ((lo:Int)+1)=((lo+1:Nat):Int):=wi (by omega) (by omega)
  have w2:IntKind.wrap .i64 ((hi:Int)-1)=((hi-1:Nat):Int):=wi (by omega) (by omega)
  rw [w1,w2]
  simp only [] at h
  have hij:lo+1≤hi-1+2:=by omega
  have hjn:hi-1<n:=by omega
  have hli:lo<lo+1:=by omega
  generalize hi0:lo+1=i at *
  generalize hj0:hi-1=j at *
  unfold F167_j1
  have fin:∀ (i' m:Nat),Sort.scanUp (fun x=>ltC cf x d'[lo]!) d' j i=i'→Sort.scanDown (fun x=>!ltC cf x d'[lo]!) d' i' j=m→i≤i'→i'≤j+2→m≤j→F167_j3 (some ⟨b,0,none⟩) n c lo (.func (.func f) ⟨ga⟩ ⟨gb⟩) i' m (HA hp0 b 79 sp ssc d') K:=by
    intro i' m hq hq2 h1 h2 h3
    rw [hq,hq2] at h
    unfold F167_j3
    by_cases hgt:i' > m
    · rw [if_pos hgt] at h
      rw [decide_eq_true (by omega:(i':Int) > (m:Int)),ite2_true]
      refine swapP ssc_len ssc_one hs' (i:=m) (j:=lo) rfl rfl (by omega) (by omega) ?_
      exact h
    rw [if_neg hgt] at h
    rw [decide_eq_false (by omega:¬ (i':Int) > (m:Int)),ite2_false]
    refine swapP ssc_len ssc_one hs' (i:=i') (j:=m) rfl rfl (by omega) (by omega) ?_
    have v1:IntKind.wrap .i64 ((i':Int)+1)=((i'+1:Nat):Int):=wi (by omega) (by omega)
    have v2:IntKind.wrap .i64 ((m:Int)-1)=((m-1:Nat):Int):=wi (by omega) (by omega)
    rw [v1,v2]
    have hs2:(Sort.swp d' i' m).size=n:=by rw [swp_size]; exact hs'
    generalize Sort.swp d' i' m=d2 at *
    generalize hR:Sort.partLoop (ltC cf) lo (i'+1) (m-1) d2=R at h
    unfold F167_j4
    refine LoopP.by (J:=fun k (s:Int × Int) hp=>∃ (i j:Nat) (d':Array Ss),s=((i:Int),(j:Int))∧hp=HA hp0 b 79 sp ssc d'∧d'.size=n∧lo<i∧i≤j+2∧j<n∧k=j+1-i∧Sort.partLoop (ltC cf) lo i j d'=R) ?_
      (n:=m-1+1-(i'+1)) ⟨i'+1,m-1,d2,rfl,rfl,hs2,by omega,by omega,by omega,rfl,hR⟩
    clear hs' hij hjn hli hq hq2 h1 h2 h3 hR
    clear hi0 hj0
    rintro I6 k x hp ⟨i,j,d',rfl,rfl,hs',hli,hij,hj,rfl,he⟩ hI
    unfold F167_l6
    simp only []
    rw [Sort.partLoop_eq] at he
    have fin2:∀ (i' m:Nat),Sort.scanUp (fun x=>ltC cf x d'[lo]!) d' j i=i'→Sort.scanDown (fun x=>!ltC cf x d'[lo]!) d' i' j=m→i≤i'→i'≤j+2→m≤j→F167_j8 (some ⟨b,0,none⟩) n c lo (.func (.func f) ⟨ga⟩ ⟨gb⟩) i' m (HA hp0 b 79 sp ssc d') I6 K:=by
      intro i' m hq hq2 h1 h2 h3
      rw [hq,hq2] at he
      unfold F167_j8
      by_cases hgt:i' > m
      · rw [if_pos hgt] at he
        rw [decide_eq_true (by omega:(i':Int) > (m:Int)),ite2_true]
        unfold F167_j5
        rw [← he] at h
        refine swapP ssc_len ssc_one hs' (i:=m) (j:=lo) rfl rfl (by omega) (by omega) ?_
        exact h
      · rw [if_neg hgt] at he
        rw [decide_eq_false (by omega:¬ (i':Int) > (m:Int)),ite2_false]
        refine swapP ssc_len ssc_one hs' (i:=i') (j:=m) rfl rfl (by omega) (by omega) ?_
        have v1:IntKind.wrap .i64 ((i':Int)+1)=((i'+1:Nat):Int):=wi (by omega) (by omega)
        have v2:IntKind.wrap .i64 ((m:Int)-1)=((m-1:Nat):Int):=wi (by omega) (by omega)
        rw [v1,v2]
        exact hI (m-1+1-(i'+1)) _ _ (by omega) ⟨i'+1,m-1,_,rfl,rfl,by rw [swp_size]; exact hs',by omega,by omega,by omega,rfl,he⟩
    clear he
    refine LoopP.by (J:=fun m (y:Int) hp=>∃ (i':Nat),y=i'∧hp=HA hp0 b 79 sp ssc d'∧i≤i'∧i'≤j+2∧m=j+2-i'∧Sort.scanUp (fun x=>ltC cf x d'[lo]!) d' j i'=Sort.scanUp (fun x=>ltC cf x d'[lo]!) d' j i) ?_
      (n:=j+2-i) ⟨i,rfl,rfl,Nat.le_refl _,hij,rfl,rfl⟩
    rintro I11 m y hp ⟨i',rfl,rfl,h1,h2,rfl,h7⟩ hI11
    unfold F167_l11
    have out:Sort.scanUp (fun x=>ltC cf x d'[lo]!) d' j i'=i'→F167_j12 (some ⟨b,0,none⟩) n c lo (.func (.func f) ⟨ga⟩ ⟨gb⟩) i' j false (HA hp0 b 79 sp ssc d') I6 I11 K:=by
      intro hq
      rw [hq] at h7
      unfold F167_j12 F167_j7
      rw [ite2_false]
      refine LoopP.by (J:=fun m (y:Int) hp=>∃ (j':Nat),y=j'∧hp=HA hp0 b 79 sp ssc d'∧j'≤j∧m=j'∧Sort.scanDown (fun x=>!ltC cf x d'[lo]!) d' i' j'=Sort.scanDown (fun x=>!ltC cf x d'[lo]!) d' i' j) ?_
        (n:=j) ⟨j,rfl,rfl,Nat.le_refl _,rfl,rfl⟩
      rintro I9 m y hp ⟨j',rfl,rfl,g1,rfl,g7⟩ hI9
      unfold F167_l9
      have out2:Sort.scanDown (fun x=>!ltC cf x d'[lo]!) d' i' m=m→F167_j10 (some ⟨b,0,none⟩) n c lo (.func (.func f) ⟨ga⟩ ⟨gb⟩) i' m false (HA hp0 b 79 sp ssc d') I6 I9 K:=by
        intro hq2
        rw [hq2] at g7
        unfold F167_j10
        rw [ite2_false]
        exact fin2 i' m h7.symm g7.symm h1 h2 g1
      by_cases hle:i'≤m
      · rw [decide_eq_true (by omega:(i':Int)≤(m:Int)),ite2_true]
        refine cmpP hc ssc_len hs' (i:=m) (j:=lo) rfl rfl (by omega) (by omega) ?_
        have hl:decide (cf d'[m]! d'[lo]!<0)=ltC cf d'[m]! d'[lo]! := rfl
        rw [hl]
        obtain ⟨m,rfl⟩:∃ m',m=m'+1:=⟨m-1,by omega⟩
        cases hlt:ltC cf d'[m+1]! d'[lo]!
        · unfold F167_j10
          have v2:IntKind.wrap .i64 (((m+1:Nat):Int)-1)=(m:Int):=wi (by omega) (by omega)
          simp only [Bool.not_false,ite2_true,v2]
          refine hI9 m _ _ (by omega) ⟨m,rfl,rfl,by omega,rfl,?_⟩
          rw [← g7,Sort.scanDown.eq_def _ _ _ (m+1)]
          simp only [hlt,decide_eq_true hle,Bool.not_false,Bool.and_self,if_true]
        · simp only [Bool.not_true]
          refine out2 ?_
          rw [Sort.scanDown,hlt]
          simp
      · rw [decide_eq_false (by omega:¬ (i':Int)≤(m:Int)),ite2_false]
        refine out2 ?_
        cases m with
        | zero=>rw [Sort.scanDown]
        | succ m=>rw [Sort.scanDown,decide_eq_false hle]; simp
    by_cases hle:i'≤j
    · rw [decide_eq_true (by omega:(i':Int)≤(j:Int)),ite2_true]
      refine cmpP hc ssc_len hs' (i:=i') (j:=lo) rfl rfl (by omega) (by omega) ?_
      have hl:decide (cf d'[i']! d'[lo]!<0)=ltC cf d'[i']! d'[lo]! := rfl
      rw [hl]
      cases hlt:ltC cf d'[i']! d'[lo]!
      · refine out ?_
        rw [Sort.scanUp,hlt]
        simp
      · unfold F167_j12
        have v2:IntKind.wrap .i64 ((i':Int)+1)=((i'+1:Nat):Int):=wi (by omega) (by omega)
        simp only [ite2_true,v2]
        refine hI11 (j+2-(i'+1)) _ _ (by omega) ⟨i'+1,rfl,rfl,by omega,by omega,rfl,?_⟩
        rw [← h7,Sort.scanUp.eq_def _ _ _ i']
        simp only [hlt,decide_eq_true hle,Bool.and_self,if_true]
    · rw [decide_eq_false (by omega:¬ (i':Int)≤(j:Int)),ite2_false]
      refine out ?_
      rw [Sort.scanUp,decide_eq_false hle]
      simp
  refine LoopP.by (J:=fun m (y:Int) hp=>∃ (i':Nat),y=i'∧hp=HA hp0 b 79 sp ssc d'∧i≤i'∧i'≤j+2∧m=j+2-i'∧Sort.scanUp (fun x=>ltC cf x d'[lo]!) d' j i'=Sort.scanUp (fun x=>ltC cf x d'[lo]!) d' j i) ?_
    (n:=j+2-i) ⟨i,rfl,rfl,Nat.le_refl _,hij,rfl,rfl⟩
  rintro I15 m y hp ⟨i',rfl,rfl,h1,h2,rfl,h7⟩ hI15
  unfold F167_l15
  have out:Sort.scanUp (fun x=>ltC cf x d'[lo]!) d' j i'=i'→F167_j16 (some ⟨b,0,none⟩) n c lo (.func (.func f) ⟨ga⟩ ⟨gb⟩) i' j false (HA hp0 b 79 sp ssc d')  I15 K:=by
    intro hq
    rw [hq] at h7
    unfold F167_j16 F167_j2
    rw [ite2_false]
    refine LoopP.by (J:=fun m (y:Int) hp=>∃ (j':Nat),y=j'∧hp=HA hp0 b 79 sp ssc d'∧j'≤j∧m=j'∧Sort.scanDown (fun x=>!ltC cf x d'[lo]!) d' i' j'=Sort.scanDown (fun x=>!ltC cf x d'[lo]!) d' i' j) ?_
      (n:=j) ⟨j,rfl,rfl,Nat.le_refl _,rfl,rfl⟩
    rintro I13 m y hp ⟨j',rfl,rfl,g1,rfl,g7⟩ hI13
    unfold F167_l13
    have out2:Sort.scanDown (fun x=>!ltC cf x d'[lo]!) d' i' m=m→F167_j14 (some ⟨b,0,none⟩) n c lo (.func (.func f) ⟨ga⟩ ⟨gb⟩) i' m false (HA hp0 b 79 sp ssc d')  I13 K:=by
      intro hq2
      rw [hq2] at g7
      unfold F167_j14
      rw [ite2_false]
      exact fin i' m h7.symm g7.symm h1 h2 g1
    by_cases hle:i'≤m
    · rw [decide_eq_true (by omega:(i':Int)≤(m:Int)),ite2_true]
      refine cmpP hc ssc_len hs' (i:=m) (j:=lo) rfl rfl (by omega) (by omega) ?_
      have hl:decide (cf d'[m]! d'[lo]!<0)=ltC cf d'[m]! d'[lo]! := rfl
      rw [hl]
      obtain ⟨m,rfl⟩:∃ m',m=m'+1:=⟨m-1,by omega⟩
      cases hlt:ltC cf d'[m+1]! d'[lo]!
      · unfold F167_j14
        have v2:IntKind.wrap .i64 (((m+1:Nat):Int)-1)=(m:Int):=wi (by omega) (by omega)
        simp only [Bool.not_false,ite2_true,v2]
        refine hI13 m _ _ (by omega) ⟨m,rfl,rfl,by omega,rfl,?_⟩
        rw [← g7,Sort.scanDown.eq_def _ _ _ (m+1)]
        simp only [hlt,decide_eq_true hle,Bool.not_false,Bool.and_self,if_true]
      · simp only [Bool.not_true]
        refine out2 ?_
        rw [Sort.scanDown,hlt]
        simp
    · rw [decide_eq_false (by omega:¬ (i':Int)≤(m:Int)),ite2_false]
      refine out2 ?_
      cases m with
      | zero=>rw [Sort.scanDown]
      | succ m=>rw [Sort.scanDown,decide_eq_false hle]; simp
  by_cases hle:i'≤j
  · rw [decide_eq_true (by omega:(i':Int)≤(j:Int)),ite2_true]
    refine cmpP hc ssc_len hs' (i:=i') (j:=lo) rfl rfl (by omega) (by omega) ?_
    have hl:decide (cf d'[i']! d'[lo]!<0)=ltC cf d'[i']! d'[lo]! := rfl
    rw [hl]
    cases hlt:ltC cf d'[i']! d'[lo]!
    · refine out ?_
      rw [Sort.scanUp,hlt]
      simp
    · unfold F167_j16
      have v2:IntKind.wrap .i64 ((i':Int)+1)=((i'+1:Nat):Int):=wi (by omega) (by omega)
      simp only [ite2_true,v2]
      refine hI15 (j+2-(i'+1)) _ _ (by omega) ⟨i'+1,rfl,rfl,by omega,by omega,rfl,?_⟩
      rw [← h7,Sort.scanUp.eq_def _ _ _ i']
      simp only [hlt,decide_eq_true hle,Bool.and_self,if_true]
  · rw [decide_eq_false (by omega:¬ (i':Int)≤(j:Int)),ite2_false]
    refine out ?_
    rw [Sort.scanUp,decide_eq_false hle]
    simp
end
end Go.Proofs
