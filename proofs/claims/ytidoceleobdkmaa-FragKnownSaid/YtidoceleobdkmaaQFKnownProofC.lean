/- Parts of the proof of FKnownProof: the logic of what is known of memory, functions' contracts. -/
import Derived.Test.YtidoceleobdkmaaQFKnownProofB
import Derived.Test.YtidoceleobdkmaaHlSort1
import Derived.Test.YtidoceleobdkmaaHlStr
import Derived.Test.YtidoceleobdkmaaHlAbb
import Derived.Test.YtidoceleobdkmaaProg
import Derived.Sort.LotB
import Derived.Sort.LotC
import Derived.Sort.LotA
set_option linter.unusedVariables false
set_option linter.unusedSimpArgs false
set_option linter.unusedVariables false
set_option maxRecDepth 20000
namespace Go.Proofs
open Go Go.HL
def jw (n:Int):Value:=.int .i64 n
def dv (d:Dg):Value:=.pointer (some ⟨d.blk,0,none⟩)
theorem zeroF {P:Program} {t:TypeId} {z:Value} (h:(P.info? t).bind (·.zero)=some z) (w:World):(zeroValue t).run P w=.ok z w:=by
  cases hi:P.info? t with
  | none=>rw [hi] at h; cases h
  | some i=>rw [hi] at h; simp only [Option.bind_some] at h; simp [zeroValue,typeInfo,hi,h]
theorem zj:∀ w:World,(zeroValue 3).run Try.prog w=.ok (.int .i64 0) w:=zeroF (by kernel_rfl)
theorem zpt:∀ w:World,(zeroValue 131).run Try.prog w=.ok (.pointer none) w:=zeroF (by kernel_rfl)
theorem jw_get {k:ByteArray} {l:List (ByteArray × Int)}:((getL k l).map jw).getD (.int .i64 0)=.int .i64 ((getL k l).getD 0):=by cases getL k l <;> rfl
structure Stt where
  max:Int
  source:Int
  last:Int
  n:Int
  D:List (ByteArray × Dg)
  of:List (ByteArray × Int)
def stc (S:Stt) (m mo:Nat):List Value:=[.int .i64 S.max,.int .i64 S.source,.int .i64 S.last,.int .i64 S.n,.map (some m),.map (some mo)]
def StR (hp0 hp:HP) (q m mo:Nat) (S:Stt):Prop:=
  HSub hp0 hp∧hp0 q=.none∧hp0 m=.none∧hp0 mo=.none∧m≠mo∧hp q=.cells 130 (stc S m mo) 0∧MapE sw dv S.D (hp m)∧MapE sw jw S.of (hp mo) ∧
  (∀ kd∈S.D,DgR hp kd.2∧hp0 kd.2.blk=.none∧hp0 kd.2.rblk=.none)∧(S.D.map (·.2.blk)).Nodup∧(S.D.map (·.2.rblk)).Nodup∧(S.D.map (·.1)).Nodup
def Stp (q m mo:Nat) (hp:HP) (S:Stt) (hp':HP) (S':Stt):Prop:=∀ hp0,StR hp0 hp q m mo S→StR hp0 hp' q m mo S'
theorem Stp.refl {q m mo:Nat} {hp:HP} {S:Stt}:Stp q m mo hp S hp S:=fun _ h=>h
theorem Stp.trans {q m mo:Nat} {a b c:HP} {A B C:Stt} (h:Stp q m mo a A b B) (k:Stp q m mo b B c C):Stp q m mo a A c C:=fun hp0 x=>k hp0 (h hp0 x)
theorem mapE_obj {κ ν:Type} {ek:κ→Value} {ev:ν→Value} {l:List (κ × ν)} {e:Ent} (h:MapE ek ev l e):∃ o,e=.obj o:=by
  obtain ⟨es,clock,he,_⟩:=h; exact ⟨_,he⟩
theorem DgR.ne {hp:HP} {d:Dg} {x:Nat} {e:Ent} (h:DgR hp d) (h1:x≠d.blk) (h2:x≠d.rblk):DgR (hp.set x e) d:=by
  obtain ⟨h0,c,g1,g2,g3⟩:=h
  exact ⟨h0,c,g1,by rw [HP.set_ne _ _ h1.symm]; exact g2,by rw [HP.set_ne _ _ h2.symm]; exact g3⟩
theorem DgR.ne_obj {hp:HP} {d:Dg} {x:Nat} {o:Obj} (h:DgR hp d) (hx:hp x=.obj o):x≠d.blk∧x≠d.rblk:=by
  obtain ⟨h0,c,g1,g2,g3⟩:=h
  exact ⟨fun e=>(by rw [e,g2] at hx; cases hx),fun e=>(by rw [e,g3] at hx; cases hx)⟩
theorem DgR.ne_st {hp:HP} {d:Dg} {x:Nat} {cs:List Value} (h:DgR hp d) (hx:hp x=.cells 130 cs 0):x≠d.blk∧x≠d.rblk:=by
  obtain ⟨h0,c,g1,g2,g3⟩:=h
  exact ⟨fun e=>(by rw [e,g2] at hx; cases hx),fun e=>(by rw [e,g3] at hx; cases hx)⟩
section
variable {hp0 hp:HP} {q m mo:Nat} {S:Stt} {K:Value→HP→Prop}
theorem StR.sub {hp':HP} (h:StR hp0 hp q m mo S) (hs:HSub hp hp'):StR hp0 hp' q m mo S:=by
  obtain ⟨h1,h2,h3,h4,h5,h6,h7,h8,h9,h10,h11,h12⟩:=h
  refine ⟨h1.trans hs,h2,h3,h4,h5,hs.cells h6,?_,?_,fun kd hk=>⟨(h9 kd hk).1.sub hs,(h9 kd hk).2⟩,h10,h11,h12⟩
  · obtain ⟨es,clock,he,r⟩:=h7; exact ⟨es,clock,hs.obj he,r⟩
  · obtain ⟨es,clock,he,r⟩:=h8; exact ⟨es,clock,hs.obj he,r⟩
theorem StR.cell (h:StR hp0 hp q m mo S) (o:Nat):hp.cell q o=(stc S m mo)[o]?:=HP.cell_of h.2.2.2.2.2.1
theorem StR.mapD (h:StR hp0 hp q m mo S):MapE sw dv S.D (hp m):=h.2.2.2.2.2.2.1
theorem StR.mapOf (h:StR hp0 hp q m mo S):MapE sw jw S.of (hp mo):=h.2.2.2.2.2.2.2.1
theorem StR.dg (h:StR hp0 hp q m mo S) {key:ByteArray} {d:Dg} (hg:getL key S.D=some d):DgR hp d:=(h.2.2.2.2.2.2.2.2.1 _ (getL_some_mem hg)).1
theorem Stp.own {last n:Int}:Stp q m mo hp S (hp.set q (.cells 130 (stc { S with last:=last,n:=n } m mo) 0)) { S with last:=last,n:=n }:=by
  rintro hp0 ⟨h1,h2,h3,h4,h5,h6,h7,h8,h9,h10,h11,h12⟩
  obtain ⟨o1,e1⟩:=(mapE_obj h7)
  obtain ⟨o2,e2⟩:=(mapE_obj h8)
  refine ⟨h1.up h2 _,h2,h3,h4,h5,HP.set_eq ..,?_,?_,fun kd hk=>⟨(h9 kd hk).1.ne ((h9 kd hk).1.ne_st h6).1 ((h9 kd hk).1.ne_st h6).2,(h9 kd hk).2⟩,h10,h11,h12⟩
  · rw [HP.set_ne _ _ (fun e=>by rw [e,h6] at e1; cases e1)]; exact h7
  · rw [HP.set_ne _ _ (fun e=>by rw [e,h6] at e2; cases e2)]; exact h8
theorem Stp.ofs {of:List (ByteArray × Int)} {e:Ent} (he:MapE sw jw of e):Stp q m mo hp S (hp.set mo e) { S with of:=of }:=by
  rintro hp0 ⟨h1,h2,h3,h4,h5,h6,h7,h8,h9,h10,h11,h12⟩
  obtain ⟨o2,e2⟩:=(mapE_obj h8)
  refine ⟨h1.up h4 _,h2,h3,h4,h5,?_,?_,by simp only; rw [HP.set_eq]; exact he,fun kd hk=>⟨(h9 kd hk).1.ne ((h9 kd hk).1.ne_obj e2).1 ((h9 kd hk).1.ne_obj e2).2,(h9 kd hk).2⟩,h10,h11,h12⟩
  · rw [HP.set_ne _ _ (fun e=>by rw [e,e2] at h6; cases h6)]; exact h6
  · rw [HP.set_ne _ _ h5]; exact h7
theorem Stp.fewer {D:List (ByteArray × Dg)} {e:Ent} (he:MapE sw dv D e) (hs:D.Sublist S.D):Stp q m mo hp S (hp.set m e) { S with D:=D }:=by
  rintro hp0 ⟨h1,h2,h3,h4,h5,h6,h7,h8,h9,h10,h11,h12⟩
  obtain ⟨o1,e1⟩:=(mapE_obj h7)
  refine ⟨h1.up h3 _,h2,h3,h4,h5,?_,by simp only; rw [HP.set_eq]; exact he,?_,fun kd hk=>?_,(hs.map _).nodup h10,(hs.map _).nodup h11,(hs.map _).nodup h12⟩
  · rw [HP.set_ne _ _ (fun e=>by rw [e,e1] at h6; cases h6)]; exact h6
  · rw [HP.set_ne _ _ h5.symm]; exact h8
  · have hk':=hs.subset hk
    exact ⟨(h9 kd hk').1.ne ((h9 kd hk').1.ne_obj e1).1 ((h9 kd hk').1.ne_obj e1).2,(h9 kd hk').2⟩
theorem del_sub {κ ν:Type} [DecidableEq κ] (k:κ):∀ l:List (κ × ν),(delL k l).Sublist l
  | []=>.slnil
  | p::l=>by
    unfold delL
    split
    · exact List.sublist_cons_self _ _
    · exact (del_sub k l).cons_cons _
def cutOf:List Pc→List (ByteArray × Int)→List (ByteArray × Int)
  | [],of=>of
  | p::l,of=>cutOf l (if IntKind.wrap .i64 ((getL p.src of).getD 0-1)=0 then delL p.src (putL p.src (IntKind.wrap .i64 ((getL p.src of).getD 0-1)) of) else putL p.src (IntKind.wrap .i64 ((getL p.src of).getD 0-1)) of)
def cutN:Nat→Int→Int
  | 0,n=>n
  | k+1,n=>cutN k (IntKind.wrap .i64 (n-1))
theorem C79 {key:ByteArray} {d:Dg} (h:StR hp0 hp q m mo S) (hg:getL key S.D=some d) (hn:d.l.length≤1000000)
    (hK:∀ hp',Stp q m mo hp S hp' { S with n:=cutN d.l.length S.n,D:=delL key S.D,of:=cutOf d.l S.of }→K (.tuple ⟨[]⟩) hp') :
    CF Try.prog 79 [ptr q 0,.string key] hp K:=by
  refine F79_ok _ key hp K ?_
  unfold F79
  have c4:∀ S:Stt,(stc S m mo)[4]?=some (.map (some m)):=fun _=>rfl
  have c5:∀ S:Stt,(stc S m mo)[5]?=some (.map (some mo)):=fun _=>rfl
  have c3:∀ S:Stt,(stc S m mo)[3]?=some (.int .i64 S.n):=fun _=>rfl
  simp only [ptrN_some,h.cell,Nat.zero_add,c4,ldV_some,mapV_map]
  refine rdS_lookup u128 enc9 zpt h.mapD key ?_
  simp only [Bool.false_eq_true,if_false,hg,Option.map_some,Option.getD_some,dv,ptrV_pointer,ptrN_some,Nat.zero_add]
  obtain ⟨h0,c,h1,h2,h3⟩:=h.dg hg
  have hc:∀ o,hp.cell d.blk o=[Value.int .i64 d.id,.int .i64 d.due,.int .i64 d.fin,.slice (some ⟨d.rblk,0,none⟩) d.l.length c][o]?:=fun o=>HP.cell_of h2
  simp only [hc,List.getElem?_cons_succ,List.getElem?_cons_zero,ldV_some,slcV_slice]
  unfold F79_j2
  refine LoopP.by (J:=fun k (y:Int) hp'=>∃ (i:Nat) (n':Int) (of':List (ByteArray × Int)),y=i∧i+k=d.l.length∧Stp q m mo hp S hp' { S with n:=n',of:=of' }∧cutN d.l.length S.n=cutN (d.l.length-i) n'∧cutOf d.l S.of=cutOf (d.l.drop i) of') ?_ (n:=d.l.length)
    ⟨0,S.n,S.of,rfl,by omega,Stp.refl,rfl,rfl⟩
  rintro I k y hp' ⟨i,n',of',rfl,hik,hS,hcn,hco⟩ hI
  have h':=hS hp0 h
  unfold F79_l3
  by_cases hi:i<d.l.length
  · rw [decide_eq_true (by omega:(i:Int)<(d.l.length:Int)),ite2_true]
    obtain ⟨_,c',h1',h2',h3'⟩:=StR.dg h' hg
    have sh:Shows hp' (some ⟨d.rblk,0,none⟩) d.l.length 6 (d.l.flatMap pc):=.inr ⟨d.rblk,0,rfl,by rw [HP.cellN_of h3']; exact cellsN_all (by rw [flat_len pc_len])⟩
    obtain ⟨b,o,hao,hgp⟩:=sh.get pc_len rfl hi
    have hz:splice [(Value.string ⟨#[]⟩),(Value.string ⟨#[]⟩),(Value.int .i64 0),(Value.bool false),(Value.string ⟨#[]⟩),(Value.string ⟨#[]⟩)] 0 (pc d.l[i])=pc d.l[i]:=splice_all rfl
    have k1:(pc d.l[i])[1]?=some (.string d.l[i].src):=rfl
    cases hao
    rw [Nat.zero_add] at hgp
    simp only [ptrN_some,Int.toNat_natCast,hgp,ldL_some,pc_len,pc_one,if_true,hz,h'.cell,Nat.zero_add,c3,ldV_some,intV_int]
    refine ⟨by omega,by omega,?_⟩
    refine ifI (Nat.le_refl _) ?_
    refine HP.st_at h'.2.2.2.2.2.1 (by simp [stc]) ?_
    have e1:(stc { S with n:=n',of:=of' } m mo).set 3 (.int .i64 (IntKind.wrap .i64 (n' - 1)))=stc { S with last:=S.last,n:=IntKind.wrap .i64 (n' - 1),of:=of' } m mo:=rfl
    rw [e1]
    have s1:=hS.trans (Stp.own (last:=S.last) (n:=IntKind.wrap .i64 (n' - 1)))
    have g1:=s1 hp0 h
    generalize hp'.set q (.cells 130 (stc { S with last:=S.last,n:=IntKind.wrap .i64 (n' - 1),of:=of' } m mo) 0)=hp2 at s1 g1 ⊢
    simp only [g1.cell,c5,ldV_some,mapV_map,k1,strV_string]
    refine rdS_lookup u97 enc9 zj g1.mapOf d.l[i].src ?_
    simp only [Bool.false_eq_true,if_false,jw_get,intV_int]
    refine opS_mapUpdate u97 enc9 (ev:=jw) g1.mapOf d.l[i].src (IntKind.wrap .i64 ((getL d.l[i].src of').getD 0-1)) ?_
    intro e he
    have s2:=s1.trans (Stp.ofs he)
    have g2:=s2 hp0 h
    generalize hp2.set mo e=hp3 at s2 g2 ⊢
    simp only [g2.cell,c5,ldV_some,mapV_map,k1,strV_string]
    refine rdS_lookup u97 enc9 zj g2.mapOf d.l[i].src ?_
    have w1:IntKind.wrap .i64 ((i:Int)+1)=((i+1:Nat):Int):=wiN (by omega) (by omega)
    simp only [Bool.false_eq_true,if_false,jw_get,intV_int,getL_put,if_true,Option.getD_some,Option.map_some,jw]
    have hcn2:cutN d.l.length S.n=cutN (d.l.length-(i+1)) (IntKind.wrap .i64 (n' - 1)):=by
      rw [hcn]
      have:d.l.length-i=(d.l.length-(i+1))+1:=by omega
      rw [this]; rfl
    rw [List.drop_eq_getElem_cons hi,cutOf] at hco
    by_cases hv:IntKind.wrap .i64 ((getL d.l[i].src of').getD 0-1)=0
    · have e:(IntKind.wrap .i64 ((getL d.l[i].src of').getD 0-1)==0)=true:=by simpa using hv
      rw [e,ite2_true]
      rw [if_pos hv] at hco
      refine opS_delete u97 enc9 g2.mapOf d.l[i].src ?_
      intro e' he'
      have s3:=s2.trans (Stp.ofs he')
      unfold F79_j4
      rw [w1]
      exact hI (k-1) _ _ (by omega) ⟨i+1,_,_,rfl,by omega,s3,hcn2,hco⟩
    · have e:(IntKind.wrap .i64 ((getL d.l[i].src of').getD 0-1)==0)=false:=by simpa using hv
      rw [e,ite2_false]
      rw [if_neg hv] at hco
      unfold F79_j4
      rw [w1]
      exact hI (k-1) _ _ (by omega) ⟨i+1,_,_,rfl,by omega,s2,hcn2,hco⟩
  · rw [decide_eq_false (by omega:¬ (i:Int)<(d.l.length:Int)),ite2_false]
    have hie:i=d.l.length:=by omega
    subst hie
    rw [Nat.sub_self,cutN] at hcn
    rw [List.drop_of_length_le (Nat.le_refl _),cutOf] at hco
    unfold F79_j1
    simp only [ptrN_some,h'.cell,Nat.zero_add,c4,ldV_some,mapV_map]
    refine opS_delete u128 enc9 h'.mapD key ?_
    intro e he
    refine hK _ ?_
    rw [hcn,hco]
    exact hS.trans (Stp.fewer he (del_sub key _))
end
end Go.Proofs
set_option linter.unusedVariables false
set_option maxRecDepth 20000
namespace Go.Proofs
open Go Go.HL
theorem map_inj_of_nodup {α β:Type} {f:α→β}:∀ {l:List α} {x y:α},(l.map f).Nodup→x∈l→y∈l→f x=f y→x=y
  | a::l,x,y,hn,hx,hy,e=>by
    rw [List.map_cons,List.nodup_cons] at hn
    rcases List.mem_cons.1 hx with h1 | h1
    · rcases List.mem_cons.1 hy with h2 | h2
      · rw [h1,h2]
      · exact absurd (List.mem_map.2 ⟨y,h2,by rw [← e,h1]⟩) hn.1
    · rcases List.mem_cons.1 hy with h2 | h2
      · exact absurd (List.mem_map.2 ⟨x,h1,by rw [e,h2]⟩) hn.1
      · exact map_inj_of_nodup hn.2 h1 h2 e
section
variable {κ ν:Type} [DecidableEq κ]
theorem mem_put {k:κ} {v:ν}:∀ {l:List (κ × ν)} {x:κ × ν},(l.map (·.1)).Nodup→x∈putL k v l→x=(k,v)∨(x∈l∧x.1≠k)
  | [],x,_,h=>by simp only [putL,List.mem_singleton] at h; exact .inl h
  | p::l,x,hn,h=>by
    rw [List.map_cons,List.nodup_cons] at hn
    by_cases hk:k=p.1
    · simp only [putL,hk,if_true,List.mem_cons] at h
      rcases h with h | h
      · exact .inl (by rw [h,hk])
      · exact .inr ⟨by simp [h],fun e=>hn.1 (by rw [← hk,← e]; exact List.mem_map.2 ⟨x,h,rfl⟩)⟩
    · simp only [putL,hk,if_false,List.mem_cons] at h
      rcases h with h | h
      · exact .inr ⟨by simp [h],by rw [h]; exact fun e=>hk e.symm⟩
      · rcases mem_put hn.2 h with h | ⟨h,h'⟩
        · exact .inl h
        · exact .inr ⟨by simp [h],h'⟩
theorem nodup_put_map {β:Type} {f:ν→β} {k:κ} {v:ν}:∀ {l:List (κ × ν)},(l.map (·.1)).Nodup→(l.map (fun x=>f x.2)).Nodup→(∀ x∈l,x.1≠k→f x.2≠f v)→((putL k v l).map (fun x=>f x.2)).Nodup
  | [],_,_,_=>by simp [putL]
  | p::l,hk,hf,h=>by
    rw [List.map_cons,List.nodup_cons] at hk hf
    by_cases hkp:k=p.1
    · simp only [putL,hkp,if_true,List.map_cons,List.nodup_cons]
      refine ⟨fun hm=>?_,hf.2⟩
      obtain ⟨x,hx,e⟩:=List.mem_map.1 hm
      exact h x (by simp [hx]) (fun e'=>hk.1 (by rw [← hkp,← e']; exact List.mem_map.2 ⟨x,hx,rfl⟩)) e
    · simp only [putL,hkp,if_false,List.map_cons,List.nodup_cons]
      refine ⟨fun hm=>?_,nodup_put_map hk.2 hf.2 fun x hx=>h x (by simp [hx])⟩
      obtain ⟨x,hx,e⟩:=List.mem_map.1 hm
      rcases mem_put hk.2 hx with rfl | ⟨hx,_⟩
      · exact h p (by simp) (fun e'=>hkp e'.symm) e.symm
      · exact hf.1 (by rw [← e]; exact List.mem_map.2 ⟨x,hx,rfl⟩)
theorem put_same_map {β:Type} {f:κ × ν→β} {k:κ} {v u:ν}:∀ {l:List (κ × ν)},getL k l=some u→f (k,v)=f (k,u)→(putL k v l).map f=l.map f
  | [],h,_=>by cases h
  | p::l,h,e=>by
    simp only [getL] at h
    by_cases hk:k=p.1
    · simp only [hk,if_true,Option.some.injEq] at h
      simp only [putL,hk,if_true,List.map_cons]
      have hp:p=(k,u):=Prod.ext hk.symm h
      rw [hp] at *
      simp only [e]
    · simp only [hk,if_false] at h
      simp only [putL,hk,if_false,List.map_cons,put_same_map h e]
end
theorem mapE_same {κ ν:Type} {ek:κ→Value} {ev:ν→Value} {l l':List (κ × ν)} {e:Ent} (h:MapE ek ev l e) (hl:l'.map (fun p=>(ek p.1,ev p.2))=l.map (fun p=>(ek p.1,ev p.2))):MapE ek ev l' e:=by
  obtain ⟨es,clock,h1,h2,h3,h4⟩:=h
  exact ⟨es,clock,h1,h2.trans hl.symm,h3,h4⟩
section
variable {hp0 hp:HP} {q m mo:Nat} {S:Stt} {K:Value→HP→Prop} {p:Pc}
def Pre (hp0 hp:HP) (q m mo:Nat) (S:Stt) (key:ByteArray) (blk:Nat) (s:Option Addr):Prop:=
  HSub hp0 hp∧hp0 q=.none∧hp0 m=.none∧hp0 mo=.none∧m≠mo∧hp q=.cells 130 (stc S m mo) 0∧MapE sw jw S.of (hp mo) ∧
  (∀ d:Dg,d.blk=blk→MapE sw dv (putL key d S.D) (hp m))∧hp0 blk=.none∧(∀ b,s=some ⟨b,0,none⟩→hp0 b=.none) ∧
  (∀ kd∈S.D,kd.1≠key→DgR hp kd.2∧hp0 kd.2.blk=.none∧hp0 kd.2.rblk=.none∧kd.2.blk≠blk∧∀ b,s=some ⟨b,0,none⟩→kd.2.rblk≠b) ∧
  (S.D.map (·.2.blk)).Nodup∧(S.D.map (·.2.rblk)).Nodup∧(S.D.map (·.1)).Nodup
def Fr2 (hp hp':HP) (blk rb:Nat) (s:Option Addr):Prop:=∀ h0:HP,HSub h0 hp→h0 blk=.none→(∀ b,s=some ⟨b,0,none⟩→h0 b=.none)→HSub h0 hp'∧h0 rb=.none
theorem Pre.done {hp':HP} {key:ByteArray} {d':Dg} {s:Option Addr} (h:Pre hp0 hp q m mo S key d'.blk s) (hb:∃ cs,hp d'.blk=.cells 135 cs 0) (hs:∀ b,s=some ⟨b,0,none⟩→∃ cs sp,hp b=.cells 29 cs sp) (hf:Fr2 hp hp' d'.blk d'.rblk s) (hd:DgR hp' d'):StR hp0 hp' q m mo { S with D:=putL key d' S.D }:=by
  obtain ⟨h1,h2,h3,h4,h5,h6,h7,h8,h9,h10,h11,h12,h13,h14⟩:=h
  obtain ⟨cs,hb⟩:=hb
  have hM:=h8 d' rfl
  obtain ⟨o1,e1⟩:=(mapE_obj hM)
  obtain ⟨o2,e2⟩:=(mapE_obj h7)
  obtain ⟨f1,f2⟩:=hf hp0 h1 h9 h10
  have keep:∀ x e,hp x=e→e≠.none→x≠d'.blk→(∀ b,s=some ⟨b,0,none⟩→x≠b)→hp' x=e∧x≠d'.rblk:=by
    intro x e hx he hxb hxs
    obtain ⟨g1,g2⟩:=hf (HP.onlyF x e) (HSub.onlyF hx) (HP.onlyF_ne _ hxb.symm) (fun b e'=>HP.onlyF_ne _ (hxs b e').symm)
    refine ⟨g1.some (HP.onlyF_eq ..) he,fun e'=>?_⟩
    rw [← e',HP.onlyF_eq] at g2
    exact he g2
  have kq:=keep q _ h6 (by simp) (fun e=>by rw [e,hb] at h6; cases h6) (fun b e e'=>by obtain ⟨c,sp,hc⟩:=hs b e; rw [e',hc] at h6; cases h6)
  have km:=keep m _ e1 (by simp) (fun e=>by rw [e,hb] at e1; cases e1) (fun b e e'=>by obtain ⟨c,sp,hc⟩:=hs b e; rw [e',hc] at e1; cases e1)
  have kmo:=keep mo _ e2 (by simp) (fun e=>by rw [e,hb] at e2; cases e2) (fun b e e'=>by obtain ⟨c,sp,hc⟩:=hs b e; rw [e',hc] at e2; cases e2)
  have ko:∀ kd∈S.D,kd.1≠key→DgR hp' kd.2∧kd.2.rblk≠d'.rblk:=by
    intro kd hkd hne
    obtain ⟨⟨g0,c,g1,g2,g3⟩,_,_,g4,g5⟩:=h11 kd hkd hne
    have kb:=keep kd.2.blk _ g2 (by simp) g4 (fun b e e'=>by obtain ⟨c,sp,hc⟩:=hs b e; rw [e',hc] at g2; cases g2)
    have kr:=keep kd.2.rblk _ g3 (by simp) (fun e=>by rw [e,hb] at g3; cases g3) (fun b e=>g5 b e)
    exact ⟨⟨g0,c,g1,kb.1,kr.1⟩,kr.2⟩
  refine ⟨f1,h2,h3,h4,h5,kq.1,?_,?_,fun kd hkd=>?_,nodup_put_map (f:=fun d:Dg=>d.blk) h14 h12 fun x hx hne=>(h11 x hx hne).2.2.2.1,nodup_put_map (f:=fun d:Dg=>d.rblk) h14 h13 fun x hx hne=>(ko x hx hne).2,nodup_put h14⟩
  · simp only; rw [km.1,← e1]; exact hM
  · simp only; rw [kmo.1,← e2]; exact h7
  · rcases mem_put h14 hkd with rfl | ⟨hkd,hne⟩
    · exact ⟨hd,h9,f2⟩
    · obtain ⟨_,a,b,_,_⟩:=h11 kd hkd hne
      exact ⟨(ko kd hkd hne).1,a,b⟩
theorem J80 {blk:Nat} {id due fin:Int} {s:Option Addr} {n c:Nat} {l:List Pc} (hb:hp blk=.cells 135 [.int .i64 id,.int .i64 due,.int .i64 fin,.slice s n c] 0) (hr:Row hp s n c 29 6 (l.flatMap pc)) (hl:l.length=n) (hn:n≤1000000)
    (hK:∀ hp' rb,DgR hp' ⟨blk,rb,id,due,if p.more then fin else p.toW,l++[p]⟩→Fr2 hp hp' blk rb s→F80_j3 (some ⟨q,0,none⟩) (pc p) hp' K) :
    F80_j1 (some ⟨q,0,none⟩) (some ⟨blk,0,none⟩) (pc p) hp K:=by
  have hc:∀ hp',HSub hp hp'→∀ o,hp'.cell blk o=[Value.int .i64 id,.int .i64 due,.int .i64 fin,.slice s n c][o]?:=fun hp' hs o=>HP.cell_of (hs.cells hb)
  have hz:splice [(Value.string ⟨#[]⟩),(Value.string ⟨#[]⟩),(Value.int .i64 0),(Value.bool false),(Value.string ⟨#[]⟩),(Value.string ⟨#[]⟩)] 0 (pc p)=pc p:=splice_all rfl
  have tail:∀ b,hp b=.none→opS Try.prog (Builtin.append_ #[26,26] 26 ⟨[.slice s n c,.slice (some ⟨b,0,none⟩) 1 1]⟩) (hp.set b (.cells 29 (pc p) 0)) fun u h=>slcV u fun a n c=>HP.st h blk 3 (.slice a n c) fun h=>F80_j2 (some ⟨q,0,none⟩) (some ⟨blk,0,none⟩) (pc p) h K:=by
    intro b hbn
    have sb:=HSub.set_fresh hp (.cells 29 (pc p) 0) hbn
    refine opS_appF (e:=29) (size:=6) (bytes:=80) (by kernel_rfl) (hr.sub sb) (.inr ⟨b,0,rfl,by rw [HP.cellN_of (HP.set_eq ..)]; exact cellsN_all rfl⟩) (pc_one p) (by omega) (by omega) ?_
    intro s3 c3 hp3 hrow hf
    rw [slcV_slice]
    rcases hrow with ⟨_,h0,_,_⟩ | ⟨rb,rfl,hnc,_,hrb⟩
    · omega
    have hb3:hp3 blk=.cells 135 [.int .i64 id,.int .i64 due,.int .i64 fin,.slice s n c] 0:=by
      have:=(hf (HP.onlyF blk (.cells 135 [.int .i64 id,.int .i64 due,.int .i64 fin,.slice s n c] 0)) (HSub.onlyF (sb.cells hb)) (fun b' e=>by
        refine HP.onlyF_ne _ fun e'=>?_
        rcases hr with ⟨h0,_,_,_⟩ | ⟨b2,h0,_,_,h3⟩
        · rw [h0] at e; cases e
        · rw [h0] at e; cases e; rw [e',hb] at h3; cases h3)).1
      exact this.cells (HP.onlyF_eq ..)
    have hne:rb≠blk:=fun e=>by rw [e,hb3] at hrb; cases hrb
    have fr:∀ v,Fr2 hp (hp3.set blk v) blk rb s:=fun v h0 g1 g2 g3=>by
      obtain ⟨k1,k2⟩:=hf h0 (g1.trans sb) g3
      exact ⟨k1.up g2 _,k2 rb rfl⟩
    refine HP.st_at hb3 (by simp) ?_
    have hfl:l.flatMap pc++pc p=(l++[p]).flatMap pc:=by simp
    rw [hfl] at hrb
    have dg:∀ fin':Int,DgR (hp3.set blk (.cells 135 [.int .i64 id,.int .i64 due,.int .i64 fin',.slice (some ⟨rb,0,none⟩) (n+1) c3] 0)) ⟨blk,rb,id,due,fin',l++[p]⟩:=fun fin'=>by
      refine ⟨by simp,c3,by simp [hl]; exact hnc,?_,?_⟩
      · simp only; rw [HP.set_eq]; simp [hl]
      · simp only; rw [HP.set_ne _ _ hne,hrb]; simp [hl]
    unfold F80_j2
    have k3:(pc p)[3]?=some (.bool p.more):=rfl
    simp only [k3,ldV_some,boolV_bool]
    cases hm:p.more
    · rw [Bool.not_false,ite2_true,cellsN_all (pc_len p),ldL_some]
      refine C122 ?_
      rw [intV_int,ptrN_some]
      refine HP.st_at (HP.set_eq ..) (by simp) ?_
      rw [HP.set_set]
      have:=hK _ rb (by rw [hm]; exact dg p.toW) (fr _)
      exact this
    · rw [Bool.not_true,ite2_false]
      exact hK _ rb (by rw [hm]; exact dg fin) (fr _)
  unfold F80_j1
  refine ⟨?_,?_⟩
  · simp only [ptrN_some,hc hp (HSub.refl _),Nat.zero_add,List.getElem?_cons_succ,List.getElem?_cons_zero,ldV_some,slcV_slice,cellsN_all (pc_len p),ldL_some,hz]
    refine ifI (pc_len p) ?_
    exact tail
  · simp only [ptrN_some,cellsN_all (pc_len p),ldL_some,hz]
    refine ifI (pc_len p) ?_
    intro b hbn
    simp only [hc _ (HSub.set_fresh hp (.cells 29 (pc p) 0) hbn),Nat.zero_add,List.getElem?_cons_succ,List.getElem?_cons_zero,ldV_some,slcV_slice]
    exact tail b hbn
def takeS (S:Stt) (p:Pc) (last:Int) (d':Dg):Stt:=
  { S with last:=last,n:=IntKind.wrap .i64 (S.n+1),D:=putL p.key d' S.D,of:=putL p.src (IntKind.wrap .i64 ((getL p.src S.of).getD 0+1)) S.of }
theorem J80c {hp':HP} (h:StR hp0 hp' q m mo S) (hK:∀ hp2,Stp q m mo hp' S hp2 { S with n:=IntKind.wrap .i64 (S.n+1),of:=putL p.src (IntKind.wrap .i64 ((getL p.src S.of).getD 0+1)) S.of }→K (.tuple ⟨[]⟩) hp2):F80_j3 (some ⟨q,0,none⟩) (pc p) hp' K:=by
  unfold F80_j3
  have c5:∀ S:Stt,(stc S m mo)[5]?=some (.map (some mo)):=fun _=>rfl
  have c3:∀ S:Stt,(stc S m mo)[3]?=some (.int .i64 S.n):=fun _=>rfl
  have k1:(pc p)[1]?=some (.string p.src):=rfl
  simp only [ptrN_some,h.cell,Nat.zero_add,c3,ldV_some,intV_int]
  refine HP.st_at h.2.2.2.2.2.1 (by simp [stc]) ?_
  have e1:(stc S m mo).set 3 (.int .i64 (IntKind.wrap .i64 (S.n+1)))=stc { S with last:=S.last,n:=IntKind.wrap .i64 (S.n+1) } m mo:=rfl
  rw [e1]
  have s1:Stp q m mo hp' S _ _:=Stp.own (last:=S.last) (n:=IntKind.wrap .i64 (S.n+1))
  have g1:=s1 hp0 h
  generalize hp'.set q (.cells 130 (stc { S with last:=S.last,n:=IntKind.wrap .i64 (S.n+1) } m mo) 0)=hp2 at s1 g1 ⊢
  simp only [g1.cell,c5,ldV_some,mapV_map,k1,strV_string]
  refine rdS_lookup u97 enc9 zj g1.mapOf p.src ?_
  simp only [Bool.false_eq_true,if_false,jw_get,intV_int]
  refine opS_mapUpdate u97 enc9 (ev:=jw) g1.mapOf p.src (IntKind.wrap .i64 ((getL p.src S.of).getD 0+1)) ?_
  intro e he
  exact hK _ (s1.trans (Stp.ofs he))
theorem put_map_congr {κ ν β:Type} [DecidableEq κ] {f:κ × ν→β} {k:κ} {v u:ν} (e:f (k,v)=f (k,u)):∀ l:List (κ × ν),(putL k v l).map f=(putL k u l).map f
  | []=>by simp only [putL,List.map_cons,List.map_nil,e]
  | p::l=>by
    by_cases hk:k=p.1
    · subst hk; simp only [putL,if_true,List.map_cons,e]
    · simp only [putL,hk,if_false,List.map_cons,put_map_congr e l]
def Took (S:Stt) (p:Pc) (due last':Int) (d':Dg):Prop:=
  (getL p.key S.D=none∧last'=IntKind.wrap .i64 (S.last+1)∧d'.id=last'∧d'.due=due∧d'.fin=(if p.more then -1 else p.toW)∧d'.l=[p]) ∨
  ∃ d,getL p.key S.D=some d∧last'=S.last∧d'.id=d.id∧d'.due=d.due∧d'.fin=(if p.more then d.fin else p.toW)∧d'.l=d.l++[p]
theorem C80 {due:Int} (h:StR hp0 hp q m mo S) (hlen:∀ d,getL p.key S.D=some d→d.l.length≤100000)
    (hK:∀ hp' d' last',Took S p due last' d'→Stp q m mo hp S hp' (takeS S p last' d')→K (.tuple ⟨[]⟩) hp'):CF Try.prog 80 [ptr q 0,.agg ⟨pc p⟩,.int .i64 due] hp K:=by
  refine F80_ok _ (pc p) due hp K ?_
  unfold F80
  have c4:∀ S:Stt,(stc S m mo)[4]?=some (.map (some m)):=fun _=>rfl
  have c2:∀ S:Stt,(stc S m mo)[2]?=some (.int .i64 S.last):=fun _=>rfl
  have k0:(pc p)[0]?=some (.string p.key):=rfl
  simp only [ptrN_some,h.cell,Nat.zero_add,c4,k0,ldV_some,mapV_map,strV_string]
  refine rdS_lookup u128 enc9 zpt h.mapD p.key ?_
  simp only [if_true,tup2V_mk,boolV_bool]
  cases hg:getL p.key S.D with
  | none=>
    simp only [Option.map_none,Option.getD_none,Option.isSome_none,ptrV_pointer,boolV_bool,Bool.not_false,ite2_true,ptrN_some,h.cell,Nat.zero_add,c2,ldV_some,intV_int]
    refine HP.st_at h.2.2.2.2.2.1 (by simp [stc]) ?_
    have e1:(stc S m mo).set 2 (.int .i64 (IntKind.wrap .i64 (S.last+1)))=stc { S with last:=IntKind.wrap .i64 (S.last+1),n:=S.n } m mo:=rfl
    rw [e1]
    have s1:Stp q m mo hp S _ _:=Stp.own (last:=IntKind.wrap .i64 (S.last+1)) (n:=S.n)
    have g1:=s1 hp0 h
    generalize hp.set q (.cells 130 (stc { S with last:=IntKind.wrap .i64 (S.last+1),n:=S.n } m mo) 0)=hp1 at s1 g1 ⊢
    simp only [ptrN_some,g1.cell,c2,ldV_some,intV_int]
    intro b hb
    have sb:=HSub.set_fresh hp1 (.cells 135 [.int .i64 (IntKind.wrap .i64 (S.last+1)),.int .i64 due,.int .i64 (-1),.slice none 0 0] 0) hb
    have g2:=g1.sub sb
    simp only [ptrN_some,g2.cell,c4,ldV_some,mapV_map,k0,strV_string]
    refine opS_mapUpdate u128 enc9 (ev:=dv) g2.mapD p.key ⟨b,b,0,0,0,[]⟩ ?_
    intro e he
    obtain ⟨o1,ho1⟩:=(mapE_obj g1.mapD)
    have hbm:b≠m:=fun e'=>by rw [e',ho1] at hb; cases hb
    have hb3:((hp1.set b (.cells 135 [.int .i64 (IntKind.wrap .i64 (S.last+1)),.int .i64 due,.int .i64 (-1),.slice none 0 0] 0)).set m e) b=.cells 135 [.int .i64 (IntKind.wrap .i64 (S.last+1)),.int .i64 due,.int .i64 (-1),.slice none 0 0] 0:=by
      rw [HP.set_ne _ _ hbm,HP.set_eq]
    refine J80 hb3 (l:=[]) (.inl ⟨rfl,rfl,rfl,rfl⟩) rfl (by omega) ?_
    intro hp4 rb hd4 hf4
    have st:∀ hp0',StR hp0' hp q m mo S→StR hp0' hp4 q m mo { S with last:=IntKind.wrap .i64 (S.last+1),n:=S.n,D:=putL p.key ⟨b,rb,IntKind.wrap .i64 (S.last+1),due,if p.more then -1 else p.toW,[]++[p]⟩ S.D }:=by
      intro hp0' x
      have x1:=s1 hp0' x
      have x2:=x1.sub sb
      obtain ⟨a1,a2,a3,a4,a5,a6,a7,a8,a9,a10,a11,a12⟩:=x2
      have hb0:hp0' b=.none:=x1.1.none hb
      obtain ⟨oo,ho⟩:=(mapE_obj a8)
      refine Pre.done (s:=none) ⟨a1.up a3 e,a2,a3,a4,a5,?_,?_,?_,hb0,(fun b e=>by cases e),?_,a10,a11,a12⟩ ⟨_,hb3⟩ (fun b e=>by cases e) hf4 hd4
      · rw [HP.set_ne _ _ (fun e'=>by rw [e'] at a6; obtain ⟨o,ho⟩:=(mapE_obj a7); rw [ho] at a6; cases a6)]; exact a6
      · rw [HP.set_ne _ _ a5.symm]; exact a8
      · intro d hdb
        rw [HP.set_eq]
        exact mapE_same he (put_map_congr (by simp only [dv,hdb]) _)
      · intro kd hkd _
        obtain ⟨o,ho⟩:=(mapE_obj a7)
        obtain ⟨y1,y2,y3⟩:=a9 kd hkd
        refine ⟨y1.ne (y1.ne_obj ho).1 (y1.ne_obj ho).2,y2,y3,fun e'=>?_,fun b e=>by cases e⟩
        obtain ⟨_,_,_,z,_⟩:=(x1.2.2.2.2.2.2.2.2.1 kd hkd).1
        rw [e',hb] at z; cases z
    have g4:=st hp0 h
    refine J80c g4 fun hp5 s5=>?_
    exact hK hp5 ⟨b,rb,IntKind.wrap .i64 (S.last+1),due,if p.more then -1 else p.toW,[p]⟩ (IntKind.wrap .i64 (S.last+1)) (.inl ⟨hg,rfl,rfl,rfl,rfl,rfl⟩) fun hp0' x=>s5 hp0' (st hp0' x)
  | some d=>
    simp only [Option.map_some,Option.getD_some,Option.isSome_some,dv,ptrV_pointer,boolV_bool,Bool.not_true,ite2_false]
    obtain ⟨h0,c,h1,h2,h3⟩:=h.dg hg
    have hr:Row hp (some ⟨d.rblk,0,none⟩) d.l.length c 29 6 (d.l.flatMap pc):=.inr ⟨d.rblk,rfl,h1,flat_len pc_len _,h3⟩
    refine J80 h2 hr rfl (by have:=hlen d hg; omega) ?_
    intro hp4 rb hd4 hf4
    have st:∀ hp0',StR hp0' hp q m mo S→StR hp0' hp4 q m mo { S with D:=putL p.key ⟨d.blk,rb,d.id,d.due,if p.more then d.fin else p.toW,d.l++[p]⟩ S.D }:=by
      rintro hp0' ⟨a1,a2,a3,a4,a5,a6,a7,a8,a9,a10,a11,a12⟩
      obtain ⟨y1,y2,y3⟩:=a9 _ (getL_some_mem hg)
      refine Pre.done (s:=some ⟨d.rblk,0,none⟩) ⟨a1,a2,a3,a4,a5,a6,a8,?_,y2,(fun b e=>by cases e; exact y3),?_,a10,a11,a12⟩ ⟨_,h2⟩ (fun b e=>by cases e; exact ⟨_,_,h3⟩) hf4 hd4
      · intro d2 hdb
        exact mapE_same a7 (put_same_map hg (by simp only [dv,hdb]))
      · intro kd hkd hne
        obtain ⟨z1,z2,z3⟩:=a9 kd hkd
        refine ⟨z1,z2,z3,fun e=>hne ?_,fun b e e'=>hne ?_⟩
        · have:=map_inj_of_nodup (f:=fun x:ByteArray × Dg=>x.2.blk) a10 hkd (getL_some_mem hg) e
          rw [this]
        · cases e
          have:=map_inj_of_nodup (f:=fun x:ByteArray × Dg=>x.2.rblk) a11 hkd (getL_some_mem hg) e'
          rw [this]
    have g4:=st hp0 h
    refine J80c g4 fun hp5 s5=>?_
    exact hK hp5 ⟨d.blk,rb,d.id,d.due,if p.more then d.fin else p.toW,d.l++[p]⟩ S.last (.inr ⟨d,hg,rfl,rfl,rfl,rfl,rfl⟩) fun hp0' x=>s5 hp0' (st hp0' x)
end
end Go.Proofs
set_option linter.unusedVariables false
set_option maxRecDepth 20000
namespace Go.Proofs
open Go Go.HL
def zeroW:List Value:=wh e0s e0s e0s 0
def cutS (S:Stt) (key:ByteArray) (d:Dg):Stt:={ S with n:=cutN d.l.length S.n,D:=delL key S.D,of:=cutOf d.l S.of }
def setS (S:Stt) (key:ByteArray) (d:Dg):Stt:={ S with D:=putL key d S.D }
def okDue (due:Int):Prop:=0≤due∧due≤4611686018427387904
def Room (S:Stt) (p:Pc):Prop:=match getL p.key S.D with
  | none=>¬ (p.at_=0∧p.more=false)
  | some d=>d.l.any (sameP p)=false∧fitsQ d.fin d.l p=true
inductive PutR (S:Stt) (p:Pc) (due:Int):List Value→Bool→Int→Stt→Prop
  | arg:¬ okDue due→PutR S p due zeroW false 1 S
  | form:okDue due→rightP p=false→PutR S p due zeroW false 8 S
  | again (d:Dg):okDue due→rightP p=true→getL p.key S.D=some d→d.l.any (sameP p)=true→PutR S p due zeroW false 0 S
  | clash (d:Dg):okDue due→rightP p=true→getL p.key S.D=some d→d.l.any (sameP p)=false→fitsQ d.fin d.l p=false→PutR S p due zeroW false 5 (cutS S p.key d)
  | alone:okDue due→rightP p=true→getL p.key S.D=none→p.at_=0→p.more=false→PutR S p due (wh p.key p.head p.data 1) true 0 S
  | full:okDue due→rightP p=true→Room S p→S.n≥S.max→PutR S p due zeroW false 6 S
  | state:okDue due→rightP p=true→Room S p→S.n<S.max→(getL p.src S.of).getD 0≥S.source→PutR S p due zeroW false 11 S
  | part (d':Dg) (last':Int):okDue due→rightP p=true→Room S p→S.n<S.max→(getL p.src S.of).getD 0<S.source→Took S p due last' d'→d'.fin<0→PutR S p due zeroW false 0 (takeS S p last' d')
  | none (d':Dg) (last':Int) (l':List Pc):okDue due→rightP p=true→Room S p→S.n<S.max→(getL p.src S.of).getD 0<S.source→Took S p due last' d'→0≤d'.fin →
      l'.Perm d'.l→l'.Pairwise (fun x y=>ltC cfP y x=false)→wholeQ d'.fin l'=Option.none→PutR S p due zeroW false 0 (setS (takeS S p last' d') p.key { d' with l:=l' })
  | whole (d':Dg) (last':Int) (l':List Pc) (w:ByteArray):okDue due→rightP p=true→Room S p→S.n<S.max→(getL p.src S.of).getD 0<S.source→Took S p due last' d'→0≤d'.fin →
      l'.Perm d'.l→l'.Pairwise (fun x y=>ltC cfP y x=false)→wholeQ d'.fin l'=some w →
      PutR S p due (wh p.key (headQ d'.l) w d'.l.length) true 0 (cutS (setS (takeS S p last' d') p.key { d' with l:=l' }) p.key { d' with l:=l' })
section
variable {hp0 hp:HP} {q m mo:Nat} {S:Stt} {K:Value→HP→Prop} {p:Pc}
theorem C75 (h:StR hp0 hp q m mo S) (hK:K (.bool false) hp):CF Try.prog 75 [ptr q 0] hp K:=by
  refine F75_ok _ hp K ?_
  unfold F75
  have c4:(stc S m mo)[4]?=some (.map (some m)):=rfl
  simp only [Option.isNone_some,ite2_false,ptrN_some,h.cell,Nat.zero_add,c4,ldV_some,mapV_map]
  exact hK
theorem C27 (h:StR hp0 hp q m mo S) (hK:K (.int .i64 S.n) hp):CF Try.prog 27 [ptr q 0] hp K:=by
  refine F27_ok _ hp K ?_
  unfold F27
  refine C75 h ?_
  have c3:(stc S m mo)[3]?=some (.int .i64 S.n):=rfl
  simp only [boolV_bool,ite2_false,ptrN_some,h.cell,Nat.zero_add,c3,ldV_some,intV_int]
  exact hK
theorem C25 {max source:Int} (hbad:¬ (1≤max∧max≤65536∧1≤source∧source≤65536)→K (.tuple ⟨[.pointer none,.int .i64 1]⟩) hp)
    (hok:1≤max∧max≤65536∧1≤source∧source≤65536→∀ (q m mo:Nat) (hp':HP),(∀ hp0,HSub hp0 hp→StR hp0 hp' q m mo ⟨max,source,0,0,[],[]⟩)→K (.tuple ⟨[ptr q 0,.int .i64 0]⟩) hp') :
    CF Try.prog 25 [.int .i64 max,.int .i64 source] hp K:=by
  refine F25_ok max source hp K ?_
  unfold F25
  have bad:¬ (1≤max∧max≤65536∧1≤source∧source≤65536)→F25_j1 max source true hp K:=fun h=>by
    unfold F25_j1; rw [ite2_true]; exact hbad h
  by_cases h1:max<1
  · rw [decide_eq_true h1,ite2_true]; exact bad (by omega)
  rw [decide_eq_false h1,ite2_false]
  by_cases h2:max > 65536
  · rw [decide_eq_true h2,ite2_true]; exact bad (by omega)
  rw [decide_eq_false h2,ite2_false]
  by_cases h3:source<1
  · rw [decide_eq_true h3,ite2_true]; exact bad (by omega)
  rw [decide_eq_false h3,ite2_false]
  by_cases h4:source > 65536
  · rw [decide_eq_true h4]; exact bad (by omega)
  rw [decide_eq_false h4]
  unfold F25_j1
  rw [ite2_false]
  intro b1 hb1 b2 hb2 b3 hb3
  have n21:b2≠b1:=fun e=>by rw [e,HP.set_eq] at hb2; cases hb2
  have n32:b3≠b2:=fun e=>by rw [e,HP.set_eq] at hb3; cases hb3
  have n31:b3≠b1:=fun e=>by rw [e,HP.set_ne _ _ n21.symm,HP.set_eq] at hb3; cases hb3
  have f2:hp b2=.none:=by rw [HP.set_ne _ _ n21] at hb2; exact hb2
  have f3:hp b3=.none:=by rw [HP.set_ne _ _ n32,HP.set_ne _ _ n31] at hb3; exact hb3
  refine hok ⟨by omega,by omega,by omega,by omega⟩ b3 b1 b2 _ fun hp0 hs=>?_
  refine ⟨((hs.up (hs.none hb1) _).up (hs.none f2) _).up (hs.none f3) _,hs.none f3,hs.none hb1,hs.none f2,n21.symm,HP.set_eq ..,?_,?_,(fun kd h=>by cases h),.nil,.nil,.nil⟩
  · rw [HP.set_ne _ _ n31.symm,HP.set_ne _ _ n21.symm,HP.set_eq]; exact MapE.empty _ _
  · rw [HP.set_ne _ _ n32.symm,HP.set_eq]; exact MapE.empty _ _
theorem pre_of {key:ByteArray} {d:Dg} (h:StR hp0 hp q m mo S) (hg:getL key S.D=some d):Pre hp0 hp q m mo S key d.blk (some ⟨d.rblk,0,none⟩):=by
  obtain ⟨a1,a2,a3,a4,a5,a6,a7,a8,a9,a10,a11,a12⟩:=h
  obtain ⟨y1,y2,y3⟩:=a9 _ (getL_some_mem hg)
  refine ⟨a1,a2,a3,a4,a5,a6,a8,?_,y2,(fun b e=>by cases e; exact y3),?_,a10,a11,a12⟩
  · intro d2 hdb
    exact mapE_same a7 (put_same_map hg (by simp only [dv,hdb]))
  · intro kd hkd hne
    obtain ⟨z1,z2,z3⟩:=a9 kd hkd
    refine ⟨z1,z2,z3,fun e=>hne ?_,fun b e e'=>hne ?_⟩
    · have:=map_inj_of_nodup (f:=fun x:ByteArray × Dg=>x.2.blk) a10 hkd (getL_some_mem hg) e
      rw [this]
    · cases e
      have:=map_inj_of_nodup (f:=fun x:ByteArray × Dg=>x.2.rblk) a11 hkd (getL_some_mem hg) e'
      rw [this]
theorem Stp.order {key:ByteArray} {d:Dg} {l':List Pc} {x:Ent} (hg:getL key S.D=some d) (hd:DgR hp d) (hd':DgR (hp.set d.rblk x) { d with l:=l' }):Stp q m mo hp S (hp.set d.rblk x) (setS S key { d with l:=l' }):=by
  intro hp0 h
  obtain ⟨h0,c,h1,h2,h3⟩:=hd
  exact Pre.done (d':={ d with l:=l' }) (pre_of (d:=d) h hg) ⟨_,h2⟩ (fun b e=>by cases e; exact ⟨_,_,h3⟩) (fun h0 g1 g2 g3=>⟨g1.up (g3 _ rfl) _,g3 _ rfl⟩) hd'
theorem C26 {due:Int} (h:StR hp0 hp q m mo S) (hok:okP p) (hlen:∀ d,getL p.key S.D=some d→d.l.length≤70000) (hri:∀ d,getL p.key S.D=some d→∀ x∈d.l,rightP x=true)
    (hK:∀ hp' w b e S',PutR S p due w b e S'→Stp q m mo hp S hp' S'→K (.tuple ⟨[.agg ⟨w⟩,.bool b,.int .i64 e]⟩) hp') :
    CF Try.prog 26 [ptr q 0,.agg ⟨pc p⟩,.int .i64 due] hp K:=by
  refine F26_ok _ (pc p) due hp K ?_
  unfold F26
  refine C75 h ?_
  rw [boolV_bool,ite2_false]
  have hz0:[(Value.string ⟨#[]⟩),(Value.string ⟨#[]⟩),(Value.string ⟨#[]⟩),(Value.int .i64 0)]=wh e0s e0s e0s 0:=rfl
  have whl:∀ a b c d,(wh a b c d).length=4:=fun _ _ _ _=>rfl
  have who:∀ a b c d,(wh a b c d).all one=true:=fun _ _ _ _=>rfl
  have hsp:∀ a b c d a' b' c' d',splice (wh a b c d) 0 (wh a' b' c' d')=wh a' b' c' d':=fun _ _ _ _ _ _ _ _=>splice_all rfl
  have whc:∀ a b c d,cellsN (wh a b c d) 0 4=some (wh a b c d):=fun a b c d=>cellsN_all (whl a b c d)
  have k0:(pc p)[0]?=some (.string p.key):=rfl
  have k1:(pc p)[1]?=some (.string p.src):=rfl
  have k2:(pc p)[2]?=some (.int .i64 p.at_):=rfl
  have k3:(pc p)[3]?=some (.bool p.more):=rfl
  have k4:(pc p)[4]?=some (.string p.data):=rfl
  have k5:(pc p)[5]?=some (.string p.head):=rfl
  have kN:cellsN (pc p) 0 6=some (pc p):=cellsN_all (pc_len p)
  have c0:∀ S:Stt,(stc S m mo)[0]?=some (.int .i64 S.max):=fun _=>rfl
  have c1:∀ S:Stt,(stc S m mo)[1]?=some (.int .i64 S.source):=fun _=>rfl
  have c3:∀ S:Stt,(stc S m mo)[3]?=some (.int .i64 S.n):=fun _=>rfl
  have c4:∀ S:Stt,(stc S m mo)[4]?=some (.map (some m)):=fun _=>rfl
  have c5:∀ S:Stt,(stc S m mo)[5]?=some (.map (some mo)):=fun _=>rfl
  have bad:¬ okDue due→F26_j1 (some ⟨q,0,none⟩) due true (pc p) [(Value.string ⟨#[]⟩),(Value.string ⟨#[]⟩),(Value.string ⟨#[]⟩),(Value.int .i64 0)] hp K:=by
    intro hd
    unfold F26_j1
    simp only [ite2_true,hz0,whl,who,if_true,hsp,whc,ldL_some]
    exact ifI (Nat.le_refl _) (hK _ _ _ _ _ (.arg hd) Stp.refl)
  by_cases hd1:due<0
  · rw [decide_eq_true hd1,ite2_true]; exact bad (by unfold okDue; omega)
  rw [decide_eq_false hd1,ite2_false]
  by_cases hd2:due > 4611686018427387904
  · rw [decide_eq_true hd2]; exact bad (by unfold okDue; omega)
  rw [decide_eq_false hd2]
  have hod:okDue due:=⟨by omega,by omega⟩
  unfold F26_j1
  rw [ite2_false,kN,ldL_some]
  refine C67 hok ?_
  rw [boolV_bool]
  cases hrp:rightP p
  · simp only [Bool.not_false,ite2_true,hz0,whl,who,if_true,hsp,whc,ldL_some]
    exact ifI (Nat.le_refl _) (hK _ _ _ _ _ (.form hod hrp) Stp.refl)
  rw [Bool.not_true,ite2_false]
  simp only [ptrN_some,h.cell,Nat.zero_add,c4,k0,ldV_some,mapV_map,strV_string]
  refine rdS_lookup u128 enc9 zpt h.mapD p.key ?_
  simp only [if_true,tup2V_mk,boolV_bool]
  have four:Room S p→F26_j4 (some ⟨q,0,none⟩) due false (pc p) (wh e0s e0s e0s 0) hp K:=by
    intro hroom
    unfold F26_j4
    simp only [ite2_false,ptrN_some,h.cell,Nat.zero_add,c3,c0,ldV_some,intV_int,hz0,whl,who,if_true,hsp,whc,ldL_some,Nat.le_refl]
    by_cases hf:S.n≥S.max
    · rw [decide_eq_true hf,ite2_true]
      exact hK _ _ _ _ _ (.full hod hrp hroom hf) Stp.refl
    rw [decide_eq_false hf,ite2_false]
    simp only [c5,c1,k1,ldV_some,mapV_map,strV_string]
    refine rdS_lookup u97 enc9 zj h.mapOf p.src ?_
    simp only [Bool.false_eq_true,if_false,jw_get,intV_int]
    by_cases hs:(getL p.src S.of).getD 0≥S.source
    · rw [decide_eq_true hs,ite2_true]
      exact hK _ _ _ _ _ (.state hod hrp hroom (by omega) hs) Stp.refl
    rw [decide_eq_false hs,ite2_false,kN,ldL_some]
    refine C80 h (fun d hg=>by have:=hlen d hg; omega) ?_
    intro hp1 d' last' htook s1
    have g1:=s1 hp0 h
    have hg1:getL p.key (takeS S p last' d').D=some d':=by
      unfold takeS; simp only [getL_put,if_true]
    have hll:d'.l.length≤100000:=by
      rcases htook with ⟨_,_,_,_,_,e⟩ | ⟨d,hg,_,_,_,_,e⟩
      · rw [e]; simp
      · rw [e,List.length_append]; have:=hlen d hg; simp only [List.length_cons,List.length_nil]; omega
    have hrr:∀ x∈d'.l,rightP x=true:=by
      rcases htook with ⟨_,_,_,_,_,e⟩ | ⟨d,hg,_,_,_,_,e⟩
      · rw [e]; intro x hx; rw [List.mem_singleton] at hx; rw [hx]; exact hrp
      · rw [e]; intro x hx
        rw [List.mem_append,List.mem_singleton] at hx
        rcases hx with hx | hx
        · exact hri d hg x hx
        · rw [hx]; exact hrp
    simp only [ptrN_some,g1.cell,Nat.zero_add,c4,k0,ldV_some,mapV_map,strV_string]
    refine rdS_lookup u128 enc9 zpt g1.mapD p.key ?_
    simp only [Bool.false_eq_true,if_false,hg1,Option.map_some,Option.getD_some,dv,ptrV_pointer]
    refine C81 (g1.dg hg1) hll hrr ?_ ?_
    · intro hneg
      simp only [tup2V_mk,aggV_agg,boolV_bool,whl,who,if_true,hsp,Nat.zero_add,Nat.le_refl,ite2_false]
      unfold F26_j5
      simp only [whl,who,if_true,hsp,whc,ldL_some,Nat.zero_add,Nat.le_refl]
      exact hK _ _ _ _ _ (.part d' last' hod hrp hroom (by omega) (by omega) htook hneg) s1
    · intro hpos l' x hperm hsort hd2
      have s2:=s1.trans (Stp.order hg1 (g1.dg hg1) hd2)
      generalize hp1.set d'.rblk x=hp2 at s2 hd2 ⊢
      cases hw:wholeQ d'.fin l' with
      | none=>
        simp only [whO,Option.isSome_none,tup2V_mk,aggV_agg,boolV_bool,whl,who,if_true,hsp,Nat.zero_add,Nat.le_refl,ite2_false]
        unfold F26_j5
        simp only [whl,who,if_true,hsp,whc,ldL_some,Nat.zero_add,Nat.le_refl]
        exact hK _ _ _ _ _ (.none d' last' l' hod hrp hroom (by omega) (by omega) htook hpos hperm hsort hw) s2
      | some w=>
        simp only [whO,Option.isSome_some,tup2V_mk,aggV_agg,boolV_bool,whl,who,if_true,hsp,Nat.zero_add,Nat.le_refl,ite2_true,k0,ldV_some,strV_string]
        have g2:=s2 hp0 h
        have hg2:getL p.key (setS (takeS S p last' d') p.key { d' with l:=l' }).D=some { d' with l:=l' }:=by
          unfold setS; simp only [getL_put,if_true]
        refine C79 g2 hg2 (by simp only; rw [hperm.length_eq]; omega) ?_
        intro hp3 s3
        unfold F26_j5
        simp only [whl,who,if_true,hsp,whc,ldL_some,Nat.zero_add,Nat.le_refl]
        exact hK _ _ _ _ _ (.whole d' last' l' w hod hrp hroom (by omega) (by omega) htook hpos hperm hsort hw) (s2.trans s3)
  cases hg:getL p.key S.D with
  | none=>
    simp only [Option.map_none,Option.getD_none,Option.isSome_none,ptrV_pointer,boolV_bool,ite2_false,hz0]
    unfold F26_j2
    simp only [ite2_false]
    unfold F26_j3
    simp only [ite2_false,Bool.not_false,ite2_true,k2,k3,ldV_some,intV_int,boolV_bool]
    by_cases ha:p.at_=0
    · have e:(p.at_==0)=true:=by simpa using ha
      rw [e,ite2_true]
      cases hm:p.more
      · rw [Bool.not_false]
        unfold F26_j4
        have hl3:[Value.string p.key,.string p.head,.string p.data,.int .i64 1]=wh p.key p.head p.data 1:=rfl
        simp only [ite2_true,k0,k4,k5,ldV_some,strV_string,hl3,whl,who,if_true,hsp,whc,ldL_some,Nat.zero_add,Nat.le_refl]
        exact hK _ _ _ _ _ (.alone hod hrp hg ha hm) Stp.refl
      · rw [Bool.not_true]
        exact four (by unfold Room; rw [hg]; simp [hm])
    · have e:(p.at_==0)=false:=by simpa using ha
      rw [e,ite2_false]
      exact four (by unfold Room; rw [hg]; simp [ha])
  | some d=>
    simp only [Option.map_some,Option.getD_some,Option.isSome_some,dv,ptrV_pointer,boolV_bool,ite2_true,ptrN_some,Nat.zero_add,hz0]
    have hdg:=h.dg hg
    have hl19:=hlen d hg
    obtain ⟨h0,c,h1,h2,h3⟩:=hdg
    have hc:∀ o,hp.cell d.blk o=[Value.int .i64 d.id,.int .i64 d.due,.int .i64 d.fin,.slice (some ⟨d.rblk,0,none⟩) d.l.length c][o]?:=fun o=>HP.cell_of h2
    have sh:Shows hp (some ⟨d.rblk,0,none⟩) d.l.length 6 (d.l.flatMap pc):=.inr ⟨d.rblk,0,rfl,by rw [HP.cellN_of h3]; exact cellsN_all (by rw [flat_len pc_len])⟩
    simp only [hc,List.getElem?_cons_succ,List.getElem?_cons_zero,ldV_some,slcV_slice,kN,ldL_some]
    refine C76 (g:=sameP p) sh rfl (by omega) (fun x _ K' hK'=>C77 hK') ?_
    rw [boolV_bool]
    unfold F26_j2
    cases hany:d.l.any (sameP p)
    rotate_left
    · simp only [ite2_true,hz0,whl,who,if_true,hsp,whc,ldL_some,Nat.zero_add,Nat.le_refl]
      exact hK _ _ _ _ _ (.again d hod hrp hg hany) Stp.refl
    simp only [ite2_false,ite2_true,kN,ldL_some]
    refine C78 (h.dg hg) (by omega) ?_
    rw [boolV_bool]
    unfold F26_j3
    cases hfit:fitsQ d.fin d.l p
    · simp only [Bool.not_false,ite2_true,k0,ldV_some,strV_string]
      refine C79 h hg (by omega) ?_
      intro hp3 s3
      simp only [hz0,whl,who,if_true,hsp,whc,ldL_some,Nat.zero_add,Nat.le_refl]
      exact hK _ _ _ _ _ (.clash d hod hrp hg hany hfit) s3
    · simp only [Bool.not_true,ite2_false]
      exact four (by unfold Room; rw [hg]; exact ⟨hany,hfit⟩)
end
end Go.Proofs
set_option linter.unusedVariables false
namespace Go.HL
open Go
def ssT {T:Type} (en:T→ByteArray) (x:T):List Value:=[sw (en x)]
theorem ss_len {T:Type} {en:T→ByteArray} (x:T):(ssT en x).length=1:=rfl
def CmpOk1 {T:Type} (P:Program) (f:FuncId) (ga gb:List Value) (hp0:HP) (b:Nat) (e:TypeId) (sp:Nat) (n:Nat) (cf:T→T→Int) (en:T→ByteArray):Prop:=
  ∀ (d:Array T) (x y:T) (K:Value→HP→Prop),d.size=n→x∈d.toList→y∈d.toList→K (.int .i64 (cf x y)) (HA hp0 b e sp (ssT en) d)→CF P f (ga++[.string (en x),.string (en y)]++gb) (HA hp0 b e sp (ssT en) d) K
def CmpX1 {T:Type} (P:Program) (f:FuncId) (ga gb:List Value) (hp0:HP) (b:Nat) (e:TypeId) (sp:Nat) (n:Nat) (cf:T→T→Int) (en:T→ByteArray):Prop:=
  ∀ hp1,HSub hp0 hp1→CmpOk1 P f ga gb hp1 b e sp n cf en
section
variable {P:Program} {f:FuncId} {ga gb:List Value} {hp0:HP} {b:Nat} {e:TypeId} {sp n:Nat} {T:Type} [Inhabited T] {en:T→ByteArray} {cf:T→T→Int} {d:Array T}
omit [Inhabited T] in
theorem CmpX1.ok (h:CmpX1 P f ga gb hp0 b e sp n cf en):CmpOk1 P f ga gb hp0 b e sp n cf en:=h hp0 (HSub.refl _)
theorem at_mem {i:Nat} (hi:i<d.size):d[i]! ∈ d.toList:=by
  rw [getElem!_pos d i hi]; simp
theorem cmpP1 (hc:CmpOk1 P f ga gb hp0 b e sp n cf en) {I J:Int} {i j:Nat} {X:Int→HP→Prop} (hs:d.size=n) (hI:I=i) (hJ:J=j) (hi:i<n) (hj:j<n)
    (h:X (cf d[i]! d[j]!) (HA hp0 b e sp (ssT en) d)) :
    ((0≤I)∧(I<(n:Nat))∧(ptrN (some ⟨b,0,none⟩) fun b1 o2=>(ldV (HP.cell (HA hp0 b e sp (ssT en) d) b1 (o2+Int.toNat I*1)) fun v3=>(strV v3 fun s3=>((0≤J)∧(J<(n:Nat))∧(ptrN (some ⟨b,0,none⟩) fun b4 o5=>(ldV (HP.cell (HA hp0 b e sp (ssT en) d) b4 (o5+Int.toNat J*1)) fun v6=>(strV v6 fun s6=>
      (fnV (.func (.func f) ⟨ga⟩ ⟨gb⟩) fun f7 ga8 gb9=>(CF P f7 (ga8++[(Value.string s3),(Value.string s6)]++gb9) (HA hp0 b e sp (ssT en) d) fun u10 h11=>(intV u10 .i64 fun i12=>X i12 h11))))))))))):=by
  subst hI hJ
  have g1:=HA.get1 (hp0:=hp0) (b:=b) (e:=e) (sp:=sp) (en:=fun x=>sw (en x)) (d:=d) (i:=i) (by omega)
  have g2:=HA.get1 (hp0:=hp0) (b:=b) (e:=e) (sp:=sp) (en:=fun x=>sw (en x)) (d:=d) (i:=j) (by omega)
  have hss:(fun x=>[sw (en x)])=(ssT en):=rfl
  rw [hss] at g1 g2
  simp only [ptrN_some,Int.toNat_natCast,g1,g2,ldV_some,fnV_mk,sw,strV_string]
  refine ⟨by omega,by omega,by omega,by omega,?_⟩
  refine hc d _ _ _ hs (at_mem (by omega)) (at_mem (by omega)) ?_
  rw [intV_int]
  exact h
theorem swapP1 {I J:Int} {i j:Nat} {X:HP→Prop} (hs:d.size=n) (hI:I=i) (hJ:J=j) (hi:i<n) (hj:j<n)
    (h:X (HA hp0 b e sp (ssT en) (Sort.swp d i j))) :
    ((0≤J)∧(J<(n:Nat))∧(ptrN (some ⟨b,0,none⟩) fun b1 o2=>(ldV (HP.cell (HA hp0 b e sp (ssT en) d) b1 (o2+Int.toNat J*1)) fun v3=>(strV v3 fun s3=>((0≤I)∧(I<(n:Nat))∧(ptrN (some ⟨b,0,none⟩) fun b4 o5=>(ldV (HP.cell (HA hp0 b e sp (ssT en) d) b4 (o5+Int.toNat I*1)) fun v6=>(strV v6 fun s6=>
      ((0≤I)∧(I<(n:Nat))∧(ptrN (some ⟨b,0,none⟩) fun b7 o8=>(HP.st (HA hp0 b e sp (ssT en) d) b7 (o8+Int.toNat I*1) (Value.string s3) fun h9=>((0≤J)∧(J<(n:Nat))∧(ptrN (some ⟨b,0,none⟩) fun b10 o11=>(HP.st h9 b10 (o11+Int.toNat J*1) (Value.string s6) fun h12=>X h12)))))))))))))):=by
  subst hI hJ
  have g1:=HA.get1 (hp0:=hp0) (b:=b) (e:=e) (sp:=sp) (en:=fun x=>sw (en x)) (d:=d) (i:=i) (by omega)
  have g2:=HA.get1 (hp0:=hp0) (b:=b) (e:=e) (sp:=sp) (en:=fun x=>sw (en x)) (d:=d) (i:=j) (by omega)
  have hss:(fun x=>[sw (en x)])=(ssT en):=rfl
  rw [hss] at g1 g2
  simp only [ptrN_some,Int.toNat_natCast,g1,g2,ldV_some,sw,strV_string]
  refine ⟨by omega,by omega,by omega,by omega,by omega,by omega,?_⟩
  refine HA.st1 (en:=fun x=>sw (en x)) (by omega) _ ?_
  refine ⟨by omega,by omega,?_⟩
  refine HA.st1 (en:=fun x=>sw (en x)) (by rw [Array.size_setIfInBounds]; omega) _ ?_
  exact h
end
end Go.HL
set_option linter.unusedVariables false
set_option maxRecDepth 20000
namespace Go.Proofs
open Go Go.HL
section
variable {e E:Env} {x0a:OA} {x0n x0c:Nat} {x1 x2:Int} {x3:Value} {x8 x9:Int} {hp:HP} {K:Env→PV→HP→Prop}
abbrev R180 (p n:Nat):=RW Try.prog 53 [] (opsAt Try.f180 (pth p)) (List.range n)
theorem F180_r0:R180 33 3 (w2 e 8 (sI x8) 2 (sI x2)) V0 hp K=
 K (w5 e 8 (sI x8) 2 (sI x2) 12 (sI x8) 13 (sI x2) 14 (sB (decide (x8<x2)))) V0 hp:= by kernel_rfl
theorem F180_r1:R180 57 3 (upd e 8 (sI x8)) V0 hp K=
 K (w4 e 8 (sI x8) 15 (sI x8) 16 (sI ((wr (x8+1)))) 8 (sI ((wr (x8+1))))) V0 hp:= by kernel_rfl
def F180_j3 (x0a:OA) (x0n x0c:Nat) (x1 x2:Int) (x3:Value) (x8:Int) (hp:HP) (I2:(Int)→HP→Prop) (K:Kh):Prop:=
  (I2 (IntKind.wrap .i64 (x8+1)) hp)
theorem F180_r2:R180 4681 18 (w2 e 9 (sI x9) 0 (sS x0a x0n x0c)) V0 hp K=
    ((0≤((wr (x9-1)):Int))∧(((wr (x9-1)):Int)<x0n)∧(ptrN x0a fun b1 o2=>ldV (HP.cell hp b1 (o2+Int.toNat (wr (x9-1))*1)) fun v3=>strV v3 fun s4=>(0≤x9)∧(x9<x0n)∧(ptrN x0a fun b5 o6=>ldV (HP.cell hp b5 (o6+Int.toNat x9*1)) fun v7=>strV v7 fun s8=>(0≤x9)∧(x9<x0n)∧(ptrN x0a fun b9 o10=>HP.st hp b9 (o10+Int.toNat x9*1) (.string s4) fun h11=>(0≤((wr (x9-1)):Int))∧(((wr (x9-1)):Int)<x0n)∧(ptrN x0a fun b12 o13=>HP.st h11 b12 (o13+Int.toNat (wr (x9-1))*1) (.string s8) fun h14=>K (w2 (w8 (w8 e 9 (sI x9) 0 (sS x0a x0n x0c) 37 (sS x0a x0n x0c) 38 (sI x9) 39 (sS x0a x0n x0c) 40 (sI x9) 41 (sI ((wr (x9-1)))) 42 (sS x0a x0n x0c)) 43 (sI x9) 44 (sI ((wr (x9-1)))) 45 (sV (ptr b1 (o2+Int.toNat (wr (x9-1))*1))) 46 (sT s4) 47 (sS x0a x0n x0c) 48 (sI x9) 49 (sQ b5 (o6+Int.toNat x9*1)) 50 (sT s8)) 51 (sQ b9 (o10+Int.toNat x9*1)) 52 (sV (ptr b12 (o13+Int.toNat (wr (x9-1))*1)))) V0 h14))))):=by kernel_rfl
theorem F180_r3:R180 3657 3 (upd e 9 (sI x9)) V0 hp K=
 K (w4 e 9 (sI x9) 35 (sI x9) 36 (sI ((wr (x9-1)))) 9 (sI ((wr (x9-1))))) V0 hp:= by kernel_rfl
def F180_j6 (x0a:OA) (x0n x0c:Nat) (x1 x2:Int) (x3:Value) (x8 x9:Int) (x34:Bool) (hp:HP) (I2 I5:(Int)→HP→Prop) (K:Kh):Prop:=
  (ite2 x34 ((0≤((IntKind.wrap .i64 (x9-1)):Int))∧(((IntKind.wrap .i64 (x9-1)):Int)<x0n)∧(ptrN x0a fun b1 o2=>ldV (HP.cell hp b1 (o2+Int.toNat (IntKind.wrap .i64 (x9-1))*1)) fun v3=>strV v3 fun s4=>(0≤x9)∧(x9<x0n)∧(ptrN x0a fun b5 o6=>ldV (HP.cell hp b5 (o6+Int.toNat x9*1)) fun v7=>strV v7 fun s8=>(0≤x9)∧(x9<x0n)∧(ptrN x0a fun b9 o10=>HP.st hp b9 (o10+Int.toNat x9*1) (.string s4) fun h11=>(0≤((IntKind.wrap .i64 (x9-1)):Int))∧(((IntKind.wrap .i64 (x9-1)):Int)<x0n)∧(ptrN x0a fun b12 o13=>HP.st h11 b12 (o13+Int.toNat (IntKind.wrap .i64 (x9-1))*1) (.string s8) fun h14=>I5 (IntKind.wrap .i64 (x9-1)) h14))))) (F180_j3 x0a x0n x0c x1 x2 x3 x8 hp I2 K))
theorem F180_r4 (h:E=upd (w3 e 9 (sI x9) 3 (sV x3) 1 (sI x1)) 0 (sS x0a x0n x0c)):R180 2121 17 E V0 hp K=
    (ite2 (decide (x9 > x1)) ((0≤x9)∧(x9<x0n)∧(ptrN x0a fun b1 o2=>ldV (HP.cell hp b1 (o2+Int.toNat x9*1)) fun v3=>strV v3 fun s4=>(0≤((wr (x9-1)):Int))∧(((wr (x9-1)):Int)<x0n)∧(ptrN x0a fun b5 o6=>ldV (HP.cell hp b5 (o6+Int.toNat (wr (x9-1))*1)) fun v7=>strV v7 fun s8=>fnV x3 fun f9 ga10 gb11=>CF Try.prog f9 (ga10++[(Value.string s4),(.string s8)]++gb11) hp fun u12 h13=>intV u12 .i64 fun i14=>K (upd (w8 (w8 E 18 (sI x9) 19 (sI x1) 20 (sB (decide (x9 > x1))) 21 (sB true) 22 (sV x3) 23 (sS x0a x0n x0c) 24 (sI x9) 25 (sQ b1 (o2+Int.toNat x9*1))) 26 (sT s4) 27 (sS x0a x0n x0c) 28 (sI x9) 29 (sI ((wr (x9-1)))) 30 (sV (ptr b5 (o6+Int.toNat (wr (x9-1))*1))) 31 (sT s8) 32 (sI i14) 33 (sB (decide (i14<0)))) 34 (sB (decide (i14<0)))) V0 h13))) (K (upd (w8 (w8 E 18 (sI x9) 19 (sI x1) 20 (sB (decide (x9 > x1))) 21 (sB false) 22 sU 23 sU 24 sU 25 sU) 26 sU 27 sU 28 sU 29 sU 30 sU 31 sU 32 sU 33 sU) 34 (sB false)) V0 hp)):=by subst h; kernel_rfl
def F180_l5 (x0a:OA) (x0n x0c:Nat) (x1 x2:Int) (x3:Value) (x8:Int) (I2:(Int)→HP→Prop) (K:Kh) (I5:(Int)→HP→Prop) (x9:Int) (hp:HP):Prop:=
  (ite2 (decide (x9 > x1)) ((0≤x9)∧(x9<x0n)∧(ptrN x0a fun b15 o16=>ldV (HP.cell hp b15 (o16+Int.toNat x9*1)) fun v17=>strV v17 fun s18=>(0≤((IntKind.wrap .i64 (x9-1)):Int))∧(((IntKind.wrap .i64 (x9-1)):Int)<x0n)∧(ptrN x0a fun b19 o20=>ldV (HP.cell hp b19 (o20+Int.toNat (IntKind.wrap .i64 (x9-1))*1)) fun v21=>strV v21 fun s22=>fnV x3 fun f23 ga_24 gb_25=>CF Try.prog f23 (ga_24++[(Value.string s18),(.string s22)]++gb_25) hp fun u26 h27=>intV u26 .i64 fun i28=>F180_j6 x0a x0n x0c x1 x2 x3 x8 x9 (decide (i28<0)) h27 I2 I5 K))) (F180_j6 x0a x0n x0c x1 x2 x3 x8 x9 false hp I2 I5 K))
def F180_j4 (x0a:OA) (x0n x0c:Nat) (x1 x2:Int) (x3:Value) (x8 x9:Int) (hp:HP) (I2:(Int)→HP→Prop) (K:Kh):Prop:=
  (LoopP (σ:=Int) (fun I s hp=>F180_l5 x0a x0n x0c x1 x2 x3 x8 I2 K I s hp) x9 hp)
theorem F180_r5:R180 137 2 (upd e 8 (sI x8)) V0 hp K=
 K (w3 e 8 (sI x8) 17 (sI x8) 9 (sI x8)) V0 hp:= by kernel_rfl
def F180_l2 (x0a:OA) (x0n x0c:Nat) (x1 x2:Int) (x3:Value) (K:Kh) (I2:(Int)→HP→Prop) (x8:Int) (hp:HP):Prop:=
  (ite2 (decide (x8<x2)) (F180_j4 x0a x0n x0c x1 x2 x3 x8 x8 hp I2 K) (K (.tuple ⟨[]⟩) hp))
def F180_j1 (x0a:OA) (x0n x0c:Nat) (x1 x2:Int) (x3:Value) (x8:Int) (hp:HP) (K:Kh):Prop:=
  (LoopP (σ:=Int) (fun I s hp=>F180_l2 x0a x0n x0c x1 x2 x3  K I s hp) x8 hp)
theorem F180_r6:R180 2 3 (upd e 1 (sI x1)) V0 hp K=
 K (w4 e 1 (sI x1) 10 (sI x1) 11 (sI ((wr (x1+1)))) 8 (sI ((wr (x1+1))))) V0 hp:= by kernel_rfl
def F180 (x0a:OA) (x0n x0c:Nat) (x1 x2:Int) (x3:Value) (hp:HP) (K:Kh):Prop:=
  (F180_j1 x0a x0n x0c x1 x2 x3 (IntKind.wrap .i64 (x1+1)) hp  K)
noncomputable abbrev o180 (k n:Nat):Code:=.region k (opsAt Try.f180 (pth n)) false
noncomputable def F180_code:Code:=(.seq (o180 0 2) (.block 0 (.loop (.seq (.seq (o180 1 33) (.cond (.tmp 14) .skip (.exit 0))) (.seq (.block 1 (.seq (o180 3 137) (.block 2 (.loop (.seq (.seq (.region 4 (opsAt Try.f180 (pth 2121)) true) (.cond (.tmp 34) .skip (.exit 2))) (.seq (.block 3 (.region 6 (opsAt Try.f180 (pth 4681)) true)) (o180 5 3657))))))) (o180 2 57))))))
theorem F180_body:Try.f180.body=some F180_code:=by kernel_rfl
theorem F180_ok (x0a:OA) (x0n x0c:Nat) (x1 x2:Int) (x3:Value) (hp:HP) (K:Kh) (h:F180 x0a x0n x0c x1 x2 x3 hp K):CF Try.prog 180 [(.slice x0a x0n x0c),(.int .i64 x1),(.int .i64 x2),x3] hp K:=by
 refine .inl ⟨by kernel_rfl,AC.intro (N:=53) Try.func180 F180_body rfl (Nat.le_of_ble_eq_true rfl) ?_⟩
 unfold F180 at h
 refine As (fun env pv hp=>∃ x0a x0n x0c x1 x2 x3 x8,Sub (w5 E0 8 (sI x8) 3 (sV x3) 2 (sI x2) 1 (sI x1) 0 (sS x0a x0n x0c)) env∧Sub V0 pv∧F180_j1 x0a x0n x0c x1 x2 x3 x8 hp  K) ?_ ?_
 ·refine Ag F180_r6 ?_ (r4 1 0 2 3 Rn) (z4 Sn) Sn
  exact ⟨_,_,_,_,_,_,_,(z5 Sn),Sn,h⟩
 ·rintro env pv hp ⟨x0a,x0n,x0c,x1,x2,x3,x8,he,hv,h⟩
  refine Ae ?_ (r5 0 1 2 3 8 Rn) he hv
  unfold F180_j1 at h
  refine AWP.block (AWP.loop (σ:=Int) _ (fun s=>w5 E0 8 (sI s) 3 (sV x3) 2 (sI x2) 1 (sI x1) 0 (sS x0a x0n x0c)) (fun s=>V0) x8 h (fun s=>r5 0 1 2 3 8 Rn) (z5 Sn) Sn ?_)
  intro I2 x8 hp h
  replace h:F180_l2 x0a x0n x0c x1 x2 x3  K I2 x8 hp:=h
  unfold F180_l2 at h
  refine Aq (Ar F180_r0 ?_ (r5 2 8 0 1 3 Rn) (z5 Sn) Sn)
  refine Ac h rfl (fun h=>?_) (fun h=>?_)
  ·refine AWP.skip (As (fun env pv hp=>∃ x8,Sub (w5 E0 8 (sI x8) 3 (sV x3) 2 (sI x2) 1 (sI x1) 0 (sS x0a x0n x0c)) env∧Sub V0 pv∧F180_j3 x0a x0n x0c x1 x2 x3 x8 hp I2 K) ?_ ?_)
   ·refine AWP.block (As (fun env pv hp=>∃ x8 x9,Sub (w6 E0 9 (sI x9) 8 (sI x8) 3 (sV x3) 2 (sI x2) 1 (sI x1) 0 (sS x0a x0n x0c)) env∧Sub V0 pv∧F180_j4 x0a x0n x0c x1 x2 x3 x8 x9 hp I2 K) ?_ ?_)
    ·refine Ag F180_r5 ?_ (r5 8 0 1 2 3 Rn) (z5 Sn) Sn
     exact ⟨_,_,(z6 Sn),Sn,h⟩
    ·rintro env pv hp ⟨x8,x9,he,hv,h⟩
     refine Ae ?_ (r6 0 1 2 3 8 9 Rn) he hv
     unfold F180_j4 at h
     refine AWP.block (AWP.loop (σ:=Int) _ (fun s=>w6 E0 9 (sI s) 8 (sI x8) 3 (sV x3) 2 (sI x2) 1 (sI x1) 0 (sS x0a x0n x0c)) (fun s=>V0) x9 h (fun s=>r6 0 1 2 3 8 9 Rn) (z6 Sn) Sn ?_)
     intro I5 x9 hp h
     replace h:F180_l5 x0a x0n x0c x1 x2 x3 x8 I2 K I5 x9 hp:=h
     unfold F180_l5 at h
     refine Aq (As (fun env pv hp=>∃ x9 x34,Sub (w7 E0 34 (sB x34) 9 (sI x9) 8 (sI x8) 3 (sV x3) 2 (sI x2) 1 (sI x1) 0 (sS x0a x0n x0c)) env∧Sub V0 pv∧F180_j6 x0a x0n x0c x1 x2 x3 x8 x9 x34 hp I2 I5 K) ?_ ?_)
     ·refine AWP.rgnD (by kernel_rfl) (by kernel_rfl) (F180_r4 rfl) ?_ (r6 0 1 3 9 2 8 Rn) (z6 Sn) Sn
      refine mt h (fun h=>?_) (fun h=>?_)
      ·refine ⟨h.1,h.2.1,mN h.2.2 (fun b15 o16 h=>mV h (fun v17 h=>ms h (fun s18 h=>⟨h.1,h.2.1,mN h.2.2 fun b19 o20 h=>mV h fun v21 h=>ms h fun s22 h=>mF h fun f23 ga_24 gb_25 h=>mC h fun u26 h27 h=>mI h fun i28 h=>?_⟩)))⟩
       exact ⟨_,_,(z7 Sn),Sn,h⟩
      ·exact ⟨_,_,(z7 Sn),Sn,h⟩
     ·rintro env pv hp ⟨x9,x34,he,hv,h⟩
      refine Ae ?_ (r7 0 1 2 3 8 9 34 Rn) he hv
      unfold F180_j6 at h
      refine Ac h rfl (fun h=>?_) (fun h=>?_)
      ·refine AWP.skip (Aq (AWP.block (AWP.rgnD (by kernel_rfl) (by kernel_rfl) F180_r2 ?_ (r6 0 9 1 2 3 8 Rn) (z6 Sn) Sn)))
       refine ⟨h.1,h.2.1,mN h.2.2 (fun b1 o2 h=>mV h (fun v3 h=>ms h (fun s4 h=>⟨h.1,h.2.1,mN h.2.2 (fun b5 o6 h=>mV h (fun v7 h=>ms h (fun s8 h=>⟨h.1,h.2.1,mN h.2.2 (fun b9 o10 h=>mw h (fun h11 h=>⟨h.1,h.2.1,mN h.2.2 fun b12 o13 h=>mw h fun h14 h=>?_⟩))⟩)))⟩)))⟩
       refine Ag F180_r3 ?_ (r6 9 0 1 2 3 8 Rn) (z6 Sn) Sn
       exact ⟨_,(z6 Sn),Sn,h⟩
      ·refine AWP.exit ?_
       exact ⟨_,(z5 Sn),Sn,h⟩
   ·rintro env pv hp ⟨x8,he,hv,h⟩
    refine Ae ?_ (r5 0 1 2 3 8 Rn) he hv
    unfold F180_j3 at h
    refine Ag F180_r1 ?_ (r5 8 0 1 2 3 Rn) (z5 Sn) Sn
    exact ⟨_,(z5 Sn),Sn,h⟩
  ·refine AWP.exit ?_
   exact h
end
section
variable {e E:Env} {x0a:OA} {x0n x0c:Nat} {x1 x2:Int} {x3:Value} {x8 x9 x10 x11 x12:Int} {hp:HP} {K:Env→PV→HP→Prop}
abbrev R181 (p n:Nat):=RW Try.prog 60 [] (opsAt Try.f181 (pth p)) (List.range n)
theorem F181_r0:R181 2 2 (upd e 1 (sI x1)) V0 hp K=
 K (w3 e 1 (sI x1) 13 (sI x1) 8 (sI x1)) V0 hp:= by kernel_rfl
theorem F181_r1:R181 5 1 e V0 hp K=
 K (upd e 9 (sI 0)) V0 hp:= by kernel_rfl
theorem F181_r2:R181 11 4 (w2 e 2 (sI x2) 1 (sI x1)) V0 hp K=
 K (w6 e 2 (sI x2) 1 (sI x1) 14 (sI x2) 15 (sI x1) 16 (sI ((wr (x2-x1)))) 10 (sI ((wr (x2-x1))))) V0 hp:= by kernel_rfl
theorem F181_r3:R181 543 2 (upd e 12 (sI x12)) V0 hp K=
 K (w3 e 12 (sI x12) 32 (sI x12) 33 (sB (decide (x12≥0)))) V0 hp:= by kernel_rfl
theorem F181_r4 (h:E=upd (w2 e 12 (sI x12) 8 (sI x8)) 0 (sS x0a x0n x0c)):R181 2207 20 E V0 hp K=
    ((0≤((wr (x8+x12)):Int))∧(((wr (x8+x12)):Int)<x0n)∧(ptrN x0a fun b1 o2=>ldV (HP.cell hp b1 (o2+Int.toNat (wr (x8+x12))*1)) fun v3=>strV v3 fun s4=>(0≤x8)∧(x8<x0n)∧(ptrN x0a fun b5 o6=>ldV (HP.cell hp b5 (o6+Int.toNat x8*1)) fun v7=>strV v7 fun s8=>(0≤x8)∧(x8<x0n)∧(ptrN x0a fun b9 o10=>HP.st hp b9 (o10+Int.toNat x8*1) (.string s4) fun h11=>(0≤((wr (x8+x12)):Int))∧(((wr (x8+x12)):Int)<x0n)∧(ptrN x0a fun b12 o13=>HP.st h11 b12 (o13+Int.toNat (wr (x8+x12))*1) (.string s8) fun h14=>K (w2 (w8 (w8 E 36 (sS x0a x0n x0c) 37 (sI x8) 38 (sS x0a x0n x0c) 39 (sI x8) 40 (sI x12) 41 (sI ((wr (x8+x12)))) 42 (sS x0a x0n x0c) 43 (sI x8)) 44 (sI x12) 45 (sI ((wr (x8+x12)))) 46 (sV (ptr b1 (o2+Int.toNat (wr (x8+x12))*1))) 47 (sT s4) 48 (sS x0a x0n x0c) 49 (sI x8) 50 (sQ b5 (o6+Int.toNat x8*1)) 51 (sT s8)) 52 (sQ b9 (o10+Int.toNat x8*1)) 53 (sV (ptr b12 (o13+Int.toNat (wr (x8+x12))*1)))) V0 h14))))):=by subst h; kernel_rfl
theorem F181_r5 (h:E=upd (w4 e 12 (sI x12) 9 (sI x9) 8 (sI x8) 3 (sV x3)) 0 (sS x0a x0n x0c)):R181 3231 6 E V0 hp K=
 CF Try.prog 192 [(.slice x0a x0n x0c),(.int .i64 x9),(.int .i64 x12),(.int .i64 x8),x3] hp fun u1 h2=>(K (w6 E 54 (sS x0a x0n x0c) 55 (sI x9) 56 (sI x12) 57 (sI x8) 58 (sV x3) 59 (sV u1)) V0 h2):= by subst h; kernel_rfl
theorem F181_r6:R181 927 3 (upd e 12 (sI x12)) V0 hp K=
 K (w4 e 12 (sI x12) 34 (sI x12) 35 (sI ((wr (x12-1)))) 12 (sI ((wr (x12-1))))) V0 hp:= by kernel_rfl
def F181_l3 (x0a:OA) (x0n x0c:Nat) (x3:Value) (x8 x9:Int) (K:Kh) (I3:(Int)→HP→Prop) (x12:Int) (hp:HP):Prop:=
  (ite2 (decide (x12≥0)) ((0≤((IntKind.wrap .i64 (x8+x12)):Int))∧(((IntKind.wrap .i64 (x8+x12)):Int)<x0n)∧(ptrN x0a fun b1 o2=>ldV (HP.cell hp b1 (o2+Int.toNat (IntKind.wrap .i64 (x8+x12))*1)) fun v3=>strV v3 fun s4=>(0≤x8)∧(x8<x0n)∧(ptrN x0a fun b5 o6=>ldV (HP.cell hp b5 (o6+Int.toNat x8*1)) fun v7=>strV v7 fun s8=>(0≤x8)∧(x8<x0n)∧(ptrN x0a fun b9 o10=>HP.st hp b9 (o10+Int.toNat x8*1) (.string s4) fun h11=>(0≤((IntKind.wrap .i64 (x8+x12)):Int))∧(((IntKind.wrap .i64 (x8+x12)):Int)<x0n)∧(ptrN x0a fun b12 o13=>HP.st h11 b12 (o13+Int.toNat (IntKind.wrap .i64 (x8+x12))*1) (.string s8) fun h14=>CF Try.prog 192 [(.slice x0a x0n x0c),(.int .i64 x9),(.int .i64 x12),(.int .i64 x8),x3] h14 fun u15 h16=>I3 (IntKind.wrap .i64 (x12-1)) h16))))) (K (.tuple ⟨[]⟩) hp))
def F181_j2 (x0a:OA) (x0n x0c:Nat) (x3:Value) (x8 x9 x12:Int) (hp:HP) (K:Kh):Prop:=
  (LoopP (σ:=Int) (fun I s hp=>F181_l3 x0a x0n x0c x3 x8 x9  K I s hp) x12 hp)
theorem F181_r7:R181 47 3 (upd e 10 (sI x10)) V0 hp K=
 K (w4 e 10 (sI x10) 30 (sI x10) 31 (sI ((wr (x10-1)))) 12 (sI ((wr (x10-1))))) V0 hp:= by kernel_rfl
def F181_j1 (x0a:OA) (x0n x0c:Nat) (x3:Value) (x8 x9 x10:Int) (hp:HP) (K:Kh):Prop:=
  (F181_j2 x0a x0n x0c x3 x8 x9 (IntKind.wrap .i64 (x10-1)) hp  K)
theorem F181_r8:R181 535 2 (upd e 11 (sI x11)) V0 hp K=
 K (w3 e 11 (sI x11) 20 (sI x11) 21 (sB (decide (x11≥0)))) V0 hp:= by kernel_rfl
theorem F181_r9 (h:E=upd (w4 e 11 (sI x11) 10 (sI x10) 8 (sI x8) 3 (sV x3)) 0 (sS x0a x0n x0c)):R181 1175 6 E V0 hp K=
 CF Try.prog 192 [(.slice x0a x0n x0c),(.int .i64 x11),(.int .i64 x10),(.int .i64 x8),x3] hp fun u1 h2=>(K (w6 E 24 (sS x0a x0n x0c) 25 (sI x11) 26 (sI x10) 27 (sI x8) 28 (sV x3) 29 (sV u1)) V0 h2):= by subst h; kernel_rfl
theorem F181_r10:R181 919 3 (upd e 11 (sI x11)) V0 hp K=
 K (w4 e 11 (sI x11) 22 (sI x11) 23 (sI ((wr (x11-1)))) 11 (sI ((wr (x11-1))))) V0 hp:= by kernel_rfl
def F181_l5 (x0a:OA) (x0n x0c:Nat) (x3:Value) (x8 x9 x10:Int) (K:Kh) (I5:(Int)→HP→Prop) (x11:Int) (hp:HP):Prop:=
  (ite2 (decide (x11≥0)) (CF Try.prog 192 [(.slice x0a x0n x0c),(.int .i64 x11),(.int .i64 x10),(.int .i64 x8),x3] hp fun u17 h18=>I5 (IntKind.wrap .i64 (x11-1)) h18) (F181_j1 x0a x0n x0c x3 x8 x9 x10 hp  K))
def F181_j4 (x0a:OA) (x0n x0c:Nat) (x3:Value) (x8 x9 x10 x11:Int) (hp:HP) (K:Kh):Prop:=
  (LoopP (σ:=Int) (fun I s hp=>F181_l5 x0a x0n x0c x3 x8 x9 x10  K I s hp) x11 hp)
theorem F181_r11:R181 39 4 (upd e 10 (sI x10)) V0 hp K=
    (((2:Int)≠0)∧(K (w5 e 10 (sI x10) 17 (sI x10) 18 (sI ((wr (x10-1)))) 19 (sI ((wr (Int.tdiv (wr (x10-1)) 2)))) 11 (sI ((wr (Int.tdiv (wr (x10-1)) 2))))) V0 hp)):=by kernel_rfl
def F181 (x0a:OA) (x0n x0c:Nat) (x1 x2:Int) (x3:Value) (hp:HP) (K:Kh):Prop:=
  (((2:Int)≠0)∧(F181_j4 x0a x0n x0c x3 x1 0 (IntKind.wrap .i64 (x2-x1)) (IntKind.wrap .i64 (Int.tdiv (IntKind.wrap .i64 ((IntKind.wrap .i64 (x2-x1))-1)) 2)) hp  K))
noncomputable abbrev o181 (k n:Nat):Code:=.region k (opsAt Try.f181 (pth n)) false
noncomputable def F181_code:Code:=(.seq (o181 0 2) (.seq (o181 1 5) (.seq (o181 2 11) (.seq (.seq (o181 3 39) (.block 0 (.loop (.seq (.seq (o181 4 535) (.cond (.tmp 21) .skip (.exit 0))) (.seq (.block 1 (o181 6 1175)) (o181 5 919)))))) (.seq (o181 7 47) (.block 2 (.loop (.seq (.seq (o181 8 543) (.cond (.tmp 33) .skip (.exit 2))) (.seq (.block 3 (.seq (.region 10 (opsAt Try.f181 (pth 2207)) true) (o181 11 3231))) (o181 9 927))))))))))
theorem F181_body:Try.f181.body=some F181_code:=by kernel_rfl
theorem F181_ok (x0a:OA) (x0n x0c:Nat) (x1 x2:Int) (x3:Value) (hp:HP) (K:Kh) (h:F181 x0a x0n x0c x1 x2 x3 hp K):CF Try.prog 181 [(.slice x0a x0n x0c),(.int .i64 x1),(.int .i64 x2),x3] hp K:=by
 refine .inl ⟨by kernel_rfl,AC.intro (N:=60) Try.func181 F181_body rfl (Nat.le_of_ble_eq_true rfl) ?_⟩
 unfold F181 at h
 refine Ar F181_r0 ?_ (r4 1 0 2 3 Rn) (z4 Sn) Sn
 refine Ar F181_r1 ?_ (r5 0 1 2 3 8 Rn) (z5 Sn) Sn
 refine Ar F181_r2 ?_ (r6 1 2 0 3 8 9 Rn) (z6 Sn) Sn
 refine As (fun env pv hp=>∃ x0a x0n x0c x3 x8 x9 x10,Sub (w5 E0 10 (sI x10) 9 (sI x9) 8 (sI x8) 3 (sV x3) 0 (sS x0a x0n x0c)) env∧Sub V0 pv∧F181_j1 x0a x0n x0c x3 x8 x9 x10 hp  K) ?_ ?_
 ·refine As (fun env pv hp=>∃ x0a x0n x0c x3 x8 x9 x10 x11,Sub (w6 E0 11 (sI x11) 10 (sI x10) 9 (sI x9) 8 (sI x8) 3 (sV x3) 0 (sS x0a x0n x0c)) env∧Sub V0 pv∧F181_j4 x0a x0n x0c x3 x8 x9 x10 x11 hp  K) ?_ ?_
  ·refine Ag F181_r11 ?_ (r5 10 0 3 8 9 Rn) (z5 Sn) Sn
   refine ⟨h.1,?_⟩
   replace h:=h.2
   exact ⟨_,_,_,_,_,_,_,_,(z6 Sn),Sn,h⟩
  ·rintro env pv hp ⟨x0a,x0n,x0c,x3,x8,x9,x10,x11,he,hv,h⟩
   refine Ae ?_ (r6 0 3 8 9 10 11 Rn) he hv
   unfold F181_j4 at h
   refine AWP.block (AWP.loop (σ:=Int) _ (fun s=>w6 E0 11 (sI s) 10 (sI x10) 9 (sI x9) 8 (sI x8) 3 (sV x3) 0 (sS x0a x0n x0c)) (fun s=>V0) x11 h (fun s=>r6 0 3 8 9 10 11 Rn) (z6 Sn) Sn ?_)
   intro I5 x11 hp h
   replace h:F181_l5 x0a x0n x0c x3 x8 x9 x10  K I5 x11 hp:=h
   unfold F181_l5 at h
   refine Aq (Ar F181_r8 ?_ (r6 11 0 3 8 9 10 Rn) (z6 Sn) Sn)
   refine Ac h rfl (fun h=>?_) (fun h=>?_)
   ·refine AWP.skip (Aq (AWP.block (Ag (F181_r9 rfl) ?_ (r6 0 3 8 10 11 9 Rn) (z6 Sn) Sn)))
    refine mC h fun u17 h18 h=>?_
    refine Ag F181_r10 ?_ (r6 11 0 3 8 9 10 Rn) (z6 Sn) Sn
    exact ⟨_,(z6 Sn),Sn,h⟩
   ·refine AWP.exit ?_
    exact ⟨_,_,_,_,_,_,_,(z5 Sn),Sn,h⟩
 ·rintro env pv hp ⟨x0a,x0n,x0c,x3,x8,x9,x10,he,hv,h⟩
  refine Ae ?_ (r5 0 3 8 9 10 Rn) he hv
  unfold F181_j1 at h
  refine As (fun env pv hp=>∃ x0a x0n x0c x3 x8 x9 x12,Sub (w5 E0 12 (sI x12) 9 (sI x9) 8 (sI x8) 3 (sV x3) 0 (sS x0a x0n x0c)) env∧Sub V0 pv∧F181_j2 x0a x0n x0c x3 x8 x9 x12 hp  K) ?_ ?_
  ·refine Ag F181_r7 ?_ (r5 10 0 3 8 9 Rn) (z5 Sn) Sn
   exact ⟨_,_,_,_,_,_,_,(z5 Sn),Sn,h⟩
  ·rintro env pv hp ⟨x0a,x0n,x0c,x3,x8,x9,x12,he,hv,h⟩
   refine Ae ?_ (r5 0 3 8 9 12 Rn) he hv
   unfold F181_j2 at h
   refine AWP.block (AWP.loop (σ:=Int) _ (fun s=>w5 E0 12 (sI s) 9 (sI x9) 8 (sI x8) 3 (sV x3) 0 (sS x0a x0n x0c)) (fun s=>V0) x12 h (fun s=>r5 0 3 8 9 12 Rn) (z5 Sn) Sn ?_)
   intro I3 x12 hp h
   replace h:F181_l3 x0a x0n x0c x3 x8 x9  K I3 x12 hp:=h
   unfold F181_l3 at h
   refine Aq (Ar F181_r3 ?_ (r5 12 0 3 8 9 Rn) (z5 Sn) Sn)
   refine Ac h rfl (fun h=>?_) (fun h=>?_)
   ·refine AWP.skip (Aq (AWP.block (Aq (AWP.rgnD (by kernel_rfl) (by kernel_rfl) (F181_r4 rfl) ?_ (r5 0 8 12 3 9 Rn) (z5 Sn) Sn))))
    refine ⟨h.1,h.2.1,mN h.2.2 (fun b1 o2 h=>mV h (fun v3 h=>ms h (fun s4 h=>⟨h.1,h.2.1,mN h.2.2 (fun b5 o6 h=>mV h (fun v7 h=>ms h (fun s8 h=>⟨h.1,h.2.1,mN h.2.2 (fun b9 o10 h=>mw h (fun h11 h=>⟨h.1,h.2.1,mN h.2.2 fun b12 o13 h=>mw h fun h14 h=>?_⟩))⟩)))⟩)))⟩
    refine Ag (F181_r5 rfl) ?_ (r5 0 3 8 9 12 Rn) (z5 Sn) Sn
    refine mC h fun u15 h16 h=>?_
    refine Ag F181_r6 ?_ (r5 12 0 3 8 9 Rn) (z5 Sn) Sn
    exact ⟨_,(z5 Sn),Sn,h⟩
   ·refine AWP.exit ?_
    exact h
end
section
variable {e E:Env} {x0a:OA} {x0n x0c:Nat} {x1 x2 x8:Int} {x9:OA} {x10 x11 x12:Int} {hp:HP} {K:Env→PV→HP→Prop}
abbrev R182 (p n:Nat):=RW Try.prog 67 [] (opsAt Try.f182 (pth p)) (List.range n)
theorem F182_r0:R182 2 4 (w2 e 2 (sI x2) 1 (sI x1)) V0 hp K=
 K (w6 e 2 (sI x2) 1 (sI x1) 13 (sI x2) 14 (sI x1) 15 (sI ((wr (x2-x1)))) 8 (sI ((wr (x2-x1))))) V0 hp:= by kernel_rfl
theorem F182_r1:R182 5 2 (upd e 8 (sI x8)) V0 hp K=
 K (w3 e 8 (sI x8) 16 (sI x8) 17 (sB (decide (x8≥8)))) V0 hp:= by kernel_rfl
theorem F182_r2:R182 19 4 (upd e 8 (sI x8)) V0 hp K=
    (∀ b1:Nat,hp b1=.none→(HP.st (HP.set hp b1 (.cells 236 [.int .u64 0] 0)) b1 0 (.int .u64 (IntKind.wrap .u64 (x8))) fun h2=>K (w4 e 8 (sI x8) 18 (sI x8) 19 (sV (.int .u64 (IntKind.wrap .u64 (x8)))) 9 (sQ b1 0)) V0 h2)):=by kernel_rfl
theorem F182_r3:R182 43 3 (upd e 8 (sI x8)) V0 hp K=
 CF Try.prog 172 [(.int .i64 x8)] hp fun u1 h2=>(intV u1 .u64 fun i3=>K (w4 e 8 (sI x8) 20 (sI x8) 21 (sV (.int .u64 i3)) 10 (sV (.int .u64 i3))) V0 h2):= by kernel_rfl
theorem F182_r4 (h:E=upd (w2 e 11 (sI x11) 8 (sI x8)) 1 (sI x1)):R182 1083 8 E V0 hp K=
    (((4:Int)≠0)∧(K (w8 E 28 (sI x11) 29 (sI x1) 30 (sI x8) 31 (sI ((wr (Int.tdiv x8 4)))) 32 (sI ((wr ((wr (Int.tdiv x8 4))*2)))) 33 (sI ((wr (x1+(wr ((wr (Int.tdiv x8 4))*2)))))) 34 (sI ((wr ((wr (x1+(wr ((wr (Int.tdiv x8 4))*2))))+1)))) 35 (sB ((decide (x11≤(wr ((wr (x1+(wr ((wr (Int.tdiv x8 4))*2))))+1))))))) V0 hp)):=by subst h; kernel_rfl
theorem F182_r5 (h:E=upd (upd e 10 (sV (.int .u64 x10))) 9 (sP x9)):R182 4411 6 E V0 hp K=
 CF Try.prog 173 [(.pointer x9)] hp fun u1 h2=>(intV u1 .u64 fun i3=>K (w6 E 38 (sV (.int .u64 i3)) 39 (sV (.int .u64 x10)) 40 (sV (.int .u64 (IntKind.wrap .u64 (x10-1)))) 41 (sV (.int .u64 (band .u64 i3 (IntKind.wrap .u64 (x10-1))))) 42 (sI ((wr ((band .u64 i3 (IntKind.wrap .u64 (x10-1))))))) 12 (sI ((wr ((band .u64 i3 (IntKind.wrap .u64 (x10-1)))))))) V0 h2):= by subst h; kernel_rfl
theorem F182_r6 (h:E=upd (w3 e 12 (sI x12) 11 (sI x11) 1 (sI x1)) 0 (sS x0a x0n x0c)):R182 14651 20 E V0 hp K=
    ((0≤((wr (x1+x12)):Int))∧(((wr (x1+x12)):Int)<x0n)∧(ptrN x0a fun b1 o2=>ldV (HP.cell hp b1 (o2+Int.toNat (wr (x1+x12))*1)) fun v3=>strV v3 fun s4=>(0≤x11)∧(x11<x0n)∧(ptrN x0a fun b5 o6=>ldV (HP.cell hp b5 (o6+Int.toNat x11*1)) fun v7=>strV v7 fun s8=>(0≤x11)∧(x11<x0n)∧(ptrN x0a fun b9 o10=>HP.st hp b9 (o10+Int.toNat x11*1) (.string s4) fun h11=>(0≤((wr (x1+x12)):Int))∧(((wr (x1+x12)):Int)<x0n)∧(ptrN x0a fun b12 o13=>HP.st h11 b12 (o13+Int.toNat (wr (x1+x12))*1) (.string s8) fun h14=>K (w2 (w8 (w8 E 49 (sS x0a x0n x0c) 50 (sI x11) 51 (sS x0a x0n x0c) 52 (sI x1) 53 (sI x12) 54 (sI ((wr (x1+x12)))) 55 (sS x0a x0n x0c) 56 (sI x1)) 57 (sI x12) 58 (sI ((wr (x1+x12)))) 59 (sV (ptr b1 (o2+Int.toNat (wr (x1+x12))*1))) 60 (sT s4) 61 (sS x0a x0n x0c) 62 (sI x11) 63 (sQ b5 (o6+Int.toNat x11*1)) 64 (sT s8)) 65 (sQ b9 (o10+Int.toNat x11*1)) 66 (sV (ptr b12 (o13+Int.toNat (wr (x1+x12))*1)))) V0 h14))))):=by subst h; kernel_rfl
theorem F182_r7:R182 1851 3 (upd e 11 (sI x11)) V0 hp K=
 K (w4 e 11 (sI x11) 36 (sI x11) 37 (sI ((wr (x11+1)))) 11 (sI ((wr (x11+1))))) V0 hp:= by kernel_rfl
def F182_j3 (x0a:OA) (x0n x0c:Nat) (x1 x8:Int) (x9:OA) (x10 x11 x12:Int) (hp:HP) (I2:(Int)→HP→Prop) (K:Kh):Prop:=
  ((0≤((IntKind.wrap .i64 (x1+x12)):Int))∧(((IntKind.wrap .i64 (x1+x12)):Int)<x0n)∧(ptrN x0a fun b9 o10=>ldV (HP.cell hp b9 (o10+Int.toNat (IntKind.wrap .i64 (x1+x12))*1)) fun v11=>strV v11 fun s12=>(0≤x11)∧(x11<x0n)∧(ptrN x0a fun b13 o14=>ldV (HP.cell hp b13 (o14+Int.toNat x11*1)) fun v15=>strV v15 fun s16=>(0≤x11)∧(x11<x0n)∧(ptrN x0a fun b17 o18=>HP.st hp b17 (o18+Int.toNat x11*1) (.string s12) fun h19=>(0≤((IntKind.wrap .i64 (x1+x12)):Int))∧(((IntKind.wrap .i64 (x1+x12)):Int)<x0n)∧(ptrN x0a fun b20 o21=>HP.st h19 b20 (o21+Int.toNat (IntKind.wrap .i64 (x1+x12))*1) (.string s16) fun h22=>I2 (IntKind.wrap .i64 (x11+1)) h22)))))
theorem F182_r8:R182 18747 3 (w2 e 12 (sI x12) 8 (sI x8)) V0 hp K=
 K (w5 e 12 (sI x12) 8 (sI x8) 43 (sI x12) 44 (sI x8) 45 (sB (decide (x12≥x8)))) V0 hp:= by kernel_rfl
theorem F182_r9:R182 43323 4 (w2 e 12 (sI x12) 8 (sI x8)) V0 hp K=
 K (w6 e 12 (sI x12) 8 (sI x8) 46 (sI x12) 47 (sI x8) 48 (sI ((wr (x12-x8)))) 12 (sI ((wr (x12-x8))))) V0 hp:= by kernel_rfl
def F182_l2 (x0a:OA) (x0n x0c:Nat) (x1 x8:Int) (x9:OA) (x10:Int) (K:Kh) (I2:(Int)→HP→Prop) (x11:Int) (hp:HP):Prop:=
  (((4:Int)≠0)∧(ite2 (decide (x11≤(IntKind.wrap .i64 ((IntKind.wrap .i64 (x1+(IntKind.wrap .i64 ((IntKind.wrap .i64 (Int.tdiv x8 4))*2))))+1)))) (CF Try.prog 173 [(.pointer x9)] hp fun u6 h7=>intV u6 .u64 fun i8=>ite2 (decide (((IntKind.wrap .i64 ((band .u64 i8 (IntKind.wrap .u64 (x10-1))))):Int)≥x8)) (F182_j3 x0a x0n x0c x1 x8 x9 x10 x11 (IntKind.wrap .i64 ((IntKind.wrap .i64 ((band .u64 i8 (IntKind.wrap .u64 (x10-1)))))-x8)) h7 I2 K) (F182_j3 x0a x0n x0c x1 x8 x9 x10 x11 (IntKind.wrap .i64 ((band .u64 i8 (IntKind.wrap .u64 (x10-1))))) h7 I2 K)) (K (.tuple ⟨[]⟩) hp)))
def F182_j1 (x0a:OA) (x0n x0c:Nat) (x1 x8:Int) (x9:OA) (x10 x11:Int) (hp:HP) (K:Kh):Prop:=
  (LoopP (σ:=Int) (fun I s hp=>F182_l2 x0a x0n x0c x1 x8 x9 x10  K I s hp) x11 hp)
theorem F182_r10:R182 91 7 (w2 e 8 (sI x8) 1 (sI x1)) V0 hp K=
    (((4:Int)≠0)∧(K (upd (w8 e 8 (sI x8) 1 (sI x1) 22 (sI x1) 23 (sI x8) 24 (sI ((wr (Int.tdiv x8 4)))) 25 (sI ((wr ((wr (Int.tdiv x8 4))*2)))) 26 (sI ((wr (x1+(wr ((wr (Int.tdiv x8 4))*2)))))) 27 (sI ((wr ((wr (x1+(wr ((wr (Int.tdiv x8 4))*2))))-1))))) 11 (sI ((wr ((wr (x1+(wr ((wr (Int.tdiv x8 4))*2))))-1))))) V0 hp)):=by kernel_rfl
def F182 (x0a:OA) (x0n x0c:Nat) (x1 x2:Int) (x3:Value) (hp:HP) (K:Kh):Prop:=
  (ite2 (decide (((IntKind.wrap .i64 (x2-x1)):Int)≥8)) (∀ b1:Nat,hp b1=.none→(HP.st (HP.set hp b1 (.cells 236 [.int .u64 0] 0)) b1 0 (.int .u64 (IntKind.wrap .u64 ((IntKind.wrap .i64 (x2-x1))))) fun h2=>CF Try.prog 172 [(.int .i64 (IntKind.wrap .i64 (x2-x1)))] h2 fun u3 h4=>intV u3 .u64 fun i5=>((4:Int)≠0)∧(F182_j1 x0a x0n x0c x1 (IntKind.wrap .i64 (x2-x1)) (some ⟨b1,0,none⟩) i5 (IntKind.wrap .i64 ((IntKind.wrap .i64 (x1+(IntKind.wrap .i64 ((IntKind.wrap .i64 (Int.tdiv (IntKind.wrap .i64 (x2-x1)) 4))*2))))-1)) h4  K))) (K (.tuple ⟨[]⟩) hp))
noncomputable abbrev o182 (k n:Nat):Code:=.region k (opsAt Try.f182 (pth n)) false
noncomputable def F182_code:Code:=(.seq (o182 0 2) (.seq (o182 1 5) (.cond (.tmp 17) (.seq (o182 2 19) (.seq (o182 3 43) (.seq (o182 4 91) (.block 0 (.loop (.seq (.seq (o182 5 1083) (.cond (.tmp 35) .skip (.exit 0))) (.seq (.block 1 (.seq (o182 7 4411) (.seq (.seq (o182 8 18747) (.cond (.tmp 45) (o182 9 43323) .skip)) (.region 10 (opsAt Try.f182 (pth 14651)) true)))) (o182 6 1851)))))))) .skip)))
theorem F182_body:Try.f182.body=some F182_code:=by kernel_rfl
theorem F182_ok (x0a:OA) (x0n x0c:Nat) (x1 x2:Int) (x3:Value) (hp:HP) (K:Kh) (h:F182 x0a x0n x0c x1 x2 x3 hp K):CF Try.prog 182 [(.slice x0a x0n x0c),(.int .i64 x1),(.int .i64 x2),x3] hp K:=by
 refine .inl ⟨by kernel_rfl,AC.intro (N:=67) Try.func182 F182_body rfl (Nat.le_of_ble_eq_true rfl) ?_⟩
 unfold F182 at h
 refine Ar F182_r0 ?_ (r3 1 2 0 Rn) (z3 Sn) Sn
 refine Ar F182_r1 ?_ (r3 8 0 1 Rn) (z3 Sn) Sn
 refine Ac h rfl (fun h=>?_) (fun h=>?_)
 ·refine Ar F182_r2 ?_ (r3 8 0 1 Rn) (z3 Sn) Sn
  refine fun b1 hb_b_1=>?_
  replace h:=h b1 hb_b_1
  refine mw h fun h2 h=>?_
  refine Ar F182_r3 ?_ (r4 8 0 1 9 Rn) (z4 Sn) Sn
  refine mC h fun u3 h4 h=>mI h fun i5 h=>?_
  refine As (fun env pv hp=>∃ x0a x0n x0c x1 x8 x9 x10 x11,Sub (w6 E0 11 (sI x11) 10 (sV (.int .u64 x10)) 9 (sP x9) 8 (sI x8) 1 (sI x1) 0 (sS x0a x0n x0c)) env∧Sub V0 pv∧F182_j1 x0a x0n x0c x1 x8 x9 x10 x11 hp  K) ?_ ?_
  ·refine Ag F182_r10 ?_ (r5 1 8 0 9 10 Rn) (z5 Sn) Sn
   refine ⟨h.1,?_⟩
   replace h:=h.2
   exact ⟨_,_,_,_,_,_,_,_,(z6 Sn),Sn,h⟩
  ·rintro env pv hp ⟨x0a,x0n,x0c,x1,x8,x9,x10,x11,he,hv,h⟩
   refine Ae ?_ (r6 0 1 8 9 10 11 Rn) he hv
   unfold F182_j1 at h
   refine AWP.block (AWP.loop (σ:=Int) _ (fun s=>w6 E0 11 (sI s) 10 (sV (.int .u64 x10)) 9 (sP x9) 8 (sI x8) 1 (sI x1) 0 (sS x0a x0n x0c)) (fun s=>V0) x11 h (fun s=>r6 0 1 8 9 10 11 Rn) (z6 Sn) Sn ?_)
   intro I2 x11 hp h
   replace h:F182_l2 x0a x0n x0c x1 x8 x9 x10  K I2 x11 hp:=h
   unfold F182_l2 at h
   refine Aq (Ar (F182_r4 rfl) ?_ (r6 1 8 11 0 9 10 Rn) (z6 Sn) Sn)
   refine ⟨h.1,?_⟩
   replace h:=h.2
   refine Ac h rfl (fun h=>?_) (fun h=>?_)
   ·refine AWP.skip (Aq (AWP.block (Ar (F182_r5 rfl) ?_ (r6 9 10 0 1 8 11 Rn) (z6 Sn) Sn)))
    refine mC h fun u6 h7 h=>mI h fun i8 h=>?_
    refine As (fun env pv hp=>∃ x11 x12,Sub (w7 E0 12 (sI x12) 11 (sI x11) 10 (sV (.int .u64 x10)) 9 (sP x9) 8 (sI x8) 1 (sI x1) 0 (sS x0a x0n x0c)) env∧Sub V0 pv∧F182_j3 x0a x0n x0c x1 x8 x9 x10 x11 x12 hp I2 K) ?_ ?_
    ·refine Ar F182_r8 ?_ (r7 8 12 0 1 9 10 11 Rn) (z7 Sn) Sn
     refine Ac h rfl (fun h=>?_) (fun h=>?_)
     ·refine Ag F182_r9 ?_ (r7 8 12 0 1 9 10 11 Rn) (z7 Sn) Sn
      exact ⟨_,_,(z7 Sn),Sn,h⟩
     ·refine AWP.skip ?_
      exact ⟨_,_,(z7 Sn),Sn,h⟩
    ·rintro env pv hp ⟨x11,x12,he,hv,h⟩
     refine Ae ?_ (r7 0 1 8 9 10 11 12 Rn) he hv
     unfold F182_j3 at h
     refine AWP.rgnD (by kernel_rfl) (by kernel_rfl) (F182_r6 rfl) ?_ (r7 0 1 11 12 8 9 10 Rn) (z7 Sn) Sn
     refine ⟨h.1,h.2.1,mN h.2.2 (fun b9 o10 h=>mV h (fun v11 h=>ms h (fun s12 h=>⟨h.1,h.2.1,mN h.2.2 (fun b13 o14 h=>mV h (fun v15 h=>ms h (fun s16 h=>⟨h.1,h.2.1,mN h.2.2 (fun b17 o18 h=>mw h (fun h19 h=>⟨h.1,h.2.1,mN h.2.2 fun b20 o21 h=>mw h fun h22 h=>?_⟩))⟩)))⟩)))⟩
     refine Ag F182_r7 ?_ (r6 11 0 1 8 9 10 Rn) (z6 Sn) Sn
     exact ⟨_,(z6 Sn),Sn,h⟩
   ·refine AWP.exit ?_
    exact h
 ·refine AWP.skip ?_
  exact h
end
section
variable {e E:Env} {x0a:OA} {x0n x0c:Nat} {x1 x2 x8 x9:Int} {hp:HP} {K:Env→PV→HP→Prop}
abbrev R184 (p n:Nat):=RW Try.prog 34 [] (opsAt Try.f184 (pth p)) (List.range n)
theorem F184_r0:R184 2 2 (upd e 1 (sI x1)) V0 hp K=
 K (w3 e 1 (sI x1) 10 (sI x1) 8 (sI x1)) V0 hp:= by kernel_rfl
theorem F184_r1:R184 67 3 (w2 e 9 (sI x9) 8 (sI x8)) V0 hp K=
 K (w5 e 9 (sI x9) 8 (sI x8) 13 (sI x8) 14 (sI x9) 15 (sB (decide (x8<x9)))) V0 hp:= by kernel_rfl
theorem F184_r2 (h:E=upd (w2 e 9 (sI x9) 8 (sI x8)) 0 (sS x0a x0n x0c)):R184 147 16 E V0 hp K=
    ((0≤x9)∧(x9<x0n)∧(ptrN x0a fun b1 o2=>ldV (HP.cell hp b1 (o2+Int.toNat x9*1)) fun v3=>strV v3 fun s4=>(0≤x8)∧(x8<x0n)∧(ptrN x0a fun b5 o6=>ldV (HP.cell hp b5 (o6+Int.toNat x8*1)) fun v7=>strV v7 fun s8=>(0≤x8)∧(x8<x0n)∧(ptrN x0a fun b9 o10=>HP.st hp b9 (o10+Int.toNat x8*1) (.string s4) fun h11=>(0≤x9)∧(x9<x0n)∧(ptrN x0a fun b12 o13=>HP.st h11 b12 (o13+Int.toNat x9*1) (.string s8) fun h14=>K (w6 (w8 E 16 (sS x0a x0n x0c) 17 (sI x8) 18 (sS x0a x0n x0c) 19 (sI x9) 20 (sS x0a x0n x0c) 21 (sI x9) 22 (sQ b1 (o2+Int.toNat x9*1)) 23 (sT s4)) 24 (sS x0a x0n x0c) 25 (sI x8) 26 (sQ b5 (o6+Int.toNat x8*1)) 27 (sT s8) 28 (sQ b9 (o10+Int.toNat x8*1)) 29 (sQ b12 (o13+Int.toNat x9*1))) V0 h14))))):=by subst h; kernel_rfl
theorem F184_r3:R184 339 3 (upd e 8 (sI x8)) V0 hp K=
 K (w4 e 8 (sI x8) 30 (sI x8) 31 (sI ((wr (x8+1)))) 8 (sI ((wr (x8+1))))) V0 hp:= by kernel_rfl
theorem F184_r4:R184 467 3 (upd e 9 (sI x9)) V0 hp K=
 K (w4 e 9 (sI x9) 32 (sI x9) 33 (sI ((wr (x9-1)))) 9 (sI ((wr (x9-1))))) V0 hp:= by kernel_rfl
def F184_l2 (x0a:OA) (x0n x0c:Nat) (K:Kh) (I2:(Int × Int)→HP→Prop) (x8 x9:Int) (hp:HP):Prop:=
  (ite2 (decide (x8<x9)) ((0≤x9)∧(x9<x0n)∧(ptrN x0a fun b1 o2=>ldV (HP.cell hp b1 (o2+Int.toNat x9*1)) fun v3=>strV v3 fun s4=>(0≤x8)∧(x8<x0n)∧(ptrN x0a fun b5 o6=>ldV (HP.cell hp b5 (o6+Int.toNat x8*1)) fun v7=>strV v7 fun s8=>(0≤x8)∧(x8<x0n)∧(ptrN x0a fun b9 o10=>HP.st hp b9 (o10+Int.toNat x8*1) (.string s4) fun h11=>(0≤x9)∧(x9<x0n)∧(ptrN x0a fun b12 o13=>HP.st h11 b12 (o13+Int.toNat x9*1) (.string s8) fun h14=>I2 ((IntKind.wrap .i64 (x8+1)),(IntKind.wrap .i64 (x9-1))) h14))))) (K (.tuple ⟨[]⟩) hp))
def F184_j1 (x0a:OA) (x0n x0c:Nat) (x8 x9:Int) (hp:HP) (K:Kh):Prop:=
  (LoopP (σ:=Int × Int) (fun I s hp=>F184_l2 x0a x0n x0c  K I s.1 s.2 hp) (x8,x9) hp)
theorem F184_r5:R184 5 3 (upd e 2 (sI x2)) V0 hp K=
 K (w4 e 2 (sI x2) 11 (sI x2) 12 (sI ((wr (x2-1)))) 9 (sI ((wr (x2-1))))) V0 hp:= by kernel_rfl
def F184 (x0a:OA) (x0n x0c:Nat) (x1 x2:Int) (x3:Value) (hp:HP) (K:Kh):Prop:=
  (F184_j1 x0a x0n x0c x1 (IntKind.wrap .i64 (x2-1)) hp  K)
noncomputable abbrev o184 (k n:Nat):Code:=.region k (opsAt Try.f184 (pth n)) false
noncomputable def F184_code:Code:=(.seq (o184 0 2) (.seq (o184 1 5) (.block 0 (.loop (.seq (.seq (o184 2 67) (.cond (.tmp 15) .skip (.exit 0))) (.block 1 (.seq (.region 3 (opsAt Try.f184 (pth 147)) true) (.seq (o184 4 339) (o184 5 467)))))))))
theorem F184_body:Try.f184.body=some F184_code:=by kernel_rfl
theorem F184_ok (x0a:OA) (x0n x0c:Nat) (x1 x2:Int) (x3:Value) (hp:HP) (K:Kh) (h:F184 x0a x0n x0c x1 x2 x3 hp K):CF Try.prog 184 [(.slice x0a x0n x0c),(.int .i64 x1),(.int .i64 x2),x3] hp K:=by
 refine .inl ⟨by kernel_rfl,AC.intro (N:=34) Try.func184 F184_body rfl (Nat.le_of_ble_eq_true rfl) ?_⟩
 unfold F184 at h
 refine Ar F184_r0 ?_ (r3 1 0 2 Rn) (z3 Sn) Sn
 refine As (fun env pv hp=>∃ x0a x0n x0c x8 x9,Sub (w3 E0 9 (sI x9) 8 (sI x8) 0 (sS x0a x0n x0c)) env∧Sub V0 pv∧F184_j1 x0a x0n x0c x8 x9 hp  K) ?_ ?_
 ·refine Ag F184_r5 ?_ (r3 2 0 8 Rn) (z3 Sn) Sn
  exact ⟨_,_,_,_,_,(z3 Sn),Sn,h⟩
 ·rintro env pv hp ⟨x0a,x0n,x0c,x8,x9,he,hv,h⟩
  refine Ae ?_ (r3 0 8 9 Rn) he hv
  unfold F184_j1 at h
  refine AWP.block (AWP.loop (σ:=Int × Int) _ (fun s=>w3 E0 9 (sI (s.2)) 8 (sI (s.1)) 0 (sS x0a x0n x0c)) (fun s=>V0) (x8,x9) h (fun s=>r3 0 8 9 Rn) (z3 Sn) Sn ?_)
  intro I2 s hp h
  obtain ⟨x8,x9⟩:=s
  replace h:F184_l2 x0a x0n x0c  K I2 x8 x9 hp:=h
  unfold F184_l2 at h
  refine Aq (Ar F184_r1 ?_ (r3 8 9 0 Rn) (z3 Sn) Sn)
  refine Ac h rfl (fun h=>?_) (fun h=>?_)
  ·refine AWP.skip (AWP.block (Aq (AWP.rgnD (by kernel_rfl) (by kernel_rfl) (F184_r2 rfl) ?_ (r3 0 8 9 Rn) (z3 Sn) Sn)))
   refine ⟨h.1,h.2.1,mN h.2.2 (fun b1 o2 h=>mV h (fun v3 h=>ms h (fun s4 h=>⟨h.1,h.2.1,mN h.2.2 (fun b5 o6 h=>mV h (fun v7 h=>ms h (fun s8 h=>⟨h.1,h.2.1,mN h.2.2 (fun b9 o10 h=>mw h (fun h11 h=>⟨h.1,h.2.1,mN h.2.2 fun b12 o13 h=>mw h fun h14 h=>?_⟩))⟩)))⟩)))⟩
   refine Ar F184_r3 ?_ (r3 8 0 9 Rn) (z3 Sn) Sn
   refine Ag F184_r4 ?_ (r3 9 0 8 Rn) (z3 Sn) Sn
   exact ⟨_,(z3 Sn),Sn,h⟩
  ·refine AWP.exit ?_
   exact h
end
section
variable {e E:Env} {x0a:OA} {x0n x0c:Nat} {x1 x2:Int} {x3:Value} {x9 x10 x11 x12:Int} {hp:HP} {K:Env→PV→HP→Prop}
abbrev R185 (p n:Nat):=RW Try.prog 141 [] (opsAt Try.f185 (pth p)) (List.range n)
theorem F185_r0:R185 2 1 e V0 hp K=
 K (upd e 8 (sB false)) V0 hp:= by kernel_rfl
theorem F185_r1:R185 5 3 (upd e 1 (sI x1)) V0 hp K=
 K (w4 e 1 (sI x1) 13 (sI x1) 14 (sI ((wr (x1+1)))) 9 (sI ((wr (x1+1))))) V0 hp:= by kernel_rfl
theorem F185_r2:R185 459 3 (upd e 10 (sI x10)) V0 hp K=
 K (w4 e 10 (sI x10) 17 (sI x10) 18 (sI ((wr (x10+1)))) 10 (sI ((wr (x10+1))))) V0 hp:= by kernel_rfl
def F185_j4 (x0a:OA) (x0n x0c:Nat) (x1 x2:Int) (x3:Value) (x9 x10:Int) (hp:HP) (I2:(Int × Int)→HP→Prop) (K:Kh):Prop:=
  (I2 (x9,(IntKind.wrap .i64 (x10+1))) hp)
theorem F185_r3:R185 4683 3 (w2 e 9 (sI x9) 2 (sI x2)) V0 hp K=
 K (w5 e 9 (sI x9) 2 (sI x2) 39 (sI x9) 40 (sI x2) 41 (sB ((x9==x2)))) V0 hp:= by kernel_rfl
theorem F185_r4:R185 19019 1 e V0 hp K=
 K (upd e 8 (sB true)) V0 hp:= by kernel_rfl
theorem F185_r5:R185 9803 4 (w2 e 2 (sI x2) 1 (sI x1)) V0 hp K=
 K (w6 e 2 (sI x2) 1 (sI x1) 42 (sI x2) 43 (sI x1) 44 (sI ((wr (x2-x1)))) 45 (sB ((decide (((wr (x2-x1)):Int)<50))))) V0 hp:= by kernel_rfl
theorem F185_r6:R185 38475 1 e V0 hp K=
 K (upd e 8 (sB false)) V0 hp:= by kernel_rfl
theorem F185_r7:R185 11851 18 (w2 e 9 (sI x9) 0 (sS x0a x0n x0c)) V0 hp K=
    ((0≤((wr (x9-1)):Int))∧(((wr (x9-1)):Int)<x0n)∧(ptrN x0a fun b1 o2=>ldV (HP.cell hp b1 (o2+Int.toNat (wr (x9-1))*1)) fun v3=>strV v3 fun s4=>(0≤x9)∧(x9<x0n)∧(ptrN x0a fun b5 o6=>ldV (HP.cell hp b5 (o6+Int.toNat x9*1)) fun v7=>strV v7 fun s8=>(0≤x9)∧(x9<x0n)∧(ptrN x0a fun b9 o10=>HP.st hp b9 (o10+Int.toNat x9*1) (.string s4) fun h11=>(0≤((wr (x9-1)):Int))∧(((wr (x9-1)):Int)<x0n)∧(ptrN x0a fun b12 o13=>HP.st h11 b12 (o13+Int.toNat (wr (x9-1))*1) (.string s8) fun h14=>K (w2 (w8 (w8 e 9 (sI x9) 0 (sS x0a x0n x0c) 46 (sS x0a x0n x0c) 47 (sI x9) 48 (sS x0a x0n x0c) 49 (sI x9) 50 (sI ((wr (x9-1)))) 51 (sS x0a x0n x0c)) 52 (sI x9) 53 (sI ((wr (x9-1)))) 54 (sV (ptr b1 (o2+Int.toNat (wr (x9-1))*1))) 55 (sT s4) 56 (sS x0a x0n x0c) 57 (sI x9) 58 (sQ b5 (o6+Int.toNat x9*1)) 59 (sT s8)) 60 (sQ b9 (o10+Int.toNat x9*1)) 61 (sV (ptr b12 (o13+Int.toNat (wr (x9-1))*1)))) V0 h14))))):=by kernel_rfl
theorem F185_r8:R185 48715 4 (w2 e 9 (sI x9) 2 (sI x2)) V0 hp K=
 K (w6 e 9 (sI x9) 2 (sI x2) 101 (sI x2) 102 (sI x9) 103 (sI ((wr (x2-x9)))) 104 (sB ((decide (((wr (x2-x9)):Int)≥2))))) V0 hp:= by kernel_rfl
theorem F185_r9:R185 2195019 3 (w2 e 12 (sI x12) 2 (sI x2)) V0 hp K=
 K (w5 e 12 (sI x12) 2 (sI x2) 107 (sI x12) 108 (sI x2) 109 (sB (decide (x12<x2)))) V0 hp:= by kernel_rfl
theorem F185_r10 (h:E=upd (w2 e 12 (sI x12) 3 (sV x3)) 0 (sS x0a x0n x0c)):R185 17399371 13 E V0 hp K=
    ((0≤x12)∧(x12<x0n)∧(ptrN x0a fun b1 o2=>ldV (HP.cell hp b1 (o2+Int.toNat x12*1)) fun v3=>strV v3 fun s4=>(0≤((wr (x12-1)):Int))∧(((wr (x12-1)):Int)<x0n)∧(ptrN x0a fun b5 o6=>ldV (HP.cell hp b5 (o6+Int.toNat (wr (x12-1))*1)) fun v7=>strV v7 fun s8=>fnV x3 fun f9 ga10 gb11=>CF Try.prog f9 (ga10++[(Value.string s4),(.string s8)]++gb11) hp fun u12 h13=>intV u12 .i64 fun i14=>K (w5 (w8 E 112 (sV x3) 113 (sS x0a x0n x0c) 114 (sI x12) 115 (sQ b1 (o2+Int.toNat x12*1)) 116 (sT s4) 117 (sS x0a x0n x0c) 118 (sI x12) 119 (sI ((wr (x12-1))))) 120 (sV (ptr b5 (o6+Int.toNat (wr (x12-1))*1))) 121 (sT s8) 122 (sI i14) 123 (sB (decide (i14<0))) 124 (sB ((!(decide (i14<0)))))) V0 h13))):=by subst h; kernel_rfl
theorem F185_r11:R185 13205067 18 (w2 e 12 (sI x12) 0 (sS x0a x0n x0c)) V0 hp K=
    ((0≤((wr (x12-1)):Int))∧(((wr (x12-1)):Int)<x0n)∧(ptrN x0a fun b1 o2=>ldV (HP.cell hp b1 (o2+Int.toNat (wr (x12-1))*1)) fun v3=>strV v3 fun s4=>(0≤x12)∧(x12<x0n)∧(ptrN x0a fun b5 o6=>ldV (HP.cell hp b5 (o6+Int.toNat x12*1)) fun v7=>strV v7 fun s8=>(0≤x12)∧(x12<x0n)∧(ptrN x0a fun b9 o10=>HP.st hp b9 (o10+Int.toNat x12*1) (.string s4) fun h11=>(0≤((wr (x12-1)):Int))∧(((wr (x12-1)):Int)<x0n)∧(ptrN x0a fun b12 o13=>HP.st h11 b12 (o13+Int.toNat (wr (x12-1))*1) (.string s8) fun h14=>K (w2 (w8 (w8 e 12 (sI x12) 0 (sS x0a x0n x0c) 125 (sS x0a x0n x0c) 126 (sI x12) 127 (sS x0a x0n x0c) 128 (sI x12) 129 (sI ((wr (x12-1)))) 130 (sS x0a x0n x0c)) 131 (sI x12) 132 (sI ((wr (x12-1)))) 133 (sV (ptr b1 (o2+Int.toNat (wr (x12-1))*1))) 134 (sT s4) 135 (sS x0a x0n x0c) 136 (sI x12) 137 (sQ b5 (o6+Int.toNat x12*1)) 138 (sT s8)) 139 (sQ b9 (o10+Int.toNat x12*1)) 140 (sV (ptr b12 (o13+Int.toNat (wr (x12-1))*1)))) V0 h14))))):=by kernel_rfl
theorem F185_r12:R185 3767883 3 (upd e 12 (sI x12)) V0 hp K=
 K (w4 e 12 (sI x12) 110 (sI x12) 111 (sI ((wr (x12+1)))) 12 (sI ((wr (x12+1))))) V0 hp:= by kernel_rfl
def F185_l8 (x0a:OA) (x0n x0c:Nat) (x1 x2:Int) (x3:Value) (x9 x10:Int) (I2:(Int × Int)→HP→Prop) (K:Kh) (I8:(Int)→HP→Prop) (x12:Int) (hp:HP):Prop:=
  (ite2 (decide (x12<x2)) ((0≤x12)∧(x12<x0n)∧(ptrN x0a fun b15 o16=>ldV (HP.cell hp b15 (o16+Int.toNat x12*1)) fun v17=>strV v17 fun s18=>(0≤((IntKind.wrap .i64 (x12-1)):Int))∧(((IntKind.wrap .i64 (x12-1)):Int)<x0n)∧(ptrN x0a fun b19 o20=>ldV (HP.cell hp b19 (o20+Int.toNat (IntKind.wrap .i64 (x12-1))*1)) fun v21=>strV v21 fun s22=>fnV x3 fun f23 ga_24 gb_25=>CF Try.prog f23 (ga_24++[(Value.string s18),(.string s22)]++gb_25) hp fun u26 h27=>intV u26 .i64 fun i28=>ite2 (!(decide (i28<0))) (F185_j4 x0a x0n x0c x1 x2 x3 x9 x10 h27 I2 K) ((0≤((IntKind.wrap .i64 (x12-1)):Int))∧(((IntKind.wrap .i64 (x12-1)):Int)<x0n)∧(ptrN x0a fun b29 o30=>ldV (HP.cell h27 b29 (o30+Int.toNat (IntKind.wrap .i64 (x12-1))*1)) fun v31=>strV v31 fun s32=>(0≤x12)∧(x12<x0n)∧(ptrN x0a fun b33 o34=>ldV (HP.cell h27 b33 (o34+Int.toNat x12*1)) fun v35=>strV v35 fun s36=>(0≤x12)∧(x12<x0n)∧(ptrN x0a fun b37 o38=>HP.st h27 b37 (o38+Int.toNat x12*1) (.string s32) fun h39=>(0≤((IntKind.wrap .i64 (x12-1)):Int))∧(((IntKind.wrap .i64 (x12-1)):Int)<x0n)∧(ptrN x0a fun b40 o41=>HP.st h39 b40 (o41+Int.toNat (IntKind.wrap .i64 (x12-1))*1) (.string s36) fun h42=>I8 (IntKind.wrap .i64 (x12+1)) h42)))))))) (F185_j4 x0a x0n x0c x1 x2 x3 x9 x10 hp I2 K))
def F185_j7 (x0a:OA) (x0n x0c:Nat) (x1 x2:Int) (x3:Value) (x9 x10 x12:Int) (hp:HP) (I2:(Int × Int)→HP→Prop) (K:Kh):Prop:=
  (LoopP (σ:=Int) (fun I s hp=>F185_l8 x0a x0n x0c x1 x2 x3 x9 x10 I2 K I s hp) x12 hp)
theorem F185_r13:R185 163403 3 (upd e 9 (sI x9)) V0 hp K=
 K (w4 e 9 (sI x9) 105 (sI x9) 106 (sI ((wr (x9+1)))) 12 (sI ((wr (x9+1))))) V0 hp:= by kernel_rfl
def F185_j6 (x0a:OA) (x0n x0c:Nat) (x1 x2:Int) (x3:Value) (x9 x10:Int) (hp:HP) (I2:(Int × Int)→HP→Prop) (K:Kh):Prop:=
  (ite2 (decide (((IntKind.wrap .i64 (x2-x9)):Int)≥2)) (F185_j7 x0a x0n x0c x1 x2 x3 x9 x10 (IntKind.wrap .i64 (x9+1)) hp I2 K) (F185_j4 x0a x0n x0c x1 x2 x3 x9 x10 hp I2 K))
theorem F185_r14:R185 40523 4 (w2 e 9 (sI x9) 1 (sI x1)) V0 hp K=
 K (w6 e 9 (sI x9) 1 (sI x1) 62 (sI x9) 63 (sI x1) 64 (sI ((wr (x9-x1)))) 65 (sB ((decide (((wr (x9-x1)):Int)≥2))))) V0 hp:= by kernel_rfl
theorem F185_r15:R185 2186827 2 (upd e 11 (sI x11)) V0 hp K=
 K (w3 e 11 (sI x11) 68 (sI x11) 69 (sB (decide (x11≥1)))) V0 hp:= by kernel_rfl
theorem F185_r16 (h:E=upd (w2 e 11 (sI x11) 3 (sV x3)) 0 (sS x0a x0n x0c)):R185 17391179 13 E V0 hp K=
    ((0≤x11)∧(x11<x0n)∧(ptrN x0a fun b1 o2=>ldV (HP.cell hp b1 (o2+Int.toNat x11*1)) fun v3=>strV v3 fun s4=>(0≤((wr (x11-1)):Int))∧(((wr (x11-1)):Int)<x0n)∧(ptrN x0a fun b5 o6=>ldV (HP.cell hp b5 (o6+Int.toNat (wr (x11-1))*1)) fun v7=>strV v7 fun s8=>fnV x3 fun f9 ga10 gb11=>CF Try.prog f9 (ga10++[(Value.string s4),(.string s8)]++gb11) hp fun u12 h13=>intV u12 .i64 fun i14=>K (w5 (w8 E 72 (sV x3) 73 (sS x0a x0n x0c) 74 (sI x11) 75 (sQ b1 (o2+Int.toNat x11*1)) 76 (sT s4) 77 (sS x0a x0n x0c) 78 (sI x11) 79 (sI ((wr (x11-1))))) 80 (sV (ptr b5 (o6+Int.toNat (wr (x11-1))*1))) 81 (sT s8) 82 (sI i14) 83 (sB (decide (i14<0))) 84 (sB ((!(decide (i14<0)))))) V0 h13))):=by subst h; kernel_rfl
theorem F185_r17:R185 13196875 18 (w2 e 11 (sI x11) 0 (sS x0a x0n x0c)) V0 hp K=
    ((0≤((wr (x11-1)):Int))∧(((wr (x11-1)):Int)<x0n)∧(ptrN x0a fun b1 o2=>ldV (HP.cell hp b1 (o2+Int.toNat (wr (x11-1))*1)) fun v3=>strV v3 fun s4=>(0≤x11)∧(x11<x0n)∧(ptrN x0a fun b5 o6=>ldV (HP.cell hp b5 (o6+Int.toNat x11*1)) fun v7=>strV v7 fun s8=>(0≤x11)∧(x11<x0n)∧(ptrN x0a fun b9 o10=>HP.st hp b9 (o10+Int.toNat x11*1) (.string s4) fun h11=>(0≤((wr (x11-1)):Int))∧(((wr (x11-1)):Int)<x0n)∧(ptrN x0a fun b12 o13=>HP.st h11 b12 (o13+Int.toNat (wr (x11-1))*1) (.string s8) fun h14=>K (w2 (w8 (w8 e 11 (sI x11) 0 (sS x0a x0n x0c) 85 (sS x0a x0n x0c) 86 (sI x11) 87 (sS x0a x0n x0c) 88 (sI x11) 89 (sI ((wr (x11-1)))) 90 (sS x0a x0n x0c)) 91 (sI x11) 92 (sI ((wr (x11-1)))) 93 (sV (ptr b1 (o2+Int.toNat (wr (x11-1))*1))) 94 (sT s4) 95 (sS x0a x0n x0c) 96 (sI x11) 97 (sQ b5 (o6+Int.toNat x11*1)) 98 (sT s8)) 99 (sQ b9 (o10+Int.toNat x11*1)) 100 (sV (ptr b12 (o13+Int.toNat (wr (x11-1))*1)))) V0 h14))))):=by kernel_rfl
theorem F185_r18:R185 3759691 3 (upd e 11 (sI x11)) V0 hp K=
 K (w4 e 11 (sI x11) 70 (sI x11) 71 (sI ((wr (x11-1)))) 11 (sI ((wr (x11-1))))) V0 hp:= by kernel_rfl
def F185_l10 (x0a:OA) (x0n x0c:Nat) (x1 x2:Int) (x3:Value) (x9 x10:Int) (I2:(Int × Int)→HP→Prop) (K:Kh) (I10:(Int)→HP→Prop) (x11:Int) (hp:HP):Prop:=
  (ite2 (decide (x11≥1)) ((0≤x11)∧(x11<x0n)∧(ptrN x0a fun b43 o44=>ldV (HP.cell hp b43 (o44+Int.toNat x11*1)) fun v45=>strV v45 fun s46=>(0≤((IntKind.wrap .i64 (x11-1)):Int))∧(((IntKind.wrap .i64 (x11-1)):Int)<x0n)∧(ptrN x0a fun b47 o48=>ldV (HP.cell hp b47 (o48+Int.toNat (IntKind.wrap .i64 (x11-1))*1)) fun v49=>strV v49 fun s50=>fnV x3 fun f51 ga_52 gb_53=>CF Try.prog f51 (ga_52++[(Value.string s46),(.string s50)]++gb_53) hp fun u54 h55=>intV u54 .i64 fun i56=>ite2 (!(decide (i56<0))) (F185_j6 x0a x0n x0c x1 x2 x3 x9 x10 h55 I2 K) ((0≤((IntKind.wrap .i64 (x11-1)):Int))∧(((IntKind.wrap .i64 (x11-1)):Int)<x0n)∧(ptrN x0a fun b57 o58=>ldV (HP.cell h55 b57 (o58+Int.toNat (IntKind.wrap .i64 (x11-1))*1)) fun v59=>strV v59 fun s60=>(0≤x11)∧(x11<x0n)∧(ptrN x0a fun b61 o62=>ldV (HP.cell h55 b61 (o62+Int.toNat x11*1)) fun v63=>strV v63 fun s64=>(0≤x11)∧(x11<x0n)∧(ptrN x0a fun b65 o66=>HP.st h55 b65 (o66+Int.toNat x11*1) (.string s60) fun h67=>(0≤((IntKind.wrap .i64 (x11-1)):Int))∧(((IntKind.wrap .i64 (x11-1)):Int)<x0n)∧(ptrN x0a fun b68 o69=>HP.st h67 b68 (o69+Int.toNat (IntKind.wrap .i64 (x11-1))*1) (.string s64) fun h70=>I10 (IntKind.wrap .i64 (x11-1)) h70)))))))) (F185_j6 x0a x0n x0c x1 x2 x3 x9 x10 hp I2 K))
def F185_j9 (x0a:OA) (x0n x0c:Nat) (x1 x2:Int) (x3:Value) (x9 x10 x11:Int) (hp:HP) (I2:(Int × Int)→HP→Prop) (K:Kh):Prop:=
  (LoopP (σ:=Int) (fun I s hp=>F185_l10 x0a x0n x0c x1 x2 x3 x9 x10 I2 K I s hp) x11 hp)
theorem F185_r19:R185 155211 3 (upd e 9 (sI x9)) V0 hp K=
 K (w4 e 9 (sI x9) 66 (sI x9) 67 (sI ((wr (x9-1)))) 11 (sI ((wr (x9-1))))) V0 hp:= by kernel_rfl
def F185_j5 (x0a:OA) (x0n x0c:Nat) (x1 x2:Int) (x3:Value) (x9 x10:Int) (hp:HP) (I2:(Int × Int)→HP→Prop) (K:Kh):Prop:=
  (ite2 (x9==x2) (K (.bool true) hp) (ite2 (decide (((IntKind.wrap .i64 (x2-x1)):Int)<50)) (K (.bool false) hp) ((0≤((IntKind.wrap .i64 (x9-1)):Int))∧(((IntKind.wrap .i64 (x9-1)):Int)<x0n)∧(ptrN x0a fun b1 o2=>ldV (HP.cell hp b1 (o2+Int.toNat (IntKind.wrap .i64 (x9-1))*1)) fun v3=>strV v3 fun s4=>(0≤x9)∧(x9<x0n)∧(ptrN x0a fun b5 o6=>ldV (HP.cell hp b5 (o6+Int.toNat x9*1)) fun v7=>strV v7 fun s8=>(0≤x9)∧(x9<x0n)∧(ptrN x0a fun b9 o10=>HP.st hp b9 (o10+Int.toNat x9*1) (.string s4) fun h11=>(0≤((IntKind.wrap .i64 (x9-1)):Int))∧(((IntKind.wrap .i64 (x9-1)):Int)<x0n)∧(ptrN x0a fun b12 o13=>HP.st h11 b12 (o13+Int.toNat (IntKind.wrap .i64 (x9-1))*1) (.string s8) fun h14=>ite2 (decide (((IntKind.wrap .i64 (x9-x1)):Int)≥2)) (F185_j9 x0a x0n x0c x1 x2 x3 x9 x10 (IntKind.wrap .i64 (x9-1)) h14 I2 K) (F185_j6 x0a x0n x0c x1 x2 x3 x9 x10 h14 I2 K))))))))
theorem F185_r20:R185 20555 3 (upd e 9 (sI x9)) V0 hp K=
 K (w4 e 9 (sI x9) 37 (sI x9) 38 (sI ((wr (x9+1)))) 9 (sI ((wr (x9+1))))) V0 hp:= by kernel_rfl
def F185_j12 (x0a:OA) (x0n x0c:Nat) (x1 x2:Int) (x3:Value) (x9 x10:Int) (x36:Bool) (hp:HP) (I2:(Int × Int)→HP→Prop) (I11:(Int)→HP→Prop) (K:Kh):Prop:=
  (ite2 x36 (I11 (IntKind.wrap .i64 (x9+1)) hp) (F185_j5 x0a x0n x0c x1 x2 x3 x9 x10 hp I2 K))
theorem F185_r21 (h:E=upd (w3 e 9 (sI x9) 3 (sV x3) 2 (sI x2)) 0 (sS x0a x0n x0c)):R185 16459 18 E V0 hp K=
    (ite2 (decide (x9<x2)) ((0≤x9)∧(x9<x0n)∧(ptrN x0a fun b1 o2=>ldV (HP.cell hp b1 (o2+Int.toNat x9*1)) fun v3=>strV v3 fun s4=>(0≤((wr (x9-1)):Int))∧(((wr (x9-1)):Int)<x0n)∧(ptrN x0a fun b5 o6=>ldV (HP.cell hp b5 (o6+Int.toNat (wr (x9-1))*1)) fun v7=>strV v7 fun s8=>fnV x3 fun f9 ga10 gb11=>CF Try.prog f9 (ga10++[(Value.string s4),(.string s8)]++gb11) hp fun u12 h13=>intV u12 .i64 fun i14=>K (w2 (w8 (w8 E 19 (sI x9) 20 (sI x2) 21 (sB (decide (x9<x2))) 22 (sB true) 23 (sV x3) 24 (sS x0a x0n x0c) 25 (sI x9) 26 (sQ b1 (o2+Int.toNat x9*1))) 27 (sT s4) 28 (sS x0a x0n x0c) 29 (sI x9) 30 (sI ((wr (x9-1)))) 31 (sV (ptr b5 (o6+Int.toNat (wr (x9-1))*1))) 32 (sT s8) 33 (sI i14) 34 (sB (decide (i14<0)))) 35 (sB ((!(decide (i14<0))))) 36 (sB ((!(decide (i14<0)))))) V0 h13))) (K (w2 (w8 (w8 E 19 (sI x9) 20 (sI x2) 21 (sB (decide (x9<x2))) 22 (sB false) 23 sU 24 sU 25 sU 26 sU) 27 sU 28 sU 29 sU 30 sU 31 sU 32 sU 33 sU 34 sU) 35 sU 36 (sB false)) V0 hp)):=by subst h; kernel_rfl
def F185_l11 (x0a:OA) (x0n x0c:Nat) (x1 x2:Int) (x3:Value) (x10:Int) (I2:(Int × Int)→HP→Prop) (K:Kh) (I11:(Int)→HP→Prop) (x9:Int) (hp:HP):Prop:=
  (ite2 (decide (x9<x2)) ((0≤x9)∧(x9<x0n)∧(ptrN x0a fun b71 o72=>ldV (HP.cell hp b71 (o72+Int.toNat x9*1)) fun v73=>strV v73 fun s74=>(0≤((IntKind.wrap .i64 (x9-1)):Int))∧(((IntKind.wrap .i64 (x9-1)):Int)<x0n)∧(ptrN x0a fun b75 o76=>ldV (HP.cell hp b75 (o76+Int.toNat (IntKind.wrap .i64 (x9-1))*1)) fun v77=>strV v77 fun s78=>fnV x3 fun f79 ga_80 gb_81=>CF Try.prog f79 (ga_80++[(Value.string s74),(.string s78)]++gb_81) hp fun u82 h83=>intV u82 .i64 fun i84=>F185_j12 x0a x0n x0c x1 x2 x3 x9 x10 (!(decide (i84<0))) h83 I2 I11 K))) (F185_j12 x0a x0n x0c x1 x2 x3 x9 x10 false hp I2 I11 K))
def F185_j3 (x0a:OA) (x0n x0c:Nat) (x1 x2:Int) (x3:Value) (x9 x10:Int) (hp:HP) (I2:(Int × Int)→HP→Prop) (K:Kh):Prop:=
  (LoopP (σ:=Int) (fun I s hp=>F185_l11 x0a x0n x0c x1 x2 x3 x10 I2 K I s hp) x9 hp)
theorem F185_r22:R185 267 2 (upd e 10 (sI x10)) V0 hp K=
 K (w3 e 10 (sI x10) 15 (sI x10) 16 (sB (decide (x10<5)))) V0 hp:= by kernel_rfl
theorem F185_r23:R185 23 1 e V0 hp K=
 K (upd e 8 (sB false)) V0 hp:= by kernel_rfl
def F185_l2 (x0a:OA) (x0n x0c:Nat) (x1 x2:Int) (x3:Value) (K:Kh) (I2:(Int × Int)→HP→Prop) (x9 x10:Int) (hp:HP):Prop:=
  (ite2 (decide (x10<5)) (F185_j3 x0a x0n x0c x1 x2 x3 x9 x10 hp I2 K) (K (.bool false) hp))
def F185_j1 (x0a:OA) (x0n x0c:Nat) (x1 x2:Int) (x3:Value) (x9 x10:Int) (hp:HP) (K:Kh):Prop:=
  (LoopP (σ:=Int × Int) (fun I s hp=>F185_l2 x0a x0n x0c x1 x2 x3  K I s.1 s.2 hp) (x9,x10) hp)
theorem F185_r24:R185 19 1 e V0 hp K=
 K (upd e 10 (sI 0)) V0 hp:= by kernel_rfl
def F185 (x0a:OA) (x0n x0c:Nat) (x1 x2:Int) (x3:Value) (hp:HP) (K:Kh):Prop:=
  (F185_j1 x0a x0n x0c x1 x2 x3 (IntKind.wrap .i64 (x1+1)) 0 hp  K)
noncomputable abbrev o185 (k n:Nat):Code:=.region k (opsAt Try.f185 (pth n)) false
noncomputable def F185_code:Code:=(.seq (o185 0 2) (.seq (o185 1 5) (.seq (.seq (o185 2 19) (.block 0 (.loop (.seq (.seq (o185 3 267) (.cond (.tmp 16) .skip (.exit 0))) (.seq (.block 1 (.seq (.block 2 (.loop (.seq (.seq (.region 5 (opsAt Try.f185 (pth 16459)) true) (.cond (.tmp 36) .skip (.exit 2))) (.block 3 (o185 6 20555))))) (.seq (.seq (o185 7 4683) (.cond (.tmp 41) (.seq (o185 8 19019) .ret) .skip)) (.seq (.seq (o185 9 9803) (.cond (.tmp 45) (.seq (o185 10 38475) .ret) .skip)) (.seq (.region 11 (opsAt Try.f185 (pth 11851)) true) (.seq (.seq (o185 12 40523) (.cond (.tmp 65) (.seq (o185 13 155211) (.block 4 (.loop (.seq (.seq (o185 14 2186827) (.cond (.tmp 69) .skip (.exit 4))) (.seq (.block 5 (.seq (.seq (.region 16 (opsAt Try.f185 (pth 17391179)) true) (.cond (.tmp 84) (.exit 4) .skip)) (.region 17 (opsAt Try.f185 (pth 13196875)) true))) (o185 15 3759691)))))) .skip)) (.seq (o185 18 48715) (.cond (.tmp 104) (.seq (o185 19 163403) (.block 6 (.loop (.seq (.seq (o185 20 2195019) (.cond (.tmp 109) .skip (.exit 6))) (.seq (.block 7 (.seq (.seq (.region 22 (opsAt Try.f185 (pth 17399371)) true) (.cond (.tmp 124) (.exit 6) .skip)) (.region 23 (opsAt Try.f185 (pth 13205067)) true))) (o185 21 3767883)))))) .skip)))))))) (o185 4 459)))))) (.seq (o185 24 23) .ret))))
theorem F185_body:Try.f185.body=some F185_code:=by kernel_rfl
theorem F185_ok (x0a:OA) (x0n x0c:Nat) (x1 x2:Int) (x3:Value) (hp:HP) (K:Kh) (h:F185 x0a x0n x0c x1 x2 x3 hp K):CF Try.prog 185 [(.slice x0a x0n x0c),(.int .i64 x1),(.int .i64 x2),x3] hp K:=by
 refine .inl ⟨by kernel_rfl,AC.intro (N:=141) Try.func185 F185_body rfl (Nat.le_of_ble_eq_true rfl) ?_⟩
 unfold F185 at h
 refine Ar F185_r0 ?_ (r4 0 1 2 3 Rn) (z4 Sn) Sn
 refine Ar F185_r1 ?_ (r4 1 0 2 3 Rn) (z4 Sn) Sn
 refine Aq (As (fun env pv hp=>∃ x0a x0n x0c x1 x2 x3 x9 x10,Sub (w6 E0 10 (sI x10) 9 (sI x9) 3 (sV x3) 2 (sI x2) 1 (sI x1) 0 (sS x0a x0n x0c)) env∧Sub V0 pv∧F185_j1 x0a x0n x0c x1 x2 x3 x9 x10 hp  K) ?_ ?_)
 ·refine Ag F185_r24 ?_ (r5 0 1 2 3 9 Rn) (z5 Sn) Sn
  exact ⟨_,_,_,_,_,_,_,_,(z6 Sn),Sn,h⟩
 ·rintro env pv hp ⟨x0a,x0n,x0c,x1,x2,x3,x9,x10,he,hv,h⟩
  refine Ae ?_ (r6 0 1 2 3 9 10 Rn) he hv
  unfold F185_j1 at h
  refine AWP.block (AWP.loop (σ:=Int × Int) _ (fun s=>w6 E0 10 (sI (s.2)) 9 (sI (s.1)) 3 (sV x3) 2 (sI x2) 1 (sI x1) 0 (sS x0a x0n x0c)) (fun s=>V0) (x9,x10) h (fun s=>r6 0 1 2 3 9 10 Rn) (z6 Sn) Sn ?_)
  intro I2 s hp h
  obtain ⟨x9,x10⟩:=s
  replace h:F185_l2 x0a x0n x0c x1 x2 x3  K I2 x9 x10 hp:=h
  unfold F185_l2 at h
  refine As (fun env pv hp=>∃ x9 x10,Sub (w6 E0 10 (sI x10) 9 (sI x9) 3 (sV x3) 2 (sI x2) 1 (sI x1) 0 (sS x0a x0n x0c)) env∧Sub V0 pv∧F185_j3 x0a x0n x0c x1 x2 x3 x9 x10 hp I2 K) ?_ ?_
  ·refine Ar F185_r22 ?_ (r6 10 0 1 2 3 9 Rn) (z6 Sn) Sn
   refine Ac h rfl (fun h=>?_) (fun h=>?_)
   ·refine AWP.skip ?_
    exact ⟨_,_,(z6 Sn),Sn,h⟩
   ·refine AWP.exit ?_
    refine Ar F185_r23 ?_ Rn Sn Sn
    refine AWP.ret ?_
    exact h
  ·rintro env pv hp ⟨x9,x10,he,hv,h⟩
   refine Ae ?_ (r6 0 1 2 3 9 10 Rn) he hv
   unfold F185_j3 at h
   refine As (fun env pv hp=>∃ x9 x10,Sub (w6 E0 10 (sI x10) 9 (sI x9) 3 (sV x3) 2 (sI x2) 1 (sI x1) 0 (sS x0a x0n x0c)) env∧Sub V0 pv∧F185_j4 x0a x0n x0c x1 x2 x3 x9 x10 hp I2 K) ?_ ?_
   ·refine AWP.block (As (fun env pv hp=>∃ x9 x10,Sub (w6 E0 10 (sI x10) 9 (sI x9) 3 (sV x3) 2 (sI x2) 1 (sI x1) 0 (sS x0a x0n x0c)) env∧Sub V0 pv∧F185_j5 x0a x0n x0c x1 x2 x3 x9 x10 hp I2 K) ?_ ?_)
    ·refine AWP.block (AWP.loop (σ:=Int) _ (fun s=>w6 E0 10 (sI x10) 9 (sI s) 3 (sV x3) 2 (sI x2) 1 (sI x1) 0 (sS x0a x0n x0c)) (fun s=>V0) x9 h (fun s=>r6 0 1 2 3 9 10 Rn) (z6 Sn) Sn ?_)
     intro I11 x9 hp h
     replace h:F185_l11 x0a x0n x0c x1 x2 x3 x10 I2 K I11 x9 hp:=h
     unfold F185_l11 at h
     refine Aq (As (fun env pv hp=>∃ x9 x36,Sub (w7 E0 36 (sB x36) 10 (sI x10) 9 (sI x9) 3 (sV x3) 2 (sI x2) 1 (sI x1) 0 (sS x0a x0n x0c)) env∧Sub V0 pv∧F185_j12 x0a x0n x0c x1 x2 x3 x9 x10 x36 hp I2 I11 K) ?_ ?_)
     ·refine AWP.rgnD (by kernel_rfl) (by kernel_rfl) (F185_r21 rfl) ?_ (r6 0 2 3 9 1 10 Rn) (z6 Sn) Sn
      refine mt h (fun h=>?_) (fun h=>?_)
      ·refine ⟨h.1,h.2.1,mN h.2.2 (fun b71 o72 h=>mV h (fun v73 h=>ms h (fun s74 h=>⟨h.1,h.2.1,mN h.2.2 fun b75 o76 h=>mV h fun v77 h=>ms h fun s78 h=>mF h fun f79 ga_80 gb_81 h=>mC h fun u82 h83 h=>mI h fun i84 h=>?_⟩)))⟩
       exact ⟨_,_,(z7 Sn),Sn,h⟩
      ·exact ⟨_,_,(z7 Sn),Sn,h⟩
     ·rintro env pv hp ⟨x9,x36,he,hv,h⟩
      refine Ae ?_ (r7 0 1 2 3 9 10 36 Rn) he hv
      unfold F185_j12 at h
      refine Ac h rfl (fun h=>?_) (fun h=>?_)
      ·refine AWP.skip (AWP.block (Ag F185_r20 ?_ (r6 9 0 1 2 3 10 Rn) (z6 Sn) Sn))
       exact ⟨_,(z6 Sn),Sn,h⟩
      ·refine AWP.exit ?_
       exact ⟨_,_,(z6 Sn),Sn,h⟩
    ·rintro env pv hp ⟨x9,x10,he,hv,h⟩
     refine Ae ?_ (r6 0 1 2 3 9 10 Rn) he hv
     unfold F185_j5 at h
     refine Aq (Ar F185_r3 ?_ (r6 2 9 0 1 3 10 Rn) (z6 Sn) Sn)
     refine Ac h rfl (fun h=>?_) (fun h=>?_)
     ·refine Ar F185_r4 ?_ Rn Sn Sn
      refine AWP.ret ?_
      exact h
     ·refine AWP.skip (Aq (Ar F185_r5 ?_ (r6 1 2 0 3 9 10 Rn) (z6 Sn) Sn))
      refine Ac h rfl (fun h=>?_) (fun h=>?_)
      ·refine Ar F185_r6 ?_ Rn Sn Sn
       refine AWP.ret ?_
       exact h
      ·refine AWP.skip (Aq (AWP.rgnD (by kernel_rfl) (by kernel_rfl) F185_r7 ?_ (r6 0 9 1 2 3 10 Rn) (z6 Sn) Sn))
       refine ⟨h.1,h.2.1,mN h.2.2 (fun b1 o2 h=>mV h (fun v3 h=>ms h (fun s4 h=>⟨h.1,h.2.1,mN h.2.2 (fun b5 o6 h=>mV h (fun v7 h=>ms h (fun s8 h=>⟨h.1,h.2.1,mN h.2.2 (fun b9 o10 h=>mw h (fun h11 h=>⟨h.1,h.2.1,mN h.2.2 fun b12 o13 h=>mw h fun h14 h=>?_⟩))⟩)))⟩)))⟩
       refine As (fun env pv hp=>∃ x9 x10,Sub (w6 E0 10 (sI x10) 9 (sI x9) 3 (sV x3) 2 (sI x2) 1 (sI x1) 0 (sS x0a x0n x0c)) env∧Sub V0 pv∧F185_j6 x0a x0n x0c x1 x2 x3 x9 x10 hp I2 K) ?_ ?_
       ·refine Ar F185_r14 ?_ (r6 1 9 0 2 3 10 Rn) (z6 Sn) Sn
        refine Ac h rfl (fun h=>?_) (fun h=>?_)
        ·refine As (fun env pv hp=>∃ x9 x10 x11,Sub (w7 E0 11 (sI x11) 10 (sI x10) 9 (sI x9) 3 (sV x3) 2 (sI x2) 1 (sI x1) 0 (sS x0a x0n x0c)) env∧Sub V0 pv∧F185_j9 x0a x0n x0c x1 x2 x3 x9 x10 x11 hp I2 K) ?_ ?_
         ·refine Ag F185_r19 ?_ (r6 9 0 1 2 3 10 Rn) (z6 Sn) Sn
          exact ⟨_,_,_,(z7 Sn),Sn,h⟩
         ·rintro env pv hp ⟨x9,x10,x11,he,hv,h⟩
          refine Ae ?_ (r7 0 1 2 3 9 10 11 Rn) he hv
          unfold F185_j9 at h
          refine AWP.block (AWP.loop (σ:=Int) _ (fun s=>w7 E0 11 (sI s) 10 (sI x10) 9 (sI x9) 3 (sV x3) 2 (sI x2) 1 (sI x1) 0 (sS x0a x0n x0c)) (fun s=>V0) x11 h (fun s=>r7 0 1 2 3 9 10 11 Rn) (z7 Sn) Sn ?_)
          intro I10 x11 hp h
          replace h:F185_l10 x0a x0n x0c x1 x2 x3 x9 x10 I2 K I10 x11 hp:=h
          unfold F185_l10 at h
          refine Aq (Ar F185_r15 ?_ (r7 11 0 1 2 3 9 10 Rn) (z7 Sn) Sn)
          refine Ac h rfl (fun h=>?_) (fun h=>?_)
          ·refine AWP.skip (Aq (AWP.block (Aq (Aq (AWP.rgnD (by kernel_rfl) (by kernel_rfl) (F185_r16 rfl) ?_ (r7 0 3 11 1 2 9 10 Rn) (z7 Sn) Sn)))))
           refine ⟨h.1,h.2.1,mN h.2.2 (fun b43 o44 h=>mV h (fun v45 h=>ms h (fun s46 h=>⟨h.1,h.2.1,mN h.2.2 fun b47 o48 h=>mV h fun v49 h=>ms h fun s50 h=>mF h fun f51 ga_52 gb_53 h=>mC h fun u54 h55 h=>mI h fun i56 h=>?_⟩)))⟩
           refine Ac h rfl (fun h=>?_) (fun h=>?_)
           ·refine AWP.exit ?_
            exact ⟨_,_,(z6 Sn),Sn,h⟩
           ·refine AWP.skip (AWP.rgnD (by kernel_rfl) (by kernel_rfl) F185_r17 ?_ (r7 0 11 1 2 3 9 10 Rn) (z7 Sn) Sn)
            refine ⟨h.1,h.2.1,mN h.2.2 (fun b57 o58 h=>mV h (fun v59 h=>ms h (fun s60 h=>⟨h.1,h.2.1,mN h.2.2 (fun b61 o62 h=>mV h (fun v63 h=>ms h (fun s64 h=>⟨h.1,h.2.1,mN h.2.2 (fun b65 o66 h=>mw h (fun h67 h=>⟨h.1,h.2.1,mN h.2.2 fun b68 o69 h=>mw h fun h70 h=>?_⟩))⟩)))⟩)))⟩
            refine Ag F185_r18 ?_ (r7 11 0 1 2 3 9 10 Rn) (z7 Sn) Sn
            exact ⟨_,(z7 Sn),Sn,h⟩
          ·refine AWP.exit ?_
           exact ⟨_,_,(z6 Sn),Sn,h⟩
        ·refine AWP.skip ?_
         exact ⟨_,_,(z6 Sn),Sn,h⟩
       ·rintro env pv hp ⟨x9,x10,he,hv,h⟩
        refine Ae ?_ (r6 0 1 2 3 9 10 Rn) he hv
        unfold F185_j6 at h
        refine Ar F185_r8 ?_ (r6 2 9 0 1 3 10 Rn) (z6 Sn) Sn
        refine Ac h rfl (fun h=>?_) (fun h=>?_)
        ·refine As (fun env pv hp=>∃ x9 x10 x12,Sub (w7 E0 12 (sI x12) 10 (sI x10) 9 (sI x9) 3 (sV x3) 2 (sI x2) 1 (sI x1) 0 (sS x0a x0n x0c)) env∧Sub V0 pv∧F185_j7 x0a x0n x0c x1 x2 x3 x9 x10 x12 hp I2 K) ?_ ?_
         ·refine Ag F185_r13 ?_ (r6 9 0 1 2 3 10 Rn) (z6 Sn) Sn
          exact ⟨_,_,_,(z7 Sn),Sn,h⟩
         ·rintro env pv hp ⟨x9,x10,x12,he,hv,h⟩
          refine Ae ?_ (r7 0 1 2 3 9 10 12 Rn) he hv
          unfold F185_j7 at h
          refine AWP.block (AWP.loop (σ:=Int) _ (fun s=>w7 E0 12 (sI s) 10 (sI x10) 9 (sI x9) 3 (sV x3) 2 (sI x2) 1 (sI x1) 0 (sS x0a x0n x0c)) (fun s=>V0) x12 h (fun s=>r7 0 1 2 3 9 10 12 Rn) (z7 Sn) Sn ?_)
          intro I8 x12 hp h
          replace h:F185_l8 x0a x0n x0c x1 x2 x3 x9 x10 I2 K I8 x12 hp:=h
          unfold F185_l8 at h
          refine Aq (Ar F185_r9 ?_ (r7 2 12 0 1 3 9 10 Rn) (z7 Sn) Sn)
          refine Ac h rfl (fun h=>?_) (fun h=>?_)
          ·refine AWP.skip (Aq (AWP.block (Aq (Aq (AWP.rgnD (by kernel_rfl) (by kernel_rfl) (F185_r10 rfl) ?_ (r7 0 3 12 1 2 9 10 Rn) (z7 Sn) Sn)))))
           refine ⟨h.1,h.2.1,mN h.2.2 (fun b15 o16 h=>mV h (fun v17 h=>ms h (fun s18 h=>⟨h.1,h.2.1,mN h.2.2 fun b19 o20 h=>mV h fun v21 h=>ms h fun s22 h=>mF h fun f23 ga_24 gb_25 h=>mC h fun u26 h27 h=>mI h fun i28 h=>?_⟩)))⟩
           refine Ac h rfl (fun h=>?_) (fun h=>?_)
           ·refine AWP.exit ?_
            exact ⟨_,_,(z6 Sn),Sn,h⟩
           ·refine AWP.skip (AWP.rgnD (by kernel_rfl) (by kernel_rfl) F185_r11 ?_ (r7 0 12 1 2 3 9 10 Rn) (z7 Sn) Sn)
            refine ⟨h.1,h.2.1,mN h.2.2 (fun b29 o30 h=>mV h (fun v31 h=>ms h (fun s32 h=>⟨h.1,h.2.1,mN h.2.2 (fun b33 o34 h=>mV h (fun v35 h=>ms h (fun s36 h=>⟨h.1,h.2.1,mN h.2.2 (fun b37 o38 h=>mw h (fun h39 h=>⟨h.1,h.2.1,mN h.2.2 fun b40 o41 h=>mw h fun h42 h=>?_⟩))⟩)))⟩)))⟩
            refine Ag F185_r12 ?_ (r7 12 0 1 2 3 9 10 Rn) (z7 Sn) Sn
            exact ⟨_,(z7 Sn),Sn,h⟩
          ·refine AWP.exit ?_
           exact ⟨_,_,(z6 Sn),Sn,h⟩
        ·refine AWP.skip ?_
         exact ⟨_,_,(z6 Sn),Sn,h⟩
   ·rintro env pv hp ⟨x9,x10,he,hv,h⟩
    refine Ae ?_ (r6 0 1 2 3 9 10 Rn) he hv
    unfold F185_j4 at h
    refine Ag F185_r2 ?_ (r6 10 0 1 2 3 9 Rn) (z6 Sn) Sn
    exact ⟨_,(z6 Sn),Sn,h⟩
end
section
variable {e E:Env} {x0a:OA} {x0n x0c:Nat} {x1 x2 x3:Int} {x4:Value} {x10 x11:Int} {hp:HP} {K:Env→PV→HP→Prop}
abbrev R192 (p n:Nat):=RW Try.prog 82 [] (opsAt Try.f192 (pth p)) (List.range n)
theorem F192_r0:R192 33 4 (upd e 10 (sI x10)) V0 hp K=
 K (w5 e 10 (sI x10) 13 (sI x10) 14 (sI ((wr (2*x10)))) 15 (sI ((wr ((wr (2*x10))+1)))) 11 (sI ((wr ((wr (2*x10))+1))))) V0 hp:= by kernel_rfl
theorem F192_r1:R192 145 3 (w2 e 11 (sI x11) 2 (sI x2)) V0 hp K=
 K (w5 e 11 (sI x11) 2 (sI x2) 16 (sI x11) 17 (sI x2) 18 (sB (decide (x11≥x2)))) V0 hp:= by kernel_rfl
theorem F192_r2 (h:E=upd (w4 e 11 (sI x11) 10 (sI x10) 4 (sV x4) 3 (sI x3)) 0 (sS x0a x0n x0c)):R192 625 16 E V0 hp K=
    ((0≤((wr (x3+x10)):Int))∧(((wr (x3+x10)):Int)<x0n)∧(ptrN x0a fun b1 o2=>ldV (HP.cell hp b1 (o2+Int.toNat (wr (x3+x10))*1)) fun v3=>strV v3 fun s4=>(0≤((wr (x3+x11)):Int))∧(((wr (x3+x11)):Int)<x0n)∧(ptrN x0a fun b5 o6=>ldV (HP.cell hp b5 (o6+Int.toNat (wr (x3+x11))*1)) fun v7=>strV v7 fun s8=>fnV x4 fun f9 ga10 gb11=>CF Try.prog f9 (ga10++[(Value.string s4),(.string s8)]++gb11) hp fun u12 h13=>intV u12 .i64 fun i14=>K (w8 (w8 E 43 (sV x4) 44 (sS x0a x0n x0c) 45 (sI x3) 46 (sI x10) 47 (sI ((wr (x3+x10)))) 48 (sV (ptr b1 (o2+Int.toNat (wr (x3+x10))*1))) 49 (sT s4) 50 (sS x0a x0n x0c)) 51 (sI x3) 52 (sI x11) 53 (sI ((wr (x3+x11)))) 54 (sV (ptr b5 (o6+Int.toNat (wr (x3+x11))*1))) 55 (sT s8) 56 (sI i14) 57 (sB (decide (i14<0))) 58 (sB ((!(decide (i14<0)))))) V0 h13))):=by subst h; kernel_rfl
theorem F192_r3 (h:E=upd (w3 e 11 (sI x11) 10 (sI x10) 3 (sI x3)) 0 (sS x0a x0n x0c)):R192 753 24 E V0 hp K=
    ((0≤((wr (x3+x11)):Int))∧(((wr (x3+x11)):Int)<x0n)∧(ptrN x0a fun b1 o2=>ldV (HP.cell hp b1 (o2+Int.toNat (wr (x3+x11))*1)) fun v3=>strV v3 fun s4=>(0≤((wr (x3+x10)):Int))∧(((wr (x3+x10)):Int)<x0n)∧(ptrN x0a fun b5 o6=>ldV (HP.cell hp b5 (o6+Int.toNat (wr (x3+x10))*1)) fun v7=>strV v7 fun s8=>(0≤((wr (x3+x10)):Int))∧(((wr (x3+x10)):Int)<x0n)∧(ptrN x0a fun b9 o10=>HP.st hp b9 (o10+Int.toNat (wr (x3+x10))*1) (.string s4) fun h11=>(0≤((wr (x3+x11)):Int))∧(((wr (x3+x11)):Int)<x0n)∧(ptrN x0a fun b12 o13=>HP.st h11 b12 (o13+Int.toNat (wr (x3+x11))*1) (.string s8) fun h14=>K (w6 (w8 (w8 E 59 (sS x0a x0n x0c) 60 (sI x3) 61 (sI x10) 62 (sI ((wr (x3+x10)))) 63 (sS x0a x0n x0c) 64 (sI x3) 65 (sI x11) 66 (sI ((wr (x3+x11))))) 67 (sS x0a x0n x0c) 68 (sI x3) 69 (sI x11) 70 (sI ((wr (x3+x11)))) 71 (sV (ptr b1 (o2+Int.toNat (wr (x3+x11))*1))) 72 (sT s4) 73 (sS x0a x0n x0c) 74 (sI x3)) 75 (sI x10) 76 (sI ((wr (x3+x10)))) 77 (sV (ptr b5 (o6+Int.toNat (wr (x3+x10))*1))) 78 (sT s8) 79 (sV (ptr b9 (o10+Int.toNat (wr (x3+x10))*1))) 80 (sV (ptr b12 (o13+Int.toNat (wr (x3+x11))*1)))) V0 h14))))):=by subst h; kernel_rfl
theorem F192_r4:R192 1009 2 (upd e 11 (sI x11)) V0 hp K=
 K (w3 e 11 (sI x11) 81 (sI x11) 10 (sI x11)) V0 hp:= by kernel_rfl
def F192_j3 (x0a:OA) (x0n x0c:Nat) (x2 x3:Int) (x4:Value) (x10 x11:Int) (hp:HP) (I2:(Int)→HP→Prop) (K:Kh):Prop:=
  ((0≤((IntKind.wrap .i64 (x3+x10)):Int))∧(((IntKind.wrap .i64 (x3+x10)):Int)<x0n)∧(ptrN x0a fun b1 o2=>ldV (HP.cell hp b1 (o2+Int.toNat (IntKind.wrap .i64 (x3+x10))*1)) fun v3=>strV v3 fun s4=>(0≤((IntKind.wrap .i64 (x3+x11)):Int))∧(((IntKind.wrap .i64 (x3+x11)):Int)<x0n)∧(ptrN x0a fun b5 o6=>ldV (HP.cell hp b5 (o6+Int.toNat (IntKind.wrap .i64 (x3+x11))*1)) fun v7=>strV v7 fun s8=>fnV x4 fun f9 ga_10 gb_11=>CF Try.prog f9 (ga_10++[(Value.string s4),(.string s8)]++gb_11) hp fun u12 h13=>intV u12 .i64 fun i14=>ite2 (!(decide (i14<0))) (K (.tuple ⟨[]⟩) h13) ((0≤((IntKind.wrap .i64 (x3+x11)):Int))∧(((IntKind.wrap .i64 (x3+x11)):Int)<x0n)∧(ptrN x0a fun b15 o16=>ldV (HP.cell h13 b15 (o16+Int.toNat (IntKind.wrap .i64 (x3+x11))*1)) fun v17=>strV v17 fun s18=>(0≤((IntKind.wrap .i64 (x3+x10)):Int))∧(((IntKind.wrap .i64 (x3+x10)):Int)<x0n)∧(ptrN x0a fun b19 o20=>ldV (HP.cell h13 b19 (o20+Int.toNat (IntKind.wrap .i64 (x3+x10))*1)) fun v21=>strV v21 fun s22=>(0≤((IntKind.wrap .i64 (x3+x10)):Int))∧(((IntKind.wrap .i64 (x3+x10)):Int)<x0n)∧(ptrN x0a fun b23 o24=>HP.st h13 b23 (o24+Int.toNat (IntKind.wrap .i64 (x3+x10))*1) (.string s18) fun h25=>(0≤((IntKind.wrap .i64 (x3+x11)):Int))∧(((IntKind.wrap .i64 (x3+x11)):Int)<x0n)∧(ptrN x0a fun b26 o27=>HP.st h25 b26 (o27+Int.toNat (IntKind.wrap .i64 (x3+x11))*1) (.string s22) fun h28=>I2 x11 h28))))))))
theorem F192_r5:R192 689 3 (upd e 11 (sI x11)) V0 hp K=
 K (w4 e 11 (sI x11) 41 (sI x11) 42 (sI ((wr (x11+1)))) 11 (sI ((wr (x11+1))))) V0 hp:= by kernel_rfl
def F192_j4 (x0a:OA) (x0n x0c:Nat) (x2 x3:Int) (x4:Value) (x10 x11:Int) (x40:Bool) (hp:HP) (I2:(Int)→HP→Prop) (K:Kh):Prop:=
  (ite2 x40 (F192_j3 x0a x0n x0c x2 x3 x4 x10 (IntKind.wrap .i64 (x11+1)) hp I2 K) (F192_j3 x0a x0n x0c x2 x3 x4 x10 x11 hp I2 K))
theorem F192_r6 (h:E=upd (w4 e 11 (sI x11) 4 (sV x4) 3 (sI x3) 2 (sI x2)) 0 (sS x0a x0n x0c)):R192 305 22 E V0 hp K=
    (ite2 (decide (((wr (x11+1)):Int)<x2)) ((0≤((wr (x3+x11)):Int))∧(((wr (x3+x11)):Int)<x0n)∧(ptrN x0a fun b1 o2=>ldV (HP.cell hp b1 (o2+Int.toNat (wr (x3+x11))*1)) fun v3=>strV v3 fun s4=>(0≤((wr ((wr (x3+x11))+1)):Int))∧(((wr ((wr (x3+x11))+1)):Int)<x0n)∧(ptrN x0a fun b5 o6=>ldV (HP.cell hp b5 (o6+Int.toNat (wr ((wr (x3+x11))+1))*1)) fun v7=>strV v7 fun s8=>fnV x4 fun f9 ga10 gb11=>CF Try.prog f9 (ga10++[(Value.string s4),(.string s8)]++gb11) hp fun u12 h13=>intV u12 .i64 fun i14=>K (w6 (w8 (w8 E 19 (sI x11) 20 (sI ((wr (x11+1)))) 21 (sI x2) 22 (sB ((decide (((wr (x11+1)):Int)<x2)))) 23 (sB true) 24 (sV x4) 25 (sS x0a x0n x0c) 26 (sI x3)) 27 (sI x11) 28 (sI ((wr (x3+x11)))) 29 (sV (ptr b1 (o2+Int.toNat (wr (x3+x11))*1))) 30 (sT s4) 31 (sS x0a x0n x0c) 32 (sI x3) 33 (sI x11) 34 (sI ((wr (x3+x11))))) 35 (sI ((wr ((wr (x3+x11))+1)))) 36 (sV (ptr b5 (o6+Int.toNat (wr ((wr (x3+x11))+1))*1))) 37 (sT s8) 38 (sI i14) 39 (sB (decide (i14<0))) 40 (sB (decide (i14<0)))) V0 h13))) (K (w6 (w8 (w8 E 19 (sI x11) 20 (sI ((wr (x11+1)))) 21 (sI x2) 22 (sB ((decide (((wr (x11+1)):Int)<x2)))) 23 (sB false) 24 sU 25 sU 26 sU) 27 sU 28 sU 29 sU 30 sU 31 sU 32 sU 33 sU 34 sU) 35 sU 36 sU 37 sU 38 sU 39 sU 40 (sB false)) V0 hp)):=by subst h; kernel_rfl
def F192_l2 (x0a:OA) (x0n x0c:Nat) (x2 x3:Int) (x4:Value) (K:Kh) (I2:(Int)→HP→Prop) (x10:Int) (hp:HP):Prop:=
  (ite2 (decide (((IntKind.wrap .i64 ((IntKind.wrap .i64 (2*x10))+1)):Int)≥x2)) (K (.tuple ⟨[]⟩) hp) (ite2 (decide (((IntKind.wrap .i64 ((IntKind.wrap .i64 ((IntKind.wrap .i64 (2*x10))+1))+1)):Int)<x2)) ((0≤((IntKind.wrap .i64 (x3+(IntKind.wrap .i64 ((IntKind.wrap .i64 (2*x10))+1)))):Int))∧(((IntKind.wrap .i64 (x3+(IntKind.wrap .i64 ((IntKind.wrap .i64 (2*x10))+1)))):Int)<x0n)∧(ptrN x0a fun b29 o30=>ldV (HP.cell hp b29 (o30+Int.toNat (IntKind.wrap .i64 (x3+(IntKind.wrap .i64 ((IntKind.wrap .i64 (2*x10))+1))))*1)) fun v31=>strV v31 fun s32=>(0≤((IntKind.wrap .i64 ((IntKind.wrap .i64 (x3+(IntKind.wrap .i64 ((IntKind.wrap .i64 (2*x10))+1))))+1)):Int))∧(((IntKind.wrap .i64 ((IntKind.wrap .i64 (x3+(IntKind.wrap .i64 ((IntKind.wrap .i64 (2*x10))+1))))+1)):Int)<x0n)∧(ptrN x0a fun b33 o34=>ldV (HP.cell hp b33 (o34+Int.toNat (IntKind.wrap .i64 ((IntKind.wrap .i64 (x3+(IntKind.wrap .i64 ((IntKind.wrap .i64 (2*x10))+1))))+1))*1)) fun v35=>strV v35 fun s36=>fnV x4 fun f37 ga_38 gb_39=>CF Try.prog f37 (ga_38++[(Value.string s32),(.string s36)]++gb_39) hp fun u40 h41=>intV u40 .i64 fun i42=>F192_j4 x0a x0n x0c x2 x3 x4 x10 (IntKind.wrap .i64 ((IntKind.wrap .i64 (2*x10))+1)) (decide (i42<0)) h41 I2 K))) (F192_j4 x0a x0n x0c x2 x3 x4 x10 (IntKind.wrap .i64 ((IntKind.wrap .i64 (2*x10))+1)) false hp I2 K)))
def F192_j1 (x0a:OA) (x0n x0c:Nat) (x2 x3:Int) (x4:Value) (x10:Int) (hp:HP) (K:Kh):Prop:=
  (LoopP (σ:=Int) (fun I s hp=>F192_l2 x0a x0n x0c x2 x3 x4  K I s hp) x10 hp)
theorem F192_r7:R192 2 2 (upd e 1 (sI x1)) V0 hp K=
 K (w3 e 1 (sI x1) 12 (sI x1) 10 (sI x1)) V0 hp:= by kernel_rfl
def F192 (x0a:OA) (x0n x0c:Nat) (x1 x2 x3:Int) (x4:Value) (hp:HP) (K:Kh):Prop:=
  (F192_j1 x0a x0n x0c x2 x3 x4 x1 hp  K)
noncomputable abbrev o192 (k n:Nat):Code:=.region k (opsAt Try.f192 (pth n)) false
noncomputable def F192_code:Code:=(.seq (o192 0 2) (.block 0 (.loop (.block 1 (.seq (o192 1 33) (.seq (.seq (o192 2 145) (.cond (.tmp 18) (.exit 0) .skip)) (.seq (.seq (.region 3 (opsAt Try.f192 (pth 305)) true) (.cond (.tmp 40) (o192 4 689) .skip)) (.seq (.seq (.region 5 (opsAt Try.f192 (pth 625)) true) (.cond (.tmp 58) .ret .skip)) (.seq (.region 6 (opsAt Try.f192 (pth 753)) true) (o192 7 1009))))))))))
theorem F192_body:Try.f192.body=some F192_code:=by kernel_rfl
theorem F192_ok (x0a:OA) (x0n x0c:Nat) (x1 x2 x3:Int) (x4:Value) (hp:HP) (K:Kh) (h:F192 x0a x0n x0c x1 x2 x3 x4 hp K):CF Try.prog 192 [(.slice x0a x0n x0c),(.int .i64 x1),(.int .i64 x2),(.int .i64 x3),x4] hp K:=by
 refine .inl ⟨by kernel_rfl,AC.intro (N:=82) Try.func192 F192_body rfl (Nat.le_of_ble_eq_true rfl) ?_⟩
 unfold F192 at h
 refine As (fun env pv hp=>∃ x0a x0n x0c x2 x3 x4 x10,Sub (w5 E0 10 (sI x10) 4 (sV x4) 3 (sI x3) 2 (sI x2) 0 (sS x0a x0n x0c)) env∧Sub V0 pv∧F192_j1 x0a x0n x0c x2 x3 x4 x10 hp  K) ?_ ?_
 ·refine Ag F192_r7 ?_ (r5 1 0 2 3 4 Rn) (z5 Sn) Sn
  exact ⟨_,_,_,_,_,_,_,(z5 Sn),Sn,h⟩
 ·rintro env pv hp ⟨x0a,x0n,x0c,x2,x3,x4,x10,he,hv,h⟩
  refine Ae ?_ (r5 0 2 3 4 10 Rn) he hv
  unfold F192_j1 at h
  refine AWP.block (AWP.loop (σ:=Int) _ (fun s=>w5 E0 10 (sI s) 4 (sV x4) 3 (sI x3) 2 (sI x2) 0 (sS x0a x0n x0c)) (fun s=>V0) x10 h (fun s=>r5 0 2 3 4 10 Rn) (z5 Sn) Sn ?_)
  intro I2 x10 hp h
  replace h:F192_l2 x0a x0n x0c x2 x3 x4  K I2 x10 hp:=h
  unfold F192_l2 at h
  refine AWP.block (Ar F192_r0 ?_ (r5 10 0 2 3 4 Rn) (z5 Sn) Sn)
  refine Aq (Ar F192_r1 ?_ (r6 2 11 0 3 4 10 Rn) (z6 Sn) Sn)
  refine Ac h rfl (fun h=>?_) (fun h=>?_)
  ·refine AWP.exit ?_
   exact h
  ·refine AWP.skip (As (fun env pv hp=>∃ x10 x11,Sub (w6 E0 11 (sI x11) 10 (sI x10) 4 (sV x4) 3 (sI x3) 2 (sI x2) 0 (sS x0a x0n x0c)) env∧Sub V0 pv∧F192_j3 x0a x0n x0c x2 x3 x4 x10 x11 hp I2 K) ?_ ?_)
   ·refine As (fun env pv hp=>∃ x10 x11 x40,Sub (w7 E0 40 (sB x40) 11 (sI x11) 10 (sI x10) 4 (sV x4) 3 (sI x3) 2 (sI x2) 0 (sS x0a x0n x0c)) env∧Sub V0 pv∧F192_j4 x0a x0n x0c x2 x3 x4 x10 x11 x40 hp I2 K) ?_ ?_
    ·refine AWP.rgnD (by kernel_rfl) (by kernel_rfl) (F192_r6 rfl) ?_ (r6 0 2 3 4 11 10 Rn) (z6 Sn) Sn
     refine mt h (fun h=>?_) (fun h=>?_)
     ·refine ⟨h.1,h.2.1,mN h.2.2 (fun b29 o30 h=>mV h (fun v31 h=>ms h (fun s32 h=>⟨h.1,h.2.1,mN h.2.2 fun b33 o34 h=>mV h fun v35 h=>ms h fun s36 h=>mF h fun f37 ga_38 gb_39 h=>mC h fun u40 h41 h=>mI h fun i42 h=>?_⟩)))⟩
      exact ⟨_,_,_,(z7 Sn),Sn,h⟩
     ·exact ⟨_,_,_,(z7 Sn),Sn,h⟩
    ·rintro env pv hp ⟨x10,x11,x40,he,hv,h⟩
     refine Ae ?_ (r7 0 2 3 4 10 11 40 Rn) he hv
     unfold F192_j4 at h
     refine Ac h rfl (fun h=>?_) (fun h=>?_)
     ·refine Ag F192_r5 ?_ (r6 11 0 2 3 4 10 Rn) (z6 Sn) Sn
      exact ⟨_,_,(z6 Sn),Sn,h⟩
     ·refine AWP.skip ?_
      exact ⟨_,_,(z6 Sn),Sn,h⟩
   ·rintro env pv hp ⟨x10,x11,he,hv,h⟩
    refine Ae ?_ (r6 0 2 3 4 10 11 Rn) he hv
    unfold F192_j3 at h
    refine Aq (Aq (AWP.rgnD (by kernel_rfl) (by kernel_rfl) (F192_r2 rfl) ?_ (r6 0 3 4 10 11 2 Rn) (z6 Sn) Sn))
    refine ⟨h.1,h.2.1,mN h.2.2 (fun b1 o2 h=>mV h (fun v3 h=>ms h (fun s4 h=>⟨h.1,h.2.1,mN h.2.2 fun b5 o6 h=>mV h fun v7 h=>ms h fun s8 h=>mF h fun f9 ga_10 gb_11 h=>mC h fun u12 h13 h=>mI h fun i14 h=>?_⟩)))⟩
    refine Ac h rfl (fun h=>?_) (fun h=>?_)
    ·refine AWP.ret ?_
     exact h
    ·refine AWP.skip (Aq (AWP.rgnD (by kernel_rfl) (by kernel_rfl) (F192_r3 rfl) ?_ (r6 0 3 10 11 2 4 Rn) (z6 Sn) Sn))
     refine ⟨h.1,h.2.1,mN h.2.2 (fun b15 o16 h=>mV h (fun v17 h=>ms h (fun s18 h=>⟨h.1,h.2.1,mN h.2.2 (fun b19 o20 h=>mV h (fun v21 h=>ms h (fun s22 h=>⟨h.1,h.2.1,mN h.2.2 (fun b23 o24 h=>mw h (fun h25 h=>⟨h.1,h.2.1,mN h.2.2 fun b26 o27 h=>mw h fun h28 h=>?_⟩))⟩)))⟩)))⟩
     refine Ag F192_r4 ?_ (r5 11 0 2 3 4 Rn) (z5 Sn) Sn
     exact ⟨_,(z5 Sn),Sn,h⟩
end
end Go.Proofs
set_option linter.unusedVariables false
set_option maxRecDepth 20000
namespace Go.Proofs
open Go Go.HL
section
variable {f:FuncId} {ga gb:List Value} {hp0:HP} {b sp n c:Nat} {T:Type} [Inhabited T] {en:T→ByteArray} {cf:T→T→Int}
theorem S180 (hc:CmpOk1 Try.prog f ga gb hp0 b 9 sp n cf en) {d:Array T} {lo hi:Nat} {K:Value→HP→Prop} (hs:d.size=n) (hlo:lo≤hi) (hhi:hi≤n) (hn:n≤1000000000)
    (h:K (.tuple ⟨[]⟩) (HA hp0 b 9 sp (ssT en) (Sort.insertionSort (ltC cf) d lo hi))) :
    CF Try.prog 180 [.slice (some ⟨b,0,none⟩) n c,.int .i64 lo,.int .i64 hi,.func (.func f) ⟨ga⟩ ⟨gb⟩] (HA hp0 b 9 sp (ssT en) d) K:=by
  refine F180_ok _ n c lo hi _ _ K ?_
  unfold F180 F180_j1
  rw [w64 (by omega) (by omega)]
  refine LoopP.by (J:=fun k (x:Int) hp=>∃ (i:Nat) (d':Array T),x=i∧hp=HA hp0 b 9 sp (ssT en) d'∧d'.size=n∧lo<i∧k=hi-i∧Sort.insOuter (ltC cf) lo hi i d'=Sort.insertionSort (ltC cf) d lo hi) ?_
    (n:=hi-(lo+1)) ⟨lo+1,d,by omega,rfl,hs,by omega,rfl,rfl⟩
  rintro I k x hp ⟨i,d',rfl,rfl,hs',hli,rfl,he⟩ hI
  unfold F180_l2
  rw [Sort.insOuter] at he
  by_cases hi':i<hi
  · rw [decide_eq_true (by omega:(i:Int)<(hi:Int)),ite2_true]
    rw [if_pos hi'] at he
    unfold F180_j4
    refine LoopP.by (J:=fun k (y:Int) hp=>∃ (j:Nat) (d2:Array T),y=j∧hp=HA hp0 b 9 sp (ssT en) d2∧d2.size=n∧j<n∧k=j∧Sort.insInner (ltC cf) lo j d2=Sort.insInner (ltC cf) lo i d') ?_
      (n:=i) ⟨i,d',rfl,rfl,hs',by omega,rfl,rfl⟩
    rintro I2 k2 y hp2 ⟨j,d2,rfl,rfl,hs2,hj,hk2,he2⟩ hI2
    unfold F180_l5
    have out:Sort.insInner (ltC cf) lo i d'=d2→F180_j6 (some ⟨b,0,none⟩) n c lo hi (.func (.func f) ⟨ga⟩ ⟨gb⟩) i j false (HA hp0 b 9 sp (ssT en) d2) I I2 K:=by
      intro heq
      unfold F180_j6 F180_j3
      rw [ite2_false,w64 (by omega) (by omega)]
      exact hI (hi-(i+1)) _ _ (by omega) ⟨i+1,d2,by omega,rfl,hs2,by omega,rfl,by rw [← heq]; exact he⟩
    by_cases hjl:lo<j
    · rw [decide_eq_true (by omega:(j:Int) > (lo:Int)),ite2_true]
      obtain ⟨j',rfl⟩:∃ j',j=j'+1:=⟨j-1,by omega⟩
      have w1:IntKind.wrap .i64 (((j'+1:Nat):Int)-1)=(j':Int):=by rw [w64 (by omega) (by omega)]; omega
      have g1:(HA hp0 b 9 sp (ssT en) d2).cell b (0+(j'+1)*1)=some (sw (en d2[j'+1]!)):=HA.get1 (en:=fun x=>sw (en x)) (by omega)
      have g0:(HA hp0 b 9 sp (ssT en) d2).cell b (0+(j')*1)=some (sw (en d2[j']!)):=HA.get1 (en:=fun x=>sw (en x)) (by omega)
      simp only [w1,ptrN_some,Int.toNat_natCast,g1,g0,ldV_some,sw,strV_string,fnV_mk]
      refine ⟨by omega,by omega,by omega,by omega,?_⟩
      refine hc d2 _ _ _ hs2 (at_mem (by omega)) (at_mem (by omega)) ?_
      rw [intV_int]
      rw [Sort.insInner] at he2
      have hgt:decide (j'+1 > lo)=true:=decide_eq_true (by omega)
      cases hlt:decide (cf d2[j'+1]! d2[j']!<0)
      · have:ltC cf d2[j'+1]! d2[j']! = false:=hlt
        rw [hgt,this] at he2
        exact out (by simpa using he2.symm)
      · have:ltC cf d2[j'+1]! d2[j']! = true:=hlt
        rw [hgt,this] at he2
        simp only [Bool.and_self,if_true] at he2
        unfold F180_j6
        simp only [ite2_true,w1,ptrN_some,Int.toNat_natCast,g0,g1,ldV_some,sw,strV_string]
        refine ⟨by omega,by omega,by omega,by omega,by omega,by omega,?_⟩
        refine HA.st1 (en:=fun x=>sw (en x)) (by omega) _ ?_
        refine ⟨by omega,by omega,?_⟩
        refine HA.st1 (en:=fun x=>sw (en x)) (by rw [Array.size_setIfInBounds]; omega) _ ?_
        exact hI2 j' _ _ (by omega) ⟨j',_,rfl,rfl,by rw [Array.size_setIfInBounds,Array.size_setIfInBounds]; exact hs2,by omega,rfl,he2⟩
    · rw [decide_eq_false (by omega:¬ (j:Int) > (lo:Int)),ite2_false]
      refine out ?_
      cases j with
      | zero=>rw [Sort.insInner] at he2; exact he2.symm
      | succ j=>
        rw [Sort.insInner] at he2
        have hgt:decide (j+1 > lo)=false:=decide_eq_false (by omega)
        rw [hgt] at he2
        simpa using he2.symm
  · rw [decide_eq_false (by omega:¬ (i:Int)<(hi:Int)),ite2_false]
    rw [if_neg hi'] at he
    rw [he]
    exact h
end
end Go.Proofs
set_option linter.unusedVariables false
set_option maxRecDepth 20000
namespace Go.Proofs
open Go Go.HL
section
variable {f:FuncId} {ga gb:List Value} {hp0:HP} {b sp n c:Nat} {T:Type} [Inhabited T] {en:T→ByteArray} {cf:T→T→Int}
theorem S192 (hc:CmpOk1 Try.prog f ga gb hp0 b 9 sp n cf en) {d:Array T} {lo hi fst:Nat} {K:Value→HP→Prop} (hs:d.size=n) (hlo:lo≤hi) (hf:fst+hi≤n) (hn:n≤1000000000)
    (h:K (.tuple ⟨[]⟩) (HA hp0 b 9 sp (ssT en) (Sort.siftDown (ltC cf) hi fst lo d))) :
    CF Try.prog 192 [.slice (some ⟨b,0,none⟩) n c,.int .i64 lo,.int .i64 hi,.int .i64 fst,.func (.func f) ⟨ga⟩ ⟨gb⟩] (HA hp0 b 9 sp (ssT en) d) K:=by
  refine F192_ok _ n c lo hi fst _ _ K ?_
  unfold F192 F192_j1
  refine LoopP.by (J:=fun k (x:Int) hp=>∃ (r:Nat) (d':Array T),x=r∧hp=HA hp0 b 9 sp (ssT en) d'∧d'.size=n∧r≤hi∧k=hi-r∧Sort.siftDown (ltC cf) hi fst r d'=Sort.siftDown (ltC cf) hi fst lo d) ?_
    (n:=hi-lo) ⟨lo,d,rfl,rfl,hs,hlo,rfl,rfl⟩
  rintro I k x hp ⟨r,d',rfl,rfl,hs',hr,rfl,he⟩ hI
  unfold F192_l2
  have w1:IntKind.wrap .i64 (2*(r:Int))=((2*r:Nat):Int):=wi (by omega) (by omega)
  have w2:IntKind.wrap .i64 (((2*r:Nat):Int)+1)=((2*r+1:Nat):Int):=wi (by omega) (by omega)
  have w3:IntKind.wrap .i64 (((2*r+1:Nat):Int)+1)=((2*r+2:Nat):Int):=wi (by omega) (by omega)
  have w4:IntKind.wrap .i64 ((fst:Int)+((2*r+1:Nat):Int))=((fst+(2*r+1):Nat):Int):=wi (by omega) (by omega)
  have w5:IntKind.wrap .i64 (((fst+(2*r+1):Nat):Int)+1)=((fst+(2*r+1)+1:Nat):Int):=wi (by omega) (by omega)
  simp only [w1,w2,w3,w4,w5]
  rw [Sort.siftDown] at he
  by_cases h1:2*r+1≥hi
  · rw [dif_pos h1] at he
    rw [decide_eq_true (by omega:((2*r+1:Nat):Int)≥(hi:Int)),ite2_true,he]
    exact h
  rw [dif_neg h1] at he
  rw [decide_eq_false (by omega:¬ ((2*r+1:Nat):Int)≥(hi:Int)),ite2_false]
  have tail:∀ ch:Nat,ch<hi→r<ch→(if !ltC cf d'[fst+r]! d'[fst+ch]! then d' else Sort.siftDown (ltC cf) hi fst ch (Sort.swp d' (fst+r) (fst+ch)))=Sort.siftDown (ltC cf) hi fst lo d →
      F192_j3 (some ⟨b,0,none⟩) n c hi fst (.func (.func f) ⟨ga⟩ ⟨gb⟩) r ch (HA hp0 b 9 sp (ssT en) d') I K:=by
    intro ch hch hrc ht
    unfold F192_j3
    have v1:IntKind.wrap .i64 ((fst:Int)+(r:Int))=((fst+r:Nat):Int):=wi (by omega) (by omega)
    have v2:IntKind.wrap .i64 ((fst:Int)+(ch:Int))=((fst+ch:Nat):Int):=wi (by omega) (by omega)
    simp only [v1,v2]
    refine cmpP1 hc hs' (i:=fst+r) (j:=fst+ch) rfl rfl (by omega) (by omega) ?_
    have hl:decide (cf d'[fst+r]! d'[fst+ch]!<0)=ltC cf d'[fst+r]! d'[fst+ch]! := rfl
    rw [hl]
    cases hlt:ltC cf d'[fst+r]! d'[fst+ch]!
    · rw [hlt] at ht
      simp only [Bool.not_false,if_true] at ht
      simp only [Bool.not_false,ite2_true]
      rw [ht]; exact h
    · rw [hlt] at ht
      simp only [Bool.not_true,Bool.false_eq_true,if_false] at ht
      simp only [Bool.not_true,ite2_false]
      refine swapP1 hs' (i:=fst+r) (j:=fst+ch) rfl rfl (by omega) (by omega) ?_
      exact hI (hi-ch) _ _ (by omega) ⟨ch,_,rfl,rfl,by rw [swp_size]; exact hs',by omega,rfl,ht⟩
  by_cases h2:2*r+1+1<hi
  · rw [decide_eq_true (by omega:((2*r+2:Nat):Int)<(hi:Int)),ite2_true]
    refine cmpP1 hc hs' (i:=fst+(2*r+1)) (j:=fst+(2*r+1)+1) rfl rfl (by omega) (by omega) ?_
    have hl:decide (cf d'[fst+(2*r+1)]! d'[fst+(2*r+1)+1]!<0)=ltC cf d'[fst+(2*r+1)]! d'[fst+(2*r+1)+1]! := rfl
    rw [hl]
    unfold F192_j4
    rw [decide_eq_true h2,Bool.true_and] at he
    cases hlt:ltC cf d'[fst+(2*r+1)]! d'[fst+(2*r+1)+1]!
    · rw [hlt] at he
      simp only [Bool.false_eq_true,if_false] at he
      rw [ite2_false]
      exact tail (2*r+1) (by omega) (by omega) he
    · rw [hlt] at he
      simp only [if_true] at he
      rw [ite2_true,w3]
      refine tail (2*r+2) (by omega) (by omega) ?_
      rw [dif_pos (by omega:2*r+2<hi)] at he
      exact he
  · rw [decide_eq_false (by omega:¬ ((2*r+2:Nat):Int)<(hi:Int)),ite2_false]
    rw [decide_eq_false h2,Bool.false_and] at he
    simp only [Bool.false_eq_true,if_false] at he
    unfold F192_j4
    rw [ite2_false]
    exact tail (2*r+1) (by omega) (by omega) he
theorem sift_size {α:Type} [Inhabited α] (lt:α→α→Bool) (hi fst:Nat):∀ (m r:Nat) (d:Array α),hi-r≤m→(Sort.siftDown lt hi fst r d).size=d.size:=by
  intro m
  induction m with
  | zero=>
    intro r d hm
    rw [Sort.siftDown,dif_pos (by omega)]
  | succ m ih=>
    intro r d hm
    rw [Sort.siftDown]
    repeat' split
    all_goals first
      | rfl
      | (rw [ih _ _ (by omega),swp_size])
theorem S181 (hc:CmpOk1 Try.prog f ga gb hp0 b 9 sp n cf en) {d:Array T} {lo hi:Nat} {K:Value→HP→Prop} (hs:d.size=n) (hlo:lo≤hi) (hf:hi≤n) (hn:n≤1000000000)
    (h:K (.tuple ⟨[]⟩) (HA hp0 b 9 sp (ssT en) (Sort.heapSort (ltC cf) d lo hi))) :
    CF Try.prog 181 [.slice (some ⟨b,0,none⟩) n c,.int .i64 lo,.int .i64 hi,.func (.func f) ⟨ga⟩ ⟨gb⟩] (HA hp0 b 9 sp (ssT en) d) K:=by
  refine F181_ok _ n c lo hi _ _ K ?_
  unfold F181 F181_j4
  have w1:IntKind.wrap .i64 ((hi:Int)-(lo:Int))=((hi-lo:Nat):Int):=wi (by omega) (by omega)
  refine ⟨by omega,?_⟩
  rw [w1]
  generalize hm:hi-lo=m at *
  have w2:IntKind.wrap .i64 ((m:Int)-1)=(m:Int)-1:=w64 (by omega) (by omega)
  have w3:Int.tdiv ((m:Int)-1) 2=(((m-1) / 2:Nat):Int):=by
    cases m with
    | zero=>rfl
    | succ m=>
      have:((m+1:Nat):Int)-1=(m:Int):=by omega
      rw [this]; simp only [Nat.add_sub_cancel]
      rfl
  have w4:IntKind.wrap .i64 ((((m-1) / 2:Nat):Int))=(((m-1) / 2:Nat):Int):=wi rfl (by omega)
  rw [w2,w3,w4]
  unfold Sort.heapSort at h
  rw [hm] at h
  refine LoopP.by (J:=fun k (x:Int) hp=>∃ (d':Array T),x=(k:Int)-1∧hp=HA hp0 b 9 sp (ssT en) d'∧d'.size=n∧k≤(m-1) / 2+1∧Sort.heapBuild (ltC cf) m lo k d'=Sort.heapBuild (ltC cf) m lo ((m-1) / 2+1) d) ?_
    (n:=(m-1) / 2+1) ⟨d,by omega,rfl,hs,Nat.le_refl _,rfl⟩
  rintro I k x hp ⟨d',rfl,rfl,hs',hk,he⟩ hI
  unfold F181_l5
  cases k with
  | succ k=>
    have e1:((k+1:Nat):Int)-1=(k:Int):=by omega
    rw [e1,decide_eq_true (by omega:(k:Int)≥0),ite2_true]
    refine S192 hc hs' (by omega) (by omega) hn ?_
    rw [w64 (by omega) (by omega)]
    rw [Sort.heapBuild] at he
    exact hI k _ _ (by omega) ⟨_,rfl,rfl,by rw [sift_size _ _ _ _ _ _ (Nat.le_refl _)]; exact hs',by omega,he⟩
  | zero=>
    rw [decide_eq_false (by omega:¬ (((0:Nat):Int)-1)≥0),ite2_false]
    rw [Sort.heapBuild] at he
    rw [← he] at h
    unfold F181_j1 F181_j2
    rw [w2]
    refine LoopP.by (J:=fun k (x:Int) hp=>∃ (d2:Array T),x=(k:Int)-1∧hp=HA hp0 b 9 sp (ssT en) d2∧d2.size=n∧k≤m∧Sort.heapPop (ltC cf) lo k d2=Sort.heapPop (ltC cf) lo m d') ?_
      (n:=m) ⟨d',rfl,rfl,hs',Nat.le_refl _,rfl⟩
    rintro I2 k2 x2 hp2 ⟨d2,rfl,rfl,hs2,hk2,he2⟩ hI2
    unfold F181_l3
    cases k2 with
    | succ k=>
      have e1:((k+1:Nat):Int)-1=(k:Int):=by omega
      have v1:IntKind.wrap .i64 ((lo:Int)+(k:Int))=((lo+k:Nat):Int):=wi (by omega) (by omega)
      rw [e1,decide_eq_true (by omega:(k:Int)≥0),ite2_true,v1]
      refine swapP1 hs2 (i:=lo) (j:=lo+k) rfl rfl (by omega) (by omega) ?_
      have hz:(Value.int .i64 0)=Value.int .i64 ((0:Nat):Int):=rfl
      rw [hz]
      refine S192 hc (by rw [swp_size]; exact hs2) (by omega) (by omega) hn ?_
      rw [w64 (by omega) (by omega)]
      rw [Sort.heapPop] at he2
      exact hI2 k _ _ (by omega) ⟨_,rfl,rfl,by rw [sift_size _ _ _ _ _ _ (Nat.le_refl _),swp_size]; exact hs2,by omega,he2⟩
    | zero=>
      rw [decide_eq_false (by omega:¬ (((0:Nat):Int)-1)≥0),ite2_false]
      rw [Sort.heapPop] at he2
      rw [he2]; exact h
theorem S184 {v:Value} {d:Array T} {lo hi:Nat} {K:Value→HP→Prop} (hs:d.size=n) (hlo:lo<hi) (hf:hi≤n) (hn:n≤1000000000)
    (h:K (.tuple ⟨[]⟩) (HA hp0 b 9 sp (ssT en) (Sort.reverseRange d lo hi))) :
    CF Try.prog 184 [.slice (some ⟨b,0,none⟩) n c,.int .i64 lo,.int .i64 hi,v] (HA hp0 b 9 sp (ssT en) d) K:=by
  refine F184_ok _ n c lo hi _ _ K ?_
  unfold F184 F184_j1
  have w1:IntKind.wrap .i64 ((hi:Int)-1)=((hi-1:Nat):Int):=wi (by omega) (by omega)
  rw [w1]
  unfold Sort.reverseRange at h
  refine LoopP.by (J:=fun k (s:Int × Int) hp=>∃ (i j:Nat) (d':Array T),s=((i:Int),(j:Int))∧hp=HA hp0 b 9 sp (ssT en) d'∧d'.size=n∧j<n∧k=j-i∧Sort.reverseLoop i j d'=Sort.reverseLoop lo (hi-1) d) ?_
    (n:=hi-1-lo) ⟨lo,hi-1,d,rfl,rfl,hs,by omega,rfl,rfl⟩
  rintro I k x hp ⟨i,j,d',rfl,rfl,hs',hj,rfl,he⟩ hI
  unfold F184_l2
  rw [Sort.reverseLoop] at he
  by_cases hij:i<j
  · rw [if_pos hij] at he
    simp only []
    rw [decide_eq_true (by omega:(i:Int)<(j:Int)),ite2_true]
    refine swapP1 hs' (i:=i) (j:=j) rfl rfl (by omega) (by omega) ?_
    have v1:IntKind.wrap .i64 ((i:Int)+1)=((i+1:Nat):Int):=wi (by omega) (by omega)
    have v2:IntKind.wrap .i64 ((j:Int)-1)=((j-1:Nat):Int):=wi (by omega) (by omega)
    rw [v1,v2]
    exact hI (j-1-(i+1)) _ _ (by omega) ⟨i+1,j-1,_,rfl,rfl,by rw [swp_size]; exact hs',by omega,rfl,he⟩
  · rw [if_neg hij] at he
    simp only []
    rw [decide_eq_false (by omega:¬ (i:Int)<(j:Int)),ite2_false,he]
    exact h
end
end Go.Proofs
set_option linter.unusedVariables false
set_option maxRecDepth 20000
namespace Go.Proofs
open Go Go.HL
section
variable {f:FuncId} {ga gb:List Value} {hp0:HP} {b sp n c:Nat} {T:Type} [Inhabited T] {en:T→ByteArray} {cf:T→T→Int}
theorem S185 (hc:CmpOk1 Try.prog f ga gb hp0 b 9 sp n cf en) {d:Array T} {lo hi:Nat} {K:Value→HP→Prop} (hs:d.size=n) (hlo:lo<hi) (hf:hi≤n) (hn:n≤1000000000)
    (h:K (.bool (Sort.partialInsertionSort (ltC cf) d lo hi).2) (HA hp0 b 9 sp (ssT en) (Sort.partialInsertionSort (ltC cf) d lo hi).1)) :
    CF Try.prog 185 [.slice (some ⟨b,0,none⟩) n c,.int .i64 lo,.int .i64 hi,.func (.func f) ⟨ga⟩ ⟨gb⟩] (HA hp0 b 9 sp (ssT en) d) K:=by
  refine F185_ok _ n c lo hi _ _ K ?_
  unfold F185 F185_j1
  have w1:IntKind.wrap .i64 ((lo:Int)+1)=((lo+1:Nat):Int):=wi (by omega) (by omega)
  rw [w1]
  generalize hR:Sort.partialInsertionSort (ltC cf) d lo hi=R at h
  unfold Sort.partialInsertionSort at hR
  refine LoopP.by (J:=fun k (s:Int × Int) hp=>∃ (i:Nat) (d':Array T),s=((i:Int),5-(k:Int))∧k≤5∧hp=HA hp0 b 9 sp (ssT en) d'∧d'.size=n∧lo<i∧i≤hi∧Sort.partialIns (ltC cf) lo hi k i d'=R) ?_
    (n:=5) ⟨lo+1,d,rfl,Nat.le_refl _,rfl,hs,by omega,by omega,hR⟩
  rintro I k x hp ⟨i,d',rfl,hk5,rfl,hs',hli,hih,he⟩ hI
  unfold F185_l2
  simp only []
  cases k with
  | zero=>
    rw [decide_eq_false (by omega:¬ (5-((0:Nat):Int))<5),ite2_false]
    rw [Sort.partialIns] at he
    rw [← he] at h
    exact h
  | succ k=>
    rw [decide_eq_true (by omega:(5-((k+1:Nat):Int))<5),ite2_true]
    rw [Sort.partialIns_succ] at he
    unfold F185_j3
    have fin4:∀ (i:Nat) (d3:Array T),lo<i→i≤hi→d3.size=n→Sort.partialIns (ltC cf) lo hi k i d3=R →
        F185_j4 (some ⟨b,0,none⟩) n c lo hi (.func (.func f) ⟨ga⟩ ⟨gb⟩) i (5-((k+1:Nat):Int)) (HA hp0 b 9 sp (ssT en) d3) I K:=by
      intro i d3 h1 h2 h3 h4
      unfold F185_j4
      have:IntKind.wrap .i64 (5-((k+1:Nat):Int)+1)=5-(k:Int):=by rw [w64 (by omega) (by omega)]; omega
      rw [this]
      exact hI k _ _ (by omega) ⟨i,d3,rfl,by omega,rfl,h3,h1,h2,h4⟩
    have fin6:∀ (i:Nat) (d2:Array T),lo<i→i<hi→d2.size=n→Sort.partialIns (ltC cf) lo hi k i (Sort.fixUp (ltC cf) hi i d2)=R →
        F185_j6 (some ⟨b,0,none⟩) n c lo hi (.func (.func f) ⟨ga⟩ ⟨gb⟩) i (5-((k+1:Nat):Int)) (HA hp0 b 9 sp (ssT en) d2) I K:=by
      intro i d2 h1 h2 h3 h4
      unfold F185_j6
      have v:IntKind.wrap .i64 ((hi:Int)-(i:Int))=((hi-i:Nat):Int):=wi (by omega) (by omega)
      rw [v]
      unfold Sort.fixUp at h4
      by_cases h2':hi-i≥2
      · rw [if_pos h2'] at h4
        rw [decide_eq_true (by omega:((hi-i:Nat):Int)≥2),ite2_true]
        unfold F185_j7
        have v1:IntKind.wrap .i64 ((i:Int)+1)=((i+1:Nat):Int):=wi (by omega) (by omega)
        rw [v1]
        refine LoopP.by (J:=fun m (y:Int) hp=>∃ (j:Nat) (d3:Array T),y=j∧hp=HA hp0 b 9 sp (ssT en) d3∧d3.size=n∧i<j∧m=hi-j∧Sort.shiftUp (ltC cf) hi j d3=Sort.shiftUp (ltC cf) hi (i+1) d2) ?_
          (n:=hi-(i+1)) ⟨i+1,d2,rfl,rfl,h3,by omega,rfl,rfl⟩
        rintro I8 m y hp ⟨j,d3,rfl,rfl,h5,h6,rfl,h7⟩ hI8
        unfold F185_l8
        rw [Sort.shiftUp] at h7
        by_cases hj:j<hi
        · rw [if_pos hj] at h7
          have v2:IntKind.wrap .i64 ((j:Int)-1)=((j-1:Nat):Int):=wi (by omega) (by omega)
          have v3:IntKind.wrap .i64 ((j:Int)+1)=((j+1:Nat):Int):=wi (by omega) (by omega)
          simp only [v2,v3]
          rw [decide_eq_true (by omega:(j:Int)<(hi:Int)),ite2_true]
          refine cmpP1 hc h5 (i:=j) (j:=j-1) rfl rfl (by omega) (by omega) ?_
          have hl:decide (cf d3[j]! d3[j-1]!<0)=ltC cf d3[j]! d3[j-1]! := rfl
          rw [hl]
          cases hlt:ltC cf d3[j]! d3[j-1]!
          · rw [hlt] at h7
            simp only [Bool.not_false,if_true] at h7
            simp only [Bool.not_false,ite2_true]
            rw [← h7] at h4
            exact fin4 i d3 h1 (by omega) h5 h4
          · rw [hlt] at h7
            simp only [Bool.not_true,Bool.false_eq_true,if_false] at h7
            simp only [Bool.not_true,ite2_false]
            refine swapP1 h5 (i:=j) (j:=j-1) rfl rfl (by omega) (by omega) ?_
            exact hI8 (hi-(j+1)) _ _ (by omega) ⟨j+1,_,rfl,rfl,by rw [swp_size]; exact h5,by omega,rfl,h7⟩
        · rw [if_neg hj] at h7
          rw [decide_eq_false (by omega:¬ (j:Int)<(hi:Int)),ite2_false]
          rw [← h7] at h4
          exact fin4 i d3 h1 (by omega) h5 h4
      · rw [if_neg h2'] at h4
        rw [decide_eq_false (by omega:¬ ((hi-i:Nat):Int)≥2),ite2_false]
        exact fin4 i d2 h1 (by omega) h3 h4
    have fin5:∀ (i:Nat),lo<i→i≤hi→Sort.scanSorted (ltC cf) d' hi i=i →
        (if i=hi then (d',true) else if hi-lo<50 then (d',false) else Sort.partialIns (ltC cf) lo hi k i (Sort.fixUp (ltC cf) hi i (Sort.fixDown (ltC cf) lo i (Sort.swp d' i (i-1)))))=R →
        F185_j5 (some ⟨b,0,none⟩) n c lo hi (.func (.func f) ⟨ga⟩ ⟨gb⟩) i (5-((k+1:Nat):Int)) (HA hp0 b 9 sp (ssT en) d') I K:=by
      intro i h1 h2 _ h4
      unfold F185_j5
      by_cases hih:i=hi
      · rw [if_pos hih] at h4
        subst hih
        simp only [beq_self_eq_true,ite2_true]
        rw [← h4] at h
        exact h
      rw [if_neg hih] at h4
      have hb:((i:Int)==(hi:Int))=false:=by
        rw [beq_eq_false_iff_ne]; omega
      rw [hb,ite2_false]
      have v:IntKind.wrap .i64 ((hi:Int)-(lo:Int))=((hi-lo:Nat):Int):=wi (by omega) (by omega)
      rw [v]
      by_cases h50:hi-lo<50
      · rw [if_pos h50] at h4
        rw [decide_eq_true (by omega:((hi-lo:Nat):Int)<50),ite2_true]
        rw [← h4] at h
        exact h
      rw [if_neg h50] at h4
      rw [decide_eq_false (by omega:¬ ((hi-lo:Nat):Int)<50),ite2_false]
      have v2:IntKind.wrap .i64 ((i:Int)-1)=((i-1:Nat):Int):=wi (by omega) (by omega)
      have v3:IntKind.wrap .i64 ((i:Int)-(lo:Int))=((i-lo:Nat):Int):=wi (by omega) (by omega)
      simp only [v2,v3]
      refine swapP1 hs' (i:=i) (j:=i-1) rfl rfl (by omega) (by omega) ?_
      have hs1:(Sort.swp d' i (i-1)).size=n:=by rw [swp_size]; exact hs'
      generalize Sort.swp d' i (i-1)=d1 at *
      unfold Sort.fixDown at h4
      by_cases hd:i-lo≥2
      · rw [if_pos hd] at h4
        rw [decide_eq_true (by omega:((i-lo:Nat):Int)≥2),ite2_true]
        unfold F185_j9
        refine LoopP.by (J:=fun m (y:Int) hp=>∃ (d2:Array T),y=m∧hp=HA hp0 b 9 sp (ssT en) d2∧d2.size=n∧m<n∧Sort.shiftDown (ltC cf) m d2=Sort.shiftDown (ltC cf) (i-1) d1) ?_
          (n:=i-1) ⟨d1,rfl,rfl,hs1,by omega,rfl⟩
        rintro I10 m y hp ⟨d2,rfl,rfl,h5,h6,h7⟩ hI10
        unfold F185_l10
        cases m with
        | zero=>
          rw [Sort.shiftDown] at h7
          rw [decide_eq_false (by omega:¬ ((0:Nat):Int)≥1),ite2_false]
          rw [← h7] at h4
          exact fin6 i d2 h1 (by omega) h5 h4
        | succ m=>
          rw [Sort.shiftDown] at h7
          have v4:IntKind.wrap .i64 (((m+1:Nat):Int)-1)=(m:Int):=wi (by omega) (by omega)
          simp only [v4]
          rw [decide_eq_true (by omega:((m+1:Nat):Int)≥1),ite2_true]
          refine cmpP1 hc h5 (i:=m+1) (j:=m) rfl rfl (by omega) (by omega) ?_
          have hl:decide (cf d2[m+1]! d2[m]!<0)=ltC cf d2[m+1]! d2[m]! := rfl
          rw [hl]
          cases hlt:ltC cf d2[m+1]! d2[m]!
          · rw [hlt] at h7
            simp only [Bool.not_false,if_true] at h7
            simp only [Bool.not_false,ite2_true]
            rw [← h7] at h4
            exact fin6 i d2 h1 (by omega) h5 h4
          · rw [hlt] at h7
            simp only [Bool.not_true,Bool.false_eq_true,if_false] at h7
            simp only [Bool.not_true,ite2_false]
            refine swapP1 h5 (i:=m+1) (j:=m) rfl rfl (by omega) (by omega) ?_
            exact hI10 m _ _ (by omega) ⟨_,rfl,rfl,by rw [swp_size]; exact h5,by omega,h7⟩
      · rw [if_neg hd] at h4
        rw [decide_eq_false (by omega:¬ ((i-lo:Nat):Int)≥2),ite2_false]
        exact fin6 i d1 h1 (by omega) hs1 h4
    refine LoopP.by (J:=fun m (y:Int) hp=>∃ (i':Nat),y=i'∧hp=HA hp0 b 9 sp (ssT en) d'∧lo<i'∧i'≤hi∧m=hi-i'∧Sort.scanSorted (ltC cf) d' hi i'=Sort.scanSorted (ltC cf) d' hi i) ?_
      (n:=hi-i) ⟨i,rfl,rfl,hli,hih,rfl,rfl⟩
    rintro I11 m y hp ⟨i',rfl,rfl,h1,h2,rfl,h7⟩ hI11
    unfold F185_l11
    rw [← h7] at he
    have out:Sort.scanSorted (ltC cf) d' hi i'=i'→F185_j12 (some ⟨b,0,none⟩) n c lo hi (.func (.func f) ⟨ga⟩ ⟨gb⟩) i' (5-((k+1:Nat):Int)) false (HA hp0 b 9 sp (ssT en) d') I I11 K:=by
      intro hq
      unfold F185_j12
      rw [ite2_false]
      rw [hq] at he
      exact fin5 i' h1 h2 hq he
    by_cases hj:i'<hi
    · have v2:IntKind.wrap .i64 ((i':Int)-1)=((i' - 1:Nat):Int):=wi (by omega) (by omega)
      simp only [v2]
      rw [decide_eq_true (by omega:(i':Int)<(hi:Int)),ite2_true]
      refine cmpP1 hc hs' (i:=i') (j:=i' - 1) rfl rfl (by omega) (by omega) ?_
      have hl:decide (cf d'[i']! d'[i' - 1]!<0)=ltC cf d'[i']! d'[i' - 1]! := rfl
      rw [hl]
      cases hlt:ltC cf d'[i']! d'[i' - 1]!
      · unfold F185_j12
        have v3:IntKind.wrap .i64 ((i':Int)+1)=((i'+1:Nat):Int):=wi (by omega) (by omega)
        simp only [Bool.not_false,ite2_true,v3]
        refine hI11 (hi-(i'+1)) _ _ (by omega) ⟨i'+1,rfl,rfl,by omega,by omega,rfl,?_⟩
        rw [← h7]
        rw [Sort.scanSorted.eq_def (ltC cf) d' hi i',hlt,decide_eq_true hj]
        simp
      · simp only [Bool.not_true]
        refine out ?_
        rw [Sort.scanSorted,hlt]
        simp
    · rw [decide_eq_false (by omega:¬ (i':Int)<(hi:Int)),ite2_false]
      refine out ?_
      rw [Sort.scanSorted,decide_eq_false hj]
      simp
end
end Go.Proofs
set_option linter.unusedVariables false
set_option maxRecDepth 20000
namespace Go.Proofs
open Go Go.HL
section
variable {e E:Env} {x0a:OA} {x0n x0c:Nat} {x1 x2 x3:Int} {x4:Value} {x11 x12:Int} {hp:HP} {K:Env→PV→HP→Prop}
abbrev R186 (p n:Nat):=RW Try.prog 90 [] (opsAt Try.f186 (pth p)) (List.range n)
theorem F186_r0:R186 2 1 e V0 hp K=
 K (upd e 10 (sI 0)) V0 hp:= by kernel_rfl
theorem F186_r1 (h:E=upd (w2 e 3 (sI x3) 1 (sI x1)) 0 (sS x0a x0n x0c)):R186 5 16 E V0 hp K=
    ((0≤x3)∧(x3<x0n)∧(ptrN x0a fun b1 o2=>ldV (HP.cell hp b1 (o2+Int.toNat x3*1)) fun v3=>strV v3 fun s4=>(0≤x1)∧(x1<x0n)∧(ptrN x0a fun b5 o6=>ldV (HP.cell hp b5 (o6+Int.toNat x1*1)) fun v7=>strV v7 fun s8=>(0≤x1)∧(x1<x0n)∧(ptrN x0a fun b9 o10=>HP.st hp b9 (o10+Int.toNat x1*1) (.string s4) fun h11=>(0≤x3)∧(x3<x0n)∧(ptrN x0a fun b12 o13=>HP.st h11 b12 (o13+Int.toNat x3*1) (.string s8) fun h14=>K (w6 (w8 E 13 (sS x0a x0n x0c) 14 (sI x1) 15 (sS x0a x0n x0c) 16 (sI x3) 17 (sS x0a x0n x0c) 18 (sI x3) 19 (sQ b1 (o2+Int.toNat x3*1)) 20 (sT s4)) 21 (sS x0a x0n x0c) 22 (sI x1) 23 (sQ b5 (o6+Int.toNat x1*1)) 24 (sT s8) 25 (sQ b9 (o10+Int.toNat x1*1)) 26 (sQ b12 (o13+Int.toNat x3*1))) V0 h14))))):=by subst h; kernel_rfl
theorem F186_r2:R186 47 2 (upd e 11 (sI x11)) V0 hp K=
 K (w3 e 11 (sI x11) 89 (sI x11) 10 (sI x11)) V0 hp:= by kernel_rfl
def F186_j2 (x11:Int) (hp:HP) (K:Kh):Prop:=
  (K (.int .i64 x11) hp)
theorem F186_r3:R186 2439 3 (w2 e 12 (sI x12) 11 (sI x11)) V0 hp K=
 K (w5 e 12 (sI x12) 11 (sI x11) 68 (sI x11) 69 (sI x12) 70 (sB (decide (x11 > x12)))) V0 hp:= by kernel_rfl
theorem F186_r4 (h:E=upd (w2 e 12 (sI x12) 11 (sI x11)) 0 (sS x0a x0n x0c)):R186 2951 16 E V0 hp K=
    ((0≤x12)∧(x12<x0n)∧(ptrN x0a fun b1 o2=>ldV (HP.cell hp b1 (o2+Int.toNat x12*1)) fun v3=>strV v3 fun s4=>(0≤x11)∧(x11<x0n)∧(ptrN x0a fun b5 o6=>ldV (HP.cell hp b5 (o6+Int.toNat x11*1)) fun v7=>strV v7 fun s8=>(0≤x11)∧(x11<x0n)∧(ptrN x0a fun b9 o10=>HP.st hp b9 (o10+Int.toNat x11*1) (.string s4) fun h11=>(0≤x12)∧(x12<x0n)∧(ptrN x0a fun b12 o13=>HP.st h11 b12 (o13+Int.toNat x12*1) (.string s8) fun h14=>K (w6 (w8 E 71 (sS x0a x0n x0c) 72 (sI x11) 73 (sS x0a x0n x0c) 74 (sI x12) 75 (sS x0a x0n x0c) 76 (sI x12) 77 (sQ b1 (o2+Int.toNat x12*1)) 78 (sT s4)) 79 (sS x0a x0n x0c) 80 (sI x11) 81 (sQ b5 (o6+Int.toNat x11*1)) 82 (sT s8) 83 (sQ b9 (o10+Int.toNat x11*1)) 84 (sQ b12 (o13+Int.toNat x12*1))) V0 h14))))):=by subst h; kernel_rfl
theorem F186_r5:R186 6023 3 (upd e 11 (sI x11)) V0 hp K=
 K (w4 e 11 (sI x11) 85 (sI x11) 86 (sI ((wr (x11+1)))) 11 (sI ((wr (x11+1))))) V0 hp:= by kernel_rfl
theorem F186_r6:R186 8071 3 (upd e 12 (sI x12)) V0 hp K=
 K (w4 e 12 (sI x12) 87 (sI x12) 88 (sI ((wr (x12-1)))) 12 (sI ((wr (x12-1))))) V0 hp:= by kernel_rfl
def F186_j5 (x0a:OA) (x0n x0c:Nat) (x1:Int) (x4:Value) (x11 x12:Int) (hp:HP) (I3:(Int × Int)→HP→Prop) (K:Kh):Prop:=
  (ite2 (decide (x11 > x12)) (F186_j2 x11 hp  K) ((0≤x12)∧(x12<x0n)∧(ptrN x0a fun b15 o16=>ldV (HP.cell hp b15 (o16+Int.toNat x12*1)) fun v17=>strV v17 fun s18=>(0≤x11)∧(x11<x0n)∧(ptrN x0a fun b19 o20=>ldV (HP.cell hp b19 (o20+Int.toNat x11*1)) fun v21=>strV v21 fun s22=>(0≤x11)∧(x11<x0n)∧(ptrN x0a fun b23 o24=>HP.st hp b23 (o24+Int.toNat x11*1) (.string s18) fun h25=>(0≤x12)∧(x12<x0n)∧(ptrN x0a fun b26 o27=>HP.st h25 b26 (o27+Int.toNat x12*1) (.string s22) fun h28=>I3 ((IntKind.wrap .i64 (x11+1)),(IntKind.wrap .i64 (x12-1))) h28))))))
theorem F186_r7:R186 10375 3 (upd e 12 (sI x12)) V0 hp K=
 K (w4 e 12 (sI x12) 66 (sI x12) 67 (sI ((wr (x12-1)))) 12 (sI ((wr (x12-1))))) V0 hp:= by kernel_rfl
def F186_j7 (x0a:OA) (x0n x0c:Nat) (x1:Int) (x4:Value) (x11 x12:Int) (x65:Bool) (hp:HP) (I3:(Int × Int)→HP→Prop) (I6:(Int)→HP→Prop) (K:Kh):Prop:=
  (ite2 x65 (I6 (IntKind.wrap .i64 (x12-1)) hp) (F186_j5 x0a x0n x0c x1 x4 x11 x12 hp I3 K))
theorem F186_r8 (h:E=upd (w4 e 12 (sI x12) 11 (sI x11) 4 (sV x4) 1 (sI x1)) 0 (sS x0a x0n x0c)):R186 8327 16 E V0 hp K=
    (ite2 (decide (x11≤x12)) ((0≤x1)∧(x1<x0n)∧(ptrN x0a fun b1 o2=>ldV (HP.cell hp b1 (o2+Int.toNat x1*1)) fun v3=>strV v3 fun s4=>(0≤x12)∧(x12<x0n)∧(ptrN x0a fun b5 o6=>ldV (HP.cell hp b5 (o6+Int.toNat x12*1)) fun v7=>strV v7 fun s8=>fnV x4 fun f9 ga10 gb11=>CF Try.prog f9 (ga10++[(Value.string s4),(.string s8)]++gb11) hp fun u12 h13=>intV u12 .i64 fun i14=>K (w8 (w8 E 50 (sI x11) 51 (sI x12) 52 (sB (decide (x11≤x12))) 53 (sB true) 54 (sV x4) 55 (sS x0a x0n x0c) 56 (sI x1) 57 (sQ b1 (o2+Int.toNat x1*1))) 58 (sT s4) 59 (sS x0a x0n x0c) 60 (sI x12) 61 (sQ b5 (o6+Int.toNat x12*1)) 62 (sT s8) 63 (sI i14) 64 (sB (decide (i14<0))) 65 (sB (decide (i14<0)))) V0 h13))) (K (w8 (w8 E 50 (sI x11) 51 (sI x12) 52 (sB (decide (x11≤x12))) 53 (sB false) 54 sU 55 sU 56 sU 57 sU) 58 sU 59 sU 60 sU 61 sU 62 sU 63 sU 64 sU 65 (sB false)) V0 hp)):=by subst h; kernel_rfl
def F186_l6 (x0a:OA) (x0n x0c:Nat) (x1:Int) (x4:Value) (x11:Int) (I3:(Int × Int)→HP→Prop) (K:Kh) (I6:(Int)→HP→Prop) (x12:Int) (hp:HP):Prop:=
  (ite2 (decide (x11≤x12)) ((0≤x1)∧(x1<x0n)∧(ptrN x0a fun b29 o30=>ldV (HP.cell hp b29 (o30+Int.toNat x1*1)) fun v31=>strV v31 fun s32=>(0≤x12)∧(x12<x0n)∧(ptrN x0a fun b33 o34=>ldV (HP.cell hp b33 (o34+Int.toNat x12*1)) fun v35=>strV v35 fun s36=>fnV x4 fun f37 ga_38 gb_39=>CF Try.prog f37 (ga_38++[(Value.string s32),(.string s36)]++gb_39) hp fun u40 h41=>intV u40 .i64 fun i42=>F186_j7 x0a x0n x0c x1 x4 x11 x12 (decide (i42<0)) h41 I3 I6 K))) (F186_j7 x0a x0n x0c x1 x4 x11 x12 false hp I3 I6 K))
def F186_j4 (x0a:OA) (x0n x0c:Nat) (x1:Int) (x4:Value) (x11 x12:Int) (hp:HP) (I3:(Int × Int)→HP→Prop) (K:Kh):Prop:=
  (LoopP (σ:=Int) (fun I s hp=>F186_l6 x0a x0n x0c x1 x4 x11 I3 K I s hp) x12 hp)
theorem F186_r9:R186 5127 3 (upd e 11 (sI x11)) V0 hp K=
 K (w4 e 11 (sI x11) 48 (sI x11) 49 (sI ((wr (x11+1)))) 11 (sI ((wr (x11+1))))) V0 hp:= by kernel_rfl
def F186_j9 (x0a:OA) (x0n x0c:Nat) (x1:Int) (x4:Value) (x11 x12:Int) (x47:Bool) (hp:HP) (I3:(Int × Int)→HP→Prop) (I8:(Int)→HP→Prop) (K:Kh):Prop:=
  (ite2 x47 (I8 (IntKind.wrap .i64 (x11+1)) hp) (F186_j4 x0a x0n x0c x1 x4 x11 x12 hp I3 K))
theorem F186_r10 (h:E=upd (w4 e 12 (sI x12) 11 (sI x11) 4 (sV x4) 1 (sI x1)) 0 (sS x0a x0n x0c)):R186 4103 17 E V0 hp K=
    (ite2 (decide (x11≤x12)) ((0≤x1)∧(x1<x0n)∧(ptrN x0a fun b1 o2=>ldV (HP.cell hp b1 (o2+Int.toNat x1*1)) fun v3=>strV v3 fun s4=>(0≤x11)∧(x11<x0n)∧(ptrN x0a fun b5 o6=>ldV (HP.cell hp b5 (o6+Int.toNat x11*1)) fun v7=>strV v7 fun s8=>fnV x4 fun f9 ga10 gb11=>CF Try.prog f9 (ga10++[(Value.string s4),(.string s8)]++gb11) hp fun u12 h13=>intV u12 .i64 fun i14=>K (upd (w8 (w8 E 31 (sI x11) 32 (sI x12) 33 (sB (decide (x11≤x12))) 34 (sB true) 35 (sV x4) 36 (sS x0a x0n x0c) 37 (sI x1) 38 (sQ b1 (o2+Int.toNat x1*1))) 39 (sT s4) 40 (sS x0a x0n x0c) 41 (sI x11) 42 (sQ b5 (o6+Int.toNat x11*1)) 43 (sT s8) 44 (sI i14) 45 (sB (decide (i14<0))) 46 (sB ((!(decide (i14<0)))))) 47 (sB ((!(decide (i14<0)))))) V0 h13))) (K (upd (w8 (w8 E 31 (sI x11) 32 (sI x12) 33 (sB (decide (x11≤x12))) 34 (sB false) 35 sU 36 sU 37 sU 38 sU) 39 sU 40 sU 41 sU 42 sU 43 sU 44 sU 45 sU 46 sU) 47 (sB false)) V0 hp)):=by subst h; kernel_rfl
def F186_l8 (x0a:OA) (x0n x0c:Nat) (x1:Int) (x4:Value) (x12:Int) (I3:(Int × Int)→HP→Prop) (K:Kh) (I8:(Int)→HP→Prop) (x11:Int) (hp:HP):Prop:=
  (ite2 (decide (x11≤x12)) ((0≤x1)∧(x1<x0n)∧(ptrN x0a fun b43 o44=>ldV (HP.cell hp b43 (o44+Int.toNat x1*1)) fun v45=>strV v45 fun s46=>(0≤x11)∧(x11<x0n)∧(ptrN x0a fun b47 o48=>ldV (HP.cell hp b47 (o48+Int.toNat x11*1)) fun v49=>strV v49 fun s50=>fnV x4 fun f51 ga_52 gb_53=>CF Try.prog f51 (ga_52++[(Value.string s46),(.string s50)]++gb_53) hp fun u54 h55=>intV u54 .i64 fun i56=>F186_j9 x0a x0n x0c x1 x4 x11 x12 (!(decide (i56<0))) h55 I3 I8 K))) (F186_j9 x0a x0n x0c x1 x4 x11 x12 false hp I3 I8 K))
def F186_l3 (x0a:OA) (x0n x0c:Nat) (x1:Int) (x4:Value) (K:Kh) (I3:(Int × Int)→HP→Prop) (x11 x12:Int) (hp:HP):Prop:=
  (LoopP (σ:=Int) (fun I s hp=>F186_l8 x0a x0n x0c x1 x4 x12 I3 K I s hp) x11 hp)
def F186_j1 (x0a:OA) (x0n x0c:Nat) (x1:Int) (x4:Value) (x11 x12:Int) (hp:HP) (K:Kh):Prop:=
  (LoopP (σ:=Int × Int) (fun I s hp=>F186_l3 x0a x0n x0c x1 x4  K I s.1 s.2 hp) (x11,x12) hp)
theorem F186_r11:R186 11 6 (w2 e 2 (sI x2) 1 (sI x1)) V0 hp K=
 K (w8 e 2 (sI x2) 1 (sI x1) 27 (sI x1) 28 (sI ((wr (x1+1)))) 29 (sI x2) 30 (sI ((wr (x2-1)))) 11 (sI ((wr (x1+1)))) 12 (sI ((wr (x2-1))))) V0 hp:= by kernel_rfl
def F186 (x0a:OA) (x0n x0c:Nat) (x1 x2 x3:Int) (x4:Value) (hp:HP) (K:Kh):Prop:=
  ((0≤x3)∧(x3<x0n)∧(ptrN x0a fun b1 o2=>ldV (HP.cell hp b1 (o2+Int.toNat x3*1)) fun v3=>strV v3 fun s4=>(0≤x1)∧(x1<x0n)∧(ptrN x0a fun b5 o6=>ldV (HP.cell hp b5 (o6+Int.toNat x1*1)) fun v7=>strV v7 fun s8=>(0≤x1)∧(x1<x0n)∧(ptrN x0a fun b9 o10=>HP.st hp b9 (o10+Int.toNat x1*1) (.string s4) fun h11=>(0≤x3)∧(x3<x0n)∧(ptrN x0a fun b12 o13=>HP.st h11 b12 (o13+Int.toNat x3*1) (.string s8) fun h14=>F186_j1 x0a x0n x0c x1 x4 (IntKind.wrap .i64 (x1+1)) (IntKind.wrap .i64 (x2-1)) h14  K)))))
noncomputable abbrev o186 (k n:Nat):Code:=.region k (opsAt Try.f186 (pth n)) false
noncomputable def F186_code:Code:=(.seq (o186 0 2) (.seq (.region 1 (opsAt Try.f186 (pth 5)) true) (.seq (o186 2 11) (.seq (.block 0 (.loop (.block 1 (.seq (.block 2 (.loop (.seq (.seq (.region 3 (opsAt Try.f186 (pth 4103)) true) (.cond (.tmp 47) .skip (.exit 2))) (.block 3 (o186 4 5127))))) (.seq (.block 4 (.loop (.seq (.seq (.region 5 (opsAt Try.f186 (pth 8327)) true) (.cond (.tmp 65) .skip (.exit 4))) (.block 5 (o186 6 10375))))) (.seq (.seq (o186 7 2439) (.cond (.tmp 70) (.exit 0) .skip)) (.seq (.region 8 (opsAt Try.f186 (pth 2951)) true) (.seq (o186 9 6023) (o186 10 8071))))))))) (.seq (o186 11 47) .ret)))))
theorem F186_body:Try.f186.body=some F186_code:=by kernel_rfl
theorem F186_ok (x0a:OA) (x0n x0c:Nat) (x1 x2 x3:Int) (x4:Value) (hp:HP) (K:Kh) (h:F186 x0a x0n x0c x1 x2 x3 x4 hp K):CF Try.prog 186 [(.slice x0a x0n x0c),(.int .i64 x1),(.int .i64 x2),(.int .i64 x3),x4] hp K:=by
 refine .inl ⟨by kernel_rfl,AC.intro (N:=90) Try.func186 F186_body rfl (Nat.le_of_ble_eq_true rfl) ?_⟩
 unfold F186 at h
 refine Ar F186_r0 ?_ (r5 0 1 2 3 4 Rn) (z5 Sn) Sn
 refine Aq (AWP.rgnD (by kernel_rfl) (by kernel_rfl) (F186_r1 rfl) ?_ (r5 0 1 3 2 4 Rn) (z5 Sn) Sn)
 refine ⟨h.1,h.2.1,mN h.2.2 (fun b1 o2 h=>mV h (fun v3 h=>ms h (fun s4 h=>⟨h.1,h.2.1,mN h.2.2 (fun b5 o6 h=>mV h (fun v7 h=>ms h (fun s8 h=>⟨h.1,h.2.1,mN h.2.2 (fun b9 o10 h=>mw h (fun h11 h=>⟨h.1,h.2.1,mN h.2.2 fun b12 o13 h=>mw h fun h14 h=>?_⟩))⟩)))⟩)))⟩
 refine As (fun env pv hp=>∃ x0a x0n x0c x1 x4 x11 x12,Sub (w5 E0 12 (sI x12) 11 (sI x11) 4 (sV x4) 1 (sI x1) 0 (sS x0a x0n x0c)) env∧Sub V0 pv∧F186_j1 x0a x0n x0c x1 x4 x11 x12 hp  K) ?_ ?_
 ·refine Ag F186_r11 ?_ (r4 1 2 0 4 Rn) (z4 Sn) Sn
  exact ⟨_,_,_,_,_,_,_,(z5 Sn),Sn,h⟩
 ·rintro env pv hp ⟨x0a,x0n,x0c,x1,x4,x11,x12,he,hv,h⟩
  refine Ae ?_ (r5 0 1 4 11 12 Rn) he hv
  unfold F186_j1 at h
  refine As (fun env pv hp=>∃ x11,Sub (upd E0 11 (sI x11)) env∧Sub V0 pv∧F186_j2 x11 hp  K) ?_ ?_
  ·refine AWP.block (AWP.loop (σ:=Int × Int) _ (fun s=>w5 E0 12 (sI (s.2)) 11 (sI (s.1)) 4 (sV x4) 1 (sI x1) 0 (sS x0a x0n x0c)) (fun s=>V0) (x11,x12) h (fun s=>r5 0 1 4 11 12 Rn) (z5 Sn) Sn ?_)
   intro I3 s hp h
   obtain ⟨x11,x12⟩:=s
   replace h:F186_l3 x0a x0n x0c x1 x4  K I3 x11 x12 hp:=h
   unfold F186_l3 at h
   refine AWP.block (As (fun env pv hp=>∃ x11 x12,Sub (w5 E0 12 (sI x12) 11 (sI x11) 4 (sV x4) 1 (sI x1) 0 (sS x0a x0n x0c)) env∧Sub V0 pv∧F186_j4 x0a x0n x0c x1 x4 x11 x12 hp I3 K) ?_ ?_)
   ·refine AWP.block (AWP.loop (σ:=Int) _ (fun s=>w5 E0 12 (sI x12) 11 (sI s) 4 (sV x4) 1 (sI x1) 0 (sS x0a x0n x0c)) (fun s=>V0) x11 h (fun s=>r5 0 1 4 11 12 Rn) (z5 Sn) Sn ?_)
    intro I8 x11 hp h
    replace h:F186_l8 x0a x0n x0c x1 x4 x12 I3 K I8 x11 hp:=h
    unfold F186_l8 at h
    refine Aq (As (fun env pv hp=>∃ x11 x47,Sub (w6 E0 47 (sB x47) 12 (sI x12) 11 (sI x11) 4 (sV x4) 1 (sI x1) 0 (sS x0a x0n x0c)) env∧Sub V0 pv∧F186_j9 x0a x0n x0c x1 x4 x11 x12 x47 hp I3 I8 K) ?_ ?_)
    ·refine AWP.rgnD (by kernel_rfl) (by kernel_rfl) (F186_r10 rfl) ?_ (r5 0 1 4 11 12 Rn) (z5 Sn) Sn
     refine mt h (fun h=>?_) (fun h=>?_)
     ·refine ⟨h.1,h.2.1,mN h.2.2 (fun b43 o44 h=>mV h (fun v45 h=>ms h (fun s46 h=>⟨h.1,h.2.1,mN h.2.2 fun b47 o48 h=>mV h fun v49 h=>ms h fun s50 h=>mF h fun f51 ga_52 gb_53 h=>mC h fun u54 h55 h=>mI h fun i56 h=>?_⟩)))⟩
      exact ⟨_,_,(z6 Sn),Sn,h⟩
     ·exact ⟨_,_,(z6 Sn),Sn,h⟩
    ·rintro env pv hp ⟨x11,x47,he,hv,h⟩
     refine Ae ?_ (r6 0 1 4 11 12 47 Rn) he hv
     unfold F186_j9 at h
     refine Ac h rfl (fun h=>?_) (fun h=>?_)
     ·refine AWP.skip (AWP.block (Ag F186_r9 ?_ (r5 11 0 1 4 12 Rn) (z5 Sn) Sn))
      exact ⟨_,(z5 Sn),Sn,h⟩
     ·refine AWP.exit ?_
      exact ⟨_,_,(z5 Sn),Sn,h⟩
   ·rintro env pv hp ⟨x11,x12,he,hv,h⟩
    refine Ae ?_ (r5 0 1 4 11 12 Rn) he hv
    unfold F186_j4 at h
    refine As (fun env pv hp=>∃ x11 x12,Sub (w5 E0 12 (sI x12) 11 (sI x11) 4 (sV x4) 1 (sI x1) 0 (sS x0a x0n x0c)) env∧Sub V0 pv∧F186_j5 x0a x0n x0c x1 x4 x11 x12 hp I3 K) ?_ ?_
    ·refine AWP.block (AWP.loop (σ:=Int) _ (fun s=>w5 E0 12 (sI s) 11 (sI x11) 4 (sV x4) 1 (sI x1) 0 (sS x0a x0n x0c)) (fun s=>V0) x12 h (fun s=>r5 0 1 4 11 12 Rn) (z5 Sn) Sn ?_)
     intro I6 x12 hp h
     replace h:F186_l6 x0a x0n x0c x1 x4 x11 I3 K I6 x12 hp:=h
     unfold F186_l6 at h
     refine Aq (As (fun env pv hp=>∃ x12 x65,Sub (w6 E0 65 (sB x65) 12 (sI x12) 11 (sI x11) 4 (sV x4) 1 (sI x1) 0 (sS x0a x0n x0c)) env∧Sub V0 pv∧F186_j7 x0a x0n x0c x1 x4 x11 x12 x65 hp I3 I6 K) ?_ ?_)
     ·refine AWP.rgnD (by kernel_rfl) (by kernel_rfl) (F186_r8 rfl) ?_ (r5 0 1 4 11 12 Rn) (z5 Sn) Sn
      refine mt h (fun h=>?_) (fun h=>?_)
      ·refine ⟨h.1,h.2.1,mN h.2.2 (fun b29 o30 h=>mV h (fun v31 h=>ms h (fun s32 h=>⟨h.1,h.2.1,mN h.2.2 fun b33 o34 h=>mV h fun v35 h=>ms h fun s36 h=>mF h fun f37 ga_38 gb_39 h=>mC h fun u40 h41 h=>mI h fun i42 h=>?_⟩)))⟩
       exact ⟨_,_,(z6 Sn),Sn,h⟩
      ·exact ⟨_,_,(z6 Sn),Sn,h⟩
     ·rintro env pv hp ⟨x12,x65,he,hv,h⟩
      refine Ae ?_ (r6 0 1 4 11 12 65 Rn) he hv
      unfold F186_j7 at h
      refine Ac h rfl (fun h=>?_) (fun h=>?_)
      ·refine AWP.skip (AWP.block (Ag F186_r7 ?_ (r5 12 0 1 4 11 Rn) (z5 Sn) Sn))
       exact ⟨_,(z5 Sn),Sn,h⟩
      ·refine AWP.exit ?_
       exact ⟨_,_,(z5 Sn),Sn,h⟩
    ·rintro env pv hp ⟨x11,x12,he,hv,h⟩
     refine Ae ?_ (r5 0 1 4 11 12 Rn) he hv
     unfold F186_j5 at h
     refine Aq (Ar F186_r3 ?_ (r5 11 12 0 1 4 Rn) (z5 Sn) Sn)
     refine Ac h rfl (fun h=>?_) (fun h=>?_)
     ·refine AWP.exit ?_
      exact ⟨_,(z1 Sn),Sn,h⟩
     ·refine AWP.skip (Aq (AWP.rgnD (by kernel_rfl) (by kernel_rfl) (F186_r4 rfl) ?_ (r5 0 11 12 1 4 Rn) (z5 Sn) Sn))
      refine ⟨h.1,h.2.1,mN h.2.2 (fun b15 o16 h=>mV h (fun v17 h=>ms h (fun s18 h=>⟨h.1,h.2.1,mN h.2.2 (fun b19 o20 h=>mV h (fun v21 h=>ms h (fun s22 h=>⟨h.1,h.2.1,mN h.2.2 (fun b23 o24 h=>mw h (fun h25 h=>⟨h.1,h.2.1,mN h.2.2 fun b26 o27 h=>mw h fun h28 h=>?_⟩))⟩)))⟩)))⟩
      refine Ar F186_r5 ?_ (r5 11 0 1 4 12 Rn) (z5 Sn) Sn
      refine Ag F186_r6 ?_ (r5 12 0 1 4 11 Rn) (z5 Sn) Sn
      exact ⟨_,(z5 Sn),Sn,h⟩
  ·rintro env pv hp ⟨x11,he,hv,h⟩
   refine Ae ?_ (r1 11 Rn) he hv
   unfold F186_j2 at h
   refine Ar F186_r2 ?_ (r1 11 Rn) (z1 Sn) Sn
   refine AWP.ret ?_
   exact h
end
section
variable {e E:Env} {x0a:OA} {x0n x0c:Nat} {x1 x2 x3:Int} {x4:Value} {x12 x13:Int} {hp:HP} {K:Env→PV→HP→Prop}
abbrev R187 (p n:Nat):=RW Try.prog 178 [] (opsAt Try.f187 (pth p)) (List.range n)
theorem F187_r0:R187 2 2 e V0 hp K=
 K (w2 e 10 (sI 0) 11 (sB false)) V0 hp:= by kernel_rfl
theorem F187_r1 (h:E=upd (w2 e 3 (sI x3) 1 (sI x1)) 0 (sS x0a x0n x0c)):R187 5 16 E V0 hp K=
    ((0≤x3)∧(x3<x0n)∧(ptrN x0a fun b1 o2=>ldV (HP.cell hp b1 (o2+Int.toNat x3*1)) fun v3=>strV v3 fun s4=>(0≤x1)∧(x1<x0n)∧(ptrN x0a fun b5 o6=>ldV (HP.cell hp b5 (o6+Int.toNat x1*1)) fun v7=>strV v7 fun s8=>(0≤x1)∧(x1<x0n)∧(ptrN x0a fun b9 o10=>HP.st hp b9 (o10+Int.toNat x1*1) (.string s4) fun h11=>(0≤x3)∧(x3<x0n)∧(ptrN x0a fun b12 o13=>HP.st h11 b12 (o13+Int.toNat x3*1) (.string s8) fun h14=>K (w6 (w8 E 14 (sS x0a x0n x0c) 15 (sI x1) 16 (sS x0a x0n x0c) 17 (sI x3) 18 (sS x0a x0n x0c) 19 (sI x3) 20 (sQ b1 (o2+Int.toNat x3*1)) 21 (sT s4)) 22 (sS x0a x0n x0c) 23 (sI x1) 24 (sQ b5 (o6+Int.toNat x1*1)) 25 (sT s8) 26 (sQ b9 (o10+Int.toNat x1*1)) 27 (sQ b12 (o13+Int.toNat x3*1))) V0 h14))))):=by subst h; kernel_rfl
theorem F187_r2:R187 159 3 (w2 e 13 (sI x13) 12 (sI x12)) V0 hp K=
 K (w5 e 13 (sI x13) 12 (sI x12) 69 (sI x12) 70 (sI x13) 71 (sB (decide (x12 > x13)))) V0 hp:= by kernel_rfl
theorem F187_r3 (h:E=upd (w2 e 13 (sI x13) 1 (sI x1)) 0 (sS x0a x0n x0c)):R187 607 16 E V0 hp K=
    ((0≤x1)∧(x1<x0n)∧(ptrN x0a fun b1 o2=>ldV (HP.cell hp b1 (o2+Int.toNat x1*1)) fun v3=>strV v3 fun s4=>(0≤x13)∧(x13<x0n)∧(ptrN x0a fun b5 o6=>ldV (HP.cell hp b5 (o6+Int.toNat x13*1)) fun v7=>strV v7 fun s8=>(0≤x13)∧(x13<x0n)∧(ptrN x0a fun b9 o10=>HP.st hp b9 (o10+Int.toNat x13*1) (.string s4) fun h11=>(0≤x1)∧(x1<x0n)∧(ptrN x0a fun b12 o13=>HP.st h11 b12 (o13+Int.toNat x1*1) (.string s8) fun h14=>K (w6 (w8 E 72 (sS x0a x0n x0c) 73 (sI x13) 74 (sS x0a x0n x0c) 75 (sI x1) 76 (sS x0a x0n x0c) 77 (sI x1) 78 (sQ b1 (o2+Int.toNat x1*1)) 79 (sT s4)) 80 (sS x0a x0n x0c) 81 (sI x13) 82 (sQ b5 (o6+Int.toNat x13*1)) 83 (sT s8) 84 (sQ b9 (o10+Int.toNat x13*1)) 85 (sQ b12 (o13+Int.toNat x1*1))) V0 h14))))):=by subst h; kernel_rfl
theorem F187_r4:R187 1375 3 (upd e 13 (sI x13)) V0 hp K=
 K (w4 e 13 (sI x13) 86 (sI x13) 10 (sI x13) 11 (sB true)) V0 hp:= by kernel_rfl
theorem F187_r5 (h:E=upd (w2 e 13 (sI x13) 12 (sI x12)) 0 (sS x0a x0n x0c)):R187 191 16 E V0 hp K=
    ((0≤x13)∧(x13<x0n)∧(ptrN x0a fun b1 o2=>ldV (HP.cell hp b1 (o2+Int.toNat x13*1)) fun v3=>strV v3 fun s4=>(0≤x12)∧(x12<x0n)∧(ptrN x0a fun b5 o6=>ldV (HP.cell hp b5 (o6+Int.toNat x12*1)) fun v7=>strV v7 fun s8=>(0≤x12)∧(x12<x0n)∧(ptrN x0a fun b9 o10=>HP.st hp b9 (o10+Int.toNat x12*1) (.string s4) fun h11=>(0≤x13)∧(x13<x0n)∧(ptrN x0a fun b12 o13=>HP.st h11 b12 (o13+Int.toNat x13*1) (.string s8) fun h14=>K (w6 (w8 E 87 (sS x0a x0n x0c) 88 (sI x12) 89 (sS x0a x0n x0c) 90 (sI x13) 91 (sS x0a x0n x0c) 92 (sI x13) 93 (sQ b1 (o2+Int.toNat x13*1)) 94 (sT s4)) 95 (sS x0a x0n x0c) 96 (sI x12) 97 (sQ b5 (o6+Int.toNat x12*1)) 98 (sT s8) 99 (sQ b9 (o10+Int.toNat x12*1)) 100 (sQ b12 (o13+Int.toNat x13*1))) V0 h14))))):=by subst h; kernel_rfl
theorem F187_r6:R187 383 3 (upd e 12 (sI x12)) V0 hp K=
 K (w4 e 12 (sI x12) 101 (sI x12) 102 (sI ((wr (x12+1)))) 12 (sI ((wr (x12+1))))) V0 hp:= by kernel_rfl
theorem F187_r7 (h:E=upd (w2 e 13 (sI x13) 1 (sI x1)) 0 (sS x0a x0n x0c)):R187 3071 16 E V0 hp K=
    ((0≤x1)∧(x1<x0n)∧(ptrN x0a fun b1 o2=>ldV (HP.cell hp b1 (o2+Int.toNat x1*1)) fun v3=>strV v3 fun s4=>(0≤x13)∧(x13<x0n)∧(ptrN x0a fun b5 o6=>ldV (HP.cell hp b5 (o6+Int.toNat x13*1)) fun v7=>strV v7 fun s8=>(0≤x13)∧(x13<x0n)∧(ptrN x0a fun b9 o10=>HP.st hp b9 (o10+Int.toNat x13*1) (.string s4) fun h11=>(0≤x1)∧(x1<x0n)∧(ptrN x0a fun b12 o13=>HP.st h11 b12 (o13+Int.toNat x1*1) (.string s8) fun h14=>K (w6 (w8 E 163 (sS x0a x0n x0c) 164 (sI x13) 165 (sS x0a x0n x0c) 166 (sI x1) 167 (sS x0a x0n x0c) 168 (sI x1) 169 (sQ b1 (o2+Int.toNat x1*1)) 170 (sT s4)) 171 (sS x0a x0n x0c) 172 (sI x13) 173 (sQ b5 (o6+Int.toNat x13*1)) 174 (sT s8) 175 (sQ b9 (o10+Int.toNat x13*1)) 176 (sQ b12 (o13+Int.toNat x1*1))) V0 h14))))):=by subst h; kernel_rfl
theorem F187_r8:R187 6143 3 (upd e 13 (sI x13)) V0 hp K=
 K (w4 e 13 (sI x13) 177 (sI x13) 10 (sI x13) 11 (sB false)) V0 hp:= by kernel_rfl
def F187_j5 (x0a:OA) (x0n x0c:Nat) (x1 x13:Int) (hp:HP) (K:Kh):Prop:=
  ((0≤x1)∧(x1<x0n)∧(ptrN x0a fun b43 o44=>ldV (HP.cell hp b43 (o44+Int.toNat x1*1)) fun v45=>strV v45 fun s46=>(0≤x13)∧(x13<x0n)∧(ptrN x0a fun b47 o48=>ldV (HP.cell hp b47 (o48+Int.toNat x13*1)) fun v49=>strV v49 fun s50=>(0≤x13)∧(x13<x0n)∧(ptrN x0a fun b51 o52=>HP.st hp b51 (o52+Int.toNat x13*1) (.string s46) fun h53=>(0≤x1)∧(x1<x0n)∧(ptrN x0a fun b54 o55=>HP.st h53 b54 (o55+Int.toNat x1*1) (.string s50) fun h56=>K (.tuple ⟨[(.int .i64 x13),.bool false]⟩) h56)))))
theorem F187_r9:R187 156159 3 (w2 e 13 (sI x13) 12 (sI x12)) V0 hp K=
 K (w5 e 13 (sI x13) 12 (sI x12) 142 (sI x12) 143 (sI x13) 144 (sB (decide (x12 > x13)))) V0 hp:= by kernel_rfl
theorem F187_r10 (h:E=upd (w2 e 13 (sI x13) 12 (sI x12)) 0 (sS x0a x0n x0c)):R187 188927 16 E V0 hp K=
    ((0≤x13)∧(x13<x0n)∧(ptrN x0a fun b1 o2=>ldV (HP.cell hp b1 (o2+Int.toNat x13*1)) fun v3=>strV v3 fun s4=>(0≤x12)∧(x12<x0n)∧(ptrN x0a fun b5 o6=>ldV (HP.cell hp b5 (o6+Int.toNat x12*1)) fun v7=>strV v7 fun s8=>(0≤x12)∧(x12<x0n)∧(ptrN x0a fun b9 o10=>HP.st hp b9 (o10+Int.toNat x12*1) (.string s4) fun h11=>(0≤x13)∧(x13<x0n)∧(ptrN x0a fun b12 o13=>HP.st h11 b12 (o13+Int.toNat x13*1) (.string s8) fun h14=>K (w6 (w8 E 145 (sS x0a x0n x0c) 146 (sI x12) 147 (sS x0a x0n x0c) 148 (sI x13) 149 (sS x0a x0n x0c) 150 (sI x13) 151 (sQ b1 (o2+Int.toNat x13*1)) 152 (sT s4)) 153 (sS x0a x0n x0c) 154 (sI x12) 155 (sQ b5 (o6+Int.toNat x12*1)) 156 (sT s8) 157 (sQ b9 (o10+Int.toNat x12*1)) 158 (sQ b12 (o13+Int.toNat x13*1))) V0 h14))))):=by subst h; kernel_rfl
theorem F187_r11:R187 385535 3 (upd e 12 (sI x12)) V0 hp K=
 K (w4 e 12 (sI x12) 159 (sI x12) 160 (sI ((wr (x12+1)))) 12 (sI ((wr (x12+1))))) V0 hp:= by kernel_rfl
theorem F187_r12:R187 516607 3 (upd e 13 (sI x13)) V0 hp K=
 K (w4 e 13 (sI x13) 161 (sI x13) 162 (sI ((wr (x13-1)))) 13 (sI ((wr (x13-1))))) V0 hp:= by kernel_rfl
def F187_j8 (x0a:OA) (x0n x0c:Nat) (x1:Int) (x4:Value) (x12 x13:Int) (hp:HP) (I6:(Int × Int)→HP→Prop) (K:Kh):Prop:=
  (ite2 (decide (x12 > x13)) (F187_j5 x0a x0n x0c x1 x13 hp  K) ((0≤x13)∧(x13<x0n)∧(ptrN x0a fun b57 o58=>ldV (HP.cell hp b57 (o58+Int.toNat x13*1)) fun v59=>strV v59 fun s60=>(0≤x12)∧(x12<x0n)∧(ptrN x0a fun b61 o62=>ldV (HP.cell hp b61 (o62+Int.toNat x12*1)) fun v63=>strV v63 fun s64=>(0≤x12)∧(x12<x0n)∧(ptrN x0a fun b65 o66=>HP.st hp b65 (o66+Int.toNat x12*1) (.string s60) fun h67=>(0≤x13)∧(x13<x0n)∧(ptrN x0a fun b68 o69=>HP.st h67 b68 (o69+Int.toNat x13*1) (.string s64) fun h70=>I6 ((IntKind.wrap .i64 (x12+1)),(IntKind.wrap .i64 (x13-1))) h70))))))
theorem F187_r13:R187 664063 3 (upd e 13 (sI x13)) V0 hp K=
 K (w4 e 13 (sI x13) 140 (sI x13) 141 (sI ((wr (x13-1)))) 13 (sI ((wr (x13-1))))) V0 hp:= by kernel_rfl
def F187_j10 (x0a:OA) (x0n x0c:Nat) (x1:Int) (x4:Value) (x12 x13:Int) (x139:Bool) (hp:HP) (I6:(Int × Int)→HP→Prop) (I9:(Int)→HP→Prop) (K:Kh):Prop:=
  (ite2 x139 (I9 (IntKind.wrap .i64 (x13-1)) hp) (F187_j8 x0a x0n x0c x1 x4 x12 x13 hp I6 K))
theorem F187_r14 (h:E=upd (w4 e 13 (sI x13) 12 (sI x12) 4 (sV x4) 1 (sI x1)) 0 (sS x0a x0n x0c)):R187 532991 17 E V0 hp K=
    (ite2 (decide (x12≤x13)) ((0≤x13)∧(x13<x0n)∧(ptrN x0a fun b1 o2=>ldV (HP.cell hp b1 (o2+Int.toNat x13*1)) fun v3=>strV v3 fun s4=>(0≤x1)∧(x1<x0n)∧(ptrN x0a fun b5 o6=>ldV (HP.cell hp b5 (o6+Int.toNat x1*1)) fun v7=>strV v7 fun s8=>fnV x4 fun f9 ga10 gb11=>CF Try.prog f9 (ga10++[(Value.string s4),(.string s8)]++gb11) hp fun u12 h13=>intV u12 .i64 fun i14=>K (upd (w8 (w8 E 123 (sI x12) 124 (sI x13) 125 (sB (decide (x12≤x13))) 126 (sB true) 127 (sV x4) 128 (sS x0a x0n x0c) 129 (sI x13) 130 (sQ b1 (o2+Int.toNat x13*1))) 131 (sT s4) 132 (sS x0a x0n x0c) 133 (sI x1) 134 (sQ b5 (o6+Int.toNat x1*1)) 135 (sT s8) 136 (sI i14) 137 (sB (decide (i14<0))) 138 (sB ((!(decide (i14<0)))))) 139 (sB ((!(decide (i14<0)))))) V0 h13))) (K (upd (w8 (w8 E 123 (sI x12) 124 (sI x13) 125 (sB (decide (x12≤x13))) 126 (sB false) 127 sU 128 sU 129 sU 130 sU) 131 sU 132 sU 133 sU 134 sU 135 sU 136 sU 137 sU 138 sU) 139 (sB false)) V0 hp)):=by subst h; kernel_rfl
def F187_l9 (x0a:OA) (x0n x0c:Nat) (x1:Int) (x4:Value) (x12:Int) (I6:(Int × Int)→HP→Prop) (K:Kh) (I9:(Int)→HP→Prop) (x13:Int) (hp:HP):Prop:=
  (ite2 (decide (x12≤x13)) ((0≤x13)∧(x13<x0n)∧(ptrN x0a fun b71 o72=>ldV (HP.cell hp b71 (o72+Int.toNat x13*1)) fun v73=>strV v73 fun s74=>(0≤x1)∧(x1<x0n)∧(ptrN x0a fun b75 o76=>ldV (HP.cell hp b75 (o76+Int.toNat x1*1)) fun v77=>strV v77 fun s78=>fnV x4 fun f79 ga_80 gb_81=>CF Try.prog f79 (ga_80++[(Value.string s74),(.string s78)]++gb_81) hp fun u82 h83=>intV u82 .i64 fun i84=>F187_j10 x0a x0n x0c x1 x4 x12 x13 (!(decide (i84<0))) h83 I6 I9 K))) (F187_j10 x0a x0n x0c x1 x4 x12 x13 false hp I6 I9 K))
def F187_j7 (x0a:OA) (x0n x0c:Nat) (x1:Int) (x4:Value) (x12 x13:Int) (hp:HP) (I6:(Int × Int)→HP→Prop) (K:Kh):Prop:=
  (LoopP (σ:=Int) (fun I s hp=>F187_l9 x0a x0n x0c x1 x4 x12 I6 K I s hp) x13 hp)
theorem F187_r15:R187 328191 3 (upd e 12 (sI x12)) V0 hp K=
 K (w4 e 12 (sI x12) 121 (sI x12) 122 (sI ((wr (x12+1)))) 12 (sI ((wr (x12+1))))) V0 hp:= by kernel_rfl
def F187_j12 (x0a:OA) (x0n x0c:Nat) (x1:Int) (x4:Value) (x12 x13:Int) (x120:Bool) (hp:HP) (I6:(Int × Int)→HP→Prop) (I11:(Int)→HP→Prop) (K:Kh):Prop:=
  (ite2 x120 (I11 (IntKind.wrap .i64 (x12+1)) hp) (F187_j7 x0a x0n x0c x1 x4 x12 x13 hp I6 K))
theorem F187_r16 (h:E=upd (w4 e 13 (sI x13) 12 (sI x12) 4 (sV x4) 1 (sI x1)) 0 (sS x0a x0n x0c)):R187 262655 16 E V0 hp K=
    (ite2 (decide (x12≤x13)) ((0≤x12)∧(x12<x0n)∧(ptrN x0a fun b1 o2=>ldV (HP.cell hp b1 (o2+Int.toNat x12*1)) fun v3=>strV v3 fun s4=>(0≤x1)∧(x1<x0n)∧(ptrN x0a fun b5 o6=>ldV (HP.cell hp b5 (o6+Int.toNat x1*1)) fun v7=>strV v7 fun s8=>fnV x4 fun f9 ga10 gb11=>CF Try.prog f9 (ga10++[(Value.string s4),(.string s8)]++gb11) hp fun u12 h13=>intV u12 .i64 fun i14=>K (w8 (w8 E 105 (sI x12) 106 (sI x13) 107 (sB (decide (x12≤x13))) 108 (sB true) 109 (sV x4) 110 (sS x0a x0n x0c) 111 (sI x12) 112 (sQ b1 (o2+Int.toNat x12*1))) 113 (sT s4) 114 (sS x0a x0n x0c) 115 (sI x1) 116 (sQ b5 (o6+Int.toNat x1*1)) 117 (sT s8) 118 (sI i14) 119 (sB (decide (i14<0))) 120 (sB (decide (i14<0)))) V0 h13))) (K (w8 (w8 E 105 (sI x12) 106 (sI x13) 107 (sB (decide (x12≤x13))) 108 (sB false) 109 sU 110 sU 111 sU 112 sU) 113 sU 114 sU 115 sU 116 sU 117 sU 118 sU 119 sU 120 (sB false)) V0 hp)):=by subst h; kernel_rfl
def F187_l11 (x0a:OA) (x0n x0c:Nat) (x1:Int) (x4:Value) (x13:Int) (I6:(Int × Int)→HP→Prop) (K:Kh) (I11:(Int)→HP→Prop) (x12:Int) (hp:HP):Prop:=
  (ite2 (decide (x12≤x13)) ((0≤x12)∧(x12<x0n)∧(ptrN x0a fun b85 o86=>ldV (HP.cell hp b85 (o86+Int.toNat x12*1)) fun v87=>strV v87 fun s88=>(0≤x1)∧(x1<x0n)∧(ptrN x0a fun b89 o90=>ldV (HP.cell hp b89 (o90+Int.toNat x1*1)) fun v91=>strV v91 fun s92=>fnV x4 fun f93 ga_94 gb_95=>CF Try.prog f93 (ga_94++[(Value.string s88),(.string s92)]++gb_95) hp fun u96 h97=>intV u96 .i64 fun i98=>F187_j12 x0a x0n x0c x1 x4 x12 x13 (decide (i98<0)) h97 I6 I11 K))) (F187_j12 x0a x0n x0c x1 x4 x12 x13 false hp I6 I11 K))
def F187_l6 (x0a:OA) (x0n x0c:Nat) (x1:Int) (x4:Value) (K:Kh) (I6:(Int × Int)→HP→Prop) (x12 x13:Int) (hp:HP):Prop:=
  (LoopP (σ:=Int) (fun I s hp=>F187_l11 x0a x0n x0c x1 x4 x13 I6 K I s hp) x12 hp)
def F187_j4 (x0a:OA) (x0n x0c:Nat) (x1:Int) (x4:Value) (x12 x13:Int) (hp:HP) (K:Kh):Prop:=
  (LoopP (σ:=Int × Int) (fun I s hp=>F187_l6 x0a x0n x0c x1 x4  K I s.1 s.2 hp) (x12,x13) hp)
theorem F187_r17:R187 767 3 (upd e 13 (sI x13)) V0 hp K=
 K (w4 e 13 (sI x13) 103 (sI x13) 104 (sI ((wr (x13-1)))) 13 (sI ((wr (x13-1))))) V0 hp:= by kernel_rfl
def F187_j3 (x0a:OA) (x0n x0c:Nat) (x1:Int) (x4:Value) (x12 x13:Int) (hp:HP) (K:Kh):Prop:=
  (ite2 (decide (x12 > x13)) ((0≤x1)∧(x1<x0n)∧(ptrN x0a fun b15 o16=>ldV (HP.cell hp b15 (o16+Int.toNat x1*1)) fun v17=>strV v17 fun s18=>(0≤x13)∧(x13<x0n)∧(ptrN x0a fun b19 o20=>ldV (HP.cell hp b19 (o20+Int.toNat x13*1)) fun v21=>strV v21 fun s22=>(0≤x13)∧(x13<x0n)∧(ptrN x0a fun b23 o24=>HP.st hp b23 (o24+Int.toNat x13*1) (.string s18) fun h25=>(0≤x1)∧(x1<x0n)∧(ptrN x0a fun b26 o27=>HP.st h25 b26 (o27+Int.toNat x1*1) (.string s22) fun h28=>K (.tuple ⟨[(.int .i64 x13),(.bool true)]⟩) h28))))) ((0≤x13)∧(x13<x0n)∧(ptrN x0a fun b29 o30=>ldV (HP.cell hp b29 (o30+Int.toNat x13*1)) fun v31=>strV v31 fun s32=>(0≤x12)∧(x12<x0n)∧(ptrN x0a fun b33 o34=>ldV (HP.cell hp b33 (o34+Int.toNat x12*1)) fun v35=>strV v35 fun s36=>(0≤x12)∧(x12<x0n)∧(ptrN x0a fun b37 o38=>HP.st hp b37 (o38+Int.toNat x12*1) (.string s32) fun h39=>(0≤x13)∧(x13<x0n)∧(ptrN x0a fun b40 o41=>HP.st h39 b40 (o41+Int.toNat x13*1) (.string s36) fun h42=>F187_j4 x0a x0n x0c x1 x4 (IntKind.wrap .i64 (x12+1)) (IntKind.wrap .i64 (x13-1)) h42  K))))))
theorem F187_r18:R187 655 3 (upd e 13 (sI x13)) V0 hp K=
 K (w4 e 13 (sI x13) 67 (sI x13) 68 (sI ((wr (x13-1)))) 13 (sI ((wr (x13-1))))) V0 hp:= by kernel_rfl
def F187_j14 (x0a:OA) (x0n x0c:Nat) (x1:Int) (x4:Value) (x12 x13:Int) (x66:Bool) (hp:HP) (I13:(Int)→HP→Prop) (K:Kh):Prop:=
  (ite2 x66 (I13 (IntKind.wrap .i64 (x13-1)) hp) (F187_j3 x0a x0n x0c x1 x4 x12 x13 hp  K))
theorem F187_r19 (h:E=upd (w4 e 13 (sI x13) 12 (sI x12) 4 (sV x4) 1 (sI x1)) 0 (sS x0a x0n x0c)):R187 527 17 E V0 hp K=
    (ite2 (decide (x12≤x13)) ((0≤x13)∧(x13<x0n)∧(ptrN x0a fun b1 o2=>ldV (HP.cell hp b1 (o2+Int.toNat x13*1)) fun v3=>strV v3 fun s4=>(0≤x1)∧(x1<x0n)∧(ptrN x0a fun b5 o6=>ldV (HP.cell hp b5 (o6+Int.toNat x1*1)) fun v7=>strV v7 fun s8=>fnV x4 fun f9 ga10 gb11=>CF Try.prog f9 (ga10++[(Value.string s4),(.string s8)]++gb11) hp fun u12 h13=>intV u12 .i64 fun i14=>K (upd (w8 (w8 E 50 (sI x12) 51 (sI x13) 52 (sB (decide (x12≤x13))) 53 (sB true) 54 (sV x4) 55 (sS x0a x0n x0c) 56 (sI x13) 57 (sQ b1 (o2+Int.toNat x13*1))) 58 (sT s4) 59 (sS x0a x0n x0c) 60 (sI x1) 61 (sQ b5 (o6+Int.toNat x1*1)) 62 (sT s8) 63 (sI i14) 64 (sB (decide (i14<0))) 65 (sB ((!(decide (i14<0)))))) 66 (sB ((!(decide (i14<0)))))) V0 h13))) (K (upd (w8 (w8 E 50 (sI x12) 51 (sI x13) 52 (sB (decide (x12≤x13))) 53 (sB false) 54 sU 55 sU 56 sU 57 sU) 58 sU 59 sU 60 sU 61 sU 62 sU 63 sU 64 sU 65 sU) 66 (sB false)) V0 hp)):=by subst h; kernel_rfl
def F187_l13 (x0a:OA) (x0n x0c:Nat) (x1:Int) (x4:Value) (x12:Int) (K:Kh) (I13:(Int)→HP→Prop) (x13:Int) (hp:HP):Prop:=
  (ite2 (decide (x12≤x13)) ((0≤x13)∧(x13<x0n)∧(ptrN x0a fun b99 o100=>ldV (HP.cell hp b99 (o100+Int.toNat x13*1)) fun v101=>strV v101 fun s102=>(0≤x1)∧(x1<x0n)∧(ptrN x0a fun b103 o104=>ldV (HP.cell hp b103 (o104+Int.toNat x1*1)) fun v105=>strV v105 fun s106=>fnV x4 fun f107 ga_108 gb_109=>CF Try.prog f107 (ga_108++[(Value.string s102),(.string s106)]++gb_109) hp fun u110 h111=>intV u110 .i64 fun i112=>F187_j14 x0a x0n x0c x1 x4 x12 x13 (!(decide (i112<0))) h111 I13 K))) (F187_j14 x0a x0n x0c x1 x4 x12 x13 false hp I13 K))
def F187_j2 (x0a:OA) (x0n x0c:Nat) (x1:Int) (x4:Value) (x12 x13:Int) (hp:HP) (K:Kh):Prop:=
  (LoopP (σ:=Int) (fun I s hp=>F187_l13 x0a x0n x0c x1 x4 x12  K I s hp) x13 hp)
theorem F187_r20:R187 327 3 (upd e 12 (sI x12)) V0 hp K=
 K (w4 e 12 (sI x12) 48 (sI x12) 49 (sI ((wr (x12+1)))) 12 (sI ((wr (x12+1))))) V0 hp:= by kernel_rfl
def F187_j16 (x0a:OA) (x0n x0c:Nat) (x1:Int) (x4:Value) (x12 x13:Int) (x47:Bool) (hp:HP) (I15:(Int)→HP→Prop) (K:Kh):Prop:=
  (ite2 x47 (I15 (IntKind.wrap .i64 (x12+1)) hp) (F187_j2 x0a x0n x0c x1 x4 x12 x13 hp  K))
theorem F187_r21 (h:E=upd (w4 e 13 (sI x13) 12 (sI x12) 4 (sV x4) 1 (sI x1)) 0 (sS x0a x0n x0c)):R187 263 16 E V0 hp K=
    (ite2 (decide (x12≤x13)) ((0≤x12)∧(x12<x0n)∧(ptrN x0a fun b1 o2=>ldV (HP.cell hp b1 (o2+Int.toNat x12*1)) fun v3=>strV v3 fun s4=>(0≤x1)∧(x1<x0n)∧(ptrN x0a fun b5 o6=>ldV (HP.cell hp b5 (o6+Int.toNat x1*1)) fun v7=>strV v7 fun s8=>fnV x4 fun f9 ga10 gb11=>CF Try.prog f9 (ga10++[(Value.string s4),(.string s8)]++gb11) hp fun u12 h13=>intV u12 .i64 fun i14=>K (w8 (w8 E 32 (sI x12) 33 (sI x13) 34 (sB (decide (x12≤x13))) 35 (sB true) 36 (sV x4) 37 (sS x0a x0n x0c) 38 (sI x12) 39 (sQ b1 (o2+Int.toNat x12*1))) 40 (sT s4) 41 (sS x0a x0n x0c) 42 (sI x1) 43 (sQ b5 (o6+Int.toNat x1*1)) 44 (sT s8) 45 (sI i14) 46 (sB (decide (i14<0))) 47 (sB (decide (i14<0)))) V0 h13))) (K (w8 (w8 E 32 (sI x12) 33 (sI x13) 34 (sB (decide (x12≤x13))) 35 (sB false) 36 sU 37 sU 38 sU 39 sU) 40 sU 41 sU 42 sU 43 sU 44 sU 45 sU 46 sU 47 (sB false)) V0 hp)):=by subst h; kernel_rfl
def F187_l15 (x0a:OA) (x0n x0c:Nat) (x1:Int) (x4:Value) (x13:Int) (K:Kh) (I15:(Int)→HP→Prop) (x12:Int) (hp:HP):Prop:=
  (ite2 (decide (x12≤x13)) ((0≤x12)∧(x12<x0n)∧(ptrN x0a fun b113 o114=>ldV (HP.cell hp b113 (o114+Int.toNat x12*1)) fun v115=>strV v115 fun s116=>(0≤x1)∧(x1<x0n)∧(ptrN x0a fun b117 o118=>ldV (HP.cell hp b117 (o118+Int.toNat x1*1)) fun v119=>strV v119 fun s120=>fnV x4 fun f121 ga_122 gb_123=>CF Try.prog f121 (ga_122++[(Value.string s116),(.string s120)]++gb_123) hp fun u124 h125=>intV u124 .i64 fun i126=>F187_j16 x0a x0n x0c x1 x4 x12 x13 (decide (i126<0)) h125 I15 K))) (F187_j16 x0a x0n x0c x1 x4 x12 x13 false hp I15 K))
def F187_j1 (x0a:OA) (x0n x0c:Nat) (x1:Int) (x4:Value) (x12 x13:Int) (hp:HP) (K:Kh):Prop:=
  (LoopP (σ:=Int) (fun I s hp=>F187_l15 x0a x0n x0c x1 x4 x13  K I s hp) x12 hp)
theorem F187_r22:R187 11 6 (w2 e 2 (sI x2) 1 (sI x1)) V0 hp K=
 K (w8 e 2 (sI x2) 1 (sI x1) 28 (sI x1) 29 (sI ((wr (x1+1)))) 30 (sI x2) 31 (sI ((wr (x2-1)))) 12 (sI ((wr (x1+1)))) 13 (sI ((wr (x2-1))))) V0 hp:= by kernel_rfl
def F187 (x0a:OA) (x0n x0c:Nat) (x1 x2 x3:Int) (x4:Value) (hp:HP) (K:Kh):Prop:=
  ((0≤x3)∧(x3<x0n)∧(ptrN x0a fun b1 o2=>ldV (HP.cell hp b1 (o2+Int.toNat x3*1)) fun v3=>strV v3 fun s4=>(0≤x1)∧(x1<x0n)∧(ptrN x0a fun b5 o6=>ldV (HP.cell hp b5 (o6+Int.toNat x1*1)) fun v7=>strV v7 fun s8=>(0≤x1)∧(x1<x0n)∧(ptrN x0a fun b9 o10=>HP.st hp b9 (o10+Int.toNat x1*1) (.string s4) fun h11=>(0≤x3)∧(x3<x0n)∧(ptrN x0a fun b12 o13=>HP.st h11 b12 (o13+Int.toNat x3*1) (.string s8) fun h14=>F187_j1 x0a x0n x0c x1 x4 (IntKind.wrap .i64 (x1+1)) (IntKind.wrap .i64 (x2-1)) h14  K)))))
noncomputable abbrev o187 (k n:Nat):Code:=.region k (opsAt Try.f187 (pth n)) false
noncomputable def F187_code:Code:=(.seq (o187 0 2) (.seq (.region 1 (opsAt Try.f187 (pth 5)) true) (.seq (o187 2 11) (.seq (.block 0 (.loop (.seq (.seq (.region 3 (opsAt Try.f187 (pth 263)) true) (.cond (.tmp 47) .skip (.exit 0))) (.block 1 (o187 4 327))))) (.seq (.block 2 (.loop (.seq (.seq (.region 5 (opsAt Try.f187 (pth 527)) true) (.cond (.tmp 66) .skip (.exit 2))) (.block 3 (o187 6 655))))) (.seq (.seq (o187 7 159) (.cond (.tmp 71) (.seq (.region 8 (opsAt Try.f187 (pth 607)) true) (.seq (o187 9 1375) .ret)) .skip)) (.seq (.region 10 (opsAt Try.f187 (pth 191)) true) (.seq (o187 11 383) (.seq (o187 12 767) (.seq (.block 4 (.loop (.block 5 (.seq (.block 6 (.loop (.seq (.seq (.region 13 (opsAt Try.f187 (pth 262655)) true) (.cond (.tmp 120) .skip (.exit 6))) (.block 7 (o187 14 328191))))) (.seq (.block 8 (.loop (.seq (.seq (.region 15 (opsAt Try.f187 (pth 532991)) true) (.cond (.tmp 139) .skip (.exit 8))) (.block 9 (o187 16 664063))))) (.seq (.seq (o187 17 156159) (.cond (.tmp 144) (.exit 4) .skip)) (.seq (.region 18 (opsAt Try.f187 (pth 188927)) true) (.seq (o187 19 385535) (o187 20 516607))))))))) (.seq (.region 21 (opsAt Try.f187 (pth 3071)) true) (.seq (o187 22 6143) .ret))))))))))))
theorem F187_body:Try.f187.body=some F187_code:=by kernel_rfl
theorem F187_ok (x0a:OA) (x0n x0c:Nat) (x1 x2 x3:Int) (x4:Value) (hp:HP) (K:Kh) (h:F187 x0a x0n x0c x1 x2 x3 x4 hp K):CF Try.prog 187 [(.slice x0a x0n x0c),(.int .i64 x1),(.int .i64 x2),(.int .i64 x3),x4] hp K:=by
 refine .inl ⟨by kernel_rfl,AC.intro (N:=178) Try.func187 F187_body rfl (Nat.le_of_ble_eq_true rfl) ?_⟩
 unfold F187 at h
 refine Ar F187_r0 ?_ (r5 0 1 2 3 4 Rn) (z5 Sn) Sn
 refine Aq (AWP.rgnD (by kernel_rfl) (by kernel_rfl) (F187_r1 rfl) ?_ (r5 0 1 3 2 4 Rn) (z5 Sn) Sn)
 refine ⟨h.1,h.2.1,mN h.2.2 (fun b1 o2 h=>mV h (fun v3 h=>ms h (fun s4 h=>⟨h.1,h.2.1,mN h.2.2 (fun b5 o6 h=>mV h (fun v7 h=>ms h (fun s8 h=>⟨h.1,h.2.1,mN h.2.2 (fun b9 o10 h=>mw h (fun h11 h=>⟨h.1,h.2.1,mN h.2.2 fun b12 o13 h=>mw h fun h14 h=>?_⟩))⟩)))⟩)))⟩
 refine As (fun env pv hp=>∃ x0a x0n x0c x1 x4 x12 x13,Sub (w5 E0 13 (sI x13) 12 (sI x12) 4 (sV x4) 1 (sI x1) 0 (sS x0a x0n x0c)) env∧Sub V0 pv∧F187_j1 x0a x0n x0c x1 x4 x12 x13 hp  K) ?_ ?_
 ·refine Ag F187_r22 ?_ (r4 1 2 0 4 Rn) (z4 Sn) Sn
  exact ⟨_,_,_,_,_,_,_,(z5 Sn),Sn,h⟩
 ·rintro env pv hp ⟨x0a,x0n,x0c,x1,x4,x12,x13,he,hv,h⟩
  refine Ae ?_ (r5 0 1 4 12 13 Rn) he hv
  unfold F187_j1 at h
  refine As (fun env pv hp=>∃ x0a x0n x0c x1 x4 x12 x13,Sub (w5 E0 13 (sI x13) 12 (sI x12) 4 (sV x4) 1 (sI x1) 0 (sS x0a x0n x0c)) env∧Sub V0 pv∧F187_j2 x0a x0n x0c x1 x4 x12 x13 hp  K) ?_ ?_
  ·refine AWP.block (AWP.loop (σ:=Int) _ (fun s=>w5 E0 13 (sI x13) 12 (sI s) 4 (sV x4) 1 (sI x1) 0 (sS x0a x0n x0c)) (fun s=>V0) x12 h (fun s=>r5 0 1 4 12 13 Rn) (z5 Sn) Sn ?_)
   intro I15 x12 hp h
   replace h:F187_l15 x0a x0n x0c x1 x4 x13  K I15 x12 hp:=h
   unfold F187_l15 at h
   refine Aq (As (fun env pv hp=>∃ x12 x47,Sub (w6 E0 47 (sB x47) 13 (sI x13) 12 (sI x12) 4 (sV x4) 1 (sI x1) 0 (sS x0a x0n x0c)) env∧Sub V0 pv∧F187_j16 x0a x0n x0c x1 x4 x12 x13 x47 hp I15 K) ?_ ?_)
   ·refine AWP.rgnD (by kernel_rfl) (by kernel_rfl) (F187_r21 rfl) ?_ (r5 0 1 4 12 13 Rn) (z5 Sn) Sn
    refine mt h (fun h=>?_) (fun h=>?_)
    ·refine ⟨h.1,h.2.1,mN h.2.2 (fun b113 o114 h=>mV h (fun v115 h=>ms h (fun s116 h=>⟨h.1,h.2.1,mN h.2.2 fun b117 o118 h=>mV h fun v119 h=>ms h fun s120 h=>mF h fun f121 ga_122 gb_123 h=>mC h fun u124 h125 h=>mI h fun i126 h=>?_⟩)))⟩
     exact ⟨_,_,(z6 Sn),Sn,h⟩
    ·exact ⟨_,_,(z6 Sn),Sn,h⟩
   ·rintro env pv hp ⟨x12,x47,he,hv,h⟩
    refine Ae ?_ (r6 0 1 4 12 13 47 Rn) he hv
    unfold F187_j16 at h
    refine Ac h rfl (fun h=>?_) (fun h=>?_)
    ·refine AWP.skip (AWP.block (Ag F187_r20 ?_ (r5 12 0 1 4 13 Rn) (z5 Sn) Sn))
     exact ⟨_,(z5 Sn),Sn,h⟩
    ·refine AWP.exit ?_
     exact ⟨_,_,_,_,_,_,_,(z5 Sn),Sn,h⟩
  ·rintro env pv hp ⟨x0a,x0n,x0c,x1,x4,x12,x13,he,hv,h⟩
   refine Ae ?_ (r5 0 1 4 12 13 Rn) he hv
   unfold F187_j2 at h
   refine As (fun env pv hp=>∃ x0a x0n x0c x1 x4 x12 x13,Sub (w5 E0 13 (sI x13) 12 (sI x12) 4 (sV x4) 1 (sI x1) 0 (sS x0a x0n x0c)) env∧Sub V0 pv∧F187_j3 x0a x0n x0c x1 x4 x12 x13 hp  K) ?_ ?_
   ·refine AWP.block (AWP.loop (σ:=Int) _ (fun s=>w5 E0 13 (sI s) 12 (sI x12) 4 (sV x4) 1 (sI x1) 0 (sS x0a x0n x0c)) (fun s=>V0) x13 h (fun s=>r5 0 1 4 12 13 Rn) (z5 Sn) Sn ?_)
    intro I13 x13 hp h
    replace h:F187_l13 x0a x0n x0c x1 x4 x12  K I13 x13 hp:=h
    unfold F187_l13 at h
    refine Aq (As (fun env pv hp=>∃ x13 x66,Sub (w6 E0 66 (sB x66) 13 (sI x13) 12 (sI x12) 4 (sV x4) 1 (sI x1) 0 (sS x0a x0n x0c)) env∧Sub V0 pv∧F187_j14 x0a x0n x0c x1 x4 x12 x13 x66 hp I13 K) ?_ ?_)
    ·refine AWP.rgnD (by kernel_rfl) (by kernel_rfl) (F187_r19 rfl) ?_ (r5 0 1 4 12 13 Rn) (z5 Sn) Sn
     refine mt h (fun h=>?_) (fun h=>?_)
     ·refine ⟨h.1,h.2.1,mN h.2.2 (fun b99 o100 h=>mV h (fun v101 h=>ms h (fun s102 h=>⟨h.1,h.2.1,mN h.2.2 fun b103 o104 h=>mV h fun v105 h=>ms h fun s106 h=>mF h fun f107 ga_108 gb_109 h=>mC h fun u110 h111 h=>mI h fun i112 h=>?_⟩)))⟩
      exact ⟨_,_,(z6 Sn),Sn,h⟩
     ·exact ⟨_,_,(z6 Sn),Sn,h⟩
    ·rintro env pv hp ⟨x13,x66,he,hv,h⟩
     refine Ae ?_ (r6 0 1 4 12 13 66 Rn) he hv
     unfold F187_j14 at h
     refine Ac h rfl (fun h=>?_) (fun h=>?_)
     ·refine AWP.skip (AWP.block (Ag F187_r18 ?_ (r5 13 0 1 4 12 Rn) (z5 Sn) Sn))
      exact ⟨_,(z5 Sn),Sn,h⟩
     ·refine AWP.exit ?_
      exact ⟨_,_,_,_,_,_,_,(z5 Sn),Sn,h⟩
   ·rintro env pv hp ⟨x0a,x0n,x0c,x1,x4,x12,x13,he,hv,h⟩
    refine Ae ?_ (r5 0 1 4 12 13 Rn) he hv
    unfold F187_j3 at h
    refine Aq (Ar F187_r2 ?_ (r5 12 13 0 1 4 Rn) (z5 Sn) Sn)
    refine Ac h rfl (fun h=>?_) (fun h=>?_)
    ·refine Aq (AWP.rgnD (by kernel_rfl) (by kernel_rfl) (F187_r3 rfl) ?_ (r3 0 1 13 Rn) (z3 Sn) Sn)
     refine ⟨h.1,h.2.1,mN h.2.2 (fun b15 o16 h=>mV h (fun v17 h=>ms h (fun s18 h=>⟨h.1,h.2.1,mN h.2.2 (fun b19 o20 h=>mV h (fun v21 h=>ms h (fun s22 h=>⟨h.1,h.2.1,mN h.2.2 (fun b23 o24 h=>mw h (fun h25 h=>⟨h.1,h.2.1,mN h.2.2 fun b26 o27 h=>mw h fun h28 h=>?_⟩))⟩)))⟩)))⟩
     refine Ar F187_r4 ?_ (r1 13 Rn) (z1 Sn) Sn
     refine AWP.ret ?_
     exact h
    ·refine AWP.skip (Aq (AWP.rgnD (by kernel_rfl) (by kernel_rfl) (F187_r5 rfl) ?_ (r5 0 12 13 1 4 Rn) (z5 Sn) Sn))
     refine ⟨h.1,h.2.1,mN h.2.2 (fun b29 o30 h=>mV h (fun v31 h=>ms h (fun s32 h=>⟨h.1,h.2.1,mN h.2.2 (fun b33 o34 h=>mV h (fun v35 h=>ms h (fun s36 h=>⟨h.1,h.2.1,mN h.2.2 (fun b37 o38 h=>mw h (fun h39 h=>⟨h.1,h.2.1,mN h.2.2 fun b40 o41 h=>mw h fun h42 h=>?_⟩))⟩)))⟩)))⟩
     refine Ar F187_r6 ?_ (r5 12 0 1 4 13 Rn) (z5 Sn) Sn
     refine As (fun env pv hp=>∃ x0a x0n x0c x1 x4 x12 x13,Sub (w5 E0 13 (sI x13) 12 (sI x12) 4 (sV x4) 1 (sI x1) 0 (sS x0a x0n x0c)) env∧Sub V0 pv∧F187_j4 x0a x0n x0c x1 x4 x12 x13 hp  K) ?_ ?_
     ·refine Ag F187_r17 ?_ (r5 13 0 1 4 12 Rn) (z5 Sn) Sn
      exact ⟨_,_,_,_,_,_,_,(z5 Sn),Sn,h⟩
     ·rintro env pv hp ⟨x0a,x0n,x0c,x1,x4,x12,x13,he,hv,h⟩
      refine Ae ?_ (r5 0 1 4 12 13 Rn) he hv
      unfold F187_j4 at h
      refine As (fun env pv hp=>∃ x0a x0n x0c x1 x13,Sub (w3 E0 13 (sI x13) 1 (sI x1) 0 (sS x0a x0n x0c)) env∧Sub V0 pv∧F187_j5 x0a x0n x0c x1 x13 hp  K) ?_ ?_
      ·refine AWP.block (AWP.loop (σ:=Int × Int) _ (fun s=>w5 E0 13 (sI (s.2)) 12 (sI (s.1)) 4 (sV x4) 1 (sI x1) 0 (sS x0a x0n x0c)) (fun s=>V0) (x12,x13) h (fun s=>r5 0 1 4 12 13 Rn) (z5 Sn) Sn ?_)
       intro I6 s hp h
       obtain ⟨x12,x13⟩:=s
       replace h:F187_l6 x0a x0n x0c x1 x4  K I6 x12 x13 hp:=h
       unfold F187_l6 at h
       refine AWP.block (As (fun env pv hp=>∃ x12 x13,Sub (w5 E0 13 (sI x13) 12 (sI x12) 4 (sV x4) 1 (sI x1) 0 (sS x0a x0n x0c)) env∧Sub V0 pv∧F187_j7 x0a x0n x0c x1 x4 x12 x13 hp I6 K) ?_ ?_)
       ·refine AWP.block (AWP.loop (σ:=Int) _ (fun s=>w5 E0 13 (sI x13) 12 (sI s) 4 (sV x4) 1 (sI x1) 0 (sS x0a x0n x0c)) (fun s=>V0) x12 h (fun s=>r5 0 1 4 12 13 Rn) (z5 Sn) Sn ?_)
        intro I11 x12 hp h
        replace h:F187_l11 x0a x0n x0c x1 x4 x13 I6 K I11 x12 hp:=h
        unfold F187_l11 at h
        refine Aq (As (fun env pv hp=>∃ x12 x120,Sub (w6 E0 120 (sB x120) 13 (sI x13) 12 (sI x12) 4 (sV x4) 1 (sI x1) 0 (sS x0a x0n x0c)) env∧Sub V0 pv∧F187_j12 x0a x0n x0c x1 x4 x12 x13 x120 hp I6 I11 K) ?_ ?_)
        ·refine AWP.rgnD (by kernel_rfl) (by kernel_rfl) (F187_r16 rfl) ?_ (r5 0 1 4 12 13 Rn) (z5 Sn) Sn
         refine mt h (fun h=>?_) (fun h=>?_)
         ·refine ⟨h.1,h.2.1,mN h.2.2 (fun b85 o86 h=>mV h (fun v87 h=>ms h (fun s88 h=>⟨h.1,h.2.1,mN h.2.2 fun b89 o90 h=>mV h fun v91 h=>ms h fun s92 h=>mF h fun f93 ga_94 gb_95 h=>mC h fun u96 h97 h=>mI h fun i98 h=>?_⟩)))⟩
          exact ⟨_,_,(z6 Sn),Sn,h⟩
         ·exact ⟨_,_,(z6 Sn),Sn,h⟩
        ·rintro env pv hp ⟨x12,x120,he,hv,h⟩
         refine Ae ?_ (r6 0 1 4 12 13 120 Rn) he hv
         unfold F187_j12 at h
         refine Ac h rfl (fun h=>?_) (fun h=>?_)
         ·refine AWP.skip (AWP.block (Ag F187_r15 ?_ (r5 12 0 1 4 13 Rn) (z5 Sn) Sn))
          exact ⟨_,(z5 Sn),Sn,h⟩
         ·refine AWP.exit ?_
          exact ⟨_,_,(z5 Sn),Sn,h⟩
       ·rintro env pv hp ⟨x12,x13,he,hv,h⟩
        refine Ae ?_ (r5 0 1 4 12 13 Rn) he hv
        unfold F187_j7 at h
        refine As (fun env pv hp=>∃ x12 x13,Sub (w5 E0 13 (sI x13) 12 (sI x12) 4 (sV x4) 1 (sI x1) 0 (sS x0a x0n x0c)) env∧Sub V0 pv∧F187_j8 x0a x0n x0c x1 x4 x12 x13 hp I6 K) ?_ ?_
        ·refine AWP.block (AWP.loop (σ:=Int) _ (fun s=>w5 E0 13 (sI s) 12 (sI x12) 4 (sV x4) 1 (sI x1) 0 (sS x0a x0n x0c)) (fun s=>V0) x13 h (fun s=>r5 0 1 4 12 13 Rn) (z5 Sn) Sn ?_)
         intro I9 x13 hp h
         replace h:F187_l9 x0a x0n x0c x1 x4 x12 I6 K I9 x13 hp:=h
         unfold F187_l9 at h
         refine Aq (As (fun env pv hp=>∃ x13 x139,Sub (w6 E0 139 (sB x139) 13 (sI x13) 12 (sI x12) 4 (sV x4) 1 (sI x1) 0 (sS x0a x0n x0c)) env∧Sub V0 pv∧F187_j10 x0a x0n x0c x1 x4 x12 x13 x139 hp I6 I9 K) ?_ ?_)
         ·refine AWP.rgnD (by kernel_rfl) (by kernel_rfl) (F187_r14 rfl) ?_ (r5 0 1 4 12 13 Rn) (z5 Sn) Sn
          refine mt h (fun h=>?_) (fun h=>?_)
          ·refine ⟨h.1,h.2.1,mN h.2.2 (fun b71 o72 h=>mV h (fun v73 h=>ms h (fun s74 h=>⟨h.1,h.2.1,mN h.2.2 fun b75 o76 h=>mV h fun v77 h=>ms h fun s78 h=>mF h fun f79 ga_80 gb_81 h=>mC h fun u82 h83 h=>mI h fun i84 h=>?_⟩)))⟩
           exact ⟨_,_,(z6 Sn),Sn,h⟩
          ·exact ⟨_,_,(z6 Sn),Sn,h⟩
         ·rintro env pv hp ⟨x13,x139,he,hv,h⟩
          refine Ae ?_ (r6 0 1 4 12 13 139 Rn) he hv
          unfold F187_j10 at h
          refine Ac h rfl (fun h=>?_) (fun h=>?_)
          ·refine AWP.skip (AWP.block (Ag F187_r13 ?_ (r5 13 0 1 4 12 Rn) (z5 Sn) Sn))
           exact ⟨_,(z5 Sn),Sn,h⟩
          ·refine AWP.exit ?_
           exact ⟨_,_,(z5 Sn),Sn,h⟩
        ·rintro env pv hp ⟨x12,x13,he,hv,h⟩
         refine Ae ?_ (r5 0 1 4 12 13 Rn) he hv
         unfold F187_j8 at h
         refine Aq (Ar F187_r9 ?_ (r5 12 13 0 1 4 Rn) (z5 Sn) Sn)
         refine Ac h rfl (fun h=>?_) (fun h=>?_)
         ·refine AWP.exit ?_
          exact ⟨_,_,_,_,_,(z3 Sn),Sn,h⟩
         ·refine AWP.skip (Aq (AWP.rgnD (by kernel_rfl) (by kernel_rfl) (F187_r10 rfl) ?_ (r5 0 12 13 1 4 Rn) (z5 Sn) Sn))
          refine ⟨h.1,h.2.1,mN h.2.2 (fun b57 o58 h=>mV h (fun v59 h=>ms h (fun s60 h=>⟨h.1,h.2.1,mN h.2.2 (fun b61 o62 h=>mV h (fun v63 h=>ms h (fun s64 h=>⟨h.1,h.2.1,mN h.2.2 (fun b65 o66 h=>mw h (fun h67 h=>⟨h.1,h.2.1,mN h.2.2 fun b68 o69 h=>mw h fun h70 h=>?_⟩))⟩)))⟩)))⟩
          refine Ar F187_r11 ?_ (r5 12 0 1 4 13 Rn) (z5 Sn) Sn
          refine Ag F187_r12 ?_ (r5 13 0 1 4 12 Rn) (z5 Sn) Sn
          exact ⟨_,(z5 Sn),Sn,h⟩
      ·rintro env pv hp ⟨x0a,x0n,x0c,x1,x13,he,hv,h⟩
       refine Ae ?_ (r3 0 1 13 Rn) he hv
       unfold F187_j5 at h
       refine Aq (AWP.rgnD (by kernel_rfl) (by kernel_rfl) (F187_r7 rfl) ?_ (r3 0 1 13 Rn) (z3 Sn) Sn)
       refine ⟨h.1,h.2.1,mN h.2.2 (fun b43 o44 h=>mV h (fun v45 h=>ms h (fun s46 h=>⟨h.1,h.2.1,mN h.2.2 (fun b47 o48 h=>mV h (fun v49 h=>ms h (fun s50 h=>⟨h.1,h.2.1,mN h.2.2 (fun b51 o52 h=>mw h (fun h53 h=>⟨h.1,h.2.1,mN h.2.2 fun b54 o55 h=>mw h fun h56 h=>?_⟩))⟩)))⟩)))⟩
       refine Ar F187_r8 ?_ (r1 13 Rn) (z1 Sn) Sn
       refine AWP.ret ?_
       exact h
end
end Go.Proofs
set_option linter.unusedVariables false
set_option maxRecDepth 20000
namespace Go.Proofs
open Go Go.HL
section
variable {f:FuncId} {ga gb:List Value} {hp0:HP} {b sp n c:Nat} {T:Type} [Inhabited T] {en:T→ByteArray} {cf:T→T→Int}
theorem S186 (hc:CmpOk1 Try.prog f ga gb hp0 b 9 sp n cf en) {d:Array T} {lo hi pv:Nat} {K:Value→HP→Prop} (hs:d.size=n) (hlo:lo<hi) (hf:hi≤n) (hp:pv<n) (hn:n≤1000000000)
    (h:K (.int .i64 ((Sort.partitionEqual (ltC cf) d lo hi pv).1:Nat)) (HA hp0 b 9 sp (ssT en) (Sort.partitionEqual (ltC cf) d lo hi pv).2)) :
    CF Try.prog 186 [.slice (some ⟨b,0,none⟩) n c,.int .i64 lo,.int .i64 hi,.int .i64 pv,.func (.func f) ⟨ga⟩ ⟨gb⟩] (HA hp0 b 9 sp (ssT en) d) K:=by
  refine F186_ok _ n c lo hi pv _ _ K ?_
  unfold F186
  refine swapP1 hs (i:=lo) (j:=pv) rfl rfl (by omega) (by omega) ?_
  unfold Sort.partitionEqual at h
  have hs1:(Sort.swp d lo pv).size=n:=by rw [swp_size]; exact hs
  generalize Sort.swp d lo pv=d1 at *
  have w1:IntKind.wrap .i64 ((lo:Int)+1)=((lo+1:Nat):Int):=wi (by omega) (by omega)
  have w2:IntKind.wrap .i64 ((hi:Int)-1)=((hi-1:Nat):Int):=wi (by omega) (by omega)
  rw [w1,w2]
  generalize hR:Sort.partEqLoop (ltC cf) lo (lo+1) (hi-1) d1=R at h
  unfold F186_j1
  refine LoopP.by (J:=fun k (s:Int × Int) hp=>∃ (i j:Nat) (d':Array T),s=((i:Int),(j:Int))∧hp=HA hp0 b 9 sp (ssT en) d'∧d'.size=n∧lo<i∧i≤j+2∧j<n∧k=j+1-i∧Sort.partEqLoop (ltC cf) lo i j d'=R) ?_
    (n:=hi-1+1-(lo+1)) ⟨lo+1,hi-1,d1,rfl,rfl,hs1,by omega,by omega,by omega,rfl,hR⟩
  rintro I k x hp ⟨i,j,d',rfl,rfl,hs',hli,hij,hj,rfl,he⟩ hI
  unfold F186_l3
  simp only []
  rw [Sort.partEqLoop_eq] at he
  refine LoopP.by (J:=fun m (y:Int) hp=>∃ (i':Nat),y=i'∧hp=HA hp0 b 9 sp (ssT en) d'∧i≤i'∧i'≤j+2∧m=j+2-i'∧Sort.scanUp (fun x=>!ltC cf d'[lo]! x) d' j i'=Sort.scanUp (fun x=>!ltC cf d'[lo]! x) d' j i) ?_
    (n:=j+2-i) ⟨i,rfl,rfl,Nat.le_refl _,hij,rfl,rfl⟩
  rintro I8 m y hp ⟨i',rfl,rfl,h1,h2,rfl,h7⟩ hI8
  unfold F186_l8
  rw [← h7] at he
  have out:Sort.scanUp (fun x=>!ltC cf d'[lo]! x) d' j i'=i'→F186_j9 (some ⟨b,0,none⟩) n c lo (.func (.func f) ⟨ga⟩ ⟨gb⟩) i' j false (HA hp0 b 9 sp (ssT en) d') I I8 K:=by
    intro hq
    rw [hq] at he
    unfold F186_j9 F186_j4
    rw [ite2_false]
    refine LoopP.by (J:=fun m (y:Int) hp=>∃ (j':Nat),y=j'∧hp=HA hp0 b 9 sp (ssT en) d'∧j'≤j∧m=j'∧Sort.scanDown (fun x=>ltC cf d'[lo]! x) d' i' j'=Sort.scanDown (fun x=>ltC cf d'[lo]! x) d' i' j) ?_
      (n:=j) ⟨j,rfl,rfl,Nat.le_refl _,rfl,rfl⟩
    rintro I6 m y hp ⟨j',rfl,rfl,g1,rfl,g7⟩ hI6
    unfold F186_l6
    rw [← g7] at he
    have out2:Sort.scanDown (fun x=>ltC cf d'[lo]! x) d' i' m=m→F186_j7 (some ⟨b,0,none⟩) n c lo (.func (.func f) ⟨ga⟩ ⟨gb⟩) i' m false (HA hp0 b 9 sp (ssT en) d') I I6 K:=by
      intro hq2
      rw [hq2] at he
      unfold F186_j7 F186_j5
      rw [ite2_false]
      by_cases hgt:i' > m
      · rw [if_pos hgt] at he
        rw [decide_eq_true (by omega:(i':Int) > (m:Int)),ite2_true]
        unfold F186_j2
        rw [← he] at h
        exact h
      · rw [if_neg hgt] at he
        rw [decide_eq_false (by omega:¬ (i':Int) > (m:Int)),ite2_false]
        refine swapP1 hs' (i:=i') (j:=m) rfl rfl (by omega) (by omega) ?_
        have v1:IntKind.wrap .i64 ((i':Int)+1)=((i'+1:Nat):Int):=wi (by omega) (by omega)
        have v2:IntKind.wrap .i64 ((m:Int)-1)=((m-1:Nat):Int):=wi (by omega) (by omega)
        rw [v1,v2]
        exact hI (m-1+1-(i'+1)) _ _ (by omega) ⟨i'+1,m-1,_,rfl,rfl,by rw [swp_size]; exact hs',by omega,by omega,by omega,rfl,he⟩
    by_cases hle:i'≤m
    · rw [decide_eq_true (by omega:(i':Int)≤(m:Int)),ite2_true]
      refine cmpP1 hc hs' (i:=lo) (j:=m) rfl rfl (by omega) (by omega) ?_
      have hl:decide (cf d'[lo]! d'[m]!<0)=ltC cf d'[lo]! d'[m]! := rfl
      rw [hl]
      obtain ⟨m,rfl⟩:∃ m',m=m'+1:=⟨m-1,by omega⟩
      cases hlt:ltC cf d'[lo]! d'[m+1]!
      · refine out2 ?_
        rw [Sort.scanDown,hlt]
        simp
      · unfold F186_j7
        have v2:IntKind.wrap .i64 (((m+1:Nat):Int)-1)=(m:Int):=wi (by omega) (by omega)
        rw [ite2_true,v2]
        refine hI6 m _ _ (by omega) ⟨m,rfl,rfl,by omega,rfl,?_⟩
        rw [← g7,Sort.scanDown.eq_def _ _ _ (m+1)]
        simp only [hlt,decide_eq_true hle,Bool.and_self,if_true]
    · rw [decide_eq_false (by omega:¬ (i':Int)≤(m:Int)),ite2_false]
      refine out2 ?_
      cases m with
      | zero=>rw [Sort.scanDown]
      | succ m=>rw [Sort.scanDown,decide_eq_false hle]; simp
  by_cases hle:i'≤j
  · rw [decide_eq_true (by omega:(i':Int)≤(j:Int)),ite2_true]
    refine cmpP1 hc hs' (i:=lo) (j:=i') rfl rfl (by omega) (by omega) ?_
    have hl:decide (cf d'[lo]! d'[i']!<0)=ltC cf d'[lo]! d'[i']! := rfl
    rw [hl]
    cases hlt:ltC cf d'[lo]! d'[i']!
    · unfold F186_j9
      have v2:IntKind.wrap .i64 ((i':Int)+1)=((i'+1:Nat):Int):=wi (by omega) (by omega)
      simp only [Bool.not_false,ite2_true,v2]
      refine hI8 (j+2-(i'+1)) _ _ (by omega) ⟨i'+1,rfl,rfl,by omega,by omega,rfl,?_⟩
      rw [← h7,Sort.scanUp.eq_def _ _ _ i']
      simp only [hlt,decide_eq_true hle,Bool.not_false,Bool.and_self,if_true]
    · simp only [Bool.not_true]
      refine out ?_
      rw [Sort.scanUp,hlt]
      simp
  · rw [decide_eq_false (by omega:¬ (i':Int)≤(j:Int)),ite2_false]
    refine out ?_
    rw [Sort.scanUp,decide_eq_false hle]
    simp
end
end Go.Proofs
set_option linter.unusedVariables false
set_option maxRecDepth 20000
namespace Go.Proofs
open Go Go.HL
section
variable {f:FuncId} {ga gb:List Value} {hp0:HP} {b sp n c:Nat} {T:Type} [Inhabited T] {en:T→ByteArray} {cf:T→T→Int}
theorem S187 (hc:CmpOk1 Try.prog f ga gb hp0 b 9 sp n cf en) {d:Array T} {lo hi pv:Nat} {K:Value→HP→Prop} (hs:d.size=n) (hlo:lo<hi) (hf:hi≤n) (hp:pv<n) (hn:n≤1000000000)
    (h:K (.tuple ⟨[.int .i64 ((Sort.partition (ltC cf) d lo hi pv).1:Nat),.bool (Sort.partition (ltC cf) d lo hi pv).2.1]⟩) (HA hp0 b 9 sp (ssT en) (Sort.partition (ltC cf) d lo hi pv).2.2)) :
    CF Try.prog 187 [.slice (some ⟨b,0,none⟩) n c,.int .i64 lo,.int .i64 hi,.int .i64 pv,.func (.func f) ⟨ga⟩ ⟨gb⟩] (HA hp0 b 9 sp (ssT en) d) K:=by
  refine F187_ok _ n c lo hi pv _ _ K ?_
  unfold F187
  refine swapP1 hs (i:=lo) (j:=pv) rfl rfl (by omega) (by omega) ?_
  unfold Sort.partition at h
  have hs':(Sort.swp d lo pv).size=n:=by rw [swp_size]; exact hs
  generalize Sort.swp d lo pv=d' at *
  have w1:IntKind.wrap .i64 ((lo:Int)+1)=((lo+1:Nat):Int):=wi (by omega) (by omega)
  have w2:IntKind.wrap .i64 ((hi:Int)-1)=((hi-1:Nat):Int):=wi (by omega) (by omega)
  rw [w1,w2]
  simp only [] at h
  have hij:lo+1≤hi-1+2:=by omega
  have hjn:hi-1<n:=by omega
  have hli:lo<lo+1:=by omega
  generalize hi0:lo+1=i at *
  generalize hj0:hi-1=j at *
  unfold F187_j1
  have fin:∀ (i' m:Nat),Sort.scanUp (fun x=>ltC cf x d'[lo]!) d' j i=i'→Sort.scanDown (fun x=>!ltC cf x d'[lo]!) d' i' j=m→i≤i'→i'≤j+2→m≤j→F187_j3 (some ⟨b,0,none⟩) n c lo (.func (.func f) ⟨ga⟩ ⟨gb⟩) i' m (HA hp0 b 9 sp (ssT en) d') K:=by
    intro i' m hq hq2 h1 h2 h3
    rw [hq,hq2] at h
    unfold F187_j3
    by_cases hgt:i' > m
    · rw [if_pos hgt] at h
      rw [decide_eq_true (by omega:(i':Int) > (m:Int)),ite2_true]
      refine swapP1 hs' (i:=m) (j:=lo) rfl rfl (by omega) (by omega) ?_
      exact h
    rw [if_neg hgt] at h
    rw [decide_eq_false (by omega:¬ (i':Int) > (m:Int)),ite2_false]
    refine swapP1 hs' (i:=i') (j:=m) rfl rfl (by omega) (by omega) ?_
    have v1:IntKind.wrap .i64 ((i':Int)+1)=((i'+1:Nat):Int):=wi (by omega) (by omega)
    have v2:IntKind.wrap .i64 ((m:Int)-1)=((m-1:Nat):Int):=wi (by omega) (by omega)
    rw [v1,v2]
    have hs2:(Sort.swp d' i' m).size=n:=by rw [swp_size]; exact hs'
    generalize Sort.swp d' i' m=d2 at *
    generalize hR:Sort.partLoop (ltC cf) lo (i'+1) (m-1) d2=R at h
    unfold F187_j4
    refine LoopP.by (J:=fun k (s:Int × Int) hp=>∃ (i j:Nat) (d':Array T),s=((i:Int),(j:Int))∧hp=HA hp0 b 9 sp (ssT en) d'∧d'.size=n∧lo<i∧i≤j+2∧j<n∧k=j+1-i∧Sort.partLoop (ltC cf) lo i j d'=R) ?_
      (n:=m-1+1-(i'+1)) ⟨i'+1,m-1,d2,rfl,rfl,hs2,by omega,by omega,by omega,rfl,hR⟩
    clear hs' hij hjn hli hq hq2 h1 h2 h3 hR
    clear hi0 hj0
    rintro I6 k x hp ⟨i,j,d',rfl,rfl,hs',hli,hij,hj,rfl,he⟩ hI
    unfold F187_l6
    simp only []
    rw [Sort.partLoop_eq] at he
    have fin2:∀ (i' m:Nat),Sort.scanUp (fun x=>ltC cf x d'[lo]!) d' j i=i'→Sort.scanDown (fun x=>!ltC cf x d'[lo]!) d' i' j=m→i≤i'→i'≤j+2→m≤j→F187_j8 (some ⟨b,0,none⟩) n c lo (.func (.func f) ⟨ga⟩ ⟨gb⟩) i' m (HA hp0 b 9 sp (ssT en) d') I6 K:=by
      intro i' m hq hq2 h1 h2 h3
      rw [hq,hq2] at he
      unfold F187_j8
      by_cases hgt:i' > m
      · rw [if_pos hgt] at he
        rw [decide_eq_true (by omega:(i':Int) > (m:Int)),ite2_true]
        unfold F187_j5
        rw [← he] at h
        refine swapP1 hs' (i:=m) (j:=lo) rfl rfl (by omega) (by omega) ?_
        exact h
      · rw [if_neg hgt] at he
        rw [decide_eq_false (by omega:¬ (i':Int) > (m:Int)),ite2_false]
        refine swapP1 hs' (i:=i') (j:=m) rfl rfl (by omega) (by omega) ?_
        have v1:IntKind.wrap .i64 ((i':Int)+1)=((i'+1:Nat):Int):=wi (by omega) (by omega)
        have v2:IntKind.wrap .i64 ((m:Int)-1)=((m-1:Nat):Int):=wi (by omega) (by omega)
        rw [v1,v2]
        exact hI (m-1+1-(i'+1)) _ _ (by omega) ⟨i'+1,m-1,_,rfl,rfl,by rw [swp_size]; exact hs',by omega,by omega,by omega,rfl,he⟩
    clear he
    refine LoopP.by (J:=fun m (y:Int) hp=>∃ (i':Nat),y=i'∧hp=HA hp0 b 9 sp (ssT en) d'∧i≤i'∧i'≤j+2∧m=j+2-i'∧Sort.scanUp (fun x=>ltC cf x d'[lo]!) d' j i'=Sort.scanUp (fun x=>ltC cf x d'[lo]!) d' j i) ?_
      (n:=j+2-i) ⟨i,rfl,rfl,Nat.le_refl _,hij,rfl,rfl⟩
    rintro I11 m y hp ⟨i',rfl,rfl,h1,h2,rfl,h7⟩ hI11
    unfold F187_l11
    have out:Sort.scanUp (fun x=>ltC cf x d'[lo]!) d' j i'=i'→F187_j12 (some ⟨b,0,none⟩) n c lo (.func (.func f) ⟨ga⟩ ⟨gb⟩) i' j false (HA hp0 b 9 sp (ssT en) d') I6 I11 K:=by
      intro hq
      rw [hq] at h7
      unfold F187_j12 F187_j7
      rw [ite2_false]
      refine LoopP.by (J:=fun m (y:Int) hp=>∃ (j':Nat),y=j'∧hp=HA hp0 b 9 sp (ssT en) d'∧j'≤j∧m=j'∧Sort.scanDown (fun x=>!ltC cf x d'[lo]!) d' i' j'=Sort.scanDown (fun x=>!ltC cf x d'[lo]!) d' i' j) ?_
        (n:=j) ⟨j,rfl,rfl,Nat.le_refl _,rfl,rfl⟩
      rintro I9 m y hp ⟨j',rfl,rfl,g1,rfl,g7⟩ hI9
      unfold F187_l9
      have out2:Sort.scanDown (fun x=>!ltC cf x d'[lo]!) d' i' m=m→F187_j10 (some ⟨b,0,none⟩) n c lo (.func (.func f) ⟨ga⟩ ⟨gb⟩) i' m false (HA hp0 b 9 sp (ssT en) d') I6 I9 K:=by
        intro hq2
        rw [hq2] at g7
        unfold F187_j10
        rw [ite2_false]
        exact fin2 i' m h7.symm g7.symm h1 h2 g1
      by_cases hle:i'≤m
      · rw [decide_eq_true (by omega:(i':Int)≤(m:Int)),ite2_true]
        refine cmpP1 hc hs' (i:=m) (j:=lo) rfl rfl (by omega) (by omega) ?_
        have hl:decide (cf d'[m]! d'[lo]!<0)=ltC cf d'[m]! d'[lo]! := rfl
        rw [hl]
        obtain ⟨m,rfl⟩:∃ m',m=m'+1:=⟨m-1,by omega⟩
        cases hlt:ltC cf d'[m+1]! d'[lo]!
        · unfold F187_j10
          have v2:IntKind.wrap .i64 (((m+1:Nat):Int)-1)=(m:Int):=wi (by omega) (by omega)
          simp only [Bool.not_false,ite2_true,v2]
          refine hI9 m _ _ (by omega) ⟨m,rfl,rfl,by omega,rfl,?_⟩
          rw [← g7,Sort.scanDown.eq_def _ _ _ (m+1)]
          simp only [hlt,decide_eq_true hle,Bool.not_false,Bool.and_self,if_true]
        · simp only [Bool.not_true]
          refine out2 ?_
          rw [Sort.scanDown,hlt]
          simp
      · rw [decide_eq_false (by omega:¬ (i':Int)≤(m:Int)),ite2_false]
        refine out2 ?_
        cases m with
        | zero=>rw [Sort.scanDown]
        | succ m=>rw [Sort.scanDown,decide_eq_false hle]; simp
    by_cases hle:i'≤j
    · rw [decide_eq_true (by omega:(i':Int)≤(j:Int)),ite2_true]
      refine cmpP1 hc hs' (i:=i') (j:=lo) rfl rfl (by omega) (by omega) ?_
      have hl:decide (cf d'[i']! d'[lo]!<0)=ltC cf d'[i']! d'[lo]! := rfl
      rw [hl]
      cases hlt:ltC cf d'[i']! d'[lo]!
      · refine out ?_
        rw [Sort.scanUp,hlt]
        simp
      · unfold F187_j12
        have v2:IntKind.wrap .i64 ((i':Int)+1)=((i'+1:Nat):Int):=wi (by omega) (by omega)
        simp only [ite2_true,v2]
        refine hI11 (j+2-(i'+1)) _ _ (by omega) ⟨i'+1,rfl,rfl,by omega,by omega,rfl,?_⟩
        rw [← h7,Sort.scanUp.eq_def _ _ _ i']
        simp only [hlt,decide_eq_true hle,Bool.and_self,if_true]
    · rw [decide_eq_false (by omega:¬ (i':Int)≤(j:Int)),ite2_false]
      refine out ?_
      rw [Sort.scanUp,decide_eq_false hle]
      simp
  refine LoopP.by (J:=fun m (y:Int) hp=>∃ (i':Nat),y=i'∧hp=HA hp0 b 9 sp (ssT en) d'∧i≤i'∧i'≤j+2∧m=j+2-i'∧Sort.scanUp (fun x=>ltC cf x d'[lo]!) d' j i'=Sort.scanUp (fun x=>ltC cf x d'[lo]!) d' j i) ?_
    (n:=j+2-i) ⟨i,rfl,rfl,Nat.le_refl _,hij,rfl,rfl⟩
  rintro I15 m y hp ⟨i',rfl,rfl,h1,h2,rfl,h7⟩ hI15
  unfold F187_l15
  have out:Sort.scanUp (fun x=>ltC cf x d'[lo]!) d' j i'=i'→F187_j16 (some ⟨b,0,none⟩) n c lo (.func (.func f) ⟨ga⟩ ⟨gb⟩) i' j false (HA hp0 b 9 sp (ssT en) d')  I15 K:=by
    intro hq
    rw [hq] at h7
    unfold F187_j16 F187_j2
    rw [ite2_false]
    refine LoopP.by (J:=fun m (y:Int) hp=>∃ (j':Nat),y=j'∧hp=HA hp0 b 9 sp (ssT en) d'∧j'≤j∧m=j'∧Sort.scanDown (fun x=>!ltC cf x d'[lo]!) d' i' j'=Sort.scanDown (fun x=>!ltC cf x d'[lo]!) d' i' j) ?_
      (n:=j) ⟨j,rfl,rfl,Nat.le_refl _,rfl,rfl⟩
    rintro I13 m y hp ⟨j',rfl,rfl,g1,rfl,g7⟩ hI13
    unfold F187_l13
    have out2:Sort.scanDown (fun x=>!ltC cf x d'[lo]!) d' i' m=m→F187_j14 (some ⟨b,0,none⟩) n c lo (.func (.func f) ⟨ga⟩ ⟨gb⟩) i' m false (HA hp0 b 9 sp (ssT en) d')  I13 K:=by
      intro hq2
      rw [hq2] at g7
      unfold F187_j14
      rw [ite2_false]
      exact fin i' m h7.symm g7.symm h1 h2 g1
    by_cases hle:i'≤m
    · rw [decide_eq_true (by omega:(i':Int)≤(m:Int)),ite2_true]
      refine cmpP1 hc hs' (i:=m) (j:=lo) rfl rfl (by omega) (by omega) ?_
      have hl:decide (cf d'[m]! d'[lo]!<0)=ltC cf d'[m]! d'[lo]! := rfl
      rw [hl]
      obtain ⟨m,rfl⟩:∃ m',m=m'+1:=⟨m-1,by omega⟩
      cases hlt:ltC cf d'[m+1]! d'[lo]!
      · unfold F187_j14
        have v2:IntKind.wrap .i64 (((m+1:Nat):Int)-1)=(m:Int):=wi (by omega) (by omega)
        simp only [Bool.not_false,ite2_true,v2]
        refine hI13 m _ _ (by omega) ⟨m,rfl,rfl,by omega,rfl,?_⟩
        rw [← g7,Sort.scanDown.eq_def _ _ _ (m+1)]
        simp only [hlt,decide_eq_true hle,Bool.not_false,Bool.and_self,if_true]
      · simp only [Bool.not_true]
        refine out2 ?_
        rw [Sort.scanDown,hlt]
        simp
    · rw [decide_eq_false (by omega:¬ (i':Int)≤(m:Int)),ite2_false]
      refine out2 ?_
      cases m with
      | zero=>rw [Sort.scanDown]
      | succ m=>rw [Sort.scanDown,decide_eq_false hle]; simp
  by_cases hle:i'≤j
  · rw [decide_eq_true (by omega:(i':Int)≤(j:Int)),ite2_true]
    refine cmpP1 hc hs' (i:=i') (j:=lo) rfl rfl (by omega) (by omega) ?_
    have hl:decide (cf d'[i']! d'[lo]!<0)=ltC cf d'[i']! d'[lo]! := rfl
    rw [hl]
    cases hlt:ltC cf d'[i']! d'[lo]!
    · refine out ?_
      rw [Sort.scanUp,hlt]
      simp
    · unfold F187_j16
      have v2:IntKind.wrap .i64 ((i':Int)+1)=((i'+1:Nat):Int):=wi (by omega) (by omega)
      simp only [ite2_true,v2]
      refine hI15 (j+2-(i'+1)) _ _ (by omega) ⟨i'+1,rfl,rfl,by omega,by omega,rfl,?_⟩
      rw [← h7,Sort.scanUp.eq_def _ _ _ i']
      simp only [hlt,decide_eq_true hle,Bool.and_self,if_true]
  · rw [decide_eq_false (by omega:¬ (i':Int)≤(j:Int)),ite2_false]
    refine out ?_
    rw [Sort.scanUp,decide_eq_false hle]
    simp
end
end Go.Proofs
