/- The heaplet logic, part 40: any operation, by the evaluator. -/
import Derived.Test.YtobechphfppffaaGreatDoorHlEvH
import Derived.Laws.IdiomStrings
set_option linter.unusedVariables false
set_option linter.unusedSimpArgs false
namespace Go.HL
open Go
set_option linter.unusedVariables false
set_option linter.unusedSectionVars false
def CallOk (P:Program) (gl:Nat→Option Nat) (call:FuncId→List RV→St→Option (RV × St)):Prop:=∀ g args st r,call g args st=some r→∀ m hp vs,VL m args vs→SR P m st hp→GL m gl →
  CF P g vs hp fun w hp'=>∃ m':Nm,m.le m'∧VR m' r.1 w∧SR P m' r.2 hp'
section
variable {P:Program} {prv:List Nat} {m:Nm} {pv:EP} {pvc:PV} {st:St} {hp:HP} {ρ:Operand→Option ES} {ρc:Operand→Option SV} {o:Oper} {K:SV→PV→HP→Prop}
def KK (P:Program) (m:Nm) (pv:EP) (r:ES × EP × St) (K:SV→PV→HP→Prop):Prop:=∀ m' s pvc' hp',m.le m'→PLe pv r.2.1→ESR m' r.2.1 r.1 s→PR m' r.2.1 pvc'→SR P m' r.2.2 hp'→K s pvc' hp'
theorem sxStore {r:ES × EP × St} (hr:RR m pv ρ ρc) (hpv:PR m pv pvc) (hs:SR P m st hp) {t:TypeId} {x v:Operand} (ho:o.op=.store t x v) (h:exStore P prv ρ t x v pv st=some r) (hK:KK P m pv r K):execF P prv ρc o pvc hp K:=by
  simp only [execF,ho]
  simp only [exStore,Option.bind_eq_some_iff] at h
  obtain ⟨sv,h1,vx,h2,h⟩:=h
  obtain ⟨s,e1,hsr⟩:=hr x sv h1
  obtain ⟨w,e2,hw⟩:=valE_sound hr h2
  refine sv_in e1 (vv_in e2 ?_)
  split at h
  · rename_i k g off hf hx
    simp only [Option.bind_eq_some_iff] at h
    obtain ⟨c,hc,h⟩:=h
    rw [guardE_some] at h
    obtain ⟨hb,h⟩:=h
    cases h
    rw [pvGet_some] at hc
    obtain ⟨T,cs⟩:=c
    obtain ⟨vs,g1,g2⟩:=hpv.get hc
    simp only [Bool.and_eq_true] at hb
    have hlt:=blt_lt hb.2
    rw [llen_eq,g2.len] at hlt
    cases s with
    | val _=>exact hsr.elim
    | priv k' off'=>
      obtain ⟨rfl,rfl,_⟩:=hsr
      rw [hf,hx]
      simp only [g1]
      rw [if_pos (oneE_one hb.1 hw),if_pos hlt]
      refine hK m _ _ _ (Nm.le_refl _) (PLe.set hc) (VR.rfl' _) (hpv.set ?_) hs
      rw [lset_eq]; exact g2.set hw off
  · rename_i i off hf hx
    split at h
    · rename_i T cs sp hi
      rw [guardE_some] at h
      obtain ⟨hb,h⟩:=h
      cases h
      simp only [Bool.and_eq_true] at hb
      cases s with
      | priv _ _=>exact hsr.elim
      | val w'=>
        obtain ⟨b,hb',rfl⟩:=VR.p hsr
        obtain ⟨vs,n,he,hvs,_,_,hmk⟩:=(hs.ent i _ b hi hb').row
        have hlt:=blt_lt hb.2
        rw [llen_eq,hvs.len] at hlt
        rw [hf,hx]
        simp only [ptrN_some]
        rw [if_pos (oneE_one hb.1 hw)]
        refine HP.st_at he hlt ?_
        exact hK m _ _ _ (Nm.le_refl _) (PLe.refl _) (VR.rfl' _) hpv (hs.upd hi hb' rfl (hmk m _ _ (by rw [lset_eq]; exact hvs.set hw off) (by simp)))
    · cases h
  · rename_i k g off hf hx
    simp only [Option.bind_eq_some_iff] at h
    obtain ⟨z,hz,us,hus,c,hc,h⟩:=h
    rw [guardE_some] at h
    obtain ⟨hb,h⟩:=h
    cases h
    rw [pvGet_some] at hc
    obtain ⟨T,cs⟩:=c
    obtain ⟨vs,g1,g2⟩:=hpv.get hc
    obtain ⟨ws,rfl,hws⟩:=aggE_VR hus hw
    simp only [Bool.and_eq_true,Nat.ble_eq] at hb
    obtain ⟨⟨b1,b2⟩,b3⟩:=hb
    have b1:=Nat.eq_of_beq_eq_true b1
    have b3':off+ws.length≤vs.length:=by rw [llen_eq,llen_eq,hws.len,g2.len] at b3; exact b3
    rw [llen_eq,hws.len] at b1
    cases s with
    | val _=>exact hsr.elim
    | priv k' off'=>
      obtain ⟨rfl,rfl,_⟩:=hsr
      rw [hf,hx]
      refine sizeT_in hz ?_
      simp only [aggV_agg,g1]
      rw [if_pos b1,if_pos (all_one b2 hws),if_pos b3']
      exact hK m _ _ _ (Nm.le_refl _) (PLe.set hc) (VR.rfl' _) (hpv.set (spliceE_VL g2 hws b3)) hs
  · rename_i i off hf hx
    simp only [Option.bind_eq_some_iff] at h
    obtain ⟨z,hz,us,hus,h⟩:=h
    split at h
    · rename_i T cs sp hi
      rw [guardE_some] at h
      obtain ⟨hb,h⟩:=h
      cases h
      obtain ⟨ws,rfl,hws⟩:=aggE_VR hus hw
      simp only [Bool.and_eq_true,Nat.ble_eq] at hb
      obtain ⟨⟨b1,b2⟩,b3⟩:=hb
      have b1:=Nat.eq_of_beq_eq_true b1
      rw [llen_eq,hws.len] at b1
      cases s with
      | priv _ _=>exact hsr.elim
      | val w'=>
        obtain ⟨b,hb',rfl⟩:=VR.p hsr
        obtain ⟨vs,n,he,hvs,_,_,hmk⟩:=(hs.ent i _ b hi hb').row
        have b3':off+ws.length≤vs.length:=by rw [llen_eq,llen_eq,hws.len,hvs.len] at b3; exact b3
        rw [hf,hx]
        refine sizeT_in hz ?_
        simp only [aggV_agg,ptrN_some]
        refine ⟨b1,HP.stN_at he b3' (all_one b2 hws) ?_⟩
        exact hK m _ _ _ (Nm.le_refl _) (PLe.refl _) (VR.rfl' _) hpv (hs.upd hi hb' rfl (hmk m _ _ (spliceE_VL hvs hws b3) (length_splice ..)))
    · cases h
  · cases h
theorem sxAlloc {r:ES × EP × St} {fr:Option Nat} (hpv:PR m pv pvc) (hs:SR P m st hp) {t:TypeId} (ho:o.op=.alloc t) (h:exAlloc P prv fr o t pv st=some r) (hK:KK P m pv r K):execF P prv ρc o pvc hp K:=by
  simp only [execF,ho]
  simp only [exAlloc,Option.bind_eq_some_iff] at h
  obtain ⟨z,hz,h⟩:=h
  refine zeroT_in hz ?_
  split at h
  · rename_i d hd
    rw [hd]
    split at h
    · rename_i hp'
      simp only [hp',if_true]
      simp only [Option.bind_eq_some_iff] at h
      obtain ⟨⟨g,pv1⟩,hn,h⟩:=h
      cases h
      obtain ⟨a1,a2,a3,a4⟩:=pvNew_sound hpv (VL.vals z) hn
      rw [a1]
      exact hK m _ _ _ (Nm.le_refl _) a3 ⟨rfl,rfl,_,a4⟩ a2 hs
    · rename_i hp'
      simp only [hp',Bool.false_eq_true,if_false]
      simp only [Option.bind_eq_some_iff] at h
      obtain ⟨stA,hn,h⟩:=h
      cases h
      intro b hb
      obtain ⟨m',hle,hm',hsr⟩:=hs.new hn (b:=(b,0)) hb (e:=.cells t z 0) (fun m' hle hm'=>⟨z,rfl,VL.vals z⟩)
      exact hK m' _ _ _ hle (PLe.refl _) (VR.mk_p hm') (hpv.mono hle) hsr
  · cases h
theorem sxBox {r:ES × EP × St} {fr:Option Nat} (hr:RR m pv ρ ρc) (hpv:PR m pv pvc) (hs:SR P m st hp) {t:TypeId} {x:Operand} (ho:o.op=.box t x) (h:exBox prv ρ fr o t x pv st=some r) (hK:KK P m pv r K):execF P prv ρc o pvc hp K:=by
  simp only [execF,ho]
  simp only [exBox,Option.bind_eq_some_iff] at h
  obtain ⟨v,hv,h⟩:=h
  obtain ⟨w,e1,hw⟩:=valE_sound hr hv
  have hcl:=cellsE_VL hw
  refine vv_in e1 ?_
  split at h
  · rename_i d hd
    rw [hd]
    split at h
    · rename_i hp'
      simp only [hp',if_true]
      simp only [Option.bind_eq_some_iff] at h
      obtain ⟨⟨g,pv1⟩,hn,h⟩:=h
      cases h
      obtain ⟨a1,a2,a3,a4⟩:=pvNew_sound hpv hcl hn
      rw [a1]
      exact hK m _ _ _ (Nm.le_refl _) a3 ⟨rfl,rfl,_,a4⟩ a2 hs
    · rename_i hp'
      simp only [hp',Bool.false_eq_true,if_false]
      simp only [Option.bind_eq_some_iff] at h
      obtain ⟨stA,hn,h⟩:=h
      cases h
      intro b hb
      obtain ⟨m',hle,hm',hsr⟩:=hs.new hn (b:=(b,0)) hb (e:=.cells t w.cells.toList 0) (fun m' hle hm'=>⟨_,rfl,hcl.mono hle⟩)
      exact hK m' _ _ _ hle (PLe.refl _) (VR.mk_p hm') (hpv.mono hle) hsr
  · cases h
theorem sxBuildSlice {r:ES × EP × St} {fr:Option Nat} (hr:RR m pv ρ ρc) (hpv:PR m pv pvc) (hs:SR P m st hp) {t:TypeId} {n:Nat} {parts:Array (Nat × Operand)} (ho:o.op=.buildSlice t n parts) (h:exBuildSlice P ρ fr t n parts pv st=some r)
    (hK:KK P m pv r K):execF P prv ρc o pvc hp K:=by
  simp only [execF,ho]
  simp only [exBuildSlice,Option.bind_eq_some_iff] at h
  obtain ⟨vs,hvs,⟨v,stA⟩,hb,h⟩:=h
  cases h
  obtain ⟨ws,hws,hk⟩:=partsE_sound hr hvs
  refine hk _ ?_
  unfold buildSE at hb
  unfold buildSF
  split at hb
  · rename_i e hu
    rw [hu]
    simp only [Option.bind_eq_some_iff] at hb
    obtain ⟨z,hz,hb⟩:=hb
    rw [guardE_some] at hb
    obtain ⟨hle,hb⟩:=hb
    have hle:=Nat.le_of_ble_eq_true hle
    simp only [Option.bind_eq_some_iff] at hb
    obtain ⟨zs,hzs,cs,hcs,stB,hn,hb⟩:=hb
    cases hb
    refine sizeT_in hz ?_
    rw [if_neg (by omega)]
    refine zeroT_in hzs (fillE_sound hcs hws (VL.vals _) (by simp [zerosL]) fun us hus=>?_)
    intro b hb
    obtain ⟨m',hle',hm',hsr⟩:=hs.new hn (b:=(b,0)) hb (e:=.cells e us 0) (fun m' hle hm'=>⟨_,rfl,hus.mono hle⟩)
    exact hK m' _ _ _ hle' (PLe.refl _) (VR.mk_s (c:=.kn n) hm' (Nat.le_refl _)) (hpv.mono hle') hsr
  · cases hb
theorem VL.repl {z:List Value}:∀ n:Nat,VL m (List.replicate n (HL.vals z)).flatten (List.replicate n z).flatten
  | 0=>rfl
  | n+1=>by
    rw [List.replicate_succ,List.replicate_succ,List.flatten_cons,List.flatten_cons]
    exact (VL.vals z).app (VL.repl n)
theorem sxMakeSlice {r:ES × EP × St} {fr:Option Nat} (hr:RR m pv ρ ρc) (hpv:PR m pv pvc) (hs:SR P m st hp) {t:TypeId} {l c:Operand} (ho:o.op=.makeSlice t l c) (h:exMakeSlice P ρ fr t l c pv st=some r)
    (hK:KK P m pv r K):execF P prv ρc o pvc hp K:=by
  simp only [execF,ho]
  simp only [exMakeSlice,Option.bind_eq_some_iff] at h
  obtain ⟨lv,hl,cv,hc,h⟩:=h
  obtain ⟨w,e1,hw⟩:=valE_sound hr hl
  obtain ⟨u,e2,hu⟩:=valE_sound hr hc
  refine vv_in e1 (vv_in e2 ?_)
  split at h
  · rename_i n n'
    rw [guardE_some] at h
    obtain ⟨hnn,h⟩:=h
    have hnn:=Nat.eq_of_beq_eq_true hnn
    subst hnn
    have:=hw.vv; subst this
    have:=hu.vv; subst this
    simp only [Option.bind_eq_some_iff] at h
    obtain ⟨⟨e,i,z⟩,hel,h⟩:=h
    dsimp only at h
    rw [guardE_some] at h
    obtain ⟨hb,h⟩:=h
    simp only [Bool.and_eq_true,Nat.ble_eq] at hb
    simp only [Option.bind_eq_some_iff] at h
    obtain ⟨stA,hn,h⟩:=h
    cases h
    obtain ⟨ht,hi,zv,hz,hzc,hzl,hzs,hpos⟩:=elemsOf_some hel
    refine opS_make ht hi hz hzc hzl hpos hb.1 hb.2 fun b hbn=>?_
    obtain ⟨m',hle',hm',hsr⟩:=hs.new hn (b:=(b,0)) hbn (e:=.cells e (List.replicate n z).flatten 0) (fun m' hle hm'=>⟨_,rfl,VL.repl n⟩)
    exact hK m' _ _ _ hle' (PLe.refl _) (VR.mk_s (c:=.kn n) hm' (Nat.le_refl _)) (hpv.mono hle') hsr
  · cases h
theorem sxMakeMap {r:ES × EP × St} {fr:Option Nat} (hpv:PR m pv pvc) (hs:SR P m st hp) {t:TypeId} (ho:o.op=.makeMap t none) (h:exMakeMap P fr t pv st=some r) (hK:KK P m pv r K):execF P prv ρc o pvc hp K:=by
  simp only [execF,ho]
  unfold exMakeMap at h
  split at h
  · simp only [Option.bind_eq_some_iff] at h
    obtain ⟨stA,hn,h⟩:=h
    cases h
    intro b hbn
    obtain ⟨m',hle',hm',hsr⟩:=hs.new hn (b:=(b,0)) hbn (e:=.obj (.map #[] 0)) (fun m' hle hm'=>⟨_,rfl,.nil,by simp,by simp,by simp⟩)
    exact hK m' _ _ _ hle' (PLe.refl _) (VR.mk_m hm') (hpv.mono hle') hsr
  · cases h
theorem zeroOf_run {t:TypeId} {z:Value} (h:zeroOf P t=some z) (w:World):(zeroValue t).run P w=.ok z w:=by
  unfold zeroOf at h
  split at h
  · rename_i i hi; simp [zeroValue,typeInfo,hi,h]
  · cases h
theorem sxMapUpdate {r:ES × EP × St} (hr:RR m pv ρ ρc) (hpv:PR m pv pvc) (hs:SR P m st hp) {t:TypeId} {mo k x:Operand} (ho:o.op=.mapUpdate t mo k x∨o.op=.insert t mo k x) (h:exMapUpdate P ρ t mo k x pv st=some r)
    (hK:KK P m pv r K):execF P prv ρc o pvc hp K:=by
  have key:vv (ρc mo) fun m=>vv (ρc k) fun k=>vv (ρc x) fun x=>opS P (Instr.mapUpdate t m k x) hp fun _ hp=>K (.val undef) pvc hp:=by
    simp only [exMapUpdate,Option.bind_eq_some_iff] at h
    obtain ⟨mv,h1,kv,h2,xv,h3,h⟩:=h
    obtain ⟨mw,e1,hm⟩:=valE_sound hr h1
    obtain ⟨kw,e2,hk⟩:=valE_sound hr h2
    obtain ⟨xw,e3,hx⟩:=valE_sound hr h3
    refine vv_in e1 (vv_in e2 (vv_in e3 ?_))
    split at h
    · rename_i kt et i k hu
      rw [guardE_some] at h
      obtain ⟨hko,h⟩:=h
      split at h
      · rename_i kt' l c hi
        rw [guardE_some] at h
        obtain ⟨he,h⟩:=h
        have he:=Nat.eq_of_beq_eq_true he
        subst he
        cases h
        obtain ⟨b,hb,rfl⟩:=hm.mm
        have:=hk.vv; subst this
        refine opS_mapUpdateE hu (hs.ent i _ b hi hb) hko hx fun e hse=>?_
        exact hK m _ _ _ (Nm.le_refl _) (PLe.refl _) (VR.rfl' _) hpv (hs.upd hi hb rfl hse)
      · cases h
    · cases h
  rcases ho with ho | ho <;> simp only [execF,ho] <;> exact key
theorem sxMapEntry {r:ES × EP × St} (hr:RR m pv ρ ρc) (hpv:PR m pv pvc) (hs:SR P m st hp) {t:TypeId} {mo k:Operand} (ho:o.op=.mapEntry t mo k) (h:exMapEntry P ρ t mo k pv st=some r) (hK:KK P m pv r K):execF P prv ρc o pvc hp K:=by
  simp only [execF,ho]
  simp only [exMapEntry,Option.bind_eq_some_iff] at h
  obtain ⟨mv,h1,kv,h2,h⟩:=h
  obtain ⟨mw,e1,hm⟩:=valE_sound hr h1
  obtain ⟨kw,e2,hk⟩:=valE_sound hr h2
  refine vv_in e1 (vv_in e2 ?_)
  split at h
  · rename_i kt et i k hu
    rw [guardE_some] at h
    obtain ⟨hko,h⟩:=h
    split at h
    · rename_i kt' l c hi
      rw [guardE_some] at h
      obtain ⟨he,h⟩:=h
      have he:=Nat.eq_of_beq_eq_true he
      subst he
      obtain ⟨b,hb,rfl⟩:=hm.mm
      have:=hk.vv; subst this
      have pair:∀ {x:RV} {w:Value} {n:Nat},VR m x w→VR m (mkTup [x,.v (.int .i64 n)]) (.tuple #[w,.int .i64 (n:Nat)]):=fun hx=>mkTup_VR (VL_iff.2 (.cons hx (.cons (VR.rfl' _) .nil)))
      simp only [Option.bind_eq_some_iff] at h
      obtain ⟨z,hz,h⟩:=h
      split at h
      · rename_i v b' hfk
        cases h
        refine opS_mapEntryE hu (hs.ent i _ b hi hb) hko (zeroOf_run hz) ?_
        rw [hfk]
        intro w hw
        exact hK m _ _ _ (Nm.le_refl _) (PLe.refl _) (pair hw) hpv hs
      · rename_i hfk
        cases h
        refine opS_mapEntryE hu (hs.ent i _ b hi hb) hko (zeroOf_run hz) ?_
        rw [hfk]
        intro e hse
        exact hK m _ _ _ (Nm.le_refl _) (PLe.refl _) (pair (VR.rfl' _)) hpv (hs.upd hi hb rfl hse)
    · cases h
  · cases h
theorem sxEntryStore {r:ES × EP × St} (hr:RR m pv ρ ρc) (hpv:PR m pv pvc) (hs:SR P m st hp) {t:TypeId} {mo s x:Operand} (ho:o.op=.entryStore t mo s x) (h:exEntryStore ρ mo s x pv st=some r) (hK:KK P m pv r K):execF P prv ρc o pvc hp K:=by
  simp only [execF,ho]
  simp only [exEntryStore,Option.bind_eq_some_iff] at h
  obtain ⟨mv,h1,sv',h2,xv,h3,h⟩:=h
  obtain ⟨mw,e1,hm⟩:=valE_sound hr h1
  obtain ⟨kw,e2,hk⟩:=valE_sound hr h2
  obtain ⟨xw,e3,hx⟩:=valE_sound hr h3
  refine vv_in e1 (vv_in e2 (vv_in e3 ?_))
  split at h
  · rename_i i k b'
    split at h
    · rename_i kt' l c hi
      simp only [Option.bind_eq_some_iff] at h
      obtain ⟨l',hl,h⟩:=h
      cases h
      obtain ⟨b,hb,rfl⟩:=hm.mm
      have:=hk.vv; subst this
      refine opS_entryStoreE (hs.ent i _ b hi hb) hx hl fun e hse=>?_
      exact hK m _ _ _ (Nm.le_refl _) (PLe.refl _) (VR.rfl' _) hpv (hs.upd hi hb rfl hse)
    · cases h
  · cases h
theorem sxLookup {es:ES} (hr:RR m pv ρ ρc) (hs:SR P m st hp) {t:TypeId} {mo k:Operand} {ok:Bool} (ho:o.op=.lookup t mo k ok) (h:exLookup P ρ o t mo k ok pv st=some es) (hK:∀ s,ESR m pv es s→K s pvc hp):execF P prv ρc o pvc hp K:=by
  simp only [execF,ho]
  simp only [exLookup,Option.bind_eq_some_iff] at h
  obtain ⟨mv,h1,kv,h2,h⟩:=h
  obtain ⟨mw,e1,hm⟩:=valE_sound hr h1
  obtain ⟨kw,e2,hk⟩:=valE_sound hr h2
  refine vv_in e1 (vv_in e2 ?_)
  split at h
  · rename_i kt et kx hu
    rw [guardE_some] at h
    obtain ⟨hko,h⟩:=h
    simp only [Option.bind_eq_some_iff] at h
    obtain ⟨q,hq,z,hz,h⟩:=h
    have:=hk.vv; subst this
    have fin:∀ (w:Value),VR m (q.getD (.v z)) w→elim P o.type (if ok=true then .tuple ⟨[w,.bool q.isSome]⟩ else w) fun v=>K (.val v) pvc hp:=by
      intro w hw
      cases ok with
      | true=>
        obtain ⟨rfl,hel⟩:=okE_some h
        have:VR m (mkTup [q.getD (.v z),.v (.bool q.isSome)]) (.tuple ⟨[w,.bool q.isSome]⟩):=mkTup_VR (VL_iff.2 (.cons hw (.cons (VR.rfl' _) .nil)))
        exact elimE_sound hel this (hK _ this)
      | false=>
        obtain ⟨rfl,hel⟩:=okE_some h
        exact elimE_sound hel hw (hK (.val _) hw)
    unfold atE at hq
    split at hq
    · rename_i i
      split at hq
      · rename_i kt' l c hi
        rw [guardE_some] at hq
        obtain ⟨he,hq⟩:=hq
        have he:=Nat.eq_of_beq_eq_true he
        subst he
        cases hq
        obtain ⟨b,hb,rfl⟩:=hm.mm
        obtain ⟨es',g1,g2,g3,g4,g5⟩:=hs.ent i _ b hi hb
        refine rdS_lookupE hu g1 g2 g5 hko (zeroOf_run hz) fun v hv=>?_
        cases hfk:findK kw l with
        | none=>
          rw [hfk] at hv fin
          have hv:v=z:=hv
          subst hv
          exact fin _ (VR.rfl' _)
        | some qq=>
          obtain ⟨x,b'⟩:=qq
          rw [hfk] at hv fin
          exact fin v hv
      · cases hq
    · cases hq
      have:=hm.vv; subst this
      exact rdS_lookupN hu hko (zeroOf_run hz) (fin _ (VR.rfl' _))
    · cases hq
  · cases h
theorem sxRange {r:ES × EP × St} {fr:Option Nat} (hr:RR m pv ρ ρc) (hpv:PR m pv pvc) (hs:SR P m st hp) {t:TypeId} {x:Operand} (ho:o.op=.range t x) (h:exRange P ρ fr t x pv st=some r) (hK:KK P m pv r K):execF P prv ρc o pvc hp K:=by
  simp only [execF,ho]
  simp only [exRange,Option.bind_eq_some_iff] at h
  obtain ⟨v,hv,h⟩:=h
  obtain ⟨w,e1,hw⟩:=valE_sound hr hv
  refine vv_in e1 ?_
  split at h
  · rename_i s hu
    simp only [Option.bind_eq_some_iff] at h
    obtain ⟨stA,hn,h⟩:=h
    cases h
    have:=hw.vv; subst this
    refine opS_rangeS hu fun b hb=>?_
    obtain ⟨m',hle',hm',hsr⟩:=hs.new hn (b:=(b,0)) hb (e:=.obj (.stringIter s 0)) (fun m' hle hm'=>rfl)
    exact hK m' _ _ _ hle' (PLe.refl _) (VR.mk_p hm') (hpv.mono hle') hsr
  · cases h
theorem sxNext {r:ES × EP × St} (hr:RR m pv ρ ρc) (hpv:PR m pv pvc) (hs:SR P m st hp) {x:Operand} (ho:o.op=.next x true) (h:exNext ρ x pv st=some r) (hK:KK P m pv r K):execF P prv ρc o pvc hp K:=by
  simp only [execF,ho]
  simp only [exNext,Option.bind_eq_some_iff] at h
  obtain ⟨v,hv,h⟩:=h
  obtain ⟨w,e1,hw⟩:=valE_sound hr hv
  refine vv_in e1 ?_
  split at h
  · rename_i i
    split at h
    · rename_i s pos hi
      obtain ⟨b,hb,rfl⟩:=hw.p
      have he:hp b.1=.obj (.stringIter s pos):=hs.ent i _ b hi hb
      cases hlt:Nat.blt pos (strLen s) with
      | true=>
        rw [hlt] at h
        cases h
        rw [blt_eq,strLen_eq,decide_eq_true_eq] at hlt
        exact opS_nextS he (fun hn=>absurd hlt hn) fun _=>hK m _ _ _ (Nm.le_refl _) (PLe.refl _) (VR.rfl' _) hpv (hs.upd (se':=.obj (.stringIter s (pos+(Utf8.decode s pos).2))) hi hb rfl rfl)
      | false=>
        rw [hlt] at h
        cases h
        rw [blt_eq,strLen_eq,decide_eq_false_iff_not] at hlt
        exact opS_nextS he (fun _=>hK m _ _ _ (Nm.le_refl _) (PLe.refl _) (VR.rfl' _) hpv hs) fun hn=>absurd hn hlt
    · cases h
  · cases h
theorem bytesE_some:∀ {vs:List Value} {bs:List UInt8},bytesE vs=some bs→∃ ns:List Int,vs=ns.map (Value.int .u8)∧bs=ns.map u8
  | [],bs,h=>by cases h; exact ⟨[],rfl,rfl⟩
  | v::vs,bs,h=>by
    cases v with
    | int k n=>
      cases k with
      | u8=>
        simp only [bytesE,Option.bind_eq_some_iff] at h
        obtain ⟨r,h1,h2⟩:=h
        cases h2
        obtain ⟨ns,rfl,rfl⟩:=bytesE_some h1
        exact ⟨n::ns,rfl,rfl⟩
      | _=>simp [bytesE] at h
    | _=>simp [bytesE] at h
theorem VL.bytes:∀ l:List UInt8,VL m (lmap (fun b:UInt8=>RV.v (.int .u8 b.toNat)) l) (l.map fun b=>Value.int .u8 b.toNat)
  | []=>rfl
  | x::l=>by
    have:=VL.bytes l
    rw [lmap_eq] at this ⊢
    exact VL_iff.2 (.cons (VR.rfl' _) (VL_iff.1 this))
theorem sxConvert {r:ES × EP × St} {fr:Option Nat} (hr:RR m pv ρ ρc) (hpv:PR m pv pvc) (hs:SR P m st hp) {s d:TypeId} {x:Operand} (ho:o.op=.convert s d x) (h:exConvert P ρ fr s d x pv st=some r) (hK:KK P m pv r K):execF P prv ρc o pvc hp K:=by
  simp only [execF,ho]
  simp only [exConvert,Option.bind_eq_some_iff] at h
  obtain ⟨v,hv,h⟩:=h
  obtain ⟨w,e1,hw⟩:=valE_sound hr hv
  refine vv_in e1 ?_
  split at h
  · rename_i e hus hud
    rw [hus,hud]
    split at h
    · rename_i i off n cap
      rw [guardE_some] at h
      obtain ⟨he,h⟩:=h
      have he:P.underlying e=some (.int .u8):=by
        split at he
        · assumption
        · cases he
      simp only [Option.bind_eq_some_iff] at h
      obtain ⟨cs,hcs,us,hus',vs,hvs,bs,hbs,h⟩:=h
      cases h
      obtain ⟨b,hb,hl,rfl⟩:=hw.s
      obtain ⟨ws,hws,a1,a2⟩:=hs.cells hcs hb
      obtain ⟨ys,hys,hyr⟩:=cutE_VL hus' hws
      have:=pureL_eq hvs hyr; subst this
      obtain ⟨ns,rfl,rfl⟩:=bytesE_some hbs
      have hlen:=cellsN_len hys
      rw [List.length_map] at hlen
      refine rdS_bytes hus he hud hlen (a2 _ _ _ hys) ?_
      exact hK m _ _ _ (Nm.le_refl _) (PLe.refl _) (VR.rfl' _) hpv hs
    · cases h
  · rename_i e hus hud
    rw [hus,hud]
    split at h
    · rename_i bs
      rw [guardE_some] at h
      obtain ⟨he,h⟩:=h
      have he:P.underlying e=some (.int .u8):=by
        split at he
        · assumption
        · cases he
      simp only [Option.bind_eq_some_iff] at h
      obtain ⟨stA,hn,h⟩:=h
      cases h
      have:=hw.vv; subst this
      intro F w0 ww hf
      have hfresh:=hf.fresh
      refine ⟨_,_,_,run_bytes_of_string ww s d e bs hus hud he,hf.drew.alloc _ (e:=.obj (.cells (bytesRow bs (grownCap ww bs.size 0 e)) e ((bytesRow bs (grownCap ww bs.size 0 e)).size,(bytesRow bs (grownCap ww bs.size 0 e)).size+1))) rfl,?_⟩
      obtain ⟨m',hle',hm',hsr⟩:=hs.new hn (b:=(ww.heap.size,grownCap ww bs.size 0 e)) hfresh (e:=.obj (.cells (bytesRow bs (grownCap ww bs.size 0 e)) e ((bytesRow bs (grownCap ww bs.size 0 e)).size,(bytesRow bs (grownCap ww bs.size 0 e)).size+1)))
        (fun m' hle hm'=>⟨_,_,_,_,_,rfl,by unfold bytesRow; rw [Array.toList_append,Array.toList_map],VL.bytes _⟩)
      have hval:=VR.mk_s (off:=0) (len:=strLen bs) (c:=.un 0) hm' (by simp only [capOf,strLen_eq]; exact grownCap_ge ..)
      show slcV _ _
      rw [slcV_slice]
      refine hK m' _ _ _ hle' (PLe.refl _) ?_ (hpv.mono hle') hsr
      have e2:capOf (grownCap ww bs.size 0 e) (.un 0)=grownCap ww bs.size 0 e:=Nat.sub_zero _
      simp only [e2,strLen_eq] at hval
      rw [strLen_eq]
      exact hval
    · cases h
  · rename_i h1 h2
    split at h
    · simp only [Option.bind_eq_some_iff] at h
      obtain ⟨y,hy,h⟩:=h
      cases h
      have:=hw.vv; subst this
      obtain ⟨u,rfl,hu⟩:=semVE_some hy
      have key:=semE_semV (c:=fun v=>K (.val v) pvc hp) hu (hK m _ _ _ (Nm.le_refl _) (PLe.refl _) (VR.rfl' _) hpv hs)
      split
      · rename_i e3 e4; exact absurd e4 (fun e4=>h1 _ e3 e4)
      · rename_i e3 e4; exact absurd e4 (fun e4=>h2 _ e3 e4)
      · exact key
    · cases h
theorem mthF_in {t:TypeId} {name:String} {g:FuncId} {c:FuncId→Prop} (h:mthE P t name=some g) (hc:c g):mthF P t name c:=by
  unfold mthE at h
  unfold mthF
  split at h
  · rename_i i hi
    rw [hi]
    split at h
    · rename_i mm hm
      simp only [hm]
      split at h
      · rename_i e1 e2 e3
        rw [e1,e2,e3]; cases h; exact hc
      · cases h
      · rename_i hn e1 e2 e3
        rw [e1,e2,e3]
        cases h
        split <;> first | exact hc | (rename_i a1 a2 a3; cases a2; done) | skip
        all_goals first | (rename_i a1 a2 a3; cases a2; cases a3; exact hc) | (simp_all; done)
      · cases h
    · cases h
  · cases h
theorem sxCall {r:ES × EP × St} {fr:Option Nat} {gl:Nat→Option Nat} {call:FuncId→List RV→St→Option (RV × St)} (hcall:CallOk P gl call) (hgl:GL m gl) (hr:RR m pv ρ ρc) (hpv:PR m pv pvc) (hs:SR P m st hp) {c:Call} (ho:o.op=.call c)
    (h:exCall P call ρ fr o c pv st=some r) (hK:KK P m pv r K):execF P prv ρc o pvc hp K:=by
  simp only [execF,ho]
  unfold exCall at h
  split at h
  · rename_i b hcl
    rw [hcl]
    simp only [Option.bind_eq_some_iff] at h
    obtain ⟨vs,hvs,⟨v,stA⟩,hb,h⟩:=h
    cases h
    obtain ⟨ws,e1,hws⟩:=valsE_sound hr hvs
    refine vvs_in e1 (builtinE_sound hs hb hws ?_)
    intro m' v' hp' hle hv' hsr
    exact hK m' _ _ _ hle (PLe.refl _) hv' (hpv.mono hle) hsr
  · rename_i f hcl
    rw [hcl]
    simp only [Option.bind_eq_some_iff] at h
    obtain ⟨fv,hfv,vs,hvs,h⟩:=h
    obtain ⟨fw,e0,hfw⟩:=valE_sound hr hfv
    obtain ⟨ws,e1,hws⟩:=valsE_sound hr hvs
    refine vv_in e0 (vvs_in e1 ?_)
    split at h
    · rename_i g a b
      simp only [Option.bind_eq_some_iff] at h
      obtain ⟨⟨v,stA⟩,hb,y,hy,h⟩:=h
      cases h
      obtain ⟨rfl,hel⟩:=okE_some hy
      obtain ⟨a',b',ha,hb',rfl⟩:=hfw.f
      rw [fnV_mk]
      rw [lapp_eq,lapp_eq] at hb
      refine CF_mono (hcall g _ st _ hb m hp (a'++ws++b') (by rw [List.append_assoc]; exact ha.app (hws.app hb')) hs hgl) fun w hp' hw=>?_
      obtain ⟨m',hle,hv,hsr⟩:=hw
      exact elimE_sound hel hv (hK m' (.val _) _ _ hle (PLe.refl _) hv (hpv.mono hle) hsr)
    · cases h
  · rename_i r' name hcl
    rw [hcl]
    simp only [Option.bind_eq_some_iff] at h
    obtain ⟨fv,hfv,vs,hvs,h⟩:=h
    obtain ⟨fw,e0,hfw⟩:=valE_sound hr hfv
    obtain ⟨ws,e1,hws⟩:=valsE_sound hr hvs
    refine vv_in e0 (vvs_in e1 ?_)
    split at h
    · rename_i t x
      simp only [Option.bind_eq_some_iff] at h
      obtain ⟨g,hg,⟨v,stA⟩,hb,y,hy,h⟩:=h
      cases h
      obtain ⟨rfl,hel⟩:=okE_some hy
      obtain ⟨u,hu,rfl⟩:=hfw.ifc
      rw [ifaceV_mk]
      refine mthF_in hg ?_
      refine CF_mono (hcall g _ st _ hb m hp (u::ws) (VL_iff.2 (.cons hu (VL_iff.1 hws))) hs hgl) fun w hp' hw=>?_
      obtain ⟨m',hle,hv,hsr⟩:=hw
      exact elimE_sound hel hv (hK m' (.val _) _ _ hle (PLe.refl _) hv (hpv.mono hle) hsr)
    · cases h
theorem execE_sound {R:Type} {k:ES→EP→St→Option R} {r:R} {fr:Option Nat} {gl:Nat→Option Nat} {call:FuncId→List RV→St→Option (RV × St)} (hcall:CallOk P gl call) (hgl:GL m gl) (hr:RR m pv ρ ρc) (hpv:PR m pv pvc) (hs:SR P m st hp)
    (h:execE P prv call ρ fr o pv st k=some r)
    (hK:∀ m' es pv' st' s pvc' hp',m.le m'→PLe pv pv'→ESR m' pv' es s→PR m' pv' pvc'→SR P m' st' hp'→k es pv' st'=some r→K s pvc' hp'):execF P prv ρc o pvc hp K:=by
  have pk:∀ {es:ES},k es pv st=some r→∀ s,ESR m pv es s→K s pvc hp:=fun h s hs'=>hK m _ pv st s pvc hp (Nm.le_refl _) (PLe.refl _) hs' hpv hs h
  have pk2:∀ {q:ES × EP × St},k q.1 q.2.1 q.2.2=some r→KK P m pv q K:=fun h m' s pvc' hp' h1 h2 h3 h4 h5=>hK m' _ _ _ s pvc' hp' h1 h2 h3 h4 h5 h
  unfold execE at h
  split at h <;> first | (simp only [Option.bind_eq_some_iff] at h; obtain ⟨s,h1,h2⟩:=h) | (cases h; done)
  · rename_i ho; exact sxMove hr ho h1 (pk h2)
  · rename_i ho; exact sxAssign hr ho h1 (pk h2)
  · rename_i ho; exact sxPick hr ho h1 (pk h2)
  · rename_i ho; exact sxNilCheck hr ho h1 (pk h2)
  · rename_i ho; exact sxFieldAddr hr ho h1 (pk h2)
  · rename_i ho; exact sxIndexAddr hr ho h1 (pk h2)
  · rename_i ho; exact sxIndex hr ho h1 (pk h2)
  · rename_i ho; exact sxField hr ho h1 (pk h2)
  · rename_i ho; exact sxSlice hr ho h1 (pk h2)
  · rename_i ho; exact sxLoad hr hpv hs ho h1 (pk h2)
  · rename_i ho; exact sxStore hr hpv hs ho h1 (pk2 h2)
  · rename_i ho; exact sxAlloc hpv hs ho h1 (pk2 h2)
  · rename_i ho; exact sxBox hr hpv hs ho h1 (pk2 h2)
  · rename_i ho; exact sxBuild hr ho h1 (pk h2)
  · rename_i ho; exact sxBuildSlice hr hpv hs ho h1 (pk2 h2)
  · rename_i ho; exact sxMakeSlice hr hpv hs ho h1 (pk2 h2)
  · rename_i ho; exact sxMakeMap hpv hs ho h1 (pk2 h2)
  · rename_i ho; exact sxMapUpdate hr hpv hs (.inl ho) h1 (pk2 h2)
  · rename_i ho; exact sxMapUpdate hr hpv hs (.inr ho) h1 (pk2 h2)
  · rename_i ho; exact sxMapEntry hr hpv hs ho h1 (pk2 h2)
  · rename_i ho; exact sxEntryStore hr hpv hs ho h1 (pk2 h2)
  · rename_i ho; exact sxLookup hr hs ho h1 (pk h2)
  · rename_i ho; exact sxRange hr hpv hs ho h1 (pk2 h2)
  · rename_i ho; exact sxNext hr hpv hs ho h1 (pk2 h2)
  · rename_i ho; exact sxExtract hr ho h1 (pk h2)
  · rename_i ho; exact sxTypeAssert hr ho h1 (pk h2)
  · rename_i ho; exact sxConvert hr hpv hs ho h1 (pk2 h2)
  · rename_i ho; exact sxUnOp hr ho h1 (pk h2)
  · rename_i ho; exact sxBinOp hr ho h1 (pk h2)
  · rename_i ho; exact sxMakeInterface hr ho h1 (pk h2)
  · rename_i ho; exact sxMakeFunc hr ho h1 (pk h2)
  · rename_i ho; exact sxCall hcall hgl hr hpv hs ho h1 (pk2 h2)
end
end Go.HL
