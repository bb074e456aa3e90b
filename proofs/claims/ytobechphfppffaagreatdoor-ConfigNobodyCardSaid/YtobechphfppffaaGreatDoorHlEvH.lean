/- The heaplet logic, part 39: operations that turn memory, by the evaluator. -/
import Derived.Test.YtobechphfppffaaGreatDoorHlEvG
set_option linter.unusedVariables false
set_option linter.unusedSimpArgs false
namespace Go.HL
open Go
set_option linter.unusedVariables false
set_option linter.unusedSectionVars false
section
variable {P:Program} {m:Nm} {st:St} {hp:HP}
theorem SER.row {c:Nat} {T:TypeId} {cs:List RV} {sp:Option Nat} {e:Ent} (h:SER P m c (.cells T cs sp) e) :
    ∃ vs n,e=.cells T vs n∧VL m cs vs∧(∀ z,sp=some z→vs.length+n=c*z)∧(sp=none→n=0)∧∀ (m':Nm) cs' vs',VL m' cs' vs'→vs'.length=vs.length→SER P m' c (.cells T cs' sp) (.cells T vs' n):=by
  cases sp with
  | none=>
    obtain ⟨vs,h1,h2⟩:=h
    exact ⟨vs,0,h1,h2,(by intro z e; cases e),fun _=>rfl,fun m' cs' vs' h3 _=>⟨vs',rfl,h3⟩⟩
  | some z=>
    obtain ⟨vs,n,h1,h2,h3⟩:=h
    exact ⟨vs,n,h1,h2,(by intro z' e; cases e; exact h3),(by intro e; cases e),fun m' cs' vs' h4 h5=>⟨vs',n,rfl,h4,by rw [h5]; exact h3⟩⟩
theorem SR.newAt (h:SR P m st hp) {fr:Option Nat} {se:SE} {st':St} (hn:st.new fr se=some st') {b:Nat × Nat} (hb:∀ i si bi,m i=some bi→st.h.get i=some si→lv si=true→bi.1≠b.1) {e:Ent}
    (he:∀ m':Nm,m.le m'→m' (st.nx fr)=some b→SER P m' b.2 se e):∃ m':Nm,m.le m'∧m' (st.nx fr)=some b∧SR P m' st' (hp.set b.1 e):=by
  obtain ⟨h1,h2⟩:=St.new_some hn
  have hle:=Nm.le_ext (h.dom _ h1) b
  refine ⟨m.ext (st.nx fr) b,hle,Nm.ext_eq ..,?_,?_,?_⟩
  · intro i hi
    rw [h2,Tr.get_set] at hi
    split at hi
    · cases hi
    · rename_i hne
      unfold Nm.ext
      rw [if_neg hne]; exact h.dom i hi
  · intro i si bi hi hmi
    rw [h2,Tr.get_set] at hi
    split at hi
    · rename_i e'
      subst e'
      cases hi
      rw [Nm.ext_eq] at hmi; cases hmi
      rw [HP.set_eq]; exact he _ hle (Nm.ext_eq ..)
    · rename_i hne
      unfold Nm.ext at hmi
      rw [if_neg hne] at hmi
      have hs:=h.ent i si bi hi hmi
      cases hl:lv si with
      | false=>cases si <;> first | trivial | cases hl
      | true=>
        rw [HP.set_ne _ _ (hb i si bi hmi hi hl)]; exact hs.mono hle
  · intro i j si sj bi bj hmi hmj hi hj hli hlj hbb
    rw [h2,Tr.get_set] at hi hj
    unfold Nm.ext at hmi hmj
    split at hi
    · rename_i ei
      split at hj
      · rename_i ej; rw [ei,ej]
      · rename_i ej
        rw [if_pos ei] at hmi
        rw [if_neg ej] at hmj
        cases hmi
        exact absurd hbb.symm (hb j sj bj hmj hj hlj)
    · rename_i ei
      rw [if_neg ei] at hmi
      split at hj
      · rename_i ej
        rw [if_pos ej] at hmj
        cases hmj
        exact absurd hbb (hb i si bi hmi hi hli)
      · rename_i ej
        rw [if_neg ej] at hmj
        exact h.inj i j si sj bi bj hmi hmj hi hj hli hlj hbb
theorem SR.live (h:SR P m st hp) {i:Nat} {se:SE} {b:Nat × Nat} (hm:m i=some b) (hi:st.h.get i=some se) (hl:lv se=true):hp b.1≠.none:=(h.ent i se b hi hm).known hl
theorem elemsOf_some {t e:TypeId} {i:TypeInfo} {z:List Value} (h:elemsOf P t=some (e,i,z)) :
    P.underlying t=some (.slice e)∧P.info? e=some i∧∃ zv,i.zero=some zv∧zv.cells.toList=z∧z.length=i.size∧zv.cells.size=i.size∧0<i.size:=by
  unfold elemsOf at h
  split at h
  · rename_i e' hu
    split at h
    · rename_i i' hi
      split at h
      · rename_i zv hz
        simp only [guardE_some,Bool.and_eq_true,Bool.not_eq_true'] at h
        obtain ⟨⟨h1,h2⟩,h3⟩:=h
        cases h3
        have h1:=Nat.eq_of_beq_eq_true h1
        rw [llen_eq] at h1
        refine ⟨hu,hi,zv,hz,rfl,h1,by rw [← Array.length_toList]; exact h1,Nat.pos_of_ne_zero fun e=>?_⟩
        rw [e] at h2; cases h2
      · cases h
    · cases h
  · cases h
theorem elemOk_of {t e:TypeId} {i:TypeInfo} {z:List Value} (h:elemsOf P t=some (e,i,z)):elemOk P t e i.size i.bytes=true:=by
  obtain ⟨h1,h2,zv,h3,_,_,h4,_⟩:=elemsOf_some h
  unfold elemOk
  rw [h1,h2]
  simp [h3,h4]
theorem showsE_sound (hs:SR P m st hp) {size:Nat} {x:RV} {n:Nat} {ys:List RV} (h:showsE st size x=some (n,ys)) {v:Value} (hv:VR m x v) :
    ∃ a c us,v=.slice a n c∧n≤c∧Shows hp a n size us∧VL m ys us:=by
  unfold showsE at h
  split at h
  · cases h
    have:=hv.vv
    subst this
    exact ⟨none,_,[],rfl,Nat.zero_le _,.inl ⟨rfl,rfl⟩,rfl⟩
  · rename_i i off len cap
    obtain ⟨b,hb,hl,rfl⟩:=hv.s
    split at h
    · cases h
      exact ⟨_,_,[],rfl,hl,.inl ⟨rfl,rfl⟩,rfl⟩
    · rename_i k
      simp only [Option.bind_eq_some_iff] at h
      obtain ⟨cs,h1,us,h2,h3⟩:=h
      cases h3
      obtain ⟨vs,hvs,a1,a2⟩:=hs.cells h1 hb
      obtain ⟨ws,hws,hr⟩:=cutE_VL h2 hvs
      exact ⟨_,_,ws,rfl,hl,.inr ⟨_,_,rfl,a2 _ _ _ hws⟩,hr⟩
  · cases h
def KS2 (P:Program) (m:Nm) (x:RV) (st':St) (K:Value→HP→Prop):Prop:=∀ m' v hp',m.le m'→VR m' x v→SR P m' st' hp'→K v hp'
theorem underB {t:TypeId} (h:(match P.underlying t with | some (.slice _)=>true | _=>false)=true):∃ e,P.underlying t=some (.slice e):=by
  split at h
  · rename_i e he; exact ⟨e,he⟩
  · cases h
theorem appendE_sound (hs:SR P m st hp) {ts:Array TypeId} {ty:TypeId} {s x:RV} {fr:Option Nat} {r:RV} {st':St} (h:appendE P ts s x fr st=some (r,st')) {sv xv:Value} (hsv:VR m s sv) (hxv:VR m x xv) {K:Value→HP→Prop}
    (hK:KS2 P m r st' K):opS P (Builtin.append_ ts ty ⟨[sv,xv]⟩) hp K:=by
  unfold appendE at h
  split at h
  case h_2=>cases h
  rename_i t tx hts
  have hts:ts=#[t,tx]:=by cases ts; simp at hts; rw [hts]
  subst hts
  rw [guardE_some] at h
  obtain ⟨htx,h⟩:=h
  obtain ⟨e',htx⟩:=underB htx
  simp only [Option.bind_eq_some_iff] at h
  obtain ⟨⟨e,i,z⟩,hel,⟨n,ys⟩,hsh,h⟩:=h
  dsimp only at h hsh
  rw [guardE_some] at h
  obtain ⟨h1,h⟩:=h
  obtain ⟨ht,hi,zv,hz,hzl,hzl2,hzs,hpos⟩:=elemsOf_some hel
  obtain ⟨a,c',us,rfl,hnc,hshow,hus⟩:=showsE_sound hs hsh hxv
  have hone:=all_one h1 hus
  have hyl:us.length=n*i.size:=hshow.len
  have grow:∀ {s0:Option Addr} {len c:Nat} {xs:List RV} {ws:List Value},VL m xs ws→Shows hp s0 len i.size ws→c<len+n→Nat.ble ((len+n)*i.bytes) 140737488355328=true→Nat.ble (len+n) 9223372036854775807=true →
      ∀ {stA:St},st.new fr (.cells e (lapp xs ys) (some i.size))=some stA→KS2 P m (.s (st.nx fr) 0 (len+n) (.un 0)) stA K→opS P (Builtin.append_ #[t,tx] ty ⟨[.slice s0 len c,.slice a n c']⟩) hp K:=by
    intro s0 len c xs ws hxs hsh0 hg hb1 hb2 stA hnew hk
    refine opS_append_grow ht hi hz hzs htx hsh0 hshow hone hg (Nat.le_of_ble_eq_true hb1) (Nat.le_of_ble_eq_true hb2) fun b c2 hb hc2=>?_
    obtain ⟨m',hle,hm',hsr⟩:=hs.new hnew (b:=(b,c2)) hb (e:=.cells e (ws++us) ((c2-(len+n))*i.size)) (fun m' hle hm'=>⟨_,_,rfl,by rw [lapp_eq]; exact (hxs.mono hle).app (hus.mono hle),by
      rw [List.length_append,hsh0.len,hyl,← Nat.add_mul,← Nat.add_mul]
      congr 1; omega⟩)
    exact hk m' _ _ hle (by have:=VR.mk_s (off:=0) (len:=len+n) (c:=.un 0) hm' (by simp only [capOf]; omega); simpa [capOf] using this) hsr
  split at h
  ·
    have:=hsv.vv
    subst this
    cases n with
    | zero=>
      cases h
      have hn0:us=[]:=List.eq_nil_of_length_eq_zero (by rw [hyl]; simp)
      subst hn0
      intro F w0 w hf
      have hsrc:=hf.src (P:=P) (c:=c') htx hshow hone
      refine ⟨.slice none 0 0,w,hp,?_,hf,hK m _ _ (Nm.le_refl _) (VR.rfl' _) hs⟩
      rcases hsrc.kind with ⟨e'',hk⟩ | hk <;> simp [Builtin.append_,run_underlying ht,run_underlying hk,sizeOf,typeInfo,hi,hsrc.len,hsrc.cells]
    | succ k=>
      rw [guardE_some] at h
      obtain ⟨hb,h⟩:=h
      simp only [Bool.and_eq_true] at hb
      simp only [Option.bind_eq_some_iff] at h
      obtain ⟨stA,hnew,h⟩:=h
      cases h
      have hnil:VL m ([]:List RV) []:=rfl
      refine grow (s0:=none) (len:=0) (c:=0) hnil (.inl ⟨rfl,rfl⟩) (by omega) (by simpa using hb.1) (by simpa using hb.2) (by simpa [lapp] using hnew) ?_
      simpa using hK
  ·
    rename_i j off len c
    obtain ⟨b,hb,hl,rfl⟩:=hsv.s
    simp only [capOf] at hl ⊢
    split at h
    · rename_i hroom
      have hroom:=Nat.le_of_ble_eq_true hroom
      rw [guardE_some] at h
      obtain ⟨htt,h⟩:=h
      have htt:=Nat.eq_of_beq_eq_true htt
      subst htt
      split at h
      · rename_i T cs hj
        rw [guardE_some] at h
        obtain ⟨hin,h⟩:=h
        have hin:=Nat.le_of_ble_eq_true hin
        rw [llen_eq] at hin
        cases h
        obtain ⟨vs,n',he,hvs,_,h0,hmk⟩:=(hs.ent j _ b hj hb).row
        rw [hvs.len] at hin
        refine opS_append_in (elemOk_of hel) he hshow hone hroom hin ?_
        rw [Nat.add_mul] at hin
        have hsr:=hs.upd (se':=.cells T (spliceE cs (off+len*i.size) ys) none) hj hb rfl (e:=.cells T (splice vs (off+len*i.size) us) n') (hmk m _ _ (spliceE_VL hvs hus (by rw [llen_eq,llen_eq,hus.len,hvs.len]; omega)) (length_splice ..))
        exact hK m _ _ (Nm.le_refl _) (VR.mk_s (c:=.kn c) hb hroom) hsr
      · cases h
    · rename_i hroom
      have hroom:c<len+n:=by
        rcases Nat.lt_or_ge c (len+n) with h | h
        · exact h
        · rw [Nat.ble_eq_true_of_le h] at hroom; cases hroom
      simp only [Option.bind_eq_some_iff] at h
      obtain ⟨⟨n0,xs⟩,hsx,h⟩:=h
      rw [guardE_some] at h
      obtain ⟨hbb,h⟩:=h
      simp only [Bool.and_eq_true] at hbb
      simp only [Option.bind_eq_some_iff] at h
      obtain ⟨stA,hnew,h⟩:=h
      cases h
      obtain ⟨a0,c0,ws,e0,hn0,hsh0,hws⟩:=showsE_sound hs hsx hsv
      cases e0
      exact grow hws hsh0 hroom hbb.1 hbb.2 hnew hK
  ·
    rename_i j off len k
    obtain ⟨b,hb,hl,rfl⟩:=hsv.s
    simp only [capOf] at hl ⊢
    split at h
    · rename_i T cs zz hj
      rw [guardE_some] at h
      obtain ⟨hT,h⟩:=h
      simp only [Bool.and_eq_true,decide_eq_true_eq] at hT
      obtain ⟨rfl,hzz⟩:=hT
      have hzz:=Nat.eq_of_beq_eq_true hzz
      subst hzz
      have hser:=hs.ent j _ b hj hb
      obtain ⟨vs,n',he,hvs,htot,_,hmk⟩:=hser.row
      have htot:=htot _ rfl
      split at h
      · rename_i hwhole
        simp only [Bool.and_eq_true] at hwhole
        obtain ⟨⟨w1,w2⟩,w3⟩:=hwhole
        have w1:=Nat.eq_of_beq_eq_true w1
        have w2:=Nat.eq_of_beq_eq_true w2
        have w3:=Nat.eq_of_beq_eq_true w3
        subst w1; subst w2
        rw [llen_eq,hvs.len] at w3
        rw [Nat.sub_zero] at hl
        rw [guardE_some] at h
        obtain ⟨hbb,h⟩:=h
        simp only [Bool.and_eq_true] at hbb
        simp only [Option.bind_eq_some_iff] at h
        obtain ⟨stA,hnew,h⟩:=h
        cases h
        rw [Nat.sub_zero]
        have hn':n'=(b.2-len)*i.size:=by rw [Nat.sub_mul]; omega
        have hdead:SR P m (st.upd j .dead) hp:=hs.dead j (by rw [hj]; exact fun h=>by cases h)
        refine opS_append (e:=T) (s:=some ⟨b.1,0,none⟩) (n:=len) (c:=b.2) (xs:=vs) ht hi hz hzs htx (.inr ⟨b.1,rfl,hl,w3,by rw [he,hn']⟩) hshow hone (Nat.le_of_ble_eq_true hbb.1) (Nat.le_of_ble_eq_true hbb.2) fun s2 c2 hp' hrow hup=>?_
        have hshape:∃ b2,s2=some ⟨b2,0,none⟩∧len+n≤c2∧hp' b2=.cells T (vs++us) ((c2-(len+n))*i.size):=by
          rcases hrow with ⟨r1,r2,r3,r4⟩ | ⟨b2,r1,r2,r3,r4⟩
          · rcases hup with ⟨_,e2⟩ | ⟨b2,_,e2,_⟩
            · rw [r1] at e2; cases e2
            · rw [r1] at e2; cases e2
          · exact ⟨b2,r1,r2,r4⟩
        obtain ⟨b2,e1,hc2,hcell⟩:=hshape
        subst e1
        have hfree:∀ i0 si bi,m i0=some bi→(st.upd j .dead).h.get i0=some si→lv si=true→bi.1≠b2:=by
          intro i0 si bi hmi hgi hli e1
          unfold St.upd at hgi
          simp only [Tr.get_set] at hgi
          split at hgi
          · cases hgi; cases hli
          · rename_i hne
            have hb2:hp b2=.none∨b2=b.1:=by
              rcases hup with ⟨_,e2⟩ | ⟨b3,_,e2,e3,_⟩
              · cases e2; exact .inr rfl
              · cases e2
                rcases e3 with e3 | e3
                · exact .inl e3
                · cases e3; exact .inr rfl
            rcases hb2 with hb2 | hb2
            · exact hs.live hmi hgi hli (by rw [e1]; exact hb2)
            · exact hne (hs.inj i0 j si _ bi b hmi hb hgi hj hli rfl (by rw [e1,hb2]))
        obtain ⟨m',hle,hm',hsr⟩:=hdead.newAt hnew (b:=(b2,c2)) hfree (e:=.cells T (vs++us) ((c2-(len+n))*i.size)) (fun m' hle hm'=>⟨_,_,rfl,by rw [lapp_eq]; exact (hvs.mono hle).app (hus.mono hle),by
          rw [List.length_append,w3,hyl,← Nat.add_mul,← Nat.add_mul]
          congr 1; omega⟩)
        have hpp:hp'=hp.set b2 (.cells T (vs++us) ((c2-(len+n))*i.size)):=by
          rcases hup with ⟨e1,e2⟩ | ⟨b3,e3,e2,_,e1⟩
          · rw [e1] at hcell; rw [e1,HP.set_self _ _ _ hcell]
          · cases e2
            rw [e1,HP.set_eq] at hcell
            rw [e1,hcell]
        rw [hpp]
        exact hK m' _ _ hle (by have:=VR.mk_s (off:=0) (len:=len+n) (c:=.un 0) hm' (by simp only [capOf]; omega); exact this) hsr
      · rw [guardE_some] at h
        obtain ⟨hin,h⟩:=h
        cases h
        simp only [Bool.and_eq_true] at hin
        obtain ⟨⟨i1,i2⟩,i3⟩:=hin
        have i1:=Nat.le_of_ble_eq_true i1
        have i2:=Nat.eq_of_beq_eq_true i2
        have i3:=Nat.eq_of_beq_eq_true i3
        subst i2; subst i3
        rw [llen_eq,hvs.len] at i1
        have hcap:k+(len+n)≤b.2:=by
          have h1:(k+(len+n))*i.size≤b.2*i.size:=by rw [Nat.add_mul]; omega
          exact Nat.le_of_mul_le_mul_right h1 hpos
        refine opS_append_in (elemOk_of hel) he hshow hone (by omega) i1 ?_
        rw [Nat.add_mul] at i1
        have hsr:=hs.upd (se':=.cells T (spliceE cs (k*i.size+len*i.size) ys) (some i.size)) hj hb rfl (e:=.cells T (splice vs (k*i.size+len*i.size) us) n') (hmk m _ _ (spliceE_VL hvs hus (by rw [llen_eq,llen_eq,hus.len,hvs.len]; omega)) (length_splice ..))
        exact hK m _ _ (Nm.le_refl _) (VR.mk_s (c:=.un k) hb (by simp only [capOf]; omega)) hsr
    · cases h
  · cases h
theorem copyE_sound (hs:SR P m st hp) {ts:Array TypeId} {ty:TypeId} {d x:RV} {r:RV} {st':St} (h:copyE P ts d x st=some (r,st')) {dv xv:Value} (hdv:VR m d dv) (hxv:VR m x xv) {K:Value→HP→Prop}
    (hK:KS2 P m r st' K):opS P (Builtin.copy_ ts ty ⟨[dv,xv]⟩) hp K:=by
  unfold copyE at h
  split at h
  case h_2=>cases h
  rename_i t tx hts
  have hts:ts=#[t,tx]:=by cases ts; simp at hts; rw [hts]
  subst hts
  rw [guardE_some] at h
  obtain ⟨htt,h⟩:=h
  have htt:=Nat.eq_of_beq_eq_true htt
  subst htt
  simp only [Option.bind_eq_some_iff] at h
  obtain ⟨⟨e,i,z⟩,hel,⟨n,ys⟩,hsh,h⟩:=h
  dsimp only at h hsh
  rw [guardE_some] at h
  obtain ⟨h1,h⟩:=h
  obtain ⟨a,c',us,rfl,hnc,hshow,hus⟩:=showsE_sound hs hsh hxv
  have hone:=all_one h1 hus
  have hyl:us.length=n*i.size:=hshow.len
  split at h
  · rename_i j off len cap
    obtain ⟨b,hb,hl,rfl⟩:=hdv.s
    split at h
    · rename_i T cs sp hj
      rw [guardE_some] at h
      obtain ⟨hin,h⟩:=h
      have hin:=Nat.le_of_ble_eq_true hin
      rw [llen_eq] at hin
      cases h
      obtain ⟨vs,n',he,hvs,_,h0,hmk⟩:=(hs.ent j _ b hj hb).row
      rw [hvs.len] at hin
      have hmin:Nat.min n len*i.size≤len*i.size:=Nat.mul_le_mul_right _ (Nat.min_le_right ..)
      have htake:VL m (ltake ys (Nat.min n len*i.size)) (us.take (Nat.min n len*i.size)):=by rw [ltake_eq]; exact hus.take _
      refine opS_copy_in (elemOk_of hel) he hshow hone hin ?_
      have hsr:=hs.upd (se':=.cells T (spliceE cs off (ltake ys (Nat.min n len*i.size))) sp) hj hb rfl (e:=.cells T (splice vs off (us.take (Nat.min n len*i.size))) n') (hmk m _ _ (spliceE_VL hvs htake (by
        rw [llen_eq,llen_eq,htake.len,hvs.len,List.length_take]
        have:=Nat.min_le_left (Nat.min n len*i.size) us.length
        omega)) (length_splice ..))
      exact hK m _ _ (Nm.le_refl _) (VR.rfl' _) hsr
    · cases h
  · cases h
theorem lenE_sound (hs:SR P m st hp) {ts:Array TypeId} {ty:TypeId} {x:RV} {r:RV} (h:lenE P ts x st=some r) {xv:Value} (hxv:VR m x xv) {K:Value→Prop} (hK:∀ v,VR m r v→K v):lenF P ts ty [xv] hp K:=by
  unfold lenE at h
  unfold lenF
  split at h
  · rename_i e a n c hu
    cases h
    have:=hxv.vv; subst this
    rw [hu]; exact hK _ (VR.rfl' _)
  · rename_i e j off n cap hu
    cases h
    obtain ⟨b,hb,hl,rfl⟩:=hxv.s
    rw [hu]; exact hK _ (VR.rfl' _)
  · rename_i s hu
    cases h
    have:=hxv.vv; subst this
    rw [hu]
    rw [strLen_eq] at hK
    exact hK _ (VR.rfl' _)
  · rename_i kt et hu
    cases h
    have:=hxv.vv; subst this
    rw [hu]
    simp only
    rw [Option.bind_eq_some_iff] at hu
    obtain ⟨mt,h1,h2⟩:=hu
    refine ⟨.int .i64 0,fun F w0 w hf=>?_,?_⟩
    · simp [Builtin.len_,h1,run_underlying h2,goInt]
    · show intV _ _ _
      rw [intV_int]; exact hK _ (VR.rfl' _)
  · rename_i kt et i hu
    split at h
    · rename_i kt' l clock hi
      cases h
      obtain ⟨b,hb,rfl⟩:=hxv.mm
      obtain ⟨es,h1,h2,h3,h4,h5⟩:=hs.ent i _ b hi hb
      rw [hu]
      simp only
      rw [Option.bind_eq_some_iff] at hu
      obtain ⟨mt,e1,e2⟩:=hu
      refine ⟨.int .i64 (l.length:Nat),fun F w0 w hf=>?_,?_⟩
      · have hbb:=getObj_of hf h1
        have hl:es.size=l.length:=by have:=h2.len; simpa using this.symm
        simp [Builtin.len_,e1,run_underlying e2,MapKept.run_getObj_map hbb,goInt,hl]
      · show intV _ _ _
        rw [intV_int]
        rw [llen_eq] at hK
        exact hK _ (VR.rfl' _)
    · cases h
  · cases h
theorem capE_sound {ts:Array TypeId} {ty:TypeId} {x:RV} {r:RV} (h:capE P ts x=some r) {xv:Value} (hxv:VR m x xv) {K:Value→Prop} (hK:∀ v,VR m r v→K v):capF P ts ty [xv] K:=by
  unfold capE at h
  unfold capF
  split at h
  · rename_i e a n c hu
    cases h
    have:=hxv.vv; subst this
    rw [hu]; exact hK _ (VR.rfl' _)
  · rename_i e j off n cap hu
    cases h
    obtain ⟨b,hb,hl,rfl⟩:=hxv.s
    rw [hu]; exact hK _ (VR.rfl' _)
  · cases h
theorem deleteE_sound (hs:SR P m st hp) {ts:Array TypeId} {ty:TypeId} {x k:RV} {r:RV} {st':St} (h:deleteE P ts x k st=some (r,st')) {xv kv:Value} (hxv:VR m x xv) (hkv:VR m k kv) {K:Value→HP→Prop}
    (hK:KS2 P m r st' K):opS P (Builtin.delete_ ts ty ⟨[xv,kv]⟩) hp K:=by
  unfold deleteE at h
  split at h
  case h_2=>cases h
  rename_i mt dt k' hts
  have hts:ts=#[mt,dt]:=by cases ts; simp at hts; rw [hts]
  subst hts
  have:=hkv.vv; subst this
  split at h
  · rename_i kt et hu
    rw [guardE_some] at h
    obtain ⟨hk,h⟩:=h
    split at h
    · rename_i i
      split at h
      · rename_i kt' l c hi
        rw [guardE_some] at h
        obtain ⟨he,h⟩:=h
        have he:=Nat.eq_of_beq_eq_true he
        subst he
        cases h
        obtain ⟨b,hb,rfl⟩:=hxv.mm
        refine opS_deleteE hu (hs.ent i _ b hi hb) hk fun e hse=>?_
        exact hK m _ _ (Nm.le_refl _) (VR.rfl' _) (hs.upd hi hb rfl hse)
      · cases h
    · cases h
  · cases h
theorem VL.one {x:RV} {vs:List Value} (h:VL m [x] vs):∃ v,vs=[v]∧VR m x v:=by
  obtain ⟨v,r,rfl,hv,hr⟩:=h.cons_iff
  have:=hr.nil_iff; subst this
  exact ⟨v,rfl,hv⟩
theorem VL.two {x y:RV} {vs:List Value} (h:VL m [x,y] vs):∃ v w,vs=[v,w]∧VR m x v∧VR m y w:=by
  obtain ⟨v,r,rfl,hv,hr⟩:=h.cons_iff
  obtain ⟨w,rfl,hw⟩:=hr.one
  exact ⟨v,w,rfl,hv,hw⟩
theorem pureL_eq {l:List RV} {vs ws:List Value} (h:pureL l=some vs) (hv:VL m l ws):ws=vs:=Option.some.inj (Eq.trans (Eq.symm hv) (pureL_VL h))
theorem isSlc_of {x:RV} (hx:isSlc x=true) {v:Value} (hv:VR m x v):∃ a n c,v=.slice a n c:=by
  unfold isSlc at hx
  split at hx
  · rw [hv.vv]; exact ⟨_,_,_,rfl⟩
  · obtain ⟨b,_,_,rfl⟩:=hv.s; exact ⟨_,_,_,rfl⟩
  · cases hx
theorem appendE_slc {ts:Array TypeId} {s x:RV} {fr:Option Nat} {r:RV} {st':St} (h:appendE P ts s x fr st=some (r,st')):isSlc r=true:=by
  unfold appendE at h
  split at h
  case h_2=>cases h
  rw [guardE_some] at h
  replace h:=h.2
  simp only [Option.bind_eq_some_iff] at h
  obtain ⟨_,_,_,_,h⟩:=h
  rw [guardE_some] at h
  replace h:=h.2
  split at h
  · split at h
    · cases h; rfl
    · rw [guardE_some] at h
      replace h:=h.2
      simp only [Option.bind_eq_some_iff] at h
      obtain ⟨_,_,h⟩:=h
      cases h; rfl
  · split at h
    · rw [guardE_some] at h
      replace h:=h.2
      split at h
      · rw [guardE_some] at h
        replace h:=h.2
        cases h; rfl
      · cases h
    · simp only [Option.bind_eq_some_iff] at h
      obtain ⟨_,_,h⟩:=h
      rw [guardE_some] at h
      replace h:=h.2
      simp only [Option.bind_eq_some_iff] at h
      obtain ⟨_,_,h⟩:=h
      cases h; rfl
  · split at h
    · rw [guardE_some] at h
      replace h:=h.2
      split at h
      · rw [guardE_some] at h
        replace h:=h.2
        simp only [Option.bind_eq_some_iff] at h
        obtain ⟨_,_,h⟩:=h
        cases h; rfl
      · rw [guardE_some] at h
        replace h:=h.2
        cases h; rfl
    · cases h
  · cases h
theorem copyE_int {ts:Array TypeId} {s x:RV} {r:RV} {st':St} (h:copyE P ts s x st=some (r,st')):∃ n,r=.v (.int .i64 n):=by
  unfold copyE at h
  split at h
  case h_2=>cases h
  rw [guardE_some] at h
  replace h:=h.2
  simp only [Option.bind_eq_some_iff] at h
  obtain ⟨_,_,_,_,h⟩:=h
  rw [guardE_some] at h
  replace h:=h.2
  split at h
  · split at h
    · rw [guardE_some] at h
      replace h:=h.2
      cases h; exact ⟨_,rfl⟩
    · cases h
  · cases h
theorem builtinE_sound (hs:SR P m st hp) {b:Builtin} {ts:Array TypeId} {ty:TypeId} {args:List RV} {fr:Option Nat} {r:RV} {st':St} (h:builtinE P b ts ty args fr st=some (r,st')) {vs:List Value} (hv:VL m args vs) {K:Value→HP→Prop}
    (hK:KS2 P m r st' K):builtinF P b ts ty vs hp K:=by
  unfold builtinE at h
  split at h
  · simp only [Option.bind_eq_some_iff] at h
    obtain ⟨v,h1,h⟩:=h
    cases h
    obtain ⟨v,rfl,hx⟩:=hv.one
    exact lenE_sound hs h1 hx fun w hw=>hK m _ _ (Nm.le_refl _) hw hs
  · simp only [Option.bind_eq_some_iff] at h
    obtain ⟨v,h1,h⟩:=h
    cases h
    obtain ⟨v,rfl,hx⟩:=hv.one
    exact capE_sound h1 hx fun w hw=>hK m _ _ (Nm.le_refl _) hw hs
  · rename_i k a k' b
    cases h
    obtain ⟨v,w,rfl,hx,hy⟩:=hv.two
    have:=hx.vv; subst this
    have:=hy.vv; subst this
    have hk:=hK m _ _ (Nm.le_refl _) (VR.rfl' _) hs
    show K (.int k (if b<a then b else a)) hp
    rw [ltE_eq] at hk
    by_cases hh:b<a <;> simpa [hh] using hk
  · rename_i k a k' b
    cases h
    obtain ⟨v,w,rfl,hx,hy⟩:=hv.two
    have:=hx.vv; subst this
    have:=hy.vv; subst this
    have hk:=hK m _ _ (Nm.le_refl _) (VR.rfl' _) hs
    show K (.int k (if b > a then b else a)) hp
    rw [ltE_eq] at hk
    by_cases hh:a<b <;> simpa [hh] using hk
  · simp only [Option.bind_eq_some_iff] at h
    obtain ⟨us,h1,v,h2,h⟩:=h
    cases h
    have:=pureL_eq h1 hv; subst this
    obtain ⟨w,rfl,hw⟩:=semVE_some h2
    exact semE_semV hw (hK m _ _ (Nm.le_refl _) (VR.rfl' _) hs)
  · simp only [Option.bind_eq_some_iff] at h
    obtain ⟨us,h1,v,h2,h⟩:=h
    cases h
    have:=pureL_eq h1 hv; subst this
    obtain ⟨w,rfl,hw⟩:=semVE_some h2
    exact semE_semV hw (hK m _ _ (Nm.le_refl _) (VR.rfl' _) hs)
  · obtain ⟨v,w,rfl,hx,hy⟩:=hv.two
    refine appendE_sound hs h hx hy fun m' v hp' hle hvr hsr=>?_
    obtain ⟨a,n,c,rfl⟩:=isSlc_of (appendE_slc h) hvr
    exact hK m' _ _ hle hvr hsr
  · obtain ⟨v,w,rfl,hx,hy⟩:=hv.two
    obtain ⟨n,rfl⟩:=copyE_int h
    refine copyE_sound hs h hx hy fun m' v hp' hle hvr hsr=>?_
    have:=hvr.vv; subst this
    rw [intV_int]
    exact hK m' _ _ hle (VR.rfl' _) hsr
  · obtain ⟨v,w,rfl,hx,hy⟩:=hv.two
    exact deleteE_sound hs h hx hy hK
  · cases h
  · cases h
end
end Go.HL
