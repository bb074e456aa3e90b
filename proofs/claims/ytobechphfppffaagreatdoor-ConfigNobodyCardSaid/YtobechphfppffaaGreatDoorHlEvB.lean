/- The heaplet logic, part 35: when a state of the evaluator stands for a heaplet. -/
import Derived.Test.YtobechphfppffaaGreatDoorHlEvA
set_option linter.unusedVariables false
set_option linter.unusedSimpArgs false
namespace Go.HL
open Go
set_option linter.unusedVariables false
set_option linter.unusedSectionVars false
section
variable {α β:Type} {R R':α→β→Prop}
theorem F2.mono (hr:∀ x y,R x y→R' x y) {l:List α} {l':List β} (h:F2 R l l'):F2 R' l l':=by
  induction h with
  | nil=>exact .nil
  | cons h _ ih=>exact .cons (hr _ _ h) ih
theorem F2.len {l:List α} {l':List β} (h:F2 R l l'):l.length=l'.length:=by
  induction h with
  | nil=>rfl
  | cons h _ ih=>simp [ih]
end
theorem VR.mono {m m':Nm} {x:RV} {v:Value} (h:VR m x v) (hm:m.le m'):VR m' x v:=conc_mono hm x v h
theorem VL.mono {m m':Nm} {x:List RV} {v:List Value} (h:VL m x v) (hm:m.le m'):VL m' x v:=concs_mono hm x v h
def MER (m:Nm) (x:Value × RV × Nat) (e:MapEntry):Prop:=e.key=x.1∧VR m x.2.1 e.val∧e.born=x.2.2
theorem MER.mono {m m':Nm} (hm:m.le m') (x:Value × RV × Nat) (e:MapEntry) (h:MER m x e):MER m' x e:=⟨h.1,h.2.1.mono hm,h.2.2⟩
def SER (P:Program) (m:Nm) (c:Nat):SE→Ent→Prop
  | .cells T cs none,e=>∃ vs,e=.cells T vs 0∧VL m cs vs
  | .cells T cs (some z),e=>∃ vs sp,e=.cells T vs sp∧VL m cs vs∧vs.length+sp=c*z
  | .map kt l clock,e=>∃ es,e=.obj (.map es clock)∧F2 (MER m) l es.toList∧(∀ x∈es.toList,x.born<clock)∧(es.toList.map (·.born)).Nodup∧(∀ x∈l,keyOk P kt x.1=true)
  | .obj o,e=>e=.obj o
  | .row cs,e=>∃ c T f vs rest,e=.obj (.cells c T f)∧c.toList=vs++rest∧VL m cs vs
  | .dead,_=>True
def lv:SE→Bool
  | .dead=>false
  | _=>true
theorem SER.mono {P:Program} {m m':Nm} (hm:m.le m') {c:Nat}:∀ {se:SE} {e:Ent},SER P m c se e→SER P m' c se e
  | .cells T cs none,e,⟨vs,h1,h2⟩=>⟨vs,h1,h2.mono hm⟩
  | .cells T cs (some z),e,⟨vs,sp,h1,h2,h3⟩=>⟨vs,sp,h1,h2.mono hm,h3⟩
  | .map kt l clock,e,⟨es,h1,h2,h3⟩=>⟨es,h1,h2.mono (MER.mono hm),h3⟩
  | .obj o,e,h=>h
  | .row cs,e,⟨c,T,f,vs,rest,h1,h2,h3⟩=>⟨c,T,f,vs,rest,h1,h2,h3.mono hm⟩
  | .dead,_,_=>trivial
theorem SER.known {P:Program} {m:Nm} {c:Nat}:∀ {se:SE} {e:Ent},SER P m c se e→lv se=true→e≠.none
  | .cells T cs none,e,⟨vs,h1,h2⟩,_=>by rw [h1]; exact fun h=>by cases h
  | .cells T cs (some z),e,⟨vs,sp,h1,h2⟩,_=>by rw [h1]; exact fun h=>by cases h
  | .map kt l clock,e,⟨es,h1,h2⟩,_=>by rw [h1]; exact fun h=>by cases h
  | .obj o,e,h,_=>by
    have h:e=.obj o:=h
    rw [h]; exact fun h=>by cases h
  | .row cs,e,⟨c,T,f,vs,rest,h1,h2,h3⟩,_=>by rw [h1]; exact fun h=>by cases h
  | .dead,_,_,h=>by cases h
structure SR (P:Program) (m:Nm) (st:St) (hp:HP):Prop where
  dom:∀ i,st.h.get i=none→m i=none
  ent:∀ i se b,st.h.get i=some se→m i=some b→SER P m b.2 se (hp b.1)
  inj:∀ i j si sj bi bj,m i=some bi→m j=some bj→st.h.get i=some si→st.h.get j=some sj→lv si=true→lv sj=true→bi.1=bj.1→i=j
section
variable {P:Program} {m:Nm} {st:St} {hp:HP}
theorem SR.size {n:Nat} (h:SR P m st hp):SR P m ⟨n,st.h⟩ hp:=⟨h.dom,h.ent,h.inj⟩
theorem SR.upd (h:SR P m st hp) {i:Nat} {se se':SE} {b:Nat × Nat} {e:Ent} (hi:st.h.get i=some se) (hm:m i=some b) (hl:lv se=true) (he:SER P m b.2 se' e):SR P m (st.upd i se') (hp.set b.1 e) where
  dom j hj:=by
    unfold St.upd at hj
    simp only [Tr.get_set] at hj
    split at hj
    · cases hj
    · exact h.dom j hj
  ent j sj bj hj hmj:=by
    unfold St.upd at hj
    simp only [Tr.get_set] at hj
    split at hj
    · rename_i e'
      subst e'
      cases hj
      rw [hm] at hmj; cases hmj
      rw [HP.set_eq]; exact he
    · rename_i hne
      have hs:=h.ent j sj bj hj hmj
      cases hlj:lv sj with
      | false=>cases sj <;> first | trivial | cases hlj
      | true=>
        have:bj.1≠b.1:=fun e'=>hne (h.inj j i sj se bj b hmj hm hj hi hlj hl e')
        rw [HP.set_ne _ _ this]; exact hs
  inj j k sj sk bj bk hmj hmk hj hk hlj hlk hb:=by
    unfold St.upd at hj hk
    simp only [Tr.get_set] at hj hk
    split at hj
    · rename_i e1
      split at hk
      · rename_i e2; rw [e1,e2]
      · rename_i e2
        subst e1
        exact h.inj j k se sk bj bk hmj hmk hi hk hl hlk hb
    · split at hk
      · rename_i e1 e2
        subst e2
        exact h.inj j k sj se bj bk hmj hmk hj hi hlj hl hb
      · exact h.inj j k sj sk bj bk hmj hmk hj hk hlj hlk hb
theorem SR.dead (h:SR P m st hp) (i:Nat) (hi:st.h.get i≠none):SR P m (st.upd i .dead) hp where
  dom j hj:=by
    unfold St.upd at hj
    simp only [Tr.get_set] at hj
    split at hj
    · cases hj
    · exact h.dom j hj
  ent j sj bj hj hmj:=by
    unfold St.upd at hj
    simp only [Tr.get_set] at hj
    split at hj
    · cases hj; trivial
    · exact h.ent j sj bj hj hmj
  inj j k sj sk bj bk hmj hmk hj hk hlj hlk hb:=by
    unfold St.upd at hj hk
    simp only [Tr.get_set] at hj hk
    split at hj
    · cases hj; cases hlj
    · split at hk
      · cases hk; cases hlk
      · exact h.inj j k sj sk bj bk hmj hmk hj hk hlj hlk hb
def Nm.ext (m:Nm) (j:Nat) (b:Nat × Nat):Nm:=fun i=>if i=j then some b else m i
theorem Nm.ext_eq (m:Nm) (j:Nat) (b:Nat × Nat):m.ext j b j=some b:=by simp [Nm.ext]
theorem Nm.le_ext {j:Nat} (h:m j=none) (b:Nat × Nat):m.le (m.ext j b):=fun i x hi=>by
  unfold Nm.ext
  split
  · rename_i e; subst e; rw [h] at hi; cases hi
  · exact hi
theorem St.new_some {fr:Option Nat} {e:SE} {st':St} (h:st.new fr e=some st'):st.h.get (st.nx fr)=none∧st'.h=st.h.set (st.nx fr) e:=by
  unfold St.new at h
  split at h
  · rename_i hn; cases h; exact ⟨hn,rfl⟩
  · cases h
theorem SR.new (h:SR P m st hp) {fr:Option Nat} {se:SE} {st':St} (hn:st.new fr se=some st') {b:Nat × Nat} (hb:hp b.1=.none) {e:Ent}
    (he:∀ m':Nm,m.le m'→m' (st.nx fr)=some b→SER P m' b.2 se e):∃ m':Nm,m.le m'∧m' (st.nx fr)=some b∧SR P m' st' (hp.set b.1 e):=by
  obtain ⟨h1,h2⟩:=St.new_some hn
  have hle:=Nm.le_ext (h.dom _ h1) b
  refine ⟨m.ext (st.nx fr) b,hle,Nm.ext_eq ..,?_,?_,?_⟩
  · intro i hi
    rw [h2,Tr.get_set] at hi
    split at hi
    · cases hi
    · rename_i hne
      unfold Nm.ext
      rw [if_neg hne]; exact h.dom i hi
  · intro i si bi hi hmi
    rw [h2,Tr.get_set] at hi
    split at hi
    · rename_i e'
      subst e'
      cases hi
      rw [Nm.ext_eq] at hmi; cases hmi
      rw [HP.set_eq]; exact he _ hle (Nm.ext_eq ..)
    · rename_i hne
      unfold Nm.ext at hmi
      rw [if_neg hne] at hmi
      have hs:=h.ent i si bi hi hmi
      cases hl:lv si with
      | false=>cases si <;> first | trivial | cases hl
      | true=>
        have:bi.1≠b.1:=fun e'=>by
          have:=hs.known hl
          rw [e',hb] at this; exact this rfl
        rw [HP.set_ne _ _ this]; exact hs.mono hle
  · intro i j si sj bi bj hmi hmj hi hj hli hlj hbb
    rw [h2,Tr.get_set] at hi hj
    unfold Nm.ext at hmi hmj
    split at hi
    · rename_i ei
      split at hj
      · rename_i ej; rw [ei,ej]
      · rename_i ej
        rw [if_pos ei] at hmi
        rw [if_neg ej] at hmj
        cases hmi
        have:=(h.ent j sj bj hj hmj).known hlj
        rw [← hbb,hb] at this; exact absurd rfl this
    · rename_i ei
      rw [if_neg ei] at hmi
      split at hj
      · rename_i ej
        rw [if_pos ej] at hmj
        cases hmj
        have:=(h.ent i si bi hi hmi).known hli
        rw [hbb,hb] at this; exact absurd rfl this
      · rename_i ej
        rw [if_neg ej] at hmj
        exact h.inj i j si sj bi bj hmi hmj hi hj hli hlj hbb
theorem cellsN_app {vs rest:List Value} {o n:Nat} {us:List Value} (h:cellsN vs o n=some us):cellsN (vs++rest) o n=some us:=by
  unfold cellsN at h
  split at h
  · rename_i hl
    cases h
    rw [cellsN_of (by rw [List.length_append]; omega),List.drop_append_of_le_length (by omega),List.take_append_of_le_length (by rw [List.length_drop]; omega)]
  · cases h
theorem SR.cells (h:SR P m st hp) {i:Nat} {cs:List RV} {b:Nat × Nat} (hc:st.cellsAt i=some cs) (hm:m i=some b) :
    ∃ vs,VL m cs vs∧(∀ o v,vs[o]?=some v→hp.cell b.1 o=some v)∧∀ o n us,cellsN vs o n=some us→hp.cellN b.1 o n=some us:=by
  unfold St.cellsAt at hc
  split at hc
  · rename_i T cs' sp hi
    cases hc
    have:=h.ent i _ b hi hm
    cases sp with
    | none=>
      obtain ⟨vs,h1,h2⟩:=this
      exact ⟨vs,h2,fun o v hv=>by rw [HP.cell_of h1,hv],fun o n us hu=>by rw [HP.cellN_of h1,hu]⟩
    | some z=>
      obtain ⟨vs,sp,h1,h2,_⟩:=this
      exact ⟨vs,h2,fun o v hv=>by rw [HP.cell_of h1,hv],fun o n us hu=>by rw [HP.cellN_of h1,hu]⟩
  · rename_i c T f hi
    cases hc
    have h1:hp b.1=.obj (.cells ⟨c⟩ T f):=h.ent i _ b hi hm
    exact ⟨c,VL.vals c,fun o v hv=>by simp [HP.cell,h1,hv],fun o n us hu=>by simp [HP.cellN,h1,hu]⟩
  · rename_i cs' hi
    cases hc
    obtain ⟨c,T,f,vs,rest,h1,h2,h3⟩:=h.ent i _ b hi hm
    refine ⟨vs,h3,fun o v hv=>?_,fun o n us hu=>?_⟩
    · simp only [HP.cell,h1,h2]
      rw [List.getElem?_append_left (List.getElem?_eq_some_iff.1 hv).1,hv]
    · simp only [HP.cellN,h1,h2]
      exact cellsN_app hu
  · cases hc
end
/-! Cells of one's own; slots. -/
def PR (m:Nm) (pv:EP) (pvc:PV):Prop:=∀ k,match pv.get k with
  | some (_,some (T,cs))=>∃ vs,pvc k=some (T,vs)∧VL m cs vs
  | _=>pvc k=none
def PLe (pv pv':EP):Prop:=∀ k g x,pv.get k=some (g,x)→∃ g' x',pv'.get k=some (g',x')∧(g<g'∨(g=g'∧(x.isSome=true→x'.isSome=true)))
theorem PLe.refl (pv:EP):PLe pv pv:=fun k g x h=>⟨g,x,h,.inr ⟨rfl,fun h=>h⟩⟩
theorem PLe.trans {a b c:EP} (h:PLe a b) (h':PLe b c):PLe a c:=fun k g x hk=>by
  obtain ⟨g1,x1,e1,r1⟩:=h k g x hk
  obtain ⟨g2,x2,e2,r2⟩:=h' k g1 x1 e1
  refine ⟨g2,x2,e2,?_⟩
  rcases r1 with r1 | ⟨rfl,r1⟩
  · rcases r2 with r2 | ⟨rfl,r2⟩
    · exact .inl (Nat.lt_trans r1 r2)
    · exact .inl r1
  · rcases r2 with r2 | ⟨rfl,r2⟩
    · exact .inl r2
    · exact .inr ⟨rfl,fun h=>r2 (r1 h)⟩
def EVR (m:Nm) (pv:EP):ES→Option SV→Prop
  | .val x,o=>∃ v,o=some (.val v)∧VR m x v
  | .pr k g off,o=>∃ g' x,pv.get k=some (g',x)∧(g<g'∨(g=g'∧x.isSome=true∧o=some (.priv k off)))
def ESR (m:Nm) (pv:EP):ES→SV→Prop
  | .val x,.val v=>VR m x v
  | .pr k g off,.priv k' off'=>k=k'∧off=off'∧∃ c,pv.get k=some (g,some c)
  | _,_=>False
def ER (m:Nm) (pv:EP) (env:EE) (envc:Env):Prop:=∀ t es,env.get t=some es→EVR m pv es (envc t)
def RR (m:Nm) (pv:EP) (ρ:Operand→Option ES) (ρc:Operand→Option SV):Prop:=∀ x es,ρ x=some es→∃ s,ρc x=some s∧ESR m pv es s
section
variable {m m':Nm} {pv pv':EP} {pvc:PV}
theorem PR.mono (hm:m.le m') (h:PR m pv pvc):PR m' pv pvc:=fun k=>by
  have:=h k
  split
  · rename_i g T cs hk
    rw [hk] at this
    obtain ⟨vs,h1,h2⟩:=this
    exact ⟨vs,h1,h2.mono hm⟩
  · rename_i hn
    split at this
    · rename_i g T cs hk; exact absurd hk (hn g T cs)
    · exact this
theorem EVR.mono (hm:m.le m') (hp:PLe pv pv'):∀ {es:ES} {o:Option SV},EVR m pv es o→EVR m' pv' es o
  | .val x,o,⟨v,h1,h2⟩=>⟨v,h1,h2.mono hm⟩
  | .pr k g off,o,⟨g',x,h1,h2⟩=>by
    obtain ⟨g2,x2,e2,r2⟩:=hp k g' x h1
    refine ⟨g2,x2,e2,?_⟩
    rcases h2 with h2 | ⟨rfl,h2,h3⟩
    · rcases r2 with r2 | ⟨rfl,r2⟩
      · exact .inl (Nat.lt_trans h2 r2)
      · exact .inl h2
    · rcases r2 with r2 | ⟨rfl,r2⟩
      · exact .inl r2
      · exact .inr ⟨rfl,r2 h2,h3⟩
theorem ER.mono (hm:m.le m') (hp:PLe pv pv') {env:EE} {envc:Env} (h:ER m pv env envc):ER m' pv' env envc:=fun t es ht=>(h t es ht).mono hm hp
theorem ESR.evr:∀ {es:ES} {s:SV},ESR m pv es s→EVR m pv es (some s)
  | .val x,.val v,h=>⟨v,rfl,h⟩
  | .pr k g off,.priv k' off',⟨h1,h2,c,h3⟩=>by subst h1; subst h2; exact ⟨g,some c,h3,.inr ⟨rfl,rfl,rfl⟩⟩
  | .val _,.priv _ _,h=>h.elim
  | .pr _ _ _,.val _,h=>h.elim
theorem ER.put {env:EE} {envc:Env} (h:ER m pv env envc) {es:ES} {s:SV} (hs:ESR m pv es s):∀ d:Option Tmp,ER m pv (putE env d es) (putD envc d s)
  | none=>h
  | some d=>fun t e ht=>by
    unfold putE at ht
    simp only [Tr.get_set] at ht
    show EVR m pv e (upd envc d s t)
    split at ht
    · rename_i htd
      subst htd
      cases ht
      rw [upd_eq]; exact hs.evr
    · rename_i htd
      rw [upd_ne _ _ htd]; exact h t e ht
theorem pvGet_some {k g:Nat} {c:TypeId × List RV}:pvGet pv k g=some c↔pv.get k=some (g,some c):=by
  unfold pvGet
  constructor
  · intro h
    split at h
    · rename_i g' c' hk
      split at h
      · rename_i hb
        cases h
        rw [hk,Nat.eq_of_beq_eq_true hb]
      · cases h
    · cases h
  · intro h
    rw [h]
    simp
theorem ER.tmp {env:EE} {envc:Env} (h:ER m pv env envc) {t:Tmp} {es:ES} (he:tmpE env pv t=some es):∃ s,envc t=some s∧ESR m pv es s:=by
  unfold tmpE at he
  split at he
  · rename_i k g o hk
    rw [Option.bind_eq_some_iff] at he
    obtain ⟨c,h1,h2⟩:=he
    cases h2
    rw [pvGet_some] at h1
    obtain ⟨g',x,h2,h3⟩:=h t _ hk
    rw [h1] at h2
    cases h2
    rcases h3 with h3 | ⟨_,_,h3⟩
    · exact absurd h3 (Nat.lt_irrefl _)
    · exact ⟨_,h3,rfl,rfl,c,h1⟩
  · rename_i hn
    cases es with
    | pr k g o=>exact absurd he (hn k g o)
    | val x=>
      obtain ⟨v,h1,h2⟩:=h t _ he
      exact ⟨_,h1,h2⟩
def GL (m:Nm) (gl:Nat→Option Nat):Prop:=∀ g i,gl g=some i→∃ c,m i=some (g,c)
theorem GL.mono (hm:m.le m') {gl:Nat→Option Nat} (h:GL m gl):GL m' gl:=fun g i hg=>let ⟨c,hc⟩:=h g i hg; ⟨c,hm _ _ hc⟩
theorem opE_RR {gl:Nat→Option Nat} {env:EE} {envc:Env} (hg:GL m gl) (h:ER m pv env envc):RR m pv (opE gl env pv) (opnd envc):=fun x es hx=>by
  cases x with
  | tmp t=>exact h.tmp hx
  | const v=>cases hx; exact ⟨_,rfl,rfl⟩
  | global g=>
    simp only [opE,Option.bind_eq_some_iff] at hx
    obtain ⟨i,h1,h2⟩:=hx
    cases h2
    obtain ⟨c,hc⟩:=hg g i h1
    exact ⟨_,rfl,VR.mk_p hc⟩
  | func f=>cases hx; exact ⟨_,rfl,rfl⟩
/-! Cells of one's own. -/
theorem PR.get (h:PR m pv pvc) {k g:Nat} {T:TypeId} {cs:List RV} (hk:pv.get k=some (g,some (T,cs))):∃ vs,pvc k=some (T,vs)∧VL m cs vs:=by
  have:=h k
  rw [hk] at this; exact this
theorem PR.set (h:PR m pv pvc) {k g:Nat} {T:TypeId} {cs:List RV} {vs:List Value} (hv:VL m cs vs):PR m (pv.set k (g,some (T,cs))) (upd pvc k (T,vs)):=fun j=>by
  rw [Tr.get_set]
  by_cases hj:j=k
  · subst hj; rw [if_pos rfl,upd_eq]; exact ⟨vs,rfl,hv⟩
  · rw [if_neg hj,upd_ne _ _ hj]; exact h j
theorem PLe.set {k g:Nat} {x:Option (TypeId × List RV)} {c:TypeId × List RV} (hk:pv.get k=some (g,x)):PLe pv (pv.set k (g,some c)):=fun j g' x' hj=>by
  rw [Tr.get_set]
  by_cases e:j=k
  · subst e
    rw [hk] at hj
    cases hj
    exact ⟨g,some c,by rw [if_pos rfl],.inr ⟨rfl,fun _=>rfl⟩⟩
  · exact ⟨g',x',by rw [if_neg e]; exact hj,.inr ⟨rfl,fun h=>h⟩⟩
theorem PLe.set_new {k:Nat} {y:Nat × Option (TypeId × List RV)} (hk:pv.get k=none):PLe pv (pv.set k y):=fun j g' x' hj=>by
  rw [Tr.get_set]
  by_cases e:j=k
  · subst e; rw [hk] at hj; cases hj
  · exact ⟨g',x',by rw [if_neg e]; exact hj,.inr ⟨rfl,fun h=>h⟩⟩
theorem pvNew_sound (h:PR m pv pvc) {d:Nat} {T:TypeId} {cs:List RV} {vs:List Value} (hv:VL m cs vs) {g:Nat} (hn:pvNew pv d (T,cs)=some (g,pv')) :
    pvc d=none∧PR m pv' (upd pvc d (T,vs))∧PLe pv pv'∧pv'.get d=some (g,some (T,cs)):=by
  unfold pvNew at hn
  have hd:=h d
  split at hn
  · rename_i e
    cases hn
    rw [e] at hd
    exact ⟨hd,h.set hv,PLe.set_new e,by rw [Tr.get_set,if_pos rfl]⟩
  · rename_i g' e
    cases hn
    rw [e] at hd
    exact ⟨hd,h.set hv,PLe.set e,by rw [Tr.get_set,if_pos rfl]⟩
  · cases hn
theorem pvDrop_sound:∀ (ds:List Nat) {pv:EP} {pvc:PV},PR m pv pvc→PR m (pvDrop pv ds) (fun k=>if ds.contains k then none else pvc k)∧PLe pv (pvDrop pv ds)
  | [],pv,pvc,h=>⟨by simpa [pvDrop] using h,PLe.refl _⟩
  | d::ds,pv,pvc,h=>by
    have key:∀ {pv1:EP},PR m pv1 (fun k=>if k=d then none else pvc k)→PLe pv pv1→pvDrop pv (d::ds)=pvDrop pv1 ds →
        PR m (pvDrop pv (d::ds)) (fun k=>if (d::ds).contains k then none else pvc k)∧PLe pv (pvDrop pv (d::ds)):=by
      intro pv1 h1 h2 h3
      obtain ⟨a,b⟩:=pvDrop_sound ds h1
      rw [h3]
      refine ⟨?_,h2.trans b⟩
      have:(fun k=>if ds.contains k=true then none else if k=d then none else pvc k)=(fun k=>if (d::ds).contains k then none else pvc k):=by
        funext k
        simp only [List.contains_cons,Bool.or_eq_true,beq_iff_eq]
        by_cases h1:ds.contains k=true <;> by_cases h2:k=d <;> simp [h1,h2]
      rw [← this]; exact a
    cases hd:pv.get d with
    | none=>
      refine key (pv1:=pv) ?_ (PLe.refl _) (by rw [pvDrop]; simp only [hd])
      intro k
      by_cases hk:k=d
      · subst hk; rw [hd]; simp
      · simp only [if_neg hk]; exact h k
    | some y=>
      obtain ⟨g,x⟩:=y
      cases x with
      | none=>
        refine key (pv1:=pv) ?_ (PLe.refl _) (by rw [pvDrop]; simp only [hd])
        intro k
        by_cases hk:k=d
        · subst hk; rw [hd]; simp
        · simp only [if_neg hk]; exact h k
      | some c=>
        refine key (pv1:=pv.set d (g+1,none)) ?_ ?_ (by rw [pvDrop]; simp only [hd])
        · intro k
          rw [Tr.get_set]
          by_cases hk:k=d
          · simp [hk]
          · simp only [if_neg hk]; exact h k
        · intro j g' x' hj
          rw [Tr.get_set]
          by_cases e:j=d
          · subst e
            rw [hd] at hj
            cases hj
            exact ⟨g+1,none,by rw [if_pos rfl],.inl (Nat.lt_succ_self _)⟩
          · exact ⟨g',x',by rw [if_neg e]; exact hj,.inr ⟨rfl,fun h=>h⟩⟩
end
end Go.HL
