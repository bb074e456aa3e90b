/- The heaplet logic, part 5: an operation does what its formula says. -/
import Derived.Test.YtobechphfppffaaGreatDoorHlMem
set_option linter.unusedVariables false
set_option linter.unusedSimpArgs false
namespace Go.HL
open Go
def SRef (s:SV) (pv:PV):Prop:=∀ k off,s=.priv k off→pv k≠none
theorem SRef.val (v:Value) (pv:PV):SRef (.val v) pv:=fun _ _ h=>by cases h
section
variable {P:Program} {F:Nat→Prop} {w0 w:World} {N:Nat} {env:Env} {pv:PV} {hp:HP} {nm:Nat→Nat} {tmps:Array Value}
theorem Sim.ext (hs:Sim F w0 N env pv hp nm tmps w):Fits (fun b=>F b∨∃ k,pv k≠none∧nm k=b) w hp w where
  ent:=hs.fits.ent
  fr b hb:=by
    rcases hb with hb | ⟨k,hk,rfl⟩
    · exact ⟨(hs.fits.fr b hb).1,(hs.fits.fr b hb).2.1,rfl⟩
    · cases hp:pv k with
      | none=>exact absurd hp hk
      | some x=>
        obtain ⟨a,b,_⟩:=hs.priv k x.1 x.2 hp
        refine ⟨b,?_,rfl⟩
        rcases Nat.lt_or_ge (nm k) w.heap.size with h | h
        · exact h
        · rw [Array.getElem?_eq_none h] at a; cases a
  os:=rfl
  tape:=rfl
  output:=rfl
  size:=Nat.le_refl _
theorem Sim.back (hs:Sim F w0 N env pv hp nm tmps w) {hp':HP} {w':World} (hf:Fits (fun b=>F b∨∃ k,pv k≠none∧nm k=b) w hp' w'):Sim F w0 N env pv hp' nm tmps w' where
  len:=hs.len
  slots:=hs.slots
  priv k T cs hk:=by
    obtain ⟨a,b,c⟩:=hs.priv k T cs hk
    have:=hf.fr (nm k) (.inr ⟨k,by rw [hk]; simp,rfl⟩)
    exact ⟨this.2.2.trans a,this.1,c⟩
  inj:=hs.inj
  fits:=
    { ent:=hf.ent
      fr:=fun b hb=>⟨(hf.fr b (.inl hb)).1,(hf.fr b (.inl hb)).2.1,(hf.fr b (.inl hb)).2.2.trans (hs.fits.fr b hb).2.2⟩
      os:=hf.os.trans hs.fits.os
      tape:=hf.tape.trans hs.fits.tape
      output:=hf.output.trans hs.fits.output
      size:=Nat.le_trans hs.fits.size hf.size }
theorem Sim.opS {α:Type} {s:Sem α} {KK:α→HP→Prop} (hs:Sim F w0 N env pv hp nm tmps w) (h:opS P s hp KK) :
    ∃ v w' hp',s.run P w=.ok v w'∧Sim F w0 N env pv hp' nm tmps w'∧KK v hp':=by
  obtain ⟨v,w',hp',a,b,c⟩:=h _ _ _ hs.ext
  exact ⟨v,w',hp',a,hs.back b,c⟩
theorem Sim.eval (hs:Sim F w0 N env pv hp nm tmps w) {x:Operand} {s:SV} (hx:opnd env x=some s) (df:List Deferred):({ tmps,defers:=df }:Act).eval x=s.conc nm:=by
  cases x with
  | tmp t=>exact hs.getD hx
  | const v=>cases hx; rfl
  | global g=>cases hx; rfl
  | func f=>cases hx; rfl
theorem opnd_ref (hr:RefOk env pv) {x:Operand} {s:SV} (hx:opnd env x=some s):SRef s pv:=by
  intro k off e
  subst e
  cases x with
  | tmp t=>exact hr t k off hx
  | const v=>cases hx
  | global g=>cases hx
  | func f=>cases hx
def Next (F:Nat→Prop) (w0:World) (N:Nat) (env:Env) (tmps:Array Value) (o:Oper) (K:SV→PV→HP→Prop) (next:Act→World→Prop):Prop:=
  ∀ s pv hp nm w,K s pv hp→Sim F w0 N env pv hp nm tmps w→RefOk env pv→SRef s pv→next (({ tmps,defers:=[] }:Act).put o.dst (s.conc nm)) w
variable {o:Oper} {K:SV→PV→HP→Prop} {next:Act→World→Prop} {Q:Exit→Act→World→Prop}
theorem wp_value {a:Act} {v:Value} {w':World} (h:(execOp a.eval o).run P w=.ok (.value v) w') (k:next (a.put o.dst v) w'):o.wp P a w next Q:=by
  unfold Oper.wp; rw [h]; exact k
theorem wp_skip' {a:Act} {w':World} (h:(execOp a.eval o).run P w=.ok .skip w') (k:next (a.put o.dst undef) w'):o.wp P a w next Q:=by
  unfold Oper.wp; rw [h]; exact k
theorem run_v {s:Sem Value} {v:Value} {w':World} (h:s.run P w=.ok v w'):(do pure (Go.Next.value (← s)):Sem Go.Next).run P w=.ok (.value v) w':=by
  simp [h]
theorem run_u {s:Sem Unit} {w':World} (h:s.run P w=.ok () w'):(do s; pure Go.Next.skip:Sem Go.Next).run P w=.ok .skip w':=by
  simp [h]
theorem opS_value {a:Act} {s:Sem Value} (ha:a={ tmps,defers:=[] }) (he:execOp a.eval o=(do pure (Go.Next.value (← s)))) (hs:Sim F w0 N env pv hp nm tmps w) (hr:RefOk env pv)
    (hn:Next F w0 N env tmps o K next) (h:opS P s hp fun v hp'=>K (.val v) pv hp'):o.wp P a w next Q:=by
  subst ha
  obtain ⟨v,w',hp',hrun,hs',hk⟩:=hs.opS h
  refine wp_value (v:=v) (w':=w') ?_ (hn (.val v) pv hp' nm w' hk hs' hr (SRef.val _ _))
  rw [he]; exact run_v hrun
theorem opS_unit {a:Act} {s:Sem Unit} (ha:a={ tmps,defers:=[] }) (he:execOp a.eval o=(do s; pure Go.Next.skip)) (hs:Sim F w0 N env pv hp nm tmps w) (hr:RefOk env pv)
    (hn:Next F w0 N env tmps o K next) (h:opS P s hp fun _ hp'=>K (.val undef) pv hp'):o.wp P a w next Q:=by
  subst ha
  obtain ⟨v,w',hp',hrun,hs',hk⟩:=hs.opS h
  refine wp_skip' (w':=w') ?_ (hn (.val undef) pv hp' nm w' hk hs' hr (SRef.val _ _))
  rw [he]; exact run_u hrun
theorem sem_value {a:Act} {s:Sem Value} (ha:a={ tmps,defers:=[] }) (he:execOp a.eval o=(do pure (Go.Next.value (← s)))) (hs:Sim F w0 N env pv hp nm tmps w) (hr:RefOk env pv)
    (hn:Next F w0 N env tmps o K next) (h:semV P s fun v=>K (.val v) pv hp):o.wp P a w next Q:=
  opS_value ha he hs hr hn (opS_mono (opS_of_semV h) fun _ _ ⟨e,h⟩=>by subst e; exact h)
theorem rd_value {a:Act} {s:Sem Value} (ha:a={ tmps,defers:=[] }) (he:execOp a.eval o=(do pure (Go.Next.value (← s)))) (hs:Sim F w0 N env pv hp nm tmps w) (hr:RefOk env pv)
    (hn:Next F w0 N env tmps o K next) (h:rdS P s hp fun v=>K (.val v) pv hp):o.wp P a w next Q:=
  opS_value ha he hs hr hn (opS_mono (opS_of_rdS h) fun _ _ ⟨e,h⟩=>by subst e; exact h)
theorem run_value {a:Act} {s:SV} (ha:a={ tmps,defers:=[] }) (he:(execOp a.eval o).run P w=.ok (.value (s.conc nm)) w) (hs:Sim F w0 N env pv hp nm tmps w) (hr:RefOk env pv)
    (hn:Next F w0 N env tmps o K next) (hsr:SRef s pv) (h:K s pv hp):o.wp P a w next Q:=by
  subst ha
  exact wp_value he (hn s pv hp nm w h hs hr hsr)
theorem fldOff_elim {t:TypeId} {f:Nat} {c:Nat→Prop} (h:fldOff P t f c) :
    ∃ fs fd i,P.underlying t=some (.struct fs)∧fs[f]?=some fd∧P.info? fd.type=some i∧i.size≠0∧c fd.offset:=by
  unfold fldOff at h
  split at h
  · rename_i fs hu
    split at h
    · rename_i fd hf
      split at h
      · rename_i i hi
        split at h
        · exact h.elim
        · rename_i hz; exact ⟨fs,fd,i,hu,hf,hi,hz,h⟩
      · exact h.elim
    · exact h.elim
  · exact h.elim
theorem sizeT_elim {t:TypeId} {c:Nat→Prop} (h:sizeT P t c):∃ z,(P.info? t).map (·.size)=some z∧c z:=by
  unfold sizeT at h
  split at h
  · rename_i i hi; exact ⟨i.size,by rw [hi]; rfl,h⟩
  · exact h.elim
theorem intAny_elim {v:Value} {c:Int→Prop} (h:intAny v c):∃ k n,v=.int k n∧c n:=by
  cases v <;> simp only [intAny] at h <;> first | exact h.elim | exact ⟨_,_,rfl,h⟩
theorem run_fieldAt {t:TypeId} {f:Nat} {fs:Array Field} {fd:Field} {i:TypeInfo} (b o:Nat) (h1:P.underlying t=some (.struct fs)) (h2:fs[f]?=some fd) (h3:P.info? fd.type=some i) (h4:i.size≠0) :
    (Instr.fieldAt t (ptr b o) f).run P w=.ok (ptr b (o+fd.offset)) w:=by
  simp [Instr.fieldAt,underlying,h1,h2,Instr.sureAddr,fieldPlace,sizeOf,typeInfo,h3,h4,add_eq]
theorem run_indexAt_arr {t e:TypeId} {n z:Nat} {k:IntKind} {i:Int} (b o:Nat) (h1:P.underlying t=some (.array n e)) (hz:(P.info? e).map (·.size)=some z) (h0:0≤i) (hn:i<n) :
    (Instr.indexAt t (ptr b o) (.int k i)).run P w=.ok (ptr b (o+i.toNat*z)) w:=by
  simp [Instr.indexAt,underlying,h1,asIntOf,Instr.sureAddr,h0,hn,run_size hz,add_eq]
theorem run_indexAt_slc {t e:TypeId} {n m z:Nat} {k:IntKind} {i:Int} (b o:Nat) (h1:P.underlying t=some (.slice e)) (hz:(P.info? e).map (·.size)=some z) (h0:0≤i) (hn:i<n) :
    (Instr.indexAt t (.slice (some ⟨b,o,none⟩) n m) (.int k i)).run P w=.ok (ptr b (o+i.toNat*z)) w:=by
  simp [Instr.indexAt,underlying,h1,asIntOf,h0,hn,run_size hz,add_eq]
theorem exec_move (h:∃ x,(o.op=.move x∨o.op=.assign x)∧sv (opnd env x) fun s=>K s pv hp) (hs:Sim F w0 N env pv hp nm tmps w) (hr:RefOk env pv)
    (hn:Next F w0 N env tmps o K next):o.wp P { tmps,defers:=[] } w next Q:=by
  obtain ⟨x,ho,h⟩:=h
  obtain ⟨s,hx,h⟩:=sv_elim h
  refine run_value rfl ?_ hs hr hn (opnd_ref hr hx) h
  rcases ho with ho | ho <;> simp [execOp,ho,hs.eval hx]
theorem Sim.evals (hs:Sim F w0 N env pv hp nm tmps w) {xs:List Operand} {vs:List Value} (h:xs.map (opnd env)=vs.map fun v=>some (.val v)) (df:List Deferred) :
    xs.map ({ tmps,defers:=df }:Act).eval=vs:=by
  induction xs generalizing vs with
  | nil=>cases vs <;> simp_all
  | cons x xs ih=>
    cases vs with
    | nil=>simp at h
    | cons v vs=>
      simp only [List.map_cons,List.cons.injEq] at h ⊢
      exact ⟨by rw [hs.eval h.1]; rfl,ih h.2⟩
theorem partsV_elim {ρ:Operand→Option SV} {xs:List (Nat × Operand)} {c:List (Nat × Value)→Prop} (h:partsV ρ xs c) :
    ∃ vs:List (Nat × Value),xs.map (fun p=>(p.1,ρ p.2))=vs.map (fun p=>(p.1,some (.val p.2)))∧c vs:=by
  induction xs generalizing c with
  | nil=>exact ⟨[],rfl,h⟩
  | cons x xs ih=>
    obtain ⟨i,x⟩:=x
    obtain ⟨v,e1,h1⟩:=vv_elim h
    obtain ⟨vs,e2,h2⟩:=ih h1
    exact ⟨(i,v)::vs,by simp only [List.map_cons,e1,e2],h2⟩
theorem Sim.evalParts (hs:Sim F w0 N env pv hp nm tmps w) {xs:List (Nat × Operand)} {vs:List (Nat × Value)} (h:xs.map (fun p=>(p.1,opnd env p.2))=vs.map (fun p=>(p.1,some (.val p.2)))) (df:List Deferred) :
    xs.map (fun p=>(p.1,({ tmps,defers:=df }:Act).eval p.2))=vs:=by
  induction xs generalizing vs with
  | nil=>cases vs <;> simp_all
  | cons x xs ih=>
    cases vs with
    | nil=>simp at h
    | cons v vs=>
      simp only [List.map_cons,List.cons.injEq,Prod.mk.injEq] at h ⊢
      refine ⟨?_,ih h.2⟩
      rw [hs.eval h.1.2,h.1.1]; rfl
end
end Go.HL
