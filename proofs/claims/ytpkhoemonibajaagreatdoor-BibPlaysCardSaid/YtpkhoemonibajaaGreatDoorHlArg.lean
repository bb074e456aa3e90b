/- The heaplet logic in use, part 6: all that is there is known: arguments; what a law's row asks. -/
import Derived.Test.YtpkhoemonibajaaGreatDoorHlRow
import Derived.Deep.Slices
set_option linter.unusedVariables false
set_option linter.unusedSimpArgs false
namespace Go.HL
open Go
def hpAll (W:World):HP:=fun b=>match W.heap[b]? with | some o=>.obj o | none=>.none
theorem fits_all (W:World):Fits (fun _=>False) W (hpAll W) W:=by
  refine ⟨fun b=>?_,fun _ h=>h.elim,rfl,rfl,rfl,Nat.le_refl _⟩
  unfold hpAll
  cases h:W.heap[b]? with
  | none=>trivial
  | some o=>rfl
theorem below_all {P:Program} {f:FuncId} {args:List Value} {v:Value} (w:World) (hb:bodied P f=true) (h:CF P f args (hpAll w) fun u hp'=>u=v∧hp'=hpAll w) :
    Calls P f args.toArray w fun e w'=>e=.returned v∧RowKit.Below w.heap.size w w':=by
  refine (h.ac hb (fun _=>False) w (fits_all w)).mono ?_
  rintro e w' ⟨u,hp',rfl,hf,rfl,rfl⟩
  refine ⟨rfl,hf.os,hf.tape,hf.output,hf.size,fun k hk=>?_⟩
  have:=hf.ent k
  unfold hpAll at this
  rw [Array.getElem?_eq_getElem hk] at this
  rw [Array.getElem?_eq_getElem hk]
  exact this
theorem shows_all {W:World} {b o n size:Nat} {ys:List Value} (hpos:0<size) (hl:ys.length=n*size) (h:∀ j u,ys[j]?=some u→W.cell? ⟨b,o+j,none⟩=some u):Shows (hpAll W) (some ⟨b,o,none⟩) n size ys:=by
  by_cases hn:n=0
  · subst hn
    exact .inl ⟨rfl,List.eq_nil_of_length_eq_zero (by simpa using hl)⟩
  · right
    refine ⟨b,o,rfl,?_⟩
    have hp0:0<n*size:=Nat.mul_pos (by omega) hpos
    have hc:∃ c e f,W.heap[b]?=some (.cells c e f):=by
      have:=h 0 ys[0] (List.getElem?_eq_getElem (by omega))
      unfold World.cell? at this
      simp only at this
      cases hb:W.heap[b]? with
      | none=>rw [hb] at this; cases this
      | some ob=>
        rw [hb] at this
        cases ob <;> first | exact ⟨_,_,_,rfl⟩ | (cases this)
    obtain ⟨c,e,f,hb⟩:=hc
    have hcell:∀ (j:Nat) u,ys[j]?=some u→c.toList[o+j]?=some u:=fun j u hj=>by
      have:=h j u hj
      unfold World.cell? at this
      simpa [hb] using this
    have hlast:=hcell (n*size-1) ys[n*size-1] (List.getElem?_eq_getElem (by omega))
    have hle:o+n*size≤c.toList.length:=by
      rcases Nat.lt_or_ge (o+(n*size-1)) c.toList.length with hh | hh
      · omega
      · rw [List.getElem?_eq_none hh] at hlast; cases hlast
    have:hpAll W b=.obj (.cells c e f):=by unfold hpAll; rw [hb]
    unfold HP.cellN
    rw [this]
    simp only
    rw [cellsN_of hle]
    congr 1
    apply List.ext_getElem?
    intro j
    by_cases hj:j<n*size
    · rw [List.getElem?_take_of_lt hj,List.getElem?_drop,hcell j ys[j] (List.getElem?_eq_getElem (by omega)),List.getElem?_eq_getElem (by omega)]
    · rw [List.getElem?_eq_none (by simp; omega),List.getElem?_eq_none (by omega)]
def wellS (P:Program):Nat→TypeId→List Value→Bool
  | 0,_,_=>false
  | d+1,t,cs=>match P.underlying t with
    | some .bool=>(match cs with | [.bool _]=>true | _=>false)
    | some (.int q)=>(match cs with | [.int q' n]=>decide (q'=q)&&(Lit.int q n).wf | _=>false)
    | some .string=>(match cs with | [.string s]=>decide (s.size≤maxLen) | _=>false)
    | some (.array n e)=>decide (cs.length=P.cellsOf t)&&(List.range n).all fun i=>wellS P d e ((cs.drop (i*P.cellsOf e)).take (P.cellsOf e))
    | some (.struct fs)=>decide (cs.length=P.cellsOf t)&&fs.toList.all fun f=>wellS P d f.type ((cs.drop f.offset).take (P.cellsOf f.type))
    | _=>false
section
variable {H:Type} {enc:TypeId × Value→H} {P:Program} {w:World} {base:Nat} {spare:Nat→Bool} {held:Bool}
theorem mapM_all {α β:Type} {f:α→Option β}:∀ {l:List α} {ys:List β},l.mapM f=some ys→∀ x∈l,∃ y,f x=some y
  | [],_,_,x,hx=>by cases hx
  | a::l,ys,h,x,hx=>by
    rw [List.mapM_cons] at h
    simp only [bind,Option.bind_eq_some_iff,pure,Option.some.injEq] at h
    obtain ⟨y,hy,ys',hys,_⟩:=h
    rcases List.mem_cons.1 hx with rfl | hx
    · exact ⟨y,hy⟩
    · exact mapM_all hys x hx
theorem well_of_trod:∀ (fuel:Nat) (t:TypeId) (cs:List Value) (x:DataW H × List MemPlace),DataW.trod enc P w base spare held fuel t cs=some x→∀ m,P.keyTypeAt m t=true→wellS P fuel t cs=true
  | 0,_,_,_,h,_,_=>by simp [DataW.trod] at h
  | fuel+1,t,cs,x,h,m,hk=>by
    cases m with
    | zero=>simp [Program.keyTypeAt] at hk
    | succ m=>
    unfold Program.keyTypeAt at hk
    unfold DataW.trod at h
    unfold wellS
    cases hu:P.underlying t with
    | none=>simp [hu] at hk
    | some kd=>
      cases kd <;> simp only [hu,Bool.false_eq_true] at hk h ⊢
      case bool=>
        split at h <;> first | (cases h; done) | skip
        all_goals simp_all
      case int q=>
        split at h <;> first | (cases h; done) | skip
        all_goals simp_all
      case string=>
        split at h <;> first | (cases h; done) | skip
        all_goals simp_all
      case array n e=>
        split at h
        · rename_i hl
          simp only [Option.map_eq_some_iff] at h
          obtain ⟨ys,hys,_⟩:=h
          simp only [hl,decide_true,Bool.true_and,List.all_eq_true]
          intro i hi
          obtain ⟨y,hy⟩:=mapM_all hys i hi
          exact well_of_trod fuel e _ y hy m hk
        · cases h
      case struct fs=>
        simp only [Bool.and_eq_true] at hk
        split at h
        · rename_i hl
          simp only [Option.map_eq_some_iff] at h
          obtain ⟨ys,hys,_⟩:=h
          simp only [hl,decide_true,Bool.true_and,List.all_eq_true]
          intro f hf
          obtain ⟨y,hy⟩:=mapM_all hys f hf
          have:=Array.all_eq_true_iff_forall_mem.1 hk.1.1 f (Array.mem_toList_iff.1 hf)
          simp only [Bool.and_eq_true] at this
          exact well_of_trod fuel f.type _ y hy m this.2
        · cases h
theorem cells_at {a:Addr} {n:Nat} {cs:List Value} (h:w.cells? base a n=some cs):cs.length=n∧∀ j u,cs[j]?=some u→w.cell? (a.add j)=some u:=by
  unfold World.cells? at h
  split at h
  · have key:∀ (l:List Nat) (cs:List Value),l.mapM (fun i=>w.cell? (a.add i))=some cs→cs.length=l.length∧∀ (j:Nat) u,cs[j]?=some u→∃ i,l[j]?=some i∧w.cell? (a.add i)=some u:=by
      intro l
      induction l with
      | nil=>intro cs h; simp at h; subst h; exact ⟨rfl,fun j u hj=>by simp at hj⟩
      | cons x l ih=>
        intro cs h
        rw [List.mapM_cons] at h
        simp only [bind,Option.bind_eq_some_iff,pure,Option.some.injEq] at h
        obtain ⟨y,hy,ys,hys,rfl⟩:=h
        obtain ⟨h1,h2⟩:=ih ys hys
        refine ⟨by simp [h1],fun j u hj=>?_⟩
        cases j with
        | zero=>simp only [List.getElem?_cons_zero,Option.some.injEq] at hj ⊢; subst hj; exact ⟨x,rfl,hy⟩
        | succ j=>simpa using h2 j u (by simpa using hj)
    obtain ⟨h1,h2⟩:=key _ _ h
    refine ⟨by simpa using h1,fun j u hj=>?_⟩
    obtain ⟨i,hi,hc⟩:=h2 j u hj
    have:i=j:=by
      rcases Nat.lt_or_ge j n with hh | hh
      · rw [List.getElem?_range hh] at hi; exact (Option.some.inj hi).symm
      · rw [List.getElem?_eq_none (by simpa using hh)] at hi; cases hi
    rw [← this]; exact hc
  · cases h
theorem arg_slice {α:Type} {t e:TypeId} {m size:Nat} (ht:P.underlying t=some (.slice e)) (hk:P.keyTypeAt m e=true) (hsz:P.cellsOf e=size) (hpos:0<size) {a:Option Addr} {n c:Nat} {d:DataW H} {ps:List MemPlace}
    (h:DataW.Trod enc P w base spare held t (.slice a n c) d ps) (ok:α→Prop) (en:α→List Value) (hen:∀ x,(en x).length=size) (hdec:∀ D cs,wellS P D e cs=true→∃ x,ok x∧cs=en x) :
    ∃ l:List α,l.length=n∧n≤c∧c≤maxLen∧(∀ x∈l,ok x)∧Shows (hpAll w) a n size (l.flatMap en):=by
  obtain ⟨fuel,hf⟩:=h
  rcases Deep.open_slice ht hf with ⟨hcs,_⟩ | ⟨ad,len,cap,mm,nn,D,Pl,hcs,_,hle,hcap,hm,_,hel⟩
  · simp [Value.cells] at hcs
    obtain ⟨rfl,rfl,rfl⟩:=hcs
    exact ⟨[],rfl,Nat.le_refl _,by decide,(fun _ h=>by cases h),.inl ⟨rfl,rfl⟩⟩
  · simp [Value.cells] at hcs
    obtain ⟨rfl,rfl,rfl⟩:=hcs
    have hnm:n≤mm:=by rw [hm]; split <;> omega
    have each:∀ i,i<n→∃ x,ok x∧∀ j u,(en x)[j]?=some u→w.cell? ((ad.add (i*size)).add j)=some u:=by
      intro i hi
      obtain ⟨cs',h1,h2⟩:=hel i (by omega)
      obtain ⟨x,hx,rfl⟩:=hdec _ _ (well_of_trod _ _ _ _ h2 m hk)
      rw [hsz] at h1
      exact ⟨x,hx,(cells_at h1).2⟩
    by_cases hn:n=0
    · subst hn
      exact ⟨[],rfl,hle,hcap,(fun _ h=>by cases h),.inl ⟨rfl,rfl⟩⟩
    have hspot:ad=⟨ad.block,ad.off,none⟩:=by
      obtain ⟨x,_,hc⟩:=each 0 (by omega)
      have hl0:0<(en x).length:=by rw [hen]; exact hpos
      have h0:=hc 0 (en x)[0] (List.getElem?_eq_getElem hl0)
      simp only [Nat.zero_mul] at h0
      have e0:(ad.add 0).add 0=ad:=by simp [Addr.add]
      rw [e0] at h0
      obtain ⟨b,o,sp⟩:=ad
      cases sp with
      | none=>rfl
      | some q=>
        exfalso
        unfold World.cell? at h0
        split at h0
        · simp at h0
        · cases h0
    have build:∀ k,k≤n→∃ l:List α,l.length=k∧(∀ x∈l,ok x)∧∀ j u,(l.flatMap en)[j]?=some u→w.cell? ⟨ad.block,ad.off+j,none⟩=some u:=by
      intro k
      induction k with
      | zero=>intro _; exact ⟨[],rfl,(fun _ h=>by cases h),fun j u hj=>by simp at hj⟩
      | succ k ih=>
        intro hk'
        obtain ⟨l,h1,h2,h3⟩:=ih (by omega)
        obtain ⟨x,hx,hc⟩:=each k (by omega)
        refine ⟨l++[x],by simp [h1],?_,?_⟩
        · intro y hy
          rcases List.mem_append.1 hy with hy | hy
          · exact h2 y hy
          · rw [List.mem_singleton.1 hy]; exact hx
        · intro j u hj
          have hfl:(l.flatMap en).length=k*size:=by rw [flat_len hen,h1]
          rw [List.flatMap_append] at hj
          by_cases hjk:j<k*size
          · rw [List.getElem?_append_left (by omega)] at hj
            exact h3 j u hj
          · rw [List.getElem?_append_right (by omega),hfl] at hj
            simp only [List.flatMap_cons,List.flatMap_nil,List.append_nil] at hj
            have:=hc _ _ hj
            rw [hspot,add_eq,add_eq] at this
            rw [show ad.off+j=ad.off+k*size+(j-k*size) by omega]
            exact this
    obtain ⟨l,h1,h2,h3⟩:=build n (Nat.le_refl _)
    refine ⟨l,h1,hle,hcap,h2,?_⟩
    rw [hspot]
    exact shows_all hpos (by rw [flat_len hen,h1]) h3
end
end Go.HL
