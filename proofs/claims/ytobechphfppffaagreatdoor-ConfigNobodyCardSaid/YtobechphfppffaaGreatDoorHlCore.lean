/- The heaplet logic, part 1: heaplets, what it is that a world fits one, contracts, and the rules for code. -/
import Derived.ProofKit
import Derived.Orders
import Derived.Below
set_option linter.unusedVariables false
set_option linter.unusedSimpArgs false
namespace Go.HL
open Go
inductive Ent where
  | none
  | cells (e:TypeId) (cs:List Value) (spare:Nat)
  | obj (o:Obj)
abbrev HP:=Nat→Ent
def HP.set (hp:HP) (b:Nat) (e:Ent):HP:=fun x=>if x=b then e else hp x
theorem HP.set_eq (hp:HP) (b:Nat) (e:Ent):hp.set b e b=e:=by simp [HP.set]
theorem HP.set_ne (hp:HP) {b x:Nat} (e:Ent) (h:x≠b):hp.set b e x=hp x:=by simp [HP.set,h]
theorem HP.set_self (hp:HP) (b:Nat) (e:Ent) (h:hp b=e):hp.set b e=hp:=by
  funext x; simp only [HP.set]; split
  · rename_i hx; rw [hx,h]
  · rfl
def Ent.ok:Ent→Option Obj→Prop
  | .none,_=>True
  | .cells e cs sp,o=>∃ rest:List Value,rest.length=sp∧o=some (.cells (cs++rest).toArray e (0,0))
  | .obj ob,o=>o=some ob
structure Fits (F:Nat→Prop) (w0:World) (hp:HP) (w:World):Prop where
  ent:∀ b,(hp b).ok w.heap[b]?
  fr:∀ b,F b→hp b=.none∧b<w.heap.size∧w.heap[b]?=w0.heap[b]?
  os:w.os=w0.os
  tape:w.tape=w0.tape
  output:w.output=w0.output
  size:w0.heap.size≤w.heap.size
theorem Ent.ok_lt {e:Ent} {h:Array Obj} {b:Nat} (hok:e.ok h[b]?) (hne:e≠.none):b<h.size:=by
  rcases Nat.lt_or_ge b h.size with hb | hb
  · exact hb
  · rw [Array.getElem?_eq_none hb] at hok
    cases e with
    | none=>exact absurd rfl hne
    | cells e cs sp=>obtain ⟨_,_,h⟩:=hok; cases h
    | obj o=>cases hok
theorem Fits.fresh {F w0 hp w} (h:Fits F w0 hp w):hp w.heap.size=.none:=by
  by_cases hn:hp w.heap.size=.none
  · exact hn
  · exact absurd (Ent.ok_lt (h.ent _) hn) (by omega)
def AC (P:Program) (f:FuncId) (args:List Value) (hp:HP) (K:Value→HP→Prop):Prop:=
  ∀ F w,Fits F w hp w→Calls P f args.toArray w fun e w'=>∃ v hp',e=.returned v∧Fits F w hp' w'∧K v hp'
theorem AC.mono {P f args hp} {K K':Value→HP→Prop} (h:AC P f args hp K) (hk:∀ v hp',K v hp'→K' v hp'):AC P f args hp K':=
  fun F w hf=>(h F w hf).mono fun _ _ ⟨v,hp',a,b,c⟩=>⟨v,hp',a,b,hk _ _ c⟩
def HSub (hp' hp:HP):Prop:=∀ b,hp' b=.none∨hp' b=hp b
theorem HSub.refl (hp:HP):HSub hp hp:=fun _=>.inr rfl
theorem HSub.trans {a b c:HP} (h:HSub a b) (k:HSub b c):HSub a c:=fun x=>by
  rcases h x with h | h
  · exact .inl h
  · rw [h]; exact k x
theorem Fits.sub {F w0 hp hp' w} (h:Fits F w0 hp w) (hs:HSub hp' hp):Fits F w0 hp' w where
  ent b := by rcases hs b with e | e <;> rw [e]; · trivial
              · exact h.ent b
  fr b hb := ⟨by rcases hs b with e | e; · exact e
                 · rw [e]; exact (h.fr b hb).1,(h.fr b hb).2⟩
  os:=h.os
  tape:=h.tape
  output:=h.output
  size:=h.size
theorem AC.drop {P f args hp} {K:Value→HP→Prop} (h:AC P f args hp fun v hp'=>∃ hp'',HSub hp'' hp'∧K v hp''):AC P f args hp K:=
  fun F w hf=>(h F w hf).mono fun _ _ ⟨v,hp',a,b,hp'',s,c⟩=>⟨v,hp'',a,b.sub s,c⟩
/-! Frames: what a slot holds. -/
inductive SV where
  | val (v:Value)
  | priv (k off:Nat)
abbrev Env:=Nat→Option SV
abbrev PV:=Nat→Option (TypeId × List Value)
def upd {α:Type} (f:Nat→Option α) (i:Nat) (x:α):Nat→Option α:=fun j=>if j=i then some x else f j
theorem upd_eq {α:Type} (f:Nat→Option α) (i:Nat) (x:α):upd f i x i=some x:=by simp [upd]
theorem upd_ne {α:Type} (f:Nat→Option α) {i j:Nat} (x:α) (h:j≠i):upd f i x j=f j:=by simp [upd,h]
theorem upd_comm {α:Type} (f:Nat→Option α) {i j:Nat} (x y:α) (h:i≠j):upd (upd f i x) j y=upd (upd f j y) i x:=by
  funext k; simp only [upd]; split <;> split <;> first | rfl | (exfalso; omega)
def SV.conc (nm:Nat→Nat):SV→Value
  | .val v=>v
  | .priv k off=>.pointer (some ⟨nm k,off,none⟩)
structure Sim (F:Nat→Prop) (w0:World) (N:Nat) (env:Env) (pv:PV) (hp:HP) (nm:Nat→Nat) (tmps:Array Value) (w:World):Prop where
  len:tmps.size=N
  slots:∀ i s,env i=some s→tmps[i]?=some (s.conc nm)
  priv:∀ k T cs,pv k=some (T,cs)→w.heap[nm k]?=some (.cells cs.toArray T (0,0))∧hp (nm k)=.none∧¬ F (nm k)
  inj:∀ k k',pv k≠none→pv k'≠none→nm k=nm k'→k=k'
  fits:Fits F w0 hp w
def RefOk (env:Env) (pv:PV):Prop:=∀ i k off,env i=some (.priv k off)→pv k≠none
inductive Ex where
  | normal
  | ret
  | exit (id:Nat)
def Ex.to:Ex→Exit
  | .normal=>.normal
  | .ret=>.ret
  | .exit id=>.exit id
abbrev Post:=Ex→Env→PV→HP→Prop
def lift (F:Nat→Prop) (w0:World) (N:Nat) (Q:Post):Exit→Act→World→Prop:=fun e a w=>
  a.defers=[]∧∃ x env pv hp nm,e=Ex.to x∧Sim F w0 N env pv hp nm a.tmps w∧RefOk env pv∧Q x env pv hp
def AWP (P:Program) (N:Nat) (c:Code) (Q:Post) (env:Env) (pv:PV) (hp:HP):Prop:=
  ∀ F w0 nm tmps w,Sim F w0 N env pv hp nm tmps w→RefOk env pv→c.wp P (lift F w0 N Q) { tmps,defers:=[] } w
def Sub {α:Type} (f g:Nat→Option α):Prop:=∀ i x,f i=some x→g i=some x
theorem Sub.nil {α:Type} (g:Nat→Option α):Sub (fun _=>none) g:=fun _ _ h=>by cases h
theorem Sub.cons {α:Type} {f g:Nat→Option α} {i:Nat} {x:α} (h:g i=some x) (hf:Sub f g):Sub (upd f i x) g:=fun j y hj=>by
  by_cases hij:j=i
  · subst hij; rw [upd_eq] at hj; rw [h]; exact hj
  · rw [upd_ne _ _ hij] at hj; exact hf j y hj
theorem Sim.sub {F w0 N env pv hp nm tmps w env' pv' hp'} (h:Sim F w0 N env pv hp nm tmps w) (he:Sub env' env) (hv:Sub pv' pv) (hh:HSub hp' hp) :
    Sim F w0 N env' pv' hp' nm tmps w where
  len:=h.len
  slots i s hi:=h.slots i s (he i s hi)
  priv k T cs hk:=by
    obtain ⟨a,b,c⟩:=h.priv k T cs (hv k _ hk)
    refine ⟨a,?_,c⟩
    rcases hh (nm k) with e | e
    · exact e
    · rw [e]; exact b
  inj k k' hk hk':=by
    refine h.inj k k' ?_ ?_
    · intro hn
      cases hp:pv' k with
      | none=>exact hk hp
      | some x=>rw [hv k x hp] at hn; cases hn
    · intro hn
      cases hp:pv' k' with
      | none=>exact hk' hp
      | some x=>rw [hv k' x hp] at hn; cases hn
  fits:=h.fits.sub hh
theorem AWP.sub {P N c} {Q:Post} {env pv hp env' pv' hp'} (h:AWP P N c Q env' pv' hp') (hr:RefOk env' pv') (he:Sub env' env) (hv:Sub pv' pv) (hh:HSub hp' hp):AWP P N c Q env pv hp:=
  fun F w0 nm tmps w hs _=>h F w0 nm tmps w (hs.sub he hv hh) hr
theorem AWP.seq {P N a b} {Q:Post} {env pv hp} (M:Env→PV→HP→Prop)
    (ha:AWP P N a (fun x env pv hp=>match x with | .normal=>M env pv hp | x=>Q x env pv hp) env pv hp)
    (hb:∀ env pv hp,M env pv hp→AWP P N b Q env pv hp):AWP P N (.seq a b) Q env pv hp:=by
  intro F w0 nm tmps w hs hr
  refine wp_seq (wp_mono (ha F w0 nm tmps w hs hr) ?_)
  rintro e ⟨tm,df⟩ w' ⟨hd,x,env',pv',hp',nm',he,hs',hr',hq⟩
  subst he
  cases x with
  | normal=>
    simp only at hd; subst hd
    exact hb env' pv' hp' hq F w0 nm' tm w' hs' hr'
  | ret=>exact ⟨hd,.ret,env',pv',hp',nm',rfl,hs',hr',hq⟩
  | exit id=>exact ⟨hd,.exit id,env',pv',hp',nm',rfl,hs',hr',hq⟩
theorem AWP.skip {P N} {Q:Post} {env pv hp} (h:Q .normal env pv hp):AWP P N .skip Q env pv hp:=
  fun _ _ nm _ _ hs hr=>wp_skip ⟨rfl,.normal,env,pv,hp,nm,rfl,hs,hr,h⟩
theorem AWP.ret {P N} {Q:Post} {env pv hp} (h:Q .ret env pv hp):AWP P N .ret Q env pv hp:=
  fun _ _ nm _ _ hs hr=>wp_ret ⟨rfl,.ret,env,pv,hp,nm,rfl,hs,hr,h⟩
theorem AWP.exit {P N id} {Q:Post} {env pv hp} (h:Q (.exit id) env pv hp):AWP P N (.exit id) Q env pv hp:=
  fun _ _ nm _ _ hs hr=>wp_exit ⟨rfl,.exit id,env,pv,hp,nm,rfl,hs,hr,h⟩
theorem Sim.getD {F w0 N env pv hp nm tmps w} (h:Sim F w0 N env pv hp nm tmps w) {i:Nat} {s:SV} (hi:env i=some s):tmps.getD i undef=s.conc nm:=by
  have:=h.slots i s hi
  rw [Array.getD_eq_getD_getElem?,this]; rfl
theorem AWP.cond {P N c a b} {Q:Post} {env pv hp} {t:Bool} (hc:env c=some (.val (.bool t)))
    (ha:t=true→AWP P N a Q env pv hp) (hb:t=false→AWP P N b Q env pv hp):AWP P N (.cond (.tmp c) a b) Q env pv hp:=by
  intro F w0 nm tmps w hs hr
  refine wp_cond_split (t:=t) ?_ (fun h=>ha h F w0 nm tmps w hs hr) (fun h=>hb h F w0 nm tmps w hs hr)
  simp only [Act.eval]
  exact hs.getD hc
theorem AWP.block {P N id c} {Q:Post} {env pv hp}
    (h:AWP P N c (fun x env pv hp=>match x with | .exit id'=>if id'=id then Q .normal env pv hp else Q (.exit id') env pv hp | x=>Q x env pv hp) env pv hp) :
    AWP P N (.block id c) Q env pv hp:=by
  intro F w0 nm tmps w hs hr
  refine wp_block (wp_mono (h F w0 nm tmps w hs hr) ?_)
  rintro e ⟨tm,df⟩ w' ⟨hd,x,env',pv',hp',nm',he,hs',hr',hq⟩
  subst he
  cases x with
  | normal=>exact ⟨hd,.normal,env',pv',hp',nm',rfl,hs',hr',hq⟩
  | ret=>exact ⟨hd,.ret,env',pv',hp',nm',rfl,hs',hr',hq⟩
  | exit id'=>
    simp only [Ex.to,Exit.inBlock]
    by_cases hid:id'=id
    · simp only [hid,if_true] at hq ⊢
      exact ⟨hd,.normal,env',pv',hp',nm',rfl,hs',hr',hq⟩
    · simp only [hid,if_false] at hq ⊢
      exact ⟨hd,.exit id',env',pv',hp',nm',rfl,hs',hr',hq⟩
def inLoopWp (P:Program) (c:Code) (Q:Exit→Act→World→Prop) (a:Act) (w:World):Prop:=
  ∀ (b:Frame) (k:List Item) (cs:List Frame),
    ∃ e a' w',Q e a' w'∧Arrives P (lone (b.at a (.code c::.inLoop c::k)) cs w) b k cs e a' w'
theorem wp_of_inLoop {P c Q a w} (h:inLoopWp P c Q a w):(Code.loop c).wp P Q a w:=fun b k cs=>
  let ⟨e,a',w',hq,harr⟩:=h b k cs
  ⟨e,a',w',hq,.of_steps (.one step_loop) harr⟩
theorem inLoop_round {P c Q a w} (h:c.wp P (Exit.then (inLoopWp P c Q) Q) a w):inLoopWp P c Q a w:=by
  intro b k cs
  obtain ⟨e,a₁,w₁,hq,harr⟩:=h b (.inLoop c::k) cs
  cases e with
  | normal=>
    obtain ⟨e₂,a₂,w₂,hq₂,harr₂⟩:=hq b k cs
    exact ⟨e₂,a₂,w₂,hq₂,.of_steps (Steps.trans harr (.one step_inLoop)) harr₂⟩
  | exit id=>exact ⟨_,a₁,w₁,hq,.pass (x:=.inLoop c) rfl (fun _ _=>.inl (by simp)) harr⟩
  | goto l=>exact ⟨_,a₁,w₁,hq,.pass (x:=.inLoop c) rfl (fun _ _=>.inl (by simp)) harr⟩
  | ret=>exact ⟨_,a₁,w₁,hq,.pass (x:=.inLoop c) rfl (fun _ _=>.inl (by simp)) harr⟩
  | panic ch=>exact ⟨_,a₁,w₁,hq,.pass (x:=.inLoop c) rfl (fun _ _=>.inl (by simp)) harr⟩
  | outgrown=>exact ⟨_,a₁,w₁,hq,.pass (x:=.inLoop c) rfl (fun _ _=>.inl (by simp)) harr⟩
end Go.HL
