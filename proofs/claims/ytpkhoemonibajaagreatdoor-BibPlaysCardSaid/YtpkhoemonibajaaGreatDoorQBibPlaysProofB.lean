/- Parts of the proof of BibPlaysProof: the logic of what is known of memory, functions' contracts. -/
import Derived.Test.YtpkhoemonibajaaGreatDoorQBibPlaysProofA
import Derived.Test.YtpkhoemonibajaaGreatDoorHlCW
import Derived.Test.YtpkhoemonibajaaGreatDoorProg
import Derived.Test.YtpkhoemonibajaaGreatDoorHlRange
set_option linter.unusedVariables false
set_option linter.unusedSimpArgs false
set_option linter.unusedVariables false
set_option linter.unusedSimpArgs false
set_option maxRecDepth 20000
namespace Go.Proofs
open Go Go.HL
structure Bd where
  id:Int
  proto:Int
  inn:V6 × Int
  out:Q × Int
  st:Bool
  ses:Int
deriving DecidableEq
def zq4:Q:=(0,0,0,0)
def bd0:Bd:=⟨0,0,((zq4,zq4,zq4,zq4),0),(zq4,0),false,0⟩
instance:Inhabited Bd:=⟨bd0⟩
def bdc (x:Bd):List Value:=.int .i64 x.id::.int .i64 x.proto::(t6 x.inn++(t4 x.out++[.bool x.st,.int .i64 x.ses]))
theorem bdc_len (x:Bd):(bdc x).length=26:=rfl
theorem bdc_one (x:Bd):(bdc x).all one=true:=rfl
theorem bd_spl {zs:List Value} {y:Bd} (h:zs.length=26):splice zs 0 (bdc y)=bdc y:=splice_all h.symm
theorem bdc_id (x:Bd):(bdc x)[0]?=some (.int .i64 x.id):=rfl
theorem bdc_proto (x:Bd):(bdc x)[1]?=some (.int .i64 x.proto):=rfl
theorem bdc_st (x:Bd):(bdc x)[24]?=some (.bool x.st):=rfl
theorem bdc_ses (x:Bd):(bdc x)[25]?=some (.int .i64 x.ses):=rfl
theorem bdc_inn (x:Bd):cellsN (bdc x) 2 17=some (t6 x.inn):=rfl
theorem bdc_out (x:Bd):cellsN (bdc x) 19 5=some (t4 x.out):=rfl
theorem bdc_cells (x:Bd):cellsN (bdc x) 0 26=some (bdc x):=rfl
theorem bdc_splice (x y:Bd):splice (bdc x) 0 (bdc y)=bdc y:=splice_all rfl
theorem bdc_inj {x y:Bd}:bdc x=bdc y↔x=y:=by
  constructor
  · intro h
    obtain ⟨i,p,a,o,s,n⟩:=x
    obtain ⟨i',p',a',o',s',n'⟩:=y
    unfold bdc at h
    simp only [List.cons.injEq,Value.int.injEq,true_and] at h
    obtain ⟨rfl,rfl,h⟩:=h
    obtain ⟨h1,h⟩:=List.append_inj h rfl
    obtain ⟨h2,h⟩:=List.append_inj h rfl
    simp only [List.cons.injEq,Value.int.injEq,Value.bool.injEq,true_and,and_true] at h
    obtain ⟨rfl,rfl⟩:=h
    rw [t6_inj.1 h1,t4_inj.1 h2]
  · rintro rfl; rfl
def Bd.k6 (x:Bd):ByteArray:=key6 x.proto x.inn
def Bd.k4 (x:Bd):ByteArray:=key4 x.proto x.out
def heldB (L:List Bd) (k:Int):List ((Q × Int) × Bool):=(L.filter fun b=>decide (kindB b.proto=k)).map fun b=>(b.out,b.st)
structure InvB (l:List Q) (low high:Int) (mx last n:Nat) (L:List Bd):Prop where
  asc:(L.map (·.id)).Pairwise (· < ·)
  rng:∀ x∈L,1≤x.id∧x.id≤last
  keys6:(L.map fun x=>(x.proto,x.inn)).Nodup
  keys4:(L.map fun x=>(x.proto,x.out)).Nodup
  ok:∀ x∈L,0≤kindB x.proto∧okT6 x.inn∧okT x.out∧0≤x.ses∧x.ses≤n
  pool:∀ x∈L,x.out.1∈l∧isPort x.out.2=true∧isPort x.inn.2=true
  len:L.length≤mx
  mx:mx≤65536
  last:last≤n
  n:n≤1000000
  new:newOk l low high=true
  okl:∀ q∈l,okQ q
section
variable {l:List Q} {low high:Int} {mx last n:Nat} {L:List Bd}
theorem InvB.ids (h:InvB l low high mx last n L):(L.map (·.id)).Nodup:=h.asc.imp fun h e=>by omega
theorem okZ_kind {p:Int} (h:0≤kindB p):okZ p:=by
  unfold kindB at h
  unfold okZ
  split at h
  · omega
  · split at h
    · omega
    · split at h
      · omega
      · omega
theorem kind_cases {p:Int} (h:0≤kindB p):(p=1∧kindB p=0)∨(p=6∧kindB p=1)∨(p=17∧kindB p=2):=by
  unfold kindB at *
  split
  · rename_i e; exact .inl ⟨e,rfl⟩
  · rename_i e
    rw [if_neg e] at h
    split
    · rename_i e2; exact .inr (.inl ⟨e2,rfl⟩)
    · rename_i e2
      rw [if_neg e2] at h
      split
      · rename_i e3; exact .inr (.inr ⟨e3,rfl⟩)
      · rename_i e3
        rw [if_neg e3] at h; omega
theorem kind_inj {p q:Int} (h:0≤kindB p) (e:kindB p=kindB q):p=q:=by
  have h2:0≤kindB q:=by omega
  rcases kind_cases h with ⟨a,b⟩ | ⟨a,b⟩ | ⟨a,b⟩ <;> rcases kind_cases h2 with ⟨c,d⟩ | ⟨c,d⟩ | ⟨c,d⟩ <;> omega
theorem kind_lt {p:Int}:kindB p<3∧-1≤kindB p:=by
  unfold kindB
  split
  · omega
  · split
    · omega
    · split <;> omega
def find6 (p:Int) (a:V6 × Int) (L:List Bd):Option Bd:=L.find? fun x=>decide (x.proto=p∧x.inn=a)
def find4 (p:Int) (o:Q × Int) (L:List Bd):Option Bd:=L.find? fun x=>decide (x.proto=p∧x.out=o)
def findI (i:Int) (L:List Bd):Option Bd:=L.find? fun x=>decide (x.id=i)
theorem find_congr {α:Type} {p q:α→Bool}:∀ {L:List α},(∀ x∈L,p x=q x)→L.find? p=L.find? q
  | [],_=>rfl
  | x::L,h=>by
    rw [List.find?_cons,List.find?_cons,h x (by simp),find_congr fun y hy=>h y (by simp [hy])]
theorem find6_key (h:InvB l low high mx last n L) {p:Int} {a:V6 × Int} (ha:okT6 a):(L.find? fun x=>decide (x.k6=key6 p a))=find6 p a L:=by
  refine find_congr fun x hx=>decide_eq_decide.2 ⟨fun e=>key6_inj (h.ok x hx).2.1 ha e,fun ⟨e1,e2⟩=>?_⟩
  unfold Bd.k6; rw [e1,e2]
theorem find4_key (h:InvB l low high mx last n L) {p:Int} {o:Q × Int} (ho:okT o):(L.find? fun x=>decide (x.k4=key4 p o))=find4 p o L:=by
  refine find_congr fun x hx=>decide_eq_decide.2 ⟨fun e=>key4_inj (h.ok x hx).2.2.1 ho e,fun ⟨e1,e2⟩=>?_⟩
  unfold Bd.k4; rw [e1,e2]
theorem InvB.nd6 (h:InvB l low high mx last n L):(L.map Bd.k6).Nodup:=by
  have h1:=h.keys6
  unfold List.Nodup at h1 ⊢
  rw [List.pairwise_map] at h1 ⊢
  refine h1.imp_of_mem fun {a b} ha hb hab e=>hab ?_
  obtain ⟨e1,e2⟩:=key6_inj (h.ok a ha).2.1 (h.ok b hb).2.1 e
  rw [e1,e2]
theorem InvB.nd4 (h:InvB l low high mx last n L):(L.map Bd.k4).Nodup:=by
  have h1:=h.keys4
  unfold List.Nodup at h1 ⊢
  rw [List.pairwise_map] at h1 ⊢
  refine h1.imp_of_mem fun {a b} ha hb hab e=>hab ?_
  obtain ⟨e1,e2⟩:=key4_inj (h.ok a ha).2.2.1 (h.ok b hb).2.2.1 e
  rw [e1,e2]
theorem find6_mem {p:Int} {a:V6 × Int} {x:Bd} (h:find6 p a L=some x):x∈L∧x.proto=p∧x.inn=a:=by
  obtain ⟨h1,h2⟩:=find_mem h
  exact ⟨h1,of_decide_eq_true h2⟩
theorem find4_mem {p:Int} {a:Q × Int} {x:Bd} (h:find4 p a L=some x):x∈L∧x.proto=p∧x.out=a:=by
  obtain ⟨h1,h2⟩:=find_mem h
  exact ⟨h1,of_decide_eq_true h2⟩
theorem findI_mem {i:Int} {x:Bd} (h:findI i L=some x):x∈L∧x.id=i:=by
  obtain ⟨h1,h2⟩:=find_mem h
  exact ⟨h1,of_decide_eq_true h2⟩
end
def tabC (mx last:Nat) (f:Q) (m x o:Nat) (pl:Nat→Nat):List Value:=.int .i64 mx::.int .i64 last::(v4 f++[.map (some m),ptr x 0,ptr o 0,ptr (pl 0) 0,ptr (pl 1) 0,ptr (pl 2) 0])
structure BdM (tb:Obj) (h:HP) (t mx last:Nat) (f:Q) (E:List (Bd × Nat)) (m x o:Nat) (pl:Nat→Nat):Prop where
  tab:h t=.cells 107 (tabC mx last f m x o pl) 0
  map:MapE iw (fun k:Nat=>ptr k 0) (E.map fun e=>(e.1.id,e.2)) (h m)
  blk:∀ e∈E,h e.2=.cells 97 (bdc e.1) 0
  dig:TabR tb h
structure BdP (tb:Obj) (hq:HP) (t:Nat) (l:List Q) (low high:Int) (mx last n:Nat) (E:List (Bd × Nat)) (ps:Nat→HP) (m x o:Nat) (pl pm:Nat→Nat) (H:Nat→List ((Q × Int) × Bool)):Prop where
  parts:Parts hq ps
  main:BdM tb (ps 0) t mx last (l.headD zq4) E m x o pl
  six:IdxR (ps 1) x mx ((E.map (·.1)).map fun b=>(b.k6,b.id))
  four:IdxR (ps 2) o mx ((E.map (·.1)).map fun b=>(b.k4,b.id))
  pool:∀ k:Nat,k<3→PoolR (ps (3+k)) (pl k) l low high (H k) (pm k)
  inv:InvB l low high mx last n (E.map (·.1))
def BdW (tb:Obj) (hq:HP) (t:Nat) (l:List Q) (low high:Int) (mx last n:Nat) (L:List Bd):Prop:=
  ∃ (E:List (Bd × Nat)) (ps:Nat→HP) (m x o:Nat) (pl pm:Nat→Nat),L=E.map (·.1)∧BdP tb hq t l low high mx last n E ps m x o pl pm fun k=>heldB L k
theorem u123:Tryz.prog.underlying 103=some (.map 3 181):=by kernel_rfl
section
variable {tb:Obj} {hq:HP} {t:Nat} {l:List Q} {low high:Int} {mx last n:Nat} {L:List Bd} {E:List (Bd × Nat)} {ps:Nat→HP} {m x o:Nat} {pl pm:Nat→Nat} {H:Nat→List ((Q × Int) × Bool)} {K:Value→HP→Prop}
theorem BdP.cells (h:BdP tb hq t l low high mx last n E ps m x o pl pm H):hq t=.cells 107 (tabC mx last (l.headD zq4) m x o pl) 0:=(h.parts.sub 0).cells h.main.tab
theorem BdP.c0 (h:BdP tb hq t l low high mx last n E ps m x o pl pm H):hq.cell t 0=some (.int .i64 mx):=HP.cell_of h.cells
theorem BdP.c6 (h:BdP tb hq t l low high mx last n E ps m x o pl pm H):hq.cell t 6=some (.map (some m)):=HP.cell_of h.cells
theorem BdP.c7 (h:BdP tb hq t l low high mx last n E ps m x o pl pm H):hq.cell t 7=some (ptr x 0):=HP.cell_of h.cells
theorem BdP.c8 (h:BdP tb hq t l low high mx last n E ps m x o pl pm H):hq.cell t 8=some (ptr o 0):=HP.cell_of h.cells
theorem BdP.c9 (h:BdP tb hq t l low high mx last n E ps m x o pl pm H) {k:Nat} (hk:k<3):hq.cell t (9+k)=some (ptr (pl k) 0):=by
  rw [HP.cell_of h.cells]
  match k,hk with
  | 0,_=>rfl
  | 1,_=>rfl
  | 2,_=>rfl
theorem BdP.tabr (h:BdP tb hq t l low high mx last n E ps m x o pl pm H):TabR tb hq:=h.main.dig.sub (h.parts.sub 0)
theorem BdP.mapq (h:BdP tb hq t l low high mx last n E ps m x o pl pm H):MapE iw (fun k:Nat=>ptr k 0) (E.map fun e=>(e.1.id,e.2)) (hq m):=h.main.map.sub (h.parts.sub 0)
theorem BdP.blkq (h:BdP tb hq t l low high mx last n E ps m x o pl pm H) {e:Bd × Nat} (he:e∈E):hq e.2=.cells 97 (bdc e.1) 0:=(h.parts.sub 0).cells (h.main.blk e he)
theorem BdP.poolq (h:BdP tb hq t l low high mx last n E ps m x o pl pm H) {k:Nat} (hk:k<3):PoolR hq (pl k) l low high (H k) (pm k):=(h.pool k hk).sub (h.parts.sub (3+k))
theorem BdP.ids (h:BdP tb hq t l low high mx last n E ps m x o pl pm H):(E.map fun e=>e.1.id).Nodup:=by
  have:=h.inv.ids
  rwa [List.map_map] at this
theorem BdP.get (h:BdP tb hq t l low high mx last n E ps m x o pl pm H) (i:Int):getL i (E.map fun e=>(e.1.id,e.2))=(E.find? fun e=>decide (e.1.id=i)).map (·.2):=getL_mapK (fun e:Bd × Nat=>e.1.id) (fun e=>e.2) i E
theorem findE (i:Int):∀ E:List (Bd × Nat),(E.find? fun e=>decide (e.1.id=i)).map (·.1)=findI i (E.map (·.1))
  | []=>rfl
  | e::E=>by
    unfold findI
    rw [List.map_cons,List.find?_cons,List.find?_cons]
    by_cases h:e.1.id=i
    · rw [decide_eq_true h]; rfl
    · rw [decide_eq_false h]; exact findE i E
theorem BdW.sub {hp:HP} (h:BdW tb hq t l low high mx last n L) (hs:HSub hq hp):BdW tb hp t l low high mx last n L:=by
  obtain ⟨E,ps,m,x,o,pl,pm,e,h⟩:=h
  exact ⟨E,ps,m,x,o,pl,pm,e,⟨h.parts.weak hs,h.main,h.six,h.four,h.pool,h.inv⟩⟩
theorem BdW.inv (h:BdW tb hq t l low high mx last n L):InvB l low high mx last n L:=by
  obtain ⟨E,ps,m,x,o,pl,pm,rfl,h⟩:=h
  exact h.inv
theorem BdW.tab (h:BdW tb hq t l low high mx last n L):TabR tb hq:=by
  obtain ⟨E,ps,m,x,o,pl,pm,rfl,h⟩:=h
  exact h.tabr
theorem C88 (h:BdP tb hq t l low high mx last n E ps m x o pl pm H) (hK:K (.bool false) hq):CF Tryz.prog 88 [ptr t 0] hq K:=by
  refine F88_ok _ hq K ?_
  unfold F88
  simp only [Option.isNone_some,ite2_false,ptrN_some,Nat.reduceAdd,h.c6,ldV_some,mapV_map]
  exact hK
def toldV (r:Option Bd):Value:=.tuple ⟨[.agg ⟨bdc (r.getD bd0)⟩,.bool r.isSome]⟩
set_option maxHeartbeats 400000 in
theorem C89 (h:BdP tb hq t l low high mx last n E ps m x o pl pm H) {i:Int} {ok:Bool} (hok:ok=(findI i (E.map (·.1))).isSome) (hK:K (toldV (findI i (E.map (·.1)))) hq):CF Tryz.prog 89 [ptr t 0,.int .i64 i,.bool ok] hq K:=by
  subst hok
  refine F89_ok _ i _ hq K ?_
  unfold F89
  cases hf:E.find? fun e=>decide (e.1.id=i) with
  | none=>
    have hi:findI i (E.map (·.1))=none:=by rw [← findE,hf]; rfl
    rw [hi] at hK ⊢
    show ite2 true _ _
    rw [ite2_true]
    exact ifI rfl (ifI rfl (ifI (Nat.le_refl 26) hK))
  | some e=>
    have hi:findI i (E.map (·.1))=some e.1:=by rw [← findE,hf]; rfl
    obtain ⟨he,_⟩:=find_mem hf
    rw [hi] at hK ⊢
    show ite2 false _ _
    simp only [ite2_false,ptrN_some,Nat.reduceAdd,h.c6,ldV_some,mapV_map]
    refine rdS_lookup (l:=E.map fun e=>(e.1.id,e.2)) u123 enc3 (z:=.pointer none) (fun w=>itoa_zero (by kernel_rfl) w) h.mapq i (ev:=fun k:Nat=>ptr k 0) (cm:=false) ?_
    rw [h.get,hf]
    show ptrV (ptr e.2 0) _
    rw [pq,ptrN_some,HP.cellN_of (h.blkq he),bdc_cells,ldL_some]
    rw [if_pos (bdc_len _),if_pos (bdc_one _),if_pos (by simp [bdc_len])]
    rw [bd_spl rfl,bdc_cells,ldL_some]
    exact hK
theorem found6 (h:BdP tb hq t l low high mx last n E ps m x o pl pm H) {p:Int} {a:V6 × Int} (ha:okT6 a):getL (key6 p a) ((E.map (·.1)).map fun b=>(b.k6,b.id))=(find6 p a (E.map (·.1))).map (·.id):=by
  rw [getL_mapK Bd.k6 Bd.id,find6_key h.inv ha]
theorem found4 (h:BdP tb hq t l low high mx last n E ps m x o pl pm H) {p:Int} {a:Q × Int} (ha:okT a):getL (key4 p a) ((E.map (·.1)).map fun b=>(b.k4,b.id))=(find4 p a (E.map (·.1))).map (·.id):=by
  rw [getL_mapK Bd.k4 Bd.id,find4_key h.inv ha]
theorem findI_of {L:List Bd} (hn:(L.map (·.id)).Nodup) {b:Bd} (hb:b∈L):findI b.id L=some b:=find_of (g:=Bd.id) hn hb
theorem told_of {L:List Bd} (hn:(L.map (·.id)).Nodup) (h0:∀ b∈L,1≤b.id) {r:Option Bd} (hr:∀ b,r=some b→b∈L):findI ((r.map (·.id)).getD 0) L=r:=by
  cases r with
  | none=>
    refine find_none.2 fun b hb=>?_
    have:=h0 b hb
    exact decide_eq_false (by show ¬ b.id=0; omega)
  | some b=>exact findI_of hn (hr b rfl)
set_option maxHeartbeats 400000 in
theorem P65 (h:BdP tb hq t l low high mx last n E ps m x o pl pm H) {p:Int} {a:V6 × Int} (hp:okZ p) (ha:okT6 a) (hK:K (toldV (find6 p a (E.map (·.1)))) hq):CF Tryz.prog 65 [ptr t 0,.int .i64 p,.agg ⟨t6 a⟩] hq K:=by
  refine F65_ok _ p (t6 a) hq K ?_
  unfold F65
  refine C88 h ?_
  simp only [boolV_bool,ite2_false]
  have hr:findI (((find6 p a (E.map (·.1))).map (·.id)).getD 0) (E.map (·.1))=find6 p a (E.map (·.1)):=told_of h.inv.ids (fun b hb=>(h.inv.rng b hb).1) fun b hb=>(find6_mem hb).1
  have fin:∀ K':Value→HP→Prop,K' (toldV (find6 p a (E.map (·.1)))) hq→CF Tryz.prog 89 [ptr t 0,.int .i64 (((find6 p a (E.map (·.1))).map (·.id)).getD 0),.bool ((find6 p a (E.map (·.1))).map (·.id)).isSome] hq K':=fun K' hK'=>by
    refine C89 h (by rw [hr]; simp) ?_
    rw [hr]; exact hK'
  constructor
  all_goals
    simp only [ptrN_some,Nat.reduceAdd,h.c7,ldV_some,pq,t6_cells,ldL_some]
    refine C116 h.tabr hp ha.2 ?_
    simp only [strV_string,ptrN_some,Nat.reduceAdd,h.c7,ldV_some,pq]
    refine C74 (h.six.sub (h.parts.sub 1)) ?_
    rw [found6 h ha]
    simp only [tup2V_mk,intV_int,boolV_bool]
    refine fin _ ?_
    unfold toldV
    simp only [tup2V_mk,aggV_agg,boolV_bool]
    rw [if_pos (bdc_len _),if_pos (bdc_one _),if_pos (by simp [bdc_len])]
    rw [bd_spl rfl,bdc_cells,ldL_some]
    exact hK
set_option maxHeartbeats 400000 in
theorem P44 (h:BdP tb hq t l low high mx last n E ps m x o pl pm H) {p:Int} {a:Q × Int} (hp:okZ p) (ha:okT a) (hK:K (toldV (find4 p a (E.map (·.1)))) hq):CF Tryz.prog 44 [ptr t 0,.int .i64 p,.agg ⟨t4 a⟩] hq K:=by
  refine F44_ok _ p (t4 a) hq K ?_
  unfold F44
  refine C88 h ?_
  simp only [boolV_bool,ite2_false]
  have hr:findI (((find4 p a (E.map (·.1))).map (·.id)).getD 0) (E.map (·.1))=find4 p a (E.map (·.1)):=told_of h.inv.ids (fun b hb=>(h.inv.rng b hb).1) fun b hb=>(find4_mem hb).1
  have fin:∀ K':Value→HP→Prop,K' (toldV (find4 p a (E.map (·.1)))) hq→CF Tryz.prog 89 [ptr t 0,.int .i64 (((find4 p a (E.map (·.1))).map (·.id)).getD 0),.bool ((find4 p a (E.map (·.1))).map (·.id)).isSome] hq K':=fun K' hK'=>by
    refine C89 h (by rw [hr]; simp) ?_
    rw [hr]; exact hK'
  constructor
  all_goals
    simp only [ptrN_some,Nat.reduceAdd,h.c8,ldV_some,pq,t4_all,ldL_some]
    refine C90 h.tabr hp ha.2 ?_
    simp only [strV_string,ptrN_some,Nat.reduceAdd,h.c8,ldV_some,pq]
    refine C74 (h.four.sub (h.parts.sub 2)) ?_
    rw [found4 h ha]
    simp only [tup2V_mk,intV_int,boolV_bool]
    refine fin _ ?_
    unfold toldV
    simp only [tup2V_mk,aggV_agg,boolV_bool]
    rw [if_pos (bdc_len _),if_pos (bdc_one _),if_pos (by simp [bdc_len])]
    rw [bd_spl rfl,bdc_cells,ldL_some]
    exact hK
set_option maxHeartbeats 400000 in
theorem P61 (h:BdP tb hq t l low high mx last n E ps m x o pl pm H) {i:Int} (hK:K (toldV (findI i (E.map (·.1)))) hq):CF Tryz.prog 61 [ptr t 0,.int .i64 i] hq K:=by
  refine F61_ok _ i hq K ?_
  unfold F61
  refine C88 h ?_
  simp only [boolV_bool,ite2_false,ptrN_some,Nat.reduceAdd,h.c6,ldV_some,mapV_map]
  refine rdS_lookup (l:=E.map fun e=>(e.1.id,e.2)) u123 enc3 (z:=.pointer none) (fun w=>itoa_zero (by kernel_rfl) w) h.mapq i (ev:=fun k:Nat=>ptr k 0) (cm:=true) ?_
  rw [h.get]
  have main:CF Tryz.prog 89 [ptr t 0,.int .i64 i,.bool (findI i (E.map (·.1))).isSome] hq fun u_14 h_15=>(tup2V u_14 fun u_16 u_17=>(aggV u_16 fun l_18=>(boolV u_17 fun q_19=>(if List.length l_18=26 then (if List.all l_18 one=true then (if 0+List.length l_18≤List.length (bdc bd0) then (ldL (cellsN (splice (bdc bd0) 0 l_18) 0 26) fun l_20=>(K (.tuple ⟨[(.agg ⟨l_20⟩),(.bool q_19)]⟩) h_15)) else False) else False) else False)))):=by
    refine C89 h rfl ?_
    unfold toldV
    simp only [tup2V_mk,aggV_agg,boolV_bool]
    rw [if_pos (bdc_len _),if_pos (bdc_one _),if_pos (by simp [bdc_len])]
    rw [bd_spl rfl,bdc_cells,ldL_some]
    exact hK
  rw [← findE] at main
  cases hf:E.find? fun e=>decide (e.1.id=i) with
  | none=>rw [hf] at main; exact main
  | some e=>rw [hf] at main; exact main
end
end Go.Proofs
set_option linter.unusedVariables false
set_option linter.unusedSimpArgs false
namespace Go.Proofs
open Go Go.HL
section
variable {l:List Q} {low high:Int} {mx last n:Nat} {L:List Bd}
theorem InvB.filter (h:InvB l low high mx last n L) (p:Bd→Bool):InvB l low high mx last n (L.filter p) where
  asc:=h.asc.sublist (List.filter_sublist.map _)
  rng x hx:=h.rng x (List.mem_filter.1 hx).1
  keys6:=h.keys6.sublist (List.filter_sublist.map _)
  keys4:=h.keys4.sublist (List.filter_sublist.map _)
  ok x hx:=h.ok x (List.mem_filter.1 hx).1
  pool x hx:=h.pool x (List.mem_filter.1 hx).1
  len:=Nat.le_trans (List.length_filter_le _ _) h.len
  mx:=h.mx
  last:=h.last
  n:=h.n
  new:=h.new
  okl:=h.okl
theorem InvB.mono {n':Nat} (h:InvB l low high mx last n L) (hn:n≤n') (hn':n'≤1000000):InvB l low high mx last n' L:=
  { h with ok:=fun x hx=>by obtain ⟨a,b,c,d,e⟩:=h.ok x hx; exact ⟨a,b,c,d,by omega⟩,last:=Nat.le_trans h.last hn,n:=hn' }
theorem nodup_snoc {α β:Type} {f:α→β} {L:List α} {x:α} (h:(L.map f).Nodup) (hx:∀ y∈L,f y≠f x):((L++[x]).map f).Nodup:=by
  rw [List.map_append]
  refine List.nodup_append.2 ⟨h,by simp,fun a ha b hb e=>?_⟩
  obtain ⟨y,hy,rfl⟩:=List.mem_map.1 ha
  simp only [List.map_cons,List.map_nil,List.mem_singleton] at hb
  subst hb
  exact hx y hy e
theorem InvB.put (h:InvB l low high mx last n L) {x:Bd} (hid:x.id=((last+1:Nat):Int)) (hk:0≤kindB x.proto) (h6:okT6 x.inn) (h4:okT x.out) (hs:x.ses=0)
    (hp:x.out.1∈l∧isPort x.out.2=true∧isPort x.inn.2=true) (f6:find6 x.proto x.inn L=none) (f4:find4 x.proto x.out L=none) (hl:L.length<mx) (hn:n<1000000) :
    InvB l low high mx (last+1) (n+1) (L++[x]) where
  asc:=by
    rw [List.map_append]
    refine List.pairwise_append.2 ⟨h.asc,by simp,fun a ha b hb=>?_⟩
    obtain ⟨y,hy,rfl⟩:=List.mem_map.1 ha
    have:=(h.rng y hy).2
    simp only [List.map_cons,List.map_nil,List.mem_singleton] at hb
    subst hb; rw [hid]; omega
  rng y hy:=by
    rcases List.mem_append.1 hy with hy | hy
    · have:=h.rng y hy; omega
    · rw [List.mem_singleton.1 hy,hid]; omega
  keys6:=nodup_snoc h.keys6 fun y hy e=>by
    have:=(find_none.1 f6) y hy
    simp only [decide_eq_false_iff_not] at this
    simp only [Prod.mk.injEq] at e
    exact this e
  keys4:=nodup_snoc h.keys4 fun y hy e=>by
    have:=(find_none.1 f4) y hy
    simp only [decide_eq_false_iff_not] at this
    simp only [Prod.mk.injEq] at e
    exact this e
  ok y hy:=by
    rcases List.mem_append.1 hy with hy | hy
    · obtain ⟨a,b,c,d,e⟩:=h.ok y hy; exact ⟨a,b,c,d,by omega⟩
    · rw [List.mem_singleton.1 hy]; exact ⟨hk,h6,h4,by omega,by omega⟩
  pool y hy:=by
    rcases List.mem_append.1 hy with hy | hy
    · exact h.pool y hy
    · rw [List.mem_singleton.1 hy]; exact hp
  len:=by rw [List.length_append]; simp; omega
  mx:=h.mx
  last:=by have:=h.last; omega
  n:=by omega
  new:=h.new
  okl:=h.okl
def setS (i s:Int) (x:Bd):Bd:=if x.id=i then { x with ses:=s } else x
def updB (i s:Int) (L:List Bd):List Bd:=L.map (setS i s)
theorem setS_id (i s:Int) (x:Bd):(setS i s x).id=x.id:=by unfold setS; split <;> rfl
theorem setS_proto (i s:Int) (x:Bd):(setS i s x).proto=x.proto:=by unfold setS; split <;> rfl
theorem setS_inn (i s:Int) (x:Bd):(setS i s x).inn=x.inn:=by unfold setS; split <;> rfl
theorem setS_out (i s:Int) (x:Bd):(setS i s x).out=x.out:=by unfold setS; split <;> rfl
theorem setS_st (i s:Int) (x:Bd):(setS i s x).st=x.st:=by unfold setS; split <;> rfl
theorem setS_ses (i s:Int) (x:Bd):(setS i s x).ses=x.ses∨(setS i s x).ses=s:=by
  unfold setS; split
  · exact .inr rfl
  · exact .inl rfl
theorem upd_map {β:Type} (f:Bd→β) (i s:Int) (hf:∀ x,f (setS i s x)=f x):(updB i s L).map f=L.map f:=by
  unfold updB
  rw [List.map_map]
  exact List.map_congr_left fun x _=>hf x
theorem InvB.upd (h:InvB l low high mx last n L) {i s:Int} (hs:0≤s∧s≤n):InvB l low high mx last n (updB i s L) where
  asc:=by rw [upd_map (·.id) i s (setS_id i s)]; exact h.asc
  rng y hy:=by
    obtain ⟨x,hx,rfl⟩:=List.mem_map.1 hy
    rw [setS_id]; exact h.rng x hx
  keys6:=by rw [upd_map _ i s fun x=>by rw [setS_proto,setS_inn]]; exact h.keys6
  keys4:=by rw [upd_map _ i s fun x=>by rw [setS_proto,setS_out]]; exact h.keys4
  ok y hy:=by
    obtain ⟨x,hx,rfl⟩:=List.mem_map.1 hy
    obtain ⟨a,b,c,d,e⟩:=h.ok x hx
    rw [setS_proto,setS_inn,setS_out]
    refine ⟨a,b,c,?_⟩
    rcases setS_ses i s x with e' | e' <;> rw [e'] <;> omega
  pool y hy:=by
    obtain ⟨x,hx,rfl⟩:=List.mem_map.1 hy
    rw [setS_inn,setS_out]; exact h.pool x hx
  len:=by unfold updB; rw [List.length_map]; exact h.len
  mx:=h.mx
  last:=h.last
  n:=h.n
  new:=h.new
  okl:=h.okl
theorem held_put (x:Bd) (k:Int):heldB (L++[x]) k=if kindB x.proto=k then heldB L k++[(x.out,x.st)] else heldB L k:=by
  unfold heldB
  rw [List.filter_append,List.map_append]
  by_cases h:kindB x.proto=k
  · rw [if_pos h]
    simp [h]
  · rw [if_neg h]
    simp [h]
theorem held_upd (i s k:Int):heldB (updB i s L) k=heldB L k:=by
  unfold heldB updB
  rw [List.filter_map,List.map_map]
  have e:((fun b=>decide (kindB b.proto=k)) ∘ setS i s)=fun b:Bd=>decide (kindB b.proto=k):=funext fun x=>by
    simp only [Function.comp,setS_proto]
  rw [e]
  exact List.map_congr_left fun x _=>by simp only [Function.comp,setS_out,setS_st]
theorem InvB.outs (h:InvB l low high mx last n L) (k:Int):((L.filter fun b=>decide (kindB b.proto=k)).map (·.out)).Nodup:=by
  have h4:=(h.keys4).sublist ((List.filter_sublist (p:=fun b:Bd=>decide (kindB b.proto=k)) (l:=L)).map fun x=>(x.proto,x.out))
  unfold List.Nodup at h4 ⊢
  rw [List.pairwise_map] at h4 ⊢
  refine h4.imp_of_mem fun {a b} ha hb hab e=>hab ?_
  have ka:=of_decide_eq_true (List.mem_filter.1 ha).2
  have kb:=of_decide_eq_true (List.mem_filter.1 hb).2
  rw [kind_inj (h.ok a (List.mem_filter.1 ha).1).1 (ka.trans kb.symm),e]
theorem held_del (h:InvB l low high mx last n L) {x:Bd} (hx:x∈L):delL x.out (heldB L (kindB x.proto))=heldB (L.filter fun y=>decide (y.id≠x.id)) (kindB x.proto):=by
  unfold heldB
  rw [delL_mapK (fun b:Bd=>b.out) (fun b=>b.st) x.out (h.outs _),List.filter_filter,List.filter_filter]
  congr 1
  refine List.filter_congr fun y hy=>?_
  by_cases hk:kindB y.proto=kindB x.proto
  · rw [decide_eq_true hk,Bool.and_true,Bool.true_and]
    refine decide_eq_decide.2 ⟨fun e e'=>e ?_,fun e e'=>e ?_⟩
    · rw [inj_of h.ids hy hx e']
    · have hp:=kind_inj (h.ok y hy).1 hk
      rw [inj_of h.keys4 hy hx (by rw [hp,e'])]
  · rw [decide_eq_false hk,Bool.and_false,Bool.false_and]
theorem held_del_ne {x:Bd} (hx:x∈L) (hid:(L.map (·.id)).Nodup) {k:Int} (hk:kindB x.proto≠k):heldB (L.filter fun y=>decide (y.id≠x.id)) k=heldB L k:=by
  unfold heldB
  rw [List.filter_filter]
  congr 1
  refine List.filter_congr fun y hy=>?_
  by_cases hky:kindB y.proto=k
  · have:y.id≠x.id:=fun e=>hk (by rw [← inj_of hid hy hx e]; exact hky)
    simp [hky,this]
  · simp [hky]
theorem held_get (h:InvB l low high mx last n L) {p:Int} (hp:0≤kindB p) (o:Q × Int):getL o (heldB L (kindB p))=(find4 p o L).map (·.st):=by
  unfold heldB
  rw [getL_mapK (fun b:Bd=>b.out) (fun b=>b.st),List.find?_filter]
  congr 1
  refine find_congr fun x hx=>?_
  refine decide_eq_decide.2 ⟨fun ⟨a,b⟩=>⟨kind_inj (h.ok x hx).1 (of_decide_eq_true a),of_decide_eq_true b⟩,fun ⟨a,b⟩=>⟨decide_eq_true (by rw [a]),decide_eq_true b⟩⟩
theorem held_len (k:Int):(heldB L k).length≤L.length:=by
  unfold heldB
  rw [List.length_map]
  exact List.length_filter_le _ _
theorem putL_none {α β:Type} [DecidableEq α] {k:α} {v:β} {L:List (α × β)} (h:getL k L=none):putL k v L=L++[(k,v)]:=put_new h
end
end Go.Proofs
set_option linter.unusedVariables false
set_option maxRecDepth 20000
set_option maxHeartbeats 4000000
namespace Go.Proofs
open Go Go.HL
def F87_j2 (x3:OA) (k4:List Value) (hp:HP) (K:Kh):Prop:=
  (ptrN x3 fun b_26 o_27=>(ldL (HP.cellN hp b_26 o_27 26) fun l_28=>(if List.length l_28=26 then (if List.all l_28 one=true then (if 0+List.length l_28≤List.length k4 then (ldL (cellsN (splice k4 0 l_28) 0 26) fun l_29=>(K (.agg ⟨l_29⟩) hp)) else False) else False) else False)))
def F87_j1 (x0 x3:OA) (k4:List Value) (hp:HP) (K:Kh):Prop:=
  ((ptrN x0 fun b_30 o_31=>(ldV (HP.cell hp b_30 (o_31+8)) fun v_32=>(ptrV v_32 fun p_33=>(ptrN x3 fun b_34 o_35=>(ldV (HP.cell hp b_34 (o_35+1)) fun v_36=>(intV v_36 .i64 fun i_37=>(ptrN x3 fun b_38 o_39=>(ldL (HP.cellN hp b_38 (o_39+19) 5) fun l_40=>(CF Tryz.prog 90 [(Value.int .i64 i_37),(Value.agg ⟨l_40⟩)] hp fun u_41 h_42=>(strV u_41 fun s_43=>(ptrN x3 fun b_44 o_45=>(ldV (HP.cell h_42 b_44 (o_45+0)) fun v_46=>(intV v_46 .i64 fun i_47=>(CF Tryz.prog 68 [(Value.pointer p_33),(Value.string s_43),(Value.int .i64 i_47)] h_42 fun u_48 h_49=>(intV u_48 .i64 fun i_50=>(F87_j2 x3 k4 h_49  K))))))))))))))))∧(ptrN x0 fun b_51 o_52=>(ldV (HP.cell hp b_51 (o_52+8)) fun v_53=>(ptrV v_53 fun p_54=>(ptrN x3 fun b_55 o_56=>(ldV (HP.cell hp b_55 (o_56+1)) fun v_57=>(intV v_57 .i64 fun i_58=>(ptrN x3 fun b_59 o_60=>(ldL (HP.cellN hp b_59 (o_60+19) 5) fun l_61=>(ptrN x3 fun b_62 o_63=>(ldV (HP.cell hp b_62 (o_63+0)) fun v_64=>(intV v_64 .i64 fun i_65=>(CF Tryz.prog 90 [(Value.int .i64 i_58),(Value.agg ⟨l_61⟩)] hp fun u_66 h_67=>(strV u_66 fun s_68=>(CF Tryz.prog 68 [(Value.pointer p_54),(Value.string s_68),(Value.int .i64 i_65)] h_67 fun u_69 h_70=>(intV u_69 .i64 fun i_71=>(F87_j2 x3 k4 h_70  K))))))))))))))))∧(ptrN x0 fun b_72 o_73=>(ptrN x3 fun b_74 o_75=>(ldV (HP.cell hp b_74 (o_75+1)) fun v_76=>(intV v_76 .i64 fun i_77=>(ptrN x3 fun b_78 o_79=>(ldL (HP.cellN hp b_78 (o_79+19) 5) fun l_80=>(CF Tryz.prog 90 [(Value.int .i64 i_77),(Value.agg ⟨l_80⟩)] hp fun u_81 h_82=>(strV u_81 fun s_83=>(ldV (HP.cell h_82 b_72 (o_73+8)) fun v_84=>(ptrV v_84 fun p_85=>(ptrN x3 fun b_86 o_87=>(ldV (HP.cell h_82 b_86 (o_87+0)) fun v_88=>(intV v_88 .i64 fun i_89=>(CF Tryz.prog 68 [(Value.pointer p_85),(Value.string s_83),(Value.int .i64 i_89)] h_82 fun u_90 h_91=>(intV u_90 .i64 fun i_92=>(F87_j2 x3 k4 h_91  K))))))))))))))))∧(ptrN x0 fun b_93 o_94=>(ptrN x3 fun b_95 o_96=>(ldV (HP.cell hp b_95 (o_96+1)) fun v_97=>(intV v_97 .i64 fun i_98=>(ptrN x3 fun b_99 o_100=>(ldL (HP.cellN hp b_99 (o_100+19) 5) fun l_101=>(ptrN x3 fun b_102 o_103=>(ldV (HP.cell hp b_102 (o_103+0)) fun v_104=>(intV v_104 .i64 fun i_105=>(CF Tryz.prog 90 [(Value.int .i64 i_98),(Value.agg ⟨l_101⟩)] hp fun u_106 h_107=>(strV u_106 fun s_108=>(ldV (HP.cell h_107 b_93 (o_94+8)) fun v_109=>(ptrV v_109 fun p_110=>(CF Tryz.prog 68 [(Value.pointer p_110),(Value.string s_108),(Value.int .i64 i_105)] h_107 fun u_111 h_112=>(intV u_111 .i64 fun i_113=>(F87_j2 x3 k4 h_112  K)))))))))))))))))
def F87 (x0:OA) (x1:List Value) (hp:HP) (K:Kh):Prop:=
  (∀ b_1:Nat,hp b_1=.none→(ptrN x0 fun b_2 o_3=>(ldV (HP.cell (HP.set hp b_1 (.cells 97 x1 0)) b_2 (o_3+1)) fun v_4=>(intV v_4 .i64 fun i_5=>(ptrN x0 fun b_6 o_7=>(HP.st (HP.set hp b_1 (.cells 97 x1 0)) b_6 (o_7+1) (Value.int .i64 (IntKind.wrap .i64 (i_5+1))) fun h_8=>(ptrN x0 fun b_9 o_10=>(ldV (HP.cell h_8 b_9 (o_10+1)) fun v_11=>(intV v_11 .i64 fun i_12=>(ptrN (some ⟨b_1,0,none⟩) fun b_13 o_14=>(HP.st h_8 b_13 (o_14+0) (Value.int .i64 i_12) fun h_15=>(ptrN x0 fun b_16 o_17=>(ldV (HP.cell h_15 b_16 (o_17+6)) fun v_18=>(mapV v_18 fun m_19=>(ptrN (some ⟨b_1,0,none⟩) fun b_20 o_21=>(ldV (HP.cell h_15 b_20 (o_21+0)) fun v_22=>(intV v_22 .i64 fun i_23=>(opS Tryz.prog (Instr.mapUpdate 103 (Value.map m_19) (Value.int .i64 i_23) (Value.pointer (some ⟨b_1,0,none⟩))) h_15 fun u_24 h_25=>((ptrN x0 fun b_114 o_115=>(ldV (HP.cell h_25 b_114 (o_115+7)) fun v_116=>(ptrV v_116 fun p_117=>(ptrN (some ⟨b_1,0,none⟩) fun b_118 o_119=>(ldV (HP.cell h_25 b_118 (o_119+1)) fun v_120=>(intV v_120 .i64 fun i_121=>(ptrN (some ⟨b_1,0,none⟩) fun b_122 o_123=>(ldL (HP.cellN h_25 b_122 (o_123+2) 17) fun l_124=>(CF Tryz.prog 116 [(Value.int .i64 i_121),(Value.agg ⟨l_124⟩)] h_25 fun u_125 h_126=>(strV u_125 fun s_127=>(ptrN (some ⟨b_1,0,none⟩) fun b_128 o_129=>(ldV (HP.cell h_126 b_128 (o_129+0)) fun v_130=>(intV v_130 .i64 fun i_131=>(CF Tryz.prog 68 [(Value.pointer p_117),(Value.string s_127),(Value.int .i64 i_131)] h_126 fun u_132 h_133=>(intV u_132 .i64 fun i_134=>(F87_j1 x0 (some ⟨b_1,0,none⟩) [(Value.int .i64 0),(Value.int .i64 0),(Value.int .u8 0),(Value.int .u8 0),(Value.int .u8 0),(Value.int .u8 0),(Value.int .u8 0),(Value.int .u8 0),(Value.int .u8 0),(Value.int .u8 0),(Value.int .u8 0),(Value.int .u8 0),(Value.int .u8 0),(Value.int .u8 0),(Value.int .u8 0),(Value.int .u8 0),(Value.int .u8 0),(Value.int .u8 0),(Value.int .i64 0),(Value.int .u8 0),(Value.int .u8 0),(Value.int .u8 0),(Value.int .u8 0),(Value.int .i64 0),(Value.bool false),(Value.int .i64 0)] h_133  K))))))))))))))))∧(ptrN x0 fun b_135 o_136=>(ldV (HP.cell h_25 b_135 (o_136+7)) fun v_137=>(ptrV v_137 fun p_138=>(ptrN (some ⟨b_1,0,none⟩) fun b_139 o_140=>(ldV (HP.cell h_25 b_139 (o_140+1)) fun v_141=>(intV v_141 .i64 fun i_142=>(ptrN (some ⟨b_1,0,none⟩) fun b_143 o_144=>(ldL (HP.cellN h_25 b_143 (o_144+2) 17) fun l_145=>(ptrN (some ⟨b_1,0,none⟩) fun b_146 o_147=>(ldV (HP.cell h_25 b_146 (o_147+0)) fun v_148=>(intV v_148 .i64 fun i_149=>(CF Tryz.prog 116 [(Value.int .i64 i_142),(Value.agg ⟨l_145⟩)] h_25 fun u_150 h_151=>(strV u_150 fun s_152=>(CF Tryz.prog 68 [(Value.pointer p_138),(Value.string s_152),(Value.int .i64 i_149)] h_151 fun u_153 h_154=>(intV u_153 .i64 fun i_155=>(F87_j1 x0 (some ⟨b_1,0,none⟩) [(Value.int .i64 0),(Value.int .i64 0),(Value.int .u8 0),(Value.int .u8 0),(Value.int .u8 0),(Value.int .u8 0),(Value.int .u8 0),(Value.int .u8 0),(Value.int .u8 0),(Value.int .u8 0),(Value.int .u8 0),(Value.int .u8 0),(Value.int .u8 0),(Value.int .u8 0),(Value.int .u8 0),(Value.int .u8 0),(Value.int .u8 0),(Value.int .u8 0),(Value.int .i64 0),(Value.int .u8 0),(Value.int .u8 0),(Value.int .u8 0),(Value.int .u8 0),(Value.int .i64 0),(Value.bool false),(Value.int .i64 0)] h_154  K))))))))))))))))∧(ptrN x0 fun b_156 o_157=>(ptrN (some ⟨b_1,0,none⟩) fun b_158 o_159=>(ldV (HP.cell h_25 b_158 (o_159+1)) fun v_160=>(intV v_160 .i64 fun i_161=>(ptrN (some ⟨b_1,0,none⟩) fun b_162 o_163=>(ldL (HP.cellN h_25 b_162 (o_163+2) 17) fun l_164=>(CF Tryz.prog 116 [(Value.int .i64 i_161),(Value.agg ⟨l_164⟩)] h_25 fun u_165 h_166=>(strV u_165 fun s_167=>(ldV (HP.cell h_166 b_156 (o_157+7)) fun v_168=>(ptrV v_168 fun p_169=>(ptrN (some ⟨b_1,0,none⟩) fun b_170 o_171=>(ldV (HP.cell h_166 b_170 (o_171+0)) fun v_172=>(intV v_172 .i64 fun i_173=>(CF Tryz.prog 68 [(Value.pointer p_169),(Value.string s_167),(Value.int .i64 i_173)] h_166 fun u_174 h_175=>(intV u_174 .i64 fun i_176=>(F87_j1 x0 (some ⟨b_1,0,none⟩) [(Value.int .i64 0),(Value.int .i64 0),(Value.int .u8 0),(Value.int .u8 0),(Value.int .u8 0),(Value.int .u8 0),(Value.int .u8 0),(Value.int .u8 0),(Value.int .u8 0),(Value.int .u8 0),(Value.int .u8 0),(Value.int .u8 0),(Value.int .u8 0),(Value.int .u8 0),(Value.int .u8 0),(Value.int .u8 0),(Value.int .u8 0),(Value.int .u8 0),(Value.int .i64 0),(Value.int .u8 0),(Value.int .u8 0),(Value.int .u8 0),(Value.int .u8 0),(Value.int .i64 0),(Value.bool false),(Value.int .i64 0)] h_175  K))))))))))))))))∧(ptrN x0 fun b_177 o_178=>(ptrN (some ⟨b_1,0,none⟩) fun b_179 o_180=>(ldV (HP.cell h_25 b_179 (o_180+1)) fun v_181=>(intV v_181 .i64 fun i_182=>(ptrN (some ⟨b_1,0,none⟩) fun b_183 o_184=>(ldL (HP.cellN h_25 b_183 (o_184+2) 17) fun l_185=>(ptrN (some ⟨b_1,0,none⟩) fun b_186 o_187=>(ldV (HP.cell h_25 b_186 (o_187+0)) fun v_188=>(intV v_188 .i64 fun i_189=>(CF Tryz.prog 116 [(Value.int .i64 i_182),(Value.agg ⟨l_185⟩)] h_25 fun u_190 h_191=>(strV u_190 fun s_192=>(ldV (HP.cell h_191 b_177 (o_178+7)) fun v_193=>(ptrV v_193 fun p_194=>(CF Tryz.prog 68 [(Value.pointer p_194),(Value.string s_192),(Value.int .i64 i_189)] h_191 fun u_195 h_196=>(intV u_195 .i64 fun i_197=>(F87_j1 x0 (some ⟨b_1,0,none⟩) [(Value.int .i64 0),(Value.int .i64 0),(Value.int .u8 0),(Value.int .u8 0),(Value.int .u8 0),(Value.int .u8 0),(Value.int .u8 0),(Value.int .u8 0),(Value.int .u8 0),(Value.int .u8 0),(Value.int .u8 0),(Value.int .u8 0),(Value.int .u8 0),(Value.int .u8 0),(Value.int .u8 0),(Value.int .u8 0),(Value.int .u8 0),(Value.int .u8 0),(Value.int .i64 0),(Value.int .u8 0),(Value.int .u8 0),(Value.int .u8 0),(Value.int .u8 0),(Value.int .i64 0),(Value.bool false),(Value.int .i64 0)] h_196  K)))))))))))))))))))))))))))))))))))
theorem F87_ok (x0:OA) (x1:List Value) (hp:HP) (K:Kh) (h:F87 x0 x1 hp K):CF Tryz.prog 87 [(Value.pointer x0),(Value.agg ⟨x1⟩)] hp K:=
  have L:∀ {Q} n,Snd Tryz.prog 48 (cAt Tryz.f87 (pth n)) Q (CW Tryz.prog 48 [4] [(4,[(3,8),(8,10)],[([true,true],true,[0,1,2,3,4,5,6,7,8,9,10,11]),([true,false],true,[0,1,2,3,4,5,6,7,9,10,8,11]),([false,true],true,[0,1,2,4,5,6,7,8,3,9,10,11]),([false,false],true,[0,1,2,4,5,6,7,9,10,8,3,11])]),(5,[(3,8),(8,10)],[([true,true],true,[0,1,2,3,4,5,6,7,8,9,10,11]),([true,false],true,[0,1,2,3,4,5,6,7,9,10,8,11]),([false,true],true,[0,1,2,4,5,6,7,8,3,9,10,11]),([false,false],true,[0,1,2,4,5,6,7,9,10,8,3,11])])] (cAt Tryz.f87 (pth n)) Q):=fun _=>Snd.leaf
  okF h Tryz.func87 (Snd.seq (L 2) (Snd.seq (L 5) (Snd.seq (L 11) (Snd.seq (L 23) (Snd.jn [(0,.p),(3,.p),(4,.r 4 0),(4,.c 97)] (fun a hp=>F87_j1 a.1 a.2.1 a.2.2.1 hp  K) (L 47) (Snd.jn [(3,.p),(4,.r 4 0),(4,.c 97)] (fun a hp=>F87_j2 a.1 a.2.1 hp  K) (L 95) (L 127) (by rfl) (by kernel_rfl)) (by rfl) (by kernel_rfl)))))) (by kernel_rfl) (by kernel_rfl) (by kernel_rfl)
def F107_j1 (x0:OA) (k3:List Value) (hp:HP) (K:Kh):Prop:=
  ((ptrN x0 fun b_9 o_10=>(ldV (HP.cell hp b_9 (o_10+8)) fun v_11=>(ptrV v_11 fun p_12=>(ldV (k3)[1]? fun v_13=>(intV v_13 .i64 fun i_14=>(ldL (cellsN k3 19 5) fun l_15=>(CF Tryz.prog 90 [(Value.int .i64 i_14),(Value.agg ⟨l_15⟩)] hp fun u_16 h_17=>(strV u_16 fun s_18=>(CF Tryz.prog 78 [(Value.pointer p_12),(Value.string s_18)] h_17 fun u_19 h_20=>(boolV u_19 fun q_21=>(K (.tuple ⟨[]⟩) h_20)))))))))))∧(ptrN x0 fun b_22 o_23=>(ldV (k3)[1]? fun v_24=>(intV v_24 .i64 fun i_25=>(ldL (cellsN k3 19 5) fun l_26=>(CF Tryz.prog 90 [(Value.int .i64 i_25),(Value.agg ⟨l_26⟩)] hp fun u_27 h_28=>(strV u_27 fun s_29=>(ldV (HP.cell h_28 b_22 (o_23+8)) fun v_30=>(ptrV v_30 fun p_31=>(CF Tryz.prog 78 [(Value.pointer p_31),(Value.string s_29)] h_28 fun u_32 h_33=>(boolV u_32 fun q_34=>(K (.tuple ⟨[]⟩) h_33))))))))))))
def F107 (x0:OA) (x1:List Value) (hp:HP) (K:Kh):Prop:=
  (ptrN x0 fun b_1 o_2=>(ldV (HP.cell hp b_1 (o_2+6)) fun v_3=>(mapV v_3 fun m_4=>(ldV (x1)[0]? fun v_5=>(intV v_5 .i64 fun i_6=>(opS Tryz.prog (Builtin.delete_ #[103,3] 0 ⟨[(Value.map m_4),(Value.int .i64 i_6)]⟩) hp fun u_7 h_8=>((ptrN x0 fun b_35 o_36=>(ldV (HP.cell h_8 b_35 (o_36+7)) fun v_37=>(ptrV v_37 fun p_38=>(ldV (x1)[1]? fun v_39=>(intV v_39 .i64 fun i_40=>(ldL (cellsN x1 2 17) fun l_41=>(CF Tryz.prog 116 [(Value.int .i64 i_40),(Value.agg ⟨l_41⟩)] h_8 fun u_42 h_43=>(strV u_42 fun s_44=>(CF Tryz.prog 78 [(Value.pointer p_38),(Value.string s_44)] h_43 fun u_45 h_46=>(boolV u_45 fun q_47=>(F107_j1 x0 x1 h_46  K)))))))))))∧(ptrN x0 fun b_48 o_49=>(ldV (x1)[1]? fun v_50=>(intV v_50 .i64 fun i_51=>(ldL (cellsN x1 2 17) fun l_52=>(CF Tryz.prog 116 [(Value.int .i64 i_51),(Value.agg ⟨l_52⟩)] h_8 fun u_53 h_54=>(strV u_53 fun s_55=>(ldV (HP.cell h_54 b_48 (o_49+7)) fun v_56=>(ptrV v_56 fun p_57=>(CF Tryz.prog 78 [(Value.pointer p_57),(Value.string s_55)] h_54 fun u_58 h_59=>(boolV u_58 fun q_60=>(F107_j1 x0 x1 h_59  K))))))))))))))))))
theorem F107_ok (x0:OA) (x1:List Value) (hp:HP) (K:Kh) (h:F107 x0 x1 hp K):CF Tryz.prog 107 [(Value.pointer x0),(Value.agg ⟨x1⟩)] hp K:=
  have L:∀ {Q} n,Snd Tryz.prog 30 (cAt Tryz.f107 (pth n)) Q (CW Tryz.prog 30 [3,8,14,16,24,26] [(2,[(3,8)],[([true],true,[0,1,2,3,4,5,6,7,8,9]),([false],true,[0,1,2,4,5,6,7,8,3,9])]),(3,[(3,8)],[([true],true,[0,1,2,3,4,5,6,7,8,9]),([false],true,[0,1,2,4,5,6,7,8,3,9])])] (cAt Tryz.f107 (pth n)) Q):=fun _=>Snd.leaf
  okF h Tryz.func107 (Snd.seq (L 2) (Snd.seq (L 5) (Snd.jn [(0,.p),(3,.r 3 0),(3,.c 97)] (fun a hp=>F107_j1 a.1 a.2.1 hp  K) (L 11) (L 15) (by rfl) (by kernel_rfl)))) (by kernel_rfl) (by kernel_rfl) (by kernel_rfl)
def F85_j1 (x38:Bool) (hp:HP) (K:Kh):Prop:=
  (ite2 x38 (K (Value.int .i64 6) hp) (K (Value.int .i64 0) hp))
def F85 (x0:OA) (x1:Int) (x2:List Value) (hp:HP) (K:Kh):Prop:=
  (CF Tryz.prog 88 [(Value.pointer x0)] hp fun u_1 h_2=>(boolV u_1 fun q_3=>(ite2 q_3 (K (Value.int .i64 2) h_2) (CF Tryz.prog 98 [(Value.int .i64 x1)] h_2 fun u_4 h_5=>(intV u_4 .i64 fun i_6=>(ite2 (decide ((i_6:Int)<0)) (K (Value.int .i64 10) h_5) (ldV (x2)[16]? fun v_7=>(intV v_7 .i64 fun i_8=>(CF Tryz.prog 99 [(Value.int .i64 i_8)] h_5 fun u_9 h_10=>(boolV u_9 fun q_11=>(ite2 (!q_11) (K (Value.int .i64 1) h_10) (ldL (cellsN x2 0 17) fun l_12=>(CF Tryz.prog 65 [(Value.pointer x0),(Value.int .i64 x1),(Value.agg ⟨l_12⟩)] h_10 fun u_13 h_14=>(tup2V u_13 fun u_15 u_16=>(aggV u_15 fun l_17=>(boolV u_16 fun q_18=>(if List.length l_17=26 then (if List.all l_17 one=true then (if 0+List.length l_17≤List.length [(Value.int .i64 0),(Value.int .i64 0),(Value.int .u8 0),(Value.int .u8 0),(Value.int .u8 0),(Value.int .u8 0),(Value.int .u8 0),(Value.int .u8 0),(Value.int .u8 0),(Value.int .u8 0),(Value.int .u8 0),(Value.int .u8 0),(Value.int .u8 0),(Value.int .u8 0),(Value.int .u8 0),(Value.int .u8 0),(Value.int .u8 0),(Value.int .u8 0),(Value.int .i64 0),(Value.int .u8 0),(Value.int .u8 0),(Value.int .u8 0),(Value.int .u8 0),(Value.int .i64 0),(Value.bool false),(Value.int .i64 0)] then (ite2 q_18 (K (Value.int .i64 5) h_14) ((ptrN x0 fun b_19 o_20=>(ldV (HP.cell h_14 b_19 (o_20+6)) fun v_21=>(mapV v_21 fun m_22=>(rdS Tryz.prog (Builtin.len_ #[103] 3 #[.map m_22]) h_14 fun u_23=>(intV u_23 .i64 fun i_24=>(ptrN x0 fun b_25 o_26=>(ldV (HP.cell h_14 b_25 (o_26+0)) fun v_27=>(intV v_27 .i64 fun i_28=>(F85_j1 (decide ((i_24:Int)≥i_28)) h_14  K)))))))))∧(ptrN x0 fun b_29 o_30=>(ldV (HP.cell h_14 b_29 (o_30+6)) fun v_31=>(mapV v_31 fun m_32=>(ptrN x0 fun b_33 o_34=>(ldV (HP.cell h_14 b_33 (o_34+0)) fun v_35=>(intV v_35 .i64 fun i_36=>(rdS Tryz.prog (Builtin.len_ #[103] 3 #[.map m_32]) h_14 fun u_37=>(intV u_37 .i64 fun i_38=>(F85_j1 (decide ((i_38:Int)≥i_36)) h_14  K))))))))))) else False) else False) else False)))))))))))))))))
theorem F85_ok (x0:OA) (x1:Int) (x2:List Value) (hp:HP) (K:Kh) (h:F85 x0 x1 x2 hp K):CF Tryz.prog 85 [(Value.pointer x0),(Value.int .i64 x1),(Value.agg ⟨x2⟩)] hp K:=
  have L:∀ {Q} n,Snd Tryz.prog 39 (cAt Tryz.f85 (pth n)) Q (CW Tryz.prog 39 [5,7,17] [(10,[(4,8)],[([true],true,[0,1,2,3,4,5,6,7,8,9]),([false],true,[0,1,2,3,5,6,7,8,4,9])])] (cAt Tryz.f85 (pth n)) Q):=fun _=>Snd.leaf
  okF h Tryz.func85 (Snd.seq (L 2) (Snd.seq (L 5) (Snd.seq (L 11) (Snd.seq (Snd.jn [(38,.b)] (fun a hp=>F85_j1 a.1 hp  K) (L 39) (L 55) (by rfl) (by kernel_rfl)) (L 31))))) (by kernel_rfl) (by kernel_rfl) (by kernel_rfl)
end Go.Proofs
set_option linter.unusedVariables false
set_option linter.unusedSimpArgs false
set_option maxRecDepth 20000
namespace Go.Proofs
open Go Go.HL
section
variable {tb:Obj} {hq:HP} {t:Nat} {l:List Q} {low high:Int} {mx last n:Nat} {L:List Bd} {E:List (Bd × Nat)} {ps:Nat→HP} {m x o:Nat} {pl pm:Nat→Nat} {H:Nat→List ((Q × Int) × Bool)} {K:Value→HP→Prop}
theorem BdM.mt {h:HP} {f:Q} (hm:BdM tb h t mx last f E m x o pl):m≠t:=fun e=>by
  obtain ⟨es,clock,e1,_⟩:=hm.map
  rw [e,hm.tab] at e1; cases e1
theorem BdM.m0 {h:HP} {f:Q} (hm:BdM tb h t mx last f E m x o pl):m≠0:=fun e=>by
  obtain ⟨es,clock,e1,_⟩:=hm.map
  obtain ⟨g1,a,z,g2⟩:=hm.dig
  rw [e,g1,g2] at e1; cases e1
theorem BdM.t0 {h:HP} {f:Q} (hm:BdM tb h t mx last f E m x o pl):t≠0:=fun e=>by
  have:=hm.tab
  obtain ⟨g1,a,z,g2⟩:=hm.dig
  rw [e,g1] at this; cases this
theorem BdM.bt {h:HP} {f:Q} (hm:BdM tb h t mx last f E m x o pl) {e:Bd × Nat} (he:e∈E):e.2≠t:=fun e'=>by
  have:=hm.blk e he
  rw [e',hm.tab] at this; cases this
theorem BdM.bm {h:HP} {f:Q} (hm:BdM tb h t mx last f E m x o pl) {e:Bd × Nat} (he:e∈E):e.2≠m:=fun e'=>by
  have:=hm.blk e he
  obtain ⟨es,clock,e1,_⟩:=hm.map
  rw [e',e1] at this; cases this
theorem BdM.b0 {h:HP} {f:Q} (hm:BdM tb h t mx last f E m x o pl) {e:Bd × Nat} (he:e∈E):e.2≠0:=fun e'=>by
  have:=hm.blk e he
  obtain ⟨g1,a,z,g2⟩:=hm.dig
  rw [e',g1] at this; cases this
theorem pu_pu (ps:Nat→HP) (i:Nat) (a b:HP):pu (pu ps i a) i b=pu ps i b:=funext fun j=>by
  by_cases h:j=i
  · rw [h,pu_eq,pu_eq]
  · rw [pu_ne _ _ h,pu_ne _ _ h,pu_ne _ _ h]
theorem BdM.reads {A hp:HP} {f:Q} {qs:Nat→HP} (hm:BdM tb A t mx last f E m x o pl) (P:Parts hp qs) (hA:qs 0=A) :
    TabR tb hp∧hp.cell t 0=some (.int .i64 mx)∧hp.cell t 1=some (.int .i64 last)∧hp.cell t 6=some (.map (some m))∧hp.cell t 7=some (ptr x 0)∧hp.cell t 8=some (ptr o 0):=by
  have hs:HSub A hp:=hA▸P.sub 0
  have hc:=hs.cells hm.tab
  exact ⟨hm.dig.sub hs,HP.cell_of hc,HP.cell_of hc,HP.cell_of hc,HP.cell_of hc,HP.cell_of hc⟩
theorem BdM.readb {A hp:HP} {f:Q} {qs:Nat→HP} (hm:BdM tb A t mx last f E m x o pl) (P:Parts hp qs) (hA:qs 0=A) {y:Bd} {b:Nat} (hb:A b=.cells 97 (bdc y) 0) :
    hp.cell b 0=some (.int .i64 y.id)∧hp.cell b 1=some (.int .i64 y.proto)∧hp.cellN b 2 17=some (t6 y.inn)∧hp.cellN b 19 5=some (t4 y.out)∧hp.cellN b 0 26=some (bdc y):=by
  have hs:HSub A hp:=hA▸P.sub 0
  have hc:=hs.cells hb
  exact ⟨HP.cell_of hc,HP.cell_of hc,HP.cellN_of hc,HP.cellN_of hc,HP.cellN_of hc⟩
set_option maxHeartbeats 1000000 in
theorem P87 (h:BdP tb hq t l low high mx last n E ps m x o pl pm H) {y:Bd} (hk:0≤kindB y.proto) (h6:okT6 y.inn) (h4:okT y.out) (hs:y.ses=0)
    (hp:y.out.1∈l∧isPort y.out.2=true∧isPort y.inn.2=true) (f6:find6 y.proto y.inn (E.map (·.1))=none) (f4:find4 y.proto y.out (E.map (·.1))=none) (hl:E.length<mx) (hn:n<1000000)
    (hK:∀ hq' ps' b,BdP tb hq' t l low high mx (last+1) (n+1) (E++[({ y with id:=((last+1:Nat):Int) },b)]) ps' m x o pl pm H→K (.agg ⟨bdc { y with id:=((last+1:Nat):Int) }⟩) hq') :
    CF Tryz.prog 87 [ptr t 0,.agg ⟨bdc y⟩] hq K:=by
  refine F87_ok _ (bdc y) hq K ?_
  unfold F87
  refine fun (b:Nat) (hb:hq b=Ent.none)=>?_
  have hbq:∀ i,ps i b=.none:=fun i=>by
    rcases h.parts.sub i b with e | e
    · exact e
    · rw [e]; exact hb
  have htb:t≠b:=fun e=>by have:=hbq 0; rw [← e,h.main.tab] at this; cases this
  have hmb:m≠b:=fun e=>by
    obtain ⟨es,clock,e1,_⟩:=h.main.map
    have:=hbq 0; rw [← e,e1] at this; cases this
  have P1:=h.parts.new 0 hb (.cells 97 (bdc y) 0)
  have g1:(hq.set b (.cells 97 (bdc y) 0)) t=.cells 107 (tabC mx last (l.headD zq4) m x o pl) 0:=by rw [HP.set_ne _ _ htb]; exact h.cells
  have g2:(hq.set b (.cells 97 (bdc y) 0)) b=.cells 97 (bdc y) 0:=HP.set_eq ..
  have g3:((hq.set b (.cells 97 (bdc y) 0)) m)=hq m:=HP.set_ne _ _ hmb
  have c1:(hq.set b (.cells 97 (bdc y) 0)).cell t 1=some (.int .i64 last):=HP.cell_of g1
  simp only [ptrN_some,Nat.reduceAdd,c1,ldV_some,intV_int]
  have hla:=h.inv.last
  have w1:IntKind.wrap .i64 ((last:Int)+1)=((last+1:Nat):Int):=wi (by omega) (by omega)
  rw [w1]
  refine HP.st_at g1 (by simp [tabC,v4]) ?_
  have P2:=P1.put 0 (b:=t) (by rw [pu_eq,HP.set_ne _ _ htb,h.main.tab]; simp) (.cells 107 (tabC mx (last+1) (l.headD zq4) m x o pl) 0)
  rw [pu_eq,pu_pu] at P2
  rw [show (tabC mx last (l.headD zq4) m x o pl).set 1 (.int .i64 ((last+1:Nat):Int))=tabC mx (last+1) (l.headD zq4) m x o pl from rfl]
  have g4:((hq.set b (.cells 97 (bdc y) 0)).set t (.cells 107 (tabC mx (last+1) (l.headD zq4) m x o pl) 0)) t=.cells 107 (tabC mx (last+1) (l.headD zq4) m x o pl) 0:=HP.set_eq ..
  have g5:((hq.set b (.cells 97 (bdc y) 0)).set t (.cells 107 (tabC mx (last+1) (l.headD zq4) m x o pl) 0)) b=.cells 97 (bdc y) 0:=by rw [HP.set_ne _ _ htb.symm]; exact g2
  have g6:((hq.set b (.cells 97 (bdc y) 0)).set t (.cells 107 (tabC mx (last+1) (l.headD zq4) m x o pl) 0)) m=hq m:=by rw [HP.set_ne _ _ h.main.mt]; exact g3
  have c2:((hq.set b (.cells 97 (bdc y) 0)).set t (.cells 107 (tabC mx (last+1) (l.headD zq4) m x o pl) 0)).cell t 1=some (.int .i64 ((last+1:Nat):Int)):=HP.cell_of g4
  simp only [c2,ldV_some,intV_int]
  refine HP.st_at g5 (by simp [bdc_len]) ?_
  rw [show (bdc y).set 0 (.int .i64 ((last+1:Nat):Int))=bdc { y with id:=((last+1:Nat):Int) } from rfl]
  have P3:=P2.put 0 (b:=b) (by rw [pu_eq,HP.set_ne _ _ htb.symm,HP.set_eq]; simp) (.cells 97 (bdc { y with id:=((last+1:Nat):Int) }) 0)
  rw [pu_eq,pu_pu] at P3
  obtain ⟨y',hy'⟩:∃ y':Bd,y'={ y with id:=((last+1:Nat):Int) }:=⟨_,rfl⟩
  have ey:y'.id=((last+1:Nat):Int):=by rw [hy']
  have e6:y'.inn=y.inn:=by rw [hy']
  have e4:y'.out=y.out:=by rw [hy']
  have ep:y'.proto=y.proto:=by rw [hy']
  have es:y'.ses=y.ses:=by rw [hy']
  rw [← hy'] at P3 hK ⊢
  have hy0:∀ e∈E,e.1.id≠y'.id:=fun e he h'=>by
    have:=(h.inv.rng e.1 (List.mem_map.2 ⟨e,he,rfl⟩)).2
    rw [h',ey] at this; omega
  have htm:=h.main.mt.symm
  have q1:(((hq.set b (.cells 97 (bdc y) 0)).set t (.cells 107 (tabC mx (last+1) (l.headD zq4) m x o pl) 0)).set b (.cells 97 (bdc y') 0)) t=.cells 107 (tabC mx (last+1) (l.headD zq4) m x o pl) 0:=by rw [HP.set_ne _ _ htb]; exact g4
  have q2:(((hq.set b (.cells 97 (bdc y) 0)).set t (.cells 107 (tabC mx (last+1) (l.headD zq4) m x o pl) 0)).set b (.cells 97 (bdc y') 0)) b=.cells 97 (bdc y') 0:=HP.set_eq ..
  have q3:(((hq.set b (.cells 97 (bdc y) 0)).set t (.cells 107 (tabC mx (last+1) (l.headD zq4) m x o pl) 0)).set b (.cells 97 (bdc y') 0)) m=hq m:=by rw [HP.set_ne _ _ hmb]; exact g6
  have eA:∀ (e:Ent),MapE iw (fun k:Nat=>ptr k 0) (putL y'.id b (E.map fun e=>(e.1.id,e.2))) e→BdM tb (((((ps 0).set b (.cells 97 (bdc y) 0)).set t (.cells 107 (tabC mx (last+1) (l.headD zq4) m x o pl) 0)).set b (.cells 97 (bdc y') 0)).set m e) t mx (last+1) (l.headD zq4) (E++[(y',b)]) m x o pl:=by
    intro e he
    refine ⟨?_,?_,?_,?_⟩
    · rw [HP.set_ne _ _ htm,HP.set_ne _ _ htb,HP.set_eq]
    · rw [HP.set_eq]
      rw [put_new (getL_none.2 (by
        rw [List.map_map]
        intro hmem
        obtain ⟨e,hme,e2⟩:=List.mem_map.1 hmem
        exact hy0 e hme e2))] at he
      rw [List.map_append]
      exact he
    · intro e hme
      rcases List.mem_append.1 hme with hme | hme
      · have hbe:e.2≠b:=fun e'=>by
          have:=h.main.blk e hme
          rw [e',hbq 0] at this; cases this
        rw [HP.set_ne _ _ (h.main.bm hme),HP.set_ne _ _ hbe,HP.set_ne _ _ (h.main.bt hme),HP.set_ne _ _ hbe]
        exact h.main.blk e hme
      · rw [List.mem_singleton.1 hme]
        simp only
        rw [HP.set_ne _ _ hmb.symm,HP.set_eq]
    · refine ⟨?_,h.main.dig.2⟩
      have hb0:(0:Nat)≠b:=fun e'=>by
        have:=hbq 0
        rw [← e',h.main.dig.1] at this; cases this
      rw [HP.set_ne _ _ h.main.m0.symm,HP.set_ne _ _ hb0,HP.set_ne _ _ h.main.t0.symm,HP.set_ne _ _ hb0]
      exact h.main.dig.1
  have n1:((((ps 0).set b (.cells 97 (bdc y) 0)).set t (.cells 107 (tabC mx (last+1) (l.headD zq4) m x o pl) 0)).set b (.cells 97 (bdc y') 0)) m≠.none:=by
    rw [HP.set_ne _ _ hmb,HP.set_ne _ _ h.main.mt,HP.set_ne _ _ hmb]; exact h.main.map.ne
  have x1:ps 1=pu ps 0 ((((ps 0).set b (.cells 97 (bdc y) 0)).set t (.cells 107 (tabC mx (last+1) (l.headD zq4) m x o pl) 0)).set b (.cells 97 (bdc y') 0)) 1:=(pu_ne _ _ (by omega)).symm
  clear g1 g2 g3 g4 g5 g6 c1 c2 P1 P2
  generalize ((hq.set b (.cells 97 (bdc y) 0)).set t (.cells 107 (tabC mx (last+1) (l.headD zq4) m x o pl) 0)).set b (.cells 97 (bdc y') 0)=hq3 at *
  generalize hA3:((((ps 0).set b (.cells 97 (bdc y) 0)).set t (.cells 107 (tabC mx (last+1) (l.headD zq4) m x o pl) 0)).set b (.cells 97 (bdc y') 0))=A3 at *
  have c6:hq3.cell t 6=some (.map (some m)):=HP.cell_of q1
  have b0:hq3.cell b 0=some (.int .i64 y'.id):=HP.cell_of q2
  simp only [c6,b0,ldV_some,mapV_map,intV_int]
  refine opS_mapUpdate u123 enc3 (l:=E.map fun e=>(e.1.id,e.2)) (q3▸h.mapq) y'.id (ev:=fun k:Nat=>ptr k 0) b fun e he=>?_
  have hm:=eA e he
  have P4:=P3.put 0 (b:=m) (by rw [pu_eq]; exact n1) e
  rw [pu_eq,pu_pu] at P4
  generalize hq3.set m e=hq4 at *
  generalize A3.set m e=A at *
  have hAb:A b=.cells 97 (bdc y') 0:=hm.blk (y',b) (by simp)
  obtain ⟨r0,_,_,_,r7,r8⟩:=hm.reads P4 (pu_eq ..)
  obtain ⟨s0,s1,s2,s3,s4⟩:=hm.readb P4 (pu_eq ..) hAb
  have okp:okZ y'.proto:=by rw [ep]; exact okZ_kind hk
  have ok6':okT6 y'.inn:=by rw [e6]; exact h6
  have ok4':okT y'.out:=by rw [e4]; exact h4
  have new6:getL (key6 y'.proto y'.inn) ((E.map (·.1)).map fun b=>(b.k6,b.id))=none:=by rw [found6 h ok6',ep,e6,f6]; rfl
  have new4:getL (key4 y'.proto y'.out) ((E.map (·.1)).map fun b=>(b.k4,b.id))=none:=by rw [found4 h ok4',ep,e4,f4]; rfl
  have six:IdxR (pu ps 0 A 1) x mx ((E.map (·.1)).map fun b=>(b.k6,b.id)):=h.six
  have four:∀ l1,IdxR (pu (pu ps 0 A) 1 l1 2) o mx ((E.map (·.1)).map fun b=>(b.k4,b.id)):=fun l1=>h.four
  have inv':InvB l low high mx (last+1) (n+1) ((E++[(y',b)]).map (·.1)):=by
    rw [List.map_append]
    refine h.inv.put ey (by rw [ep]; exact hk) ok6' ok4' (by rw [es,hs]) (by rw [e4,e6]; exact hp) (by rw [ep,e6]; exact f6) (by rw [ep,e4]; exact f4) (by rw [List.length_map]; exact hl) hn
  have mid:∀ l1 hp',IdxR l1 x mx (((E.map (·.1)).map fun b=>(b.k6,b.id))++[(key6 y'.proto y'.inn,y'.id)])→Parts hp' (pu (pu ps 0 A) 1 l1)→F87_j1 (some ⟨t,0,none⟩) (some ⟨b,0,none⟩) (bdc bd0) hp' K:=by
    intro l1 hp' hl1 P5
    obtain ⟨v0,_,_,_,v7,v8⟩:=hm.reads P5 rfl
    obtain ⟨w0,w1,w2,w3,w4⟩:=hm.readb P5 rfl hAb
    unfold F87_j1
    have fin:∀ l2 hp2,IdxR l2 o mx (((E.map (·.1)).map fun b=>(b.k4,b.id))++[(key4 y'.proto y'.out,y'.id)])→Parts hp2 (pu (pu (pu ps 0 A) 1 l1) 2 l2)→F87_j2 (some ⟨b,0,none⟩) (bdc bd0) hp2 K:=by
      intro l2 hp2 hl2 P6
      obtain ⟨_,_,_,_,u4⟩:=hm.readb P6 rfl hAb
      unfold F87_j2
      simp only [ptrN_some,u4,ldL_some]
      rw [if_pos (bdc_len _),if_pos (bdc_one _),if_pos (by simp [bdc_len]),bdc_splice,bdc_cells,ldL_some]
      refine hK hp2 _ b ⟨P6,hm,?_,?_,fun k hk3=>?_,inv'⟩
      · rw [List.map_append,List.map_append]; exact hl1
      · rw [List.map_append,List.map_append]; exact hl2
      · have:pu (pu (pu ps 0 A) 1 l1) 2 l2 (3+k)=ps (3+k):=by
          rw [pu_ne _ _ (by omega),pu_ne _ _ (by omega),pu_ne _ _ (by omega)]
        rw [this]; exact h.pool k hk3
    have put4:∀ K':Value→HP→Prop,(∀ l2 hp2,IdxR l2 o mx (((E.map (·.1)).map fun b=>(b.k4,b.id))++[(key4 y'.proto y'.out,y'.id)])→Parts hp2 (pu (pu (pu ps 0 A) 1 l1) 2 l2)→K' (.int .i64 0) hp2)→CF Tryz.prog 68 [ptr o 0,.string (key4 y'.proto y'.out),.int .i64 y'.id] hp' K':=fun K' hK'=>
      N68 P5 2 (M:=(E.map (·.1)).map fun b=>(b.k4,b.id)) (four l1) new4 (by simpa using hl) h.inv.mx hK'
    refine ⟨?_,?_,?_,?_⟩
    all_goals
      simp only [ptrN_some,Nat.reduceAdd,v8,w0,w1,w3,ldV_some,ldL_some,pq,intV_int]
      refine C90 v0 okp ok4'.2 ?_
      simp only [strV_string,ptrN_some,Nat.reduceAdd,v8,w0,ldV_some,pq,intV_int]
      refine put4 _ fun l2 hp2 hl2 P6=>?_
      rw [intV_int]
      exact fin l2 hp2 hl2 P6
  have put6:∀ K':Value→HP→Prop,(∀ l1 hp',IdxR l1 x mx (((E.map (·.1)).map fun b=>(b.k6,b.id))++[(key6 y'.proto y'.inn,y'.id)])→Parts hp' (pu (pu ps 0 A) 1 l1)→K' (.int .i64 0) hp')→CF Tryz.prog 68 [ptr x 0,.string (key6 y'.proto y'.inn),.int .i64 y'.id] hq4 K':=fun K' hK'=>
    N68 P4 1 (M:=(E.map (·.1)).map fun b=>(b.k6,b.id)) six new6 (by simpa using hl) h.inv.mx hK'
  refine ⟨?_,?_,?_,?_⟩
  all_goals
    simp only [ptrN_some,Nat.reduceAdd,r7,s0,s1,s2,ldV_some,ldL_some,pq,intV_int]
    refine C116 r0 okp ok6'.2 ?_
    simp only [strV_string,ptrN_some,Nat.reduceAdd,r7,s0,ldV_some,pq,intV_int]
    refine put6 _ fun l1 hp' hl1 P5=>?_
    rw [intV_int]
    exact mid l1 hp' hl1 P5
theorem InvB.in6 {L:List Bd} (h:InvB l low high mx last n L) {y:Bd} (hy:y∈L):getL (key6 y.proto y.inn) (L.map fun b=>(b.k6,b.id))=some y.id∧delL (key6 y.proto y.inn) (L.map fun b=>(b.k6,b.id))=(L.filter fun z=>decide (z.id≠y.id)).map fun b=>(b.k6,b.id):=by
  constructor
  · have:=find_of (g:=Bd.k6) h.nd6 hy
    rw [getL_mapK Bd.k6 Bd.id]
    show (L.find? fun x=>decide (x.k6=y.k6)).map Bd.id=_
    rw [this]; rfl
  · rw [delL_mapK Bd.k6 Bd.id _ h.nd6]
    congr 1
    exact filter_congr_key (g:=Bd.k6) (f:=Bd.id) h.nd6 h.ids hy
theorem InvB.in4 {L:List Bd} (h:InvB l low high mx last n L) {y:Bd} (hy:y∈L):getL (key4 y.proto y.out) (L.map fun b=>(b.k4,b.id))=some y.id∧delL (key4 y.proto y.out) (L.map fun b=>(b.k4,b.id))=(L.filter fun z=>decide (z.id≠y.id)).map fun b=>(b.k4,b.id):=by
  constructor
  · have:=find_of (g:=Bd.k4) h.nd4 hy
    rw [getL_mapK Bd.k4 Bd.id]
    show (L.find? fun x=>decide (x.k4=y.k4)).map Bd.id=_
    rw [this]; rfl
  · rw [delL_mapK Bd.k4 Bd.id _ h.nd4]
    congr 1
    exact filter_congr_key (g:=Bd.k4) (f:=Bd.id) h.nd4 h.ids hy
theorem fst_filter (i:Int) (E:List (Bd × Nat)):(E.filter fun z=>decide (z.1.id≠i)).map (·.1)=(E.map (·.1)).filter fun z=>decide (z.id≠i):=by
  rw [List.filter_map]; rfl
set_option maxHeartbeats 1000000 in
theorem P107 (h:BdP tb hq t l low high mx last n E ps m x o pl pm H) {e:Bd × Nat} (he:e∈E)
    (hK:∀ hq' ps',BdP tb hq' t l low high mx last n (E.filter fun z=>decide (z.1.id≠e.1.id)) ps' m x o pl pm H→ps' 0 e.2=.cells 97 (bdc e.1) 0→K (.tuple ⟨[]⟩) hq') :
    CF Tryz.prog 107 [ptr t 0,.agg ⟨bdc e.1⟩] hq K:=by
  refine F107_ok _ (bdc e.1) hq K ?_
  unfold F107
  have hmem:e.1∈E.map (·.1):=List.mem_map.2 ⟨e,he,rfl⟩
  obtain ⟨k1,k2,k3,_,_⟩:=h.inv.ok e.1 hmem
  simp only [ptrN_some,Nat.reduceAdd,h.c6,ldV_some,mapV_map,bdc_id,intV_int]
  refine opS_delete u123 enc3 h.mapq e.1.id (ev:=fun k:Nat=>ptr k 0) fun ent hent=>?_
  rw [delL_mapK (fun z:Bd × Nat=>z.1.id) (fun z=>z.2) e.1.id h.ids] at hent
  have P1:=h.parts.put 0 (b:=m) h.main.map.ne ent
  have hm:BdM tb ((ps 0).set m ent) t mx last (l.headD zq4) (E.filter fun z=>decide (z.1.id≠e.1.id)) m x o pl:=by
    refine ⟨?_,?_,?_,?_⟩
    · rw [HP.set_ne _ _ h.main.mt.symm]; exact h.main.tab
    · rw [HP.set_eq]; exact hent
    · intro z hz
      have hz:=(List.mem_filter.1 hz).1
      rw [HP.set_ne _ _ (h.main.bm hz)]; exact h.main.blk z hz
    · exact ⟨by rw [HP.set_ne _ _ h.main.m0.symm]; exact h.main.dig.1,h.main.dig.2⟩
  have hblk:((ps 0).set m ent) e.2=.cells 97 (bdc e.1) 0:=by rw [HP.set_ne _ _ (h.main.bm he)]; exact h.main.blk e he
  generalize hq.set m ent=hq1 at *
  generalize (ps 0).set m ent=A at *
  obtain ⟨r0,_,_,_,r7,r8⟩:=hm.reads P1 (pu_eq ..)
  obtain ⟨i6,d6⟩:=h.inv.in6 hmem
  obtain ⟨i4,d4⟩:=h.inv.in4 hmem
  have six:IdxR (pu ps 0 A 1) x mx ((E.map (·.1)).map fun b=>(b.k6,b.id)):=h.six
  have four:∀ l1,IdxR (pu (pu ps 0 A) 1 l1 2) o mx ((E.map (·.1)).map fun b=>(b.k4,b.id)):=fun l1=>h.four
  have okp:okZ e.1.proto:=okZ_kind k1
  have mid:∀ l1 hp',IdxR l1 x mx (delL (key6 e.1.proto e.1.inn) ((E.map (·.1)).map fun b=>(b.k6,b.id)))→Parts hp' (pu (pu ps 0 A) 1 l1)→F107_j1 (some ⟨t,0,none⟩) (bdc e.1) hp' K:=by
    intro l1 hp' hl1 P5
    obtain ⟨v0,_,_,_,v7,v8⟩:=hm.reads P5 rfl
    unfold F107_j1
    have fin:∀ l2 hp2,IdxR l2 o mx (delL (key4 e.1.proto e.1.out) ((E.map (·.1)).map fun b=>(b.k4,b.id)))→Parts hp2 (pu (pu (pu ps 0 A) 1 l1) 2 l2)→K (.tuple ⟨[]⟩) hp2:=by
      intro l2 hp2 hl2 P6
      refine hK hp2 _ ⟨P6,hm,?_,?_,fun k hk3=>?_,?_⟩ hblk
      · rw [fst_filter,← d6]; exact hl1
      · rw [fst_filter,← d4]; exact hl2
      · have:pu (pu (pu ps 0 A) 1 l1) 2 l2 (3+k)=ps (3+k):=by
          rw [pu_ne _ _ (by omega),pu_ne _ _ (by omega),pu_ne _ _ (by omega)]
        rw [this]; exact h.pool k hk3
      · rw [fst_filter]; exact h.inv.filter _
    refine ⟨?_,?_⟩
    all_goals
      simp only [ptrN_some,Nat.reduceAdd,v8,bdc_proto,bdc_out,ldV_some,ldL_some,pq,intV_int]
      refine C90 v0 okp k3.2 ?_
      simp only [strV_string,ptrN_some,Nat.reduceAdd,v8,ldV_some,pq]
      refine N78 P5 2 (four l1) i4 h.inv.mx fun l2 hp2 hl2 P6=>?_
      rw [boolV_bool]
      exact fin l2 hp2 hl2 P6
  refine ⟨?_,?_⟩
  all_goals
    simp only [ptrN_some,Nat.reduceAdd,r7,bdc_proto,bdc_inn,ldV_some,ldL_some,pq,intV_int]
    refine C116 r0 okp k2.2 ?_
    simp only [strV_string,ptrN_some,Nat.reduceAdd,r7,ldV_some,pq]
    refine N78 P1 1 six i6 h.inv.mx fun l1 hp' hl1 P5=>?_
    rw [boolV_bool]
    exact mid l1 hp' hl1 P5
def mayB (p:Int) (a:V6 × Int) (L:List Bd) (mx:Nat):Int:=
  if kindB p<0 then 10 else if isPort a.2=false then 1 else if (find6 p a L).isSome then 5 else if L.length≥mx then 6 else 0
set_option maxHeartbeats 1000000 in
theorem P85 (h:BdP tb hq t l low high mx last n E ps m x o pl pm H) {p:Int} {a:V6 × Int} (hp:okZ p) (ha:okT6 a) (hK:K (.int .i64 (mayB p a (E.map (·.1)) mx)) hq):CF Tryz.prog 85 [ptr t 0,.int .i64 p,.agg ⟨t6 a⟩] hq K:=by
  refine F85_ok _ p (t6 a) hq K ?_
  unfold F85
  refine C88 h ?_
  rw [boolV_bool,ite2_false]
  refine C98 ?_
  rw [intV_int]
  by_cases c1:kindB p<0
  · rw [decide_eq_true c1,ite2_true]
    rw [show mayB p a (E.map (·.1)) mx=10 from if_pos c1] at hK
    exact hK
  rw [decide_eq_false c1,ite2_false,t6_port,ldV_some,intV_int]
  refine C99 ?_
  rw [boolV_bool]
  cases c2:isPort a.2 with
  | false=>
    rw [Bool.not_false,ite2_true]
    rw [show mayB p a (E.map (·.1)) mx=1 from by unfold mayB; rw [if_neg c1,if_pos c2]] at hK
    exact hK
  | true=>
    rw [Bool.not_true,ite2_false,t6_cells,ldL_some]
    refine P65 h hp ha ?_
    unfold toldV
    simp only [tup2V_mk,aggV_agg,boolV_bool]
    rw [if_pos (bdc_len _),if_pos (bdc_one _),if_pos (by simp [bdc_len])]
    have c2':¬ isPort a.2=false:=by rw [c2]; decide
    cases c3:(find6 p a (E.map (·.1))).isSome with
    | true=>
      rw [ite2_true]
      rw [show mayB p a (E.map (·.1)) mx=5 from by unfold mayB; rw [if_neg c1,if_neg c2',if_pos c3]] at hK
      exact hK
    | false=>
      rw [ite2_false]
      have c3':¬ (find6 p a (E.map (·.1))).isSome=true:=by rw [c3]; decide
      have hlen:∀ {c:Value→Prop},c (.int .i64 ((E.map (·.1)).length:Nat))→rdS Tryz.prog (Builtin.len_ #[103] 3 #[.map (some m)]) hq c:=fun hc=>by
        refine rdS_mapLen u123 h.mapq ?_
        rw [List.length_map] at hc ⊢
        exact hc
      have fin:F85_j1 (decide ((((E.map (·.1)).length:Nat):Int)≥(mx:Nat))) hq K:=by
        unfold F85_j1
        by_cases c4:(E.map (·.1)).length≥mx
        · rw [decide_eq_true (by omega),ite2_true]
          rw [show mayB p a (E.map (·.1)) mx=6 from by unfold mayB; rw [if_neg c1,if_neg c2',if_neg c3',if_pos c4]] at hK
          exact hK
        · rw [decide_eq_false (by omega),ite2_false]
          rw [show mayB p a (E.map (·.1)) mx=0 from by unfold mayB; rw [if_neg c1,if_neg c2',if_neg c3',if_neg c4]] at hK
          exact hK
      refine ⟨?_,?_⟩
      · simp only [ptrN_some,Nat.reduceAdd,h.c6,ldV_some,mapV_map]
        refine hlen ?_
        simp only [intV_int,h.c0,ldV_some]
        exact fin
      · simp only [ptrN_some,Nat.reduceAdd,h.c6,h.c0,ldV_some,mapV_map,intV_int]
        refine hlen ?_
        rw [intV_int]
        exact fin
end
end Go.Proofs
set_option linter.unusedVariables false
set_option maxRecDepth 20000
set_option maxHeartbeats 4000000
namespace Go.Proofs
open Go Go.HL
def F131_j1 (k4 k6:List Value) (hp:HP) (K:Kh):Prop:=
  (ldL (cellsN k6 0 4) fun l_4=>(if List.length l_4=4 then (if List.all l_4 one=true then (if 0+List.length l_4≤List.length k4 then (ldL (cellsN (splice k4 0 l_4) 0 4) fun l_5=>(K (.agg ⟨l_5⟩) hp)) else False) else False) else False))
def F131_j4 (x5 x7:Int) (x8:OA) (x17:Value) (x38:Bool) (k3 k4 k6:List Value) (hp:HP) (I3:(Int × (List Value))→HP→Prop) (K:Value→HP→Prop):Prop:=
  (ite2 x38 (ptrN x8 fun b_15 o_16=>(ldL (HP.cellN hp b_15 ((o_16+19)+0) 4) fun l_17=>(if List.length l_17=4 then (if List.all l_17 one=true then (if 0+List.length l_17≤List.length k6 then (I3 (x7,(splice k6 0 l_17)) hp) else False) else False) else False))) (I3 (x5,k6) hp))
def F131_l3 (x17:Value) (k3 k4:List Value) (K:Kh) (I3:(Int × (List Value))→HP→Prop) (x5:Int) (k6:List Value) (hp:HP):Prop:=
  (opS Tryz.prog (Instr.next x17 false 0) hp fun u_6 h_7=>(tupI u_6 0 fun v_8=>(boolV v_8 fun q_9=>(ite2 q_9 (rdS Tryz.prog (Instr.entry x17) h_7 fun u_10=>(tupI u_10 0 fun v_11=>(intV v_11 .i64 fun i_12=>(tupI u_10 1 fun v_13=>(ptrV v_13 fun p_14=>(ptrN p_14 fun b_18 o_19=>(ldL (HP.cellN h_7 b_18 ((o_19+2)+0) 16) fun l_20=>(ldL (cellsN k3 0 16) fun l_21=>(eqAgg Tryz.prog 93 l_20 l_21 fun q_22=>(ite2 q_22 (ite2 ((x5:Int)==0) (F131_j4 x5 i_12 p_14 x17 true k3 k4 k6 h_7 I3 K) (F131_j4 x5 i_12 p_14 x17 (decide ((i_12:Int)<x5)) k3 k4 k6 h_7 I3 K)) (F131_j4 x5 i_12 p_14 x17 false k3 k4 k6 h_7 I3 K))))))))))) (F131_j1 k4 k6 h_7  K)))))
def F131_j2 (x5:Int) (x17:Value) (k3 k4 k6:List Value) (hp:HP) (K:Kh):Prop:=
  (LoopP (σ:=Int × (List Value)) (fun I s hp=>F131_l3 x17 k3 k4  K I s.1 s.2 hp) (x5,k6) hp)
def F131 (x0:OA) (x1:List Value) (hp:HP) (K:Kh):Prop:=
  (ptrN x0 fun b_1 o_2=>(ldL (HP.cellN hp b_1 (o_2+2) 4) fun l_3=>(if List.length l_3=4 then (if List.all l_3 one=true then (if 0+List.length l_3≤List.length [(Value.int .u8 0),(Value.int .u8 0),(Value.int .u8 0),(Value.int .u8 0)] then (ptrN x0 fun b_23 o_24=>(ldV (HP.cell hp b_23 (o_24+6)) fun v_25=>(mapV v_25 fun m_26=>(opS Tryz.prog (Instr.range 103 (Value.map m_26)) hp fun u_27 h_28=>(F131_j2 0 u_27 x1 [(Value.int .u8 0),(Value.int .u8 0),(Value.int .u8 0),(Value.int .u8 0)] (splice [(Value.int .u8 0),(Value.int .u8 0),(Value.int .u8 0),(Value.int .u8 0)] 0 l_3) h_28  K))))) else False) else False) else False)))
theorem F131_ok (x0:OA) (x1:List Value) (hp:HP) (K:Kh) (h:F131 x0 x1 hp K):CF Tryz.prog 131 [(Value.pointer x0),(Value.agg ⟨x1⟩)] hp K:=
  have L:∀ {Q} n,Snd Tryz.prog 46 (cAt Tryz.f131 (pth n)) Q (CW Tryz.prog 46 [3,4,6] [] (cAt Tryz.f131 (pth n)) Q):=fun _=>Snd.leaf
  okF h Tryz.func131 (Snd.seq (L 2) (Snd.seq (L 5) (Snd.jn [(4,.r 4 0),(6,.r 6 0),(4,.c 54),(6,.c 54)] (fun a hp=>F131_j1 a.1 a.2.1 hp  K) (Snd.jn [(3,.r 3 0),(4,.r 4 0),(5,.i .i64),(6,.r 6 0),(17,.w),(3,.c 93),(4,.c 54),(6,.c 54)] (fun a hp=>F131_j2 a.1 a.2.1 a.2.2.1 a.2.2.2.1 a.2.2.2.2.1 hp  K) (L 19) (Snd.block 0 (Snd.lp (σ:=Int × (List Value)) [(3,.r 3 0),(4,.r 4 0),(5,.i .i64),(6,.r 6 0),(17,.w),(3,.c 93),(4,.c 54),(6,.c 54)] (fun a=>(a.1,a.2.2.2.2.1)) (fun a s=>(s.1,a.2.1,a.2.2.1,a.2.2.2.1,s.2,())) (fun a I s hp=>F131_l3 a.2.1 a.2.2.1 a.2.2.2.1  K I s.1 s.2 hp) (fun I3=>(Snd.seq (L 139) (Snd.seq (L 331) (Snd.block 1 (Snd.seq (L 1227) (Snd.jn [(3,.r 3 0),(4,.r 4 0),(5,.i .i64),(6,.r 6 0),(7,.i .i64),(8,.p),(17,.w),(38,.b),(3,.c 93),(4,.c 54),(6,.c 54)] (fun a hp=>F131_j4 a.1 a.2.1 a.2.2.1 a.2.2.2.1 a.2.2.2.2.1 a.2.2.2.2.2.1 a.2.2.2.2.2.2.1 a.2.2.2.2.2.2.2.1 hp (fun s hp=>I3 (s.1,a.2.2.2.1,a.2.2.2.2.2.1,a.2.2.2.2.2.2.1,s.2,()) hp) K) (L 2763) (L 3787) (by rfl) (by kernel_rfl))))))) (by rfl) (by kernel_rfl) (by kernel_rfl))) (by rfl) (by kernel_rfl)) (L 15) (by rfl) (by kernel_rfl)))) (by kernel_rfl) (by kernel_rfl) (by kernel_rfl)
def F86_j1 (x9:Int) (k6 k8:List Value) (hp:HP) (K:Kh):Prop:=
  (ite2 ((x9:Int) != 0) (if List.length [(Value.int .u8 0),(Value.int .u8 0),(Value.int .u8 0),(Value.int .u8 0),(Value.int .i64 0)]=5 then (if List.all [(Value.int .u8 0),(Value.int .u8 0),(Value.int .u8 0),(Value.int .u8 0),(Value.int .i64 0)] one=true then (if 0+List.length [(Value.int .u8 0),(Value.int .u8 0),(Value.int .u8 0),(Value.int .u8 0),(Value.int .i64 0)]≤List.length k6 then (ldL (cellsN (splice k6 0 [(Value.int .u8 0),(Value.int .u8 0),(Value.int .u8 0),(Value.int .u8 0),(Value.int .i64 0)]) 0 5) fun l_1=>(K (.tuple ⟨[(.agg ⟨l_1⟩),(Value.int .i64 13)]⟩) hp)) else False) else False) else False) (ldL (cellsN k8 0 5) fun l_2=>(if List.length l_2=5 then (if List.all l_2 one=true then (if 0+List.length l_2≤List.length k6 then (ldL (cellsN (splice k6 0 l_2) 0 5) fun l_3=>(K (.tuple ⟨[(.agg ⟨l_3⟩),(Value.int .i64 0)]⟩) hp)) else False) else False) else False)))
def F86 (x0:OA) (x1:Int) (x2:List Value) (hp:HP) (K:Kh):Prop:=
  ((CF Tryz.prog 98 [(Value.int .i64 x1)] hp fun u_4 h_5=>(intV u_4 .i64 fun i_6=>(ptrN x0 fun b_7 o_8=>((0≤(i_6:Int))∧((i_6:Int)<(3:Nat))∧(ldV (HP.cell h_5 b_7 ((o_8+9)+Int.toNat i_6*1)) fun v_9=>(ptrV v_9 fun p_10=>(ldL (cellsN x2 0 16) fun l_11=>(CF Tryz.prog 131 [(Value.pointer x0),(Value.agg ⟨l_11⟩)] h_5 fun u_12 h_13=>(aggV u_12 fun l_14=>(ldV (x2)[16]? fun v_15=>(intV v_15 .i64 fun i_16=>(CF Tryz.prog 130 [(Value.pointer p_10),(Value.agg ⟨l_14⟩),(Value.int .i64 i_16),(Value.bool ((x1:Int)==1))] h_13 fun u_17 h_18=>(tup2V u_17 fun u_19 u_20=>(aggV u_19 fun l_21=>(intV u_20 .i64 fun i_22=>(if List.length l_21=5 then (if List.all l_21 one=true then (if 0+List.length l_21≤List.length [(Value.int .u8 0),(Value.int .u8 0),(Value.int .u8 0),(Value.int .u8 0),(Value.int .i64 0)] then (F86_j1 i_22 [(Value.int .u8 0),(Value.int .u8 0),(Value.int .u8 0),(Value.int .u8 0),(Value.int .i64 0)] (splice [(Value.int .u8 0),(Value.int .u8 0),(Value.int .u8 0),(Value.int .u8 0),(Value.int .i64 0)] 0 l_21) h_18  K) else False) else False) else False))))))))))))))))∧(CF Tryz.prog 98 [(Value.int .i64 x1)] hp fun u_23 h_24=>(intV u_23 .i64 fun i_25=>(ptrN x0 fun b_26 o_27=>((0≤(i_25:Int))∧((i_25:Int)<(3:Nat))∧(ldV (HP.cell h_24 b_26 ((o_27+9)+Int.toNat i_25*1)) fun v_28=>(ptrV v_28 fun p_29=>(ldL (cellsN x2 0 16) fun l_30=>(CF Tryz.prog 131 [(Value.pointer x0),(Value.agg ⟨l_30⟩)] h_24 fun u_31 h_32=>(aggV u_31 fun l_33=>(ldV (x2)[16]? fun v_34=>(intV v_34 .i64 fun i_35=>(CF Tryz.prog 130 [(Value.pointer p_29),(Value.agg ⟨l_33⟩),(Value.int .i64 i_35),(Value.bool ((x1:Int)==1))] h_32 fun u_36 h_37=>(tup2V u_36 fun u_38 u_39=>(aggV u_38 fun l_40=>(intV u_39 .i64 fun i_41=>(if List.length l_40=5 then (if List.all l_40 one=true then (if 0+List.length l_40≤List.length [(Value.int .u8 0),(Value.int .u8 0),(Value.int .u8 0),(Value.int .u8 0),(Value.int .i64 0)] then (F86_j1 i_41 [(Value.int .u8 0),(Value.int .u8 0),(Value.int .u8 0),(Value.int .u8 0),(Value.int .i64 0)] (splice [(Value.int .u8 0),(Value.int .u8 0),(Value.int .u8 0),(Value.int .u8 0),(Value.int .i64 0)] 0 l_40) h_37  K) else False) else False) else False))))))))))))))))∧(CF Tryz.prog 98 [(Value.int .i64 x1)] hp fun u_42 h_43=>(intV u_42 .i64 fun i_44=>(ptrN x0 fun b_45 o_46=>((0≤(i_44:Int))∧((i_44:Int)<(3:Nat))∧(ldV (HP.cell h_43 b_45 ((o_46+9)+Int.toNat i_44*1)) fun v_47=>(ptrV v_47 fun p_48=>(ldV (x2)[16]? fun v_49=>(intV v_49 .i64 fun i_50=>(ldL (cellsN x2 0 16) fun l_51=>(CF Tryz.prog 131 [(Value.pointer x0),(Value.agg ⟨l_51⟩)] h_43 fun u_52 h_53=>(aggV u_52 fun l_54=>(CF Tryz.prog 130 [(Value.pointer p_48),(Value.agg ⟨l_54⟩),(Value.int .i64 i_50),(Value.bool ((x1:Int)==1))] h_53 fun u_55 h_56=>(tup2V u_55 fun u_57 u_58=>(aggV u_57 fun l_59=>(intV u_58 .i64 fun i_60=>(if List.length l_59=5 then (if List.all l_59 one=true then (if 0+List.length l_59≤List.length [(Value.int .u8 0),(Value.int .u8 0),(Value.int .u8 0),(Value.int .u8 0),(Value.int .i64 0)] then (F86_j1 i_60 [(Value.int .u8 0),(Value.int .u8 0),(Value.int .u8 0),(Value.int .u8 0),(Value.int .i64 0)] (splice [(Value.int .u8 0),(Value.int .u8 0),(Value.int .u8 0),(Value.int .u8 0),(Value.int .i64 0)] 0 l_59) h_56  K) else False) else False) else False))))))))))))))))∧(CF Tryz.prog 98 [(Value.int .i64 x1)] hp fun u_61 h_62=>(intV u_61 .i64 fun i_63=>(ptrN x0 fun b_64 o_65=>((0≤(i_63:Int))∧((i_63:Int)<(3:Nat))∧(ldV (HP.cell h_62 b_64 ((o_65+9)+Int.toNat i_63*1)) fun v_66=>(ptrV v_66 fun p_67=>(ldL (cellsN x2 0 16) fun l_68=>(CF Tryz.prog 131 [(Value.pointer x0),(Value.agg ⟨l_68⟩)] h_62 fun u_69 h_70=>(aggV u_69 fun l_71=>(ldV (x2)[16]? fun v_72=>(intV v_72 .i64 fun i_73=>(CF Tryz.prog 130 [(Value.pointer p_67),(Value.agg ⟨l_71⟩),(Value.int .i64 i_73),(Value.bool ((x1:Int)==1))] h_70 fun u_74 h_75=>(tup2V u_74 fun u_76 u_77=>(aggV u_76 fun l_78=>(intV u_77 .i64 fun i_79=>(if List.length l_78=5 then (if List.all l_78 one=true then (if 0+List.length l_78≤List.length [(Value.int .u8 0),(Value.int .u8 0),(Value.int .u8 0),(Value.int .u8 0),(Value.int .i64 0)] then (F86_j1 i_79 [(Value.int .u8 0),(Value.int .u8 0),(Value.int .u8 0),(Value.int .u8 0),(Value.int .i64 0)] (splice [(Value.int .u8 0),(Value.int .u8 0),(Value.int .u8 0),(Value.int .u8 0),(Value.int .i64 0)] 0 l_78) h_75  K) else False) else False) else False))))))))))))))))∧(CF Tryz.prog 98 [(Value.int .i64 x1)] hp fun u_80 h_81=>(intV u_80 .i64 fun i_82=>(ptrN x0 fun b_83 o_84=>((0≤(i_82:Int))∧((i_82:Int)<(3:Nat))∧(ldL (cellsN x2 0 16) fun l_85=>(CF Tryz.prog 131 [(Value.pointer x0),(Value.agg ⟨l_85⟩)] h_81 fun u_86 h_87=>(aggV u_86 fun l_88=>(ldV (HP.cell h_87 b_83 ((o_84+9)+Int.toNat i_82*1)) fun v_89=>(ptrV v_89 fun p_90=>(ldV (x2)[16]? fun v_91=>(intV v_91 .i64 fun i_92=>(CF Tryz.prog 130 [(Value.pointer p_90),(Value.agg ⟨l_88⟩),(Value.int .i64 i_92),(Value.bool ((x1:Int)==1))] h_87 fun u_93 h_94=>(tup2V u_93 fun u_95 u_96=>(aggV u_95 fun l_97=>(intV u_96 .i64 fun i_98=>(if List.length l_97=5 then (if List.all l_97 one=true then (if 0+List.length l_97≤List.length [(Value.int .u8 0),(Value.int .u8 0),(Value.int .u8 0),(Value.int .u8 0),(Value.int .i64 0)] then (F86_j1 i_98 [(Value.int .u8 0),(Value.int .u8 0),(Value.int .u8 0),(Value.int .u8 0),(Value.int .i64 0)] (splice [(Value.int .u8 0),(Value.int .u8 0),(Value.int .u8 0),(Value.int .u8 0),(Value.int .i64 0)] 0 l_97) h_94  K) else False) else False) else False))))))))))))))))∧(CF Tryz.prog 98 [(Value.int .i64 x1)] hp fun u_99 h_100=>(intV u_99 .i64 fun i_101=>(ptrN x0 fun b_102 o_103=>((0≤(i_101:Int))∧((i_101:Int)<(3:Nat))∧(ldL (cellsN x2 0 16) fun l_104=>(CF Tryz.prog 131 [(Value.pointer x0),(Value.agg ⟨l_104⟩)] h_100 fun u_105 h_106=>(aggV u_105 fun l_107=>(ldV (HP.cell h_106 b_102 ((o_103+9)+Int.toNat i_101*1)) fun v_108=>(ptrV v_108 fun p_109=>(ldV (x2)[16]? fun v_110=>(intV v_110 .i64 fun i_111=>(CF Tryz.prog 130 [(Value.pointer p_109),(Value.agg ⟨l_107⟩),(Value.int .i64 i_111),(Value.bool ((x1:Int)==1))] h_106 fun u_112 h_113=>(tup2V u_112 fun u_114 u_115=>(aggV u_114 fun l_116=>(intV u_115 .i64 fun i_117=>(if List.length l_116=5 then (if List.all l_116 one=true then (if 0+List.length l_116≤List.length [(Value.int .u8 0),(Value.int .u8 0),(Value.int .u8 0),(Value.int .u8 0),(Value.int .i64 0)] then (F86_j1 i_117 [(Value.int .u8 0),(Value.int .u8 0),(Value.int .u8 0),(Value.int .u8 0),(Value.int .i64 0)] (splice [(Value.int .u8 0),(Value.int .u8 0),(Value.int .u8 0),(Value.int .u8 0),(Value.int .i64 0)] 0 l_116) h_113  K) else False) else False) else False))))))))))))))))∧(CF Tryz.prog 98 [(Value.int .i64 x1)] hp fun u_118 h_119=>(intV u_118 .i64 fun i_120=>(ptrN x0 fun b_121 o_122=>((0≤(i_120:Int))∧((i_120:Int)<(3:Nat))∧(ldV (x2)[16]? fun v_123=>(intV v_123 .i64 fun i_124=>(ldL (cellsN x2 0 16) fun l_125=>(CF Tryz.prog 131 [(Value.pointer x0),(Value.agg ⟨l_125⟩)] h_119 fun u_126 h_127=>(aggV u_126 fun l_128=>(ldV (HP.cell h_127 b_121 ((o_122+9)+Int.toNat i_120*1)) fun v_129=>(ptrV v_129 fun p_130=>(CF Tryz.prog 130 [(Value.pointer p_130),(Value.agg ⟨l_128⟩),(Value.int .i64 i_124),(Value.bool ((x1:Int)==1))] h_127 fun u_131 h_132=>(tup2V u_131 fun u_133 u_134=>(aggV u_133 fun l_135=>(intV u_134 .i64 fun i_136=>(if List.length l_135=5 then (if List.all l_135 one=true then (if 0+List.length l_135≤List.length [(Value.int .u8 0),(Value.int .u8 0),(Value.int .u8 0),(Value.int .u8 0),(Value.int .i64 0)] then (F86_j1 i_136 [(Value.int .u8 0),(Value.int .u8 0),(Value.int .u8 0),(Value.int .u8 0),(Value.int .i64 0)] (splice [(Value.int .u8 0),(Value.int .u8 0),(Value.int .u8 0),(Value.int .u8 0),(Value.int .i64 0)] 0 l_135) h_132  K) else False) else False) else False))))))))))))))))∧(CF Tryz.prog 98 [(Value.int .i64 x1)] hp fun u_137 h_138=>(intV u_137 .i64 fun i_139=>(ptrN x0 fun b_140 o_141=>((0≤(i_139:Int))∧((i_139:Int)<(3:Nat))∧(ldL (cellsN x2 0 16) fun l_142=>(CF Tryz.prog 131 [(Value.pointer x0),(Value.agg ⟨l_142⟩)] h_138 fun u_143 h_144=>(aggV u_143 fun l_145=>(ldV (HP.cell h_144 b_140 ((o_141+9)+Int.toNat i_139*1)) fun v_146=>(ptrV v_146 fun p_147=>(ldV (x2)[16]? fun v_148=>(intV v_148 .i64 fun i_149=>(CF Tryz.prog 130 [(Value.pointer p_147),(Value.agg ⟨l_145⟩),(Value.int .i64 i_149),(Value.bool ((x1:Int)==1))] h_144 fun u_150 h_151=>(tup2V u_150 fun u_152 u_153=>(aggV u_152 fun l_154=>(intV u_153 .i64 fun i_155=>(if List.length l_154=5 then (if List.all l_154 one=true then (if 0+List.length l_154≤List.length [(Value.int .u8 0),(Value.int .u8 0),(Value.int .u8 0),(Value.int .u8 0),(Value.int .i64 0)] then (F86_j1 i_155 [(Value.int .u8 0),(Value.int .u8 0),(Value.int .u8 0),(Value.int .u8 0),(Value.int .i64 0)] (splice [(Value.int .u8 0),(Value.int .u8 0),(Value.int .u8 0),(Value.int .u8 0),(Value.int .i64 0)] 0 l_154) h_151  K) else False) else False) else False)))))))))))))))))
theorem F86_ok (x0:OA) (x1:Int) (x2:List Value) (hp:HP) (K:Kh) (h:F86 x0 x1 x2 hp K):CF Tryz.prog 86 [(Value.pointer x0),(Value.int .i64 x1),(Value.agg ⟨x2⟩)] hp K:=
  have L:∀ {Q} n,Snd Tryz.prog 33 (cAt Tryz.f86 (pth n)) Q (CW Tryz.prog 33 [5,6,8,19,22] [(1,[(6,10),(9,19),(12,19)],[([true,true,true],true,[0,1,2,3,4,5,6,7,8,9,10,11,12,13,14,15,16,17,18,19,20,21]),([true,true,false],true,[0,1,2,3,4,5,6,7,8,9,10,11,13,14,19,12,15,16,17,18,20,21]),([true,false,true],true,[0,1,2,3,4,5,6,7,8,11,12,13,14,19,9,10,15,16,17,18,20,21]),([true,false,false],true,[0,1,2,3,4,5,6,7,8,11,13,14,19,9,10,12,15,16,17,18,20,21]),([false,true,true],true,[0,1,2,3,4,5,7,8,9,10,6,11,12,13,14,15,16,17,18,19,20,21]),([false,true,false],true,[0,1,2,3,4,5,7,8,9,10,6,11,13,14,19,12,15,16,17,18,20,21]),([false,false,true],true,[0,1,2,3,4,5,7,8,11,12,13,14,19,9,10,6,15,16,17,18,20,21]),([false,false,false],true,[0,1,2,3,4,5,7,8,11,13,14,19,9,10,6,12,15,16,17,18,20,21])])] (cAt Tryz.f86 (pth n)) Q):=fun _=>Snd.leaf
  okF h Tryz.func86 (Snd.seq (L 2) (Snd.jn [(6,.r 6 0),(8,.r 8 0),(9,.i .i64),(6,.c 56),(8,.c 56)] (fun a hp=>F86_j1 a.1 a.2.1 a.2.2.1 hp  K) (L 5) (L 7) (by rfl) (by kernel_rfl))) (by kernel_rfl) (by kernel_rfl) (by kernel_rfl)
def F42 (x0:OA) (x1:Int) (x2:List Value) (hp:HP) (K:Kh):Prop:=
  (ldL (cellsN x2 0 17) fun l_1=>(CF Tryz.prog 85 [(Value.pointer x0),(Value.int .i64 x1),(Value.agg ⟨l_1⟩)] hp fun u_2 h_3=>(intV u_2 .i64 fun i_4=>(ite2 ((i_4:Int) != 0) (if List.length [(Value.int .i64 0),(Value.int .i64 0),(Value.int .u8 0),(Value.int .u8 0),(Value.int .u8 0),(Value.int .u8 0),(Value.int .u8 0),(Value.int .u8 0),(Value.int .u8 0),(Value.int .u8 0),(Value.int .u8 0),(Value.int .u8 0),(Value.int .u8 0),(Value.int .u8 0),(Value.int .u8 0),(Value.int .u8 0),(Value.int .u8 0),(Value.int .u8 0),(Value.int .i64 0),(Value.int .u8 0),(Value.int .u8 0),(Value.int .u8 0),(Value.int .u8 0),(Value.int .i64 0),(Value.bool false),(Value.int .i64 0)]=26 then (if List.all [(Value.int .i64 0),(Value.int .i64 0),(Value.int .u8 0),(Value.int .u8 0),(Value.int .u8 0),(Value.int .u8 0),(Value.int .u8 0),(Value.int .u8 0),(Value.int .u8 0),(Value.int .u8 0),(Value.int .u8 0),(Value.int .u8 0),(Value.int .u8 0),(Value.int .u8 0),(Value.int .u8 0),(Value.int .u8 0),(Value.int .u8 0),(Value.int .u8 0),(Value.int .i64 0),(Value.int .u8 0),(Value.int .u8 0),(Value.int .u8 0),(Value.int .u8 0),(Value.int .i64 0),(Value.bool false),(Value.int .i64 0)] one=true then (if 0+List.length [(Value.int .i64 0),(Value.int .i64 0),(Value.int .u8 0),(Value.int .u8 0),(Value.int .u8 0),(Value.int .u8 0),(Value.int .u8 0),(Value.int .u8 0),(Value.int .u8 0),(Value.int .u8 0),(Value.int .u8 0),(Value.int .u8 0),(Value.int .u8 0),(Value.int .u8 0),(Value.int .u8 0),(Value.int .u8 0),(Value.int .u8 0),(Value.int .u8 0),(Value.int .i64 0),(Value.int .u8 0),(Value.int .u8 0),(Value.int .u8 0),(Value.int .u8 0),(Value.int .i64 0),(Value.bool false),(Value.int .i64 0)]≤List.length [(Value.int .i64 0),(Value.int .i64 0),(Value.int .u8 0),(Value.int .u8 0),(Value.int .u8 0),(Value.int .u8 0),(Value.int .u8 0),(Value.int .u8 0),(Value.int .u8 0),(Value.int .u8 0),(Value.int .u8 0),(Value.int .u8 0),(Value.int .u8 0),(Value.int .u8 0),(Value.int .u8 0),(Value.int .u8 0),(Value.int .u8 0),(Value.int .u8 0),(Value.int .i64 0),(Value.int .u8 0),(Value.int .u8 0),(Value.int .u8 0),(Value.int .u8 0),(Value.int .i64 0),(Value.bool false),(Value.int .i64 0)] then (ldL (cellsN (splice [(Value.int .i64 0),(Value.int .i64 0),(Value.int .u8 0),(Value.int .u8 0),(Value.int .u8 0),(Value.int .u8 0),(Value.int .u8 0),(Value.int .u8 0),(Value.int .u8 0),(Value.int .u8 0),(Value.int .u8 0),(Value.int .u8 0),(Value.int .u8 0),(Value.int .u8 0),(Value.int .u8 0),(Value.int .u8 0),(Value.int .u8 0),(Value.int .u8 0),(Value.int .i64 0),(Value.int .u8 0),(Value.int .u8 0),(Value.int .u8 0),(Value.int .u8 0),(Value.int .i64 0),(Value.bool false),(Value.int .i64 0)] 0 [(Value.int .i64 0),(Value.int .i64 0),(Value.int .u8 0),(Value.int .u8 0),(Value.int .u8 0),(Value.int .u8 0),(Value.int .u8 0),(Value.int .u8 0),(Value.int .u8 0),(Value.int .u8 0),(Value.int .u8 0),(Value.int .u8 0),(Value.int .u8 0),(Value.int .u8 0),(Value.int .u8 0),(Value.int .u8 0),(Value.int .u8 0),(Value.int .u8 0),(Value.int .i64 0),(Value.int .u8 0),(Value.int .u8 0),(Value.int .u8 0),(Value.int .u8 0),(Value.int .i64 0),(Value.bool false),(Value.int .i64 0)]) 0 26) fun l_5=>(K (.tuple ⟨[(.agg ⟨l_5⟩),(Value.int .i64 i_4)]⟩) h_3)) else False) else False) else False) (ldL (cellsN x2 0 17) fun l_6=>(CF Tryz.prog 86 [(Value.pointer x0),(Value.int .i64 x1),(Value.agg ⟨l_6⟩)] h_3 fun u_7 h_8=>(tup2V u_7 fun u_9 u_10=>(aggV u_9 fun l_11=>(intV u_10 .i64 fun i_12=>(if List.length l_11=5 then (if List.all l_11 one=true then (if 0+List.length l_11≤List.length [(Value.int .u8 0),(Value.int .u8 0),(Value.int .u8 0),(Value.int .u8 0),(Value.int .i64 0)] then (ite2 ((i_12:Int) != 0) (if List.length [(Value.int .i64 0),(Value.int .i64 0),(Value.int .u8 0),(Value.int .u8 0),(Value.int .u8 0),(Value.int .u8 0),(Value.int .u8 0),(Value.int .u8 0),(Value.int .u8 0),(Value.int .u8 0),(Value.int .u8 0),(Value.int .u8 0),(Value.int .u8 0),(Value.int .u8 0),(Value.int .u8 0),(Value.int .u8 0),(Value.int .u8 0),(Value.int .u8 0),(Value.int .i64 0),(Value.int .u8 0),(Value.int .u8 0),(Value.int .u8 0),(Value.int .u8 0),(Value.int .i64 0),(Value.bool false),(Value.int .i64 0)]=26 then (if List.all [(Value.int .i64 0),(Value.int .i64 0),(Value.int .u8 0),(Value.int .u8 0),(Value.int .u8 0),(Value.int .u8 0),(Value.int .u8 0),(Value.int .u8 0),(Value.int .u8 0),(Value.int .u8 0),(Value.int .u8 0),(Value.int .u8 0),(Value.int .u8 0),(Value.int .u8 0),(Value.int .u8 0),(Value.int .u8 0),(Value.int .u8 0),(Value.int .u8 0),(Value.int .i64 0),(Value.int .u8 0),(Value.int .u8 0),(Value.int .u8 0),(Value.int .u8 0),(Value.int .i64 0),(Value.bool false),(Value.int .i64 0)] one=true then (if 0+List.length [(Value.int .i64 0),(Value.int .i64 0),(Value.int .u8 0),(Value.int .u8 0),(Value.int .u8 0),(Value.int .u8 0),(Value.int .u8 0),(Value.int .u8 0),(Value.int .u8 0),(Value.int .u8 0),(Value.int .u8 0),(Value.int .u8 0),(Value.int .u8 0),(Value.int .u8 0),(Value.int .u8 0),(Value.int .u8 0),(Value.int .u8 0),(Value.int .u8 0),(Value.int .i64 0),(Value.int .u8 0),(Value.int .u8 0),(Value.int .u8 0),(Value.int .u8 0),(Value.int .i64 0),(Value.bool false),(Value.int .i64 0)]≤List.length [(Value.int .i64 0),(Value.int .i64 0),(Value.int .u8 0),(Value.int .u8 0),(Value.int .u8 0),(Value.int .u8 0),(Value.int .u8 0),(Value.int .u8 0),(Value.int .u8 0),(Value.int .u8 0),(Value.int .u8 0),(Value.int .u8 0),(Value.int .u8 0),(Value.int .u8 0),(Value.int .u8 0),(Value.int .u8 0),(Value.int .u8 0),(Value.int .u8 0),(Value.int .i64 0),(Value.int .u8 0),(Value.int .u8 0),(Value.int .u8 0),(Value.int .u8 0),(Value.int .i64 0),(Value.bool false),(Value.int .i64 0)] then (ldL (cellsN (splice [(Value.int .i64 0),(Value.int .i64 0),(Value.int .u8 0),(Value.int .u8 0),(Value.int .u8 0),(Value.int .u8 0),(Value.int .u8 0),(Value.int .u8 0),(Value.int .u8 0),(Value.int .u8 0),(Value.int .u8 0),(Value.int .u8 0),(Value.int .u8 0),(Value.int .u8 0),(Value.int .u8 0),(Value.int .u8 0),(Value.int .u8 0),(Value.int .u8 0),(Value.int .i64 0),(Value.int .u8 0),(Value.int .u8 0),(Value.int .u8 0),(Value.int .u8 0),(Value.int .i64 0),(Value.bool false),(Value.int .i64 0)] 0 [(Value.int .i64 0),(Value.int .i64 0),(Value.int .u8 0),(Value.int .u8 0),(Value.int .u8 0),(Value.int .u8 0),(Value.int .u8 0),(Value.int .u8 0),(Value.int .u8 0),(Value.int .u8 0),(Value.int .u8 0),(Value.int .u8 0),(Value.int .u8 0),(Value.int .u8 0),(Value.int .u8 0),(Value.int .u8 0),(Value.int .u8 0),(Value.int .u8 0),(Value.int .i64 0),(Value.int .u8 0),(Value.int .u8 0),(Value.int .u8 0),(Value.int .u8 0),(Value.int .i64 0),(Value.bool false),(Value.int .i64 0)]) 0 26) fun l_13=>(K (.tuple ⟨[(.agg ⟨l_13⟩),(Value.int .i64 i_12)]⟩) h_8)) else False) else False) else False) (ldL (cellsN x2 0 17) fun l_14=>(ldL (cellsN (splice [(Value.int .u8 0),(Value.int .u8 0),(Value.int .u8 0),(Value.int .u8 0),(Value.int .i64 0)] 0 l_11) 0 5) fun l_15=>(if List.length l_14=17 then (if List.length l_15=5 then (CF Tryz.prog 87 [(Value.pointer x0),(Value.agg ⟨(splice (splice [(Value.int .i64 0),(Value.int .i64 x1),(Value.int .u8 0),(Value.int .u8 0),(Value.int .u8 0),(Value.int .u8 0),(Value.int .u8 0),(Value.int .u8 0),(Value.int .u8 0),(Value.int .u8 0),(Value.int .u8 0),(Value.int .u8 0),(Value.int .u8 0),(Value.int .u8 0),(Value.int .u8 0),(Value.int .u8 0),(Value.int .u8 0),(Value.int .u8 0),(Value.int .i64 0),(Value.int .u8 0),(Value.int .u8 0),(Value.int .u8 0),(Value.int .u8 0),(Value.int .i64 0),(Value.bool false),(Value.int .i64 0)] 2 l_14) 19 l_15)⟩)] h_8 fun u_16 h_17=>(aggV u_16 fun l_18=>(if List.length l_18=26 then (if List.all l_18 one=true then (if 0+List.length l_18≤List.length [(Value.int .i64 0),(Value.int .i64 0),(Value.int .u8 0),(Value.int .u8 0),(Value.int .u8 0),(Value.int .u8 0),(Value.int .u8 0),(Value.int .u8 0),(Value.int .u8 0),(Value.int .u8 0),(Value.int .u8 0),(Value.int .u8 0),(Value.int .u8 0),(Value.int .u8 0),(Value.int .u8 0),(Value.int .u8 0),(Value.int .u8 0),(Value.int .u8 0),(Value.int .i64 0),(Value.int .u8 0),(Value.int .u8 0),(Value.int .u8 0),(Value.int .u8 0),(Value.int .i64 0),(Value.bool false),(Value.int .i64 0)] then (ldL (cellsN (splice [(Value.int .i64 0),(Value.int .i64 0),(Value.int .u8 0),(Value.int .u8 0),(Value.int .u8 0),(Value.int .u8 0),(Value.int .u8 0),(Value.int .u8 0),(Value.int .u8 0),(Value.int .u8 0),(Value.int .u8 0),(Value.int .u8 0),(Value.int .u8 0),(Value.int .u8 0),(Value.int .u8 0),(Value.int .u8 0),(Value.int .u8 0),(Value.int .u8 0),(Value.int .i64 0),(Value.int .u8 0),(Value.int .u8 0),(Value.int .u8 0),(Value.int .u8 0),(Value.int .i64 0),(Value.bool false),(Value.int .i64 0)] 0 l_18) 0 26) fun l_19=>(K (.tuple ⟨[(.agg ⟨l_19⟩),(Value.int .i64 0)]⟩) h_17)) else False) else False) else False))) else False) else False)))) else False) else False) else False))))))))))
theorem F42_ok (x0:OA) (x1:Int) (x2:List Value) (hp:HP) (K:Kh) (h:F42 x0 x1 x2 hp K):CF Tryz.prog 42 [(Value.pointer x0),(Value.int .i64 x1),(Value.agg ⟨x2⟩)] hp K:=
  have L:∀ {Q} n,Snd Tryz.prog 36 (cAt Tryz.f42 (pth n)) Q (CW Tryz.prog 36 [5,6,9] [] (cAt Tryz.f42 (pth n)) Q):=fun _=>Snd.leaf
  okF h Tryz.func42 (L 1) (by kernel_rfl) (by kernel_rfl) (by kernel_rfl)
def F59_j1 (x9:Int) (hp:HP) (K:Kh):Prop:=
  (K (Value.int .i64 x9) hp)
def F59 (x0:OA) (x1:Int) (x2:List Value) (hp:HP) (K:Kh):Prop:=
  (ldL (cellsN x2 0 17) fun l_1=>(CF Tryz.prog 85 [(Value.pointer x0),(Value.int .i64 x1),(Value.agg ⟨l_1⟩)] hp fun u_2 h_3=>(intV u_2 .i64 fun i_4=>(ite2 ((i_4:Int) != 0) (K (Value.int .i64 i_4) h_3) (ldL (cellsN x2 0 17) fun l_5=>(CF Tryz.prog 86 [(Value.pointer x0),(Value.int .i64 x1),(Value.agg ⟨l_5⟩)] h_3 fun u_6 h_7=>(tup2V u_6 fun u_8 u_9=>(aggV u_8 fun l_10=>(intV u_9 .i64 fun i_11=>(if List.length l_10=5 then (if List.all l_10 one=true then (if 0+List.length l_10≤List.length [(Value.int .u8 0),(Value.int .u8 0),(Value.int .u8 0),(Value.int .u8 0),(Value.int .i64 0)] then (ite2 ((i_11:Int)==0) (CF Tryz.prog 98 [(Value.int .i64 x1)] h_7 fun u_12 h_13=>(intV u_12 .i64 fun i_14=>(ptrN x0 fun b_15 o_16=>((0≤(i_14:Int))∧((i_14:Int)<(3:Nat))∧(ldV (HP.cell h_13 b_15 ((o_16+9)+Int.toNat i_14*1)) fun v_17=>(ptrV v_17 fun p_18=>(ldL (cellsN (splice [(Value.int .u8 0),(Value.int .u8 0),(Value.int .u8 0),(Value.int .u8 0),(Value.int .i64 0)] 0 l_10) 0 5) fun l_19=>(CF Tryz.prog 112 [(Value.pointer p_18),(Value.agg ⟨l_19⟩)] h_13 fun u_20 h_21=>(intV u_20 .i64 fun i_22=>(F59_j1 i_11 h_21  K)))))))))) (F59_j1 i_11 h_7  K)) else False) else False) else False))))))))))
theorem F59_ok (x0:OA) (x1:Int) (x2:List Value) (hp:HP) (K:Kh) (h:F59 x0 x1 x2 hp K):CF Tryz.prog 59 [(Value.pointer x0),(Value.int .i64 x1),(Value.agg ⟨x2⟩)] hp K:=
  have L:∀ {Q} n,Snd Tryz.prog 36 (cAt Tryz.f59 (pth n)) Q (CW Tryz.prog 36 [5,8] [] (cAt Tryz.f59 (pth n)) Q):=fun _=>Snd.leaf
  okF h Tryz.func59 (Snd.seq (L 2) (Snd.seq (L 5) (Snd.seq (L 11) (Snd.jn [(9,.i .i64)] (fun a hp=>F59_j1 a.1 hp  K) (L 23) (L 31) (by rfl) (by kernel_rfl))))) (by kernel_rfl) (by kernel_rfl) (by kernel_rfl)
end Go.Proofs
set_option linter.unusedVariables false
set_option linter.unusedSimpArgs false
set_option maxRecDepth 20000
namespace Go.Proofs
open Go Go.HL
section
variable {tb:Obj} {hq:HP} {t:Nat} {l:List Q} {low high:Int} {mx last n:Nat} {L:List Bd} {E:List (Bd × Nat)} {ps:Nat→HP} {m x o:Nat} {pl pm:Nat→Nat} {H:Nat→List ((Q × Int) × Bool)} {K:Value→HP→Prop}
theorem BdP.hold (h:BdP tb hq t l low high mx last n E ps m x o pl pm H) {k:Nat} (hk:k<3) {held':List ((Q × Int) × Bool)} {e:Ent} (he:MapE t4k vb held' e) :
    BdP tb (hq.set (pm k) e) t l low high mx last n E (pu ps (3+k) ((ps (3+k)).set (pm k) e)) m x o pl pm (fun j=>if j=k then held' else H j) where
  parts:=h.parts.put (3+k) (by obtain ⟨a,c,_,_,hm⟩:=h.pool k hk; exact hm.ne) e
  main:=by rw [pu_ne _ _ (by omega)]; exact h.main
  six:=by rw [pu_ne _ _ (by omega)]; exact h.six
  four:=by rw [pu_ne _ _ (by omega)]; exact h.four
  pool j hj:=by
    by_cases hjk:j=k
    · subst hjk
      rw [pu_eq,if_pos rfl]
      exact (h.pool j hj).upd he
    · rw [pu_ne _ _ (by omega),if_neg hjk]
      exact h.pool j hj
  inv:=h.inv
theorem InvB.len4 {L:List Bd} (h:InvB l low high mx last n L):l.length≤4:=by
  have:=h.new
  simp only [newOk,Bool.and_eq_true,decide_eq_true_eq] at this
  omega
theorem InvB.ports {L:List Bd} (h:InvB l low high mx last n L):0≤low∧low≤65535∧0≤high∧high≤65535:=by
  have:=h.new
  simp only [newOk,isPort,Bool.and_eq_true,decide_eq_true_eq] at this
  omega
def pairB (a:V6) (f:Q) (L:List Bd):Q:=((L.find? fun b=>decide (b.inn.1=a)).map (·.out.1)).getD f
theorem find_least {p:Bd→Bool} {y:Bd} {L:List Bd} (ha:(L.map (·.id)).Pairwise (· < ·)) (hy:y∈L) (hp:p y=true) (hl:∀ z∈L,p z=true→y.id≤z.id):L.find? p=some y:=by
  induction L with
  | nil=>cases hy
  | cons z L ih=>
    rw [List.map_cons,List.pairwise_cons] at ha
    rw [List.find?_cons]
    cases hz:p z with
    | true=>
      rcases List.mem_cons.1 hy with e | hy
      · rw [e]
      · have h1:=ha.1 y.id (List.mem_map.2 ⟨y,hy,rfl⟩)
        have h2:=hl z (by simp) hz
        omega
    | false=>
      rcases List.mem_cons.1 hy with e | hy
      · rw [e,hz] at hp; cases hp
      · exact ih ha.2 hy fun w hw hpw=>hl w (by simp [hw]) hpw
def bestB (a:V6) (f:Q) (D:List (Bd × Nat)) (least:Int) (q:Q):Prop:=
  (least=0∧q=f∧∀ e∈D,e.1.inn.1≠a)∨(∃ e∈D,e.1.inn.1=a∧least=e.1.id∧q=e.1.out.1∧∀ e'∈D,e'.1.inn.1=a→e.1.id≤e'.1.id)
theorem tupJ_end (c:Value→Prop):tupI (.tuple #[.bool false]) 0 c=c (.bool false):=rfl
theorem tupJ_go (a b:Value) (c:Value→Prop):tupI (.tuple #[.bool true,a,b]) 0 c=c (.bool true):=rfl
theorem tupJ_snd (a b:Value) (c:Value→Prop):tupI (.tuple #[a,b]) 1 c=c b:=rfl
theorem tupJ_fst (a b:Value) (c:Value→Prop):tupI (.tuple #[a,b]) 0 c=c a:=rfl
theorem v4_spl {zs:List Value} {q:Q} (h:zs.length=4):splice zs 0 (v4 q)=v4 q:=splice_all h.symm
theorem v4_cells (q:Q):cellsN (v4 q) 0 4=some (v4 q):=rfl
set_option maxHeartbeats 1000000 in
theorem P131 (h:BdP tb hq t l low high mx last n E ps m x o pl pm H) {a:V6} (hK:K (.agg ⟨v4 (pairB a (l.headD zq4) (E.map (·.1)))⟩) hq):CF Tryz.prog 131 [ptr t 0,.agg ⟨v6 a⟩] hq K:=by
  refine CF.drop (F131_ok _ (v6 a) hq _ ?_)
  unfold F131
  have hf:hq.cellN t 2 4=some (v4 (l.headD zq4)):=by rw [HP.cellN_of h.cells]; rfl
  simp only [ptrN_some,Nat.reduceAdd,hf,ldL_some]
  rw [if_pos (v4_len _),if_pos (v4_one _),if_pos (by simp [v4_len]),v4_spl rfl]
  simp only [h.c6,ldV_some,mapV_map]
  refine opS_range u123 h.mapq fun it e0 hit hI0=>?_
  unfold F131_j2
  generalize hz:([(Value.int .u8 0),(Value.int .u8 0),(Value.int .u8 0),(Value.int .u8 0)]:List Value)=zz
  have hzl:zz.length=4:=by rw [← hz]; rfl
  refine LoopP.by (J:=fun k (st:Int × List Value) hp=>∃ (D:List (Bd × Nat)) (q:Q),HSub hq hp∧(∀ e∈D,e∈E)∧IterR hp it m iw (fun k:Nat=>ptr k 0) (E.map fun e=>(e.1.id,e.2)) (D.map fun e=>(e.1.id,e.2))∧st.2=v4 q∧bestB a (l.headD zq4) D st.1 q∧k=E.length-D.length) ?_
    (n:=E.length) ⟨[],_,(HSub.refl hq).up hit e0,fun e he=>absurd he (by simp),hI0,rfl,.inl ⟨rfl,rfl,fun e he=>absurd he (by simp)⟩,by simp⟩
  rintro I k ⟨least,k6⟩ hp ⟨D,q,hs,hD,hI,rfl,hb,rfl⟩ hgo
  unfold F131_l3
  refine opS_next hI ?_ ?_
  · intro hperm
    rw [tupJ_end,boolV_bool,ite2_false]
    unfold F131_j1
    rw [v4_cells,ldL_some,if_pos (v4_len _),if_pos (v4_one _),if_pos (by simp [v4_len,hzl]),v4_spl hzl,v4_cells,ldL_some]
    refine ⟨hq,hs,?_⟩
    have hall:∀ e∈E,e∈D:=fun e he=>by
      have h1:(iw e.1.id,ptr e.2 0)∈((D.map fun e=>(e.1.id,e.2)).map fun p:Int × Nat=>(iw p.1,ptr p.2 0)):=by
        refine hperm.mem_iff.2 ?_
        exact List.mem_map.2 ⟨(e.1.id,e.2),List.mem_map.2 ⟨e,he,rfl⟩,rfl⟩
      obtain ⟨p,hp1,hp2⟩:=List.mem_map.1 h1
      obtain ⟨e',he',rfl⟩:=List.mem_map.1 hp1
      simp only [Prod.mk.injEq,iw,Value.int.injEq,true_and] at hp2
      have:=inj_of (g:=fun e:Bd × Nat=>e.1.id) h.ids he (hD e' he') hp2.1.symm
      rw [this]; exact he'
    have:q=pairB a (l.headD zq4) (E.map (·.1)):=by
      unfold pairB
      rcases hb with ⟨_,rfl,hno⟩ | ⟨e,he,ha,_,rfl,hmin⟩
      · have:((E.map (·.1)).find? fun b=>decide (b.inn.1=a))=none:=find_none.2 fun b hb=>by
          obtain ⟨e,he,rfl⟩:=List.mem_map.1 hb
          exact decide_eq_false (hno e (hall e he))
        rw [this]; rfl
      · have:((E.map (·.1)).find? fun b=>decide (b.inn.1=a))=some e.1:=find_least h.inv.asc (List.mem_map.2 ⟨e,hD e he,rfl⟩) (decide_eq_true ha) fun z hz hpz=>by
          obtain ⟨e',he',rfl⟩:=List.mem_map.1 hz
          exact hmin e' (hall e' he') (of_decide_eq_true hpz)
        rw [this]; rfl
    rw [this]; exact hK
  · intro kv hkv e2 hI2
    obtain ⟨e,he,rfl⟩:=List.mem_map.1 hkv
    have hlen2:=hI2.step_len
    rw [List.length_map,List.length_map] at hlen2
    rw [tupJ_go,boolV_bool,ite2_true]
    refine rdS_entry hI2 ?_
    rw [tupJ_fst]
    show intV (.int .i64 e.1.id) .i64 _
    rw [intV_int,tupJ_snd]
    show ptrV (ptr e.2 0) _
    have s2:HSub hq (hp.set it e2):=hs.up hit e2
    have hblk:=s2.cells (h.blkq he)
    have r1:(hp.set it e2).cellN e.2 2 16=some (v6 e.1.inn.1):=by rw [HP.cellN_of hblk]; rfl
    have r2:(hp.set it e2).cellN e.2 19 4=some (v4 e.1.out.1):=by rw [HP.cellN_of hblk]; rfl
    rw [pq,ptrN_some,show (0+2+0:Nat)=2 from rfl,r1,ldL_some,v6_cells,ldL_some]
    refine eq30 ?_
    have hid:=h.inv.rng e.1 (List.mem_map.2 ⟨e,he,rfl⟩)
    have step:∀ st' q',st'=st'→bestB a (l.headD zq4) (D++[e]) st' q'→I (st',v4 q') (hp.set it e2):=fun st' q' _ hb'=>by
      refine hgo (E.length-(D++[e]).length) _ _ (by rw [List.length_append]; simp at hlen2 ⊢; omega) ⟨D++[e],q',s2,?_,?_,rfl,hb',rfl⟩
      · intro z hz
        rcases List.mem_append.1 hz with hz | hz
        · exact hD z hz
        · rw [List.mem_singleton.1 hz]; exact he
      · rw [List.map_append]; exact hI2
    have old:(e.1.inn.1=a→least≠0∧least≤e.1.id)→I (least,v4 q) (hp.set it e2):=fun hne=>by
      refine step _ _ rfl ?_
      rcases hb with ⟨b1,b2,b3⟩ | ⟨z,hz,b1,b2,b3,b4⟩
      · refine .inl ⟨b1,b2,fun z hz=>?_⟩
        rcases List.mem_append.1 hz with hz | hz
        · exact b3 z hz
        · rw [List.mem_singleton.1 hz]
          exact fun ea=>(hne ea).1 b1
      · refine .inr ⟨z,by simp [hz],b1,b2,b3,fun w hw ha=>?_⟩
        rcases List.mem_append.1 hw with hw | hw
        · exact b4 w hw ha
        · rw [List.mem_singleton.1 hw] at ha ⊢
          rw [← b2]; exact (hne ha).2
    have new:e.1.inn.1=a→(least=0∨e.1.id<least)→I (e.1.id,v4 e.1.out.1) (hp.set it e2):=fun ea hlt=>by
      refine step _ _ rfl (.inr ⟨e,by simp,ea,rfl,rfl,fun w hw ha=>?_⟩)
      rcases List.mem_append.1 hw with hw | hw
      · rcases hb with ⟨b1,b2,b3⟩ | ⟨z,hz,b1,b2,b3,b4⟩
        · exact absurd ha (b3 w hw)
        · have h1:=b4 w hw ha
          have h2:=(h.inv.rng z.1 (List.mem_map.2 ⟨z,hD z hz,rfl⟩)).1
          omega
      · rw [List.mem_singleton.1 hw]; omega
    by_cases ea:e.1.inn.1=a
    · rw [decide_eq_true ea,ite2_true]
      by_cases hl0:least=0
      · rw [show (least==0)=true by simp [hl0],ite2_true]
        unfold F131_j4
        rw [ite2_true]
        rw [ptrN_some,show (0+19+0:Nat)=19 from rfl,r2,ldL_some,if_pos (v4_len _),if_pos (v4_one _),if_pos (by simp [v4_len]),v4_spl (v4_len q)]
        exact new ea (.inl hl0)
      · rw [show (least==0)=false by simp [hl0],ite2_false]
        unfold F131_j4
        by_cases hlt:e.1.id<least
        · rw [decide_eq_true hlt,ite2_true]
          rw [ptrN_some,show (0+19+0:Nat)=19 from rfl,r2,ldL_some,if_pos (v4_len _),if_pos (v4_one _),if_pos (by simp [v4_len]),v4_spl (v4_len q)]
          exact new ea (.inr hlt)
        · rw [decide_eq_false hlt,ite2_false]
          exact old fun _=>⟨hl0,by omega⟩
    · rw [decide_eq_false ea,ite2_false]
      unfold F131_j4
      rw [ite2_false]
      exact old fun e'=>absurd e' ea
theorem kind_nat {p:Int} (h:0≤kindB p):(kindB p).toNat<3∧(((kindB p).toNat:Nat):Int)=kindB p:=by
  have:=(kind_lt (p:=p)).1
  omega
theorem BdP.ck (h:BdP tb hq t l low high mx last n E ps m x o pl pm H) {p:Int} (hk:0≤kindB p):hq.cell t (0+9+(kindB p).toNat*1)=some (ptr (pl (kindB p).toNat) 0):=by
  rw [Nat.mul_one,Nat.zero_add]; exact h.c9 (kind_nat hk).1
theorem t4_spl {zs:List Value} {q:Q × Int} (h:zs.length=5):splice zs 0 (t4 q)=t4 q:=splice_all h.symm
def takeB (l:List Q) (low high:Int) (L:List Bd) (held:List ((Q × Int) × Bool)) (p:Int) (a:V6 × Int):Option (Q × Int):=
  takeQ l low high held (pairB a.1 (l.headD zq4) L) a.2 (p==1)
set_option maxHeartbeats 2000000 in
theorem P86 (h:BdP tb hq t l low high mx last n E ps m x o pl pm H) {p:Int} {a:V6 × Int} (hk:0≤kindB p) (hport:isPort a.2=true)
    (hno:takeB l low high (E.map (·.1)) (H (kindB p).toNat) p a=none→K (.tuple ⟨[.agg ⟨t4 (q0,0)⟩,.int .i64 13]⟩) hq)
    (hyes:∀ u,takeB l low high (E.map (·.1)) (H (kindB p).toNat) p a=some u→∀ hq' ps',BdP tb hq' t l low high mx last n E ps' m x o pl pm (fun j=>if j=(kindB p).toNat then putL u false (H (kindB p).toNat) else H j)→K (.tuple ⟨[.agg ⟨t4 u⟩,.int .i64 0]⟩) hq') :
    CF Tryz.prog 86 [ptr t 0,.int .i64 p,.agg ⟨t6 a⟩] hq K:=by
  refine F86_ok _ p (t6 a) hq K ?_
  unfold F86
  have hlt:=(kind_nat hk).1
  have hk3:=(kind_lt (p:=p)).1
  generalize hz:([(Value.int .u8 0),(Value.int .u8 0),(Value.int .u8 0),(Value.int .u8 0),(Value.int .i64 0)]:List Value)=z5
  have hzz:z5=t4 (q0,0):=by rw [← hz]; rfl
  have hzl:z5.length=5:=by rw [hzz]; rfl
  clear hz
  have c73:∀ {K':Value→HP→Prop},K' (.int .i64 (kindB p)) hq→CF Tryz.prog 98 [.int .i64 p] hq K':=fun hh=>C98 hh
  have c111:∀ {K':Value→HP→Prop},K' (.agg ⟨v4 (pairB a.1 (l.headD zq4) (E.map (·.1)))⟩) hq→CF Tryz.prog 131 [ptr t 0,.agg ⟨v6 a.1⟩] hq K':=fun hh=>P131 h hh
  have ck:=h.ck hk
  have fin:CF Tryz.prog 130 [ptr (pl (kindB p).toNat) 0,.agg ⟨v4 (pairB a.1 (l.headD zq4) (E.map (·.1)))⟩,.int .i64 a.2,.bool (p==1)] hq
      fun u_17 h_18=>tup2V u_17 fun u_19 u_20=>aggV u_19 fun l_21=>intV u_20 .i64 fun i_22=>if List.length l_21=5 then (if List.all l_21 one=true then (if 0+List.length l_21≤List.length z5 then F86_j1 i_22 z5 (splice z5 0 l_21) h_18 K else False) else False) else False:=by
    refine C130 (h.poolq hlt) h.inv.len4 h.inv.ports (fun e=>by rw [hport] at e; cases e) (fun _ e=>?_) (fun _ u e ent hent=>?_)
    · simp only [tup2V_mk,aggV_agg,intV_int]
      rw [if_pos (t4_len _),if_pos (t4_one _),if_pos (by simp [t4_len,hzl]),t4_spl hzl]
      unfold F86_j1
      rw [show ((6:Int) != 0)=true from rfl,ite2_true]
      simp only [hzz]
      exact ifI rfl (ifI rfl (ifI (Nat.le_refl 5) (hno e)))
    · simp only [tup2V_mk,aggV_agg,intV_int]
      rw [if_pos (t4_len _),if_pos (t4_one _),if_pos (by simp [t4_len,hzl]),t4_spl hzl]
      unfold F86_j1
      rw [show ((0:Int) != 0)=false from rfl,ite2_false,t4_all,ldL_some,if_pos (t4_len _),if_pos (t4_one _),if_pos (by simp [t4_len,hzl]),t4_spl hzl,t4_all,ldL_some]
      exact hyes u e _ _ (h.hold hlt hent)
  repeat' apply And.intro
  all_goals repeat (first
    | exact fin
    | (refine c73 ?_; rw [intV_int])
    | (rw [ptrN_some])
    | (refine ⟨hk,hk3,?_⟩)
    | (rw [ck,ldV_some,pq])
    | (rw [t6_addr,ldL_some])
    | (rw [t6_port,ldV_some,intV_int])
    | (refine c111 ?_; rw [aggV_agg]))
end
end Go.Proofs
set_option linter.unusedVariables false
set_option linter.unusedSimpArgs false
set_option maxRecDepth 20000
namespace Go.Proofs
open Go Go.HL
section
variable {tb:Obj} {hq:HP} {t:Nat} {l:List Q} {low high:Int} {mx last n:Nat} {L:List Bd} {E:List (Bd × Nat)} {ps:Nat→HP} {m x o:Nat} {pl pm:Nat→Nat} {H:Nat→List ((Q × Int) × Bool)} {K:Value→HP→Prop}
theorem BdW.of (h:BdP tb hq t l low high mx last n E ps m x o pl pm H) (hH:∀ k,k<3→H k=heldB (E.map (·.1)) k):BdW tb hq t l low high mx last n (E.map (·.1)):=
  ⟨E,ps,m,x,o,pl,pm,rfl,h.parts,h.main,h.six,h.four,fun k hk=>hH k hk▸h.pool k hk,h.inv⟩
def tkB (l:List Q) (low high:Int) (L:List Bd) (p:Int) (a:V6 × Int):Option (Q × Int):=takeB l low high L (heldB L (kindB p)) p a
def roomB (l:List Q) (low high:Int) (mx:Nat) (L:List Bd) (p:Int) (a:V6 × Int):Int:=
  if mayB p a L mx≠0 then mayB p a L mx else if (tkB l low high L p a).isNone then 13 else 0
theorem mayB_0 {p:Int} {a:V6 × Int} {mx:Nat} (h:mayB p a L mx=0):0≤kindB p∧isPort a.2=true∧find6 p a L=none∧L.length<mx:=by
  unfold mayB at h
  by_cases c1:kindB p<0
  · rw [if_pos c1] at h; cases h
  · rw [if_neg c1] at h
    by_cases c2:isPort a.2=false
    · rw [if_pos c2] at h; cases h
    · rw [if_neg c2] at h
      by_cases c3:(find6 p a L).isSome=true
      · rw [if_pos c3] at h; cases h
      · rw [if_neg c3] at h
        by_cases c4:L.length≥mx
        · rw [if_pos c4] at h; cases h
        · refine ⟨by omega,by simpa using c2,?_,by omega⟩
          simpa using c3
theorem tkB_some (hi:InvB l low high mx last n L) {p:Int} {a:V6 × Int} (hk:0≤kindB p) {u:Q × Int} (h:tkB l low high L p a=some u) :
    u.1∈l∧low≤u.2∧u.2≤high∧isPort u.2=true∧okT u∧find4 p u L=none∧getL u (heldB L (kindB p))=none:=by
  obtain ⟨h1,h2,h3,h4,_⟩:=takeQ_some h
  have hp:=hi.ports
  have ok:=hi.okl u.1 h1
  have h5:=h4
  rw [held_get hi hk,Option.map_eq_none_iff] at h5
  refine ⟨h1,h2,h3,?_,⟨ok,by unfold okZ; omega⟩,h5,h4⟩
  unfold isPort
  exact decide_eq_true (by omega)
theorem delL_putN {α β:Type} [DecidableEq α] {k:α} {v:β} {L:List (α × β)} (h:getL k L=none):delL k (putL k v L)=L:=by
  rw [put_new h]
  induction L with
  | nil=>simp [delL]
  | cons p L ih=>
    simp only [getL] at h
    by_cases hk:k=p.1
    · rw [if_pos hk] at h; cases h
    · rw [if_neg hk] at h
      simp only [List.cons_append,delL,if_neg hk,ih h]
theorem bd_new (p:Int) (a:V6 × Int) (u:Q × Int):splice (splice [(.int .i64 0),(.int .i64 p),(.int .u8 0),(.int .u8 0),(.int .u8 0),(.int .u8 0),(.int .u8 0),(.int .u8 0),(.int .u8 0),(.int .u8 0),(.int .u8 0),(.int .u8 0),(.int .u8 0),(.int .u8 0),(.int .u8 0),(.int .u8 0),(.int .u8 0),(.int .u8 0),(.int .i64 0),(.int .u8 0),(.int .u8 0),(.int .u8 0),(.int .u8 0),(.int .i64 0),(.bool false),(.int .i64 0)] 2 (t6 a)) 19 (t4 u)=bdc ⟨0,p,a,u,false,0⟩:=by kernel_rfl
theorem bd_newS (p:Int) (a:V6 × Int) (u:Q × Int):List.set (splice (splice [(.int .i64 0),(.int .i64 p),(.int .u8 0),(.int .u8 0),(.int .u8 0),(.int .u8 0),(.int .u8 0),(.int .u8 0),(.int .u8 0),(.int .u8 0),(.int .u8 0),(.int .u8 0),(.int .u8 0),(.int .u8 0),(.int .u8 0),(.int .u8 0),(.int .u8 0),(.int .u8 0),(.int .i64 0),(.int .u8 0),(.int .u8 0),(.int .u8 0),(.int .u8 0),(.int .i64 0),(.bool false),(.int .i64 0)] 2 (t6 a)) 19 (t4 u)) 24 (.bool true)=bdc ⟨0,p,a,u,true,0⟩:=by kernel_rfl
set_option maxHeartbeats 1000000 in
theorem P59 (h:BdW tb hq t l low high mx last n L) {p:Int} {a:V6 × Int} (hp:okZ p) (ha:okT6 a) (hK:∀ hq',BdW tb hq' t l low high mx last n L→K (.int .i64 (roomB l low high mx L p a)) hq'):CF Tryz.prog 59 [ptr t 0,.int .i64 p,.agg ⟨t6 a⟩] hq K:=by
  have hinv:=h.inv
  have h0:=h
  obtain ⟨E,ps,m,x,o,pl,pm,rfl,h⟩:=h
  refine F59_ok _ p (t6 a) hq K ?_
  unfold F59
  rw [t6_cells,ldL_some]
  refine P85 h hp ha ?_
  rw [intV_int]
  by_cases c1:mayB p a (E.map (·.1)) mx=0
  rotate_left
  · rw [show (mayB p a (E.map (·.1)) mx != 0)=true by simp [c1],ite2_true]
    have:=hK hq h0
    unfold roomB at this
    rw [if_pos c1] at this
    exact this
  rw [show (mayB p a (E.map (·.1)) mx != 0)=false by simp [c1],ite2_false]
  obtain ⟨hk,hport,f6,hlt⟩:=mayB_0 c1
  obtain ⟨k3,kn⟩:=kind_nat hk
  have hk3:=(kind_lt (p:=p)).1
  refine P86 h hk hport (fun e=>?_) (fun u e hq' ps' h'=>?_)
  · rw [kn] at e
    simp only [tup2V_mk,aggV_agg,intV_int]
    rw [if_pos (t4_len _),if_pos (t4_one _),if_pos (by simp [t4_len]),show ((13:Int)==0)=false from rfl,ite2_false]
    unfold F59_j1
    have:=hK hq h0
    unfold roomB tkB at this
    rw [if_neg (by simp [c1]),e] at this
    exact this
  · rw [kn] at e
    simp only [tup2V_mk,aggV_agg,intV_int]
    rw [if_pos (t4_len _),if_pos (t4_one _),if_pos (by simp [t4_len]),show ((0:Int)==0)=true from rfl,ite2_true]
    refine C98 ?_
    rw [intV_int,ptrN_some]
    refine ⟨hk,hk3,?_⟩
    rw [h'.ck hk,ldV_some,pq,t4_spl rfl,t4_all,ldL_some]
    obtain ⟨u1,u2,u3,u4,u5,u6,u7⟩:=tkB_some hinv hk e
    have hg:giveQ l (putL u false (heldB (E.map (·.1)) (kindB p))) u=0:=by
      have hm:mayQ l u=0:=by unfold mayQ; exact if_pos ⟨u4,u1⟩
      unfold giveQ
      rw [if_neg (by rw [hm]; simp),getL_put,if_pos rfl]
    have hpool:=h'.poolq k3
    simp only [if_true,kn] at hpool
    refine C112 hpool hinv.len4 (fun hne=>absurd hg hne) (fun _ ent hent=>?_)
    rw [intV_int]
    unfold F59_j1
    have h2:=h'.hold k3 hent
    have hfin:=hK _ (BdW.of h2 fun k hk'=>by
      by_cases hkk:k=(kindB p).toNat
      · rw [if_pos hkk,hkk,kn]; exact delL_putN u7
      · rw [if_neg hkk,if_neg hkk])
    unfold roomB tkB at hfin
    rw [if_neg (by simp [c1]),e] at hfin
    exact hfin
set_option maxHeartbeats 1000000 in
theorem P42 (h:BdW tb hq t l low high mx last n L) {p:Int} {a:V6 × Int} (hp:okZ p) (ha:okT6 a) (hn:n<1000000)
    (hno:roomB l low high mx L p a≠0→K (.tuple ⟨[.agg ⟨bdc bd0⟩,.int .i64 (roomB l low high mx L p a)]⟩) hq)
    (hyes:roomB l low high mx L p a=0→∀ u,tkB l low high L p a=some u→∀ hq',BdW tb hq' t l low high mx (last+1) (n+1) (L++[⟨((last+1:Nat):Int),p,a,u,false,0⟩])→K (.tuple ⟨[.agg ⟨bdc ⟨((last+1:Nat):Int),p,a,u,false,0⟩⟩,.int .i64 0]⟩) hq') :
    CF Tryz.prog 42 [ptr t 0,.int .i64 p,.agg ⟨t6 a⟩] hq K:=by
  have hinv:=h.inv
  obtain ⟨E,ps,m,x,o,pl,pm,rfl,h⟩:=h
  refine F42_ok _ p (t6 a) hq K ?_
  unfold F42
  rw [t6_cells,ldL_some]
  refine P85 h hp ha ?_
  rw [intV_int]
  by_cases c1:mayB p a (E.map (·.1)) mx=0
  rotate_left
  · rw [show (mayB p a (E.map (·.1)) mx != 0)=true by simp [c1],ite2_true]
    have er:roomB l low high mx (E.map (·.1)) p a=mayB p a (E.map (·.1)) mx:=by unfold roomB; rw [if_pos c1]
    rw [er] at hno
    exact ifI rfl (ifI rfl (ifI (Nat.le_refl 26) (hno c1)))
  rw [show (mayB p a (E.map (·.1)) mx != 0)=false by simp [c1],ite2_false,ldL_some]
  obtain ⟨hk,hport,f6,hlt⟩:=mayB_0 c1
  obtain ⟨k3,kn⟩:=kind_nat hk
  refine P86 h hk hport (fun e=>?_) (fun u e hq' ps' h'=>?_)
  · rw [kn] at e
    simp only [tup2V_mk,aggV_agg,intV_int]
    rw [if_pos (t4_len _),if_pos (t4_one _),if_pos (by simp [t4_len]),show ((13:Int) != 0)=true from rfl,ite2_true]
    have er:roomB l low high mx (E.map (·.1)) p a=13:=by unfold roomB tkB; rw [if_neg (by simp [c1]),e]; rfl
    rw [er] at hno
    exact ifI rfl (ifI rfl (ifI (Nat.le_refl 26) (hno (by decide))))
  · rw [kn] at e
    simp only [tup2V_mk,aggV_agg,intV_int]
    rw [if_pos (t4_len _),if_pos (t4_one _),if_pos (by simp [t4_len]),show ((0:Int) != 0)=false from rfl,ite2_false,t4_spl rfl,t4_all,ldL_some,ldL_some,if_pos (t6_len _),if_pos (t4_len _),bd_new]
    obtain ⟨u1,u2,u3,u4,u5,u6,u7⟩:=tkB_some hinv hk e
    have er:roomB l low high mx (E.map (·.1)) p a=0:=by unfold roomB tkB; rw [if_neg (by simp [c1]),e]; rfl
    refine P87 h' (y:=⟨0,p,a,u,false,0⟩) hk ha u5 rfl ⟨u1,u4,hport⟩ f6 u6 (by simpa using hlt) hn fun hq2 ps2 b h2=>?_
    rw [aggV_agg,if_pos (bdc_len _),if_pos (bdc_one _),if_pos (by simp [bdc_len]),bd_spl rfl,bdc_cells,ldL_some]
    refine hyes er u e hq2 ?_
    have:=BdW.of h2 fun k hk'=>by
      rw [List.map_append]
      show _=heldB (E.map (·.1)++[⟨((last+1:Nat):Int),p,a,u,false,0⟩]) k
      rw [held_put]
      by_cases hkk:k=(kindB p).toNat
      · rw [if_pos hkk,if_pos (by rw [hkk]; exact kn.symm),hkk,kn]
        exact putL_none u7
      · rw [if_neg hkk,if_neg (fun e=>hkk (by show k=(kindB p).toNat; simp only at e; omega))]
    rw [List.map_append] at this
    exact this
end
end Go.Proofs
set_option linter.unusedVariables false
set_option maxRecDepth 20000
set_option maxHeartbeats 2000000
namespace Go.Proofs
open Go Go.HL
def F54 (x0:OA) (x1:Int) (hp:HP) (K:Kh):Prop:=
  (CF Tryz.prog 88 [(Value.pointer x0)] hp fun u_1 h_2=>(boolV u_1 fun q_3=>(ite2 q_3 (K (Value.int .i64 2) h_2) (ptrN x0 fun b_4 o_5=>(ldV (HP.cell h_2 b_4 (o_5+6)) fun v_6=>(mapV v_6 fun m_7=>(rdS Tryz.prog (Instr.lookup 103 (Value.map m_7) (Value.int .i64 x1) true) h_2 fun u_8=>(tup2V u_8 fun u_9 u_10=>(ptrV u_9 fun p_11=>(boolV u_10 fun q_12=>(ite2 (!q_12) (K (Value.int .i64 4) h_2) (ptrN p_11 fun b_13 o_14=>(ldV (HP.cell h_2 b_13 (o_14+25)) fun v_15=>(intV v_15 .i64 fun i_16=>(ptrN p_11 fun b_17 o_18=>(HP.st h_2 b_17 (o_18+25) (Value.int .i64 (IntKind.wrap .i64 (i_16+1))) fun h_19=>(K (Value.int .i64 0) h_19)))))))))))))))))
theorem F54_ok (x0:OA) (x1:Int) (hp:HP) (K:Kh) (h:F54 x0 x1 hp K):CF Tryz.prog 54 [(Value.pointer x0),(Value.int .i64 x1)] hp K:=
  have L:∀ {Q} n,Snd Tryz.prog 27 (cAt Tryz.f54 (pth n)) Q (CW Tryz.prog 27 [] [] (cAt Tryz.f54 (pth n)) Q):=fun _=>Snd.leaf
  okF h Tryz.func54 (L 1) (by kernel_rfl) (by kernel_rfl) (by kernel_rfl)
def F57_j1 (x0 x6:OA) (x45:Bool) (hp:HP) (K:Kh):Prop:=
  (ite2 x45 (K (.tuple ⟨[(Value.bool false),(Value.int .i64 0)]⟩) hp) (ptrN x6 fun b_24 o_25=>(ldL (HP.cellN hp b_24 o_25 26) fun l_26=>(CF Tryz.prog 107 [(Value.pointer x0),(Value.agg ⟨l_26⟩)] hp fun u_27 h_28=>((ptrN x6 fun b_29 o_30=>(ldV (HP.cell h_28 b_29 (o_30+1)) fun v_31=>(intV v_31 .i64 fun i_32=>(CF Tryz.prog 98 [(Value.int .i64 i_32)] h_28 fun u_33 h_34=>(intV u_33 .i64 fun i_35=>(ptrN x0 fun b_36 o_37=>((0≤(i_35:Int))∧((i_35:Int)<(3:Nat))∧(ldV (HP.cell h_34 b_36 ((o_37+9)+Int.toNat i_35*1)) fun v_38=>(ptrV v_38 fun p_39=>(ptrN x6 fun b_40 o_41=>(ldL (HP.cellN h_34 b_40 (o_41+19) 5) fun l_42=>(CF Tryz.prog 112 [(Value.pointer p_39),(Value.agg ⟨l_42⟩)] h_34 fun u_43 h_44=>(intV u_43 .i64 fun i_45=>(K (.tuple ⟨[(Value.bool true),(Value.int .i64 i_45)]⟩) h_44))))))))))))))∧(ptrN x6 fun b_46 o_47=>(ldV (HP.cell h_28 b_46 (o_47+1)) fun v_48=>(intV v_48 .i64 fun i_49=>(ptrN x0 fun b_50 o_51=>(ptrN x6 fun b_52 o_53=>(ldL (HP.cellN h_28 b_52 (o_53+19) 5) fun l_54=>(CF Tryz.prog 98 [(Value.int .i64 i_49)] h_28 fun u_55 h_56=>(intV u_55 .i64 fun i_57=>((0≤(i_57:Int))∧((i_57:Int)<(3:Nat))∧(ldV (HP.cell h_56 b_50 ((o_51+9)+Int.toNat i_57*1)) fun v_58=>(ptrV v_58 fun p_59=>(CF Tryz.prog 112 [(Value.pointer p_59),(Value.agg ⟨l_54⟩)] h_56 fun u_60 h_61=>(intV u_60 .i64 fun i_62=>(K (.tuple ⟨[(Value.bool true),(Value.int .i64 i_62)]⟩) h_61)))))))))))))))))))
def F57 (x0:OA) (x1:Int) (hp:HP) (K:Kh):Prop:=
  (CF Tryz.prog 88 [(Value.pointer x0)] hp fun u_1 h_2=>(boolV u_1 fun q_3=>(ite2 q_3 (K (.tuple ⟨[(Value.bool false),(Value.int .i64 2)]⟩) h_2) (ptrN x0 fun b_4 o_5=>(ldV (HP.cell h_2 b_4 (o_5+6)) fun v_6=>(mapV v_6 fun m_7=>(rdS Tryz.prog (Instr.lookup 103 (Value.map m_7) (Value.int .i64 x1) true) h_2 fun u_8=>(tup2V u_8 fun u_9 u_10=>(ptrV u_9 fun p_11=>(boolV u_10 fun q_12=>(ite2 (!q_12) (K (.tuple ⟨[(Value.bool false),(Value.int .i64 4)]⟩) h_2) (ptrN p_11 fun b_13 o_14=>(ldV (HP.cell h_2 b_13 (o_14+25)) fun v_15=>(intV v_15 .i64 fun i_16=>(ite2 ((i_16:Int)==0) (K (.tuple ⟨[(Value.bool false),(Value.int .i64 11)]⟩) h_2) (ptrN p_11 fun b_17 o_18=>(ldV (HP.cell h_2 b_17 (o_18+25)) fun v_19=>(intV v_19 .i64 fun i_20=>(ptrN p_11 fun b_21 o_22=>(HP.st h_2 b_21 (o_22+25) (Value.int .i64 (IntKind.wrap .i64 (i_20-1))) fun h_23=>(ptrN p_11 fun b_63 o_64=>(ldV (HP.cell h_23 b_63 (o_64+24)) fun v_65=>(boolV v_65 fun q_66=>(ite2 q_66 (F57_j1 x0 p_11 true h_23  K) (ptrN p_11 fun b_67 o_68=>(ldV (HP.cell h_23 b_67 (o_68+25)) fun v_69=>(intV v_69 .i64 fun i_70=>(F57_j1 x0 p_11 (decide ((i_70:Int) > 0)) h_23  K))))))))))))))))))))))))))))
theorem F57_ok (x0:OA) (x1:Int) (hp:HP) (K:Kh) (h:F57 x0 x1 hp K):CF Tryz.prog 57 [(Value.pointer x0),(Value.int .i64 x1)] hp K:=
  have L:∀ {Q} n,Snd Tryz.prog 66 (cAt Tryz.f57 (pth n)) Q (CW Tryz.prog 66 [] [(12,[(5,13)],[([true],true,[0,1,2,3,4,5,6,7,8,9,10,11,12,13,14,15,16]),([false],true,[0,1,2,3,4,6,7,10,11,12,13,5,8,9,14,15,16])])] (cAt Tryz.f57 (pth n)) Q):=fun _=>Snd.leaf
  okF h Tryz.func57 (Snd.seq (L 2) (Snd.seq (L 5) (Snd.seq (L 11) (Snd.seq (L 23) (Snd.seq (L 47) (Snd.seq (Snd.jn [(0,.p),(6,.p),(45,.b)] (fun a hp=>F57_j1 a.1 a.2.1 a.2.2.1 hp  K) (L 159) (L 223) (by rfl) (by kernel_rfl)) (L 127))))))) (by kernel_rfl) (by kernel_rfl) (by kernel_rfl)
end Go.Proofs
set_option linter.unusedVariables false
set_option maxRecDepth 20000
set_option maxHeartbeats 4000000
namespace Go.Proofs
open Go Go.HL
def F60_j1 (x3a:OA) (x3n x3c:Nat) (hp:HP) (K:Kh):Prop:=
  (CF Tryz.prog 113 [(Value.slice x3a x3n x3c),(Value.func (.func 114) ⟨[]⟩ ⟨[]⟩)] hp fun u_4 h_5=>(K (Value.slice x3a x3n x3c) h_5))
def F60_l3 (x12:Value) (K:Kh) (I3:((Option Addr) × Nat × Nat)→HP→Prop) (x3a:Option Addr) (x3n:Nat) (x3c:Nat) (hp:HP):Prop:=
  (opS Tryz.prog (Instr.next x12 false 0) hp fun u_6 h_7=>(tupI u_6 0 fun v_8=>(boolV v_8 fun q_9=>(ite2 q_9 (rdS Tryz.prog (Instr.entry x12) h_7 fun u_10=>(tupI u_10 1 fun v_11=>(ptrV v_11 fun p_12=>(ptrN p_12 fun b_13 o_14=>(ldL (HP.cellN h_7 b_13 o_14 26) fun l_15=>(if List.length l_15=26 then (∀ b_16:Nat,h_7 b_16=.none→(opS Tryz.prog (Builtin.append_ #[130,130] 130 ⟨[(Value.slice x3a x3n x3c),(Value.slice (some ⟨b_16,0,none⟩) 1 1)]⟩) (HP.set h_7 b_16 (.cells 97 (splice [(Value.int .i64 0),(Value.int .i64 0),(Value.int .u8 0),(Value.int .u8 0),(Value.int .u8 0),(Value.int .u8 0),(Value.int .u8 0),(Value.int .u8 0),(Value.int .u8 0),(Value.int .u8 0),(Value.int .u8 0),(Value.int .u8 0),(Value.int .u8 0),(Value.int .u8 0),(Value.int .u8 0),(Value.int .u8 0),(Value.int .u8 0),(Value.int .u8 0),(Value.int .i64 0),(Value.int .u8 0),(Value.int .u8 0),(Value.int .u8 0),(Value.int .u8 0),(Value.int .i64 0),(Value.bool false),(Value.int .i64 0)] 0 l_15) 0)) fun u_17 h_18=>(slcV u_17 fun a_19 n_20 c_21=>(I3 (a_19,n_20,c_21) h_18)))) else False)))))) (F60_j1 x3a x3n x3c h_7  K)))))
def F60_j2 (x3a:OA) (x3n x3c:Nat) (x12:Value) (hp:HP) (K:Kh):Prop:=
  (LoopP (σ:=(Option Addr) × Nat × Nat) (fun I s hp=>F60_l3 x12  K I s.1 s.2.1 s.2.2 hp) (x3a,x3n,x3c) hp)
def F60 (x0:OA) (hp:HP) (K:Kh):Prop:=
  (CF Tryz.prog 88 [(Value.pointer x0)] hp fun u_1 h_2=>(boolV u_1 fun q_3=>(ite2 q_3 (K (Value.slice none 0 0) h_2) (ptrN x0 fun b_22 o_23=>(ldV (HP.cell h_2 b_22 (o_23+6)) fun v_24=>(mapV v_24 fun m_25=>(opS Tryz.prog (Instr.range 103 (Value.map m_25)) h_2 fun u_26 h_27=>(F60_j2 none 0 0 u_26 h_27  K))))))))
theorem F60_ok (x0:OA) (hp:HP) (K:Kh) (h:F60 x0 hp K):CF Tryz.prog 60 [(Value.pointer x0)] hp K:=
  have L:∀ {Q} n,Snd Tryz.prog 26 (cAt Tryz.f60 (pth n)) Q (CW Tryz.prog 26 [] [] (cAt Tryz.f60 (pth n)) Q):=fun _=>Snd.leaf
  okF h Tryz.func60 (Snd.seq (L 2) (Snd.seq (L 5) (Snd.seq (L 11) (Snd.jn [(3,.s)] (fun a hp=>F60_j1 a.1 a.2.1 a.2.2.1 hp  K) (Snd.jn [(3,.s),(12,.w)] (fun a hp=>F60_j2 a.1 a.2.1 a.2.2.1 a.2.2.2.1 hp  K) (L 39) (Snd.block 0 (Snd.lp (σ:=(Option Addr) × Nat × Nat) [(3,.s),(12,.w)] (fun a=>(a.1,a.2.1,a.2.2.1)) (fun a s=>(s.1,s.2.1,s.2.2,a.2.2.2.1,())) (fun a I s hp=>F60_l3 a.2.2.2.1  K I s.1 s.2.1 s.2.2 hp) (fun I3=>(L 151)) (by rfl) (by kernel_rfl) (by kernel_rfl))) (by rfl) (by kernel_rfl)) (L 31) (by rfl) (by kernel_rfl))))) (by kernel_rfl) (by kernel_rfl) (by kernel_rfl)
def F46 (x0:OA) (hp:HP) (K:Kh):Prop:=
  (CF Tryz.prog 88 [(Value.pointer x0)] hp fun u_1 h_2=>(boolV u_1 fun q_3=>(ite2 q_3 (K (Value.int .i64 0) h_2) (ptrN x0 fun b_4 o_5=>(ldV (HP.cell h_2 b_4 (o_5+6)) fun v_6=>(mapV v_6 fun m_7=>(rdS Tryz.prog (Builtin.len_ #[103] 3 #[.map m_7]) h_2 fun u_8=>(intV u_8 .i64 fun i_9=>(K (Value.int .i64 i_9) h_2)))))))))
theorem F46_ok (x0:OA) (hp:HP) (K:Kh) (h:F46 x0 hp K):CF Tryz.prog 46 [(Value.pointer x0)] hp K:=
  have L:∀ {Q} n,Snd Tryz.prog 10 (cAt Tryz.f46 (pth n)) Q (CW Tryz.prog 10 [] [] (cAt Tryz.f46 (pth n)) Q):=fun _=>Snd.leaf
  okF h Tryz.func46 (L 1) (by kernel_rfl) (by kernel_rfl) (by kernel_rfl)
def F62_j1 (x0:OA) (x1:Int) (x11:Bool) (hp:HP) (K:Kh):Prop:=
  (ite2 x11 (K (Value.int .i64 0) hp) (CF Tryz.prog 98 [(Value.int .i64 x1)] hp fun u_1 h_2=>(intV u_1 .i64 fun i_3=>(ptrN x0 fun b_4 o_5=>((0≤(i_3:Int))∧((i_3:Int)<(3:Nat))∧(ldV (HP.cell h_2 b_4 ((o_5+9)+Int.toNat i_3*1)) fun v_6=>(ptrV v_6 fun p_7=>(CF Tryz.prog 115 [(Value.pointer p_7)] h_2 fun u_8 h_9=>(intV u_8 .i64 fun i_10=>(K (Value.int .i64 i_10) h_9))))))))))
def F62 (x0:OA) (x1:Int) (hp:HP) (K:Kh):Prop:=
  (CF Tryz.prog 88 [(Value.pointer x0)] hp fun u_11 h_12=>(boolV u_11 fun q_13=>(ite2 q_13 (F62_j1 x0 x1 true h_12  K) (CF Tryz.prog 98 [(Value.int .i64 x1)] h_12 fun u_14 h_15=>(intV u_14 .i64 fun i_16=>(F62_j1 x0 x1 (decide ((i_16:Int)<0)) h_15  K))))))
theorem F62_ok (x0:OA) (x1:Int) (hp:HP) (K:Kh) (h:F62 x0 x1 hp K):CF Tryz.prog 62 [(Value.pointer x0),(Value.int .i64 x1)] hp K:=
  have L:∀ {Q} n,Snd Tryz.prog 20 (cAt Tryz.f62 (pth n)) Q (CW Tryz.prog 20 [] [] (cAt Tryz.f62 (pth n)) Q):=fun _=>Snd.leaf
  okF h Tryz.func62 (Snd.seq (L 2) (Snd.seq (Snd.jn [(0,.p),(1,.i .i64),(11,.b)] (fun a hp=>F62_j1 a.1 a.2.1 a.2.2.1 hp  K) (L 9) (L 13) (by rfl) (by kernel_rfl)) (L 7))) (by kernel_rfl) (by kernel_rfl) (by kernel_rfl)
def F13_j2 (x0a:OA) (x0n x0c:Nat) (x14:OA) (hp:HP) (K:Kh):Prop:=
  ((0≤(0:Int))∧((0:Int)<(x0n:Nat))∧(ptrN x0a fun b_15 o_16=>(ldL (HP.cellN hp b_15 (o_16+Int.toNat 0*4) 4) fun l_17=>(ptrN x14 fun b_18 o_19=>((List.length l_17=4)∧(HP.stN hp b_18 (o_19+2) l_17 fun h_20=>(K (.tuple ⟨[(Value.pointer x14),(Value.int .i64 0)]⟩) h_20)))))))
def F13_l4 (x0a:OA) (x0n x0c:Nat) (x1 x2:Int) (x14:OA) (K:Kh) (I4:(Int)→HP→Prop) (x40:Int) (hp:HP):Prop:=
  (ite2 (decide ((x40:Int)<3)) (CF Tryz.prog 47 [(Value.slice x0a x0n x0c),(Value.int .i64 x1),(Value.int .i64 x2)] hp fun u_21 h_22=>(tup2V u_21 fun u_23 u_24=>(ptrV u_23 fun p_25=>(intV u_24 .i64 fun i_26=>(ite2 ((i_26:Int) != 0) (K (.tuple ⟨[(Value.pointer none),(Value.int .i64 i_26)]⟩) h_22) (ptrN x14 fun b_27 o_28=>((0≤(x40:Int))∧((x40:Int)<(3:Nat))∧(HP.st h_22 b_27 ((o_28+9)+Int.toNat x40*1) (Value.pointer p_25) fun h_29=>(I4 (IntKind.wrap .i64 (x40+1)) h_29))))))))) (F13_j2 x0a x0n x0c x14 hp  K))
def F13_j3 (x0a:OA) (x0n x0c:Nat) (x1 x2:Int) (x14:OA) (x40:Int) (hp:HP) (K:Kh):Prop:=
  (LoopP (σ:=Int) (fun I s hp=>F13_l4 x0a x0n x0c x1 x2 x14  K I s hp) x40 hp)
def F13_j1 (x0a:OA) (x0n x0c:Nat) (x1 x2 x3:Int) (x10 x12:OA) (x33:Bool) (hp:HP) (K:Kh):Prop:=
  (ite2 x33 (K (.tuple ⟨[(Value.pointer none),(Value.int .i64 1)]⟩) hp) (∀ b_13:Nat,hp b_13=.none→(∀ b_14:Nat,(HP.set hp b_13 (.obj (.map #[] 0))) b_14=.none→(F13_j3 x0a x0n x0c x1 x2 (some ⟨b_14,0,none⟩) 0 (HP.set (HP.set hp b_13 (.obj (.map #[] 0))) b_14 (.cells 107 [(Value.int .i64 x3),(Value.int .i64 0),(Value.int .u8 0),(Value.int .u8 0),(Value.int .u8 0),(Value.int .u8 0),(Value.map (some b_13)),(Value.pointer x10),(Value.pointer x12),(Value.pointer none),(Value.pointer none),(Value.pointer none)] 0))  K))))
def F13 (x0a:OA) (x0n x0c:Nat) (x1 x2 x3:Int) (hp:HP) (K:Kh):Prop:=
  (CF Tryz.prog 22 [(Value.int .i64 x3)] hp fun u_1 h_2=>(tup2V u_1 fun u_3 u_4=>(ptrV u_3 fun p_5=>(intV u_4 .i64 fun i_6=>(CF Tryz.prog 22 [(Value.int .i64 x3)] h_2 fun u_7 h_8=>(tup2V u_7 fun u_9 u_10=>(ptrV u_9 fun p_11=>(intV u_10 .i64 fun i_12=>(ite2 ((i_6:Int) != 0) (F13_j1 x0a x0n x0c x1 x2 x3 p_5 p_11 true h_8  K) (F13_j1 x0a x0n x0c x1 x2 x3 p_5 p_11 ((i_12:Int) != 0) h_8  K))))))))))
theorem F13_ok (x0a:OA) (x0n x0c:Nat) (x1 x2 x3:Int) (hp:HP) (K:Kh) (h:F13 x0a x0n x0c x1 x2 x3 hp K):CF Tryz.prog 13 [(Value.slice x0a x0n x0c),(Value.int .i64 x1),(Value.int .i64 x2),(Value.int .i64 x3)] hp K:=
  have L:∀ {Q} n,Snd Tryz.prog 67 (cAt Tryz.f13 (pth n)) Q (CW Tryz.prog 67 [] [] (cAt Tryz.f13 (pth n)) Q):=fun _=>Snd.leaf
  okF h Tryz.func13 (Snd.seq (L 2) (Snd.seq (L 5) (Snd.seq (L 11) (Snd.seq (Snd.jn [(0,.s),(1,.i .i64),(2,.i .i64),(3,.i .i64),(10,.p),(12,.p),(33,.b)] (fun a hp=>F13_j1 a.1 a.2.1 a.2.2.1 a.2.2.2.1 a.2.2.2.2.1 a.2.2.2.2.2.1 a.2.2.2.2.2.2.1 a.2.2.2.2.2.2.2.1 a.2.2.2.2.2.2.2.2.1 hp  K) (L 39) (L 55) (by rfl) (by kernel_rfl)) (Snd.seq (L 47) (Snd.jn [(0,.s),(14,.p)] (fun a hp=>F13_j2 a.1 a.2.1 a.2.2.1 a.2.2.2.1 hp  K) (Snd.jn [(0,.s),(1,.i .i64),(2,.i .i64),(14,.p),(40,.i .i64)] (fun a hp=>F13_j3 a.1 a.2.1 a.2.2.1 a.2.2.2.1 a.2.2.2.2.1 a.2.2.2.2.2.1 a.2.2.2.2.2.2.1 hp  K) (L 159) (Snd.block 0 (Snd.lp (σ:=Int) [(0,.s),(1,.i .i64),(2,.i .i64),(14,.p),(40,.i .i64)] (fun a=>a.2.2.2.2.2.2.1) (fun a s=>(a.1,a.2.1,a.2.2.1,a.2.2.2.1,a.2.2.2.2.1,a.2.2.2.2.2.1,s,())) (fun a I s hp=>F13_l4 a.1 a.2.1 a.2.2.1 a.2.2.2.1 a.2.2.2.2.1 a.2.2.2.2.2.1  K I s hp) (fun I4=>(L 607)) (by rfl) (by kernel_rfl) (by kernel_rfl))) (by rfl) (by kernel_rfl)) (L 127) (by rfl) (by kernel_rfl))))))) (by kernel_rfl) (by kernel_rfl) (by kernel_rfl)
def F114 (x0 x1:List Value) (hp:HP) (K:Kh):Prop:=
  (ldV (x0)[0]? fun v_1=>(intV v_1 .i64 fun i_2=>(ldV (x1)[0]? fun v_3=>(intV v_3 .i64 fun i_4=>(CF Tryz.prog 82 [(Value.int .i64 i_2),(Value.int .i64 i_4)] hp fun u_5 h_6=>(intV u_5 .i64 fun i_7=>(K (Value.int .i64 i_7) h_6)))))))
theorem F114_ok (x0 x1:List Value) (hp:HP) (K:Kh) (h:F114 x0 x1 hp K):CF Tryz.prog 114 [(Value.agg ⟨x0⟩),(Value.agg ⟨x1⟩)] hp K:=
  have L:∀ {Q} n,Snd Tryz.prog 10 (cAt Tryz.f114 (pth n)) Q (CW Tryz.prog 10 [2,3,5,7] [] (cAt Tryz.f114 (pth n)) Q):=fun _=>Snd.leaf
  okF h Tryz.func114 (L 1) (by kernel_rfl) (by kernel_rfl) (by kernel_rfl)
end Go.Proofs
set_option linter.unusedVariables false
set_option linter.unusedSimpArgs false
set_option maxRecDepth 20000
namespace Go.Proofs
open Go Go.HL
section
variable {tb:Obj} {hq:HP} {t:Nat} {l:List Q} {low high:Int} {mx last n:Nat} {L:List Bd} {E:List (Bd × Nat)} {ps:Nat→HP} {m x o:Nat} {pl pm:Nat→Nat} {H:Nat→List ((Q × Int) × Bool)} {K:Value→HP→Prop}
theorem W65 (h:BdW tb hq t l low high mx last n L) {p:Int} {a:V6 × Int} (hp:okZ p) (ha:okT6 a) (hK:K (toldV (find6 p a L)) hq):CF Tryz.prog 65 [ptr t 0,.int .i64 p,.agg ⟨t6 a⟩] hq K:=by
  obtain ⟨E,ps,m,x,o,pl,pm,rfl,h⟩:=h
  exact P65 h hp ha hK
theorem W44 (h:BdW tb hq t l low high mx last n L) {p:Int} {a:Q × Int} (hp:okZ p) (ha:okT a) (hK:K (toldV (find4 p a L)) hq):CF Tryz.prog 44 [ptr t 0,.int .i64 p,.agg ⟨t4 a⟩] hq K:=by
  obtain ⟨E,ps,m,x,o,pl,pm,rfl,h⟩:=h
  exact P44 h hp ha hK
theorem W61 (h:BdW tb hq t l low high mx last n L) {i:Int} (hK:K (toldV (findI i L)) hq):CF Tryz.prog 61 [ptr t 0,.int .i64 i] hq K:=by
  obtain ⟨E,ps,m,x,o,pl,pm,rfl,h⟩:=h
  exact P61 h hK
theorem W46 (h:BdW tb hq t l low high mx last n L) (hK:K (.int .i64 (L.length:Nat)) hq):CF Tryz.prog 46 [ptr t 0] hq K:=by
  obtain ⟨E,ps,m,x,o,pl,pm,rfl,h⟩:=h
  refine F46_ok _ hq K ?_
  unfold F46
  refine C88 h ?_
  simp only [boolV_bool,ite2_false,ptrN_some,Nat.reduceAdd,h.c6,ldV_some,mapV_map]
  refine rdS_mapLen u123 h.mapq ?_
  rw [intV_int]
  rw [List.length_map] at hK ⊢
  exact hK
def updE (i s:Int) (E:List (Bd × Nat)):List (Bd × Nat):=E.map fun e=>(setS i s e.1,e.2)
theorem updE_fst (i s:Int) (E:List (Bd × Nat)):(updE i s E).map (·.1)=updB i s (E.map (·.1)):=by
  unfold updE updB
  rw [List.map_map,List.map_map]
  rfl
theorem BdP.ses (h:BdP tb hq t l low high mx last n E ps m x o pl pm H) {e:Bd × Nat} (he:e∈E) {s:Int} (hs:0≤s∧s≤n) :
    BdP tb (hq.set e.2 (.cells 97 (bdc { e.1 with ses:=s }) 0)) t l low high mx last n (updE e.1.id s E) (pu ps 0 ((ps 0).set e.2 (.cells 97 (bdc { e.1 with ses:=s }) 0))) m x o pl pm H where
  parts:=h.parts.put 0 (by rw [h.main.blk e he]; simp) _
  main:=by
    rw [pu_eq]
    refine ⟨?_,?_,?_,?_⟩
    · rw [HP.set_ne _ _ (h.main.bt he).symm]; exact h.main.tab
    · rw [HP.set_ne _ _ (h.main.bm he).symm]
      have:(updE e.1.id s E).map (fun z=>(z.1.id,z.2))=E.map fun z=>(z.1.id,z.2):=by
        unfold updE
        rw [List.map_map]
        exact List.map_congr_left fun z _=>by simp only [Function.comp,setS_id]
      rw [this]; exact h.main.map
    · intro z hz
      obtain ⟨w,hw,rfl⟩:=List.mem_map.1 hz
      by_cases hwe:w.1.id=e.1.id
      · have:w=e:=inj_of (g:=fun z:Bd × Nat=>z.1.id) h.ids hw he hwe
        subst this
        simp only
        rw [HP.set_eq]
        unfold setS
        rw [if_pos rfl]
      · have hne:w.2≠e.2:=fun e'=>hwe (by
          have a:=h.main.blk w hw
          have b:=h.main.blk e he
          rw [e',b] at a
          simp only [Ent.cells.injEq,true_and,and_true] at a
          rw [bdc_inj.1 a])
        simp only
        rw [HP.set_ne _ _ hne]
        unfold setS
        rw [if_neg hwe]
        exact h.main.blk w hw
    · exact ⟨by rw [HP.set_ne _ _ (h.main.b0 he).symm]; exact h.main.dig.1,h.main.dig.2⟩
  six:=by
    rw [pu_ne _ _ (by omega),updE_fst,upd_map _ _ _ fun b=>by unfold Bd.k6; rw [setS_proto,setS_inn,setS_id]]
    exact h.six
  four:=by
    rw [pu_ne _ _ (by omega),updE_fst,upd_map _ _ _ fun b=>by unfold Bd.k4; rw [setS_proto,setS_out,setS_id]]
    exact h.four
  pool k hk:=by rw [pu_ne _ _ (by omega)]; exact h.pool k hk
  inv:=by rw [updE_fst]; exact h.inv.upd hs
theorem findE_some {i:Int} (h:BdP tb hq t l low high mx last n E ps m x o pl pm H) {b:Bd} (hb:findI i (E.map (·.1))=some b):∃ e,e∈E∧e.1=b∧b.id=i∧(E.find? fun e=>decide (e.1.id=i))=some e:=by
  rw [← findE] at hb
  cases hf:E.find? fun e=>decide (e.1.id=i) with
  | none=>rw [hf] at hb; cases hb
  | some e=>
    rw [hf] at hb
    simp only [Option.map_some,Option.some.injEq] at hb
    obtain ⟨h1,h2⟩:=find_mem hf
    have:=of_decide_eq_true h2
    exact ⟨e,h1,hb,by rw [← hb]; exact this,rfl⟩
set_option maxHeartbeats 800000 in
theorem W54 (h:BdW tb hq t l low high mx last n L) {i:Int} (hn:n<1000000) (hno:findI i L=none→K (.int .i64 4) hq)
    (hyes:∀ b,findI i L=some b→∀ hq',BdW tb hq' t l low high mx last (n+1) (updB i (b.ses+1) L)→K (.int .i64 0) hq'):CF Tryz.prog 54 [ptr t 0,.int .i64 i] hq K:=by
  obtain ⟨E,ps,m,x,o,pl,pm,rfl,h⟩:=h
  refine F54_ok _ i hq K ?_
  unfold F54
  refine C88 h ?_
  simp only [boolV_bool,ite2_false,ptrN_some,Nat.reduceAdd,h.c6,ldV_some,mapV_map]
  refine rdS_lookup (l:=E.map fun e=>(e.1.id,e.2)) u123 enc3 (z:=.pointer none) (fun w=>itoa_zero (by kernel_rfl) w) h.mapq i (ev:=fun k:Nat=>ptr k 0) (cm:=true) ?_
  rw [h.get]
  cases hf:findI i (E.map (·.1)) with
  | none=>
    have he:(E.find? fun e=>decide (e.1.id=i))=none:=by
      rw [← findE] at hf
      simpa using hf
    rw [he]
    exact hno hf
  | some b=>
    obtain ⟨e,he,rfl,hid,hfe⟩:=findE_some h hf
    rw [hfe]
    have hc:=h.blkq he
    have h25:hq.cell e.2 25=some (.int .i64 e.1.ses):=HP.cell_of hc
    suffices hg:ptrN (some ⟨e.2,0,none⟩) fun b_13 o_14=>ldV (hq.cell b_13 (o_14+25)) fun v_15=>intV v_15 .i64 fun i_16=>ptrN (some ⟨e.2,0,none⟩) fun b_17 o_18=>hq.st b_17 (o_18+25) (.int .i64 (IntKind.wrap .i64 (i_16+1))) fun h_19=>K (.int .i64 0) h_19 from hg
    simp only [ptrN_some,Nat.reduceAdd,h25,ldV_some,intV_int]
    obtain ⟨_,_,_,s0,s1⟩:=h.inv.ok e.1 (List.mem_map.2 ⟨e,he,rfl⟩)
    have hn1:=h.inv.n
    have w1:IntKind.wrap .i64 (e.1.ses+1)=e.1.ses+1:=w64 (by omega) (by omega)
    rw [w1]
    refine HP.st_at hc (by simp [bdc_len]) ?_
    have h1:BdP tb hq t l low high mx last (n+1) E ps m x o pl pm fun k=>heldB (E.map (·.1)) k:={ h with inv:=h.inv.mono (n':=n+1) (by omega) (by omega) }
    have h2:=h1.ses he (s:=e.1.ses+1) ⟨by omega,by omega⟩
    have h3:=BdW.of h2 fun k _=>by rw [updE_fst,held_upd]
    rw [updE_fst,hid] at h3
    exact hyes e.1 hf _ h3
end
end Go.Proofs
set_option linter.unusedVariables false
set_option linter.unusedSimpArgs false
set_option maxRecDepth 20000
namespace Go.Proofs
open Go Go.HL
section
variable {tb:Obj} {hq:HP} {t:Nat} {l:List Q} {low high:Int} {mx last n:Nat} {L:List Bd} {E:List (Bd × Nat)} {ps:Nat→HP} {m x o:Nat} {pl pm:Nat→Nat} {H:Nat→List ((Q × Int) × Bool)} {K:Value→HP→Prop}
theorem upd_cut (i s:Int) (L:List Bd):(updB i s L).filter (fun z=>decide (z.id≠i))=L.filter fun z=>decide (z.id≠i):=by
  induction L with
  | nil=>rfl
  | cons y L ih=>
    show ((setS i s y)::updB i s L).filter _=_
    rw [List.filter_cons,List.filter_cons,ih,setS_id]
    by_cases hy:y.id=i
    · simp [hy]
    · simp only [hy,ne_eq,not_false_eq_true,decide_true,if_true]
      unfold setS
      rw [if_neg hy]
theorem find4_of {L:List Bd} (h:InvB l low high mx last n L) {y:Bd} (hy:y∈L):find4 y.proto y.out L=some y:=by
  have:=find_of (g:=fun x:Bd=>(x.proto,x.out)) h.keys4 hy
  rw [← this]
  refine find_congr fun x _=>decide_eq_decide.2 ?_
  simp only [Prod.mk.injEq]
def dropB (b:Bd) (L:List Bd):List Bd:=if b.st=true∨1<b.ses then updB b.id (b.ses-1) L else L.filter fun z=>decide (z.id≠b.id)
set_option maxHeartbeats 1600000 in
theorem W57 (h:BdW tb hq t l low high mx last n L) {i:Int} (hno:findI i L=none→K (.tuple ⟨[.bool false,.int .i64 4]⟩) hq)
    (hz:∀ b,findI i L=some b→b.ses=0→K (.tuple ⟨[.bool false,.int .i64 11]⟩) hq)
    (hyes:∀ b,findI i L=some b→1≤b.ses→∀ hq',BdW tb hq' t l low high mx last n (dropB b L)→K (.tuple ⟨[.bool (!(b.st||decide (1<b.ses))),.int .i64 0]⟩) hq'):CF Tryz.prog 57 [ptr t 0,.int .i64 i] hq K:=by
  have hinv:=h.inv
  obtain ⟨E,ps,m,x,o,pl,pm,rfl,h⟩:=h
  refine F57_ok _ i hq K ?_
  unfold F57
  refine C88 h ?_
  simp only [boolV_bool,ite2_false,ptrN_some,Nat.reduceAdd,h.c6,ldV_some,mapV_map]
  refine rdS_lookup (l:=E.map fun e=>(e.1.id,e.2)) u123 enc3 (z:=.pointer none) (fun w=>itoa_zero (by kernel_rfl) w) h.mapq i (ev:=fun k:Nat=>ptr k 0) (cm:=true) ?_
  rw [h.get]
  cases hf:findI i (E.map (·.1)) with
  | none=>
    have he:(E.find? fun e=>decide (e.1.id=i))=none:=by
      rw [← findE] at hf
      simpa using hf
    rw [he]
    exact hno hf
  | some b=>
    obtain ⟨e,he,rfl,hid,hfe⟩:=findE_some h hf
    rw [hfe]
    simp only [if_true,Option.map_some,Option.getD_some,Option.isSome_some,tup2V_mk,pq,boolV_bool,Bool.not_true,ite2_false,ptrN_some,Nat.reduceAdd]
    have hc:=h.blkq he
    have h25:hq.cell e.2 25=some (.int .i64 e.1.ses):=HP.cell_of hc
    have hmem:e.1∈E.map (·.1):=List.mem_map.2 ⟨e,he,rfl⟩
    obtain ⟨k1,_,k4,s0,s1⟩:=h.inv.ok e.1 hmem
    have hn1:=h.inv.n
    rw [h25,ldV_some,intV_int]
    by_cases hz0:e.1.ses=0
    · rw [show (e.1.ses==0)=true by simp [hz0],ite2_true]
      exact hz e.1 hf hz0
    rw [show (e.1.ses==0)=false by simp [hz0],ite2_false,ldV_some,intV_int]
    have w1:IntKind.wrap .i64 (e.1.ses-1)=e.1.ses-1:=w64 (by omega) (by omega)
    rw [w1]
    refine HP.st_at hc (by simp [bdc_len]) ?_
    have h2:=h.ses he (s:=e.1.ses-1) ⟨by omega,by omega⟩
    rw [show (bdc e.1).set 25 (.int .i64 (e.1.ses-1))=bdc { e.1 with ses:=e.1.ses-1 } from by kernel_rfl]
    obtain ⟨y,hy⟩:∃ y:Bd,y={ e.1 with ses:=e.1.ses-1 }:=⟨_,rfl⟩
    have yid:y.id=e.1.id:=by rw [hy]
    have yp:y.proto=e.1.proto:=by rw [hy]
    have yo:y.out=e.1.out:=by rw [hy]
    have yst:y.st=e.1.st:=by rw [hy]
    have yses:y.ses=e.1.ses-1:=by rw [hy]
    rw [← hy] at h2 ⊢
    generalize hq.set e.2 (.cells 97 (bdc y) 0)=hq2 at *
    generalize pu ps 0 ((ps 0).set e.2 (.cells 97 (bdc y) 0))=ps2 at *
    have he':((y,e.2):Bd × Nat)∈updE e.1.id (e.1.ses-1) E:=by
      refine List.mem_map.2 ⟨e,he,?_⟩
      unfold setS
      rw [if_pos rfl,hy]
    have hc2:hq2 e.2=.cells 97 (bdc y) 0:=h2.blkq he'
    have r24:hq2.cell e.2 24=some (.bool e.1.st):=by rw [← yst]; exact HP.cell_of hc2
    have r25:hq2.cell e.2 25=some (.int .i64 (e.1.ses-1)):=by rw [← yses]; exact HP.cell_of hc2
    have rall:hq2.cellN e.2 0 26=some (bdc y):=HP.cellN_of hc2
    have keep:(e.1.st=true∨1<e.1.ses)→K (.tuple ⟨[.bool false,.int .i64 0]⟩) hq2:=fun hk=>by
      have:=BdW.of h2 fun k _=>by rw [updE_fst,held_upd]
      rw [updE_fst] at this
      have h3:=hyes e.1 hf (by omega) hq2 (by unfold dropB; rw [if_pos hk]; exact this)
      have:(!(e.1.st||decide (1<e.1.ses)))=false:=by
        rcases hk with hk | hk <;> simp [hk]
      rw [this] at h3; exact h3
    have gone:¬ (e.1.st=true∨1<e.1.ses)→F57_j1 (some ⟨t,0,none⟩) (some ⟨e.2,0,none⟩) false hq2 K:=fun hk=>by
      unfold F57_j1
      rw [ite2_false,ptrN_some,rall,ldL_some]
      refine P107 (e:=(y,e.2)) h2 he' fun hq3 ps3 h3 hb3=>?_
      obtain ⟨k3,kn⟩:=kind_nat k1
      have hk3:=(kind_lt (p:=e.1.proto)).1
      simp only [yid] at h3
      have hb4:hq3 e.2=.cells 97 (bdc y) 0:=(h3.parts.sub 0).cells hb3
      have q1:hq3.cell e.2 1=some (.int .i64 e.1.proto):=by rw [← yp]; exact HP.cell_of hb4
      have q19:hq3.cellN e.2 19 5=some (t4 e.1.out):=by rw [← yo]; exact HP.cellN_of hb4
      have hm2:(updE e.1.id (e.1.ses-1) E).map (·.1)=updB e.1.id (e.1.ses-1) (E.map (·.1)):=updE_fst _ _ _
      have hL:((updE e.1.id (e.1.ses-1) E).filter fun z=>decide (z.1.id≠e.1.id)).map (·.1)=(E.map (·.1)).filter fun z=>decide (z.id≠e.1.id):=by
        rw [fst_filter,hm2,upd_cut]
      have hst:e.1.st=false:=by
        cases hs:e.1.st with
        | false=>rfl
        | true=>exact absurd (.inl hs) hk
      have hg:giveQ l (heldB (E.map (·.1)) (kindB e.1.proto)) e.1.out=0:=by
        obtain ⟨g1,g2,_⟩:=h.inv.pool e.1 hmem
        have hm:mayQ l e.1.out=0:=by unfold mayQ; exact if_pos ⟨g2,g1⟩
        unfold giveQ
        rw [if_neg (by rw [hm]; simp),held_get h.inv k1,find4_of h.inv hmem,Option.map_some,hst]
      have hd:dropB e.1 (E.map (·.1))=(E.map (·.1)).filter fun z=>decide (z.id≠e.1.id):=if_neg hk
      have hv:(!(e.1.st||decide (1<e.1.ses)))=true:=by
        rw [hst,Bool.false_or,decide_eq_false fun hh=>hk (.inr hh)]; rfl
      have fin:CF Tryz.prog 112 [ptr (pl (kindB e.1.proto).toNat) 0,.agg ⟨t4 e.1.out⟩] hq3 fun u h=>intV u .i64 fun i=>K (.tuple ⟨[.bool true,.int .i64 i]⟩) h:=by
        have hpool:=h3.poolq k3
        simp only [kn] at hpool
        refine C112 hpool hinv.len4 (fun hne=>absurd hg hne) (fun _ ent hent=>?_)
        rw [intV_int]
        have h4:=h3.hold k3 hent
        have h5:=BdW.of h4 fun k hk'=>by
          rw [hL]
          by_cases hkk:k=(kindB e.1.proto).toNat
          · rw [if_pos hkk,hkk,kn]; exact held_del h.inv hmem
          · rw [if_neg hkk]; exact (held_del_ne hmem h.inv.ids (by omega)).symm
        rw [hL,← hd] at h5
        have h6:=hyes e.1 hf (by omega) _ h5
        rw [hv] at h6; exact h6
      have c73:∀ {K':Value→HP→Prop},K' (.int .i64 (kindB e.1.proto)) hq3→CF Tryz.prog 98 [.int .i64 e.1.proto] hq3 K':=fun hh=>C98 hh
      have ck:=h3.ck k1
      clear hyes keep hz hno
      repeat' apply And.intro
      all_goals repeat (first
        | exact fin
        | (refine c73 ?_; rw [intV_int])
        | (rw [ptrN_some])
        | (refine ⟨k1,hk3,?_⟩)
        | (rw [ck,ldV_some,pq])
        | (rw [show (0+1:Nat)=1 from rfl,q1,ldV_some,intV_int])
        | (rw [show (0+19:Nat)=19 from rfl,q19,ldL_some]))
    have fin:∀ q:Bool,q=(e.1.st||decide (1<e.1.ses))→F57_j1 (some ⟨t,0,none⟩) (some ⟨e.2,0,none⟩) q hq2 K:=fun q hq'=>by
      cases q with
      | true=>
        unfold F57_j1
        rw [ite2_true]
        exact keep (by simpa using hq'.symm)
      | false=>exact gone (by simpa using hq'.symm)
    rw [r24,ldV_some,boolV_bool]
    cases hst:e.1.st with
    | true=>rw [ite2_true]; exact fin true (by simp [hst])
    | false=>
      rw [ite2_false,r25,ldV_some,intV_int]
      refine fin _ ?_
      rw [hst,Bool.false_or]
      exact decide_eq_decide.2 ⟨fun _=>by omega,fun _=>by omega⟩
end
end Go.Proofs
set_option linter.unusedVariables false
set_option linter.constructorNameAsVariable false
set_option maxRecDepth 20000
set_option maxHeartbeats 8000000
namespace Go.Proofs
open Go Go.HL
def F50_j2 (x0:OA) (x1 x10:Int) (x62:Bool) (k6 k7 k8:List Value) (hp:HP) (K:Kh):Prop:=
  (ite2 x62 (if List.length [(Value.int .i64 0),(Value.int .i64 0),(Value.int .u8 0),(Value.int .u8 0),(Value.int .u8 0),(Value.int .u8 0),(Value.int .u8 0),(Value.int .u8 0),(Value.int .u8 0),(Value.int .u8 0),(Value.int .u8 0),(Value.int .u8 0),(Value.int .u8 0),(Value.int .u8 0),(Value.int .u8 0),(Value.int .u8 0),(Value.int .u8 0),(Value.int .u8 0),(Value.int .i64 0),(Value.int .u8 0),(Value.int .u8 0),(Value.int .u8 0),(Value.int .u8 0),(Value.int .i64 0),(Value.bool false),(Value.int .i64 0)]=26 then (if List.all [(Value.int .i64 0),(Value.int .i64 0),(Value.int .u8 0),(Value.int .u8 0),(Value.int .u8 0),(Value.int .u8 0),(Value.int .u8 0),(Value.int .u8 0),(Value.int .u8 0),(Value.int .u8 0),(Value.int .u8 0),(Value.int .u8 0),(Value.int .u8 0),(Value.int .u8 0),(Value.int .u8 0),(Value.int .u8 0),(Value.int .u8 0),(Value.int .u8 0),(Value.int .i64 0),(Value.int .u8 0),(Value.int .u8 0),(Value.int .u8 0),(Value.int .u8 0),(Value.int .i64 0),(Value.bool false),(Value.int .i64 0)] one=true then (if 0+List.length [(Value.int .i64 0),(Value.int .i64 0),(Value.int .u8 0),(Value.int .u8 0),(Value.int .u8 0),(Value.int .u8 0),(Value.int .u8 0),(Value.int .u8 0),(Value.int .u8 0),(Value.int .u8 0),(Value.int .u8 0),(Value.int .u8 0),(Value.int .u8 0),(Value.int .u8 0),(Value.int .u8 0),(Value.int .u8 0),(Value.int .u8 0),(Value.int .u8 0),(Value.int .i64 0),(Value.int .u8 0),(Value.int .u8 0),(Value.int .u8 0),(Value.int .u8 0),(Value.int .i64 0),(Value.bool false),(Value.int .i64 0)]≤List.length k8 then (ldL (cellsN (splice k8 0 [(Value.int .i64 0),(Value.int .i64 0),(Value.int .u8 0),(Value.int .u8 0),(Value.int .u8 0),(Value.int .u8 0),(Value.int .u8 0),(Value.int .u8 0),(Value.int .u8 0),(Value.int .u8 0),(Value.int .u8 0),(Value.int .u8 0),(Value.int .u8 0),(Value.int .u8 0),(Value.int .u8 0),(Value.int .u8 0),(Value.int .u8 0),(Value.int .u8 0),(Value.int .i64 0),(Value.int .u8 0),(Value.int .u8 0),(Value.int .u8 0),(Value.int .u8 0),(Value.int .i64 0),(Value.bool false),(Value.int .i64 0)]) 0 26) fun l_21=>(K (.tuple ⟨[(.agg ⟨l_21⟩),(Value.int .i64 5)]⟩) hp)) else False) else False) else False) (ldL (cellsN k6 0 17) fun l_22=>(CF Tryz.prog 85 [(Value.pointer x0),(Value.int .i64 x1),(Value.agg ⟨l_22⟩)] hp fun u_23 h_24=>(intV u_23 .i64 fun i_25=>(ite2 ((i_25:Int) != 0) (if List.length [(Value.int .i64 0),(Value.int .i64 0),(Value.int .u8 0),(Value.int .u8 0),(Value.int .u8 0),(Value.int .u8 0),(Value.int .u8 0),(Value.int .u8 0),(Value.int .u8 0),(Value.int .u8 0),(Value.int .u8 0),(Value.int .u8 0),(Value.int .u8 0),(Value.int .u8 0),(Value.int .u8 0),(Value.int .u8 0),(Value.int .u8 0),(Value.int .u8 0),(Value.int .i64 0),(Value.int .u8 0),(Value.int .u8 0),(Value.int .u8 0),(Value.int .u8 0),(Value.int .i64 0),(Value.bool false),(Value.int .i64 0)]=26 then (if List.all [(Value.int .i64 0),(Value.int .i64 0),(Value.int .u8 0),(Value.int .u8 0),(Value.int .u8 0),(Value.int .u8 0),(Value.int .u8 0),(Value.int .u8 0),(Value.int .u8 0),(Value.int .u8 0),(Value.int .u8 0),(Value.int .u8 0),(Value.int .u8 0),(Value.int .u8 0),(Value.int .u8 0),(Value.int .u8 0),(Value.int .u8 0),(Value.int .u8 0),(Value.int .i64 0),(Value.int .u8 0),(Value.int .u8 0),(Value.int .u8 0),(Value.int .u8 0),(Value.int .i64 0),(Value.bool false),(Value.int .i64 0)] one=true then (if 0+List.length [(Value.int .i64 0),(Value.int .i64 0),(Value.int .u8 0),(Value.int .u8 0),(Value.int .u8 0),(Value.int .u8 0),(Value.int .u8 0),(Value.int .u8 0),(Value.int .u8 0),(Value.int .u8 0),(Value.int .u8 0),(Value.int .u8 0),(Value.int .u8 0),(Value.int .u8 0),(Value.int .u8 0),(Value.int .u8 0),(Value.int .u8 0),(Value.int .u8 0),(Value.int .i64 0),(Value.int .u8 0),(Value.int .u8 0),(Value.int .u8 0),(Value.int .u8 0),(Value.int .i64 0),(Value.bool false),(Value.int .i64 0)]≤List.length k8 then (ldL (cellsN (splice k8 0 [(Value.int .i64 0),(Value.int .i64 0),(Value.int .u8 0),(Value.int .u8 0),(Value.int .u8 0),(Value.int .u8 0),(Value.int .u8 0),(Value.int .u8 0),(Value.int .u8 0),(Value.int .u8 0),(Value.int .u8 0),(Value.int .u8 0),(Value.int .u8 0),(Value.int .u8 0),(Value.int .u8 0),(Value.int .u8 0),(Value.int .u8 0),(Value.int .u8 0),(Value.int .i64 0),(Value.int .u8 0),(Value.int .u8 0),(Value.int .u8 0),(Value.int .u8 0),(Value.int .i64 0),(Value.bool false),(Value.int .i64 0)]) 0 26) fun l_26=>(K (.tuple ⟨[(.agg ⟨l_26⟩),(Value.int .i64 i_25)]⟩) h_24)) else False) else False) else False) (ptrN x0 fun b_27 o_28=>((0≤(x10:Int))∧((x10:Int)<(3:Nat))∧(ldV (HP.cell h_24 b_27 ((o_28+9)+Int.toNat x10*1)) fun v_29=>(ptrV v_29 fun p_30=>(ldL (cellsN k7 0 5) fun l_31=>(CF Tryz.prog 102 [(Value.pointer p_30),(Value.agg ⟨l_31⟩)] h_24 fun u_32 h_33=>(intV u_32 .i64 fun i_34=>(ite2 ((i_34:Int) != 0) (if List.length [(Value.int .i64 0),(Value.int .i64 0),(Value.int .u8 0),(Value.int .u8 0),(Value.int .u8 0),(Value.int .u8 0),(Value.int .u8 0),(Value.int .u8 0),(Value.int .u8 0),(Value.int .u8 0),(Value.int .u8 0),(Value.int .u8 0),(Value.int .u8 0),(Value.int .u8 0),(Value.int .u8 0),(Value.int .u8 0),(Value.int .u8 0),(Value.int .u8 0),(Value.int .i64 0),(Value.int .u8 0),(Value.int .u8 0),(Value.int .u8 0),(Value.int .u8 0),(Value.int .i64 0),(Value.bool false),(Value.int .i64 0)]=26 then (if List.all [(Value.int .i64 0),(Value.int .i64 0),(Value.int .u8 0),(Value.int .u8 0),(Value.int .u8 0),(Value.int .u8 0),(Value.int .u8 0),(Value.int .u8 0),(Value.int .u8 0),(Value.int .u8 0),(Value.int .u8 0),(Value.int .u8 0),(Value.int .u8 0),(Value.int .u8 0),(Value.int .u8 0),(Value.int .u8 0),(Value.int .u8 0),(Value.int .u8 0),(Value.int .i64 0),(Value.int .u8 0),(Value.int .u8 0),(Value.int .u8 0),(Value.int .u8 0),(Value.int .i64 0),(Value.bool false),(Value.int .i64 0)] one=true then (if 0+List.length [(Value.int .i64 0),(Value.int .i64 0),(Value.int .u8 0),(Value.int .u8 0),(Value.int .u8 0),(Value.int .u8 0),(Value.int .u8 0),(Value.int .u8 0),(Value.int .u8 0),(Value.int .u8 0),(Value.int .u8 0),(Value.int .u8 0),(Value.int .u8 0),(Value.int .u8 0),(Value.int .u8 0),(Value.int .u8 0),(Value.int .u8 0),(Value.int .u8 0),(Value.int .i64 0),(Value.int .u8 0),(Value.int .u8 0),(Value.int .u8 0),(Value.int .u8 0),(Value.int .i64 0),(Value.bool false),(Value.int .i64 0)]≤List.length k8 then (ldL (cellsN (splice k8 0 [(Value.int .i64 0),(Value.int .i64 0),(Value.int .u8 0),(Value.int .u8 0),(Value.int .u8 0),(Value.int .u8 0),(Value.int .u8 0),(Value.int .u8 0),(Value.int .u8 0),(Value.int .u8 0),(Value.int .u8 0),(Value.int .u8 0),(Value.int .u8 0),(Value.int .u8 0),(Value.int .u8 0),(Value.int .u8 0),(Value.int .u8 0),(Value.int .u8 0),(Value.int .i64 0),(Value.int .u8 0),(Value.int .u8 0),(Value.int .u8 0),(Value.int .u8 0),(Value.int .i64 0),(Value.bool false),(Value.int .i64 0)]) 0 26) fun l_35=>(K (.tuple ⟨[(.agg ⟨l_35⟩),(Value.int .i64 i_34)]⟩) h_33)) else False) else False) else False) (ldL (cellsN k6 0 17) fun l_36=>(ldL (cellsN k7 0 5) fun l_37=>(if List.length l_36=17 then (if List.length l_37=5 then (CF Tryz.prog 87 [(Value.pointer x0),(Value.agg ⟨(List.set (splice (splice [(Value.int .i64 0),(Value.int .i64 x1),(Value.int .u8 0),(Value.int .u8 0),(Value.int .u8 0),(Value.int .u8 0),(Value.int .u8 0),(Value.int .u8 0),(Value.int .u8 0),(Value.int .u8 0),(Value.int .u8 0),(Value.int .u8 0),(Value.int .u8 0),(Value.int .u8 0),(Value.int .u8 0),(Value.int .u8 0),(Value.int .u8 0),(Value.int .u8 0),(Value.int .i64 0),(Value.int .u8 0),(Value.int .u8 0),(Value.int .u8 0),(Value.int .u8 0),(Value.int .i64 0),(Value.bool false),(Value.int .i64 0)] 2 l_36) 19 l_37) 24 (Value.bool true))⟩)] h_33 fun u_38 h_39=>(aggV u_38 fun l_40=>(if List.length l_40=26 then (if List.all l_40 one=true then (if 0+List.length l_40≤List.length k8 then (ldL (cellsN (splice k8 0 l_40) 0 26) fun l_41=>(K (.tuple ⟨[(.agg ⟨l_41⟩),(Value.int .i64 0)]⟩) h_39)) else False) else False) else False))) else False) else False))))))))))))))))
def F50_j1 (x0:OA) (x1 x10:Int) (x24:Bool) (k6 k7 k8:List Value) (hp:HP) (K:Kh):Prop:=
  (ite2 x24 (if List.length [(Value.int .i64 0),(Value.int .i64 0),(Value.int .u8 0),(Value.int .u8 0),(Value.int .u8 0),(Value.int .u8 0),(Value.int .u8 0),(Value.int .u8 0),(Value.int .u8 0),(Value.int .u8 0),(Value.int .u8 0),(Value.int .u8 0),(Value.int .u8 0),(Value.int .u8 0),(Value.int .u8 0),(Value.int .u8 0),(Value.int .u8 0),(Value.int .u8 0),(Value.int .i64 0),(Value.int .u8 0),(Value.int .u8 0),(Value.int .u8 0),(Value.int .u8 0),(Value.int .i64 0),(Value.bool false),(Value.int .i64 0)]=26 then (if List.all [(Value.int .i64 0),(Value.int .i64 0),(Value.int .u8 0),(Value.int .u8 0),(Value.int .u8 0),(Value.int .u8 0),(Value.int .u8 0),(Value.int .u8 0),(Value.int .u8 0),(Value.int .u8 0),(Value.int .u8 0),(Value.int .u8 0),(Value.int .u8 0),(Value.int .u8 0),(Value.int .u8 0),(Value.int .u8 0),(Value.int .u8 0),(Value.int .u8 0),(Value.int .i64 0),(Value.int .u8 0),(Value.int .u8 0),(Value.int .u8 0),(Value.int .u8 0),(Value.int .i64 0),(Value.bool false),(Value.int .i64 0)] one=true then (if 0+List.length [(Value.int .i64 0),(Value.int .i64 0),(Value.int .u8 0),(Value.int .u8 0),(Value.int .u8 0),(Value.int .u8 0),(Value.int .u8 0),(Value.int .u8 0),(Value.int .u8 0),(Value.int .u8 0),(Value.int .u8 0),(Value.int .u8 0),(Value.int .u8 0),(Value.int .u8 0),(Value.int .u8 0),(Value.int .u8 0),(Value.int .u8 0),(Value.int .u8 0),(Value.int .i64 0),(Value.int .u8 0),(Value.int .u8 0),(Value.int .u8 0),(Value.int .u8 0),(Value.int .i64 0),(Value.bool false),(Value.int .i64 0)]≤List.length k8 then (ldL (cellsN (splice k8 0 [(Value.int .i64 0),(Value.int .i64 0),(Value.int .u8 0),(Value.int .u8 0),(Value.int .u8 0),(Value.int .u8 0),(Value.int .u8 0),(Value.int .u8 0),(Value.int .u8 0),(Value.int .u8 0),(Value.int .u8 0),(Value.int .u8 0),(Value.int .u8 0),(Value.int .u8 0),(Value.int .u8 0),(Value.int .u8 0),(Value.int .u8 0),(Value.int .u8 0),(Value.int .i64 0),(Value.int .u8 0),(Value.int .u8 0),(Value.int .u8 0),(Value.int .u8 0),(Value.int .i64 0),(Value.bool false),(Value.int .i64 0)]) 0 26) fun l_9=>(K (.tuple ⟨[(.agg ⟨l_9⟩),(Value.int .i64 1)]⟩) hp)) else False) else False) else False) (ptrN x0 fun b_10 o_11=>((0≤(x10:Int))∧((x10:Int)<(3:Nat))∧(ldV (HP.cell hp b_10 ((o_11+9)+Int.toNat x10*1)) fun v_12=>(ptrV v_12 fun p_13=>(ldL (cellsN k7 0 5) fun l_14=>(CF Tryz.prog 101 [(Value.pointer p_13),(Value.agg ⟨l_14⟩)] hp fun u_15 h_16=>(tup2V u_15 fun u_17 u_18=>(boolV u_17 fun q_19=>(boolV u_18 fun q_20=>(ite2 q_19 (F50_j2 x0 x1 x10 true k6 k7 k8 h_16  K) (F50_j2 x0 x1 x10 q_20 k6 k7 k8 h_16  K))))))))))))
def F50 (x0:OA) (x1:Int) (x2 x3:List Value) (hp:HP) (K:Kh):Prop:=
  (CF Tryz.prog 88 [(Value.pointer x0)] hp fun u_1 h_2=>(boolV u_1 fun q_3=>(ite2 q_3 (if List.length [(Value.int .i64 0),(Value.int .i64 0),(Value.int .u8 0),(Value.int .u8 0),(Value.int .u8 0),(Value.int .u8 0),(Value.int .u8 0),(Value.int .u8 0),(Value.int .u8 0),(Value.int .u8 0),(Value.int .u8 0),(Value.int .u8 0),(Value.int .u8 0),(Value.int .u8 0),(Value.int .u8 0),(Value.int .u8 0),(Value.int .u8 0),(Value.int .u8 0),(Value.int .i64 0),(Value.int .u8 0),(Value.int .u8 0),(Value.int .u8 0),(Value.int .u8 0),(Value.int .i64 0),(Value.bool false),(Value.int .i64 0)]=26 then (if List.all [(Value.int .i64 0),(Value.int .i64 0),(Value.int .u8 0),(Value.int .u8 0),(Value.int .u8 0),(Value.int .u8 0),(Value.int .u8 0),(Value.int .u8 0),(Value.int .u8 0),(Value.int .u8 0),(Value.int .u8 0),(Value.int .u8 0),(Value.int .u8 0),(Value.int .u8 0),(Value.int .u8 0),(Value.int .u8 0),(Value.int .u8 0),(Value.int .u8 0),(Value.int .i64 0),(Value.int .u8 0),(Value.int .u8 0),(Value.int .u8 0),(Value.int .u8 0),(Value.int .i64 0),(Value.bool false),(Value.int .i64 0)] one=true then (if 0+List.length [(Value.int .i64 0),(Value.int .i64 0),(Value.int .u8 0),(Value.int .u8 0),(Value.int .u8 0),(Value.int .u8 0),(Value.int .u8 0),(Value.int .u8 0),(Value.int .u8 0),(Value.int .u8 0),(Value.int .u8 0),(Value.int .u8 0),(Value.int .u8 0),(Value.int .u8 0),(Value.int .u8 0),(Value.int .u8 0),(Value.int .u8 0),(Value.int .u8 0),(Value.int .i64 0),(Value.int .u8 0),(Value.int .u8 0),(Value.int .u8 0),(Value.int .u8 0),(Value.int .i64 0),(Value.bool false),(Value.int .i64 0)]≤List.length [(Value.int .i64 0),(Value.int .i64 0),(Value.int .u8 0),(Value.int .u8 0),(Value.int .u8 0),(Value.int .u8 0),(Value.int .u8 0),(Value.int .u8 0),(Value.int .u8 0),(Value.int .u8 0),(Value.int .u8 0),(Value.int .u8 0),(Value.int .u8 0),(Value.int .u8 0),(Value.int .u8 0),(Value.int .u8 0),(Value.int .u8 0),(Value.int .u8 0),(Value.int .i64 0),(Value.int .u8 0),(Value.int .u8 0),(Value.int .u8 0),(Value.int .u8 0),(Value.int .i64 0),(Value.bool false),(Value.int .i64 0)] then (ldL (cellsN (splice [(Value.int .i64 0),(Value.int .i64 0),(Value.int .u8 0),(Value.int .u8 0),(Value.int .u8 0),(Value.int .u8 0),(Value.int .u8 0),(Value.int .u8 0),(Value.int .u8 0),(Value.int .u8 0),(Value.int .u8 0),(Value.int .u8 0),(Value.int .u8 0),(Value.int .u8 0),(Value.int .u8 0),(Value.int .u8 0),(Value.int .u8 0),(Value.int .u8 0),(Value.int .i64 0),(Value.int .u8 0),(Value.int .u8 0),(Value.int .u8 0),(Value.int .u8 0),(Value.int .i64 0),(Value.bool false),(Value.int .i64 0)] 0 [(Value.int .i64 0),(Value.int .i64 0),(Value.int .u8 0),(Value.int .u8 0),(Value.int .u8 0),(Value.int .u8 0),(Value.int .u8 0),(Value.int .u8 0),(Value.int .u8 0),(Value.int .u8 0),(Value.int .u8 0),(Value.int .u8 0),(Value.int .u8 0),(Value.int .u8 0),(Value.int .u8 0),(Value.int .u8 0),(Value.int .u8 0),(Value.int .u8 0),(Value.int .i64 0),(Value.int .u8 0),(Value.int .u8 0),(Value.int .u8 0),(Value.int .u8 0),(Value.int .i64 0),(Value.bool false),(Value.int .i64 0)]) 0 26) fun l_4=>(K (.tuple ⟨[(.agg ⟨l_4⟩),(Value.int .i64 2)]⟩) h_2)) else False) else False) else False) (CF Tryz.prog 98 [(Value.int .i64 x1)] h_2 fun u_5 h_6=>(intV u_5 .i64 fun i_7=>(ite2 (decide ((i_7:Int)<0)) (if List.length [(Value.int .i64 0),(Value.int .i64 0),(Value.int .u8 0),(Value.int .u8 0),(Value.int .u8 0),(Value.int .u8 0),(Value.int .u8 0),(Value.int .u8 0),(Value.int .u8 0),(Value.int .u8 0),(Value.int .u8 0),(Value.int .u8 0),(Value.int .u8 0),(Value.int .u8 0),(Value.int .u8 0),(Value.int .u8 0),(Value.int .u8 0),(Value.int .u8 0),(Value.int .i64 0),(Value.int .u8 0),(Value.int .u8 0),(Value.int .u8 0),(Value.int .u8 0),(Value.int .i64 0),(Value.bool false),(Value.int .i64 0)]=26 then (if List.all [(Value.int .i64 0),(Value.int .i64 0),(Value.int .u8 0),(Value.int .u8 0),(Value.int .u8 0),(Value.int .u8 0),(Value.int .u8 0),(Value.int .u8 0),(Value.int .u8 0),(Value.int .u8 0),(Value.int .u8 0),(Value.int .u8 0),(Value.int .u8 0),(Value.int .u8 0),(Value.int .u8 0),(Value.int .u8 0),(Value.int .u8 0),(Value.int .u8 0),(Value.int .i64 0),(Value.int .u8 0),(Value.int .u8 0),(Value.int .u8 0),(Value.int .u8 0),(Value.int .i64 0),(Value.bool false),(Value.int .i64 0)] one=true then (if 0+List.length [(Value.int .i64 0),(Value.int .i64 0),(Value.int .u8 0),(Value.int .u8 0),(Value.int .u8 0),(Value.int .u8 0),(Value.int .u8 0),(Value.int .u8 0),(Value.int .u8 0),(Value.int .u8 0),(Value.int .u8 0),(Value.int .u8 0),(Value.int .u8 0),(Value.int .u8 0),(Value.int .u8 0),(Value.int .u8 0),(Value.int .u8 0),(Value.int .u8 0),(Value.int .i64 0),(Value.int .u8 0),(Value.int .u8 0),(Value.int .u8 0),(Value.int .u8 0),(Value.int .i64 0),(Value.bool false),(Value.int .i64 0)]≤List.length [(Value.int .i64 0),(Value.int .i64 0),(Value.int .u8 0),(Value.int .u8 0),(Value.int .u8 0),(Value.int .u8 0),(Value.int .u8 0),(Value.int .u8 0),(Value.int .u8 0),(Value.int .u8 0),(Value.int .u8 0),(Value.int .u8 0),(Value.int .u8 0),(Value.int .u8 0),(Value.int .u8 0),(Value.int .u8 0),(Value.int .u8 0),(Value.int .u8 0),(Value.int .i64 0),(Value.int .u8 0),(Value.int .u8 0),(Value.int .u8 0),(Value.int .u8 0),(Value.int .i64 0),(Value.bool false),(Value.int .i64 0)] then (ldL (cellsN (splice [(Value.int .i64 0),(Value.int .i64 0),(Value.int .u8 0),(Value.int .u8 0),(Value.int .u8 0),(Value.int .u8 0),(Value.int .u8 0),(Value.int .u8 0),(Value.int .u8 0),(Value.int .u8 0),(Value.int .u8 0),(Value.int .u8 0),(Value.int .u8 0),(Value.int .u8 0),(Value.int .u8 0),(Value.int .u8 0),(Value.int .u8 0),(Value.int .u8 0),(Value.int .i64 0),(Value.int .u8 0),(Value.int .u8 0),(Value.int .u8 0),(Value.int .u8 0),(Value.int .i64 0),(Value.bool false),(Value.int .i64 0)] 0 [(Value.int .i64 0),(Value.int .i64 0),(Value.int .u8 0),(Value.int .u8 0),(Value.int .u8 0),(Value.int .u8 0),(Value.int .u8 0),(Value.int .u8 0),(Value.int .u8 0),(Value.int .u8 0),(Value.int .u8 0),(Value.int .u8 0),(Value.int .u8 0),(Value.int .u8 0),(Value.int .u8 0),(Value.int .u8 0),(Value.int .u8 0),(Value.int .u8 0),(Value.int .i64 0),(Value.int .u8 0),(Value.int .u8 0),(Value.int .u8 0),(Value.int .u8 0),(Value.int .i64 0),(Value.bool false),(Value.int .i64 0)]) 0 26) fun l_8=>(K (.tuple ⟨[(.agg ⟨l_8⟩),(Value.int .i64 10)]⟩) h_6)) else False) else False) else False) (ldV (x2)[16]? fun v_42=>(intV v_42 .i64 fun i_43=>(CF Tryz.prog 99 [(Value.int .i64 i_43)] h_6 fun u_44 h_45=>(boolV u_44 fun q_46=>(ite2 (!q_46) (F50_j1 x0 x1 i_7 true x2 x3 [(Value.int .i64 0),(Value.int .i64 0),(Value.int .u8 0),(Value.int .u8 0),(Value.int .u8 0),(Value.int .u8 0),(Value.int .u8 0),(Value.int .u8 0),(Value.int .u8 0),(Value.int .u8 0),(Value.int .u8 0),(Value.int .u8 0),(Value.int .u8 0),(Value.int .u8 0),(Value.int .u8 0),(Value.int .u8 0),(Value.int .u8 0),(Value.int .u8 0),(Value.int .i64 0),(Value.int .u8 0),(Value.int .u8 0),(Value.int .u8 0),(Value.int .u8 0),(Value.int .i64 0),(Value.bool false),(Value.int .i64 0)] h_45  K) (ldV (x3)[4]? fun v_47=>(intV v_47 .i64 fun i_48=>(CF Tryz.prog 99 [(Value.int .i64 i_48)] h_45 fun u_49 h_50=>(boolV u_49 fun q_51=>(ite2 (!q_51) (F50_j1 x0 x1 i_7 true x2 x3 [(Value.int .i64 0),(Value.int .i64 0),(Value.int .u8 0),(Value.int .u8 0),(Value.int .u8 0),(Value.int .u8 0),(Value.int .u8 0),(Value.int .u8 0),(Value.int .u8 0),(Value.int .u8 0),(Value.int .u8 0),(Value.int .u8 0),(Value.int .u8 0),(Value.int .u8 0),(Value.int .u8 0),(Value.int .u8 0),(Value.int .u8 0),(Value.int .u8 0),(Value.int .i64 0),(Value.int .u8 0),(Value.int .u8 0),(Value.int .u8 0),(Value.int .u8 0),(Value.int .i64 0),(Value.bool false),(Value.int .i64 0)] h_50  K) (ptrN x0 fun b_52 o_53=>((0≤(i_7:Int))∧((i_7:Int)<(3:Nat))∧(ldV (HP.cell h_50 b_52 ((o_53+9)+Int.toNat i_7*1)) fun v_54=>(ptrV v_54 fun p_55=>(ldL (cellsN x3 0 4) fun l_56=>(CF Tryz.prog 100 [(Value.pointer p_55),(Value.agg ⟨l_56⟩)] h_50 fun u_57 h_58=>(boolV u_57 fun q_59=>(F50_j1 x0 x1 i_7 (!q_59) x2 x3 [(Value.int .i64 0),(Value.int .i64 0),(Value.int .u8 0),(Value.int .u8 0),(Value.int .u8 0),(Value.int .u8 0),(Value.int .u8 0),(Value.int .u8 0),(Value.int .u8 0),(Value.int .u8 0),(Value.int .u8 0),(Value.int .u8 0),(Value.int .u8 0),(Value.int .u8 0),(Value.int .u8 0),(Value.int .u8 0),(Value.int .u8 0),(Value.int .u8 0),(Value.int .i64 0),(Value.int .u8 0),(Value.int .u8 0),(Value.int .u8 0),(Value.int .u8 0),(Value.int .i64 0),(Value.bool false),(Value.int .i64 0)] h_58  K))))))))))))))))))))))))
theorem F50_ok (x0:OA) (x1:Int) (x2 x3:List Value) (hp:HP) (K:Kh) (h:F50 x0 x1 x2 x3 hp K):CF Tryz.prog 50 [(Value.pointer x0),(Value.int .i64 x1),(Value.agg ⟨x2⟩),(Value.agg ⟨x3⟩)] hp K:=
  have L:∀ {Q} n,Snd Tryz.prog 90 (cAt Tryz.f50 (pth n)) Q (CW Tryz.prog 90 [6,7,8,25,30,42] [] (cAt Tryz.f50 (pth n)) Q):=fun _=>Snd.leaf
  okF h Tryz.func50 (Snd.seq (L 2) (Snd.seq (L 5) (Snd.seq (L 11) (Snd.seq (Snd.block 0 (Snd.seq (L 71) (Snd.cond 20 (L 167) (Snd.jn [(0,.p),(1,.i .i64),(6,.r 6 0),(7,.r 7 0),(8,.r 8 0),(10,.i .i64),(24,.b),(6,.c 95),(7,.c 56),(8,.c 97)] (fun a hp=>F50_j1 a.1 a.2.1 a.2.2.1 a.2.2.2.1 a.2.2.2.2.1 a.2.2.2.2.2.1 a.2.2.2.2.2.2.1 hp  K) (L 359) (L 487) (by rfl) (by kernel_rfl))))) (Snd.seq (Snd.seq (L 79) (Snd.jn [(0,.p),(1,.i .i64),(6,.r 6 0),(7,.r 7 0),(8,.r 8 0),(10,.i .i64),(62,.b),(6,.c 95),(7,.c 56),(8,.c 97)] (fun a hp=>F50_j2 a.1 a.2.1 a.2.2.1 a.2.2.2.1 a.2.2.2.2.1 a.2.2.2.2.2.1 a.2.2.2.2.2.2.1 hp  K) (L 175) (L 239) (by rfl) (by kernel_rfl))) (L 63)))))) (by kernel_rfl) (by kernel_rfl) (by kernel_rfl)
end Go.Proofs
set_option linter.unusedVariables false
set_option linter.constructorNameAsVariable false
set_option maxRecDepth 20000
set_option maxHeartbeats 2000000
namespace Go.Proofs
open Go Go.HL
def F52_j1 (x0:OA) (x1:Int) (x32:Bool) (k6 k8:List Value) (hp:HP) (K:Kh):Prop:=
  (ite2 x32 (if List.length [(Value.int .i64 0),(Value.int .i64 0),(Value.int .u8 0),(Value.int .u8 0),(Value.int .u8 0),(Value.int .u8 0),(Value.int .u8 0),(Value.int .u8 0),(Value.int .u8 0),(Value.int .u8 0),(Value.int .u8 0),(Value.int .u8 0),(Value.int .u8 0),(Value.int .u8 0),(Value.int .u8 0),(Value.int .u8 0),(Value.int .u8 0),(Value.int .u8 0),(Value.int .i64 0),(Value.int .u8 0),(Value.int .u8 0),(Value.int .u8 0),(Value.int .u8 0),(Value.int .i64 0),(Value.bool false),(Value.int .i64 0)]=26 then (if List.all [(Value.int .i64 0),(Value.int .i64 0),(Value.int .u8 0),(Value.int .u8 0),(Value.int .u8 0),(Value.int .u8 0),(Value.int .u8 0),(Value.int .u8 0),(Value.int .u8 0),(Value.int .u8 0),(Value.int .u8 0),(Value.int .u8 0),(Value.int .u8 0),(Value.int .u8 0),(Value.int .u8 0),(Value.int .u8 0),(Value.int .u8 0),(Value.int .u8 0),(Value.int .i64 0),(Value.int .u8 0),(Value.int .u8 0),(Value.int .u8 0),(Value.int .u8 0),(Value.int .i64 0),(Value.bool false),(Value.int .i64 0)] one=true then (if 0+List.length [(Value.int .i64 0),(Value.int .i64 0),(Value.int .u8 0),(Value.int .u8 0),(Value.int .u8 0),(Value.int .u8 0),(Value.int .u8 0),(Value.int .u8 0),(Value.int .u8 0),(Value.int .u8 0),(Value.int .u8 0),(Value.int .u8 0),(Value.int .u8 0),(Value.int .u8 0),(Value.int .u8 0),(Value.int .u8 0),(Value.int .u8 0),(Value.int .u8 0),(Value.int .i64 0),(Value.int .u8 0),(Value.int .u8 0),(Value.int .u8 0),(Value.int .u8 0),(Value.int .i64 0),(Value.bool false),(Value.int .i64 0)]≤List.length k6 then (ldL (cellsN (splice k6 0 [(Value.int .i64 0),(Value.int .i64 0),(Value.int .u8 0),(Value.int .u8 0),(Value.int .u8 0),(Value.int .u8 0),(Value.int .u8 0),(Value.int .u8 0),(Value.int .u8 0),(Value.int .u8 0),(Value.int .u8 0),(Value.int .u8 0),(Value.int .u8 0),(Value.int .u8 0),(Value.int .u8 0),(Value.int .u8 0),(Value.int .u8 0),(Value.int .u8 0),(Value.int .i64 0),(Value.int .u8 0),(Value.int .u8 0),(Value.int .u8 0),(Value.int .u8 0),(Value.int .i64 0),(Value.bool false),(Value.int .i64 0)]) 0 26) fun l_16=>(K (.tuple ⟨[(.agg ⟨l_16⟩),(Value.int .i64 4)]⟩) hp)) else False) else False) else False) (ldL (cellsN k8 0 26) fun l_17=>(CF Tryz.prog 107 [(Value.pointer x0),(Value.agg ⟨l_17⟩)] hp fun u_18 h_19=>(ldL (cellsN k8 0 26) fun l_20=>(CF Tryz.prog 98 [(Value.int .i64 x1)] h_19 fun u_21 h_22=>(intV u_21 .i64 fun i_23=>(ptrN x0 fun b_24 o_25=>((0≤(i_23:Int))∧((i_23:Int)<(3:Nat))∧(ldV (HP.cell h_22 b_24 ((o_25+9)+Int.toNat i_23*1)) fun v_26=>(ptrV v_26 fun p_27=>(ldL (cellsN k8 19 5) fun l_28=>(CF Tryz.prog 108 [(Value.pointer p_27),(Value.agg ⟨l_28⟩)] h_22 fun u_29 h_30=>(intV u_29 .i64 fun i_31=>(if List.length l_20=26 then (if List.all l_20 one=true then (if 0+List.length l_20≤List.length k6 then (ldL (cellsN (splice k6 0 l_20) 0 26) fun l_32=>(K (.tuple ⟨[(.agg ⟨l_32⟩),(Value.int .i64 i_31)]⟩) h_30)) else False) else False) else False))))))))))))))
def F52 (x0:OA) (x1:Int) (x2:List Value) (hp:HP) (K:Kh):Prop:=
  (CF Tryz.prog 88 [(Value.pointer x0)] hp fun u_1 h_2=>(boolV u_1 fun q_3=>(ite2 q_3 (if List.length [(Value.int .i64 0),(Value.int .i64 0),(Value.int .u8 0),(Value.int .u8 0),(Value.int .u8 0),(Value.int .u8 0),(Value.int .u8 0),(Value.int .u8 0),(Value.int .u8 0),(Value.int .u8 0),(Value.int .u8 0),(Value.int .u8 0),(Value.int .u8 0),(Value.int .u8 0),(Value.int .u8 0),(Value.int .u8 0),(Value.int .u8 0),(Value.int .u8 0),(Value.int .i64 0),(Value.int .u8 0),(Value.int .u8 0),(Value.int .u8 0),(Value.int .u8 0),(Value.int .i64 0),(Value.bool false),(Value.int .i64 0)]=26 then (if List.all [(Value.int .i64 0),(Value.int .i64 0),(Value.int .u8 0),(Value.int .u8 0),(Value.int .u8 0),(Value.int .u8 0),(Value.int .u8 0),(Value.int .u8 0),(Value.int .u8 0),(Value.int .u8 0),(Value.int .u8 0),(Value.int .u8 0),(Value.int .u8 0),(Value.int .u8 0),(Value.int .u8 0),(Value.int .u8 0),(Value.int .u8 0),(Value.int .u8 0),(Value.int .i64 0),(Value.int .u8 0),(Value.int .u8 0),(Value.int .u8 0),(Value.int .u8 0),(Value.int .i64 0),(Value.bool false),(Value.int .i64 0)] one=true then (if 0+List.length [(Value.int .i64 0),(Value.int .i64 0),(Value.int .u8 0),(Value.int .u8 0),(Value.int .u8 0),(Value.int .u8 0),(Value.int .u8 0),(Value.int .u8 0),(Value.int .u8 0),(Value.int .u8 0),(Value.int .u8 0),(Value.int .u8 0),(Value.int .u8 0),(Value.int .u8 0),(Value.int .u8 0),(Value.int .u8 0),(Value.int .u8 0),(Value.int .u8 0),(Value.int .i64 0),(Value.int .u8 0),(Value.int .u8 0),(Value.int .u8 0),(Value.int .u8 0),(Value.int .i64 0),(Value.bool false),(Value.int .i64 0)]≤List.length [(Value.int .i64 0),(Value.int .i64 0),(Value.int .u8 0),(Value.int .u8 0),(Value.int .u8 0),(Value.int .u8 0),(Value.int .u8 0),(Value.int .u8 0),(Value.int .u8 0),(Value.int .u8 0),(Value.int .u8 0),(Value.int .u8 0),(Value.int .u8 0),(Value.int .u8 0),(Value.int .u8 0),(Value.int .u8 0),(Value.int .u8 0),(Value.int .u8 0),(Value.int .i64 0),(Value.int .u8 0),(Value.int .u8 0),(Value.int .u8 0),(Value.int .u8 0),(Value.int .i64 0),(Value.bool false),(Value.int .i64 0)] then (ldL (cellsN (splice [(Value.int .i64 0),(Value.int .i64 0),(Value.int .u8 0),(Value.int .u8 0),(Value.int .u8 0),(Value.int .u8 0),(Value.int .u8 0),(Value.int .u8 0),(Value.int .u8 0),(Value.int .u8 0),(Value.int .u8 0),(Value.int .u8 0),(Value.int .u8 0),(Value.int .u8 0),(Value.int .u8 0),(Value.int .u8 0),(Value.int .u8 0),(Value.int .u8 0),(Value.int .i64 0),(Value.int .u8 0),(Value.int .u8 0),(Value.int .u8 0),(Value.int .u8 0),(Value.int .i64 0),(Value.bool false),(Value.int .i64 0)] 0 [(Value.int .i64 0),(Value.int .i64 0),(Value.int .u8 0),(Value.int .u8 0),(Value.int .u8 0),(Value.int .u8 0),(Value.int .u8 0),(Value.int .u8 0),(Value.int .u8 0),(Value.int .u8 0),(Value.int .u8 0),(Value.int .u8 0),(Value.int .u8 0),(Value.int .u8 0),(Value.int .u8 0),(Value.int .u8 0),(Value.int .u8 0),(Value.int .u8 0),(Value.int .i64 0),(Value.int .u8 0),(Value.int .u8 0),(Value.int .u8 0),(Value.int .u8 0),(Value.int .i64 0),(Value.bool false),(Value.int .i64 0)]) 0 26) fun l_4=>(K (.tuple ⟨[(.agg ⟨l_4⟩),(Value.int .i64 2)]⟩) h_2)) else False) else False) else False) (CF Tryz.prog 98 [(Value.int .i64 x1)] h_2 fun u_5 h_6=>(intV u_5 .i64 fun i_7=>(ite2 (decide ((i_7:Int)<0)) (if List.length [(Value.int .i64 0),(Value.int .i64 0),(Value.int .u8 0),(Value.int .u8 0),(Value.int .u8 0),(Value.int .u8 0),(Value.int .u8 0),(Value.int .u8 0),(Value.int .u8 0),(Value.int .u8 0),(Value.int .u8 0),(Value.int .u8 0),(Value.int .u8 0),(Value.int .u8 0),(Value.int .u8 0),(Value.int .u8 0),(Value.int .u8 0),(Value.int .u8 0),(Value.int .i64 0),(Value.int .u8 0),(Value.int .u8 0),(Value.int .u8 0),(Value.int .u8 0),(Value.int .i64 0),(Value.bool false),(Value.int .i64 0)]=26 then (if List.all [(Value.int .i64 0),(Value.int .i64 0),(Value.int .u8 0),(Value.int .u8 0),(Value.int .u8 0),(Value.int .u8 0),(Value.int .u8 0),(Value.int .u8 0),(Value.int .u8 0),(Value.int .u8 0),(Value.int .u8 0),(Value.int .u8 0),(Value.int .u8 0),(Value.int .u8 0),(Value.int .u8 0),(Value.int .u8 0),(Value.int .u8 0),(Value.int .u8 0),(Value.int .i64 0),(Value.int .u8 0),(Value.int .u8 0),(Value.int .u8 0),(Value.int .u8 0),(Value.int .i64 0),(Value.bool false),(Value.int .i64 0)] one=true then (if 0+List.length [(Value.int .i64 0),(Value.int .i64 0),(Value.int .u8 0),(Value.int .u8 0),(Value.int .u8 0),(Value.int .u8 0),(Value.int .u8 0),(Value.int .u8 0),(Value.int .u8 0),(Value.int .u8 0),(Value.int .u8 0),(Value.int .u8 0),(Value.int .u8 0),(Value.int .u8 0),(Value.int .u8 0),(Value.int .u8 0),(Value.int .u8 0),(Value.int .u8 0),(Value.int .i64 0),(Value.int .u8 0),(Value.int .u8 0),(Value.int .u8 0),(Value.int .u8 0),(Value.int .i64 0),(Value.bool false),(Value.int .i64 0)]≤List.length [(Value.int .i64 0),(Value.int .i64 0),(Value.int .u8 0),(Value.int .u8 0),(Value.int .u8 0),(Value.int .u8 0),(Value.int .u8 0),(Value.int .u8 0),(Value.int .u8 0),(Value.int .u8 0),(Value.int .u8 0),(Value.int .u8 0),(Value.int .u8 0),(Value.int .u8 0),(Value.int .u8 0),(Value.int .u8 0),(Value.int .u8 0),(Value.int .u8 0),(Value.int .i64 0),(Value.int .u8 0),(Value.int .u8 0),(Value.int .u8 0),(Value.int .u8 0),(Value.int .i64 0),(Value.bool false),(Value.int .i64 0)] then (ldL (cellsN (splice [(Value.int .i64 0),(Value.int .i64 0),(Value.int .u8 0),(Value.int .u8 0),(Value.int .u8 0),(Value.int .u8 0),(Value.int .u8 0),(Value.int .u8 0),(Value.int .u8 0),(Value.int .u8 0),(Value.int .u8 0),(Value.int .u8 0),(Value.int .u8 0),(Value.int .u8 0),(Value.int .u8 0),(Value.int .u8 0),(Value.int .u8 0),(Value.int .u8 0),(Value.int .i64 0),(Value.int .u8 0),(Value.int .u8 0),(Value.int .u8 0),(Value.int .u8 0),(Value.int .i64 0),(Value.bool false),(Value.int .i64 0)] 0 [(Value.int .i64 0),(Value.int .i64 0),(Value.int .u8 0),(Value.int .u8 0),(Value.int .u8 0),(Value.int .u8 0),(Value.int .u8 0),(Value.int .u8 0),(Value.int .u8 0),(Value.int .u8 0),(Value.int .u8 0),(Value.int .u8 0),(Value.int .u8 0),(Value.int .u8 0),(Value.int .u8 0),(Value.int .u8 0),(Value.int .u8 0),(Value.int .u8 0),(Value.int .i64 0),(Value.int .u8 0),(Value.int .u8 0),(Value.int .u8 0),(Value.int .u8 0),(Value.int .i64 0),(Value.bool false),(Value.int .i64 0)]) 0 26) fun l_8=>(K (.tuple ⟨[(.agg ⟨l_8⟩),(Value.int .i64 10)]⟩) h_6)) else False) else False) else False) (ldL (cellsN x2 0 17) fun l_9=>(CF Tryz.prog 65 [(Value.pointer x0),(Value.int .i64 x1),(Value.agg ⟨l_9⟩)] h_6 fun u_10 h_11=>(tup2V u_10 fun u_12 u_13=>(aggV u_12 fun l_14=>(boolV u_13 fun q_15=>(if List.length l_14=26 then (if List.all l_14 one=true then (if 0+List.length l_14≤List.length [(Value.int .i64 0),(Value.int .i64 0),(Value.int .u8 0),(Value.int .u8 0),(Value.int .u8 0),(Value.int .u8 0),(Value.int .u8 0),(Value.int .u8 0),(Value.int .u8 0),(Value.int .u8 0),(Value.int .u8 0),(Value.int .u8 0),(Value.int .u8 0),(Value.int .u8 0),(Value.int .u8 0),(Value.int .u8 0),(Value.int .u8 0),(Value.int .u8 0),(Value.int .i64 0),(Value.int .u8 0),(Value.int .u8 0),(Value.int .u8 0),(Value.int .u8 0),(Value.int .i64 0),(Value.bool false),(Value.int .i64 0)] then (ite2 (!q_15) (F52_j1 x0 x1 true [(Value.int .i64 0),(Value.int .i64 0),(Value.int .u8 0),(Value.int .u8 0),(Value.int .u8 0),(Value.int .u8 0),(Value.int .u8 0),(Value.int .u8 0),(Value.int .u8 0),(Value.int .u8 0),(Value.int .u8 0),(Value.int .u8 0),(Value.int .u8 0),(Value.int .u8 0),(Value.int .u8 0),(Value.int .u8 0),(Value.int .u8 0),(Value.int .u8 0),(Value.int .i64 0),(Value.int .u8 0),(Value.int .u8 0),(Value.int .u8 0),(Value.int .u8 0),(Value.int .i64 0),(Value.bool false),(Value.int .i64 0)] (splice [(Value.int .i64 0),(Value.int .i64 0),(Value.int .u8 0),(Value.int .u8 0),(Value.int .u8 0),(Value.int .u8 0),(Value.int .u8 0),(Value.int .u8 0),(Value.int .u8 0),(Value.int .u8 0),(Value.int .u8 0),(Value.int .u8 0),(Value.int .u8 0),(Value.int .u8 0),(Value.int .u8 0),(Value.int .u8 0),(Value.int .u8 0),(Value.int .u8 0),(Value.int .i64 0),(Value.int .u8 0),(Value.int .u8 0),(Value.int .u8 0),(Value.int .u8 0),(Value.int .i64 0),(Value.bool false),(Value.int .i64 0)] 0 l_14) h_11  K) (ldV ((splice [(Value.int .i64 0),(Value.int .i64 0),(Value.int .u8 0),(Value.int .u8 0),(Value.int .u8 0),(Value.int .u8 0),(Value.int .u8 0),(Value.int .u8 0),(Value.int .u8 0),(Value.int .u8 0),(Value.int .u8 0),(Value.int .u8 0),(Value.int .u8 0),(Value.int .u8 0),(Value.int .u8 0),(Value.int .u8 0),(Value.int .u8 0),(Value.int .u8 0),(Value.int .i64 0),(Value.int .u8 0),(Value.int .u8 0),(Value.int .u8 0),(Value.int .u8 0),(Value.int .i64 0),(Value.bool false),(Value.int .i64 0)] 0 l_14))[24]? fun v_33=>(boolV v_33 fun q_34=>(F52_j1 x0 x1 (!q_34) [(Value.int .i64 0),(Value.int .i64 0),(Value.int .u8 0),(Value.int .u8 0),(Value.int .u8 0),(Value.int .u8 0),(Value.int .u8 0),(Value.int .u8 0),(Value.int .u8 0),(Value.int .u8 0),(Value.int .u8 0),(Value.int .u8 0),(Value.int .u8 0),(Value.int .u8 0),(Value.int .u8 0),(Value.int .u8 0),(Value.int .u8 0),(Value.int .u8 0),(Value.int .i64 0),(Value.int .u8 0),(Value.int .u8 0),(Value.int .u8 0),(Value.int .u8 0),(Value.int .i64 0),(Value.bool false),(Value.int .i64 0)] (splice [(Value.int .i64 0),(Value.int .i64 0),(Value.int .u8 0),(Value.int .u8 0),(Value.int .u8 0),(Value.int .u8 0),(Value.int .u8 0),(Value.int .u8 0),(Value.int .u8 0),(Value.int .u8 0),(Value.int .u8 0),(Value.int .u8 0),(Value.int .u8 0),(Value.int .u8 0),(Value.int .u8 0),(Value.int .u8 0),(Value.int .u8 0),(Value.int .u8 0),(Value.int .i64 0),(Value.int .u8 0),(Value.int .u8 0),(Value.int .u8 0),(Value.int .u8 0),(Value.int .i64 0),(Value.bool false),(Value.int .i64 0)] 0 l_14) h_11  K)))) else False) else False) else False))))))))))))
theorem F52_ok (x0:OA) (x1:Int) (x2:List Value) (hp:HP) (K:Kh) (h:F52 x0 x1 x2 hp K):CF Tryz.prog 52 [(Value.pointer x0),(Value.int .i64 x1),(Value.agg ⟨x2⟩)] hp K:=
  have L:∀ {Q} n,Snd Tryz.prog 48 (cAt Tryz.f52 (pth n)) Q (CW Tryz.prog 48 [5,6,8,29,45] [] (cAt Tryz.f52 (pth n)) Q):=fun _=>Snd.leaf
  okF h Tryz.func52 (Snd.seq (L 2) (Snd.seq (L 5) (Snd.seq (L 11) (Snd.seq (Snd.jn [(0,.p),(1,.i .i64),(6,.r 6 0),(8,.r 8 0),(32,.b),(6,.c 97),(8,.c 97)] (fun a hp=>F52_j1 a.1 a.2.1 a.2.2.1 a.2.2.2.1 a.2.2.2.2.1 hp  K) (L 39) (L 55) (by rfl) (by kernel_rfl)) (L 31))))) (by kernel_rfl) (by kernel_rfl) (by kernel_rfl)
end Go.Proofs
set_option linter.unusedVariables false
set_option linter.unusedSimpArgs false
set_option maxRecDepth 20000
namespace Go.Proofs
open Go Go.HL
section
variable {tb:Obj} {hq:HP} {t:Nat} {l:List Q} {low high:Int} {mx last n:Nat} {L:List Bd} {E:List (Bd × Nat)} {ps:Nat→HP} {m x o:Nat} {pl pm:Nat→Nat} {H:Nat→List ((Q × Int) × Bool)} {K:Value→HP→Prop}
theorem C108y {hp:HP} {p m:Nat} {held} {t:Q × Int} (hr:PoolR hp p l low high held m) (hlen:l.length≤4) (h0:releaseQ l held t=0)
    (hyes:∀ e,MapE t4k vb (delL t held) e→K (.int .i64 0) (hp.set m e)):CF Tryz.prog 108 [ptr p 0,.agg ⟨t4 t⟩] hp K:=C108 hr hlen (fun h=>absurd h0 h) fun _=>hyes
theorem C102y {hp:HP} {p m:Nat} {held} {t:Q × Int} (hr:PoolR hp p l low high held m) (hlen:l.length≤4) (h0:reserveQ l held t=0)
    (hyes:∀ e,MapE t4k vb (putL t true held) e→K (.int .i64 0) (hp.set m e)):CF Tryz.prog 102 [ptr p 0,.agg ⟨t4 t⟩] hp K:=C102 hr hlen (fun h=>absurd h0 h) fun _=>hyes
theorem t4_adr (u:Q × Int):cellsN (t4 u) 0 4=some (v4 u.1):=rfl
theorem t4_prt (u:Q × Int):(t4 u)[4]?=some (.int .i64 u.2):=rfl
def freeB (l:List Q) (low high:Int) (L:List Bd) (p:Int):Int:=if kindB p<0 then 0 else freeQ l low high (heldB L (kindB p))
theorem W62 (h:BdW tb hq t l low high mx last n L) (hl:L.length≤65535) {p:Int} (hK:K (.int .i64 (freeB l low high L p)) hq):CF Tryz.prog 62 [ptr t 0,.int .i64 p] hq K:=by
  obtain ⟨E,ps,m,x,o,pl,pm,rfl,h⟩:=h
  refine F62_ok _ p hq K ?_
  unfold F62
  refine C88 h ?_
  rw [boolV_bool,ite2_false]
  refine C98 ?_
  rw [intV_int]
  unfold F62_j1
  by_cases c1:kindB p<0
  · rw [decide_eq_true c1,ite2_true]
    have e:freeB l low high (E.map (·.1)) p=0:=if_pos c1
    rw [e] at hK
    exact hK
  rw [decide_eq_false c1,ite2_false]
  have hk:0≤kindB p:=by omega
  obtain ⟨k3,kn⟩:=kind_nat hk
  have hk3:=(kind_lt (p:=p)).1
  refine C98 ?_
  rw [intV_int,ptrN_some]
  refine ⟨hk,hk3,?_⟩
  rw [h.ck hk,ldV_some,pq]
  have hpool:=h.poolq k3
  simp only [kn] at hpool
  refine C115 hpool h.inv.len4 (Nat.le_trans (held_len _) hl) h.inv.ports ?_
  rw [intV_int]
  have e:freeB l low high (E.map (·.1)) p=freeQ l low high (heldB (E.map (·.1)) (kindB p)):=if_neg c1
  rw [e] at hK
  exact hK
def unbB (L:List Bd) (p:Int) (a:V6 × Int):Int:=if kindB p<0 then 10 else if ((find6 p a L).map (·.st))=some true then 0 else 4
set_option maxHeartbeats 400000 in
theorem W52 (h:BdW tb hq t l low high mx last n L) {p:Int} {a:V6 × Int} (hp:okZ p) (ha:okT6 a)
    (hno:unbB L p a≠0→K (.tuple ⟨[.agg ⟨bdc bd0⟩,.int .i64 (unbB L p a)]⟩) hq)
    (hyes:∀ b,find6 p a L=some b→unbB L p a=0→b.st=true→∀ hq',BdW tb hq' t l low high mx last n (L.filter fun z=>decide (z.id≠b.id))→K (.tuple ⟨[.agg ⟨bdc b⟩,.int .i64 0]⟩) hq') :
    CF Tryz.prog 52 [ptr t 0,.int .i64 p,.agg ⟨t6 a⟩] hq K:=by
  have hinv:=h.inv
  obtain ⟨E,ps,m,x,o,pl,pm,rfl,h⟩:=h
  refine F52_ok _ p (t6 a) hq K ?_
  unfold F52
  refine C88 h ?_
  rw [boolV_bool,ite2_false]
  refine C98 ?_
  rw [intV_int]
  by_cases c1:kindB p<0
  · rw [decide_eq_true c1,ite2_true]
    have e:unbB (E.map (·.1)) p a=10:=if_pos c1
    rw [e] at hno
    exact ifI rfl (ifI rfl (ifI (Nat.le_refl 26) (hno (by decide))))
  rw [decide_eq_false c1,ite2_false,t6_cells,ldL_some]
  have hk:0≤kindB p:=by omega
  obtain ⟨k3,kn⟩:=kind_nat hk
  have hk3:=(kind_lt (p:=p)).1
  have no:∀ y:Bd,¬ ((find6 p a (E.map (·.1))).map (·.st))=some true→F52_j1 (some ⟨t,0,none⟩) p true (bdc bd0) (bdc y) hq K:=fun y hne=>by
    have e:unbB (E.map (·.1)) p a=4:=by unfold unbB; rw [if_neg c1,if_neg hne]
    rw [e] at hno
    unfold F52_j1
    rw [ite2_true]
    exact ifI rfl (ifI rfl (ifI (Nat.le_refl 26) (hno (by decide))))
  refine P65 h hp ha ?_
  unfold toldV
  rw [tup2V_mk,aggV_agg,boolV_bool,if_pos (bdc_len _),if_pos (bdc_one _),if_pos (by simp [bdc_len]),bd_spl rfl]
  cases hf:find6 p a (E.map (·.1)) with
  | none=>
    exact no bd0 (by rw [hf]; simp)
  | some b=>
    obtain ⟨hb,b1,b2⟩:=find6_mem hf
    simp only [Option.isSome_some,Bool.not_true,ite2_false,Option.getD_some]
    rw [bdc_st,ldV_some,boolV_bool]
    cases hst:b.st with
    | false=>exact no b (by rw [hf]; simp [hst])
    | true=>
      have eu:unbB (E.map (·.1)) p a=0:=by unfold unbB; rw [if_neg c1,if_pos (by rw [hf]; simp [hst])]
      obtain ⟨e,he,he1⟩:=List.mem_map.1 hb
      have he1:e.1=b:=he1
      subst he1
      show F52_j1 (some ⟨t,0,none⟩) p false (bdc bd0) (bdc e.1) hq K
      unfold F52_j1
      rw [ite2_false,bdc_cells,ldL_some]
      refine P107 h he fun hq3 ps3 h3 hb3=>?_
      rw [ldL_some]
      refine C98 ?_
      rw [intV_int,ptrN_some]
      refine ⟨hk,hk3,?_⟩
      rw [h3.ck hk,ldV_some,pq,bdc_out,ldL_some]
      have hpool:=h3.poolq k3
      simp only [kn] at hpool
      have hg:releaseQ l (heldB (E.map (·.1)) (kindB p)) e.1.out=0:=by
        obtain ⟨g1,g2,_⟩:=h.inv.pool e.1 hb
        have hm:mayQ l e.1.out=0:=by unfold mayQ; exact if_pos ⟨g2,g1⟩
        unfold releaseQ
        rw [if_neg (by rw [hm]; simp),held_get h.inv hk,← b1,find4_of h.inv hb,Option.map_some,hst]
      refine C108y (t:=e.1.out) hpool hinv.len4 hg fun ent hent=>?_
      rw [intV_int,if_pos (bdc_len _),if_pos (bdc_one _),if_pos (by simp [bdc_len]),bd_spl rfl,bdc_cells,ldL_some]
      have h4:=h3.hold k3 hent
      have h5:=BdW.of h4 fun k hk'=>by
        rw [fst_filter]
        by_cases hkk:k=(kindB p).toNat
        · rw [if_pos hkk,hkk,kn,← b1]; exact held_del h.inv hb
        · rw [if_neg hkk]; exact (held_del_ne hb h.inv.ids (by rw [b1]; omega)).symm
      rw [fst_filter] at h5
      exact hyes e.1 hf eu hst _ h5
def bindB (l:List Q) (mx:Nat) (L:List Bd) (p:Int) (a:V6 × Int) (u:Q × Int):Int:=
  if kindB p<0 then 10 else if ¬ (isPort a.2=true∧isPort u.2=true∧u.1∈l) then 1 else if (find4 p u L).isSome then 5 else mayB p a L mx
set_option maxHeartbeats 1600000 in
theorem W50 (h:BdW tb hq t l low high mx last n L) {p:Int} {a:V6 × Int} {u:Q × Int} (hp:okZ p) (ha:okT6 a) (hu:okT u) (hn:n<1000000)
    (hno:bindB l mx L p a u≠0→K (.tuple ⟨[.agg ⟨bdc bd0⟩,.int .i64 (bindB l mx L p a u)]⟩) hq)
    (hyes:bindB l mx L p a u=0→∀ hq',BdW tb hq' t l low high mx (last+1) (n+1) (L++[⟨((last+1:Nat):Int),p,a,u,true,0⟩])→K (.tuple ⟨[.agg ⟨bdc ⟨((last+1:Nat):Int),p,a,u,true,0⟩⟩,.int .i64 0]⟩) hq') :
    CF Tryz.prog 50 [ptr t 0,.int .i64 p,.agg ⟨t6 a⟩,.agg ⟨t4 u⟩] hq K:=by
  have hinv:=h.inv
  obtain ⟨E,ps,m,x,o,pl,pm,rfl,h⟩:=h
  refine F50_ok _ p (t6 a) (t4 u) hq K ?_
  unfold F50
  refine C88 h ?_
  rw [boolV_bool,ite2_false]
  refine C98 ?_
  rw [intV_int]
  by_cases c1:kindB p<0
  · rw [decide_eq_true c1,ite2_true]
    have e:bindB l mx (E.map (·.1)) p a u=10:=if_pos c1
    rw [e] at hno
    exact ifI rfl (ifI rfl (ifI (Nat.le_refl 26) (hno (by decide))))
  rw [decide_eq_false c1,ite2_false,t6_port,ldV_some,intV_int]
  have hk:0≤kindB p:=by omega
  obtain ⟨k3,kn⟩:=kind_nat hk
  have hk3:=(kind_lt (p:=p)).1
  have no1:¬ (isPort a.2=true∧isPort u.2=true∧u.1∈l)→F50_j1 (some ⟨t,0,none⟩) p (kindB p) true (t6 a) (t4 u) (bdc bd0) hq K:=fun hne=>by
    have e:bindB l mx (E.map (·.1)) p a u=1:=by unfold bindB; rw [if_neg c1,if_pos hne]
    rw [e] at hno
    unfold F50_j1
    rw [ite2_true]
    exact ifI rfl (ifI rfl (ifI (Nat.le_refl 26) (hno (by decide))))
  refine C99 ?_
  rw [boolV_bool]
  cases c2:isPort a.2 with
  | false=>exact no1 fun hh=>by rw [c2] at hh; cases hh.1
  | true=>
  rw [show (!true)=false from rfl,ite2_false,t4_prt,ldV_some,intV_int]
  refine C99 ?_
  rw [boolV_bool]
  cases c3:isPort u.2 with
  | false=>exact no1 fun hh=>by rw [c3] at hh; cases hh.2.1
  | true=>
  rw [show (!true)=false from rfl,ite2_false,ptrN_some]
  refine ⟨hk,hk3,?_⟩
  rw [h.ck hk,ldV_some,pq,t4_adr,ldL_some]
  have hpool:=h.poolq k3
  simp only [kn] at hpool
  refine C100 hpool hinv.len4 ?_
  rw [boolV_bool]
  by_cases c4:u.1∈l
  rotate_left
  · rw [decide_eq_false c4]
    exact no1 fun hh=>c4 hh.2.2
  rw [decide_eq_true c4]
  show F50_j1 (some ⟨t,0,none⟩) p (kindB p) false (t6 a) (t4 u) (bdc bd0) hq K
  have hall:¬ ¬ (isPort a.2=true∧isPort u.2=true∧u.1∈l):=fun hh=>hh ⟨c2,c3,c4⟩
  have hmq:mayQ l u=0:=by unfold mayQ; exact if_pos ⟨c3,c4⟩
  unfold F50_j1
  rw [ite2_false,ptrN_some]
  refine ⟨hk,hk3,?_⟩
  rw [h.ck hk,ldV_some,pq,t4_all,ldL_some]
  refine C101 hpool hinv.len4 ?_
  rw [tup2V_mk,boolV_bool,boolV_bool]
  have hget:=held_get h.inv hk u
  cases c5:find4 p u (E.map (·.1)) with
  | some b=>
    have e:bindB l mx (E.map (·.1)) p a u=5:=by unfold bindB; rw [if_neg c1,if_neg hall,c5]; rfl
    rw [e] at hno
    have no2:F50_j2 (some ⟨t,0,none⟩) p (kindB p) true (t6 a) (t4 u) (bdc bd0) hq K:=by
      unfold F50_j2
      rw [ite2_true]
      exact ifI rfl (ifI rfl (ifI (Nat.le_refl 26) (hno (by decide))))
    have eq:isQ l (heldB (E.map (·.1)) (kindB p)) u=(!b.st,b.st):=by
      unfold isQ
      rw [if_neg (by rw [hmq]; simp),hget,c5]; rfl
    rw [eq]
    cases b.st with
    | true=>exact no2
    | false=>exact no2
  | none=>
  have hnone:getL u (heldB (E.map (·.1)) (kindB p))=none:=by rw [hget,c5]; rfl
  have eq:isQ l (heldB (E.map (·.1)) (kindB p)) u=(false,false):=by
    unfold isQ
    rw [if_neg (by rw [hmq]; simp),hnone]
  rw [eq]
  have eb:bindB l mx (E.map (·.1)) p a u=mayB p a (E.map (·.1)) mx:=by unfold bindB; rw [if_neg c1,if_neg hall,c5]; rfl
  rw [ite2_false]
  unfold F50_j2
  rw [ite2_false,t6_cells,ldL_some]
  refine P85 h hp ha ?_
  rw [intV_int]
  by_cases c6:mayB p a (E.map (·.1)) mx=0
  rotate_left
  · rw [show (mayB p a (E.map (·.1)) mx != 0)=true by simp [c6],ite2_true]
    rw [eb] at hno
    exact ifI rfl (ifI rfl (ifI (Nat.le_refl 26) (hno c6)))
  rw [show (mayB p a (E.map (·.1)) mx != 0)=false by simp [c6],ite2_false,ptrN_some]
  obtain ⟨_,hport,f6,hlt⟩:=mayB_0 c6
  refine ⟨hk,hk3,?_⟩
  rw [h.ck hk,ldV_some,pq,t4_all,ldL_some]
  have hrq:reserveQ l (heldB (E.map (·.1)) (kindB p)) u=0:=by
    unfold reserveQ
    rw [if_neg (by rw [hmq]; simp),hnone]; rfl
  refine C102y hpool hinv.len4 hrq fun ent hent=>?_
  rw [intV_int,show ((0:Int) != 0)=false from rfl,ite2_false,ldL_some,ldL_some,if_pos (t6_len _),if_pos (t4_len _),bd_newS]
  have h2:=h.hold k3 hent
  refine P87 h2 (y:=⟨0,p,a,u,true,0⟩) hk ha hu rfl ⟨c4,c3,hport⟩ f6 c5 (by simpa using hlt) hn fun hq2 ps2 b h3=>?_
  rw [aggV_agg,if_pos (bdc_len _),if_pos (bdc_one _),if_pos (by simp [bdc_len]),bd_spl rfl,bdc_cells,ldL_some]
  refine hyes (by rw [eb]; exact c6) hq2 ?_
  have:=BdW.of h3 fun k hk'=>by
    rw [List.map_append]
    show _=heldB (E.map (·.1)++[⟨((last+1:Nat):Int),p,a,u,true,0⟩]) k
    rw [held_put]
    by_cases hkk:k=(kindB p).toNat
    · rw [if_pos hkk,if_pos (by rw [hkk]; exact kn.symm),hkk,kn]
      exact putL_none hnone
    · rw [if_neg hkk,if_neg (fun e=>hkk (by show k=(kindB p).toNat; simp only at e; omega))]
  rw [List.map_append] at this
  exact this
end
end Go.Proofs
set_option linter.unusedVariables false
set_option linter.unusedSimpArgs false
set_option maxRecDepth 20000
namespace Go.Proofs
open Go Go.HL
theorem PoolR.off {q F:HP} {p m:Nat} {l:List Q} {low high:Int} (h:PoolR q p l low high [] m) (hp:F p=.none) (hm:F m=.none)
    (hf:∀ s c,q p=.cells 172 [.slice s l.length c,.int .i64 low,.int .i64 high,.map (some m)] 0→∀ b,s=some ⟨b,0,none⟩→F b=.none):PoolR (HP.off q F) p l low high [] m:=by
  obtain ⟨a,c,h1,h2,h3⟩:=h
  refine ⟨a,c,by rw [HP.off_none hp]; exact h1,?_,by rw [HP.off_none hm]; exact h3⟩
  have hb:=hf a c h1
  rcases h2 with h2 | ⟨b,rfl,e2,e3,e4⟩
  · exact .inl h2
  · exact .inr ⟨b,rfl,e2,e3,by rw [HP.off_none (hb b rfl)]; exact e4⟩
theorem HSub.join {hp hp' T:HP} (hT:HSub T hp) (h1:HSub (HP.off hp T) hp') (h2:HSub T hp'):HSub hp hp':=fun x=>by
  by_cases ht:T x=.none
  · have:=h1 x
    rw [HP.off_none ht] at this
    exact this
  · right
    have e1:hp' x=T x:=h2.some rfl ht
    have e2:hp x=T x:=hT.some rfl ht
    rw [e1,e2]
section
variable {tb:Obj} {hp:HP} {ps:Nat→HP} {K:Value→HP→Prop}
theorem N47 {a:Option Addr} {n c:Nat} {l:List Q} {low high:Int} (hP:Parts hp ps) (i j:Nat) (hij:i≠j) (hi:∀ b,ps i b=.none) (hs:Shows (ps j) a n 4 (l.flatMap v4)) (hl:l.length=n) (hnc:n≤c) (h1:okZ low) (h2:okZ high)
    (hbad:newOk l low high=false→∀ hp',Parts hp' ps→K (.tuple ⟨[.pointer none,.int .i64 1]⟩) hp')
    (hok:newOk l low high=true→∀ p m r hp',PoolR r p l low high [] m→Parts hp' (pu ps i r)→K (.tuple ⟨[ptr p 0,.int .i64 0]⟩) hp') :
    CF Tryz.prog 47 [.slice a n c,.int .i64 low,.int .i64 high] hp K:=by
  refine CF.part hP j (C47 (K:=fun v q=>(v=.tuple ⟨[.pointer none,.int .i64 1]⟩∧q=ps j∧newOk l low high=false)∨(newOk l low high=true∧∃ p m,v=.tuple ⟨[ptr p 0,.int .i64 0]⟩∧HSub (ps j) q∧PoolR (HP.off q (ps j)) p l low high [] m)) hs hl hnc h1 h2
    (fun e=>.inl ⟨rfl,rfl,e⟩) fun e p m q hsub hp0 hm0 hr hf=>.inr ⟨e,p,m,rfl,hsub,hr.off hp0 hm0 hf⟩) ?_
  rintro u q hp' (⟨rfl,rfl,e⟩ | ⟨e,p,m,rfl,hsub,hr⟩) hP'
  · have:pu ps j (ps j)=ps:=funext fun k=>by
      by_cases hk:k=j
      · subst hk; rw [pu_eq]
      · rw [pu_ne _ _ hk]
    rw [this] at hP'
    exact hbad e hp' hP'
  · refine hok e p m _ hp' hr ?_
    have:=hP'.split (i:=j) (j:=i) hij (fun b=>by rw [pu_ne _ _ hij]; exact hi b) (l:=ps j) (r:=HP.off q (ps j)) (by rw [pu_eq]; exact hsub) (by rw [pu_eq]; exact HSub.off _ _) (Disj.off _ _)
    have e:pu (pu (pu ps j q) j (ps j)) i (HP.off q (ps j))=pu ps i (HP.off q (ps j)):=by
      funext k
      by_cases h1:k=i
      · subst h1; rw [pu_eq,pu_eq]
      · rw [pu_ne _ _ h1,pu_ne _ _ h1]
        by_cases h2:k=j
        · subst h2; rw [pu_eq]
        · rw [pu_ne _ _ h2,pu_ne _ _ h2]
    rw [e] at this
    exact this
def newBOk (l:List Q) (low high mx:Int):Prop:=newOk l low high=true∧1≤mx∧mx≤65536
theorem InvB.nil {l:List Q} {low high:Int} {mx:Nat} (h:newOk l low high=true) (hm:mx≤65536) (hl:∀ q∈l,okQ q):InvB l low high mx 0 0 [] where
  asc:=by simp
  rng:=by simp
  keys6:=by simp
  keys4:=by simp
  ok:=by simp
  pool:=by simp
  len:=by simp
  mx:=hm
  last:=Nat.le_refl _
  n:=by omega
  new:=h
  okl:=hl
def nt (mx:Nat) (f:Q) (m x o:Nat) (A B C:Value):List Value:=.int .i64 mx::.int .i64 0::(v4 f++[.map (some m),ptr x 0,ptr o 0,A,B,C])
def poolV (pl:Nat→Nat) (i k:Nat):Value:=if k<i then ptr (pl k) 0 else .pointer none
theorem nt_set (mx:Nat) (f:Q) (m x o:Nat) (pl:Nat→Nat) (i p:Nat) (hi:i<3) :
    (nt mx f m x o (poolV pl i 0) (poolV pl i 1) (poolV pl i 2)).set (0+9+i*1) (ptr p 0)=nt mx f m x o (poolV (fun k=>if k=i then p else pl k) (i+1) 0) (poolV (fun k=>if k=i then p else pl k) (i+1) 1) (poolV (fun k=>if k=i then p else pl k) (i+1) 2):=by
  match i,hi with
  | 0,_=>rfl
  | 1,_=>rfl
  | 2,_=>rfl
set_option maxHeartbeats 2000000 in
theorem N13 {a:Option Addr} {n c:Nat} {l:List Q} {low high mx:Int} (hP:Parts hp ps) (hs:Shows (ps 0) a n 4 (l.flatMap v4)) (ht:TabR tb (ps 1)) (hl:l.length=n) (hnc:n≤c) (h1:okZ low) (h2:okZ high) (hq:∀ q∈l,okQ q)
    (hbad:¬ newBOk l low high mx→K (.tuple ⟨[.pointer none,.int .i64 1]⟩) hp)
    (hok:newBOk l low high mx→∀ t r hp',BdW tb r t l low high mx.toNat 0 0 []→Parts hp' (pu ps 1 r)→K (.tuple ⟨[ptr t 0,.int .i64 0]⟩) hp') :
    CF Tryz.prog 13 [.slice a n c,.int .i64 low,.int .i64 high,.int .i64 mx] hp K:=by
  refine CF.drop (F13_ok a n c low high mx hp _ ?_)
  unfold F13
  have bad:∀ x o,¬ newBOk l low high mx→F13_j1 a n c low high mx x o true hp fun v hp'=>∃ hp'',HSub hp'' hp'∧K v hp'':=fun x o hne=>by
    unfold F13_j1
    rw [ite2_true]
    exact ⟨hp,HSub.refl _,hbad hne⟩
  have hT:HSub (ps 1) hp:=hP.sub 1
  have hF0:HSub (ps 0) (HP.off hp (ps 1)):=(hP.sub 0).off_of (hP.dis 1 0 (by omega))
  have P0:Parts hp (pu (pu (fun _ _=>.none) 1 (ps 1)) 0 (HP.off hp (ps 1))):=Parts.of_two (HSub.off _ _) hT (Disj.off _ _).symm
  generalize hF:HP.off hp (ps 1)=F at *
  have f0:∀ i,2≤i→∀ b,(pu (pu (fun _ _=>Ent.none) 1 (ps 1)) 0 F) i b=.none:=fun i hi b=>by
    rw [pu_ne _ _ (by omega),pu_ne _ _ (by omega)]
  refine N22 P0 2 (f0 2 (by omega)) (fun hm=>?_) fun hm x l1 hp1 hx1 P1 hs1=>?_
  · simp only [tup2V_mk,intV_int]
    rw [ptrV_pointer]
    refine N22 P0 2 (f0 2 (by omega)) (fun _=>?_) (fun hm'=>absurd hm hm')
    simp only [tup2V_mk,intV_int]
    rw [ptrV_pointer]
    exact bad none none fun hh=>by have:=hh.2; omega
  rw [tup2V_mk,pq,intV_int]
  have f1:∀ i,3≤i→∀ b,(pu (pu (pu (fun _ _=>Ent.none) 1 (ps 1)) 0 F) 2 l1) i b=.none:=fun i hi b=>by
    rw [pu_ne _ _ (by omega)]; exact f0 i (by omega) b
  refine N22 P1 3 (f1 3 (by omega)) (fun hm'=>absurd hm' hm) fun _ o l2 hp2 hx2 P2 hs2=>?_
  rw [tup2V_mk,pq,intV_int,show ((0:Int) != 0)=false from rfl,ite2_false]
  unfold F13_j1
  rw [ite2_false]
  refine fun (b13:Nat) (hb13:hp2 b13=Ent.none)=>?_
  refine fun (b14:Nat) (hb14:(hp2.set b13 (.obj (.map #[] 0))) b14=Ent.none)=>?_
  have hne:b14≠b13:=fun e=>by rw [e,HP.set_eq] at hb14; cases hb14
  have hmx:((mx.toNat:Nat):Int)=mx:=by omega
  have e1:(pu (pu (pu (pu (fun _ _=>Ent.none) 1 (ps 1)) 0 F) 2 l1) 3 l2) 1=ps 1:=by
    rw [pu_ne _ _ (by omega),pu_ne _ _ (by omega),pu_ne _ _ (by omega),pu_eq]
  have P3:=P2.new 1 hb13 (.obj (.map #[] 0))
  rw [e1] at P3
  have P4:=P3.new 1 hb14 (.cells 107 [(.int .i64 mx),(.int .i64 0),(.int .u8 0),(.int .u8 0),(.int .u8 0),(.int .u8 0),(.map (some b13)),(ptr x 0),(ptr o 0),(.pointer none),(.pointer none),(.pointer none)] 0)
  rw [pu_eq,pu_pu] at P4
  have ht14:(ps 1) b14=.none:=by
    rw [HP.set_ne _ _ hne] at hb14
    exact (e1▸P2.sub 1:HSub (ps 1) hp2).none hb14
  have hT1:HSub (ps 1) ((((ps 1).set b13 (.obj (.map #[] 0))).set b14 (.cells 107 [(.int .i64 mx),(.int .i64 0),(.int .u8 0),(.int .u8 0),(.int .u8 0),(.int .u8 0),(.map (some b13)),(ptr x 0),(ptr o 0),(.pointer none),(.pointer none),(.pointer none)] 0))):=by
    have g1:(ps 1) b13=.none:=by
      have:=(e1▸P2.sub 1:HSub (ps 1) hp2); exact this.none hb13
    have g2:((ps 1).set b13 (.obj (.map #[] 0))) b14=.none:=by
      rw [HP.set_ne _ _ hne]; exact ht14
    exact (HSub.set_fresh _ _ g1).trans (HSub.set_fresh _ _ g2)
  have m1:MapE iw (fun k:Nat=>ptr k 0) [] (((((ps 1).set b13 (.obj (.map #[] 0))).set b14 (.cells 107 [(.int .i64 mx),(.int .i64 0),(.int .u8 0),(.int .u8 0),(.int .u8 0),(.int .u8 0),(.map (some b13)),(ptr x 0),(ptr o 0),(.pointer none),(.pointer none),(.pointer none)] 0))) b13):=by
    rw [HP.set_ne _ _ hne.symm,HP.set_eq]; exact MapE.empty _ _
  have t1:((((ps 1).set b13 (.obj (.map #[] 0))).set b14 (.cells 107 [(.int .i64 mx),(.int .i64 0),(.int .u8 0),(.int .u8 0),(.int .u8 0),(.int .u8 0),(.map (some b13)),(ptr x 0),(ptr o 0),(.pointer none),(.pointer none),(.pointer none)] 0))) b14=.cells 107 (nt mx.toNat zq4 b13 x o (poolV (fun _=>0) 0 0) (poolV (fun _=>0) 0 1) (poolV (fun _=>0) 0 2)) 0:=by
    rw [HP.set_eq]; unfold nt; rw [hmx]; rfl
  generalize (((ps 1).set b13 (.obj (.map #[] 0))).set b14 (.cells 107 [(.int .i64 mx),(.int .i64 0),(.int .u8 0),(.int .u8 0),(.int .u8 0),(.int .u8 0),(.map (some b13)),(ptr x 0),(ptr o 0),(.pointer none),(.pointer none),(.pointer none)] 0))=A at *
  have dig:∀ {A':HP},HSub (ps 1) A'→TabR tb A':=fun hh=>ht.sub hh
  unfold F13_j3
  refine LoopP.by (J:=fun k (z:Int) hp'=>∃ (i:Nat) (A':HP) (pl pm:Nat→Nat) (qs:Nat→HP),z=i∧k=3-i∧i≤3∧Parts hp' qs∧qs 0=F∧qs 1=A'∧qs 2=l1∧qs 3=l2∧(∀ j,4+i≤j→∀ b,qs j b=.none)∧(∀ j,j<i→PoolR (qs (4+j)) (pl j) l low high [] (pm j)) ∧
      HSub (ps 1) A'∧MapE iw (fun k:Nat=>ptr k 0) [] (A' b13)∧A' b14=.cells 107 (nt mx.toNat zq4 b13 x o (poolV pl i 0) (poolV pl i 1) (poolV pl i 2)) 0∧(0<i→newOk l low high=true)) ?_
    (n:=3) ⟨0,A,fun _=>0,fun _=>0,_,rfl,rfl,by omega,P4,by rw [pu_ne _ _ (by omega),pu_ne _ _ (by omega),pu_ne _ _ (by omega),pu_eq],pu_eq ..,by rw [pu_ne _ _ (by omega),pu_ne _ _ (by omega),pu_eq],by rw [pu_ne _ _ (by omega),pu_eq],?_,fun j hj=>absurd hj (by omega),hT1,m1,t1,fun hh=>absurd hh (by omega)⟩
  rotate_left
  · intro j hj b
    rw [pu_ne _ _ (by omega),pu_ne _ _ (by omega)]; exact f1 j (by omega) b
  rintro I k z hp' ⟨i,A',pl,pm,qs,rfl,rfl,hi3,PP,q0,q1,q2,q3,qf,qp,hTA,hm,hta,hnew⟩ hI
  have hdrop:∀ hp'',Parts hp'' qs→HSub hp hp'':=fun hp'' PP'=>HSub.join hT (by rw [hF]; exact PP'.at 0 q0) (hTA.trans (PP'.at 1 q1))
  unfold F13_l4
  by_cases hi:i<3
  · rw [decide_eq_true (by omega),ite2_true]
    refine N47 PP (4+i) 0 (by omega) (qf (4+i) (Nat.le_refl _)) (by rw [q0]; exact hs.sub hF0) hl hnc h1 h2 (fun e hp'' PP'=>?_) fun e p m r hp'' hr PP'=>?_
    · rw [tup2V_mk,ptrV_pointer,intV_int,show ((1:Int) != 0)=true from rfl,ite2_true]
      exact ⟨hp,hdrop hp'' PP',hbad fun hh=>by rw [hh.1] at e; cases e⟩
    · rw [tup2V_mk,pq,intV_int,show ((0:Int) != 0)=false from rfl,ite2_false,ptrN_some]
      refine ⟨by omega,by omega,?_⟩
      have hta':hp'' b14=.cells 107 (nt mx.toNat zq4 b13 x o (poolV pl i 0) (poolV pl i 1) (poolV pl i 2)) 0:=(PP'.at 1 (by rw [pu_ne _ _ (by omega)]; exact q1)).cells hta
      rw [Int.toNat_natCast]
      refine HP.st_at hta' (by simp [nt,v4]; omega) ?_
      have hset:=nt_set mx.toNat zq4 b13 x o pl i p hi
      rw [show (Value.pointer (some ⟨p,0,none⟩))=ptr p 0 from rfl,hset]
      have P5:=PP'.put 1 (b:=b14) (by rw [pu_ne _ _ (by omega),q1,hta]; simp) (.cells 107 (nt mx.toNat zq4 b13 x o (poolV (fun k=>if k=i then p else pl k) (i+1) 0) (poolV (fun k=>if k=i then p else pl k) (i+1) 1) (poolV (fun k=>if k=i then p else pl k) (i+1) 2)) 0)
      rw [w64 (by omega) (by omega)]
      have hbm:b13≠b14:=hne.symm
      refine hI (3-(i+1)) _ _ (by omega) ⟨i+1,_,fun k=>if k=i then p else pl k,fun k=>if k=i then m else pm k,_,by omega,rfl,by omega,P5,by rw [pu_ne _ _ (by omega),pu_ne _ _ (by omega)]; exact q0,pu_eq ..,by rw [pu_ne _ _ (by omega),pu_ne _ _ (by omega)]; exact q2,by rw [pu_ne _ _ (by omega),pu_ne _ _ (by omega)]; exact q3,?_,?_,?_,?_,?_,fun _=>e⟩
      · intro j hj b
        rw [pu_ne _ _ (by omega),pu_ne _ _ (by omega)]; exact qf j (by omega) b
      · intro j hj
        rw [pu_ne _ _ (by omega)]
        by_cases hji:j=i
        · subst hji
          rw [pu_eq]
          show PoolR r (if j=j then p else pl j) l low high [] (if j=j then m else pm j)
          rw [if_pos rfl,if_pos rfl]; exact hr
        · rw [pu_ne _ _ (by omega)]
          show PoolR (qs (4+j)) (if j=i then p else pl j) l low high [] (if j=i then m else pm j)
          rw [if_neg hji,if_neg hji]; exact qp j (by omega)
      · rw [pu_ne _ _ (by omega),q1]
        exact hTA.up ht14 _
      · rw [pu_ne _ _ (by omega),q1,HP.set_ne _ _ hbm]; exact hm
      · rw [HP.set_eq]
  · have hi':i=3:=by omega
    subst hi'
    rw [decide_eq_false (by omega),ite2_false]
    have hnew':=hnew (by omega)
    have hlen:1≤l.length:=by
      have:=hnew'
      simp only [newOk,Bool.and_eq_true,decide_eq_true_eq] at this
      omega
    unfold F13_j2
    have hrow:Shows hp' a n 4 (l.flatMap v4):=(hs.sub hF0).sub (PP.at 0 q0)
    obtain ⟨b,oo,rfl,hc⟩:=hrow.get v4_len hl (by omega:0<n)
    refine ⟨by omega,by omega,?_⟩
    rw [ptrN_some,show oo+Int.toNat 0*4=oo+0*4 from rfl,hc,ldL_some,ptrN_some]
    refine ⟨v4_len _,?_⟩
    have hta':hp' b14=.cells 107 (nt mx.toNat zq4 b13 x o (poolV pl 3 0) (poolV pl 3 1) (poolV pl 3 2)) 0:=(PP.at 1 q1).cells hta
    refine HP.stN_at hta' (by simp [nt,v4]) (v4_one _) ?_
    have hhd:l[0]=l.headD zq4:=by
      cases l with
      | nil=>simp at hlen
      | cons y l=>rfl
    have hsp:splice (nt mx.toNat zq4 b13 x o (poolV pl 3 0) (poolV pl 3 1) (poolV pl 3 2)) (0+2) (v4 l[0])=tabC mx.toNat 0 (l.headD zq4) b13 x o pl:=by
      rw [← hhd]; rfl
    rw [hsp]
    have P5:=PP.put 1 (b:=b14) (by rw [q1,hta]; simp) (.cells 107 (tabC mx.toNat 0 (l.headD zq4) b13 x o pl) 0)
    rw [q1] at P5
    have hbm:b13≠b14:=hne.symm
    have hnb:newBOk l low high mx:=⟨hnew',by omega,by omega⟩
    have ht0:b14≠0:=fun e'=>by
      have:=(dig hTA).1
      rw [← e',hta] at this; cases this
    refine ⟨_,HSub.refl _,hok hnb b14 (HP.off (hp'.set b14 (.cells 107 (tabC mx.toNat 0 (l.headD zq4) b13 x o pl) 0)) F) _ ?_ ?_⟩
    · have Pr:Parts (HP.off (hp'.set b14 (.cells 107 (tabC mx.toNat 0 (l.headD zq4) b13 x o pl) 0)) F) (fun j=>(pu qs 1 (A'.set b14 (.cells 107 (tabC mx.toNat 0 (l.headD zq4) b13 x o pl) 0))) (j+1)):=by
        refine ⟨fun j=>?_,fun j k hjk=>P5.dis (j+1) (k+1) (by omega)⟩
        have hd:=P5.dis 0 (j+1) (by omega)
        rw [pu_ne _ _ (by omega:(0:Nat)≠1),q0] at hd
        exact (P5.sub (j+1)).off_of hd
      refine ⟨[],_,b13,x,o,pl,pm,rfl,Pr,?_,?_,?_,fun k hk=>?_,InvB.nil hnew' (by omega) hq⟩
      · show BdM tb (pu qs 1 _ 1) _ _ _ _ _ _ _ _ _
        rw [pu_eq]
        refine ⟨HP.set_eq ..,by rw [HP.set_ne _ _ hbm]; exact hm,fun e he=>absurd he (by simp),?_⟩
        exact ⟨by rw [HP.set_ne _ _ ht0.symm]; exact (dig hTA).1,ht.2⟩
      · show IdxR (pu qs 1 _ 2) _ _ _
        rw [pu_ne _ _ (by omega),q2]; exact hx1
      · show IdxR (pu qs 1 _ 3) _ _ _
        rw [pu_ne _ _ (by omega),q3]; exact hx2
      · show PoolR (pu qs 1 _ (3+k+1)) _ _ _ _ _ _
        rw [pu_ne _ _ (by omega),show 3+k+1=4+k by omega]
        exact qp k hk
    · refine ⟨fun j=>?_,fun j k hjk=>?_⟩
      · by_cases hj:j=1
        · subst hj; rw [pu_eq]; exact HSub.off _ _
        · rw [pu_ne _ _ hj]
          have h3:HSub (ps j) F:=by rw [← hF]; exact (hP.sub j).off_of (hP.dis 1 j (fun e=>hj e.symm))
          exact h3.trans (P5.at 0 (by rw [pu_ne _ _ (by omega)]; exact q0))
      · have key:∀ j,j≠1→Disj (ps j) (HP.off (hp'.set b14 (.cells 107 (tabC mx.toNat 0 (l.headD zq4) b13 x o pl) 0)) F):=fun j hj=>by
          have h3:HSub (ps j) F:=by rw [← hF]; exact (hP.sub j).off_of (hP.dis 1 j (fun e=>hj e.symm))
          exact (Disj.off _ _).sub h3
        by_cases hj:j=1
        · subst hj
          rw [pu_eq,pu_ne _ _ (fun e=>hjk e.symm)]
          exact (key k (fun e=>hjk e.symm)).symm
        · rw [pu_ne _ _ hj]
          by_cases hk:k=1
          · subst hk; rw [pu_eq]; exact key j hj
          · rw [pu_ne _ _ hk]; exact hP.dis j k hjk
end
end Go.Proofs
