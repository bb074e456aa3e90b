/- Parts of the proof of SessionPlaysProof: the logic of what is known of memory, functions' contracts. -/
import Derived.Test.YtpkhoemonibajaaGreatDoorQSessionPlaysProofA
import Derived.Test.YtpkhoemonibajaaGreatDoorHlUse2
import Derived.Sort.LotD1
import Derived.Sort.LotD3
import Derived.Test.YtpkhoemonibajaaGreatDoorHlCW
import Derived.Test.YtpkhoemonibajaaGreatDoorProg
import Derived.Sort.LotA
import Derived.Shelf.SlIterI.Collect
import Derived.Shelf.SlIterI.Nil
import Derived.ChangeKeysEq
import Derived.Sort.LotB
import Derived.Sort.LotC
set_option linter.unusedVariables false
set_option linter.unusedSimpArgs false
set_option linter.unusedVariables false
set_option maxRecDepth 20000
namespace Go.Proofs
open Go Go.HL
def lenTab:ByteArray:=⟨#[0,1,2,2,3,3,3,3,4,4,4,4,4,4,4,4,5,5,5,5,5,5,5,5,5,5,5,5,5,5,5,5,6,6,6,6,6,6,6,6,6,6,6,6,6,6,6,6,6,6,6,6,6,6,6,6,6,6,6,6,6,6,6,6,7,7,7,7,7,7,7,7,7,7,7,7,7,7,7,7,7,7,7,7,7,7,7,7,7,7,7,7,7,7,7,7,7,7,7,7,7,7,7,7,7,7,7,7,7,7,7,7,7,7,7,7,7,7,7,7,7,7,7,7,7,7,7,7,8,8,8,8,8,8,8,8,8,8,8,8,8,8,8,8,8,8,8,8,8,8,8,8,8,8,8,8,8,8,8,8,8,8,8,8,8,8,8,8,8,8,8,8,8,8,8,8,8,8,8,8,8,8,8,8,8,8,8,8,8,8,8,8,8,8,8,8,8,8,8,8,8,8,8,8,8,8,8,8,8,8,8,8,8,8,8,8,8,8,8,8,8,8,8,8,8,8,8,8,8,8,8,8,8,8,8,8,8,8,8,8,8,8,8,8,8,8,8,8,8,8,8,8,8,8,8,8]⟩
theorem len_tab:∀ y:Fin 256,bt lenTab (y.val:Int)=(Sort.bitsLen y.val:Nat):=by decide +kernel
theorem lenTab_size:lenTab.size=256:=by kernel_rfl
theorem C153 {n:Nat} {hp:HP} {K:Value→HP→Prop} (hn:n≤65535) (h:∀ L:Nat,L≤16→n<2 ^ L→(0<n→2 ^ L≤2*n)→K (.int .i64 L) hp):CF Tryz.prog 153 [.int .u64 n] hp K:=by
  refine F153_ok n hp K ?_
  have tail:∀ (y o:Nat),y<256→o≤8→n<2 ^ (o+Sort.bitsLen y)→(0<n→2 ^ (o+Sort.bitsLen y)≤2*n)→F153_j3 y o hp K:=by
    intro y o hy ho h1 h2
    unfold F153_j3
    change (0≤(IntKind.wrap .u8 (y:Int)))∧((IntKind.wrap .u8 (y:Int))<(ByteArray.size lenTab:Nat))∧K (Value.int .i64 (IntKind.wrap .i64 ((o:Int)+IntKind.wrap .i64 (bt lenTab (IntKind.wrap .u8 (y:Int)))))) hp
    rw [wu8 (by omega) (by omega),lenTab_size]
    have:=len_tab ⟨y,hy⟩
    simp only at this
    rw [this]
    have hb:Sort.bitsLen y≤8:=(Sort.bitsLen_le_iff y 8).2 (by omega)
    rw [w64 (n:=((Sort.bitsLen y:Nat):Int)) (by omega) (by omega),w64 (by omega) (by omega)]
    refine ⟨by omega,by omega,?_⟩
    have e:(o:Int)+(Sort.bitsLen y:Nat)=((o+Sort.bitsLen y:Nat):Int):=by omega
    rw [e]
    exact h _ (by omega) h1 h2
  unfold F153
  rw [decide_eq_false (by omega:¬ (n:Int)≥4294967296),ite2_false]
  unfold F153_j1
  rw [decide_eq_false (by omega:¬ (n:Int)≥65536),ite2_false]
  unfold F153_j2
  by_cases h8:n≥256
  · rw [decide_eq_true (by omega:(n:Int)≥256),ite2_true]
    refine ⟨by omega,?_⟩
    have e1:Int.fdiv (n:Int) (2 ^ (min (Int.toNat 8) (IntKind.bits .u64)))=((n / 256:Nat):Int):=by
      show Int.fdiv (n:Int) 256=_
      rw [Int.fdiv_eq_ediv_of_nonneg _ (by omega)]; omega
    have e2:IntKind.wrap .i64 ((0:Int)+8)=((8:Nat):Int):=by rw [w64 (by omega) (by omega)]; rfl
    rw [e1,e2]
    have ha:=Sort.lt_two_pow_bitsLen (n / 256)
    have hb:=Sort.two_pow_bitsLen_le (n:=n / 256) (by omega)
    have hp:2 ^ (8+Sort.bitsLen (n / 256))=256*2 ^ Sort.bitsLen (n / 256):=by rw [Nat.pow_add]
    refine tail _ 8 (by omega) (by omega) (by rw [hp]; omega) (fun _=>by rw [hp]; omega)
  · rw [decide_eq_false (by omega:¬ (n:Int)≥256),ite2_false]
    refine tail n 0 (by omega) (by omega) ?_ ?_
    · rw [Nat.zero_add]; exact Sort.lt_two_pow_bitsLen n
    · intro h0; rw [Nat.zero_add]; exact Sort.two_pow_bitsLen_le h0
theorem C128 {n:Nat} {hp:HP} {K:Value→HP→Prop} (hn:n≤65535) (h:∀ L:Nat,L≤16→n<2 ^ L→(0<n→2 ^ L≤2*n)→K (.int .i64 L) hp):CF Tryz.prog 128 [.int .u64 n] hp K:=by
  refine F128_ok n hp K ?_
  unfold F128
  refine C153 hn fun L h1 h2 h3=>?_
  rw [intV_int]
  exact h L h1 h2 h3
theorem C166 {n:Nat} {hp:HP} {K:Value→HP→Prop} (hn:n≤65535) (h:∀ L:Nat,L≤16→n<2 ^ L→(0<n→2 ^ L≤2*n)→K (.int .u64 ((2 ^ L:Nat):Int)) hp):CF Tryz.prog 166 [.int .i64 n] hp K:=by
  refine F166_ok n hp K ?_
  unfold F166
  rw [wu64 (by omega) (by omega)]
  refine C128 hn fun L h1 h2 h3=>?_
  rw [intV_int]
  refine ⟨by omega,?_⟩
  have e:min (Int.toNat (L:Int)) (IntKind.bits .u64)=L:=by
    show min (Int.toNat (L:Int)) 64=L
    rw [Int.toNat_natCast]; omega
  have hle:2 ^ L≤2 ^ 16:=Nat.pow_le_pow_right (by omega) h1
  rw [e]
  have e2:(1:Int)*2 ^ L=((2 ^ L:Nat):Int):=by rw [Int.one_mul]; simp
  rw [e2,wu64 (by omega) (by omega)]
  exact h L h1 h2 h3
theorem C167 {r:Nat} {y:Int} {hp:HP} {K:Value→HP→Prop} (hr:hp r=.cells 235 [.int .u64 y] 0) (h:∀ z:Int,K (.int .u64 z) (hp.set r (.cells 235 [.int .u64 z] 0))):CF Tryz.prog 167 [.pointer (some ⟨r,0,none⟩)] hp K:=by
  refine F167_ok _ hp K ?_
  unfold F167
  have hc:∀ o,hp.cell r o=[Value.int .u64 y][o]?:=fun o=>HP.cell_of hr
  simp only [ptrN_some,hc,List.getElem?_cons_zero,ldV_some,intV_int]
  refine ⟨by omega,?_⟩
  refine HP.st_at hr (by simp) ?_
  simp only [List.set_cons_zero]
  generalize bxor .u64 y _=y2
  have hr2:(hp.set r (.cells 235 [.int .u64 y2] 0)) r=.cells 235 [.int .u64 y2] 0:=HP.set_eq ..
  have hc2:∀ o,(hp.set r (.cells 235 [.int .u64 y2] 0)).cell r o=[Value.int .u64 y2][o]?:=fun o=>HP.cell_of hr2
  simp only [hc2,List.getElem?_cons_zero,ldV_some,intV_int]
  refine ⟨by omega,?_⟩
  refine HP.st_at hr2 (by simp) ?_
  simp only [List.set_cons_zero,HP.set_set]
  generalize bxor .u64 y2 _=y3
  have hr3:(hp.set r (.cells 235 [.int .u64 y3] 0)) r=.cells 235 [.int .u64 y3] 0:=HP.set_eq ..
  have hc3:∀ o,(hp.set r (.cells 235 [.int .u64 y3] 0)).cell r o=[Value.int .u64 y3][o]?:=fun o=>HP.cell_of hr3
  simp only [hc3,List.getElem?_cons_zero,ldV_some,intV_int]
  refine ⟨by omega,?_⟩
  refine HP.st_at hr3 (by simp) ?_
  simp only [List.set_cons_zero,HP.set_set]
  generalize bxor .u64 y3 _=y4
  have hr4:(hp.set r (.cells 235 [.int .u64 y4] 0)) r=.cells 235 [.int .u64 y4] 0:=HP.set_eq ..
  have hc4:∀ o,(hp.set r (.cells 235 [.int .u64 y4] 0)).cell r o=[Value.int .u64 y4][o]?:=fun o=>HP.cell_of hr4
  simp only [hc4,List.getElem?_cons_zero,ldV_some,intV_int]
  exact h y4
end Go.Proofs
set_option linter.unusedVariables false
set_option maxRecDepth 20000
namespace Go.Proofs
open Go Go.HL
section
variable {f:FuncId} {ga gb:List Value} {hp0:HP} {b sp n c:Nat} {cf:Bd→Bd→Int}
end
end Go.Proofs
set_option linter.unusedVariables false
set_option maxRecDepth 20000
namespace Go.Proofs
open Go Go.HL
section
variable {f:FuncId} {ga gb:List Value} {hp0:HP} {b sp n c:Nat} {cf:Bd→Bd→Int}
end
end Go.Proofs
set_option linter.unusedVariables false
set_option maxRecDepth 20000
namespace Go.Proofs
open Go Go.HL
section
variable {f:FuncId} {ga gb:List Value} {hp0:HP} {b sp n c:Nat} {cf:Bd→Bd→Int}
end
end Go.Proofs
set_option linter.unusedVariables false
set_option maxRecDepth 20000
namespace Go.Proofs
open Go Go.HL
end Go.Proofs
set_option linter.unusedVariables false
set_option maxRecDepth 20000
namespace Go.Proofs
open Go Go.HL
def F82 (x0 x1:Int) (hp:HP) (K:Kh):Prop:=
  (CF Tryz.prog 129 [(Value.int .i64 x0)] hp fun u_1 h_2=>(boolV u_1 fun q_3=>(CF Tryz.prog 129 [(Value.int .i64 x1)] h_2 fun u_4 h_5=>(boolV u_4 fun q_6=>(ite2 q_3 (ite2 q_6 (K (Value.int .i64 0) h_5) (K (Value.int .i64 (-1)) h_5)) (ite2 q_6 (K (Value.int .i64 1) h_5) (ite2 (decide ((x0:Int)<x1)) (K (Value.int .i64 (-1)) h_5) (ite2 (decide ((x0:Int) > x1)) (K (Value.int .i64 1) h_5) (K (Value.int .i64 0) h_5)))))))))
theorem F82_ok (x0 x1:Int) (hp:HP) (K:Kh) (h:F82 x0 x1 hp K):CF Tryz.prog 82 [(Value.int .i64 x0),(Value.int .i64 x1)] hp K:=
  have L:∀ {Q} n,Snd Tryz.prog 20 (cAt Tryz.f82 (pth n)) Q (CW Tryz.prog 20 [] [] (cAt Tryz.f82 (pth n)) Q):=fun _=>Snd.leaf
  okF h Tryz.func82 (L 1) (by kernel_rfl) (by kernel_rfl) (by kernel_rfl)
def F129 (x0:Int) (hp:HP) (K:Kh):Prop:=
  (K (Value.bool ((x0:Int) != x0)) hp)
theorem F129_ok (x0:Int) (hp:HP) (K:Kh) (h:F129 x0 hp K):CF Tryz.prog 129 [(Value.int .i64 x0)] hp K:=
  have L:∀ {Q} n,Snd Tryz.prog 6 (cAt Tryz.f129 (pth n)) Q (CW Tryz.prog 6 [] [] (cAt Tryz.f129 (pth n)) Q):=fun _=>Snd.leaf
  okF h Tryz.func129 (L 1) (by kernel_rfl) (by kernel_rfl) (by kernel_rfl)
end Go.Proofs
set_option linter.unusedVariables false
namespace Go.HL
open Go
/-- The lesser first, of two numbers. -/
def cmpI (x y:Int):Int:=if x<y then -1 else if x > y then 1 else 0
theorem cmpI_lt {x y:Int}:decide (cmpI x y<0)=true↔x<y:=by
  unfold cmpI
  rw [decide_eq_true_iff]
  repeat' split
  all_goals omega
theorem cmpI_neg {x y:Int}:cmpI x y<0↔x<y:=by
  unfold cmpI
  repeat' split
  all_goals omega
theorem ltC_f {α:Type} (f:α→Int) (a b:α):(ltC (fun a b=>cmpI (f a) (f b)) a b=false)↔¬ (f a<f b):=by
  unfold ltC
  rw [decide_eq_false_iff_not]
  exact not_congr cmpI_neg
theorem swo_cmpI {α:Type} (f:α→Int):Sort.SWO (ltC fun a b=>cmpI (f a) (f b)) where
  irrefl x:=by
    have:¬ (ltC (fun a b=>cmpI (f a) (f b)) x x=true):=by unfold ltC; rw [cmpI_lt]; omega
    simpa using this
  trans x y z:=by unfold ltC; simp only [cmpI_lt]; omega
  ntrans x y z:=by
    have k:=ltC_f f
    rw [k,k,k]; omega
/-- In order by rising numbers: there is one way. -/
theorem order_eq {α:Type} {f:α→Int} {a b:List α} (ha:a.Pairwise (fun x y=>ltC (fun a b=>cmpI (f a) (f b)) y x=false)) (hb:(b.map f).Pairwise (· < ·)) (hp:a.Perm b):a=b:=by
  rw [List.pairwise_map] at hb
  have k:=ltC_f f
  have inj:∀ x∈b,∀ y∈b,f x=f y→x=y:=fun x hx y hy e=>by
    have hn:(b.map f).Nodup:=by
      unfold List.Nodup
      rw [List.pairwise_map]
      exact hb.imp fun h e=>by omega
    clear hb hp ha
    induction b with
    | nil=>cases hx
    | cons z b ih=>
      rw [List.map_cons,List.nodup_cons] at hn
      rcases List.mem_cons.1 hx with hx1 | hx1
      · rcases List.mem_cons.1 hy with hy1 | hy1
        · rw [hx1,hy1]
        · subst hx1; exact absurd (e▸List.mem_map.2 ⟨y,hy1,rfl⟩) hn.1
      · rcases List.mem_cons.1 hy with hy1 | hy1
        · subst hy1; exact absurd (e▸List.mem_map.2 ⟨x,hx1,rfl⟩) hn.1
        · exact ih hx1 hy1 hn.2
  refine List.Perm.eq_of_pairwise (le:=fun x y=>f x≤f y) (fun x y hx hy h1 h2=>inj x (hp.mem_iff.1 hx) y hy (by omega)) ?_ ?_ hp
  · refine ha.imp fun h=>?_
    rw [k] at h; omega
  · exact hb.imp fun h=>by omega
end Go.HL
set_option linter.unusedVariables false
set_option linter.unusedSimpArgs false
set_option maxRecDepth 20000
namespace Go.Proofs
open Go Go.HL
open Go.Exp (Th tlt Ord setW dropW insW)
theorem C129 {x:Int} {hp:HP} {K:Value→HP→Prop} (h:K (.bool false) hp):CF Tryz.prog 129 [.int .i64 x] hp K:=by
  refine F129_ok x hp K ?_
  unfold F129
  simpa using h
theorem C82 {x y:Int} {hp:HP} {K:Value→HP→Prop} (h:K (.int .i64 (cmpI x y)) hp):CF Tryz.prog 82 [.int .i64 x,.int .i64 y] hp K:=by
  refine F82_ok x y hp K ?_
  unfold F82
  refine C129 ?_
  rw [boolV_bool]
  refine C129 ?_
  rw [boolV_bool,ite2_false,ite2_false]
  unfold cmpI at h
  by_cases h1:x<y
  · rw [if_pos h1] at h
    rw [decide_eq_true h1,ite2_true]; exact h
  rw [if_neg h1] at h
  rw [decide_eq_false h1,ite2_false]
  by_cases h2:x > y
  · rw [if_pos h2] at h
    rw [decide_eq_true h2,ite2_true]; exact h
  · rw [if_neg h2] at h
    rw [decide_eq_false h2,ite2_false]; exact h
section
variable {tb:Obj} {hq:HP} {s mx last:Nat} {L:List Sy} {w:List Th} {K:Value→HP→Prop}
end
end Go.Proofs
set_option linter.unusedVariables false
set_option linter.unusedSimpArgs false
set_option maxRecDepth 20000
namespace Go.Proofs
open Go Go.HL
section
variable {tb:Obj} {hq:HP} {t:Nat} {l:List Q} {low high:Int} {mx last n:Nat} {L:List Bd} {E:List (Bd × Nat)} {ps:Nat→HP} {m x o:Nat} {pl pm:Nat→Nat} {H:Nat→List ((Q × Int) × Bool)} {K:Value→HP→Prop}
end
end Go.Proofs
set_option linter.unusedVariables false
set_option linter.unusedSimpArgs false
set_option maxRecDepth 20000
namespace Go.Proofs
open Go Go.HL
section
variable {tb:Obj} {hp:HP} {ps:Nat→HP} {t:Nat} {l:List Q} {low high:Int} {mx last n:Nat} {L:List Bd} {K:Value→HP→Prop}
end
section
variable {tb:Obj} {hp0 hp:HP} {ps:Nat→HP} {t:Nat} {l:List Q} {low high:Int} {mx last n:Nat} {L:List Bd} {K:Value→HP→Prop}
end
end Go.Proofs
set_option linter.unusedVariables false
set_option linter.unusedSimpArgs false
set_option maxRecDepth 20000
namespace Go.Proofs
open Go Go.HL
open Go.Exp (Th tlt Ord setW dropW insW)
/-- The cells of the table itself. -/
def tabE (mx last:Nat) (m x q f:Nat):List Value:=[.int .i64 mx,.int .i64 last,.map (some m),ptr x 0,ptr q 0,.map (some f)]
/-- The main part. -/
structure SeM (tb:Obj) (h:HP) (s mx last:Nat) (E:List (Ss × Nat)) (m x q f:Nat):Prop where
  tab:h s=.cells 72 (tabE mx last m x q f) 0
  map:MapE iw (fun k:Nat=>ptr k 0) (E.map fun e=>(e.1.id,e.2)) (h m)
  blk:∀ e∈E,h e.2=.cells 58 (ssc e.1) 0
  dig:TabR tb h
def bi (x:Ss):Int × Int:=(x.bnd,x.id)
structure SeP (tb:Obj) (hq:HP) (s mx last:Nat) (E:List (Ss × Nat)) (ps:Nat→HP) (m x q f:Nat) (O:List (Int × Nat)) (w:List Th):Prop where
  parts:Parts hq ps
  main:SeM tb (ps 0) s mx last E m x q f
  idx:IdxR (ps 1) x mx ((E.map (·.1)).map fun y=>(y.key,y.id))
  que:QW (ps 2) q w
  of:OfO (ps 3) f O ((E.map (·.1)).map bi)
  qok:QOk Ss.id Ss.due (E.map (·.1)) w
  inv:InvE mx last (E.map (·.1))
def SeW (tb:Obj) (hq:HP) (s mx last:Nat) (L:List Ss) (w:List Th):Prop:=
  ∃ (E:List (Ss × Nat)) (ps:Nat→HP) (m x q f:Nat) (O:List (Int × Nat)),L=E.map (·.1)∧SeP tb hq s mx last E ps m x q f O w
section
variable {tb:Obj} {hq:HP} {s mx last:Nat} {L:List Ss} {E:List (Ss × Nat)} {ps:Nat→HP} {m x q f:Nat} {O:List (Int × Nat)} {w:List Th} {K:Value→HP→Prop}
theorem SeM.ms {h:HP} (hm:SeM tb h s mx last E m x q f):m≠s:=fun e=>by
  obtain ⟨es,clock,e1,_⟩:=hm.map
  rw [e,hm.tab] at e1; cases e1
theorem SeM.m0 {h:HP} (hm:SeM tb h s mx last E m x q f):m≠0:=fun e=>by
  obtain ⟨es,clock,e1,_⟩:=hm.map
  obtain ⟨g1,a,z,g2⟩:=hm.dig
  rw [e,g1,g2] at e1; cases e1
theorem SeM.s0 {h:HP} (hm:SeM tb h s mx last E m x q f):s≠0:=fun e=>by
  have:=hm.tab
  obtain ⟨g1,a,z,g2⟩:=hm.dig
  rw [e,g1] at this; cases this
theorem SeM.bs {h:HP} (hm:SeM tb h s mx last E m x q f) {e:Ss × Nat} (he:e∈E):e.2≠s:=fun e'=>by
  have:=hm.blk e he
  rw [e',hm.tab] at this; cases this
theorem SeM.bm {h:HP} (hm:SeM tb h s mx last E m x q f) {e:Ss × Nat} (he:e∈E):e.2≠m:=fun e'=>by
  have:=hm.blk e he
  obtain ⟨es,clock,e1,_⟩:=hm.map
  rw [e',e1] at this; cases this
theorem SeM.b0 {h:HP} (hm:SeM tb h s mx last E m x q f) {e:Ss × Nat} (he:e∈E):e.2≠0:=fun e'=>by
  have:=hm.blk e he
  obtain ⟨g1,a,z,g2⟩:=hm.dig
  rw [e',g1] at this; cases this
/-- What is read of the table. -/
theorem SeM.rd {A hp:HP} (hm:SeM tb A s mx last E m x q f) (hs:HSub A hp) :
    TabR tb hp∧hp.cell s 0=some (.int .i64 mx)∧hp.cell s 1=some (.int .i64 last)∧hp.cell s 2=some (.map (some m))∧hp.cell s 3=some (ptr x 0)∧hp.cell s 4=some (ptr q 0)∧hp.cell s 5=some (.map (some f)):=by
  have hc:=hs.cells hm.tab
  exact ⟨hm.dig.sub hs,HP.cell_of hc,HP.cell_of hc,HP.cell_of hc,HP.cell_of hc,HP.cell_of hc,HP.cell_of hc⟩
theorem SeP.sub {hp:HP} (h:SeP tb hq s mx last E ps m x q f O w) (hs:HSub hq hp):SeP tb hp s mx last E ps m x q f O w:=⟨h.parts.weak hs,h.main,h.idx,h.que,h.of,h.qok,h.inv⟩
theorem SeW.sub {hp:HP} (h:SeW tb hq s mx last L w) (hs:HSub hq hp):SeW tb hp s mx last L w:=by
  obtain ⟨E,ps,m,x,q,f,O,e,h⟩:=h
  exact ⟨E,ps,m,x,q,f,O,e,h.sub hs⟩
theorem SeW.inv (h:SeW tb hq s mx last L w):InvE mx last L:=by obtain ⟨E,ps,m,x,q,f,O,rfl,h⟩:=h; exact h.inv
theorem SeW.qok (h:SeW tb hq s mx last L w):QOk Ss.id Ss.due L w:=by obtain ⟨E,ps,m,x,q,f,O,rfl,h⟩:=h; exact h.qok
theorem SeW.tab (h:SeW tb hq s mx last L w):TabR tb hq:=by obtain ⟨E,ps,m,x,q,f,O,rfl,h⟩:=h; exact h.main.dig.sub (h.parts.sub 0)
theorem SeP.rd (h:SeP tb hq s mx last E ps m x q f O w):TabR tb hq∧hq.cell s 0=some (.int .i64 mx)∧hq.cell s 1=some (.int .i64 last)∧hq.cell s 2=some (.map (some m))∧hq.cell s 3=some (ptr x 0)∧hq.cell s 4=some (ptr q 0)∧hq.cell s 5=some (.map (some f)):=h.main.rd (h.parts.sub 0)
theorem SeP.mapq (h:SeP tb hq s mx last E ps m x q f O w):MapE iw (fun k:Nat=>ptr k 0) (E.map fun e=>(e.1.id,e.2)) (hq m):=h.main.map.sub (h.parts.sub 0)
theorem SeP.ids (h:SeP tb hq s mx last E ps m x q f O w):(E.map fun e=>e.1.id).Nodup:=by
  have:=h.inv.ids
  rwa [List.map_map] at this
theorem SeP.get (h:SeP tb hq s mx last E ps m x q f O w) (i:Int):getL i (E.map fun e=>(e.1.id,e.2))=(E.find? fun e=>decide (e.1.id=i)).map (·.2):=getL_mapK (fun e:Ss × Nat=>e.1.id) (fun e=>e.2) i E
theorem findEs (i:Int):∀ E:List (Ss × Nat),(E.find? fun e=>decide (e.1.id=i)).map (·.1)=findN i (E.map (·.1))
  | []=>rfl
  | e::E=>by
    unfold findN
    rw [List.map_cons,List.find?_cons,List.find?_cons]
    by_cases h:e.1.id=i
    · rw [decide_eq_true h]; rfl
    · rw [decide_eq_false h]; exact findEs i E
theorem findEs_none {i:Int} (h:findN i (E.map (·.1))=none):(E.find? fun e=>decide (e.1.id=i))=none:=by
  rw [← findEs] at h
  simpa using h
theorem findEs_some {i:Int} {b:Ss} (hb:findN i (E.map (·.1))=some b):∃ e,e∈E∧e.1=b∧b.id=i∧(E.find? fun e=>decide (e.1.id=i))=some e:=by
  rw [← findEs] at hb
  cases hf:E.find? fun e=>decide (e.1.id=i) with
  | none=>rw [hf] at hb; cases hb
  | some e=>
    rw [hf] at hb
    simp only [Option.map_some,Option.some.injEq] at hb
    obtain ⟨h1,h2⟩:=find_mem hf
    have:=of_decide_eq_true h2
    exact ⟨e,h1,hb,by rw [← hb]; exact this,rfl⟩
theorem C38p (h:SeP tb hq s mx last E ps m x q f O w) (hK:K (.bool false) hq):CF Tryz.prog 38 [ptr s 0] hq K:=by
  refine F38_ok _ hq K ?_
  unfold F38
  obtain ⟨_,_,_,r2,_⟩:=h.rd
  simp only [Option.isNone_some,ite2_false,ptrN_some,Nat.zero_add,r2,ldV_some,mapV_map]
  exact hK
set_option maxHeartbeats 2000000 in
theorem C69 {p:Int} {o:Q × Int} {hp:HP} (ht:TabR tb hp) (hp':okZ p) (ho:okZ o.2) (hK:K (.string (key4 p o)) hp):CF Tryz.prog 69 [.int .i64 p,.agg ⟨t4 o⟩] hp K:=by
  refine CF.drop (F69_ok p (t4 o) hp _ ?_)
  unfold F69
  intro b1 hb1
  have ht2:TabR tb (hp.set b1 (.cells 56 (t4 o) 0)):=ht.set hb1 _
  have hs2:HSub hp (hp.set b1 (.cells 56 (t4 o) 0)):=HSub.set_fresh hp _ hb1
  have x1:(hp.set b1 (.cells 56 (t4 o) 0)) b1=.cells 56 (t4 o) 0:=HP.set_eq ..
  generalize hp.set b1 (.cells 56 (t4 o) 0)=hp2 at *
  have y1:hp2.cell b1 4=some (.int .i64 o.2):=HP.cell_of x1
  have z1:hp2.cellN b1 0 4=some ((qi o.1).map (Value.int .u8)):=by rw [HP.cellN_of x1]; rfl
  have i1:=itS_size ho
  have i2:=itS_size hp'
  have b1s:(byS (bs o.1)).size=4:=rfl
  have e32:(⟨#[32]⟩:ByteArray).size=1:=rfl
  have c1:∀ {K:Value→HP→Prop},K (.string (itS o.2)) hp2→CF Tryz.prog 119 [.int .i64 o.2] hp2 K:=fun h=>C119 ht2 ho h
  have c2:∀ {K:Value→HP→Prop},K (.string (itS p)) hp2→CF Tryz.prog 119 [.int .i64 p] hp2 K:=fun h=>C119 ht2 hp' h
  have r1:∀ {c:Value→Prop},c (.string (byS (bs o.1)))→rdS Tryz.prog (convert 193 9 (.slice (some ⟨b1,0,none⟩) 4 4)) hp2 c:=fun h=>rdS_bytes (e:=5) (by kernel_rfl) (by kernel_rfl) (by kernel_rfl) rfl z1 h
  have fin:∃ hp'',HSub hp'' hp2∧K (.string ((((itS p++(⟨#[32]⟩:ByteArray))++itS o.2)++(⟨#[32]⟩:ByteArray))++byS (bs o.1))) hp'':=⟨hp,hs2,by rw [keyA_app]; exact hK⟩
  clear x1 z1 ht2 ht hs2 hb1 hK
  generalize itS o.2=s1 at *
  generalize itS p=s2 at *
  generalize byS (bs o.1)=s3 at *
  simp only [ptrN_some,Nat.zero_add,y1,ldV_some,intV_int]
  repeat' apply And.intro
  all_goals repeat (first
    | exact fin
    | (refine c1 ?_; rw [strV_string])
    | (refine c2 ?_; rw [strV_string])
    | (refine r1 ?_; rw [strV_string])
    | (refine ⟨by first | omega | (simp only [str_app]; omega),?_⟩)
    | (simp only [y1,ldV_some,intV_int,ptrN_some,Nat.zero_add])
    | omega
    | (simp only [str_app]; omega))
theorem W10 (h:SeW tb hq s mx last L w) (hK:K (.int .i64 (L.length:Nat)) hq):CF Tryz.prog 10 [ptr s 0] hq K:=by
  obtain ⟨E,ps,m,x,q,f,O,rfl,h⟩:=h
  refine F10_ok _ hq K ?_
  unfold F10
  refine C38p h ?_
  obtain ⟨_,_,_,r2,_⟩:=h.rd
  simp only [boolV_bool,ite2_false,ptrN_some,Nat.zero_add,r2,ldV_some,mapV_map]
  refine rdS_mapLen u154 h.mapq ?_
  rw [intV_int,List.length_map]
  rw [List.length_map] at hK
  exact hK
theorem SeP.found (h:SeP tb hq s mx last E ps m x q f O w) {b:Int} {p:Q × Int} (hp:okT p):getL (key4 b p) ((E.map (·.1)).map fun y=>(y.key,y.id))=(findK b p (E.map (·.1))).map (·.id):=by
  rw [getL_mapK Ss.key Ss.id,findK_key h.inv hp]
theorem W29 (h:SeW tb hq s mx last L w) {b:Int} {p:Q × Int} (hb:okZ b) (hp:okT p) (hK:K (.tuple ⟨[.agg ⟨ssc ((findK b p L).getD ss0)⟩,.bool (findK b p L).isSome]⟩) hq):CF Tryz.prog 29 [ptr s 0,.int .i64 b,.agg ⟨t4 p⟩] hq K:=by
  obtain ⟨E,ps,m,x,q,f,O,rfl,h⟩:=h
  refine F29_ok _ b (t4 p) hq K ?_
  unfold F29
  refine C38p h ?_
  obtain ⟨rt,_,_,r2,r3,_⟩:=h.rd
  rw [boolV_bool,ite2_false]
  have main:F29_j1 (some ⟨s,0,none⟩) (((findK b p (E.map (·.1))).map (·.id)).getD 0) ((findK b p (E.map (·.1))).map (·.id)).isSome (ssc ss0) hq K:=by
    unfold F29_j1
    cases hf:findK b p (E.map (·.1)) with
    | none=>
      rw [hf] at hK
      show ite2 true _ _
      rw [ite2_true]
      exact ifI rfl (ifI rfl (ifI (Nat.le_refl 9) hK))
    | some y=>
      rw [hf] at hK
      obtain ⟨hy,_⟩:=findK_mem hf
      obtain ⟨e,he,rfl,_,hfe⟩:=findEs_some (findN_of h.inv hy)
      show ite2 false _ _
      simp only [ite2_false,ptrN_some,Nat.zero_add,r2,ldV_some,mapV_map]
      refine rdS_lookup (l:=E.map fun e=>(e.1.id,e.2)) u154 enc3 zw158 h.mapq e.1.id (ev:=fun k:Nat=>ptr k 0) (cm:=false) ?_
      rw [h.get,hfe]
      show ptrV (ptr e.2 0) _
      rw [pq,ptrN_some,HP.cellN_of ((h.parts.sub 0).cells (h.main.blk e he)),ssc_cells,ldL_some]
      rw [if_pos (ssc_len _),if_pos (ssc_one _),if_pos (by simp [ssc_len]),ss_spl (ssc_len _),ssc_cells,ldL_some]
      exact hK
  constructor
  all_goals
    simp only [ptrN_some,Nat.zero_add,r3,ldV_some,pq,t4_cells,ldL_some]
    refine C69 rt hb hp.2 ?_
    simp only [strV_string,ptrN_some,Nat.zero_add,r3,ldV_some,pq]
    refine C74 (h.idx.sub (h.parts.sub 1)) ?_
    rw [h.found hp]
    simp only [tup2V_mk,intV_int,boolV_bool]
    exact main
/-- What Room answers. -/
def roomE (mx:Nat) (b:Int) (p:Q × Int) (L:List Ss):Int:=if (findK b p L).isSome then 5 else if L.length≥mx then 6 else 0
theorem P24 (h:SeP tb hq s mx last E ps m x q f O w) {b:Int} {p:Q × Int} (hb:okZ b) (hp:okT p) (hK:K (.int .i64 (roomE mx b p (E.map (·.1)))) hq):CF Tryz.prog 24 [ptr s 0,.int .i64 b,.agg ⟨t4 p⟩] hq K:=by
  refine F24_ok _ b (t4 p) hq K ?_
  unfold F24
  refine C38p h ?_
  obtain ⟨rt,r0,_,r2,r3,_⟩:=h.rd
  rw [boolV_bool,ite2_false]
  have main:F24_j1 (some ⟨s,0,none⟩) ((findK b p (E.map (·.1))).map (·.id)).isSome hq K:=by
    unfold F24_j1
    cases hf:findK b p (E.map (·.1)) with
    | some y=>
      show ite2 true _ _
      rw [ite2_true]
      rw [show roomE mx b p (E.map (·.1))=5 from by unfold roomE; rw [hf]; rfl] at hK
      exact hK
    | none=>
      show ite2 false _ _
      rw [ite2_false]
      have fin:F24_j2 (decide ((((E.map (·.1)).length:Nat):Int)≥(mx:Nat))) hq K:=by
        unfold F24_j2
        by_cases c4:(E.map (·.1)).length≥mx
        · rw [decide_eq_true (by omega),ite2_true]
          rw [show roomE mx b p (E.map (·.1))=6 from by unfold roomE; rw [hf,if_neg (by simp),if_pos c4]] at hK
          exact hK
        · rw [decide_eq_false (by omega),ite2_false]
          rw [show roomE mx b p (E.map (·.1))=0 from by unfold roomE; rw [hf,if_neg (by simp),if_neg c4]] at hK
          exact hK
      have hlen:∀ {c:Value→Prop},c (.int .i64 ((E.map (·.1)).length:Nat))→rdS Tryz.prog (Builtin.len_ #[67] 3 #[.map (some m)]) hq c:=fun hc=>by
        refine rdS_mapLen u154 h.mapq ?_
        rw [List.length_map] at hc ⊢
        exact hc
      constructor
      · simp only [ptrN_some,Nat.zero_add,r2,ldV_some,mapV_map]
        refine hlen ?_
        simp only [intV_int,r0,ldV_some]
        exact fin
      · simp only [ptrN_some,Nat.zero_add,r2,r0,ldV_some,mapV_map,intV_int]
        refine hlen ?_
        rw [intV_int]
        exact fin
  constructor
  all_goals
    simp only [ptrN_some,Nat.zero_add,r3,ldV_some,pq,t4_cells,ldL_some]
    refine C69 rt hb hp.2 ?_
    simp only [strV_string,ptrN_some,Nat.zero_add,r3,ldV_some,pq]
    refine C74 (h.idx.sub (h.parts.sub 1)) ?_
    rw [h.found hp]
    simp only [tup2V_mk,intV_int,boolV_bool]
    exact main
theorem W24 (h:SeW tb hq s mx last L w) {b:Int} {p:Q × Int} (hb:okZ b) (hp:okT p) (hK:K (.int .i64 (roomE mx b p L)) hq):CF Tryz.prog 24 [ptr s 0,.int .i64 b,.agg ⟨t4 p⟩] hq K:=by
  obtain ⟨E,ps,m,x,q,f,O,rfl,h⟩:=h
  exact P24 h hb hp hK
set_option maxHeartbeats 1000000 in
/-- New. -/
theorem W6 {n:Int} {hq:HP} (ht:TabR tb hq) (hbad:(n<1∨n > 65536)→K (.tuple ⟨[.pointer none,.int .i64 1]⟩) hq)
    (hok:¬ (n<1∨n > 65536)→∀ s hq',SeW tb hq' s n.toNat 0 [] []→K (.tuple ⟨[ptr s 0,.int .i64 0]⟩) hq'):CF Tryz.prog 6 [.int .i64 n] hq K:=by
  refine F6_ok n hq K ?_
  unfold F6
  refine N22 (Parts.one (HSub.refl hq)) 1 (fun b=>by rw [pu_ne _ _ (by omega)]) (fun hm=>?_) (fun hm x l hp1 hl P1 hs1=>?_)
  · simp only [tup2V_mk,intV_int]
    rw [ptrV_pointer]
    show ite2 true _ _
    rw [ite2_true]
    exact hbad hm
  · rw [tup2V_mk,pq,intV_int]
    show ite2 false _ _
    rw [ite2_false]
    refine fun (b:Nat) (hb:hp1 b=Ent.none)=>?_
    have P2:=P1.new 0 hb (.obj (.map #[] 0))
    refine N23 P2 2 (fun b'=>by rw [pu_ne _ _ (by omega),pu_ne _ _ (by omega),pu_ne _ _ (by omega)]) fun q lq hp2 hlq P3 hs2=>?_
    rw [pq]
    refine fun (f:Nat) (hf:hp2 f=Ent.none)=>?_
    have P4:=P3.new 3 hf (.obj (.map #[] 0))
    refine fun (s:Nat) (hs:(hp2.set f (.obj (.map #[] 0))) s=Ent.none)=>?_
    have P5:=P4.new 0 hs (.cells 72 [.int .i64 n,.int .i64 0,.map (some b),.pointer (some ⟨x,0,none⟩),.pointer (some ⟨q,0,none⟩),.map (some f)] 0)
    have hsf:s≠f:=fun e=>by rw [e,HP.set_eq] at hs; cases hs
    rw [HP.set_ne _ _ hsf] at hs
    have hsb:s≠b:=fun e=>by
      have h1:=(hs2.obj (b:=b) (HP.set_eq ..))
      rw [← e,hs] at h1; cases h1
    have hb0:b≠0:=fun e=>by
      have:=(P1.sub 0).obj (b:=0) (by rw [pu_ne _ _ (by omega),pu_eq]; exact ht.1)
      rw [e,this] at hb; cases hb
    have hs0:s≠0:=fun e=>by
      have h1:=(P1.sub 0).obj (b:=0) (by rw [pu_ne _ _ (by omega),pu_eq]; exact ht.1)
      have h2:=hs2.obj (b:=0) (o:=tb) (by rw [HP.set_ne _ _ (fun e=>hb0 e.symm)]; exact h1)
      rw [e,h2] at hs; cases hs
    obtain ⟨k,rfl⟩:∃ k:Nat,n=k:=⟨n.toNat,by omega⟩
    refine hok hm s _ ⟨[],_,b,x,q,f,[],rfl,P5,?_,?_,?_,?_,QOk.nil,InvE.nil (by omega)⟩
    · rw [pu_eq,pu_ne _ _ (by omega),pu_ne _ _ (by omega),pu_eq]
      refine ⟨?_,?_,fun e he=>absurd he (by simp),?_⟩
      · rw [HP.set_eq]; rfl
      · rw [HP.set_ne _ _ hsb.symm,HP.set_eq]; exact MapE.empty _ _
      · rw [pu_ne _ _ (by omega),pu_eq]
        exact (ht.set_other hb0 _).set_other hs0 _
    · rw [pu_ne _ _ (by omega),pu_ne _ _ (by omega),pu_ne _ _ (by omega),pu_ne _ _ (by omega),pu_eq]; exact hl
    · rw [pu_ne _ _ (by omega),pu_ne _ _ (by omega),pu_eq]; exact hlq
    · rw [pu_ne _ _ (by omega),pu_eq,pu_ne _ _ (by omega),pu_ne _ _ (by omega),pu_ne _ _ (by omega),pu_ne _ _ (by omega)]
      exact OfO.nil (HP.set_eq ..)
end
end Go.Proofs
set_option linter.unusedVariables false
set_option maxRecDepth 20000
namespace Go.Proofs
open Go Go.HL
def F18_j4 (x0:OA) (x1:Int) (x13:OA) (k10:List Value) (hp:HP) (K:Kh):Prop:=
  (ptrN x0 fun b_35 o_36=>(ldV (HP.cell hp b_35 (o_36+5)) fun v_37=>(mapV v_37 fun m_38=>(rdS Tryz.prog (Instr.lookup 70 (Value.map m_38) (Value.int .i64 x1) false) hp fun u_39=>(mapV u_39 fun m_40=>(ptrN x13 fun b_41 o_42=>(ldV (HP.cell hp b_41 (o_42+0)) fun v_43=>(intV v_43 .i64 fun i_44=>(opS Tryz.prog (Instr.mapUpdate 139 (Value.map m_40) (Value.int .i64 i_44) (Value.bool true)) hp fun u_45 h_46=>(ptrN x13 fun b_47 o_48=>(ldL (HP.cellN h_46 b_47 o_48 9) fun l_49=>(if List.length l_49=9 then (if List.all l_49 one=true then (if 0+List.length l_49≤List.length k10 then (ldL (cellsN (splice k10 0 l_49) 0 9) fun l_50=>(K (.tuple ⟨[(.agg ⟨l_50⟩),(Value.int .i64 0)]⟩) h_46)) else False) else False) else False))))))))))))
def F18_j3 (x0:OA) (x1 x4:Int) (x13:OA) (k10:List Value) (hp:HP) (K:Kh):Prop:=
  (ptrN x0 fun b_24 o_25=>(ldV (HP.cell hp b_24 (o_25+4)) fun v_26=>(ptrV v_26 fun p_27=>(ptrN x13 fun b_28 o_29=>(ldV (HP.cell hp b_28 (o_29+0)) fun v_30=>(intV v_30 .i64 fun i_31=>(CF Tryz.prog 70 [(Value.pointer p_27),(Value.int .i64 i_31),(Value.int .i64 x4)] hp fun u_32 h_33=>(intV u_32 .i64 fun i_34=>(ptrN x0 fun b_51 o_52=>(ldV (HP.cell h_33 b_51 (o_52+5)) fun v_53=>(mapV v_53 fun m_54=>(rdS Tryz.prog (Instr.lookup 70 (Value.map m_54) (Value.int .i64 x1) false) h_33 fun u_55=>(mapV u_55 fun m_56=>(ite2 (Option.isNone m_56) (ptrN x0 fun b_57 o_58=>(ldV (HP.cell h_33 b_57 (o_58+5)) fun v_59=>(mapV v_59 fun m_60=>(∀ b_61:Nat,h_33 b_61=.none→(opS Tryz.prog (Instr.mapUpdate 70 (Value.map m_60) (Value.int .i64 x1) (Value.map (some b_61))) (HP.set h_33 b_61 (.obj (.map #[] 0))) fun u_62 h_63=>(F18_j4 x0 x1 x13 k10 h_63  K)))))) (F18_j4 x0 x1 x13 k10 h_33  K)))))))))))))))
def F18_j2 (x0:OA) (x1 x4:Int) (x13:OA) (k7 k10:List Value) (hp:HP) (K:Kh):Prop:=
  (ptrN x0 fun b_14 o_15=>(ldV (HP.cell hp b_14 (o_15+2)) fun v_16=>(mapV v_16 fun m_17=>(ptrN x13 fun b_18 o_19=>(ldV (HP.cell hp b_18 (o_19+0)) fun v_20=>(intV v_20 .i64 fun i_21=>(opS Tryz.prog (Instr.mapUpdate 67 (Value.map m_17) (Value.int .i64 i_21) (Value.pointer x13)) hp fun u_22 h_23=>((ptrN x0 fun b_64 o_65=>(ldV (HP.cell h_23 b_64 (o_65+3)) fun v_66=>(ptrV v_66 fun p_67=>(ldL (cellsN k7 0 5) fun l_68=>(CF Tryz.prog 69 [(Value.int .i64 x1),(Value.agg ⟨l_68⟩)] h_23 fun u_69 h_70=>(strV u_69 fun s_71=>(ptrN x13 fun b_72 o_73=>(ldV (HP.cell h_70 b_72 (o_73+0)) fun v_74=>(intV v_74 .i64 fun i_75=>(CF Tryz.prog 68 [(Value.pointer p_67),(Value.string s_71),(Value.int .i64 i_75)] h_70 fun u_76 h_77=>(intV u_76 .i64 fun i_78=>(F18_j3 x0 x1 x4 x13 k10 h_77  K))))))))))))∧(ptrN x0 fun b_79 o_80=>(ldV (HP.cell h_23 b_79 (o_80+3)) fun v_81=>(ptrV v_81 fun p_82=>(ldL (cellsN k7 0 5) fun l_83=>(ptrN x13 fun b_84 o_85=>(ldV (HP.cell h_23 b_84 (o_85+0)) fun v_86=>(intV v_86 .i64 fun i_87=>(CF Tryz.prog 69 [(Value.int .i64 x1),(Value.agg ⟨l_83⟩)] h_23 fun u_88 h_89=>(strV u_88 fun s_90=>(CF Tryz.prog 68 [(Value.pointer p_82),(Value.string s_90),(Value.int .i64 i_87)] h_89 fun u_91 h_92=>(intV u_91 .i64 fun i_93=>(F18_j3 x0 x1 x4 x13 k10 h_92  K))))))))))))∧(ptrN x0 fun b_94 o_95=>(ldL (cellsN k7 0 5) fun l_96=>(CF Tryz.prog 69 [(Value.int .i64 x1),(Value.agg ⟨l_96⟩)] h_23 fun u_97 h_98=>(strV u_97 fun s_99=>(ldV (HP.cell h_98 b_94 (o_95+3)) fun v_100=>(ptrV v_100 fun p_101=>(ptrN x13 fun b_102 o_103=>(ldV (HP.cell h_98 b_102 (o_103+0)) fun v_104=>(intV v_104 .i64 fun i_105=>(CF Tryz.prog 68 [(Value.pointer p_101),(Value.string s_99),(Value.int .i64 i_105)] h_98 fun u_106 h_107=>(intV u_106 .i64 fun i_108=>(F18_j3 x0 x1 x4 x13 k10 h_107  K))))))))))))∧(ptrN x0 fun b_109 o_110=>(ldL (cellsN k7 0 5) fun l_111=>(ptrN x13 fun b_112 o_113=>(ldV (HP.cell h_23 b_112 (o_113+0)) fun v_114=>(intV v_114 .i64 fun i_115=>(CF Tryz.prog 69 [(Value.int .i64 x1),(Value.agg ⟨l_111⟩)] h_23 fun u_116 h_117=>(strV u_116 fun s_118=>(ldV (HP.cell h_117 b_109 (o_110+3)) fun v_119=>(ptrV v_119 fun p_120=>(CF Tryz.prog 68 [(Value.pointer p_120),(Value.string s_118),(Value.int .i64 i_115)] h_117 fun u_121 h_122=>(intV u_121 .i64 fun i_123=>(F18_j3 x0 x1 x4 x13 k10 h_122  K))))))))))))))))))))
def F18_j1 (x0:OA) (x1 x3 x4:Int) (x24:Bool) (k7 k10:List Value) (hp:HP) (K:Kh):Prop:=
  (ite2 x24 (if List.length [(Value.int .i64 0),(Value.int .i64 0),(Value.int .u8 0),(Value.int .u8 0),(Value.int .u8 0),(Value.int .u8 0),(Value.int .i64 0),(Value.int .i64 0),(Value.int .i64 0)]=9 then (if List.all [(Value.int .i64 0),(Value.int .i64 0),(Value.int .u8 0),(Value.int .u8 0),(Value.int .u8 0),(Value.int .u8 0),(Value.int .i64 0),(Value.int .i64 0),(Value.int .i64 0)] one=true then (if 0+List.length [(Value.int .i64 0),(Value.int .i64 0),(Value.int .u8 0),(Value.int .u8 0),(Value.int .u8 0),(Value.int .u8 0),(Value.int .i64 0),(Value.int .i64 0),(Value.int .i64 0)]≤List.length k10 then (ldL (cellsN (splice k10 0 [(Value.int .i64 0),(Value.int .i64 0),(Value.int .u8 0),(Value.int .u8 0),(Value.int .u8 0),(Value.int .u8 0),(Value.int .i64 0),(Value.int .i64 0),(Value.int .i64 0)]) 0 9) fun l_1=>(K (.tuple ⟨[(.agg ⟨l_1⟩),(Value.int .i64 1)]⟩) hp)) else False) else False) else False) (ldL (cellsN k7 0 5) fun l_2=>(CF Tryz.prog 24 [(Value.pointer x0),(Value.int .i64 x1),(Value.agg ⟨l_2⟩)] hp fun u_3 h_4=>(intV u_3 .i64 fun i_5=>(ite2 ((i_5:Int) != 0) (if List.length [(Value.int .i64 0),(Value.int .i64 0),(Value.int .u8 0),(Value.int .u8 0),(Value.int .u8 0),(Value.int .u8 0),(Value.int .i64 0),(Value.int .i64 0),(Value.int .i64 0)]=9 then (if List.all [(Value.int .i64 0),(Value.int .i64 0),(Value.int .u8 0),(Value.int .u8 0),(Value.int .u8 0),(Value.int .u8 0),(Value.int .i64 0),(Value.int .i64 0),(Value.int .i64 0)] one=true then (if 0+List.length [(Value.int .i64 0),(Value.int .i64 0),(Value.int .u8 0),(Value.int .u8 0),(Value.int .u8 0),(Value.int .u8 0),(Value.int .i64 0),(Value.int .i64 0),(Value.int .i64 0)]≤List.length k10 then (ldL (cellsN (splice k10 0 [(Value.int .i64 0),(Value.int .i64 0),(Value.int .u8 0),(Value.int .u8 0),(Value.int .u8 0),(Value.int .u8 0),(Value.int .i64 0),(Value.int .i64 0),(Value.int .i64 0)]) 0 9) fun l_6=>(K (.tuple ⟨[(.agg ⟨l_6⟩),(Value.int .i64 i_5)]⟩) h_4)) else False) else False) else False) (ptrN x0 fun b_7 o_8=>(ldV (HP.cell h_4 b_7 (o_8+1)) fun v_9=>(intV v_9 .i64 fun i_10=>(ptrN x0 fun b_11 o_12=>(HP.st h_4 b_11 (o_12+1) (Value.int .i64 (IntKind.wrap .i64 (i_10+1))) fun h_13=>((ptrN x0 fun b_124 o_125=>(ldV (HP.cell h_13 b_124 (o_125+1)) fun v_126=>(intV v_126 .i64 fun i_127=>(ldL (cellsN k7 0 5) fun l_128=>(if List.length l_128=5 then (∀ b_129:Nat,h_13 b_129=.none→((List.length (List.set (List.set (splice [(Value.int .i64 i_127),(Value.int .i64 x1),(Value.int .u8 0),(Value.int .u8 0),(Value.int .u8 0),(Value.int .u8 0),(Value.int .i64 0),(Value.int .i64 0),(Value.int .i64 0)] 2 l_128) 7 (Value.int .i64 x3)) 8 (Value.int .i64 x4))=9)∧(HP.stN (HP.set h_13 b_129 (.cells 58 [(Value.int .i64 0),(Value.int .i64 0),(Value.int .u8 0),(Value.int .u8 0),(Value.int .u8 0),(Value.int .u8 0),(Value.int .i64 0),(Value.int .i64 0),(Value.int .i64 0)] 0)) b_129 0 (List.set (List.set (splice [(Value.int .i64 i_127),(Value.int .i64 x1),(Value.int .u8 0),(Value.int .u8 0),(Value.int .u8 0),(Value.int .u8 0),(Value.int .i64 0),(Value.int .i64 0),(Value.int .i64 0)] 2 l_128) 7 (Value.int .i64 x3)) 8 (Value.int .i64 x4)) fun h_130=>(F18_j2 x0 x1 x4 (some ⟨b_129,0,none⟩) k7 k10 h_130  K)))) else False)))))∧(ptrN x0 fun b_131 o_132=>(ldL (cellsN k7 0 5) fun l_133=>(∀ b_134:Nat,h_13 b_134=.none→(ldV (HP.cell (HP.set h_13 b_134 (.cells 58 [(Value.int .i64 0),(Value.int .i64 0),(Value.int .u8 0),(Value.int .u8 0),(Value.int .u8 0),(Value.int .u8 0),(Value.int .i64 0),(Value.int .i64 0),(Value.int .i64 0)] 0)) b_131 (o_132+1)) fun v_135=>(intV v_135 .i64 fun i_136=>(if List.length l_133=5 then ((List.length (List.set (List.set (splice [(Value.int .i64 i_136),(Value.int .i64 x1),(Value.int .u8 0),(Value.int .u8 0),(Value.int .u8 0),(Value.int .u8 0),(Value.int .i64 0),(Value.int .i64 0),(Value.int .i64 0)] 2 l_133) 7 (Value.int .i64 x3)) 8 (Value.int .i64 x4))=9)∧(HP.stN (HP.set h_13 b_134 (.cells 58 [(Value.int .i64 0),(Value.int .i64 0),(Value.int .u8 0),(Value.int .u8 0),(Value.int .u8 0),(Value.int .u8 0),(Value.int .i64 0),(Value.int .i64 0),(Value.int .i64 0)] 0)) b_134 0 (List.set (List.set (splice [(Value.int .i64 i_136),(Value.int .i64 x1),(Value.int .u8 0),(Value.int .u8 0),(Value.int .u8 0),(Value.int .u8 0),(Value.int .i64 0),(Value.int .i64 0),(Value.int .i64 0)] 2 l_133) 7 (Value.int .i64 x3)) 8 (Value.int .i64 x4)) fun h_137=>(F18_j2 x0 x1 x4 (some ⟨b_134,0,none⟩) k7 k10 h_137  K))) else False)))))))))))))))))
def F18 (x0:OA) (x1:Int) (x2:List Value) (x3 x4:Int) (hp:HP) (K:Kh):Prop:=
  (CF Tryz.prog 38 [(Value.pointer x0)] hp fun u_138 h_139=>(boolV u_138 fun q_140=>(ite2 (!q_140) (ite2 (decide ((x4:Int)<0)) (F18_j1 x0 x1 x3 x4 true x2 [(Value.int .i64 0),(Value.int .i64 0),(Value.int .u8 0),(Value.int .u8 0),(Value.int .u8 0),(Value.int .u8 0),(Value.int .i64 0),(Value.int .i64 0),(Value.int .i64 0)] h_139  K) (F18_j1 x0 x1 x3 x4 (decide ((x4:Int) > 4611686018427387904)) x2 [(Value.int .i64 0),(Value.int .i64 0),(Value.int .u8 0),(Value.int .u8 0),(Value.int .u8 0),(Value.int .u8 0),(Value.int .i64 0),(Value.int .i64 0),(Value.int .i64 0)] h_139  K)) (F18_j1 x0 x1 x3 x4 false x2 [(Value.int .i64 0),(Value.int .i64 0),(Value.int .u8 0),(Value.int .u8 0),(Value.int .u8 0),(Value.int .u8 0),(Value.int .i64 0),(Value.int .i64 0),(Value.int .i64 0)] h_139  K))))
theorem F18_ok (x0:OA) (x1:Int) (x2:List Value) (x3 x4:Int) (hp:HP) (K:Kh) (h:F18 x0 x1 x2 x3 x4 hp K):CF Tryz.prog 18 [(Value.pointer x0),(Value.int .i64 x1),(Value.agg ⟨x2⟩),(Value.int .i64 x3),(Value.int .i64 x4)] hp K:=
  have L:∀ {Q} n,Snd Tryz.prog 96 (cAt Tryz.f18 (pth n)) Q (CW Tryz.prog 96 [7,10] [(7,[(3,9)],[([true],true,[0,1,2,3,4,5,6,7,8,9,10]),([false],true,[0,1,2,4,5,6,7,9,3,8,10])]),(9,[(3,6),(6,8)],[([true,true],true,[0,1,2,3,4,5,6,7,8,9]),([true,false],true,[0,1,2,3,4,5,7,8,6,9]),([false,true],true,[0,1,2,4,5,6,3,7,8,9]),([false,false],true,[0,1,2,4,5,7,8,6,3,9])])] (cAt Tryz.f18 (pth n)) Q):=fun _=>Snd.leaf
  okF h Tryz.func18 (Snd.seq (L 2) (Snd.seq (Snd.jn [(0,.p),(1,.i .i64),(3,.i .i64),(4,.i .i64),(7,.r 7 0),(10,.r 10 0),(24,.b),(7,.c 56),(10,.c 58)] (fun a hp=>F18_j1 a.1 a.2.1 a.2.2.1 a.2.2.2.1 a.2.2.2.2.1 a.2.2.2.2.2.1 a.2.2.2.2.2.2.1 hp  K) (L 9) (L 13) (by rfl) (by kernel_rfl)) (Snd.seq (L 11) (Snd.seq (L 23) (Snd.jn [(0,.p),(1,.i .i64),(4,.i .i64),(7,.r 7 0),(10,.r 10 0),(13,.p),(7,.c 56),(10,.c 58)] (fun a hp=>F18_j2 a.1 a.2.1 a.2.2.1 a.2.2.2.1 a.2.2.2.2.1 a.2.2.2.2.2.1 hp  K) (L 47) (Snd.seq (L 95) (Snd.jn [(0,.p),(1,.i .i64),(4,.i .i64),(10,.r 10 0),(13,.p),(10,.c 58)] (fun a hp=>F18_j3 a.1 a.2.1 a.2.2.1 a.2.2.2.1 a.2.2.2.2.1 hp  K) (L 191) (Snd.seq (L 383) (Snd.jn [(0,.p),(1,.i .i64),(10,.r 10 0),(13,.p),(10,.c 58)] (fun a hp=>F18_j4 a.1 a.2.1 a.2.2.1 a.2.2.2.1 hp  K) (L 767) (L 1023) (by rfl) (by kernel_rfl))) (by rfl) (by kernel_rfl))) (by rfl) (by kernel_rfl)))))) (by kernel_rfl) (by kernel_rfl) (by kernel_rfl)
def F35_j2 (x6:OA) (k4:List Value) (hp:HP) (K:Kh):Prop:=
  (ptrN x6 fun b_40 o_41=>(ldL (HP.cellN hp b_40 o_41 9) fun l_42=>(if List.length l_42=9 then (if List.all l_42 one=true then (if 0+List.length l_42≤List.length k4 then (ldL (cellsN (splice k4 0 l_42) 0 9) fun l_43=>(K (.tuple ⟨[(.agg ⟨l_43⟩),(Value.int .i64 0)]⟩) hp)) else False) else False) else False)))
def F35_j1 (x0:OA) (x1:Int) (x6:OA) (k4:List Value) (hp:HP) (K:Kh):Prop:=
  (ptrN x0 fun b_21 o_22=>(ldV (HP.cell hp b_21 (o_22+4)) fun v_23=>(ptrV v_23 fun p_24=>(CF Tryz.prog 79 [(Value.pointer p_24),(Value.int .i64 x1)] hp fun u_25 h_26=>(boolV u_25 fun q_27=>(ptrN x0 fun b_28 o_29=>(ldV (HP.cell h_26 b_28 (o_29+5)) fun v_30=>(mapV v_30 fun m_31=>(ptrN x6 fun b_32 o_33=>(ldV (HP.cell h_26 b_32 (o_33+1)) fun v_34=>(intV v_34 .i64 fun i_35=>(rdS Tryz.prog (Instr.lookup 70 (Value.map m_31) (Value.int .i64 i_35) false) h_26 fun u_36=>(mapV u_36 fun m_37=>(opS Tryz.prog (Builtin.delete_ #[139,3] 0 ⟨[(Value.map m_37),(Value.int .i64 x1)]⟩) h_26 fun u_38 h_39=>(ptrN x0 fun b_44 o_45=>(ldV (HP.cell h_39 b_44 (o_45+5)) fun v_46=>(mapV v_46 fun m_47=>(ptrN x6 fun b_48 o_49=>(ldV (HP.cell h_39 b_48 (o_49+1)) fun v_50=>(intV v_50 .i64 fun i_51=>(rdS Tryz.prog (Instr.lookup 70 (Value.map m_47) (Value.int .i64 i_51) false) h_39 fun u_52=>(mapV u_52 fun m_53=>(rdS Tryz.prog (Builtin.len_ #[139] 3 #[.map m_53]) h_39 fun u_54=>(intV u_54 .i64 fun i_55=>(ite2 ((i_55:Int)==0) (ptrN x0 fun b_56 o_57=>(ldV (HP.cell h_39 b_56 (o_57+5)) fun v_58=>(mapV v_58 fun m_59=>(ptrN x6 fun b_60 o_61=>(ldV (HP.cell h_39 b_60 (o_61+1)) fun v_62=>(intV v_62 .i64 fun i_63=>(opS Tryz.prog (Builtin.delete_ #[70,3] 0 ⟨[(Value.map m_59),(Value.int .i64 i_63)]⟩) h_39 fun u_64 h_65=>(F35_j2 x6 k4 h_65  K)))))))) (F35_j2 x6 k4 h_39  K))))))))))))))))))))))))))
def F35 (x0:OA) (x1:Int) (hp:HP) (K:Kh):Prop:=
  (CF Tryz.prog 38 [(Value.pointer x0)] hp fun u_1 h_2=>(boolV u_1 fun q_3=>(ite2 q_3 (if List.length [(Value.int .i64 0),(Value.int .i64 0),(Value.int .u8 0),(Value.int .u8 0),(Value.int .u8 0),(Value.int .u8 0),(Value.int .i64 0),(Value.int .i64 0),(Value.int .i64 0)]=9 then (if List.all [(Value.int .i64 0),(Value.int .i64 0),(Value.int .u8 0),(Value.int .u8 0),(Value.int .u8 0),(Value.int .u8 0),(Value.int .i64 0),(Value.int .i64 0),(Value.int .i64 0)] one=true then (if 0+List.length [(Value.int .i64 0),(Value.int .i64 0),(Value.int .u8 0),(Value.int .u8 0),(Value.int .u8 0),(Value.int .u8 0),(Value.int .i64 0),(Value.int .i64 0),(Value.int .i64 0)]≤List.length [(Value.int .i64 0),(Value.int .i64 0),(Value.int .u8 0),(Value.int .u8 0),(Value.int .u8 0),(Value.int .u8 0),(Value.int .i64 0),(Value.int .i64 0),(Value.int .i64 0)] then (ldL (cellsN (splice [(Value.int .i64 0),(Value.int .i64 0),(Value.int .u8 0),(Value.int .u8 0),(Value.int .u8 0),(Value.int .u8 0),(Value.int .i64 0),(Value.int .i64 0),(Value.int .i64 0)] 0 [(Value.int .i64 0),(Value.int .i64 0),(Value.int .u8 0),(Value.int .u8 0),(Value.int .u8 0),(Value.int .u8 0),(Value.int .i64 0),(Value.int .i64 0),(Value.int .i64 0)]) 0 9) fun l_4=>(K (.tuple ⟨[(.agg ⟨l_4⟩),(Value.int .i64 2)]⟩) h_2)) else False) else False) else False) (ptrN x0 fun b_5 o_6=>(ldV (HP.cell h_2 b_5 (o_6+2)) fun v_7=>(mapV v_7 fun m_8=>(rdS Tryz.prog (Instr.lookup 67 (Value.map m_8) (Value.int .i64 x1) true) h_2 fun u_9=>(tup2V u_9 fun u_10 u_11=>(ptrV u_10 fun p_12=>(boolV u_11 fun q_13=>(ite2 (!q_13) (if List.length [(Value.int .i64 0),(Value.int .i64 0),(Value.int .u8 0),(Value.int .u8 0),(Value.int .u8 0),(Value.int .u8 0),(Value.int .i64 0),(Value.int .i64 0),(Value.int .i64 0)]=9 then (if List.all [(Value.int .i64 0),(Value.int .i64 0),(Value.int .u8 0),(Value.int .u8 0),(Value.int .u8 0),(Value.int .u8 0),(Value.int .i64 0),(Value.int .i64 0),(Value.int .i64 0)] one=true then (if 0+List.length [(Value.int .i64 0),(Value.int .i64 0),(Value.int .u8 0),(Value.int .u8 0),(Value.int .u8 0),(Value.int .u8 0),(Value.int .i64 0),(Value.int .i64 0),(Value.int .i64 0)]≤List.length [(Value.int .i64 0),(Value.int .i64 0),(Value.int .u8 0),(Value.int .u8 0),(Value.int .u8 0),(Value.int .u8 0),(Value.int .i64 0),(Value.int .i64 0),(Value.int .i64 0)] then (ldL (cellsN (splice [(Value.int .i64 0),(Value.int .i64 0),(Value.int .u8 0),(Value.int .u8 0),(Value.int .u8 0),(Value.int .u8 0),(Value.int .i64 0),(Value.int .i64 0),(Value.int .i64 0)] 0 [(Value.int .i64 0),(Value.int .i64 0),(Value.int .u8 0),(Value.int .u8 0),(Value.int .u8 0),(Value.int .u8 0),(Value.int .i64 0),(Value.int .i64 0),(Value.int .i64 0)]) 0 9) fun l_14=>(K (.tuple ⟨[(.agg ⟨l_14⟩),(Value.int .i64 4)]⟩) h_2)) else False) else False) else False) (ptrN x0 fun b_15 o_16=>(ldV (HP.cell h_2 b_15 (o_16+2)) fun v_17=>(mapV v_17 fun m_18=>(opS Tryz.prog (Builtin.delete_ #[67,3] 0 ⟨[(Value.map m_18),(Value.int .i64 x1)]⟩) h_2 fun u_19 h_20=>((ptrN x0 fun b_66 o_67=>(ldV (HP.cell h_20 b_66 (o_67+3)) fun v_68=>(ptrV v_68 fun p_69=>(ptrN p_12 fun b_70 o_71=>(ldV (HP.cell h_20 b_70 (o_71+1)) fun v_72=>(intV v_72 .i64 fun i_73=>(ptrN p_12 fun b_74 o_75=>(ldL (HP.cellN h_20 b_74 (o_75+2) 5) fun l_76=>(CF Tryz.prog 69 [(Value.int .i64 i_73),(Value.agg ⟨l_76⟩)] h_20 fun u_77 h_78=>(strV u_77 fun s_79=>(CF Tryz.prog 78 [(Value.pointer p_69),(Value.string s_79)] h_78 fun u_80 h_81=>(boolV u_80 fun q_82=>(F35_j1 x0 x1 p_12 [(Value.int .i64 0),(Value.int .i64 0),(Value.int .u8 0),(Value.int .u8 0),(Value.int .u8 0),(Value.int .u8 0),(Value.int .i64 0),(Value.int .i64 0),(Value.int .i64 0)] h_81  K)))))))))))))∧(ptrN x0 fun b_83 o_84=>(ptrN p_12 fun b_85 o_86=>(ldV (HP.cell h_20 b_85 (o_86+1)) fun v_87=>(intV v_87 .i64 fun i_88=>(ptrN p_12 fun b_89 o_90=>(ldL (HP.cellN h_20 b_89 (o_90+2) 5) fun l_91=>(CF Tryz.prog 69 [(Value.int .i64 i_88),(Value.agg ⟨l_91⟩)] h_20 fun u_92 h_93=>(strV u_92 fun s_94=>(ldV (HP.cell h_93 b_83 (o_84+3)) fun v_95=>(ptrV v_95 fun p_96=>(CF Tryz.prog 78 [(Value.pointer p_96),(Value.string s_94)] h_93 fun u_97 h_98=>(boolV u_97 fun q_99=>(F35_j1 x0 x1 p_12 [(Value.int .i64 0),(Value.int .i64 0),(Value.int .u8 0),(Value.int .u8 0),(Value.int .u8 0),(Value.int .u8 0),(Value.int .i64 0),(Value.int .i64 0),(Value.int .i64 0)] h_98  K)))))))))))))))))))))))))))))
theorem F35_ok (x0:OA) (x1:Int) (hp:HP) (K:Kh) (h:F35 x0 x1 hp K):CF Tryz.prog 35 [(Value.pointer x0),(Value.int .i64 x1)] hp K:=
  have L:∀ {Q} n,Snd Tryz.prog 80 (cAt Tryz.f35 (pth n)) Q (CW Tryz.prog 80 [4] [(7,[(3,12)],[([true],true,[0,1,2,3,4,5,6,7,8,9,10,11,12,13]),([false],true,[0,1,2,4,5,6,7,8,9,10,11,12,3,13])])] (cAt Tryz.f35 (pth n)) Q):=fun _=>Snd.leaf
  okF h Tryz.func35 (Snd.seq (L 2) (Snd.seq (L 5) (Snd.seq (L 11) (Snd.seq (L 23) (Snd.seq (L 47) (Snd.jn [(0,.p),(1,.i .i64),(4,.r 4 0),(6,.p),(4,.c 58)] (fun a hp=>F35_j1 a.1 a.2.1 a.2.2.1 a.2.2.2.1 hp  K) (L 95) (Snd.seq (L 191) (Snd.seq (L 383) (Snd.jn [(4,.r 4 0),(6,.p),(4,.c 58)] (fun a hp=>F35_j2 a.1 a.2.1 hp  K) (L 767) (L 1023) (by rfl) (by kernel_rfl)))) (by rfl) (by kernel_rfl))))))) (by kernel_rfl) (by kernel_rfl) (by kernel_rfl)
end Go.Proofs
set_option linter.unusedVariables false
set_option linter.unusedSimpArgs false
set_option maxRecDepth 20000
namespace Go.Proofs
open Go Go.HL
open Go.Exp (Th tlt Ord setW dropW insW)
section
variable {tb:Obj} {hq:HP} {s mx last:Nat} {L:List Ss} {E:List (Ss × Nat)} {ps:Nat→HP} {m x q f:Nat} {O:List (Int × Nat)} {w:List Th} {K:Value→HP→Prop}
/-- What Add answers. -/
def addE (mx:Nat) (b:Int) (p:Q × Int) (due:Int) (L:List Ss):Int:=if due<0∨due > 4611686018427387904 then 1 else roomE mx b p L
theorem lookV {k:Int} {O:List (Int × Nat)} {f:Nat} {hp:HP} (hO:MapE iw mv O (hp f)) {c:Value→Prop} (h:c (.map (getL k O))):rdS Tryz.prog (Instr.lookup 70 (.map (some f)) (.int .i64 k) false) hp c:=by
  refine rdS_lookup (l:=O) u155 enc3 (z:=.map none) zw160 hO k (ev:=mv) (cm:=false) ?_
  simp only [Bool.false_eq_true,if_false]
  have:((getL k O).map mv).getD (.map none)=.map (getL k O):=by cases getL k O <;> rfl
  rw [this]; exact h
set_option maxHeartbeats 2000000 in
/-- The last step of Add: the number is put among the binding's. -/
theorem addOf {A hp:HP} {qs:Nat→HP} {b i:Int} {B:List (Int × Int)} {y:Nat} {xs:Ss} {k10:List Value} (hk:k10.length=9) (P:Parts hp qs) (h0:qs 0=A) (hm:SeM tb A s mx last E m x q f) (hy:A y=.cells 58 (ssc xs) 0) (hyi:xs.id=i)
    (hO:OfO (qs 3) f O B) (hi:i ∉ B.map (·.2))
    (hK:∀ hp' qs' O',Parts hp' qs'→(∀ j,j≠3→qs' j=qs j)→OfO (qs' 3) f O' (B++[(b,i)])→K (.tuple ⟨[.agg ⟨ssc xs⟩,.int .i64 0]⟩) hp') :
    (ptrN (some ⟨s,0,none⟩) fun b_51 o_52=>(ldV (HP.cell hp b_51 (o_52+5)) fun v_53=>(mapV v_53 fun m_54=>(rdS Tryz.prog (Instr.lookup 70 (Value.map m_54) (Value.int .i64 b) false) hp fun u_55=>(mapV u_55 fun m_56=>(ite2 (Option.isNone m_56) (ptrN (some ⟨s,0,none⟩) fun b_57 o_58=>(ldV (HP.cell hp b_57 (o_58+5)) fun v_59=>(mapV v_59 fun m_60=>(∀ b_61:Nat,hp b_61=.none→(opS Tryz.prog (Instr.mapUpdate 70 (Value.map m_60) (Value.int .i64 b) (Value.map (some b_61))) (HP.set hp b_61 (.obj (.map #[] 0))) fun u_62 h_63=>(F18_j4 (some ⟨s,0,none⟩) b (some ⟨y,0,none⟩) k10 h_63 K)))))) (F18_j4 (some ⟨s,0,none⟩) b (some ⟨y,0,none⟩) k10 hp K))))))):=by
  obtain ⟨_,_,_,_,_,_,r5⟩:=hm.rd (P.at 0 h0)
  have last4:∀ (hp':HP) (qs':Nat→HP) (O':List (Int × Nat)) (k:Nat) (l:List (Int × Bool)),Parts hp' qs'→qs' 0=A→MapE iw mv O' (qs' 3 f)→getL b O'=some k→MapE iw vb l (qs' 3 k) →
      (∀ e,MapE iw vb (putL i true l) e→∀ hp'',Parts hp'' (pu qs' 3 ((qs' 3).set k e))→K (.tuple ⟨[.agg ⟨ssc xs⟩,.int .i64 0]⟩) hp'')→F18_j4 (some ⟨s,0,none⟩) b (some ⟨y,0,none⟩) k10 hp' K:=by
    intro hp' qs' O' k l P' h0' hO' hg hl hfin
    obtain ⟨_,_,_,_,_,_,t5⟩:=hm.rd (P'.at 0 h0')
    have hyp:hp' y=.cells 58 (ssc xs) 0:=(P'.at 0 h0').cells hy
    unfold F18_j4
    simp only [ptrN_some,Nat.zero_add,t5,ldV_some,mapV_map]
    refine lookV (hO'.sub (P'.sub 3)) ?_
    rw [hg,mapV_map]
    have y0:hp'.cell y 0=some (.int .i64 i):=by rw [← hyi]; exact HP.cell_of hyp
    rw [y0,ldV_some,intV_int]
    refine opS_mapUpdate u160 enc3 (hl.sub (P'.sub 3)) i (ev:=vb) true fun e he=>?_
    have P2:=P'.put 3 hl.ne e
    have hyp2:(hp'.set k e) y=.cells 58 (ssc xs) 0:=(P2.at 0 (by rw [pu_ne _ _ (by omega)]; exact h0')).cells hy
    rw [HP.cellN_of hyp2,ssc_cells,ldL_some,if_pos (ssc_len _),if_pos (ssc_one _),if_pos (by simp [ssc_len,hk]),ss_spl hk,ssc_cells,ldL_some]
    exact hfin e he _ P2
  simp only [ptrN_some,Nat.zero_add,r5,ldV_some,mapV_map]
  refine lookV (hO.map.sub (P.sub 3)) ?_
  rw [mapV_map]
  cases hg:getL b O with
  | some k=>
    show ite2 false _ _
    rw [ite2_false]
    refine last4 hp qs O k _ P h0 hO.map hg (hO.inner hg).1 fun e he hp'' P''=>?_
    refine hK hp'' _ O P'' (fun j hj=>pu_ne _ _ hj) ?_
    rw [pu_eq]
    exact hO.add_old hg hi he
  | none=>
    show ite2 true _ _
    rw [ite2_true]
    refine fun (k:Nat) (hk1:hp k=Ent.none)=>?_
    have P1:=P.new 3 hk1 (.obj (.map #[] 0))
    have hk3:qs 3 k=.none:=(P.sub 3).none hk1
    have hkf:k≠f:=fun e'=>hO.map.ne (by rw [← e',hk3])
    have m1:MapE iw mv O (((qs 3).set k (.obj (.map #[] 0))) f):=by rw [HP.set_ne _ _ hkf.symm]; exact hO.map
    refine opS_mapUpdate u155 enc3 (m1.sub (P1.at 3 (pu_eq ..))) b (ev:=mv) k fun e he=>?_
    have P2:=P1.put 3 (b:=f) (by rw [pu_eq]; exact m1.ne) e
    rw [pu_eq,pu_pu] at P2
    refine last4 _ _ (putL b k O) k [] P2 (by rw [pu_ne _ _ (by omega)]; exact h0) (by rw [pu_eq,HP.set_eq]; exact he) (by rw [getL_put,if_pos rfl]) (by rw [pu_eq,HP.set_ne _ _ hkf,HP.set_eq]; exact MapE.empty _ _) fun e2 he2 hp'' P''=>?_
    rw [pu_eq,pu_pu] at P''
    refine hK hp'' _ (O++[(b,k)]) P'' (fun j hj=>pu_ne _ _ hj) ?_
    rw [pu_eq]
    exact hO.add_new hg hk3 he he2
set_option maxHeartbeats 4000000 in
/-- Add. -/
theorem W18 (h:SeW tb hq s mx last L w) {b st due:Int} {p:Q × Int} (hb:okZ b) (hp:okT p) (hlast:last<500000)
    (hno:addE mx b p due L≠0→K (.tuple ⟨[.agg ⟨ssc ss0⟩,.int .i64 (addE mx b p due L)]⟩) hq)
    (hyes:addE mx b p due L=0→∀ hq',SeW tb hq' s mx (last+1) (L++[⟨((last+1:Nat):Int),b,p,st,due⟩]) (setW ((last+1:Nat):Int) due w)→K (.tuple ⟨[.agg ⟨ssc ⟨((last+1:Nat):Int),b,p,st,due⟩⟩,.int .i64 0]⟩) hq') :
    CF Tryz.prog 18 [ptr s 0,.int .i64 b,.agg ⟨t4 p⟩,.int .i64 st,.int .i64 due] hq K:=by
  obtain ⟨E,ps,m,x,q,f,O,rfl,h⟩:=h
  refine F18_ok _ b (t4 p) st due hq K ?_
  unfold F18
  refine C38p h ?_
  rw [boolV_bool]
  show ite2 true _ _
  rw [ite2_true]
  have bad:(due<0∨due > 4611686018427387904)→F18_j1 (some ⟨s,0,none⟩) b st due true (t4 p) (ssc ss0) hq K:=fun hd=>by
    have e:addE mx b p due (E.map (·.1))=1:=if_pos hd
    rw [e] at hno
    unfold F18_j1
    rw [ite2_true]
    exact ifI rfl (ifI rfl (ifI (Nat.le_refl 9) (hno (by decide))))
  by_cases c1:due<0
  · rw [decide_eq_true c1,ite2_true]; exact bad (.inl c1)
  rw [decide_eq_false c1,ite2_false]
  by_cases c2:due > 4611686018427387904
  · rw [decide_eq_true c2]; exact bad (.inr c2)
  rw [decide_eq_false c2]
  clear bad
  have c12:¬ (due<0∨due > 4611686018427387904):=by omega
  have ea:addE mx b p due (E.map (·.1))=roomE mx b p (E.map (·.1)):=if_neg c12
  rw [ea] at hno hyes
  show F18_j1 _ _ _ _ false _ (ssc ss0) _ _
  unfold F18_j1
  rw [ite2_false,t4_cells,ldL_some]
  refine P24 h hb hp ?_
  rw [intV_int]
  by_cases c3:roomE mx b p (E.map (·.1))=0
  rotate_left
  · rw [show (roomE mx b p (E.map (·.1)) != 0)=true by simp [c3],ite2_true]
    exact ifI rfl (ifI rfl (ifI (Nat.le_refl 9) (hno c3)))
  rw [show (roomE mx b p (E.map (·.1)) != 0)=false by simp [c3],ite2_false]
  have hf:findK b p (E.map (·.1))=none:=by
    unfold roomE at c3
    cases hf:findK b p (E.map (·.1)) with
    | none=>rfl
    | some y=>rw [hf] at c3; simp at c3
  have hlt:(E.map (·.1)).length<mx:=by
    unfold roomE at c3
    rw [hf,if_neg (by simp)] at c3
    by_cases c4:(E.map (·.1)).length≥mx
    · rw [if_pos c4] at c3; cases c3
    · omega
  obtain ⟨rt,r0,r1,r2,r3,r4,r5⟩:=h.rd
  have w1:IntKind.wrap .i64 ((last:Int)+1)=((last+1:Nat):Int):=wi (by omega) (by omega)
  simp only [ptrN_some,Nat.zero_add,r1,ldV_some,intV_int,w1]
  have hinv:=h.inv
  refine HP.st_at ((h.parts.sub 0).cells h.main.tab) (by simp [tabE]) ?_
  rw [show (tabE mx last m x q f).set 1 (.int .i64 ((last+1:Nat):Int))=tabE mx (last+1) m x q f from rfl]
  have P1:=h.parts.put 0 (b:=s) (by rw [h.main.tab]; simp) (.cells 72 (tabE mx (last+1) m x q f) 0)
  have hm1:SeM tb ((ps 0).set s (.cells 72 (tabE mx (last+1) m x q f) 0)) s mx (last+1) E m x q f:=
    ⟨HP.set_eq ..,by rw [HP.set_ne _ _ h.main.ms]; exact h.main.map,fun e he=>by rw [HP.set_ne _ _ (h.main.bs he)]; exact h.main.blk e he,⟨by rw [HP.set_ne _ _ h.main.s0.symm]; exact h.main.dig.1,h.main.dig.2⟩⟩
  generalize hq.set s (.cells 72 (tabE mx (last+1) m x q f) 0)=hp1 at *
  generalize hA:(ps 0).set s (.cells 72 (tabE mx (last+1) m x q f) 0)=A1 at *
  obtain ⟨t0,_,t1,t2,t3,t4',t5⟩:=hm1.rd (P1.at 0 (pu_eq ..))
  obtain ⟨y,hy⟩:∃ y:Ss,y=⟨((last+1:Nat):Int),b,p,st,due⟩:=⟨_,rfl⟩
  have hz:∀ i:Int,List.set (List.set (splice [(Value.int .i64 i),(Value.int .i64 b),(Value.int .u8 0),(Value.int .u8 0),(Value.int .u8 0),(Value.int .u8 0),(Value.int .i64 0),(Value.int .i64 0),(Value.int .i64 0)] 2 (t4 p)) 7 (Value.int .i64 st)) 8 (Value.int .i64 due)=ssc ⟨i,b,p,st,due⟩:=fun _=>rfl
  have yid:y.id=((last+1:Nat):Int):=by rw [hy]
  have hnew:((last+1:Nat):Int) ∉ (E.map (·.1)).map Ss.id:=fun hm=>by
    obtain ⟨z,hz,e⟩:=List.mem_map.1 hm
    have:=(hinv.rng z hz).2
    rw [e] at this; omega
  have j2:∀ (bk:Nat),hp1 bk=.none→∀ hp2,hp2=hp1.set bk (.cells 58 (ssc y) 0)→F18_j2 (some ⟨s,0,none⟩) b due (some ⟨bk,0,none⟩) (t4 p) (ssc ss0) hp2 K:=by
    intro bk hbk hp2 ehp2
    have P2:=P1.new 0 hbk (.cells 58 (ssc y) 0)
    rw [pu_eq,pu_pu,← ehp2] at P2
    have hA0:A1 bk=.none:=(P1.at 0 (pu_eq ..)).none hbk
    have hbs:bk≠s:=fun e=>by rw [e,hm1.tab] at hA0; cases hA0
    have hbm:bk≠m:=fun e=>by
      obtain ⟨es,clock,e1,_⟩:=hm1.map
      rw [e,e1] at hA0; cases hA0
    have hb0:bk≠0:=fun e=>by rw [e,hm1.dig.1] at hA0; cases hA0
    have hm2:SeM tb (A1.set bk (.cells 58 (ssc y) 0)) s mx (last+1) E m x q f:=
      ⟨by rw [HP.set_ne _ _ hbs.symm]; exact hm1.tab,by rw [HP.set_ne _ _ hbm.symm]; exact hm1.map,fun e he=>by
        have:e.2≠bk:=fun e'=>by have:=hm1.blk e he; rw [e',hA0] at this; cases this
        rw [HP.set_ne _ _ this]; exact hm1.blk e he,⟨by rw [HP.set_ne _ _ hb0.symm]; exact hm1.dig.1,hm1.dig.2⟩⟩
    have hyb:(A1.set bk (.cells 58 (ssc y) 0)) bk=.cells 58 (ssc y) 0:=HP.set_eq ..
    generalize A1.set bk (.cells 58 (ssc y) 0)=A2 at *
    clear ehp2
    obtain ⟨_,_,_,u2,_⟩:=hm2.rd (P2.at 0 (pu_eq ..))
    have hyp:hp2 bk=.cells 58 (ssc y) 0:=(P2.at 0 (pu_eq ..)).cells hyb
    have y0:hp2.cell bk 0=some (.int .i64 y.id):=HP.cell_of hyp
    unfold F18_j2
    simp only [ptrN_some,Nat.zero_add,u2,ldV_some,mapV_map,y0,intV_int]
    refine opS_mapUpdate u154 enc3 (hm2.map.sub (P2.at 0 (pu_eq ..))) y.id (ev:=fun k:Nat=>ptr k 0) bk fun e he=>?_
    have P3:=P2.put 0 (b:=m) (by rw [pu_eq]; exact hm2.map.ne) e
    rw [pu_eq,pu_pu] at P3
    have hpl:putL y.id bk (E.map fun e=>(e.1.id,e.2))=(E++[(y,bk)]).map fun e=>(e.1.id,e.2):=by
      rw [put_new,List.map_append]; rfl
      rw [getL_none_mem,List.map_map]
      rw [yid]
      intro hm
      refine hnew ?_
      rw [List.map_map]
      exact hm
    rw [hpl] at he
    have hm3:SeM tb (A2.set m e) s mx (last+1) (E++[(y,bk)]) m x q f:=
      ⟨by rw [HP.set_ne _ _ hm2.ms.symm]; exact hm2.tab,by rw [HP.set_eq]; exact he,fun z hz=>by
        rcases List.mem_append.1 hz with hz | hz
        · rw [HP.set_ne _ _ (hm2.bm hz)]; exact hm2.blk z hz
        · rw [List.mem_singleton.1 hz]
          rw [HP.set_ne _ _ hbm]; exact hyb,⟨by rw [HP.set_ne _ _ hm2.m0.symm]; exact hm2.dig.1,hm2.dig.2⟩⟩
    have hyb3:(A2.set m e) bk=.cells 58 (ssc y) 0:=by rw [HP.set_ne _ _ hbm]; exact hyb
    generalize A2.set m e=A3 at *
    generalize hp2.set m e=hp3 at *
    obtain ⟨v0,_,_,_,v3,_⟩:=hm3.rd (P3.at 0 (pu_eq ..))
    have hyp3:hp3 bk=.cells 58 (ssc y) 0:=(P3.at 0 (pu_eq ..)).cells hyb3
    have y03:hp3.cell bk 0=some (.int .i64 y.id):=HP.cell_of hyp3
    have idx3:IdxR (pu ps 0 A3 1) x mx ((E.map (·.1)).map fun y=>(y.key,y.id)):=h.idx
    have hgn:getL (key4 b p) ((E.map (·.1)).map fun y=>(y.key,y.id))=none:=by rw [h.found hp,hf]; rfl
    have j3:∀ l hp',IdxR l x mx ((E.map (·.1)).map (fun y=>(y.key,y.id))++[(key4 b p,y.id)])→Parts hp' (pu (pu ps 0 A3) 1 l)→F18_j3 (some ⟨s,0,none⟩) b due (some ⟨bk,0,none⟩) (ssc ss0) hp' K:=by
      intro l hp' hl P4
      obtain ⟨_,_,_,_,_,a4,_⟩:=hm3.rd (P4.at 0 rfl)
      have hyp4:hp' bk=.cells 58 (ssc y) 0:=(P4.at 0 (l:=A3) rfl).cells hyb3
      have y04:hp'.cell bk 0=some (.int .i64 y.id):=HP.cell_of hyp4
      unfold F18_j3
      simp only [ptrN_some,Nat.zero_add,a4,ldV_some,pq,y04,intV_int]
      refine N70 P4 2 (q:=q) (w:=w) h.que (by rw [h.qok.len]; have:=hinv.len; have:=hinv.mx; omega) c12 fun l3 hp5 hl3 P5=>?_
      rw [intV_int]
      have hof:OfO (pu (pu (pu ps 0 A3) 1 l) 2 l3 3) f O ((E.map (·.1)).map bi):=h.of
      refine addOf (A:=A3) (qs:=pu (pu (pu ps 0 A3) 1 l) 2 l3) (i:=y.id) (y:=bk) (xs:=y) (B:=(E.map (·.1)).map bi) rfl P5 rfl hm3 hyb3 rfl hof ?_ fun hp6 qs' O' P6 hq' hO'=>?_
      · rw [yid,List.map_map]
        intro hm
        exact hnew hm
      · rw [hy]
        refine hyes c3 hp6 ⟨E++[(y,bk)],qs',m,x,q,f,O',?_,P6,?_,?_,?_,?_,?_,?_⟩
        · rw [List.map_append,← hy]; rfl
        · rw [hq' 0 (by omega)]; exact hm3
        · rw [hq' 1 (by omega),List.map_append,List.map_append]
          show IdxR l x mx (_++[(y.key,y.id)])
          rw [show y.key=key4 b p by rw [hy]; rfl]; exact hl
        · rw [hq' 2 (by omega)]
          show QW l3 q _
          rw [← yid]; exact hl3
        · rw [List.map_append,List.map_append]
          show OfO (qs' 3) f O' (_++[(y.bnd,y.id)])
          rw [show y.bnd=b by rw [hy]]; exact hO'
        · rw [List.map_append]
          have:=h.qok.put (x:=y) (by rw [yid]; exact hnew)
          rw [yid,show y.due=due by rw [hy]] at this
          exact this
        · rw [List.map_append]
          have:=hinv.put (state:=st) hb hp (by omega:0≤due∧due≤4611686018427387904) hf (by omega) hlast
          rw [← hy] at this
          exact this
    refine ⟨?_,?_,?_,?_⟩
    all_goals
      try simp only [ptrN_some,Nat.zero_add,v3,ldV_some,pq,t4_cells,ldL_some,y03,intV_int]
      refine C69 v0 hb hp.2 ?_
      simp only [strV_string,v3,ldV_some,pq,y03,intV_int]
      refine N68 P3 1 idx3 hgn (by simpa using hlt) hinv.mx fun l hp' hl P4=>?_
      rw [intV_int]
      exact j3 l hp' hl P4
  refine ⟨?_,?_⟩
  · simp only [t1,ldV_some,intV_int,t4_cells,ldL_some]
    refine ifI rfl ?_
    refine fun (bk:Nat) (hbk:hp1 bk=Ent.none)=>?_
    rw [hz,← hy]
    refine ⟨ssc_len y,?_⟩
    refine HP.stN_at (HP.set_eq ..) (by simp [ssc_len]) (ssc_one y) ?_
    rw [ss_spl rfl,HP.set_set]
    exact j2 bk hbk _ rfl
  · simp only [t4_cells,ldL_some]
    refine fun (bk:Nat) (hbk:hp1 bk=Ent.none)=>?_
    have hsk:s≠bk:=fun e=>by
      have:=(P1.at 0 (pu_eq ..)).cells hm1.tab
      rw [e,hbk] at this; cases this
    have t1':(hp1.set bk (.cells 58 [(Value.int .i64 0),(Value.int .i64 0),(Value.int .u8 0),(Value.int .u8 0),(Value.int .u8 0),(Value.int .u8 0),(Value.int .i64 0),(Value.int .i64 0),(Value.int .i64 0)] 0)).cell s 1=some (.int .i64 ((last+1:Nat):Int)):=by
      unfold HP.cell
      rw [HP.set_ne _ _ hsk]
      exact t1
    rw [t1',ldV_some,intV_int]
    refine ifI rfl ?_
    rw [hz,← hy]
    refine ⟨ssc_len y,?_⟩
    refine HP.stN_at (HP.set_eq ..) (by simp [ssc_len]) (ssc_one y) ?_
    rw [ss_spl rfl,HP.set_set]
    exact j2 bk hbk _ rfl
end
end Go.Proofs
set_option linter.unusedVariables false
set_option maxRecDepth 20000
namespace Go.Proofs
open Go Go.HL
def F21_j1 (x5a:OA) (x5n x5c:Nat) (hp:HP) (K:Kh):Prop:=
  (K (Value.slice x5a x5n x5c) hp)
def F21_j4 (x0:OA) (x1:Int) (x5a:OA) (x5n x5c:Nat) (x6:Int) (x27:Bool) (hp:HP) (I3:((Option Addr) × Nat × Nat × Int × Int × Bool)→HP→Prop) (K:Value→HP→Prop):Prop:=
  (ite2 x27 (CF Tryz.prog 35 [(Value.pointer x0),(Value.int .i64 x6)] hp fun u_4 h_5=>(tup2V u_4 fun u_6 u_7=>(aggV u_6 fun l_8=>(intV u_7 .i64 fun i_9=>(if List.length l_8=9 then (if List.all l_8 one=true then (if 0+List.length l_8≤List.length [(Value.int .i64 0),(Value.int .i64 0),(Value.int .u8 0),(Value.int .u8 0),(Value.int .u8 0),(Value.int .u8 0),(Value.int .i64 0),(Value.int .i64 0),(Value.int .i64 0)] then (ldL (cellsN (splice [(Value.int .i64 0),(Value.int .i64 0),(Value.int .u8 0),(Value.int .u8 0),(Value.int .u8 0),(Value.int .u8 0),(Value.int .i64 0),(Value.int .i64 0),(Value.int .i64 0)] 0 l_8) 0 9) fun l_10=>(if List.length l_10=9 then (∀ b_11:Nat,h_5 b_11=.none→(opS Tryz.prog (Builtin.append_ #[36,36] 36 ⟨[(Value.slice x5a x5n x5c),(Value.slice (some ⟨b_11,0,none⟩) 1 1)]⟩) (HP.set h_5 b_11 (.cells 58 (splice [(Value.int .i64 0),(Value.int .i64 0),(Value.int .u8 0),(Value.int .u8 0),(Value.int .u8 0),(Value.int .u8 0),(Value.int .i64 0),(Value.int .i64 0),(Value.int .i64 0)] 0 l_10) 0)) fun u_12 h_13=>(slcV u_12 fun a_14 n_15 c_16=>(ptrN x0 fun b_17 o_18=>(ldV (HP.cell h_13 b_17 (o_18+4)) fun v_19=>(ptrV v_19 fun p_20=>(CF Tryz.prog 73 [(Value.pointer p_20)] h_13 fun u_21 h_22=>(tup3V u_21 fun u_23 u_24 u_25=>(intV u_23 .i64 fun i_26=>(intV u_24 .i64 fun i_27=>(boolV u_25 fun q_28=>(I3 (a_14,n_15,c_16,i_26,i_27,q_28) h_22)))))))))))) else False)) else False) else False) else False))))) (F21_j1 x5a x5n x5c hp  K))
def F21_l3 (x0:OA) (x1:Int) (K:Kh) (I3:((Option Addr) × Nat × Nat × Int × Int × Bool)→HP→Prop) (x5a:Option Addr) (x5n:Nat) (x5c:Nat) (x6:Int) (x7:Int) (x8:Bool) (hp:HP):Prop:=
  (ite2 x8 (F21_j4 x0 x1 x5a x5n x5c x6 (decide ((x7:Int)≤x1)) hp I3 K) (F21_j4 x0 x1 x5a x5n x5c x6 false hp I3 K))
def F21_j2 (x0:OA) (x1:Int) (x5a:OA) (x5n x5c:Nat) (x6 x7:Int) (x8:Bool) (hp:HP) (K:Kh):Prop:=
  (LoopP (σ:=(Option Addr) × Nat × Nat × Int × Int × Bool) (fun I s hp=>F21_l3 x0 x1  K I s.1 s.2.1 s.2.2.1 s.2.2.2.1 s.2.2.2.2.1 s.2.2.2.2.2 hp) (x5a,x5n,x5c,x6,x7,x8) hp)
def F21 (x0:OA) (x1:Int) (hp:HP) (K:Kh):Prop:=
  (CF Tryz.prog 38 [(Value.pointer x0)] hp fun u_1 h_2=>(boolV u_1 fun q_3=>(ite2 q_3 (K (Value.slice none 0 0) h_2) (ptrN x0 fun b_29 o_30=>(ldV (HP.cell h_2 b_29 (o_30+4)) fun v_31=>(ptrV v_31 fun p_32=>(CF Tryz.prog 73 [(Value.pointer p_32)] h_2 fun u_33 h_34=>(tup3V u_33 fun u_35 u_36 u_37=>(intV u_35 .i64 fun i_38=>(intV u_36 .i64 fun i_39=>(boolV u_37 fun q_40=>(F21_j2 x0 x1 none 0 0 i_38 i_39 q_40 h_34  K))))))))))))
theorem F21_ok (x0:OA) (x1:Int) (hp:HP) (K:Kh) (h:F21 x0 x1 hp K):CF Tryz.prog 21 [(Value.pointer x0),(Value.int .i64 x1)] hp K:=
  have L:∀ {Q} n,Snd Tryz.prog 48 (cAt Tryz.f21 (pth n)) Q (CW Tryz.prog 48 [9] [] (cAt Tryz.f21 (pth n)) Q):=fun _=>Snd.leaf
  okF h Tryz.func21 (Snd.seq (L 2) (Snd.seq (L 5) (Snd.seq (L 11) (Snd.jn [(5,.s)] (fun a hp=>F21_j1 a.1 a.2.1 a.2.2.1 hp  K) (Snd.jn [(0,.p),(1,.i .i64),(5,.s),(6,.i .i64),(7,.i .i64),(8,.b)] (fun a hp=>F21_j2 a.1 a.2.1 a.2.2.1 a.2.2.2.1 a.2.2.2.2.1 a.2.2.2.2.2.1 a.2.2.2.2.2.2.1 a.2.2.2.2.2.2.2.1 hp  K) (L 39) (Snd.block 0 (Snd.lp (σ:=(Option Addr) × Nat × Nat × Int × Int × Bool) [(0,.p),(1,.i .i64),(5,.s),(6,.i .i64),(7,.i .i64),(8,.b)] (fun a=>(a.2.2.1,a.2.2.2.1,a.2.2.2.2.1,a.2.2.2.2.2.1,a.2.2.2.2.2.2.1,a.2.2.2.2.2.2.2.1)) (fun a s=>(a.1,a.2.1,s.1,s.2.1,s.2.2.1,s.2.2.2.1,s.2.2.2.2.1,s.2.2.2.2.2,())) (fun a I s hp=>F21_l3 a.1 a.2.1  K I s.1 s.2.1 s.2.2.1 s.2.2.2.1 s.2.2.2.2.1 s.2.2.2.2.2 hp) (fun I3=>(Snd.seq (Snd.jn [(0,.p),(1,.i .i64),(5,.s),(6,.i .i64),(27,.b)] (fun a hp=>F21_j4 a.1 a.2.1 a.2.2.1 a.2.2.2.1 a.2.2.2.2.1 a.2.2.2.2.2.1 a.2.2.2.2.2.2.1 hp (fun s hp=>I3 (a.1,a.2.1,s.1,s.2.1,s.2.2.1,s.2.2.2.1,s.2.2.2.2.1,s.2.2.2.2.2,()) hp) K) (L 535) (L 791) (by rfl) (by kernel_rfl)) (L 407))) (by rfl) (by kernel_rfl) (by kernel_rfl))) (by rfl) (by kernel_rfl)) (L 31) (by rfl) (by kernel_rfl))))) (by kernel_rfl) (by kernel_rfl) (by kernel_rfl)
def F33_j1 (x0:OA) (x1 x2 x3:Int) (x14:Bool) (hp:HP) (K:Kh):Prop:=
  (ite2 x14 (K (Value.int .i64 1) hp) (ptrN x0 fun b_4 o_5=>(ldV (HP.cell hp b_4 (o_5+2)) fun v_6=>(mapV v_6 fun m_7=>(rdS Tryz.prog (Instr.lookup 67 (Value.map m_7) (Value.int .i64 x1) true) hp fun u_8=>(tup2V u_8 fun u_9 u_10=>(ptrV u_9 fun p_11=>(boolV u_10 fun q_12=>(ite2 (!q_12) (K (Value.int .i64 4) hp) (ptrN p_11 fun b_13 o_14=>(HP.st hp b_13 (o_14+7) (Value.int .i64 x2) fun h_15=>(ptrN p_11 fun b_16 o_17=>(HP.st h_15 b_16 (o_17+8) (Value.int .i64 x3) fun h_18=>(ptrN x0 fun b_19 o_20=>(ldV (HP.cell h_18 b_19 (o_20+4)) fun v_21=>(ptrV v_21 fun p_22=>(CF Tryz.prog 70 [(Value.pointer p_22),(Value.int .i64 x1),(Value.int .i64 x3)] h_18 fun u_23 h_24=>(intV u_23 .i64 fun i_25=>(K (Value.int .i64 i_25) h_24)))))))))))))))))))
def F33 (x0:OA) (x1 x2 x3:Int) (hp:HP) (K:Kh):Prop:=
  (CF Tryz.prog 38 [(Value.pointer x0)] hp fun u_1 h_2=>(boolV u_1 fun q_3=>(ite2 q_3 (K (Value.int .i64 2) h_2) (ite2 (decide ((x3:Int)<0)) (F33_j1 x0 x1 x2 x3 true h_2  K) (F33_j1 x0 x1 x2 x3 (decide ((x3:Int) > 4611686018427387904)) h_2  K)))))
theorem F33_ok (x0:OA) (x1 x2 x3:Int) (hp:HP) (K:Kh) (h:F33 x0 x1 x2 x3 hp K):CF Tryz.prog 33 [(Value.pointer x0),(Value.int .i64 x1),(Value.int .i64 x2),(Value.int .i64 x3)] hp K:=
  have L:∀ {Q} n,Snd Tryz.prog 47 (cAt Tryz.f33 (pth n)) Q (CW Tryz.prog 47 [] [] (cAt Tryz.f33 (pth n)) Q):=fun _=>Snd.leaf
  okF h Tryz.func33 (Snd.seq (L 2) (Snd.seq (Snd.block 0 (Snd.seq (L 17) (Snd.cond 11 (L 41) (Snd.jn [(0,.p),(1,.i .i64),(2,.i .i64),(3,.i .i64),(14,.b)] (fun a hp=>F33_j1 a.1 a.2.1 a.2.2.1 a.2.2.2.1 a.2.2.2.2.1 hp  K) (L 89) (L 121) (by rfl) (by kernel_rfl))))) (L 7))) (by kernel_rfl) (by kernel_rfl) (by kernel_rfl)
def F27 (x0:OA) (x1:Int) (hp:HP) (K:Kh):Prop:=
  (CF Tryz.prog 38 [(Value.pointer x0)] hp fun u_1 h_2=>(boolV u_1 fun q_3=>(ite2 q_3 (K (Value.slice none 0 0) h_2) (ptrN x0 fun b_4 o_5=>(ldV (HP.cell h_2 b_4 (o_5+5)) fun v_6=>(mapV v_6 fun m_7=>(rdS Tryz.prog (Instr.lookup 70 (Value.map m_7) (Value.int .i64 x1) false) h_2 fun u_8=>(mapV u_8 fun m_9=>(CF Tryz.prog 75 [(Value.map m_9)] h_2 fun u_10 h_11=>(CF Tryz.prog 40 [u_10] h_11 fun u_12 h_13=>(slcV u_12 fun a_14 n_15 c_16=>(CF Tryz.prog 39 [(Value.pointer x0),(Value.slice a_14 n_15 c_16)] h_13 fun u_17 h_18=>(slcV u_17 fun a_19 n_20 c_21=>(K (Value.slice a_19 n_20 c_21) h_18))))))))))))))
theorem F27_ok (x0:OA) (x1:Int) (hp:HP) (K:Kh) (h:F27 x0 x1 hp K):CF Tryz.prog 27 [(Value.pointer x0),(Value.int .i64 x1)] hp K:=
  have L:∀ {Q} n,Snd Tryz.prog 17 (cAt Tryz.f27 (pth n)) Q (CW Tryz.prog 17 [] [] (cAt Tryz.f27 (pth n)) Q):=fun _=>Snd.leaf
  okF h Tryz.func27 (L 1) (by kernel_rfl) (by kernel_rfl) (by kernel_rfl)
def F9 (x0:OA) (hp:HP) (K:Kh):Prop:=
  (CF Tryz.prog 38 [(Value.pointer x0)] hp fun u_1 h_2=>(boolV u_1 fun q_3=>(ite2 q_3 (K (Value.slice none 0 0) h_2) (ptrN x0 fun b_4 o_5=>(ldV (HP.cell h_2 b_4 (o_5+2)) fun v_6=>(mapV v_6 fun m_7=>(CF Tryz.prog 41 [(Value.map m_7)] h_2 fun u_8 h_9=>(CF Tryz.prog 40 [u_8] h_9 fun u_10 h_11=>(slcV u_10 fun a_12 n_13 c_14=>(CF Tryz.prog 39 [(Value.pointer x0),(Value.slice a_12 n_13 c_14)] h_11 fun u_15 h_16=>(slcV u_15 fun a_17 n_18 c_19=>(K (Value.slice a_17 n_18 c_19) h_16))))))))))))
theorem F9_ok (x0:OA) (hp:HP) (K:Kh) (h:F9 x0 hp K):CF Tryz.prog 9 [(Value.pointer x0)] hp K:=
  have L:∀ {Q} n,Snd Tryz.prog 13 (cAt Tryz.f9 (pth n)) Q (CW Tryz.prog 13 [] [] (cAt Tryz.f9 (pth n)) Q):=fun _=>Snd.leaf
  okF h Tryz.func9 (L 1) (by kernel_rfl) (by kernel_rfl) (by kernel_rfl)
end Go.Proofs
set_option linter.unusedVariables false
set_option linter.unusedSimpArgs false
set_option maxRecDepth 20000
namespace Go.Proofs
open Go Go.HL
open Go.Exp (Th tlt Ord setW dropW insW)
theorem fstS_filter (i:Int) (E:List (Ss × Nat)):(E.filter fun z=>decide (z.1.id≠i)).map (·.1)=(E.map (·.1)).filter fun z=>decide (z.id≠i):=by
  rw [List.filter_map]; rfl
theorem bi_filter (i:Int) (L:List Ss):(L.filter fun z=>decide (z.id≠i)).map bi=(L.map bi).filter fun p=>decide (p.2≠i):=by
  rw [List.filter_map]; rfl
section
variable {tb:Obj} {hq:HP} {s mx last:Nat} {L:List Ss} {E:List (Ss × Nat)} {ps:Nat→HP} {m x q f:Nat} {O:List (Int × Nat)} {w:List Th} {K:Value→HP→Prop}
theorem InvE.inK (h:InvE mx last L) {y:Ss} (hy:y∈L):getL (key4 y.bnd y.peer) (L.map fun b=>(b.key,b.id))=some y.id∧delL (key4 y.bnd y.peer) (L.map fun b=>(b.key,b.id))=(L.filter fun z=>decide (z.id≠y.id)).map fun b=>(b.key,b.id):=by
  constructor
  · have:=find_of (g:=Ss.key) h.keyNd hy
    rw [getL_mapK Ss.key Ss.id]
    show (L.find? fun x=>decide (x.key=y.key)).map Ss.id=_
    rw [this]; rfl
  · rw [delL_mapK Ss.key Ss.id _ h.keyNd]
    congr 1
    exact filter_congr_key (g:=Ss.key) (f:=Ss.id) h.keyNd h.ids hy
set_option maxHeartbeats 4000000 in
/-- Drop. -/
theorem W35 (h:SeW tb hq s mx last L w) {i:Int} (hno:findN i L=none→K (.tuple ⟨[.agg ⟨ssc ss0⟩,.int .i64 4]⟩) hq)
    (hyes:∀ y,findN i L=some y→∀ hq',SeW tb hq' s mx last (L.filter fun z=>decide (z.id≠i)) (dropW i w)→K (.tuple ⟨[.agg ⟨ssc y⟩,.int .i64 0]⟩) hq'):CF Tryz.prog 35 [ptr s 0,.int .i64 i] hq K:=by
  obtain ⟨E,ps,m,x,q,f,O,rfl,h⟩:=h
  refine F35_ok _ i hq K ?_
  unfold F35
  refine C38p h ?_
  obtain ⟨rt,r0,r1,r2,r3,r4,r5⟩:=h.rd
  simp only [boolV_bool,ite2_false,ptrN_some,Nat.zero_add,r2,ldV_some,mapV_map]
  refine rdS_lookup (l:=E.map fun e=>(e.1.id,e.2)) u154 enc3 zw158 h.mapq i (ev:=fun k:Nat=>ptr k 0) (cm:=true) ?_
  rw [h.get]
  cases hf:findN i (E.map (·.1)) with
  | none=>
    rw [findEs_none hf]
    simp only [if_true,Option.map_none,Option.getD_none,Option.isSome_none,tup2V_mk,ptrV_pointer,boolV_bool,Bool.not_false,ite2_true]
    exact ifI rfl (ifI rfl (ifI (Nat.le_refl 9) (hno hf)))
  | some b=>
    obtain ⟨e,he,rfl,hid,hfe⟩:=findEs_some hf
    rw [hfe]
    have hy:=hyes e.1 hf
    clear hyes hno
    obtain ⟨y,bk⟩:=e
    simp only at he hid hy hfe hf
    simp only [if_true,Option.map_some,Option.getD_some,Option.isSome_some,tup2V_mk,pq,boolV_bool,Bool.not_true,ite2_false,ptrN_some,Nat.zero_add,r2,ldV_some,mapV_map]
    have hinv:=h.inv
    have hmem:y∈E.map (·.1):=List.mem_map.2 ⟨(y,bk),he,rfl⟩
    obtain ⟨k1,k2,_,_⟩:=hinv.ok y hmem
    refine opS_delete u154 enc3 h.mapq i (ev:=fun k:Nat=>ptr k 0) fun ent hent=>?_
    rw [delL_mapK (fun z:Ss × Nat=>z.1.id) (fun z=>z.2) i h.ids] at hent
    have P1:=h.parts.put 0 (b:=m) h.main.map.ne ent
    have hm:SeM tb ((ps 0).set m ent) s mx last (E.filter fun z=>decide (z.1.id≠i)) m x q f:=
      ⟨by rw [HP.set_ne _ _ h.main.ms.symm]; exact h.main.tab,by rw [HP.set_eq]; exact hent,fun z hz=>by
        have hz:=(List.mem_filter.1 hz).1
        rw [HP.set_ne _ _ (h.main.bm hz)]; exact h.main.blk z hz,⟨by rw [HP.set_ne _ _ h.main.m0.symm]; exact h.main.dig.1,h.main.dig.2⟩⟩
    have hblk:((ps 0).set m ent) bk=.cells 58 (ssc y) 0:=by rw [HP.set_ne _ _ (h.main.bm he)]; exact h.main.blk _ he
    generalize hq.set m ent=hq1 at *
    generalize (ps 0).set m ent=A at *
    obtain ⟨t0,_,_,_,t3,t4',t5⟩:=hm.rd (P1.at 0 (pu_eq ..))
    have hb1:hq1 bk=.cells 58 (ssc y) 0:=(P1.at 0 (pu_eq ..)).cells hblk
    have b1:hq1.cell bk 1=some (.int .i64 y.bnd):=HP.cell_of hb1
    have b2:hq1.cellN bk 2 5=some (t4 y.peer):=by rw [HP.cellN_of hb1]; rfl
    obtain ⟨i4,d4⟩:=hinv.inK hmem
    have idx:IdxR (pu ps 0 A 1) x mx ((E.map (·.1)).map fun y=>(y.key,y.id)):=h.idx
    have biN:(((E.map (·.1)).map bi).map (·.2)).Nodup:=by
      have:=hinv.ids
      rw [List.map_map]
      exact this
    have hbm:(y.bnd,i)∈(E.map (·.1)).map bi:=List.mem_map.2 ⟨y,hmem,by rw [← hid]; rfl⟩
    obtain ⟨ik,hik⟩:∃ ik,getL y.bnd O=some ik:=by
      cases hg:getL y.bnd O with
      | some k=>exact ⟨k,rfl⟩
      | none=>exact absurd rfl (h.of.none hg _ hbm)
    have j1:∀ l hp',IdxR l x mx (delL (key4 y.bnd y.peer) ((E.map (·.1)).map fun y=>(y.key,y.id)))→Parts hp' (pu (pu ps 0 A) 1 l)→F35_j1 (some ⟨s,0,none⟩) i (some ⟨bk,0,none⟩) (ssc ss0) hp' K:=by
      intro l hp' hl P2
      obtain ⟨_,_,_,_,_,a4,_⟩:=hm.rd (P2.at 0 rfl)
      unfold F35_j1
      simp only [ptrN_some,Nat.zero_add,a4,ldV_some,pq]
      refine N79 P2 2 (q:=q) (w:=w) h.que (by rw [h.qok.len]; have:=hinv.len; have:=hinv.mx; omega) fun l3 hp3 hl3 P3=>?_
      rw [boolV_bool]
      obtain ⟨_,_,_,_,_,_,c5⟩:=hm.rd (P3.at 0 rfl)
      have hb3:hp3 bk=.cells 58 (ssc y) 0:=(P3.at 0 (l:=A) rfl).cells hblk
      have c1:hp3.cell bk 1=some (.int .i64 y.bnd):=HP.cell_of hb3
      rw [c5,ldV_some,mapV_map,c1,ldV_some,intV_int]
      refine lookV (h.of.map.sub (P3.at 3 rfl)) ?_
      rw [hik,mapV_map]
      obtain ⟨hin,hif⟩:=h.of.inner hik
      refine opS_delete u160 enc3 (hin.sub (P3.at 3 rfl)) i (ev:=vb) fun e1 he1=>?_
      have P4:=P3.put 3 (b:=ik) hin.ne e1
      obtain ⟨_,_,_,_,_,_,f5⟩:=hm.rd (P4.at 0 rfl)
      have hb4:(hp3.set ik e1) bk=.cells 58 (ssc y) 0:=(P4.at 0 (l:=A) rfl).cells hblk
      have f1:(hp3.set ik e1).cell bk 1=some (.int .i64 y.bnd):=HP.cell_of hb4
      rw [f5,ldV_some,mapV_map,f1,ldV_some,intV_int]
      have hof:MapE iw mv O (((pu (pu (pu ps 0 A) 1 l) 2 l3 3).set ik e1) f):=by rw [HP.set_ne _ _ hif.symm]; exact h.of.map
      refine lookV (hof.sub (P4.at 3 (pu_eq ..))) ?_
      rw [hik,mapV_map]
      have hin1:MapE iw vb (delL i (innB ((E.map (·.1)).map bi) y.bnd)) (((pu (pu (pu ps 0 A) 1 l) 2 l3 3).set ik e1) ik):=by rw [HP.set_eq]; exact he1
      refine rdS_mapLen u160 (hin1.sub (P4.at 3 (pu_eq ..))) ?_
      rw [intV_int]
      have fin:∀ (hp5:HP) (A3:HP) (O':List (Int × Nat)),Parts hp5 (pu (pu (pu (pu ps 0 A) 1 l) 2 l3) 3 A3)→OfO A3 f O' (((E.map (·.1)).map bi).filter fun p=>decide (p.2≠i))→F35_j2 (some ⟨bk,0,none⟩) (ssc ss0) hp5 K:=by
        intro hp5 A3 O' P5 hO'
        have hb5:hp5 bk=.cells 58 (ssc y) 0:=(P5.at 0 (l:=A) rfl).cells hblk
        unfold F35_j2
        rw [ptrN_some,HP.cellN_of hb5,ssc_cells,ldL_some,if_pos (ssc_len _),if_pos (ssc_one _),if_pos (by simp [ssc_len]),ss_spl (ssc_len _),ssc_cells,ldL_some]
        refine hy hp5 ⟨E.filter fun z=>decide (z.1.id≠i),_,m,x,q,f,O',(fstS_filter i E).symm,P5,hm,?_,?_,?_,?_,?_⟩
        · rw [fstS_filter]
          show IdxR l x mx _
          rw [hid] at d4
          rw [← d4]; exact hl
        · exact hl3
        · rw [fstS_filter,bi_filter]; exact hO'
        · rw [fstS_filter]; exact h.qok.cut
        · rw [fstS_filter]; exact hinv.filter _
      have hlz:(delL i (innB ((E.map (·.1)).map bi) y.bnd)).length=0↔¬ ∃ p∈((E.map (·.1)).map bi).filter (fun p=>decide (p.2≠i)),p.1=y.bnd:=by
        rw [inn_del biN]
        unfold innB
        rw [List.length_map,List.length_eq_zero_iff,List.filter_eq_nil_iff]
        constructor
        · rintro hh ⟨p,hp,e⟩
          exact hh p hp (decide_eq_true e)
        · intro hh p hp e
          exact hh ⟨p,hp,of_decide_eq_true e⟩
      by_cases hz:(delL i (innB ((E.map (·.1)).map bi) y.bnd)).length=0
      · rw [show ((((delL i (innB ((E.map (·.1)).map bi) y.bnd)).length:Nat):Int)==0)=true by rw [hz]; rfl,ite2_true]
        rw [ldV_some,mapV_map,ldV_some,intV_int]
        refine opS_delete u155 enc3 (hof.sub (P4.at 3 (pu_eq ..))) y.bnd (ev:=mv) fun e2 he2=>?_
        have P5:=P4.put 3 (b:=f) (by rw [pu_eq]; exact hof.ne) e2
        rw [pu_eq,pu_pu] at P5
        exact fin _ _ _ P5 (h.of.del_last biN hbm hik he1 he2 (hlz.1 hz))
      · rw [show ((((delL i (innB ((E.map (·.1)).map bi) y.bnd)).length:Nat):Int)==0)=false by rw [beq_eq_false_iff_ne]; omega,ite2_false]
        exact fin _ _ _ P4 (h.of.del_some biN hbm hik he1 (Classical.byContradiction fun hn=>hz (hlz.2 hn)))
    refine ⟨?_,?_⟩
    all_goals
      try simp only [ptrN_some,Nat.zero_add,t3,ldV_some,pq,b1,b2,ldL_some,intV_int]
      refine C69 t0 k1 k2.2 ?_
      simp only [strV_string,t3,ldV_some,pq]
      refine N78 P1 1 idx i4 hinv.mx fun l hp' hl P2=>?_
      rw [boolV_bool]
      exact j1 l hp' hl P2
/-- What Set answers. -/
def setE (i due:Int) (L:List Ss):Int:=if due<0∨due > 4611686018427387904 then 1 else if (findN i L).isNone then 4 else 0
theorem fstS_upd (i st d:Int) (E:List (Ss × Nat)):(E.map fun z=>(setE1 i st d z.1,z.2)).map (·.1)=updS i st d (E.map (·.1)):=by
  unfold updS
  rw [List.map_map,List.map_map]; rfl
set_option maxHeartbeats 1000000 in
/-- Set. -/
theorem W33 (h:SeW tb hq s mx last L w) {i st due:Int} (hno:setE i due L≠0→K (.int .i64 (setE i due L)) hq)
    (hyes:setE i due L=0→∀ hq',SeW tb hq' s mx last (updS i st due L) (setW i due w)→K (.int .i64 0) hq'):CF Tryz.prog 33 [ptr s 0,.int .i64 i,.int .i64 st,.int .i64 due] hq K:=by
  obtain ⟨E,ps,m,x,q,f,O,rfl,h⟩:=h
  refine F33_ok _ i st due hq K ?_
  unfold F33
  refine C38p h ?_
  rw [boolV_bool,ite2_false]
  have bad:(due<0∨due > 4611686018427387904)→F33_j1 (some ⟨s,0,none⟩) i st due true hq K:=fun hd=>by
    have e:setE i due (E.map (·.1))=1:=if_pos hd
    rw [e] at hno
    unfold F33_j1
    rw [ite2_true]
    exact hno (by decide)
  by_cases c1:due<0
  · rw [decide_eq_true c1,ite2_true]; exact bad (.inl c1)
  rw [decide_eq_false c1,ite2_false]
  by_cases c2:due > 4611686018427387904
  · rw [decide_eq_true c2]; exact bad (.inr c2)
  rw [decide_eq_false c2]
  have c12:¬ (due<0∨due > 4611686018427387904):=by omega
  obtain ⟨rt,r0,r1,r2,r3,r4,r5⟩:=h.rd
  unfold F33_j1
  simp only [ite2_false,ptrN_some,Nat.zero_add,r2,ldV_some,mapV_map]
  refine rdS_lookup (l:=E.map fun e=>(e.1.id,e.2)) u154 enc3 zw158 h.mapq i (ev:=fun k:Nat=>ptr k 0) (cm:=true) ?_
  rw [h.get]
  cases hf:findN i (E.map (·.1)) with
  | none=>
    rw [findEs_none hf]
    have e:setE i due (E.map (·.1))=4:=by unfold setE; rw [if_neg c12,hf]; rfl
    rw [e] at hno
    exact hno (by decide)
  | some b=>
    obtain ⟨e,he,rfl,hid,hfe⟩:=findEs_some hf
    rw [hfe]
    have e0:setE i due (E.map (·.1))=0:=by unfold setE; rw [if_neg c12,hf]; rfl
    have hy:=hyes e0
    clear hyes hno bad
    obtain ⟨y,bk⟩:=e
    simp only at he hid hy hfe hf
    have hinv:=h.inv
    have hmem:y∈E.map (·.1):=List.mem_map.2 ⟨(y,bk),he,rfl⟩
    simp only [if_true,Option.map_some,Option.getD_some,Option.isSome_some,tup2V_mk,pq,boolV_bool,Bool.not_true,ite2_false,ptrN_some,Nat.zero_add]
    refine HP.st_at ((h.parts.sub 0).cells (h.main.blk _ he)) (by simp [ssc_len]) ?_
    refine HP.st_at (HP.set_eq ..) (by simp [ssc_len]) ?_
    rw [HP.set_set]
    have hset:((ssc y).set 7 (.int .i64 st)).set 8 (.int .i64 due)=ssc (setE1 i st due y):=by
      unfold setE1
      rw [if_pos hid]; rfl
    rw [hset]
    have P1:=h.parts.put 0 (b:=bk) (by rw [h.main.blk _ he]; simp) (.cells 58 (ssc (setE1 i st due y)) 0)
    have hm:SeM tb ((ps 0).set bk (.cells 58 (ssc (setE1 i st due y)) 0)) s mx last (E.map fun z=>(setE1 i st due z.1,z.2)) m x q f:=by
      refine ⟨by rw [HP.set_ne _ _ (h.main.bs he).symm]; exact h.main.tab,?_,?_,⟨by rw [HP.set_ne _ _ (h.main.b0 he).symm]; exact h.main.dig.1,h.main.dig.2⟩⟩
      · rw [HP.set_ne _ _ (h.main.bm he).symm,List.map_map]
        have:(E.map ((fun e:Ss × Nat=>(e.1.id,e.2)) ∘ fun z=>(setE1 i st due z.1,z.2)))=E.map fun e=>(e.1.id,e.2):=List.map_congr_left fun z _=>by simp only [Function.comp,setE1_id]
        rw [this]; exact h.main.map
      · intro z hz
        obtain ⟨v,hv,rfl⟩:=List.mem_map.1 hz
        by_cases hve:v.1.id=i
        · have:v=(y,bk):=inj_of (g:=fun z:Ss × Nat=>z.1.id) h.ids hv he (by rw [hve,hid])
          rw [this]
          exact HP.set_eq ..
        · have hne:v.2≠bk:=fun e'=>hve (by
            have a:=h.main.blk v hv
            have b:=h.main.blk _ he
            simp only at b
            rw [e',b] at a
            simp only [Ent.cells.injEq,true_and,and_true] at a
            rw [← ssc_inj.1 a,hid])
          simp only
          rw [HP.set_ne _ _ hne]
          unfold setE1
          rw [if_neg hve]
          exact h.main.blk v hv
    obtain ⟨_,_,_,_,_,t4',_⟩:=hm.rd (P1.at 0 (pu_eq ..))
    rw [t4',ldV_some,pq]
    refine N70 P1 2 (q:=q) (w:=w) h.que (by rw [h.qok.len]; have:=hinv.len; have:=hinv.mx; omega) c12 fun l3 hp3 hl3 P3=>?_
    rw [intV_int]
    refine hy hp3 ⟨E.map fun z=>(setE1 i st due z.1,z.2),_,m,x,q,f,O,(fstS_upd i st due E).symm,P3,?_,?_,hl3,?_,?_,?_⟩
    · exact hm
    · rw [fstS_upd,updS_map _ i st due fun z=>by unfold Ss.key; rw [setE1_bnd,setE1_peer,setE1_id]]
      exact h.idx
    · rw [fstS_upd,updS_map bi i st due fun z=>by unfold bi; rw [setE1_bnd,setE1_id]]
      exact h.of
    · rw [fstS_upd]; exact QOk.upd h.qok hinv.ids hmem hid
    · rw [fstS_upd]; exact hinv.upd (by omega)
theorem N35 {hp:HP} {ps:Nat→HP} (hP:Parts hp ps) (k:Nat) (h:SeW tb (ps k) s mx last L w) {i:Int} {y:Ss} (hf:findN i L=some y)
    (hK:∀ l hp',SeW tb l s mx last (L.filter fun z=>decide (z.id≠i)) (dropW i w)→Parts hp' (pu ps k l)→K (.tuple ⟨[.agg ⟨ssc y⟩,.int .i64 0]⟩) hp'):CF Tryz.prog 35 [ptr s 0,.int .i64 i] hp K:=by
  refine CF.part hP k (W35 (K:=fun u l=>u=.tuple ⟨[.agg ⟨ssc y⟩,.int .i64 0]⟩∧SeW tb l s mx last (L.filter fun z=>decide (z.id≠i)) (dropW i w)) h (fun e=>by rw [hf] at e; cases e) fun z hz l hl=>?_) ?_
  · rw [hf] at hz; cases hz; exact ⟨rfl,hl⟩
  rintro u l hp' ⟨rfl,hl⟩ hP'
  exact hK l hp' hl hP'
set_option maxHeartbeats 2000000 in
/-- Pop: what is popped, and the table behind it, lie beside each other. -/
theorem W21 {now:Int} (h:SeW tb hq s mx last L w)
    (hK:∀ ps hp' a c w',Parts hp' ps→SeW tb (ps 0) s mx last (restL Ss.due now L) w'→Row (ps 1) a (popsL Ss.id now L w).length c 58 9 ((popsL Ss.id now L w).flatMap ssc)→(∀ i,2≤i→∀ b,ps i b=.none)→K (.slice a (popsL Ss.id now L w).length c) hp') :
    CF Tryz.prog 21 [ptr s 0,.int .i64 now] hq K:=by
  refine F21_ok _ now hq K ?_
  unfold F21
  have nn:∀ {hp:HP} {L:List Ss} {w:List Th} {X:Value→HP→Prop},SeW tb hp s mx last L w→X (.bool false) hp→CF Tryz.prog 38 [ptr s 0] hp X:=by
    intro hp L w X h hX
    obtain ⟨E,ps,m,x,q,f,O,rfl,h⟩:=h
    exact C38p h hX
  refine nn h ?_
  rw [boolV_bool,ite2_false]
  have nx:∀ {hp:HP} {L:List Ss} {w:List Th} {X:Value→HP→Prop},SeW tb hp s mx last L w→X (.tuple ⟨[.int .i64 ((w.head?.map (·.1)).getD 0),.int .i64 ((w.head?.map (·.2)).getD 0),.bool w.head?.isSome]⟩) hp →
      (ptrN (some ⟨s,0,none⟩) fun b_32 o_33=>(ldV (HP.cell hp b_32 (o_33+4)) fun v_34=>(ptrV v_34 fun p_35=>CF Tryz.prog 73 [(Value.pointer p_35)] hp X))):=by
    intro hp L w X h hX
    obtain ⟨E,ps,m,x,q,f,O,rfl,h⟩:=h
    obtain ⟨_,_,_,_,_,r4,_⟩:=h.rd
    simp only [ptrN_some,Nat.zero_add,r4,ldV_some,pq]
    exact C73 (h.que.sub (h.parts.sub 2)) hX
  refine nx h ?_
  simp only [tup3V_mk,intV_int,boolV_bool]
  unfold F21_j2
  refine LoopP.by (J:=fun k (st:Option Addr × Nat × Nat × Int × Int × Bool) hp=>∃ (ps:Nat→HP) (L':List Ss) (w':List Th) (out:List Ss),k=w'.length∧Parts hp ps∧SeW tb (ps 0) s mx last L' w'∧(∀ i,2≤i→∀ b,ps i b=.none) ∧
      st.2.1=out.length∧Row (ps 1) st.1 st.2.1 st.2.2.1 58 9 (out.flatMap ssc)∧st.2.2.2.1=(w'.head?.map (·.1)).getD 0∧st.2.2.2.2.1=(w'.head?.map (·.2)).getD 0∧st.2.2.2.2.2=w'.head?.isSome ∧
      out++popsL Ss.id now L' w'=popsL Ss.id now L w∧restL Ss.due now L'=restL Ss.due now L) ?_
    (n:=w.length) ⟨pu (fun _ _=>.none) 0 hq,L,w,[],rfl,Parts.one (HSub.refl hq),by rw [pu_eq]; exact h,(fun i hi b=>by rw [pu_ne _ _ (by omega)]),rfl,.inl ⟨rfl,rfl,rfl,rfl⟩,rfl,rfl,rfl,rfl,rfl⟩
  rintro I k ⟨a,n,c,id,due,ok⟩ hp ⟨ps,L',w',out,hk,hP,hS,hfree,hn,hrow,hid,hdue,hok,hout,hrest⟩ hI
  simp only at hn hrow hid hdue hok
  subst hn
  unfold F21_l3
  have hinv:=hS.inv
  have hq0:=hS.qok
  have stop:(∀ t,w'.head?=some t→¬ t.2≤now)→F21_j4 (some ⟨s,0,none⟩) now a out.length c id false hp I K:=by
    intro hst
    unfold F21_j4 F21_j1
    rw [ite2_false]
    obtain ⟨e1,e2⟩:=pops_stop hq0 hst
    rw [e1,List.append_nil] at hout
    rw [e2] at hrest
    subst hout
    exact hK ps hp a c w' hP (hrest▸hS) hrow hfree
  cases hw:w' with
  | nil=>
    rw [hw] at hok
    subst hok
    show ite2 false _ _
    rw [ite2_false]
    exact stop fun t ht=>by rw [hw] at ht; cases ht
  | cons t w2=>
    subst hw
    have hid':id=t.1:=hid
    have hdue':due=t.2:=hdue
    have hok':ok=true:=hok
    subst hid' hdue' hok'
    simp only [ite2_true]
    by_cases hle:t.2≤now
    · rw [decide_eq_true hle]
      unfold F21_j4
      rw [ite2_true]
      obtain ⟨y,hy,hy1,hy2,_⟩:=hq0.head
      obtain ⟨e1,e2⟩:=pops_step hinv.ids hq0 hle hy hy1
      refine N35 hP 0 hS (y:=y) (by rw [← hy1]; exact findN_of hinv hy) fun l hp1 hS1 P1=>?_
      rw [tup2V_mk,aggV_agg,intV_int,if_pos (ssc_len _),if_pos (ssc_one _),if_pos (by simp [ssc_len]),ss_spl rfl,ssc_cells,ldL_some]
      refine ifI (ssc_len y) ?_
      refine fun (b:Nat) (hb:hp1 b=Ent.none)=>?_
      rw [ss_spl rfl]
      have P2:Parts (hp1.set b (.cells 58 (ssc y) 0)) (pu ps 0 l):=P1.weak (HSub.set_fresh _ _ hb)
      have hlen:out.length+1≤65536:=by
        have h1:=congrArg List.length hout
        rw [e1] at h1
        simp only [List.length_append,List.length_cons] at h1
        have h2:(popsL Ss.id now L w).length≤w.length:=by
          unfold popsL
          exact Nat.le_trans (List.length_filterMap_le _ _) ((List.takeWhile_sublist _).length_le)
        have h3:=h.qok.len
        have h4:=h.inv.len
        have h5:=h.inv.mx
        omega
      refine opS_appP (e:=58) (size:=9) (bytes:=48) (by kernel_rfl) P2 1 (s:=a) (n:=out.length) (c:=c) (xs:=out.flatMap ssc) (by rw [pu_ne _ _ (by omega)]; exact hrow)
        (ys:=ssc y) (.inr ⟨b,0,rfl,by rw [HP.cellN_of (HP.set_eq ..)]; exact cellsN_all rfl⟩) (ssc_one y) (by simp [ssc]) (by omega) (by omega) ?_
      intro a2 c2 hp2 r hr P3
      rw [slcV_slice]
      have hS2:SeW tb ((pu (pu ps 0 l) 1 r) 0) s mx last (L'.filter fun z=>decide (Ss.id z≠t.1)) (dropW t.1 (t::w2)):=by
        rw [pu_ne _ _ (by omega),pu_eq]; exact hS1
      have hdw:dropW t.1 (t::w2)=w2:=hq0.tail
      rw [hdw] at hS2
      refine nx (hS2.sub (P3.sub 0)) ?_
      simp only [tup3V_mk,intV_int,boolV_bool]
      refine hI w2.length _ _ (by rw [hk]; simp) ⟨_,_,w2,out++[y],rfl,P3,hS2,fun i hi b=>?_,?_,?_,rfl,rfl,rfl,?_,?_⟩
      · rw [pu_ne _ _ (by omega),pu_ne _ _ (by omega)]; exact hfree i hi b
      · simp
      · rw [pu_eq]
        show Row r a2 (out.length+1) c2 58 9 ((out++[y]).flatMap ssc)
        rw [List.flatMap_append]
        simpa using hr
      · rw [← hout,e1,List.append_assoc]; rfl
      · rw [e2]; exact hrest
    · rw [decide_eq_false hle]
      exact stop fun t' ht'=>by cases ht'; exact hle
end
end Go.Proofs
set_option linter.unusedVariables false
set_option maxRecDepth 20000
namespace Go.Proofs
open Go Go.HL
def F39_j1 (x5a:OA) (x5n x5c:Nat) (hp:HP) (K:Kh):Prop:=
  (CF Tryz.prog 80 [(Value.slice x5a x5n x5c),(Value.func (.func 81) ⟨[]⟩ ⟨[]⟩)] hp fun u_1 h_2=>(K (Value.slice x5a x5n x5c) h_2))
def F39_l3 (x0 x8a:OA) (x8n x8c:Nat) (x9:Int) (K:Kh) (I3:((Option Addr) × Nat × Nat × Int)→HP→Prop) (x5a:Option Addr) (x5n:Nat) (x5c:Nat) (x10:Int) (hp:HP):Prop:=
  (ite2 (decide ((x10:Int)<x9)) ((0≤(x10:Int))∧((x10:Int)<(x8n:Nat))∧(ptrN x8a fun b_3 o_4=>(ldV (HP.cell hp b_3 (o_4+Int.toNat x10*1)) fun v_5=>(intV v_5 .i64 fun i_6=>(ptrN x0 fun b_7 o_8=>(ldV (HP.cell hp b_7 (o_8+2)) fun v_9=>(mapV v_9 fun m_10=>(rdS Tryz.prog (Instr.lookup 67 (Value.map m_10) (Value.int .i64 i_6) false) hp fun u_11=>(ptrV u_11 fun p_12=>(ptrN p_12 fun b_13 o_14=>(ldL (HP.cellN hp b_13 o_14 9) fun l_15=>(if List.length l_15=9 then (∀ b_16:Nat,hp b_16=.none→(opS Tryz.prog (Builtin.append_ #[36,36] 36 ⟨[(Value.slice x5a x5n x5c),(Value.slice (some ⟨b_16,0,none⟩) 1 1)]⟩) (HP.set hp b_16 (.cells 58 (splice [(Value.int .i64 0),(Value.int .i64 0),(Value.int .u8 0),(Value.int .u8 0),(Value.int .u8 0),(Value.int .u8 0),(Value.int .i64 0),(Value.int .i64 0),(Value.int .i64 0)] 0 l_15) 0)) fun u_17 h_18=>(slcV u_17 fun a_19 n_20 c_21=>(I3 (a_19,n_20,c_21,(IntKind.wrap .i64 (x10+1))) h_18)))) else False)))))))))))) (F39_j1 x5a x5n x5c hp  K))
def F39_j2 (x0 x5a:OA) (x5n x5c:Nat) (x8a:OA) (x8n x8c:Nat) (x9 x10:Int) (hp:HP) (K:Kh):Prop:=
  (LoopP (σ:=(Option Addr) × Nat × Nat × Int) (fun I s hp=>F39_l3 x0 x8a x8n x8c x9  K I s.1 s.2.1 s.2.2.1 s.2.2.2 hp) (x5a,x5n,x5c,x10) hp)
def F39 (x0 x1a:OA) (x1n x1c:Nat) (hp:HP) (K:Kh):Prop:=
  (F39_j2 x0 none 0 0 x1a x1n x1c (x1n:Nat) 0 hp  K)
theorem F39_ok (x0 x1a:OA) (x1n x1c:Nat) (hp:HP) (K:Kh) (h:F39 x0 x1a x1n x1c hp K):CF Tryz.prog 39 [(Value.pointer x0),(Value.slice x1a x1n x1c)] hp K:=
  have L:∀ {Q} n,Snd Tryz.prog 29 (cAt Tryz.f39 (pth n)) Q (CW Tryz.prog 29 [] [] (cAt Tryz.f39 (pth n)) Q):=fun _=>Snd.leaf
  okF h Tryz.func39 (Snd.seq (L 2) (Snd.seq (L 5) (Snd.jn [(5,.s)] (fun a hp=>F39_j1 a.1 a.2.1 a.2.2.1 hp  K) (Snd.jn [(0,.p),(5,.s),(8,.s),(9,.i .i64),(10,.i .i64)] (fun a hp=>F39_j2 a.1 a.2.1 a.2.2.1 a.2.2.2.1 a.2.2.2.2.1 a.2.2.2.2.2.1 a.2.2.2.2.2.2.1 a.2.2.2.2.2.2.2.1 a.2.2.2.2.2.2.2.2.1 hp  K) (L 19) (Snd.block 0 (Snd.lp (σ:=(Option Addr) × Nat × Nat × Int) [(0,.p),(5,.s),(8,.s),(9,.i .i64),(10,.i .i64)] (fun a=>(a.2.1,a.2.2.1,a.2.2.2.1,a.2.2.2.2.2.2.2.2.1)) (fun a s=>(a.1,s.1,s.2.1,s.2.2.1,a.2.2.2.2.1,a.2.2.2.2.2.1,a.2.2.2.2.2.2.1,a.2.2.2.2.2.2.2.1,s.2.2.2,())) (fun a I s hp=>F39_l3 a.1 a.2.2.2.2.1 a.2.2.2.2.2.1 a.2.2.2.2.2.2.1 a.2.2.2.2.2.2.2.1  K I s.1 s.2.1 s.2.2.1 s.2.2.2 hp) (fun I3=>(L 75)) (by rfl) (by kernel_rfl) (by kernel_rfl))) (by rfl) (by kernel_rfl)) (L 15) (by rfl) (by kernel_rfl)))) (by kernel_rfl) (by kernel_rfl) (by kernel_rfl)
def F81 (x0 x1:List Value) (hp:HP) (K:Kh):Prop:=
  (ldV (x0)[0]? fun v_1=>(intV v_1 .i64 fun i_2=>(ldV (x1)[0]? fun v_3=>(intV v_3 .i64 fun i_4=>(CF Tryz.prog 82 [(Value.int .i64 i_2),(Value.int .i64 i_4)] hp fun u_5 h_6=>(intV u_5 .i64 fun i_7=>(K (Value.int .i64 i_7) h_6)))))))
theorem F81_ok (x0 x1:List Value) (hp:HP) (K:Kh) (h:F81 x0 x1 hp K):CF Tryz.prog 81 [(Value.agg ⟨x0⟩),(Value.agg ⟨x1⟩)] hp K:=
  have L:∀ {Q} n,Snd Tryz.prog 10 (cAt Tryz.f81 (pth n)) Q (CW Tryz.prog 10 [2,3,5,7] [] (cAt Tryz.f81 (pth n)) Q):=fun _=>Snd.leaf
  okF h Tryz.func81 (L 1) (by kernel_rfl) (by kernel_rfl) (by kernel_rfl)
def F75 (x0:Option Nat) (hp:HP) (K:Kh):Prop:=
  (∀ b_1:Nat,hp b_1=.none→(K (Value.func (.func 125) ⟨[]⟩ ⟨[(Value.pointer (some ⟨b_1,0,none⟩))]⟩) (HP.set hp b_1 (.cells 139 [(Value.map x0)] 0))))
theorem F75_ok (x0:Option Nat) (hp:HP) (K:Kh) (h:F75 x0 hp K):CF Tryz.prog 75 [(Value.map x0)] hp K:=
  have L:∀ {Q} n,Snd Tryz.prog 4 (cAt Tryz.f75 (pth n)) Q (CW Tryz.prog 4 [] [] (cAt Tryz.f75 (pth n)) Q):=fun _=>Snd.leaf
  okF h Tryz.func75 (L 1) (by kernel_rfl) (by kernel_rfl) (by kernel_rfl)
def F41 (x0:Option Nat) (hp:HP) (K:Kh):Prop:=
  (∀ b_1:Nat,hp b_1=.none→(K (Value.func (.func 84) ⟨[]⟩ ⟨[(Value.pointer (some ⟨b_1,0,none⟩))]⟩) (HP.set hp b_1 (.cells 67 [(Value.map x0)] 0))))
theorem F41_ok (x0:Option Nat) (hp:HP) (K:Kh) (h:F41 x0 hp K):CF Tryz.prog 41 [(Value.map x0)] hp K:=
  have L:∀ {Q} n,Snd Tryz.prog 4 (cAt Tryz.f41 (pth n)) Q (CW Tryz.prog 4 [] [] (cAt Tryz.f41 (pth n)) Q):=fun _=>Snd.leaf
  okF h Tryz.func41 (L 1) (by kernel_rfl) (by kernel_rfl) (by kernel_rfl)
end Go.Proofs
set_option linter.unusedVariables false
set_option linter.unusedSimpArgs false
set_option maxRecDepth 20000
namespace Go.Proofs
open Go Go.HL Go.Shelf
def itRen:Ren where
  f:=fun | 8=>40 | 11=>83 | 7=>75 | 10=>125 | n=>n
  t:=fun | 0=>0 | 3=>4 | 4=>4 | 23=>139 | 24=>86 | 26=>3 | 27=>88 | 28=>89 | 33=>157 | n=>n
  g:=fun n=>n
def itRen2:Ren where
  f:=fun | 8=>40 | 11=>83 | 7=>41 | 10=>84 | n=>n
  t:=fun | 0=>0 | 3=>91 | 4=>4 | 23=>67 | 24=>86 | 26=>3 | 27=>88 | 28=>89 | 33=>157 | n=>n
  g:=fun n=>n
theorem it_zero {P:Program} {t:TypeId} {z:Value} (h:(P.info? t).bind (·.zero)=some z) (w:World):(zeroValue t).run P w=.ok z w:=itoa_zero h w
theorem it_size {P:Program} {t:TypeId} {n:Nat} (h:(P.info? t).map (·.size)=some n) (w:World):(Go.sizeOf t).run P w=.ok n w:=by
  cases hi:P.info? t with
  | none=>rw [hi] at h; cases h
  | some i=>
    rw [hi] at h
    have hz:i.size=n:=by simpa using h
    simp [Go.sizeOf,typeInfo,hi,hz]
theorem it8:SlLaysZI.n8 Tryz.prog itRen where
  mixed:=by kernel_rfl
  f8 := ⟨"slices.Collect[int]", by decide, by kernel_rfl⟩
  f11 := ⟨"slices.AppendSeq[[]int,int]", by decide, by kernel_rfl⟩
  t0:=by kernel_rfl
  a0:=run_isAgg_plain (t:=itRen.t 0) (d:=(TypeDesc.tuple #[])) (by kernel_rfl) rfl
  z0:=it_size (by kernel_rfl)
  v0:=it_zero (by kernel_rfl)
  t24:=by kernel_rfl
  a24:=run_isAgg_plain (t:=itRen.t 24) (d:=(TypeDesc.slice (itRen.t 26))) (by kernel_rfl) rfl
  z24:=it_size (by kernel_rfl)
  v24:=it_zero (by kernel_rfl)
  t26:=by kernel_rfl
  a26:=run_isAgg_plain (t:=itRen.t 26) (d:=(TypeDesc.int IntKind.i64)) (by kernel_rfl) rfl
  z26:=it_size (by kernel_rfl)
  v26:=it_zero (by kernel_rfl)
  t28:=by kernel_rfl
  a28:=run_isAgg_plain (t:=itRen.t 28) (d:=(TypeDesc.func #[itRen.t 33] #[] false)) (by kernel_rfl) rfl
  z28:=it_size (by kernel_rfl)
  v28:=it_zero (by kernel_rfl)
  i26:=by kernel_rfl
theorem it10:SlLaysZI.n10 Tryz.prog itRen where
  mixed:=by kernel_rfl
  f10 := ⟨"maps.Keys[map[int]bool,int,bool]$1", by decide, by kernel_rfl⟩
  t0:=by kernel_rfl
  a0:=run_isAgg_plain (t:=itRen.t 0) (d:=(TypeDesc.tuple #[])) (by kernel_rfl) rfl
  z0:=it_size (by kernel_rfl)
  v0:=it_zero (by kernel_rfl)
  t4:=by kernel_rfl
  a4:=run_isAgg_plain (t:=itRen.t 4) (d:=(TypeDesc.bool)) (by kernel_rfl) rfl
  z4:=it_size (by kernel_rfl)
  v4:=it_zero (by kernel_rfl)
  t23:=by kernel_rfl
  a23:=run_isAgg_plain (t:=itRen.t 23) (d:=(TypeDesc.map (itRen.t 26) (itRen.t 3))) (by kernel_rfl) rfl
  z23:=it_size (by kernel_rfl)
  v23:=it_zero (by kernel_rfl)
  t26:=by kernel_rfl
  a26:=run_isAgg_plain (t:=itRen.t 26) (d:=(TypeDesc.int IntKind.i64)) (by kernel_rfl) rfl
  z26:=it_size (by kernel_rfl)
  v26:=it_zero (by kernel_rfl)
  t33:=by kernel_rfl
  a33:=run_isAgg_plain (t:=itRen.t 33) (d:=(TypeDesc.func #[itRen.t 26] #[itRen.t 4] false)) (by kernel_rfl) rfl
  z33:=it_size (by kernel_rfl)
  v33:=it_zero (by kernel_rfl)
theorem it10b:SlLaysZI.n10 Tryz.prog itRen2 where
  mixed:=by kernel_rfl
  f10 := ⟨"maps.Keys[map[int]*interpreter/session.Session,int,*interpreter/session.Session]$1", by decide, by kernel_rfl⟩
  t0:=by kernel_rfl
  a0:=run_isAgg_plain (t:=itRen2.t 0) (d:=(TypeDesc.tuple #[])) (by kernel_rfl) rfl
  z0:=it_size (by kernel_rfl)
  v0:=it_zero (by kernel_rfl)
  t4:=by kernel_rfl
  a4:=run_isAgg_plain (t:=itRen2.t 4) (d:=(TypeDesc.bool)) (by kernel_rfl) rfl
  z4:=it_size (by kernel_rfl)
  v4:=it_zero (by kernel_rfl)
  t23:=by kernel_rfl
  a23:=run_isAgg_plain (t:=itRen2.t 23) (d:=(TypeDesc.map (itRen2.t 26) (itRen2.t 3))) (by kernel_rfl) rfl
  z23:=it_size (by kernel_rfl)
  v23:=it_zero (by kernel_rfl)
  t26:=by kernel_rfl
  a26:=run_isAgg_plain (t:=itRen2.t 26) (d:=(TypeDesc.int IntKind.i64)) (by kernel_rfl) rfl
  z26:=it_size (by kernel_rfl)
  v26:=it_zero (by kernel_rfl)
  t33:=by kernel_rfl
  a33:=run_isAgg_plain (t:=itRen2.t 33) (d:=(TypeDesc.func #[itRen2.t 26] #[itRen2.t 4] false)) (by kernel_rfl) rfl
  z33:=it_size (by kernel_rfl)
  v33:=it_zero (by kernel_rfl)
theorem fits_belowD {F:Nat→Prop} {w0 w w':World} {hp:HP} (h:Fits F w0 hp w) (b:RowKit.Below w.heap.size w w'):Fits F w0 hp w':=by
  refine ⟨fun k=>?_,fun k hk=>?_,b.os.trans h.os,b.tape.trans h.tape,b.output.trans h.output,Nat.le_trans h.size b.size⟩
  · have hk:=h.ent k
    by_cases hlt:k<w.heap.size
    · rw [b.block k hlt]; exact hk
    · have hn:w.heap[k]?=none:=by simp; omega
      rw [hn] at hk
      cases e:hp k with
      | none=>trivial
      | cells t cs sp=>rw [e] at hk; obtain ⟨_,_,hk⟩:=hk; cases hk
      | obj o=>rw [e] at hk; cases hk
  · obtain ⟨h1,h2,h3⟩:=h.fr k hk
    exact ⟨h1,Nat.lt_of_lt_of_le h2 b.size,(b.block k h2).trans h3⟩
theorem fits_row {F:Nat→Prop} {w0 w w':World} {hp:HP} (h:Fits F w0 hp w) (b:RowKit.Below w.heap.size w w') {g cap n:Nat} {e:TypeId} {cur:Array Value} {xs:List Value} (hg:w.heap.size≤g) (hw:w'.heap[g]?=some (.cells cur e (0,0)))
    (hle:n≤cap) (hsz:cur.size=cap) (ht:cur.toList.take n=xs):hp g=.none∧Fits F w0 (hp.set g (.cells e xs (cap-n))) w':=by
  have h1:=fits_belowD h b
  have hg0:hp g=.none:=by
    have hk:=h.ent g
    have hn:w.heap[g]?=none:=by simp; omega
    rw [hn] at hk
    cases e:hp g with
    | none=>rfl
    | cells t cs sp=>rw [e] at hk; obtain ⟨_,_,hk⟩:=hk; cases hk
    | obj o=>rw [e] at hk; cases hk
  refine ⟨hg0,fun k=>?_,fun k hk=>?_,h1.os,h1.tape,h1.output,h1.size⟩
  · by_cases hk:k=g
    · subst hk
      rw [HP.set_eq]
      refine ⟨cur.toList.drop n,by rw [List.length_drop,Array.length_toList,hsz],?_⟩
      rw [hw,← ht,List.take_append_drop]
    · rw [HP.set_ne _ _ hk]; exact h1.ent k
  · have hne:k≠g:=fun e=>by have:=(h.fr k hk).2.1; omega
    rw [HP.set_ne _ _ hne]
    exact h1.fr k hk
section
variable {ν:Type} {ev:ν→Value} {l:List (Int × ν)} {hp:HP} {K:Value→HP→Prop}
/-- What Collect leaves: nothing, or a new row. -/
def Coll (hp:HP) (ss:List Int) (K:Value→HP→Prop):Prop:=
  (ss=[]→K (.slice none 0 0) hp)∧(ss≠[]→∀ b c,hp b=.none→ss.length≤c→K (.slice (some ⟨b,0,none⟩) ss.length c) (hp.set b (.cells 3 (ss.map iw) (c-ss.length))))
theorem coll_of {F:Nat→Prop} {w0 w:World} (hf:Fits F w0 hp w) {g:Nat} {lb:Array Value} {S:List Int→Prop} {N:Nat} (hN:N≤1000000) (eg:∀ args w,(callFunc g args).run Tryz.prog w=.ok (.enter g args) w)
    (hseq:SeqGives Fence.wide 3 Tryz.prog g lb encZ S N w) (hS:∀ ss,S ss→Coll hp ss K) :
    Calls Tryz.prog 40 #[.func (.func g) #[] lb] w fun e w'=>∃ v hp',e=.returned v∧Fits F w0 hp' w'∧K v hp':=by
  refine (callsIn_wide.1 (AnyZI.collect_in it8 Fence.wide 5 trivial trivial rfl (by decide) g lb trivial eg S N (Nat.le_trans hN (by decide)) (by omega) w hseq)).mono ?_
  rintro e w' ⟨v,ss,rfl,hs,hrow,hnil,hb⟩
  obtain ⟨hxl,hrow⟩:=hrow
  obtain ⟨k1,k2⟩:=hS ss hs
  rcases hrow with ⟨rfl,hn⟩ | ⟨g',cap,cur,rfl,hg,hw,hle,_,hsz,ht⟩
  · exact ⟨_,hp,rfl,fits_belowD hf hb,k1 (hnil.1 rfl)⟩
  · have hne:ss≠[]:=fun e=>by have:=hnil.2 e; cases this
    rw [Nat.mul_one] at hsz ht
    obtain ⟨h1,h2⟩:=fits_row hf hb hg hw hle hsz ht
    exact ⟨_,_,rfl,h2,k2 hne g' cap h1 hle⟩
theorem owns_of {F:Nat→Prop} {w0 w:World} (hf:Fits F w0 hp w) {mb:Nat} (hM:MapE iw ev l (hp mb)) (hn:(l.map (·.1)).Nodup) (hz:∀ p∈l,okZ p.1) (hsz:l.length≤100000) :
    ∃ D:DataW Unit,w.ownsMap Tryz.prog 3 (fun _=>some (.nil,[])) mb l.length D∧(intKeys D).Perm (l.map (·.1))∧Maps.size D=l.length:=by
  obtain ⟨es,clock,he,hes,hb1,hb2⟩:=hM
  have hw:w.heap[mb]?=some (.map es clock):=by have:=hf.ent mb; rw [he] at this; exact this
  have hlen:es.size=l.length:=by have:=congrArg List.length hes; simpa using this
  have hkeys:es.toList.map (·.key)=l.map fun p=>iw p.1:=by
    have:=congrArg (List.map (·.1)) hes
    rw [List.map_map,List.map_map] at this
    exact this
  have hk3:Tryz.prog.underlying 3=some (.int .i64):=by kernel_rfl
  have rdx:∀ z∈es.toList,∃ p∈l,WideElems.rd (H:=Unit) Tryz.prog 3 (fun _=>some (.nil,[])) z=some (.int .i64 p.1,.nil)∧z.key=iw p.1:=by
    intro z hzm
    have h1:z.key∈l.map fun p=>iw p.1:=by rw [← hkeys]; exact List.mem_map.2 ⟨z,hzm,rfl⟩
    obtain ⟨p,hp,e⟩:=List.mem_map.1 h1
    refine ⟨p,hp,?_,e.symm⟩
    have hwf:(Lit.int .i64 p.1).wf=true:=by obtain ⟨q1,q2⟩:=hz p hp; exact Bool.and_eq_true_iff.2 ⟨decide_eq_true q1,decide_eq_true q2⟩
    have:=Maps.keyOf_int_mk hk3 hwf
    unfold WideElems.rd
    rw [← e]
    simp only [iw,this,Option.bind_some,Option.map_some]
  have hrg:es.toList.map (WideElems.rg (H:=Unit) Tryz.prog 3 (fun _=>some (.nil,[])))=l.map fun p=>(Lit.int .i64 p.1,DataW.nil):=by
    have h1:∀ (xs:List MapEntry) (ys:List (Int × ν)),(∀ z∈xs,z∈es.toList)→xs.map (·.key)=ys.map (fun p=>iw p.1)→xs.map (WideElems.rg (H:=Unit) Tryz.prog 3 (fun _=>some (.nil,[])))=ys.map fun p=>(Lit.int .i64 p.1,DataW.nil):=by
      intro xs
      induction xs with
      | nil=>intro ys _ e; cases ys with | nil=>rfl | cons y ys=>cases e
      | cons z xs ih=>
        intro ys hsub e
        cases ys with
        | nil=>cases e
        | cons y ys=>
          rw [List.map_cons,List.map_cons,List.cons.injEq] at e
          rw [List.map_cons,List.map_cons,ih ys (fun v hv=>hsub v (by simp [hv])) e.2]
          congr 1
          obtain ⟨p,_,e1,e2⟩:=rdx z (hsub z (by simp))
          rw [WideElems.rg_of e1]
          have:p.1=y.1:=by
            have:=e2.symm.trans e.1
            simpa [iw] using this
          rw [this]
    exact h1 _ _ (fun z hz=>hz) hkeys
  have hperm:=Go.WideShapes.sorted_perm (es.toList.map (WideElems.rg (H:=Unit) Tryz.prog 3 (fun _=>some (.nil,[]))))
  refine ⟨_,⟨es,clock,hw,⟨?_,⟨hb1,hb2,?_⟩,fun z hz=>?_⟩,Nat.le_of_eq hlen,rfl⟩,?_,?_⟩
  · rw [hlen]; exact Nat.le_trans hsz (by decide)
  · rw [hkeys]
    have:=hn
    unfold List.Nodup at this ⊢
    rw [List.pairwise_map] at this ⊢
    exact this.imp fun h e=>h (by simpa [iw] using e)
  · obtain ⟨p,_,e1,_⟩:=rdx z hz
    exact ⟨_,e1⟩
  · have h2:=hperm.map (fun p:Lit × DataW Unit=>intOf p.1)
    rw [hrg,List.map_map] at h2
    rw [hrg]
    exact h2
  · have h2:=hperm.length_eq
    rw [Maps.size_eq,h2,List.length_map,Array.length_toList,hlen]
theorem cell_box {F:Nat→Prop} {w0 w:World} (hf:Fits F w0 hp w) {B:Nat} {e:TypeId} {v:Value} (hB:hp B=.cells e [v] 0):B<w.heap.size∧w.cell? ⟨B,0,none⟩=some v:=by
  refine ⟨Ent.ok_lt (hB▸hf.ent B) (by simp),hf.cell (by rw [HP.cell_of hB]; rfl)⟩
theorem C40 {B mb:Nat} (hB:hp B=.cells 139 [.map (some mb)] 0) (hM:MapE iw ev l (hp mb)) (hn:(l.map (·.1)).Nodup) (hz:∀ p∈l,okZ p.1) (hsz:l.length≤100000)
    (hK:∀ ss:List Int,ss.Perm (l.map (·.1))→Coll hp ss K):CF Tryz.prog 40 [.func (.func 125) ⟨[]⟩ ⟨[ptr B 0]⟩] hp K:=by
  refine .inl ⟨by kernel_rfl,fun F w hf=>?_⟩
  obtain ⟨D,h1,h2,h3⟩:=owns_of hf hM hn hz hsz
  obtain ⟨b1,b2⟩:=cell_box hf hB
  exact coll_of hf (N:=Maps.size D) (by omega) (it10.f10.enters rfl) (AnyZI.keys_gives it10 Fence.wide 3 trivial rfl (by decide) B mb l.length D w b1 b2 h1) fun ss hs=>hK ss (hs.trans h2)
theorem C40n {B:Nat} (hB:hp B=.cells 139 [.map none] 0) (hK:K (.slice none 0 0) hp):CF Tryz.prog 40 [.func (.func 125) ⟨[]⟩ ⟨[ptr B 0]⟩] hp K:=by
  refine .inl ⟨by kernel_rfl,fun F w hf=>?_⟩
  obtain ⟨b1,b2⟩:=cell_box hf hB
  exact coll_of hf (N:=0) (by omega) (it10.f10.enters rfl) (AnyZI.keys_gives_nil it10 Fence.wide 3 trivial rfl B w b1 b2) fun ss hs=>⟨fun _=>hK,fun hne=>absurd hs hne⟩
theorem C40b {B mb:Nat} (hB:hp B=.cells 67 [.map (some mb)] 0) (hM:MapE iw ev l (hp mb)) (hn:(l.map (·.1)).Nodup) (hz:∀ p∈l,okZ p.1) (hsz:l.length≤100000)
    (hK:∀ ss:List Int,ss.Perm (l.map (·.1))→Coll hp ss K):CF Tryz.prog 40 [.func (.func 84) ⟨[]⟩ ⟨[ptr B 0]⟩] hp K:=by
  refine .inl ⟨by kernel_rfl,fun F w hf=>?_⟩
  obtain ⟨D,h1,h2,h3⟩:=owns_of hf hM hn hz hsz
  obtain ⟨b1,b2⟩:=cell_box hf hB
  exact coll_of hf (N:=Maps.size D) (by omega) (it10b.f10.enters rfl) (AnyZI.keys_gives it10b Fence.wide 3 trivial rfl (by decide) B mb l.length D w b1 b2 h1) fun ss hs=>hK ss (hs.trans h2)
end
end Go.Proofs
set_option linter.unusedVariables false
set_option maxRecDepth 20000
namespace Go.Proofs
open Go Go.HL
def F145_l3 (x0a:OA) (x0n x0c:Nat) (x3:Value) (x8 x9:Int) (K:Kh) (I3:(Int)→HP→Prop) (x12:Int) (hp:HP):Prop:=
  (ite2 (decide ((x12:Int)≥0)) ((0≤((IntKind.wrap .i64 (x8+x12)):Int))∧(((IntKind.wrap .i64 (x8+x12)):Int)<(x0n:Nat))∧(ptrN x0a fun b_1 o_2=>(ldL (HP.cellN hp b_1 (o_2+Int.toNat (IntKind.wrap .i64 (x8+x12))*9) 9) fun l_3=>((0≤(x8:Int))∧((x8:Int)<(x0n:Nat))∧(ptrN x0a fun b_4 o_5=>(ldL (HP.cellN hp b_4 (o_5+Int.toNat x8*9) 9) fun l_6=>((0≤(x8:Int))∧((x8:Int)<(x0n:Nat))∧(ptrN x0a fun b_7 o_8=>((List.length l_3=9)∧(HP.stN hp b_7 (o_8+Int.toNat x8*9) l_3 fun h_9=>((0≤((IntKind.wrap .i64 (x8+x12)):Int))∧(((IntKind.wrap .i64 (x8+x12)):Int)<(x0n:Nat))∧(ptrN x0a fun b_10 o_11=>((List.length l_6=9)∧(HP.stN h_9 b_10 (o_11+Int.toNat (IntKind.wrap .i64 (x8+x12))*9) l_6 fun h_12=>(CF Tryz.prog 165 [(Value.slice x0a x0n x0c),(Value.int .i64 x9),(Value.int .i64 x12),(Value.int .i64 x8),x3] h_12 fun u_13 h_14=>(I3 (IntKind.wrap .i64 (x12-1)) h_14)))))))))))))))) (K (.tuple ⟨[]⟩) hp))
def F145_j2 (x0a:OA) (x0n x0c:Nat) (x3:Value) (x8 x9 x12:Int) (hp:HP) (K:Kh):Prop:=
  (LoopP (σ:=Int) (fun I s hp=>F145_l3 x0a x0n x0c x3 x8 x9  K I s hp) x12 hp)
def F145_j1 (x0a:OA) (x0n x0c:Nat) (x3:Value) (x8 x9 x10:Int) (hp:HP) (K:Kh):Prop:=
  (F145_j2 x0a x0n x0c x3 x8 x9 (IntKind.wrap .i64 (x10-1)) hp  K)
def F145_l5 (x0a:OA) (x0n x0c:Nat) (x3:Value) (x8 x9 x10:Int) (K:Kh) (I5:(Int)→HP→Prop) (x11:Int) (hp:HP):Prop:=
  (ite2 (decide ((x11:Int)≥0)) (CF Tryz.prog 165 [(Value.slice x0a x0n x0c),(Value.int .i64 x11),(Value.int .i64 x10),(Value.int .i64 x8),x3] hp fun u_15 h_16=>(I5 (IntKind.wrap .i64 (x11-1)) h_16)) (F145_j1 x0a x0n x0c x3 x8 x9 x10 hp  K))
def F145_j4 (x0a:OA) (x0n x0c:Nat) (x3:Value) (x8 x9 x10 x11:Int) (hp:HP) (K:Kh):Prop:=
  (LoopP (σ:=Int) (fun I s hp=>F145_l5 x0a x0n x0c x3 x8 x9 x10  K I s hp) x11 hp)
def F145 (x0a:OA) (x0n x0c:Nat) (x1 x2:Int) (x3:Value) (hp:HP) (K:Kh):Prop:=
  (((2:Int)≠0)∧(F145_j4 x0a x0n x0c x3 x1 0 (IntKind.wrap .i64 (x2-x1)) (IntKind.wrap .i64 (Int.tdiv (IntKind.wrap .i64 ((IntKind.wrap .i64 (x2-x1))-1)) 2)) hp  K))
theorem F145_ok (x0a:OA) (x0n x0c:Nat) (x1 x2:Int) (x3:Value) (hp:HP) (K:Kh) (h:F145 x0a x0n x0c x1 x2 x3 hp K):CF Tryz.prog 145 [(Value.slice x0a x0n x0c),(Value.int .i64 x1),(Value.int .i64 x2),x3] hp K:=
  have L:∀ {Q} n,Snd Tryz.prog 60 (cAt Tryz.f145 (pth n)) Q (CW Tryz.prog 60 [] [] (cAt Tryz.f145 (pth n)) Q):=fun _=>Snd.leaf
  okF h Tryz.func145 (Snd.seq (L 2) (Snd.seq (L 5) (Snd.seq (L 11) (Snd.jn [(0,.s),(3,.w),(8,.i .i64),(9,.i .i64),(10,.i .i64)] (fun a hp=>F145_j1 a.1 a.2.1 a.2.2.1 a.2.2.2.1 a.2.2.2.2.1 a.2.2.2.2.2.1 a.2.2.2.2.2.2.1 hp  K) (Snd.jn [(0,.s),(3,.w),(8,.i .i64),(9,.i .i64),(10,.i .i64),(11,.i .i64)] (fun a hp=>F145_j4 a.1 a.2.1 a.2.2.1 a.2.2.2.1 a.2.2.2.2.1 a.2.2.2.2.2.1 a.2.2.2.2.2.2.1 a.2.2.2.2.2.2.2.1 hp  K) (L 39) (Snd.block 0 (Snd.lp (σ:=Int) [(0,.s),(3,.w),(8,.i .i64),(9,.i .i64),(10,.i .i64),(11,.i .i64)] (fun a=>a.2.2.2.2.2.2.2.1) (fun a s=>(a.1,a.2.1,a.2.2.1,a.2.2.2.1,a.2.2.2.2.1,a.2.2.2.2.2.1,a.2.2.2.2.2.2.1,s,())) (fun a I s hp=>F145_l5 a.1 a.2.1 a.2.2.1 a.2.2.2.1 a.2.2.2.2.1 a.2.2.2.2.2.1 a.2.2.2.2.2.2.1  K I s hp) (fun I5=>(L 151)) (by rfl) (by kernel_rfl) (by kernel_rfl))) (by rfl) (by kernel_rfl)) (Snd.jn [(0,.s),(3,.w),(8,.i .i64),(9,.i .i64),(12,.i .i64)] (fun a hp=>F145_j2 a.1 a.2.1 a.2.2.1 a.2.2.2.1 a.2.2.2.2.1 a.2.2.2.2.2.1 a.2.2.2.2.2.2.1 hp  K) (L 47) (Snd.block 2 (Snd.lp (σ:=Int) [(0,.s),(3,.w),(8,.i .i64),(9,.i .i64),(12,.i .i64)] (fun a=>a.2.2.2.2.2.2.1) (fun a s=>(a.1,a.2.1,a.2.2.1,a.2.2.2.1,a.2.2.2.2.1,a.2.2.2.2.2.1,s,())) (fun a I s hp=>F145_l3 a.1 a.2.1 a.2.2.1 a.2.2.2.1 a.2.2.2.2.1 a.2.2.2.2.2.1  K I s hp) (fun I3=>(L 159)) (by rfl) (by kernel_rfl) (by kernel_rfl))) (by rfl) (by kernel_rfl)) (by rfl) (by kernel_rfl))))) (by kernel_rfl) (by kernel_rfl) (by kernel_rfl)
def F148_l2 (x0a:OA) (x0n x0c:Nat) (K:Kh) (I2:(Int × Int)→HP→Prop) (x8 x9:Int) (hp:HP):Prop:=
  (ite2 (decide ((x8:Int)<x9)) ((0≤(x9:Int))∧((x9:Int)<(x0n:Nat))∧(ptrN x0a fun b_1 o_2=>(ldL (HP.cellN hp b_1 (o_2+Int.toNat x9*9) 9) fun l_3=>((0≤(x8:Int))∧((x8:Int)<(x0n:Nat))∧(ptrN x0a fun b_4 o_5=>(ldL (HP.cellN hp b_4 (o_5+Int.toNat x8*9) 9) fun l_6=>((0≤(x8:Int))∧((x8:Int)<(x0n:Nat))∧(ptrN x0a fun b_7 o_8=>((List.length l_3=9)∧(HP.stN hp b_7 (o_8+Int.toNat x8*9) l_3 fun h_9=>((0≤(x9:Int))∧((x9:Int)<(x0n:Nat))∧(ptrN x0a fun b_10 o_11=>((List.length l_6=9)∧(HP.stN h_9 b_10 (o_11+Int.toNat x9*9) l_6 fun h_12=>(I2 ((IntKind.wrap .i64 (x8+1)),(IntKind.wrap .i64 (x9-1))) h_12))))))))))))))) (K (.tuple ⟨[]⟩) hp))
def F148_j1 (x0a:OA) (x0n x0c:Nat) (x8 x9:Int) (hp:HP) (K:Kh):Prop:=
  (LoopP (σ:=Int × Int) (fun I s hp=>F148_l2 x0a x0n x0c  K I s.1 s.2 hp) (x8,x9) hp)
def F148 (x0a:OA) (x0n x0c:Nat) (x1 x2:Int) (x3:Value) (hp:HP) (K:Kh):Prop:=
  (F148_j1 x0a x0n x0c x1 (IntKind.wrap .i64 (x2-1)) hp  K)
theorem F148_ok (x0a:OA) (x0n x0c:Nat) (x1 x2:Int) (x3:Value) (hp:HP) (K:Kh) (h:F148 x0a x0n x0c x1 x2 x3 hp K):CF Tryz.prog 148 [(Value.slice x0a x0n x0c),(Value.int .i64 x1),(Value.int .i64 x2),x3] hp K:=
  have L:∀ {Q} n,Snd Tryz.prog 34 (cAt Tryz.f148 (pth n)) Q (CW Tryz.prog 34 [] [] (cAt Tryz.f148 (pth n)) Q):=fun _=>Snd.leaf
  okF h Tryz.func148 (Snd.seq (L 2) (Snd.jn [(0,.s),(8,.i .i64),(9,.i .i64)] (fun a hp=>F148_j1 a.1 a.2.1 a.2.2.1 a.2.2.2.1 a.2.2.2.2.1 hp  K) (L 5) (Snd.block 0 (Snd.lp (σ:=Int × Int) [(0,.s),(8,.i .i64),(9,.i .i64)] (fun a=>(a.2.2.2.1,a.2.2.2.2.1)) (fun a s=>(a.1,a.2.1,a.2.2.1,s.1,s.2,())) (fun a I s hp=>F148_l2 a.1 a.2.1 a.2.2.1  K I s.1 s.2 hp) (fun I2=>(L 19)) (by rfl) (by kernel_rfl) (by kernel_rfl))) (by rfl) (by kernel_rfl))) (by kernel_rfl) (by kernel_rfl) (by kernel_rfl)
def F149_j4 (x0a:OA) (x0n x0c:Nat) (x1 x2:Int) (x3:Value) (x9 x10:Int) (hp:HP) (I2:(Int × Int)→HP→Prop) (K:Kh):Prop:=
  (I2 (x9,(IntKind.wrap .i64 (x10+1))) hp)
def F149_l8 (x0a:OA) (x0n x0c:Nat) (x1 x2:Int) (x3:Value) (x9 x10:Int) (I2:(Int × Int)→HP→Prop) (K:Kh) (I8:(Int)→HP→Prop) (x12:Int) (hp:HP):Prop:=
  (ite2 (decide ((x12:Int)<x2)) ((0≤(x12:Int))∧((x12:Int)<(x0n:Nat))∧(ptrN x0a fun b_13 o_14=>(ldL (HP.cellN hp b_13 (o_14+Int.toNat x12*9) 9) fun l_15=>((0≤((IntKind.wrap .i64 (x12-1)):Int))∧(((IntKind.wrap .i64 (x12-1)):Int)<(x0n:Nat))∧(ptrN x0a fun b_16 o_17=>(ldL (HP.cellN hp b_16 (o_17+Int.toNat (IntKind.wrap .i64 (x12-1))*9) 9) fun l_18=>(fnV x3 fun f_19 ga_20 gb_21=>(CF Tryz.prog f_19 (ga_20++[(Value.agg ⟨l_15⟩),(Value.agg ⟨l_18⟩)]++gb_21) hp fun u_22 h_23=>(intV u_22 .i64 fun i_24=>(ite2 (!(decide ((i_24:Int)<0))) (F149_j4 x0a x0n x0c x1 x2 x3 x9 x10 h_23 I2 K) ((0≤((IntKind.wrap .i64 (x12-1)):Int))∧(((IntKind.wrap .i64 (x12-1)):Int)<(x0n:Nat))∧(ptrN x0a fun b_25 o_26=>(ldL (HP.cellN h_23 b_25 (o_26+Int.toNat (IntKind.wrap .i64 (x12-1))*9) 9) fun l_27=>((0≤(x12:Int))∧((x12:Int)<(x0n:Nat))∧(ptrN x0a fun b_28 o_29=>(ldL (HP.cellN h_23 b_28 (o_29+Int.toNat x12*9) 9) fun l_30=>((0≤(x12:Int))∧((x12:Int)<(x0n:Nat))∧(ptrN x0a fun b_31 o_32=>((List.length l_27=9)∧(HP.stN h_23 b_31 (o_32+Int.toNat x12*9) l_27 fun h_33=>((0≤((IntKind.wrap .i64 (x12-1)):Int))∧(((IntKind.wrap .i64 (x12-1)):Int)<(x0n:Nat))∧(ptrN x0a fun b_34 o_35=>((List.length l_30=9)∧(HP.stN h_33 b_34 (o_35+Int.toNat (IntKind.wrap .i64 (x12-1))*9) l_30 fun h_36=>(I8 (IntKind.wrap .i64 (x12+1)) h_36))))))))))))))))))))))))) (F149_j4 x0a x0n x0c x1 x2 x3 x9 x10 hp I2 K))
def F149_j7 (x0a:OA) (x0n x0c:Nat) (x1 x2:Int) (x3:Value) (x9 x10 x12:Int) (hp:HP) (I2:(Int × Int)→HP→Prop) (K:Kh):Prop:=
  (LoopP (σ:=Int) (fun I s hp=>F149_l8 x0a x0n x0c x1 x2 x3 x9 x10 I2 K I s hp) x12 hp)
def F149_j6 (x0a:OA) (x0n x0c:Nat) (x1 x2:Int) (x3:Value) (x9 x10:Int) (hp:HP) (I2:(Int × Int)→HP→Prop) (K:Kh):Prop:=
  (ite2 (decide (((IntKind.wrap .i64 (x2-x9)):Int)≥2)) (F149_j7 x0a x0n x0c x1 x2 x3 x9 x10 (IntKind.wrap .i64 (x9+1)) hp I2 K) (F149_j4 x0a x0n x0c x1 x2 x3 x9 x10 hp I2 K))
def F149_l10 (x0a:OA) (x0n x0c:Nat) (x1 x2:Int) (x3:Value) (x9 x10:Int) (I2:(Int × Int)→HP→Prop) (K:Kh) (I10:(Int)→HP→Prop) (x11:Int) (hp:HP):Prop:=
  (ite2 (decide ((x11:Int)≥1)) ((0≤(x11:Int))∧((x11:Int)<(x0n:Nat))∧(ptrN x0a fun b_37 o_38=>(ldL (HP.cellN hp b_37 (o_38+Int.toNat x11*9) 9) fun l_39=>((0≤((IntKind.wrap .i64 (x11-1)):Int))∧(((IntKind.wrap .i64 (x11-1)):Int)<(x0n:Nat))∧(ptrN x0a fun b_40 o_41=>(ldL (HP.cellN hp b_40 (o_41+Int.toNat (IntKind.wrap .i64 (x11-1))*9) 9) fun l_42=>(fnV x3 fun f_43 ga_44 gb_45=>(CF Tryz.prog f_43 (ga_44++[(Value.agg ⟨l_39⟩),(Value.agg ⟨l_42⟩)]++gb_45) hp fun u_46 h_47=>(intV u_46 .i64 fun i_48=>(ite2 (!(decide ((i_48:Int)<0))) (F149_j6 x0a x0n x0c x1 x2 x3 x9 x10 h_47 I2 K) ((0≤((IntKind.wrap .i64 (x11-1)):Int))∧(((IntKind.wrap .i64 (x11-1)):Int)<(x0n:Nat))∧(ptrN x0a fun b_49 o_50=>(ldL (HP.cellN h_47 b_49 (o_50+Int.toNat (IntKind.wrap .i64 (x11-1))*9) 9) fun l_51=>((0≤(x11:Int))∧((x11:Int)<(x0n:Nat))∧(ptrN x0a fun b_52 o_53=>(ldL (HP.cellN h_47 b_52 (o_53+Int.toNat x11*9) 9) fun l_54=>((0≤(x11:Int))∧((x11:Int)<(x0n:Nat))∧(ptrN x0a fun b_55 o_56=>((List.length l_51=9)∧(HP.stN h_47 b_55 (o_56+Int.toNat x11*9) l_51 fun h_57=>((0≤((IntKind.wrap .i64 (x11-1)):Int))∧(((IntKind.wrap .i64 (x11-1)):Int)<(x0n:Nat))∧(ptrN x0a fun b_58 o_59=>((List.length l_54=9)∧(HP.stN h_57 b_58 (o_59+Int.toNat (IntKind.wrap .i64 (x11-1))*9) l_54 fun h_60=>(I10 (IntKind.wrap .i64 (x11-1)) h_60))))))))))))))))))))))))) (F149_j6 x0a x0n x0c x1 x2 x3 x9 x10 hp I2 K))
def F149_j9 (x0a:OA) (x0n x0c:Nat) (x1 x2:Int) (x3:Value) (x9 x10 x11:Int) (hp:HP) (I2:(Int × Int)→HP→Prop) (K:Kh):Prop:=
  (LoopP (σ:=Int) (fun I s hp=>F149_l10 x0a x0n x0c x1 x2 x3 x9 x10 I2 K I s hp) x11 hp)
def F149_j5 (x0a:OA) (x0n x0c:Nat) (x1 x2:Int) (x3:Value) (x9 x10:Int) (hp:HP) (I2:(Int × Int)→HP→Prop) (K:Kh):Prop:=
  (ite2 ((x9:Int)==x2) (K (Value.bool true) hp) (ite2 (decide (((IntKind.wrap .i64 (x2-x1)):Int)<50)) (K (Value.bool false) hp) ((0≤((IntKind.wrap .i64 (x9-1)):Int))∧(((IntKind.wrap .i64 (x9-1)):Int)<(x0n:Nat))∧(ptrN x0a fun b_1 o_2=>(ldL (HP.cellN hp b_1 (o_2+Int.toNat (IntKind.wrap .i64 (x9-1))*9) 9) fun l_3=>((0≤(x9:Int))∧((x9:Int)<(x0n:Nat))∧(ptrN x0a fun b_4 o_5=>(ldL (HP.cellN hp b_4 (o_5+Int.toNat x9*9) 9) fun l_6=>((0≤(x9:Int))∧((x9:Int)<(x0n:Nat))∧(ptrN x0a fun b_7 o_8=>((List.length l_3=9)∧(HP.stN hp b_7 (o_8+Int.toNat x9*9) l_3 fun h_9=>((0≤((IntKind.wrap .i64 (x9-1)):Int))∧(((IntKind.wrap .i64 (x9-1)):Int)<(x0n:Nat))∧(ptrN x0a fun b_10 o_11=>((List.length l_6=9)∧(HP.stN h_9 b_10 (o_11+Int.toNat (IntKind.wrap .i64 (x9-1))*9) l_6 fun h_12=>(ite2 (decide (((IntKind.wrap .i64 (x9-x1)):Int)≥2)) (F149_j9 x0a x0n x0c x1 x2 x3 x9 x10 (IntKind.wrap .i64 (x9-1)) h_12 I2 K) (F149_j6 x0a x0n x0c x1 x2 x3 x9 x10 h_12 I2 K))))))))))))))))))
def F149_j12 (x0a:OA) (x0n x0c:Nat) (x1 x2:Int) (x3:Value) (x9 x10:Int) (x36:Bool) (hp:HP) (I2:(Int × Int)→HP→Prop) (I11:(Int)→HP→Prop) (K:Kh):Prop:=
  (ite2 x36 (I11 (IntKind.wrap .i64 (x9+1)) hp) (F149_j5 x0a x0n x0c x1 x2 x3 x9 x10 hp I2 K))
def F149_l11 (x0a:OA) (x0n x0c:Nat) (x1 x2:Int) (x3:Value) (x10:Int) (I2:(Int × Int)→HP→Prop) (K:Kh) (I11:(Int)→HP→Prop) (x9:Int) (hp:HP):Prop:=
  (ite2 (decide ((x9:Int)<x2)) ((0≤(x9:Int))∧((x9:Int)<(x0n:Nat))∧(ptrN x0a fun b_61 o_62=>(ldL (HP.cellN hp b_61 (o_62+Int.toNat x9*9) 9) fun l_63=>((0≤((IntKind.wrap .i64 (x9-1)):Int))∧(((IntKind.wrap .i64 (x9-1)):Int)<(x0n:Nat))∧(ptrN x0a fun b_64 o_65=>(ldL (HP.cellN hp b_64 (o_65+Int.toNat (IntKind.wrap .i64 (x9-1))*9) 9) fun l_66=>(fnV x3 fun f_67 ga_68 gb_69=>(CF Tryz.prog f_67 (ga_68++[(Value.agg ⟨l_63⟩),(Value.agg ⟨l_66⟩)]++gb_69) hp fun u_70 h_71=>(intV u_70 .i64 fun i_72=>(F149_j12 x0a x0n x0c x1 x2 x3 x9 x10 (!(decide ((i_72:Int)<0))) h_71 I2 I11 K)))))))))) (F149_j12 x0a x0n x0c x1 x2 x3 x9 x10 false hp I2 I11 K))
def F149_j3 (x0a:OA) (x0n x0c:Nat) (x1 x2:Int) (x3:Value) (x9 x10:Int) (hp:HP) (I2:(Int × Int)→HP→Prop) (K:Kh):Prop:=
  (LoopP (σ:=Int) (fun I s hp=>F149_l11 x0a x0n x0c x1 x2 x3 x10 I2 K I s hp) x9 hp)
def F149_l2 (x0a:OA) (x0n x0c:Nat) (x1 x2:Int) (x3:Value) (K:Kh) (I2:(Int × Int)→HP→Prop) (x9 x10:Int) (hp:HP):Prop:=
  (ite2 (decide ((x10:Int)<5)) (F149_j3 x0a x0n x0c x1 x2 x3 x9 x10 hp I2 K) (K (Value.bool false) hp))
def F149_j1 (x0a:OA) (x0n x0c:Nat) (x1 x2:Int) (x3:Value) (x9 x10:Int) (hp:HP) (K:Kh):Prop:=
  (LoopP (σ:=Int × Int) (fun I s hp=>F149_l2 x0a x0n x0c x1 x2 x3  K I s.1 s.2 hp) (x9,x10) hp)
def F149 (x0a:OA) (x0n x0c:Nat) (x1 x2:Int) (x3:Value) (hp:HP) (K:Kh):Prop:=
  (F149_j1 x0a x0n x0c x1 x2 x3 (IntKind.wrap .i64 (x1+1)) 0 hp  K)
theorem F149_ok (x0a:OA) (x0n x0c:Nat) (x1 x2:Int) (x3:Value) (hp:HP) (K:Kh) (h:F149 x0a x0n x0c x1 x2 x3 hp K):CF Tryz.prog 149 [(Value.slice x0a x0n x0c),(Value.int .i64 x1),(Value.int .i64 x2),x3] hp K:=
  have L:∀ {Q} n,Snd Tryz.prog 141 (cAt Tryz.f149 (pth n)) Q (CW Tryz.prog 141 [] [] (cAt Tryz.f149 (pth n)) Q):=fun _=>Snd.leaf
  okF h Tryz.func149 (Snd.seq (L 2) (Snd.seq (L 5) (Snd.seq (Snd.jn [(0,.s),(1,.i .i64),(2,.i .i64),(3,.w),(9,.i .i64),(10,.i .i64)] (fun a hp=>F149_j1 a.1 a.2.1 a.2.2.1 a.2.2.2.1 a.2.2.2.2.1 a.2.2.2.2.2.1 a.2.2.2.2.2.2.1 a.2.2.2.2.2.2.2.1 hp  K) (L 19) (Snd.block 0 (Snd.lp (σ:=Int × Int) [(0,.s),(1,.i .i64),(2,.i .i64),(3,.w),(9,.i .i64),(10,.i .i64)] (fun a=>(a.2.2.2.2.2.2.1,a.2.2.2.2.2.2.2.1)) (fun a s=>(a.1,a.2.1,a.2.2.1,a.2.2.2.1,a.2.2.2.2.1,a.2.2.2.2.2.1,s.1,s.2,())) (fun a I s hp=>F149_l2 a.1 a.2.1 a.2.2.1 a.2.2.2.1 a.2.2.2.2.1 a.2.2.2.2.2.1  K I s.1 s.2 hp) (fun I2=>(Snd.jn [(0,.s),(1,.i .i64),(2,.i .i64),(3,.w),(9,.i .i64),(10,.i .i64)] (fun a hp=>F149_j3 a.1 a.2.1 a.2.2.1 a.2.2.2.1 a.2.2.2.2.1 a.2.2.2.2.2.1 a.2.2.2.2.2.2.1 a.2.2.2.2.2.2.2.1 hp (fun s hp=>I2 (a.1,a.2.1,a.2.2.1,a.2.2.2.1,a.2.2.2.2.1,a.2.2.2.2.2.1,s.1,s.2,()) hp) K) (L 139) (Snd.jn [(0,.s),(1,.i .i64),(2,.i .i64),(3,.w),(9,.i .i64),(10,.i .i64)] (fun a hp=>F149_j4 a.1 a.2.1 a.2.2.1 a.2.2.2.1 a.2.2.2.2.1 a.2.2.2.2.2.1 a.2.2.2.2.2.2.1 a.2.2.2.2.2.2.2.1 hp (fun s hp=>I2 (a.1,a.2.1,a.2.2.1,a.2.2.2.1,a.2.2.2.2.1,a.2.2.2.2.2.1,s.1,s.2,()) hp) K) (Snd.block 1 (Snd.jn [(0,.s),(1,.i .i64),(2,.i .i64),(3,.w),(9,.i .i64),(10,.i .i64)] (fun a hp=>F149_j5 a.1 a.2.1 a.2.2.1 a.2.2.2.1 a.2.2.2.2.1 a.2.2.2.2.2.1 a.2.2.2.2.2.2.1 a.2.2.2.2.2.2.2.1 hp (fun s hp=>I2 (a.1,a.2.1,a.2.2.1,a.2.2.2.1,a.2.2.2.2.1,a.2.2.2.2.2.1,s.1,s.2,()) hp) K) (Snd.block 2 (Snd.lp (σ:=Int) [(0,.s),(1,.i .i64),(2,.i .i64),(3,.w),(9,.i .i64),(10,.i .i64)] (fun a=>a.2.2.2.2.2.2.1) (fun a s=>(a.1,a.2.1,a.2.2.1,a.2.2.2.1,a.2.2.2.2.1,a.2.2.2.2.2.1,s,a.2.2.2.2.2.2.2.1,())) (fun a I s hp=>F149_l11 a.1 a.2.1 a.2.2.1 a.2.2.2.1 a.2.2.2.2.1 a.2.2.2.2.2.1 a.2.2.2.2.2.2.2.1 (fun s hp=>I2 (a.1,a.2.1,a.2.2.1,a.2.2.2.1,a.2.2.2.2.1,a.2.2.2.2.2.1,s.1,s.2,()) hp) K I s hp) (fun I11=>(Snd.seq (Snd.jn [(0,.s),(1,.i .i64),(2,.i .i64),(3,.w),(9,.i .i64),(10,.i .i64),(36,.b)] (fun a hp=>F149_j12 a.1 a.2.1 a.2.2.1 a.2.2.2.1 a.2.2.2.2.1 a.2.2.2.2.2.1 a.2.2.2.2.2.2.1 a.2.2.2.2.2.2.2.1 a.2.2.2.2.2.2.2.2.1 hp (fun s hp=>I2 (a.1,a.2.1,a.2.2.1,a.2.2.2.1,a.2.2.2.2.1,a.2.2.2.2.2.1,s.1,s.2,()) hp) (fun s hp=>I11 (a.1,a.2.1,a.2.2.1,a.2.2.2.1,a.2.2.2.2.1,a.2.2.2.2.2.1,s,a.2.2.2.2.2.2.2.1,()) hp) K) (L 16459) (L 24651) (by rfl) (by kernel_rfl)) (L 12363))) (by rfl) (by kernel_rfl) (by kernel_rfl))) (Snd.seq (L 2635) (Snd.seq (L 5707) (Snd.seq (L 11851) (Snd.jn [(0,.s),(1,.i .i64),(2,.i .i64),(3,.w),(9,.i .i64),(10,.i .i64)] (fun a hp=>F149_j6 a.1 a.2.1 a.2.2.1 a.2.2.2.1 a.2.2.2.2.1 a.2.2.2.2.2.1 a.2.2.2.2.2.2.1 a.2.2.2.2.2.2.2.1 hp (fun s hp=>I2 (a.1,a.2.1,a.2.2.1,a.2.2.2.1,a.2.2.2.2.1,a.2.2.2.2.2.1,s.1,s.2,()) hp) K) (Snd.seq (L 40523) (Snd.cond 65 (Snd.jn [(0,.s),(1,.i .i64),(2,.i .i64),(3,.w),(9,.i .i64),(10,.i .i64),(11,.i .i64)] (fun a hp=>F149_j9 a.1 a.2.1 a.2.2.1 a.2.2.2.1 a.2.2.2.2.1 a.2.2.2.2.2.1 a.2.2.2.2.2.2.1 a.2.2.2.2.2.2.2.1 a.2.2.2.2.2.2.2.2.1 hp (fun s hp=>I2 (a.1,a.2.1,a.2.2.1,a.2.2.2.1,a.2.2.2.2.1,a.2.2.2.2.2.1,s.1,s.2,()) hp) K) (L 155211) (Snd.block 4 (Snd.lp (σ:=Int) [(0,.s),(1,.i .i64),(2,.i .i64),(3,.w),(9,.i .i64),(10,.i .i64),(11,.i .i64)] (fun a=>a.2.2.2.2.2.2.2.2.1) (fun a s=>(a.1,a.2.1,a.2.2.1,a.2.2.2.1,a.2.2.2.2.1,a.2.2.2.2.2.1,a.2.2.2.2.2.2.1,a.2.2.2.2.2.2.2.1,s,())) (fun a I s hp=>F149_l10 a.1 a.2.1 a.2.2.1 a.2.2.2.1 a.2.2.2.2.1 a.2.2.2.2.2.1 a.2.2.2.2.2.2.1 a.2.2.2.2.2.2.2.1 (fun s hp=>I2 (a.1,a.2.1,a.2.2.1,a.2.2.2.1,a.2.2.2.2.1,a.2.2.2.2.2.1,s.1,s.2,()) hp) K I s hp) (fun I10=>(L 613963)) (by rfl) (by kernel_rfl) (by kernel_rfl))) (by rfl) (by kernel_rfl)) (L 122443))) (Snd.seq (L 48715) (Snd.cond 104 (Snd.jn [(0,.s),(1,.i .i64),(2,.i .i64),(3,.w),(9,.i .i64),(10,.i .i64),(12,.i .i64)] (fun a hp=>F149_j7 a.1 a.2.1 a.2.2.1 a.2.2.2.1 a.2.2.2.2.1 a.2.2.2.2.2.1 a.2.2.2.2.2.2.1 a.2.2.2.2.2.2.2.1 a.2.2.2.2.2.2.2.2.1 hp (fun s hp=>I2 (a.1,a.2.1,a.2.2.1,a.2.2.2.1,a.2.2.2.2.1,a.2.2.2.2.2.1,s.1,s.2,()) hp) K) (L 163403) (Snd.block 6 (Snd.lp (σ:=Int) [(0,.s),(1,.i .i64),(2,.i .i64),(3,.w),(9,.i .i64),(10,.i .i64),(12,.i .i64)] (fun a=>a.2.2.2.2.2.2.2.2.1) (fun a s=>(a.1,a.2.1,a.2.2.1,a.2.2.2.1,a.2.2.2.2.1,a.2.2.2.2.2.1,a.2.2.2.2.2.2.1,a.2.2.2.2.2.2.2.1,s,())) (fun a I s hp=>F149_l8 a.1 a.2.1 a.2.2.1 a.2.2.2.1 a.2.2.2.2.1 a.2.2.2.2.2.1 a.2.2.2.2.2.2.1 a.2.2.2.2.2.2.2.1 (fun s hp=>I2 (a.1,a.2.1,a.2.2.1,a.2.2.2.1,a.2.2.2.2.1,a.2.2.2.2.2.1,s.1,s.2,()) hp) K I s hp) (fun I8=>(L 622155)) (by rfl) (by kernel_rfl) (by kernel_rfl))) (by rfl) (by kernel_rfl)) (L 130635))) (by rfl) (by kernel_rfl))))) (by rfl) (by kernel_rfl))) (L 459) (by rfl) (by kernel_rfl)) (by rfl) (by kernel_rfl))) (by rfl) (by kernel_rfl) (by kernel_rfl))) (by rfl) (by kernel_rfl)) (L 15)))) (by kernel_rfl) (by kernel_rfl) (by kernel_rfl)
def F150_j2 (x11:Int) (hp:HP) (K:Kh):Prop:=
  (K (Value.int .i64 x11) hp)
def F150_j5 (x0a:OA) (x0n x0c:Nat) (x1:Int) (x4:Value) (x11 x12:Int) (hp:HP) (I3:(Int × Int)→HP→Prop) (K:Kh):Prop:=
  (ite2 (decide ((x11:Int) > x12)) (F150_j2 x11 hp  K) ((0≤(x12:Int))∧((x12:Int)<(x0n:Nat))∧(ptrN x0a fun b_13 o_14=>(ldL (HP.cellN hp b_13 (o_14+Int.toNat x12*9) 9) fun l_15=>((0≤(x11:Int))∧((x11:Int)<(x0n:Nat))∧(ptrN x0a fun b_16 o_17=>(ldL (HP.cellN hp b_16 (o_17+Int.toNat x11*9) 9) fun l_18=>((0≤(x11:Int))∧((x11:Int)<(x0n:Nat))∧(ptrN x0a fun b_19 o_20=>((List.length l_15=9)∧(HP.stN hp b_19 (o_20+Int.toNat x11*9) l_15 fun h_21=>((0≤(x12:Int))∧((x12:Int)<(x0n:Nat))∧(ptrN x0a fun b_22 o_23=>((List.length l_18=9)∧(HP.stN h_21 b_22 (o_23+Int.toNat x12*9) l_18 fun h_24=>(I3 ((IntKind.wrap .i64 (x11+1)),(IntKind.wrap .i64 (x12-1))) h_24))))))))))))))))
def F150_j7 (x0a:OA) (x0n x0c:Nat) (x1:Int) (x4:Value) (x11 x12:Int) (x65:Bool) (hp:HP) (I3:(Int × Int)→HP→Prop) (I6:(Int)→HP→Prop) (K:Kh):Prop:=
  (ite2 x65 (I6 (IntKind.wrap .i64 (x12-1)) hp) (F150_j5 x0a x0n x0c x1 x4 x11 x12 hp I3 K))
def F150_l6 (x0a:OA) (x0n x0c:Nat) (x1:Int) (x4:Value) (x11:Int) (I3:(Int × Int)→HP→Prop) (K:Kh) (I6:(Int)→HP→Prop) (x12:Int) (hp:HP):Prop:=
  (ite2 (decide ((x11:Int)≤x12)) ((0≤(x1:Int))∧((x1:Int)<(x0n:Nat))∧(ptrN x0a fun b_25 o_26=>(ldL (HP.cellN hp b_25 (o_26+Int.toNat x1*9) 9) fun l_27=>((0≤(x12:Int))∧((x12:Int)<(x0n:Nat))∧(ptrN x0a fun b_28 o_29=>(ldL (HP.cellN hp b_28 (o_29+Int.toNat x12*9) 9) fun l_30=>(fnV x4 fun f_31 ga_32 gb_33=>(CF Tryz.prog f_31 (ga_32++[(Value.agg ⟨l_27⟩),(Value.agg ⟨l_30⟩)]++gb_33) hp fun u_34 h_35=>(intV u_34 .i64 fun i_36=>(F150_j7 x0a x0n x0c x1 x4 x11 x12 (decide ((i_36:Int)<0)) h_35 I3 I6 K)))))))))) (F150_j7 x0a x0n x0c x1 x4 x11 x12 false hp I3 I6 K))
def F150_j4 (x0a:OA) (x0n x0c:Nat) (x1:Int) (x4:Value) (x11 x12:Int) (hp:HP) (I3:(Int × Int)→HP→Prop) (K:Kh):Prop:=
  (LoopP (σ:=Int) (fun I s hp=>F150_l6 x0a x0n x0c x1 x4 x11 I3 K I s hp) x12 hp)
def F150_j9 (x0a:OA) (x0n x0c:Nat) (x1:Int) (x4:Value) (x11 x12:Int) (x47:Bool) (hp:HP) (I3:(Int × Int)→HP→Prop) (I8:(Int)→HP→Prop) (K:Kh):Prop:=
  (ite2 x47 (I8 (IntKind.wrap .i64 (x11+1)) hp) (F150_j4 x0a x0n x0c x1 x4 x11 x12 hp I3 K))
def F150_l8 (x0a:OA) (x0n x0c:Nat) (x1:Int) (x4:Value) (x12:Int) (I3:(Int × Int)→HP→Prop) (K:Kh) (I8:(Int)→HP→Prop) (x11:Int) (hp:HP):Prop:=
  (ite2 (decide ((x11:Int)≤x12)) ((0≤(x1:Int))∧((x1:Int)<(x0n:Nat))∧(ptrN x0a fun b_37 o_38=>(ldL (HP.cellN hp b_37 (o_38+Int.toNat x1*9) 9) fun l_39=>((0≤(x11:Int))∧((x11:Int)<(x0n:Nat))∧(ptrN x0a fun b_40 o_41=>(ldL (HP.cellN hp b_40 (o_41+Int.toNat x11*9) 9) fun l_42=>(fnV x4 fun f_43 ga_44 gb_45=>(CF Tryz.prog f_43 (ga_44++[(Value.agg ⟨l_39⟩),(Value.agg ⟨l_42⟩)]++gb_45) hp fun u_46 h_47=>(intV u_46 .i64 fun i_48=>(F150_j9 x0a x0n x0c x1 x4 x11 x12 (!(decide ((i_48:Int)<0))) h_47 I3 I8 K)))))))))) (F150_j9 x0a x0n x0c x1 x4 x11 x12 false hp I3 I8 K))
def F150_l3 (x0a:OA) (x0n x0c:Nat) (x1:Int) (x4:Value) (K:Kh) (I3:(Int × Int)→HP→Prop) (x11 x12:Int) (hp:HP):Prop:=
  (LoopP (σ:=Int) (fun I s hp=>F150_l8 x0a x0n x0c x1 x4 x12 I3 K I s hp) x11 hp)
def F150_j1 (x0a:OA) (x0n x0c:Nat) (x1:Int) (x4:Value) (x11 x12:Int) (hp:HP) (K:Kh):Prop:=
  (LoopP (σ:=Int × Int) (fun I s hp=>F150_l3 x0a x0n x0c x1 x4  K I s.1 s.2 hp) (x11,x12) hp)
def F150 (x0a:OA) (x0n x0c:Nat) (x1 x2 x3:Int) (x4:Value) (hp:HP) (K:Kh):Prop:=
  ((0≤(x3:Int))∧((x3:Int)<(x0n:Nat))∧(ptrN x0a fun b_1 o_2=>(ldL (HP.cellN hp b_1 (o_2+Int.toNat x3*9) 9) fun l_3=>((0≤(x1:Int))∧((x1:Int)<(x0n:Nat))∧(ptrN x0a fun b_4 o_5=>(ldL (HP.cellN hp b_4 (o_5+Int.toNat x1*9) 9) fun l_6=>((0≤(x1:Int))∧((x1:Int)<(x0n:Nat))∧(ptrN x0a fun b_7 o_8=>((List.length l_3=9)∧(HP.stN hp b_7 (o_8+Int.toNat x1*9) l_3 fun h_9=>((0≤(x3:Int))∧((x3:Int)<(x0n:Nat))∧(ptrN x0a fun b_10 o_11=>((List.length l_6=9)∧(HP.stN h_9 b_10 (o_11+Int.toNat x3*9) l_6 fun h_12=>(F150_j1 x0a x0n x0c x1 x4 (IntKind.wrap .i64 (x1+1)) (IntKind.wrap .i64 (x2-1)) h_12  K)))))))))))))))
theorem F150_ok (x0a:OA) (x0n x0c:Nat) (x1 x2 x3:Int) (x4:Value) (hp:HP) (K:Kh) (h:F150 x0a x0n x0c x1 x2 x3 x4 hp K):CF Tryz.prog 150 [(Value.slice x0a x0n x0c),(Value.int .i64 x1),(Value.int .i64 x2),(Value.int .i64 x3),x4] hp K:=
  have L:∀ {Q} n,Snd Tryz.prog 90 (cAt Tryz.f150 (pth n)) Q (CW Tryz.prog 90 [] [] (cAt Tryz.f150 (pth n)) Q):=fun _=>Snd.leaf
  okF h Tryz.func150 (Snd.seq (L 2) (Snd.seq (L 5) (Snd.jn [(0,.s),(1,.i .i64),(4,.w),(11,.i .i64),(12,.i .i64)] (fun a hp=>F150_j1 a.1 a.2.1 a.2.2.1 a.2.2.2.1 a.2.2.2.2.1 a.2.2.2.2.2.1 a.2.2.2.2.2.2.1 hp  K) (L 11) (Snd.jn [(11,.i .i64)] (fun a hp=>F150_j2 a.1 hp  K) (Snd.block 0 (Snd.lp (σ:=Int × Int) [(0,.s),(1,.i .i64),(4,.w),(11,.i .i64),(12,.i .i64)] (fun a=>(a.2.2.2.2.2.1,a.2.2.2.2.2.2.1)) (fun a s=>(a.1,a.2.1,a.2.2.1,a.2.2.2.1,a.2.2.2.2.1,s.1,s.2,())) (fun a I s hp=>F150_l3 a.1 a.2.1 a.2.2.1 a.2.2.2.1 a.2.2.2.2.1  K I s.1 s.2 hp) (fun I3=>(Snd.block 1 (Snd.jn [(0,.s),(1,.i .i64),(4,.w),(11,.i .i64),(12,.i .i64)] (fun a hp=>F150_j4 a.1 a.2.1 a.2.2.1 a.2.2.2.1 a.2.2.2.2.1 a.2.2.2.2.2.1 a.2.2.2.2.2.2.1 hp (fun s hp=>I3 (a.1,a.2.1,a.2.2.1,a.2.2.2.1,a.2.2.2.2.1,s.1,s.2,()) hp) K) (Snd.block 2 (Snd.lp (σ:=Int) [(0,.s),(1,.i .i64),(4,.w),(11,.i .i64),(12,.i .i64)] (fun a=>a.2.2.2.2.2.1) (fun a s=>(a.1,a.2.1,a.2.2.1,a.2.2.2.1,a.2.2.2.2.1,s,a.2.2.2.2.2.2.1,())) (fun a I s hp=>F150_l8 a.1 a.2.1 a.2.2.1 a.2.2.2.1 a.2.2.2.2.1 a.2.2.2.2.2.2.1 (fun s hp=>I3 (a.1,a.2.1,a.2.2.1,a.2.2.2.1,a.2.2.2.2.1,s.1,s.2,()) hp) K I s hp) (fun I8=>(Snd.seq (Snd.jn [(0,.s),(1,.i .i64),(4,.w),(11,.i .i64),(12,.i .i64),(47,.b)] (fun a hp=>F150_j9 a.1 a.2.1 a.2.2.1 a.2.2.2.1 a.2.2.2.2.1 a.2.2.2.2.2.1 a.2.2.2.2.2.2.1 a.2.2.2.2.2.2.2.1 hp (fun s hp=>I3 (a.1,a.2.1,a.2.2.1,a.2.2.2.1,a.2.2.2.2.1,s.1,s.2,()) hp) (fun s hp=>I8 (a.1,a.2.1,a.2.2.1,a.2.2.2.1,a.2.2.2.2.1,s,a.2.2.2.2.2.2.1,()) hp) K) (L 4103) (L 6151) (by rfl) (by kernel_rfl)) (L 3079))) (by rfl) (by kernel_rfl) (by kernel_rfl))) (Snd.jn [(0,.s),(1,.i .i64),(4,.w),(11,.i .i64),(12,.i .i64)] (fun a hp=>F150_j5 a.1 a.2.1 a.2.2.1 a.2.2.2.1 a.2.2.2.2.1 a.2.2.2.2.2.1 a.2.2.2.2.2.2.1 hp (fun s hp=>I3 (a.1,a.2.1,a.2.2.1,a.2.2.2.1,a.2.2.2.2.1,s.1,s.2,()) hp) K) (Snd.block 4 (Snd.lp (σ:=Int) [(0,.s),(1,.i .i64),(4,.w),(11,.i .i64),(12,.i .i64)] (fun a=>a.2.2.2.2.2.2.1) (fun a s=>(a.1,a.2.1,a.2.2.1,a.2.2.2.1,a.2.2.2.2.1,a.2.2.2.2.2.1,s,())) (fun a I s hp=>F150_l6 a.1 a.2.1 a.2.2.1 a.2.2.2.1 a.2.2.2.2.1 a.2.2.2.2.2.1 (fun s hp=>I3 (a.1,a.2.1,a.2.2.1,a.2.2.2.1,a.2.2.2.2.1,s.1,s.2,()) hp) K I s hp) (fun I6=>(Snd.seq (Snd.jn [(0,.s),(1,.i .i64),(4,.w),(11,.i .i64),(12,.i .i64),(65,.b)] (fun a hp=>F150_j7 a.1 a.2.1 a.2.2.1 a.2.2.2.1 a.2.2.2.2.1 a.2.2.2.2.2.1 a.2.2.2.2.2.2.1 a.2.2.2.2.2.2.2.1 hp (fun s hp=>I3 (a.1,a.2.1,a.2.2.1,a.2.2.2.1,a.2.2.2.2.1,s.1,s.2,()) hp) (fun s hp=>I6 (a.1,a.2.1,a.2.2.1,a.2.2.2.1,a.2.2.2.2.1,a.2.2.2.2.2.1,s,()) hp) K) (L 8327) (L 12423) (by rfl) (by kernel_rfl)) (L 6279))) (by rfl) (by kernel_rfl) (by kernel_rfl))) (L 903) (by rfl) (by kernel_rfl)) (by rfl) (by kernel_rfl)))) (by rfl) (by kernel_rfl) (by kernel_rfl))) (L 31) (by rfl) (by kernel_rfl)) (by rfl) (by kernel_rfl)))) (by kernel_rfl) (by kernel_rfl) (by kernel_rfl)
def F151_j5 (x0a:OA) (x0n x0c:Nat) (x1 x13:Int) (hp:HP) (K:Kh):Prop:=
  ((0≤(x1:Int))∧((x1:Int)<(x0n:Nat))∧(ptrN x0a fun b_37 o_38=>(ldL (HP.cellN hp b_37 (o_38+Int.toNat x1*9) 9) fun l_39=>((0≤(x13:Int))∧((x13:Int)<(x0n:Nat))∧(ptrN x0a fun b_40 o_41=>(ldL (HP.cellN hp b_40 (o_41+Int.toNat x13*9) 9) fun l_42=>((0≤(x13:Int))∧((x13:Int)<(x0n:Nat))∧(ptrN x0a fun b_43 o_44=>((List.length l_39=9)∧(HP.stN hp b_43 (o_44+Int.toNat x13*9) l_39 fun h_45=>((0≤(x1:Int))∧((x1:Int)<(x0n:Nat))∧(ptrN x0a fun b_46 o_47=>((List.length l_42=9)∧(HP.stN h_45 b_46 (o_47+Int.toNat x1*9) l_42 fun h_48=>(K (.tuple ⟨[(Value.int .i64 x13),(Value.bool false)]⟩) h_48)))))))))))))))
def F151_j8 (x0a:OA) (x0n x0c:Nat) (x1:Int) (x4:Value) (x12 x13:Int) (hp:HP) (I6:(Int × Int)→HP→Prop) (K:Kh):Prop:=
  (ite2 (decide ((x12:Int) > x13)) (F151_j5 x0a x0n x0c x1 x13 hp  K) ((0≤(x13:Int))∧((x13:Int)<(x0n:Nat))∧(ptrN x0a fun b_49 o_50=>(ldL (HP.cellN hp b_49 (o_50+Int.toNat x13*9) 9) fun l_51=>((0≤(x12:Int))∧((x12:Int)<(x0n:Nat))∧(ptrN x0a fun b_52 o_53=>(ldL (HP.cellN hp b_52 (o_53+Int.toNat x12*9) 9) fun l_54=>((0≤(x12:Int))∧((x12:Int)<(x0n:Nat))∧(ptrN x0a fun b_55 o_56=>((List.length l_51=9)∧(HP.stN hp b_55 (o_56+Int.toNat x12*9) l_51 fun h_57=>((0≤(x13:Int))∧((x13:Int)<(x0n:Nat))∧(ptrN x0a fun b_58 o_59=>((List.length l_54=9)∧(HP.stN h_57 b_58 (o_59+Int.toNat x13*9) l_54 fun h_60=>(I6 ((IntKind.wrap .i64 (x12+1)),(IntKind.wrap .i64 (x13-1))) h_60))))))))))))))))
def F151_j10 (x0a:OA) (x0n x0c:Nat) (x1:Int) (x4:Value) (x12 x13:Int) (x139:Bool) (hp:HP) (I6:(Int × Int)→HP→Prop) (I9:(Int)→HP→Prop) (K:Kh):Prop:=
  (ite2 x139 (I9 (IntKind.wrap .i64 (x13-1)) hp) (F151_j8 x0a x0n x0c x1 x4 x12 x13 hp I6 K))
def F151_l9 (x0a:OA) (x0n x0c:Nat) (x1:Int) (x4:Value) (x12:Int) (I6:(Int × Int)→HP→Prop) (K:Kh) (I9:(Int)→HP→Prop) (x13:Int) (hp:HP):Prop:=
  (ite2 (decide ((x12:Int)≤x13)) ((0≤(x13:Int))∧((x13:Int)<(x0n:Nat))∧(ptrN x0a fun b_61 o_62=>(ldL (HP.cellN hp b_61 (o_62+Int.toNat x13*9) 9) fun l_63=>((0≤(x1:Int))∧((x1:Int)<(x0n:Nat))∧(ptrN x0a fun b_64 o_65=>(ldL (HP.cellN hp b_64 (o_65+Int.toNat x1*9) 9) fun l_66=>(fnV x4 fun f_67 ga_68 gb_69=>(CF Tryz.prog f_67 (ga_68++[(Value.agg ⟨l_63⟩),(Value.agg ⟨l_66⟩)]++gb_69) hp fun u_70 h_71=>(intV u_70 .i64 fun i_72=>(F151_j10 x0a x0n x0c x1 x4 x12 x13 (!(decide ((i_72:Int)<0))) h_71 I6 I9 K)))))))))) (F151_j10 x0a x0n x0c x1 x4 x12 x13 false hp I6 I9 K))
def F151_j7 (x0a:OA) (x0n x0c:Nat) (x1:Int) (x4:Value) (x12 x13:Int) (hp:HP) (I6:(Int × Int)→HP→Prop) (K:Kh):Prop:=
  (LoopP (σ:=Int) (fun I s hp=>F151_l9 x0a x0n x0c x1 x4 x12 I6 K I s hp) x13 hp)
def F151_j12 (x0a:OA) (x0n x0c:Nat) (x1:Int) (x4:Value) (x12 x13:Int) (x120:Bool) (hp:HP) (I6:(Int × Int)→HP→Prop) (I11:(Int)→HP→Prop) (K:Kh):Prop:=
  (ite2 x120 (I11 (IntKind.wrap .i64 (x12+1)) hp) (F151_j7 x0a x0n x0c x1 x4 x12 x13 hp I6 K))
def F151_l11 (x0a:OA) (x0n x0c:Nat) (x1:Int) (x4:Value) (x13:Int) (I6:(Int × Int)→HP→Prop) (K:Kh) (I11:(Int)→HP→Prop) (x12:Int) (hp:HP):Prop:=
  (ite2 (decide ((x12:Int)≤x13)) ((0≤(x12:Int))∧((x12:Int)<(x0n:Nat))∧(ptrN x0a fun b_73 o_74=>(ldL (HP.cellN hp b_73 (o_74+Int.toNat x12*9) 9) fun l_75=>((0≤(x1:Int))∧((x1:Int)<(x0n:Nat))∧(ptrN x0a fun b_76 o_77=>(ldL (HP.cellN hp b_76 (o_77+Int.toNat x1*9) 9) fun l_78=>(fnV x4 fun f_79 ga_80 gb_81=>(CF Tryz.prog f_79 (ga_80++[(Value.agg ⟨l_75⟩),(Value.agg ⟨l_78⟩)]++gb_81) hp fun u_82 h_83=>(intV u_82 .i64 fun i_84=>(F151_j12 x0a x0n x0c x1 x4 x12 x13 (decide ((i_84:Int)<0)) h_83 I6 I11 K)))))))))) (F151_j12 x0a x0n x0c x1 x4 x12 x13 false hp I6 I11 K))
def F151_l6 (x0a:OA) (x0n x0c:Nat) (x1:Int) (x4:Value) (K:Kh) (I6:(Int × Int)→HP→Prop) (x12 x13:Int) (hp:HP):Prop:=
  (LoopP (σ:=Int) (fun I s hp=>F151_l11 x0a x0n x0c x1 x4 x13 I6 K I s hp) x12 hp)
def F151_j4 (x0a:OA) (x0n x0c:Nat) (x1:Int) (x4:Value) (x12 x13:Int) (hp:HP) (K:Kh):Prop:=
  (LoopP (σ:=Int × Int) (fun I s hp=>F151_l6 x0a x0n x0c x1 x4  K I s.1 s.2 hp) (x12,x13) hp)
def F151_j3 (x0a:OA) (x0n x0c:Nat) (x1:Int) (x4:Value) (x12 x13:Int) (hp:HP) (K:Kh):Prop:=
  (ite2 (decide ((x12:Int) > x13)) ((0≤(x1:Int))∧((x1:Int)<(x0n:Nat))∧(ptrN x0a fun b_13 o_14=>(ldL (HP.cellN hp b_13 (o_14+Int.toNat x1*9) 9) fun l_15=>((0≤(x13:Int))∧((x13:Int)<(x0n:Nat))∧(ptrN x0a fun b_16 o_17=>(ldL (HP.cellN hp b_16 (o_17+Int.toNat x13*9) 9) fun l_18=>((0≤(x13:Int))∧((x13:Int)<(x0n:Nat))∧(ptrN x0a fun b_19 o_20=>((List.length l_15=9)∧(HP.stN hp b_19 (o_20+Int.toNat x13*9) l_15 fun h_21=>((0≤(x1:Int))∧((x1:Int)<(x0n:Nat))∧(ptrN x0a fun b_22 o_23=>((List.length l_18=9)∧(HP.stN h_21 b_22 (o_23+Int.toNat x1*9) l_18 fun h_24=>(K (.tuple ⟨[(Value.int .i64 x13),(Value.bool true)]⟩) h_24))))))))))))))) ((0≤(x13:Int))∧((x13:Int)<(x0n:Nat))∧(ptrN x0a fun b_25 o_26=>(ldL (HP.cellN hp b_25 (o_26+Int.toNat x13*9) 9) fun l_27=>((0≤(x12:Int))∧((x12:Int)<(x0n:Nat))∧(ptrN x0a fun b_28 o_29=>(ldL (HP.cellN hp b_28 (o_29+Int.toNat x12*9) 9) fun l_30=>((0≤(x12:Int))∧((x12:Int)<(x0n:Nat))∧(ptrN x0a fun b_31 o_32=>((List.length l_27=9)∧(HP.stN hp b_31 (o_32+Int.toNat x12*9) l_27 fun h_33=>((0≤(x13:Int))∧((x13:Int)<(x0n:Nat))∧(ptrN x0a fun b_34 o_35=>((List.length l_30=9)∧(HP.stN h_33 b_34 (o_35+Int.toNat x13*9) l_30 fun h_36=>(F151_j4 x0a x0n x0c x1 x4 (IntKind.wrap .i64 (x12+1)) (IntKind.wrap .i64 (x13-1)) h_36  K))))))))))))))))
def F151_j14 (x0a:OA) (x0n x0c:Nat) (x1:Int) (x4:Value) (x12 x13:Int) (x66:Bool) (hp:HP) (I13:(Int)→HP→Prop) (K:Kh):Prop:=
  (ite2 x66 (I13 (IntKind.wrap .i64 (x13-1)) hp) (F151_j3 x0a x0n x0c x1 x4 x12 x13 hp  K))
def F151_l13 (x0a:OA) (x0n x0c:Nat) (x1:Int) (x4:Value) (x12:Int) (K:Kh) (I13:(Int)→HP→Prop) (x13:Int) (hp:HP):Prop:=
  (ite2 (decide ((x12:Int)≤x13)) ((0≤(x13:Int))∧((x13:Int)<(x0n:Nat))∧(ptrN x0a fun b_85 o_86=>(ldL (HP.cellN hp b_85 (o_86+Int.toNat x13*9) 9) fun l_87=>((0≤(x1:Int))∧((x1:Int)<(x0n:Nat))∧(ptrN x0a fun b_88 o_89=>(ldL (HP.cellN hp b_88 (o_89+Int.toNat x1*9) 9) fun l_90=>(fnV x4 fun f_91 ga_92 gb_93=>(CF Tryz.prog f_91 (ga_92++[(Value.agg ⟨l_87⟩),(Value.agg ⟨l_90⟩)]++gb_93) hp fun u_94 h_95=>(intV u_94 .i64 fun i_96=>(F151_j14 x0a x0n x0c x1 x4 x12 x13 (!(decide ((i_96:Int)<0))) h_95 I13 K)))))))))) (F151_j14 x0a x0n x0c x1 x4 x12 x13 false hp I13 K))
def F151_j2 (x0a:OA) (x0n x0c:Nat) (x1:Int) (x4:Value) (x12 x13:Int) (hp:HP) (K:Kh):Prop:=
  (LoopP (σ:=Int) (fun I s hp=>F151_l13 x0a x0n x0c x1 x4 x12  K I s hp) x13 hp)
def F151_j16 (x0a:OA) (x0n x0c:Nat) (x1:Int) (x4:Value) (x12 x13:Int) (x47:Bool) (hp:HP) (I15:(Int)→HP→Prop) (K:Kh):Prop:=
  (ite2 x47 (I15 (IntKind.wrap .i64 (x12+1)) hp) (F151_j2 x0a x0n x0c x1 x4 x12 x13 hp  K))
def F151_l15 (x0a:OA) (x0n x0c:Nat) (x1:Int) (x4:Value) (x13:Int) (K:Kh) (I15:(Int)→HP→Prop) (x12:Int) (hp:HP):Prop:=
  (ite2 (decide ((x12:Int)≤x13)) ((0≤(x12:Int))∧((x12:Int)<(x0n:Nat))∧(ptrN x0a fun b_97 o_98=>(ldL (HP.cellN hp b_97 (o_98+Int.toNat x12*9) 9) fun l_99=>((0≤(x1:Int))∧((x1:Int)<(x0n:Nat))∧(ptrN x0a fun b_100 o_101=>(ldL (HP.cellN hp b_100 (o_101+Int.toNat x1*9) 9) fun l_102=>(fnV x4 fun f_103 ga_104 gb_105=>(CF Tryz.prog f_103 (ga_104++[(Value.agg ⟨l_99⟩),(Value.agg ⟨l_102⟩)]++gb_105) hp fun u_106 h_107=>(intV u_106 .i64 fun i_108=>(F151_j16 x0a x0n x0c x1 x4 x12 x13 (decide ((i_108:Int)<0)) h_107 I15 K)))))))))) (F151_j16 x0a x0n x0c x1 x4 x12 x13 false hp I15 K))
def F151_j1 (x0a:OA) (x0n x0c:Nat) (x1:Int) (x4:Value) (x12 x13:Int) (hp:HP) (K:Kh):Prop:=
  (LoopP (σ:=Int) (fun I s hp=>F151_l15 x0a x0n x0c x1 x4 x13  K I s hp) x12 hp)
def F151 (x0a:OA) (x0n x0c:Nat) (x1 x2 x3:Int) (x4:Value) (hp:HP) (K:Kh):Prop:=
  ((0≤(x3:Int))∧((x3:Int)<(x0n:Nat))∧(ptrN x0a fun b_1 o_2=>(ldL (HP.cellN hp b_1 (o_2+Int.toNat x3*9) 9) fun l_3=>((0≤(x1:Int))∧((x1:Int)<(x0n:Nat))∧(ptrN x0a fun b_4 o_5=>(ldL (HP.cellN hp b_4 (o_5+Int.toNat x1*9) 9) fun l_6=>((0≤(x1:Int))∧((x1:Int)<(x0n:Nat))∧(ptrN x0a fun b_7 o_8=>((List.length l_3=9)∧(HP.stN hp b_7 (o_8+Int.toNat x1*9) l_3 fun h_9=>((0≤(x3:Int))∧((x3:Int)<(x0n:Nat))∧(ptrN x0a fun b_10 o_11=>((List.length l_6=9)∧(HP.stN h_9 b_10 (o_11+Int.toNat x3*9) l_6 fun h_12=>(F151_j1 x0a x0n x0c x1 x4 (IntKind.wrap .i64 (x1+1)) (IntKind.wrap .i64 (x2-1)) h_12  K)))))))))))))))
theorem F151_ok (x0a:OA) (x0n x0c:Nat) (x1 x2 x3:Int) (x4:Value) (hp:HP) (K:Kh) (h:F151 x0a x0n x0c x1 x2 x3 x4 hp K):CF Tryz.prog 151 [(Value.slice x0a x0n x0c),(Value.int .i64 x1),(Value.int .i64 x2),(Value.int .i64 x3),x4] hp K:=
  have L:∀ {Q} n,Snd Tryz.prog 178 (cAt Tryz.f151 (pth n)) Q (CW Tryz.prog 178 [] [] (cAt Tryz.f151 (pth n)) Q):=fun _=>Snd.leaf
  okF h Tryz.func151 (Snd.seq (L 2) (Snd.seq (L 5) (Snd.jn [(0,.s),(1,.i .i64),(4,.w),(12,.i .i64),(13,.i .i64)] (fun a hp=>F151_j1 a.1 a.2.1 a.2.2.1 a.2.2.2.1 a.2.2.2.2.1 a.2.2.2.2.2.1 a.2.2.2.2.2.2.1 hp  K) (L 11) (Snd.jn [(0,.s),(1,.i .i64),(4,.w),(12,.i .i64),(13,.i .i64)] (fun a hp=>F151_j2 a.1 a.2.1 a.2.2.1 a.2.2.2.1 a.2.2.2.2.1 a.2.2.2.2.2.1 a.2.2.2.2.2.2.1 hp  K) (Snd.block 0 (Snd.lp (σ:=Int) [(0,.s),(1,.i .i64),(4,.w),(12,.i .i64),(13,.i .i64)] (fun a=>a.2.2.2.2.2.1) (fun a s=>(a.1,a.2.1,a.2.2.1,a.2.2.2.1,a.2.2.2.2.1,s,a.2.2.2.2.2.2.1,())) (fun a I s hp=>F151_l15 a.1 a.2.1 a.2.2.1 a.2.2.2.1 a.2.2.2.2.1 a.2.2.2.2.2.2.1  K I s hp) (fun I15=>(Snd.seq (Snd.jn [(0,.s),(1,.i .i64),(4,.w),(12,.i .i64),(13,.i .i64),(47,.b)] (fun a hp=>F151_j16 a.1 a.2.1 a.2.2.1 a.2.2.2.1 a.2.2.2.2.1 a.2.2.2.2.2.1 a.2.2.2.2.2.2.1 a.2.2.2.2.2.2.2.1 hp (fun s hp=>I15 (a.1,a.2.1,a.2.2.1,a.2.2.2.1,a.2.2.2.2.1,s,a.2.2.2.2.2.2.1,()) hp) K) (L 263) (L 391) (by rfl) (by kernel_rfl)) (L 199))) (by rfl) (by kernel_rfl) (by kernel_rfl))) (Snd.jn [(0,.s),(1,.i .i64),(4,.w),(12,.i .i64),(13,.i .i64)] (fun a hp=>F151_j3 a.1 a.2.1 a.2.2.1 a.2.2.2.1 a.2.2.2.2.1 a.2.2.2.2.2.1 a.2.2.2.2.2.2.1 hp  K) (Snd.block 2 (Snd.lp (σ:=Int) [(0,.s),(1,.i .i64),(4,.w),(12,.i .i64),(13,.i .i64)] (fun a=>a.2.2.2.2.2.2.1) (fun a s=>(a.1,a.2.1,a.2.2.1,a.2.2.2.1,a.2.2.2.2.1,a.2.2.2.2.2.1,s,())) (fun a I s hp=>F151_l13 a.1 a.2.1 a.2.2.1 a.2.2.2.1 a.2.2.2.2.1 a.2.2.2.2.2.1  K I s hp) (fun I13=>(Snd.seq (Snd.jn [(0,.s),(1,.i .i64),(4,.w),(12,.i .i64),(13,.i .i64),(66,.b)] (fun a hp=>F151_j14 a.1 a.2.1 a.2.2.1 a.2.2.2.1 a.2.2.2.2.1 a.2.2.2.2.2.1 a.2.2.2.2.2.2.1 a.2.2.2.2.2.2.2.1 hp (fun s hp=>I13 (a.1,a.2.1,a.2.2.1,a.2.2.2.1,a.2.2.2.2.1,a.2.2.2.2.2.1,s,()) hp) K) (L 527) (L 783) (by rfl) (by kernel_rfl)) (L 399))) (by rfl) (by kernel_rfl) (by kernel_rfl))) (Snd.seq (L 95) (Snd.seq (L 191) (Snd.seq (L 383) (Snd.jn [(0,.s),(1,.i .i64),(4,.w),(12,.i .i64),(13,.i .i64)] (fun a hp=>F151_j4 a.1 a.2.1 a.2.2.1 a.2.2.2.1 a.2.2.2.2.1 a.2.2.2.2.2.1 a.2.2.2.2.2.2.1 hp  K) (L 767) (Snd.jn [(0,.s),(1,.i .i64),(13,.i .i64)] (fun a hp=>F151_j5 a.1 a.2.1 a.2.2.1 a.2.2.2.1 a.2.2.2.2.1 hp  K) (Snd.block 4 (Snd.lp (σ:=Int × Int) [(0,.s),(1,.i .i64),(4,.w),(12,.i .i64),(13,.i .i64)] (fun a=>(a.2.2.2.2.2.1,a.2.2.2.2.2.2.1)) (fun a s=>(a.1,a.2.1,a.2.2.1,a.2.2.2.1,a.2.2.2.2.1,s.1,s.2,())) (fun a I s hp=>F151_l6 a.1 a.2.1 a.2.2.1 a.2.2.2.1 a.2.2.2.2.1  K I s.1 s.2 hp) (fun I6=>(Snd.block 5 (Snd.jn [(0,.s),(1,.i .i64),(4,.w),(12,.i .i64),(13,.i .i64)] (fun a hp=>F151_j7 a.1 a.2.1 a.2.2.1 a.2.2.2.1 a.2.2.2.2.1 a.2.2.2.2.2.1 a.2.2.2.2.2.2.1 hp (fun s hp=>I6 (a.1,a.2.1,a.2.2.1,a.2.2.2.1,a.2.2.2.2.1,s.1,s.2,()) hp) K) (Snd.block 6 (Snd.lp (σ:=Int) [(0,.s),(1,.i .i64),(4,.w),(12,.i .i64),(13,.i .i64)] (fun a=>a.2.2.2.2.2.1) (fun a s=>(a.1,a.2.1,a.2.2.1,a.2.2.2.1,a.2.2.2.2.1,s,a.2.2.2.2.2.2.1,())) (fun a I s hp=>F151_l11 a.1 a.2.1 a.2.2.1 a.2.2.2.1 a.2.2.2.2.1 a.2.2.2.2.2.2.1 (fun s hp=>I6 (a.1,a.2.1,a.2.2.1,a.2.2.2.1,a.2.2.2.2.1,s.1,s.2,()) hp) K I s hp) (fun I11=>(Snd.seq (Snd.jn [(0,.s),(1,.i .i64),(4,.w),(12,.i .i64),(13,.i .i64),(120,.b)] (fun a hp=>F151_j12 a.1 a.2.1 a.2.2.1 a.2.2.2.1 a.2.2.2.2.1 a.2.2.2.2.2.1 a.2.2.2.2.2.2.1 a.2.2.2.2.2.2.2.1 hp (fun s hp=>I6 (a.1,a.2.1,a.2.2.1,a.2.2.2.1,a.2.2.2.2.1,s.1,s.2,()) hp) (fun s hp=>I11 (a.1,a.2.1,a.2.2.1,a.2.2.2.1,a.2.2.2.2.1,s,a.2.2.2.2.2.2.1,()) hp) K) (L 262655) (L 393727) (by rfl) (by kernel_rfl)) (L 197119))) (by rfl) (by kernel_rfl) (by kernel_rfl))) (Snd.jn [(0,.s),(1,.i .i64),(4,.w),(12,.i .i64),(13,.i .i64)] (fun a hp=>F151_j8 a.1 a.2.1 a.2.2.1 a.2.2.2.1 a.2.2.2.2.1 a.2.2.2.2.2.1 a.2.2.2.2.2.2.1 hp (fun s hp=>I6 (a.1,a.2.1,a.2.2.1,a.2.2.2.1,a.2.2.2.2.1,s.1,s.2,()) hp) K) (Snd.block 8 (Snd.lp (σ:=Int) [(0,.s),(1,.i .i64),(4,.w),(12,.i .i64),(13,.i .i64)] (fun a=>a.2.2.2.2.2.2.1) (fun a s=>(a.1,a.2.1,a.2.2.1,a.2.2.2.1,a.2.2.2.2.1,a.2.2.2.2.2.1,s,())) (fun a I s hp=>F151_l9 a.1 a.2.1 a.2.2.1 a.2.2.2.1 a.2.2.2.2.1 a.2.2.2.2.2.1 (fun s hp=>I6 (a.1,a.2.1,a.2.2.1,a.2.2.2.1,a.2.2.2.2.1,s.1,s.2,()) hp) K I s hp) (fun I9=>(Snd.seq (Snd.jn [(0,.s),(1,.i .i64),(4,.w),(12,.i .i64),(13,.i .i64),(139,.b)] (fun a hp=>F151_j10 a.1 a.2.1 a.2.2.1 a.2.2.2.1 a.2.2.2.2.1 a.2.2.2.2.2.1 a.2.2.2.2.2.2.1 a.2.2.2.2.2.2.2.1 hp (fun s hp=>I6 (a.1,a.2.1,a.2.2.1,a.2.2.2.1,a.2.2.2.2.1,s.1,s.2,()) hp) (fun s hp=>I9 (a.1,a.2.1,a.2.2.1,a.2.2.2.1,a.2.2.2.2.1,a.2.2.2.2.2.1,s,()) hp) K) (L 532991) (L 795135) (by rfl) (by kernel_rfl)) (L 401919))) (by rfl) (by kernel_rfl) (by kernel_rfl))) (L 57855) (by rfl) (by kernel_rfl)) (by rfl) (by kernel_rfl)))) (by rfl) (by kernel_rfl) (by kernel_rfl))) (L 2047) (by rfl) (by kernel_rfl)) (by rfl) (by kernel_rfl))))) (by rfl) (by kernel_rfl)) (by rfl) (by kernel_rfl)) (by rfl) (by kernel_rfl)))) (by kernel_rfl) (by kernel_rfl) (by kernel_rfl)
def F165_j3 (x0a:OA) (x0n x0c:Nat) (x2 x3:Int) (x4:Value) (x10 x11:Int) (hp:HP) (I2:(Int)→HP→Prop) (K:Kh):Prop:=
  ((0≤((IntKind.wrap .i64 (x3+x10)):Int))∧(((IntKind.wrap .i64 (x3+x10)):Int)<(x0n:Nat))∧(ptrN x0a fun b_1 o_2=>(ldL (HP.cellN hp b_1 (o_2+Int.toNat (IntKind.wrap .i64 (x3+x10))*9) 9) fun l_3=>((0≤((IntKind.wrap .i64 (x3+x11)):Int))∧(((IntKind.wrap .i64 (x3+x11)):Int)<(x0n:Nat))∧(ptrN x0a fun b_4 o_5=>(ldL (HP.cellN hp b_4 (o_5+Int.toNat (IntKind.wrap .i64 (x3+x11))*9) 9) fun l_6=>(fnV x4 fun f_7 ga_8 gb_9=>(CF Tryz.prog f_7 (ga_8++[(Value.agg ⟨l_3⟩),(Value.agg ⟨l_6⟩)]++gb_9) hp fun u_10 h_11=>(intV u_10 .i64 fun i_12=>(ite2 (!(decide ((i_12:Int)<0))) (K (.tuple ⟨[]⟩) h_11) ((0≤((IntKind.wrap .i64 (x3+x11)):Int))∧(((IntKind.wrap .i64 (x3+x11)):Int)<(x0n:Nat))∧(ptrN x0a fun b_13 o_14=>(ldL (HP.cellN h_11 b_13 (o_14+Int.toNat (IntKind.wrap .i64 (x3+x11))*9) 9) fun l_15=>((0≤((IntKind.wrap .i64 (x3+x10)):Int))∧(((IntKind.wrap .i64 (x3+x10)):Int)<(x0n:Nat))∧(ptrN x0a fun b_16 o_17=>(ldL (HP.cellN h_11 b_16 (o_17+Int.toNat (IntKind.wrap .i64 (x3+x10))*9) 9) fun l_18=>((0≤((IntKind.wrap .i64 (x3+x10)):Int))∧(((IntKind.wrap .i64 (x3+x10)):Int)<(x0n:Nat))∧(ptrN x0a fun b_19 o_20=>((List.length l_15=9)∧(HP.stN h_11 b_19 (o_20+Int.toNat (IntKind.wrap .i64 (x3+x10))*9) l_15 fun h_21=>((0≤((IntKind.wrap .i64 (x3+x11)):Int))∧(((IntKind.wrap .i64 (x3+x11)):Int)<(x0n:Nat))∧(ptrN x0a fun b_22 o_23=>((List.length l_18=9)∧(HP.stN h_21 b_22 (o_23+Int.toNat (IntKind.wrap .i64 (x3+x11))*9) l_18 fun h_24=>(I2 x11 h_24)))))))))))))))))))))))))
def F165_j4 (x0a:OA) (x0n x0c:Nat) (x2 x3:Int) (x4:Value) (x10 x11:Int) (x40:Bool) (hp:HP) (I2:(Int)→HP→Prop) (K:Kh):Prop:=
  (ite2 x40 (F165_j3 x0a x0n x0c x2 x3 x4 x10 (IntKind.wrap .i64 (x11+1)) hp I2 K) (F165_j3 x0a x0n x0c x2 x3 x4 x10 x11 hp I2 K))
def F165_l2 (x0a:OA) (x0n x0c:Nat) (x2 x3:Int) (x4:Value) (K:Kh) (I2:(Int)→HP→Prop) (x10:Int) (hp:HP):Prop:=
  (ite2 (decide (((IntKind.wrap .i64 ((IntKind.wrap .i64 (2*x10))+1)):Int)≥x2)) (K (.tuple ⟨[]⟩) hp) (ite2 (decide (((IntKind.wrap .i64 ((IntKind.wrap .i64 ((IntKind.wrap .i64 (2*x10))+1))+1)):Int)<x2)) ((0≤((IntKind.wrap .i64 (x3+(IntKind.wrap .i64 ((IntKind.wrap .i64 (2*x10))+1)))):Int))∧(((IntKind.wrap .i64 (x3+(IntKind.wrap .i64 ((IntKind.wrap .i64 (2*x10))+1)))):Int)<(x0n:Nat))∧(ptrN x0a fun b_25 o_26=>(ldL (HP.cellN hp b_25 (o_26+Int.toNat (IntKind.wrap .i64 (x3+(IntKind.wrap .i64 ((IntKind.wrap .i64 (2*x10))+1))))*9) 9) fun l_27=>((0≤((IntKind.wrap .i64 ((IntKind.wrap .i64 (x3+(IntKind.wrap .i64 ((IntKind.wrap .i64 (2*x10))+1))))+1)):Int))∧(((IntKind.wrap .i64 ((IntKind.wrap .i64 (x3+(IntKind.wrap .i64 ((IntKind.wrap .i64 (2*x10))+1))))+1)):Int)<(x0n:Nat))∧(ptrN x0a fun b_28 o_29=>(ldL (HP.cellN hp b_28 (o_29+Int.toNat (IntKind.wrap .i64 ((IntKind.wrap .i64 (x3+(IntKind.wrap .i64 ((IntKind.wrap .i64 (2*x10))+1))))+1))*9) 9) fun l_30=>(fnV x4 fun f_31 ga_32 gb_33=>(CF Tryz.prog f_31 (ga_32++[(Value.agg ⟨l_27⟩),(Value.agg ⟨l_30⟩)]++gb_33) hp fun u_34 h_35=>(intV u_34 .i64 fun i_36=>(F165_j4 x0a x0n x0c x2 x3 x4 x10 (IntKind.wrap .i64 ((IntKind.wrap .i64 (2*x10))+1)) (decide ((i_36:Int)<0)) h_35 I2 K)))))))))) (F165_j4 x0a x0n x0c x2 x3 x4 x10 (IntKind.wrap .i64 ((IntKind.wrap .i64 (2*x10))+1)) false hp I2 K)))
def F165_j1 (x0a:OA) (x0n x0c:Nat) (x2 x3:Int) (x4:Value) (x10:Int) (hp:HP) (K:Kh):Prop:=
  (LoopP (σ:=Int) (fun I s hp=>F165_l2 x0a x0n x0c x2 x3 x4  K I s hp) x10 hp)
def F165 (x0a:OA) (x0n x0c:Nat) (x1 x2 x3:Int) (x4:Value) (hp:HP) (K:Kh):Prop:=
  (F165_j1 x0a x0n x0c x2 x3 x4 x1 hp  K)
theorem F165_ok (x0a:OA) (x0n x0c:Nat) (x1 x2 x3:Int) (x4:Value) (hp:HP) (K:Kh) (h:F165 x0a x0n x0c x1 x2 x3 x4 hp K):CF Tryz.prog 165 [(Value.slice x0a x0n x0c),(Value.int .i64 x1),(Value.int .i64 x2),(Value.int .i64 x3),x4] hp K:=
  have L:∀ {Q} n,Snd Tryz.prog 82 (cAt Tryz.f165 (pth n)) Q (CW Tryz.prog 82 [] [] (cAt Tryz.f165 (pth n)) Q):=fun _=>Snd.leaf
  okF h Tryz.func165 (Snd.jn [(0,.s),(2,.i .i64),(3,.i .i64),(4,.w),(10,.i .i64)] (fun a hp=>F165_j1 a.1 a.2.1 a.2.2.1 a.2.2.2.1 a.2.2.2.2.1 a.2.2.2.2.2.1 a.2.2.2.2.2.2.1 hp  K) (L 2) (Snd.block 0 (Snd.lp (σ:=Int) [(0,.s),(2,.i .i64),(3,.i .i64),(4,.w),(10,.i .i64)] (fun a=>a.2.2.2.2.2.2.1) (fun a s=>(a.1,a.2.1,a.2.2.1,a.2.2.2.1,a.2.2.2.2.1,a.2.2.2.2.2.1,s,())) (fun a I s hp=>F165_l2 a.1 a.2.1 a.2.2.1 a.2.2.2.1 a.2.2.2.2.1 a.2.2.2.2.2.1  K I s hp) (fun I2=>(Snd.block 1 (Snd.seq (L 33) (Snd.seq (L 81) (Snd.jn [(0,.s),(2,.i .i64),(3,.i .i64),(4,.w),(10,.i .i64),(11,.i .i64)] (fun a hp=>F165_j3 a.1 a.2.1 a.2.2.1 a.2.2.2.1 a.2.2.2.2.1 a.2.2.2.2.2.1 a.2.2.2.2.2.2.1 a.2.2.2.2.2.2.2.1 hp (fun s hp=>I2 (a.1,a.2.1,a.2.2.1,a.2.2.2.1,a.2.2.2.2.1,a.2.2.2.2.2.1,s,()) hp) K) (Snd.jn [(0,.s),(2,.i .i64),(3,.i .i64),(4,.w),(10,.i .i64),(11,.i .i64),(40,.b)] (fun a hp=>F165_j4 a.1 a.2.1 a.2.2.1 a.2.2.2.1 a.2.2.2.2.1 a.2.2.2.2.2.1 a.2.2.2.2.2.2.1 a.2.2.2.2.2.2.2.1 a.2.2.2.2.2.2.2.2.1 hp (fun s hp=>I2 (a.1,a.2.1,a.2.2.1,a.2.2.2.1,a.2.2.2.2.1,a.2.2.2.2.2.1,s,()) hp) K) (L 305) (L 433) (by rfl) (by kernel_rfl)) (L 241) (by rfl) (by kernel_rfl)))))) (by rfl) (by kernel_rfl) (by kernel_rfl))) (by rfl) (by kernel_rfl)) (by kernel_rfl) (by kernel_rfl) (by kernel_rfl)
end Go.Proofs
set_option linter.unusedVariables false
set_option maxRecDepth 20000
namespace Go.Proofs
open Go Go.HL
section
variable {f:FuncId} {ga gb:List Value} {hp0:HP} {b sp n c:Nat} {cf:Ss→Ss→Int}
theorem S165 (hc:CmpOk Tryz.prog f ga gb hp0 b 58 sp ssc n cf) {d:Array Ss} {lo hi fst:Nat} {K:Value→HP→Prop} (hs:d.size=n) (hlo:lo≤hi) (hf:fst+hi≤n) (hn:n≤1000000000)
    (h:K (.tuple ⟨[]⟩) (HA hp0 b 58 sp ssc (Sort.siftDown (ltC cf) hi fst lo d))) :
    CF Tryz.prog 165 [.slice (some ⟨b,0,none⟩) n c,.int .i64 lo,.int .i64 hi,.int .i64 fst,.func (.func f) ⟨ga⟩ ⟨gb⟩] (HA hp0 b 58 sp ssc d) K:=by
  refine F165_ok _ n c lo hi fst _ _ K ?_
  unfold F165 F165_j1
  refine LoopP.by (J:=fun k (x:Int) hp=>∃ (r:Nat) (d':Array Ss),x=r∧hp=HA hp0 b 58 sp ssc d'∧d'.size=n∧r≤hi∧k=hi-r∧Sort.siftDown (ltC cf) hi fst r d'=Sort.siftDown (ltC cf) hi fst lo d) ?_
    (n:=hi-lo) ⟨lo,d,rfl,rfl,hs,hlo,rfl,rfl⟩
  rintro I k x hp ⟨r,d',rfl,rfl,hs',hr,rfl,he⟩ hI
  unfold F165_l2
  have w1:IntKind.wrap .i64 (2*(r:Int))=((2*r:Nat):Int):=wi (by omega) (by omega)
  have w2:IntKind.wrap .i64 (((2*r:Nat):Int)+1)=((2*r+1:Nat):Int):=wi (by omega) (by omega)
  have w3:IntKind.wrap .i64 (((2*r+1:Nat):Int)+1)=((2*r+2:Nat):Int):=wi (by omega) (by omega)
  have w4:IntKind.wrap .i64 ((fst:Int)+((2*r+1:Nat):Int))=((fst+(2*r+1):Nat):Int):=wi (by omega) (by omega)
  have w5:IntKind.wrap .i64 (((fst+(2*r+1):Nat):Int)+1)=((fst+(2*r+1)+1:Nat):Int):=wi (by omega) (by omega)
  simp only [w1,w2,w3,w4,w5]
  rw [Sort.siftDown] at he
  by_cases h1:2*r+1≥hi
  · rw [dif_pos h1] at he
    rw [decide_eq_true (by omega:((2*r+1:Nat):Int)≥(hi:Int)),ite2_true,he]
    exact h
  rw [dif_neg h1] at he
  rw [decide_eq_false (by omega:¬ ((2*r+1:Nat):Int)≥(hi:Int)),ite2_false]
  have tail:∀ ch:Nat,ch<hi→r<ch→(if !ltC cf d'[fst+r]! d'[fst+ch]! then d' else Sort.siftDown (ltC cf) hi fst ch (Sort.swp d' (fst+r) (fst+ch)))=Sort.siftDown (ltC cf) hi fst lo d →
      F165_j3 (some ⟨b,0,none⟩) n c hi fst (.func (.func f) ⟨ga⟩ ⟨gb⟩) r ch (HA hp0 b 58 sp ssc d') I K:=by
    intro ch hch hrc ht
    unfold F165_j3
    have v1:IntKind.wrap .i64 ((fst:Int)+(r:Int))=((fst+r:Nat):Int):=wi (by omega) (by omega)
    have v2:IntKind.wrap .i64 ((fst:Int)+(ch:Int))=((fst+ch:Nat):Int):=wi (by omega) (by omega)
    simp only [v1,v2]
    refine cmpP hc ssc_len hs' (i:=fst+r) (j:=fst+ch) rfl rfl (by omega) (by omega) ?_
    have hl:decide (cf d'[fst+r]! d'[fst+ch]!<0)=ltC cf d'[fst+r]! d'[fst+ch]! := rfl
    rw [hl]
    cases hlt:ltC cf d'[fst+r]! d'[fst+ch]!
    · rw [hlt] at ht
      simp only [Bool.not_false,if_true] at ht
      simp only [Bool.not_false,ite2_true]
      rw [ht]; exact h
    · rw [hlt] at ht
      simp only [Bool.not_true,Bool.false_eq_true,if_false] at ht
      simp only [Bool.not_true,ite2_false]
      refine swapP ssc_len ssc_one hs' (i:=fst+r) (j:=fst+ch) rfl rfl (by omega) (by omega) ?_
      exact hI (hi-ch) _ _ (by omega) ⟨ch,_,rfl,rfl,by rw [swp_size]; exact hs',by omega,rfl,ht⟩
  by_cases h2:2*r+1+1<hi
  · rw [decide_eq_true (by omega:((2*r+2:Nat):Int)<(hi:Int)),ite2_true]
    refine cmpP hc ssc_len hs' (i:=fst+(2*r+1)) (j:=fst+(2*r+1)+1) rfl rfl (by omega) (by omega) ?_
    have hl:decide (cf d'[fst+(2*r+1)]! d'[fst+(2*r+1)+1]!<0)=ltC cf d'[fst+(2*r+1)]! d'[fst+(2*r+1)+1]! := rfl
    rw [hl]
    unfold F165_j4
    rw [decide_eq_true h2,Bool.true_and] at he
    cases hlt:ltC cf d'[fst+(2*r+1)]! d'[fst+(2*r+1)+1]!
    · rw [hlt] at he
      simp only [Bool.false_eq_true,if_false] at he
      rw [ite2_false]
      exact tail (2*r+1) (by omega) (by omega) he
    · rw [hlt] at he
      simp only [if_true] at he
      rw [ite2_true,w3]
      refine tail (2*r+2) (by omega) (by omega) ?_
      rw [dif_pos (by omega:2*r+2<hi)] at he
      exact he
  · rw [decide_eq_false (by omega:¬ ((2*r+2:Nat):Int)<(hi:Int)),ite2_false]
    rw [decide_eq_false h2,Bool.false_and] at he
    simp only [Bool.false_eq_true,if_false] at he
    unfold F165_j4
    rw [ite2_false]
    exact tail (2*r+1) (by omega) (by omega) he
theorem sift_size_ssc {α:Type} [Inhabited α] (lt:α→α→Bool) (hi fst:Nat):∀ (m r:Nat) (d:Array α),hi-r≤m→(Sort.siftDown lt hi fst r d).size=d.size:=by
  intro m
  induction m with
  | zero=>
    intro r d hm
    rw [Sort.siftDown,dif_pos (by omega)]
  | succ m ih=>
    intro r d hm
    rw [Sort.siftDown]
    repeat' split
    all_goals first
      | rfl
      | (rw [ih _ _ (by omega),swp_size])
theorem S145 (hc:CmpOk Tryz.prog f ga gb hp0 b 58 sp ssc n cf) {d:Array Ss} {lo hi:Nat} {K:Value→HP→Prop} (hs:d.size=n) (hlo:lo≤hi) (hf:hi≤n) (hn:n≤1000000000)
    (h:K (.tuple ⟨[]⟩) (HA hp0 b 58 sp ssc (Sort.heapSort (ltC cf) d lo hi))) :
    CF Tryz.prog 145 [.slice (some ⟨b,0,none⟩) n c,.int .i64 lo,.int .i64 hi,.func (.func f) ⟨ga⟩ ⟨gb⟩] (HA hp0 b 58 sp ssc d) K:=by
  refine F145_ok _ n c lo hi _ _ K ?_
  unfold F145 F145_j4
  have w1:IntKind.wrap .i64 ((hi:Int)-(lo:Int))=((hi-lo:Nat):Int):=wi (by omega) (by omega)
  refine ⟨by omega,?_⟩
  rw [w1]
  generalize hm:hi-lo=m at *
  have w2:IntKind.wrap .i64 ((m:Int)-1)=(m:Int)-1:=w64 (by omega) (by omega)
  have w3:Int.tdiv ((m:Int)-1) 2=(((m-1) / 2:Nat):Int):=by
    cases m with
    | zero=>rfl
    | succ m=>
      have:((m+1:Nat):Int)-1=(m:Int):=by omega
      rw [this]; simp only [Nat.add_sub_cancel]
      rfl
  have w4:IntKind.wrap .i64 ((((m-1) / 2:Nat):Int))=(((m-1) / 2:Nat):Int):=wi rfl (by omega)
  rw [w2,w3,w4]
  unfold Sort.heapSort at h
  rw [hm] at h
  refine LoopP.by (J:=fun k (x:Int) hp=>∃ (d':Array Ss),x=(k:Int)-1∧hp=HA hp0 b 58 sp ssc d'∧d'.size=n∧k≤(m-1) / 2+1∧Sort.heapBuild (ltC cf) m lo k d'=Sort.heapBuild (ltC cf) m lo ((m-1) / 2+1) d) ?_
    (n:=(m-1) / 2+1) ⟨d,by omega,rfl,hs,Nat.le_refl _,rfl⟩
  rintro I k x hp ⟨d',rfl,rfl,hs',hk,he⟩ hI
  unfold F145_l5
  cases k with
  | succ k=>
    have e1:((k+1:Nat):Int)-1=(k:Int):=by omega
    rw [e1,decide_eq_true (by omega:(k:Int)≥0),ite2_true]
    refine S165 hc hs' (by omega) (by omega) hn ?_
    rw [w64 (by omega) (by omega)]
    rw [Sort.heapBuild] at he
    exact hI k _ _ (by omega) ⟨_,rfl,rfl,by rw [sift_size_ssc _ _ _ _ _ _ (Nat.le_refl _)]; exact hs',by omega,he⟩
  | zero=>
    rw [decide_eq_false (by omega:¬ (((0:Nat):Int)-1)≥0),ite2_false]
    rw [Sort.heapBuild] at he
    rw [← he] at h
    unfold F145_j1 F145_j2
    rw [w2]
    refine LoopP.by (J:=fun k (x:Int) hp=>∃ (d2:Array Ss),x=(k:Int)-1∧hp=HA hp0 b 58 sp ssc d2∧d2.size=n∧k≤m∧Sort.heapPop (ltC cf) lo k d2=Sort.heapPop (ltC cf) lo m d') ?_
      (n:=m) ⟨d',rfl,rfl,hs',Nat.le_refl _,rfl⟩
    rintro I2 k2 x2 hp2 ⟨d2,rfl,rfl,hs2,hk2,he2⟩ hI2
    unfold F145_l3
    cases k2 with
    | succ k=>
      have e1:((k+1:Nat):Int)-1=(k:Int):=by omega
      have v1:IntKind.wrap .i64 ((lo:Int)+(k:Int))=((lo+k:Nat):Int):=wi (by omega) (by omega)
      rw [e1,decide_eq_true (by omega:(k:Int)≥0),ite2_true,v1]
      refine swapP ssc_len ssc_one hs2 (i:=lo) (j:=lo+k) rfl rfl (by omega) (by omega) ?_
      have hz:(Value.int .i64 0)=Value.int .i64 ((0:Nat):Int):=rfl
      rw [hz]
      refine S165 hc (by rw [swp_size]; exact hs2) (by omega) (by omega) hn ?_
      rw [w64 (by omega) (by omega)]
      rw [Sort.heapPop] at he2
      exact hI2 k _ _ (by omega) ⟨_,rfl,rfl,by rw [sift_size_ssc _ _ _ _ _ _ (Nat.le_refl _),swp_size]; exact hs2,by omega,he2⟩
    | zero=>
      rw [decide_eq_false (by omega:¬ (((0:Nat):Int)-1)≥0),ite2_false]
      rw [Sort.heapPop] at he2
      rw [he2]; exact h
theorem S148 {v:Value} {d:Array Ss} {lo hi:Nat} {K:Value→HP→Prop} (hs:d.size=n) (hlo:lo<hi) (hf:hi≤n) (hn:n≤1000000000)
    (h:K (.tuple ⟨[]⟩) (HA hp0 b 58 sp ssc (Sort.reverseRange d lo hi))) :
    CF Tryz.prog 148 [.slice (some ⟨b,0,none⟩) n c,.int .i64 lo,.int .i64 hi,v] (HA hp0 b 58 sp ssc d) K:=by
  refine F148_ok _ n c lo hi _ _ K ?_
  unfold F148 F148_j1
  have w1:IntKind.wrap .i64 ((hi:Int)-1)=((hi-1:Nat):Int):=wi (by omega) (by omega)
  rw [w1]
  unfold Sort.reverseRange at h
  refine LoopP.by (J:=fun k (s:Int × Int) hp=>∃ (i j:Nat) (d':Array Ss),s=((i:Int),(j:Int))∧hp=HA hp0 b 58 sp ssc d'∧d'.size=n∧j<n∧k=j-i∧Sort.reverseLoop i j d'=Sort.reverseLoop lo (hi-1) d) ?_
    (n:=hi-1-lo) ⟨lo,hi-1,d,rfl,rfl,hs,by omega,rfl,rfl⟩
  rintro I k x hp ⟨i,j,d',rfl,rfl,hs',hj,rfl,he⟩ hI
  unfold F148_l2
  rw [Sort.reverseLoop] at he
  by_cases hij:i<j
  · rw [if_pos hij] at he
    simp only []
    rw [decide_eq_true (by omega:(i:Int)<(j:Int)),ite2_true]
    refine swapP ssc_len ssc_one hs' (i:=i) (j:=j) rfl rfl (by omega) (by omega) ?_
    have v1:IntKind.wrap .i64 ((i:Int)+1)=((i+1:Nat):Int):=wi (by omega) (by omega)
    have v2:IntKind.wrap .i64 ((j:Int)-1)=((j-1:Nat):Int):=wi (by omega) (by omega)
    rw [v1,v2]
    exact hI (j-1-(i+1)) _ _ (by omega) ⟨i+1,j-1,_,rfl,rfl,by rw [swp_size]; exact hs',by omega,rfl,he⟩
  · rw [if_neg hij] at he
    simp only []
    rw [decide_eq_false (by omega:¬ (i:Int)<(j:Int)),ite2_false,he]
    exact h
end
end Go.Proofs
set_option linter.unusedVariables false
set_option maxRecDepth 20000
namespace Go.Proofs
open Go Go.HL
section
variable {f:FuncId} {ga gb:List Value} {hp0:HP} {b sp n c:Nat} {cf:Ss→Ss→Int}
theorem S149 (hc:CmpOk Tryz.prog f ga gb hp0 b 58 sp ssc n cf) {d:Array Ss} {lo hi:Nat} {K:Value→HP→Prop} (hs:d.size=n) (hlo:lo<hi) (hf:hi≤n) (hn:n≤1000000000)
    (h:K (.bool (Sort.partialInsertionSort (ltC cf) d lo hi).2) (HA hp0 b 58 sp ssc (Sort.partialInsertionSort (ltC cf) d lo hi).1)) :
    CF Tryz.prog 149 [.slice (some ⟨b,0,none⟩) n c,.int .i64 lo,.int .i64 hi,.func (.func f) ⟨ga⟩ ⟨gb⟩] (HA hp0 b 58 sp ssc d) K:=by
  refine F149_ok _ n c lo hi _ _ K ?_
  unfold F149 F149_j1
  have w1:IntKind.wrap .i64 ((lo:Int)+1)=((lo+1:Nat):Int):=wi (by omega) (by omega)
  rw [w1]
  generalize hR:Sort.partialInsertionSort (ltC cf) d lo hi=R at h
  unfold Sort.partialInsertionSort at hR
  refine LoopP.by (J:=fun k (s:Int × Int) hp=>∃ (i:Nat) (d':Array Ss),s=((i:Int),5-(k:Int))∧k≤5∧hp=HA hp0 b 58 sp ssc d'∧d'.size=n∧lo<i∧i≤hi∧Sort.partialIns (ltC cf) lo hi k i d'=R) ?_
    (n:=5) ⟨lo+1,d,rfl,Nat.le_refl _,rfl,hs,by omega,by omega,hR⟩
  rintro I k x hp ⟨i,d',rfl,hk5,rfl,hs',hli,hih,he⟩ hI
  unfold F149_l2
  simp only []
  cases k with
  | zero=>
    rw [decide_eq_false (by omega:¬ (5-((0:Nat):Int))<5),ite2_false]
    rw [Sort.partialIns] at he
    rw [← he] at h
    exact h
  | succ k=>
    rw [decide_eq_true (by omega:(5-((k+1:Nat):Int))<5),ite2_true]
    rw [Sort.partialIns_succ] at he
    unfold F149_j3
    have fin4:∀ (i:Nat) (d3:Array Ss),lo<i→i≤hi→d3.size=n→Sort.partialIns (ltC cf) lo hi k i d3=R →
        F149_j4 (some ⟨b,0,none⟩) n c lo hi (.func (.func f) ⟨ga⟩ ⟨gb⟩) i (5-((k+1:Nat):Int)) (HA hp0 b 58 sp ssc d3) I K:=by
      intro i d3 h1 h2 h3 h4
      unfold F149_j4
      have:IntKind.wrap .i64 (5-((k+1:Nat):Int)+1)=5-(k:Int):=by rw [w64 (by omega) (by omega)]; omega
      rw [this]
      exact hI k _ _ (by omega) ⟨i,d3,rfl,by omega,rfl,h3,h1,h2,h4⟩
    have fin6:∀ (i:Nat) (d2:Array Ss),lo<i→i<hi→d2.size=n→Sort.partialIns (ltC cf) lo hi k i (Sort.fixUp (ltC cf) hi i d2)=R →
        F149_j6 (some ⟨b,0,none⟩) n c lo hi (.func (.func f) ⟨ga⟩ ⟨gb⟩) i (5-((k+1:Nat):Int)) (HA hp0 b 58 sp ssc d2) I K:=by
      intro i d2 h1 h2 h3 h4
      unfold F149_j6
      have v:IntKind.wrap .i64 ((hi:Int)-(i:Int))=((hi-i:Nat):Int):=wi (by omega) (by omega)
      rw [v]
      unfold Sort.fixUp at h4
      by_cases h2':hi-i≥2
      · rw [if_pos h2'] at h4
        rw [decide_eq_true (by omega:((hi-i:Nat):Int)≥2),ite2_true]
        unfold F149_j7
        have v1:IntKind.wrap .i64 ((i:Int)+1)=((i+1:Nat):Int):=wi (by omega) (by omega)
        rw [v1]
        refine LoopP.by (J:=fun m (y:Int) hp=>∃ (j:Nat) (d3:Array Ss),y=j∧hp=HA hp0 b 58 sp ssc d3∧d3.size=n∧i<j∧m=hi-j∧Sort.shiftUp (ltC cf) hi j d3=Sort.shiftUp (ltC cf) hi (i+1) d2) ?_
          (n:=hi-(i+1)) ⟨i+1,d2,rfl,rfl,h3,by omega,rfl,rfl⟩
        rintro I8 m y hp ⟨j,d3,rfl,rfl,h5,h6,rfl,h7⟩ hI8
        unfold F149_l8
        rw [Sort.shiftUp] at h7
        by_cases hj:j<hi
        · rw [if_pos hj] at h7
          have v2:IntKind.wrap .i64 ((j:Int)-1)=((j-1:Nat):Int):=wi (by omega) (by omega)
          have v3:IntKind.wrap .i64 ((j:Int)+1)=((j+1:Nat):Int):=wi (by omega) (by omega)
          simp only [v2,v3]
          rw [decide_eq_true (by omega:(j:Int)<(hi:Int)),ite2_true]
          refine cmpP hc ssc_len h5 (i:=j) (j:=j-1) rfl rfl (by omega) (by omega) ?_
          have hl:decide (cf d3[j]! d3[j-1]!<0)=ltC cf d3[j]! d3[j-1]! := rfl
          rw [hl]
          cases hlt:ltC cf d3[j]! d3[j-1]!
          · rw [hlt] at h7
            simp only [Bool.not_false,if_true] at h7
            simp only [Bool.not_false,ite2_true]
            rw [← h7] at h4
            exact fin4 i d3 h1 (by omega) h5 h4
          · rw [hlt] at h7
            simp only [Bool.not_true,Bool.false_eq_true,if_false] at h7
            simp only [Bool.not_true,ite2_false]
            refine swapP ssc_len ssc_one h5 (i:=j) (j:=j-1) rfl rfl (by omega) (by omega) ?_
            exact hI8 (hi-(j+1)) _ _ (by omega) ⟨j+1,_,rfl,rfl,by rw [swp_size]; exact h5,by omega,rfl,h7⟩
        · rw [if_neg hj] at h7
          rw [decide_eq_false (by omega:¬ (j:Int)<(hi:Int)),ite2_false]
          rw [← h7] at h4
          exact fin4 i d3 h1 (by omega) h5 h4
      · rw [if_neg h2'] at h4
        rw [decide_eq_false (by omega:¬ ((hi-i:Nat):Int)≥2),ite2_false]
        exact fin4 i d2 h1 (by omega) h3 h4
    have fin5:∀ (i:Nat),lo<i→i≤hi→Sort.scanSorted (ltC cf) d' hi i=i →
        (if i=hi then (d',true) else if hi-lo<50 then (d',false) else Sort.partialIns (ltC cf) lo hi k i (Sort.fixUp (ltC cf) hi i (Sort.fixDown (ltC cf) lo i (Sort.swp d' i (i-1)))))=R →
        F149_j5 (some ⟨b,0,none⟩) n c lo hi (.func (.func f) ⟨ga⟩ ⟨gb⟩) i (5-((k+1:Nat):Int)) (HA hp0 b 58 sp ssc d') I K:=by
      intro i h1 h2 _ h4
      unfold F149_j5
      by_cases hih:i=hi
      · rw [if_pos hih] at h4
        subst hih
        simp only [beq_self_eq_true,ite2_true]
        rw [← h4] at h
        exact h
      rw [if_neg hih] at h4
      have hb:((i:Int)==(hi:Int))=false:=by
        rw [beq_eq_false_iff_ne]; omega
      rw [hb,ite2_false]
      have v:IntKind.wrap .i64 ((hi:Int)-(lo:Int))=((hi-lo:Nat):Int):=wi (by omega) (by omega)
      rw [v]
      by_cases h50:hi-lo<50
      · rw [if_pos h50] at h4
        rw [decide_eq_true (by omega:((hi-lo:Nat):Int)<50),ite2_true]
        rw [← h4] at h
        exact h
      rw [if_neg h50] at h4
      rw [decide_eq_false (by omega:¬ ((hi-lo:Nat):Int)<50),ite2_false]
      have v2:IntKind.wrap .i64 ((i:Int)-1)=((i-1:Nat):Int):=wi (by omega) (by omega)
      have v3:IntKind.wrap .i64 ((i:Int)-(lo:Int))=((i-lo:Nat):Int):=wi (by omega) (by omega)
      simp only [v2,v3]
      refine swapP ssc_len ssc_one hs' (i:=i) (j:=i-1) rfl rfl (by omega) (by omega) ?_
      have hs1:(Sort.swp d' i (i-1)).size=n:=by rw [swp_size]; exact hs'
      generalize Sort.swp d' i (i-1)=d1 at *
      unfold Sort.fixDown at h4
      by_cases hd:i-lo≥2
      · rw [if_pos hd] at h4
        rw [decide_eq_true (by omega:((i-lo:Nat):Int)≥2),ite2_true]
        unfold F149_j9
        refine LoopP.by (J:=fun m (y:Int) hp=>∃ (d2:Array Ss),y=m∧hp=HA hp0 b 58 sp ssc d2∧d2.size=n∧m<n∧Sort.shiftDown (ltC cf) m d2=Sort.shiftDown (ltC cf) (i-1) d1) ?_
          (n:=i-1) ⟨d1,rfl,rfl,hs1,by omega,rfl⟩
        rintro I10 m y hp ⟨d2,rfl,rfl,h5,h6,h7⟩ hI10
        unfold F149_l10
        cases m with
        | zero=>
          rw [Sort.shiftDown] at h7
          rw [decide_eq_false (by omega:¬ ((0:Nat):Int)≥1),ite2_false]
          rw [← h7] at h4
          exact fin6 i d2 h1 (by omega) h5 h4
        | succ m=>
          rw [Sort.shiftDown] at h7
          have v4:IntKind.wrap .i64 (((m+1:Nat):Int)-1)=(m:Int):=wi (by omega) (by omega)
          simp only [v4]
          rw [decide_eq_true (by omega:((m+1:Nat):Int)≥1),ite2_true]
          refine cmpP hc ssc_len h5 (i:=m+1) (j:=m) rfl rfl (by omega) (by omega) ?_
          have hl:decide (cf d2[m+1]! d2[m]!<0)=ltC cf d2[m+1]! d2[m]! := rfl
          rw [hl]
          cases hlt:ltC cf d2[m+1]! d2[m]!
          · rw [hlt] at h7
            simp only [Bool.not_false,if_true] at h7
            simp only [Bool.not_false,ite2_true]
            rw [← h7] at h4
            exact fin6 i d2 h1 (by omega) h5 h4
          · rw [hlt] at h7
            simp only [Bool.not_true,Bool.false_eq_true,if_false] at h7
            simp only [Bool.not_true,ite2_false]
            refine swapP ssc_len ssc_one h5 (i:=m+1) (j:=m) rfl rfl (by omega) (by omega) ?_
            exact hI10 m _ _ (by omega) ⟨_,rfl,rfl,by rw [swp_size]; exact h5,by omega,h7⟩
      · rw [if_neg hd] at h4
        rw [decide_eq_false (by omega:¬ ((i-lo:Nat):Int)≥2),ite2_false]
        exact fin6 i d1 h1 (by omega) hs1 h4
    refine LoopP.by (J:=fun m (y:Int) hp=>∃ (i':Nat),y=i'∧hp=HA hp0 b 58 sp ssc d'∧lo<i'∧i'≤hi∧m=hi-i'∧Sort.scanSorted (ltC cf) d' hi i'=Sort.scanSorted (ltC cf) d' hi i) ?_
      (n:=hi-i) ⟨i,rfl,rfl,hli,hih,rfl,rfl⟩
    rintro I11 m y hp ⟨i',rfl,rfl,h1,h2,rfl,h7⟩ hI11
    unfold F149_l11
    rw [← h7] at he
    have out:Sort.scanSorted (ltC cf) d' hi i'=i'→F149_j12 (some ⟨b,0,none⟩) n c lo hi (.func (.func f) ⟨ga⟩ ⟨gb⟩) i' (5-((k+1:Nat):Int)) false (HA hp0 b 58 sp ssc d') I I11 K:=by
      intro hq
      unfold F149_j12
      rw [ite2_false]
      rw [hq] at he
      exact fin5 i' h1 h2 hq he
    by_cases hj:i'<hi
    · have v2:IntKind.wrap .i64 ((i':Int)-1)=((i' - 1:Nat):Int):=wi (by omega) (by omega)
      simp only [v2]
      rw [decide_eq_true (by omega:(i':Int)<(hi:Int)),ite2_true]
      refine cmpP hc ssc_len hs' (i:=i') (j:=i' - 1) rfl rfl (by omega) (by omega) ?_
      have hl:decide (cf d'[i']! d'[i' - 1]!<0)=ltC cf d'[i']! d'[i' - 1]! := rfl
      rw [hl]
      cases hlt:ltC cf d'[i']! d'[i' - 1]!
      · unfold F149_j12
        have v3:IntKind.wrap .i64 ((i':Int)+1)=((i'+1:Nat):Int):=wi (by omega) (by omega)
        simp only [Bool.not_false,ite2_true,v3]
        refine hI11 (hi-(i'+1)) _ _ (by omega) ⟨i'+1,rfl,rfl,by omega,by omega,rfl,?_⟩
        rw [← h7]
        rw [Sort.scanSorted.eq_def (ltC cf) d' hi i',hlt,decide_eq_true hj]
        simp
      · simp only [Bool.not_true]
        refine out ?_
        rw [Sort.scanSorted,hlt]
        simp
    · rw [decide_eq_false (by omega:¬ (i':Int)<(hi:Int)),ite2_false]
      refine out ?_
      rw [Sort.scanSorted,decide_eq_false hj]
      simp
end
end Go.Proofs
set_option linter.unusedVariables false
set_option maxRecDepth 20000
namespace Go.Proofs
open Go Go.HL
section
variable {f:FuncId} {ga gb:List Value} {hp0:HP} {b sp n c:Nat} {cf:Ss→Ss→Int}
theorem S150 (hc:CmpOk Tryz.prog f ga gb hp0 b 58 sp ssc n cf) {d:Array Ss} {lo hi pv:Nat} {K:Value→HP→Prop} (hs:d.size=n) (hlo:lo<hi) (hf:hi≤n) (hp:pv<n) (hn:n≤1000000000)
    (h:K (.int .i64 ((Sort.partitionEqual (ltC cf) d lo hi pv).1:Nat)) (HA hp0 b 58 sp ssc (Sort.partitionEqual (ltC cf) d lo hi pv).2)) :
    CF Tryz.prog 150 [.slice (some ⟨b,0,none⟩) n c,.int .i64 lo,.int .i64 hi,.int .i64 pv,.func (.func f) ⟨ga⟩ ⟨gb⟩] (HA hp0 b 58 sp ssc d) K:=by
  refine F150_ok _ n c lo hi pv _ _ K ?_
  unfold F150
  refine swapP ssc_len ssc_one hs (i:=lo) (j:=pv) rfl rfl (by omega) (by omega) ?_
  unfold Sort.partitionEqual at h
  have hs1:(Sort.swp d lo pv).size=n:=by rw [swp_size]; exact hs
  generalize Sort.swp d lo pv=d1 at *
  have w1:IntKind.wrap .i64 ((lo:Int)+1)=((lo+1:Nat):Int):=wi (by omega) (by omega)
  have w2:IntKind.wrap .i64 ((hi:Int)-1)=((hi-1:Nat):Int):=wi (by omega) (by omega)
  rw [w1,w2]
  generalize hR:Sort.partEqLoop (ltC cf) lo (lo+1) (hi-1) d1=R at h
  unfold F150_j1
  refine LoopP.by (J:=fun k (s:Int × Int) hp=>∃ (i j:Nat) (d':Array Ss),s=((i:Int),(j:Int))∧hp=HA hp0 b 58 sp ssc d'∧d'.size=n∧lo<i∧i≤j+2∧j<n∧k=j+1-i∧Sort.partEqLoop (ltC cf) lo i j d'=R) ?_
    (n:=hi-1+1-(lo+1)) ⟨lo+1,hi-1,d1,rfl,rfl,hs1,by omega,by omega,by omega,rfl,hR⟩
  rintro I k x hp ⟨i,j,d',rfl,rfl,hs',hli,hij,hj,rfl,he⟩ hI
  unfold F150_l3
  simp only []
  rw [Sort.partEqLoop_eq] at he
  refine LoopP.by (J:=fun m (y:Int) hp=>∃ (i':Nat),y=i'∧hp=HA hp0 b 58 sp ssc d'∧i≤i'∧i'≤j+2∧m=j+2-i'∧Sort.scanUp (fun x=>!ltC cf d'[lo]! x) d' j i'=Sort.scanUp (fun x=>!ltC cf d'[lo]! x) d' j i) ?_
    (n:=j+2-i) ⟨i,rfl,rfl,Nat.le_refl _,hij,rfl,rfl⟩
  rintro I8 m y hp ⟨i',rfl,rfl,h1,h2,rfl,h7⟩ hI8
  unfold F150_l8
  rw [← h7] at he
  have out:Sort.scanUp (fun x=>!ltC cf d'[lo]! x) d' j i'=i'→F150_j9 (some ⟨b,0,none⟩) n c lo (.func (.func f) ⟨ga⟩ ⟨gb⟩) i' j false (HA hp0 b 58 sp ssc d') I I8 K:=by
    intro hq
    rw [hq] at he
    unfold F150_j9 F150_j4
    rw [ite2_false]
    refine LoopP.by (J:=fun m (y:Int) hp=>∃ (j':Nat),y=j'∧hp=HA hp0 b 58 sp ssc d'∧j'≤j∧m=j'∧Sort.scanDown (fun x=>ltC cf d'[lo]! x) d' i' j'=Sort.scanDown (fun x=>ltC cf d'[lo]! x) d' i' j) ?_
      (n:=j) ⟨j,rfl,rfl,Nat.le_refl _,rfl,rfl⟩
    rintro I6 m y hp ⟨j',rfl,rfl,g1,rfl,g7⟩ hI6
    unfold F150_l6
    rw [← g7] at he
    have out2:Sort.scanDown (fun x=>ltC cf d'[lo]! x) d' i' m=m→F150_j7 (some ⟨b,0,none⟩) n c lo (.func (.func f) ⟨ga⟩ ⟨gb⟩) i' m false (HA hp0 b 58 sp ssc d') I I6 K:=by
      intro hq2
      rw [hq2] at he
      unfold F150_j7 F150_j5
      rw [ite2_false]
      by_cases hgt:i' > m
      · rw [if_pos hgt] at he
        rw [decide_eq_true (by omega:(i':Int) > (m:Int)),ite2_true]
        unfold F150_j2
        rw [← he] at h
        exact h
      · rw [if_neg hgt] at he
        rw [decide_eq_false (by omega:¬ (i':Int) > (m:Int)),ite2_false]
        refine swapP ssc_len ssc_one hs' (i:=i') (j:=m) rfl rfl (by omega) (by omega) ?_
        have v1:IntKind.wrap .i64 ((i':Int)+1)=((i'+1:Nat):Int):=wi (by omega) (by omega)
        have v2:IntKind.wrap .i64 ((m:Int)-1)=((m-1:Nat):Int):=wi (by omega) (by omega)
        rw [v1,v2]
        exact hI (m-1+1-(i'+1)) _ _ (by omega) ⟨i'+1,m-1,_,rfl,rfl,by rw [swp_size]; exact hs',by omega,by omega,by omega,rfl,he⟩
    by_cases hle:i'≤m
    · rw [decide_eq_true (by omega:(i':Int)≤(m:Int)),ite2_true]
      refine cmpP hc ssc_len hs' (i:=lo) (j:=m) rfl rfl (by omega) (by omega) ?_
      have hl:decide (cf d'[lo]! d'[m]!<0)=ltC cf d'[lo]! d'[m]! := rfl
      rw [hl]
      obtain ⟨m,rfl⟩:∃ m',m=m'+1:=⟨m-1,by omega⟩
      cases hlt:ltC cf d'[lo]! d'[m+1]!
      · refine out2 ?_
        rw [Sort.scanDown,hlt]
        simp
      · unfold F150_j7
        have v2:IntKind.wrap .i64 (((m+1:Nat):Int)-1)=(m:Int):=wi (by omega) (by omega)
        rw [ite2_true,v2]
        refine hI6 m _ _ (by omega) ⟨m,rfl,rfl,by omega,rfl,?_⟩
        rw [← g7,Sort.scanDown.eq_def _ _ _ (m+1)]
        simp only [hlt,decide_eq_true hle,Bool.and_self,if_true]
    · rw [decide_eq_false (by omega:¬ (i':Int)≤(m:Int)),ite2_false]
      refine out2 ?_
      cases m with
      | zero=>rw [Sort.scanDown]
      | succ m=>rw [Sort.scanDown,decide_eq_false hle]; simp
  by_cases hle:i'≤j
  · rw [decide_eq_true (by omega:(i':Int)≤(j:Int)),ite2_true]
    refine cmpP hc ssc_len hs' (i:=lo) (j:=i') rfl rfl (by omega) (by omega) ?_
    have hl:decide (cf d'[lo]! d'[i']!<0)=ltC cf d'[lo]! d'[i']! := rfl
    rw [hl]
    cases hlt:ltC cf d'[lo]! d'[i']!
    · unfold F150_j9
      have v2:IntKind.wrap .i64 ((i':Int)+1)=((i'+1:Nat):Int):=wi (by omega) (by omega)
      simp only [Bool.not_false,ite2_true,v2]
      refine hI8 (j+2-(i'+1)) _ _ (by omega) ⟨i'+1,rfl,rfl,by omega,by omega,rfl,?_⟩
      rw [← h7,Sort.scanUp.eq_def _ _ _ i']
      simp only [hlt,decide_eq_true hle,Bool.not_false,Bool.and_self,if_true]
    · simp only [Bool.not_true]
      refine out ?_
      rw [Sort.scanUp,hlt]
      simp
  · rw [decide_eq_false (by omega:¬ (i':Int)≤(j:Int)),ite2_false]
    refine out ?_
    rw [Sort.scanUp,decide_eq_false hle]
    simp
end
end Go.Proofs
set_option linter.unusedVariables false
set_option maxRecDepth 20000
namespace Go.Proofs
open Go Go.HL
section
variable {f:FuncId} {ga gb:List Value} {hp0:HP} {b sp n c:Nat} {cf:Ss→Ss→Int}
theorem S151 (hc:CmpOk Tryz.prog f ga gb hp0 b 58 sp ssc n cf) {d:Array Ss} {lo hi pv:Nat} {K:Value→HP→Prop} (hs:d.size=n) (hlo:lo<hi) (hf:hi≤n) (hp:pv<n) (hn:n≤1000000000)
    (h:K (.tuple ⟨[.int .i64 ((Sort.partition (ltC cf) d lo hi pv).1:Nat),.bool (Sort.partition (ltC cf) d lo hi pv).2.1]⟩) (HA hp0 b 58 sp ssc (Sort.partition (ltC cf) d lo hi pv).2.2)) :
    CF Tryz.prog 151 [.slice (some ⟨b,0,none⟩) n c,.int .i64 lo,.int .i64 hi,.int .i64 pv,.func (.func f) ⟨ga⟩ ⟨gb⟩] (HA hp0 b 58 sp ssc d) K:=by
  refine F151_ok _ n c lo hi pv _ _ K ?_
  unfold F151
  refine swapP ssc_len ssc_one hs (i:=lo) (j:=pv) rfl rfl (by omega) (by omega) ?_
  unfold Sort.partition at h
  have hs':(Sort.swp d lo pv).size=n:=by rw [swp_size]; exact hs
  generalize Sort.swp d lo pv=d' at *
  have w1:IntKind.wrap .i64 ((lo:Int)+1)=((lo+1:Nat):Int):=wi (by omega) (by omega)
  have w2:IntKind.wrap .i64 ((hi:Int)-1)=((hi-1:Nat):Int):=wi (by omega) (by omega)
  rw [w1,w2]
  simp only [] at h
  have hij:lo+1≤hi-1+2:=by omega
  have hjn:hi-1<n:=by omega
  have hli:lo<lo+1:=by omega
  generalize hi0:lo+1=i at *
  generalize hj0:hi-1=j at *
  unfold F151_j1
  have fin:∀ (i' m:Nat),Sort.scanUp (fun x=>ltC cf x d'[lo]!) d' j i=i'→Sort.scanDown (fun x=>!ltC cf x d'[lo]!) d' i' j=m→i≤i'→i'≤j+2→m≤j→F151_j3 (some ⟨b,0,none⟩) n c lo (.func (.func f) ⟨ga⟩ ⟨gb⟩) i' m (HA hp0 b 58 sp ssc d') K:=by
    intro i' m hq hq2 h1 h2 h3
    rw [hq,hq2] at h
    unfold F151_j3
    by_cases hgt:i' > m
    · rw [if_pos hgt] at h
      rw [decide_eq_true (by omega:(i':Int) > (m:Int)),ite2_true]
      refine swapP ssc_len ssc_one hs' (i:=m) (j:=lo) rfl rfl (by omega) (by omega) ?_
      exact h
    rw [if_neg hgt] at h
    rw [decide_eq_false (by omega:¬ (i':Int) > (m:Int)),ite2_false]
    refine swapP ssc_len ssc_one hs' (i:=i') (j:=m) rfl rfl (by omega) (by omega) ?_
    have v1:IntKind.wrap .i64 ((i':Int)+1)=((i'+1:Nat):Int):=wi (by omega) (by omega)
    have v2:IntKind.wrap .i64 ((m:Int)-1)=((m-1:Nat):Int):=wi (by omega) (by omega)
    rw [v1,v2]
    have hs2:(Sort.swp d' i' m).size=n:=by rw [swp_size]; exact hs'
    generalize Sort.swp d' i' m=d2 at *
    generalize hR:Sort.partLoop (ltC cf) lo (i'+1) (m-1) d2=R at h
    unfold F151_j4
    refine LoopP.by (J:=fun k (s:Int × Int) hp=>∃ (i j:Nat) (d':Array Ss),s=((i:Int),(j:Int))∧hp=HA hp0 b 58 sp ssc d'∧d'.size=n∧lo<i∧i≤j+2∧j<n∧k=j+1-i∧Sort.partLoop (ltC cf) lo i j d'=R) ?_
      (n:=m-1+1-(i'+1)) ⟨i'+1,m-1,d2,rfl,rfl,hs2,by omega,by omega,by omega,rfl,hR⟩
    clear hs' hij hjn hli hq hq2 h1 h2 h3 hR
    clear hi0 hj0
    rintro I6 k x hp ⟨i,j,d',rfl,rfl,hs',hli,hij,hj,rfl,he⟩ hI
    unfold F151_l6
    simp only []
    rw [Sort.partLoop_eq] at he
    have fin2:∀ (i' m:Nat),Sort.scanUp (fun x=>ltC cf x d'[lo]!) d' j i=i'→Sort.scanDown (fun x=>!ltC cf x d'[lo]!) d' i' j=m→i≤i'→i'≤j+2→m≤j→F151_j8 (some ⟨b,0,none⟩) n c lo (.func (.func f) ⟨ga⟩ ⟨gb⟩) i' m (HA hp0 b 58 sp ssc d') I6 K:=by
      intro i' m hq hq2 h1 h2 h3
      rw [hq,hq2] at he
      unfold F151_j8
      by_cases hgt:i' > m
      · rw [if_pos hgt] at he
        rw [decide_eq_true (by omega:(i':Int) > (m:Int)),ite2_true]
        unfold F151_j5
        rw [← he] at h
        refine swapP ssc_len ssc_one hs' (i:=m) (j:=lo) rfl rfl (by omega) (by omega) ?_
        exact h
      · rw [if_neg hgt] at he
        rw [decide_eq_false (by omega:¬ (i':Int) > (m:Int)),ite2_false]
        refine swapP ssc_len ssc_one hs' (i:=i') (j:=m) rfl rfl (by omega) (by omega) ?_
        have v1:IntKind.wrap .i64 ((i':Int)+1)=((i'+1:Nat):Int):=wi (by omega) (by omega)
        have v2:IntKind.wrap .i64 ((m:Int)-1)=((m-1:Nat):Int):=wi (by omega) (by omega)
        rw [v1,v2]
        exact hI (m-1+1-(i'+1)) _ _ (by omega) ⟨i'+1,m-1,_,rfl,rfl,by rw [swp_size]; exact hs',by omega,by omega,by omega,rfl,he⟩
    clear he
    refine LoopP.by (J:=fun m (y:Int) hp=>∃ (i':Nat),y=i'∧hp=HA hp0 b 58 sp ssc d'∧i≤i'∧i'≤j+2∧m=j+2-i'∧Sort.scanUp (fun x=>ltC cf x d'[lo]!) d' j i'=Sort.scanUp (fun x=>ltC cf x d'[lo]!) d' j i) ?_
      (n:=j+2-i) ⟨i,rfl,rfl,Nat.le_refl _,hij,rfl,rfl⟩
    rintro I11 m y hp ⟨i',rfl,rfl,h1,h2,rfl,h7⟩ hI11
    unfold F151_l11
    have out:Sort.scanUp (fun x=>ltC cf x d'[lo]!) d' j i'=i'→F151_j12 (some ⟨b,0,none⟩) n c lo (.func (.func f) ⟨ga⟩ ⟨gb⟩) i' j false (HA hp0 b 58 sp ssc d') I6 I11 K:=by
      intro hq
      rw [hq] at h7
      unfold F151_j12 F151_j7
      rw [ite2_false]
      refine LoopP.by (J:=fun m (y:Int) hp=>∃ (j':Nat),y=j'∧hp=HA hp0 b 58 sp ssc d'∧j'≤j∧m=j'∧Sort.scanDown (fun x=>!ltC cf x d'[lo]!) d' i' j'=Sort.scanDown (fun x=>!ltC cf x d'[lo]!) d' i' j) ?_
        (n:=j) ⟨j,rfl,rfl,Nat.le_refl _,rfl,rfl⟩
      rintro I9 m y hp ⟨j',rfl,rfl,g1,rfl,g7⟩ hI9
      unfold F151_l9
      have out2:Sort.scanDown (fun x=>!ltC cf x d'[lo]!) d' i' m=m→F151_j10 (some ⟨b,0,none⟩) n c lo (.func (.func f) ⟨ga⟩ ⟨gb⟩) i' m false (HA hp0 b 58 sp ssc d') I6 I9 K:=by
        intro hq2
        rw [hq2] at g7
        unfold F151_j10
        rw [ite2_false]
        exact fin2 i' m h7.symm g7.symm h1 h2 g1
      by_cases hle:i'≤m
      · rw [decide_eq_true (by omega:(i':Int)≤(m:Int)),ite2_true]
        refine cmpP hc ssc_len hs' (i:=m) (j:=lo) rfl rfl (by omega) (by omega) ?_
        have hl:decide (cf d'[m]! d'[lo]!<0)=ltC cf d'[m]! d'[lo]! := rfl
        rw [hl]
        obtain ⟨m,rfl⟩:∃ m',m=m'+1:=⟨m-1,by omega⟩
        cases hlt:ltC cf d'[m+1]! d'[lo]!
        · unfold F151_j10
          have v2:IntKind.wrap .i64 (((m+1:Nat):Int)-1)=(m:Int):=wi (by omega) (by omega)
          simp only [Bool.not_false,ite2_true,v2]
          refine hI9 m _ _ (by omega) ⟨m,rfl,rfl,by omega,rfl,?_⟩
          rw [← g7,Sort.scanDown.eq_def _ _ _ (m+1)]
          simp only [hlt,decide_eq_true hle,Bool.not_false,Bool.and_self,if_true]
        · simp only [Bool.not_true]
          refine out2 ?_
          rw [Sort.scanDown,hlt]
          simp
      · rw [decide_eq_false (by omega:¬ (i':Int)≤(m:Int)),ite2_false]
        refine out2 ?_
        cases m with
        | zero=>rw [Sort.scanDown]
        | succ m=>rw [Sort.scanDown,decide_eq_false hle]; simp
    by_cases hle:i'≤j
    · rw [decide_eq_true (by omega:(i':Int)≤(j:Int)),ite2_true]
      refine cmpP hc ssc_len hs' (i:=i') (j:=lo) rfl rfl (by omega) (by omega) ?_
      have hl:decide (cf d'[i']! d'[lo]!<0)=ltC cf d'[i']! d'[lo]! := rfl
      rw [hl]
      cases hlt:ltC cf d'[i']! d'[lo]!
      · refine out ?_
        rw [Sort.scanUp,hlt]
        simp
      · unfold F151_j12
        have v2:IntKind.wrap .i64 ((i':Int)+1)=((i'+1:Nat):Int):=wi (by omega) (by omega)
        simp only [ite2_true,v2]
        refine hI11 (j+2-(i'+1)) _ _ (by omega) ⟨i'+1,rfl,rfl,by omega,by omega,rfl,?_⟩
        rw [← h7,Sort.scanUp.eq_def _ _ _ i']
        simp only [hlt,decide_eq_true hle,Bool.and_self,if_true]
    · rw [decide_eq_false (by omega:¬ (i':Int)≤(j:Int)),ite2_false]
      refine out ?_
      rw [Sort.scanUp,decide_eq_false hle]
      simp
  refine LoopP.by (J:=fun m (y:Int) hp=>∃ (i':Nat),y=i'∧hp=HA hp0 b 58 sp ssc d'∧i≤i'∧i'≤j+2∧m=j+2-i'∧Sort.scanUp (fun x=>ltC cf x d'[lo]!) d' j i'=Sort.scanUp (fun x=>ltC cf x d'[lo]!) d' j i) ?_
    (n:=j+2-i) ⟨i,rfl,rfl,Nat.le_refl _,hij,rfl,rfl⟩
  rintro I15 m y hp ⟨i',rfl,rfl,h1,h2,rfl,h7⟩ hI15
  unfold F151_l15
  have out:Sort.scanUp (fun x=>ltC cf x d'[lo]!) d' j i'=i'→F151_j16 (some ⟨b,0,none⟩) n c lo (.func (.func f) ⟨ga⟩ ⟨gb⟩) i' j false (HA hp0 b 58 sp ssc d')  I15 K:=by
    intro hq
    rw [hq] at h7
    unfold F151_j16 F151_j2
    rw [ite2_false]
    refine LoopP.by (J:=fun m (y:Int) hp=>∃ (j':Nat),y=j'∧hp=HA hp0 b 58 sp ssc d'∧j'≤j∧m=j'∧Sort.scanDown (fun x=>!ltC cf x d'[lo]!) d' i' j'=Sort.scanDown (fun x=>!ltC cf x d'[lo]!) d' i' j) ?_
      (n:=j) ⟨j,rfl,rfl,Nat.le_refl _,rfl,rfl⟩
    rintro I13 m y hp ⟨j',rfl,rfl,g1,rfl,g7⟩ hI13
    unfold F151_l13
    have out2:Sort.scanDown (fun x=>!ltC cf x d'[lo]!) d' i' m=m→F151_j14 (some ⟨b,0,none⟩) n c lo (.func (.func f) ⟨ga⟩ ⟨gb⟩) i' m false (HA hp0 b 58 sp ssc d')  I13 K:=by
      intro hq2
      rw [hq2] at g7
      unfold F151_j14
      rw [ite2_false]
      exact fin i' m h7.symm g7.symm h1 h2 g1
    by_cases hle:i'≤m
    · rw [decide_eq_true (by omega:(i':Int)≤(m:Int)),ite2_true]
      refine cmpP hc ssc_len hs' (i:=m) (j:=lo) rfl rfl (by omega) (by omega) ?_
      have hl:decide (cf d'[m]! d'[lo]!<0)=ltC cf d'[m]! d'[lo]! := rfl
      rw [hl]
      obtain ⟨m,rfl⟩:∃ m',m=m'+1:=⟨m-1,by omega⟩
      cases hlt:ltC cf d'[m+1]! d'[lo]!
      · unfold F151_j14
        have v2:IntKind.wrap .i64 (((m+1:Nat):Int)-1)=(m:Int):=wi (by omega) (by omega)
        simp only [Bool.not_false,ite2_true,v2]
        refine hI13 m _ _ (by omega) ⟨m,rfl,rfl,by omega,rfl,?_⟩
        rw [← g7,Sort.scanDown.eq_def _ _ _ (m+1)]
        simp only [hlt,decide_eq_true hle,Bool.not_false,Bool.and_self,if_true]
      · simp only [Bool.not_true]
        refine out2 ?_
        rw [Sort.scanDown,hlt]
        simp
    · rw [decide_eq_false (by omega:¬ (i':Int)≤(m:Int)),ite2_false]
      refine out2 ?_
      cases m with
      | zero=>rw [Sort.scanDown]
      | succ m=>rw [Sort.scanDown,decide_eq_false hle]; simp
  by_cases hle:i'≤j
  · rw [decide_eq_true (by omega:(i':Int)≤(j:Int)),ite2_true]
    refine cmpP hc ssc_len hs' (i:=i') (j:=lo) rfl rfl (by omega) (by omega) ?_
    have hl:decide (cf d'[i']! d'[lo]!<0)=ltC cf d'[i']! d'[lo]! := rfl
    rw [hl]
    cases hlt:ltC cf d'[i']! d'[lo]!
    · refine out ?_
      rw [Sort.scanUp,hlt]
      simp
    · unfold F151_j16
      have v2:IntKind.wrap .i64 ((i':Int)+1)=((i'+1:Nat):Int):=wi (by omega) (by omega)
      simp only [ite2_true,v2]
      refine hI15 (j+2-(i'+1)) _ _ (by omega) ⟨i'+1,rfl,rfl,by omega,by omega,rfl,?_⟩
      rw [← h7,Sort.scanUp.eq_def _ _ _ i']
      simp only [hlt,decide_eq_true hle,Bool.and_self,if_true]
  · rw [decide_eq_false (by omega:¬ (i':Int)≤(j:Int)),ite2_false]
    refine out ?_
    rw [Sort.scanUp,decide_eq_false hle]
    simp
end
end Go.Proofs
set_option linter.unusedVariables false
set_option maxRecDepth 20000
namespace Go.Proofs
open Go Go.HL
def F127_j6 (x0a:OA) (x0n x0c:Nat) (x1 x2 x3:Int) (x4:Value) (x10 x11:Bool) (x12 x13:Int) (x97:Bool) (hp:HP) (I2:(Int × Int × Int × Bool × Bool)→HP→Prop) (K:Kh):Prop:=
  (ite2 x97 (CF Tryz.prog 150 [(Value.slice x0a x0n x0c),(Value.int .i64 x1),(Value.int .i64 x2),(Value.int .i64 x13),x4] hp fun u_11 h_12=>(intV u_11 .i64 fun i_13=>(I2 (i_13,x2,x3,x10,x11) h_12))) (CF Tryz.prog 151 [(Value.slice x0a x0n x0c),(Value.int .i64 x1),(Value.int .i64 x2),(Value.int .i64 x13),x4] hp fun u_14 h_15=>(tup2V u_14 fun u_16 u_17=>(intV u_16 .i64 fun i_18=>(boolV u_17 fun q_19=>(((8:Int)≠0)∧(ite2 (decide (((IntKind.wrap .i64 (i_18-x1)):Int)<(IntKind.wrap .i64 (x2-i_18)))) (CF Tryz.prog 127 [(Value.slice x0a x0n x0c),(Value.int .i64 x1),(Value.int .i64 i_18),(Value.int .i64 x3),x4] h_15 fun u_20 h_21=>(I2 ((IntKind.wrap .i64 (i_18+1)),x2,x3,(decide (((IntKind.wrap .i64 (i_18-x1)):Int)≥(IntKind.wrap .i64 (Int.tdiv x12 8)))),q_19) h_21)) (CF Tryz.prog 127 [(Value.slice x0a x0n x0c),(Value.int .i64 (IntKind.wrap .i64 (i_18+1))),(Value.int .i64 x2),(Value.int .i64 x3),x4] h_15 fun u_22 h_23=>(I2 (x1,i_18,x3,(decide (((IntKind.wrap .i64 (x2-i_18)):Int)≥(IntKind.wrap .i64 (Int.tdiv x12 8)))),q_19) h_23)))))))))
def F127_j5 (x0a:OA) (x0n x0c:Nat) (x1 x2 x3:Int) (x4:Value) (x10 x11:Bool) (x12 x13:Int) (hp:HP) (I2:(Int × Int × Int × Bool × Bool)→HP→Prop) (K:Kh):Prop:=
  (ite2 (decide ((x1:Int) > 0)) ((0≤((IntKind.wrap .i64 (x1-1)):Int))∧(((IntKind.wrap .i64 (x1-1)):Int)<(x0n:Nat))∧(ptrN x0a fun b_24 o_25=>(ldL (HP.cellN hp b_24 (o_25+Int.toNat (IntKind.wrap .i64 (x1-1))*9) 9) fun l_26=>((0≤(x13:Int))∧((x13:Int)<(x0n:Nat))∧(ptrN x0a fun b_27 o_28=>(ldL (HP.cellN hp b_27 (o_28+Int.toNat x13*9) 9) fun l_29=>(fnV x4 fun f_30 ga_31 gb_32=>(CF Tryz.prog f_30 (ga_31++[(Value.agg ⟨l_26⟩),(Value.agg ⟨l_29⟩)]++gb_32) hp fun u_33 h_34=>(intV u_33 .i64 fun i_35=>(F127_j6 x0a x0n x0c x1 x2 x3 x4 x10 x11 x12 x13 (!(decide ((i_35:Int)<0))) h_34 I2 K)))))))))) (F127_j6 x0a x0n x0c x1 x2 x3 x4 x10 x11 x12 x13 false hp I2 K))
def F127_j7 (x0a:OA) (x0n x0c:Nat) (x1 x2 x3:Int) (x4:Value) (x10 x11:Bool) (x12 x13:Int) (x75:Bool) (hp:HP) (I2:(Int × Int × Int × Bool × Bool)→HP→Prop) (K:Kh):Prop:=
  (ite2 x75 (CF Tryz.prog 149 [(Value.slice x0a x0n x0c),(Value.int .i64 x1),(Value.int .i64 x2),x4] hp fun u_36 h_37=>(boolV u_36 fun q_38=>(ite2 q_38 (K (.tuple ⟨[]⟩) h_37) (F127_j5 x0a x0n x0c x1 x2 x3 x4 x10 x11 x12 x13 h_37 I2 K)))) (F127_j5 x0a x0n x0c x1 x2 x3 x4 x10 x11 x12 x13 hp I2 K))
def F127_j4 (x0a:OA) (x0n x0c:Nat) (x1 x2 x3:Int) (x4:Value) (x10 x11:Bool) (x12 x13 x14:Int) (hp:HP) (I2:(Int × Int × Int × Bool × Bool)→HP→Prop) (K:Kh):Prop:=
  (ite2 x10 (ite2 x11 (F127_j7 x0a x0n x0c x1 x2 x3 x4 x10 x11 x12 x13 ((x14:Int)==1) hp I2 K) (F127_j7 x0a x0n x0c x1 x2 x3 x4 x10 x11 x12 x13 false hp I2 K)) (F127_j7 x0a x0n x0c x1 x2 x3 x4 x10 x11 x12 x13 false hp I2 K))
def F127_j3 (x0a:OA) (x0n x0c:Nat) (x1 x2 x3:Int) (x4:Value) (x10 x11:Bool) (x12:Int) (hp:HP) (I2:(Int × Int × Int × Bool × Bool)→HP→Prop) (K:Kh):Prop:=
  (CF Tryz.prog 147 [(Value.slice x0a x0n x0c),(Value.int .i64 x1),(Value.int .i64 x2),x4] hp fun u_5 h_6=>(tup2V u_5 fun u_7 u_8=>(intV u_7 .i64 fun i_9=>(intV u_8 .i64 fun i_10=>(ite2 ((i_10:Int)==2) (CF Tryz.prog 148 [(Value.slice x0a x0n x0c),(Value.int .i64 x1),(Value.int .i64 x2),x4] h_6 fun u_39 h_40=>(F127_j4 x0a x0n x0c x1 x2 x3 x4 x10 x11 x12 (IntKind.wrap .i64 ((IntKind.wrap .i64 (x2-1))-(IntKind.wrap .i64 (i_9-x1)))) 1 h_40 I2 K)) (F127_j4 x0a x0n x0c x1 x2 x3 x4 x10 x11 x12 i_9 i_10 h_6 I2 K))))))
def F127_l2 (x0a:OA) (x0n x0c:Nat) (x4:Value) (K:Kh) (I2:(Int × Int × Int × Bool × Bool)→HP→Prop) (x1 x2 x3:Int) (x10 x11:Bool) (hp:HP):Prop:=
  (ite2 (decide (((IntKind.wrap .i64 (x2-x1)):Int)≤12)) (CF Tryz.prog 144 [(Value.slice x0a x0n x0c),(Value.int .i64 x1),(Value.int .i64 x2),x4] hp fun u_1 h_2=>(K (.tuple ⟨[]⟩) h_2)) (ite2 ((x3:Int)==0) (CF Tryz.prog 145 [(Value.slice x0a x0n x0c),(Value.int .i64 x1),(Value.int .i64 x2),x4] hp fun u_3 h_4=>(K (.tuple ⟨[]⟩) h_4)) (ite2 (!x10) (CF Tryz.prog 146 [(Value.slice x0a x0n x0c),(Value.int .i64 x1),(Value.int .i64 x2),x4] hp fun u_41 h_42=>(F127_j3 x0a x0n x0c x1 x2 (IntKind.wrap .i64 (x3-1)) x4 x10 x11 (IntKind.wrap .i64 (x2-x1)) h_42 I2 K)) (F127_j3 x0a x0n x0c x1 x2 x3 x4 x10 x11 (IntKind.wrap .i64 (x2-x1)) hp I2 K))))
def F127_j1 (x0a:OA) (x0n x0c:Nat) (x1 x2 x3:Int) (x4:Value) (x10 x11:Bool) (hp:HP) (K:Kh):Prop:=
  (LoopP (σ:=Int × Int × Int × Bool × Bool) (fun I s hp=>F127_l2 x0a x0n x0c x4  K I s.1 s.2.1 s.2.2.1 s.2.2.2.1 s.2.2.2.2 hp) (x1,x2,x3,x10,x11) hp)
def F127 (x0a:OA) (x0n x0c:Nat) (x1 x2 x3:Int) (x4:Value) (hp:HP) (K:Kh):Prop:=
  (F127_j1 x0a x0n x0c x1 x2 x3 x4 true true hp  K)
theorem F127_ok (x0a:OA) (x0n x0c:Nat) (x1 x2 x3:Int) (x4:Value) (hp:HP) (K:Kh) (h:F127 x0a x0n x0c x1 x2 x3 x4 hp K):CF Tryz.prog 127 [(Value.slice x0a x0n x0c),(Value.int .i64 x1),(Value.int .i64 x2),(Value.int .i64 x3),x4] hp K:=
  have L:∀ {Q} n,Snd Tryz.prog 148 (cAt Tryz.f127 (pth n)) Q (CW Tryz.prog 148 [] [] (cAt Tryz.f127 (pth n)) Q):=fun _=>Snd.leaf
  okF h Tryz.func127 (Snd.seq (L 2) (Snd.jn [(0,.s),(1,.i .i64),(2,.i .i64),(3,.i .i64),(4,.w),(10,.b),(11,.b)] (fun a hp=>F127_j1 a.1 a.2.1 a.2.2.1 a.2.2.2.1 a.2.2.2.2.1 a.2.2.2.2.2.1 a.2.2.2.2.2.2.1 a.2.2.2.2.2.2.2.1 a.2.2.2.2.2.2.2.2.1 hp  K) (L 5) (Snd.block 0 (Snd.lp (σ:=Int × Int × Int × Bool × Bool) [(0,.s),(1,.i .i64),(2,.i .i64),(3,.i .i64),(4,.w),(10,.b),(11,.b)] (fun a=>(a.2.2.2.1,a.2.2.2.2.1,a.2.2.2.2.2.1,a.2.2.2.2.2.2.2.1,a.2.2.2.2.2.2.2.2.1)) (fun a s=>(a.1,a.2.1,a.2.2.1,s.1,s.2.1,s.2.2.1,a.2.2.2.2.2.2.1,s.2.2.2.1,s.2.2.2.2,())) (fun a I s hp=>F127_l2 a.1 a.2.1 a.2.2.1 a.2.2.2.2.2.2.1  K I s.1 s.2.1 s.2.2.1 s.2.2.2.1 s.2.2.2.2 hp) (fun I2=>(Snd.block 1 (Snd.seq (L 67) (Snd.seq (L 163) (Snd.seq (L 355) (Snd.jn [(0,.s),(1,.i .i64),(2,.i .i64),(3,.i .i64),(4,.w),(10,.b),(11,.b),(12,.i .i64)] (fun a hp=>F127_j3 a.1 a.2.1 a.2.2.1 a.2.2.2.1 a.2.2.2.2.1 a.2.2.2.2.2.1 a.2.2.2.2.2.2.1 a.2.2.2.2.2.2.2.1 a.2.2.2.2.2.2.2.2.1 a.2.2.2.2.2.2.2.2.2.1 hp (fun s hp=>I2 (a.1,a.2.1,a.2.2.1,s.1,s.2.1,s.2.2.1,a.2.2.2.2.2.2.1,s.2.2.2.1,s.2.2.2.2,()) hp) K) (L 739) (Snd.seq (L 1507) (Snd.jn [(0,.s),(1,.i .i64),(2,.i .i64),(3,.i .i64),(4,.w),(10,.b),(11,.b),(12,.i .i64),(13,.i .i64),(14,.i .i64)] (fun a hp=>F127_j4 a.1 a.2.1 a.2.2.1 a.2.2.2.1 a.2.2.2.2.1 a.2.2.2.2.2.1 a.2.2.2.2.2.2.1 a.2.2.2.2.2.2.2.1 a.2.2.2.2.2.2.2.2.1 a.2.2.2.2.2.2.2.2.2.1 a.2.2.2.2.2.2.2.2.2.2.1 a.2.2.2.2.2.2.2.2.2.2.2.1 hp (fun s hp=>I2 (a.1,a.2.1,a.2.2.1,s.1,s.2.1,s.2.2.1,a.2.2.2.2.2.2.1,s.2.2.2.1,s.2.2.2.2,()) hp) K) (L 3043) (Snd.jn [(0,.s),(1,.i .i64),(2,.i .i64),(3,.i .i64),(4,.w),(10,.b),(11,.b),(12,.i .i64),(13,.i .i64)] (fun a hp=>F127_j5 a.1 a.2.1 a.2.2.1 a.2.2.2.1 a.2.2.2.2.1 a.2.2.2.2.2.1 a.2.2.2.2.2.2.1 a.2.2.2.2.2.2.2.1 a.2.2.2.2.2.2.2.2.1 a.2.2.2.2.2.2.2.2.2.1 a.2.2.2.2.2.2.2.2.2.2.1 hp (fun s hp=>I2 (a.1,a.2.1,a.2.2.1,s.1,s.2.1,s.2.2.1,a.2.2.2.2.2.2.1,s.2.2.2.1,s.2.2.2.2,()) hp) K) (Snd.jn [(0,.s),(1,.i .i64),(2,.i .i64),(3,.i .i64),(4,.w),(10,.b),(11,.b),(12,.i .i64),(13,.i .i64),(75,.b)] (fun a hp=>F127_j7 a.1 a.2.1 a.2.2.1 a.2.2.2.1 a.2.2.2.2.1 a.2.2.2.2.2.1 a.2.2.2.2.2.2.1 a.2.2.2.2.2.2.2.1 a.2.2.2.2.2.2.2.2.1 a.2.2.2.2.2.2.2.2.2.1 a.2.2.2.2.2.2.2.2.2.2.1 a.2.2.2.2.2.2.2.2.2.2.2.1 hp (fun s hp=>I2 (a.1,a.2.1,a.2.2.1,s.1,s.2.1,s.2.2.1,a.2.2.2.2.2.2.1,s.2.2.2.1,s.2.2.2.2,()) hp) K) (L 10211) (L 14307) (by rfl) (by kernel_rfl)) (Snd.seq (Snd.jn [(0,.s),(1,.i .i64),(2,.i .i64),(3,.i .i64),(4,.w),(10,.b),(11,.b),(12,.i .i64),(13,.i .i64),(97,.b)] (fun a hp=>F127_j6 a.1 a.2.1 a.2.2.1 a.2.2.2.1 a.2.2.2.2.1 a.2.2.2.2.2.1 a.2.2.2.2.2.2.1 a.2.2.2.2.2.2.2.1 a.2.2.2.2.2.2.2.2.1 a.2.2.2.2.2.2.2.2.2.1 a.2.2.2.2.2.2.2.2.2.2.1 a.2.2.2.2.2.2.2.2.2.2.2.1 hp (fun s hp=>I2 (a.1,a.2.1,a.2.2.1,s.1,s.2.1,s.2.2.1,a.2.2.2.2.2.2.1,s.2.2.2.1,s.2.2.2.2,()) hp) K) (L 20451) (L 28643) (by rfl) (by kernel_rfl)) (L 16355)) (by rfl) (by kernel_rfl)) (by rfl) (by kernel_rfl))) (by rfl) (by kernel_rfl))))))) (by rfl) (by kernel_rfl) (by kernel_rfl))) (by rfl) (by kernel_rfl))) (by kernel_rfl) (by kernel_rfl) (by kernel_rfl)
def F146_j3 (x0a:OA) (x0n x0c:Nat) (x1 x8:Int) (x9:OA) (x10 x11 x12:Int) (hp:HP) (I2:(Int)→HP→Prop) (K:Kh):Prop:=
  ((0≤((IntKind.wrap .i64 (x1+x12)):Int))∧(((IntKind.wrap .i64 (x1+x12)):Int)<(x0n:Nat))∧(ptrN x0a fun b_9 o_10=>(ldL (HP.cellN hp b_9 (o_10+Int.toNat (IntKind.wrap .i64 (x1+x12))*9) 9) fun l_11=>((0≤(x11:Int))∧((x11:Int)<(x0n:Nat))∧(ptrN x0a fun b_12 o_13=>(ldL (HP.cellN hp b_12 (o_13+Int.toNat x11*9) 9) fun l_14=>((0≤(x11:Int))∧((x11:Int)<(x0n:Nat))∧(ptrN x0a fun b_15 o_16=>((List.length l_11=9)∧(HP.stN hp b_15 (o_16+Int.toNat x11*9) l_11 fun h_17=>((0≤((IntKind.wrap .i64 (x1+x12)):Int))∧(((IntKind.wrap .i64 (x1+x12)):Int)<(x0n:Nat))∧(ptrN x0a fun b_18 o_19=>((List.length l_14=9)∧(HP.stN h_17 b_18 (o_19+Int.toNat (IntKind.wrap .i64 (x1+x12))*9) l_14 fun h_20=>(I2 (IntKind.wrap .i64 (x11+1)) h_20)))))))))))))))
def F146_l2 (x0a:OA) (x0n x0c:Nat) (x1 x8:Int) (x9:OA) (x10:Int) (K:Kh) (I2:(Int)→HP→Prop) (x11:Int) (hp:HP):Prop:=
  (((4:Int)≠0)∧(ite2 (decide ((x11:Int)≤(IntKind.wrap .i64 ((IntKind.wrap .i64 (x1+(IntKind.wrap .i64 ((IntKind.wrap .i64 (Int.tdiv x8 4))*2))))+1)))) (CF Tryz.prog 167 [(Value.pointer x9)] hp fun u_6 h_7=>(intV u_6 .u64 fun i_8=>(ite2 (decide (((IntKind.wrap .i64 ((band .u64 i_8 (IntKind.wrap .u64 (x10-1))))):Int)≥x8)) (F146_j3 x0a x0n x0c x1 x8 x9 x10 x11 (IntKind.wrap .i64 ((IntKind.wrap .i64 ((band .u64 i_8 (IntKind.wrap .u64 (x10-1)))))-x8)) h_7 I2 K) (F146_j3 x0a x0n x0c x1 x8 x9 x10 x11 (IntKind.wrap .i64 ((band .u64 i_8 (IntKind.wrap .u64 (x10-1))))) h_7 I2 K)))) (K (.tuple ⟨[]⟩) hp)))
def F146_j1 (x0a:OA) (x0n x0c:Nat) (x1 x8:Int) (x9:OA) (x10 x11:Int) (hp:HP) (K:Kh):Prop:=
  (LoopP (σ:=Int) (fun I s hp=>F146_l2 x0a x0n x0c x1 x8 x9 x10  K I s hp) x11 hp)
def F146 (x0a:OA) (x0n x0c:Nat) (x1 x2:Int) (x3:Value) (hp:HP) (K:Kh):Prop:=
  (ite2 (decide (((IntKind.wrap .i64 (x2-x1)):Int)≥8)) (∀ b_1:Nat,hp b_1=.none→(HP.st (HP.set hp b_1 (.cells 235 [(Value.int .u64 0)] 0)) b_1 0 (Value.int .u64 (IntKind.wrap .u64 ((IntKind.wrap .i64 (x2-x1))))) fun h_2=>(CF Tryz.prog 166 [(Value.int .i64 (IntKind.wrap .i64 (x2-x1)))] h_2 fun u_3 h_4=>(intV u_3 .u64 fun i_5=>(((4:Int)≠0)∧(F146_j1 x0a x0n x0c x1 (IntKind.wrap .i64 (x2-x1)) (some ⟨b_1,0,none⟩) i_5 (IntKind.wrap .i64 ((IntKind.wrap .i64 (x1+(IntKind.wrap .i64 ((IntKind.wrap .i64 (Int.tdiv (IntKind.wrap .i64 (x2-x1)) 4))*2))))-1)) h_4  K)))))) (K (.tuple ⟨[]⟩) hp))
theorem F146_ok (x0a:OA) (x0n x0c:Nat) (x1 x2:Int) (x3:Value) (hp:HP) (K:Kh) (h:F146 x0a x0n x0c x1 x2 x3 hp K):CF Tryz.prog 146 [(Value.slice x0a x0n x0c),(Value.int .i64 x1),(Value.int .i64 x2),x3] hp K:=
  have L:∀ {Q} n,Snd Tryz.prog 67 (cAt Tryz.f146 (pth n)) Q (CW Tryz.prog 67 [] [] (cAt Tryz.f146 (pth n)) Q):=fun _=>Snd.leaf
  okF h Tryz.func146 (Snd.seq (L 2) (Snd.seq (L 5) (Snd.cond 17 (Snd.seq (L 19) (Snd.seq (L 43) (Snd.jn [(0,.s),(1,.i .i64),(8,.i .i64),(9,.p),(10,.i .u64),(11,.i .i64)] (fun a hp=>F146_j1 a.1 a.2.1 a.2.2.1 a.2.2.2.1 a.2.2.2.2.1 a.2.2.2.2.2.1 a.2.2.2.2.2.2.1 a.2.2.2.2.2.2.2.1 hp  K) (L 91) (Snd.block 0 (Snd.lp (σ:=Int) [(0,.s),(1,.i .i64),(8,.i .i64),(9,.p),(10,.i .u64),(11,.i .i64)] (fun a=>a.2.2.2.2.2.2.2.1) (fun a s=>(a.1,a.2.1,a.2.2.1,a.2.2.2.1,a.2.2.2.2.1,a.2.2.2.2.2.1,a.2.2.2.2.2.2.1,s,())) (fun a I s hp=>F146_l2 a.1 a.2.1 a.2.2.1 a.2.2.2.1 a.2.2.2.2.1 a.2.2.2.2.2.1 a.2.2.2.2.2.2.1  K I s hp) (fun I2=>(Snd.seq (L 571) (Snd.seq (Snd.block 1 (Snd.seq (L 4411) (Snd.jn [(0,.s),(1,.i .i64),(8,.i .i64),(9,.p),(10,.i .u64),(11,.i .i64),(12,.i .i64)] (fun a hp=>F146_j3 a.1 a.2.1 a.2.2.1 a.2.2.2.1 a.2.2.2.2.1 a.2.2.2.2.2.1 a.2.2.2.2.2.2.1 a.2.2.2.2.2.2.2.1 a.2.2.2.2.2.2.2.2.1 hp (fun s hp=>I2 (a.1,a.2.1,a.2.2.1,a.2.2.2.1,a.2.2.2.2.1,a.2.2.2.2.2.1,a.2.2.2.2.2.2.1,s,()) hp) K) (L 10555) (L 14651) (by rfl) (by kernel_rfl)))) (L 1851)))) (by rfl) (by kernel_rfl) (by kernel_rfl))) (by rfl) (by kernel_rfl)))) (L 15)))) (by kernel_rfl) (by kernel_rfl) (by kernel_rfl)
def F147_j1 (x11:OA) (x13:Int) (hp:HP) (K:Kh):Prop:=
  (ptrN x11 fun b_2 o_3=>(ldV (HP.cell hp b_2 o_3) fun v_4=>(intV v_4 .i64 fun i_5=>(ite2 ((i_5:Int)==0) (K (.tuple ⟨[(Value.int .i64 x13),(Value.int .i64 1)]⟩) hp) (ite2 ((i_5:Int)==12) (K (.tuple ⟨[(Value.int .i64 x13),(Value.int .i64 2)]⟩) hp) (K (.tuple ⟨[(Value.int .i64 x13),(Value.int .i64 0)]⟩) hp))))))
def F147_j2 (x0a:OA) (x0n x0c:Nat) (x3:Value) (x11:OA) (x12 x13 x14:Int) (hp:HP) (K:Kh):Prop:=
  (CF Tryz.prog 169 [(Value.slice x0a x0n x0c),(Value.int .i64 x12),(Value.int .i64 x13),(Value.int .i64 x14),(Value.pointer x11),x3] hp fun u_6 h_7=>(intV u_6 .i64 fun i_8=>(F147_j1 x11 i_8 h_7  K)))
def F147 (x0a:OA) (x0n x0c:Nat) (x1 x2:Int) (x3:Value) (hp:HP) (K:Kh):Prop:=
  (∀ b_1:Nat,hp b_1=.none→(((4:Int)≠0)∧(((4:Int)≠0)∧(((4:Int)≠0)∧(ite2 (decide (((IntKind.wrap .i64 (x2-x1)):Int)≥8)) (ite2 (decide (((IntKind.wrap .i64 (x2-x1)):Int)≥50)) (CF Tryz.prog 168 [(Value.slice x0a x0n x0c),(Value.int .i64 (IntKind.wrap .i64 (x1+(IntKind.wrap .i64 ((IntKind.wrap .i64 (Int.tdiv (IntKind.wrap .i64 (x2-x1)) 4))*1))))),(Value.pointer (some ⟨b_1,0,none⟩)),x3] (HP.set hp b_1 (.cells 3 [(Value.int .i64 0)] 0)) fun u_9 h_10=>(intV u_9 .i64 fun i_11=>(CF Tryz.prog 168 [(Value.slice x0a x0n x0c),(Value.int .i64 (IntKind.wrap .i64 (x1+(IntKind.wrap .i64 ((IntKind.wrap .i64 (Int.tdiv (IntKind.wrap .i64 (x2-x1)) 4))*2))))),(Value.pointer (some ⟨b_1,0,none⟩)),x3] h_10 fun u_12 h_13=>(intV u_12 .i64 fun i_14=>(CF Tryz.prog 168 [(Value.slice x0a x0n x0c),(Value.int .i64 (IntKind.wrap .i64 (x1+(IntKind.wrap .i64 ((IntKind.wrap .i64 (Int.tdiv (IntKind.wrap .i64 (x2-x1)) 4))*3))))),(Value.pointer (some ⟨b_1,0,none⟩)),x3] h_13 fun u_15 h_16=>(intV u_15 .i64 fun i_17=>(F147_j2 x0a x0n x0c x3 (some ⟨b_1,0,none⟩) i_11 i_14 i_17 h_16  K))))))) (F147_j2 x0a x0n x0c x3 (some ⟨b_1,0,none⟩) (IntKind.wrap .i64 (x1+(IntKind.wrap .i64 ((IntKind.wrap .i64 (Int.tdiv (IntKind.wrap .i64 (x2-x1)) 4))*1)))) (IntKind.wrap .i64 (x1+(IntKind.wrap .i64 ((IntKind.wrap .i64 (Int.tdiv (IntKind.wrap .i64 (x2-x1)) 4))*2)))) (IntKind.wrap .i64 (x1+(IntKind.wrap .i64 ((IntKind.wrap .i64 (Int.tdiv (IntKind.wrap .i64 (x2-x1)) 4))*3)))) (HP.set hp b_1 (.cells 3 [(Value.int .i64 0)] 0))  K)) (F147_j1 (some ⟨b_1,0,none⟩) (IntKind.wrap .i64 (x1+(IntKind.wrap .i64 ((IntKind.wrap .i64 (Int.tdiv (IntKind.wrap .i64 (x2-x1)) 4))*2)))) (HP.set hp b_1 (.cells 3 [(Value.int .i64 0)] 0))  K))))))
theorem F147_ok (x0a:OA) (x0n x0c:Nat) (x1 x2:Int) (x3:Value) (hp:HP) (K:Kh) (h:F147 x0a x0n x0c x1 x2 x3 hp K):CF Tryz.prog 147 [(Value.slice x0a x0n x0c),(Value.int .i64 x1),(Value.int .i64 x2),x3] hp K:=
  have L:∀ {Q} n,Snd Tryz.prog 63 (cAt Tryz.f147 (pth n)) Q (CW Tryz.prog 63 [] [] (cAt Tryz.f147 (pth n)) Q):=fun _=>Snd.leaf
  okF h Tryz.func147 (Snd.seq (L 2) (Snd.seq (L 5) (Snd.seq (L 11) (Snd.seq (L 23) (Snd.seq (L 47) (Snd.seq (L 95) (Snd.jn [(11,.p),(13,.i .i64)] (fun a hp=>F147_j1 a.1 a.2.1 hp  K) (Snd.seq (L 319) (Snd.cond 34 (Snd.jn [(0,.s),(3,.w),(11,.p),(12,.i .i64),(13,.i .i64),(14,.i .i64)] (fun a hp=>F147_j2 a.1 a.2.1 a.2.2.1 a.2.2.2.1 a.2.2.2.2.1 a.2.2.2.2.2.1 a.2.2.2.2.2.2.1 a.2.2.2.2.2.2.2.1 hp  K) (L 1215) (L 1727) (by rfl) (by kernel_rfl)) (L 959))) (L 255) (by rfl) (by kernel_rfl)))))))) (by kernel_rfl) (by kernel_rfl) (by kernel_rfl)
def F168 (x0a:OA) (x0n x0c:Nat) (x1:Int) (x2:OA) (x3:Value) (hp:HP) (K:Kh):Prop:=
  (CF Tryz.prog 169 [(Value.slice x0a x0n x0c),(Value.int .i64 (IntKind.wrap .i64 (x1-1))),(Value.int .i64 x1),(Value.int .i64 (IntKind.wrap .i64 (x1+1))),(Value.pointer x2),x3] hp fun u_1 h_2=>(intV u_1 .i64 fun i_3=>(K (Value.int .i64 i_3) h_2)))
theorem F168_ok (x0a:OA) (x0n x0c:Nat) (x1:Int) (x2:OA) (x3:Value) (hp:HP) (K:Kh) (h:F168 x0a x0n x0c x1 x2 x3 hp K):CF Tryz.prog 168 [(Value.slice x0a x0n x0c),(Value.int .i64 x1),(Value.pointer x2),x3] hp K:=
  have L:∀ {Q} n,Snd Tryz.prog 18 (cAt Tryz.f168 (pth n)) Q (CW Tryz.prog 18 [] [] (cAt Tryz.f168 (pth n)) Q):=fun _=>Snd.leaf
  okF h Tryz.func168 (L 1) (by kernel_rfl) (by kernel_rfl) (by kernel_rfl)
def F169 (x0a:OA) (x0n x0c:Nat) (x1 x2 x3:Int) (x4:OA) (x5:Value) (hp:HP) (K:Kh):Prop:=
  (CF Tryz.prog 179 [(Value.slice x0a x0n x0c),(Value.int .i64 x1),(Value.int .i64 x2),(Value.pointer x4),x5] hp fun u_1 h_2=>(tup2V u_1 fun u_3 u_4=>(intV u_3 .i64 fun i_5=>(intV u_4 .i64 fun i_6=>(CF Tryz.prog 179 [(Value.slice x0a x0n x0c),(Value.int .i64 i_6),(Value.int .i64 x3),(Value.pointer x4),x5] h_2 fun u_7 h_8=>(tup2V u_7 fun u_9 u_10=>(intV u_9 .i64 fun i_11=>(intV u_10 .i64 fun i_12=>(CF Tryz.prog 179 [(Value.slice x0a x0n x0c),(Value.int .i64 i_5),(Value.int .i64 i_11),(Value.pointer x4),x5] h_8 fun u_13 h_14=>(tup2V u_13 fun u_15 u_16=>(intV u_15 .i64 fun i_17=>(intV u_16 .i64 fun i_18=>(K (Value.int .i64 i_18) h_14)))))))))))))
theorem F169_ok (x0a:OA) (x0n x0c:Nat) (x1 x2 x3:Int) (x4:OA) (x5:Value) (hp:HP) (K:Kh) (h:F169 x0a x0n x0c x1 x2 x3 x4 x5 hp K):CF Tryz.prog 169 [(Value.slice x0a x0n x0c),(Value.int .i64 x1),(Value.int .i64 x2),(Value.int .i64 x3),(Value.pointer x4),x5] hp K:=
  have L:∀ {Q} n,Snd Tryz.prog 41 (cAt Tryz.f169 (pth n)) Q (CW Tryz.prog 41 [] [] (cAt Tryz.f169 (pth n)) Q):=fun _=>Snd.leaf
  okF h Tryz.func169 (L 1) (by kernel_rfl) (by kernel_rfl) (by kernel_rfl)
def F179 (x0a:OA) (x0n x0c:Nat) (x1 x2:Int) (x3:OA) (x4:Value) (hp:HP) (K:Kh):Prop:=
  ((0≤(x2:Int))∧((x2:Int)<(x0n:Nat))∧(ptrN x0a fun b_1 o_2=>(ldL (HP.cellN hp b_1 (o_2+Int.toNat x2*9) 9) fun l_3=>((0≤(x1:Int))∧((x1:Int)<(x0n:Nat))∧(ptrN x0a fun b_4 o_5=>(ldL (HP.cellN hp b_4 (o_5+Int.toNat x1*9) 9) fun l_6=>(fnV x4 fun f_7 ga_8 gb_9=>(CF Tryz.prog f_7 (ga_8++[(Value.agg ⟨l_3⟩),(Value.agg ⟨l_6⟩)]++gb_9) hp fun u_10 h_11=>(intV u_10 .i64 fun i_12=>(ite2 (decide ((i_12:Int)<0)) (ptrN x3 fun b_13 o_14=>(ldV (HP.cell h_11 b_13 o_14) fun v_15=>(intV v_15 .i64 fun i_16=>(ptrN x3 fun b_17 o_18=>(HP.st h_11 b_17 o_18 (Value.int .i64 (IntKind.wrap .i64 (i_16+1))) fun h_19=>(K (.tuple ⟨[(Value.int .i64 x2),(Value.int .i64 x1)]⟩) h_19)))))) (K (.tuple ⟨[(Value.int .i64 x1),(Value.int .i64 x2)]⟩) h_11)))))))))))
theorem F179_ok (x0a:OA) (x0n x0c:Nat) (x1 x2:Int) (x3:OA) (x4:Value) (hp:HP) (K:Kh) (h:F179 x0a x0n x0c x1 x2 x3 x4 hp K):CF Tryz.prog 179 [(Value.slice x0a x0n x0c),(Value.int .i64 x1),(Value.int .i64 x2),(Value.pointer x3),x4] hp K:=
  have L:∀ {Q} n,Snd Tryz.prog 32 (cAt Tryz.f179 (pth n)) Q (CW Tryz.prog 32 [] [] (cAt Tryz.f179 (pth n)) Q):=fun _=>Snd.leaf
  okF h Tryz.func179 (L 1) (by kernel_rfl) (by kernel_rfl) (by kernel_rfl)
def F80 (x0a:OA) (x0n x0c:Nat) (x1:Value) (hp:HP) (K:Kh):Prop:=
  (CF Tryz.prog 128 [(Value.int .u64 (IntKind.wrap .u64 ((x0n:Nat))))] hp fun u_1 h_2=>(intV u_1 .i64 fun i_3=>(CF Tryz.prog 127 [(Value.slice x0a x0n x0c),(Value.int .i64 0),(Value.int .i64 (x0n:Nat)),(Value.int .i64 i_3),x1] h_2 fun u_4 h_5=>(K (.tuple ⟨[]⟩) h_5))))
theorem F80_ok (x0a:OA) (x0n x0c:Nat) (x1:Value) (hp:HP) (K:Kh) (h:F80 x0a x0n x0c x1 hp K):CF Tryz.prog 80 [(Value.slice x0a x0n x0c),x1] hp K:=
  have L:∀ {Q} n,Snd Tryz.prog 14 (cAt Tryz.f80 (pth n)) Q (CW Tryz.prog 14 [] [] (cAt Tryz.f80 (pth n)) Q):=fun _=>Snd.leaf
  okF h Tryz.func80 (L 1) (by kernel_rfl) (by kernel_rfl) (by kernel_rfl)
end Go.Proofs
set_option linter.unusedVariables false
set_option maxRecDepth 20000
namespace Go.Proofs
open Go Go.HL
section
variable {f:FuncId} {ga gb:List Value} {hp0:HP} {b sp n c:Nat} {cf:Ss→Ss→Int}
theorem S146 {v:Value} {d:Array Ss} {lo hi:Nat} {K:Value→HP→Prop} (hs:d.size=n) (hlo:lo≤hi) (hf:hi≤n) (hn:n≤65535)
    (h:∀ d',Sort.PermIn lo hi d d'→K (.tuple ⟨[]⟩) (HA hp0 b 58 sp ssc d')) :
    CF Tryz.prog 146 [.slice (some ⟨b,0,none⟩) n c,.int .i64 lo,.int .i64 hi,v] (HA hp0 b 58 sp ssc d) K:=by
  refine CF.drop (F146_ok _ n c lo hi _ _ _ ?_)
  unfold F146
  have w1:IntKind.wrap .i64 ((hi:Int)-(lo:Int))=((hi-lo:Nat):Int):=wi (by omega) (by omega)
  rw [w1]
  by_cases h8:hi-lo≥8
  · rw [decide_eq_true (by omega:((hi-lo:Nat):Int)≥8),ite2_true]
    intro r hr
    obtain ⟨hrb,hr0⟩:=HA.ne_of_none hr
    refine HP.st_at (HP.set_eq ..) (by simp) ?_
    simp only [List.set_cons_zero,HP.set_set]
    rw [HA.set_comm hrb]
    refine C166 (n:=hi-lo) (by omega) fun L hL1 hL2 hL3=>?_
    have hL4:=hL3 (by omega)
    have hL5:2 ^ L≤2 ^ 16:=Nat.pow_le_pow_right (by omega) hL1
    rw [intV_int]
    refine ⟨by omega,?_⟩
    have e4:Int.tdiv ((hi-lo:Nat):Int) 4=(((hi-lo) / 4:Nat):Int):=rfl
    generalize hm:hi-lo=m at *
    rw [e4]
    have v1:IntKind.wrap .i64 ((m / 4:Nat):Int)=((m / 4:Nat):Int):=wi rfl (by omega)
    have v2:IntKind.wrap .i64 (((m / 4:Nat):Int)*2)=((m / 4*2:Nat):Int):=wi (by omega) (by omega)
    have v3:IntKind.wrap .i64 ((lo:Int)+((m / 4*2:Nat):Int))=((lo+m / 4*2:Nat):Int):=wi (by omega) (by omega)
    have v4:IntKind.wrap .i64 (((lo+m / 4*2:Nat):Int)-1)=((lo+m / 4*2-1:Nat):Int):=wi (by omega) (by omega)
    have v5:IntKind.wrap .i64 (((lo+m / 4*2:Nat):Int)+1)=((lo+m / 4*2+1:Nat):Int):=wi (by omega) (by omega)
    rw [v1,v2,v3,v4]
    unfold F146_j1
    generalize hz0:IntKind.wrap .u64 (m:Int)=z0
    refine LoopP.by (J:=fun k (x:Int) hp=>∃ (i:Nat) (d':Array Ss) (z:Int),x=i∧hp=HA (hp0.set r (.cells 235 [.int .u64 z] 0)) b 58 sp ssc d'∧Sort.PermIn lo hi d d'∧lo≤i∧k=lo+m / 4*2+2-i) ?_
      (n:=lo+m / 4*2+2-(lo+m / 4*2-1)) ⟨lo+m / 4*2-1,d,z0,rfl,rfl,Sort.permIn_refl d lo hi,by omega,rfl⟩
    rintro I k x hp ⟨i,d',z,rfl,rfl,hpm,hli,rfl⟩ hI
    unfold F146_l2
    refine ⟨by omega,?_⟩
    rw [e4,v1,v2,v3,v5]
    by_cases hi':i≤lo+m / 4*2+1
    · rw [decide_eq_true (by omega:(i:Int)≤((lo+m / 4*2+1:Nat):Int)),ite2_true]
      refine C167 (y:=z) (by rw [HA.ne hrb,HP.set_eq]) fun z'=>?_
      rw [HA.set_comm hrb,HP.set_set,intV_int]
      have u1:IntKind.wrap .u64 (((2 ^ L:Nat):Int)-1)=((2 ^ L-1:Nat):Int):=by rw [wu64 (by omega) (by omega)]; omega
      rw [u1]
      have hbd:=band_le (z:=z') (m:=((2 ^ L-1:Nat):Int)) (by omega) (by omega)
      generalize band .u64 z' ((2 ^ L-1:Nat):Int)=w at hbd
      obtain ⟨o,rfl⟩:∃ o:Nat,w=o:=⟨w.toNat,by omega⟩
      rw [w64 (n:=(o:Int)) (by omega) (by omega)]
      have hs':d'.size=n:=by rw [hpm.1]; exact hs
      have step:∀ o:Nat,o<m→F146_j3 (some ⟨b,0,none⟩) n c lo m (some ⟨r,0,none⟩) ((2 ^ L:Nat):Int) i o (HA (hp0.set r (.cells 235 [.int .u64 z'] 0)) b 58 sp ssc d') I (fun v hp'=>∃ hp'',HSub hp'' hp'∧K v hp''):=by
        intro o ho
        unfold F146_j3
        have x1:IntKind.wrap .i64 ((lo:Int)+(o:Int))=((lo+o:Nat):Int):=wi (by omega) (by omega)
        have x2:IntKind.wrap .i64 ((i:Int)+1)=((i+1:Nat):Int):=wi (by omega) (by omega)
        rw [x1,x2]
        refine swapP ssc_len ssc_one hs' (i:=i) (j:=lo+o) rfl rfl (by omega) (by omega) ?_
        exact hI (lo+m / 4*2+2-(i+1)) _ _ (by omega) ⟨i+1,_,z',rfl,rfl,Sort.permIn_trans _ _ _ _ _ hpm (Sort.swp_permIn d' lo hi i (lo+o) (by omega) (by omega) (by omega) (by omega) (by omega)),by omega,rfl⟩
      by_cases hom:o≥m
      · rw [decide_eq_true (by omega:(o:Int)≥(m:Int)),ite2_true]
        have x3:IntKind.wrap .i64 ((o:Int)-(m:Int))=((o-m:Nat):Int):=wi (by omega) (by omega)
        rw [x3]
        exact step (o-m) (by omega)
      · rw [decide_eq_false (by omega:¬ (o:Int)≥(m:Int)),ite2_false]
        exact step o (by omega)
    · rw [decide_eq_false (by omega:¬ (i:Int)≤((lo+m / 4*2+1:Nat):Int)),ite2_false]
      exact ⟨_,HA.sub (HSub.set_fresh hp0 _ hr0),h d' hpm⟩
  · rw [decide_eq_false (by omega:¬ ((hi-lo:Nat):Int)≥8),ite2_false]
    exact ⟨_,HSub.refl _,h d (Sort.permIn_refl d lo hi)⟩
/-- With the counter of swaps beside. -/
theorem S179 (hx:CmpX Tryz.prog f ga gb hp0 b 58 sp ssc n cf) {d:Array Ss} {i j r:Nat} {s:Int} {K:Value→HP→Prop} (hs:d.size=n) (hi:i<n) (hj:j<n) (hrb:r≠b) (hr0:hp0 r=.none)
    (h:∀ (s':Int) (x y:Nat),(x=i∧y=j)∨(x=j∧y=i)→K (.tuple ⟨[.int .i64 x,.int .i64 y]⟩) (HA (hp0.set r (.cells 3 [.int .i64 s'] 0)) b 58 sp ssc d)) :
    CF Tryz.prog 179 [.slice (some ⟨b,0,none⟩) n c,.int .i64 i,.int .i64 j,.pointer (some ⟨r,0,none⟩),.func (.func f) ⟨ga⟩ ⟨gb⟩] (HA (hp0.set r (.cells 3 [.int .i64 s] 0)) b 58 sp ssc d) K:=by
  refine F179_ok _ n c i j _ _ _ K ?_
  unfold F179
  refine cmpP (hx _ (HSub.set_fresh hp0 _ hr0)) ssc_len hs (i:=j) (j:=i) rfl rfl hj hi ?_
  cases decide (cf d[j]! d[i]!<0)
  · rw [ite2_false]
    exact h s i j (.inl ⟨rfl,rfl⟩)
  · have hc:(HA (hp0.set r (.cells 3 [.int .i64 s] 0)) b 58 sp ssc d) r=.cells 3 [.int .i64 s] 0:=by rw [HA.ne hrb,HP.set_eq]
    rw [ite2_true,ptrN_some,HP.cell_of hc]
    simp only [List.getElem?_cons_zero,ldV_some,intV_int,ptrN_some]
    refine HP.st_at hc (by simp) ?_
    rw [List.set_cons_zero,HA.set_comm hrb,HP.set_set]
    exact h _ j i (.inr ⟨rfl,rfl⟩)
theorem S169 (hx:CmpX Tryz.prog f ga gb hp0 b 58 sp ssc n cf) {d:Array Ss} {i j k r:Nat} {s:Int} {K:Value→HP→Prop} (hs:d.size=n) (hi:i<n) (hj:j<n) (hk:k<n) (hrb:r≠b) (hr0:hp0 r=.none)
    (h:∀ (s':Int) (x:Nat),x=i∨x=j∨x=k→K (.int .i64 x) (HA (hp0.set r (.cells 3 [.int .i64 s'] 0)) b 58 sp ssc d)) :
    CF Tryz.prog 169 [.slice (some ⟨b,0,none⟩) n c,.int .i64 i,.int .i64 j,.int .i64 k,.pointer (some ⟨r,0,none⟩),.func (.func f) ⟨ga⟩ ⟨gb⟩] (HA (hp0.set r (.cells 3 [.int .i64 s] 0)) b 58 sp ssc d) K:=by
  refine F169_ok _ n c i j k _ _ _ K ?_
  unfold F169
  refine S179 hx hs hi hj hrb hr0 fun s1 a1 b1 h1=>?_
  simp only [tup2V_mk,intV_int]
  refine S179 hx hs (by omega) hk hrb hr0 fun s2 a2 b2 h2=>?_
  simp only [tup2V_mk,intV_int]
  refine S179 hx hs (by omega) (by omega) hrb hr0 fun s3 a3 b3 h3=>?_
  simp only [tup2V_mk,intV_int]
  exact h s3 b3 (by omega)
theorem S168 (hx:CmpX Tryz.prog f ga gb hp0 b 58 sp ssc n cf) {d:Array Ss} {i r:Nat} {s:Int} {K:Value→HP→Prop} (hs:d.size=n) (hi0:0<i) (hi:i+1<n) (hn:n≤65535) (hrb:r≠b) (hr0:hp0 r=.none)
    (h:∀ (s':Int) (x:Nat),i-1≤x→x≤i+1→K (.int .i64 x) (HA (hp0.set r (.cells 3 [.int .i64 s'] 0)) b 58 sp ssc d)) :
    CF Tryz.prog 168 [.slice (some ⟨b,0,none⟩) n c,.int .i64 i,.pointer (some ⟨r,0,none⟩),.func (.func f) ⟨ga⟩ ⟨gb⟩] (HA (hp0.set r (.cells 3 [.int .i64 s] 0)) b 58 sp ssc d) K:=by
  refine F168_ok _ n c i _ _ _ K ?_
  unfold F168
  have v1:IntKind.wrap .i64 ((i:Int)-1)=((i-1:Nat):Int):=wi (by omega) (by omega)
  have v2:IntKind.wrap .i64 ((i:Int)+1)=((i+1:Nat):Int):=wi (by omega) (by omega)
  rw [v1,v2]
  refine S169 hx hs (by omega) (by omega) (by omega) hrb hr0 fun s1 x h1=>?_
  rw [intV_int]
  exact h s1 x (by omega) (by omega)
theorem S147 (hx:CmpX Tryz.prog f ga gb hp0 b 58 sp ssc n cf) {d:Array Ss} {lo hi:Nat} {K:Value→HP→Prop} (hs:d.size=n) (hlo:lo<hi) (hf:hi≤n) (hn:n≤65535)
    (h:∀ (p:Nat) (w:Int),lo≤p→p<hi→K (.tuple ⟨[.int .i64 p,.int .i64 w]⟩) (HA hp0 b 58 sp ssc d)) :
    CF Tryz.prog 147 [.slice (some ⟨b,0,none⟩) n c,.int .i64 lo,.int .i64 hi,.func (.func f) ⟨ga⟩ ⟨gb⟩] (HA hp0 b 58 sp ssc d) K:=by
  refine CF.drop (F147_ok _ n c lo hi _ _ _ ?_)
  unfold F147
  intro r hr
  obtain ⟨hrb,hr0⟩:=HA.ne_of_none hr
  have w1:IntKind.wrap .i64 ((hi:Int)-(lo:Int))=((hi-lo:Nat):Int):=wi (by omega) (by omega)
  have e4:Int.tdiv ((hi-lo:Nat):Int) 4=(((hi-lo) / 4:Nat):Int):=rfl
  simp only [w1,e4]
  refine ⟨by omega,by omega,by omega,?_⟩
  clear e4 w1
  rw [HA.set_comm hrb]
  have hmm:hi=lo+(hi-lo):=by omega
  generalize hi-lo=m at *
  subst hmm
  have v0:IntKind.wrap .i64 ((m / 4:Nat):Int)=((m / 4:Nat):Int):=wi rfl (by omega)
  have v1:IntKind.wrap .i64 (((m / 4:Nat):Int)*1)=((m / 4:Nat):Int):=wi (by omega) (by omega)
  have v2:IntKind.wrap .i64 (((m / 4:Nat):Int)*2)=((m / 4*2:Nat):Int):=wi (by omega) (by omega)
  have v3:IntKind.wrap .i64 (((m / 4:Nat):Int)*3)=((m / 4*3:Nat):Int):=wi (by omega) (by omega)
  have u1:IntKind.wrap .i64 ((lo:Int)+((m / 4:Nat):Int))=((lo+m / 4:Nat):Int):=wi (by omega) (by omega)
  have u2:IntKind.wrap .i64 ((lo:Int)+((m / 4*2:Nat):Int))=((lo+m / 4*2:Nat):Int):=wi (by omega) (by omega)
  have u3:IntKind.wrap .i64 ((lo:Int)+((m / 4*3:Nat):Int))=((lo+m / 4*3:Nat):Int):=wi (by omega) (by omega)
  simp only [v0,v1,v2,v3,u1,u2,u3]
  have fin:∀ (s:Int) (p:Nat),lo≤p→p<lo+m→F147_j1 (some ⟨r,0,none⟩) p (HA (hp0.set r (.cells 3 [.int .i64 s] 0)) b 58 sp ssc d) (fun v hp'=>∃ hp'',HSub hp'' hp'∧K v hp''):=by
    intro s p h1 h2
    have hc:(HA (hp0.set r (.cells 3 [.int .i64 s] 0)) b 58 sp ssc d) r=.cells 3 [.int .i64 s] 0:=by rw [HA.ne hrb,HP.set_eq]
    unfold F147_j1
    rw [ptrN_some,HP.cell_of hc]
    simp only [List.getElem?_cons_zero,ldV_some,intV_int]
    have hsub:=HA.sub (b:=b) (e:=58) (sp:=sp) (en:=ssc) (d:=d) (HSub.set_fresh hp0 (.cells 3 [.int .i64 s] 0) hr0)
    cases (s==0)
    · rw [ite2_false]
      cases (s==12)
      · rw [ite2_false]; exact ⟨_,hsub,h p 0 h1 h2⟩
      · rw [ite2_true]; exact ⟨_,hsub,h p 2 h1 h2⟩
    · rw [ite2_true]; exact ⟨_,hsub,h p 1 h1 h2⟩
  have fin2:∀ (s:Int) (i j k:Nat),lo≤i→i<lo+m→lo≤j→j<lo+m→lo≤k→k<lo+m→F147_j2 (some ⟨b,0,none⟩) n c (.func (.func f) ⟨ga⟩ ⟨gb⟩) (some ⟨r,0,none⟩) i j k (HA (hp0.set r (.cells 3 [.int .i64 s] 0)) b 58 sp ssc d) (fun v hp'=>∃ hp'',HSub hp'' hp'∧K v hp''):=by
    intro s i j k h1 h2 h3 h4 h5 h6
    unfold F147_j2
    refine S169 hx hs (by omega) (by omega) (by omega) hrb hr0 fun s1 x hx1=>?_
    rw [intV_int]
    exact fin s1 x (by omega) (by omega)
  by_cases h8:m≥8
  · rw [decide_eq_true (by omega:(m:Int)≥8),ite2_true]
    by_cases h50:m≥50
    · rw [decide_eq_true (by omega:(m:Int)≥50),ite2_true]
      refine S168 hx hs (by omega) (by omega) hn hrb hr0 fun s1 x1 a1 b1=>?_
      rw [intV_int]
      refine S168 hx hs (by omega) (by omega) hn hrb hr0 fun s2 x2 a2 b2=>?_
      rw [intV_int]
      refine S168 hx hs (by omega) (by omega) hn hrb hr0 fun s3 x3 a3 b3=>?_
      rw [intV_int]
      exact fin2 s3 x1 x2 x3 (by omega) (by omega) (by omega) (by omega) (by omega) (by omega)
    · rw [decide_eq_false (by omega:¬ (m:Int)≥50),ite2_false]
      exact fin2 0 _ _ _ (by omega) (by omega) (by omega) (by omega) (by omega) (by omega)
  · rw [decide_eq_false (by omega:¬ (m:Int)≥8),ite2_false]
    exact fin 0 _ (by omega) (by omega)
end
end Go.Proofs
set_option linter.unusedVariables false
set_option maxRecDepth 20000
namespace Go.Proofs
open Go Go.HL
def F144_j3 (x0a:OA) (x0n x0c:Nat) (x1 x2:Int) (x3:Value) (x8:Int) (hp:HP) (I2:(Int)→HP→Prop) (K:Kh):Prop:=
  (I2 (IntKind.wrap .i64 (x8+1)) hp)
def F144_j6 (x0a:OA) (x0n x0c:Nat) (x1 x2:Int) (x3:Value) (x8 x9:Int) (x34:Bool) (hp:HP) (I2 I5:(Int)→HP→Prop) (K:Kh):Prop:=
  (ite2 x34 ((0≤((IntKind.wrap .i64 (x9-1)):Int))∧(((IntKind.wrap .i64 (x9-1)):Int)<(x0n:Nat))∧(ptrN x0a fun b_1 o_2=>(ldL (HP.cellN hp b_1 (o_2+Int.toNat (IntKind.wrap .i64 (x9-1))*9) 9) fun l_3=>((0≤(x9:Int))∧((x9:Int)<(x0n:Nat))∧(ptrN x0a fun b_4 o_5=>(ldL (HP.cellN hp b_4 (o_5+Int.toNat x9*9) 9) fun l_6=>((0≤(x9:Int))∧((x9:Int)<(x0n:Nat))∧(ptrN x0a fun b_7 o_8=>((List.length l_3=9)∧(HP.stN hp b_7 (o_8+Int.toNat x9*9) l_3 fun h_9=>((0≤((IntKind.wrap .i64 (x9-1)):Int))∧(((IntKind.wrap .i64 (x9-1)):Int)<(x0n:Nat))∧(ptrN x0a fun b_10 o_11=>((List.length l_6=9)∧(HP.stN h_9 b_10 (o_11+Int.toNat (IntKind.wrap .i64 (x9-1))*9) l_6 fun h_12=>(I5 (IntKind.wrap .i64 (x9-1)) h_12))))))))))))))) (F144_j3 x0a x0n x0c x1 x2 x3 x8 hp I2 K))
def F144_l5 (x0a:OA) (x0n x0c:Nat) (x1 x2:Int) (x3:Value) (x8:Int) (I2:(Int)→HP→Prop) (K:Kh) (I5:(Int)→HP→Prop) (x9:Int) (hp:HP):Prop:=
  (ite2 (decide ((x9:Int) > x1)) ((0≤(x9:Int))∧((x9:Int)<(x0n:Nat))∧(ptrN x0a fun b_13 o_14=>(ldL (HP.cellN hp b_13 (o_14+Int.toNat x9*9) 9) fun l_15=>((0≤((IntKind.wrap .i64 (x9-1)):Int))∧(((IntKind.wrap .i64 (x9-1)):Int)<(x0n:Nat))∧(ptrN x0a fun b_16 o_17=>(ldL (HP.cellN hp b_16 (o_17+Int.toNat (IntKind.wrap .i64 (x9-1))*9) 9) fun l_18=>(fnV x3 fun f_19 ga_20 gb_21=>(CF Tryz.prog f_19 (ga_20++[(Value.agg ⟨l_15⟩),(Value.agg ⟨l_18⟩)]++gb_21) hp fun u_22 h_23=>(intV u_22 .i64 fun i_24=>(F144_j6 x0a x0n x0c x1 x2 x3 x8 x9 (decide ((i_24:Int)<0)) h_23 I2 I5 K)))))))))) (F144_j6 x0a x0n x0c x1 x2 x3 x8 x9 false hp I2 I5 K))
def F144_j4 (x0a:OA) (x0n x0c:Nat) (x1 x2:Int) (x3:Value) (x8 x9:Int) (hp:HP) (I2:(Int)→HP→Prop) (K:Kh):Prop:=
  (LoopP (σ:=Int) (fun I s hp=>F144_l5 x0a x0n x0c x1 x2 x3 x8 I2 K I s hp) x9 hp)
def F144_l2 (x0a:OA) (x0n x0c:Nat) (x1 x2:Int) (x3:Value) (K:Kh) (I2:(Int)→HP→Prop) (x8:Int) (hp:HP):Prop:=
  (ite2 (decide ((x8:Int)<x2)) (F144_j4 x0a x0n x0c x1 x2 x3 x8 x8 hp I2 K) (K (.tuple ⟨[]⟩) hp))
def F144_j1 (x0a:OA) (x0n x0c:Nat) (x1 x2:Int) (x3:Value) (x8:Int) (hp:HP) (K:Kh):Prop:=
  (LoopP (σ:=Int) (fun I s hp=>F144_l2 x0a x0n x0c x1 x2 x3  K I s hp) x8 hp)
def F144 (x0a:OA) (x0n x0c:Nat) (x1 x2:Int) (x3:Value) (hp:HP) (K:Kh):Prop:=
  (F144_j1 x0a x0n x0c x1 x2 x3 (IntKind.wrap .i64 (x1+1)) hp  K)
theorem F144_ok (x0a:OA) (x0n x0c:Nat) (x1 x2:Int) (x3:Value) (hp:HP) (K:Kh) (h:F144 x0a x0n x0c x1 x2 x3 hp K):CF Tryz.prog 144 [(Value.slice x0a x0n x0c),(Value.int .i64 x1),(Value.int .i64 x2),x3] hp K:=
  have L:∀ {Q} n,Snd Tryz.prog 53 (cAt Tryz.f144 (pth n)) Q (CW Tryz.prog 53 [] [] (cAt Tryz.f144 (pth n)) Q):=fun _=>Snd.leaf
  okF h Tryz.func144 (Snd.jn [(0,.s),(1,.i .i64),(2,.i .i64),(3,.w),(8,.i .i64)] (fun a hp=>F144_j1 a.1 a.2.1 a.2.2.1 a.2.2.2.1 a.2.2.2.2.1 a.2.2.2.2.2.1 a.2.2.2.2.2.2.1 hp  K) (L 2) (Snd.block 0 (Snd.lp (σ:=Int) [(0,.s),(1,.i .i64),(2,.i .i64),(3,.w),(8,.i .i64)] (fun a=>a.2.2.2.2.2.2.1) (fun a s=>(a.1,a.2.1,a.2.2.1,a.2.2.2.1,a.2.2.2.2.1,a.2.2.2.2.2.1,s,())) (fun a I s hp=>F144_l2 a.1 a.2.1 a.2.2.1 a.2.2.2.1 a.2.2.2.2.1 a.2.2.2.2.2.1  K I s hp) (fun I2=>(Snd.seq (L 17) (Snd.jn [(0,.s),(1,.i .i64),(2,.i .i64),(3,.w),(8,.i .i64)] (fun a hp=>F144_j3 a.1 a.2.1 a.2.2.1 a.2.2.2.1 a.2.2.2.2.1 a.2.2.2.2.2.1 a.2.2.2.2.2.2.1 hp (fun s hp=>I2 (a.1,a.2.1,a.2.2.1,a.2.2.2.1,a.2.2.2.2.1,a.2.2.2.2.2.1,s,()) hp) K) (Snd.block 1 (Snd.jn [(0,.s),(1,.i .i64),(2,.i .i64),(3,.w),(8,.i .i64),(9,.i .i64)] (fun a hp=>F144_j4 a.1 a.2.1 a.2.2.1 a.2.2.2.1 a.2.2.2.2.1 a.2.2.2.2.2.1 a.2.2.2.2.2.2.1 a.2.2.2.2.2.2.2.1 hp (fun s hp=>I2 (a.1,a.2.1,a.2.2.1,a.2.2.2.1,a.2.2.2.2.1,a.2.2.2.2.2.1,s,()) hp) K) (L 137) (Snd.block 2 (Snd.lp (σ:=Int) [(0,.s),(1,.i .i64),(2,.i .i64),(3,.w),(8,.i .i64),(9,.i .i64)] (fun a=>a.2.2.2.2.2.2.2.1) (fun a s=>(a.1,a.2.1,a.2.2.1,a.2.2.2.1,a.2.2.2.2.1,a.2.2.2.2.2.1,a.2.2.2.2.2.2.1,s,())) (fun a I s hp=>F144_l5 a.1 a.2.1 a.2.2.1 a.2.2.2.1 a.2.2.2.2.1 a.2.2.2.2.2.1 a.2.2.2.2.2.2.1 (fun s hp=>I2 (a.1,a.2.1,a.2.2.1,a.2.2.2.1,a.2.2.2.2.1,a.2.2.2.2.2.1,s,()) hp) K I s hp) (fun I5=>(Snd.seq (Snd.jn [(0,.s),(1,.i .i64),(2,.i .i64),(3,.w),(8,.i .i64),(9,.i .i64),(34,.b)] (fun a hp=>F144_j6 a.1 a.2.1 a.2.2.1 a.2.2.2.1 a.2.2.2.2.1 a.2.2.2.2.2.1 a.2.2.2.2.2.2.1 a.2.2.2.2.2.2.2.1 a.2.2.2.2.2.2.2.2.1 hp (fun s hp=>I2 (a.1,a.2.1,a.2.2.1,a.2.2.2.1,a.2.2.2.2.1,a.2.2.2.2.2.1,s,()) hp) (fun s hp=>I5 (a.1,a.2.1,a.2.2.1,a.2.2.2.1,a.2.2.2.2.1,a.2.2.2.2.2.1,a.2.2.2.2.2.2.1,s,()) hp) K) (L 2121) (L 3145) (by rfl) (by kernel_rfl)) (L 1609))) (by rfl) (by kernel_rfl) (by kernel_rfl))) (by rfl) (by kernel_rfl))) (L 57) (by rfl) (by kernel_rfl)))) (by rfl) (by kernel_rfl) (by kernel_rfl))) (by rfl) (by kernel_rfl)) (by kernel_rfl) (by kernel_rfl) (by kernel_rfl)
end Go.Proofs
