/- Parts of the proof of BibHeldProof: the logic of what is known of memory, functions' contracts. -/
import Derived.Test.YtpkhoemonibajaaDoorQBibHeldProofC
import Derived.Sort.LotB
import Derived.Sort.LotC
import Derived.Sort.LotA
import Derived.Sort.LotD1
import Derived.Test.YtpkhoemonibajaaDoorHlUse2
import Derived.Sort.LotD3
import Derived.Test.YtpkhoemonibajaaDoorHlAbb
import Derived.Test.YtpkhoemonibajaaDoorProg
import Derived.Test.YtpkhoemonibajaaDoorHlArg
import Derived.DataShut
import Derived.Test.YtpkhoemonibajaaDoorRows
import Derived.Test.YtpkhoemonibajaaDoorHlLaid
import Derived.ProofKit
import Derived.LaidLaws
set_option linter.unusedVariables false
set_option linter.unusedSimpArgs false
set_option linter.unusedVariables false
set_option linter.unusedSimpArgs false
set_option maxRecDepth 20000
namespace Go.Proofs
open Go Go.HL
open Go.Exp (Th tlt Ord setW dropW insW)
section
variable {tb:Obj} {hp:HP} {ps:Nat→HP} {s mx last:Nat} {L:List Sy} {w:List Th} {K:Value→HP→Prop}
/-- What is known, but for the table; the table. -/
def startP (hp:HP) (tb:Obj):Nat→HP:=pu (pu (fun _ _=>.none) 1 (HP.onlyF 0 (.obj tb))) 0 (hp.set 0 .none)
theorem startP_ok (ht:TabR tb hp):Parts hp (startP hp tb):=by
  refine Parts.of_two ?_ (HSub.onlyF ht.1) fun x=>?_
  · intro x
    by_cases hx:x=0
    · subst hx; exact .inl (HP.set_eq ..)
    · exact .inr (HP.set_ne _ _ hx)
  · by_cases hx:x=0
    · subst hx; exact .inl (HP.set_eq ..)
    · exact .inr (HP.onlyF_ne _ hx)
theorem startP_0:startP hp tb 0=hp.set 0 .none:=pu_eq ..
theorem startP_1 (ht:TabR tb hp):TabR tb (startP hp tb 1):=⟨by unfold startP; rw [pu_ne _ _ (by omega),pu_eq]; exact HP.onlyF_eq ..,ht.2⟩
theorem finish {hp':HP} (ht:TabR tb hp) (hP:Parts hp' ps) (h0:ps 0=hp.set 0 .none) (ht':TabR tb hp'):HSub hp hp':=fun x=>by
  by_cases hx:x=0
  · subst hx; right; rw [ht.1,ht'.1]
  · have:=hP.sub 0 x
    rw [h0,HP.set_ne _ _ hx] at this
    exact this
def ta (a port:Int):Q × Int:=((1,0,0,a),port)
theorem ta_ok {a port:Int} (ha:okB a) (hz:okZ port):okT (ta a port):=⟨⟨(by decide:(0:Int)≤1∧(1:Int)≤255),(by decide:(0:Int)≤0∧(0:Int)≤255),(by decide:(0:Int)≤0∧(0:Int)≤255),ha⟩,hz⟩
theorem okBc {n:Int} (h:decide (0≤n∧n≤255)=true):okB n:=@of_decide_eq_true (0≤n∧n≤255) _ h
theorem okZc {n:Int} (h:decide (-9223372036854775808≤n∧n≤9223372036854775807)=true):okZ n:=@of_decide_eq_true (-9223372036854775808≤n∧n≤9223372036854775807) _ h
end
end Go.Proofs
set_option linter.unusedVariables false
set_option maxRecDepth 20000
namespace Go.Proofs
open Go Go.HL
end Go.Proofs
set_option linter.unusedVariables false
set_option maxRecDepth 20000
namespace Go.Proofs
open Go Go.HL
section
variable {f:FuncId} {ga gb:List Value} {hp0:HP} {b sp n c:Nat} {cf:Sy→Sy→Int}
end
end Go.Proofs
set_option linter.unusedVariables false
set_option maxRecDepth 20000
namespace Go.Proofs
open Go Go.HL
section
variable {f:FuncId} {ga gb:List Value} {hp0:HP} {b sp n c:Nat} {cf:Sy→Sy→Int}
end
end Go.Proofs
set_option linter.unusedVariables false
set_option maxRecDepth 20000
namespace Go.Proofs
open Go Go.HL
section
variable {f:FuncId} {ga gb:List Value} {hp0:HP} {b sp n c:Nat} {cf:Sy→Sy→Int}
end
end Go.Proofs
set_option linter.unusedVariables false
set_option maxRecDepth 20000
namespace Go.Proofs
open Go Go.HL
section
variable {f:FuncId} {ga gb:List Value} {hp0:HP} {b sp n c:Nat} {cf:Sy→Sy→Int}
end
end Go.Proofs
set_option linter.unusedVariables false
set_option maxRecDepth 20000
namespace Go.Proofs
open Go Go.HL
section
variable {f:FuncId} {ga gb:List Value} {hp0:HP} {b sp n c:Nat} {cf:Sy→Sy→Int}
end
end Go.Proofs
set_option linter.unusedVariables false
set_option maxRecDepth 20000
namespace Go.Proofs
open Go Go.HL
section
variable {f:FuncId} {ga gb:List Value} {hp0:HP} {b sp n c:Nat} {cf:Sy→Sy→Int}
end
end Go.Proofs
set_option linter.unusedVariables false
set_option maxRecDepth 20000
namespace Go.Proofs
open Go Go.HL
section
variable {f:FuncId} {ga gb:List Value} {hp0:HP} {b sp n c:Nat} {cf:Sy→Sy→Int}
end
end Go.Proofs
set_option linter.unusedVariables false
namespace Go.HL
open Go
end Go.HL
set_option linter.unusedVariables false
set_option linter.unusedSimpArgs false
set_option maxRecDepth 20000
namespace Go.Proofs
open Go Go.HL
open Go.Exp (Th tlt Ord setW dropW insW)
section
variable {tb:Obj} {hq:HP} {s mx last:Nat} {L:List Sy} {w:List Th} {K:Value→HP→Prop}
end
end Go.Proofs
set_option linter.unusedVariables false
set_option linter.unusedSimpArgs false
set_option maxRecDepth 20000
namespace Go.Proofs
open Go Go.HL
section
variable {tb:Obj} {hq:HP} {t:Nat} {l:List Q} {low high:Int} {mx last n:Nat} {L:List Bd} {E:List (Bd × Nat)} {ps:Nat→HP} {m x o:Nat} {pl pm:Nat→Nat} {H:Nat→List ((Q × Int) × Bool)} {K:Value→HP→Prop}
end
end Go.Proofs
set_option linter.unusedVariables false
set_option linter.unusedSimpArgs false
set_option maxRecDepth 20000
namespace Go.Proofs
open Go Go.HL
section
variable {tb:Obj} {hp:HP} {ps:Nat→HP} {t:Nat} {l:List Q} {low high:Int} {mx last n:Nat} {L:List Bd} {K:Value→HP→Prop}
theorem N18 (hP:Parts hp ps) (i:Nat) (h:BdW tb (ps i) t l low high mx last n L) {p:Int} {a:V6 × Int} (hp':okZ p) (ha:okT6 a) (hn:n<1000000)
    (hno:roomB l low high mx L p a≠0→∀ r hp',BdW tb r t l low high mx last n L→Parts hp' (pu ps i r)→K (.tuple ⟨[.agg ⟨bdc bd0⟩,.int .i64 (roomB l low high mx L p a)]⟩) hp')
    (hyes:roomB l low high mx L p a=0→∀ u,tkB l low high L p a=some u→∀ r hp',BdW tb r t l low high mx (last+1) (n+1) (L++[⟨((last+1:Nat):Int),p,a,u,false,0⟩])→Parts hp' (pu ps i r)→K (.tuple ⟨[.agg ⟨bdc ⟨((last+1:Nat):Int),p,a,u,false,0⟩⟩,.int .i64 0]⟩) hp') :
    CF Tryd.prog 18 [ptr t 0,.int .i64 p,.agg ⟨t6 a⟩] hp K:=by
  refine CF.part hP i (P18 (K:=fun v q=>(roomB l low high mx L p a≠0∧v=.tuple ⟨[.agg ⟨bdc bd0⟩,.int .i64 (roomB l low high mx L p a)]⟩∧BdW tb q t l low high mx last n L) ∨
    (roomB l low high mx L p a=0∧∃ u,tkB l low high L p a=some u∧v=.tuple ⟨[.agg ⟨bdc ⟨((last+1:Nat):Int),p,a,u,false,0⟩⟩,.int .i64 0]⟩∧BdW tb q t l low high mx (last+1) (n+1) (L++[⟨((last+1:Nat):Int),p,a,u,false,0⟩])))
    h hp' ha hn (fun e=>.inl ⟨e,rfl,h⟩) fun e u hu q hq=>.inr ⟨e,u,hu,rfl,hq⟩) ?_
  rintro v q hp' (⟨e,rfl,hq⟩ | ⟨e,u,hu,rfl,hq⟩) hP'
  · exact hno e q hp' hq hP'
  · exact hyes e u hu q hp' hq hP'
theorem N24 (hP:Parts hp ps) (i:Nat) (h:BdW tb (ps i) t l low high mx last n L) {p:Int} {a:V6 × Int} {u:Q × Int} (hp':okZ p) (ha:okT6 a) (hu:okT u) (hn:n<1000000)
    (hno:bindB l mx L p a u≠0→∀ r hp',BdW tb r t l low high mx last n L→Parts hp' (pu ps i r)→K (.tuple ⟨[.agg ⟨bdc bd0⟩,.int .i64 (bindB l mx L p a u)]⟩) hp')
    (hyes:bindB l mx L p a u=0→∀ r hp',BdW tb r t l low high mx (last+1) (n+1) (L++[⟨((last+1:Nat):Int),p,a,u,true,0⟩])→Parts hp' (pu ps i r)→K (.tuple ⟨[.agg ⟨bdc ⟨((last+1:Nat):Int),p,a,u,true,0⟩⟩,.int .i64 0]⟩) hp') :
    CF Tryd.prog 24 [ptr t 0,.int .i64 p,.agg ⟨t6 a⟩,.agg ⟨t4 u⟩] hp K:=by
  refine CF.part hP i (W24 (K:=fun v q=>(bindB l mx L p a u≠0∧v=.tuple ⟨[.agg ⟨bdc bd0⟩,.int .i64 (bindB l mx L p a u)]⟩∧BdW tb q t l low high mx last n L) ∨
    (bindB l mx L p a u=0∧v=.tuple ⟨[.agg ⟨bdc ⟨((last+1:Nat):Int),p,a,u,true,0⟩⟩,.int .i64 0]⟩∧BdW tb q t l low high mx (last+1) (n+1) (L++[⟨((last+1:Nat):Int),p,a,u,true,0⟩])))
    h hp' ha hu hn (fun e=>.inl ⟨e,rfl,h⟩) fun e q hq=>.inr ⟨e,rfl,hq⟩) ?_
  rintro v q hp' (⟨e,rfl,hq⟩ | ⟨e,rfl,hq⟩) hP'
  · exact hno e q hp' hq hP'
  · exact hyes e q hp' hq hP'
theorem N25 (hP:Parts hp ps) (i:Nat) (h:BdW tb (ps i) t l low high mx last n L) {p:Int} {a:V6 × Int} (hp':okZ p) (ha:okT6 a)
    (hno:unbB L p a≠0→∀ r hp',BdW tb r t l low high mx last n L→Parts hp' (pu ps i r)→K (.tuple ⟨[.agg ⟨bdc bd0⟩,.int .i64 (unbB L p a)]⟩) hp')
    (hyes:∀ b,find6 p a L=some b→unbB L p a=0→b.st=true→∀ r hp',BdW tb r t l low high mx last n (L.filter fun z=>decide (z.id≠b.id))→Parts hp' (pu ps i r)→K (.tuple ⟨[.agg ⟨bdc b⟩,.int .i64 0]⟩) hp') :
    CF Tryd.prog 25 [ptr t 0,.int .i64 p,.agg ⟨t6 a⟩] hp K:=by
  refine CF.part hP i (W25 (K:=fun v q=>(unbB L p a≠0∧v=.tuple ⟨[.agg ⟨bdc bd0⟩,.int .i64 (unbB L p a)]⟩∧BdW tb q t l low high mx last n L) ∨
    (unbB L p a=0∧∃ b,find6 p a L=some b∧b.st=true∧v=.tuple ⟨[.agg ⟨bdc b⟩,.int .i64 0]⟩∧BdW tb q t l low high mx last n (L.filter fun z=>decide (z.id≠b.id))))
    h hp' ha (fun e=>.inl ⟨e,rfl,h⟩) fun b hb e hs q hq=>.inr ⟨e,b,hb,hs,rfl,hq⟩) ?_
  rintro v q hp' (⟨e,rfl,hq⟩ | ⟨e,b,hb,hs,rfl,hq⟩) hP'
  · exact hno e q hp' hq hP'
  · exact hyes b hb e hs q hp' hq hP'
theorem N21 (hP:Parts hp ps) (i:Nat) (h:BdW tb (ps i) t l low high mx last n L) {k:Int} (hn:n<1000000)
    (hno:findI k L=none→∀ r hp',BdW tb r t l low high mx last n L→Parts hp' (pu ps i r)→K (.int .i64 4) hp')
    (hyes:∀ b,findI k L=some b→∀ r hp',BdW tb r t l low high mx last (n+1) (updB k (b.ses+1) L)→Parts hp' (pu ps i r)→K (.int .i64 0) hp'):CF Tryd.prog 21 [ptr t 0,.int .i64 k] hp K:=by
  refine CF.part hP i (W21 (K:=fun v q=>(findI k L=none∧v=.int .i64 4∧BdW tb q t l low high mx last n L)∨(∃ b,findI k L=some b∧v=.int .i64 0∧BdW tb q t l low high mx last (n+1) (updB k (b.ses+1) L)))
    h hn (fun e=>.inl ⟨e,rfl,h⟩) fun b hb q hq=>.inr ⟨b,hb,rfl,hq⟩) ?_
  rintro v q hp' (⟨e,rfl,hq⟩ | ⟨b,hb,rfl,hq⟩) hP'
  · exact hno e q hp' hq hP'
  · exact hyes b hb q hp' hq hP'
theorem N22 (hP:Parts hp ps) (i:Nat) (h:BdW tb (ps i) t l low high mx last n L) {k:Int}
    (hno:findI k L=none→∀ r hp',BdW tb r t l low high mx last n L→Parts hp' (pu ps i r)→K (.tuple ⟨[.bool false,.int .i64 4]⟩) hp')
    (hz:∀ b,findI k L=some b→b.ses=0→∀ r hp',BdW tb r t l low high mx last n L→Parts hp' (pu ps i r)→K (.tuple ⟨[.bool false,.int .i64 11]⟩) hp')
    (hyes:∀ b,findI k L=some b→1≤b.ses→∀ r hp',BdW tb r t l low high mx last n (dropB b L)→Parts hp' (pu ps i r)→K (.tuple ⟨[.bool (!(b.st||decide (1<b.ses))),.int .i64 0]⟩) hp'):CF Tryd.prog 22 [ptr t 0,.int .i64 k] hp K:=by
  refine CF.part hP i (W22 (K:=fun v q=>(findI k L=none∧v=.tuple ⟨[.bool false,.int .i64 4]⟩∧BdW tb q t l low high mx last n L)∨(∃ b,findI k L=some b∧b.ses=0∧v=.tuple ⟨[.bool false,.int .i64 11]⟩∧BdW tb q t l low high mx last n L) ∨
    (∃ b,findI k L=some b∧1≤b.ses∧v=.tuple ⟨[.bool (!(b.st||decide (1<b.ses))),.int .i64 0]⟩∧BdW tb q t l low high mx last n (dropB b L)))
    h (fun e=>.inl ⟨e,rfl,h⟩) (fun b hb e=>.inr (.inl ⟨b,hb,e,rfl,h⟩)) fun b hb e q hq=>.inr (.inr ⟨b,hb,e,rfl,hq⟩)) ?_
  rintro v q hp' (⟨e,rfl,hq⟩ | ⟨b,hb,e,rfl,hq⟩ | ⟨b,hb,e,rfl,hq⟩) hP'
  · exact hno e q hp' hq hP'
  · exact hz b hb e q hp' hq hP'
  · exact hyes b hb e q hp' hq hP'
/-- A row of addresses does not lie in the table's block. -/
theorem shows_off {a:Option Addr} {n:Nat} {l:List Q} (ht:TabR tb hp) (hs:Shows hp a n 4 (l.flatMap v4)) (hl:l.length=n):Shows (hp.set 0 .none) a n 4 (l.flatMap v4):=by
  have hs0:=hs
  rcases hs with h | ⟨b,o,e,hc⟩
  · exact .inl h
  by_cases hn:n=0
  · subst hn
    have:l=[]:=List.eq_nil_of_length_eq_zero hl
    subst this
    exact .inl ⟨rfl,rfl⟩
  have hb:b≠0:=by
    rintro rfl
    obtain ⟨h0,ty,z,rfl⟩:=ht
    obtain ⟨b',o',e',hc'⟩:=hs0.get v4_len hl (show 0<n by omega)
    rw [e] at e'
    cases e'
    have hcell:=HP.cell_cellN hc' (j:=0) (v:=.int .u8 (l[0]'(by omega)).1) rfl
    unfold HP.cell at hcell
    rw [h0] at hcell
    simp only at hcell
    have hm:=List.mem_of_getElem? hcell
    simp at hm
  refine .inr ⟨b,o,e,?_⟩
  unfold HP.cellN at hc ⊢
  rw [HP.set_ne _ _ hb]
  exact hc
/-- A table beside what was known at first. -/
def BdS (tb:Obj) (hp0 hp:HP) (t:Nat) (l:List Q) (low high:Int) (mx last n:Nat) (L:List Bd):Prop:=
  ∃ ps:Nat→HP,Parts hp ps∧ps 0=hp0.set 0 .none∧BdW tb (ps 1) t l low high mx last n L∧∀ i,2≤i→∀ b,ps i b=.none
end
section
variable {tb:Obj} {hp0 hp:HP} {ps:Nat→HP} {t:Nat} {l:List Q} {low high:Int} {mx last n:Nat} {L:List Bd} {K:Value→HP→Prop}
theorem BdS.of (hP:Parts hp ps) (h0:ps 0=hp0.set 0 .none) (h1:BdW tb (ps 1) t l low high mx last n L):BdS tb hp0 hp t l low high mx last n L:=
  ⟨_,hP.cut 2,by simpa using h0,by simpa using h1,fun i hi b=>by simp only [show ¬ i<2 by omega,if_false]⟩
theorem BdS.pu {r:HP} (hP:Parts hp (pu ps 1 r)) (h0:ps 0=hp0.set 0 .none) (h1:BdW tb r t l low high mx last n L):BdS tb hp0 hp t l low high mx last n L:=
  BdS.of hP (by rw [pu_ne _ _ (by omega)]; exact h0) (by rw [pu_eq]; exact h1)
theorem BdS.w (h:BdS tb hp0 hp t l low high mx last n L):BdW tb hp t l low high mx last n L:=by
  obtain ⟨ps,P,h0,h1,_⟩:=h
  exact h1.sub (P.sub 1)
theorem BdS.fin (h:BdS tb hp0 hp t l low high mx last n L) (ht:TabR tb hp0):HSub hp0 hp:=by
  have hw:=h.w
  obtain ⟨ps,P,h0,h1,_⟩:=h
  exact finish ht P h0 hw.tab
theorem S17 {a:Option Addr} {n c:Nat} {l:List Q} {low high mx:Int} (ht:TabR tb hp) (hs:Shows hp a n 4 (l.flatMap v4)) (hl:l.length=n) (hnc:n≤c) (h1:okZ low) (h2:okZ high) (hq:∀ q∈l,okQ q)
    (hbad:¬ newBOk l low high mx→K (.tuple ⟨[.pointer none,.int .i64 1]⟩) hp)
    (hok:newBOk l low high mx→∀ t hp',BdS tb hp hp' t l low high mx.toNat 0 0 []→K (.tuple ⟨[ptr t 0,.int .i64 0]⟩) hp') :
    CF Tryd.prog 17 [.slice a n c,.int .i64 low,.int .i64 high,.int .i64 mx] hp K:=
  N17 (startP_ok ht) (by rw [startP_0]; exact shows_off ht hs hl) (startP_1 ht) hl hnc h1 h2 hq hbad fun hn t r hp' hr P=>hok hn t hp' (BdS.pu P startP_0 hr)
theorem S18 (h:BdS tb hp0 hp t l low high mx last n L) {p:Int} {a:V6 × Int} (hp':okZ p) (ha:okT6 a) (hn:n<1000000)
    (hno:roomB l low high mx L p a≠0→∀ hp',BdS tb hp0 hp' t l low high mx last n L→K (.tuple ⟨[.agg ⟨bdc bd0⟩,.int .i64 (roomB l low high mx L p a)]⟩) hp')
    (hyes:roomB l low high mx L p a=0→∀ u,tkB l low high L p a=some u→∀ hp',BdS tb hp0 hp' t l low high mx (last+1) (n+1) (L++[⟨((last+1:Nat):Int),p,a,u,false,0⟩])→K (.tuple ⟨[.agg ⟨bdc ⟨((last+1:Nat):Int),p,a,u,false,0⟩⟩,.int .i64 0]⟩) hp') :
    CF Tryd.prog 18 [ptr t 0,.int .i64 p,.agg ⟨t6 a⟩] hp K:=by
  obtain ⟨ps,P,h0,h1,_⟩:=h
  exact N18 P 1 h1 hp' ha hn (fun e r hp' hr P'=>hno e hp' (BdS.pu P' h0 hr)) fun e u hu r hp' hr P'=>hyes e u hu hp' (BdS.pu P' h0 hr)
theorem S24 (h:BdS tb hp0 hp t l low high mx last n L) {p:Int} {a:V6 × Int} {u:Q × Int} (hp':okZ p) (ha:okT6 a) (hu:okT u) (hn:n<1000000)
    (hno:bindB l mx L p a u≠0→∀ hp',BdS tb hp0 hp' t l low high mx last n L→K (.tuple ⟨[.agg ⟨bdc bd0⟩,.int .i64 (bindB l mx L p a u)]⟩) hp')
    (hyes:bindB l mx L p a u=0→∀ hp',BdS tb hp0 hp' t l low high mx (last+1) (n+1) (L++[⟨((last+1:Nat):Int),p,a,u,true,0⟩])→K (.tuple ⟨[.agg ⟨bdc ⟨((last+1:Nat):Int),p,a,u,true,0⟩⟩,.int .i64 0]⟩) hp') :
    CF Tryd.prog 24 [ptr t 0,.int .i64 p,.agg ⟨t6 a⟩,.agg ⟨t4 u⟩] hp K:=by
  obtain ⟨ps,P,h0,h1,_⟩:=h
  exact N24 P 1 h1 hp' ha hu hn (fun e r hp' hr P'=>hno e hp' (BdS.pu P' h0 hr)) fun e r hp' hr P'=>hyes e hp' (BdS.pu P' h0 hr)
theorem S25 (h:BdS tb hp0 hp t l low high mx last n L) {p:Int} {a:V6 × Int} (hp':okZ p) (ha:okT6 a)
    (hno:unbB L p a≠0→∀ hp',BdS tb hp0 hp' t l low high mx last n L→K (.tuple ⟨[.agg ⟨bdc bd0⟩,.int .i64 (unbB L p a)]⟩) hp')
    (hyes:∀ b,find6 p a L=some b→unbB L p a=0→b.st=true→∀ hp',BdS tb hp0 hp' t l low high mx last n (L.filter fun z=>decide (z.id≠b.id))→K (.tuple ⟨[.agg ⟨bdc b⟩,.int .i64 0]⟩) hp') :
    CF Tryd.prog 25 [ptr t 0,.int .i64 p,.agg ⟨t6 a⟩] hp K:=by
  obtain ⟨ps,P,h0,h1,_⟩:=h
  exact N25 P 1 h1 hp' ha (fun e r hp' hr P'=>hno e hp' (BdS.pu P' h0 hr)) fun b hb e hs r hp' hr P'=>hyes b hb e hs hp' (BdS.pu P' h0 hr)
theorem S21 (h:BdS tb hp0 hp t l low high mx last n L) {k:Int} (hn:n<1000000)
    (hno:findI k L=none→∀ hp',BdS tb hp0 hp' t l low high mx last n L→K (.int .i64 4) hp')
    (hyes:∀ b,findI k L=some b→∀ hp',BdS tb hp0 hp' t l low high mx last (n+1) (updB k (b.ses+1) L)→K (.int .i64 0) hp'):CF Tryd.prog 21 [ptr t 0,.int .i64 k] hp K:=by
  obtain ⟨ps,P,h0,h1,_⟩:=h
  exact N21 P 1 h1 hn (fun e r hp' hr P'=>hno e hp' (BdS.pu P' h0 hr)) fun b hb r hp' hr P'=>hyes b hb hp' (BdS.pu P' h0 hr)
theorem S22 (h:BdS tb hp0 hp t l low high mx last n L) {k:Int}
    (hno:findI k L=none→∀ hp',BdS tb hp0 hp' t l low high mx last n L→K (.tuple ⟨[.bool false,.int .i64 4]⟩) hp')
    (hz:∀ b,findI k L=some b→b.ses=0→∀ hp',BdS tb hp0 hp' t l low high mx last n L→K (.tuple ⟨[.bool false,.int .i64 11]⟩) hp')
    (hyes:∀ b,findI k L=some b→1≤b.ses→∀ hp',BdS tb hp0 hp' t l low high mx last n (dropB b L)→K (.tuple ⟨[.bool (!(b.st||decide (1<b.ses))),.int .i64 0]⟩) hp'):CF Tryd.prog 22 [ptr t 0,.int .i64 k] hp K:=by
  obtain ⟨ps,P,h0,h1,_⟩:=h
  exact N22 P 1 h1 (fun e r hp' hr P'=>hno e hp' (BdS.pu P' h0 hr)) (fun b hb e r hp' hr P'=>hz b hb e hp' (BdS.pu P' h0 hr)) fun b hb e r hp' hr P'=>hyes b hb e hp' (BdS.pu P' h0 hr)
end
end Go.Proofs
set_option linter.unusedVariables false
set_option linter.unusedSimpArgs false
namespace Go.Proofs
open Go Go.HL
section
variable {l:List Q} {low high:Int} {mx last n:Nat} {L:List Bd}
end
end Go.Proofs
set_option linter.unusedVariables false
set_option maxRecDepth 20000
namespace Go.Proofs
open Go Go.HL
section
variable {e E:Env} {x0 x1:Int} {k4:List Value} {hp:HP} {K:Env→PV→HP→Prop}
abbrev R19 (p n:Nat):=RW Tryd.prog 9 [4] (opsAt Tryd.f19 (pth p)) (List.range n)
theorem F19_r0:R19 2 1 e V0 hp K=
 K (upd e 4 (sR 4 0)) (upd V0 4 (32,[.int .u8 0,.int .u8 0,.int .u8 0,.int .u8 0,.int .u8 0,.int .u8 0,.int .u8 0,.int .u8 0,.int .u8 0,.int .u8 0,.int .u8 0,.int .u8 0,.int .u8 0,.int .u8 0,.int .u8 0,.int .u8 0,.int .i64 0])) hp:= by kernel_rfl
theorem F19_r1 (h:E=upd (w2 e 4 (sR 4 0) 1 (sI x1)) 0 (sV (.int .u8 x0))):R19 5 5 E (upd V0 4 (32,k4)) hp K=
    (if List.length [(Value.int .u8 32),(.int .u8 1),.int .u8 0,.int .u8 0,.int .u8 0,.int .u8 0,.int .u8 0,.int .u8 0,.int .u8 0,.int .u8 0,.int .u8 0,.int .u8 0,.int .u8 0,.int .u8 0,.int .u8 0,(.int .u8 x0)]=16 then (if List.length (List.set (splice [.int .u8 0,.int .u8 0,.int .u8 0,.int .u8 0,.int .u8 0,.int .u8 0,.int .u8 0,.int .u8 0,.int .u8 0,.int .u8 0,.int .u8 0,.int .u8 0,.int .u8 0,.int .u8 0,.int .u8 0,.int .u8 0,.int .i64 0] 0 [(.int .u8 32),(.int .u8 1),.int .u8 0,.int .u8 0,.int .u8 0,.int .u8 0,.int .u8 0,.int .u8 0,.int .u8 0,.int .u8 0,.int .u8 0,.int .u8 0,.int .u8 0,.int .u8 0,.int .u8 0,(.int .u8 x0)]) 16 (.int .i64 x1))=17 then (if List.all (List.set (splice [.int .u8 0,.int .u8 0,.int .u8 0,.int .u8 0,.int .u8 0,.int .u8 0,.int .u8 0,.int .u8 0,.int .u8 0,.int .u8 0,.int .u8 0,.int .u8 0,.int .u8 0,.int .u8 0,.int .u8 0,.int .u8 0,.int .i64 0] 0 [(.int .u8 32),(.int .u8 1),.int .u8 0,.int .u8 0,.int .u8 0,.int .u8 0,.int .u8 0,.int .u8 0,.int .u8 0,.int .u8 0,.int .u8 0,.int .u8 0,.int .u8 0,.int .u8 0,.int .u8 0,(.int .u8 x0)]) 16 (.int .i64 x1)) one=true then (if 0+List.length (List.set (splice [.int .u8 0,.int .u8 0,.int .u8 0,.int .u8 0,.int .u8 0,.int .u8 0,.int .u8 0,.int .u8 0,.int .u8 0,.int .u8 0,.int .u8 0,.int .u8 0,.int .u8 0,.int .u8 0,.int .u8 0,.int .u8 0,.int .i64 0] 0 [(.int .u8 32),(.int .u8 1),.int .u8 0,.int .u8 0,.int .u8 0,.int .u8 0,.int .u8 0,.int .u8 0,.int .u8 0,.int .u8 0,.int .u8 0,.int .u8 0,.int .u8 0,.int .u8 0,.int .u8 0,(.int .u8 x0)]) 16 (.int .i64 x1))≤List.length k4 then (K (w4 E 5 (sV (.int .u8 x0)) 6 (sV (.agg ⟨[(.int .u8 32),(.int .u8 1),.int .u8 0,.int .u8 0,.int .u8 0,.int .u8 0,.int .u8 0,.int .u8 0,.int .u8 0,.int .u8 0,.int .u8 0,.int .u8 0,.int .u8 0,.int .u8 0,.int .u8 0,(.int .u8 x0)]⟩)) 7 (sI x1) 8 (sV (.agg ⟨(List.set (splice [.int .u8 0,.int .u8 0,.int .u8 0,.int .u8 0,.int .u8 0,.int .u8 0,.int .u8 0,.int .u8 0,.int .u8 0,.int .u8 0,.int .u8 0,.int .u8 0,.int .u8 0,.int .u8 0,.int .u8 0,.int .u8 0,.int .i64 0] 0 [(.int .u8 32),(.int .u8 1),.int .u8 0,.int .u8 0,.int .u8 0,.int .u8 0,.int .u8 0,.int .u8 0,.int .u8 0,.int .u8 0,.int .u8 0,.int .u8 0,.int .u8 0,.int .u8 0,.int .u8 0,(.int .u8 x0)]) 16 (.int .i64 x1))⟩))) (w2 V0 4 (32,k4) 4 (32,(splice k4 0 (List.set (splice [.int .u8 0,.int .u8 0,.int .u8 0,.int .u8 0,.int .u8 0,.int .u8 0,.int .u8 0,.int .u8 0,.int .u8 0,.int .u8 0,.int .u8 0,.int .u8 0,.int .u8 0,.int .u8 0,.int .u8 0,.int .u8 0,.int .i64 0] 0 [(.int .u8 32),(.int .u8 1),.int .u8 0,.int .u8 0,.int .u8 0,.int .u8 0,.int .u8 0,.int .u8 0,.int .u8 0,.int .u8 0,.int .u8 0,.int .u8 0,.int .u8 0,.int .u8 0,.int .u8 0,(.int .u8 x0)]) 16 (.int .i64 x1))))) hp) else False) else False) else False) else False):=by subst h; kernel_rfl
def F19 (x0 x1:Int) (hp:HP) (K:Kh):Prop:=
  (if List.length [(Value.int .u8 32),(.int .u8 1),.int .u8 0,.int .u8 0,.int .u8 0,.int .u8 0,.int .u8 0,.int .u8 0,.int .u8 0,.int .u8 0,.int .u8 0,.int .u8 0,.int .u8 0,.int .u8 0,.int .u8 0,(.int .u8 x0)]=16 then (if List.length (List.set (splice [.int .u8 0,.int .u8 0,.int .u8 0,.int .u8 0,.int .u8 0,.int .u8 0,.int .u8 0,.int .u8 0,.int .u8 0,.int .u8 0,.int .u8 0,.int .u8 0,.int .u8 0,.int .u8 0,.int .u8 0,.int .u8 0,.int .i64 0] 0 [(.int .u8 32),(.int .u8 1),.int .u8 0,.int .u8 0,.int .u8 0,.int .u8 0,.int .u8 0,.int .u8 0,.int .u8 0,.int .u8 0,.int .u8 0,.int .u8 0,.int .u8 0,.int .u8 0,.int .u8 0,(.int .u8 x0)]) 16 (.int .i64 x1))=17 then (if List.all (List.set (splice [.int .u8 0,.int .u8 0,.int .u8 0,.int .u8 0,.int .u8 0,.int .u8 0,.int .u8 0,.int .u8 0,.int .u8 0,.int .u8 0,.int .u8 0,.int .u8 0,.int .u8 0,.int .u8 0,.int .u8 0,.int .u8 0,.int .i64 0] 0 [(.int .u8 32),(.int .u8 1),.int .u8 0,.int .u8 0,.int .u8 0,.int .u8 0,.int .u8 0,.int .u8 0,.int .u8 0,.int .u8 0,.int .u8 0,.int .u8 0,.int .u8 0,.int .u8 0,.int .u8 0,(.int .u8 x0)]) 16 (.int .i64 x1)) one=true then (if 0+List.length (List.set (splice [.int .u8 0,.int .u8 0,.int .u8 0,.int .u8 0,.int .u8 0,.int .u8 0,.int .u8 0,.int .u8 0,.int .u8 0,.int .u8 0,.int .u8 0,.int .u8 0,.int .u8 0,.int .u8 0,.int .u8 0,.int .u8 0,.int .i64 0] 0 [(.int .u8 32),(.int .u8 1),.int .u8 0,.int .u8 0,.int .u8 0,.int .u8 0,.int .u8 0,.int .u8 0,.int .u8 0,.int .u8 0,.int .u8 0,.int .u8 0,.int .u8 0,.int .u8 0,.int .u8 0,(.int .u8 x0)]) 16 (.int .i64 x1))≤List.length [(Value.int .u8 0),.int .u8 0,.int .u8 0,.int .u8 0,.int .u8 0,.int .u8 0,.int .u8 0,.int .u8 0,.int .u8 0,.int .u8 0,.int .u8 0,.int .u8 0,.int .u8 0,.int .u8 0,.int .u8 0,.int .u8 0,.int .i64 0] then (ldL (cellsN (splice [.int .u8 0,.int .u8 0,.int .u8 0,.int .u8 0,.int .u8 0,.int .u8 0,.int .u8 0,.int .u8 0,.int .u8 0,.int .u8 0,.int .u8 0,.int .u8 0,.int .u8 0,.int .u8 0,.int .u8 0,.int .u8 0,.int .i64 0] 0 (List.set (splice [.int .u8 0,.int .u8 0,.int .u8 0,.int .u8 0,.int .u8 0,.int .u8 0,.int .u8 0,.int .u8 0,.int .u8 0,.int .u8 0,.int .u8 0,.int .u8 0,.int .u8 0,.int .u8 0,.int .u8 0,.int .u8 0,.int .i64 0] 0 [(.int .u8 32),(.int .u8 1),.int .u8 0,.int .u8 0,.int .u8 0,.int .u8 0,.int .u8 0,.int .u8 0,.int .u8 0,.int .u8 0,.int .u8 0,.int .u8 0,.int .u8 0,.int .u8 0,.int .u8 0,(.int .u8 x0)]) 16 (.int .i64 x1))) 0 17) fun l1=>K (.agg ⟨l1⟩) hp) else False) else False) else False) else False)
noncomputable def F19_code:Code:=(.seq (.region 0 (opsAt Tryd.f19 (pth 2)) false) (.seq (.region 1 (opsAt Tryd.f19 (pth 5)) false) .ret))
theorem F19_body:Tryd.f19.body=some F19_code:=by kernel_rfl
theorem F19_ok (x0 x1:Int) (hp:HP) (K:Kh) (h:F19 x0 x1 hp K):CF Tryd.prog 19 [(.int .u8 x0),(.int .i64 x1)] hp K:=by
 refine .inl ⟨by kernel_rfl,AC.intro (N:=9) Tryd.func19 F19_body rfl (Nat.le_of_ble_eq_true rfl) ?_⟩
 unfold F19 at h
 refine Ar F19_r0 ?_ (r2 0 1 Rn) (z2 Sn) Sn
 refine Ar (F19_r1 rfl) ?_ (r2 0 1 (rp 4 4 0 Rn)) (z3 Sn) (z1 Sn)
 refine mf h fun h=>mf h fun h=>mf h fun h=>mf h fun h=>?_
 refine AWP.ret ?_
 exact h
end
section
variable {e E:Env} {x0 x1:Int} {k4:List Value} {hp:HP} {K:Env→PV→HP→Prop}
abbrev R20 (p n:Nat):=RW Tryd.prog 9 [4] (opsAt Tryd.f20 (pth p)) (List.range n)
theorem F20_r0:R20 2 1 e V0 hp K=
 K (upd e 4 (sR 4 0)) (upd V0 4 (34,[.int .u8 0,.int .u8 0,.int .u8 0,.int .u8 0,.int .i64 0])) hp:= by kernel_rfl
theorem F20_r1 (h:E=upd (w2 e 4 (sR 4 0) 1 (sI x1)) 0 (sV (.int .u8 x0))):R20 5 5 E (upd V0 4 (34,k4)) hp K=
    (if List.length [(Value.int .u8 1),.int .u8 0,.int .u8 0,(.int .u8 x0)]=4 then (if List.length (List.set (splice [.int .u8 0,.int .u8 0,.int .u8 0,.int .u8 0,.int .i64 0] 0 [(.int .u8 1),.int .u8 0,.int .u8 0,(.int .u8 x0)]) 4 (.int .i64 x1))=5 then (if List.all (List.set (splice [.int .u8 0,.int .u8 0,.int .u8 0,.int .u8 0,.int .i64 0] 0 [(.int .u8 1),.int .u8 0,.int .u8 0,(.int .u8 x0)]) 4 (.int .i64 x1)) one=true then (if 0+List.length (List.set (splice [.int .u8 0,.int .u8 0,.int .u8 0,.int .u8 0,.int .i64 0] 0 [(.int .u8 1),.int .u8 0,.int .u8 0,(.int .u8 x0)]) 4 (.int .i64 x1))≤List.length k4 then (K (w4 E 5 (sV (.int .u8 x0)) 6 (sV (.agg ⟨[(.int .u8 1),.int .u8 0,.int .u8 0,(.int .u8 x0)]⟩)) 7 (sI x1) 8 (sV (.agg ⟨(List.set (splice [.int .u8 0,.int .u8 0,.int .u8 0,.int .u8 0,.int .i64 0] 0 [(.int .u8 1),.int .u8 0,.int .u8 0,(.int .u8 x0)]) 4 (.int .i64 x1))⟩))) (w2 V0 4 (34,k4) 4 (34,(splice k4 0 (List.set (splice [.int .u8 0,.int .u8 0,.int .u8 0,.int .u8 0,.int .i64 0] 0 [(.int .u8 1),.int .u8 0,.int .u8 0,(.int .u8 x0)]) 4 (.int .i64 x1))))) hp) else False) else False) else False) else False):=by subst h; kernel_rfl
def F20 (x0 x1:Int) (hp:HP) (K:Kh):Prop:=
  (if List.length [(Value.int .u8 1),.int .u8 0,.int .u8 0,(.int .u8 x0)]=4 then (if List.length (List.set (splice [.int .u8 0,.int .u8 0,.int .u8 0,.int .u8 0,.int .i64 0] 0 [(.int .u8 1),.int .u8 0,.int .u8 0,(.int .u8 x0)]) 4 (.int .i64 x1))=5 then (if List.all (List.set (splice [.int .u8 0,.int .u8 0,.int .u8 0,.int .u8 0,.int .i64 0] 0 [(.int .u8 1),.int .u8 0,.int .u8 0,(.int .u8 x0)]) 4 (.int .i64 x1)) one=true then (if 0+List.length (List.set (splice [.int .u8 0,.int .u8 0,.int .u8 0,.int .u8 0,.int .i64 0] 0 [(.int .u8 1),.int .u8 0,.int .u8 0,(.int .u8 x0)]) 4 (.int .i64 x1))≤List.length [(Value.int .u8 0),.int .u8 0,.int .u8 0,.int .u8 0,.int .i64 0] then (ldL (cellsN (splice [.int .u8 0,.int .u8 0,.int .u8 0,.int .u8 0,.int .i64 0] 0 (List.set (splice [.int .u8 0,.int .u8 0,.int .u8 0,.int .u8 0,.int .i64 0] 0 [(.int .u8 1),.int .u8 0,.int .u8 0,(.int .u8 x0)]) 4 (.int .i64 x1))) 0 5) fun l1=>K (.agg ⟨l1⟩) hp) else False) else False) else False) else False)
noncomputable def F20_code:Code:=(.seq (.region 0 (opsAt Tryd.f20 (pth 2)) false) (.seq (.region 1 (opsAt Tryd.f20 (pth 5)) false) .ret))
theorem F20_body:Tryd.f20.body=some F20_code:=by kernel_rfl
theorem F20_ok (x0 x1:Int) (hp:HP) (K:Kh) (h:F20 x0 x1 hp K):CF Tryd.prog 20 [(.int .u8 x0),(.int .i64 x1)] hp K:=by
 refine .inl ⟨by kernel_rfl,AC.intro (N:=9) Tryd.func20 F20_body rfl (Nat.le_of_ble_eq_true rfl) ?_⟩
 unfold F20 at h
 refine Ar F20_r0 ?_ (r2 0 1 Rn) (z2 Sn) Sn
 refine Ar (F20_r1 rfl) ?_ (r2 0 1 (rp 4 4 0 Rn)) (z3 Sn) (z1 Sn)
 refine mf h fun h=>mf h fun h=>mf h fun h=>mf h fun h=>?_
 refine AWP.ret ?_
 exact h
end
section
variable {e E:Env} {x1:OA} {x2 x4 x6:Int} {x8:Bool} {k3 k7:List Value} {hp:HP} {K:Env→PV→HP→Prop}
abbrev R27 (p n:Nat):=RW Tryd.prog 69 [3,5,7,46,51] (opsAt Tryd.f27 (pth p)) (List.range n)
theorem F27_r0:R27 2 1 e V0 hp K=
 K (upd e 0 (sB false)) V0 hp:= by kernel_rfl
theorem F27_r1:R27 5 8 e V0 hp K=
    (if List.length [(Value.int .u8 1),.int .u8 0,.int .u8 0,(.int .u8 1)]=4 then (∀ b1:Nat,hp b1=.none→(CF Tryd.prog 17 [(.slice (some ⟨b1,0,none⟩) 1 1),(.int .i64 1024),(.int .i64 1027),(.int .i64 3)] (HP.set hp b1 (.cells 27 (splice [.int .u8 0,.int .u8 0,.int .u8 0,.int .u8 0] 0 [(.int .u8 1),.int .u8 0,.int .u8 0,(.int .u8 1)]) 0)) fun u2 h3=>tup2V u2 fun u4 u5=>ptrV u4 fun p6=>intV u5 .i64 fun i7=>K (w8 e 10 (sV (.agg ⟨[(.int .u8 1),.int .u8 0,.int .u8 0,(.int .u8 1)]⟩)) 11 (sV (.slice (some ⟨b1,0,none⟩) 1 1)) 12 (sV (.tuple ⟨[(.pointer p6),(.int .i64 i7)]⟩)) 9 (sV (.tuple ⟨[(.pointer p6),(.int .i64 i7)]⟩)) 13 (sP p6) 14 (sI i7) 1 (sP p6) 2 (sI i7)) V0 h3)) else False):=by kernel_rfl
theorem F27_r2:R27 75 1 e V0 hp K=
 K (upd e 0 (sB false)) V0 hp:= by kernel_rfl
theorem F27_r3:R27 23 9 (upd e 1 (sP x1)) V0 hp K=
 CF Tryd.prog 19 [(.int .u8 1),(.int .i64 5000)] hp fun u1 h2=>(aggV u1 fun l3=>CF Tryd.prog 18 [(.pointer x1),(.int .i64 17),(.agg ⟨l3⟩)] h2 fun u4 h5=>tup2V u4 fun u6 u7=>aggV u6 fun l8=>intV u7 .i64 fun i9=>if List.length l8=26 then (if List.all l8 one=true then (if 0+List.length l8≤List.length [(Value.int .i64 0),.int .i64 0,.int .u8 0,.int .u8 0,.int .u8 0,.int .u8 0,.int .u8 0,.int .u8 0,.int .u8 0,.int .u8 0,.int .u8 0,.int .u8 0,.int .u8 0,.int .u8 0,.int .u8 0,.int .u8 0,.int .u8 0,.int .u8 0,.int .i64 0,.int .u8 0,.int .u8 0,.int .u8 0,.int .u8 0,.int .i64 0,.bool false,.int .i64 0] then (K (upd (w8 e 1 (sP x1) 22 (sP x1) 23 (sA l3) 24 (sV (.tuple ⟨[(.agg ⟨l8⟩),(.int .i64 i9)]⟩)) 21 (sV (.tuple ⟨[(.agg ⟨l8⟩),(.int .i64 i9)]⟩)) 25 (sA l8) 26 (sI i9) 3 (sR 3 0)) 4 (sI i9)) (w2 V0 3 (36,[.int .i64 0,.int .i64 0,.int .u8 0,.int .u8 0,.int .u8 0,.int .u8 0,.int .u8 0,.int .u8 0,.int .u8 0,.int .u8 0,.int .u8 0,.int .u8 0,.int .u8 0,.int .u8 0,.int .u8 0,.int .u8 0,.int .u8 0,.int .u8 0,.int .i64 0,.int .u8 0,.int .u8 0,.int .u8 0,.int .u8 0,.int .i64 0,.bool false,.int .i64 0]) 3 (36,(splice [.int .i64 0,.int .i64 0,.int .u8 0,.int .u8 0,.int .u8 0,.int .u8 0,.int .u8 0,.int .u8 0,.int .u8 0,.int .u8 0,.int .u8 0,.int .u8 0,.int .u8 0,.int .u8 0,.int .u8 0,.int .u8 0,.int .u8 0,.int .u8 0,.int .i64 0,.int .u8 0,.int .u8 0,.int .u8 0,.int .u8 0,.int .i64 0,.bool false,.int .i64 0] 0 l8))) h5) else False) else False) else False):= by kernel_rfl
theorem F27_r4:R27 47 9 (upd e 1 (sP x1)) (upd V0 3 (36,k3)) hp K=
 CF Tryd.prog 19 [(.int .u8 1),(.int .i64 5000)] hp fun u1 h2=>(aggV u1 fun l3=>CF Tryd.prog 18 [(.pointer x1),(.int .i64 17),(.agg ⟨l3⟩)] h2 fun u4 h5=>tup2V u4 fun u6 u7=>aggV u6 fun l8=>intV u7 .i64 fun i9=>if List.length l8=26 then (if List.all l8 one=true then (if 0+List.length l8≤List.length [(Value.int .i64 0),.int .i64 0,.int .u8 0,.int .u8 0,.int .u8 0,.int .u8 0,.int .u8 0,.int .u8 0,.int .u8 0,.int .u8 0,.int .u8 0,.int .u8 0,.int .u8 0,.int .u8 0,.int .u8 0,.int .u8 0,.int .u8 0,.int .u8 0,.int .i64 0,.int .u8 0,.int .u8 0,.int .u8 0,.int .u8 0,.int .i64 0,.bool false,.int .i64 0] then (K (upd (w8 e 1 (sP x1) 28 (sP x1) 29 (sA l3) 30 (sV (.tuple ⟨[(.agg ⟨l8⟩),(.int .i64 i9)]⟩)) 27 (sV (.tuple ⟨[(.agg ⟨l8⟩),(.int .i64 i9)]⟩)) 31 (sA l8) 32 (sI i9) 5 (sR 5 0)) 6 (sI i9)) (w3 V0 3 (36,k3) 5 (36,[.int .i64 0,.int .i64 0,.int .u8 0,.int .u8 0,.int .u8 0,.int .u8 0,.int .u8 0,.int .u8 0,.int .u8 0,.int .u8 0,.int .u8 0,.int .u8 0,.int .u8 0,.int .u8 0,.int .u8 0,.int .u8 0,.int .u8 0,.int .u8 0,.int .i64 0,.int .u8 0,.int .u8 0,.int .u8 0,.int .u8 0,.int .i64 0,.bool false,.int .i64 0]) 5 (36,(splice [.int .i64 0,.int .i64 0,.int .u8 0,.int .u8 0,.int .u8 0,.int .u8 0,.int .u8 0,.int .u8 0,.int .u8 0,.int .u8 0,.int .u8 0,.int .u8 0,.int .u8 0,.int .u8 0,.int .u8 0,.int .u8 0,.int .u8 0,.int .u8 0,.int .i64 0,.int .u8 0,.int .u8 0,.int .u8 0,.int .u8 0,.int .i64 0,.bool false,.int .i64 0] 0 l8))) h5) else False) else False) else False):= by kernel_rfl
theorem F27_r5:R27 95 9 (upd e 1 (sP x1)) (upd V0 3 (36,k3)) hp K=
 CF Tryd.prog 20 [(.int .u8 1),(.int .i64 1024)] hp fun u1 h2=>(aggV u1 fun l3=>CF Tryd.prog 63 [(.pointer x1),(.int .i64 17),(.agg ⟨l3⟩)] h2 fun u4 h5=>tup2V u4 fun u6 u7=>aggV u6 fun l8=>boolV u7 fun q9=>if List.length l8=26 then (if List.all l8 one=true then (if 0+List.length l8≤List.length [(Value.int .i64 0),.int .i64 0,.int .u8 0,.int .u8 0,.int .u8 0,.int .u8 0,.int .u8 0,.int .u8 0,.int .u8 0,.int .u8 0,.int .u8 0,.int .u8 0,.int .u8 0,.int .u8 0,.int .u8 0,.int .u8 0,.int .u8 0,.int .u8 0,.int .i64 0,.int .u8 0,.int .u8 0,.int .u8 0,.int .u8 0,.int .i64 0,.bool false,.int .i64 0] then (K (upd (w8 e 1 (sP x1) 34 (sP x1) 35 (sA l3) 36 (sV (.tuple ⟨[(.agg ⟨l8⟩),(.bool q9)]⟩)) 33 (sV (.tuple ⟨[(.agg ⟨l8⟩),(.bool q9)]⟩)) 37 (sA l8) 38 (sB q9) 7 (sR 7 0)) 8 (sB q9)) (w3 V0 3 (36,k3) 7 (36,[.int .i64 0,.int .i64 0,.int .u8 0,.int .u8 0,.int .u8 0,.int .u8 0,.int .u8 0,.int .u8 0,.int .u8 0,.int .u8 0,.int .u8 0,.int .u8 0,.int .u8 0,.int .u8 0,.int .u8 0,.int .u8 0,.int .u8 0,.int .u8 0,.int .i64 0,.int .u8 0,.int .u8 0,.int .u8 0,.int .u8 0,.int .i64 0,.bool false,.int .i64 0]) 7 (36,(splice [.int .i64 0,.int .i64 0,.int .u8 0,.int .u8 0,.int .u8 0,.int .u8 0,.int .u8 0,.int .u8 0,.int .u8 0,.int .u8 0,.int .u8 0,.int .u8 0,.int .u8 0,.int .u8 0,.int .u8 0,.int .u8 0,.int .u8 0,.int .u8 0,.int .i64 0,.int .u8 0,.int .u8 0,.int .u8 0,.int .u8 0,.int .i64 0,.bool false,.int .i64 0] 0 l8))) h5) else False) else False) else False):= by kernel_rfl
theorem F27_r6 (h:E=upd (w5 e 8 (sB x8) 7 (sR 7 0) 6 (sI x6) 4 (sI x4) 3 (sR 3 0)) 1 (sP x1)):R27 191 31 E (w2 V0 7 (36,k7) 3 (36,k3)) hp K=
 ite2 (x4==0) (ite2 (x6==5) (ldV (k3)[0]? fun v1=>intV v1 .i64 fun i2=>ite2 (i2==1) (ldL (cellsN k3 19 5) fun l3=>CF Tryd.prog 20 [(.int .u8 1),(.int .i64 1024)] hp fun u4 h5=>aggV u4 fun l6=>eqAgg Tryd.prog 34 l3 l6 fun q7=>ite2 q7 (ite2 x8 (ldL (cellsN k7 0 26) fun l8=>ldL (cellsN k3 0 26) fun l9=>eqAgg Tryd.prog 36 l8 l9 fun q10=>ite2 q10 (CF Tryd.prog 23 [(.pointer x1)] h5 fun u11 h12=>intV u11 .i64 fun i13=>K (w7 (w8 (w8 (w8 E 39 (sI x4) 40 (sB ((x4==0))) 41 (sB true) 42 (sI x6) 43 (sB ((x6==5))) 44 (sB ((x6==5))) 45 (sB true) 46 (sR 3 0)) 47 (sI i2) 48 (sB ((i2==1))) 49 (sB ((i2==1))) 50 (sB true) 51 (sR 3 19) 52 (sA l3) 53 (sA l6) 54 (sB q7)) 55 (sB q7) 56 (sB true) 57 (sB x8) 58 (sB x8) 59 (sB true) 60 (sA l8) 61 (sA l9) 62 (sB q10)) 63 (sB q10) 64 (sB true) 65 (sP x1) 66 (sI i13) 67 (sB ((i13==1))) 68 (sB ((i13==1))) 0 (sB ((i13==1)))) (w2 V0 7 (36,k7) 3 (36,k3)) h12) (K (w7 (w8 (w8 (w8 E 39 (sI x4) 40 (sB ((x4==0))) 41 (sB true) 42 (sI x6) 43 (sB ((x6==5))) 44 (sB ((x6==5))) 45 (sB true) 46 (sR 3 0)) 47 (sI i2) 48 (sB ((i2==1))) 49 (sB ((i2==1))) 50 (sB true) 51 (sR 3 19) 52 (sA l3) 53 (sA l6) 54 (sB q7)) 55 (sB q7) 56 (sB true) 57 (sB x8) 58 (sB x8) 59 (sB true) 60 (sA l8) 61 (sA l9) 62 (sB q10)) 63 (sB q10) 64 (sB false) 65 sU 66 sU 67 sU 68 (sB false) 0 (sB false)) (w2 V0 7 (36,k7) 3 (36,k3)) h5)) (K (w7 (w8 (w8 (w8 E 39 (sI x4) 40 (sB ((x4==0))) 41 (sB true) 42 (sI x6) 43 (sB ((x6==5))) 44 (sB ((x6==5))) 45 (sB true) 46 (sR 3 0)) 47 (sI i2) 48 (sB ((i2==1))) 49 (sB ((i2==1))) 50 (sB true) 51 (sR 3 19) 52 (sA l3) 53 (sA l6) 54 (sB q7)) 55 (sB q7) 56 (sB true) 57 (sB x8) 58 (sB x8) 59 (sB false) 60 sU 61 sU 62 sU) 63 (sB false) 64 (sB false) 65 sU 66 sU 67 sU 68 (sB false) 0 (sB false)) (w2 V0 7 (36,k7) 3 (36,k3)) h5)) (K (w7 (w8 (w8 (w8 E 39 (sI x4) 40 (sB ((x4==0))) 41 (sB true) 42 (sI x6) 43 (sB ((x6==5))) 44 (sB ((x6==5))) 45 (sB true) 46 (sR 3 0)) 47 (sI i2) 48 (sB ((i2==1))) 49 (sB ((i2==1))) 50 (sB true) 51 (sR 3 19) 52 (sA l3) 53 (sA l6) 54 (sB q7)) 55 (sB q7) 56 (sB false) 57 sU 58 (sB false) 59 (sB false) 60 sU 61 sU 62 sU) 63 (sB false) 64 (sB false) 65 sU 66 sU 67 sU 68 (sB false) 0 (sB false)) (w2 V0 7 (36,k7) 3 (36,k3)) h5)) (K (w7 (w8 (w8 (w8 E 39 (sI x4) 40 (sB ((x4==0))) 41 (sB true) 42 (sI x6) 43 (sB ((x6==5))) 44 (sB ((x6==5))) 45 (sB true) 46 (sR 3 0)) 47 (sI i2) 48 (sB ((i2==1))) 49 (sB ((i2==1))) 50 (sB false) 51 sU 52 sU 53 sU 54 sU) 55 (sB false) 56 (sB false) 57 sU 58 (sB false) 59 (sB false) 60 sU 61 sU 62 sU) 63 (sB false) 64 (sB false) 65 sU 66 sU 67 sU 68 (sB false) 0 (sB false)) (w2 V0 7 (36,k7) 3 (36,k3)) hp)) (K (w7 (w8 (w8 (w8 E 39 (sI x4) 40 (sB ((x4==0))) 41 (sB true) 42 (sI x6) 43 (sB ((x6==5))) 44 (sB ((x6==5))) 45 (sB false) 46 sU) 47 sU 48 sU 49 (sB false) 50 (sB false) 51 sU 52 sU 53 sU 54 sU) 55 (sB false) 56 (sB false) 57 sU 58 (sB false) 59 (sB false) 60 sU 61 sU 62 sU) 63 (sB false) 64 (sB false) 65 sU 66 sU 67 sU 68 (sB false) 0 (sB false)) (w2 V0 7 (36,k7) 3 (36,k3)) hp)) (K (w7 (w8 (w8 (w8 E 39 (sI x4) 40 (sB ((x4==0))) 41 (sB false) 42 sU 43 sU 44 (sB false) 45 (sB false) 46 sU) 47 sU 48 sU 49 (sB false) 50 (sB false) 51 sU 52 sU 53 sU 54 sU) 55 (sB false) 56 (sB false) 57 sU 58 (sB false) 59 (sB false) 60 sU 61 sU 62 sU) 63 (sB false) 64 (sB false) 65 sU 66 sU 67 sU 68 (sB false) 0 (sB false)) (w2 V0 7 (36,k7) 3 (36,k3)) hp):= by subst h; kernel_rfl
def F27_j1 (x1:OA) (x20:Bool) (hp:HP) (K:Kh):Prop:=
  (ite2 x20 (K (.bool false) hp) (CF Tryd.prog 19 [(.int .u8 1),(.int .i64 5000)] hp fun u8 h9=>aggV u8 fun l10=>CF Tryd.prog 18 [(.pointer x1),(.int .i64 17),(.agg ⟨l10⟩)] h9 fun u11 h12=>tup2V u11 fun u13 u14=>aggV u13 fun l15=>intV u14 .i64 fun i16=>if List.length l15=26 then (if List.all l15 one=true then (if 0+List.length l15≤List.length [(Value.int .i64 0),.int .i64 0,.int .u8 0,.int .u8 0,.int .u8 0,.int .u8 0,.int .u8 0,.int .u8 0,.int .u8 0,.int .u8 0,.int .u8 0,.int .u8 0,.int .u8 0,.int .u8 0,.int .u8 0,.int .u8 0,.int .u8 0,.int .u8 0,.int .i64 0,.int .u8 0,.int .u8 0,.int .u8 0,.int .u8 0,.int .i64 0,.bool false,.int .i64 0] then (CF Tryd.prog 19 [(.int .u8 1),(.int .i64 5000)] h12 fun u17 h18=>aggV u17 fun l19=>CF Tryd.prog 18 [(.pointer x1),(.int .i64 17),(.agg ⟨l19⟩)] h18 fun u20 h21=>tup2V u20 fun u22 u23=>aggV u22 fun l24=>intV u23 .i64 fun i25=>if List.length l24=26 then (if List.all l24 one=true then (if 0+List.length l24≤List.length [(Value.int .i64 0),.int .i64 0,.int .u8 0,.int .u8 0,.int .u8 0,.int .u8 0,.int .u8 0,.int .u8 0,.int .u8 0,.int .u8 0,.int .u8 0,.int .u8 0,.int .u8 0,.int .u8 0,.int .u8 0,.int .u8 0,.int .u8 0,.int .u8 0,.int .i64 0,.int .u8 0,.int .u8 0,.int .u8 0,.int .u8 0,.int .i64 0,.bool false,.int .i64 0] then (CF Tryd.prog 20 [(.int .u8 1),(.int .i64 1024)] h21 fun u26 h27=>aggV u26 fun l28=>CF Tryd.prog 63 [(.pointer x1),(.int .i64 17),(.agg ⟨l28⟩)] h27 fun u29 h30=>tup2V u29 fun u31 u32=>aggV u31 fun l33=>boolV u32 fun q34=>if List.length l33=26 then (if List.all l33 one=true then (if 0+List.length l33≤List.length [(Value.int .i64 0),.int .i64 0,.int .u8 0,.int .u8 0,.int .u8 0,.int .u8 0,.int .u8 0,.int .u8 0,.int .u8 0,.int .u8 0,.int .u8 0,.int .u8 0,.int .u8 0,.int .u8 0,.int .u8 0,.int .u8 0,.int .u8 0,.int .u8 0,.int .i64 0,.int .u8 0,.int .u8 0,.int .u8 0,.int .u8 0,.int .i64 0,.bool false,.int .i64 0] then (ite2 (i16==0) (ite2 (i25==5) (ldV ((splice [.int .i64 0,.int .i64 0,.int .u8 0,.int .u8 0,.int .u8 0,.int .u8 0,.int .u8 0,.int .u8 0,.int .u8 0,.int .u8 0,.int .u8 0,.int .u8 0,.int .u8 0,.int .u8 0,.int .u8 0,.int .u8 0,.int .u8 0,.int .u8 0,.int .i64 0,.int .u8 0,.int .u8 0,.int .u8 0,.int .u8 0,.int .i64 0,.bool false,.int .i64 0] 0 l15))[0]? fun v35=>intV v35 .i64 fun i36=>ite2 (i36==1) (ldL (cellsN (splice [.int .i64 0,.int .i64 0,.int .u8 0,.int .u8 0,.int .u8 0,.int .u8 0,.int .u8 0,.int .u8 0,.int .u8 0,.int .u8 0,.int .u8 0,.int .u8 0,.int .u8 0,.int .u8 0,.int .u8 0,.int .u8 0,.int .u8 0,.int .u8 0,.int .i64 0,.int .u8 0,.int .u8 0,.int .u8 0,.int .u8 0,.int .i64 0,.bool false,.int .i64 0] 0 l15) 19 5) fun l37=>CF Tryd.prog 20 [(.int .u8 1),(.int .i64 1024)] h30 fun u38 h39=>aggV u38 fun l40=>eqAgg Tryd.prog 34 l37 l40 fun q41=>ite2 q41 (ite2 q34 (ldL (cellsN (splice [.int .i64 0,.int .i64 0,.int .u8 0,.int .u8 0,.int .u8 0,.int .u8 0,.int .u8 0,.int .u8 0,.int .u8 0,.int .u8 0,.int .u8 0,.int .u8 0,.int .u8 0,.int .u8 0,.int .u8 0,.int .u8 0,.int .u8 0,.int .u8 0,.int .i64 0,.int .u8 0,.int .u8 0,.int .u8 0,.int .u8 0,.int .i64 0,.bool false,.int .i64 0] 0 l33) 0 26) fun l42=>ldL (cellsN (splice [.int .i64 0,.int .i64 0,.int .u8 0,.int .u8 0,.int .u8 0,.int .u8 0,.int .u8 0,.int .u8 0,.int .u8 0,.int .u8 0,.int .u8 0,.int .u8 0,.int .u8 0,.int .u8 0,.int .u8 0,.int .u8 0,.int .u8 0,.int .u8 0,.int .i64 0,.int .u8 0,.int .u8 0,.int .u8 0,.int .u8 0,.int .i64 0,.bool false,.int .i64 0] 0 l15) 0 26) fun l43=>eqAgg Tryd.prog 36 l42 l43 fun q44=>ite2 q44 (CF Tryd.prog 23 [(.pointer x1)] h39 fun u45 h46=>intV u45 .i64 fun i47=>K (.bool (i47==1)) h46) (K (.bool false) h39)) (K (.bool false) h39)) (K (.bool false) h39)) (K (.bool false) h30)) (K (.bool false) h30)) (K (.bool false) h30)) else False) else False) else False) else False) else False) else False) else False) else False) else False))
theorem F27_r7 (h:E=upd (upd e 2 (sI x2)) 1 (sP x1)):R27 19 6 E V0 hp K=
 ite2 (x2 != 0) (K (w6 E 15 (sI x2) 16 (sB ((x2 != 0))) 17 (sB true) 18 sU 19 sU 20 (sB true)) V0 hp) (K (w6 E 15 (sI x2) 16 (sB ((x2 != 0))) 17 (sB false) 18 (sP x1) 19 (sB ((Option.isNone x1))) 20 (sB ((Option.isNone x1)))) V0 hp):= by subst h; kernel_rfl
def F27 (hp:HP) (K:Kh):Prop:=
  (if List.length [(Value.int .u8 1),.int .u8 0,.int .u8 0,(.int .u8 1)]=4 then (∀ b1:Nat,hp b1=.none→(CF Tryd.prog 17 [(.slice (some ⟨b1,0,none⟩) 1 1),(.int .i64 1024),(.int .i64 1027),(.int .i64 3)] (HP.set hp b1 (.cells 27 (splice [.int .u8 0,.int .u8 0,.int .u8 0,.int .u8 0] 0 [(.int .u8 1),.int .u8 0,.int .u8 0,(.int .u8 1)]) 0)) fun u2 h3=>tup2V u2 fun u4 u5=>ptrV u4 fun p6=>intV u5 .i64 fun i7=>ite2 (i7 != 0) (F27_j1 p6 true h3  K) (F27_j1 p6 (Option.isNone p6) h3  K))) else False)
noncomputable abbrev o27 (k n:Nat):Code:=.region k (opsAt Tryd.f27 (pth n)) false
noncomputable def F27_code:Code:=(.seq (o27 0 2) (.seq (o27 1 5) (.seq (.seq (o27 2 19) (.cond (.tmp 20) (.seq (o27 3 75) .ret) .skip)) (.seq (o27 4 23) (.seq (o27 5 47) (.seq (o27 6 95) (.seq (.region 7 (opsAt Tryd.f27 (pth 191)) true) .ret)))))))
theorem F27_body:Tryd.f27.body=some F27_code:=by kernel_rfl
theorem F27_ok (hp:HP) (K:Kh) (h:F27  hp K):CF Tryd.prog 27 [] hp K:=by
 refine .inl ⟨by kernel_rfl,AC.intro (N:=69) Tryd.func27 F27_body rfl (Nat.le_of_ble_eq_true rfl) ?_⟩
 unfold F27 at h
 refine Ar F27_r0 ?_ Rn Sn Sn
 refine Ar F27_r1 ?_ Rn Sn Sn
 refine mf h fun h=>?_
 refine fun b1 hb_b_1=>?_
 replace h:=h b1 hb_b_1
 refine mC h fun u2 h3 h=>mT h fun u4 u5 h=>mP h fun p6 h=>mI h fun i7 h=>?_
 refine Aq (As (fun env pv hp=>∃ x1 x20,Sub (w2 E0 20 (sB x20) 1 (sP x1)) env∧Sub V0 pv∧F27_j1 x1 x20 hp  K) ?_ ?_)
 ·refine Ag (F27_r7 rfl) ?_ (r2 1 2 Rn) (z2 Sn) Sn
  refine mt h (fun h=>?_) (fun h=>?_)
  ·exact ⟨_,_,(z2 Sn),Sn,h⟩
  ·exact ⟨_,_,(z2 Sn),Sn,h⟩
 ·rintro env pv hp ⟨x1,x20,he,hv,h⟩
  refine Ae ?_ (r2 1 20 Rn) he hv
  unfold F27_j1 at h
  refine Ac h rfl (fun h=>?_) (fun h=>?_)
  ·refine Ar F27_r2 ?_ Rn Sn Sn
   refine AWP.ret ?_
   exact h
  ·refine AWP.skip (Ar F27_r3 ?_ (r1 1 Rn) (z1 Sn) Sn)
   refine mC h fun u8 h9 h=>mA h fun l10 h=>mC h fun u11 h12 h=>mT h fun u13 u14 h=>mA h fun l15 h=>mI h fun i16 h=>mf h fun h=>mf h fun h=>mf h fun h=>?_
   refine Ar F27_r4 ?_ (r1 1 (rp 3 3 0 (r1 4 Rn))) (z3 Sn) (z1 Sn)
   refine mC h fun u17 h18 h=>mA h fun l19 h=>mC h fun u20 h21 h=>mT h fun u22 u23 h=>mA h fun l24 h=>mI h fun i25 h=>mf h fun h=>mf h fun h=>mf h fun h=>?_
   refine Ar F27_r5 ?_ (r1 1 (rp 3 3 0 (r2 4 6 Rn))) (z4 Sn) (z1 Sn)
   refine mC h fun u26 h27 h=>mA h fun l28 h=>mC h fun u29 h30 h=>mT h fun u31 u32 h=>mA h fun l33 h=>mB h fun q34 h=>mf h fun h=>mf h fun h=>mf h fun h=>?_
   refine Aq (AWP.rgnD (by kernel_rfl) (by kernel_rfl) (F27_r6 rfl) ?_ (r1 1 (rp 3 3 0 (r2 4 6 (rp 7 7 0 (r1 8 Rn))))) (z6 Sn) (z2 Sn))
   refine mt h (fun h=>?_) (fun h=>?_)
   ·refine mt h (fun h=>?_) (fun h=>?_)
    ·refine mV h fun v35 h=>mI h fun i36 h=>?_
     refine mt h (fun h=>?_) (fun h=>?_)
     ·refine mL h fun l37 h=>mC h fun u38 h39 h=>mA h fun l40 h=>mE h fun q41 h=>?_
      refine mt h (fun h=>?_) (fun h=>?_)
      ·refine mt h (fun h=>?_) (fun h=>?_)
       ·refine mL h fun l42 h=>mL h fun l43 h=>mE h fun q44 h=>?_
        refine mt h (fun h=>?_) (fun h=>?_)
        ·refine mC h fun u45 h46 h=>mI h fun i47 h=>?_
         refine AWP.ret ?_
         exact h
        ·refine AWP.ret ?_
         exact h
       ·refine AWP.ret ?_
        exact h
      ·refine AWP.ret ?_
       exact h
     ·refine AWP.ret ?_
      exact h
    ·refine AWP.ret ?_
     exact h
   ·refine AWP.ret ?_
    exact h
end
section
variable {e E:Env} {x0a:OA} {x0n x0c:Nat} {x1 x2:Int} {x3a:OA} {x3n x3c:Nat} {hp:HP} {K:Env→PV→HP→Prop}
abbrev R28 (p n:Nat):=RW Tryd.prog 34 [] (opsAt Tryd.f28 (pth p)) (List.range n)
theorem F28_r0:R28 2 1 e V0 hp K=
 K (upd e 8 (sB false)) V0 hp:= by kernel_rfl
theorem F28_r1 (h:E=upd (w3 e 3 (sS x3a x3n x3c) 2 (sI x2) 1 (sI x1)) 0 (sS x0a x0n x0c)):R28 5 26 E V0 hp K=
 ite2 (decide (((x0n:Nat):Int) > 10)) (K (w2 (w8 (w8 (w8 E 9 (sS x0a x0n x0c) 10 (sI ((x0n:Nat))) 11 (sB ((decide (((x0n:Nat):Int) > 10)))) 12 (sB true) 13 sU 14 sU 15 sU 16 (sB true)) 17 (sB true) 18 sU 19 sU 20 sU 21 sU 22 (sB true) 23 (sB true) 24 sU) 25 sU 26 sU 27 sU 28 sU 29 sU 30 sU 31 sU 32 sU) 33 (sB true) 8 (sB true)) V0 hp) (ite2 (decide (((x3n:Nat):Int) > 150)) (K (w2 (w8 (w8 (w8 E 9 (sS x0a x0n x0c) 10 (sI ((x0n:Nat))) 11 (sB ((decide (((x0n:Nat):Int) > 10)))) 12 (sB false) 13 (sS x3a x3n x3c) 14 (sI ((x3n:Nat))) 15 (sB ((decide (((x3n:Nat):Int) > 150)))) 16 (sB ((decide (((x3n:Nat):Int) > 150))))) 17 (sB true) 18 sU 19 sU 20 sU 21 sU 22 (sB true) 23 (sB true) 24 sU) 25 sU 26 sU 27 sU 28 sU 29 sU 30 sU 31 sU 32 sU) 33 (sB true) 8 (sB true)) V0 hp) (ite2 (decide (((wr (x2-x1)):Int) > 60)) (K (w2 (w8 (w8 (w8 E 9 (sS x0a x0n x0c) 10 (sI ((x0n:Nat))) 11 (sB ((decide (((x0n:Nat):Int) > 10)))) 12 (sB false) 13 (sS x3a x3n x3c) 14 (sI ((x3n:Nat))) 15 (sB ((decide (((x3n:Nat):Int) > 150)))) 16 (sB ((decide (((x3n:Nat):Int) > 150))))) 17 (sB false) 18 (sI x2) 19 (sI x1) 20 (sI ((wr (x2-x1)))) 21 (sB ((decide (((wr (x2-x1)):Int) > 60)))) 22 (sB ((decide (((wr (x2-x1)):Int) > 60)))) 23 (sB true) 24 sU) 25 sU 26 sU 27 sU 28 sU 29 sU 30 sU 31 sU 32 sU) 33 (sB true) 8 (sB true)) V0 hp) (ite2 (decide (((wr (x2-x1)):Int)<0)) (K (w2 (w8 (w8 (w8 E 9 (sS x0a x0n x0c) 10 (sI ((x0n:Nat))) 11 (sB ((decide (((x0n:Nat):Int) > 10)))) 12 (sB false) 13 (sS x3a x3n x3c) 14 (sI ((x3n:Nat))) 15 (sB ((decide (((x3n:Nat):Int) > 150)))) 16 (sB ((decide (((x3n:Nat):Int) > 150))))) 17 (sB false) 18 (sI x2) 19 (sI x1) 20 (sI ((wr (x2-x1)))) 21 (sB ((decide (((wr (x2-x1)):Int) > 60)))) 22 (sB ((decide (((wr (x2-x1)):Int) > 60)))) 23 (sB false) 24 (sI x2)) 25 (sI x1) 26 (sI ((wr (x2-x1)))) 27 (sB ((decide (((wr (x2-x1)):Int)<0)))) 28 (sB true) 29 (sI x2) 30 (sI x1) 31 (sB (decide (x2 > x1))) 32 (sB (decide (x2 > x1)))) 33 (sB (decide (x2 > x1))) 8 (sB (decide (x2 > x1)))) V0 hp) (K (w2 (w8 (w8 (w8 E 9 (sS x0a x0n x0c) 10 (sI ((x0n:Nat))) 11 (sB ((decide (((x0n:Nat):Int) > 10)))) 12 (sB false) 13 (sS x3a x3n x3c) 14 (sI ((x3n:Nat))) 15 (sB ((decide (((x3n:Nat):Int) > 150)))) 16 (sB ((decide (((x3n:Nat):Int) > 150))))) 17 (sB false) 18 (sI x2) 19 (sI x1) 20 (sI ((wr (x2-x1)))) 21 (sB ((decide (((wr (x2-x1)):Int) > 60)))) 22 (sB ((decide (((wr (x2-x1)):Int) > 60)))) 23 (sB false) 24 (sI x2)) 25 (sI x1) 26 (sI ((wr (x2-x1)))) 27 (sB ((decide (((wr (x2-x1)):Int)<0)))) 28 (sB false) 29 sU 30 sU 31 sU 32 (sB false)) 33 (sB false) 8 (sB false)) V0 hp)))):= by subst h; kernel_rfl
def F28 (x0a:OA) (x0n x0c:Nat) (x1 x2:Int) (x3a:OA) (x3n x3c:Nat) (hp:HP) (K:Kh):Prop:=
  (ite2 (decide (((x0n:Nat):Int) > 10)) (K (.bool true) hp) (ite2 (decide (((x3n:Nat):Int) > 150)) (K (.bool true) hp) (ite2 (decide (((IntKind.wrap .i64 (x2-x1)):Int) > 60)) (K (.bool true) hp) (ite2 (decide (((IntKind.wrap .i64 (x2-x1)):Int)<0)) (K (.bool (decide (x2 > x1))) hp) (K (.bool false) hp)))))
noncomputable def F28_code:Code:=(.seq (.region 0 (opsAt Tryd.f28 (pth 2)) false) (.seq (.region 1 (opsAt Tryd.f28 (pth 5)) false) .ret))
theorem F28_body:Tryd.f28.body=some F28_code:=by kernel_rfl
theorem F28_ok (x0a:OA) (x0n x0c:Nat) (x1 x2:Int) (x3a:OA) (x3n x3c:Nat) (hp:HP) (K:Kh) (h:F28 x0a x0n x0c x1 x2 x3a x3n x3c hp K):CF Tryd.prog 28 [(.slice x0a x0n x0c),(.int .i64 x1),(.int .i64 x2),(.slice x3a x3n x3c)] hp K:=by
 refine .inl ⟨by kernel_rfl,AC.intro (N:=34) Tryd.func28 F28_body rfl (Nat.le_of_ble_eq_true rfl) ?_⟩
 unfold F28 at h
 refine Ar F28_r0 ?_ (r4 0 1 2 3 Rn) (z4 Sn) Sn
 refine Ar (F28_r1 rfl) ?_ (r4 0 1 2 3 Rn) (z4 Sn) Sn
 refine mt h (fun h=>?_) (fun h=>?_)
 ·refine AWP.ret ?_
  exact h
 ·refine mt h (fun h=>?_) (fun h=>?_)
  ·refine AWP.ret ?_
   exact h
  ·refine mt h (fun h=>?_) (fun h=>?_)
   ·refine AWP.ret ?_
    exact h
   ·refine mt h (fun h=>?_) (fun h=>?_)
    ·refine AWP.ret ?_
     exact h
    ·refine AWP.ret ?_
     exact h
end
end Go.Proofs
namespace Go.Proofs
open Go Go.HL
abbrev zb36:List Value:=[(Value.int .i64 0),(Value.int .i64 0),(Value.int .u8 0),(Value.int .u8 0),(Value.int .u8 0),(Value.int .u8 0),(Value.int .u8 0),(Value.int .u8 0),(Value.int .u8 0),(Value.int .u8 0),(Value.int .u8 0),(Value.int .u8 0),(Value.int .u8 0),(Value.int .u8 0),(Value.int .u8 0),(Value.int .u8 0),(Value.int .u8 0),(Value.int .u8 0),(Value.int .i64 0),(Value.int .u8 0),(Value.int .u8 0),(Value.int .u8 0),(Value.int .u8 0),(Value.int .i64 0),(Value.bool false),(Value.int .i64 0)]
@[simp] theorem zb36_len:zb36.length=26:=rfl
end Go.Proofs
set_option linter.unusedVariables false
set_option linter.unusedSimpArgs false
set_option maxRecDepth 20000
namespace Go.Proofs
open Go Go.HL
open Go.Exp (Th tlt Ord setW dropW insW)
section
variable {tb:Obj} {hp:HP} {K:Value→HP→Prop}
end
end Go.Proofs
set_option linter.unusedVariables false
set_option linter.unusedSimpArgs false
set_option maxRecDepth 20000
namespace Go.Proofs
open Go Go.HL
open Go.Exp (Th tlt Ord setW dropW insW)
section
variable {hq hp:HP} {r:Nat} {mx:Int} {last:Nat} {L:List Sy} {K:Value→HP→Prop}
theorem eq34 {p q:Q × Int} {c:Bool→Prop} (h:c (decide (p=q))):eqAgg Tryd.prog 34 (t4 p) (t4 q) c:=eq75 h
end
end Go.Proofs
set_option linter.unusedVariables false
set_option linter.unusedSimpArgs false
set_option maxRecDepth 20000
namespace Go.Proofs
open Go Go.HL
theorem bdc_shaped (x:Bd):shaped Tryd.prog 5 36 (bdc x)=true:=by kernel_rfl
theorem eq36 {x y:Bd} {c:Bool→Prop} (h:c (decide (x=y))):eqAgg Tryd.prog 36 (bdc x) (bdc y) c:=
  eqAgg_of (m:=5) (D:=5) (by kernel_rfl) (bdc_shaped x) (bdc_shaped y) (by simp [bdc_inj]) h
/-- An inner address of few. -/
def inT (a port:Int):V6 × Int:=(((32,1,0,0),(0,0,0,0),(0,0,0,0),(0,0,0,a)),port)
theorem inT_ok {a port:Int} (ha:okB a) (hz:okZ port):okT6 (inT a port):=by
  have b0:okB 0:=okBc rfl
  exact ⟨⟨⟨okBc rfl,okBc rfl,b0,b0⟩,⟨b0,b0,b0,b0⟩,⟨b0,b0,b0,b0⟩,⟨b0,b0,b0,ha⟩⟩,hz⟩
section
variable {tb:Obj} {hp:HP} {K:Value→HP→Prop}
theorem C19 {a port:Int} (h:K (.agg ⟨t6 (inT a port)⟩) hp):CF Tryd.prog 19 [.int .u8 a,.int .i64 port] hp K:=by
  refine F19_ok a port hp K ?_
  unfold F19
  exact ifI rfl (ifI rfl (ifI rfl (ifI (Nat.le_refl 17) h)))
theorem C20 {a port:Int} (h:K (.agg ⟨t4 (ta a port)⟩) hp):CF Tryd.prog 20 [.int .u8 a,.int .i64 port] hp K:=by
  refine F20_ok a port hp K ?_
  unfold F20
  exact ifI rfl (ifI rfl (ifI rfl (ifI (Nat.le_refl 5) h)))
theorem C28 {a b:Option Addr} {n c m d:Nat} {low high:Int} (hl:okZ low) (hh:okZ high) (h:∀ g:Bool,(g=false→n≤10∧m≤150∧high-low≤60)→K (.bool g) hp):CF Tryd.prog 28 [.slice a n c,.int .i64 low,.int .i64 high,.slice b m d] hp K:=by
  refine F28_ok a n c low high b m d hp K ?_
  unfold F28
  have yes:K (.bool true) hp:=h true (fun e=>by cases e)
  by_cases h1:n > 10
  · rw [decide_eq_true (by omega:((n:Nat):Int) > 10),ite2_true]; exact yes
  rw [decide_eq_false (by omega:¬ ((n:Nat):Int) > 10),ite2_false]
  by_cases h2:m > 150
  · rw [decide_eq_true (by omega:((m:Nat):Int) > 150),ite2_true]; exact yes
  rw [decide_eq_false (by omega:¬ ((m:Nat):Int) > 150),ite2_false]
  unfold okZ at hl hh
  have key:∀ x:Int,x=IntKind.wrap .i64 (high-low)→(x=high-low∧-9223372036854775808≤high-low∧high-low≤9223372036854775807)∨(x=high-low-18446744073709551616∧high-low > 9223372036854775807)∨(x=high-low+18446744073709551616∧high-low < -9223372036854775808):=by
    intro x hx
    subst hx
    by_cases a1:high-low > 9223372036854775807
    · refine .inr (.inl ⟨?_,a1⟩)
      have e:(high-low) % 18446744073709551616=high-low:=Int.emod_eq_of_lt (by omega) (by omega)
      show (if (true&&decide ((high-low) % 18446744073709551616≥9223372036854775808))=true then (high-low) % 18446744073709551616-18446744073709551616 else (high-low) % 18446744073709551616)=_
      rw [e,if_pos (by rw [decide_eq_true (by omega)]; rfl)]
    · by_cases a2:high-low < -9223372036854775808
      · refine .inr (.inr ⟨?_,a2⟩)
        have e:(high-low) % 18446744073709551616=high-low+18446744073709551616:=by omega
        show (if (true&&decide ((high-low) % 18446744073709551616≥9223372036854775808))=true then (high-low) % 18446744073709551616-18446744073709551616 else (high-low) % 18446744073709551616)=_
        rw [e,if_neg (by rw [decide_eq_false (by omega)]; simp)]
      · exact .inl ⟨w64 (by omega) (by omega),by omega,by omega⟩
  have hk:=key _ rfl
  generalize IntKind.wrap .i64 (high-low)=x at hk
  by_cases h3:x > 60
  · rw [decide_eq_true h3,ite2_true]; exact yes
  rw [decide_eq_false h3,ite2_false]
  by_cases h4:x<0
  · rw [decide_eq_true h4,ite2_true]
    refine h _ fun e=>?_
    have e:=of_decide_eq_false e
    exact ⟨by omega,by omega,by omega⟩
  rw [decide_eq_false h4,ite2_false]
  exact h false fun _=>⟨by omega,by omega,by omega⟩
def qB:Q:=(1,0,0,1)
theorem okqB:∀ q∈[qB],okQ q:=fun q hq=>by
  rw [List.mem_singleton.1 hq]
  exact ⟨okBc rfl,okBc rfl,okBc rfl,okBc rfl⟩
theorem newOkB:newBOk [qB] 1024 1027 3:=⟨by decide,by decide,by decide⟩
/-- The row of one address at the start of a law of examples. -/
theorem rowB {b1:Nat} (hb0:b1≠0) (hp:HP):Shows (hp.set b1 (.cells 27 (v4 qB) 0)) (some ⟨b1,0,none⟩) 1 4 ([qB].flatMap v4):=
  .inr ⟨b1,0,rfl,by rw [HP.cellN_of (HP.set_eq ..)]; rfl⟩
set_option maxHeartbeats 1000000 in
theorem C27 (ht:TabR tb hp) (hK:∀ hp',HSub hp hp'→K (.bool true) hp'):CF Tryd.prog 27 [] hp K:=by
  refine F27_ok hp K ?_
  unfold F27
  refine ifI rfl ?_
  refine fun (b1:Nat) (hb1:hp b1=Ent.none)=>?_
  have ht0:TabR tb (hp.set b1 (.cells 27 (v4 qB) 0)):=ht.set hb1 _
  have hs0:HSub hp (hp.set b1 (.cells 27 (v4 qB) 0)):=HSub.set_fresh hp _ hb1
  have hb0:b1≠0:=fun e=>by rw [e,ht.1] at hb1; cases hb1
  have hrow:=rowB hb0 hp
  show CF Tryd.prog 17 _ (hp.set b1 (.cells 27 (v4 qB) 0)) _
  generalize hp.set b1 (.cells 27 (v4 qB) 0)=hp0 at *
  refine S17 ht0 (l:=[qB]) hrow rfl (Nat.le_refl _) (okZc rfl) (okZc rfl) okqB (fun hne=>absurd newOkB hne) fun _ t hp1 h1=>?_
  rw [tup2V_mk,pq,intV_int,show ((0:Int) != 0)=false from rfl,ite2_false]
  show F27_j1 (some ⟨t,0,none⟩) false hp1 K
  unfold F27_j1
  rw [ite2_false]
  have o1:okT6 (inT 1 5000):=inT_ok (okBc rfl) (okZc rfl)
  refine C19 ?_
  rw [aggV_agg]
  refine S18 h1 (okZc rfl) o1 (by decide) (fun hne=>absurd (by kernel_rfl) hne) fun _ u hu hp2 h2=>?_
  have eu:u=ta 1 1024:=by
    have:tkB [qB] 1024 1027 [] 17 (inT 1 5000)=some (ta 1 1024):=by kernel_rfl
    rw [this] at hu; exact (Option.some.inj hu).symm
  subst eu
  rw [tup2V_mk,aggV_agg,intV_int,if_pos (bdc_len _),if_pos (bdc_one _),if_pos (by simp [bdc_len]),bd_spl rfl]
  refine C19 ?_
  rw [aggV_agg]
  refine S18 h2 (okZc rfl) o1 (by decide) (fun _ hp3 h3=>?_) fun e=>absurd e (by decide +kernel)
  rw [tup2V_mk,aggV_agg,intV_int,if_pos (bdc_len _),if_pos (bdc_one _),if_pos (by simp [bdc_len])]
  refine C20 ?_
  rw [aggV_agg]
  refine W63 h3.w (okZc rfl) (ta_ok (okBc rfl) (okZc rfl)) ?_
  have ef:find4 17 (ta 1 1024) ([]++[(⟨((0+1:Nat):Int),17,inT 1 5000,ta 1 1024,false,0⟩:Bd)])=some ⟨1,17,inT 1 5000,ta 1 1024,false,0⟩:=by kernel_rfl
  rw [ef]
  unfold toldV
  rw [tup2V_mk,aggV_agg,boolV_bool,if_pos (bdc_len _),if_pos (bdc_one _),if_pos (by simp [bdc_len])]
  simp only [Option.getD_some]
  rw [bd_spl rfl]
  rw [show ((0:Int)==0)=true from rfl,ite2_true,show (roomB [qB] 1024 1027 (3:Int).toNat ([]++[(⟨((0+1:Nat):Int),17,inT 1 5000,ta 1 1024,false,0⟩:Bd)]) 17 (inT 1 5000)==5)=true by kernel_rfl,ite2_true,bdc_id,ldV_some,intV_int]
  show ite2 true _ _
  rw [ite2_true,bdc_out,ldL_some]
  refine C20 ?_
  rw [aggV_agg]
  refine eq34 ?_
  rw [decide_eq_true rfl,ite2_true]
  show ite2 true _ _
  rw [ite2_true,bdc_cells,ldL_some,bdc_cells,ldL_some]
  refine eq36 ?_
  rw [show (⟨((0+1:Nat):Int),17,inT 1 5000,ta 1 1024,false,0⟩:Bd)=⟨1,17,inT 1 5000,ta 1 1024,false,0⟩ from rfl,decide_eq_true rfl,ite2_true]
  refine W23 h3.w ?_
  rw [intV_int]
  exact hK hp3 (hs0.trans (h3.fin ht0))
end
end Go.Proofs
set_option linter.unusedVariables false
set_option maxRecDepth 20000
namespace Go.Proofs
open Go Go.HL
section
variable {e E:Env} {x0a:OA} {x0n x0c:Nat} {x1 x2 x3 x4 x5 x6 x7:Int} {x17:OA} {x18 x19 x20 x22 x23 x24:Int} {x25:Bool} {x26:Int} {x28:Bool} {x30 x32:Int} {x33:Bool} {x34 x36 x38:Int} {k21 k31 k35:List Value} {hp:HP} {K:Env→PV→HP→Prop}
abbrev R4 (p n:Nat):=RW Tryd.prog 231 [21,27,31,35,37,82,93,100,122,160,164,169,201,203,208] (opsAt Tryd.f4 (pth p)) (List.range n)
theorem F4_r0:R4 2 1 e V0 hp K=
 K (upd e 16 (sB false)) V0 hp:= by kernel_rfl
theorem F4_r1 (h:E=upd (w2 e 2 (sI x2) 1 (sI x1)) 0 (sS x0a x0n x0c)):R4 9 4 E V0 hp K=
 CF Tryd.prog 28 [(.slice x0a x0n x0c),(.int .i64 x1),(.int .i64 x2),(.slice none 0 0)] hp fun u1 h2=>(boolV u1 fun q3=>K (w4 E 39 (sS x0a x0n x0c) 40 (sI x1) 41 (sI x2) 42 (sB q3)) V0 h2):= by subst h; kernel_rfl
theorem F4_r2:R4 37 2 e V0 hp K=
 CF Tryd.prog 27 [] hp fun u1 h2=>(boolV u1 fun q3=>K (w2 e 43 (sB q3) 16 (sB q3)) V0 h2):= by kernel_rfl
theorem F4_r3 (h:E=upd (w3 e 3 (sI x3) 2 (sI x2) 1 (sI x1)) 0 (sS x0a x0n x0c)):R4 11 10 E V0 hp K=
 CF Tryd.prog 17 [(.slice x0a x0n x0c),(.int .i64 x1),(.int .i64 x2),(.int .i64 x3)] hp fun u1 h2=>(tup2V u1 fun u3 u4=>ptrV u3 fun p5=>intV u4 .i64 fun i6=>K (w2 (w8 E 45 (sS x0a x0n x0c) 46 (sI x1) 47 (sI x2) 48 (sI x3) 49 (sV (.tuple ⟨[(.pointer p5),(.int .i64 i6)]⟩)) 44 (sV (.tuple ⟨[(.pointer p5),(.int .i64 i6)]⟩)) 50 (sP p5) 51 (sI i6)) 17 (sP p5) 18 (sI i6)) V0 h2):= by subst h; kernel_rfl
theorem F4_r4:R4 39 2 (upd e 18 (sI x18)) V0 hp K=
 K (w3 e 18 (sI x18) 52 (sI x18) 53 (sB ((x18 != 0)))) V0 hp:= by kernel_rfl
theorem F4_r5:R4 151 6 (upd e 17 (sP x17)) V0 hp K=
 ite2 (Option.isNone x17) (CF Tryd.prog 27 [] hp fun u1 h2=>boolV u1 fun q3=>K (w7 e 17 (sP x17) 54 (sP x17) 55 (sB ((Option.isNone x17))) 56 (sB true) 57 (sB q3) 58 (sB q3) 16 (sB q3)) V0 h2) (K (w7 e 17 (sP x17) 54 (sP x17) 55 (sB ((Option.isNone x17))) 56 (sB false) 57 sU 58 (sB false) 16 (sB false)) V0 hp):= by kernel_rfl
theorem F4_r6:R4 47 5 (upd e 4 (sV (.int .u8 x4))) V0 hp K=
    (((20:Int)≠0)∧(K (w6 e 4 (sV (.int .u8 x4)) 59 (sV (.int .u8 x4)) 60 (sV (.int .u8 (Int.tmod x4 20))) 61 (sI ((wr ((Int.tmod x4 20))))) 62 (sI ((wr (1+(wr ((Int.tmod x4 20))))))) 19 (sI ((wr (1+(wr ((Int.tmod x4 20)))))))) V0 hp)):=by kernel_rfl
theorem F4_r7:R4 95 4 (w2 e 17 (sP x17) 5 (sI x5)) V0 hp K=
 CF Tryd.prog 26 [(.pointer x17),(.int .i64 x5)] hp fun u1 h2=>(intV u1 .i64 fun i3=>K (w6 e 17 (sP x17) 5 (sI x5) 63 (sP x17) 64 (sI x5) 65 (sI i3) 20 (sI i3)) V0 h2):= by kernel_rfl
theorem F4_r8 (h:E=upd (w2 e 17 (sP x17) 6 (sI x6)) 5 (sI x5)):R4 191 11 E V0 hp K=
 CF Tryd.prog 19 [(.int .u8 1),(.int .i64 x6)] hp fun u1 h2=>(aggV u1 fun l3=>CF Tryd.prog 18 [(.pointer x17),(.int .i64 x5),(.agg ⟨l3⟩)] h2 fun u4 h5=>tup2V u4 fun u6 u7=>aggV u6 fun l8=>intV u7 .i64 fun i9=>if List.length l8=26 then (if List.all l8 one=true then (if 0+List.length l8≤List.length [(Value.int .i64 0),.int .i64 0,.int .u8 0,.int .u8 0,.int .u8 0,.int .u8 0,.int .u8 0,.int .u8 0,.int .u8 0,.int .u8 0,.int .u8 0,.int .u8 0,.int .u8 0,.int .u8 0,.int .u8 0,.int .u8 0,.int .u8 0,.int .u8 0,.int .i64 0,.int .u8 0,.int .u8 0,.int .u8 0,.int .u8 0,.int .i64 0,.bool false,.int .i64 0] then (K (w2 (w8 E 67 (sP x17) 68 (sI x5) 69 (sI x6) 70 (sA l3) 71 (sV (.tuple ⟨[(.agg ⟨l8⟩),(.int .i64 i9)]⟩)) 66 (sV (.tuple ⟨[(.agg ⟨l8⟩),(.int .i64 i9)]⟩)) 72 (sA l8) 73 (sI i9)) 21 (sR 21 0) 22 (sI i9)) (w2 V0 21 (36,[.int .i64 0,.int .i64 0,.int .u8 0,.int .u8 0,.int .u8 0,.int .u8 0,.int .u8 0,.int .u8 0,.int .u8 0,.int .u8 0,.int .u8 0,.int .u8 0,.int .u8 0,.int .u8 0,.int .u8 0,.int .u8 0,.int .u8 0,.int .u8 0,.int .i64 0,.int .u8 0,.int .u8 0,.int .u8 0,.int .u8 0,.int .i64 0,.bool false,.int .i64 0]) 21 (36,(splice [.int .i64 0,.int .i64 0,.int .u8 0,.int .u8 0,.int .u8 0,.int .u8 0,.int .u8 0,.int .u8 0,.int .u8 0,.int .u8 0,.int .u8 0,.int .u8 0,.int .u8 0,.int .u8 0,.int .u8 0,.int .u8 0,.int .u8 0,.int .u8 0,.int .i64 0,.int .u8 0,.int .u8 0,.int .u8 0,.int .u8 0,.int .i64 0,.bool false,.int .i64 0] 0 l8))) h5) else False) else False) else False):= by subst h; kernel_rfl
theorem F4_r9 (h:E=upd (w3 e 17 (sP x17) 7 (sI x7) 6 (sI x6)) 5 (sI x5)):R4 767 13 E V0 hp K=
 CF Tryd.prog 19 [(.int .u8 1),(.int .i64 x6)] hp fun u1 h2=>(aggV u1 fun l3=>CF Tryd.prog 20 [(.int .u8 1),(.int .i64 x7)] h2 fun u4 h5=>aggV u4 fun l6=>CF Tryd.prog 24 [(.pointer x17),(.int .i64 x5),(.agg ⟨l3⟩),(.agg ⟨l6⟩)] h5 fun u7 h8=>tup2V u7 fun u9 u10=>aggV u9 fun l11=>intV u10 .i64 fun i12=>if List.length l11=26 then (if List.all l11 one=true then (if 0+List.length l11≤List.length [(Value.int .i64 0),.int .i64 0,.int .u8 0,.int .u8 0,.int .u8 0,.int .u8 0,.int .u8 0,.int .u8 0,.int .u8 0,.int .u8 0,.int .u8 0,.int .u8 0,.int .u8 0,.int .u8 0,.int .u8 0,.int .u8 0,.int .u8 0,.int .u8 0,.int .i64 0,.int .u8 0,.int .u8 0,.int .u8 0,.int .u8 0,.int .i64 0,.bool false,.int .i64 0] then (K (w4 (w8 E 142 (sP x17) 143 (sI x5) 144 (sI x6) 145 (sA l3) 146 (sI x7) 147 (sA l6) 148 (sV (.tuple ⟨[(.agg ⟨l11⟩),(.int .i64 i12)]⟩)) 141 (sV (.tuple ⟨[(.agg ⟨l11⟩),(.int .i64 i12)]⟩))) 149 (sA l11) 150 (sI i12) 31 (sR 31 0) 32 (sI i12)) (w2 V0 31 (36,[.int .i64 0,.int .i64 0,.int .u8 0,.int .u8 0,.int .u8 0,.int .u8 0,.int .u8 0,.int .u8 0,.int .u8 0,.int .u8 0,.int .u8 0,.int .u8 0,.int .u8 0,.int .u8 0,.int .u8 0,.int .u8 0,.int .u8 0,.int .u8 0,.int .i64 0,.int .u8 0,.int .u8 0,.int .u8 0,.int .u8 0,.int .i64 0,.bool false,.int .i64 0]) 31 (36,(splice [.int .i64 0,.int .i64 0,.int .u8 0,.int .u8 0,.int .u8 0,.int .u8 0,.int .u8 0,.int .u8 0,.int .u8 0,.int .u8 0,.int .u8 0,.int .u8 0,.int .u8 0,.int .u8 0,.int .u8 0,.int .u8 0,.int .u8 0,.int .u8 0,.int .i64 0,.int .u8 0,.int .u8 0,.int .u8 0,.int .u8 0,.int .i64 0,.bool false,.int .i64 0] 0 l11))) h8) else False) else False) else False):= by subst h; kernel_rfl
theorem F4_r10:R4 2559 2 (upd e 32 (sI x32)) (upd V0 31 (36,k31)) hp K=
 K (w3 e 32 (sI x32) 151 (sI x32) 152 (sB ((x32 != 0)))) (upd V0 31 (36,k31)) hp:= by kernel_rfl
theorem F4_r11:R4 9727 7 (upd e 17 (sP x17)) V0 hp K=
 CF Tryd.prog 23 [(.pointer x17)] hp fun u1 h2=>(intV u1 .i64 fun i3=>ite2 (i3==0) (CF Tryd.prog 27 [] h2 fun u4 h5=>boolV u4 fun q6=>K (w8 e 17 (sP x17) 153 (sP x17) 154 (sI i3) 155 (sB ((i3==0))) 156 (sB true) 157 (sB q6) 158 (sB q6) 16 (sB q6)) V0 h5) (K (w8 e 17 (sP x17) 153 (sP x17) 154 (sI i3) 155 (sB ((i3==0))) 156 (sB false) 157 sU 158 (sB false) 16 (sB false)) V0 h2)):= by kernel_rfl
theorem F4_r12:R4 3071 4 (w2 e 31 (sR 31 0) 17 (sP x17)) (upd V0 31 (36,k31)) hp K=
 ldV (k31)[0]? fun v1=>(intV v1 .i64 fun i2=>CF Tryd.prog 21 [(.pointer x17),(.int .i64 i2)] hp fun u3 h4=>intV u3 .i64 fun i5=>K (w6 e 31 (sR 31 0) 17 (sP x17) 159 (sP x17) 160 (sR 31 0) 161 (sI i2) 162 (sI i5)) (upd V0 31 (36,k31)) h4):= by kernel_rfl
theorem F4_r13:R4 6143 4 (w2 e 31 (sR 31 0) 17 (sP x17)) (upd V0 31 (36,k31)) hp K=
 ldV (k31)[0]? fun v1=>(intV v1 .i64 fun i2=>CF Tryd.prog 21 [(.pointer x17),(.int .i64 i2)] hp fun u3 h4=>intV u3 .i64 fun i5=>K (w6 e 31 (sR 31 0) 17 (sP x17) 163 (sP x17) 164 (sR 31 0) 165 (sI i2) 166 (sI i5)) (upd V0 31 (36,k31)) h4):= by kernel_rfl
theorem F4_r14:R4 12287 9 (w2 e 31 (sR 31 0) 17 (sP x17)) (upd V0 31 (36,k31)) hp K=
 ldV (k31)[0]? fun v1=>(intV v1 .i64 fun i2=>CF Tryd.prog 22 [(.pointer x17),(.int .i64 i2)] hp fun u3 h4=>tup2V u3 fun u5 u6=>boolV u5 fun q7=>intV u6 .i64 fun i8=>K (w3 (w8 e 31 (sR 31 0) 17 (sP x17) 168 (sP x17) 169 (sR 31 0) 170 (sI i2) 171 (sV (.tuple ⟨[(.bool q7),(.int .i64 i8)]⟩)) 167 (sV (.tuple ⟨[(.bool q7),(.int .i64 i8)]⟩)) 172 (sB q7)) 173 (sI i8) 33 (sB q7) 34 (sI i8)) (upd V0 31 (36,k31)) h4):= by kernel_rfl
theorem F4_r15 (h:E=upd (w2 e 17 (sP x17) 6 (sI x6)) 5 (sI x5)):R4 24575 11 E (upd V0 31 (36,k31)) hp K=
 CF Tryd.prog 19 [(.int .u8 1),(.int .i64 x6)] hp fun u1 h2=>(aggV u1 fun l3=>CF Tryd.prog 25 [(.pointer x17),(.int .i64 x5),(.agg ⟨l3⟩)] h2 fun u4 h5=>tup2V u4 fun u6 u7=>aggV u6 fun l8=>intV u7 .i64 fun i9=>if List.length l8=26 then (if List.all l8 one=true then (if 0+List.length l8≤List.length [(Value.int .i64 0),.int .i64 0,.int .u8 0,.int .u8 0,.int .u8 0,.int .u8 0,.int .u8 0,.int .u8 0,.int .u8 0,.int .u8 0,.int .u8 0,.int .u8 0,.int .u8 0,.int .u8 0,.int .u8 0,.int .u8 0,.int .u8 0,.int .u8 0,.int .i64 0,.int .u8 0,.int .u8 0,.int .u8 0,.int .u8 0,.int .i64 0,.bool false,.int .i64 0] then (K (w2 (w8 E 175 (sP x17) 176 (sI x5) 177 (sI x6) 178 (sA l3) 179 (sV (.tuple ⟨[(.agg ⟨l8⟩),(.int .i64 i9)]⟩)) 174 (sV (.tuple ⟨[(.agg ⟨l8⟩),(.int .i64 i9)]⟩)) 180 (sA l8) 181 (sI i9)) 35 (sR 35 0) 36 (sI i9)) (w3 V0 31 (36,k31) 35 (36,[.int .i64 0,.int .i64 0,.int .u8 0,.int .u8 0,.int .u8 0,.int .u8 0,.int .u8 0,.int .u8 0,.int .u8 0,.int .u8 0,.int .u8 0,.int .u8 0,.int .u8 0,.int .u8 0,.int .u8 0,.int .u8 0,.int .u8 0,.int .u8 0,.int .i64 0,.int .u8 0,.int .u8 0,.int .u8 0,.int .u8 0,.int .i64 0,.bool false,.int .i64 0]) 35 (36,(splice [.int .i64 0,.int .i64 0,.int .u8 0,.int .u8 0,.int .u8 0,.int .u8 0,.int .u8 0,.int .u8 0,.int .u8 0,.int .u8 0,.int .u8 0,.int .u8 0,.int .u8 0,.int .u8 0,.int .u8 0,.int .u8 0,.int .u8 0,.int .u8 0,.int .i64 0,.int .u8 0,.int .u8 0,.int .u8 0,.int .u8 0,.int .i64 0,.bool false,.int .i64 0] 0 l8))) h5) else False) else False) else False):= by subst h; kernel_rfl
theorem F4_r16 (h:E=upd (w2 e 17 (sP x17) 6 (sI x6)) 5 (sI x5)):R4 49151 11 E (w2 V0 35 (36,k35) 31 (36,k31)) hp K=
 CF Tryd.prog 19 [(.int .u8 1),(.int .i64 x6)] hp fun u1 h2=>(aggV u1 fun l3=>CF Tryd.prog 25 [(.pointer x17),(.int .i64 x5),(.agg ⟨l3⟩)] h2 fun u4 h5=>tup2V u4 fun u6 u7=>aggV u6 fun l8=>intV u7 .i64 fun i9=>if List.length l8=26 then (if List.all l8 one=true then (if 0+List.length l8≤List.length [(Value.int .i64 0),.int .i64 0,.int .u8 0,.int .u8 0,.int .u8 0,.int .u8 0,.int .u8 0,.int .u8 0,.int .u8 0,.int .u8 0,.int .u8 0,.int .u8 0,.int .u8 0,.int .u8 0,.int .u8 0,.int .u8 0,.int .u8 0,.int .u8 0,.int .i64 0,.int .u8 0,.int .u8 0,.int .u8 0,.int .u8 0,.int .i64 0,.bool false,.int .i64 0] then (K (w2 (w8 E 183 (sP x17) 184 (sI x5) 185 (sI x6) 186 (sA l3) 187 (sV (.tuple ⟨[(.agg ⟨l8⟩),(.int .i64 i9)]⟩)) 182 (sV (.tuple ⟨[(.agg ⟨l8⟩),(.int .i64 i9)]⟩)) 188 (sA l8) 189 (sI i9)) 37 (sR 37 0) 38 (sI i9)) (w4 V0 35 (36,k35) 31 (36,k31) 37 (36,[.int .i64 0,.int .i64 0,.int .u8 0,.int .u8 0,.int .u8 0,.int .u8 0,.int .u8 0,.int .u8 0,.int .u8 0,.int .u8 0,.int .u8 0,.int .u8 0,.int .u8 0,.int .u8 0,.int .u8 0,.int .u8 0,.int .u8 0,.int .u8 0,.int .i64 0,.int .u8 0,.int .u8 0,.int .u8 0,.int .u8 0,.int .i64 0,.bool false,.int .i64 0]) 37 (36,(splice [.int .i64 0,.int .i64 0,.int .u8 0,.int .u8 0,.int .u8 0,.int .u8 0,.int .u8 0,.int .u8 0,.int .u8 0,.int .u8 0,.int .u8 0,.int .u8 0,.int .u8 0,.int .u8 0,.int .u8 0,.int .u8 0,.int .u8 0,.int .u8 0,.int .i64 0,.int .u8 0,.int .u8 0,.int .u8 0,.int .u8 0,.int .i64 0,.bool false,.int .i64 0] 0 l8))) h5) else False) else False) else False):= by subst h; kernel_rfl
theorem F4_r17 (h:E=upd (w8 e 38 (sI x38) 36 (sI x36) 35 (sR 35 0) 34 (sI x34) 33 (sB x33) 31 (sR 31 0) 20 (sI x20) 17 (sP x17)) 5 (sI x5)):R4 98303 42 E (w2 V0 35 (36,k35) 31 (36,k31)) hp K=
 ite2 (!x33) (ite2 (x34==0) (ite2 (x36==0) (ldV (k35)[0]? fun v1=>intV v1 .i64 fun i2=>ldV (k31)[0]? fun v3=>intV v3 .i64 fun i4=>ite2 (i2==i4) (ldV (k35)[25]? fun v5=>intV v5 .i64 fun i6=>ite2 (i6==1) (ite2 (x38==4) (CF Tryd.prog 23 [(.pointer x17)] hp fun u7 h8=>intV u7 .i64 fun i9=>ite2 (i9==0) (CF Tryd.prog 26 [(.pointer x17),(.int .i64 x5)] h8 fun u10 h11=>intV u10 .i64 fun i12=>ite2 (i12==x20) (CF Tryd.prog 27 [] h11 fun u13 h14=>boolV u13 fun q15=>K (w2 (w8 (w8 (w8 (w8 (w8 E 190 (sB x33) 191 (sB ((!x33))) 192 (sB true) 193 (sI x34) 194 (sB ((x34==0))) 195 (sB ((x34==0))) 196 (sB true) 197 (sI x36)) 198 (sB ((x36==0))) 199 (sB ((x36==0))) 200 (sB true) 201 (sR 35 0) 202 (sI i2) 203 (sR 31 0) 204 (sI i4) 205 (sB ((i2==i4)))) 206 (sB ((i2==i4))) 207 (sB true) 208 (sR 35 25) 209 (sI i6) 210 (sB ((i6==1))) 211 (sB ((i6==1))) 212 (sB true) 213 (sI x38)) 214 (sB ((x38==4))) 215 (sB ((x38==4))) 216 (sB true) 217 (sP x17) 218 (sI i9) 219 (sB ((i9==0))) 220 (sB ((i9==0))) 221 (sB true)) 222 (sP x17) 223 (sI x5) 224 (sI i12) 225 (sI x20) 226 (sB ((i12==x20))) 227 (sB ((i12==x20))) 228 (sB true) 229 (sB q15)) 230 (sB q15) 16 (sB q15)) (w2 V0 35 (36,k35) 31 (36,k31)) h14) (K (w2 (w8 (w8 (w8 (w8 (w8 E 190 (sB x33) 191 (sB ((!x33))) 192 (sB true) 193 (sI x34) 194 (sB ((x34==0))) 195 (sB ((x34==0))) 196 (sB true) 197 (sI x36)) 198 (sB ((x36==0))) 199 (sB ((x36==0))) 200 (sB true) 201 (sR 35 0) 202 (sI i2) 203 (sR 31 0) 204 (sI i4) 205 (sB ((i2==i4)))) 206 (sB ((i2==i4))) 207 (sB true) 208 (sR 35 25) 209 (sI i6) 210 (sB ((i6==1))) 211 (sB ((i6==1))) 212 (sB true) 213 (sI x38)) 214 (sB ((x38==4))) 215 (sB ((x38==4))) 216 (sB true) 217 (sP x17) 218 (sI i9) 219 (sB ((i9==0))) 220 (sB ((i9==0))) 221 (sB true)) 222 (sP x17) 223 (sI x5) 224 (sI i12) 225 (sI x20) 226 (sB ((i12==x20))) 227 (sB ((i12==x20))) 228 (sB false) 229 sU) 230 (sB false) 16 (sB false)) (w2 V0 35 (36,k35) 31 (36,k31)) h11)) (K (w2 (w8 (w8 (w8 (w8 (w8 E 190 (sB x33) 191 (sB ((!x33))) 192 (sB true) 193 (sI x34) 194 (sB ((x34==0))) 195 (sB ((x34==0))) 196 (sB true) 197 (sI x36)) 198 (sB ((x36==0))) 199 (sB ((x36==0))) 200 (sB true) 201 (sR 35 0) 202 (sI i2) 203 (sR 31 0) 204 (sI i4) 205 (sB ((i2==i4)))) 206 (sB ((i2==i4))) 207 (sB true) 208 (sR 35 25) 209 (sI i6) 210 (sB ((i6==1))) 211 (sB ((i6==1))) 212 (sB true) 213 (sI x38)) 214 (sB ((x38==4))) 215 (sB ((x38==4))) 216 (sB true) 217 (sP x17) 218 (sI i9) 219 (sB ((i9==0))) 220 (sB ((i9==0))) 221 (sB false)) 222 sU 223 sU 224 sU 225 sU 226 sU 227 (sB false) 228 (sB false) 229 sU) 230 (sB false) 16 (sB false)) (w2 V0 35 (36,k35) 31 (36,k31)) h8)) (K (w2 (w8 (w8 (w8 (w8 (w8 E 190 (sB x33) 191 (sB ((!x33))) 192 (sB true) 193 (sI x34) 194 (sB ((x34==0))) 195 (sB ((x34==0))) 196 (sB true) 197 (sI x36)) 198 (sB ((x36==0))) 199 (sB ((x36==0))) 200 (sB true) 201 (sR 35 0) 202 (sI i2) 203 (sR 31 0) 204 (sI i4) 205 (sB ((i2==i4)))) 206 (sB ((i2==i4))) 207 (sB true) 208 (sR 35 25) 209 (sI i6) 210 (sB ((i6==1))) 211 (sB ((i6==1))) 212 (sB true) 213 (sI x38)) 214 (sB ((x38==4))) 215 (sB ((x38==4))) 216 (sB false) 217 sU 218 sU 219 sU 220 (sB false) 221 (sB false)) 222 sU 223 sU 224 sU 225 sU 226 sU 227 (sB false) 228 (sB false) 229 sU) 230 (sB false) 16 (sB false)) (w2 V0 35 (36,k35) 31 (36,k31)) hp)) (K (w2 (w8 (w8 (w8 (w8 (w8 E 190 (sB x33) 191 (sB ((!x33))) 192 (sB true) 193 (sI x34) 194 (sB ((x34==0))) 195 (sB ((x34==0))) 196 (sB true) 197 (sI x36)) 198 (sB ((x36==0))) 199 (sB ((x36==0))) 200 (sB true) 201 (sR 35 0) 202 (sI i2) 203 (sR 31 0) 204 (sI i4) 205 (sB ((i2==i4)))) 206 (sB ((i2==i4))) 207 (sB true) 208 (sR 35 25) 209 (sI i6) 210 (sB ((i6==1))) 211 (sB ((i6==1))) 212 (sB false) 213 sU) 214 sU 215 (sB false) 216 (sB false) 217 sU 218 sU 219 sU 220 (sB false) 221 (sB false)) 222 sU 223 sU 224 sU 225 sU 226 sU 227 (sB false) 228 (sB false) 229 sU) 230 (sB false) 16 (sB false)) (w2 V0 35 (36,k35) 31 (36,k31)) hp)) (K (w2 (w8 (w8 (w8 (w8 (w8 E 190 (sB x33) 191 (sB ((!x33))) 192 (sB true) 193 (sI x34) 194 (sB ((x34==0))) 195 (sB ((x34==0))) 196 (sB true) 197 (sI x36)) 198 (sB ((x36==0))) 199 (sB ((x36==0))) 200 (sB true) 201 (sR 35 0) 202 (sI i2) 203 (sR 31 0) 204 (sI i4) 205 (sB ((i2==i4)))) 206 (sB ((i2==i4))) 207 (sB false) 208 sU 209 sU 210 sU 211 (sB false) 212 (sB false) 213 sU) 214 sU 215 (sB false) 216 (sB false) 217 sU 218 sU 219 sU 220 (sB false) 221 (sB false)) 222 sU 223 sU 224 sU 225 sU 226 sU 227 (sB false) 228 (sB false) 229 sU) 230 (sB false) 16 (sB false)) (w2 V0 35 (36,k35) 31 (36,k31)) hp)) (K (w2 (w8 (w8 (w8 (w8 (w8 E 190 (sB x33) 191 (sB ((!x33))) 192 (sB true) 193 (sI x34) 194 (sB ((x34==0))) 195 (sB ((x34==0))) 196 (sB true) 197 (sI x36)) 198 (sB ((x36==0))) 199 (sB ((x36==0))) 200 (sB false) 201 sU 202 sU 203 sU 204 sU 205 sU) 206 (sB false) 207 (sB false) 208 sU 209 sU 210 sU 211 (sB false) 212 (sB false) 213 sU) 214 sU 215 (sB false) 216 (sB false) 217 sU 218 sU 219 sU 220 (sB false) 221 (sB false)) 222 sU 223 sU 224 sU 225 sU 226 sU 227 (sB false) 228 (sB false) 229 sU) 230 (sB false) 16 (sB false)) (w2 V0 35 (36,k35) 31 (36,k31)) hp)) (K (w2 (w8 (w8 (w8 (w8 (w8 E 190 (sB x33) 191 (sB ((!x33))) 192 (sB true) 193 (sI x34) 194 (sB ((x34==0))) 195 (sB ((x34==0))) 196 (sB false) 197 sU) 198 sU 199 (sB false) 200 (sB false) 201 sU 202 sU 203 sU 204 sU 205 sU) 206 (sB false) 207 (sB false) 208 sU 209 sU 210 sU 211 (sB false) 212 (sB false) 213 sU) 214 sU 215 (sB false) 216 (sB false) 217 sU 218 sU 219 sU 220 (sB false) 221 (sB false)) 222 sU 223 sU 224 sU 225 sU 226 sU 227 (sB false) 228 (sB false) 229 sU) 230 (sB false) 16 (sB false)) (w2 V0 35 (36,k35) 31 (36,k31)) hp)) (K (w2 (w8 (w8 (w8 (w8 (w8 E 190 (sB x33) 191 (sB ((!x33))) 192 (sB false) 193 sU 194 sU 195 (sB false) 196 (sB false) 197 sU) 198 sU 199 (sB false) 200 (sB false) 201 sU 202 sU 203 sU 204 sU 205 sU) 206 (sB false) 207 (sB false) 208 sU 209 sU 210 sU 211 (sB false) 212 (sB false) 213 sU) 214 sU 215 (sB false) 216 (sB false) 217 sU 218 sU 219 sU 220 (sB false) 221 (sB false)) 222 sU 223 sU 224 sU 225 sU 226 sU 227 (sB false) 228 (sB false) 229 sU) 230 (sB false) 16 (sB false)) (w2 V0 35 (36,k35) 31 (36,k31)) hp):= by subst h; kernel_rfl
def F4_j1 (x5 x6 x7:Int) (x17:OA) (x20:Int) (hp:HP) (K:Kh):Prop:=
  (CF Tryd.prog 19 [(.int .u8 1),(.int .i64 x6)] hp fun u28 h29=>aggV u28 fun l30=>CF Tryd.prog 20 [(.int .u8 1),(.int .i64 x7)] h29 fun u31 h32=>aggV u31 fun l33=>CF Tryd.prog 24 [(.pointer x17),(.int .i64 x5),(.agg ⟨l30⟩),(.agg ⟨l33⟩)] h32 fun u34 h35=>tup2V u34 fun u36 u37=>aggV u36 fun l38=>intV u37 .i64 fun i39=>if List.length l38=26 then (if List.all l38 one=true then (if 0+List.length l38≤List.length [(Value.int .i64 0),.int .i64 0,.int .u8 0,.int .u8 0,.int .u8 0,.int .u8 0,.int .u8 0,.int .u8 0,.int .u8 0,.int .u8 0,.int .u8 0,.int .u8 0,.int .u8 0,.int .u8 0,.int .u8 0,.int .u8 0,.int .u8 0,.int .u8 0,.int .i64 0,.int .u8 0,.int .u8 0,.int .u8 0,.int .u8 0,.int .i64 0,.bool false,.int .i64 0] then (ite2 (i39 != 0) (CF Tryd.prog 23 [(.pointer x17)] h35 fun u40 h41=>intV u40 .i64 fun i42=>ite2 (i42==0) (CF Tryd.prog 27 [] h41 fun u43 h44=>boolV u43 fun q45=>K (.bool q45) h44) (K (.bool false) h41)) (ldV ((splice [.int .i64 0,.int .i64 0,.int .u8 0,.int .u8 0,.int .u8 0,.int .u8 0,.int .u8 0,.int .u8 0,.int .u8 0,.int .u8 0,.int .u8 0,.int .u8 0,.int .u8 0,.int .u8 0,.int .u8 0,.int .u8 0,.int .u8 0,.int .u8 0,.int .i64 0,.int .u8 0,.int .u8 0,.int .u8 0,.int .u8 0,.int .i64 0,.bool false,.int .i64 0] 0 l38))[0]? fun v46=>intV v46 .i64 fun i47=>CF Tryd.prog 21 [(.pointer x17),(.int .i64 i47)] h35 fun u48 h49=>intV u48 .i64 fun i50=>ldV ((splice [.int .i64 0,.int .i64 0,.int .u8 0,.int .u8 0,.int .u8 0,.int .u8 0,.int .u8 0,.int .u8 0,.int .u8 0,.int .u8 0,.int .u8 0,.int .u8 0,.int .u8 0,.int .u8 0,.int .u8 0,.int .u8 0,.int .u8 0,.int .u8 0,.int .i64 0,.int .u8 0,.int .u8 0,.int .u8 0,.int .u8 0,.int .i64 0,.bool false,.int .i64 0] 0 l38))[0]? fun v51=>intV v51 .i64 fun i52=>CF Tryd.prog 21 [(.pointer x17),(.int .i64 i52)] h49 fun u53 h54=>intV u53 .i64 fun i55=>ldV ((splice [.int .i64 0,.int .i64 0,.int .u8 0,.int .u8 0,.int .u8 0,.int .u8 0,.int .u8 0,.int .u8 0,.int .u8 0,.int .u8 0,.int .u8 0,.int .u8 0,.int .u8 0,.int .u8 0,.int .u8 0,.int .u8 0,.int .u8 0,.int .u8 0,.int .i64 0,.int .u8 0,.int .u8 0,.int .u8 0,.int .u8 0,.int .i64 0,.bool false,.int .i64 0] 0 l38))[0]? fun v56=>intV v56 .i64 fun i57=>CF Tryd.prog 22 [(.pointer x17),(.int .i64 i57)] h54 fun u58 h59=>tup2V u58 fun u60 u61=>boolV u60 fun q62=>intV u61 .i64 fun i63=>CF Tryd.prog 19 [(.int .u8 1),(.int .i64 x6)] h59 fun u64 h65=>aggV u64 fun l66=>CF Tryd.prog 25 [(.pointer x17),(.int .i64 x5),(.agg ⟨l66⟩)] h65 fun u67 h68=>tup2V u67 fun u69 u70=>aggV u69 fun l71=>intV u70 .i64 fun i72=>if List.length l71=26 then (if List.all l71 one=true then (if 0+List.length l71≤List.length [(Value.int .i64 0),.int .i64 0,.int .u8 0,.int .u8 0,.int .u8 0,.int .u8 0,.int .u8 0,.int .u8 0,.int .u8 0,.int .u8 0,.int .u8 0,.int .u8 0,.int .u8 0,.int .u8 0,.int .u8 0,.int .u8 0,.int .u8 0,.int .u8 0,.int .i64 0,.int .u8 0,.int .u8 0,.int .u8 0,.int .u8 0,.int .i64 0,.bool false,.int .i64 0] then (CF Tryd.prog 19 [(.int .u8 1),(.int .i64 x6)] h68 fun u73 h74=>aggV u73 fun l75=>CF Tryd.prog 25 [(.pointer x17),(.int .i64 x5),(.agg ⟨l75⟩)] h74 fun u76 h77=>tup2V u76 fun u78 u79=>aggV u78 fun l80=>intV u79 .i64 fun i81=>if List.length l80=26 then (if List.all l80 one=true then (if 0+List.length l80≤List.length [(Value.int .i64 0),.int .i64 0,.int .u8 0,.int .u8 0,.int .u8 0,.int .u8 0,.int .u8 0,.int .u8 0,.int .u8 0,.int .u8 0,.int .u8 0,.int .u8 0,.int .u8 0,.int .u8 0,.int .u8 0,.int .u8 0,.int .u8 0,.int .u8 0,.int .i64 0,.int .u8 0,.int .u8 0,.int .u8 0,.int .u8 0,.int .i64 0,.bool false,.int .i64 0] then (ite2 (!q62) (ite2 (i63==0) (ite2 (i72==0) (ldV ((splice [.int .i64 0,.int .i64 0,.int .u8 0,.int .u8 0,.int .u8 0,.int .u8 0,.int .u8 0,.int .u8 0,.int .u8 0,.int .u8 0,.int .u8 0,.int .u8 0,.int .u8 0,.int .u8 0,.int .u8 0,.int .u8 0,.int .u8 0,.int .u8 0,.int .i64 0,.int .u8 0,.int .u8 0,.int .u8 0,.int .u8 0,.int .i64 0,.bool false,.int .i64 0] 0 l71))[0]? fun v82=>intV v82 .i64 fun i83=>ldV ((splice [.int .i64 0,.int .i64 0,.int .u8 0,.int .u8 0,.int .u8 0,.int .u8 0,.int .u8 0,.int .u8 0,.int .u8 0,.int .u8 0,.int .u8 0,.int .u8 0,.int .u8 0,.int .u8 0,.int .u8 0,.int .u8 0,.int .u8 0,.int .u8 0,.int .i64 0,.int .u8 0,.int .u8 0,.int .u8 0,.int .u8 0,.int .i64 0,.bool false,.int .i64 0] 0 l38))[0]? fun v84=>intV v84 .i64 fun i85=>ite2 (i83==i85) (ldV ((splice [.int .i64 0,.int .i64 0,.int .u8 0,.int .u8 0,.int .u8 0,.int .u8 0,.int .u8 0,.int .u8 0,.int .u8 0,.int .u8 0,.int .u8 0,.int .u8 0,.int .u8 0,.int .u8 0,.int .u8 0,.int .u8 0,.int .u8 0,.int .u8 0,.int .i64 0,.int .u8 0,.int .u8 0,.int .u8 0,.int .u8 0,.int .i64 0,.bool false,.int .i64 0] 0 l71))[25]? fun v86=>intV v86 .i64 fun i87=>ite2 (i87==1) (ite2 (i81==4) (CF Tryd.prog 23 [(.pointer x17)] h77 fun u88 h89=>intV u88 .i64 fun i90=>ite2 (i90==0) (CF Tryd.prog 26 [(.pointer x17),(.int .i64 x5)] h89 fun u91 h92=>intV u91 .i64 fun i93=>ite2 (i93==x20) (CF Tryd.prog 27 [] h92 fun u94 h95=>boolV u94 fun q96=>K (.bool q96) h95) (K (.bool false) h92)) (K (.bool false) h89)) (K (.bool false) h77)) (K (.bool false) h77)) (K (.bool false) h77)) (K (.bool false) h77)) (K (.bool false) h77)) (K (.bool false) h77)) else False) else False) else False) else False) else False) else False)) else False) else False) else False)
theorem F4_r18:R4 639 2 (upd e 22 (sI x22)) (upd V0 21 (36,k21)) hp K=
 K (w3 e 22 (sI x22) 74 (sI x22) 75 (sB ((x22==0)))) (upd V0 21 (36,k21)) hp:= by kernel_rfl
theorem F4_r19:R4 11647 9 (w2 e 21 (sR 21 0) 17 (sP x17)) (upd V0 21 (36,k21)) hp K=
 ldV (k21)[0]? fun v1=>(intV v1 .i64 fun i2=>CF Tryd.prog 22 [(.pointer x17),(.int .i64 i2)] hp fun u3 h4=>tup2V u3 fun u5 u6=>boolV u5 fun q7=>intV u6 .i64 fun i8=>K (w3 (w8 e 21 (sR 21 0) 17 (sP x17) 121 (sP x17) 122 (sR 21 0) 123 (sI i2) 124 (sV (.tuple ⟨[(.bool q7),(.int .i64 i8)]⟩)) 120 (sV (.tuple ⟨[(.bool q7),(.int .i64 i8)]⟩)) 125 (sB q7)) 126 (sI i8) 29 (sB q7) 30 (sI i8)) (upd V0 21 (36,k21)) h4):= by kernel_rfl
theorem F4_r20:R4 81279 1 e V0 hp K=
 K (upd e 16 (sB false)) V0 hp:= by kernel_rfl
def F4_j4 (x5 x6 x7:Int) (x17:OA) (x20:Int) (x140:Bool) (hp:HP) (K:Kh):Prop:=
  (ite2 x140 (K (.bool false) hp) (F4_j1 x5 x6 x7 x17 x20 hp  K))
theorem F4_r21 (h:E=upd (w3 e 30 (sI x30) 20 (sI x20) 17 (sP x17)) 5 (sI x5)):R4 23935 14 E V0 hp K=
 ite2 (x30 != 4) (K (w6 (w8 E 127 (sI x30) 128 (sB ((x30 != 4))) 129 (sB true) 130 sU 131 sU 132 sU 133 sU 134 sU) 135 (sB true) 136 (sB true) 137 sU 138 sU 139 sU 140 (sB true)) V0 hp) (CF Tryd.prog 26 [(.pointer x17),(.int .i64 x5)] hp fun u1 h2=>intV u1 .i64 fun i3=>ite2 (i3 != x20) (K (w6 (w8 E 127 (sI x30) 128 (sB ((x30 != 4))) 129 (sB false) 130 (sP x17) 131 (sI x5) 132 (sI i3) 133 (sI x20) 134 (sB ((i3 != x20)))) 135 (sB ((i3 != x20))) 136 (sB true) 137 sU 138 sU 139 sU 140 (sB true)) V0 h2) (CF Tryd.prog 23 [(.pointer x17)] h2 fun u4 h5=>intV u4 .i64 fun i6=>K (w6 (w8 E 127 (sI x30) 128 (sB ((x30 != 4))) 129 (sB false) 130 (sP x17) 131 (sI x5) 132 (sI i3) 133 (sI x20) 134 (sB ((i3 != x20)))) 135 (sB ((i3 != x20))) 136 (sB false) 137 (sP x17) 138 (sI i6) 139 (sB ((i6 != 0))) 140 (sB ((i6 != 0)))) V0 h5)):= by subst h; kernel_rfl
def F4_j3 (x5 x6 x7:Int) (x17:OA) (x20:Int) (k21:List Value) (hp:HP) (K:Kh):Prop:=
  (ldV (k21)[0]? fun v97=>intV v97 .i64 fun i98=>CF Tryd.prog 22 [(.pointer x17),(.int .i64 i98)] hp fun u99 h100=>tup2V u99 fun u101 u102=>boolV u101 fun q103=>intV u102 .i64 fun i104=>ite2 (i104 != 4) (F4_j4 x5 x6 x7 x17 x20 true h100  K) (CF Tryd.prog 26 [(.pointer x17),(.int .i64 x5)] h100 fun u105 h106=>intV u105 .i64 fun i107=>ite2 (i107 != x20) (F4_j4 x5 x6 x7 x17 x20 true h106  K) (CF Tryd.prog 23 [(.pointer x17)] h106 fun u108 h109=>intV u108 .i64 fun i110=>F4_j4 x5 x6 x7 x17 x20 (i110 != 0) h109  K)))
theorem F4_r22:R4 136575 3 (w2 e 24 (sI x24) 19 (sI x19)) (upd V0 21 (36,k21)) hp K=
 K (w5 e 24 (sI x24) 19 (sI x19) 86 (sI x24) 87 (sI x19) 88 (sB (decide (x24<x19)))) (upd V0 21 (36,k21)) hp:= by kernel_rfl
theorem F4_r23:R4 562559 9 (w2 e 21 (sR 21 0) 17 (sP x17)) (upd V0 21 (36,k21)) hp K=
 ldV (k21)[0]? fun v1=>(intV v1 .i64 fun i2=>CF Tryd.prog 22 [(.pointer x17),(.int .i64 i2)] hp fun u3 h4=>tup2V u3 fun u5 u6=>boolV u5 fun q7=>intV u6 .i64 fun i8=>K (w3 (w8 e 21 (sR 21 0) 17 (sP x17) 92 (sP x17) 93 (sR 21 0) 94 (sI i2) 95 (sV (.tuple ⟨[(.bool q7),(.int .i64 i8)]⟩)) 91 (sV (.tuple ⟨[(.bool q7),(.int .i64 i8)]⟩)) 96 (sB q7)) 97 (sI i8) 25 (sB q7) 26 (sI i8)) (upd V0 21 (36,k21)) h4):= by kernel_rfl
theorem F4_r24:R4 1348991 10 (w2 e 21 (sR 21 0) 17 (sP x17)) (upd V0 21 (36,k21)) hp K=
 ldV (k21)[0]? fun v1=>(intV v1 .i64 fun i2=>CF Tryd.prog 29 [(.pointer x17),(.int .i64 i2)] hp fun u3 h4=>tup2V u3 fun u5 u6=>aggV u5 fun l7=>boolV u6 fun q8=>if List.length l7=26 then (if List.all l7 one=true then (if 0+List.length l7≤List.length [(Value.int .i64 0),.int .i64 0,.int .u8 0,.int .u8 0,.int .u8 0,.int .u8 0,.int .u8 0,.int .u8 0,.int .u8 0,.int .u8 0,.int .u8 0,.int .u8 0,.int .u8 0,.int .u8 0,.int .u8 0,.int .u8 0,.int .u8 0,.int .u8 0,.int .i64 0,.int .u8 0,.int .u8 0,.int .u8 0,.int .u8 0,.int .i64 0,.bool false,.int .i64 0] then (K (w3 (w8 e 21 (sR 21 0) 17 (sP x17) 99 (sP x17) 100 (sR 21 0) 101 (sI i2) 102 (sV (.tuple ⟨[(.agg ⟨l7⟩),(.bool q8)]⟩)) 98 (sV (.tuple ⟨[(.agg ⟨l7⟩),(.bool q8)]⟩)) 103 (sA l7)) 104 (sB q8) 27 (sR 27 0) 28 (sB q8)) (w3 V0 21 (36,k21) 27 (36,[.int .i64 0,.int .i64 0,.int .u8 0,.int .u8 0,.int .u8 0,.int .u8 0,.int .u8 0,.int .u8 0,.int .u8 0,.int .u8 0,.int .u8 0,.int .u8 0,.int .u8 0,.int .u8 0,.int .u8 0,.int .u8 0,.int .u8 0,.int .u8 0,.int .i64 0,.int .u8 0,.int .u8 0,.int .u8 0,.int .u8 0,.int .i64 0,.bool false,.int .i64 0]) 27 (36,(splice [.int .i64 0,.int .i64 0,.int .u8 0,.int .u8 0,.int .u8 0,.int .u8 0,.int .u8 0,.int .u8 0,.int .u8 0,.int .u8 0,.int .u8 0,.int .u8 0,.int .u8 0,.int .u8 0,.int .u8 0,.int .u8 0,.int .u8 0,.int .u8 0,.int .i64 0,.int .u8 0,.int .u8 0,.int .u8 0,.int .u8 0,.int .i64 0,.bool false,.int .i64 0] 0 l7))) h4) else False) else False) else False):= by kernel_rfl
theorem F4_r25:R4 10261887 1 e V0 hp K=
 K (upd e 16 (sB false)) V0 hp:= by kernel_rfl
theorem F4_r26:R4 234879 3 (upd e 24 (sI x24)) (upd V0 21 (36,k21)) hp K=
 K (w4 e 24 (sI x24) 89 (sI x24) 90 (sI ((wr (x24+1)))) 24 (sI ((wr (x24+1))))) (upd V0 21 (36,k21)) hp:= by kernel_rfl
def F4_j7 (x5 x6 x7:Int) (x17:OA) (x19 x20 x24:Int) (x119:Bool) (k21:List Value) (hp:HP) (I6:(Int)→HP→Prop) (K:Kh):Prop:=
  (ite2 x119 (K (.bool false) hp) (I6 (IntKind.wrap .i64 (x24+1)) hp))
theorem F4_r27 (h:E=upd (w4 e 28 (sB x28) 26 (sI x26) 25 (sB x25) 24 (sI x24)) 19 (sI x19)):R4 2921855 15 E (upd V0 21 (36,k21)) hp K=
 ite2 (x26 != 0) (K (w7 (w8 E 105 (sI x26) 106 (sB ((x26 != 0))) 107 (sB true) 108 sU 109 sU 110 sU 111 sU 112 sU) 113 sU 114 (sB true) 115 (sB true) 116 sU 117 sU 118 sU 119 (sB true)) (upd V0 21 (36,k21)) hp) (ite2 (!(x25==(x24==(wr (x19-1))))) (K (w7 (w8 E 105 (sI x26) 106 (sB ((x26 != 0))) 107 (sB false) 108 (sB x25) 109 (sI x24) 110 (sI x19) 111 (sI ((wr (x19-1)))) 112 (sB ((x24==(wr (x19-1)))))) 113 (sB ((!(x25==(x24==(wr (x19-1))))))) 114 (sB ((!(x25==(x24==(wr (x19-1))))))) 115 (sB true) 116 sU 117 sU 118 sU 119 (sB true)) (upd V0 21 (36,k21)) hp) (K (w7 (w8 E 105 (sI x26) 106 (sB ((x26 != 0))) 107 (sB false) 108 (sB x25) 109 (sI x24) 110 (sI x19) 111 (sI ((wr (x19-1)))) 112 (sB ((x24==(wr (x19-1)))))) 113 (sB ((!(x25==(x24==(wr (x19-1))))))) 114 (sB ((!(x25==(x24==(wr (x19-1))))))) 115 (sB false) 116 (sB x28) 117 (sB x25) 118 (sB ((x28==x25))) 119 (sB ((x28==x25)))) (upd V0 21 (36,k21)) hp)):= by subst h; kernel_rfl
def F4_l6 (x5 x6 x7:Int) (x17:OA) (x19 x20:Int) (k21:List Value) (K:Kh) (I6:(Int)→HP→Prop) (x24:Int) (hp:HP):Prop:=
  (ite2 (decide (x24<x19)) (ldV (k21)[0]? fun v111=>intV v111 .i64 fun i112=>CF Tryd.prog 22 [(.pointer x17),(.int .i64 i112)] hp fun u113 h114=>tup2V u113 fun u115 u116=>boolV u115 fun q117=>intV u116 .i64 fun i118=>ldV (k21)[0]? fun v119=>intV v119 .i64 fun i120=>CF Tryd.prog 29 [(.pointer x17),(.int .i64 i120)] h114 fun u121 h122=>tup2V u121 fun u123 u124=>aggV u123 fun l125=>boolV u124 fun q126=>if List.length l125=26 then (if List.all l125 one=true then (if 0+List.length l125≤List.length [(Value.int .i64 0),.int .i64 0,.int .u8 0,.int .u8 0,.int .u8 0,.int .u8 0,.int .u8 0,.int .u8 0,.int .u8 0,.int .u8 0,.int .u8 0,.int .u8 0,.int .u8 0,.int .u8 0,.int .u8 0,.int .u8 0,.int .u8 0,.int .u8 0,.int .i64 0,.int .u8 0,.int .u8 0,.int .u8 0,.int .u8 0,.int .i64 0,.bool false,.int .i64 0] then (ite2 (i118 != 0) (F4_j7 x5 x6 x7 x17 x19 x20 x24 true k21 h122 I6 K) (ite2 (!(q117==(x24==(IntKind.wrap .i64 (x19-1))))) (F4_j7 x5 x6 x7 x17 x19 x20 x24 true k21 h122 I6 K) (F4_j7 x5 x6 x7 x17 x19 x20 x24 (q126==q117) k21 h122 I6 K))) else False) else False) else False) (F4_j3 x5 x6 x7 x17 x20 k21 hp  K))
def F4_j5 (x5 x6 x7:Int) (x17:OA) (x19 x20 x24:Int) (k21:List Value) (hp:HP) (K:Kh):Prop:=
  (LoopP (σ:=Int) (fun I s hp=>F4_l6 x5 x6 x7 x17 x19 x20 k21  K I s hp) x24 hp)
theorem F4_r28:R4 9599 1 e (upd V0 21 (36,k21)) hp K=
 K (upd e 24 (sI 0)) (upd V0 21 (36,k21)) hp:= by kernel_rfl
def F4_j2 (x5 x6 x7:Int) (x17:OA) (x19 x20:Int) (k21:List Value) (hp:HP) (K:Kh):Prop:=
  (F4_j5 x5 x6 x7 x17 x19 x20 0 k21 hp  K)
theorem F4_r29:R4 67967 3 (w2 e 23 (sI x23) 19 (sI x19)) (upd V0 21 (36,k21)) hp K=
 K (w5 e 23 (sI x23) 19 (sI x19) 76 (sI x23) 77 (sI x19) 78 (sB (decide (x23<x19)))) (upd V0 21 (36,k21)) hp:= by kernel_rfl
theorem F4_r30:R4 280959 5 (w2 e 21 (sR 21 0) 17 (sP x17)) (upd V0 21 (36,k21)) hp K=
 ldV (k21)[0]? fun v1=>(intV v1 .i64 fun i2=>CF Tryd.prog 21 [(.pointer x17),(.int .i64 i2)] hp fun u3 h4=>intV u3 .i64 fun i5=>K (w7 e 21 (sR 21 0) 17 (sP x17) 81 (sP x17) 82 (sR 21 0) 83 (sI i2) 84 (sI i5) 85 (sB ((i5 != 0)))) (upd V0 21 (36,k21)) h4):= by kernel_rfl
theorem F4_r31:R4 1198463 1 e V0 hp K=
 K (upd e 16 (sB false)) V0 hp:= by kernel_rfl
theorem F4_r32:R4 117119 3 (upd e 23 (sI x23)) (upd V0 21 (36,k21)) hp K=
 K (w4 e 23 (sI x23) 79 (sI x23) 80 (sI ((wr (x23+1)))) 23 (sI ((wr (x23+1))))) (upd V0 21 (36,k21)) hp:= by kernel_rfl
def F4_l9 (x5 x6 x7:Int) (x17:OA) (x19 x20:Int) (k21:List Value) (K:Kh) (I9:(Int)→HP→Prop) (x23:Int) (hp:HP):Prop:=
  (ite2 (decide (x23<x19)) (ldV (k21)[0]? fun v127=>intV v127 .i64 fun i128=>CF Tryd.prog 21 [(.pointer x17),(.int .i64 i128)] hp fun u129 h130=>intV u129 .i64 fun i131=>ite2 (i131 != 0) (K (.bool false) h130) (I9 (IntKind.wrap .i64 (x23+1)) h130)) (F4_j2 x5 x6 x7 x17 x19 x20 k21 hp  K))
def F4_j8 (x5 x6 x7:Int) (x17:OA) (x19 x20 x23:Int) (k21:List Value) (hp:HP) (K:Kh):Prop:=
  (LoopP (σ:=Int) (fun I s hp=>F4_l9 x5 x6 x7 x17 x19 x20 k21  K I s hp) x23 hp)
theorem F4_r33:R4 4479 1 e (upd V0 21 (36,k21)) hp K=
 K (upd e 23 (sI 0)) (upd V0 21 (36,k21)) hp:= by kernel_rfl
def F4 (x0a:OA) (x0n x0c:Nat) (x1 x2 x3 x4 x5 x6 x7:Int) (hp:HP) (K:Kh):Prop:=
  (CF Tryd.prog 28 [(.slice x0a x0n x0c),(.int .i64 x1),(.int .i64 x2),(.slice none 0 0)] hp fun u1 h2=>boolV u1 fun q3=>ite2 q3 (CF Tryd.prog 27 [] h2 fun u4 h5=>boolV u4 fun q6=>K (.bool q6) h5) (CF Tryd.prog 17 [(.slice x0a x0n x0c),(.int .i64 x1),(.int .i64 x2),(.int .i64 x3)] h2 fun u7 h8=>tup2V u7 fun u9 u10=>ptrV u9 fun p11=>intV u10 .i64 fun i12=>ite2 (i12 != 0) (ite2 (Option.isNone p11) (CF Tryd.prog 27 [] h8 fun u13 h14=>boolV u13 fun q15=>K (.bool q15) h14) (K (.bool false) h8)) (((20:Int)≠0)∧(CF Tryd.prog 26 [(.pointer p11),(.int .i64 x5)] h8 fun u16 h17=>intV u16 .i64 fun i18=>CF Tryd.prog 19 [(.int .u8 1),(.int .i64 x6)] h17 fun u19 h20=>aggV u19 fun l21=>CF Tryd.prog 18 [(.pointer p11),(.int .i64 x5),(.agg ⟨l21⟩)] h20 fun u22 h23=>tup2V u22 fun u24 u25=>aggV u24 fun l26=>intV u25 .i64 fun i27=>if List.length l26=26 then (if List.all l26 one=true then (if 0+List.length l26≤List.length [(Value.int .i64 0),.int .i64 0,.int .u8 0,.int .u8 0,.int .u8 0,.int .u8 0,.int .u8 0,.int .u8 0,.int .u8 0,.int .u8 0,.int .u8 0,.int .u8 0,.int .u8 0,.int .u8 0,.int .u8 0,.int .u8 0,.int .u8 0,.int .u8 0,.int .i64 0,.int .u8 0,.int .u8 0,.int .u8 0,.int .u8 0,.int .i64 0,.bool false,.int .i64 0] then (ite2 (i27==0) (F4_j8 x5 x6 x7 p11 (IntKind.wrap .i64 (1+(IntKind.wrap .i64 ((Int.tmod x4 20))))) i18 0 (splice [.int .i64 0,.int .i64 0,.int .u8 0,.int .u8 0,.int .u8 0,.int .u8 0,.int .u8 0,.int .u8 0,.int .u8 0,.int .u8 0,.int .u8 0,.int .u8 0,.int .u8 0,.int .u8 0,.int .u8 0,.int .u8 0,.int .u8 0,.int .u8 0,.int .i64 0,.int .u8 0,.int .u8 0,.int .u8 0,.int .u8 0,.int .i64 0,.bool false,.int .i64 0] 0 l26) h23  K) (F4_j1 x5 x6 x7 p11 i18 h23  K)) else False) else False) else False))))
noncomputable abbrev o4 (k n:Nat):Code:=.region k (opsAt Tryd.f4 (pth n)) false
noncomputable def F4_code:Code:=(.seq (o4 0 2) (.seq (.seq (o4 1 9) (.cond (.tmp 42) (.seq (o4 2 37) .ret) .skip)) (.seq (o4 3 11) (.seq (.seq (o4 4 39) (.cond (.tmp 53) (.seq (o4 5 151) .ret) .skip)) (.seq (o4 6 47) (.seq (o4 7 95) (.seq (o4 8 191) (.seq (.seq (o4 9 639) (.cond (.tmp 75) (.seq (.seq (o4 10 4479) (.block 0 (.loop (.seq (.seq (o4 11 67967) (.cond (.tmp 78) .skip (.exit 0))) (.seq (.block 1 (.seq (o4 13 280959) (.cond (.tmp 85) (.seq (o4 14 1198463) .ret) .skip))) (o4 12 117119)))))) (.seq (.seq (o4 15 9599) (.block 2 (.loop (.seq (.seq (o4 16 136575) (.cond (.tmp 88) .skip (.exit 2))) (.seq (.block 3 (.seq (o4 18 562559) (.seq (o4 19 1348991) (.seq (o4 20 2921855) (.cond (.tmp 119) (.seq (o4 21 10261887) .ret) .skip))))) (o4 17 234879)))))) (.seq (o4 22 11647) (.seq (o4 23 23935) (.cond (.tmp 140) (.seq (o4 24 81279) .ret) .skip))))) .skip)) (.seq (o4 25 767) (.seq (.seq (o4 26 2559) (.cond (.tmp 152) (.seq (o4 27 9727) .ret) .skip)) (.seq (o4 28 3071) (.seq (o4 29 6143) (.seq (o4 30 12287) (.seq (o4 31 24575) (.seq (o4 32 49151) (.seq (o4 33 98303) .ret))))))))))))))))
theorem F4_body:Tryd.f4.body=some F4_code:=by kernel_rfl
theorem F4_ok (x0a:OA) (x0n x0c:Nat) (x1 x2 x3 x4 x5 x6 x7:Int) (hp:HP) (K:Kh) (h:F4 x0a x0n x0c x1 x2 x3 x4 x5 x6 x7 hp K):CF Tryd.prog 4 [(.slice x0a x0n x0c),(.int .i64 x1),(.int .i64 x2),(.int .i64 x3),(.int .u8 x4),(.int .i64 x5),(.int .i64 x6),(.int .i64 x7)] hp K:=by
 refine .inl ⟨by kernel_rfl,AC.intro (N:=231) Tryd.func4 F4_body rfl (Nat.le_of_ble_eq_true rfl) ?_⟩
 unfold F4 at h
 refine Ar F4_r0 ?_ (r8 0 1 2 3 4 5 6 7 Rn) (z8 Sn) Sn
 refine Aq (Ar (F4_r1 rfl) ?_ (r8 0 1 2 3 4 5 6 7 Rn) (z8 Sn) Sn)
 refine mC h fun u1 h2 h=>mB h fun q3 h=>?_
 refine Ac h rfl (fun h=>?_) (fun h=>?_)
 ·refine Ar F4_r2 ?_ Rn Sn Sn
  refine mC h fun u4 h5 h=>mB h fun q6 h=>?_
  refine AWP.ret ?_
  exact h
 ·refine AWP.skip (Ar (F4_r3 rfl) ?_ (r8 0 1 2 3 4 5 6 7 Rn) (z8 Sn) Sn)
  refine mC h fun u7 h8 h=>mT h fun u9 u10 h=>mP h fun p11 h=>mI h fun i12 h=>?_
  refine Aq (Ar F4_r4 ?_ (r6 18 4 5 6 7 17 Rn) (z6 Sn) Sn)
  refine Ac h rfl (fun h=>?_) (fun h=>?_)
  ·refine Ar F4_r5 ?_ (r1 17 Rn) (z1 Sn) Sn
   refine mt h (fun h=>?_) (fun h=>?_)
   ·refine mC h fun u13 h14 h=>mB h fun q15 h=>?_
    refine AWP.ret ?_
    exact h
   ·refine AWP.ret ?_
    exact h
  ·refine AWP.skip (Ar F4_r6 ?_ (r5 4 5 6 7 17 Rn) (z5 Sn) Sn)
   refine ⟨h.1,?_⟩
   replace h:=h.2
   refine Ar F4_r7 ?_ (r5 5 17 6 7 19 Rn) (z5 Sn) Sn
   refine mC h fun u16 h17 h=>mI h fun i18 h=>?_
   refine Ar (F4_r8 rfl) ?_ (r6 5 6 17 7 19 20 Rn) (z6 Sn) Sn
   refine mC h fun u19 h20 h=>mA h fun l21 h=>mC h fun u22 h23 h=>mT h fun u24 u25 h=>mA h fun l26 h=>mI h fun i27 h=>mf h fun h=>mf h fun h=>mf h fun h=>?_
   refine As (fun env pv hp=>∃ x5 x6 x7 x17 x20,Sub (w5 E0 20 (sI x20) 17 (sP x17) 7 (sI x7) 6 (sI x6) 5 (sI x5)) env∧Sub V0 pv∧F4_j1 x5 x6 x7 x17 x20 hp  K) ?_ ?_
   ·refine Ar F4_r18 ?_ (r7 22 5 6 7 17 19 20 (rp 21 21 0 Rn)) (z8 Sn) (z1 Sn)
    refine Ac h rfl (fun h=>?_) (fun h=>?_)
    ·refine As (fun env pv hp=>∃ x5 x6 x7 x17 x19 x20 k21,Sub (w7 E0 21 (sR 21 0) 20 (sI x20) 19 (sI x19) 17 (sP x17) 7 (sI x7) 6 (sI x6) 5 (sI x5)) env∧Sub (upd V0 21 (36,k21)) pv∧(F4_j2 x5 x6 x7 x17 x19 x20 k21 hp  K)) ?_ ?_
     ·refine As (fun env pv hp=>∃ x5 x6 x7 x17 x19 x20 x23 k21,Sub (w8 E0 23 (sI x23) 21 (sR 21 0) 20 (sI x20) 19 (sI x19) 17 (sP x17) 7 (sI x7) 6 (sI x6) 5 (sI x5)) env∧Sub (upd V0 21 (36,k21)) pv∧(F4_j8 x5 x6 x7 x17 x19 x20 x23 k21 hp  K)) ?_ ?_
      ·refine Ag F4_r33 ?_ (r6 5 6 7 17 19 20 (rp 21 21 0 Rn)) (z7 Sn) (z1 Sn)
       exact ⟨_,_,_,_,_,_,_,_,(z8 Sn),(z1 Sn),h⟩
      ·rintro env pv hp ⟨x5,x6,x7,x17,x19,x20,x23,k21,he,hv,h⟩
       refine Ae ?_ (r6 5 6 7 17 19 20 (rp 21 21 0 (r1 23 Rn))) he hv
       unfold F4_j8 at h
       refine AWP.block (AWP.loop (σ:=Int) _ (fun s=>w8 E0 23 (sI s) 21 (sR 21 0) 20 (sI x20) 19 (sI x19) 17 (sP x17) 7 (sI x7) 6 (sI x6) 5 (sI x5)) (fun s=>upd V0 21 (36,k21)) x23 h (fun s=>r6 5 6 7 17 19 20 (rp 21 21 0 (r1 23 Rn))) (z8 Sn) (z1 Sn) ?_)
       intro I9 x23 hp h
       replace h:F4_l9 x5 x6 x7 x17 x19 x20 k21  K I9 x23 hp:=h
       unfold F4_l9 at h
       refine Aq (Ar F4_r29 ?_ (r7 19 23 5 6 7 17 20 (rp 21 21 0 Rn)) (z8 Sn) (z1 Sn))
       refine Ac h rfl (fun h=>?_) (fun h=>?_)
       ·refine AWP.skip (Aq (AWP.block (Ar F4_r30 ?_ (r1 17 (rp 21 21 0 (r6 5 6 7 19 20 23 Rn))) (z8 Sn) (z1 Sn))))
        refine mV h fun v127 h=>mI h fun i128 h=>mC h fun u129 h130 h=>mI h fun i131 h=>?_
        refine Ac h rfl (fun h=>?_) (fun h=>?_)
        ·refine Ar F4_r31 ?_ Rn Sn Sn
         refine AWP.ret ?_
         exact h
        ·refine AWP.skip (Ag F4_r32 ?_ (r7 23 5 6 7 17 19 20 (rp 21 21 0 Rn)) (z8 Sn) (z1 Sn))
         exact ⟨_,(z8 Sn),(z1 Sn),h⟩
       ·refine AWP.exit ?_
        exact ⟨_,_,_,_,_,_,_,(z7 Sn),(z1 Sn),h⟩
     ·rintro env pv hp ⟨x5,x6,x7,x17,x19,x20,k21,he,hv,h⟩
      refine Ae ?_ (r6 5 6 7 17 19 20 (rp 21 21 0 Rn)) he hv
      unfold F4_j2 at h
      refine As (fun env pv hp=>∃ x5 x6 x7 x17 x20 k21,Sub (w6 E0 21 (sR 21 0) 20 (sI x20) 17 (sP x17) 7 (sI x7) 6 (sI x6) 5 (sI x5)) env∧Sub (upd V0 21 (36,k21)) pv∧(F4_j3 x5 x6 x7 x17 x20 k21 hp  K)) ?_ ?_
      ·refine As (fun env pv hp=>∃ x5 x6 x7 x17 x19 x20 x24 k21,Sub (w8 E0 24 (sI x24) 21 (sR 21 0) 20 (sI x20) 19 (sI x19) 17 (sP x17) 7 (sI x7) 6 (sI x6) 5 (sI x5)) env∧Sub (upd V0 21 (36,k21)) pv∧(F4_j5 x5 x6 x7 x17 x19 x20 x24 k21 hp  K)) ?_ ?_
       ·refine Ag F4_r28 ?_ (r6 5 6 7 17 19 20 (rp 21 21 0 Rn)) (z7 Sn) (z1 Sn)
        exact ⟨_,_,_,_,_,_,_,_,(z8 Sn),(z1 Sn),h⟩
       ·rintro env pv hp ⟨x5,x6,x7,x17,x19,x20,x24,k21,he,hv,h⟩
        refine Ae ?_ (r6 5 6 7 17 19 20 (rp 21 21 0 (r1 24 Rn))) he hv
        unfold F4_j5 at h
        refine AWP.block (AWP.loop (σ:=Int) _ (fun s=>w8 E0 24 (sI s) 21 (sR 21 0) 20 (sI x20) 19 (sI x19) 17 (sP x17) 7 (sI x7) 6 (sI x6) 5 (sI x5)) (fun s=>upd V0 21 (36,k21)) x24 h (fun s=>r6 5 6 7 17 19 20 (rp 21 21 0 (r1 24 Rn))) (z8 Sn) (z1 Sn) ?_)
        intro I6 x24 hp h
        replace h:F4_l6 x5 x6 x7 x17 x19 x20 k21  K I6 x24 hp:=h
        unfold F4_l6 at h
        refine Aq (Ar F4_r22 ?_ (r7 19 24 5 6 7 17 20 (rp 21 21 0 Rn)) (z8 Sn) (z1 Sn))
        refine Ac h rfl (fun h=>?_) (fun h=>?_)
        ·refine AWP.skip (Aq (AWP.block (Ar F4_r23 ?_ (r1 17 (rp 21 21 0 (r6 5 6 7 19 20 24 Rn))) (z8 Sn) (z1 Sn))))
         refine mV h fun v111 h=>mI h fun i112 h=>mC h fun u113 h114 h=>mT h fun u115 u116 h=>mB h fun q117 h=>mI h fun i118 h=>?_
         refine Ar F4_r24 ?_ (r1 17 (rp 21 21 0 (r8 5 6 7 19 20 24 25 26 Rn))) (z2 (z8 Sn)) (z1 Sn)
         refine mV h fun v119 h=>mI h fun i120 h=>mC h fun u121 h122 h=>mT h fun u123 u124 h=>mA h fun l125 h=>mB h fun q126 h=>mf h fun h=>mf h fun h=>mf h fun h=>?_
         refine As (fun env pv hp=>∃ x24 x119,Sub (upd (w8 E0 119 (sB x119) 24 (sI x24) 21 (sR 21 0) 20 (sI x20) 19 (sI x19) 17 (sP x17) 7 (sI x7) 6 (sI x6)) 5 (sI x5)) env∧Sub (upd V0 21 (36,k21)) pv∧(F4_j7 x5 x6 x7 x17 x19 x20 x24 x119 k21 hp I6 K)) ?_ ?_
         ·refine Ag (F4_r27 rfl) ?_ (r8 19 24 25 26 28 5 6 7 (r2 17 20 (rp 21 21 0 Rn))) (z3 (z8 Sn)) (z1 Sn)
          refine mt h (fun h=>?_) (fun h=>?_)
          ·exact ⟨_,_,(z1 (z8 Sn)),(z1 Sn),h⟩
          ·refine mt h (fun h=>?_) (fun h=>?_)
           ·exact ⟨_,_,(z1 (z8 Sn)),(z1 Sn),h⟩
           ·exact ⟨_,_,(z1 (z8 Sn)),(z1 Sn),h⟩
         ·rintro env pv hp ⟨x24,x119,he,hv,h⟩
          refine Ae ?_ (r6 5 6 7 17 19 20 (rp 21 21 0 (r2 24 119 Rn))) he hv
          unfold F4_j7 at h
          refine Ac h rfl (fun h=>?_) (fun h=>?_)
          ·refine Ar F4_r25 ?_ Rn Sn Sn
           refine AWP.ret ?_
           exact h
          ·refine AWP.skip (Ag F4_r26 ?_ (r7 24 5 6 7 17 19 20 (rp 21 21 0 Rn)) (z8 Sn) (z1 Sn))
           exact ⟨_,(z8 Sn),(z1 Sn),h⟩
        ·refine AWP.exit ?_
         exact ⟨_,_,_,_,_,_,(z6 Sn),(z1 Sn),h⟩
      ·rintro env pv hp ⟨x5,x6,x7,x17,x20,k21,he,hv,h⟩
       refine Ae ?_ (r5 5 6 7 17 20 (rp 21 21 0 Rn)) he hv
       unfold F4_j3 at h
       refine Ar F4_r19 ?_ (r1 17 (rp 21 21 0 (r4 5 6 7 20 Rn))) (z6 Sn) (z1 Sn)
       refine mV h fun v97 h=>mI h fun i98 h=>mC h fun u99 h100 h=>mT h fun u101 u102 h=>mB h fun q103 h=>mI h fun i104 h=>?_
       refine As (fun env pv hp=>∃ x5 x6 x7 x17 x20 x140,Sub (w6 E0 140 (sB x140) 20 (sI x20) 17 (sP x17) 7 (sI x7) 6 (sI x6) 5 (sI x5)) env∧Sub V0 pv∧F4_j4 x5 x6 x7 x17 x20 x140 hp  K) ?_ ?_
       ·refine Ag (F4_r21 rfl) ?_ (r6 5 17 20 30 6 7 Rn) (z6 Sn) Sn
        refine mt h (fun h=>?_) (fun h=>?_)
        ·exact ⟨_,_,_,_,_,_,(z6 Sn),Sn,h⟩
        ·refine mC h fun u105 h106 h=>mI h fun i107 h=>?_
         refine mt h (fun h=>?_) (fun h=>?_)
         ·exact ⟨_,_,_,_,_,_,(z6 Sn),Sn,h⟩
         ·refine mC h fun u108 h109 h=>mI h fun i110 h=>?_
          exact ⟨_,_,_,_,_,_,(z6 Sn),Sn,h⟩
       ·rintro env pv hp ⟨x5,x6,x7,x17,x20,x140,he,hv,h⟩
        refine Ae ?_ (r6 5 6 7 17 20 140 Rn) he hv
        unfold F4_j4 at h
        refine Ac h rfl (fun h=>?_) (fun h=>?_)
        ·refine Ar F4_r20 ?_ Rn Sn Sn
         refine AWP.ret ?_
         exact h
        ·refine AWP.skip ?_
         exact ⟨_,_,_,_,_,(z5 Sn),Sn,h⟩
    ·refine AWP.skip ?_
     exact ⟨_,_,_,_,_,(z5 Sn),Sn,h⟩
   ·rintro env pv hp ⟨x5,x6,x7,x17,x20,he,hv,h⟩
    refine Ae ?_ (r5 5 6 7 17 20 Rn) he hv
    unfold F4_j1 at h
    refine Ar (F4_r9 rfl) ?_ (r5 5 6 7 17 20 Rn) (z5 Sn) Sn
    refine mC h fun u28 h29 h=>mA h fun l30 h=>mC h fun u31 h32 h=>mA h fun l33 h=>mC h fun u34 h35 h=>mT h fun u36 u37 h=>mA h fun l38 h=>mI h fun i39 h=>mf h fun h=>mf h fun h=>mf h fun h=>?_
    refine Aq (Ar F4_r10 ?_ (r5 32 5 6 17 20 (rp 31 31 0 Rn)) (z6 Sn) (z1 Sn))
    refine Ac h rfl (fun h=>?_) (fun h=>?_)
    ·refine Ar F4_r11 ?_ (r1 17 Rn) (z1 Sn) Sn
     refine mC h fun u40 h41 h=>mI h fun i42 h=>?_
     refine mt h (fun h=>?_) (fun h=>?_)
     ·refine mC h fun u43 h44 h=>mB h fun q45 h=>?_
      refine AWP.ret ?_
      exact h
     ·refine AWP.ret ?_
      exact h
    ·refine AWP.skip (Ar F4_r12 ?_ (r1 17 (rp 31 31 0 (r3 5 6 20 Rn))) (z5 Sn) (z1 Sn))
     refine mV h fun v46 h=>mI h fun i47 h=>mC h fun u48 h49 h=>mI h fun i50 h=>?_
     refine Ar F4_r13 ?_ (r1 17 (rp 31 31 0 (r3 5 6 20 Rn))) (z5 Sn) (z1 Sn)
     refine mV h fun v51 h=>mI h fun i52 h=>mC h fun u53 h54 h=>mI h fun i55 h=>?_
     refine Ar F4_r14 ?_ (r1 17 (rp 31 31 0 (r3 5 6 20 Rn))) (z5 Sn) (z1 Sn)
     refine mV h fun v56 h=>mI h fun i57 h=>mC h fun u58 h59 h=>mT h fun u60 u61 h=>mB h fun q62 h=>mI h fun i63 h=>?_
     refine Ar (F4_r15 rfl) ?_ (r4 5 6 17 20 (rp 31 31 0 (r2 33 34 Rn))) (z7 Sn) (z1 Sn)
     refine mC h fun u64 h65 h=>mA h fun l66 h=>mC h fun u67 h68 h=>mT h fun u69 u70 h=>mA h fun l71 h=>mI h fun i72 h=>mf h fun h=>mf h fun h=>mf h fun h=>?_
     refine Ar (F4_r16 rfl) ?_ (r4 5 6 17 20 (rp 31 31 0 (r2 33 34 (rp 35 35 0 (r1 36 Rn))))) (z1 (z8 Sn)) (z2 Sn)
     refine mC h fun u73 h74 h=>mA h fun l75 h=>mC h fun u76 h77 h=>mT h fun u78 u79 h=>mA h fun l80 h=>mI h fun i81 h=>mf h fun h=>mf h fun h=>mf h fun h=>?_
     refine Ar (F4_r17 rfl) ?_ (r3 5 17 20 (rp 31 31 0 (r2 33 34 (rp 35 35 0 (r2 36 38 Rn))))) (z1 (z8 Sn)) (z2 Sn)
     refine mt h (fun h=>?_) (fun h=>?_)
     ·refine mt h (fun h=>?_) (fun h=>?_)
      ·refine mt h (fun h=>?_) (fun h=>?_)
       ·refine mV h fun v82 h=>mI h fun i83 h=>mV h fun v84 h=>mI h fun i85 h=>?_
        refine mt h (fun h=>?_) (fun h=>?_)
        ·refine mV h fun v86 h=>mI h fun i87 h=>?_
         refine mt h (fun h=>?_) (fun h=>?_)
         ·refine mt h (fun h=>?_) (fun h=>?_)
          ·refine mC h fun u88 h89 h=>mI h fun i90 h=>?_
           refine mt h (fun h=>?_) (fun h=>?_)
           ·refine mC h fun u91 h92 h=>mI h fun i93 h=>?_
            refine mt h (fun h=>?_) (fun h=>?_)
            ·refine mC h fun u94 h95 h=>mB h fun q96 h=>?_
             refine AWP.ret ?_
             exact h
            ·refine AWP.ret ?_
             exact h
           ·refine AWP.ret ?_
            exact h
          ·refine AWP.ret ?_
           exact h
         ·refine AWP.ret ?_
          exact h
        ·refine AWP.ret ?_
         exact h
       ·refine AWP.ret ?_
        exact h
      ·refine AWP.ret ?_
       exact h
     ·refine AWP.ret ?_
      exact h
end
end Go.Proofs
set_option linter.unusedVariables false
set_option linter.unusedSimpArgs false
set_option maxRecDepth 20000
namespace Go.Proofs
open Go Go.HL
section
variable {tb:Obj} {hp0 hp:HP} {K:Value→HP→Prop} {t:Nat} {l:List Q} {low high:Int} {mx last n:Nat} {L:List Bd}
/-- Behind the first half: a static one. -/
theorem heldJ (ht:TabR tb hp0) (h:BdS tb hp0 hp t l low high mx last n []) (hn:n≤1000) {p x u:Int} (hp':okZ p) (hx:okZ x) (hu:okZ u) {fr:Int} (hfr:fr=freeB l low high [] p)
    (hK:K (.bool true) hp0):F4_j1 p x u (some ⟨t,0,none⟩) fr hp fun v h=>∃ hp'',HSub hp'' h∧K v hp'':=by
  subst hfr
  have o1:okT6 (inT 1 x):=inT_ok (okBc rfl) hx
  have o2:okT (ta 1 u):=ta_ok (okBc rfl) hu
  have wk:∀ hp',HSub hp0 hp'→TabR tb hp'→CF Tryd.prog 27 [] hp' fun u h=>boolV u fun q=>∃ hp'',HSub hp'' h∧K (.bool q) hp'':=by
    intro hp' hs ht'
    refine C27 ht' fun hp2 h2=>?_
    rw [boolV_bool]
    exact ⟨hp0,hs.trans h2,hK⟩
  have d1:∀ {hp:HP} {K:Value→HP→Prop},K (.agg ⟨t6 (inT 1 x)⟩) hp→CF Tryd.prog 19 [.int .u8 1,.int .i64 x] hp K:=fun h=>C19 h
  have d2:∀ {hp:HP} {K:Value→HP→Prop},K (.agg ⟨t4 (ta 1 u)⟩) hp→CF Tryd.prog 20 [.int .u8 1,.int .i64 u] hp K:=fun h=>C20 h
  unfold F4_j1
  generalize inT 1 x=q1 at o1 d1
  generalize ta 1 u=q2 at o2 d2
  refine d1 ?_
  rw [aggV_agg]
  refine d2 ?_
  rw [aggV_agg]
  refine S24 h hp' o1 o2 (by omega) (fun e hp1 h1=>?_) fun e hp1 h1=>?_
  · rw [tup2V_mk,aggV_agg,intV_int,if_pos (bdc_len _),if_pos (bdc_one _),if_pos (by simp [bdc_len])]
    rw [show (bindB l mx [] p q1 q2 != 0)=true by simp [e],ite2_true]
    refine W23 h1.w ?_
    rw [intV_int]
    show ite2 true _ _
    rw [ite2_true]
    exact wk hp1 (h1.fin ht) h1.w.tab
  · rw [tup2V_mk,aggV_agg,intV_int,if_pos (bdc_len _),if_pos (bdc_one _),if_pos (by simp [bdc_len]),bd_spl rfl]
    rw [show ((0:Int) != 0)=false from rfl,ite2_false,bdc_id,ldV_some,intV_int]
    simp only [List.nil_append] at h1
    have f1:∀ s:Int,findI (((last+1:Nat):Int)) [(⟨((last+1:Nat):Int),p,q1,q2,true,s⟩:Bd)]=some ⟨((last+1:Nat):Int),p,q1,q2,true,s⟩:=fun s=>by
      unfold findI; rw [List.find?_cons,decide_eq_true rfl]
    have u1:∀ s s':Int,updB (((last+1:Nat):Int)) s' [(⟨((last+1:Nat):Int),p,q1,q2,true,s⟩:Bd)]=[⟨((last+1:Nat):Int),p,q1,q2,true,s'⟩]:=fun s s'=>by
      unfold updB setS; rw [List.map_cons,if_pos rfl]; rfl
    have g6:∀ s:Int,find6 p q1 [(⟨((last+1:Nat):Int),p,q1,q2,true,s⟩:Bd)]=some ⟨((last+1:Nat):Int),p,q1,q2,true,s⟩:=fun s=>by
      unfold find6; rw [List.find?_cons,decide_eq_true ⟨rfl,rfl⟩]
    refine S21 h1 (by omega) (fun e'=>by rw [f1] at e'; cases e') fun b hb hp2 h2=>?_
    rw [f1] at hb; cases hb
    rw [u1] at h2
    rw [intV_int,ldV_some,intV_int]
    refine S21 h2 (by omega) (fun e'=>by rw [f1] at e'; cases e') fun b hb hp3 h3=>?_
    rw [f1] at hb; cases hb
    rw [u1] at h3
    rw [intV_int,ldV_some,intV_int]
    refine S22 h3 (fun e'=>by rw [f1] at e'; cases e') (fun b hb e'=>by rw [f1] at hb; cases hb; cases e') fun b hb _ hp4 h4=>?_
    rw [f1] at hb; cases hb
    rw [show dropB (⟨((last+1:Nat):Int),p,q1,q2,true,0+1+1⟩:Bd) [⟨((last+1:Nat):Int),p,q1,q2,true,0+1+1⟩]=[⟨((last+1:Nat):Int),p,q1,q2,true,1⟩] from by
      unfold dropB; rw [if_pos (.inl rfl),u1]; rfl] at h4
    rw [tup2V_mk,boolV_bool,intV_int]
    refine d1 ?_
    rw [aggV_agg]
    have hk:0≤kindB p:=(h4.w.inv.ok _ (List.mem_singleton.2 rfl)).1
    have eu:unbB [(⟨((last+1:Nat):Int),p,q1,q2,true,1⟩:Bd)] p q1=0:=by
      unfold unbB; rw [if_neg (by omega),g6]; rfl
    refine S25 h4 hp' o1 (fun e'=>absurd eu e') fun b hb _ _ hp5 h5=>?_
    rw [g6] at hb; cases hb
    have ef:([(⟨((last+1:Nat):Int),p,q1,q2,true,1⟩:Bd)].filter fun z=>decide (z.id≠(⟨((last+1:Nat):Int),p,q1,q2,true,1⟩:Bd).id))=[]:=by simp
    rw [ef] at h5
    rw [tup2V_mk,aggV_agg,intV_int,if_pos (bdc_len _),if_pos (bdc_one _),if_pos (by simp [bdc_len]),bd_spl rfl]
    refine d1 ?_
    rw [aggV_agg]
    have eu2:unbB [] p q1=4:=by unfold unbB; rw [if_neg (by omega)]; rfl
    refine S25 h5 hp' o1 (fun _ hp6 h6=>?_) fun b hb=>by cases hb
    rw [eu2,tup2V_mk,aggV_agg,intV_int,if_pos (bdc_len _),if_pos (bdc_one _),if_pos (by simp [bdc_len])]
    show ite2 true _ _
    rw [ite2_true,show ((0:Int)==0)=true from rfl,ite2_true,ite2_true,bdc_id,ldV_some,intV_int,ldV_some,intV_int,beq_self_eq_true,ite2_true,bdc_ses,ldV_some,intV_int]
    rw [show ((1:Int)==1)=true from rfl,ite2_true,show ((4:Int)==4)=true from rfl,ite2_true]
    refine W23 h6.w ?_
    rw [intV_int]
    show ite2 true _ _
    rw [ite2_true]
    refine W26 h6.w (Nat.zero_le _) ?_
    rw [intV_int,beq_self_eq_true,ite2_true]
    exact wk hp6 (h6.fin ht) h6.w.tab
set_option maxHeartbeats 1000000 in
theorem C4 {a:Option Addr} {n0 c0:Nat} {l:List Q} {low high mx k p x u:Int} (ht:TabR tb hp0) (hs:Shows hp0 a n0 4 (l.flatMap v4)) (hl:l.length=n0) (hnc:n0≤c0) (hq:∀ q∈l,okQ q) (h1:okZ low) (h2:okZ high) (hk:okB k) (hp':okZ p) (hx:okZ x) (hu:okZ u)
    (hK:K (.bool true) hp0):CF Tryd.prog 4 [.slice a n0 c0,.int .i64 low,.int .i64 high,.int .i64 mx,.int .u8 k,.int .i64 p,.int .i64 x,.int .i64 u] hp0 K:=by
  refine CF.drop (F4_ok a n0 c0 low high mx k p x u hp0 _ ?_)
  unfold F4
  have wk:∀ hp',HSub hp0 hp'→TabR tb hp'→CF Tryd.prog 27 [] hp' fun u h=>boolV u fun q=>∃ hp'',HSub hp'' h∧K (.bool q) hp'':=by
    intro hp' hs ht'
    refine C27 ht' fun hp2 h2=>?_
    rw [boolV_bool]
    exact ⟨hp0,hs.trans h2,hK⟩
  refine C28 h1 h2 fun g hg=>?_
  rw [boolV_bool]
  cases g with
  | true=>rw [ite2_true]; exact wk hp0 (HSub.refl _) ht
  | false=>
  rw [ite2_false]
  refine S17 ht hs hl hnc h1 h2 hq (fun _=>?_) fun hnb t hp1 hB=>?_
  · rw [tup2V_mk,ptrV_pointer,intV_int,show ((1:Int) != 0)=true from rfl,ite2_true]
    show ite2 true _ _
    rw [ite2_true]
    exact wk hp0 (HSub.refl _) ht
  rw [tup2V_mk,pq,intV_int,show ((0:Int) != 0)=false from rfl,ite2_false]
  refine ⟨by decide,?_⟩
  have o1:okT6 (inT 1 x):=inT_ok (okBc rfl) hx
  refine W26 hB.w (Nat.zero_le _) ?_
  rw [intV_int]
  refine C19 ?_
  rw [aggV_agg]
  have hm0:0≤k.tmod 20∧k.tmod 20<20:=by
    unfold okB at hk
    rw [Int.tmod_eq_emod_of_nonneg (by omega)]
    omega
  obtain ⟨m,hm,hm1,hm2⟩:∃ m:Nat,IntKind.wrap .i64 (1+IntKind.wrap .i64 (k.tmod 20))=(m:Int)∧1≤m∧m≤20:=by
    refine ⟨(1+k.tmod 20).toNat,?_,by omega,by omega⟩
    have e1:IntKind.wrap .i64 (k.tmod 20)=k.tmod 20:=w64 (by omega) (by omega)
    rw [e1,w64 (by omega) (by omega)]
    omega
  rw [hm]
  refine S18 hB hp' o1 (by decide) (fun e hp2 h2'=>?_) fun e w hw hp2 h2'=>?_
  · rw [tup2V_mk,aggV_agg,intV_int,if_pos (bdc_len _),if_pos (bdc_one _),if_pos (by simp [bdc_len])]
    rw [show (roomB l low high mx.toNat [] p (inT 1 x)==0)=false by simp [e],ite2_false]
    exact heldJ ht h2' (by decide) hp' hx hu rfl hK
  rw [tup2V_mk,aggV_agg,intV_int,if_pos (bdc_len _),if_pos (bdc_one _),if_pos (by simp [bdc_len]),bd_spl rfl]
  rw [show ((0:Int)==0)=true from rfl,ite2_true]
  simp only [List.nil_append,Nat.zero_add] at h2' ⊢
  have f1:∀ s:Int,findI ((1:Nat):Int) [(⟨((1:Nat):Int),p,inT 1 x,w,false,s⟩:Bd)]=some ⟨((1:Nat):Int),p,inT 1 x,w,false,s⟩:=fun s=>by
    unfold findI; rw [List.find?_cons,decide_eq_true rfl]
  have u1:∀ s s':Int,updB ((1:Nat):Int) s' [(⟨((1:Nat):Int),p,inT 1 x,w,false,s⟩:Bd)]=[⟨((1:Nat):Int),p,inT 1 x,w,false,s'⟩]:=fun s s'=>by
    unfold updB setS; rw [List.map_cons,if_pos rfl]; rfl
  unfold F4_j8
  refine LoopP.by (J:=fun kk (z:Int) hp'=>∃ i:Nat,z=i∧i+kk=m∧BdS tb hp0 hp' t l low high mx.toNat 1 (1+i) [⟨((1:Nat):Int),p,inT 1 x,w,false,(i:Int)⟩]) ?_ (n:=m) ⟨0,rfl,by omega,h2'⟩
  clear h2'
  rintro I kk z hp3 ⟨i,rfl,hik,h3⟩ hI
  unfold F4_l9
  by_cases hi:i<m
  · rw [decide_eq_true (by omega:(i:Int)<(m:Int)),ite2_true,bdc_id,ldV_some,intV_int]
    refine S21 h3 (by omega) (fun e'=>by rw [f1] at e'; cases e') fun b hb hp4 h4=>?_
    rw [f1] at hb; cases hb
    rw [u1] at h4
    rw [intV_int,show ((0:Int) != 0)=false from rfl,ite2_false]
    have w1:IntKind.wrap .i64 ((i:Int)+1)=((i+1:Nat):Int):=wi (by omega) (by omega)
    rw [w1]
    exact hI (kk-1) _ _ (by omega) ⟨i+1,rfl,by omega,h4⟩
  rw [decide_eq_false (by omega:¬ (i:Int)<(m:Int)),ite2_false]
  have him:i=m:=by omega
  subst him
  clear hI hik
  unfold F4_j2 F4_j5
  refine LoopP.by (J:=fun kk (z:Int) hp'=>∃ j:Nat,z=j∧j+kk=i∧((j<i∧BdS tb hp0 hp' t l low high mx.toNat 1 (1+i) [⟨((1:Nat):Int),p,inT 1 x,w,false,((i-j:Nat):Int)⟩])∨(j=i∧BdS tb hp0 hp' t l low high mx.toNat 1 (1+i) []))) ?_ (n:=i) ⟨0,rfl,by omega,.inl ⟨by omega,h3⟩⟩
  clear h3
  rintro I kk z hp4 ⟨j,rfl,hjk,hst⟩ hI
  unfold F4_l6
  rcases hst with ⟨hj,h4⟩ | ⟨rfl,h4⟩
  · rw [decide_eq_true (by omega:(j:Int)<(i:Int)),ite2_true,bdc_id,ldV_some,intV_int]
    refine S22 h4 (fun e'=>by rw [f1] at e'; cases e') (fun b hb e'=>by rw [f1] at hb; cases hb; simp only at e'; omega) fun b hb _ hp5 h5=>?_
    rw [f1] at hb; cases hb
    rw [tup2V_mk,boolV_bool,intV_int,ldV_some,intV_int]
    simp only [Bool.false_or]
    have w1:IntKind.wrap .i64 ((j:Int)+1)=((j+1:Nat):Int):=wi (by omega) (by omega)
    have w2:IntKind.wrap .i64 ((i:Int)-1)=((i-1:Nat):Int):=by rw [w64 (by omega) (by omega)]; omega
    by_cases hlast:j+1=i
    · have hd:dropB (⟨((1:Nat):Int),p,inT 1 x,w,false,((i-j:Nat):Int)⟩:Bd) [⟨((1:Nat):Int),p,inT 1 x,w,false,((i-j:Nat):Int)⟩]=[]:=by
        unfold dropB
        rw [if_neg (by simp; omega)]
        simp
      rw [hd] at h5
      refine W29 h5.w ?_
      unfold toldV
      rw [tup2V_mk,aggV_agg,boolV_bool,if_pos (bdc_len _),if_pos (bdc_one _),if_pos (by simp [bdc_len])]
      rw [show ((0:Int) != 0)=false from rfl,ite2_false,w2,decide_eq_false (by omega),show ((j:Int)==((i-1:Nat):Int))=true by simp; omega]
      show ite2 false _ _
      rw [ite2_false]
      show F4_j7 _ _ _ _ _ _ _ false _ _ _ _
      unfold F4_j7
      rw [ite2_false,w1]
      exact hI (kk-1) _ _ (by omega) ⟨j+1,rfl,by omega,.inr ⟨hlast,h5⟩⟩
    · have hd:dropB (⟨((1:Nat):Int),p,inT 1 x,w,false,((i-j:Nat):Int)⟩:Bd) [⟨((1:Nat):Int),p,inT 1 x,w,false,((i-j:Nat):Int)⟩]=[⟨((1:Nat):Int),p,inT 1 x,w,false,((i-(j+1):Nat):Int)⟩]:=by
        unfold dropB
        rw [if_pos (.inr (by show (1:Int)<((i-j:Nat):Int); omega)),u1]
        rw [show (((i-j:Nat):Int)-1)=((i-(j+1):Nat):Int) by omega]
      rw [hd] at h5
      refine W29 h5.w ?_
      rw [f1]
      unfold toldV
      rw [tup2V_mk,aggV_agg,boolV_bool,if_pos (bdc_len _),if_pos (bdc_one _),if_pos (by simp [bdc_len])]
      rw [show ((0:Int) != 0)=false from rfl,ite2_false,w2,decide_eq_true (by omega),show ((j:Int)==((i-1:Nat):Int))=false by simp; omega]
      show ite2 false _ _
      rw [ite2_false]
      show F4_j7 _ _ _ _ _ _ _ false _ _ _ _
      unfold F4_j7
      rw [ite2_false,w1]
      exact hI (kk-1) _ _ (by omega) ⟨j+1,rfl,by omega,.inl ⟨by omega,h5⟩⟩
  · rw [decide_eq_false (by omega:¬ (j:Int)<(j:Int)),ite2_false]
    unfold F4_j3
    rw [bdc_id,ldV_some,intV_int]
    refine S22 h4 (fun _ hp5 h5=>?_) (fun b hb=>by cases hb) fun b hb=>by cases hb
    rw [tup2V_mk,boolV_bool,intV_int,show ((4:Int) != 4)=false from rfl,ite2_false]
    refine W26 h5.w (Nat.zero_le _) ?_
    rw [intV_int,show (freeB l low high [] p != freeB l low high [] p)=false by simp,ite2_false]
    refine W23 h5.w ?_
    rw [intV_int]
    show F4_j4 _ _ _ _ _ false _ _
    unfold F4_j4
    rw [ite2_false]
    exact heldJ ht h5 (by omega) hp' hx hu rfl hK
end
end Go.Proofs
set_option linter.unusedVariables false
set_option maxRecDepth 20000
namespace Go.Proofs
open Go Go.HL
theorem dec5 {D:Nat} {cs:List Value} (h:wellS Tryd.prog D 5 cs=true):∃ n:Int,(0≤n∧n≤255)∧cs=[.int .u8 n]:=by
  cases D with
  | zero=>cases h
  | succ D=>
    unfold wellS at h
    rw [show Tryd.prog.underlying 5=some (.int .u8) by kernel_rfl] at h
    simp only at h
    split at h
    · rename_i q n
      simp only [Bool.and_eq_true,decide_eq_true_eq] at h
      obtain ⟨rfl,hw⟩:=h
      exact ⟨n,(Go.Lit.wf_int_iff _ _).1 hw,rfl⟩
    · cases h
theorem dec73:∀ (D:Nat) (cs:List Value),wellS Tryd.prog D 27 cs=true→∃ q:Q,okQ q∧cs=v4 q:=by
  intro D cs h
  cases D with
  | zero=>cases h
  | succ D=>
    unfold wellS at h
    rw [show Tryd.prog.underlying 27=some (.array 4 5) by kernel_rfl] at h
    simp only [show Tryd.prog.cellsOf 27=4 by kernel_rfl,show Tryd.prog.cellsOf 5=1 by kernel_rfl,Bool.and_eq_true,decide_eq_true_eq,List.all_eq_true,List.mem_range] at h
    obtain ⟨hl,he⟩:=h
    match cs,hl with
    | [c0,c1,c2,c3],_=>
      obtain ⟨n0,r0,e0⟩:=dec5 (he 0 (by omega))
      obtain ⟨n1,r1,e1⟩:=dec5 (he 1 (by omega))
      obtain ⟨n2,r2,e2⟩:=dec5 (he 2 (by omega))
      obtain ⟨n3,r3,e3⟩:=dec5 (he 3 (by omega))
      simp at e0 e1 e2 e3
      subst e0; subst e1; subst e2; subst e3
      exact ⟨(n0,n1,n2,n3),⟨r0,r1,r2,r3⟩,rfl⟩
end Go.Proofs
namespace Go.Proofs.YtpkhoemonibajaaDoor
open Go Go.HL Go.Proofs
def theLaid : List (String × DataW Unit) := [("math/bits.deBruijn32tab", Rows.laid_math_bits_deBruijn32tab), ("math/bits.deBruijn64tab", Rows.laid_math_bits_deBruijn64tab), ("internal/strconv.uint64pow10", Rows.laid_internal_strconv_uint64pow10)]
theorem tabOf {W:World} (h:laidMetH Tryd.prog theLaid W):∃ o,hpAll W 0=.obj o∧TabO o:=by
  have h':laidMet Tryd.prog theLaid W:=h
  obtain ⟨ps,hv,_⟩:=h'
  obtain ⟨q1,h1⟩:=laidVars_tail hv
  obtain ⟨q2,h2⟩:=laidVars_tail h1
  have ht : Lib.TabIs Tryd.prog W "internal/strconv.uint64pow10" .u64 Lib.pow10Tab :=
    tabIs_of_vars (rest:=[]) (g:=0) (t:=267) (e:=233) (n:=20) (by kernel_rfl) (by kernel_rfl) (by kernel_rfl) (by kernel_rfl) (by kernel_rfl) (by kernel_rfl) h2
  obtain ⟨o,ho,hO⟩:=tabO_of ht
  exact ⟨o,by unfold hpAll; rw [ho],hO⟩
/-- What a table's cells are. -/
def cellsLaid:DataW Unit→Array Value
  | .agg ps=>(ps.map fun d=>match d with | .lit (.int k n)=>Value.int k n | _=>.int .i64 0).toArray
  | _=>#[]
def layAt (b:Nat) (d:DataW Unit) (h:Array Obj):Array Obj:=h.modify b fun | .cells _ t fz=>.cells (cellsLaid d) t fz | o=>o
noncomputable def laidWorld (os:Os) (I:Input):World:=
  { World.holding Tryd.prog os I with heap:=layAt 0 Rows.laid_internal_strconv_uint64pow10 (layAt 1 Rows.laid_math_bits_deBruijn32tab (layAt 2 Rows.laid_math_bits_deBruijn64tab (World.holding Tryd.prog os I).heap)) }
end Go.Proofs.YtpkhoemonibajaaDoor
