/- Parts of the proof of SessionPartsProof: the logic of what is known of memory, functions' contracts. -/
import Derived.Test.YtpkhoemonibajaaDoorQSessionPartsProofB
import Derived.Shelf.SlIterI.Collect
import Derived.Shelf.SlIterI.Nil
import Derived.ChangeKeysEq
import Derived.Test.YtpkhoemonibajaaDoorHlAbb
import Derived.Test.YtpkhoemonibajaaDoorProg
import Derived.Sort.LotB
import Derived.Sort.LotC
import Derived.Sort.LotA
import Derived.Sort.LotD1
import Derived.Test.YtpkhoemonibajaaDoorHlUse2
set_option linter.unusedVariables false
set_option linter.unusedSimpArgs false
set_option linter.unusedVariables false
set_option linter.unusedSimpArgs false
set_option maxRecDepth 20000
namespace Go.Proofs
open Go Go.HL Go.Shelf
def itRen:Ren where
  f:=fun | 8=>95 | 11=>124 | 7=>96 | 10=>125 | n=>n
  t:=fun | 0=>0 | 3=>4 | 4=>4 | 23=>160 | 24=>119 | 26=>3 | 27=>165 | 28=>166 | 33=>137 | n=>n
  g:=fun n=>n
theorem it_zero {P:Program} {t:TypeId} {z:Value} (h:(P.info? t).bind (·.zero)=some z) (w:World):(zeroValue t).run P w=.ok z w:=itoa_zero h w
theorem it_size {P:Program} {t:TypeId} {n:Nat} (h:(P.info? t).map (·.size)=some n) (w:World):(Go.sizeOf t).run P w=.ok n w:=by
  cases hi:P.info? t with
  | none=>rw [hi] at h; cases h
  | some i=>
    rw [hi] at h
    have hz:i.size=n:=by simpa using h
    simp [Go.sizeOf,typeInfo,hi,hz]
theorem it8:SlLaysZI.n8 Tryd.prog itRen where
  mixed:=by kernel_rfl
  f8 := ⟨"slices.Collect[int]", by decide, by kernel_rfl⟩
  f11 := ⟨"slices.AppendSeq[[]int,int]", by decide, by kernel_rfl⟩
  t0:=by kernel_rfl
  a0:=run_isAgg_plain (t:=itRen.t 0) (d:=(TypeDesc.tuple #[])) (by kernel_rfl) rfl
  z0:=it_size (by kernel_rfl)
  v0:=it_zero (by kernel_rfl)
  t24:=by kernel_rfl
  a24:=run_isAgg_plain (t:=itRen.t 24) (d:=(TypeDesc.slice (itRen.t 26))) (by kernel_rfl) rfl
  z24:=it_size (by kernel_rfl)
  v24:=it_zero (by kernel_rfl)
  t26:=by kernel_rfl
  a26:=run_isAgg_plain (t:=itRen.t 26) (d:=(TypeDesc.int IntKind.i64)) (by kernel_rfl) rfl
  z26:=it_size (by kernel_rfl)
  v26:=it_zero (by kernel_rfl)
  t28:=by kernel_rfl
  a28:=run_isAgg_plain (t:=itRen.t 28) (d:=(TypeDesc.func #[itRen.t 33] #[] false)) (by kernel_rfl) rfl
  z28:=it_size (by kernel_rfl)
  v28:=it_zero (by kernel_rfl)
  i26:=by kernel_rfl
theorem it10:SlLaysZI.n10 Tryd.prog itRen where
  mixed:=by kernel_rfl
  f10 := ⟨"maps.Keys[map[int]bool,int,bool]$1", by decide, by kernel_rfl⟩
  t0:=by kernel_rfl
  a0:=run_isAgg_plain (t:=itRen.t 0) (d:=(TypeDesc.tuple #[])) (by kernel_rfl) rfl
  z0:=it_size (by kernel_rfl)
  v0:=it_zero (by kernel_rfl)
  t4:=by kernel_rfl
  a4:=run_isAgg_plain (t:=itRen.t 4) (d:=(TypeDesc.bool)) (by kernel_rfl) rfl
  z4:=it_size (by kernel_rfl)
  v4:=it_zero (by kernel_rfl)
  t23:=by kernel_rfl
  a23:=run_isAgg_plain (t:=itRen.t 23) (d:=(TypeDesc.map (itRen.t 26) (itRen.t 3))) (by kernel_rfl) rfl
  z23:=it_size (by kernel_rfl)
  v23:=it_zero (by kernel_rfl)
  t26:=by kernel_rfl
  a26:=run_isAgg_plain (t:=itRen.t 26) (d:=(TypeDesc.int IntKind.i64)) (by kernel_rfl) rfl
  z26:=it_size (by kernel_rfl)
  v26:=it_zero (by kernel_rfl)
  t33:=by kernel_rfl
  a33:=run_isAgg_plain (t:=itRen.t 33) (d:=(TypeDesc.func #[itRen.t 26] #[itRen.t 4] false)) (by kernel_rfl) rfl
  z33:=it_size (by kernel_rfl)
  v33:=it_zero (by kernel_rfl)
theorem fits_belowD {F:Nat→Prop} {w0 w w':World} {hp:HP} (h:Fits F w0 hp w) (b:RowKit.Below w.heap.size w w'):Fits F w0 hp w':=by
  refine ⟨fun k=>?_,fun k hk=>?_,b.os.trans h.os,b.tape.trans h.tape,b.output.trans h.output,Nat.le_trans h.size b.size⟩
  · have hk:=h.ent k
    by_cases hlt:k<w.heap.size
    · rw [b.block k hlt]; exact hk
    · have hn:w.heap[k]?=none:=by simp; omega
      rw [hn] at hk
      cases e:hp k with
      | none=>trivial
      | cells t cs sp=>rw [e] at hk; obtain ⟨_,_,hk⟩:=hk; cases hk
      | obj o=>rw [e] at hk; cases hk
  · obtain ⟨h1,h2,h3⟩:=h.fr k hk
    exact ⟨h1,Nat.lt_of_lt_of_le h2 b.size,(b.block k h2).trans h3⟩
theorem fits_row {F:Nat→Prop} {w0 w w':World} {hp:HP} (h:Fits F w0 hp w) (b:RowKit.Below w.heap.size w w') {g cap n:Nat} {e:TypeId} {cur:Array Value} {xs:List Value} (hg:w.heap.size≤g) (hw:w'.heap[g]?=some (.cells cur e (0,0)))
    (hle:n≤cap) (hsz:cur.size=cap) (ht:cur.toList.take n=xs):hp g=.none∧Fits F w0 (hp.set g (.cells e xs (cap-n))) w':=by
  have h1:=fits_belowD h b
  have hg0:hp g=.none:=by
    have hk:=h.ent g
    have hn:w.heap[g]?=none:=by simp; omega
    rw [hn] at hk
    cases e:hp g with
    | none=>rfl
    | cells t cs sp=>rw [e] at hk; obtain ⟨_,_,hk⟩:=hk; cases hk
    | obj o=>rw [e] at hk; cases hk
  refine ⟨hg0,fun k=>?_,fun k hk=>?_,h1.os,h1.tape,h1.output,h1.size⟩
  · by_cases hk:k=g
    · subst hk
      rw [HP.set_eq]
      refine ⟨cur.toList.drop n,by rw [List.length_drop,Array.length_toList,hsz],?_⟩
      rw [hw,← ht,List.take_append_drop]
    · rw [HP.set_ne _ _ hk]; exact h1.ent k
  · have hne:k≠g:=fun e=>by have:=(h.fr k hk).2.1; omega
    rw [HP.set_ne _ _ hne]
    exact h1.fr k hk
section
variable {ν:Type} {ev:ν→Value} {l:List (Int × ν)} {hp:HP} {K:Value→HP→Prop}
/-- What Collect leaves: nothing, or a new row. -/
def Coll (hp:HP) (ss:List Int) (K:Value→HP→Prop):Prop:=
  (ss=[]→K (.slice none 0 0) hp)∧(ss≠[]→∀ b c,hp b=.none→ss.length≤c→K (.slice (some ⟨b,0,none⟩) ss.length c) (hp.set b (.cells 3 (ss.map iw) (c-ss.length))))
theorem coll_of {F:Nat→Prop} {w0 w:World} (hf:Fits F w0 hp w) {g:Nat} {lb:Array Value} {S:List Int→Prop} {N:Nat} (hN:N≤1000000) (eg:∀ args w,(callFunc g args).run Tryd.prog w=.ok (.enter g args) w)
    (hseq:SeqGives Fence.wide 3 Tryd.prog g lb encZ S N w) (hS:∀ ss,S ss→Coll hp ss K) :
    Calls Tryd.prog 95 #[.func (.func g) #[] lb] w fun e w'=>∃ v hp',e=.returned v∧Fits F w0 hp' w'∧K v hp':=by
  refine (callsIn_wide.1 (AnyZI.collect_in it8 Fence.wide 5 trivial trivial rfl (by decide) g lb trivial eg S N (Nat.le_trans hN (by decide)) (by omega) w hseq)).mono ?_
  rintro e w' ⟨v,ss,rfl,hs,hrow,hnil,hb⟩
  obtain ⟨hxl,hrow⟩:=hrow
  obtain ⟨k1,k2⟩:=hS ss hs
  rcases hrow with ⟨rfl,hn⟩ | ⟨g',cap,cur,rfl,hg,hw,hle,_,hsz,ht⟩
  · exact ⟨_,hp,rfl,fits_belowD hf hb,k1 (hnil.1 rfl)⟩
  · have hne:ss≠[]:=fun e=>by have:=hnil.2 e; cases this
    rw [Nat.mul_one] at hsz ht
    obtain ⟨h1,h2⟩:=fits_row hf hb hg hw hle hsz ht
    exact ⟨_,_,rfl,h2,k2 hne g' cap h1 hle⟩
theorem owns_of {F:Nat→Prop} {w0 w:World} (hf:Fits F w0 hp w) {mb:Nat} (hM:MapE iw ev l (hp mb)) (hn:(l.map (·.1)).Nodup) (hz:∀ p∈l,okZ p.1) (hsz:l.length≤100000) :
    ∃ D:DataW Unit,w.ownsMap Tryd.prog 3 (fun _=>some (.nil,[])) mb l.length D∧(intKeys D).Perm (l.map (·.1))∧Maps.size D=l.length:=by
  obtain ⟨es,clock,he,hes,hb1,hb2⟩:=hM
  have hw:w.heap[mb]?=some (.map es clock):=by have:=hf.ent mb; rw [he] at this; exact this
  have hlen:es.size=l.length:=by have:=congrArg List.length hes; simpa using this
  have hkeys:es.toList.map (·.key)=l.map fun p=>iw p.1:=by
    have:=congrArg (List.map (·.1)) hes
    rw [List.map_map,List.map_map] at this
    exact this
  have hk3:Tryd.prog.underlying 3=some (.int .i64):=by kernel_rfl
  have rdx:∀ z∈es.toList,∃ p∈l,WideElems.rd (H:=Unit) Tryd.prog 3 (fun _=>some (.nil,[])) z=some (.int .i64 p.1,.nil)∧z.key=iw p.1:=by
    intro z hzm
    have h1:z.key∈l.map fun p=>iw p.1:=by rw [← hkeys]; exact List.mem_map.2 ⟨z,hzm,rfl⟩
    obtain ⟨p,hp,e⟩:=List.mem_map.1 h1
    refine ⟨p,hp,?_,e.symm⟩
    have hwf:(Lit.int .i64 p.1).wf=true:=by obtain ⟨q1,q2⟩:=hz p hp; exact Bool.and_eq_true_iff.2 ⟨decide_eq_true q1,decide_eq_true q2⟩
    have:=Maps.keyOf_int_mk hk3 hwf
    unfold WideElems.rd
    rw [← e]
    simp only [iw,this,Option.bind_some,Option.map_some]
  have hrg:es.toList.map (WideElems.rg (H:=Unit) Tryd.prog 3 (fun _=>some (.nil,[])))=l.map fun p=>(Lit.int .i64 p.1,DataW.nil):=by
    have h1:∀ (xs:List MapEntry) (ys:List (Int × ν)),(∀ z∈xs,z∈es.toList)→xs.map (·.key)=ys.map (fun p=>iw p.1)→xs.map (WideElems.rg (H:=Unit) Tryd.prog 3 (fun _=>some (.nil,[])))=ys.map fun p=>(Lit.int .i64 p.1,DataW.nil):=by
      intro xs
      induction xs with
      | nil=>intro ys _ e; cases ys with | nil=>rfl | cons y ys=>cases e
      | cons z xs ih=>
        intro ys hsub e
        cases ys with
        | nil=>cases e
        | cons y ys=>
          rw [List.map_cons,List.map_cons,List.cons.injEq] at e
          rw [List.map_cons,List.map_cons,ih ys (fun v hv=>hsub v (by simp [hv])) e.2]
          congr 1
          obtain ⟨p,_,e1,e2⟩:=rdx z (hsub z (by simp))
          rw [WideElems.rg_of e1]
          have:p.1=y.1:=by
            have:=e2.symm.trans e.1
            simpa [iw] using this
          rw [this]
    exact h1 _ _ (fun z hz=>hz) hkeys
  have hperm:=Go.WideShapes.sorted_perm (es.toList.map (WideElems.rg (H:=Unit) Tryd.prog 3 (fun _=>some (.nil,[]))))
  refine ⟨_,⟨es,clock,hw,⟨?_,⟨hb1,hb2,?_⟩,fun z hz=>?_⟩,Nat.le_of_eq hlen,rfl⟩,?_,?_⟩
  · rw [hlen]; exact Nat.le_trans hsz (by decide)
  · rw [hkeys]
    have:=hn
    unfold List.Nodup at this ⊢
    rw [List.pairwise_map] at this ⊢
    exact this.imp fun h e=>h (by simpa [iw] using e)
  · obtain ⟨p,_,e1,_⟩:=rdx z hz
    exact ⟨_,e1⟩
  · have h2:=hperm.map (fun p:Lit × DataW Unit=>intOf p.1)
    rw [hrg,List.map_map] at h2
    rw [hrg]
    exact h2
  · have h2:=hperm.length_eq
    rw [Maps.size_eq,h2,List.length_map,Array.length_toList,hlen]
theorem cell_box {F:Nat→Prop} {w0 w:World} (hf:Fits F w0 hp w) {B:Nat} {e:TypeId} {v:Value} (hB:hp B=.cells e [v] 0):B<w.heap.size∧w.cell? ⟨B,0,none⟩=some v:=by
  refine ⟨Ent.ok_lt (hB▸hf.ent B) (by simp),hf.cell (by rw [HP.cell_of hB]; rfl)⟩
theorem C95 {B mb:Nat} (hB:hp B=.cells 160 [.map (some mb)] 0) (hM:MapE iw ev l (hp mb)) (hn:(l.map (·.1)).Nodup) (hz:∀ p∈l,okZ p.1) (hsz:l.length≤100000)
    (hK:∀ ss:List Int,ss.Perm (l.map (·.1))→Coll hp ss K):CF Tryd.prog 95 [.func (.func 125) ⟨[]⟩ ⟨[ptr B 0]⟩] hp K:=by
  refine .inl ⟨by kernel_rfl,fun F w hf=>?_⟩
  obtain ⟨D,h1,h2,h3⟩:=owns_of hf hM hn hz hsz
  obtain ⟨b1,b2⟩:=cell_box hf hB
  exact coll_of hf (N:=Maps.size D) (by omega) (it10.f10.enters rfl) (AnyZI.keys_gives it10 Fence.wide 3 trivial rfl (by decide) B mb l.length D w b1 b2 h1) fun ss hs=>hK ss (hs.trans h2)
theorem C95n {B:Nat} (hB:hp B=.cells 160 [.map none] 0) (hK:K (.slice none 0 0) hp):CF Tryd.prog 95 [.func (.func 125) ⟨[]⟩ ⟨[ptr B 0]⟩] hp K:=by
  refine .inl ⟨by kernel_rfl,fun F w hf=>?_⟩
  obtain ⟨b1,b2⟩:=cell_box hf hB
  exact coll_of hf (N:=0) (by omega) (it10.f10.enters rfl) (AnyZI.keys_gives_nil it10 Fence.wide 3 trivial rfl B w b1 b2) fun ss hs=>⟨fun _=>hK,fun hne=>absurd hs hne⟩
end
end Go.Proofs
set_option linter.unusedVariables false
set_option maxRecDepth 20000
namespace Go.Proofs
open Go Go.HL
section
variable {e E:Env} {x0a:OA} {x0n x0c:Nat} {x1 x2:Int} {x3:Value} {x8 x9 x10 x11 x12:Int} {hp:HP} {K:Env→PV→HP→Prop}
abbrev R161 (p n:Nat):=RW Tryd.prog 60 [] (opsAt Tryd.f161 (pth p)) (List.range n)
theorem F161_r0:R161 2 2 (upd e 1 (sI x1)) V0 hp K=
 K (w3 e 1 (sI x1) 13 (sI x1) 8 (sI x1)) V0 hp:= by kernel_rfl
theorem F161_r1:R161 5 1 e V0 hp K=
 K (upd e 9 (sI 0)) V0 hp:= by kernel_rfl
theorem F161_r2:R161 11 4 (w2 e 2 (sI x2) 1 (sI x1)) V0 hp K=
 K (w6 e 2 (sI x2) 1 (sI x1) 14 (sI x2) 15 (sI x1) 16 (sI ((wr (x2-x1)))) 10 (sI ((wr (x2-x1))))) V0 hp:= by kernel_rfl
theorem F161_r3:R161 543 2 (upd e 12 (sI x12)) V0 hp K=
 K (w3 e 12 (sI x12) 32 (sI x12) 33 (sB (decide (x12≥0)))) V0 hp:= by kernel_rfl
theorem F161_r4 (h:E=upd (w2 e 12 (sI x12) 8 (sI x8)) 0 (sS x0a x0n x0c)):R161 2207 20 E V0 hp K=
    ((0≤((wr (x8+x12)):Int))∧(((wr (x8+x12)):Int)<x0n)∧(ptrN x0a fun b1 o2=>ldL (HP.cellN hp b1 (o2+Int.toNat (wr (x8+x12))*9) 9) fun l3=>(0≤x8)∧(x8<x0n)∧(ptrN x0a fun b4 o5=>ldL (HP.cellN hp b4 (o5+Int.toNat x8*9) 9) fun l6=>(0≤x8)∧(x8<x0n)∧(ptrN x0a fun b7 o8=>(List.length l3=9)∧(HP.stN hp b7 (o8+Int.toNat x8*9) l3 fun h9=>(0≤((wr (x8+x12)):Int))∧(((wr (x8+x12)):Int)<x0n)∧(ptrN x0a fun b10 o11=>(List.length l6=9)∧(HP.stN h9 b10 (o11+Int.toNat (wr (x8+x12))*9) l6 fun h12=>K (w2 (w8 (w8 E 36 (sS x0a x0n x0c) 37 (sI x8) 38 (sS x0a x0n x0c) 39 (sI x8) 40 (sI x12) 41 (sI ((wr (x8+x12)))) 42 (sS x0a x0n x0c) 43 (sI x8)) 44 (sI x12) 45 (sI ((wr (x8+x12)))) 46 (sV (ptr b1 (o2+Int.toNat (wr (x8+x12))*9))) 47 (sA l3) 48 (sS x0a x0n x0c) 49 (sI x8) 50 (sQ b4 (o5+Int.toNat x8*9)) 51 (sA l6)) 52 (sQ b7 (o8+Int.toNat x8*9)) 53 (sV (ptr b10 (o11+Int.toNat (wr (x8+x12))*9)))) V0 h12))))))):=by subst h; kernel_rfl
theorem F161_r5 (h:E=upd (w4 e 12 (sI x12) 9 (sI x9) 8 (sI x8) 3 (sV x3)) 0 (sS x0a x0n x0c)):R161 3231 6 E V0 hp K=
 CF Tryd.prog 182 [(.slice x0a x0n x0c),(.int .i64 x9),(.int .i64 x12),(.int .i64 x8),x3] hp fun u1 h2=>(K (w6 E 54 (sS x0a x0n x0c) 55 (sI x9) 56 (sI x12) 57 (sI x8) 58 (sV x3) 59 (sV u1)) V0 h2):= by subst h; kernel_rfl
theorem F161_r6:R161 927 3 (upd e 12 (sI x12)) V0 hp K=
 K (w4 e 12 (sI x12) 34 (sI x12) 35 (sI ((wr (x12-1)))) 12 (sI ((wr (x12-1))))) V0 hp:= by kernel_rfl
def F161_l3 (x0a:OA) (x0n x0c:Nat) (x3:Value) (x8 x9:Int) (K:Kh) (I3:(Int)→HP→Prop) (x12:Int) (hp:HP):Prop:=
  (ite2 (decide (x12≥0)) ((0≤((IntKind.wrap .i64 (x8+x12)):Int))∧(((IntKind.wrap .i64 (x8+x12)):Int)<x0n)∧(ptrN x0a fun b1 o2=>ldL (HP.cellN hp b1 (o2+Int.toNat (IntKind.wrap .i64 (x8+x12))*9) 9) fun l3=>(0≤x8)∧(x8<x0n)∧(ptrN x0a fun b4 o5=>ldL (HP.cellN hp b4 (o5+Int.toNat x8*9) 9) fun l6=>(0≤x8)∧(x8<x0n)∧(ptrN x0a fun b7 o8=>(List.length l3=9)∧(HP.stN hp b7 (o8+Int.toNat x8*9) l3 fun h9=>(0≤((IntKind.wrap .i64 (x8+x12)):Int))∧(((IntKind.wrap .i64 (x8+x12)):Int)<x0n)∧(ptrN x0a fun b10 o11=>(List.length l6=9)∧(HP.stN h9 b10 (o11+Int.toNat (IntKind.wrap .i64 (x8+x12))*9) l6 fun h12=>CF Tryd.prog 182 [(.slice x0a x0n x0c),(.int .i64 x9),(.int .i64 x12),(.int .i64 x8),x3] h12 fun u13 h14=>I3 (IntKind.wrap .i64 (x12-1)) h14))))))) (K (.tuple ⟨[]⟩) hp))
def F161_j2 (x0a:OA) (x0n x0c:Nat) (x3:Value) (x8 x9 x12:Int) (hp:HP) (K:Kh):Prop:=
  (LoopP (σ:=Int) (fun I s hp=>F161_l3 x0a x0n x0c x3 x8 x9  K I s hp) x12 hp)
theorem F161_r7:R161 47 3 (upd e 10 (sI x10)) V0 hp K=
 K (w4 e 10 (sI x10) 30 (sI x10) 31 (sI ((wr (x10-1)))) 12 (sI ((wr (x10-1))))) V0 hp:= by kernel_rfl
def F161_j1 (x0a:OA) (x0n x0c:Nat) (x3:Value) (x8 x9 x10:Int) (hp:HP) (K:Kh):Prop:=
  (F161_j2 x0a x0n x0c x3 x8 x9 (IntKind.wrap .i64 (x10-1)) hp  K)
theorem F161_r8:R161 535 2 (upd e 11 (sI x11)) V0 hp K=
 K (w3 e 11 (sI x11) 20 (sI x11) 21 (sB (decide (x11≥0)))) V0 hp:= by kernel_rfl
theorem F161_r9 (h:E=upd (w4 e 11 (sI x11) 10 (sI x10) 8 (sI x8) 3 (sV x3)) 0 (sS x0a x0n x0c)):R161 1175 6 E V0 hp K=
 CF Tryd.prog 182 [(.slice x0a x0n x0c),(.int .i64 x11),(.int .i64 x10),(.int .i64 x8),x3] hp fun u1 h2=>(K (w6 E 24 (sS x0a x0n x0c) 25 (sI x11) 26 (sI x10) 27 (sI x8) 28 (sV x3) 29 (sV u1)) V0 h2):= by subst h; kernel_rfl
theorem F161_r10:R161 919 3 (upd e 11 (sI x11)) V0 hp K=
 K (w4 e 11 (sI x11) 22 (sI x11) 23 (sI ((wr (x11-1)))) 11 (sI ((wr (x11-1))))) V0 hp:= by kernel_rfl
def F161_l5 (x0a:OA) (x0n x0c:Nat) (x3:Value) (x8 x9 x10:Int) (K:Kh) (I5:(Int)→HP→Prop) (x11:Int) (hp:HP):Prop:=
  (ite2 (decide (x11≥0)) (CF Tryd.prog 182 [(.slice x0a x0n x0c),(.int .i64 x11),(.int .i64 x10),(.int .i64 x8),x3] hp fun u15 h16=>I5 (IntKind.wrap .i64 (x11-1)) h16) (F161_j1 x0a x0n x0c x3 x8 x9 x10 hp  K))
def F161_j4 (x0a:OA) (x0n x0c:Nat) (x3:Value) (x8 x9 x10 x11:Int) (hp:HP) (K:Kh):Prop:=
  (LoopP (σ:=Int) (fun I s hp=>F161_l5 x0a x0n x0c x3 x8 x9 x10  K I s hp) x11 hp)
theorem F161_r11:R161 39 4 (upd e 10 (sI x10)) V0 hp K=
    (((2:Int)≠0)∧(K (w5 e 10 (sI x10) 17 (sI x10) 18 (sI ((wr (x10-1)))) 19 (sI ((wr (Int.tdiv (wr (x10-1)) 2)))) 11 (sI ((wr (Int.tdiv (wr (x10-1)) 2))))) V0 hp)):=by kernel_rfl
def F161 (x0a:OA) (x0n x0c:Nat) (x1 x2:Int) (x3:Value) (hp:HP) (K:Kh):Prop:=
  (((2:Int)≠0)∧(F161_j4 x0a x0n x0c x3 x1 0 (IntKind.wrap .i64 (x2-x1)) (IntKind.wrap .i64 (Int.tdiv (IntKind.wrap .i64 ((IntKind.wrap .i64 (x2-x1))-1)) 2)) hp  K))
noncomputable abbrev o161 (k n:Nat):Code:=.region k (opsAt Tryd.f161 (pth n)) false
noncomputable def F161_code:Code:=(.seq (o161 0 2) (.seq (o161 1 5) (.seq (o161 2 11) (.seq (.seq (o161 3 39) (.block 0 (.loop (.seq (.seq (o161 4 535) (.cond (.tmp 21) .skip (.exit 0))) (.seq (.block 1 (o161 6 1175)) (o161 5 919)))))) (.seq (o161 7 47) (.block 2 (.loop (.seq (.seq (o161 8 543) (.cond (.tmp 33) .skip (.exit 2))) (.seq (.block 3 (.seq (.region 10 (opsAt Tryd.f161 (pth 2207)) true) (o161 11 3231))) (o161 9 927))))))))))
theorem F161_body:Tryd.f161.body=some F161_code:=by kernel_rfl
theorem F161_ok (x0a:OA) (x0n x0c:Nat) (x1 x2:Int) (x3:Value) (hp:HP) (K:Kh) (h:F161 x0a x0n x0c x1 x2 x3 hp K):CF Tryd.prog 161 [(.slice x0a x0n x0c),(.int .i64 x1),(.int .i64 x2),x3] hp K:=by
 refine .inl ⟨by kernel_rfl,AC.intro (N:=60) Tryd.func161 F161_body rfl (Nat.le_of_ble_eq_true rfl) ?_⟩
 unfold F161 at h
 refine Ar F161_r0 ?_ (r4 1 0 2 3 Rn) (z4 Sn) Sn
 refine Ar F161_r1 ?_ (r5 0 1 2 3 8 Rn) (z5 Sn) Sn
 refine Ar F161_r2 ?_ (r6 1 2 0 3 8 9 Rn) (z6 Sn) Sn
 refine As (fun env pv hp=>∃ x0a x0n x0c x3 x8 x9 x10,Sub (w5 E0 10 (sI x10) 9 (sI x9) 8 (sI x8) 3 (sV x3) 0 (sS x0a x0n x0c)) env∧Sub V0 pv∧F161_j1 x0a x0n x0c x3 x8 x9 x10 hp  K) ?_ ?_
 ·refine As (fun env pv hp=>∃ x0a x0n x0c x3 x8 x9 x10 x11,Sub (w6 E0 11 (sI x11) 10 (sI x10) 9 (sI x9) 8 (sI x8) 3 (sV x3) 0 (sS x0a x0n x0c)) env∧Sub V0 pv∧F161_j4 x0a x0n x0c x3 x8 x9 x10 x11 hp  K) ?_ ?_
  ·refine Ag F161_r11 ?_ (r5 10 0 3 8 9 Rn) (z5 Sn) Sn
   refine ⟨h.1,?_⟩
   replace h:=h.2
   exact ⟨_,_,_,_,_,_,_,_,(z6 Sn),Sn,h⟩
  ·rintro env pv hp ⟨x0a,x0n,x0c,x3,x8,x9,x10,x11,he,hv,h⟩
   refine Ae ?_ (r6 0 3 8 9 10 11 Rn) he hv
   unfold F161_j4 at h
   refine AWP.block (AWP.loop (σ:=Int) _ (fun s=>w6 E0 11 (sI s) 10 (sI x10) 9 (sI x9) 8 (sI x8) 3 (sV x3) 0 (sS x0a x0n x0c)) (fun s=>V0) x11 h (fun s=>r6 0 3 8 9 10 11 Rn) (z6 Sn) Sn ?_)
   intro I5 x11 hp h
   replace h:F161_l5 x0a x0n x0c x3 x8 x9 x10  K I5 x11 hp:=h
   unfold F161_l5 at h
   refine Aq (Ar F161_r8 ?_ (r6 11 0 3 8 9 10 Rn) (z6 Sn) Sn)
   refine Ac h rfl (fun h=>?_) (fun h=>?_)
   ·refine AWP.skip (Aq (AWP.block (Ag (F161_r9 rfl) ?_ (r6 0 3 8 10 11 9 Rn) (z6 Sn) Sn)))
    refine mC h fun u15 h16 h=>?_
    refine Ag F161_r10 ?_ (r6 11 0 3 8 9 10 Rn) (z6 Sn) Sn
    exact ⟨_,(z6 Sn),Sn,h⟩
   ·refine AWP.exit ?_
    exact ⟨_,_,_,_,_,_,_,(z5 Sn),Sn,h⟩
 ·rintro env pv hp ⟨x0a,x0n,x0c,x3,x8,x9,x10,he,hv,h⟩
  refine Ae ?_ (r5 0 3 8 9 10 Rn) he hv
  unfold F161_j1 at h
  refine As (fun env pv hp=>∃ x0a x0n x0c x3 x8 x9 x12,Sub (w5 E0 12 (sI x12) 9 (sI x9) 8 (sI x8) 3 (sV x3) 0 (sS x0a x0n x0c)) env∧Sub V0 pv∧F161_j2 x0a x0n x0c x3 x8 x9 x12 hp  K) ?_ ?_
  ·refine Ag F161_r7 ?_ (r5 10 0 3 8 9 Rn) (z5 Sn) Sn
   exact ⟨_,_,_,_,_,_,_,(z5 Sn),Sn,h⟩
  ·rintro env pv hp ⟨x0a,x0n,x0c,x3,x8,x9,x12,he,hv,h⟩
   refine Ae ?_ (r5 0 3 8 9 12 Rn) he hv
   unfold F161_j2 at h
   refine AWP.block (AWP.loop (σ:=Int) _ (fun s=>w5 E0 12 (sI s) 9 (sI x9) 8 (sI x8) 3 (sV x3) 0 (sS x0a x0n x0c)) (fun s=>V0) x12 h (fun s=>r5 0 3 8 9 12 Rn) (z5 Sn) Sn ?_)
   intro I3 x12 hp h
   replace h:F161_l3 x0a x0n x0c x3 x8 x9  K I3 x12 hp:=h
   unfold F161_l3 at h
   refine Aq (Ar F161_r3 ?_ (r5 12 0 3 8 9 Rn) (z5 Sn) Sn)
   refine Ac h rfl (fun h=>?_) (fun h=>?_)
   ·refine AWP.skip (Aq (AWP.block (Aq (AWP.rgnD (by kernel_rfl) (by kernel_rfl) (F161_r4 rfl) ?_ (r5 0 8 12 3 9 Rn) (z5 Sn) Sn))))
    refine ⟨h.1,h.2.1,mN h.2.2 (fun b1 o2 h=>mL h (fun l3 h=>⟨h.1,h.2.1,mN h.2.2 (fun b4 o5 h=>mL h (fun l6 h=>⟨h.1,h.2.1,mN h.2.2 (fun b7 o8 h=>⟨h.1,mW h.2 (fun h9 h=>⟨h.1,h.2.1,mN h.2.2 (fun b10 o11 h=>⟨h.1,mW h.2 fun h12 h=>?_⟩)⟩)⟩)⟩))⟩))⟩
    refine Ag (F161_r5 rfl) ?_ (r5 0 3 8 9 12 Rn) (z5 Sn) Sn
    refine mC h fun u13 h14 h=>?_
    refine Ag F161_r6 ?_ (r5 12 0 3 8 9 Rn) (z5 Sn) Sn
    exact ⟨_,(z5 Sn),Sn,h⟩
   ·refine AWP.exit ?_
    exact h
end
section
variable {e E:Env} {x0a:OA} {x0n x0c:Nat} {x1 x2 x8 x9:Int} {hp:HP} {K:Env→PV→HP→Prop}
abbrev R164 (p n:Nat):=RW Tryd.prog 34 [] (opsAt Tryd.f164 (pth p)) (List.range n)
theorem F164_r0:R164 2 2 (upd e 1 (sI x1)) V0 hp K=
 K (w3 e 1 (sI x1) 10 (sI x1) 8 (sI x1)) V0 hp:= by kernel_rfl
theorem F164_r1:R164 67 3 (w2 e 9 (sI x9) 8 (sI x8)) V0 hp K=
 K (w5 e 9 (sI x9) 8 (sI x8) 13 (sI x8) 14 (sI x9) 15 (sB (decide (x8<x9)))) V0 hp:= by kernel_rfl
theorem F164_r2 (h:E=upd (w2 e 9 (sI x9) 8 (sI x8)) 0 (sS x0a x0n x0c)):R164 147 16 E V0 hp K=
    ((0≤x9)∧(x9<x0n)∧(ptrN x0a fun b1 o2=>ldL (HP.cellN hp b1 (o2+Int.toNat x9*9) 9) fun l3=>(0≤x8)∧(x8<x0n)∧(ptrN x0a fun b4 o5=>ldL (HP.cellN hp b4 (o5+Int.toNat x8*9) 9) fun l6=>(0≤x8)∧(x8<x0n)∧(ptrN x0a fun b7 o8=>(List.length l3=9)∧(HP.stN hp b7 (o8+Int.toNat x8*9) l3 fun h9=>(0≤x9)∧(x9<x0n)∧(ptrN x0a fun b10 o11=>(List.length l6=9)∧(HP.stN h9 b10 (o11+Int.toNat x9*9) l6 fun h12=>K (w6 (w8 E 16 (sS x0a x0n x0c) 17 (sI x8) 18 (sS x0a x0n x0c) 19 (sI x9) 20 (sS x0a x0n x0c) 21 (sI x9) 22 (sQ b1 (o2+Int.toNat x9*9)) 23 (sA l3)) 24 (sS x0a x0n x0c) 25 (sI x8) 26 (sQ b4 (o5+Int.toNat x8*9)) 27 (sA l6) 28 (sQ b7 (o8+Int.toNat x8*9)) 29 (sQ b10 (o11+Int.toNat x9*9))) V0 h12))))))):=by subst h; kernel_rfl
theorem F164_r3:R164 339 3 (upd e 8 (sI x8)) V0 hp K=
 K (w4 e 8 (sI x8) 30 (sI x8) 31 (sI ((wr (x8+1)))) 8 (sI ((wr (x8+1))))) V0 hp:= by kernel_rfl
theorem F164_r4:R164 467 3 (upd e 9 (sI x9)) V0 hp K=
 K (w4 e 9 (sI x9) 32 (sI x9) 33 (sI ((wr (x9-1)))) 9 (sI ((wr (x9-1))))) V0 hp:= by kernel_rfl
def F164_l2 (x0a:OA) (x0n x0c:Nat) (K:Kh) (I2:(Int × Int)→HP→Prop) (x8 x9:Int) (hp:HP):Prop:=
  (ite2 (decide (x8<x9)) ((0≤x9)∧(x9<x0n)∧(ptrN x0a fun b1 o2=>ldL (HP.cellN hp b1 (o2+Int.toNat x9*9) 9) fun l3=>(0≤x8)∧(x8<x0n)∧(ptrN x0a fun b4 o5=>ldL (HP.cellN hp b4 (o5+Int.toNat x8*9) 9) fun l6=>(0≤x8)∧(x8<x0n)∧(ptrN x0a fun b7 o8=>(List.length l3=9)∧(HP.stN hp b7 (o8+Int.toNat x8*9) l3 fun h9=>(0≤x9)∧(x9<x0n)∧(ptrN x0a fun b10 o11=>(List.length l6=9)∧(HP.stN h9 b10 (o11+Int.toNat x9*9) l6 fun h12=>I2 ((IntKind.wrap .i64 (x8+1)),(IntKind.wrap .i64 (x9-1))) h12))))))) (K (.tuple ⟨[]⟩) hp))
def F164_j1 (x0a:OA) (x0n x0c:Nat) (x8 x9:Int) (hp:HP) (K:Kh):Prop:=
  (LoopP (σ:=Int × Int) (fun I s hp=>F164_l2 x0a x0n x0c  K I s.1 s.2 hp) (x8,x9) hp)
theorem F164_r5:R164 5 3 (upd e 2 (sI x2)) V0 hp K=
 K (w4 e 2 (sI x2) 11 (sI x2) 12 (sI ((wr (x2-1)))) 9 (sI ((wr (x2-1))))) V0 hp:= by kernel_rfl
def F164 (x0a:OA) (x0n x0c:Nat) (x1 x2:Int) (x3:Value) (hp:HP) (K:Kh):Prop:=
  (F164_j1 x0a x0n x0c x1 (IntKind.wrap .i64 (x2-1)) hp  K)
noncomputable abbrev o164 (k n:Nat):Code:=.region k (opsAt Tryd.f164 (pth n)) false
noncomputable def F164_code:Code:=(.seq (o164 0 2) (.seq (o164 1 5) (.block 0 (.loop (.seq (.seq (o164 2 67) (.cond (.tmp 15) .skip (.exit 0))) (.block 1 (.seq (.region 3 (opsAt Tryd.f164 (pth 147)) true) (.seq (o164 4 339) (o164 5 467)))))))))
theorem F164_body:Tryd.f164.body=some F164_code:=by kernel_rfl
theorem F164_ok (x0a:OA) (x0n x0c:Nat) (x1 x2:Int) (x3:Value) (hp:HP) (K:Kh) (h:F164 x0a x0n x0c x1 x2 x3 hp K):CF Tryd.prog 164 [(.slice x0a x0n x0c),(.int .i64 x1),(.int .i64 x2),x3] hp K:=by
 refine .inl ⟨by kernel_rfl,AC.intro (N:=34) Tryd.func164 F164_body rfl (Nat.le_of_ble_eq_true rfl) ?_⟩
 unfold F164 at h
 refine Ar F164_r0 ?_ (r3 1 0 2 Rn) (z3 Sn) Sn
 refine As (fun env pv hp=>∃ x0a x0n x0c x8 x9,Sub (w3 E0 9 (sI x9) 8 (sI x8) 0 (sS x0a x0n x0c)) env∧Sub V0 pv∧F164_j1 x0a x0n x0c x8 x9 hp  K) ?_ ?_
 ·refine Ag F164_r5 ?_ (r3 2 0 8 Rn) (z3 Sn) Sn
  exact ⟨_,_,_,_,_,(z3 Sn),Sn,h⟩
 ·rintro env pv hp ⟨x0a,x0n,x0c,x8,x9,he,hv,h⟩
  refine Ae ?_ (r3 0 8 9 Rn) he hv
  unfold F164_j1 at h
  refine AWP.block (AWP.loop (σ:=Int × Int) _ (fun s=>w3 E0 9 (sI (s.2)) 8 (sI (s.1)) 0 (sS x0a x0n x0c)) (fun s=>V0) (x8,x9) h (fun s=>r3 0 8 9 Rn) (z3 Sn) Sn ?_)
  intro I2 s hp h
  obtain ⟨x8,x9⟩:=s
  replace h:F164_l2 x0a x0n x0c  K I2 x8 x9 hp:=h
  unfold F164_l2 at h
  refine Aq (Ar F164_r1 ?_ (r3 8 9 0 Rn) (z3 Sn) Sn)
  refine Ac h rfl (fun h=>?_) (fun h=>?_)
  ·refine AWP.skip (AWP.block (Aq (AWP.rgnD (by kernel_rfl) (by kernel_rfl) (F164_r2 rfl) ?_ (r3 0 8 9 Rn) (z3 Sn) Sn)))
   refine ⟨h.1,h.2.1,mN h.2.2 (fun b1 o2 h=>mL h (fun l3 h=>⟨h.1,h.2.1,mN h.2.2 (fun b4 o5 h=>mL h (fun l6 h=>⟨h.1,h.2.1,mN h.2.2 (fun b7 o8 h=>⟨h.1,mW h.2 (fun h9 h=>⟨h.1,h.2.1,mN h.2.2 (fun b10 o11 h=>⟨h.1,mW h.2 fun h12 h=>?_⟩)⟩)⟩)⟩))⟩))⟩
   refine Ar F164_r3 ?_ (r3 8 0 9 Rn) (z3 Sn) Sn
   refine Ag F164_r4 ?_ (r3 9 0 8 Rn) (z3 Sn) Sn
   exact ⟨_,(z3 Sn),Sn,h⟩
  ·refine AWP.exit ?_
   exact h
end
section
variable {e E:Env} {x0a:OA} {x0n x0c:Nat} {x1 x2:Int} {x3:Value} {x9 x10 x11 x12:Int} {hp:HP} {K:Env→PV→HP→Prop}
abbrev R165 (p n:Nat):=RW Tryd.prog 141 [] (opsAt Tryd.f165 (pth p)) (List.range n)
theorem F165_r0:R165 2 1 e V0 hp K=
 K (upd e 8 (sB false)) V0 hp:= by kernel_rfl
theorem F165_r1:R165 5 3 (upd e 1 (sI x1)) V0 hp K=
 K (w4 e 1 (sI x1) 13 (sI x1) 14 (sI ((wr (x1+1)))) 9 (sI ((wr (x1+1))))) V0 hp:= by kernel_rfl
theorem F165_r2:R165 459 3 (upd e 10 (sI x10)) V0 hp K=
 K (w4 e 10 (sI x10) 17 (sI x10) 18 (sI ((wr (x10+1)))) 10 (sI ((wr (x10+1))))) V0 hp:= by kernel_rfl
def F165_j4 (x0a:OA) (x0n x0c:Nat) (x1 x2:Int) (x3:Value) (x9 x10:Int) (hp:HP) (I2:(Int × Int)→HP→Prop) (K:Kh):Prop:=
  (I2 (x9,(IntKind.wrap .i64 (x10+1))) hp)
theorem F165_r3:R165 4683 3 (w2 e 9 (sI x9) 2 (sI x2)) V0 hp K=
 K (w5 e 9 (sI x9) 2 (sI x2) 39 (sI x9) 40 (sI x2) 41 (sB ((x9==x2)))) V0 hp:= by kernel_rfl
theorem F165_r4:R165 19019 1 e V0 hp K=
 K (upd e 8 (sB true)) V0 hp:= by kernel_rfl
theorem F165_r5:R165 9803 4 (w2 e 2 (sI x2) 1 (sI x1)) V0 hp K=
 K (w6 e 2 (sI x2) 1 (sI x1) 42 (sI x2) 43 (sI x1) 44 (sI ((wr (x2-x1)))) 45 (sB ((decide (((wr (x2-x1)):Int)<50))))) V0 hp:= by kernel_rfl
theorem F165_r6:R165 38475 1 e V0 hp K=
 K (upd e 8 (sB false)) V0 hp:= by kernel_rfl
theorem F165_r7:R165 11851 18 (w2 e 9 (sI x9) 0 (sS x0a x0n x0c)) V0 hp K=
    ((0≤((wr (x9-1)):Int))∧(((wr (x9-1)):Int)<x0n)∧(ptrN x0a fun b1 o2=>ldL (HP.cellN hp b1 (o2+Int.toNat (wr (x9-1))*9) 9) fun l3=>(0≤x9)∧(x9<x0n)∧(ptrN x0a fun b4 o5=>ldL (HP.cellN hp b4 (o5+Int.toNat x9*9) 9) fun l6=>(0≤x9)∧(x9<x0n)∧(ptrN x0a fun b7 o8=>(List.length l3=9)∧(HP.stN hp b7 (o8+Int.toNat x9*9) l3 fun h9=>(0≤((wr (x9-1)):Int))∧(((wr (x9-1)):Int)<x0n)∧(ptrN x0a fun b10 o11=>(List.length l6=9)∧(HP.stN h9 b10 (o11+Int.toNat (wr (x9-1))*9) l6 fun h12=>K (w2 (w8 (w8 e 9 (sI x9) 0 (sS x0a x0n x0c) 46 (sS x0a x0n x0c) 47 (sI x9) 48 (sS x0a x0n x0c) 49 (sI x9) 50 (sI ((wr (x9-1)))) 51 (sS x0a x0n x0c)) 52 (sI x9) 53 (sI ((wr (x9-1)))) 54 (sV (ptr b1 (o2+Int.toNat (wr (x9-1))*9))) 55 (sA l3) 56 (sS x0a x0n x0c) 57 (sI x9) 58 (sQ b4 (o5+Int.toNat x9*9)) 59 (sA l6)) 60 (sQ b7 (o8+Int.toNat x9*9)) 61 (sV (ptr b10 (o11+Int.toNat (wr (x9-1))*9)))) V0 h12))))))):=by kernel_rfl
theorem F165_r8:R165 48715 4 (w2 e 9 (sI x9) 2 (sI x2)) V0 hp K=
 K (w6 e 9 (sI x9) 2 (sI x2) 101 (sI x2) 102 (sI x9) 103 (sI ((wr (x2-x9)))) 104 (sB ((decide (((wr (x2-x9)):Int)≥2))))) V0 hp:= by kernel_rfl
theorem F165_r9:R165 2195019 3 (w2 e 12 (sI x12) 2 (sI x2)) V0 hp K=
 K (w5 e 12 (sI x12) 2 (sI x2) 107 (sI x12) 108 (sI x2) 109 (sB (decide (x12<x2)))) V0 hp:= by kernel_rfl
theorem F165_r10 (h:E=upd (w2 e 12 (sI x12) 3 (sV x3)) 0 (sS x0a x0n x0c)):R165 17399371 13 E V0 hp K=
    ((0≤x12)∧(x12<x0n)∧(ptrN x0a fun b1 o2=>ldL (HP.cellN hp b1 (o2+Int.toNat x12*9) 9) fun l3=>(0≤((wr (x12-1)):Int))∧(((wr (x12-1)):Int)<x0n)∧(ptrN x0a fun b4 o5=>ldL (HP.cellN hp b4 (o5+Int.toNat (wr (x12-1))*9) 9) fun l6=>fnV x3 fun f7 ga8 gb9=>CF Tryd.prog f7 (ga8++[(Value.agg ⟨l3⟩),(.agg ⟨l6⟩)]++gb9) hp fun u10 h11=>intV u10 .i64 fun i12=>K (w5 (w8 E 112 (sV x3) 113 (sS x0a x0n x0c) 114 (sI x12) 115 (sQ b1 (o2+Int.toNat x12*9)) 116 (sA l3) 117 (sS x0a x0n x0c) 118 (sI x12) 119 (sI ((wr (x12-1))))) 120 (sV (ptr b4 (o5+Int.toNat (wr (x12-1))*9))) 121 (sA l6) 122 (sI i12) 123 (sB (decide (i12<0))) 124 (sB ((!(decide (i12<0)))))) V0 h11))):=by subst h; kernel_rfl
theorem F165_r11:R165 13205067 18 (w2 e 12 (sI x12) 0 (sS x0a x0n x0c)) V0 hp K=
    ((0≤((wr (x12-1)):Int))∧(((wr (x12-1)):Int)<x0n)∧(ptrN x0a fun b1 o2=>ldL (HP.cellN hp b1 (o2+Int.toNat (wr (x12-1))*9) 9) fun l3=>(0≤x12)∧(x12<x0n)∧(ptrN x0a fun b4 o5=>ldL (HP.cellN hp b4 (o5+Int.toNat x12*9) 9) fun l6=>(0≤x12)∧(x12<x0n)∧(ptrN x0a fun b7 o8=>(List.length l3=9)∧(HP.stN hp b7 (o8+Int.toNat x12*9) l3 fun h9=>(0≤((wr (x12-1)):Int))∧(((wr (x12-1)):Int)<x0n)∧(ptrN x0a fun b10 o11=>(List.length l6=9)∧(HP.stN h9 b10 (o11+Int.toNat (wr (x12-1))*9) l6 fun h12=>K (w2 (w8 (w8 e 12 (sI x12) 0 (sS x0a x0n x0c) 125 (sS x0a x0n x0c) 126 (sI x12) 127 (sS x0a x0n x0c) 128 (sI x12) 129 (sI ((wr (x12-1)))) 130 (sS x0a x0n x0c)) 131 (sI x12) 132 (sI ((wr (x12-1)))) 133 (sV (ptr b1 (o2+Int.toNat (wr (x12-1))*9))) 134 (sA l3) 135 (sS x0a x0n x0c) 136 (sI x12) 137 (sQ b4 (o5+Int.toNat x12*9)) 138 (sA l6)) 139 (sQ b7 (o8+Int.toNat x12*9)) 140 (sV (ptr b10 (o11+Int.toNat (wr (x12-1))*9)))) V0 h12))))))):=by kernel_rfl
theorem F165_r12:R165 3767883 3 (upd e 12 (sI x12)) V0 hp K=
 K (w4 e 12 (sI x12) 110 (sI x12) 111 (sI ((wr (x12+1)))) 12 (sI ((wr (x12+1))))) V0 hp:= by kernel_rfl
def F165_l8 (x0a:OA) (x0n x0c:Nat) (x1 x2:Int) (x3:Value) (x9 x10:Int) (I2:(Int × Int)→HP→Prop) (K:Kh) (I8:(Int)→HP→Prop) (x12:Int) (hp:HP):Prop:=
  (ite2 (decide (x12<x2)) ((0≤x12)∧(x12<x0n)∧(ptrN x0a fun b13 o14=>ldL (HP.cellN hp b13 (o14+Int.toNat x12*9) 9) fun l15=>(0≤((IntKind.wrap .i64 (x12-1)):Int))∧(((IntKind.wrap .i64 (x12-1)):Int)<x0n)∧(ptrN x0a fun b16 o17=>ldL (HP.cellN hp b16 (o17+Int.toNat (IntKind.wrap .i64 (x12-1))*9) 9) fun l18=>fnV x3 fun f19 ga_20 gb_21=>CF Tryd.prog f19 (ga_20++[(Value.agg ⟨l15⟩),(.agg ⟨l18⟩)]++gb_21) hp fun u22 h23=>intV u22 .i64 fun i24=>ite2 (!(decide (i24<0))) (F165_j4 x0a x0n x0c x1 x2 x3 x9 x10 h23 I2 K) ((0≤((IntKind.wrap .i64 (x12-1)):Int))∧(((IntKind.wrap .i64 (x12-1)):Int)<x0n)∧(ptrN x0a fun b25 o26=>ldL (HP.cellN h23 b25 (o26+Int.toNat (IntKind.wrap .i64 (x12-1))*9) 9) fun l27=>(0≤x12)∧(x12<x0n)∧(ptrN x0a fun b28 o29=>ldL (HP.cellN h23 b28 (o29+Int.toNat x12*9) 9) fun l30=>(0≤x12)∧(x12<x0n)∧(ptrN x0a fun b31 o32=>(List.length l27=9)∧(HP.stN h23 b31 (o32+Int.toNat x12*9) l27 fun h33=>(0≤((IntKind.wrap .i64 (x12-1)):Int))∧(((IntKind.wrap .i64 (x12-1)):Int)<x0n)∧(ptrN x0a fun b34 o35=>(List.length l30=9)∧(HP.stN h33 b34 (o35+Int.toNat (IntKind.wrap .i64 (x12-1))*9) l30 fun h36=>I8 (IntKind.wrap .i64 (x12+1)) h36)))))))))) (F165_j4 x0a x0n x0c x1 x2 x3 x9 x10 hp I2 K))
def F165_j7 (x0a:OA) (x0n x0c:Nat) (x1 x2:Int) (x3:Value) (x9 x10 x12:Int) (hp:HP) (I2:(Int × Int)→HP→Prop) (K:Kh):Prop:=
  (LoopP (σ:=Int) (fun I s hp=>F165_l8 x0a x0n x0c x1 x2 x3 x9 x10 I2 K I s hp) x12 hp)
theorem F165_r13:R165 163403 3 (upd e 9 (sI x9)) V0 hp K=
 K (w4 e 9 (sI x9) 105 (sI x9) 106 (sI ((wr (x9+1)))) 12 (sI ((wr (x9+1))))) V0 hp:= by kernel_rfl
def F165_j6 (x0a:OA) (x0n x0c:Nat) (x1 x2:Int) (x3:Value) (x9 x10:Int) (hp:HP) (I2:(Int × Int)→HP→Prop) (K:Kh):Prop:=
  (ite2 (decide (((IntKind.wrap .i64 (x2-x9)):Int)≥2)) (F165_j7 x0a x0n x0c x1 x2 x3 x9 x10 (IntKind.wrap .i64 (x9+1)) hp I2 K) (F165_j4 x0a x0n x0c x1 x2 x3 x9 x10 hp I2 K))
theorem F165_r14:R165 40523 4 (w2 e 9 (sI x9) 1 (sI x1)) V0 hp K=
 K (w6 e 9 (sI x9) 1 (sI x1) 62 (sI x9) 63 (sI x1) 64 (sI ((wr (x9-x1)))) 65 (sB ((decide (((wr (x9-x1)):Int)≥2))))) V0 hp:= by kernel_rfl
theorem F165_r15:R165 2186827 2 (upd e 11 (sI x11)) V0 hp K=
 K (w3 e 11 (sI x11) 68 (sI x11) 69 (sB (decide (x11≥1)))) V0 hp:= by kernel_rfl
theorem F165_r16 (h:E=upd (w2 e 11 (sI x11) 3 (sV x3)) 0 (sS x0a x0n x0c)):R165 17391179 13 E V0 hp K=
    ((0≤x11)∧(x11<x0n)∧(ptrN x0a fun b1 o2=>ldL (HP.cellN hp b1 (o2+Int.toNat x11*9) 9) fun l3=>(0≤((wr (x11-1)):Int))∧(((wr (x11-1)):Int)<x0n)∧(ptrN x0a fun b4 o5=>ldL (HP.cellN hp b4 (o5+Int.toNat (wr (x11-1))*9) 9) fun l6=>fnV x3 fun f7 ga8 gb9=>CF Tryd.prog f7 (ga8++[(Value.agg ⟨l3⟩),(.agg ⟨l6⟩)]++gb9) hp fun u10 h11=>intV u10 .i64 fun i12=>K (w5 (w8 E 72 (sV x3) 73 (sS x0a x0n x0c) 74 (sI x11) 75 (sQ b1 (o2+Int.toNat x11*9)) 76 (sA l3) 77 (sS x0a x0n x0c) 78 (sI x11) 79 (sI ((wr (x11-1))))) 80 (sV (ptr b4 (o5+Int.toNat (wr (x11-1))*9))) 81 (sA l6) 82 (sI i12) 83 (sB (decide (i12<0))) 84 (sB ((!(decide (i12<0)))))) V0 h11))):=by subst h; kernel_rfl
theorem F165_r17:R165 13196875 18 (w2 e 11 (sI x11) 0 (sS x0a x0n x0c)) V0 hp K=
    ((0≤((wr (x11-1)):Int))∧(((wr (x11-1)):Int)<x0n)∧(ptrN x0a fun b1 o2=>ldL (HP.cellN hp b1 (o2+Int.toNat (wr (x11-1))*9) 9) fun l3=>(0≤x11)∧(x11<x0n)∧(ptrN x0a fun b4 o5=>ldL (HP.cellN hp b4 (o5+Int.toNat x11*9) 9) fun l6=>(0≤x11)∧(x11<x0n)∧(ptrN x0a fun b7 o8=>(List.length l3=9)∧(HP.stN hp b7 (o8+Int.toNat x11*9) l3 fun h9=>(0≤((wr (x11-1)):Int))∧(((wr (x11-1)):Int)<x0n)∧(ptrN x0a fun b10 o11=>(List.length l6=9)∧(HP.stN h9 b10 (o11+Int.toNat (wr (x11-1))*9) l6 fun h12=>K (w2 (w8 (w8 e 11 (sI x11) 0 (sS x0a x0n x0c) 85 (sS x0a x0n x0c) 86 (sI x11) 87 (sS x0a x0n x0c) 88 (sI x11) 89 (sI ((wr (x11-1)))) 90 (sS x0a x0n x0c)) 91 (sI x11) 92 (sI ((wr (x11-1)))) 93 (sV (ptr b1 (o2+Int.toNat (wr (x11-1))*9))) 94 (sA l3) 95 (sS x0a x0n x0c) 96 (sI x11) 97 (sQ b4 (o5+Int.toNat x11*9)) 98 (sA l6)) 99 (sQ b7 (o8+Int.toNat x11*9)) 100 (sV (ptr b10 (o11+Int.toNat (wr (x11-1))*9)))) V0 h12))))))):=by kernel_rfl
theorem F165_r18:R165 3759691 3 (upd e 11 (sI x11)) V0 hp K=
 K (w4 e 11 (sI x11) 70 (sI x11) 71 (sI ((wr (x11-1)))) 11 (sI ((wr (x11-1))))) V0 hp:= by kernel_rfl
def F165_l10 (x0a:OA) (x0n x0c:Nat) (x1 x2:Int) (x3:Value) (x9 x10:Int) (I2:(Int × Int)→HP→Prop) (K:Kh) (I10:(Int)→HP→Prop) (x11:Int) (hp:HP):Prop:=
  (ite2 (decide (x11≥1)) ((0≤x11)∧(x11<x0n)∧(ptrN x0a fun b37 o38=>ldL (HP.cellN hp b37 (o38+Int.toNat x11*9) 9) fun l39=>(0≤((IntKind.wrap .i64 (x11-1)):Int))∧(((IntKind.wrap .i64 (x11-1)):Int)<x0n)∧(ptrN x0a fun b40 o41=>ldL (HP.cellN hp b40 (o41+Int.toNat (IntKind.wrap .i64 (x11-1))*9) 9) fun l42=>fnV x3 fun f43 ga_44 gb_45=>CF Tryd.prog f43 (ga_44++[(Value.agg ⟨l39⟩),(.agg ⟨l42⟩)]++gb_45) hp fun u46 h47=>intV u46 .i64 fun i48=>ite2 (!(decide (i48<0))) (F165_j6 x0a x0n x0c x1 x2 x3 x9 x10 h47 I2 K) ((0≤((IntKind.wrap .i64 (x11-1)):Int))∧(((IntKind.wrap .i64 (x11-1)):Int)<x0n)∧(ptrN x0a fun b49 o50=>ldL (HP.cellN h47 b49 (o50+Int.toNat (IntKind.wrap .i64 (x11-1))*9) 9) fun l51=>(0≤x11)∧(x11<x0n)∧(ptrN x0a fun b52 o53=>ldL (HP.cellN h47 b52 (o53+Int.toNat x11*9) 9) fun l54=>(0≤x11)∧(x11<x0n)∧(ptrN x0a fun b55 o56=>(List.length l51=9)∧(HP.stN h47 b55 (o56+Int.toNat x11*9) l51 fun h57=>(0≤((IntKind.wrap .i64 (x11-1)):Int))∧(((IntKind.wrap .i64 (x11-1)):Int)<x0n)∧(ptrN x0a fun b58 o59=>(List.length l54=9)∧(HP.stN h57 b58 (o59+Int.toNat (IntKind.wrap .i64 (x11-1))*9) l54 fun h60=>I10 (IntKind.wrap .i64 (x11-1)) h60)))))))))) (F165_j6 x0a x0n x0c x1 x2 x3 x9 x10 hp I2 K))
def F165_j9 (x0a:OA) (x0n x0c:Nat) (x1 x2:Int) (x3:Value) (x9 x10 x11:Int) (hp:HP) (I2:(Int × Int)→HP→Prop) (K:Kh):Prop:=
  (LoopP (σ:=Int) (fun I s hp=>F165_l10 x0a x0n x0c x1 x2 x3 x9 x10 I2 K I s hp) x11 hp)
theorem F165_r19:R165 155211 3 (upd e 9 (sI x9)) V0 hp K=
 K (w4 e 9 (sI x9) 66 (sI x9) 67 (sI ((wr (x9-1)))) 11 (sI ((wr (x9-1))))) V0 hp:= by kernel_rfl
def F165_j5 (x0a:OA) (x0n x0c:Nat) (x1 x2:Int) (x3:Value) (x9 x10:Int) (hp:HP) (I2:(Int × Int)→HP→Prop) (K:Kh):Prop:=
  (ite2 (x9==x2) (K (.bool true) hp) (ite2 (decide (((IntKind.wrap .i64 (x2-x1)):Int)<50)) (K (.bool false) hp) ((0≤((IntKind.wrap .i64 (x9-1)):Int))∧(((IntKind.wrap .i64 (x9-1)):Int)<x0n)∧(ptrN x0a fun b1 o2=>ldL (HP.cellN hp b1 (o2+Int.toNat (IntKind.wrap .i64 (x9-1))*9) 9) fun l3=>(0≤x9)∧(x9<x0n)∧(ptrN x0a fun b4 o5=>ldL (HP.cellN hp b4 (o5+Int.toNat x9*9) 9) fun l6=>(0≤x9)∧(x9<x0n)∧(ptrN x0a fun b7 o8=>(List.length l3=9)∧(HP.stN hp b7 (o8+Int.toNat x9*9) l3 fun h9=>(0≤((IntKind.wrap .i64 (x9-1)):Int))∧(((IntKind.wrap .i64 (x9-1)):Int)<x0n)∧(ptrN x0a fun b10 o11=>(List.length l6=9)∧(HP.stN h9 b10 (o11+Int.toNat (IntKind.wrap .i64 (x9-1))*9) l6 fun h12=>ite2 (decide (((IntKind.wrap .i64 (x9-x1)):Int)≥2)) (F165_j9 x0a x0n x0c x1 x2 x3 x9 x10 (IntKind.wrap .i64 (x9-1)) h12 I2 K) (F165_j6 x0a x0n x0c x1 x2 x3 x9 x10 h12 I2 K))))))))))
theorem F165_r20:R165 20555 3 (upd e 9 (sI x9)) V0 hp K=
 K (w4 e 9 (sI x9) 37 (sI x9) 38 (sI ((wr (x9+1)))) 9 (sI ((wr (x9+1))))) V0 hp:= by kernel_rfl
def F165_j12 (x0a:OA) (x0n x0c:Nat) (x1 x2:Int) (x3:Value) (x9 x10:Int) (x36:Bool) (hp:HP) (I2:(Int × Int)→HP→Prop) (I11:(Int)→HP→Prop) (K:Kh):Prop:=
  (ite2 x36 (I11 (IntKind.wrap .i64 (x9+1)) hp) (F165_j5 x0a x0n x0c x1 x2 x3 x9 x10 hp I2 K))
theorem F165_r21 (h:E=upd (w3 e 9 (sI x9) 3 (sV x3) 2 (sI x2)) 0 (sS x0a x0n x0c)):R165 16459 18 E V0 hp K=
    (ite2 (decide (x9<x2)) ((0≤x9)∧(x9<x0n)∧(ptrN x0a fun b1 o2=>ldL (HP.cellN hp b1 (o2+Int.toNat x9*9) 9) fun l3=>(0≤((wr (x9-1)):Int))∧(((wr (x9-1)):Int)<x0n)∧(ptrN x0a fun b4 o5=>ldL (HP.cellN hp b4 (o5+Int.toNat (wr (x9-1))*9) 9) fun l6=>fnV x3 fun f7 ga8 gb9=>CF Tryd.prog f7 (ga8++[(Value.agg ⟨l3⟩),(.agg ⟨l6⟩)]++gb9) hp fun u10 h11=>intV u10 .i64 fun i12=>K (w2 (w8 (w8 E 19 (sI x9) 20 (sI x2) 21 (sB (decide (x9<x2))) 22 (sB true) 23 (sV x3) 24 (sS x0a x0n x0c) 25 (sI x9) 26 (sQ b1 (o2+Int.toNat x9*9))) 27 (sA l3) 28 (sS x0a x0n x0c) 29 (sI x9) 30 (sI ((wr (x9-1)))) 31 (sV (ptr b4 (o5+Int.toNat (wr (x9-1))*9))) 32 (sA l6) 33 (sI i12) 34 (sB (decide (i12<0)))) 35 (sB ((!(decide (i12<0))))) 36 (sB ((!(decide (i12<0)))))) V0 h11))) (K (w2 (w8 (w8 E 19 (sI x9) 20 (sI x2) 21 (sB (decide (x9<x2))) 22 (sB false) 23 sU 24 sU 25 sU 26 sU) 27 sU 28 sU 29 sU 30 sU 31 sU 32 sU 33 sU 34 sU) 35 sU 36 (sB false)) V0 hp)):=by subst h; kernel_rfl
def F165_l11 (x0a:OA) (x0n x0c:Nat) (x1 x2:Int) (x3:Value) (x10:Int) (I2:(Int × Int)→HP→Prop) (K:Kh) (I11:(Int)→HP→Prop) (x9:Int) (hp:HP):Prop:=
  (ite2 (decide (x9<x2)) ((0≤x9)∧(x9<x0n)∧(ptrN x0a fun b61 o62=>ldL (HP.cellN hp b61 (o62+Int.toNat x9*9) 9) fun l63=>(0≤((IntKind.wrap .i64 (x9-1)):Int))∧(((IntKind.wrap .i64 (x9-1)):Int)<x0n)∧(ptrN x0a fun b64 o65=>ldL (HP.cellN hp b64 (o65+Int.toNat (IntKind.wrap .i64 (x9-1))*9) 9) fun l66=>fnV x3 fun f67 ga_68 gb_69=>CF Tryd.prog f67 (ga_68++[(Value.agg ⟨l63⟩),(.agg ⟨l66⟩)]++gb_69) hp fun u70 h71=>intV u70 .i64 fun i72=>F165_j12 x0a x0n x0c x1 x2 x3 x9 x10 (!(decide (i72<0))) h71 I2 I11 K))) (F165_j12 x0a x0n x0c x1 x2 x3 x9 x10 false hp I2 I11 K))
def F165_j3 (x0a:OA) (x0n x0c:Nat) (x1 x2:Int) (x3:Value) (x9 x10:Int) (hp:HP) (I2:(Int × Int)→HP→Prop) (K:Kh):Prop:=
  (LoopP (σ:=Int) (fun I s hp=>F165_l11 x0a x0n x0c x1 x2 x3 x10 I2 K I s hp) x9 hp)
theorem F165_r22:R165 267 2 (upd e 10 (sI x10)) V0 hp K=
 K (w3 e 10 (sI x10) 15 (sI x10) 16 (sB (decide (x10<5)))) V0 hp:= by kernel_rfl
theorem F165_r23:R165 23 1 e V0 hp K=
 K (upd e 8 (sB false)) V0 hp:= by kernel_rfl
def F165_l2 (x0a:OA) (x0n x0c:Nat) (x1 x2:Int) (x3:Value) (K:Kh) (I2:(Int × Int)→HP→Prop) (x9 x10:Int) (hp:HP):Prop:=
  (ite2 (decide (x10<5)) (F165_j3 x0a x0n x0c x1 x2 x3 x9 x10 hp I2 K) (K (.bool false) hp))
def F165_j1 (x0a:OA) (x0n x0c:Nat) (x1 x2:Int) (x3:Value) (x9 x10:Int) (hp:HP) (K:Kh):Prop:=
  (LoopP (σ:=Int × Int) (fun I s hp=>F165_l2 x0a x0n x0c x1 x2 x3  K I s.1 s.2 hp) (x9,x10) hp)
theorem F165_r24:R165 19 1 e V0 hp K=
 K (upd e 10 (sI 0)) V0 hp:= by kernel_rfl
def F165 (x0a:OA) (x0n x0c:Nat) (x1 x2:Int) (x3:Value) (hp:HP) (K:Kh):Prop:=
  (F165_j1 x0a x0n x0c x1 x2 x3 (IntKind.wrap .i64 (x1+1)) 0 hp  K)
noncomputable abbrev o165 (k n:Nat):Code:=.region k (opsAt Tryd.f165 (pth n)) false
noncomputable def F165_code:Code:=(.seq (o165 0 2) (.seq (o165 1 5) (.seq (.seq (o165 2 19) (.block 0 (.loop (.seq (.seq (o165 3 267) (.cond (.tmp 16) .skip (.exit 0))) (.seq (.block 1 (.seq (.block 2 (.loop (.seq (.seq (.region 5 (opsAt Tryd.f165 (pth 16459)) true) (.cond (.tmp 36) .skip (.exit 2))) (.block 3 (o165 6 20555))))) (.seq (.seq (o165 7 4683) (.cond (.tmp 41) (.seq (o165 8 19019) .ret) .skip)) (.seq (.seq (o165 9 9803) (.cond (.tmp 45) (.seq (o165 10 38475) .ret) .skip)) (.seq (.region 11 (opsAt Tryd.f165 (pth 11851)) true) (.seq (.seq (o165 12 40523) (.cond (.tmp 65) (.seq (o165 13 155211) (.block 4 (.loop (.seq (.seq (o165 14 2186827) (.cond (.tmp 69) .skip (.exit 4))) (.seq (.block 5 (.seq (.seq (.region 16 (opsAt Tryd.f165 (pth 17391179)) true) (.cond (.tmp 84) (.exit 4) .skip)) (.region 17 (opsAt Tryd.f165 (pth 13196875)) true))) (o165 15 3759691)))))) .skip)) (.seq (o165 18 48715) (.cond (.tmp 104) (.seq (o165 19 163403) (.block 6 (.loop (.seq (.seq (o165 20 2195019) (.cond (.tmp 109) .skip (.exit 6))) (.seq (.block 7 (.seq (.seq (.region 22 (opsAt Tryd.f165 (pth 17399371)) true) (.cond (.tmp 124) (.exit 6) .skip)) (.region 23 (opsAt Tryd.f165 (pth 13205067)) true))) (o165 21 3767883)))))) .skip)))))))) (o165 4 459)))))) (.seq (o165 24 23) .ret))))
theorem F165_body:Tryd.f165.body=some F165_code:=by kernel_rfl
theorem F165_ok (x0a:OA) (x0n x0c:Nat) (x1 x2:Int) (x3:Value) (hp:HP) (K:Kh) (h:F165 x0a x0n x0c x1 x2 x3 hp K):CF Tryd.prog 165 [(.slice x0a x0n x0c),(.int .i64 x1),(.int .i64 x2),x3] hp K:=by
 refine .inl ⟨by kernel_rfl,AC.intro (N:=141) Tryd.func165 F165_body rfl (Nat.le_of_ble_eq_true rfl) ?_⟩
 unfold F165 at h
 refine Ar F165_r0 ?_ (r4 0 1 2 3 Rn) (z4 Sn) Sn
 refine Ar F165_r1 ?_ (r4 1 0 2 3 Rn) (z4 Sn) Sn
 refine Aq (As (fun env pv hp=>∃ x0a x0n x0c x1 x2 x3 x9 x10,Sub (w6 E0 10 (sI x10) 9 (sI x9) 3 (sV x3) 2 (sI x2) 1 (sI x1) 0 (sS x0a x0n x0c)) env∧Sub V0 pv∧F165_j1 x0a x0n x0c x1 x2 x3 x9 x10 hp  K) ?_ ?_)
 ·refine Ag F165_r24 ?_ (r5 0 1 2 3 9 Rn) (z5 Sn) Sn
  exact ⟨_,_,_,_,_,_,_,_,(z6 Sn),Sn,h⟩
 ·rintro env pv hp ⟨x0a,x0n,x0c,x1,x2,x3,x9,x10,he,hv,h⟩
  refine Ae ?_ (r6 0 1 2 3 9 10 Rn) he hv
  unfold F165_j1 at h
  refine AWP.block (AWP.loop (σ:=Int × Int) _ (fun s=>w6 E0 10 (sI (s.2)) 9 (sI (s.1)) 3 (sV x3) 2 (sI x2) 1 (sI x1) 0 (sS x0a x0n x0c)) (fun s=>V0) (x9,x10) h (fun s=>r6 0 1 2 3 9 10 Rn) (z6 Sn) Sn ?_)
  intro I2 s hp h
  obtain ⟨x9,x10⟩:=s
  replace h:F165_l2 x0a x0n x0c x1 x2 x3  K I2 x9 x10 hp:=h
  unfold F165_l2 at h
  refine As (fun env pv hp=>∃ x9 x10,Sub (w6 E0 10 (sI x10) 9 (sI x9) 3 (sV x3) 2 (sI x2) 1 (sI x1) 0 (sS x0a x0n x0c)) env∧Sub V0 pv∧F165_j3 x0a x0n x0c x1 x2 x3 x9 x10 hp I2 K) ?_ ?_
  ·refine Ar F165_r22 ?_ (r6 10 0 1 2 3 9 Rn) (z6 Sn) Sn
   refine Ac h rfl (fun h=>?_) (fun h=>?_)
   ·refine AWP.skip ?_
    exact ⟨_,_,(z6 Sn),Sn,h⟩
   ·refine AWP.exit ?_
    refine Ar F165_r23 ?_ Rn Sn Sn
    refine AWP.ret ?_
    exact h
  ·rintro env pv hp ⟨x9,x10,he,hv,h⟩
   refine Ae ?_ (r6 0 1 2 3 9 10 Rn) he hv
   unfold F165_j3 at h
   refine As (fun env pv hp=>∃ x9 x10,Sub (w6 E0 10 (sI x10) 9 (sI x9) 3 (sV x3) 2 (sI x2) 1 (sI x1) 0 (sS x0a x0n x0c)) env∧Sub V0 pv∧F165_j4 x0a x0n x0c x1 x2 x3 x9 x10 hp I2 K) ?_ ?_
   ·refine AWP.block (As (fun env pv hp=>∃ x9 x10,Sub (w6 E0 10 (sI x10) 9 (sI x9) 3 (sV x3) 2 (sI x2) 1 (sI x1) 0 (sS x0a x0n x0c)) env∧Sub V0 pv∧F165_j5 x0a x0n x0c x1 x2 x3 x9 x10 hp I2 K) ?_ ?_)
    ·refine AWP.block (AWP.loop (σ:=Int) _ (fun s=>w6 E0 10 (sI x10) 9 (sI s) 3 (sV x3) 2 (sI x2) 1 (sI x1) 0 (sS x0a x0n x0c)) (fun s=>V0) x9 h (fun s=>r6 0 1 2 3 9 10 Rn) (z6 Sn) Sn ?_)
     intro I11 x9 hp h
     replace h:F165_l11 x0a x0n x0c x1 x2 x3 x10 I2 K I11 x9 hp:=h
     unfold F165_l11 at h
     refine Aq (As (fun env pv hp=>∃ x9 x36,Sub (w7 E0 36 (sB x36) 10 (sI x10) 9 (sI x9) 3 (sV x3) 2 (sI x2) 1 (sI x1) 0 (sS x0a x0n x0c)) env∧Sub V0 pv∧F165_j12 x0a x0n x0c x1 x2 x3 x9 x10 x36 hp I2 I11 K) ?_ ?_)
     ·refine AWP.rgnD (by kernel_rfl) (by kernel_rfl) (F165_r21 rfl) ?_ (r6 0 2 3 9 1 10 Rn) (z6 Sn) Sn
      refine mt h (fun h=>?_) (fun h=>?_)
      ·refine ⟨h.1,h.2.1,mN h.2.2 (fun b61 o62 h=>mL h (fun l63 h=>⟨h.1,h.2.1,mN h.2.2 fun b64 o65 h=>mL h fun l66 h=>mF h fun f67 ga_68 gb_69 h=>mC h fun u70 h71 h=>mI h fun i72 h=>?_⟩))⟩
       exact ⟨_,_,(z7 Sn),Sn,h⟩
      ·exact ⟨_,_,(z7 Sn),Sn,h⟩
     ·rintro env pv hp ⟨x9,x36,he,hv,h⟩
      refine Ae ?_ (r7 0 1 2 3 9 10 36 Rn) he hv
      unfold F165_j12 at h
      refine Ac h rfl (fun h=>?_) (fun h=>?_)
      ·refine AWP.skip (AWP.block (Ag F165_r20 ?_ (r6 9 0 1 2 3 10 Rn) (z6 Sn) Sn))
       exact ⟨_,(z6 Sn),Sn,h⟩
      ·refine AWP.exit ?_
       exact ⟨_,_,(z6 Sn),Sn,h⟩
    ·rintro env pv hp ⟨x9,x10,he,hv,h⟩
     refine Ae ?_ (r6 0 1 2 3 9 10 Rn) he hv
     unfold F165_j5 at h
     refine Aq (Ar F165_r3 ?_ (r6 2 9 0 1 3 10 Rn) (z6 Sn) Sn)
     refine Ac h rfl (fun h=>?_) (fun h=>?_)
     ·refine Ar F165_r4 ?_ Rn Sn Sn
      refine AWP.ret ?_
      exact h
     ·refine AWP.skip (Aq (Ar F165_r5 ?_ (r6 1 2 0 3 9 10 Rn) (z6 Sn) Sn))
      refine Ac h rfl (fun h=>?_) (fun h=>?_)
      ·refine Ar F165_r6 ?_ Rn Sn Sn
       refine AWP.ret ?_
       exact h
      ·refine AWP.skip (Aq (AWP.rgnD (by kernel_rfl) (by kernel_rfl) F165_r7 ?_ (r6 0 9 1 2 3 10 Rn) (z6 Sn) Sn))
       refine ⟨h.1,h.2.1,mN h.2.2 (fun b1 o2 h=>mL h (fun l3 h=>⟨h.1,h.2.1,mN h.2.2 (fun b4 o5 h=>mL h (fun l6 h=>⟨h.1,h.2.1,mN h.2.2 (fun b7 o8 h=>⟨h.1,mW h.2 (fun h9 h=>⟨h.1,h.2.1,mN h.2.2 (fun b10 o11 h=>⟨h.1,mW h.2 fun h12 h=>?_⟩)⟩)⟩)⟩))⟩))⟩
       refine As (fun env pv hp=>∃ x9 x10,Sub (w6 E0 10 (sI x10) 9 (sI x9) 3 (sV x3) 2 (sI x2) 1 (sI x1) 0 (sS x0a x0n x0c)) env∧Sub V0 pv∧F165_j6 x0a x0n x0c x1 x2 x3 x9 x10 hp I2 K) ?_ ?_
       ·refine Ar F165_r14 ?_ (r6 1 9 0 2 3 10 Rn) (z6 Sn) Sn
        refine Ac h rfl (fun h=>?_) (fun h=>?_)
        ·refine As (fun env pv hp=>∃ x9 x10 x11,Sub (w7 E0 11 (sI x11) 10 (sI x10) 9 (sI x9) 3 (sV x3) 2 (sI x2) 1 (sI x1) 0 (sS x0a x0n x0c)) env∧Sub V0 pv∧F165_j9 x0a x0n x0c x1 x2 x3 x9 x10 x11 hp I2 K) ?_ ?_
         ·refine Ag F165_r19 ?_ (r6 9 0 1 2 3 10 Rn) (z6 Sn) Sn
          exact ⟨_,_,_,(z7 Sn),Sn,h⟩
         ·rintro env pv hp ⟨x9,x10,x11,he,hv,h⟩
          refine Ae ?_ (r7 0 1 2 3 9 10 11 Rn) he hv
          unfold F165_j9 at h
          refine AWP.block (AWP.loop (σ:=Int) _ (fun s=>w7 E0 11 (sI s) 10 (sI x10) 9 (sI x9) 3 (sV x3) 2 (sI x2) 1 (sI x1) 0 (sS x0a x0n x0c)) (fun s=>V0) x11 h (fun s=>r7 0 1 2 3 9 10 11 Rn) (z7 Sn) Sn ?_)
          intro I10 x11 hp h
          replace h:F165_l10 x0a x0n x0c x1 x2 x3 x9 x10 I2 K I10 x11 hp:=h
          unfold F165_l10 at h
          refine Aq (Ar F165_r15 ?_ (r7 11 0 1 2 3 9 10 Rn) (z7 Sn) Sn)
          refine Ac h rfl (fun h=>?_) (fun h=>?_)
          ·refine AWP.skip (Aq (AWP.block (Aq (Aq (AWP.rgnD (by kernel_rfl) (by kernel_rfl) (F165_r16 rfl) ?_ (r7 0 3 11 1 2 9 10 Rn) (z7 Sn) Sn)))))
           refine ⟨h.1,h.2.1,mN h.2.2 (fun b37 o38 h=>mL h (fun l39 h=>⟨h.1,h.2.1,mN h.2.2 fun b40 o41 h=>mL h fun l42 h=>mF h fun f43 ga_44 gb_45 h=>mC h fun u46 h47 h=>mI h fun i48 h=>?_⟩))⟩
           refine Ac h rfl (fun h=>?_) (fun h=>?_)
           ·refine AWP.exit ?_
            exact ⟨_,_,(z6 Sn),Sn,h⟩
           ·refine AWP.skip (AWP.rgnD (by kernel_rfl) (by kernel_rfl) F165_r17 ?_ (r7 0 11 1 2 3 9 10 Rn) (z7 Sn) Sn)
            refine ⟨h.1,h.2.1,mN h.2.2 (fun b49 o50 h=>mL h (fun l51 h=>⟨h.1,h.2.1,mN h.2.2 (fun b52 o53 h=>mL h (fun l54 h=>⟨h.1,h.2.1,mN h.2.2 (fun b55 o56 h=>⟨h.1,mW h.2 (fun h57 h=>⟨h.1,h.2.1,mN h.2.2 (fun b58 o59 h=>⟨h.1,mW h.2 fun h60 h=>?_⟩)⟩)⟩)⟩))⟩))⟩
            refine Ag F165_r18 ?_ (r7 11 0 1 2 3 9 10 Rn) (z7 Sn) Sn
            exact ⟨_,(z7 Sn),Sn,h⟩
          ·refine AWP.exit ?_
           exact ⟨_,_,(z6 Sn),Sn,h⟩
        ·refine AWP.skip ?_
         exact ⟨_,_,(z6 Sn),Sn,h⟩
       ·rintro env pv hp ⟨x9,x10,he,hv,h⟩
        refine Ae ?_ (r6 0 1 2 3 9 10 Rn) he hv
        unfold F165_j6 at h
        refine Ar F165_r8 ?_ (r6 2 9 0 1 3 10 Rn) (z6 Sn) Sn
        refine Ac h rfl (fun h=>?_) (fun h=>?_)
        ·refine As (fun env pv hp=>∃ x9 x10 x12,Sub (w7 E0 12 (sI x12) 10 (sI x10) 9 (sI x9) 3 (sV x3) 2 (sI x2) 1 (sI x1) 0 (sS x0a x0n x0c)) env∧Sub V0 pv∧F165_j7 x0a x0n x0c x1 x2 x3 x9 x10 x12 hp I2 K) ?_ ?_
         ·refine Ag F165_r13 ?_ (r6 9 0 1 2 3 10 Rn) (z6 Sn) Sn
          exact ⟨_,_,_,(z7 Sn),Sn,h⟩
         ·rintro env pv hp ⟨x9,x10,x12,he,hv,h⟩
          refine Ae ?_ (r7 0 1 2 3 9 10 12 Rn) he hv
          unfold F165_j7 at h
          refine AWP.block (AWP.loop (σ:=Int) _ (fun s=>w7 E0 12 (sI s) 10 (sI x10) 9 (sI x9) 3 (sV x3) 2 (sI x2) 1 (sI x1) 0 (sS x0a x0n x0c)) (fun s=>V0) x12 h (fun s=>r7 0 1 2 3 9 10 12 Rn) (z7 Sn) Sn ?_)
          intro I8 x12 hp h
          replace h:F165_l8 x0a x0n x0c x1 x2 x3 x9 x10 I2 K I8 x12 hp:=h
          unfold F165_l8 at h
          refine Aq (Ar F165_r9 ?_ (r7 2 12 0 1 3 9 10 Rn) (z7 Sn) Sn)
          refine Ac h rfl (fun h=>?_) (fun h=>?_)
          ·refine AWP.skip (Aq (AWP.block (Aq (Aq (AWP.rgnD (by kernel_rfl) (by kernel_rfl) (F165_r10 rfl) ?_ (r7 0 3 12 1 2 9 10 Rn) (z7 Sn) Sn)))))
           refine ⟨h.1,h.2.1,mN h.2.2 (fun b13 o14 h=>mL h (fun l15 h=>⟨h.1,h.2.1,mN h.2.2 fun b16 o17 h=>mL h fun l18 h=>mF h fun f19 ga_20 gb_21 h=>mC h fun u22 h23 h=>mI h fun i24 h=>?_⟩))⟩
           refine Ac h rfl (fun h=>?_) (fun h=>?_)
           ·refine AWP.exit ?_
            exact ⟨_,_,(z6 Sn),Sn,h⟩
           ·refine AWP.skip (AWP.rgnD (by kernel_rfl) (by kernel_rfl) F165_r11 ?_ (r7 0 12 1 2 3 9 10 Rn) (z7 Sn) Sn)
            refine ⟨h.1,h.2.1,mN h.2.2 (fun b25 o26 h=>mL h (fun l27 h=>⟨h.1,h.2.1,mN h.2.2 (fun b28 o29 h=>mL h (fun l30 h=>⟨h.1,h.2.1,mN h.2.2 (fun b31 o32 h=>⟨h.1,mW h.2 (fun h33 h=>⟨h.1,h.2.1,mN h.2.2 (fun b34 o35 h=>⟨h.1,mW h.2 fun h36 h=>?_⟩)⟩)⟩)⟩))⟩))⟩
            refine Ag F165_r12 ?_ (r7 12 0 1 2 3 9 10 Rn) (z7 Sn) Sn
            exact ⟨_,(z7 Sn),Sn,h⟩
          ·refine AWP.exit ?_
           exact ⟨_,_,(z6 Sn),Sn,h⟩
        ·refine AWP.skip ?_
         exact ⟨_,_,(z6 Sn),Sn,h⟩
   ·rintro env pv hp ⟨x9,x10,he,hv,h⟩
    refine Ae ?_ (r6 0 1 2 3 9 10 Rn) he hv
    unfold F165_j4 at h
    refine Ag F165_r2 ?_ (r6 10 0 1 2 3 9 Rn) (z6 Sn) Sn
    exact ⟨_,(z6 Sn),Sn,h⟩
end
section
variable {e E:Env} {x0a:OA} {x0n x0c:Nat} {x1 x2 x3:Int} {x4:Value} {x11 x12:Int} {hp:HP} {K:Env→PV→HP→Prop}
abbrev R166 (p n:Nat):=RW Tryd.prog 90 [] (opsAt Tryd.f166 (pth p)) (List.range n)
theorem F166_r0:R166 2 1 e V0 hp K=
 K (upd e 10 (sI 0)) V0 hp:= by kernel_rfl
theorem F166_r1 (h:E=upd (w2 e 3 (sI x3) 1 (sI x1)) 0 (sS x0a x0n x0c)):R166 5 16 E V0 hp K=
    ((0≤x3)∧(x3<x0n)∧(ptrN x0a fun b1 o2=>ldL (HP.cellN hp b1 (o2+Int.toNat x3*9) 9) fun l3=>(0≤x1)∧(x1<x0n)∧(ptrN x0a fun b4 o5=>ldL (HP.cellN hp b4 (o5+Int.toNat x1*9) 9) fun l6=>(0≤x1)∧(x1<x0n)∧(ptrN x0a fun b7 o8=>(List.length l3=9)∧(HP.stN hp b7 (o8+Int.toNat x1*9) l3 fun h9=>(0≤x3)∧(x3<x0n)∧(ptrN x0a fun b10 o11=>(List.length l6=9)∧(HP.stN h9 b10 (o11+Int.toNat x3*9) l6 fun h12=>K (w6 (w8 E 13 (sS x0a x0n x0c) 14 (sI x1) 15 (sS x0a x0n x0c) 16 (sI x3) 17 (sS x0a x0n x0c) 18 (sI x3) 19 (sQ b1 (o2+Int.toNat x3*9)) 20 (sA l3)) 21 (sS x0a x0n x0c) 22 (sI x1) 23 (sQ b4 (o5+Int.toNat x1*9)) 24 (sA l6) 25 (sQ b7 (o8+Int.toNat x1*9)) 26 (sQ b10 (o11+Int.toNat x3*9))) V0 h12))))))):=by subst h; kernel_rfl
theorem F166_r2:R166 47 2 (upd e 11 (sI x11)) V0 hp K=
 K (w3 e 11 (sI x11) 89 (sI x11) 10 (sI x11)) V0 hp:= by kernel_rfl
def F166_j2 (x11:Int) (hp:HP) (K:Kh):Prop:=
  (K (.int .i64 x11) hp)
theorem F166_r3:R166 2439 3 (w2 e 12 (sI x12) 11 (sI x11)) V0 hp K=
 K (w5 e 12 (sI x12) 11 (sI x11) 68 (sI x11) 69 (sI x12) 70 (sB (decide (x11 > x12)))) V0 hp:= by kernel_rfl
theorem F166_r4 (h:E=upd (w2 e 12 (sI x12) 11 (sI x11)) 0 (sS x0a x0n x0c)):R166 2951 16 E V0 hp K=
    ((0≤x12)∧(x12<x0n)∧(ptrN x0a fun b1 o2=>ldL (HP.cellN hp b1 (o2+Int.toNat x12*9) 9) fun l3=>(0≤x11)∧(x11<x0n)∧(ptrN x0a fun b4 o5=>ldL (HP.cellN hp b4 (o5+Int.toNat x11*9) 9) fun l6=>(0≤x11)∧(x11<x0n)∧(ptrN x0a fun b7 o8=>(List.length l3=9)∧(HP.stN hp b7 (o8+Int.toNat x11*9) l3 fun h9=>(0≤x12)∧(x12<x0n)∧(ptrN x0a fun b10 o11=>(List.length l6=9)∧(HP.stN h9 b10 (o11+Int.toNat x12*9) l6 fun h12=>K (w6 (w8 E 71 (sS x0a x0n x0c) 72 (sI x11) 73 (sS x0a x0n x0c) 74 (sI x12) 75 (sS x0a x0n x0c) 76 (sI x12) 77 (sQ b1 (o2+Int.toNat x12*9)) 78 (sA l3)) 79 (sS x0a x0n x0c) 80 (sI x11) 81 (sQ b4 (o5+Int.toNat x11*9)) 82 (sA l6) 83 (sQ b7 (o8+Int.toNat x11*9)) 84 (sQ b10 (o11+Int.toNat x12*9))) V0 h12))))))):=by subst h; kernel_rfl
theorem F166_r5:R166 6023 3 (upd e 11 (sI x11)) V0 hp K=
 K (w4 e 11 (sI x11) 85 (sI x11) 86 (sI ((wr (x11+1)))) 11 (sI ((wr (x11+1))))) V0 hp:= by kernel_rfl
theorem F166_r6:R166 8071 3 (upd e 12 (sI x12)) V0 hp K=
 K (w4 e 12 (sI x12) 87 (sI x12) 88 (sI ((wr (x12-1)))) 12 (sI ((wr (x12-1))))) V0 hp:= by kernel_rfl
def F166_j5 (x0a:OA) (x0n x0c:Nat) (x1:Int) (x4:Value) (x11 x12:Int) (hp:HP) (I3:(Int × Int)→HP→Prop) (K:Kh):Prop:=
  (ite2 (decide (x11 > x12)) (F166_j2 x11 hp  K) ((0≤x12)∧(x12<x0n)∧(ptrN x0a fun b13 o14=>ldL (HP.cellN hp b13 (o14+Int.toNat x12*9) 9) fun l15=>(0≤x11)∧(x11<x0n)∧(ptrN x0a fun b16 o17=>ldL (HP.cellN hp b16 (o17+Int.toNat x11*9) 9) fun l18=>(0≤x11)∧(x11<x0n)∧(ptrN x0a fun b19 o20=>(List.length l15=9)∧(HP.stN hp b19 (o20+Int.toNat x11*9) l15 fun h21=>(0≤x12)∧(x12<x0n)∧(ptrN x0a fun b22 o23=>(List.length l18=9)∧(HP.stN h21 b22 (o23+Int.toNat x12*9) l18 fun h24=>I3 ((IntKind.wrap .i64 (x11+1)),(IntKind.wrap .i64 (x12-1))) h24))))))))
theorem F166_r7:R166 10375 3 (upd e 12 (sI x12)) V0 hp K=
 K (w4 e 12 (sI x12) 66 (sI x12) 67 (sI ((wr (x12-1)))) 12 (sI ((wr (x12-1))))) V0 hp:= by kernel_rfl
def F166_j7 (x0a:OA) (x0n x0c:Nat) (x1:Int) (x4:Value) (x11 x12:Int) (x65:Bool) (hp:HP) (I3:(Int × Int)→HP→Prop) (I6:(Int)→HP→Prop) (K:Kh):Prop:=
  (ite2 x65 (I6 (IntKind.wrap .i64 (x12-1)) hp) (F166_j5 x0a x0n x0c x1 x4 x11 x12 hp I3 K))
theorem F166_r8 (h:E=upd (w4 e 12 (sI x12) 11 (sI x11) 4 (sV x4) 1 (sI x1)) 0 (sS x0a x0n x0c)):R166 8327 16 E V0 hp K=
    (ite2 (decide (x11≤x12)) ((0≤x1)∧(x1<x0n)∧(ptrN x0a fun b1 o2=>ldL (HP.cellN hp b1 (o2+Int.toNat x1*9) 9) fun l3=>(0≤x12)∧(x12<x0n)∧(ptrN x0a fun b4 o5=>ldL (HP.cellN hp b4 (o5+Int.toNat x12*9) 9) fun l6=>fnV x4 fun f7 ga8 gb9=>CF Tryd.prog f7 (ga8++[(Value.agg ⟨l3⟩),(.agg ⟨l6⟩)]++gb9) hp fun u10 h11=>intV u10 .i64 fun i12=>K (w8 (w8 E 50 (sI x11) 51 (sI x12) 52 (sB (decide (x11≤x12))) 53 (sB true) 54 (sV x4) 55 (sS x0a x0n x0c) 56 (sI x1) 57 (sQ b1 (o2+Int.toNat x1*9))) 58 (sA l3) 59 (sS x0a x0n x0c) 60 (sI x12) 61 (sQ b4 (o5+Int.toNat x12*9)) 62 (sA l6) 63 (sI i12) 64 (sB (decide (i12<0))) 65 (sB (decide (i12<0)))) V0 h11))) (K (w8 (w8 E 50 (sI x11) 51 (sI x12) 52 (sB (decide (x11≤x12))) 53 (sB false) 54 sU 55 sU 56 sU 57 sU) 58 sU 59 sU 60 sU 61 sU 62 sU 63 sU 64 sU 65 (sB false)) V0 hp)):=by subst h; kernel_rfl
def F166_l6 (x0a:OA) (x0n x0c:Nat) (x1:Int) (x4:Value) (x11:Int) (I3:(Int × Int)→HP→Prop) (K:Kh) (I6:(Int)→HP→Prop) (x12:Int) (hp:HP):Prop:=
  (ite2 (decide (x11≤x12)) ((0≤x1)∧(x1<x0n)∧(ptrN x0a fun b25 o26=>ldL (HP.cellN hp b25 (o26+Int.toNat x1*9) 9) fun l27=>(0≤x12)∧(x12<x0n)∧(ptrN x0a fun b28 o29=>ldL (HP.cellN hp b28 (o29+Int.toNat x12*9) 9) fun l30=>fnV x4 fun f31 ga_32 gb_33=>CF Tryd.prog f31 (ga_32++[(Value.agg ⟨l27⟩),(.agg ⟨l30⟩)]++gb_33) hp fun u34 h35=>intV u34 .i64 fun i36=>F166_j7 x0a x0n x0c x1 x4 x11 x12 (decide (i36<0)) h35 I3 I6 K))) (F166_j7 x0a x0n x0c x1 x4 x11 x12 false hp I3 I6 K))
def F166_j4 (x0a:OA) (x0n x0c:Nat) (x1:Int) (x4:Value) (x11 x12:Int) (hp:HP) (I3:(Int × Int)→HP→Prop) (K:Kh):Prop:=
  (LoopP (σ:=Int) (fun I s hp=>F166_l6 x0a x0n x0c x1 x4 x11 I3 K I s hp) x12 hp)
theorem F166_r9:R166 5127 3 (upd e 11 (sI x11)) V0 hp K=
 K (w4 e 11 (sI x11) 48 (sI x11) 49 (sI ((wr (x11+1)))) 11 (sI ((wr (x11+1))))) V0 hp:= by kernel_rfl
def F166_j9 (x0a:OA) (x0n x0c:Nat) (x1:Int) (x4:Value) (x11 x12:Int) (x47:Bool) (hp:HP) (I3:(Int × Int)→HP→Prop) (I8:(Int)→HP→Prop) (K:Kh):Prop:=
  (ite2 x47 (I8 (IntKind.wrap .i64 (x11+1)) hp) (F166_j4 x0a x0n x0c x1 x4 x11 x12 hp I3 K))
theorem F166_r10 (h:E=upd (w4 e 12 (sI x12) 11 (sI x11) 4 (sV x4) 1 (sI x1)) 0 (sS x0a x0n x0c)):R166 4103 17 E V0 hp K=
    (ite2 (decide (x11≤x12)) ((0≤x1)∧(x1<x0n)∧(ptrN x0a fun b1 o2=>ldL (HP.cellN hp b1 (o2+Int.toNat x1*9) 9) fun l3=>(0≤x11)∧(x11<x0n)∧(ptrN x0a fun b4 o5=>ldL (HP.cellN hp b4 (o5+Int.toNat x11*9) 9) fun l6=>fnV x4 fun f7 ga8 gb9=>CF Tryd.prog f7 (ga8++[(Value.agg ⟨l3⟩),(.agg ⟨l6⟩)]++gb9) hp fun u10 h11=>intV u10 .i64 fun i12=>K (upd (w8 (w8 E 31 (sI x11) 32 (sI x12) 33 (sB (decide (x11≤x12))) 34 (sB true) 35 (sV x4) 36 (sS x0a x0n x0c) 37 (sI x1) 38 (sQ b1 (o2+Int.toNat x1*9))) 39 (sA l3) 40 (sS x0a x0n x0c) 41 (sI x11) 42 (sQ b4 (o5+Int.toNat x11*9)) 43 (sA l6) 44 (sI i12) 45 (sB (decide (i12<0))) 46 (sB ((!(decide (i12<0)))))) 47 (sB ((!(decide (i12<0)))))) V0 h11))) (K (upd (w8 (w8 E 31 (sI x11) 32 (sI x12) 33 (sB (decide (x11≤x12))) 34 (sB false) 35 sU 36 sU 37 sU 38 sU) 39 sU 40 sU 41 sU 42 sU 43 sU 44 sU 45 sU 46 sU) 47 (sB false)) V0 hp)):=by subst h; kernel_rfl
def F166_l8 (x0a:OA) (x0n x0c:Nat) (x1:Int) (x4:Value) (x12:Int) (I3:(Int × Int)→HP→Prop) (K:Kh) (I8:(Int)→HP→Prop) (x11:Int) (hp:HP):Prop:=
  (ite2 (decide (x11≤x12)) ((0≤x1)∧(x1<x0n)∧(ptrN x0a fun b37 o38=>ldL (HP.cellN hp b37 (o38+Int.toNat x1*9) 9) fun l39=>(0≤x11)∧(x11<x0n)∧(ptrN x0a fun b40 o41=>ldL (HP.cellN hp b40 (o41+Int.toNat x11*9) 9) fun l42=>fnV x4 fun f43 ga_44 gb_45=>CF Tryd.prog f43 (ga_44++[(Value.agg ⟨l39⟩),(.agg ⟨l42⟩)]++gb_45) hp fun u46 h47=>intV u46 .i64 fun i48=>F166_j9 x0a x0n x0c x1 x4 x11 x12 (!(decide (i48<0))) h47 I3 I8 K))) (F166_j9 x0a x0n x0c x1 x4 x11 x12 false hp I3 I8 K))
def F166_l3 (x0a:OA) (x0n x0c:Nat) (x1:Int) (x4:Value) (K:Kh) (I3:(Int × Int)→HP→Prop) (x11 x12:Int) (hp:HP):Prop:=
  (LoopP (σ:=Int) (fun I s hp=>F166_l8 x0a x0n x0c x1 x4 x12 I3 K I s hp) x11 hp)
def F166_j1 (x0a:OA) (x0n x0c:Nat) (x1:Int) (x4:Value) (x11 x12:Int) (hp:HP) (K:Kh):Prop:=
  (LoopP (σ:=Int × Int) (fun I s hp=>F166_l3 x0a x0n x0c x1 x4  K I s.1 s.2 hp) (x11,x12) hp)
theorem F166_r11:R166 11 6 (w2 e 2 (sI x2) 1 (sI x1)) V0 hp K=
 K (w8 e 2 (sI x2) 1 (sI x1) 27 (sI x1) 28 (sI ((wr (x1+1)))) 29 (sI x2) 30 (sI ((wr (x2-1)))) 11 (sI ((wr (x1+1)))) 12 (sI ((wr (x2-1))))) V0 hp:= by kernel_rfl
def F166 (x0a:OA) (x0n x0c:Nat) (x1 x2 x3:Int) (x4:Value) (hp:HP) (K:Kh):Prop:=
  ((0≤x3)∧(x3<x0n)∧(ptrN x0a fun b1 o2=>ldL (HP.cellN hp b1 (o2+Int.toNat x3*9) 9) fun l3=>(0≤x1)∧(x1<x0n)∧(ptrN x0a fun b4 o5=>ldL (HP.cellN hp b4 (o5+Int.toNat x1*9) 9) fun l6=>(0≤x1)∧(x1<x0n)∧(ptrN x0a fun b7 o8=>(List.length l3=9)∧(HP.stN hp b7 (o8+Int.toNat x1*9) l3 fun h9=>(0≤x3)∧(x3<x0n)∧(ptrN x0a fun b10 o11=>(List.length l6=9)∧(HP.stN h9 b10 (o11+Int.toNat x3*9) l6 fun h12=>F166_j1 x0a x0n x0c x1 x4 (IntKind.wrap .i64 (x1+1)) (IntKind.wrap .i64 (x2-1)) h12  K)))))))
noncomputable abbrev o166 (k n:Nat):Code:=.region k (opsAt Tryd.f166 (pth n)) false
noncomputable def F166_code:Code:=(.seq (o166 0 2) (.seq (.region 1 (opsAt Tryd.f166 (pth 5)) true) (.seq (o166 2 11) (.seq (.block 0 (.loop (.block 1 (.seq (.block 2 (.loop (.seq (.seq (.region 3 (opsAt Tryd.f166 (pth 4103)) true) (.cond (.tmp 47) .skip (.exit 2))) (.block 3 (o166 4 5127))))) (.seq (.block 4 (.loop (.seq (.seq (.region 5 (opsAt Tryd.f166 (pth 8327)) true) (.cond (.tmp 65) .skip (.exit 4))) (.block 5 (o166 6 10375))))) (.seq (.seq (o166 7 2439) (.cond (.tmp 70) (.exit 0) .skip)) (.seq (.region 8 (opsAt Tryd.f166 (pth 2951)) true) (.seq (o166 9 6023) (o166 10 8071))))))))) (.seq (o166 11 47) .ret)))))
theorem F166_body:Tryd.f166.body=some F166_code:=by kernel_rfl
theorem F166_ok (x0a:OA) (x0n x0c:Nat) (x1 x2 x3:Int) (x4:Value) (hp:HP) (K:Kh) (h:F166 x0a x0n x0c x1 x2 x3 x4 hp K):CF Tryd.prog 166 [(.slice x0a x0n x0c),(.int .i64 x1),(.int .i64 x2),(.int .i64 x3),x4] hp K:=by
 refine .inl ⟨by kernel_rfl,AC.intro (N:=90) Tryd.func166 F166_body rfl (Nat.le_of_ble_eq_true rfl) ?_⟩
 unfold F166 at h
 refine Ar F166_r0 ?_ (r5 0 1 2 3 4 Rn) (z5 Sn) Sn
 refine Aq (AWP.rgnD (by kernel_rfl) (by kernel_rfl) (F166_r1 rfl) ?_ (r5 0 1 3 2 4 Rn) (z5 Sn) Sn)
 refine ⟨h.1,h.2.1,mN h.2.2 (fun b1 o2 h=>mL h (fun l3 h=>⟨h.1,h.2.1,mN h.2.2 (fun b4 o5 h=>mL h (fun l6 h=>⟨h.1,h.2.1,mN h.2.2 (fun b7 o8 h=>⟨h.1,mW h.2 (fun h9 h=>⟨h.1,h.2.1,mN h.2.2 (fun b10 o11 h=>⟨h.1,mW h.2 fun h12 h=>?_⟩)⟩)⟩)⟩))⟩))⟩
 refine As (fun env pv hp=>∃ x0a x0n x0c x1 x4 x11 x12,Sub (w5 E0 12 (sI x12) 11 (sI x11) 4 (sV x4) 1 (sI x1) 0 (sS x0a x0n x0c)) env∧Sub V0 pv∧F166_j1 x0a x0n x0c x1 x4 x11 x12 hp  K) ?_ ?_
 ·refine Ag F166_r11 ?_ (r4 1 2 0 4 Rn) (z4 Sn) Sn
  exact ⟨_,_,_,_,_,_,_,(z5 Sn),Sn,h⟩
 ·rintro env pv hp ⟨x0a,x0n,x0c,x1,x4,x11,x12,he,hv,h⟩
  refine Ae ?_ (r5 0 1 4 11 12 Rn) he hv
  unfold F166_j1 at h
  refine As (fun env pv hp=>∃ x11,Sub (upd E0 11 (sI x11)) env∧Sub V0 pv∧F166_j2 x11 hp  K) ?_ ?_
  ·refine AWP.block (AWP.loop (σ:=Int × Int) _ (fun s=>w5 E0 12 (sI (s.2)) 11 (sI (s.1)) 4 (sV x4) 1 (sI x1) 0 (sS x0a x0n x0c)) (fun s=>V0) (x11,x12) h (fun s=>r5 0 1 4 11 12 Rn) (z5 Sn) Sn ?_)
   intro I3 s hp h
   obtain ⟨x11,x12⟩:=s
   replace h:F166_l3 x0a x0n x0c x1 x4  K I3 x11 x12 hp:=h
   unfold F166_l3 at h
   refine AWP.block (As (fun env pv hp=>∃ x11 x12,Sub (w5 E0 12 (sI x12) 11 (sI x11) 4 (sV x4) 1 (sI x1) 0 (sS x0a x0n x0c)) env∧Sub V0 pv∧F166_j4 x0a x0n x0c x1 x4 x11 x12 hp I3 K) ?_ ?_)
   ·refine AWP.block (AWP.loop (σ:=Int) _ (fun s=>w5 E0 12 (sI x12) 11 (sI s) 4 (sV x4) 1 (sI x1) 0 (sS x0a x0n x0c)) (fun s=>V0) x11 h (fun s=>r5 0 1 4 11 12 Rn) (z5 Sn) Sn ?_)
    intro I8 x11 hp h
    replace h:F166_l8 x0a x0n x0c x1 x4 x12 I3 K I8 x11 hp:=h
    unfold F166_l8 at h
    refine Aq (As (fun env pv hp=>∃ x11 x47,Sub (w6 E0 47 (sB x47) 12 (sI x12) 11 (sI x11) 4 (sV x4) 1 (sI x1) 0 (sS x0a x0n x0c)) env∧Sub V0 pv∧F166_j9 x0a x0n x0c x1 x4 x11 x12 x47 hp I3 I8 K) ?_ ?_)
    ·refine AWP.rgnD (by kernel_rfl) (by kernel_rfl) (F166_r10 rfl) ?_ (r5 0 1 4 11 12 Rn) (z5 Sn) Sn
     refine mt h (fun h=>?_) (fun h=>?_)
     ·refine ⟨h.1,h.2.1,mN h.2.2 (fun b37 o38 h=>mL h (fun l39 h=>⟨h.1,h.2.1,mN h.2.2 fun b40 o41 h=>mL h fun l42 h=>mF h fun f43 ga_44 gb_45 h=>mC h fun u46 h47 h=>mI h fun i48 h=>?_⟩))⟩
      exact ⟨_,_,(z6 Sn),Sn,h⟩
     ·exact ⟨_,_,(z6 Sn),Sn,h⟩
    ·rintro env pv hp ⟨x11,x47,he,hv,h⟩
     refine Ae ?_ (r6 0 1 4 11 12 47 Rn) he hv
     unfold F166_j9 at h
     refine Ac h rfl (fun h=>?_) (fun h=>?_)
     ·refine AWP.skip (AWP.block (Ag F166_r9 ?_ (r5 11 0 1 4 12 Rn) (z5 Sn) Sn))
      exact ⟨_,(z5 Sn),Sn,h⟩
     ·refine AWP.exit ?_
      exact ⟨_,_,(z5 Sn),Sn,h⟩
   ·rintro env pv hp ⟨x11,x12,he,hv,h⟩
    refine Ae ?_ (r5 0 1 4 11 12 Rn) he hv
    unfold F166_j4 at h
    refine As (fun env pv hp=>∃ x11 x12,Sub (w5 E0 12 (sI x12) 11 (sI x11) 4 (sV x4) 1 (sI x1) 0 (sS x0a x0n x0c)) env∧Sub V0 pv∧F166_j5 x0a x0n x0c x1 x4 x11 x12 hp I3 K) ?_ ?_
    ·refine AWP.block (AWP.loop (σ:=Int) _ (fun s=>w5 E0 12 (sI s) 11 (sI x11) 4 (sV x4) 1 (sI x1) 0 (sS x0a x0n x0c)) (fun s=>V0) x12 h (fun s=>r5 0 1 4 11 12 Rn) (z5 Sn) Sn ?_)
     intro I6 x12 hp h
     replace h:F166_l6 x0a x0n x0c x1 x4 x11 I3 K I6 x12 hp:=h
     unfold F166_l6 at h
     refine Aq (As (fun env pv hp=>∃ x12 x65,Sub (w6 E0 65 (sB x65) 12 (sI x12) 11 (sI x11) 4 (sV x4) 1 (sI x1) 0 (sS x0a x0n x0c)) env∧Sub V0 pv∧F166_j7 x0a x0n x0c x1 x4 x11 x12 x65 hp I3 I6 K) ?_ ?_)
     ·refine AWP.rgnD (by kernel_rfl) (by kernel_rfl) (F166_r8 rfl) ?_ (r5 0 1 4 11 12 Rn) (z5 Sn) Sn
      refine mt h (fun h=>?_) (fun h=>?_)
      ·refine ⟨h.1,h.2.1,mN h.2.2 (fun b25 o26 h=>mL h (fun l27 h=>⟨h.1,h.2.1,mN h.2.2 fun b28 o29 h=>mL h fun l30 h=>mF h fun f31 ga_32 gb_33 h=>mC h fun u34 h35 h=>mI h fun i36 h=>?_⟩))⟩
       exact ⟨_,_,(z6 Sn),Sn,h⟩
      ·exact ⟨_,_,(z6 Sn),Sn,h⟩
     ·rintro env pv hp ⟨x12,x65,he,hv,h⟩
      refine Ae ?_ (r6 0 1 4 11 12 65 Rn) he hv
      unfold F166_j7 at h
      refine Ac h rfl (fun h=>?_) (fun h=>?_)
      ·refine AWP.skip (AWP.block (Ag F166_r7 ?_ (r5 12 0 1 4 11 Rn) (z5 Sn) Sn))
       exact ⟨_,(z5 Sn),Sn,h⟩
      ·refine AWP.exit ?_
       exact ⟨_,_,(z5 Sn),Sn,h⟩
    ·rintro env pv hp ⟨x11,x12,he,hv,h⟩
     refine Ae ?_ (r5 0 1 4 11 12 Rn) he hv
     unfold F166_j5 at h
     refine Aq (Ar F166_r3 ?_ (r5 11 12 0 1 4 Rn) (z5 Sn) Sn)
     refine Ac h rfl (fun h=>?_) (fun h=>?_)
     ·refine AWP.exit ?_
      exact ⟨_,(z1 Sn),Sn,h⟩
     ·refine AWP.skip (Aq (AWP.rgnD (by kernel_rfl) (by kernel_rfl) (F166_r4 rfl) ?_ (r5 0 11 12 1 4 Rn) (z5 Sn) Sn))
      refine ⟨h.1,h.2.1,mN h.2.2 (fun b13 o14 h=>mL h (fun l15 h=>⟨h.1,h.2.1,mN h.2.2 (fun b16 o17 h=>mL h (fun l18 h=>⟨h.1,h.2.1,mN h.2.2 (fun b19 o20 h=>⟨h.1,mW h.2 (fun h21 h=>⟨h.1,h.2.1,mN h.2.2 (fun b22 o23 h=>⟨h.1,mW h.2 fun h24 h=>?_⟩)⟩)⟩)⟩))⟩))⟩
      refine Ar F166_r5 ?_ (r5 11 0 1 4 12 Rn) (z5 Sn) Sn
      refine Ag F166_r6 ?_ (r5 12 0 1 4 11 Rn) (z5 Sn) Sn
      exact ⟨_,(z5 Sn),Sn,h⟩
  ·rintro env pv hp ⟨x11,he,hv,h⟩
   refine Ae ?_ (r1 11 Rn) he hv
   unfold F166_j2 at h
   refine Ar F166_r2 ?_ (r1 11 Rn) (z1 Sn) Sn
   refine AWP.ret ?_
   exact h
end
section
variable {e E:Env} {x0a:OA} {x0n x0c:Nat} {x1 x2 x3:Int} {x4:Value} {x12 x13:Int} {hp:HP} {K:Env→PV→HP→Prop}
abbrev R167 (p n:Nat):=RW Tryd.prog 178 [] (opsAt Tryd.f167 (pth p)) (List.range n)
theorem F167_r0:R167 2 2 e V0 hp K=
 K (w2 e 10 (sI 0) 11 (sB false)) V0 hp:= by kernel_rfl
theorem F167_r1 (h:E=upd (w2 e 3 (sI x3) 1 (sI x1)) 0 (sS x0a x0n x0c)):R167 5 16 E V0 hp K=
    ((0≤x3)∧(x3<x0n)∧(ptrN x0a fun b1 o2=>ldL (HP.cellN hp b1 (o2+Int.toNat x3*9) 9) fun l3=>(0≤x1)∧(x1<x0n)∧(ptrN x0a fun b4 o5=>ldL (HP.cellN hp b4 (o5+Int.toNat x1*9) 9) fun l6=>(0≤x1)∧(x1<x0n)∧(ptrN x0a fun b7 o8=>(List.length l3=9)∧(HP.stN hp b7 (o8+Int.toNat x1*9) l3 fun h9=>(0≤x3)∧(x3<x0n)∧(ptrN x0a fun b10 o11=>(List.length l6=9)∧(HP.stN h9 b10 (o11+Int.toNat x3*9) l6 fun h12=>K (w6 (w8 E 14 (sS x0a x0n x0c) 15 (sI x1) 16 (sS x0a x0n x0c) 17 (sI x3) 18 (sS x0a x0n x0c) 19 (sI x3) 20 (sQ b1 (o2+Int.toNat x3*9)) 21 (sA l3)) 22 (sS x0a x0n x0c) 23 (sI x1) 24 (sQ b4 (o5+Int.toNat x1*9)) 25 (sA l6) 26 (sQ b7 (o8+Int.toNat x1*9)) 27 (sQ b10 (o11+Int.toNat x3*9))) V0 h12))))))):=by subst h; kernel_rfl
theorem F167_r2:R167 159 3 (w2 e 13 (sI x13) 12 (sI x12)) V0 hp K=
 K (w5 e 13 (sI x13) 12 (sI x12) 69 (sI x12) 70 (sI x13) 71 (sB (decide (x12 > x13)))) V0 hp:= by kernel_rfl
theorem F167_r3 (h:E=upd (w2 e 13 (sI x13) 1 (sI x1)) 0 (sS x0a x0n x0c)):R167 607 16 E V0 hp K=
    ((0≤x1)∧(x1<x0n)∧(ptrN x0a fun b1 o2=>ldL (HP.cellN hp b1 (o2+Int.toNat x1*9) 9) fun l3=>(0≤x13)∧(x13<x0n)∧(ptrN x0a fun b4 o5=>ldL (HP.cellN hp b4 (o5+Int.toNat x13*9) 9) fun l6=>(0≤x13)∧(x13<x0n)∧(ptrN x0a fun b7 o8=>(List.length l3=9)∧(HP.stN hp b7 (o8+Int.toNat x13*9) l3 fun h9=>(0≤x1)∧(x1<x0n)∧(ptrN x0a fun b10 o11=>(List.length l6=9)∧(HP.stN h9 b10 (o11+Int.toNat x1*9) l6 fun h12=>K (w6 (w8 E 72 (sS x0a x0n x0c) 73 (sI x13) 74 (sS x0a x0n x0c) 75 (sI x1) 76 (sS x0a x0n x0c) 77 (sI x1) 78 (sQ b1 (o2+Int.toNat x1*9)) 79 (sA l3)) 80 (sS x0a x0n x0c) 81 (sI x13) 82 (sQ b4 (o5+Int.toNat x13*9)) 83 (sA l6) 84 (sQ b7 (o8+Int.toNat x13*9)) 85 (sQ b10 (o11+Int.toNat x1*9))) V0 h12))))))):=by subst h; kernel_rfl
theorem F167_r4:R167 1375 3 (upd e 13 (sI x13)) V0 hp K=
 K (w4 e 13 (sI x13) 86 (sI x13) 10 (sI x13) 11 (sB true)) V0 hp:= by kernel_rfl
theorem F167_r5 (h:E=upd (w2 e 13 (sI x13) 12 (sI x12)) 0 (sS x0a x0n x0c)):R167 191 16 E V0 hp K=
    ((0≤x13)∧(x13<x0n)∧(ptrN x0a fun b1 o2=>ldL (HP.cellN hp b1 (o2+Int.toNat x13*9) 9) fun l3=>(0≤x12)∧(x12<x0n)∧(ptrN x0a fun b4 o5=>ldL (HP.cellN hp b4 (o5+Int.toNat x12*9) 9) fun l6=>(0≤x12)∧(x12<x0n)∧(ptrN x0a fun b7 o8=>(List.length l3=9)∧(HP.stN hp b7 (o8+Int.toNat x12*9) l3 fun h9=>(0≤x13)∧(x13<x0n)∧(ptrN x0a fun b10 o11=>(List.length l6=9)∧(HP.stN h9 b10 (o11+Int.toNat x13*9) l6 fun h12=>K (w6 (w8 E 87 (sS x0a x0n x0c) 88 (sI x12) 89 (sS x0a x0n x0c) 90 (sI x13) 91 (sS x0a x0n x0c) 92 (sI x13) 93 (sQ b1 (o2+Int.toNat x13*9)) 94 (sA l3)) 95 (sS x0a x0n x0c) 96 (sI x12) 97 (sQ b4 (o5+Int.toNat x12*9)) 98 (sA l6) 99 (sQ b7 (o8+Int.toNat x12*9)) 100 (sQ b10 (o11+Int.toNat x13*9))) V0 h12))))))):=by subst h; kernel_rfl
theorem F167_r6:R167 383 3 (upd e 12 (sI x12)) V0 hp K=
 K (w4 e 12 (sI x12) 101 (sI x12) 102 (sI ((wr (x12+1)))) 12 (sI ((wr (x12+1))))) V0 hp:= by kernel_rfl
theorem F167_r7 (h:E=upd (w2 e 13 (sI x13) 1 (sI x1)) 0 (sS x0a x0n x0c)):R167 3071 16 E V0 hp K=
    ((0≤x1)∧(x1<x0n)∧(ptrN x0a fun b1 o2=>ldL (HP.cellN hp b1 (o2+Int.toNat x1*9) 9) fun l3=>(0≤x13)∧(x13<x0n)∧(ptrN x0a fun b4 o5=>ldL (HP.cellN hp b4 (o5+Int.toNat x13*9) 9) fun l6=>(0≤x13)∧(x13<x0n)∧(ptrN x0a fun b7 o8=>(List.length l3=9)∧(HP.stN hp b7 (o8+Int.toNat x13*9) l3 fun h9=>(0≤x1)∧(x1<x0n)∧(ptrN x0a fun b10 o11=>(List.length l6=9)∧(HP.stN h9 b10 (o11+Int.toNat x1*9) l6 fun h12=>K (w6 (w8 E 163 (sS x0a x0n x0c) 164 (sI x13) 165 (sS x0a x0n x0c) 166 (sI x1) 167 (sS x0a x0n x0c) 168 (sI x1) 169 (sQ b1 (o2+Int.toNat x1*9)) 170 (sA l3)) 171 (sS x0a x0n x0c) 172 (sI x13) 173 (sQ b4 (o5+Int.toNat x13*9)) 174 (sA l6) 175 (sQ b7 (o8+Int.toNat x13*9)) 176 (sQ b10 (o11+Int.toNat x1*9))) V0 h12))))))):=by subst h; kernel_rfl
theorem F167_r8:R167 6143 3 (upd e 13 (sI x13)) V0 hp K=
 K (w4 e 13 (sI x13) 177 (sI x13) 10 (sI x13) 11 (sB false)) V0 hp:= by kernel_rfl
def F167_j5 (x0a:OA) (x0n x0c:Nat) (x1 x13:Int) (hp:HP) (K:Kh):Prop:=
  ((0≤x1)∧(x1<x0n)∧(ptrN x0a fun b37 o38=>ldL (HP.cellN hp b37 (o38+Int.toNat x1*9) 9) fun l39=>(0≤x13)∧(x13<x0n)∧(ptrN x0a fun b40 o41=>ldL (HP.cellN hp b40 (o41+Int.toNat x13*9) 9) fun l42=>(0≤x13)∧(x13<x0n)∧(ptrN x0a fun b43 o44=>(List.length l39=9)∧(HP.stN hp b43 (o44+Int.toNat x13*9) l39 fun h45=>(0≤x1)∧(x1<x0n)∧(ptrN x0a fun b46 o47=>(List.length l42=9)∧(HP.stN h45 b46 (o47+Int.toNat x1*9) l42 fun h48=>K (.tuple ⟨[(.int .i64 x13),.bool false]⟩) h48)))))))
theorem F167_r9:R167 156159 3 (w2 e 13 (sI x13) 12 (sI x12)) V0 hp K=
 K (w5 e 13 (sI x13) 12 (sI x12) 142 (sI x12) 143 (sI x13) 144 (sB (decide (x12 > x13)))) V0 hp:= by kernel_rfl
theorem F167_r10 (h:E=upd (w2 e 13 (sI x13) 12 (sI x12)) 0 (sS x0a x0n x0c)):R167 188927 16 E V0 hp K=
    ((0≤x13)∧(x13<x0n)∧(ptrN x0a fun b1 o2=>ldL (HP.cellN hp b1 (o2+Int.toNat x13*9) 9) fun l3=>(0≤x12)∧(x12<x0n)∧(ptrN x0a fun b4 o5=>ldL (HP.cellN hp b4 (o5+Int.toNat x12*9) 9) fun l6=>(0≤x12)∧(x12<x0n)∧(ptrN x0a fun b7 o8=>(List.length l3=9)∧(HP.stN hp b7 (o8+Int.toNat x12*9) l3 fun h9=>(0≤x13)∧(x13<x0n)∧(ptrN x0a fun b10 o11=>(List.length l6=9)∧(HP.stN h9 b10 (o11+Int.toNat x13*9) l6 fun h12=>K (w6 (w8 E 145 (sS x0a x0n x0c) 146 (sI x12) 147 (sS x0a x0n x0c) 148 (sI x13) 149 (sS x0a x0n x0c) 150 (sI x13) 151 (sQ b1 (o2+Int.toNat x13*9)) 152 (sA l3)) 153 (sS x0a x0n x0c) 154 (sI x12) 155 (sQ b4 (o5+Int.toNat x12*9)) 156 (sA l6) 157 (sQ b7 (o8+Int.toNat x12*9)) 158 (sQ b10 (o11+Int.toNat x13*9))) V0 h12))))))):=by subst h; kernel_rfl
theorem F167_r11:R167 385535 3 (upd e 12 (sI x12)) V0 hp K=
 K (w4 e 12 (sI x12) 159 (sI x12) 160 (sI ((wr (x12+1)))) 12 (sI ((wr (x12+1))))) V0 hp:= by kernel_rfl
theorem F167_r12:R167 516607 3 (upd e 13 (sI x13)) V0 hp K=
 K (w4 e 13 (sI x13) 161 (sI x13) 162 (sI ((wr (x13-1)))) 13 (sI ((wr (x13-1))))) V0 hp:= by kernel_rfl
def F167_j8 (x0a:OA) (x0n x0c:Nat) (x1:Int) (x4:Value) (x12 x13:Int) (hp:HP) (I6:(Int × Int)→HP→Prop) (K:Kh):Prop:=
  (ite2 (decide (x12 > x13)) (F167_j5 x0a x0n x0c x1 x13 hp  K) ((0≤x13)∧(x13<x0n)∧(ptrN x0a fun b49 o50=>ldL (HP.cellN hp b49 (o50+Int.toNat x13*9) 9) fun l51=>(0≤x12)∧(x12<x0n)∧(ptrN x0a fun b52 o53=>ldL (HP.cellN hp b52 (o53+Int.toNat x12*9) 9) fun l54=>(0≤x12)∧(x12<x0n)∧(ptrN x0a fun b55 o56=>(List.length l51=9)∧(HP.stN hp b55 (o56+Int.toNat x12*9) l51 fun h57=>(0≤x13)∧(x13<x0n)∧(ptrN x0a fun b58 o59=>(List.length l54=9)∧(HP.stN h57 b58 (o59+Int.toNat x13*9) l54 fun h60=>I6 ((IntKind.wrap .i64 (x12+1)),(IntKind.wrap .i64 (x13-1))) h60))))))))
theorem F167_r13:R167 664063 3 (upd e 13 (sI x13)) V0 hp K=
 K (w4 e 13 (sI x13) 140 (sI x13) 141 (sI ((wr (x13-1)))) 13 (sI ((wr (x13-1))))) V0 hp:= by kernel_rfl
def F167_j10 (x0a:OA) (x0n x0c:Nat) (x1:Int) (x4:Value) (x12 x13:Int) (x139:Bool) (hp:HP) (I6:(Int × Int)→HP→Prop) (I9:(Int)→HP→Prop) (K:Kh):Prop:=
  (ite2 x139 (I9 (IntKind.wrap .i64 (x13-1)) hp) (F167_j8 x0a x0n x0c x1 x4 x12 x13 hp I6 K))
theorem F167_r14 (h:E=upd (w4 e 13 (sI x13) 12 (sI x12) 4 (sV x4) 1 (sI x1)) 0 (sS x0a x0n x0c)):R167 532991 17 E V0 hp K=
    (ite2 (decide (x12≤x13)) ((0≤x13)∧(x13<x0n)∧(ptrN x0a fun b1 o2=>ldL (HP.cellN hp b1 (o2+Int.toNat x13*9) 9) fun l3=>(0≤x1)∧(x1<x0n)∧(ptrN x0a fun b4 o5=>ldL (HP.cellN hp b4 (o5+Int.toNat x1*9) 9) fun l6=>fnV x4 fun f7 ga8 gb9=>CF Tryd.prog f7 (ga8++[(Value.agg ⟨l3⟩),(.agg ⟨l6⟩)]++gb9) hp fun u10 h11=>intV u10 .i64 fun i12=>K (upd (w8 (w8 E 123 (sI x12) 124 (sI x13) 125 (sB (decide (x12≤x13))) 126 (sB true) 127 (sV x4) 128 (sS x0a x0n x0c) 129 (sI x13) 130 (sQ b1 (o2+Int.toNat x13*9))) 131 (sA l3) 132 (sS x0a x0n x0c) 133 (sI x1) 134 (sQ b4 (o5+Int.toNat x1*9)) 135 (sA l6) 136 (sI i12) 137 (sB (decide (i12<0))) 138 (sB ((!(decide (i12<0)))))) 139 (sB ((!(decide (i12<0)))))) V0 h11))) (K (upd (w8 (w8 E 123 (sI x12) 124 (sI x13) 125 (sB (decide (x12≤x13))) 126 (sB false) 127 sU 128 sU 129 sU 130 sU) 131 sU 132 sU 133 sU 134 sU 135 sU 136 sU 137 sU 138 sU) 139 (sB false)) V0 hp)):=by subst h; kernel_rfl
def F167_l9 (x0a:OA) (x0n x0c:Nat) (x1:Int) (x4:Value) (x12:Int) (I6:(Int × Int)→HP→Prop) (K:Kh) (I9:(Int)→HP→Prop) (x13:Int) (hp:HP):Prop:=
  (ite2 (decide (x12≤x13)) ((0≤x13)∧(x13<x0n)∧(ptrN x0a fun b61 o62=>ldL (HP.cellN hp b61 (o62+Int.toNat x13*9) 9) fun l63=>(0≤x1)∧(x1<x0n)∧(ptrN x0a fun b64 o65=>ldL (HP.cellN hp b64 (o65+Int.toNat x1*9) 9) fun l66=>fnV x4 fun f67 ga_68 gb_69=>CF Tryd.prog f67 (ga_68++[(Value.agg ⟨l63⟩),(.agg ⟨l66⟩)]++gb_69) hp fun u70 h71=>intV u70 .i64 fun i72=>F167_j10 x0a x0n x0c x1 x4 x12 x13 (!(decide (i72<0))) h71 I6 I9 K))) (F167_j10 x0a x0n x0c x1 x4 x12 x13 false hp I6 I9 K))
def F167_j7 (x0a:OA) (x0n x0c:Nat) (x1:Int) (x4:Value) (x12 x13:Int) (hp:HP) (I6:(Int × Int)→HP→Prop) (K:Kh):Prop:=
  (LoopP (σ:=Int) (fun I s hp=>F167_l9 x0a x0n x0c x1 x4 x12 I6 K I s hp) x13 hp)
theorem F167_r15:R167 328191 3 (upd e 12 (sI x12)) V0 hp K=
 K (w4 e 12 (sI x12) 121 (sI x12) 122 (sI ((wr (x12+1)))) 12 (sI ((wr (x12+1))))) V0 hp:= by kernel_rfl
def F167_j12 (x0a:OA) (x0n x0c:Nat) (x1:Int) (x4:Value) (x12 x13:Int) (x120:Bool) (hp:HP) (I6:(Int × Int)→HP→Prop) (I11:(Int)→HP→Prop) (K:Kh):Prop:=
  (ite2 x120 (I11 (IntKind.wrap .i64 (x12+1)) hp) (F167_j7 x0a x0n x0c x1 x4 x12 x13 hp I6 K))
theorem F167_r16 (h:E=upd (w4 e 13 (sI x13) 12 (sI x12) 4 (sV x4) 1 (sI x1)) 0 (sS x0a x0n x0c)):R167 262655 16 E V0 hp K=
    (ite2 (decide (x12≤x13)) ((0≤x12)∧(x12<x0n)∧(ptrN x0a fun b1 o2=>ldL (HP.cellN hp b1 (o2+Int.toNat x12*9) 9) fun l3=>(0≤x1)∧(x1<x0n)∧(ptrN x0a fun b4 o5=>ldL (HP.cellN hp b4 (o5+Int.toNat x1*9) 9) fun l6=>fnV x4 fun f7 ga8 gb9=>CF Tryd.prog f7 (ga8++[(Value.agg ⟨l3⟩),(.agg ⟨l6⟩)]++gb9) hp fun u10 h11=>intV u10 .i64 fun i12=>K (w8 (w8 E 105 (sI x12) 106 (sI x13) 107 (sB (decide (x12≤x13))) 108 (sB true) 109 (sV x4) 110 (sS x0a x0n x0c) 111 (sI x12) 112 (sQ b1 (o2+Int.toNat x12*9))) 113 (sA l3) 114 (sS x0a x0n x0c) 115 (sI x1) 116 (sQ b4 (o5+Int.toNat x1*9)) 117 (sA l6) 118 (sI i12) 119 (sB (decide (i12<0))) 120 (sB (decide (i12<0)))) V0 h11))) (K (w8 (w8 E 105 (sI x12) 106 (sI x13) 107 (sB (decide (x12≤x13))) 108 (sB false) 109 sU 110 sU 111 sU 112 sU) 113 sU 114 sU 115 sU 116 sU 117 sU 118 sU 119 sU 120 (sB false)) V0 hp)):=by subst h; kernel_rfl
def F167_l11 (x0a:OA) (x0n x0c:Nat) (x1:Int) (x4:Value) (x13:Int) (I6:(Int × Int)→HP→Prop) (K:Kh) (I11:(Int)→HP→Prop) (x12:Int) (hp:HP):Prop:=
  (ite2 (decide (x12≤x13)) ((0≤x12)∧(x12<x0n)∧(ptrN x0a fun b73 o74=>ldL (HP.cellN hp b73 (o74+Int.toNat x12*9) 9) fun l75=>(0≤x1)∧(x1<x0n)∧(ptrN x0a fun b76 o77=>ldL (HP.cellN hp b76 (o77+Int.toNat x1*9) 9) fun l78=>fnV x4 fun f79 ga_80 gb_81=>CF Tryd.prog f79 (ga_80++[(Value.agg ⟨l75⟩),(.agg ⟨l78⟩)]++gb_81) hp fun u82 h83=>intV u82 .i64 fun i84=>F167_j12 x0a x0n x0c x1 x4 x12 x13 (decide (i84<0)) h83 I6 I11 K))) (F167_j12 x0a x0n x0c x1 x4 x12 x13 false hp I6 I11 K))
def F167_l6 (x0a:OA) (x0n x0c:Nat) (x1:Int) (x4:Value) (K:Kh) (I6:(Int × Int)→HP→Prop) (x12 x13:Int) (hp:HP):Prop:=
  (LoopP (σ:=Int) (fun I s hp=>F167_l11 x0a x0n x0c x1 x4 x13 I6 K I s hp) x12 hp)
def F167_j4 (x0a:OA) (x0n x0c:Nat) (x1:Int) (x4:Value) (x12 x13:Int) (hp:HP) (K:Kh):Prop:=
  (LoopP (σ:=Int × Int) (fun I s hp=>F167_l6 x0a x0n x0c x1 x4  K I s.1 s.2 hp) (x12,x13) hp)
theorem F167_r17:R167 767 3 (upd e 13 (sI x13)) V0 hp K=
 K (w4 e 13 (sI x13) 103 (sI x13) 104 (sI ((wr (x13-1)))) 13 (sI ((wr (x13-1))))) V0 hp:= by kernel_rfl
def F167_j3 (x0a:OA) (x0n x0c:Nat) (x1:Int) (x4:Value) (x12 x13:Int) (hp:HP) (K:Kh):Prop:=
  (ite2 (decide (x12 > x13)) ((0≤x1)∧(x1<x0n)∧(ptrN x0a fun b13 o14=>ldL (HP.cellN hp b13 (o14+Int.toNat x1*9) 9) fun l15=>(0≤x13)∧(x13<x0n)∧(ptrN x0a fun b16 o17=>ldL (HP.cellN hp b16 (o17+Int.toNat x13*9) 9) fun l18=>(0≤x13)∧(x13<x0n)∧(ptrN x0a fun b19 o20=>(List.length l15=9)∧(HP.stN hp b19 (o20+Int.toNat x13*9) l15 fun h21=>(0≤x1)∧(x1<x0n)∧(ptrN x0a fun b22 o23=>(List.length l18=9)∧(HP.stN h21 b22 (o23+Int.toNat x1*9) l18 fun h24=>K (.tuple ⟨[(.int .i64 x13),(.bool true)]⟩) h24))))))) ((0≤x13)∧(x13<x0n)∧(ptrN x0a fun b25 o26=>ldL (HP.cellN hp b25 (o26+Int.toNat x13*9) 9) fun l27=>(0≤x12)∧(x12<x0n)∧(ptrN x0a fun b28 o29=>ldL (HP.cellN hp b28 (o29+Int.toNat x12*9) 9) fun l30=>(0≤x12)∧(x12<x0n)∧(ptrN x0a fun b31 o32=>(List.length l27=9)∧(HP.stN hp b31 (o32+Int.toNat x12*9) l27 fun h33=>(0≤x13)∧(x13<x0n)∧(ptrN x0a fun b34 o35=>(List.length l30=9)∧(HP.stN h33 b34 (o35+Int.toNat x13*9) l30 fun h36=>F167_j4 x0a x0n x0c x1 x4 (IntKind.wrap .i64 (x12+1)) (IntKind.wrap .i64 (x13-1)) h36  K))))))))
theorem F167_r18:R167 655 3 (upd e 13 (sI x13)) V0 hp K=
 K (w4 e 13 (sI x13) 67 (sI x13) 68 (sI ((wr (x13-1)))) 13 (sI ((wr (x13-1))))) V0 hp:= by kernel_rfl
def F167_j14 (x0a:OA) (x0n x0c:Nat) (x1:Int) (x4:Value) (x12 x13:Int) (x66:Bool) (hp:HP) (I13:(Int)→HP→Prop) (K:Kh):Prop:=
  (ite2 x66 (I13 (IntKind.wrap .i64 (x13-1)) hp) (F167_j3 x0a x0n x0c x1 x4 x12 x13 hp  K))
theorem F167_r19 (h:E=upd (w4 e 13 (sI x13) 12 (sI x12) 4 (sV x4) 1 (sI x1)) 0 (sS x0a x0n x0c)):R167 527 17 E V0 hp K=
    (ite2 (decide (x12≤x13)) ((0≤x13)∧(x13<x0n)∧(ptrN x0a fun b1 o2=>ldL (HP.cellN hp b1 (o2+Int.toNat x13*9) 9) fun l3=>(0≤x1)∧(x1<x0n)∧(ptrN x0a fun b4 o5=>ldL (HP.cellN hp b4 (o5+Int.toNat x1*9) 9) fun l6=>fnV x4 fun f7 ga8 gb9=>CF Tryd.prog f7 (ga8++[(Value.agg ⟨l3⟩),(.agg ⟨l6⟩)]++gb9) hp fun u10 h11=>intV u10 .i64 fun i12=>K (upd (w8 (w8 E 50 (sI x12) 51 (sI x13) 52 (sB (decide (x12≤x13))) 53 (sB true) 54 (sV x4) 55 (sS x0a x0n x0c) 56 (sI x13) 57 (sQ b1 (o2+Int.toNat x13*9))) 58 (sA l3) 59 (sS x0a x0n x0c) 60 (sI x1) 61 (sQ b4 (o5+Int.toNat x1*9)) 62 (sA l6) 63 (sI i12) 64 (sB (decide (i12<0))) 65 (sB ((!(decide (i12<0)))))) 66 (sB ((!(decide (i12<0)))))) V0 h11))) (K (upd (w8 (w8 E 50 (sI x12) 51 (sI x13) 52 (sB (decide (x12≤x13))) 53 (sB false) 54 sU 55 sU 56 sU 57 sU) 58 sU 59 sU 60 sU 61 sU 62 sU 63 sU 64 sU 65 sU) 66 (sB false)) V0 hp)):=by subst h; kernel_rfl
def F167_l13 (x0a:OA) (x0n x0c:Nat) (x1:Int) (x4:Value) (x12:Int) (K:Kh) (I13:(Int)→HP→Prop) (x13:Int) (hp:HP):Prop:=
  (ite2 (decide (x12≤x13)) ((0≤x13)∧(x13<x0n)∧(ptrN x0a fun b85 o86=>ldL (HP.cellN hp b85 (o86+Int.toNat x13*9) 9) fun l87=>(0≤x1)∧(x1<x0n)∧(ptrN x0a fun b88 o89=>ldL (HP.cellN hp b88 (o89+Int.toNat x1*9) 9) fun l90=>fnV x4 fun f91 ga_92 gb_93=>CF Tryd.prog f91 (ga_92++[(Value.agg ⟨l87⟩),(.agg ⟨l90⟩)]++gb_93) hp fun u94 h95=>intV u94 .i64 fun i96=>F167_j14 x0a x0n x0c x1 x4 x12 x13 (!(decide (i96<0))) h95 I13 K))) (F167_j14 x0a x0n x0c x1 x4 x12 x13 false hp I13 K))
def F167_j2 (x0a:OA) (x0n x0c:Nat) (x1:Int) (x4:Value) (x12 x13:Int) (hp:HP) (K:Kh):Prop:=
  (LoopP (σ:=Int) (fun I s hp=>F167_l13 x0a x0n x0c x1 x4 x12  K I s hp) x13 hp)
theorem F167_r20:R167 327 3 (upd e 12 (sI x12)) V0 hp K=
 K (w4 e 12 (sI x12) 48 (sI x12) 49 (sI ((wr (x12+1)))) 12 (sI ((wr (x12+1))))) V0 hp:= by kernel_rfl
def F167_j16 (x0a:OA) (x0n x0c:Nat) (x1:Int) (x4:Value) (x12 x13:Int) (x47:Bool) (hp:HP) (I15:(Int)→HP→Prop) (K:Kh):Prop:=
  (ite2 x47 (I15 (IntKind.wrap .i64 (x12+1)) hp) (F167_j2 x0a x0n x0c x1 x4 x12 x13 hp  K))
theorem F167_r21 (h:E=upd (w4 e 13 (sI x13) 12 (sI x12) 4 (sV x4) 1 (sI x1)) 0 (sS x0a x0n x0c)):R167 263 16 E V0 hp K=
    (ite2 (decide (x12≤x13)) ((0≤x12)∧(x12<x0n)∧(ptrN x0a fun b1 o2=>ldL (HP.cellN hp b1 (o2+Int.toNat x12*9) 9) fun l3=>(0≤x1)∧(x1<x0n)∧(ptrN x0a fun b4 o5=>ldL (HP.cellN hp b4 (o5+Int.toNat x1*9) 9) fun l6=>fnV x4 fun f7 ga8 gb9=>CF Tryd.prog f7 (ga8++[(Value.agg ⟨l3⟩),(.agg ⟨l6⟩)]++gb9) hp fun u10 h11=>intV u10 .i64 fun i12=>K (w8 (w8 E 32 (sI x12) 33 (sI x13) 34 (sB (decide (x12≤x13))) 35 (sB true) 36 (sV x4) 37 (sS x0a x0n x0c) 38 (sI x12) 39 (sQ b1 (o2+Int.toNat x12*9))) 40 (sA l3) 41 (sS x0a x0n x0c) 42 (sI x1) 43 (sQ b4 (o5+Int.toNat x1*9)) 44 (sA l6) 45 (sI i12) 46 (sB (decide (i12<0))) 47 (sB (decide (i12<0)))) V0 h11))) (K (w8 (w8 E 32 (sI x12) 33 (sI x13) 34 (sB (decide (x12≤x13))) 35 (sB false) 36 sU 37 sU 38 sU 39 sU) 40 sU 41 sU 42 sU 43 sU 44 sU 45 sU 46 sU 47 (sB false)) V0 hp)):=by subst h; kernel_rfl
def F167_l15 (x0a:OA) (x0n x0c:Nat) (x1:Int) (x4:Value) (x13:Int) (K:Kh) (I15:(Int)→HP→Prop) (x12:Int) (hp:HP):Prop:=
  (ite2 (decide (x12≤x13)) ((0≤x12)∧(x12<x0n)∧(ptrN x0a fun b97 o98=>ldL (HP.cellN hp b97 (o98+Int.toNat x12*9) 9) fun l99=>(0≤x1)∧(x1<x0n)∧(ptrN x0a fun b100 o101=>ldL (HP.cellN hp b100 (o101+Int.toNat x1*9) 9) fun l102=>fnV x4 fun f103 ga_104 gb_105=>CF Tryd.prog f103 (ga_104++[(Value.agg ⟨l99⟩),(.agg ⟨l102⟩)]++gb_105) hp fun u106 h107=>intV u106 .i64 fun i108=>F167_j16 x0a x0n x0c x1 x4 x12 x13 (decide (i108<0)) h107 I15 K))) (F167_j16 x0a x0n x0c x1 x4 x12 x13 false hp I15 K))
def F167_j1 (x0a:OA) (x0n x0c:Nat) (x1:Int) (x4:Value) (x12 x13:Int) (hp:HP) (K:Kh):Prop:=
  (LoopP (σ:=Int) (fun I s hp=>F167_l15 x0a x0n x0c x1 x4 x13  K I s hp) x12 hp)
theorem F167_r22:R167 11 6 (w2 e 2 (sI x2) 1 (sI x1)) V0 hp K=
 K (w8 e 2 (sI x2) 1 (sI x1) 28 (sI x1) 29 (sI ((wr (x1+1)))) 30 (sI x2) 31 (sI ((wr (x2-1)))) 12 (sI ((wr (x1+1)))) 13 (sI ((wr (x2-1))))) V0 hp:= by kernel_rfl
def F167 (x0a:OA) (x0n x0c:Nat) (x1 x2 x3:Int) (x4:Value) (hp:HP) (K:Kh):Prop:=
  ((0≤x3)∧(x3<x0n)∧(ptrN x0a fun b1 o2=>ldL (HP.cellN hp b1 (o2+Int.toNat x3*9) 9) fun l3=>(0≤x1)∧(x1<x0n)∧(ptrN x0a fun b4 o5=>ldL (HP.cellN hp b4 (o5+Int.toNat x1*9) 9) fun l6=>(0≤x1)∧(x1<x0n)∧(ptrN x0a fun b7 o8=>(List.length l3=9)∧(HP.stN hp b7 (o8+Int.toNat x1*9) l3 fun h9=>(0≤x3)∧(x3<x0n)∧(ptrN x0a fun b10 o11=>(List.length l6=9)∧(HP.stN h9 b10 (o11+Int.toNat x3*9) l6 fun h12=>F167_j1 x0a x0n x0c x1 x4 (IntKind.wrap .i64 (x1+1)) (IntKind.wrap .i64 (x2-1)) h12  K)))))))
noncomputable abbrev o167 (k n:Nat):Code:=.region k (opsAt Tryd.f167 (pth n)) false
noncomputable def F167_code:Code:=(.seq (o167 0 2) (.seq (.region 1 (opsAt Tryd.f167 (pth 5)) true) (.seq (o167 2 11) (.seq (.block 0 (.loop (.seq (.seq (.region 3 (opsAt Tryd.f167 (pth 263)) true) (.cond (.tmp 47) .skip (.exit 0))) (.block 1 (o167 4 327))))) (.seq (.block 2 (.loop (.seq (.seq (.region 5 (opsAt Tryd.f167 (pth 527)) true) (.cond (.tmp 66) .skip (.exit 2))) (.block 3 (o167 6 655))))) (.seq (.seq (o167 7 159) (.cond (.tmp 71) (.seq (.region 8 (opsAt Tryd.f167 (pth 607)) true) (.seq (o167 9 1375) .ret)) .skip)) (.seq (.region 10 (opsAt Tryd.f167 (pth 191)) true) (.seq (o167 11 383) (.seq (o167 12 767) (.seq (.block 4 (.loop (.block 5 (.seq (.block 6 (.loop (.seq (.seq (.region 13 (opsAt Tryd.f167 (pth 262655)) true) (.cond (.tmp 120) .skip (.exit 6))) (.block 7 (o167 14 328191))))) (.seq (.block 8 (.loop (.seq (.seq (.region 15 (opsAt Tryd.f167 (pth 532991)) true) (.cond (.tmp 139) .skip (.exit 8))) (.block 9 (o167 16 664063))))) (.seq (.seq (o167 17 156159) (.cond (.tmp 144) (.exit 4) .skip)) (.seq (.region 18 (opsAt Tryd.f167 (pth 188927)) true) (.seq (o167 19 385535) (o167 20 516607))))))))) (.seq (.region 21 (opsAt Tryd.f167 (pth 3071)) true) (.seq (o167 22 6143) .ret))))))))))))
theorem F167_body:Tryd.f167.body=some F167_code:=by kernel_rfl
theorem F167_ok (x0a:OA) (x0n x0c:Nat) (x1 x2 x3:Int) (x4:Value) (hp:HP) (K:Kh) (h:F167 x0a x0n x0c x1 x2 x3 x4 hp K):CF Tryd.prog 167 [(.slice x0a x0n x0c),(.int .i64 x1),(.int .i64 x2),(.int .i64 x3),x4] hp K:=by
 refine .inl ⟨by kernel_rfl,AC.intro (N:=178) Tryd.func167 F167_body rfl (Nat.le_of_ble_eq_true rfl) ?_⟩
 unfold F167 at h
 refine Ar F167_r0 ?_ (r5 0 1 2 3 4 Rn) (z5 Sn) Sn
 refine Aq (AWP.rgnD (by kernel_rfl) (by kernel_rfl) (F167_r1 rfl) ?_ (r5 0 1 3 2 4 Rn) (z5 Sn) Sn)
 refine ⟨h.1,h.2.1,mN h.2.2 (fun b1 o2 h=>mL h (fun l3 h=>⟨h.1,h.2.1,mN h.2.2 (fun b4 o5 h=>mL h (fun l6 h=>⟨h.1,h.2.1,mN h.2.2 (fun b7 o8 h=>⟨h.1,mW h.2 (fun h9 h=>⟨h.1,h.2.1,mN h.2.2 (fun b10 o11 h=>⟨h.1,mW h.2 fun h12 h=>?_⟩)⟩)⟩)⟩))⟩))⟩
 refine As (fun env pv hp=>∃ x0a x0n x0c x1 x4 x12 x13,Sub (w5 E0 13 (sI x13) 12 (sI x12) 4 (sV x4) 1 (sI x1) 0 (sS x0a x0n x0c)) env∧Sub V0 pv∧F167_j1 x0a x0n x0c x1 x4 x12 x13 hp  K) ?_ ?_
 ·refine Ag F167_r22 ?_ (r4 1 2 0 4 Rn) (z4 Sn) Sn
  exact ⟨_,_,_,_,_,_,_,(z5 Sn),Sn,h⟩
 ·rintro env pv hp ⟨x0a,x0n,x0c,x1,x4,x12,x13,he,hv,h⟩
  refine Ae ?_ (r5 0 1 4 12 13 Rn) he hv
  unfold F167_j1 at h
  refine As (fun env pv hp=>∃ x0a x0n x0c x1 x4 x12 x13,Sub (w5 E0 13 (sI x13) 12 (sI x12) 4 (sV x4) 1 (sI x1) 0 (sS x0a x0n x0c)) env∧Sub V0 pv∧F167_j2 x0a x0n x0c x1 x4 x12 x13 hp  K) ?_ ?_
  ·refine AWP.block (AWP.loop (σ:=Int) _ (fun s=>w5 E0 13 (sI x13) 12 (sI s) 4 (sV x4) 1 (sI x1) 0 (sS x0a x0n x0c)) (fun s=>V0) x12 h (fun s=>r5 0 1 4 12 13 Rn) (z5 Sn) Sn ?_)
   intro I15 x12 hp h
   replace h:F167_l15 x0a x0n x0c x1 x4 x13  K I15 x12 hp:=h
   unfold F167_l15 at h
   refine Aq (As (fun env pv hp=>∃ x12 x47,Sub (w6 E0 47 (sB x47) 13 (sI x13) 12 (sI x12) 4 (sV x4) 1 (sI x1) 0 (sS x0a x0n x0c)) env∧Sub V0 pv∧F167_j16 x0a x0n x0c x1 x4 x12 x13 x47 hp I15 K) ?_ ?_)
   ·refine AWP.rgnD (by kernel_rfl) (by kernel_rfl) (F167_r21 rfl) ?_ (r5 0 1 4 12 13 Rn) (z5 Sn) Sn
    refine mt h (fun h=>?_) (fun h=>?_)
    ·refine ⟨h.1,h.2.1,mN h.2.2 (fun b97 o98 h=>mL h (fun l99 h=>⟨h.1,h.2.1,mN h.2.2 fun b100 o101 h=>mL h fun l102 h=>mF h fun f103 ga_104 gb_105 h=>mC h fun u106 h107 h=>mI h fun i108 h=>?_⟩))⟩
     exact ⟨_,_,(z6 Sn),Sn,h⟩
    ·exact ⟨_,_,(z6 Sn),Sn,h⟩
   ·rintro env pv hp ⟨x12,x47,he,hv,h⟩
    refine Ae ?_ (r6 0 1 4 12 13 47 Rn) he hv
    unfold F167_j16 at h
    refine Ac h rfl (fun h=>?_) (fun h=>?_)
    ·refine AWP.skip (AWP.block (Ag F167_r20 ?_ (r5 12 0 1 4 13 Rn) (z5 Sn) Sn))
     exact ⟨_,(z5 Sn),Sn,h⟩
    ·refine AWP.exit ?_
     exact ⟨_,_,_,_,_,_,_,(z5 Sn),Sn,h⟩
  ·rintro env pv hp ⟨x0a,x0n,x0c,x1,x4,x12,x13,he,hv,h⟩
   refine Ae ?_ (r5 0 1 4 12 13 Rn) he hv
   unfold F167_j2 at h
   refine As (fun env pv hp=>∃ x0a x0n x0c x1 x4 x12 x13,Sub (w5 E0 13 (sI x13) 12 (sI x12) 4 (sV x4) 1 (sI x1) 0 (sS x0a x0n x0c)) env∧Sub V0 pv∧F167_j3 x0a x0n x0c x1 x4 x12 x13 hp  K) ?_ ?_
   ·refine AWP.block (AWP.loop (σ:=Int) _ (fun s=>w5 E0 13 (sI s) 12 (sI x12) 4 (sV x4) 1 (sI x1) 0 (sS x0a x0n x0c)) (fun s=>V0) x13 h (fun s=>r5 0 1 4 12 13 Rn) (z5 Sn) Sn ?_)
    intro I13 x13 hp h
    replace h:F167_l13 x0a x0n x0c x1 x4 x12  K I13 x13 hp:=h
    unfold F167_l13 at h
    refine Aq (As (fun env pv hp=>∃ x13 x66,Sub (w6 E0 66 (sB x66) 13 (sI x13) 12 (sI x12) 4 (sV x4) 1 (sI x1) 0 (sS x0a x0n x0c)) env∧Sub V0 pv∧F167_j14 x0a x0n x0c x1 x4 x12 x13 x66 hp I13 K) ?_ ?_)
    ·refine AWP.rgnD (by kernel_rfl) (by kernel_rfl) (F167_r19 rfl) ?_ (r5 0 1 4 12 13 Rn) (z5 Sn) Sn
     refine mt h (fun h=>?_) (fun h=>?_)
     ·refine ⟨h.1,h.2.1,mN h.2.2 (fun b85 o86 h=>mL h (fun l87 h=>⟨h.1,h.2.1,mN h.2.2 fun b88 o89 h=>mL h fun l90 h=>mF h fun f91 ga_92 gb_93 h=>mC h fun u94 h95 h=>mI h fun i96 h=>?_⟩))⟩
      exact ⟨_,_,(z6 Sn),Sn,h⟩
     ·exact ⟨_,_,(z6 Sn),Sn,h⟩
    ·rintro env pv hp ⟨x13,x66,he,hv,h⟩
     refine Ae ?_ (r6 0 1 4 12 13 66 Rn) he hv
     unfold F167_j14 at h
     refine Ac h rfl (fun h=>?_) (fun h=>?_)
     ·refine AWP.skip (AWP.block (Ag F167_r18 ?_ (r5 13 0 1 4 12 Rn) (z5 Sn) Sn))
      exact ⟨_,(z5 Sn),Sn,h⟩
     ·refine AWP.exit ?_
      exact ⟨_,_,_,_,_,_,_,(z5 Sn),Sn,h⟩
   ·rintro env pv hp ⟨x0a,x0n,x0c,x1,x4,x12,x13,he,hv,h⟩
    refine Ae ?_ (r5 0 1 4 12 13 Rn) he hv
    unfold F167_j3 at h
    refine Aq (Ar F167_r2 ?_ (r5 12 13 0 1 4 Rn) (z5 Sn) Sn)
    refine Ac h rfl (fun h=>?_) (fun h=>?_)
    ·refine Aq (AWP.rgnD (by kernel_rfl) (by kernel_rfl) (F167_r3 rfl) ?_ (r3 0 1 13 Rn) (z3 Sn) Sn)
     refine ⟨h.1,h.2.1,mN h.2.2 (fun b13 o14 h=>mL h (fun l15 h=>⟨h.1,h.2.1,mN h.2.2 (fun b16 o17 h=>mL h (fun l18 h=>⟨h.1,h.2.1,mN h.2.2 (fun b19 o20 h=>⟨h.1,mW h.2 (fun h21 h=>⟨h.1,h.2.1,mN h.2.2 (fun b22 o23 h=>⟨h.1,mW h.2 fun h24 h=>?_⟩)⟩)⟩)⟩))⟩))⟩
     refine Ar F167_r4 ?_ (r1 13 Rn) (z1 Sn) Sn
     refine AWP.ret ?_
     exact h
    ·refine AWP.skip (Aq (AWP.rgnD (by kernel_rfl) (by kernel_rfl) (F167_r5 rfl) ?_ (r5 0 12 13 1 4 Rn) (z5 Sn) Sn))
     refine ⟨h.1,h.2.1,mN h.2.2 (fun b25 o26 h=>mL h (fun l27 h=>⟨h.1,h.2.1,mN h.2.2 (fun b28 o29 h=>mL h (fun l30 h=>⟨h.1,h.2.1,mN h.2.2 (fun b31 o32 h=>⟨h.1,mW h.2 (fun h33 h=>⟨h.1,h.2.1,mN h.2.2 (fun b34 o35 h=>⟨h.1,mW h.2 fun h36 h=>?_⟩)⟩)⟩)⟩))⟩))⟩
     refine Ar F167_r6 ?_ (r5 12 0 1 4 13 Rn) (z5 Sn) Sn
     refine As (fun env pv hp=>∃ x0a x0n x0c x1 x4 x12 x13,Sub (w5 E0 13 (sI x13) 12 (sI x12) 4 (sV x4) 1 (sI x1) 0 (sS x0a x0n x0c)) env∧Sub V0 pv∧F167_j4 x0a x0n x0c x1 x4 x12 x13 hp  K) ?_ ?_
     ·refine Ag F167_r17 ?_ (r5 13 0 1 4 12 Rn) (z5 Sn) Sn
      exact ⟨_,_,_,_,_,_,_,(z5 Sn),Sn,h⟩
     ·rintro env pv hp ⟨x0a,x0n,x0c,x1,x4,x12,x13,he,hv,h⟩
      refine Ae ?_ (r5 0 1 4 12 13 Rn) he hv
      unfold F167_j4 at h
      refine As (fun env pv hp=>∃ x0a x0n x0c x1 x13,Sub (w3 E0 13 (sI x13) 1 (sI x1) 0 (sS x0a x0n x0c)) env∧Sub V0 pv∧F167_j5 x0a x0n x0c x1 x13 hp  K) ?_ ?_
      ·refine AWP.block (AWP.loop (σ:=Int × Int) _ (fun s=>w5 E0 13 (sI (s.2)) 12 (sI (s.1)) 4 (sV x4) 1 (sI x1) 0 (sS x0a x0n x0c)) (fun s=>V0) (x12,x13) h (fun s=>r5 0 1 4 12 13 Rn) (z5 Sn) Sn ?_)
       intro I6 s hp h
       obtain ⟨x12,x13⟩:=s
       replace h:F167_l6 x0a x0n x0c x1 x4  K I6 x12 x13 hp:=h
       unfold F167_l6 at h
       refine AWP.block (As (fun env pv hp=>∃ x12 x13,Sub (w5 E0 13 (sI x13) 12 (sI x12) 4 (sV x4) 1 (sI x1) 0 (sS x0a x0n x0c)) env∧Sub V0 pv∧F167_j7 x0a x0n x0c x1 x4 x12 x13 hp I6 K) ?_ ?_)
       ·refine AWP.block (AWP.loop (σ:=Int) _ (fun s=>w5 E0 13 (sI x13) 12 (sI s) 4 (sV x4) 1 (sI x1) 0 (sS x0a x0n x0c)) (fun s=>V0) x12 h (fun s=>r5 0 1 4 12 13 Rn) (z5 Sn) Sn ?_)
        intro I11 x12 hp h
        replace h:F167_l11 x0a x0n x0c x1 x4 x13 I6 K I11 x12 hp:=h
        unfold F167_l11 at h
        refine Aq (As (fun env pv hp=>∃ x12 x120,Sub (w6 E0 120 (sB x120) 13 (sI x13) 12 (sI x12) 4 (sV x4) 1 (sI x1) 0 (sS x0a x0n x0c)) env∧Sub V0 pv∧F167_j12 x0a x0n x0c x1 x4 x12 x13 x120 hp I6 I11 K) ?_ ?_)
        ·refine AWP.rgnD (by kernel_rfl) (by kernel_rfl) (F167_r16 rfl) ?_ (r5 0 1 4 12 13 Rn) (z5 Sn) Sn
         refine mt h (fun h=>?_) (fun h=>?_)
         ·refine ⟨h.1,h.2.1,mN h.2.2 (fun b73 o74 h=>mL h (fun l75 h=>⟨h.1,h.2.1,mN h.2.2 fun b76 o77 h=>mL h fun l78 h=>mF h fun f79 ga_80 gb_81 h=>mC h fun u82 h83 h=>mI h fun i84 h=>?_⟩))⟩
          exact ⟨_,_,(z6 Sn),Sn,h⟩
         ·exact ⟨_,_,(z6 Sn),Sn,h⟩
        ·rintro env pv hp ⟨x12,x120,he,hv,h⟩
         refine Ae ?_ (r6 0 1 4 12 13 120 Rn) he hv
         unfold F167_j12 at h
         refine Ac h rfl (fun h=>?_) (fun h=>?_)
         ·refine AWP.skip (AWP.block (Ag F167_r15 ?_ (r5 12 0 1 4 13 Rn) (z5 Sn) Sn))
          exact ⟨_,(z5 Sn),Sn,h⟩
         ·refine AWP.exit ?_
          exact ⟨_,_,(z5 Sn),Sn,h⟩
       ·rintro env pv hp ⟨x12,x13,he,hv,h⟩
        refine Ae ?_ (r5 0 1 4 12 13 Rn) he hv
        unfold F167_j7 at h
        refine As (fun env pv hp=>∃ x12 x13,Sub (w5 E0 13 (sI x13) 12 (sI x12) 4 (sV x4) 1 (sI x1) 0 (sS x0a x0n x0c)) env∧Sub V0 pv∧F167_j8 x0a x0n x0c x1 x4 x12 x13 hp I6 K) ?_ ?_
        ·refine AWP.block (AWP.loop (σ:=Int) _ (fun s=>w5 E0 13 (sI s) 12 (sI x12) 4 (sV x4) 1 (sI x1) 0 (sS x0a x0n x0c)) (fun s=>V0) x13 h (fun s=>r5 0 1 4 12 13 Rn) (z5 Sn) Sn ?_)
         intro I9 x13 hp h
         replace h:F167_l9 x0a x0n x0c x1 x4 x12 I6 K I9 x13 hp:=h
         unfold F167_l9 at h
         refine Aq (As (fun env pv hp=>∃ x13 x139,Sub (w6 E0 139 (sB x139) 13 (sI x13) 12 (sI x12) 4 (sV x4) 1 (sI x1) 0 (sS x0a x0n x0c)) env∧Sub V0 pv∧F167_j10 x0a x0n x0c x1 x4 x12 x13 x139 hp I6 I9 K) ?_ ?_)
         ·refine AWP.rgnD (by kernel_rfl) (by kernel_rfl) (F167_r14 rfl) ?_ (r5 0 1 4 12 13 Rn) (z5 Sn) Sn
          refine mt h (fun h=>?_) (fun h=>?_)
          ·refine ⟨h.1,h.2.1,mN h.2.2 (fun b61 o62 h=>mL h (fun l63 h=>⟨h.1,h.2.1,mN h.2.2 fun b64 o65 h=>mL h fun l66 h=>mF h fun f67 ga_68 gb_69 h=>mC h fun u70 h71 h=>mI h fun i72 h=>?_⟩))⟩
           exact ⟨_,_,(z6 Sn),Sn,h⟩
          ·exact ⟨_,_,(z6 Sn),Sn,h⟩
         ·rintro env pv hp ⟨x13,x139,he,hv,h⟩
          refine Ae ?_ (r6 0 1 4 12 13 139 Rn) he hv
          unfold F167_j10 at h
          refine Ac h rfl (fun h=>?_) (fun h=>?_)
          ·refine AWP.skip (AWP.block (Ag F167_r13 ?_ (r5 13 0 1 4 12 Rn) (z5 Sn) Sn))
           exact ⟨_,(z5 Sn),Sn,h⟩
          ·refine AWP.exit ?_
           exact ⟨_,_,(z5 Sn),Sn,h⟩
        ·rintro env pv hp ⟨x12,x13,he,hv,h⟩
         refine Ae ?_ (r5 0 1 4 12 13 Rn) he hv
         unfold F167_j8 at h
         refine Aq (Ar F167_r9 ?_ (r5 12 13 0 1 4 Rn) (z5 Sn) Sn)
         refine Ac h rfl (fun h=>?_) (fun h=>?_)
         ·refine AWP.exit ?_
          exact ⟨_,_,_,_,_,(z3 Sn),Sn,h⟩
         ·refine AWP.skip (Aq (AWP.rgnD (by kernel_rfl) (by kernel_rfl) (F167_r10 rfl) ?_ (r5 0 12 13 1 4 Rn) (z5 Sn) Sn))
          refine ⟨h.1,h.2.1,mN h.2.2 (fun b49 o50 h=>mL h (fun l51 h=>⟨h.1,h.2.1,mN h.2.2 (fun b52 o53 h=>mL h (fun l54 h=>⟨h.1,h.2.1,mN h.2.2 (fun b55 o56 h=>⟨h.1,mW h.2 (fun h57 h=>⟨h.1,h.2.1,mN h.2.2 (fun b58 o59 h=>⟨h.1,mW h.2 fun h60 h=>?_⟩)⟩)⟩)⟩))⟩))⟩
          refine Ar F167_r11 ?_ (r5 12 0 1 4 13 Rn) (z5 Sn) Sn
          refine Ag F167_r12 ?_ (r5 13 0 1 4 12 Rn) (z5 Sn) Sn
          exact ⟨_,(z5 Sn),Sn,h⟩
      ·rintro env pv hp ⟨x0a,x0n,x0c,x1,x13,he,hv,h⟩
       refine Ae ?_ (r3 0 1 13 Rn) he hv
       unfold F167_j5 at h
       refine Aq (AWP.rgnD (by kernel_rfl) (by kernel_rfl) (F167_r7 rfl) ?_ (r3 0 1 13 Rn) (z3 Sn) Sn)
       refine ⟨h.1,h.2.1,mN h.2.2 (fun b37 o38 h=>mL h (fun l39 h=>⟨h.1,h.2.1,mN h.2.2 (fun b40 o41 h=>mL h (fun l42 h=>⟨h.1,h.2.1,mN h.2.2 (fun b43 o44 h=>⟨h.1,mW h.2 (fun h45 h=>⟨h.1,h.2.1,mN h.2.2 (fun b46 o47 h=>⟨h.1,mW h.2 fun h48 h=>?_⟩)⟩)⟩)⟩))⟩))⟩
       refine Ar F167_r8 ?_ (r1 13 Rn) (z1 Sn) Sn
       refine AWP.ret ?_
       exact h
end
section
variable {e E:Env} {x0a:OA} {x0n x0c:Nat} {x1 x2 x3:Int} {x4:Value} {x10 x11:Int} {hp:HP} {K:Env→PV→HP→Prop}
abbrev R182 (p n:Nat):=RW Tryd.prog 82 [] (opsAt Tryd.f182 (pth p)) (List.range n)
theorem F182_r0:R182 33 4 (upd e 10 (sI x10)) V0 hp K=
 K (w5 e 10 (sI x10) 13 (sI x10) 14 (sI ((wr (2*x10)))) 15 (sI ((wr ((wr (2*x10))+1)))) 11 (sI ((wr ((wr (2*x10))+1))))) V0 hp:= by kernel_rfl
theorem F182_r1:R182 145 3 (w2 e 11 (sI x11) 2 (sI x2)) V0 hp K=
 K (w5 e 11 (sI x11) 2 (sI x2) 16 (sI x11) 17 (sI x2) 18 (sB (decide (x11≥x2)))) V0 hp:= by kernel_rfl
theorem F182_r2 (h:E=upd (w4 e 11 (sI x11) 10 (sI x10) 4 (sV x4) 3 (sI x3)) 0 (sS x0a x0n x0c)):R182 625 16 E V0 hp K=
    ((0≤((wr (x3+x10)):Int))∧(((wr (x3+x10)):Int)<x0n)∧(ptrN x0a fun b1 o2=>ldL (HP.cellN hp b1 (o2+Int.toNat (wr (x3+x10))*9) 9) fun l3=>(0≤((wr (x3+x11)):Int))∧(((wr (x3+x11)):Int)<x0n)∧(ptrN x0a fun b4 o5=>ldL (HP.cellN hp b4 (o5+Int.toNat (wr (x3+x11))*9) 9) fun l6=>fnV x4 fun f7 ga8 gb9=>CF Tryd.prog f7 (ga8++[(Value.agg ⟨l3⟩),(.agg ⟨l6⟩)]++gb9) hp fun u10 h11=>intV u10 .i64 fun i12=>K (w8 (w8 E 43 (sV x4) 44 (sS x0a x0n x0c) 45 (sI x3) 46 (sI x10) 47 (sI ((wr (x3+x10)))) 48 (sV (ptr b1 (o2+Int.toNat (wr (x3+x10))*9))) 49 (sA l3) 50 (sS x0a x0n x0c)) 51 (sI x3) 52 (sI x11) 53 (sI ((wr (x3+x11)))) 54 (sV (ptr b4 (o5+Int.toNat (wr (x3+x11))*9))) 55 (sA l6) 56 (sI i12) 57 (sB (decide (i12<0))) 58 (sB ((!(decide (i12<0)))))) V0 h11))):=by subst h; kernel_rfl
theorem F182_r3 (h:E=upd (w3 e 11 (sI x11) 10 (sI x10) 3 (sI x3)) 0 (sS x0a x0n x0c)):R182 753 24 E V0 hp K=
    ((0≤((wr (x3+x11)):Int))∧(((wr (x3+x11)):Int)<x0n)∧(ptrN x0a fun b1 o2=>ldL (HP.cellN hp b1 (o2+Int.toNat (wr (x3+x11))*9) 9) fun l3=>(0≤((wr (x3+x10)):Int))∧(((wr (x3+x10)):Int)<x0n)∧(ptrN x0a fun b4 o5=>ldL (HP.cellN hp b4 (o5+Int.toNat (wr (x3+x10))*9) 9) fun l6=>(0≤((wr (x3+x10)):Int))∧(((wr (x3+x10)):Int)<x0n)∧(ptrN x0a fun b7 o8=>(List.length l3=9)∧(HP.stN hp b7 (o8+Int.toNat (wr (x3+x10))*9) l3 fun h9=>(0≤((wr (x3+x11)):Int))∧(((wr (x3+x11)):Int)<x0n)∧(ptrN x0a fun b10 o11=>(List.length l6=9)∧(HP.stN h9 b10 (o11+Int.toNat (wr (x3+x11))*9) l6 fun h12=>K (w6 (w8 (w8 E 59 (sS x0a x0n x0c) 60 (sI x3) 61 (sI x10) 62 (sI ((wr (x3+x10)))) 63 (sS x0a x0n x0c) 64 (sI x3) 65 (sI x11) 66 (sI ((wr (x3+x11))))) 67 (sS x0a x0n x0c) 68 (sI x3) 69 (sI x11) 70 (sI ((wr (x3+x11)))) 71 (sV (ptr b1 (o2+Int.toNat (wr (x3+x11))*9))) 72 (sA l3) 73 (sS x0a x0n x0c) 74 (sI x3)) 75 (sI x10) 76 (sI ((wr (x3+x10)))) 77 (sV (ptr b4 (o5+Int.toNat (wr (x3+x10))*9))) 78 (sA l6) 79 (sV (ptr b7 (o8+Int.toNat (wr (x3+x10))*9))) 80 (sV (ptr b10 (o11+Int.toNat (wr (x3+x11))*9)))) V0 h12))))))):=by subst h; kernel_rfl
theorem F182_r4:R182 1009 2 (upd e 11 (sI x11)) V0 hp K=
 K (w3 e 11 (sI x11) 81 (sI x11) 10 (sI x11)) V0 hp:= by kernel_rfl
def F182_j3 (x0a:OA) (x0n x0c:Nat) (x2 x3:Int) (x4:Value) (x10 x11:Int) (hp:HP) (I2:(Int)→HP→Prop) (K:Kh):Prop:=
  ((0≤((IntKind.wrap .i64 (x3+x10)):Int))∧(((IntKind.wrap .i64 (x3+x10)):Int)<x0n)∧(ptrN x0a fun b1 o2=>ldL (HP.cellN hp b1 (o2+Int.toNat (IntKind.wrap .i64 (x3+x10))*9) 9) fun l3=>(0≤((IntKind.wrap .i64 (x3+x11)):Int))∧(((IntKind.wrap .i64 (x3+x11)):Int)<x0n)∧(ptrN x0a fun b4 o5=>ldL (HP.cellN hp b4 (o5+Int.toNat (IntKind.wrap .i64 (x3+x11))*9) 9) fun l6=>fnV x4 fun f7 ga_8 gb_9=>CF Tryd.prog f7 (ga_8++[(Value.agg ⟨l3⟩),(.agg ⟨l6⟩)]++gb_9) hp fun u10 h11=>intV u10 .i64 fun i12=>ite2 (!(decide (i12<0))) (K (.tuple ⟨[]⟩) h11) ((0≤((IntKind.wrap .i64 (x3+x11)):Int))∧(((IntKind.wrap .i64 (x3+x11)):Int)<x0n)∧(ptrN x0a fun b13 o14=>ldL (HP.cellN h11 b13 (o14+Int.toNat (IntKind.wrap .i64 (x3+x11))*9) 9) fun l15=>(0≤((IntKind.wrap .i64 (x3+x10)):Int))∧(((IntKind.wrap .i64 (x3+x10)):Int)<x0n)∧(ptrN x0a fun b16 o17=>ldL (HP.cellN h11 b16 (o17+Int.toNat (IntKind.wrap .i64 (x3+x10))*9) 9) fun l18=>(0≤((IntKind.wrap .i64 (x3+x10)):Int))∧(((IntKind.wrap .i64 (x3+x10)):Int)<x0n)∧(ptrN x0a fun b19 o20=>(List.length l15=9)∧(HP.stN h11 b19 (o20+Int.toNat (IntKind.wrap .i64 (x3+x10))*9) l15 fun h21=>(0≤((IntKind.wrap .i64 (x3+x11)):Int))∧(((IntKind.wrap .i64 (x3+x11)):Int)<x0n)∧(ptrN x0a fun b22 o23=>(List.length l18=9)∧(HP.stN h21 b22 (o23+Int.toNat (IntKind.wrap .i64 (x3+x11))*9) l18 fun h24=>I2 x11 h24))))))))))
theorem F182_r5:R182 689 3 (upd e 11 (sI x11)) V0 hp K=
 K (w4 e 11 (sI x11) 41 (sI x11) 42 (sI ((wr (x11+1)))) 11 (sI ((wr (x11+1))))) V0 hp:= by kernel_rfl
def F182_j4 (x0a:OA) (x0n x0c:Nat) (x2 x3:Int) (x4:Value) (x10 x11:Int) (x40:Bool) (hp:HP) (I2:(Int)→HP→Prop) (K:Kh):Prop:=
  (ite2 x40 (F182_j3 x0a x0n x0c x2 x3 x4 x10 (IntKind.wrap .i64 (x11+1)) hp I2 K) (F182_j3 x0a x0n x0c x2 x3 x4 x10 x11 hp I2 K))
theorem F182_r6 (h:E=upd (w4 e 11 (sI x11) 4 (sV x4) 3 (sI x3) 2 (sI x2)) 0 (sS x0a x0n x0c)):R182 305 22 E V0 hp K=
    (ite2 (decide (((wr (x11+1)):Int)<x2)) ((0≤((wr (x3+x11)):Int))∧(((wr (x3+x11)):Int)<x0n)∧(ptrN x0a fun b1 o2=>ldL (HP.cellN hp b1 (o2+Int.toNat (wr (x3+x11))*9) 9) fun l3=>(0≤((wr ((wr (x3+x11))+1)):Int))∧(((wr ((wr (x3+x11))+1)):Int)<x0n)∧(ptrN x0a fun b4 o5=>ldL (HP.cellN hp b4 (o5+Int.toNat (wr ((wr (x3+x11))+1))*9) 9) fun l6=>fnV x4 fun f7 ga8 gb9=>CF Tryd.prog f7 (ga8++[(Value.agg ⟨l3⟩),(.agg ⟨l6⟩)]++gb9) hp fun u10 h11=>intV u10 .i64 fun i12=>K (w6 (w8 (w8 E 19 (sI x11) 20 (sI ((wr (x11+1)))) 21 (sI x2) 22 (sB ((decide (((wr (x11+1)):Int)<x2)))) 23 (sB true) 24 (sV x4) 25 (sS x0a x0n x0c) 26 (sI x3)) 27 (sI x11) 28 (sI ((wr (x3+x11)))) 29 (sV (ptr b1 (o2+Int.toNat (wr (x3+x11))*9))) 30 (sA l3) 31 (sS x0a x0n x0c) 32 (sI x3) 33 (sI x11) 34 (sI ((wr (x3+x11))))) 35 (sI ((wr ((wr (x3+x11))+1)))) 36 (sV (ptr b4 (o5+Int.toNat (wr ((wr (x3+x11))+1))*9))) 37 (sA l6) 38 (sI i12) 39 (sB (decide (i12<0))) 40 (sB (decide (i12<0)))) V0 h11))) (K (w6 (w8 (w8 E 19 (sI x11) 20 (sI ((wr (x11+1)))) 21 (sI x2) 22 (sB ((decide (((wr (x11+1)):Int)<x2)))) 23 (sB false) 24 sU 25 sU 26 sU) 27 sU 28 sU 29 sU 30 sU 31 sU 32 sU 33 sU 34 sU) 35 sU 36 sU 37 sU 38 sU 39 sU 40 (sB false)) V0 hp)):=by subst h; kernel_rfl
def F182_l2 (x0a:OA) (x0n x0c:Nat) (x2 x3:Int) (x4:Value) (K:Kh) (I2:(Int)→HP→Prop) (x10:Int) (hp:HP):Prop:=
  (ite2 (decide (((IntKind.wrap .i64 ((IntKind.wrap .i64 (2*x10))+1)):Int)≥x2)) (K (.tuple ⟨[]⟩) hp) (ite2 (decide (((IntKind.wrap .i64 ((IntKind.wrap .i64 ((IntKind.wrap .i64 (2*x10))+1))+1)):Int)<x2)) ((0≤((IntKind.wrap .i64 (x3+(IntKind.wrap .i64 ((IntKind.wrap .i64 (2*x10))+1)))):Int))∧(((IntKind.wrap .i64 (x3+(IntKind.wrap .i64 ((IntKind.wrap .i64 (2*x10))+1)))):Int)<x0n)∧(ptrN x0a fun b25 o26=>ldL (HP.cellN hp b25 (o26+Int.toNat (IntKind.wrap .i64 (x3+(IntKind.wrap .i64 ((IntKind.wrap .i64 (2*x10))+1))))*9) 9) fun l27=>(0≤((IntKind.wrap .i64 ((IntKind.wrap .i64 (x3+(IntKind.wrap .i64 ((IntKind.wrap .i64 (2*x10))+1))))+1)):Int))∧(((IntKind.wrap .i64 ((IntKind.wrap .i64 (x3+(IntKind.wrap .i64 ((IntKind.wrap .i64 (2*x10))+1))))+1)):Int)<x0n)∧(ptrN x0a fun b28 o29=>ldL (HP.cellN hp b28 (o29+Int.toNat (IntKind.wrap .i64 ((IntKind.wrap .i64 (x3+(IntKind.wrap .i64 ((IntKind.wrap .i64 (2*x10))+1))))+1))*9) 9) fun l30=>fnV x4 fun f31 ga_32 gb_33=>CF Tryd.prog f31 (ga_32++[(Value.agg ⟨l27⟩),(.agg ⟨l30⟩)]++gb_33) hp fun u34 h35=>intV u34 .i64 fun i36=>F182_j4 x0a x0n x0c x2 x3 x4 x10 (IntKind.wrap .i64 ((IntKind.wrap .i64 (2*x10))+1)) (decide (i36<0)) h35 I2 K))) (F182_j4 x0a x0n x0c x2 x3 x4 x10 (IntKind.wrap .i64 ((IntKind.wrap .i64 (2*x10))+1)) false hp I2 K)))
def F182_j1 (x0a:OA) (x0n x0c:Nat) (x2 x3:Int) (x4:Value) (x10:Int) (hp:HP) (K:Kh):Prop:=
  (LoopP (σ:=Int) (fun I s hp=>F182_l2 x0a x0n x0c x2 x3 x4  K I s hp) x10 hp)
theorem F182_r7:R182 2 2 (upd e 1 (sI x1)) V0 hp K=
 K (w3 e 1 (sI x1) 12 (sI x1) 10 (sI x1)) V0 hp:= by kernel_rfl
def F182 (x0a:OA) (x0n x0c:Nat) (x1 x2 x3:Int) (x4:Value) (hp:HP) (K:Kh):Prop:=
  (F182_j1 x0a x0n x0c x2 x3 x4 x1 hp  K)
noncomputable abbrev o182 (k n:Nat):Code:=.region k (opsAt Tryd.f182 (pth n)) false
noncomputable def F182_code:Code:=(.seq (o182 0 2) (.block 0 (.loop (.block 1 (.seq (o182 1 33) (.seq (.seq (o182 2 145) (.cond (.tmp 18) (.exit 0) .skip)) (.seq (.seq (.region 3 (opsAt Tryd.f182 (pth 305)) true) (.cond (.tmp 40) (o182 4 689) .skip)) (.seq (.seq (.region 5 (opsAt Tryd.f182 (pth 625)) true) (.cond (.tmp 58) .ret .skip)) (.seq (.region 6 (opsAt Tryd.f182 (pth 753)) true) (o182 7 1009))))))))))
theorem F182_body:Tryd.f182.body=some F182_code:=by kernel_rfl
theorem F182_ok (x0a:OA) (x0n x0c:Nat) (x1 x2 x3:Int) (x4:Value) (hp:HP) (K:Kh) (h:F182 x0a x0n x0c x1 x2 x3 x4 hp K):CF Tryd.prog 182 [(.slice x0a x0n x0c),(.int .i64 x1),(.int .i64 x2),(.int .i64 x3),x4] hp K:=by
 refine .inl ⟨by kernel_rfl,AC.intro (N:=82) Tryd.func182 F182_body rfl (Nat.le_of_ble_eq_true rfl) ?_⟩
 unfold F182 at h
 refine As (fun env pv hp=>∃ x0a x0n x0c x2 x3 x4 x10,Sub (w5 E0 10 (sI x10) 4 (sV x4) 3 (sI x3) 2 (sI x2) 0 (sS x0a x0n x0c)) env∧Sub V0 pv∧F182_j1 x0a x0n x0c x2 x3 x4 x10 hp  K) ?_ ?_
 ·refine Ag F182_r7 ?_ (r5 1 0 2 3 4 Rn) (z5 Sn) Sn
  exact ⟨_,_,_,_,_,_,_,(z5 Sn),Sn,h⟩
 ·rintro env pv hp ⟨x0a,x0n,x0c,x2,x3,x4,x10,he,hv,h⟩
  refine Ae ?_ (r5 0 2 3 4 10 Rn) he hv
  unfold F182_j1 at h
  refine AWP.block (AWP.loop (σ:=Int) _ (fun s=>w5 E0 10 (sI s) 4 (sV x4) 3 (sI x3) 2 (sI x2) 0 (sS x0a x0n x0c)) (fun s=>V0) x10 h (fun s=>r5 0 2 3 4 10 Rn) (z5 Sn) Sn ?_)
  intro I2 x10 hp h
  replace h:F182_l2 x0a x0n x0c x2 x3 x4  K I2 x10 hp:=h
  unfold F182_l2 at h
  refine AWP.block (Ar F182_r0 ?_ (r5 10 0 2 3 4 Rn) (z5 Sn) Sn)
  refine Aq (Ar F182_r1 ?_ (r6 2 11 0 3 4 10 Rn) (z6 Sn) Sn)
  refine Ac h rfl (fun h=>?_) (fun h=>?_)
  ·refine AWP.exit ?_
   exact h
  ·refine AWP.skip (As (fun env pv hp=>∃ x10 x11,Sub (w6 E0 11 (sI x11) 10 (sI x10) 4 (sV x4) 3 (sI x3) 2 (sI x2) 0 (sS x0a x0n x0c)) env∧Sub V0 pv∧F182_j3 x0a x0n x0c x2 x3 x4 x10 x11 hp I2 K) ?_ ?_)
   ·refine As (fun env pv hp=>∃ x10 x11 x40,Sub (w7 E0 40 (sB x40) 11 (sI x11) 10 (sI x10) 4 (sV x4) 3 (sI x3) 2 (sI x2) 0 (sS x0a x0n x0c)) env∧Sub V0 pv∧F182_j4 x0a x0n x0c x2 x3 x4 x10 x11 x40 hp I2 K) ?_ ?_
    ·refine AWP.rgnD (by kernel_rfl) (by kernel_rfl) (F182_r6 rfl) ?_ (r6 0 2 3 4 11 10 Rn) (z6 Sn) Sn
     refine mt h (fun h=>?_) (fun h=>?_)
     ·refine ⟨h.1,h.2.1,mN h.2.2 (fun b25 o26 h=>mL h (fun l27 h=>⟨h.1,h.2.1,mN h.2.2 fun b28 o29 h=>mL h fun l30 h=>mF h fun f31 ga_32 gb_33 h=>mC h fun u34 h35 h=>mI h fun i36 h=>?_⟩))⟩
      exact ⟨_,_,_,(z7 Sn),Sn,h⟩
     ·exact ⟨_,_,_,(z7 Sn),Sn,h⟩
    ·rintro env pv hp ⟨x10,x11,x40,he,hv,h⟩
     refine Ae ?_ (r7 0 2 3 4 10 11 40 Rn) he hv
     unfold F182_j4 at h
     refine Ac h rfl (fun h=>?_) (fun h=>?_)
     ·refine Ag F182_r5 ?_ (r6 11 0 2 3 4 10 Rn) (z6 Sn) Sn
      exact ⟨_,_,(z6 Sn),Sn,h⟩
     ·refine AWP.skip ?_
      exact ⟨_,_,(z6 Sn),Sn,h⟩
   ·rintro env pv hp ⟨x10,x11,he,hv,h⟩
    refine Ae ?_ (r6 0 2 3 4 10 11 Rn) he hv
    unfold F182_j3 at h
    refine Aq (Aq (AWP.rgnD (by kernel_rfl) (by kernel_rfl) (F182_r2 rfl) ?_ (r6 0 3 4 10 11 2 Rn) (z6 Sn) Sn))
    refine ⟨h.1,h.2.1,mN h.2.2 (fun b1 o2 h=>mL h (fun l3 h=>⟨h.1,h.2.1,mN h.2.2 fun b4 o5 h=>mL h fun l6 h=>mF h fun f7 ga_8 gb_9 h=>mC h fun u10 h11 h=>mI h fun i12 h=>?_⟩))⟩
    refine Ac h rfl (fun h=>?_) (fun h=>?_)
    ·refine AWP.ret ?_
     exact h
    ·refine AWP.skip (Aq (AWP.rgnD (by kernel_rfl) (by kernel_rfl) (F182_r3 rfl) ?_ (r6 0 3 10 11 2 4 Rn) (z6 Sn) Sn))
     refine ⟨h.1,h.2.1,mN h.2.2 (fun b13 o14 h=>mL h (fun l15 h=>⟨h.1,h.2.1,mN h.2.2 (fun b16 o17 h=>mL h (fun l18 h=>⟨h.1,h.2.1,mN h.2.2 (fun b19 o20 h=>⟨h.1,mW h.2 (fun h21 h=>⟨h.1,h.2.1,mN h.2.2 (fun b22 o23 h=>⟨h.1,mW h.2 fun h24 h=>?_⟩)⟩)⟩)⟩))⟩))⟩
     refine Ag F182_r4 ?_ (r5 11 0 2 3 4 Rn) (z5 Sn) Sn
     exact ⟨_,(z5 Sn),Sn,h⟩
end
end Go.Proofs
set_option linter.unusedVariables false
set_option maxRecDepth 20000
namespace Go.Proofs
open Go Go.HL
section
variable {f:FuncId} {ga gb:List Value} {hp0:HP} {b sp n c:Nat} {cf:Ss→Ss→Int}
theorem S182 (hc:CmpOk Tryd.prog f ga gb hp0 b 79 sp ssc n cf) {d:Array Ss} {lo hi fst:Nat} {K:Value→HP→Prop} (hs:d.size=n) (hlo:lo≤hi) (hf:fst+hi≤n) (hn:n≤1000000000)
    (h:K (.tuple ⟨[]⟩) (HA hp0 b 79 sp ssc (Sort.siftDown (ltC cf) hi fst lo d))) :
    CF Tryd.prog 182 [.slice (some ⟨b,0,none⟩) n c,.int .i64 lo,.int .i64 hi,.int .i64 fst,.func (.func f) ⟨ga⟩ ⟨gb⟩] (HA hp0 b 79 sp ssc d) K:=by
  refine F182_ok _ n c lo hi fst _ _ K ?_
  unfold F182 F182_j1
  refine LoopP.by (J:=fun k (x:Int) hp=>∃ (r:Nat) (d':Array Ss),x=r∧hp=HA hp0 b 79 sp ssc d'∧d'.size=n∧r≤hi∧k=hi-r∧Sort.siftDown (ltC cf) hi fst r d'=Sort.siftDown (ltC cf) hi fst lo d) ?_
    (n:=hi-lo) ⟨lo,d,rfl,rfl,hs,hlo,rfl,rfl⟩
  rintro I k x hp ⟨r,d',rfl,rfl,hs',hr,rfl,he⟩ hI
  unfold F182_l2
  have w1:IntKind.wrap .i64 (2*(r:Int))=((2*r:Nat):Int):=wi (by omega) (by omega)
  have w2:IntKind.wrap .i64 (((2*r:Nat):Int)+1)=((2*r+1:Nat):Int):=wi (by omega) (by omega)
  have w3:IntKind.wrap .i64 (((2*r+1:Nat):Int)+1)=((2*r+2:Nat):Int):=wi (by omega) (by omega)
  have w4:IntKind.wrap .i64 ((fst:Int)+((2*r+1:Nat):Int))=((fst+(2*r+1):Nat):Int):=wi (by omega) (by omega)
  have w5:IntKind.wrap .i64 (((fst+(2*r+1):Nat):Int)+1)=((fst+(2*r+1)+1:Nat):Int):=wi (by omega) (by omega)
  simp only [w1,w2,w3,w4,w5]
  rw [Sort.siftDown] at he
  by_cases h1:2*r+1≥hi
  · rw [dif_pos h1] at he
    rw [decide_eq_true (by omega:((2*r+1:Nat):Int)≥(hi:Int)),ite2_true,he]
    exact h
  rw [dif_neg h1] at he
  rw [decide_eq_false (by omega:¬ ((2*r+1:Nat):Int)≥(hi:Int)),ite2_false]
  have tail:∀ ch:Nat,ch<hi→r<ch→(if !ltC cf d'[fst+r]! d'[fst+ch]! then d' else Sort.siftDown (ltC cf) hi fst ch (Sort.swp d' (fst+r) (fst+ch)))=Sort.siftDown (ltC cf) hi fst lo d →
      F182_j3 (some ⟨b,0,none⟩) n c hi fst (.func (.func f) ⟨ga⟩ ⟨gb⟩) r ch (HA hp0 b 79 sp ssc d') I K:=by
    intro ch hch hrc ht
    unfold F182_j3
    have v1:IntKind.wrap .i64 ((fst:Int)+(r:Int))=((fst+r:Nat):Int):=wi (by omega) (by omega)
    have v2:IntKind.wrap .i64 ((fst:Int)+(ch:Int))=((fst+ch:Nat):Int):=wi (by omega) (by omega)
    simp only [v1,v2]
    refine cmpP hc ssc_len hs' (i:=fst+r) (j:=fst+ch) rfl rfl (by omega) (by omega) ?_
    have hl:decide (cf d'[fst+r]! d'[fst+ch]!<0)=ltC cf d'[fst+r]! d'[fst+ch]! := rfl
    rw [hl]
    cases hlt:ltC cf d'[fst+r]! d'[fst+ch]!
    · rw [hlt] at ht
      simp only [Bool.not_false,if_true] at ht
      simp only [Bool.not_false,ite2_true]
      rw [ht]; exact h
    · rw [hlt] at ht
      simp only [Bool.not_true,Bool.false_eq_true,if_false] at ht
      simp only [Bool.not_true,ite2_false]
      refine swapP ssc_len ssc_one hs' (i:=fst+r) (j:=fst+ch) rfl rfl (by omega) (by omega) ?_
      exact hI (hi-ch) _ _ (by omega) ⟨ch,_,rfl,rfl,by rw [swp_size]; exact hs',by omega,rfl,ht⟩
  by_cases h2:2*r+1+1<hi
  · rw [decide_eq_true (by omega:((2*r+2:Nat):Int)<(hi:Int)),ite2_true]
    refine cmpP hc ssc_len hs' (i:=fst+(2*r+1)) (j:=fst+(2*r+1)+1) rfl rfl (by omega) (by omega) ?_
    have hl:decide (cf d'[fst+(2*r+1)]! d'[fst+(2*r+1)+1]!<0)=ltC cf d'[fst+(2*r+1)]! d'[fst+(2*r+1)+1]! := rfl
    rw [hl]
    unfold F182_j4
    rw [decide_eq_true h2,Bool.true_and] at he
    cases hlt:ltC cf d'[fst+(2*r+1)]! d'[fst+(2*r+1)+1]!
    · rw [hlt] at he
      simp only [Bool.false_eq_true,if_false] at he
      rw [ite2_false]
      exact tail (2*r+1) (by omega) (by omega) he
    · rw [hlt] at he
      simp only [if_true] at he
      rw [ite2_true,w3]
      refine tail (2*r+2) (by omega) (by omega) ?_
      rw [dif_pos (by omega:2*r+2<hi)] at he
      exact he
  · rw [decide_eq_false (by omega:¬ ((2*r+2:Nat):Int)<(hi:Int)),ite2_false]
    rw [decide_eq_false h2,Bool.false_and] at he
    simp only [Bool.false_eq_true,if_false] at he
    unfold F182_j4
    rw [ite2_false]
    exact tail (2*r+1) (by omega) (by omega) he
theorem sift_size_ssc {α:Type} [Inhabited α] (lt:α→α→Bool) (hi fst:Nat):∀ (m r:Nat) (d:Array α),hi-r≤m→(Sort.siftDown lt hi fst r d).size=d.size:=by
  intro m
  induction m with
  | zero=>
    intro r d hm
    rw [Sort.siftDown,dif_pos (by omega)]
  | succ m ih=>
    intro r d hm
    rw [Sort.siftDown]
    repeat' split
    all_goals first
      | rfl
      | (rw [ih _ _ (by omega),swp_size])
theorem S161 (hc:CmpOk Tryd.prog f ga gb hp0 b 79 sp ssc n cf) {d:Array Ss} {lo hi:Nat} {K:Value→HP→Prop} (hs:d.size=n) (hlo:lo≤hi) (hf:hi≤n) (hn:n≤1000000000)
    (h:K (.tuple ⟨[]⟩) (HA hp0 b 79 sp ssc (Sort.heapSort (ltC cf) d lo hi))) :
    CF Tryd.prog 161 [.slice (some ⟨b,0,none⟩) n c,.int .i64 lo,.int .i64 hi,.func (.func f) ⟨ga⟩ ⟨gb⟩] (HA hp0 b 79 sp ssc d) K:=by
  refine F161_ok _ n c lo hi _ _ K ?_
  unfold F161 F161_j4
  have w1:IntKind.wrap .i64 ((hi:Int)-(lo:Int))=((hi-lo:Nat):Int):=wi (by omega) (by omega)
  refine ⟨by omega,?_⟩
  rw [w1]
  generalize hm:hi-lo=m at *
  have w2:IntKind.wrap .i64 ((m:Int)-1)=(m:Int)-1:=w64 (by omega) (by omega)
  have w3:Int.tdiv ((m:Int)-1) 2=(((m-1) / 2:Nat):Int):=by
    cases m with
    | zero=>rfl
    | succ m=>
      have:((m+1:Nat):Int)-1=(m:Int):=by omega
      rw [this]; simp only [Nat.add_sub_cancel]
      rfl
  have w4:IntKind.wrap .i64 ((((m-1) / 2:Nat):Int))=(((m-1) / 2:Nat):Int):=wi rfl (by omega)
  rw [w2,w3,w4]
  unfold Sort.heapSort at h
  rw [hm] at h
  refine LoopP.by (J:=fun k (x:Int) hp=>∃ (d':Array Ss),x=(k:Int)-1∧hp=HA hp0 b 79 sp ssc d'∧d'.size=n∧k≤(m-1) / 2+1∧Sort.heapBuild (ltC cf) m lo k d'=Sort.heapBuild (ltC cf) m lo ((m-1) / 2+1) d) ?_
    (n:=(m-1) / 2+1) ⟨d,by omega,rfl,hs,Nat.le_refl _,rfl⟩
  rintro I k x hp ⟨d',rfl,rfl,hs',hk,he⟩ hI
  unfold F161_l5
  cases k with
  | succ k=>
    have e1:((k+1:Nat):Int)-1=(k:Int):=by omega
    rw [e1,decide_eq_true (by omega:(k:Int)≥0),ite2_true]
    refine S182 hc hs' (by omega) (by omega) hn ?_
    rw [w64 (by omega) (by omega)]
    rw [Sort.heapBuild] at he
    exact hI k _ _ (by omega) ⟨_,rfl,rfl,by rw [sift_size_ssc _ _ _ _ _ _ (Nat.le_refl _)]; exact hs',by omega,he⟩
  | zero=>
    rw [decide_eq_false (by omega:¬ (((0:Nat):Int)-1)≥0),ite2_false]
    rw [Sort.heapBuild] at he
    rw [← he] at h
    unfold F161_j1 F161_j2
    rw [w2]
    refine LoopP.by (J:=fun k (x:Int) hp=>∃ (d2:Array Ss),x=(k:Int)-1∧hp=HA hp0 b 79 sp ssc d2∧d2.size=n∧k≤m∧Sort.heapPop (ltC cf) lo k d2=Sort.heapPop (ltC cf) lo m d') ?_
      (n:=m) ⟨d',rfl,rfl,hs',Nat.le_refl _,rfl⟩
    rintro I2 k2 x2 hp2 ⟨d2,rfl,rfl,hs2,hk2,he2⟩ hI2
    unfold F161_l3
    cases k2 with
    | succ k=>
      have e1:((k+1:Nat):Int)-1=(k:Int):=by omega
      have v1:IntKind.wrap .i64 ((lo:Int)+(k:Int))=((lo+k:Nat):Int):=wi (by omega) (by omega)
      rw [e1,decide_eq_true (by omega:(k:Int)≥0),ite2_true,v1]
      refine swapP ssc_len ssc_one hs2 (i:=lo) (j:=lo+k) rfl rfl (by omega) (by omega) ?_
      have hz:(Value.int .i64 0)=Value.int .i64 ((0:Nat):Int):=rfl
      rw [hz]
      refine S182 hc (by rw [swp_size]; exact hs2) (by omega) (by omega) hn ?_
      rw [w64 (by omega) (by omega)]
      rw [Sort.heapPop] at he2
      exact hI2 k _ _ (by omega) ⟨_,rfl,rfl,by rw [sift_size_ssc _ _ _ _ _ _ (Nat.le_refl _),swp_size]; exact hs2,by omega,he2⟩
    | zero=>
      rw [decide_eq_false (by omega:¬ (((0:Nat):Int)-1)≥0),ite2_false]
      rw [Sort.heapPop] at he2
      rw [he2]; exact h
theorem S164 {v:Value} {d:Array Ss} {lo hi:Nat} {K:Value→HP→Prop} (hs:d.size=n) (hlo:lo<hi) (hf:hi≤n) (hn:n≤1000000000)
    (h:K (.tuple ⟨[]⟩) (HA hp0 b 79 sp ssc (Sort.reverseRange d lo hi))) :
    CF Tryd.prog 164 [.slice (some ⟨b,0,none⟩) n c,.int .i64 lo,.int .i64 hi,v] (HA hp0 b 79 sp ssc d) K:=by
  refine F164_ok _ n c lo hi _ _ K ?_
  unfold F164 F164_j1
  have w1:IntKind.wrap .i64 ((hi:Int)-1)=((hi-1:Nat):Int):=wi (by omega) (by omega)
  rw [w1]
  unfold Sort.reverseRange at h
  refine LoopP.by (J:=fun k (s:Int × Int) hp=>∃ (i j:Nat) (d':Array Ss),s=((i:Int),(j:Int))∧hp=HA hp0 b 79 sp ssc d'∧d'.size=n∧j<n∧k=j-i∧Sort.reverseLoop i j d'=Sort.reverseLoop lo (hi-1) d) ?_
    (n:=hi-1-lo) ⟨lo,hi-1,d,rfl,rfl,hs,by omega,rfl,rfl⟩
  rintro I k x hp ⟨i,j,d',rfl,rfl,hs',hj,rfl,he⟩ hI
  unfold F164_l2
  rw [Sort.reverseLoop] at he
  by_cases hij:i<j
  · rw [if_pos hij] at he
    simp only []
    rw [decide_eq_true (by omega:(i:Int)<(j:Int)),ite2_true]
    refine swapP ssc_len ssc_one hs' (i:=i) (j:=j) rfl rfl (by omega) (by omega) ?_
    have v1:IntKind.wrap .i64 ((i:Int)+1)=((i+1:Nat):Int):=wi (by omega) (by omega)
    have v2:IntKind.wrap .i64 ((j:Int)-1)=((j-1:Nat):Int):=wi (by omega) (by omega)
    rw [v1,v2]
    exact hI (j-1-(i+1)) _ _ (by omega) ⟨i+1,j-1,_,rfl,rfl,by rw [swp_size]; exact hs',by omega,rfl,he⟩
  · rw [if_neg hij] at he
    simp only []
    rw [decide_eq_false (by omega:¬ (i:Int)<(j:Int)),ite2_false,he]
    exact h
end
end Go.Proofs
set_option linter.unusedVariables false
set_option maxRecDepth 20000
namespace Go.Proofs
open Go Go.HL
section
variable {f:FuncId} {ga gb:List Value} {hp0:HP} {b sp n c:Nat} {cf:Ss→Ss→Int}
theorem S165 (hc:CmpOk Tryd.prog f ga gb hp0 b 79 sp ssc n cf) {d:Array Ss} {lo hi:Nat} {K:Value→HP→Prop} (hs:d.size=n) (hlo:lo<hi) (hf:hi≤n) (hn:n≤1000000000)
    (h:K (.bool (Sort.partialInsertionSort (ltC cf) d lo hi).2) (HA hp0 b 79 sp ssc (Sort.partialInsertionSort (ltC cf) d lo hi).1)) :
    CF Tryd.prog 165 [.slice (some ⟨b,0,none⟩) n c,.int .i64 lo,.int .i64 hi,.func (.func f) ⟨ga⟩ ⟨gb⟩] (HA hp0 b 79 sp ssc d) K:=by
  refine F165_ok _ n c lo hi _ _ K ?_
  unfold F165 F165_j1
  have w1:IntKind.wrap .i64 ((lo:Int)+1)=((lo+1:Nat):Int):=wi (by omega) (by omega)
  rw [w1]
  generalize hR:Sort.partialInsertionSort (ltC cf) d lo hi=R at h
  unfold Sort.partialInsertionSort at hR
  refine LoopP.by (J:=fun k (s:Int × Int) hp=>∃ (i:Nat) (d':Array Ss),s=((i:Int),5-(k:Int))∧k≤5∧hp=HA hp0 b 79 sp ssc d'∧d'.size=n∧lo<i∧i≤hi∧Sort.partialIns (ltC cf) lo hi k i d'=R) ?_
    (n:=5) ⟨lo+1,d,rfl,Nat.le_refl _,rfl,hs,by omega,by omega,hR⟩
  rintro I k x hp ⟨i,d',rfl,hk5,rfl,hs',hli,hih,he⟩ hI
  unfold F165_l2
  simp only []
  cases k with
  | zero=>
    rw [decide_eq_false (by omega:¬ (5-((0:Nat):Int))<5),ite2_false]
    rw [Sort.partialIns] at he
    rw [← he] at h
    exact h
  | succ k=>
    rw [decide_eq_true (by omega:(5-((k+1:Nat):Int))<5),ite2_true]
    rw [Sort.partialIns_succ] at he
    unfold F165_j3
    have fin4:∀ (i:Nat) (d3:Array Ss),lo<i→i≤hi→d3.size=n→Sort.partialIns (ltC cf) lo hi k i d3=R →
        F165_j4 (some ⟨b,0,none⟩) n c lo hi (.func (.func f) ⟨ga⟩ ⟨gb⟩) i (5-((k+1:Nat):Int)) (HA hp0 b 79 sp ssc d3) I K:=by
      intro i d3 h1 h2 h3 h4
      unfold F165_j4
      have:IntKind.wrap .i64 (5-((k+1:Nat):Int)+1)=5-(k:Int):=by rw [w64 (by omega) (by omega)]; omega
      rw [this]
      exact hI k _ _ (by omega) ⟨i,d3,rfl,by omega,rfl,h3,h1,h2,h4⟩
    have fin6:∀ (i:Nat) (d2:Array Ss),lo<i→i<hi→d2.size=n→Sort.partialIns (ltC cf) lo hi k i (Sort.fixUp (ltC cf) hi i d2)=R →
        F165_j6 (some ⟨b,0,none⟩) n c lo hi (.func (.func f) ⟨ga⟩ ⟨gb⟩) i (5-((k+1:Nat):Int)) (HA hp0 b 79 sp ssc d2) I K:=by
      intro i d2 h1 h2 h3 h4
      unfold F165_j6
      have v:IntKind.wrap .i64 ((hi:Int)-(i:Int))=((hi-i:Nat):Int):=wi (by omega) (by omega)
      rw [v]
      unfold Sort.fixUp at h4
      by_cases h2':hi-i≥2
      · rw [if_pos h2'] at h4
        rw [decide_eq_true (by omega:((hi-i:Nat):Int)≥2),ite2_true]
        unfold F165_j7
        have v1:IntKind.wrap .i64 ((i:Int)+1)=((i+1:Nat):Int):=wi (by omega) (by omega)
        rw [v1]
        refine LoopP.by (J:=fun m (y:Int) hp=>∃ (j:Nat) (d3:Array Ss),y=j∧hp=HA hp0 b 79 sp ssc d3∧d3.size=n∧i<j∧m=hi-j∧Sort.shiftUp (ltC cf) hi j d3=Sort.shiftUp (ltC cf) hi (i+1) d2) ?_
          (n:=hi-(i+1)) ⟨i+1,d2,rfl,rfl,h3,by omega,rfl,rfl⟩
        rintro I8 m y hp ⟨j,d3,rfl,rfl,h5,h6,rfl,h7⟩ hI8
        unfold F165_l8
        rw [Sort.shiftUp] at h7
        by_cases hj:j<hi
        · rw [if_pos hj] at h7
          have v2:IntKind.wrap .i64 ((j:Int)-1)=((j-1:Nat):Int):=wi (by omega) (by omega)
          have v3:IntKind.wrap .i64 ((j:Int)+1)=((j+1:Nat):Int):=wi (by omega) (by omega)
          simp only [v2,v3]
          rw [decide_eq_true (by omega:(j:Int)<(hi:Int)),ite2_true]
          refine cmpP hc ssc_len h5 (i:=j) (j:=j-1) rfl rfl (by omega) (by omega) ?_
          have hl:decide (cf d3[j]! d3[j-1]!<0)=ltC cf d3[j]! d3[j-1]! := rfl
          rw [hl]
          cases hlt:ltC cf d3[j]! d3[j-1]!
          · rw [hlt] at h7
            simp only [Bool.not_false,if_true] at h7
            simp only [Bool.not_false,ite2_true]
            rw [← h7] at h4
            exact fin4 i d3 h1 (by omega) h5 h4
          · rw [hlt] at h7
            simp only [Bool.not_true,Bool.false_eq_true,if_false] at h7
            simp only [Bool.not_true,ite2_false]
            refine swapP ssc_len ssc_one h5 (i:=j) (j:=j-1) rfl rfl (by omega) (by omega) ?_
            exact hI8 (hi-(j+1)) _ _ (by omega) ⟨j+1,_,rfl,rfl,by rw [swp_size]; exact h5,by omega,rfl,h7⟩
        · rw [if_neg hj] at h7
          rw [decide_eq_false (by omega:¬ (j:Int)<(hi:Int)),ite2_false]
          rw [← h7] at h4
          exact fin4 i d3 h1 (by omega) h5 h4
      · rw [if_neg h2'] at h4
        rw [decide_eq_false (by omega:¬ ((hi-i:Nat):Int)≥2),ite2_false]
        exact fin4 i d2 h1 (by omega) h3 h4
    have fin5:∀ (i:Nat),lo<i→i≤hi→Sort.scanSorted (ltC cf) d' hi i=i →
        (if i=hi then (d',true) else if hi-lo<50 then (d',false) else Sort.partialIns (ltC cf) lo hi k i (Sort.fixUp (ltC cf) hi i (Sort.fixDown (ltC cf) lo i (Sort.swp d' i (i-1)))))=R →
        F165_j5 (some ⟨b,0,none⟩) n c lo hi (.func (.func f) ⟨ga⟩ ⟨gb⟩) i (5-((k+1:Nat):Int)) (HA hp0 b 79 sp ssc d') I K:=by
      intro i h1 h2 _ h4
      unfold F165_j5
      by_cases hih:i=hi
      · rw [if_pos hih] at h4
        subst hih
        simp only [beq_self_eq_true,ite2_true]
        rw [← h4] at h
        exact h
      rw [if_neg hih] at h4
      have hb:((i:Int)==(hi:Int))=false:=by
        rw [beq_eq_false_iff_ne]; omega
      rw [hb,ite2_false]
      have v:IntKind.wrap .i64 ((hi:Int)-(lo:Int))=((hi-lo:Nat):Int):=wi (by omega) (by omega)
      rw [v]
      by_cases h50:hi-lo<50
      · rw [if_pos h50] at h4
        rw [decide_eq_true (by omega:((hi-lo:Nat):Int)<50),ite2_true]
        rw [← h4] at h
        exact h
      rw [if_neg h50] at h4
      rw [decide_eq_false (by omega:¬ ((hi-lo:Nat):Int)<50),ite2_false]
      have v2:IntKind.wrap .i64 ((i:Int)-1)=((i-1:Nat):Int):=wi (by omega) (by omega)
      have v3:IntKind.wrap .i64 ((i:Int)-(lo:Int))=((i-lo:Nat):Int):=wi (by omega) (by omega)
      simp only [v2,v3]
      refine swapP ssc_len ssc_one hs' (i:=i) (j:=i-1) rfl rfl (by omega) (by omega) ?_
      have hs1:(Sort.swp d' i (i-1)).size=n:=by rw [swp_size]; exact hs'
      generalize Sort.swp d' i (i-1)=d1 at *
      unfold Sort.fixDown at h4
      by_cases hd:i-lo≥2
      · rw [if_pos hd] at h4
        rw [decide_eq_true (by omega:((i-lo:Nat):Int)≥2),ite2_true]
        unfold F165_j9
        refine LoopP.by (J:=fun m (y:Int) hp=>∃ (d2:Array Ss),y=m∧hp=HA hp0 b 79 sp ssc d2∧d2.size=n∧m<n∧Sort.shiftDown (ltC cf) m d2=Sort.shiftDown (ltC cf) (i-1) d1) ?_
          (n:=i-1) ⟨d1,rfl,rfl,hs1,by omega,rfl⟩
        rintro I10 m y hp ⟨d2,rfl,rfl,h5,h6,h7⟩ hI10
        unfold F165_l10
        cases m with
        | zero=>
          rw [Sort.shiftDown] at h7
          rw [decide_eq_false (by omega:¬ ((0:Nat):Int)≥1),ite2_false]
          rw [← h7] at h4
          exact fin6 i d2 h1 (by omega) h5 h4
        | succ m=>
          rw [Sort.shiftDown] at h7
          have v4:IntKind.wrap .i64 (((m+1:Nat):Int)-1)=(m:Int):=wi (by omega) (by omega)
          simp only [v4]
          rw [decide_eq_true (by omega:((m+1:Nat):Int)≥1),ite2_true]
          refine cmpP hc ssc_len h5 (i:=m+1) (j:=m) rfl rfl (by omega) (by omega) ?_
          have hl:decide (cf d2[m+1]! d2[m]!<0)=ltC cf d2[m+1]! d2[m]! := rfl
          rw [hl]
          cases hlt:ltC cf d2[m+1]! d2[m]!
          · rw [hlt] at h7
            simp only [Bool.not_false,if_true] at h7
            simp only [Bool.not_false,ite2_true]
            rw [← h7] at h4
            exact fin6 i d2 h1 (by omega) h5 h4
          · rw [hlt] at h7
            simp only [Bool.not_true,Bool.false_eq_true,if_false] at h7
            simp only [Bool.not_true,ite2_false]
            refine swapP ssc_len ssc_one h5 (i:=m+1) (j:=m) rfl rfl (by omega) (by omega) ?_
            exact hI10 m _ _ (by omega) ⟨_,rfl,rfl,by rw [swp_size]; exact h5,by omega,h7⟩
      · rw [if_neg hd] at h4
        rw [decide_eq_false (by omega:¬ ((i-lo:Nat):Int)≥2),ite2_false]
        exact fin6 i d1 h1 (by omega) hs1 h4
    refine LoopP.by (J:=fun m (y:Int) hp=>∃ (i':Nat),y=i'∧hp=HA hp0 b 79 sp ssc d'∧lo<i'∧i'≤hi∧m=hi-i'∧Sort.scanSorted (ltC cf) d' hi i'=Sort.scanSorted (ltC cf) d' hi i) ?_
      (n:=hi-i) ⟨i,rfl,rfl,hli,hih,rfl,rfl⟩
    rintro I11 m y hp ⟨i',rfl,rfl,h1,h2,rfl,h7⟩ hI11
    unfold F165_l11
    rw [← h7] at he
    have out:Sort.scanSorted (ltC cf) d' hi i'=i'→F165_j12 (some ⟨b,0,none⟩) n c lo hi (.func (.func f) ⟨ga⟩ ⟨gb⟩) i' (5-((k+1:Nat):Int)) false (HA hp0 b 79 sp ssc d') I I11 K:=by
      intro hq
      unfold F165_j12
      rw [ite2_false]
      rw [hq] at he
      exact fin5 i' h1 h2 hq he
    by_cases hj:i'<hi
    · have v2:IntKind.wrap .i64 ((i':Int)-1)=((i' - 1:Nat):Int):=wi (by omega) (by omega)
      simp only [v2]
      rw [decide_eq_true (by omega:(i':Int)<(hi:Int)),ite2_true]
      refine cmpP hc ssc_len hs' (i:=i') (j:=i' - 1) rfl rfl (by omega) (by omega) ?_
      have hl:decide (cf d'[i']! d'[i' - 1]!<0)=ltC cf d'[i']! d'[i' - 1]! := rfl
      rw [hl]
      cases hlt:ltC cf d'[i']! d'[i' - 1]!
      · unfold F165_j12
        have v3:IntKind.wrap .i64 ((i':Int)+1)=((i'+1:Nat):Int):=wi (by omega) (by omega)
        simp only [Bool.not_false,ite2_true,v3]
        refine hI11 (hi-(i'+1)) _ _ (by omega) ⟨i'+1,rfl,rfl,by omega,by omega,rfl,?_⟩
        rw [← h7]
        rw [Sort.scanSorted.eq_def (ltC cf) d' hi i',hlt,decide_eq_true hj]
        simp
      · simp only [Bool.not_true]
        refine out ?_
        rw [Sort.scanSorted,hlt]
        simp
    · rw [decide_eq_false (by omega:¬ (i':Int)<(hi:Int)),ite2_false]
      refine out ?_
      rw [Sort.scanSorted,decide_eq_false hj]
      simp
end
end Go.Proofs
set_option linter.unusedVariables false
set_option maxRecDepth 20000
namespace Go.Proofs
open Go Go.HL
section
variable {f:FuncId} {ga gb:List Value} {hp0:HP} {b sp n c:Nat} {cf:Ss→Ss→Int}
theorem S166 (hc:CmpOk Tryd.prog f ga gb hp0 b 79 sp ssc n cf) {d:Array Ss} {lo hi pv:Nat} {K:Value→HP→Prop} (hs:d.size=n) (hlo:lo<hi) (hf:hi≤n) (hp:pv<n) (hn:n≤1000000000)
    (h:K (.int .i64 ((Sort.partitionEqual (ltC cf) d lo hi pv).1:Nat)) (HA hp0 b 79 sp ssc (Sort.partitionEqual (ltC cf) d lo hi pv).2)) :
    CF Tryd.prog 166 [.slice (some ⟨b,0,none⟩) n c,.int .i64 lo,.int .i64 hi,.int .i64 pv,.func (.func f) ⟨ga⟩ ⟨gb⟩] (HA hp0 b 79 sp ssc d) K:=by
  refine F166_ok _ n c lo hi pv _ _ K ?_
  unfold F166
  refine swapP ssc_len ssc_one hs (i:=lo) (j:=pv) rfl rfl (by omega) (by omega) ?_
  unfold Sort.partitionEqual at h
  have hs1:(Sort.swp d lo pv).size=n:=by rw [swp_size]; exact hs
  generalize Sort.swp d lo pv=d1 at *
  have w1:IntKind.wrap .i64 ((lo:Int)+1)=((lo+1:Nat):Int):=wi (by omega) (by omega)
  have w2:IntKind.wrap .i64 ((hi:Int)-1)=((hi-1:Nat):Int):=wi (by omega) (by omega)
  rw [w1,w2]
  generalize hR:Sort.partEqLoop (ltC cf) lo (lo+1) (hi-1) d1=R at h
  unfold F166_j1
  refine LoopP.by (J:=fun k (s:Int × Int) hp=>∃ (i j:Nat) (d':Array Ss),s=((i:Int),(j:Int))∧hp=HA hp0 b 79 sp ssc d'∧d'.size=n∧lo<i∧i≤j+2∧j<n∧k=j+1-i∧Sort.partEqLoop (ltC cf) lo i j d'=R) ?_
    (n:=hi-1+1-(lo+1)) ⟨lo+1,hi-1,d1,rfl,rfl,hs1,by omega,by omega,by omega,rfl,hR⟩
  rintro I k x hp ⟨i,j,d',rfl,rfl,hs',hli,hij,hj,rfl,he⟩ hI
  unfold F166_l3
  simp only []
  rw [Sort.partEqLoop_eq] at he
  refine LoopP.by (J:=fun m (y:Int) hp=>∃ (i':Nat),y=i'∧hp=HA hp0 b 79 sp ssc d'∧i≤i'∧i'≤j+2∧m=j+2-i'∧Sort.scanUp (fun x=>!ltC cf d'[lo]! x) d' j i'=Sort.scanUp (fun x=>!ltC cf d'[lo]! x) d' j i) ?_
    (n:=j+2-i) ⟨i,rfl,rfl,Nat.le_refl _,hij,rfl,rfl⟩
  rintro I8 m y hp ⟨i',rfl,rfl,h1,h2,rfl,h7⟩ hI8
  unfold F166_l8
  rw [← h7] at he
  have out:Sort.scanUp (fun x=>!ltC cf d'[lo]! x) d' j i'=i'→F166_j9 (some ⟨b,0,none⟩) n c lo (.func (.func f) ⟨ga⟩ ⟨gb⟩) i' j false (HA hp0 b 79 sp ssc d') I I8 K:=by
    intro hq
    rw [hq] at he
    unfold F166_j9 F166_j4
    rw [ite2_false]
    refine LoopP.by (J:=fun m (y:Int) hp=>∃ (j':Nat),y=j'∧hp=HA hp0 b 79 sp ssc d'∧j'≤j∧m=j'∧Sort.scanDown (fun x=>ltC cf d'[lo]! x) d' i' j'=Sort.scanDown (fun x=>ltC cf d'[lo]! x) d' i' j) ?_
      (n:=j) ⟨j,rfl,rfl,Nat.le_refl _,rfl,rfl⟩
    rintro I6 m y hp ⟨j',rfl,rfl,g1,rfl,g7⟩ hI6
    unfold F166_l6
    rw [← g7] at he
    have out2:Sort.scanDown (fun x=>ltC cf d'[lo]! x) d' i' m=m→F166_j7 (some ⟨b,0,none⟩) n c lo (.func (.func f) ⟨ga⟩ ⟨gb⟩) i' m false (HA hp0 b 79 sp ssc d') I I6 K:=by
      intro hq2
      rw [hq2] at he
      unfold F166_j7 F166_j5
      rw [ite2_false]
      by_cases hgt:i' > m
      · rw [if_pos hgt] at he
        rw [decide_eq_true (by omega:(i':Int) > (m:Int)),ite2_true]
        unfold F166_j2
        rw [← he] at h
        exact h
      · rw [if_neg hgt] at he
        rw [decide_eq_false (by omega:¬ (i':Int) > (m:Int)),ite2_false]
        refine swapP ssc_len ssc_one hs' (i:=i') (j:=m) rfl rfl (by omega) (by omega) ?_
        have v1:IntKind.wrap .i64 ((i':Int)+1)=((i'+1:Nat):Int):=wi (by omega) (by omega)
        have v2:IntKind.wrap .i64 ((m:Int)-1)=((m-1:Nat):Int):=wi (by omega) (by omega)
        rw [v1,v2]
        exact hI (m-1+1-(i'+1)) _ _ (by omega) ⟨i'+1,m-1,_,rfl,rfl,by rw [swp_size]; exact hs',by omega,by omega,by omega,rfl,he⟩
    by_cases hle:i'≤m
    · rw [decide_eq_true (by omega:(i':Int)≤(m:Int)),ite2_true]
      refine cmpP hc ssc_len hs' (i:=lo) (j:=m) rfl rfl (by omega) (by omega) ?_
      have hl:decide (cf d'[lo]! d'[m]!<0)=ltC cf d'[lo]! d'[m]! := rfl
      rw [hl]
      obtain ⟨m,rfl⟩:∃ m',m=m'+1:=⟨m-1,by omega⟩
      cases hlt:ltC cf d'[lo]! d'[m+1]!
      · refine out2 ?_
        rw [Sort.scanDown,hlt]
        simp
      · unfold F166_j7
        have v2:IntKind.wrap .i64 (((m+1:Nat):Int)-1)=(m:Int):=wi (by omega) (by omega)
        rw [ite2_true,v2]
        refine hI6 m _ _ (by omega) ⟨m,rfl,rfl,by omega,rfl,?_⟩
        rw [← g7,Sort.scanDown.eq_def _ _ _ (m+1)]
        simp only [hlt,decide_eq_true hle,Bool.and_self,if_true]
    · rw [decide_eq_false (by omega:¬ (i':Int)≤(m:Int)),ite2_false]
      refine out2 ?_
      cases m with
      | zero=>rw [Sort.scanDown]
      | succ m=>rw [Sort.scanDown,decide_eq_false hle]; simp
  by_cases hle:i'≤j
  · rw [decide_eq_true (by omega:(i':Int)≤(j:Int)),ite2_true]
    refine cmpP hc ssc_len hs' (i:=lo) (j:=i') rfl rfl (by omega) (by omega) ?_
    have hl:decide (cf d'[lo]! d'[i']!<0)=ltC cf d'[lo]! d'[i']! := rfl
    rw [hl]
    cases hlt:ltC cf d'[lo]! d'[i']!
    · unfold F166_j9
      have v2:IntKind.wrap .i64 ((i':Int)+1)=((i'+1:Nat):Int):=wi (by omega) (by omega)
      simp only [Bool.not_false,ite2_true,v2]
      refine hI8 (j+2-(i'+1)) _ _ (by omega) ⟨i'+1,rfl,rfl,by omega,by omega,rfl,?_⟩
      rw [← h7,Sort.scanUp.eq_def _ _ _ i']
      simp only [hlt,decide_eq_true hle,Bool.not_false,Bool.and_self,if_true]
    · simp only [Bool.not_true]
      refine out ?_
      rw [Sort.scanUp,hlt]
      simp
  · rw [decide_eq_false (by omega:¬ (i':Int)≤(j:Int)),ite2_false]
    refine out ?_
    rw [Sort.scanUp,decide_eq_false hle]
    simp
end
end Go.Proofs
set_option linter.unusedVariables false
set_option maxRecDepth 20000
namespace Go.Proofs
open Go Go.HL
section
variable {f:FuncId} {ga gb:List Value} {hp0:HP} {b sp n c:Nat} {cf:Ss→Ss→Int}
theorem S167 (hc:CmpOk Tryd.prog f ga gb hp0 b 79 sp ssc n cf) {d:Array Ss} {lo hi pv:Nat} {K:Value→HP→Prop} (hs:d.size=n) (hlo:lo<hi) (hf:hi≤n) (hp:pv<n) (hn:n≤1000000000)
    (h:K (.tuple ⟨[.int .i64 ((Sort.partition (ltC cf) d lo hi pv).1:Nat),.bool (Sort.partition (ltC cf) d lo hi pv).2.1]⟩) (HA hp0 b 79 sp ssc (Sort.partition (ltC cf) d lo hi pv).2.2)) :
    CF Tryd.prog 167 [.slice (some ⟨b,0,none⟩) n c,.int .i64 lo,.int .i64 hi,.int .i64 pv,.func (.func f) ⟨ga⟩ ⟨gb⟩] (HA hp0 b 79 sp ssc d) K:=by
  refine F167_ok _ n c lo hi pv _ _ K ?_
  unfold F167
  refine swapP ssc_len ssc_one hs (i:=lo) (j:=pv) rfl rfl (by omega) (by omega) ?_
  unfold Sort.partition at h
  have hs':(Sort.swp d lo pv).size=n:=by rw [swp_size]; exact hs
  generalize Sort.swp d lo pv=d' at *
  have w1:IntKind.wrap .i64 ((lo:Int)+1)=((lo+1:Nat):Int):=wi (by omega) (by omega)
  have w2:IntKind.wrap .i64 ((hi:Int)-1)=((hi-1:Nat):Int):=wi (by omega) (by omega)
  rw [w1,w2]
  simp only [] at h
  have hij:lo+1≤hi-1+2:=by omega
  have hjn:hi-1<n:=by omega
  have hli:lo<lo+1:=by omega
  generalize hi0:lo+1=i at *
  generalize hj0:hi-1=j at *
  unfold F167_j1
  have fin:∀ (i' m:Nat),Sort.scanUp (fun x=>ltC cf x d'[lo]!) d' j i=i'→Sort.scanDown (fun x=>!ltC cf x d'[lo]!) d' i' j=m→i≤i'→i'≤j+2→m≤j→F167_j3 (some ⟨b,0,none⟩) n c lo (.func (.func f) ⟨ga⟩ ⟨gb⟩) i' m (HA hp0 b 79 sp ssc d') K:=by
    intro i' m hq hq2 h1 h2 h3
    rw [hq,hq2] at h
    unfold F167_j3
    by_cases hgt:i' > m
    · rw [if_pos hgt] at h
      rw [decide_eq_true (by omega:(i':Int) > (m:Int)),ite2_true]
      refine swapP ssc_len ssc_one hs' (i:=m) (j:=lo) rfl rfl (by omega) (by omega) ?_
      exact h
    rw [if_neg hgt] at h
    rw [decide_eq_false (by omega:¬ (i':Int) > (m:Int)),ite2_false]
    refine swapP ssc_len ssc_one hs' (i:=i') (j:=m) rfl rfl (by omega) (by omega) ?_
    have v1:IntKind.wrap .i64 ((i':Int)+1)=((i'+1:Nat):Int):=wi (by omega) (by omega)
    have v2:IntKind.wrap .i64 ((m:Int)-1)=((m-1:Nat):Int):=wi (by omega) (by omega)
    rw [v1,v2]
    have hs2:(Sort.swp d' i' m).size=n:=by rw [swp_size]; exact hs'
    generalize Sort.swp d' i' m=d2 at *
    generalize hR:Sort.partLoop (ltC cf) lo (i'+1) (m-1) d2=R at h
    unfold F167_j4
    refine LoopP.by (J:=fun k (s:Int × Int) hp=>∃ (i j:Nat) (d':Array Ss),s=((i:Int),(j:Int))∧hp=HA hp0 b 79 sp ssc d'∧d'.size=n∧lo<i∧i≤j+2∧j<n∧k=j+1-i∧Sort.partLoop (ltC cf) lo i j d'=R) ?_
      (n:=m-1+1-(i'+1)) ⟨i'+1,m-1,d2,rfl,rfl,hs2,by omega,by omega,by omega,rfl,hR⟩
    clear hs' hij hjn hli hq hq2 h1 h2 h3 hR
    clear hi0 hj0
    rintro I6 k x hp ⟨i,j,d',rfl,rfl,hs',hli,hij,hj,rfl,he⟩ hI
    unfold F167_l6
    simp only []
    rw [Sort.partLoop_eq] at he
    have fin2:∀ (i' m:Nat),Sort.scanUp (fun x=>ltC cf x d'[lo]!) d' j i=i'→Sort.scanDown (fun x=>!ltC cf x d'[lo]!) d' i' j=m→i≤i'→i'≤j+2→m≤j→F167_j8 (some ⟨b,0,none⟩) n c lo (.func (.func f) ⟨ga⟩ ⟨gb⟩) i' m (HA hp0 b 79 sp ssc d') I6 K:=by
      intro i' m hq hq2 h1 h2 h3
      rw [hq,hq2] at he
      unfold F167_j8
      by_cases hgt:i' > m
      · rw [if_pos hgt] at he
        rw [decide_eq_true (by omega:(i':Int) > (m:Int)),ite2_true]
        unfold F167_j5
        rw [← he] at h
        refine swapP ssc_len ssc_one hs' (i:=m) (j:=lo) rfl rfl (by omega) (by omega) ?_
        exact h
      · rw [if_neg hgt] at he
        rw [decide_eq_false (by omega:¬ (i':Int) > (m:Int)),ite2_false]
        refine swapP ssc_len ssc_one hs' (i:=i') (j:=m) rfl rfl (by omega) (by omega) ?_
        have v1:IntKind.wrap .i64 ((i':Int)+1)=((i'+1:Nat):Int):=wi (by omega) (by omega)
        have v2:IntKind.wrap .i64 ((m:Int)-1)=((m-1:Nat):Int):=wi (by omega) (by omega)
        rw [v1,v2]
        exact hI (m-1+1-(i'+1)) _ _ (by omega) ⟨i'+1,m-1,_,rfl,rfl,by rw [swp_size]; exact hs',by omega,by omega,by omega,rfl,he⟩
    clear he
    refine LoopP.by (J:=fun m (y:Int) hp=>∃ (i':Nat),y=i'∧hp=HA hp0 b 79 sp ssc d'∧i≤i'∧i'≤j+2∧m=j+2-i'∧Sort.scanUp (fun x=>ltC cf x d'[lo]!) d' j i'=Sort.scanUp (fun x=>ltC cf x d'[lo]!) d' j i) ?_
      (n:=j+2-i) ⟨i,rfl,rfl,Nat.le_refl _,hij,rfl,rfl⟩
    rintro I11 m y hp ⟨i',rfl,rfl,h1,h2,rfl,h7⟩ hI11
    unfold F167_l11
    have out:Sort.scanUp (fun x=>ltC cf x d'[lo]!) d' j i'=i'→F167_j12 (some ⟨b,0,none⟩) n c lo (.func (.func f) ⟨ga⟩ ⟨gb⟩) i' j false (HA hp0 b 79 sp ssc d') I6 I11 K:=by
      intro hq
      rw [hq] at h7
      unfold F167_j12 F167_j7
      rw [ite2_false]
      refine LoopP.by (J:=fun m (y:Int) hp=>∃ (j':Nat),y=j'∧hp=HA hp0 b 79 sp ssc d'∧j'≤j∧m=j'∧Sort.scanDown (fun x=>!ltC cf x d'[lo]!) d' i' j'=Sort.scanDown (fun x=>!ltC cf x d'[lo]!) d' i' j) ?_
        (n:=j) ⟨j,rfl,rfl,Nat.le_refl _,rfl,rfl⟩
      rintro I9 m y hp ⟨j',rfl,rfl,g1,rfl,g7⟩ hI9
      unfold F167_l9
      have out2:Sort.scanDown (fun x=>!ltC cf x d'[lo]!) d' i' m=m→F167_j10 (some ⟨b,0,none⟩) n c lo (.func (.func f) ⟨ga⟩ ⟨gb⟩) i' m false (HA hp0 b 79 sp ssc d') I6 I9 K:=by
        intro hq2
        rw [hq2] at g7
        unfold F167_j10
        rw [ite2_false]
        exact fin2 i' m h7.symm g7.symm h1 h2 g1
      by_cases hle:i'≤m
      · rw [decide_eq_true (by omega:(i':Int)≤(m:Int)),ite2_true]
        refine cmpP hc ssc_len hs' (i:=m) (j:=lo) rfl rfl (by omega) (by omega) ?_
        have hl:decide (cf d'[m]! d'[lo]!<0)=ltC cf d'[m]! d'[lo]! := rfl
        rw [hl]
        obtain ⟨m,rfl⟩:∃ m',m=m'+1:=⟨m-1,by omega⟩
        cases hlt:ltC cf d'[m+1]! d'[lo]!
        · unfold F167_j10
          have v2:IntKind.wrap .i64 (((m+1:Nat):Int)-1)=(m:Int):=wi (by omega) (by omega)
          simp only [Bool.not_false,ite2_true,v2]
          refine hI9 m _ _ (by omega) ⟨m,rfl,rfl,by omega,rfl,?_⟩
          rw [← g7,Sort.scanDown.eq_def _ _ _ (m+1)]
          simp only [hlt,decide_eq_true hle,Bool.not_false,Bool.and_self,if_true]
        · simp only [Bool.not_true]
          refine out2 ?_
          rw [Sort.scanDown,hlt]
          simp
      · rw [decide_eq_false (by omega:¬ (i':Int)≤(m:Int)),ite2_false]
        refine out2 ?_
        cases m with
        | zero=>rw [Sort.scanDown]
        | succ m=>rw [Sort.scanDown,decide_eq_false hle]; simp
    by_cases hle:i'≤j
    · rw [decide_eq_true (by omega:(i':Int)≤(j:Int)),ite2_true]
      refine cmpP hc ssc_len hs' (i:=i') (j:=lo) rfl rfl (by omega) (by omega) ?_
      have hl:decide (cf d'[i']! d'[lo]!<0)=ltC cf d'[i']! d'[lo]! := rfl
      rw [hl]
      cases hlt:ltC cf d'[i']! d'[lo]!
      · refine out ?_
        rw [Sort.scanUp,hlt]
        simp
      · unfold F167_j12
        have v2:IntKind.wrap .i64 ((i':Int)+1)=((i'+1:Nat):Int):=wi (by omega) (by omega)
        simp only [ite2_true,v2]
        refine hI11 (j+2-(i'+1)) _ _ (by omega) ⟨i'+1,rfl,rfl,by omega,by omega,rfl,?_⟩
        rw [← h7,Sort.scanUp.eq_def _ _ _ i']
        simp only [hlt,decide_eq_true hle,Bool.and_self,if_true]
    · rw [decide_eq_false (by omega:¬ (i':Int)≤(j:Int)),ite2_false]
      refine out ?_
      rw [Sort.scanUp,decide_eq_false hle]
      simp
  refine LoopP.by (J:=fun m (y:Int) hp=>∃ (i':Nat),y=i'∧hp=HA hp0 b 79 sp ssc d'∧i≤i'∧i'≤j+2∧m=j+2-i'∧Sort.scanUp (fun x=>ltC cf x d'[lo]!) d' j i'=Sort.scanUp (fun x=>ltC cf x d'[lo]!) d' j i) ?_
    (n:=j+2-i) ⟨i,rfl,rfl,Nat.le_refl _,hij,rfl,rfl⟩
  rintro I15 m y hp ⟨i',rfl,rfl,h1,h2,rfl,h7⟩ hI15
  unfold F167_l15
  have out:Sort.scanUp (fun x=>ltC cf x d'[lo]!) d' j i'=i'→F167_j16 (some ⟨b,0,none⟩) n c lo (.func (.func f) ⟨ga⟩ ⟨gb⟩) i' j false (HA hp0 b 79 sp ssc d')  I15 K:=by
    intro hq
    rw [hq] at h7
    unfold F167_j16 F167_j2
    rw [ite2_false]
    refine LoopP.by (J:=fun m (y:Int) hp=>∃ (j':Nat),y=j'∧hp=HA hp0 b 79 sp ssc d'∧j'≤j∧m=j'∧Sort.scanDown (fun x=>!ltC cf x d'[lo]!) d' i' j'=Sort.scanDown (fun x=>!ltC cf x d'[lo]!) d' i' j) ?_
      (n:=j) ⟨j,rfl,rfl,Nat.le_refl _,rfl,rfl⟩
    rintro I13 m y hp ⟨j',rfl,rfl,g1,rfl,g7⟩ hI13
    unfold F167_l13
    have out2:Sort.scanDown (fun x=>!ltC cf x d'[lo]!) d' i' m=m→F167_j14 (some ⟨b,0,none⟩) n c lo (.func (.func f) ⟨ga⟩ ⟨gb⟩) i' m false (HA hp0 b 79 sp ssc d')  I13 K:=by
      intro hq2
      rw [hq2] at g7
      unfold F167_j14
      rw [ite2_false]
      exact fin i' m h7.symm g7.symm h1 h2 g1
    by_cases hle:i'≤m
    · rw [decide_eq_true (by omega:(i':Int)≤(m:Int)),ite2_true]
      refine cmpP hc ssc_len hs' (i:=m) (j:=lo) rfl rfl (by omega) (by omega) ?_
      have hl:decide (cf d'[m]! d'[lo]!<0)=ltC cf d'[m]! d'[lo]! := rfl
      rw [hl]
      obtain ⟨m,rfl⟩:∃ m',m=m'+1:=⟨m-1,by omega⟩
      cases hlt:ltC cf d'[m+1]! d'[lo]!
      · unfold F167_j14
        have v2:IntKind.wrap .i64 (((m+1:Nat):Int)-1)=(m:Int):=wi (by omega) (by omega)
        simp only [Bool.not_false,ite2_true,v2]
        refine hI13 m _ _ (by omega) ⟨m,rfl,rfl,by omega,rfl,?_⟩
        rw [← g7,Sort.scanDown.eq_def _ _ _ (m+1)]
        simp only [hlt,decide_eq_true hle,Bool.not_false,Bool.and_self,if_true]
      · simp only [Bool.not_true]
        refine out2 ?_
        rw [Sort.scanDown,hlt]
        simp
    · rw [decide_eq_false (by omega:¬ (i':Int)≤(m:Int)),ite2_false]
      refine out2 ?_
      cases m with
      | zero=>rw [Sort.scanDown]
      | succ m=>rw [Sort.scanDown,decide_eq_false hle]; simp
  by_cases hle:i'≤j
  · rw [decide_eq_true (by omega:(i':Int)≤(j:Int)),ite2_true]
    refine cmpP hc ssc_len hs' (i:=i') (j:=lo) rfl rfl (by omega) (by omega) ?_
    have hl:decide (cf d'[i']! d'[lo]!<0)=ltC cf d'[i']! d'[lo]! := rfl
    rw [hl]
    cases hlt:ltC cf d'[i']! d'[lo]!
    · refine out ?_
      rw [Sort.scanUp,hlt]
      simp
    · unfold F167_j16
      have v2:IntKind.wrap .i64 ((i':Int)+1)=((i'+1:Nat):Int):=wi (by omega) (by omega)
      simp only [ite2_true,v2]
      refine hI15 (j+2-(i'+1)) _ _ (by omega) ⟨i'+1,rfl,rfl,by omega,by omega,rfl,?_⟩
      rw [← h7,Sort.scanUp.eq_def _ _ _ i']
      simp only [hlt,decide_eq_true hle,Bool.and_self,if_true]
  · rw [decide_eq_false (by omega:¬ (i':Int)≤(j:Int)),ite2_false]
    refine out ?_
    rw [Sort.scanUp,decide_eq_false hle]
    simp
end
end Go.Proofs
set_option linter.unusedVariables false
set_option maxRecDepth 20000
namespace Go.Proofs
open Go Go.HL
section
variable {e E:Env} {x0a:OA} {x0n x0c:Nat} {x1 x2 x3:Int} {x4:Value} {x10 x11:Bool} {x12 x13 x14 x15 x16:Int} {x17:Bool} {x18 x19 x20:Int} {hp:HP} {K:Env→PV→HP→Prop}
abbrev R138 (p n:Nat):=RW Tryd.prog 148 [] (opsAt Tryd.f138 (pth p)) (List.range n)
theorem F138_r0:R138 2 1 e V0 hp K=
 K (upd e 10 (sB true)) V0 hp:= by kernel_rfl
theorem F138_r1:R138 67 4 (w2 e 2 (sI x2) 1 (sI x1)) V0 hp K=
 K (w6 e 2 (sI x2) 1 (sI x1) 21 (sI x2) 22 (sI x1) 23 (sI ((wr (x2-x1)))) 12 (sI ((wr (x2-x1))))) V0 hp:= by kernel_rfl
theorem F138_r2:R138 291 2 (upd e 12 (sI x12)) V0 hp K=
 K (w3 e 12 (sI x12) 24 (sI x12) 25 (sB (decide (x12≤12)))) V0 hp:= by kernel_rfl
theorem F138_r3 (h:E=upd (w3 e 4 (sV x4) 2 (sI x2) 1 (sI x1)) 0 (sS x0a x0n x0c)):R138 1187 5 E V0 hp K=
 CF Tryd.prog 160 [(.slice x0a x0n x0c),(.int .i64 x1),(.int .i64 x2),x4] hp fun u1 h2=>(K (w5 E 26 (sS x0a x0n x0c) 27 (sI x1) 28 (sI x2) 29 (sV x4) 30 (sV u1)) V0 h2):= by subst h; kernel_rfl
theorem F138_r4:R138 611 2 (upd e 3 (sI x3)) V0 hp K=
 K (w3 e 3 (sI x3) 31 (sI x3) 32 (sB ((x3==0)))) V0 hp:= by kernel_rfl
theorem F138_r5 (h:E=upd (w3 e 4 (sV x4) 2 (sI x2) 1 (sI x1)) 0 (sS x0a x0n x0c)):R138 2403 5 E V0 hp K=
 CF Tryd.prog 161 [(.slice x0a x0n x0c),(.int .i64 x1),(.int .i64 x2),x4] hp fun u1 h2=>(K (w5 E 33 (sS x0a x0n x0c) 34 (sI x1) 35 (sI x2) 36 (sV x4) 37 (sV u1)) V0 h2):= by subst h; kernel_rfl
theorem F138_r6 (h:E=upd (w3 e 4 (sV x4) 2 (sI x2) 1 (sI x1)) 0 (sS x0a x0n x0c)):R138 1507 10 E V0 hp K=
 CF Tryd.prog 163 [(.slice x0a x0n x0c),(.int .i64 x1),(.int .i64 x2),x4] hp fun u1 h2=>(tup2V u1 fun u3 u4=>intV u3 .i64 fun i5=>intV u4 .i64 fun i6=>K (w2 (w8 E 48 (sS x0a x0n x0c) 49 (sI x1) 50 (sI x2) 51 (sV x4) 52 (sV (.tuple ⟨[(.int .i64 i5),(.int .i64 i6)]⟩)) 47 (sV (.tuple ⟨[(.int .i64 i5),(.int .i64 i6)]⟩)) 53 (sI i5) 54 (sI i6)) 13 (sI i5) 14 (sI i6)) V0 h2):= by subst h; kernel_rfl
theorem F138_r7 (h:E=upd (w4 e 13 (sI x13) 4 (sV x4) 2 (sI x2) 1 (sI x1)) 0 (sS x0a x0n x0c)):R138 77795 7 E V0 hp K=
 CF Tryd.prog 166 [(.slice x0a x0n x0c),(.int .i64 x1),(.int .i64 x2),(.int .i64 x13),x4] hp fun u1 h2=>(intV u1 .i64 fun i3=>K (w7 E 98 (sS x0a x0n x0c) 99 (sI x1) 100 (sI x2) 101 (sI x13) 102 (sV x4) 103 (sI i3) 15 (sI i3)) V0 h2):= by subst h; kernel_rfl
theorem F138_r8:R138 176099 2 (upd e 15 (sI x15)) V0 hp K=
 K (w3 e 15 (sI x15) 104 (sI x15) 1 (sI x15)) V0 hp:= by kernel_rfl
theorem F138_r9 (h:E=upd (w4 e 13 (sI x13) 4 (sV x4) 2 (sI x2) 1 (sI x1)) 0 (sS x0a x0n x0c)):R138 24547 11 E V0 hp K=
 CF Tryd.prog 167 [(.slice x0a x0n x0c),(.int .i64 x1),(.int .i64 x2),(.int .i64 x13),x4] hp fun u1 h2=>(tup2V u1 fun u3 u4=>intV u3 .i64 fun i5=>boolV u4 fun q6=>K (w3 (w8 E 106 (sS x0a x0n x0c) 107 (sI x1) 108 (sI x2) 109 (sI x13) 110 (sV x4) 111 (sV (.tuple ⟨[(.int .i64 i5),(.bool q6)]⟩)) 105 (sV (.tuple ⟨[(.int .i64 i5),(.bool q6)]⟩)) 112 (sI i5)) 113 (sB q6) 16 (sI i5) 17 (sB q6)) V0 h2):= by subst h; kernel_rfl
theorem F138_r10:R138 49123 2 (upd e 17 (sB x17)) V0 hp K=
 K (w3 e 17 (sB x17) 114 (sB x17) 11 (sB x17)) V0 hp:= by kernel_rfl
theorem F138_r11 (h:E=upd (w2 e 16 (sI x16) 2 (sI x2)) 1 (sI x1)):R138 98275 8 E V0 hp K=
 K (w8 E 115 (sI x16) 116 (sI x1) 117 (sI ((wr (x16-x1)))) 118 (sI x2) 119 (sI x16) 120 (sI ((wr (x2-x16)))) 18 (sI ((wr (x16-x1)))) 19 (sI ((wr (x2-x16))))) V0 hp:= by subst h; kernel_rfl
theorem F138_r12:R138 196579 3 (upd e 12 (sI x12)) V0 hp K=
    (((8:Int)≠0)∧(K (w4 e 12 (sI x12) 121 (sI x12) 122 (sI ((wr (Int.tdiv x12 8)))) 20 (sI ((wr (Int.tdiv x12 8))))) V0 hp)):=by kernel_rfl
theorem F138_r13:R138 393187 3 (w2 e 19 (sI x19) 18 (sI x18)) V0 hp K=
 K (w5 e 19 (sI x19) 18 (sI x18) 123 (sI x18) 124 (sI x19) 125 (sB (decide (x18<x19)))) V0 hp:= by kernel_rfl
theorem F138_r14:R138 1310691 4 (w2 e 20 (sI x20) 18 (sI x18)) V0 hp K=
 K (w6 e 20 (sI x20) 18 (sI x18) 126 (sI x18) 127 (sI x20) 128 (sB (decide (x18≥x20))) 10 (sB (decide (x18≥x20)))) V0 hp:= by kernel_rfl
theorem F138_r15 (h:E=upd (w4 e 16 (sI x16) 4 (sV x4) 3 (sI x3) 1 (sI x1)) 0 (sS x0a x0n x0c)):R138 2883555 6 E V0 hp K=
 CF Tryd.prog 138 [(.slice x0a x0n x0c),(.int .i64 x1),(.int .i64 x16),(.int .i64 x3),x4] hp fun u1 h2=>(K (w6 E 129 (sS x0a x0n x0c) 130 (sI x1) 131 (sI x16) 132 (sI x3) 133 (sV x4) 134 (sV u1)) V0 h2):= by subst h; kernel_rfl
theorem F138_r16:R138 3932131 3 (upd e 16 (sI x16)) V0 hp K=
 K (w4 e 16 (sI x16) 135 (sI x16) 136 (sI ((wr (x16+1)))) 1 (sI ((wr (x16+1))))) V0 hp:= by kernel_rfl
theorem F138_r17:R138 1572835 4 (w2 e 20 (sI x20) 19 (sI x19)) V0 hp K=
 K (w6 e 20 (sI x20) 19 (sI x19) 137 (sI x19) 138 (sI x20) 139 (sB (decide (x19≥x20))) 10 (sB (decide (x19≥x20)))) V0 hp:= by kernel_rfl
theorem F138_r18 (h:E=upd (w4 e 16 (sI x16) 4 (sV x4) 3 (sI x3) 2 (sI x2)) 0 (sS x0a x0n x0c)):R138 3145699 7 E V0 hp K=
 CF Tryd.prog 138 [(.slice x0a x0n x0c),(.int .i64 (wr (x16+1))),(.int .i64 x2),(.int .i64 x3),x4] hp fun u1 h2=>(K (w7 E 140 (sS x0a x0n x0c) 141 (sI x16) 142 (sI ((wr (x16+1)))) 143 (sI x2) 144 (sI x3) 145 (sV x4) 146 (sV u1)) V0 h2):= by subst h; kernel_rfl
theorem F138_r19:R138 4194275 2 (upd e 16 (sI x16)) V0 hp K=
 K (w3 e 16 (sI x16) 147 (sI x16) 2 (sI x16)) V0 hp:= by kernel_rfl
def F138_j6 (x0a:OA) (x0n x0c:Nat) (x1 x2 x3:Int) (x4:Value) (x10 x11:Bool) (x12 x13:Int) (x97:Bool) (hp:HP) (I2:(Int × Int × Int × Bool × Bool)→HP→Prop) (K:Kh):Prop:=
  (ite2 x97 (CF Tryd.prog 166 [(.slice x0a x0n x0c),(.int .i64 x1),(.int .i64 x2),(.int .i64 x13),x4] hp fun u11 h12=>intV u11 .i64 fun i13=>I2 (i13,x2,x3,x10,x11) h12) (CF Tryd.prog 167 [(.slice x0a x0n x0c),(.int .i64 x1),(.int .i64 x2),(.int .i64 x13),x4] hp fun u14 h15=>tup2V u14 fun u16 u17=>intV u16 .i64 fun i18=>boolV u17 fun q19=>((8:Int)≠0)∧(ite2 (decide (((IntKind.wrap .i64 (i18-x1)):Int)<(IntKind.wrap .i64 (x2-i18)))) (CF Tryd.prog 138 [(.slice x0a x0n x0c),(.int .i64 x1),(.int .i64 i18),(.int .i64 x3),x4] h15 fun u20 h21=>I2 ((IntKind.wrap .i64 (i18+1)),x2,x3,(decide (((IntKind.wrap .i64 (i18-x1)):Int)≥(IntKind.wrap .i64 (Int.tdiv x12 8)))),q19) h21) (CF Tryd.prog 138 [(.slice x0a x0n x0c),(.int .i64 (IntKind.wrap .i64 (i18+1))),(.int .i64 x2),(.int .i64 x3),x4] h15 fun u22 h23=>I2 (x1,i18,x3,(decide (((IntKind.wrap .i64 (x2-i18)):Int)≥(IntKind.wrap .i64 (Int.tdiv x12 8)))),q19) h23))))
theorem F138_r20 (h:E=upd (w3 e 13 (sI x13) 4 (sV x4) 1 (sI x1)) 0 (sS x0a x0n x0c)):R138 20451 17 E V0 hp K=
    (ite2 (decide (x1 > 0)) ((0≤((wr (x1-1)):Int))∧(((wr (x1-1)):Int)<x0n)∧(ptrN x0a fun b1 o2=>ldL (HP.cellN hp b1 (o2+Int.toNat (wr (x1-1))*9) 9) fun l3=>(0≤x13)∧(x13<x0n)∧(ptrN x0a fun b4 o5=>ldL (HP.cellN hp b4 (o5+Int.toNat x13*9) 9) fun l6=>fnV x4 fun f7 ga8 gb9=>CF Tryd.prog f7 (ga8++[(Value.agg ⟨l3⟩),(.agg ⟨l6⟩)]++gb9) hp fun u10 h11=>intV u10 .i64 fun i12=>K (upd (w8 (w8 E 81 (sI x1) 82 (sB (decide (x1 > 0))) 83 (sB true) 84 (sV x4) 85 (sS x0a x0n x0c) 86 (sI x1) 87 (sI ((wr (x1-1)))) 88 (sV (ptr b1 (o2+Int.toNat (wr (x1-1))*9)))) 89 (sA l3) 90 (sS x0a x0n x0c) 91 (sI x13) 92 (sQ b4 (o5+Int.toNat x13*9)) 93 (sA l6) 94 (sI i12) 95 (sB (decide (i12<0))) 96 (sB ((!(decide (i12<0)))))) 97 (sB ((!(decide (i12<0)))))) V0 h11))) (K (upd (w8 (w8 E 81 (sI x1) 82 (sB (decide (x1 > 0))) 83 (sB false) 84 sU 85 sU 86 sU 87 sU 88 sU) 89 sU 90 sU 91 sU 92 sU 93 sU 94 sU 95 sU 96 sU) 97 (sB false)) V0 hp)):=by subst h; kernel_rfl
def F138_j5 (x0a:OA) (x0n x0c:Nat) (x1 x2 x3:Int) (x4:Value) (x10 x11:Bool) (x12 x13:Int) (hp:HP) (I2:(Int × Int × Int × Bool × Bool)→HP→Prop) (K:Kh):Prop:=
  (ite2 (decide (x1 > 0)) ((0≤((IntKind.wrap .i64 (x1-1)):Int))∧(((IntKind.wrap .i64 (x1-1)):Int)<x0n)∧(ptrN x0a fun b24 o25=>ldL (HP.cellN hp b24 (o25+Int.toNat (IntKind.wrap .i64 (x1-1))*9) 9) fun l26=>(0≤x13)∧(x13<x0n)∧(ptrN x0a fun b27 o28=>ldL (HP.cellN hp b27 (o28+Int.toNat x13*9) 9) fun l29=>fnV x4 fun f30 ga_31 gb_32=>CF Tryd.prog f30 (ga_31++[(Value.agg ⟨l26⟩),(.agg ⟨l29⟩)]++gb_32) hp fun u33 h34=>intV u33 .i64 fun i35=>F138_j6 x0a x0n x0c x1 x2 x3 x4 x10 x11 x12 x13 (!(decide (i35<0))) h34 I2 K))) (F138_j6 x0a x0n x0c x1 x2 x3 x4 x10 x11 x12 x13 false hp I2 K))
theorem F138_r21 (h:E=upd (w3 e 4 (sV x4) 2 (sI x2) 1 (sI x1)) 0 (sS x0a x0n x0c)):R138 38883 5 E V0 hp K=
 CF Tryd.prog 165 [(.slice x0a x0n x0c),(.int .i64 x1),(.int .i64 x2),x4] hp fun u1 h2=>(boolV u1 fun q3=>K (w5 E 76 (sS x0a x0n x0c) 77 (sI x1) 78 (sI x2) 79 (sV x4) 80 (sB q3)) V0 h2):= by subst h; kernel_rfl
def F138_j7 (x0a:OA) (x0n x0c:Nat) (x1 x2 x3:Int) (x4:Value) (x10 x11:Bool) (x12 x13:Int) (x75:Bool) (hp:HP) (I2:(Int × Int × Int × Bool × Bool)→HP→Prop) (K:Kh):Prop:=
  (ite2 x75 (CF Tryd.prog 165 [(.slice x0a x0n x0c),(.int .i64 x1),(.int .i64 x2),x4] hp fun u36 h37=>boolV u36 fun q38=>ite2 q38 (K (.tuple ⟨[]⟩) h37) (F138_j5 x0a x0n x0c x1 x2 x3 x4 x10 x11 x12 x13 h37 I2 K)) (F138_j5 x0a x0n x0c x1 x2 x3 x4 x10 x11 x12 x13 hp I2 K))
theorem F138_r22 (h:E=upd (w2 e 14 (sI x14) 11 (sB x11)) 10 (sB x10)):R138 10211 8 E V0 hp K=
 ite2 x10 (ite2 x11 (K (w8 E 68 (sB x10) 69 (sB true) 70 (sB x11) 71 (sB x11) 72 (sB true) 73 (sI x14) 74 (sB ((x14==1))) 75 (sB ((x14==1)))) V0 hp) (K (w8 E 68 (sB x10) 69 (sB true) 70 (sB x11) 71 (sB x11) 72 (sB false) 73 sU 74 sU 75 (sB false)) V0 hp)) (K (w8 E 68 (sB x10) 69 (sB false) 70 sU 71 (sB false) 72 (sB false) 73 sU 74 sU 75 (sB false)) V0 hp):= by subst h; kernel_rfl
def F138_j4 (x0a:OA) (x0n x0c:Nat) (x1 x2 x3:Int) (x4:Value) (x10 x11:Bool) (x12 x13 x14:Int) (hp:HP) (I2:(Int × Int × Int × Bool × Bool)→HP→Prop) (K:Kh):Prop:=
  (ite2 x10 (ite2 x11 (F138_j7 x0a x0n x0c x1 x2 x3 x4 x10 x11 x12 x13 (x14==1) hp I2 K) (F138_j7 x0a x0n x0c x1 x2 x3 x4 x10 x11 x12 x13 false hp I2 K)) (F138_j7 x0a x0n x0c x1 x2 x3 x4 x10 x11 x12 x13 false hp I2 K))
theorem F138_r23:R138 5091 2 (upd e 14 (sI x14)) V0 hp K=
 K (w3 e 14 (sI x14) 55 (sI x14) 56 (sB ((x14==2)))) V0 hp:= by kernel_rfl
theorem F138_r24 (h:E=upd (w3 e 4 (sV x4) 2 (sI x2) 1 (sI x1)) 0 (sS x0a x0n x0c)):R138 19427 5 E V0 hp K=
 CF Tryd.prog 164 [(.slice x0a x0n x0c),(.int .i64 x1),(.int .i64 x2),x4] hp fun u1 h2=>(K (w5 E 57 (sS x0a x0n x0c) 58 (sI x1) 59 (sI x2) 60 (sV x4) 61 (sV u1)) V0 h2):= by subst h; kernel_rfl
theorem F138_r25 (h:E=upd (w2 e 13 (sI x13) 2 (sI x2)) 1 (sI x1)):R138 44003 7 E V0 hp K=
 K (w7 E 62 (sI x2) 63 (sI ((wr (x2-1)))) 64 (sI x13) 65 (sI x1) 66 (sI ((wr (x13-x1)))) 67 (sI ((wr ((wr (x2-1))-(wr (x13-x1)))))) 13 (sI ((wr ((wr (x2-1))-(wr (x13-x1))))))) V0 hp:= by subst h; kernel_rfl
theorem F138_r26:R138 60387 1 e V0 hp K=
 K (upd e 14 (sI 1)) V0 hp:= by kernel_rfl
def F138_j3 (x0a:OA) (x0n x0c:Nat) (x1 x2 x3:Int) (x4:Value) (x10 x11:Bool) (x12:Int) (hp:HP) (I2:(Int × Int × Int × Bool × Bool)→HP→Prop) (K:Kh):Prop:=
  (CF Tryd.prog 163 [(.slice x0a x0n x0c),(.int .i64 x1),(.int .i64 x2),x4] hp fun u5 h6=>tup2V u5 fun u7 u8=>intV u7 .i64 fun i9=>intV u8 .i64 fun i10=>ite2 (i10==2) (CF Tryd.prog 164 [(.slice x0a x0n x0c),(.int .i64 x1),(.int .i64 x2),x4] h6 fun u39 h40=>F138_j4 x0a x0n x0c x1 x2 x3 x4 x10 x11 x12 (IntKind.wrap .i64 ((IntKind.wrap .i64 (x2-1))-(IntKind.wrap .i64 (i9-x1)))) 1 h40 I2 K) (F138_j4 x0a x0n x0c x1 x2 x3 x4 x10 x11 x12 i9 i10 h6 I2 K))
theorem F138_r27:R138 1251 2 (upd e 10 (sB x10)) V0 hp K=
 K (w3 e 10 (sB x10) 38 (sB x10) 39 (sB ((!x10)))) V0 hp:= by kernel_rfl
theorem F138_r28 (h:E=upd (w3 e 4 (sV x4) 2 (sI x2) 1 (sI x1)) 0 (sS x0a x0n x0c)):R138 4835 5 E V0 hp K=
 CF Tryd.prog 162 [(.slice x0a x0n x0c),(.int .i64 x1),(.int .i64 x2),x4] hp fun u1 h2=>(K (w5 E 40 (sS x0a x0n x0c) 41 (sI x1) 42 (sI x2) 43 (sV x4) 44 (sV u1)) V0 h2):= by subst h; kernel_rfl
theorem F138_r29:R138 6883 3 (upd e 3 (sI x3)) V0 hp K=
 K (w4 e 3 (sI x3) 45 (sI x3) 46 (sI ((wr (x3-1)))) 3 (sI ((wr (x3-1))))) V0 hp:= by kernel_rfl
def F138_l2 (x0a:OA) (x0n x0c:Nat) (x4:Value) (K:Kh) (I2:(Int × Int × Int × Bool × Bool)→HP→Prop) (x1 x2 x3:Int) (x10 x11:Bool) (hp:HP):Prop:=
  (ite2 (decide (((IntKind.wrap .i64 (x2-x1)):Int)≤12)) (CF Tryd.prog 160 [(.slice x0a x0n x0c),(.int .i64 x1),(.int .i64 x2),x4] hp fun u1 h2=>K (.tuple ⟨[]⟩) h2) (ite2 (x3==0) (CF Tryd.prog 161 [(.slice x0a x0n x0c),(.int .i64 x1),(.int .i64 x2),x4] hp fun u3 h4=>K (.tuple ⟨[]⟩) h4) (ite2 (!x10) (CF Tryd.prog 162 [(.slice x0a x0n x0c),(.int .i64 x1),(.int .i64 x2),x4] hp fun u41 h42=>F138_j3 x0a x0n x0c x1 x2 (IntKind.wrap .i64 (x3-1)) x4 x10 x11 (IntKind.wrap .i64 (x2-x1)) h42 I2 K) (F138_j3 x0a x0n x0c x1 x2 x3 x4 x10 x11 (IntKind.wrap .i64 (x2-x1)) hp I2 K))))
def F138_j1 (x0a:OA) (x0n x0c:Nat) (x1 x2 x3:Int) (x4:Value) (x10 x11:Bool) (hp:HP) (K:Kh):Prop:=
  (LoopP (σ:=Int × Int × Int × Bool × Bool) (fun I s hp=>F138_l2 x0a x0n x0c x4  K I s.1 s.2.1 s.2.2.1 s.2.2.2.1 s.2.2.2.2 hp) (x1,x2,x3,x10,x11) hp)
theorem F138_r30:R138 5 1 e V0 hp K=
 K (upd e 11 (sB true)) V0 hp:= by kernel_rfl
def F138 (x0a:OA) (x0n x0c:Nat) (x1 x2 x3:Int) (x4:Value) (hp:HP) (K:Kh):Prop:=
  (F138_j1 x0a x0n x0c x1 x2 x3 x4 true true hp  K)
noncomputable abbrev o138 (k n:Nat):Code:=.region k (opsAt Tryd.f138 (pth n)) false
noncomputable def F138_code:Code:=(.seq (o138 0 2) (.seq (o138 1 5) (.block 0 (.loop (.block 1 (.seq (o138 2 67) (.seq (.seq (o138 3 291) (.cond (.tmp 25) (.seq (o138 4 1187) .ret) .skip)) (.seq (.seq (o138 5 611) (.cond (.tmp 32) (.seq (o138 6 2403) .ret) .skip)) (.seq (.seq (o138 7 1251) (.cond (.tmp 39) (.seq (o138 8 4835) (o138 9 6883)) .skip)) (.seq (o138 10 1507) (.seq (.seq (o138 11 5091) (.cond (.tmp 56) (.seq (o138 12 19427) (.seq (o138 13 44003) (o138 14 60387))) .skip)) (.seq (.seq (o138 15 10211) (.cond (.tmp 75) (.seq (o138 16 38883) (.cond (.tmp 80) .ret .skip)) .skip)) (.seq (.seq (.region 17 (opsAt Tryd.f138 (pth 20451)) true) (.cond (.tmp 97) (.seq (o138 18 77795) (.seq (o138 19 176099) (.exit 1))) .skip)) (.seq (o138 20 24547) (.seq (o138 21 49123) (.seq (o138 22 98275) (.seq (o138 23 196579) (.seq (o138 24 393187) (.cond (.tmp 125) (.seq (o138 25 1310691) (.seq (o138 26 2883555) (o138 27 3932131))) (.seq (o138 28 1572835) (.seq (o138 29 3145699) (o138 30 4194275))))))))))))))))))))))
theorem F138_body:Tryd.f138.body=some F138_code:=by kernel_rfl
theorem F138_ok (x0a:OA) (x0n x0c:Nat) (x1 x2 x3:Int) (x4:Value) (hp:HP) (K:Kh) (h:F138 x0a x0n x0c x1 x2 x3 x4 hp K):CF Tryd.prog 138 [(.slice x0a x0n x0c),(.int .i64 x1),(.int .i64 x2),(.int .i64 x3),x4] hp K:=by
 refine .inl ⟨by kernel_rfl,AC.intro (N:=148) Tryd.func138 F138_body rfl (Nat.le_of_ble_eq_true rfl) ?_⟩
 unfold F138 at h
 refine Ar F138_r0 ?_ (r5 0 1 2 3 4 Rn) (z5 Sn) Sn
 refine As (fun env pv hp=>∃ x0a x0n x0c x1 x2 x3 x4 x10 x11,Sub (w7 E0 11 (sB x11) 10 (sB x10) 4 (sV x4) 3 (sI x3) 2 (sI x2) 1 (sI x1) 0 (sS x0a x0n x0c)) env∧Sub V0 pv∧F138_j1 x0a x0n x0c x1 x2 x3 x4 x10 x11 hp  K) ?_ ?_
 ·refine Ag F138_r30 ?_ (r6 0 1 2 3 4 10 Rn) (z6 Sn) Sn
  exact ⟨_,_,_,_,_,_,_,_,_,(z7 Sn),Sn,h⟩
 ·rintro env pv hp ⟨x0a,x0n,x0c,x1,x2,x3,x4,x10,x11,he,hv,h⟩
  refine Ae ?_ (r7 0 1 2 3 4 10 11 Rn) he hv
  unfold F138_j1 at h
  refine AWP.block (AWP.loop (σ:=Int × Int × Int × Bool × Bool) _ (fun s=>w7 E0 11 (sB (s.2.2.2.2)) 10 (sB (s.2.2.2.1)) 4 (sV x4) 3 (sI (s.2.2.1)) 2 (sI (s.2.1)) 1 (sI (s.1)) 0 (sS x0a x0n x0c)) (fun s=>V0) (x1,x2,x3,x10,x11) h (fun s=>r7 0 1 2 3 4 10 11 Rn) (z7 Sn) Sn ?_)
  intro I2 s hp h
  obtain ⟨x1,x2,x3,x10,x11⟩:=s
  replace h:F138_l2 x0a x0n x0c x4  K I2 x1 x2 x3 x10 x11 hp:=h
  unfold F138_l2 at h
  refine AWP.block (Ar F138_r1 ?_ (r7 1 2 0 3 4 10 11 Rn) (z7 Sn) Sn)
  refine Aq (Ar F138_r2 ?_ (r8 12 0 1 2 3 4 10 11 Rn) (z8 Sn) Sn)
  refine Ac h rfl (fun h=>?_) (fun h=>?_)
  ·refine Ar (F138_r3 rfl) ?_ (r4 0 1 2 4 Rn) (z4 Sn) Sn
   refine mC h fun u1 h2 h=>?_
   refine AWP.ret ?_
   exact h
  ·refine AWP.skip (Aq (Ar F138_r4 ?_ (r8 3 0 1 2 4 10 11 12 Rn) (z8 Sn) Sn))
   refine Ac h rfl (fun h=>?_) (fun h=>?_)
   ·refine Ar (F138_r5 rfl) ?_ (r4 0 1 2 4 Rn) (z4 Sn) Sn
    refine mC h fun u3 h4 h=>?_
    refine AWP.ret ?_
    exact h
   ·refine AWP.skip (As (fun env pv hp=>∃ x1 x2 x3 x10 x11 x12,Sub (w8 E0 12 (sI x12) 11 (sB x11) 10 (sB x10) 4 (sV x4) 3 (sI x3) 2 (sI x2) 1 (sI x1) 0 (sS x0a x0n x0c)) env∧Sub V0 pv∧F138_j3 x0a x0n x0c x1 x2 x3 x4 x10 x11 x12 hp I2 K) ?_ ?_)
    ·refine Ar F138_r27 ?_ (r8 10 0 1 2 3 4 11 12 Rn) (z8 Sn) Sn
     refine Ac h rfl (fun h=>?_) (fun h=>?_)
     ·refine Ar (F138_r28 rfl) ?_ (r8 0 1 2 4 3 10 11 12 Rn) (z8 Sn) Sn
      refine mC h fun u41 h42 h=>?_
      refine Ag F138_r29 ?_ (r8 3 0 1 2 4 10 11 12 Rn) (z8 Sn) Sn
      exact ⟨_,_,_,_,_,_,(z8 Sn),Sn,h⟩
     ·refine AWP.skip ?_
      exact ⟨_,_,_,_,_,_,(z8 Sn),Sn,h⟩
    ·rintro env pv hp ⟨x1,x2,x3,x10,x11,x12,he,hv,h⟩
     refine Ae ?_ (r8 0 1 2 3 4 10 11 12 Rn) he hv
     unfold F138_j3 at h
     refine Ar (F138_r6 rfl) ?_ (r8 0 1 2 4 3 10 11 12 Rn) (z8 Sn) Sn
     refine mC h fun u5 h6 h=>mT h fun u7 u8 h=>mI h fun i9 h=>mI h fun i10 h=>?_
     refine As (fun env pv hp=>∃ x1 x2 x3 x10 x11 x12 x13 x14,Sub (w2 (w8 E0 14 (sI x14) 13 (sI x13) 12 (sI x12) 11 (sB x11) 10 (sB x10) 4 (sV x4) 3 (sI x3) 2 (sI x2)) 1 (sI x1) 0 (sS x0a x0n x0c)) env∧Sub V0 pv∧F138_j4 x0a x0n x0c x1 x2 x3 x4 x10 x11 x12 x13 x14 hp I2 K) ?_ ?_
     ·refine Ar F138_r23 ?_ (r8 14 0 1 2 3 4 10 11 (r2 12 13 Rn)) (z2 (z8 Sn)) Sn
      refine Ac h rfl (fun h=>?_) (fun h=>?_)
      ·refine Ar (F138_r24 rfl) ?_ (r8 0 1 2 4 3 10 11 12 (r1 13 Rn)) (z1 (z8 Sn)) Sn
       refine mC h fun u39 h40 h=>?_
       refine Ar (F138_r25 rfl) ?_ (r8 1 2 13 0 3 4 10 11 (r1 12 Rn)) (z1 (z8 Sn)) Sn
       refine Ag F138_r26 ?_ (r8 0 1 2 3 4 10 11 12 (r1 13 Rn)) (z1 (z8 Sn)) Sn
       exact ⟨_,_,_,_,_,_,_,_,(z2 (z8 Sn)),Sn,h⟩
      ·refine AWP.skip ?_
       exact ⟨_,_,_,_,_,_,_,_,(z2 (z8 Sn)),Sn,h⟩
     ·rintro env pv hp ⟨x1,x2,x3,x10,x11,x12,x13,x14,he,hv,h⟩
      refine Ae ?_ (r8 0 1 2 3 4 10 11 12 (r2 13 14 Rn)) he hv
      unfold F138_j4 at h
      refine As (fun env pv hp=>∃ x1 x2 x3 x10 x11 x12 x13,Sub (upd (w8 E0 13 (sI x13) 12 (sI x12) 11 (sB x11) 10 (sB x10) 4 (sV x4) 3 (sI x3) 2 (sI x2) 1 (sI x1)) 0 (sS x0a x0n x0c)) env∧Sub V0 pv∧F138_j5 x0a x0n x0c x1 x2 x3 x4 x10 x11 x12 x13 hp I2 K) ?_ ?_
      ·refine As (fun env pv hp=>∃ x1 x2 x3 x10 x11 x12 x13 x75,Sub (w2 (w8 E0 75 (sB x75) 13 (sI x13) 12 (sI x12) 11 (sB x11) 10 (sB x10) 4 (sV x4) 3 (sI x3) 2 (sI x2)) 1 (sI x1) 0 (sS x0a x0n x0c)) env∧Sub V0 pv∧F138_j7 x0a x0n x0c x1 x2 x3 x4 x10 x11 x12 x13 x75 hp I2 K) ?_ ?_
       ·refine Ag (F138_r22 rfl) ?_ (r8 10 11 14 0 1 2 3 4 (r2 12 13 Rn)) (z2 (z8 Sn)) Sn
        refine mt h (fun h=>?_) (fun h=>?_)
        ·refine mt h (fun h=>?_) (fun h=>?_)
         ·exact ⟨_,_,_,_,_,_,_,_,(z2 (z8 Sn)),Sn,h⟩
         ·exact ⟨_,_,_,_,_,_,_,_,(z2 (z8 Sn)),Sn,h⟩
        ·exact ⟨_,_,_,_,_,_,_,_,(z2 (z8 Sn)),Sn,h⟩
       ·rintro env pv hp ⟨x1,x2,x3,x10,x11,x12,x13,x75,he,hv,h⟩
        refine Ae ?_ (r8 0 1 2 3 4 10 11 12 (r2 13 75 Rn)) he hv
        unfold F138_j7 at h
        refine Ac h rfl (fun h=>?_) (fun h=>?_)
        ·refine Ar (F138_r21 rfl) ?_ (r8 0 1 2 4 3 10 11 12 (r1 13 Rn)) (z1 (z8 Sn)) Sn
         refine mC h fun u36 h37 h=>mB h fun q38 h=>?_
         refine Ac h rfl (fun h=>?_) (fun h=>?_)
         ·refine AWP.ret ?_
          exact h
         ·refine AWP.skip ?_
          exact ⟨_,_,_,_,_,_,_,(z1 (z8 Sn)),Sn,h⟩
        ·refine AWP.skip ?_
         exact ⟨_,_,_,_,_,_,_,(z1 (z8 Sn)),Sn,h⟩
      ·rintro env pv hp ⟨x1,x2,x3,x10,x11,x12,x13,he,hv,h⟩
       refine Ae ?_ (r8 0 1 2 3 4 10 11 12 (r1 13 Rn)) he hv
       unfold F138_j5 at h
       refine Aq (As (fun env pv hp=>∃ x1 x2 x3 x10 x11 x12 x13 x97,Sub (w2 (w8 E0 97 (sB x97) 13 (sI x13) 12 (sI x12) 11 (sB x11) 10 (sB x10) 4 (sV x4) 3 (sI x3) 2 (sI x2)) 1 (sI x1) 0 (sS x0a x0n x0c)) env∧Sub V0 pv∧F138_j6 x0a x0n x0c x1 x2 x3 x4 x10 x11 x12 x13 x97 hp I2 K) ?_ ?_)
       ·refine AWP.rgnD (by kernel_rfl) (by kernel_rfl) (F138_r20 rfl) ?_ (r8 0 1 4 13 2 3 10 11 (r1 12 Rn)) (z1 (z8 Sn)) Sn
        refine mt h (fun h=>?_) (fun h=>?_)
        ·refine ⟨h.1,h.2.1,mN h.2.2 (fun b24 o25 h=>mL h (fun l26 h=>⟨h.1,h.2.1,mN h.2.2 fun b27 o28 h=>mL h fun l29 h=>mF h fun f30 ga_31 gb_32 h=>mC h fun u33 h34 h=>mI h fun i35 h=>?_⟩))⟩
         exact ⟨_,_,_,_,_,_,_,_,(z2 (z8 Sn)),Sn,h⟩
        ·exact ⟨_,_,_,_,_,_,_,_,(z2 (z8 Sn)),Sn,h⟩
       ·rintro env pv hp ⟨x1,x2,x3,x10,x11,x12,x13,x97,he,hv,h⟩
        refine Ae ?_ (r8 0 1 2 3 4 10 11 12 (r2 13 97 Rn)) he hv
        unfold F138_j6 at h
        refine Ac h rfl (fun h=>?_) (fun h=>?_)
        ·refine Ar (F138_r7 rfl) ?_ (r8 0 1 2 4 13 3 10 11 Rn) (z8 Sn) Sn
         refine mC h fun u11 h12 h=>mI h fun i13 h=>?_
         refine Ar F138_r8 ?_ (r7 15 0 2 3 4 10 11 Rn) (z7 Sn) Sn
         refine AWP.exit ?_
         exact ⟨_,(z7 Sn),Sn,h⟩
        ·refine AWP.skip (Ar (F138_r9 rfl) ?_ (r7 0 1 2 4 13 3 12 Rn) (z7 Sn) Sn)
         refine mC h fun u14 h15 h=>mT h fun u16 u17 h=>mI h fun i18 h=>mB h fun q19 h=>?_
         refine Ar F138_r10 ?_ (r8 17 0 1 2 3 4 12 16 Rn) (z8 Sn) Sn
         refine Ar (F138_r11 rfl) ?_ (r8 1 2 16 0 3 4 11 12 Rn) (z8 Sn) Sn
         refine Ar F138_r12 ?_ (r8 12 0 1 2 3 4 11 16 (r2 18 19 Rn)) (z2 (z8 Sn)) Sn
         refine ⟨h.1,?_⟩
         replace h:=h.2
         refine Ar F138_r13 ?_ (r8 18 19 0 1 2 3 4 11 (r2 16 20 Rn)) (z2 (z8 Sn)) Sn
         refine Ac h rfl (fun h=>?_) (fun h=>?_)
         ·refine Ar F138_r14 ?_ (r8 18 20 0 1 2 3 4 11 (r1 16 Rn)) (z1 (z8 Sn)) Sn
          refine Ar (F138_r15 rfl) ?_ (r8 0 1 3 4 16 2 10 11 Rn) (z8 Sn) Sn
          refine mC h fun u20 h21 h=>?_
          refine Ag F138_r16 ?_ (r7 16 0 2 3 4 10 11 Rn) (z7 Sn) Sn
          exact ⟨_,(z7 Sn),Sn,h⟩
         ·refine Ar F138_r17 ?_ (r8 19 20 0 1 2 3 4 11 (r1 16 Rn)) (z1 (z8 Sn)) Sn
          refine Ar (F138_r18 rfl) ?_ (r8 0 2 3 4 16 1 10 11 Rn) (z8 Sn) Sn
          refine mC h fun u22 h23 h=>?_
          refine Ag F138_r19 ?_ (r7 16 0 1 3 4 10 11 Rn) (z7 Sn) Sn
          exact ⟨_,(z7 Sn),Sn,h⟩
end
section
variable {e E:Env} {x0a:OA} {x0n x0c:Nat} {x1 x2 x8:Int} {x9:OA} {x10 x11 x12:Int} {hp:HP} {K:Env→PV→HP→Prop}
abbrev R162 (p n:Nat):=RW Tryd.prog 67 [] (opsAt Tryd.f162 (pth p)) (List.range n)
theorem F162_r0:R162 2 4 (w2 e 2 (sI x2) 1 (sI x1)) V0 hp K=
 K (w6 e 2 (sI x2) 1 (sI x1) 13 (sI x2) 14 (sI x1) 15 (sI ((wr (x2-x1)))) 8 (sI ((wr (x2-x1))))) V0 hp:= by kernel_rfl
theorem F162_r1:R162 5 2 (upd e 8 (sI x8)) V0 hp K=
 K (w3 e 8 (sI x8) 16 (sI x8) 17 (sB (decide (x8≥8)))) V0 hp:= by kernel_rfl
theorem F162_r2:R162 19 4 (upd e 8 (sI x8)) V0 hp K=
    (∀ b1:Nat,hp b1=.none→(HP.st (HP.set hp b1 (.cells 247 [.int .u64 0] 0)) b1 0 (.int .u64 (IntKind.wrap .u64 (x8))) fun h2=>K (w4 e 8 (sI x8) 18 (sI x8) 19 (sV (.int .u64 (IntKind.wrap .u64 (x8)))) 9 (sQ b1 0)) V0 h2)):=by kernel_rfl
theorem F162_r3:R162 43 3 (upd e 8 (sI x8)) V0 hp K=
 CF Tryd.prog 169 [(.int .i64 x8)] hp fun u1 h2=>(intV u1 .u64 fun i3=>K (w4 e 8 (sI x8) 20 (sI x8) 21 (sV (.int .u64 i3)) 10 (sV (.int .u64 i3))) V0 h2):= by kernel_rfl
theorem F162_r4 (h:E=upd (w2 e 11 (sI x11) 8 (sI x8)) 1 (sI x1)):R162 1083 8 E V0 hp K=
    (((4:Int)≠0)∧(K (w8 E 28 (sI x11) 29 (sI x1) 30 (sI x8) 31 (sI ((wr (Int.tdiv x8 4)))) 32 (sI ((wr ((wr (Int.tdiv x8 4))*2)))) 33 (sI ((wr (x1+(wr ((wr (Int.tdiv x8 4))*2)))))) 34 (sI ((wr ((wr (x1+(wr ((wr (Int.tdiv x8 4))*2))))+1)))) 35 (sB ((decide (x11≤(wr ((wr (x1+(wr ((wr (Int.tdiv x8 4))*2))))+1))))))) V0 hp)):=by subst h; kernel_rfl
theorem F162_r5 (h:E=upd (upd e 10 (sV (.int .u64 x10))) 9 (sP x9)):R162 4411 6 E V0 hp K=
 CF Tryd.prog 170 [(.pointer x9)] hp fun u1 h2=>(intV u1 .u64 fun i3=>K (w6 E 38 (sV (.int .u64 i3)) 39 (sV (.int .u64 x10)) 40 (sV (.int .u64 (IntKind.wrap .u64 (x10-1)))) 41 (sV (.int .u64 (band .u64 i3 (IntKind.wrap .u64 (x10-1))))) 42 (sI ((wr ((band .u64 i3 (IntKind.wrap .u64 (x10-1))))))) 12 (sI ((wr ((band .u64 i3 (IntKind.wrap .u64 (x10-1)))))))) V0 h2):= by subst h; kernel_rfl
theorem F162_r6 (h:E=upd (w3 e 12 (sI x12) 11 (sI x11) 1 (sI x1)) 0 (sS x0a x0n x0c)):R162 14651 20 E V0 hp K=
    ((0≤((wr (x1+x12)):Int))∧(((wr (x1+x12)):Int)<x0n)∧(ptrN x0a fun b1 o2=>ldL (HP.cellN hp b1 (o2+Int.toNat (wr (x1+x12))*9) 9) fun l3=>(0≤x11)∧(x11<x0n)∧(ptrN x0a fun b4 o5=>ldL (HP.cellN hp b4 (o5+Int.toNat x11*9) 9) fun l6=>(0≤x11)∧(x11<x0n)∧(ptrN x0a fun b7 o8=>(List.length l3=9)∧(HP.stN hp b7 (o8+Int.toNat x11*9) l3 fun h9=>(0≤((wr (x1+x12)):Int))∧(((wr (x1+x12)):Int)<x0n)∧(ptrN x0a fun b10 o11=>(List.length l6=9)∧(HP.stN h9 b10 (o11+Int.toNat (wr (x1+x12))*9) l6 fun h12=>K (w2 (w8 (w8 E 49 (sS x0a x0n x0c) 50 (sI x11) 51 (sS x0a x0n x0c) 52 (sI x1) 53 (sI x12) 54 (sI ((wr (x1+x12)))) 55 (sS x0a x0n x0c) 56 (sI x1)) 57 (sI x12) 58 (sI ((wr (x1+x12)))) 59 (sV (ptr b1 (o2+Int.toNat (wr (x1+x12))*9))) 60 (sA l3) 61 (sS x0a x0n x0c) 62 (sI x11) 63 (sQ b4 (o5+Int.toNat x11*9)) 64 (sA l6)) 65 (sQ b7 (o8+Int.toNat x11*9)) 66 (sV (ptr b10 (o11+Int.toNat (wr (x1+x12))*9)))) V0 h12))))))):=by subst h; kernel_rfl
theorem F162_r7:R162 1851 3 (upd e 11 (sI x11)) V0 hp K=
 K (w4 e 11 (sI x11) 36 (sI x11) 37 (sI ((wr (x11+1)))) 11 (sI ((wr (x11+1))))) V0 hp:= by kernel_rfl
def F162_j3 (x0a:OA) (x0n x0c:Nat) (x1 x8:Int) (x9:OA) (x10 x11 x12:Int) (hp:HP) (I2:(Int)→HP→Prop) (K:Kh):Prop:=
  ((0≤((IntKind.wrap .i64 (x1+x12)):Int))∧(((IntKind.wrap .i64 (x1+x12)):Int)<x0n)∧(ptrN x0a fun b9 o10=>ldL (HP.cellN hp b9 (o10+Int.toNat (IntKind.wrap .i64 (x1+x12))*9) 9) fun l11=>(0≤x11)∧(x11<x0n)∧(ptrN x0a fun b12 o13=>ldL (HP.cellN hp b12 (o13+Int.toNat x11*9) 9) fun l14=>(0≤x11)∧(x11<x0n)∧(ptrN x0a fun b15 o16=>(List.length l11=9)∧(HP.stN hp b15 (o16+Int.toNat x11*9) l11 fun h17=>(0≤((IntKind.wrap .i64 (x1+x12)):Int))∧(((IntKind.wrap .i64 (x1+x12)):Int)<x0n)∧(ptrN x0a fun b18 o19=>(List.length l14=9)∧(HP.stN h17 b18 (o19+Int.toNat (IntKind.wrap .i64 (x1+x12))*9) l14 fun h20=>I2 (IntKind.wrap .i64 (x11+1)) h20)))))))
theorem F162_r8:R162 18747 3 (w2 e 12 (sI x12) 8 (sI x8)) V0 hp K=
 K (w5 e 12 (sI x12) 8 (sI x8) 43 (sI x12) 44 (sI x8) 45 (sB (decide (x12≥x8)))) V0 hp:= by kernel_rfl
theorem F162_r9:R162 43323 4 (w2 e 12 (sI x12) 8 (sI x8)) V0 hp K=
 K (w6 e 12 (sI x12) 8 (sI x8) 46 (sI x12) 47 (sI x8) 48 (sI ((wr (x12-x8)))) 12 (sI ((wr (x12-x8))))) V0 hp:= by kernel_rfl
def F162_l2 (x0a:OA) (x0n x0c:Nat) (x1 x8:Int) (x9:OA) (x10:Int) (K:Kh) (I2:(Int)→HP→Prop) (x11:Int) (hp:HP):Prop:=
  (((4:Int)≠0)∧(ite2 (decide (x11≤(IntKind.wrap .i64 ((IntKind.wrap .i64 (x1+(IntKind.wrap .i64 ((IntKind.wrap .i64 (Int.tdiv x8 4))*2))))+1)))) (CF Tryd.prog 170 [(.pointer x9)] hp fun u6 h7=>intV u6 .u64 fun i8=>ite2 (decide (((IntKind.wrap .i64 ((band .u64 i8 (IntKind.wrap .u64 (x10-1))))):Int)≥x8)) (F162_j3 x0a x0n x0c x1 x8 x9 x10 x11 (IntKind.wrap .i64 ((IntKind.wrap .i64 ((band .u64 i8 (IntKind.wrap .u64 (x10-1)))))-x8)) h7 I2 K) (F162_j3 x0a x0n x0c x1 x8 x9 x10 x11 (IntKind.wrap .i64 ((band .u64 i8 (IntKind.wrap .u64 (x10-1))))) h7 I2 K)) (K (.tuple ⟨[]⟩) hp)))
def F162_j1 (x0a:OA) (x0n x0c:Nat) (x1 x8:Int) (x9:OA) (x10 x11:Int) (hp:HP) (K:Kh):Prop:=
  (LoopP (σ:=Int) (fun I s hp=>F162_l2 x0a x0n x0c x1 x8 x9 x10  K I s hp) x11 hp)
theorem F162_r10:R162 91 7 (w2 e 8 (sI x8) 1 (sI x1)) V0 hp K=
    (((4:Int)≠0)∧(K (upd (w8 e 8 (sI x8) 1 (sI x1) 22 (sI x1) 23 (sI x8) 24 (sI ((wr (Int.tdiv x8 4)))) 25 (sI ((wr ((wr (Int.tdiv x8 4))*2)))) 26 (sI ((wr (x1+(wr ((wr (Int.tdiv x8 4))*2)))))) 27 (sI ((wr ((wr (x1+(wr ((wr (Int.tdiv x8 4))*2))))-1))))) 11 (sI ((wr ((wr (x1+(wr ((wr (Int.tdiv x8 4))*2))))-1))))) V0 hp)):=by kernel_rfl
def F162 (x0a:OA) (x0n x0c:Nat) (x1 x2:Int) (x3:Value) (hp:HP) (K:Kh):Prop:=
  (ite2 (decide (((IntKind.wrap .i64 (x2-x1)):Int)≥8)) (∀ b1:Nat,hp b1=.none→(HP.st (HP.set hp b1 (.cells 247 [.int .u64 0] 0)) b1 0 (.int .u64 (IntKind.wrap .u64 ((IntKind.wrap .i64 (x2-x1))))) fun h2=>CF Tryd.prog 169 [(.int .i64 (IntKind.wrap .i64 (x2-x1)))] h2 fun u3 h4=>intV u3 .u64 fun i5=>((4:Int)≠0)∧(F162_j1 x0a x0n x0c x1 (IntKind.wrap .i64 (x2-x1)) (some ⟨b1,0,none⟩) i5 (IntKind.wrap .i64 ((IntKind.wrap .i64 (x1+(IntKind.wrap .i64 ((IntKind.wrap .i64 (Int.tdiv (IntKind.wrap .i64 (x2-x1)) 4))*2))))-1)) h4  K))) (K (.tuple ⟨[]⟩) hp))
noncomputable abbrev o162 (k n:Nat):Code:=.region k (opsAt Tryd.f162 (pth n)) false
noncomputable def F162_code:Code:=(.seq (o162 0 2) (.seq (o162 1 5) (.cond (.tmp 17) (.seq (o162 2 19) (.seq (o162 3 43) (.seq (o162 4 91) (.block 0 (.loop (.seq (.seq (o162 5 1083) (.cond (.tmp 35) .skip (.exit 0))) (.seq (.block 1 (.seq (o162 7 4411) (.seq (.seq (o162 8 18747) (.cond (.tmp 45) (o162 9 43323) .skip)) (.region 10 (opsAt Tryd.f162 (pth 14651)) true)))) (o162 6 1851)))))))) .skip)))
theorem F162_body:Tryd.f162.body=some F162_code:=by kernel_rfl
theorem F162_ok (x0a:OA) (x0n x0c:Nat) (x1 x2:Int) (x3:Value) (hp:HP) (K:Kh) (h:F162 x0a x0n x0c x1 x2 x3 hp K):CF Tryd.prog 162 [(.slice x0a x0n x0c),(.int .i64 x1),(.int .i64 x2),x3] hp K:=by
 refine .inl ⟨by kernel_rfl,AC.intro (N:=67) Tryd.func162 F162_body rfl (Nat.le_of_ble_eq_true rfl) ?_⟩
 unfold F162 at h
 refine Ar F162_r0 ?_ (r3 1 2 0 Rn) (z3 Sn) Sn
 refine Ar F162_r1 ?_ (r3 8 0 1 Rn) (z3 Sn) Sn
 refine Ac h rfl (fun h=>?_) (fun h=>?_)
 ·refine Ar F162_r2 ?_ (r3 8 0 1 Rn) (z3 Sn) Sn
  refine fun b1 hb_b_1=>?_
  replace h:=h b1 hb_b_1
  refine mw h fun h2 h=>?_
  refine Ar F162_r3 ?_ (r4 8 0 1 9 Rn) (z4 Sn) Sn
  refine mC h fun u3 h4 h=>mI h fun i5 h=>?_
  refine As (fun env pv hp=>∃ x0a x0n x0c x1 x8 x9 x10 x11,Sub (w6 E0 11 (sI x11) 10 (sV (.int .u64 x10)) 9 (sP x9) 8 (sI x8) 1 (sI x1) 0 (sS x0a x0n x0c)) env∧Sub V0 pv∧F162_j1 x0a x0n x0c x1 x8 x9 x10 x11 hp  K) ?_ ?_
  ·refine Ag F162_r10 ?_ (r5 1 8 0 9 10 Rn) (z5 Sn) Sn
   refine ⟨h.1,?_⟩
   replace h:=h.2
   exact ⟨_,_,_,_,_,_,_,_,(z6 Sn),Sn,h⟩
  ·rintro env pv hp ⟨x0a,x0n,x0c,x1,x8,x9,x10,x11,he,hv,h⟩
   refine Ae ?_ (r6 0 1 8 9 10 11 Rn) he hv
   unfold F162_j1 at h
   refine AWP.block (AWP.loop (σ:=Int) _ (fun s=>w6 E0 11 (sI s) 10 (sV (.int .u64 x10)) 9 (sP x9) 8 (sI x8) 1 (sI x1) 0 (sS x0a x0n x0c)) (fun s=>V0) x11 h (fun s=>r6 0 1 8 9 10 11 Rn) (z6 Sn) Sn ?_)
   intro I2 x11 hp h
   replace h:F162_l2 x0a x0n x0c x1 x8 x9 x10  K I2 x11 hp:=h
   unfold F162_l2 at h
   refine Aq (Ar (F162_r4 rfl) ?_ (r6 1 8 11 0 9 10 Rn) (z6 Sn) Sn)
   refine ⟨h.1,?_⟩
   replace h:=h.2
   refine Ac h rfl (fun h=>?_) (fun h=>?_)
   ·refine AWP.skip (Aq (AWP.block (Ar (F162_r5 rfl) ?_ (r6 9 10 0 1 8 11 Rn) (z6 Sn) Sn)))
    refine mC h fun u6 h7 h=>mI h fun i8 h=>?_
    refine As (fun env pv hp=>∃ x11 x12,Sub (w7 E0 12 (sI x12) 11 (sI x11) 10 (sV (.int .u64 x10)) 9 (sP x9) 8 (sI x8) 1 (sI x1) 0 (sS x0a x0n x0c)) env∧Sub V0 pv∧F162_j3 x0a x0n x0c x1 x8 x9 x10 x11 x12 hp I2 K) ?_ ?_
    ·refine Ar F162_r8 ?_ (r7 8 12 0 1 9 10 11 Rn) (z7 Sn) Sn
     refine Ac h rfl (fun h=>?_) (fun h=>?_)
     ·refine Ag F162_r9 ?_ (r7 8 12 0 1 9 10 11 Rn) (z7 Sn) Sn
      exact ⟨_,_,(z7 Sn),Sn,h⟩
     ·refine AWP.skip ?_
      exact ⟨_,_,(z7 Sn),Sn,h⟩
    ·rintro env pv hp ⟨x11,x12,he,hv,h⟩
     refine Ae ?_ (r7 0 1 8 9 10 11 12 Rn) he hv
     unfold F162_j3 at h
     refine AWP.rgnD (by kernel_rfl) (by kernel_rfl) (F162_r6 rfl) ?_ (r7 0 1 11 12 8 9 10 Rn) (z7 Sn) Sn
     refine ⟨h.1,h.2.1,mN h.2.2 (fun b9 o10 h=>mL h (fun l11 h=>⟨h.1,h.2.1,mN h.2.2 (fun b12 o13 h=>mL h (fun l14 h=>⟨h.1,h.2.1,mN h.2.2 (fun b15 o16 h=>⟨h.1,mW h.2 (fun h17 h=>⟨h.1,h.2.1,mN h.2.2 (fun b18 o19 h=>⟨h.1,mW h.2 fun h20 h=>?_⟩)⟩)⟩)⟩))⟩))⟩
     refine Ag F162_r7 ?_ (r6 11 0 1 8 9 10 Rn) (z6 Sn) Sn
     exact ⟨_,(z6 Sn),Sn,h⟩
   ·refine AWP.exit ?_
    exact h
 ·refine AWP.skip ?_
  exact h
end
section
variable {e E:Env} {x0a:OA} {x0n x0c:Nat} {x1 x2:Int} {x3:Value} {x10:Int} {x11:OA} {x12 x13 x14 x55:Int} {hp:HP} {K:Env→PV→HP→Prop}
abbrev R163 (p n:Nat):=RW Tryd.prog 63 [] (opsAt Tryd.f163 (pth p)) (List.range n)
theorem F163_r0:R163 2 2 e V0 hp K=
 K (w2 e 8 (sI 0) 9 (sI 0)) V0 hp:= by kernel_rfl
theorem F163_r1:R163 5 4 (w2 e 2 (sI x2) 1 (sI x1)) V0 hp K=
 K (w6 e 2 (sI x2) 1 (sI x1) 15 (sI x2) 16 (sI x1) 17 (sI ((wr (x2-x1)))) 10 (sI ((wr (x2-x1))))) V0 hp:= by kernel_rfl
theorem F163_r2:R163 11 1 e V0 hp K=
    (∀ b1:Nat,hp b1=.none→(K (upd e 11 (sQ b1 0)) V0 (HP.set hp b1 (.cells 3 [.int .i64 0] 0)))):=by kernel_rfl
theorem F163_r3:R163 23 6 (w2 e 10 (sI x10) 1 (sI x1)) V0 hp K=
    (((4:Int)≠0)∧(K (w8 e 10 (sI x10) 1 (sI x1) 18 (sI x1) 19 (sI x10) 20 (sI ((wr (Int.tdiv x10 4)))) 21 (sI ((wr ((wr (Int.tdiv x10 4))*1)))) 22 (sI ((wr (x1+(wr ((wr (Int.tdiv x10 4))*1)))))) 12 (sI ((wr (x1+(wr ((wr (Int.tdiv x10 4))*1))))))) V0 hp)):=by kernel_rfl
theorem F163_r4:R163 47 6 (w2 e 10 (sI x10) 1 (sI x1)) V0 hp K=
    (((4:Int)≠0)∧(K (w8 e 10 (sI x10) 1 (sI x1) 23 (sI x1) 24 (sI x10) 25 (sI ((wr (Int.tdiv x10 4)))) 26 (sI ((wr ((wr (Int.tdiv x10 4))*2)))) 27 (sI ((wr (x1+(wr ((wr (Int.tdiv x10 4))*2)))))) 13 (sI ((wr (x1+(wr ((wr (Int.tdiv x10 4))*2))))))) V0 hp)):=by kernel_rfl
theorem F163_r5:R163 95 6 (w2 e 10 (sI x10) 1 (sI x1)) V0 hp K=
    (((4:Int)≠0)∧(K (w8 e 10 (sI x10) 1 (sI x1) 28 (sI x1) 29 (sI x10) 30 (sI ((wr (Int.tdiv x10 4)))) 31 (sI ((wr ((wr (Int.tdiv x10 4))*3)))) 32 (sI ((wr (x1+(wr ((wr (Int.tdiv x10 4))*3)))))) 14 (sI ((wr (x1+(wr ((wr (Int.tdiv x10 4))*3))))))) V0 hp)):=by kernel_rfl
theorem F163_r6:R163 383 1 (upd e 11 (sP x11)) V0 hp K=
 ptrN x11 fun b1 o2=>(ldV (HP.cell hp b1 o2) fun v3=>intV v3 .i64 fun i4=>K (w2 e 11 (sP x11) 55 (sI i4)) V0 hp):= by kernel_rfl
theorem F163_r7:R163 1279 2 (upd e 55 (sI x55)) V0 hp K=
 K (w3 e 55 (sI x55) 58 (sB ((x55==0))) 57 (sB ((x55==0)))) V0 hp:= by kernel_rfl
theorem F163_r8:R163 4863 3 (upd e 13 (sI x13)) V0 hp K=
 K (w4 e 13 (sI x13) 59 (sI x13) 8 (sI x13) 9 (sI 1)) V0 hp:= by kernel_rfl
theorem F163_r9:R163 5887 2 (upd e 55 (sI x55)) V0 hp K=
 K (w3 e 55 (sI x55) 61 (sB ((x55==12))) 60 (sB ((x55==12)))) V0 hp:= by kernel_rfl
theorem F163_r10:R163 20223 3 (upd e 13 (sI x13)) V0 hp K=
 K (w4 e 13 (sI x13) 62 (sI x13) 8 (sI x13) 9 (sI 2)) V0 hp:= by kernel_rfl
theorem F163_r11:R163 24319 3 (upd e 13 (sI x13)) V0 hp K=
 K (w4 e 13 (sI x13) 56 (sI x13) 8 (sI x13) 9 (sI 0)) V0 hp:= by kernel_rfl
def F163_j1 (x11:OA) (x13:Int) (hp:HP) (K:Kh):Prop:=
  (ptrN x11 fun b2 o3=>ldV (HP.cell hp b2 o3) fun v4=>intV v4 .i64 fun i5=>ite2 (i5==0) (K (.tuple ⟨[(.int .i64 x13),(.int .i64 1)]⟩) hp) (ite2 (i5==12) (K (.tuple ⟨[(.int .i64 x13),(.int .i64 2)]⟩) hp) (K (.tuple ⟨[(.int .i64 x13),.int .i64 0]⟩) hp)))
theorem F163_r12:R163 319 2 (upd e 10 (sI x10)) V0 hp K=
 K (w3 e 10 (sI x10) 33 (sI x10) 34 (sB (decide (x10≥8)))) V0 hp:= by kernel_rfl
theorem F163_r13 (h:E=upd (w5 e 14 (sI x14) 13 (sI x13) 12 (sI x12) 11 (sP x11) 3 (sV x3)) 0 (sS x0a x0n x0c)):R163 1727 7 E V0 hp K=
 CF Tryd.prog 184 [(.slice x0a x0n x0c),(.int .i64 x12),(.int .i64 x13),(.int .i64 x14),(.pointer x11),x3] hp fun u1 h2=>(intV u1 .i64 fun i3=>K (w7 E 49 (sS x0a x0n x0c) 50 (sI x12) 51 (sI x13) 52 (sI x14) 53 (sV x3) 54 (sI i3) 13 (sI i3)) V0 h2):= by subst h; kernel_rfl
def F163_j2 (x0a:OA) (x0n x0c:Nat) (x3:Value) (x11:OA) (x12 x13 x14:Int) (hp:HP) (K:Kh):Prop:=
  (CF Tryd.prog 184 [(.slice x0a x0n x0c),(.int .i64 x12),(.int .i64 x13),(.int .i64 x14),(.pointer x11),x3] hp fun u6 h7=>intV u6 .i64 fun i8=>F163_j1 x11 i8 h7  K)
theorem F163_r14:R163 2239 2 (upd e 10 (sI x10)) V0 hp K=
 K (w3 e 10 (sI x10) 35 (sI x10) 36 (sB (decide (x10≥50)))) V0 hp:= by kernel_rfl
theorem F163_r15 (h:E=upd (w3 e 12 (sI x12) 11 (sP x11) 3 (sV x3)) 0 (sS x0a x0n x0c)):R163 9407 5 E V0 hp K=
 CF Tryd.prog 183 [(.slice x0a x0n x0c),(.int .i64 x12),(.pointer x11),x3] hp fun u1 h2=>(intV u1 .i64 fun i3=>K (w5 E 37 (sS x0a x0n x0c) 38 (sI x12) 39 (sV x3) 40 (sI i3) 12 (sI i3)) V0 h2):= by subst h; kernel_rfl
theorem F163_r16 (h:E=upd (w3 e 13 (sI x13) 11 (sP x11) 3 (sV x3)) 0 (sS x0a x0n x0c)):R163 21695 5 E V0 hp K=
 CF Tryd.prog 183 [(.slice x0a x0n x0c),(.int .i64 x13),(.pointer x11),x3] hp fun u1 h2=>(intV u1 .i64 fun i3=>K (w5 E 41 (sS x0a x0n x0c) 42 (sI x13) 43 (sV x3) 44 (sI i3) 13 (sI i3)) V0 h2):= by subst h; kernel_rfl
theorem F163_r17 (h:E=upd (w3 e 14 (sI x14) 11 (sP x11) 3 (sV x3)) 0 (sS x0a x0n x0c)):R163 29887 5 E V0 hp K=
 CF Tryd.prog 183 [(.slice x0a x0n x0c),(.int .i64 x14),(.pointer x11),x3] hp fun u1 h2=>(intV u1 .i64 fun i3=>K (w5 E 45 (sS x0a x0n x0c) 46 (sI x14) 47 (sV x3) 48 (sI i3) 14 (sI i3)) V0 h2):= by subst h; kernel_rfl
def F163 (x0a:OA) (x0n x0c:Nat) (x1 x2:Int) (x3:Value) (hp:HP) (K:Kh):Prop:=
  (∀ b1:Nat,hp b1=.none→(((4:Int)≠0)∧(((4:Int)≠0)∧(((4:Int)≠0)∧(ite2 (decide (((IntKind.wrap .i64 (x2-x1)):Int)≥8)) (ite2 (decide (((IntKind.wrap .i64 (x2-x1)):Int)≥50)) (CF Tryd.prog 183 [(.slice x0a x0n x0c),(.int .i64 (IntKind.wrap .i64 (x1+(IntKind.wrap .i64 ((IntKind.wrap .i64 (Int.tdiv (IntKind.wrap .i64 (x2-x1)) 4))*1))))),(.pointer (some ⟨b1,0,none⟩)),x3] (HP.set hp b1 (.cells 3 [.int .i64 0] 0)) fun u9 h10=>intV u9 .i64 fun i11=>CF Tryd.prog 183 [(.slice x0a x0n x0c),(.int .i64 (IntKind.wrap .i64 (x1+(IntKind.wrap .i64 ((IntKind.wrap .i64 (Int.tdiv (IntKind.wrap .i64 (x2-x1)) 4))*2))))),(.pointer (some ⟨b1,0,none⟩)),x3] h10 fun u12 h13=>intV u12 .i64 fun i14=>CF Tryd.prog 183 [(.slice x0a x0n x0c),(.int .i64 (IntKind.wrap .i64 (x1+(IntKind.wrap .i64 ((IntKind.wrap .i64 (Int.tdiv (IntKind.wrap .i64 (x2-x1)) 4))*3))))),(.pointer (some ⟨b1,0,none⟩)),x3] h13 fun u15 h16=>intV u15 .i64 fun i17=>F163_j2 x0a x0n x0c x3 (some ⟨b1,0,none⟩) i11 i14 i17 h16  K) (F163_j2 x0a x0n x0c x3 (some ⟨b1,0,none⟩) (IntKind.wrap .i64 (x1+(IntKind.wrap .i64 ((IntKind.wrap .i64 (Int.tdiv (IntKind.wrap .i64 (x2-x1)) 4))*1)))) (IntKind.wrap .i64 (x1+(IntKind.wrap .i64 ((IntKind.wrap .i64 (Int.tdiv (IntKind.wrap .i64 (x2-x1)) 4))*2)))) (IntKind.wrap .i64 (x1+(IntKind.wrap .i64 ((IntKind.wrap .i64 (Int.tdiv (IntKind.wrap .i64 (x2-x1)) 4))*3)))) (HP.set hp b1 (.cells 3 [.int .i64 0] 0))  K)) (F163_j1 (some ⟨b1,0,none⟩) (IntKind.wrap .i64 (x1+(IntKind.wrap .i64 ((IntKind.wrap .i64 (Int.tdiv (IntKind.wrap .i64 (x2-x1)) 4))*2)))) (HP.set hp b1 (.cells 3 [.int .i64 0] 0))  K))))))
noncomputable abbrev o163 (k n:Nat):Code:=.region k (opsAt Tryd.f163 (pth n)) false
noncomputable def F163_code:Code:=(.seq (o163 0 2) (.seq (o163 1 5) (.seq (o163 2 11) (.seq (o163 3 23) (.seq (o163 4 47) (.seq (o163 5 95) (.seq (.seq (o163 6 319) (.cond (.tmp 34) (.seq (.seq (o163 7 2239) (.cond (.tmp 36) (.seq (o163 8 9407) (.seq (o163 9 21695) (o163 10 29887))) .skip)) (o163 11 1727)) .skip)) (.seq (o163 12 383) (.block 0 (.seq (o163 14 1279) (.cond (.tmp 57) (.seq (o163 15 4863) .ret) (.seq (o163 16 5887) (.cond (.tmp 60) (.seq (o163 17 20223) .ret) (.seq (o163 13 24319) .ret))))))))))))))
theorem F163_body:Tryd.f163.body=some F163_code:=by kernel_rfl
theorem F163_ok (x0a:OA) (x0n x0c:Nat) (x1 x2:Int) (x3:Value) (hp:HP) (K:Kh) (h:F163 x0a x0n x0c x1 x2 x3 hp K):CF Tryd.prog 163 [(.slice x0a x0n x0c),(.int .i64 x1),(.int .i64 x2),x3] hp K:=by
 refine .inl ⟨by kernel_rfl,AC.intro (N:=63) Tryd.func163 F163_body rfl (Nat.le_of_ble_eq_true rfl) ?_⟩
 unfold F163 at h
 refine Ar F163_r0 ?_ (r4 0 1 2 3 Rn) (z4 Sn) Sn
 refine Ar F163_r1 ?_ (r4 1 2 0 3 Rn) (z4 Sn) Sn
 refine Ar F163_r2 ?_ (r4 0 1 3 10 Rn) (z4 Sn) Sn
 refine fun b1 hb_b_1=>?_
 replace h:=h b1 hb_b_1
 refine Ar F163_r3 ?_ (r5 1 10 0 3 11 Rn) (z5 Sn) Sn
 refine ⟨h.1,?_⟩
 replace h:=h.2
 refine Ar F163_r4 ?_ (r6 1 10 0 3 11 12 Rn) (z6 Sn) Sn
 refine ⟨h.1,?_⟩
 replace h:=h.2
 refine Ar F163_r5 ?_ (r7 1 10 0 3 11 12 13 Rn) (z7 Sn) Sn
 refine ⟨h.1,?_⟩
 replace h:=h.2
 refine As (fun env pv hp=>∃ x11 x13,Sub (w2 E0 13 (sI x13) 11 (sP x11)) env∧Sub V0 pv∧F163_j1 x11 x13 hp  K) ?_ ?_
 ·refine Ar F163_r12 ?_ (r7 10 0 3 11 12 13 14 Rn) (z7 Sn) Sn
  refine Ac h rfl (fun h=>?_) (fun h=>?_)
  ·refine As (fun env pv hp=>∃ x0a x0n x0c x3 x11 x12 x13 x14,Sub (w6 E0 14 (sI x14) 13 (sI x13) 12 (sI x12) 11 (sP x11) 3 (sV x3) 0 (sS x0a x0n x0c)) env∧Sub V0 pv∧F163_j2 x0a x0n x0c x3 x11 x12 x13 x14 hp  K) ?_ ?_
   ·refine Ar F163_r14 ?_ (r7 10 0 3 11 12 13 14 Rn) (z7 Sn) Sn
    refine Ac h rfl (fun h=>?_) (fun h=>?_)
    ·refine Ar (F163_r15 rfl) ?_ (r6 0 3 11 12 13 14 Rn) (z6 Sn) Sn
     refine mC h fun u9 h10 h=>mI h fun i11 h=>?_
     refine Ar (F163_r16 rfl) ?_ (r6 0 3 11 13 12 14 Rn) (z6 Sn) Sn
     refine mC h fun u12 h13 h=>mI h fun i14 h=>?_
     refine Ag (F163_r17 rfl) ?_ (r6 0 3 11 14 12 13 Rn) (z6 Sn) Sn
     refine mC h fun u15 h16 h=>mI h fun i17 h=>?_
     exact ⟨_,_,_,_,_,_,_,_,(z6 Sn),Sn,h⟩
    ·refine AWP.skip ?_
     exact ⟨_,_,_,_,_,_,_,_,(z6 Sn),Sn,h⟩
   ·rintro env pv hp ⟨x0a,x0n,x0c,x3,x11,x12,x13,x14,he,hv,h⟩
    refine Ae ?_ (r6 0 3 11 12 13 14 Rn) he hv
    unfold F163_j2 at h
    refine Ag (F163_r13 rfl) ?_ (r6 0 3 11 12 13 14 Rn) (z6 Sn) Sn
    refine mC h fun u6 h7 h=>mI h fun i8 h=>?_
    exact ⟨_,_,(z2 Sn),Sn,h⟩
  ·refine AWP.skip ?_
   exact ⟨_,_,(z2 Sn),Sn,h⟩
 ·rintro env pv hp ⟨x11,x13,he,hv,h⟩
  refine Ae ?_ (r2 11 13 Rn) he hv
  unfold F163_j1 at h
  refine Ar F163_r6 ?_ (r2 11 13 Rn) (z2 Sn) Sn
  refine mN h fun b2 o3 h=>mV h fun v4 h=>mI h fun i5 h=>?_
  refine AWP.block (Ar F163_r7 ?_ (r2 55 13 Rn) (z2 Sn) Sn)
  refine Ac h rfl (fun h=>?_) (fun h=>?_)
  ·refine Ar F163_r8 ?_ (r1 13 Rn) (z1 Sn) Sn
   refine AWP.ret ?_
   exact h
  ·refine Ar F163_r9 ?_ (r2 55 13 Rn) (z2 Sn) Sn
   refine Ac h rfl (fun h=>?_) (fun h=>?_)
   ·refine Ar F163_r10 ?_ (r1 13 Rn) (z1 Sn) Sn
    refine AWP.ret ?_
    exact h
   ·refine Ar F163_r11 ?_ (r1 13 Rn) (z1 Sn) Sn
    refine AWP.ret ?_
    exact h
end
section
variable {e E:Env} {x0a:OA} {x0n x0c:Nat} {x1:Int} {x2:OA} {x3:Value} {hp:HP} {K:Env→PV→HP→Prop}
abbrev R183 (p n:Nat):=RW Tryd.prog 18 [] (opsAt Tryd.f183 (pth p)) (List.range n)
theorem F183_r0:R183 2 1 e V0 hp K=
 K (upd e 8 (sI 0)) V0 hp:= by kernel_rfl
theorem F183_r1 (h:E=upd (w3 e 3 (sV x3) 2 (sP x2) 1 (sI x1)) 0 (sS x0a x0n x0c)):R183 5 10 E V0 hp K=
 CF Tryd.prog 184 [(.slice x0a x0n x0c),(.int .i64 (wr (x1-1))),(.int .i64 x1),(.int .i64 (wr (x1+1))),(.pointer x2),x3] hp fun u1 h2=>(intV u1 .i64 fun i3=>K (w2 (w8 E 9 (sS x0a x0n x0c) 10 (sI x1) 11 (sI ((wr (x1-1)))) 12 (sI x1) 13 (sI x1) 14 (sI ((wr (x1+1)))) 15 (sP x2) 16 (sV x3)) 17 (sI i3) 8 (sI i3)) V0 h2):= by subst h; kernel_rfl
def F183 (x0a:OA) (x0n x0c:Nat) (x1:Int) (x2:OA) (x3:Value) (hp:HP) (K:Kh):Prop:=
  (CF Tryd.prog 184 [(.slice x0a x0n x0c),(.int .i64 (IntKind.wrap .i64 (x1-1))),(.int .i64 x1),(.int .i64 (IntKind.wrap .i64 (x1+1))),(.pointer x2),x3] hp fun u1 h2=>intV u1 .i64 fun i3=>K (.int .i64 i3) h2)
noncomputable def F183_code:Code:=(.seq (.region 0 (opsAt Tryd.f183 (pth 2)) false) (.seq (.region 1 (opsAt Tryd.f183 (pth 5)) false) .ret))
theorem F183_body:Tryd.f183.body=some F183_code:=by kernel_rfl
theorem F183_ok (x0a:OA) (x0n x0c:Nat) (x1:Int) (x2:OA) (x3:Value) (hp:HP) (K:Kh) (h:F183 x0a x0n x0c x1 x2 x3 hp K):CF Tryd.prog 183 [(.slice x0a x0n x0c),(.int .i64 x1),(.pointer x2),x3] hp K:=by
 refine .inl ⟨by kernel_rfl,AC.intro (N:=18) Tryd.func183 F183_body rfl (Nat.le_of_ble_eq_true rfl) ?_⟩
 unfold F183 at h
 refine Ar F183_r0 ?_ (r4 0 1 2 3 Rn) (z4 Sn) Sn
 refine Ar (F183_r1 rfl) ?_ (r4 0 1 2 3 Rn) (z4 Sn) Sn
 refine mC h fun u1 h2 h=>mI h fun i3 h=>?_
 refine AWP.ret ?_
 exact h
end
section
variable {e E:Env} {x0a:OA} {x0n x0c:Nat} {x1 x2 x3:Int} {x4:OA} {x5:Value} {hp:HP} {K:Env→PV→HP→Prop}
abbrev R184 (p n:Nat):=RW Tryd.prog 41 [] (opsAt Tryd.f184 (pth p)) (List.range n)
theorem F184_r0:R184 2 1 e V0 hp K=
 K (upd e 12 (sI 0)) V0 hp:= by kernel_rfl
theorem F184_r1 (h:E=upd (w4 e 5 (sV x5) 4 (sP x4) 2 (sI x2) 1 (sI x1)) 0 (sS x0a x0n x0c)):R184 5 11 E V0 hp K=
 CF Tryd.prog 192 [(.slice x0a x0n x0c),(.int .i64 x1),(.int .i64 x2),(.pointer x4),x5] hp fun u1 h2=>(tup2V u1 fun u3 u4=>intV u3 .i64 fun i5=>intV u4 .i64 fun i6=>K (w3 (w8 E 14 (sS x0a x0n x0c) 15 (sI x1) 16 (sI x2) 17 (sP x4) 18 (sV x5) 19 (sV (.tuple ⟨[(.int .i64 i5),(.int .i64 i6)]⟩)) 13 (sV (.tuple ⟨[(.int .i64 i5),(.int .i64 i6)]⟩)) 20 (sI i5)) 21 (sI i6) 1 (sI i5) 2 (sI i6)) V0 h2):= by subst h; kernel_rfl
theorem F184_r2 (h:E=upd (w4 e 5 (sV x5) 4 (sP x4) 3 (sI x3) 2 (sI x2)) 0 (sS x0a x0n x0c)):R184 11 11 E V0 hp K=
 CF Tryd.prog 192 [(.slice x0a x0n x0c),(.int .i64 x2),(.int .i64 x3),(.pointer x4),x5] hp fun u1 h2=>(tup2V u1 fun u3 u4=>intV u3 .i64 fun i5=>intV u4 .i64 fun i6=>K (w3 (w8 E 23 (sS x0a x0n x0c) 24 (sI x2) 25 (sI x3) 26 (sP x4) 27 (sV x5) 28 (sV (.tuple ⟨[(.int .i64 i5),(.int .i64 i6)]⟩)) 22 (sV (.tuple ⟨[(.int .i64 i5),(.int .i64 i6)]⟩)) 29 (sI i5)) 30 (sI i6) 2 (sI i5) 3 (sI i6)) V0 h2):= by subst h; kernel_rfl
theorem F184_r3 (h:E=upd (w4 e 5 (sV x5) 4 (sP x4) 2 (sI x2) 1 (sI x1)) 0 (sS x0a x0n x0c)):R184 23 11 E V0 hp K=
 CF Tryd.prog 192 [(.slice x0a x0n x0c),(.int .i64 x1),(.int .i64 x2),(.pointer x4),x5] hp fun u1 h2=>(tup2V u1 fun u3 u4=>intV u3 .i64 fun i5=>intV u4 .i64 fun i6=>K (w3 (w8 E 32 (sS x0a x0n x0c) 33 (sI x1) 34 (sI x2) 35 (sP x4) 36 (sV x5) 37 (sV (.tuple ⟨[(.int .i64 i5),(.int .i64 i6)]⟩)) 31 (sV (.tuple ⟨[(.int .i64 i5),(.int .i64 i6)]⟩)) 38 (sI i5)) 39 (sI i6) 1 (sI i5) 2 (sI i6)) V0 h2):= by subst h; kernel_rfl
theorem F184_r4:R184 47 2 (upd e 2 (sI x2)) V0 hp K=
 K (w3 e 2 (sI x2) 40 (sI x2) 12 (sI x2)) V0 hp:= by kernel_rfl
def F184 (x0a:OA) (x0n x0c:Nat) (x1 x2 x3:Int) (x4:OA) (x5:Value) (hp:HP) (K:Kh):Prop:=
  (CF Tryd.prog 192 [(.slice x0a x0n x0c),(.int .i64 x1),(.int .i64 x2),(.pointer x4),x5] hp fun u1 h2=>tup2V u1 fun u3 u4=>intV u3 .i64 fun i5=>intV u4 .i64 fun i6=>CF Tryd.prog 192 [(.slice x0a x0n x0c),(.int .i64 i6),(.int .i64 x3),(.pointer x4),x5] h2 fun u7 h8=>tup2V u7 fun u9 u10=>intV u9 .i64 fun i11=>intV u10 .i64 fun i12=>CF Tryd.prog 192 [(.slice x0a x0n x0c),(.int .i64 i5),(.int .i64 i11),(.pointer x4),x5] h8 fun u13 h14=>tup2V u13 fun u15 u16=>intV u15 .i64 fun i17=>intV u16 .i64 fun i18=>K (.int .i64 i18) h14)
noncomputable def F184_code:Code:=(.seq (.region 0 (opsAt Tryd.f184 (pth 2)) false) (.seq (.region 1 (opsAt Tryd.f184 (pth 5)) false) (.seq (.region 2 (opsAt Tryd.f184 (pth 11)) false) (.seq (.region 3 (opsAt Tryd.f184 (pth 23)) false) (.seq (.region 4 (opsAt Tryd.f184 (pth 47)) false) .ret)))))
theorem F184_body:Tryd.f184.body=some F184_code:=by kernel_rfl
theorem F184_ok (x0a:OA) (x0n x0c:Nat) (x1 x2 x3:Int) (x4:OA) (x5:Value) (hp:HP) (K:Kh) (h:F184 x0a x0n x0c x1 x2 x3 x4 x5 hp K):CF Tryd.prog 184 [(.slice x0a x0n x0c),(.int .i64 x1),(.int .i64 x2),(.int .i64 x3),(.pointer x4),x5] hp K:=by
 refine .inl ⟨by kernel_rfl,AC.intro (N:=41) Tryd.func184 F184_body rfl (Nat.le_of_ble_eq_true rfl) ?_⟩
 unfold F184 at h
 refine Ar F184_r0 ?_ (r6 0 1 2 3 4 5 Rn) (z6 Sn) Sn
 refine Ar (F184_r1 rfl) ?_ (r6 0 1 2 4 5 3 Rn) (z6 Sn) Sn
 refine mC h fun u1 h2 h=>mT h fun u3 u4 h=>mI h fun i5 h=>mI h fun i6 h=>?_
 refine Ar (F184_r2 rfl) ?_ (r6 0 2 3 4 5 1 Rn) (z6 Sn) Sn
 refine mC h fun u7 h8 h=>mT h fun u9 u10 h=>mI h fun i11 h=>mI h fun i12 h=>?_
 refine Ar (F184_r3 rfl) ?_ (r5 0 1 2 4 5 Rn) (z5 Sn) Sn
 refine mC h fun u13 h14 h=>mT h fun u15 u16 h=>mI h fun i17 h=>mI h fun i18 h=>?_
 refine Ar F184_r4 ?_ (r1 2 Rn) (z1 Sn) Sn
 refine AWP.ret ?_
 exact h
end
section
variable {e E:Env} {x0a:OA} {x0n x0c:Nat} {x1 x2:Int} {x3:OA} {x4:Value} {hp:HP} {K:Env→PV→HP→Prop}
abbrev R192 (p n:Nat):=RW Tryd.prog 32 [] (opsAt Tryd.f192 (pth p)) (List.range n)
theorem F192_r0:R192 2 2 e V0 hp K=
 K (w2 e 10 (sI 0) 11 (sI 0)) V0 hp:= by kernel_rfl
theorem F192_r1 (h:E=upd (w3 e 4 (sV x4) 2 (sI x2) 1 (sI x1)) 0 (sS x0a x0n x0c)):R192 9 11 E V0 hp K=
    ((0≤x2)∧(x2<x0n)∧(ptrN x0a fun b1 o2=>ldL (HP.cellN hp b1 (o2+Int.toNat x2*9) 9) fun l3=>(0≤x1)∧(x1<x0n)∧(ptrN x0a fun b4 o5=>ldL (HP.cellN hp b4 (o5+Int.toNat x1*9) 9) fun l6=>fnV x4 fun f7 ga8 gb9=>CF Tryd.prog f7 (ga8++[(Value.agg ⟨l3⟩),(.agg ⟨l6⟩)]++gb9) hp fun u10 h11=>intV u10 .i64 fun i12=>K (w3 (w8 E 12 (sV x4) 13 (sS x0a x0n x0c) 14 (sI x2) 15 (sQ b1 (o2+Int.toNat x2*9)) 16 (sA l3) 17 (sS x0a x0n x0c) 18 (sI x1) 19 (sQ b4 (o5+Int.toNat x1*9))) 20 (sA l6) 21 (sI i12) 22 (sB (decide (i12<0)))) V0 h11))):=by subst h; kernel_rfl
theorem F192_r2:R192 37 6 (upd e 3 (sP x3)) V0 hp K=
 ptrN x3 fun b1 o2=>(ldV (HP.cell hp b1 o2) fun v3=>intV v3 .i64 fun i4=>ptrN x3 fun b5 o6=>HP.st hp b5 o6 (.int .i64 (wr (i4+1))) fun h7=>K (w6 e 3 (sP x3) 23 (sP x3) 24 (sQ b1 o2) 25 (sI i4) 26 (sI ((wr (i4+1)))) 27 (sQ b5 o6)) V0 h7):= by kernel_rfl
theorem F192_r3:R192 85 4 (w2 e 2 (sI x2) 1 (sI x1)) V0 hp K=
 K (w6 e 2 (sI x2) 1 (sI x1) 28 (sI x2) 29 (sI x1) 10 (sI x2) 11 (sI x1)) V0 hp:= by kernel_rfl
theorem F192_r4:R192 11 4 (w2 e 2 (sI x2) 1 (sI x1)) V0 hp K=
 K (w6 e 2 (sI x2) 1 (sI x1) 30 (sI x1) 31 (sI x2) 10 (sI x1) 11 (sI x2)) V0 hp:= by kernel_rfl
def F192 (x0a:OA) (x0n x0c:Nat) (x1 x2:Int) (x3:OA) (x4:Value) (hp:HP) (K:Kh):Prop:=
  ((0≤x2)∧(x2<x0n)∧(ptrN x0a fun b1 o2=>ldL (HP.cellN hp b1 (o2+Int.toNat x2*9) 9) fun l3=>(0≤x1)∧(x1<x0n)∧(ptrN x0a fun b4 o5=>ldL (HP.cellN hp b4 (o5+Int.toNat x1*9) 9) fun l6=>fnV x4 fun f7 ga_8 gb_9=>CF Tryd.prog f7 (ga_8++[(Value.agg ⟨l3⟩),(.agg ⟨l6⟩)]++gb_9) hp fun u10 h11=>intV u10 .i64 fun i12=>ite2 (decide (i12<0)) (ptrN x3 fun b13 o14=>ldV (HP.cell h11 b13 o14) fun v15=>intV v15 .i64 fun i16=>ptrN x3 fun b17 o18=>HP.st h11 b17 o18 (.int .i64 (IntKind.wrap .i64 (i16+1))) fun h19=>K (.tuple ⟨[(.int .i64 x2),(.int .i64 x1)]⟩) h19) (K (.tuple ⟨[(.int .i64 x1),(.int .i64 x2)]⟩) h11))))
noncomputable def F192_code:Code:=(.seq (.region 0 (opsAt Tryd.f192 (pth 2)) false) (.seq (.seq (.region 1 (opsAt Tryd.f192 (pth 9)) true) (.cond (.tmp 22) (.seq (.region 2 (opsAt Tryd.f192 (pth 37)) false) (.seq (.region 3 (opsAt Tryd.f192 (pth 85)) false) .ret)) .skip)) (.seq (.region 4 (opsAt Tryd.f192 (pth 11)) false) .ret)))
theorem F192_body:Tryd.f192.body=some F192_code:=by kernel_rfl
theorem F192_ok (x0a:OA) (x0n x0c:Nat) (x1 x2:Int) (x3:OA) (x4:Value) (hp:HP) (K:Kh) (h:F192 x0a x0n x0c x1 x2 x3 x4 hp K):CF Tryd.prog 192 [(.slice x0a x0n x0c),(.int .i64 x1),(.int .i64 x2),(.pointer x3),x4] hp K:=by
 refine .inl ⟨by kernel_rfl,AC.intro (N:=32) Tryd.func192 F192_body rfl (Nat.le_of_ble_eq_true rfl) ?_⟩
 unfold F192 at h
 refine Ar F192_r0 ?_ (r5 0 1 2 3 4 Rn) (z5 Sn) Sn
 refine Aq (Aq (AWP.rgnD (by kernel_rfl) (by kernel_rfl) (F192_r1 rfl) ?_ (r5 0 1 2 4 3 Rn) (z5 Sn) Sn))
 refine ⟨h.1,h.2.1,mN h.2.2 (fun b1 o2 h=>mL h (fun l3 h=>⟨h.1,h.2.1,mN h.2.2 fun b4 o5 h=>mL h fun l6 h=>mF h fun f7 ga_8 gb_9 h=>mC h fun u10 h11 h=>mI h fun i12 h=>?_⟩))⟩
 refine Ac h rfl (fun h=>?_) (fun h=>?_)
 ·refine Ar F192_r2 ?_ (r3 3 1 2 Rn) (z3 Sn) Sn
  refine mN h fun b13 o14 h=>mV h fun v15 h=>mI h fun i16 h=>mN h fun b17 o18 h=>mw h fun h19 h=>?_
  refine Ar F192_r3 ?_ (r2 1 2 Rn) (z2 Sn) Sn
  refine AWP.ret ?_
  exact h
 ·refine AWP.skip (Ar F192_r4 ?_ (r2 1 2 Rn) (z2 Sn) Sn)
  refine AWP.ret ?_
  exact h
end
section
variable {e E:Env} {x0a:OA} {x0n x0c:Nat} {x1:Value} {x4:Int} {hp:HP} {K:Env→PV→HP→Prop}
abbrev R122 (p n:Nat):=RW Tryd.prog 14 [] (opsAt Tryd.f122 (pth p)) (List.range n)
theorem F122_r0:R122 2 3 (upd e 0 (sS x0a x0n x0c)) V0 hp K=
 K (w4 e 0 (sS x0a x0n x0c) 5 (sS x0a x0n x0c) 6 (sI ((x0n:Nat))) 4 (sI ((x0n:Nat)))) V0 hp:= by kernel_rfl
theorem F122_r1 (h:E=upd (w2 e 4 (sI x4) 1 (sV x1)) 0 (sS x0a x0n x0c)):R122 3 7 E V0 hp K=
 CF Tryd.prog 128 [(.int .u64 (IntKind.wrap .u64 (x4)))] hp fun u1 h2=>(intV u1 .i64 fun i3=>CF Tryd.prog 138 [(.slice x0a x0n x0c),.int .i64 0,(.int .i64 x4),(.int .i64 i3),x1] h2 fun u4 h5=>K (w7 E 7 (sS x0a x0n x0c) 8 (sI x4) 9 (sI x4) 10 (sV (.int .u64 (IntKind.wrap .u64 (x4)))) 11 (sI i3) 12 (sV x1) 13 (sV u4)) V0 h5):= by subst h; kernel_rfl
def F122 (x0a:OA) (x0n x0c:Nat) (x1:Value) (hp:HP) (K:Kh):Prop:=
  (CF Tryd.prog 128 [(.int .u64 (IntKind.wrap .u64 ((x0n:Nat))))] hp fun u1 h2=>intV u1 .i64 fun i3=>CF Tryd.prog 138 [(.slice x0a x0n x0c),.int .i64 0,(.int .i64 (x0n:Nat)),(.int .i64 i3),x1] h2 fun u4 h5=>K (.tuple ⟨[]⟩) h5)
noncomputable def F122_code:Code:=(.seq (.region 0 (opsAt Tryd.f122 (pth 2)) false) (.region 1 (opsAt Tryd.f122 (pth 3)) false))
theorem F122_body:Tryd.f122.body=some F122_code:=by kernel_rfl
theorem F122_ok (x0a:OA) (x0n x0c:Nat) (x1:Value) (hp:HP) (K:Kh) (h:F122 x0a x0n x0c x1 hp K):CF Tryd.prog 122 [(.slice x0a x0n x0c),x1] hp K:=by
 refine .inl ⟨by kernel_rfl,AC.intro (N:=14) Tryd.func122 F122_body rfl (Nat.le_of_ble_eq_true rfl) ?_⟩
 unfold F122 at h
 refine Ar F122_r0 ?_ (r2 0 1 Rn) (z2 Sn) Sn
 refine Ag (F122_r1 rfl) ?_ (r3 0 1 4 Rn) (z3 Sn) Sn
 refine mC h fun u1 h2 h=>mI h fun i3 h=>mC h fun u4 h5 h=>?_
 exact h
end
end Go.Proofs
set_option linter.unusedVariables false
set_option maxRecDepth 20000
namespace Go.Proofs
open Go Go.HL
section
variable {f:FuncId} {ga gb:List Value} {hp0:HP} {b sp n c:Nat} {cf:Ss→Ss→Int}
theorem S162 {v:Value} {d:Array Ss} {lo hi:Nat} {K:Value→HP→Prop} (hs:d.size=n) (hlo:lo≤hi) (hf:hi≤n) (hn:n≤65535)
    (h:∀ d',Sort.PermIn lo hi d d'→K (.tuple ⟨[]⟩) (HA hp0 b 79 sp ssc d')) :
    CF Tryd.prog 162 [.slice (some ⟨b,0,none⟩) n c,.int .i64 lo,.int .i64 hi,v] (HA hp0 b 79 sp ssc d) K:=by
  refine CF.drop (F162_ok _ n c lo hi _ _ _ ?_)
  unfold F162
  have w1:IntKind.wrap .i64 ((hi:Int)-(lo:Int))=((hi-lo:Nat):Int):=wi (by omega) (by omega)
  rw [w1]
  by_cases h8:hi-lo≥8
  · rw [decide_eq_true (by omega:((hi-lo:Nat):Int)≥8),ite2_true]
    intro r hr
    obtain ⟨hrb,hr0⟩:=HA.ne_of_none hr
    refine HP.st_at (HP.set_eq ..) (by simp) ?_
    simp only [List.set_cons_zero,HP.set_set]
    rw [HA.set_comm hrb]
    refine C169 (n:=hi-lo) (by omega) fun L hL1 hL2 hL3=>?_
    have hL4:=hL3 (by omega)
    have hL5:2 ^ L≤2 ^ 16:=Nat.pow_le_pow_right (by omega) hL1
    rw [intV_int]
    refine ⟨by omega,?_⟩
    have e4:Int.tdiv ((hi-lo:Nat):Int) 4=(((hi-lo) / 4:Nat):Int):=rfl
    generalize hm:hi-lo=m at *
    rw [e4]
    have v1:IntKind.wrap .i64 ((m / 4:Nat):Int)=((m / 4:Nat):Int):=wi rfl (by omega)
    have v2:IntKind.wrap .i64 (((m / 4:Nat):Int)*2)=((m / 4*2:Nat):Int):=wi (by omega) (by omega)
    have v3:IntKind.wrap .i64 ((lo:Int)+((m / 4*2:Nat):Int))=((lo+m / 4*2:Nat):Int):=wi (by omega) (by omega)
    have v4:IntKind.wrap .i64 (((lo+m / 4*2:Nat):Int)-1)=((lo+m / 4*2-1:Nat):Int):=wi (by omega) (by omega)
    have v5:IntKind.wrap .i64 (((lo+m / 4*2:Nat):Int)+1)=((lo+m / 4*2+1:Nat):Int):=wi (by omega) (by omega)
    rw [v1,v2,v3,v4]
    unfold F162_j1
    generalize hz0:IntKind.wrap .u64 (m:Int)=z0
    refine LoopP.by (J:=fun k (x:Int) hp=>∃ (i:Nat) (d':Array Ss) (z:Int),x=i∧hp=HA (hp0.set r (.cells 247 [.int .u64 z] 0)) b 79 sp ssc d'∧Sort.PermIn lo hi d d'∧lo≤i∧k=lo+m / 4*2+2-i) ?_
      (n:=lo+m / 4*2+2-(lo+m / 4*2-1)) ⟨lo+m / 4*2-1,d,z0,rfl,rfl,Sort.permIn_refl d lo hi,by omega,rfl⟩
    rintro I k x hp ⟨i,d',z,rfl,rfl,hpm,hli,rfl⟩ hI
    unfold F162_l2
    refine ⟨by omega,?_⟩
    rw [e4,v1,v2,v3,v5]
    by_cases hi':i≤lo+m / 4*2+1
    · rw [decide_eq_true (by omega:(i:Int)≤((lo+m / 4*2+1:Nat):Int)),ite2_true]
      refine C170 (y:=z) (by rw [HA.ne hrb,HP.set_eq]) fun z'=>?_
      rw [HA.set_comm hrb,HP.set_set,intV_int]
      have u1:IntKind.wrap .u64 (((2 ^ L:Nat):Int)-1)=((2 ^ L-1:Nat):Int):=by rw [wu64 (by omega) (by omega)]; omega
      rw [u1]
      have hbd:=band_le (z:=z') (m:=((2 ^ L-1:Nat):Int)) (by omega) (by omega)
      generalize band .u64 z' ((2 ^ L-1:Nat):Int)=w at hbd
      obtain ⟨o,rfl⟩:∃ o:Nat,w=o:=⟨w.toNat,by omega⟩
      rw [w64 (n:=(o:Int)) (by omega) (by omega)]
      have hs':d'.size=n:=by rw [hpm.1]; exact hs
      have step:∀ o:Nat,o<m→F162_j3 (some ⟨b,0,none⟩) n c lo m (some ⟨r,0,none⟩) ((2 ^ L:Nat):Int) i o (HA (hp0.set r (.cells 247 [.int .u64 z'] 0)) b 79 sp ssc d') I (fun v hp'=>∃ hp'',HSub hp'' hp'∧K v hp''):=by
        intro o ho
        unfold F162_j3
        have x1:IntKind.wrap .i64 ((lo:Int)+(o:Int))=((lo+o:Nat):Int):=wi (by omega) (by omega)
        have x2:IntKind.wrap .i64 ((i:Int)+1)=((i+1:Nat):Int):=wi (by omega) (by omega)
        rw [x1,x2]
        refine swapP ssc_len ssc_one hs' (i:=i) (j:=lo+o) rfl rfl (by omega) (by omega) ?_
        exact hI (lo+m / 4*2+2-(i+1)) _ _ (by omega) ⟨i+1,_,z',rfl,rfl,Sort.permIn_trans _ _ _ _ _ hpm (Sort.swp_permIn d' lo hi i (lo+o) (by omega) (by omega) (by omega) (by omega) (by omega)),by omega,rfl⟩
      by_cases hom:o≥m
      · rw [decide_eq_true (by omega:(o:Int)≥(m:Int)),ite2_true]
        have x3:IntKind.wrap .i64 ((o:Int)-(m:Int))=((o-m:Nat):Int):=wi (by omega) (by omega)
        rw [x3]
        exact step (o-m) (by omega)
      · rw [decide_eq_false (by omega:¬ (o:Int)≥(m:Int)),ite2_false]
        exact step o (by omega)
    · rw [decide_eq_false (by omega:¬ (i:Int)≤((lo+m / 4*2+1:Nat):Int)),ite2_false]
      exact ⟨_,HA.sub (HSub.set_fresh hp0 _ hr0),h d' hpm⟩
  · rw [decide_eq_false (by omega:¬ ((hi-lo:Nat):Int)≥8),ite2_false]
    exact ⟨_,HSub.refl _,h d (Sort.permIn_refl d lo hi)⟩
/-- With the counter of swaps beside. -/
theorem S192 (hx:CmpX Tryd.prog f ga gb hp0 b 79 sp ssc n cf) {d:Array Ss} {i j r:Nat} {s:Int} {K:Value→HP→Prop} (hs:d.size=n) (hi:i<n) (hj:j<n) (hrb:r≠b) (hr0:hp0 r=.none)
    (h:∀ (s':Int) (x y:Nat),(x=i∧y=j)∨(x=j∧y=i)→K (.tuple ⟨[.int .i64 x,.int .i64 y]⟩) (HA (hp0.set r (.cells 3 [.int .i64 s'] 0)) b 79 sp ssc d)) :
    CF Tryd.prog 192 [.slice (some ⟨b,0,none⟩) n c,.int .i64 i,.int .i64 j,.pointer (some ⟨r,0,none⟩),.func (.func f) ⟨ga⟩ ⟨gb⟩] (HA (hp0.set r (.cells 3 [.int .i64 s] 0)) b 79 sp ssc d) K:=by
  refine F192_ok _ n c i j _ _ _ K ?_
  unfold F192
  refine cmpP (hx _ (HSub.set_fresh hp0 _ hr0)) ssc_len hs (i:=j) (j:=i) rfl rfl hj hi ?_
  cases decide (cf d[j]! d[i]!<0)
  · rw [ite2_false]
    exact h s i j (.inl ⟨rfl,rfl⟩)
  · have hc:(HA (hp0.set r (.cells 3 [.int .i64 s] 0)) b 79 sp ssc d) r=.cells 3 [.int .i64 s] 0:=by rw [HA.ne hrb,HP.set_eq]
    rw [ite2_true,ptrN_some,HP.cell_of hc]
    simp only [List.getElem?_cons_zero,ldV_some,intV_int,ptrN_some]
    refine HP.st_at hc (by simp) ?_
    rw [List.set_cons_zero,HA.set_comm hrb,HP.set_set]
    exact h _ j i (.inr ⟨rfl,rfl⟩)
theorem S184 (hx:CmpX Tryd.prog f ga gb hp0 b 79 sp ssc n cf) {d:Array Ss} {i j k r:Nat} {s:Int} {K:Value→HP→Prop} (hs:d.size=n) (hi:i<n) (hj:j<n) (hk:k<n) (hrb:r≠b) (hr0:hp0 r=.none)
    (h:∀ (s':Int) (x:Nat),x=i∨x=j∨x=k→K (.int .i64 x) (HA (hp0.set r (.cells 3 [.int .i64 s'] 0)) b 79 sp ssc d)) :
    CF Tryd.prog 184 [.slice (some ⟨b,0,none⟩) n c,.int .i64 i,.int .i64 j,.int .i64 k,.pointer (some ⟨r,0,none⟩),.func (.func f) ⟨ga⟩ ⟨gb⟩] (HA (hp0.set r (.cells 3 [.int .i64 s] 0)) b 79 sp ssc d) K:=by
  refine F184_ok _ n c i j k _ _ _ K ?_
  unfold F184
  refine S192 hx hs hi hj hrb hr0 fun s1 a1 b1 h1=>?_
  simp only [tup2V_mk,intV_int]
  refine S192 hx hs (by omega) hk hrb hr0 fun s2 a2 b2 h2=>?_
  simp only [tup2V_mk,intV_int]
  refine S192 hx hs (by omega) (by omega) hrb hr0 fun s3 a3 b3 h3=>?_
  simp only [tup2V_mk,intV_int]
  exact h s3 b3 (by omega)
theorem S183 (hx:CmpX Tryd.prog f ga gb hp0 b 79 sp ssc n cf) {d:Array Ss} {i r:Nat} {s:Int} {K:Value→HP→Prop} (hs:d.size=n) (hi0:0<i) (hi:i+1<n) (hn:n≤65535) (hrb:r≠b) (hr0:hp0 r=.none)
    (h:∀ (s':Int) (x:Nat),i-1≤x→x≤i+1→K (.int .i64 x) (HA (hp0.set r (.cells 3 [.int .i64 s'] 0)) b 79 sp ssc d)) :
    CF Tryd.prog 183 [.slice (some ⟨b,0,none⟩) n c,.int .i64 i,.pointer (some ⟨r,0,none⟩),.func (.func f) ⟨ga⟩ ⟨gb⟩] (HA (hp0.set r (.cells 3 [.int .i64 s] 0)) b 79 sp ssc d) K:=by
  refine F183_ok _ n c i _ _ _ K ?_
  unfold F183
  have v1:IntKind.wrap .i64 ((i:Int)-1)=((i-1:Nat):Int):=wi (by omega) (by omega)
  have v2:IntKind.wrap .i64 ((i:Int)+1)=((i+1:Nat):Int):=wi (by omega) (by omega)
  rw [v1,v2]
  refine S184 hx hs (by omega) (by omega) (by omega) hrb hr0 fun s1 x h1=>?_
  rw [intV_int]
  exact h s1 x (by omega) (by omega)
theorem S163 (hx:CmpX Tryd.prog f ga gb hp0 b 79 sp ssc n cf) {d:Array Ss} {lo hi:Nat} {K:Value→HP→Prop} (hs:d.size=n) (hlo:lo<hi) (hf:hi≤n) (hn:n≤65535)
    (h:∀ (p:Nat) (w:Int),lo≤p→p<hi→K (.tuple ⟨[.int .i64 p,.int .i64 w]⟩) (HA hp0 b 79 sp ssc d)) :
    CF Tryd.prog 163 [.slice (some ⟨b,0,none⟩) n c,.int .i64 lo,.int .i64 hi,.func (.func f) ⟨ga⟩ ⟨gb⟩] (HA hp0 b 79 sp ssc d) K:=by
  refine CF.drop (F163_ok _ n c lo hi _ _ _ ?_)
  unfold F163
  intro r hr
  obtain ⟨hrb,hr0⟩:=HA.ne_of_none hr
  have w1:IntKind.wrap .i64 ((hi:Int)-(lo:Int))=((hi-lo:Nat):Int):=wi (by omega) (by omega)
  have e4:Int.tdiv ((hi-lo:Nat):Int) 4=(((hi-lo) / 4:Nat):Int):=rfl
  simp only [w1,e4]
  refine ⟨by omega,by omega,by omega,?_⟩
  clear e4 w1
  rw [HA.set_comm hrb]
  have hmm:hi=lo+(hi-lo):=by omega
  generalize hi-lo=m at *
  subst hmm
  have v0:IntKind.wrap .i64 ((m / 4:Nat):Int)=((m / 4:Nat):Int):=wi rfl (by omega)
  have v1:IntKind.wrap .i64 (((m / 4:Nat):Int)*1)=((m / 4:Nat):Int):=wi (by omega) (by omega)
  have v2:IntKind.wrap .i64 (((m / 4:Nat):Int)*2)=((m / 4*2:Nat):Int):=wi (by omega) (by omega)
  have v3:IntKind.wrap .i64 (((m / 4:Nat):Int)*3)=((m / 4*3:Nat):Int):=wi (by omega) (by omega)
  have u1:IntKind.wrap .i64 ((lo:Int)+((m / 4:Nat):Int))=((lo+m / 4:Nat):Int):=wi (by omega) (by omega)
  have u2:IntKind.wrap .i64 ((lo:Int)+((m / 4*2:Nat):Int))=((lo+m / 4*2:Nat):Int):=wi (by omega) (by omega)
  have u3:IntKind.wrap .i64 ((lo:Int)+((m / 4*3:Nat):Int))=((lo+m / 4*3:Nat):Int):=wi (by omega) (by omega)
  simp only [v0,v1,v2,v3,u1,u2,u3]
  have fin:∀ (s:Int) (p:Nat),lo≤p→p<lo+m→F163_j1 (some ⟨r,0,none⟩) p (HA (hp0.set r (.cells 3 [.int .i64 s] 0)) b 79 sp ssc d) (fun v hp'=>∃ hp'',HSub hp'' hp'∧K v hp''):=by
    intro s p h1 h2
    have hc:(HA (hp0.set r (.cells 3 [.int .i64 s] 0)) b 79 sp ssc d) r=.cells 3 [.int .i64 s] 0:=by rw [HA.ne hrb,HP.set_eq]
    unfold F163_j1
    rw [ptrN_some,HP.cell_of hc]
    simp only [List.getElem?_cons_zero,ldV_some,intV_int]
    have hsub:=HA.sub (b:=b) (e:=79) (sp:=sp) (en:=ssc) (d:=d) (HSub.set_fresh hp0 (.cells 3 [.int .i64 s] 0) hr0)
    cases (s==0)
    · rw [ite2_false]
      cases (s==12)
      · rw [ite2_false]; exact ⟨_,hsub,h p 0 h1 h2⟩
      · rw [ite2_true]; exact ⟨_,hsub,h p 2 h1 h2⟩
    · rw [ite2_true]; exact ⟨_,hsub,h p 1 h1 h2⟩
  have fin2:∀ (s:Int) (i j k:Nat),lo≤i→i<lo+m→lo≤j→j<lo+m→lo≤k→k<lo+m→F163_j2 (some ⟨b,0,none⟩) n c (.func (.func f) ⟨ga⟩ ⟨gb⟩) (some ⟨r,0,none⟩) i j k (HA (hp0.set r (.cells 3 [.int .i64 s] 0)) b 79 sp ssc d) (fun v hp'=>∃ hp'',HSub hp'' hp'∧K v hp''):=by
    intro s i j k h1 h2 h3 h4 h5 h6
    unfold F163_j2
    refine S184 hx hs (by omega) (by omega) (by omega) hrb hr0 fun s1 x hx1=>?_
    rw [intV_int]
    exact fin s1 x (by omega) (by omega)
  by_cases h8:m≥8
  · rw [decide_eq_true (by omega:(m:Int)≥8),ite2_true]
    by_cases h50:m≥50
    · rw [decide_eq_true (by omega:(m:Int)≥50),ite2_true]
      refine S183 hx hs (by omega) (by omega) hn hrb hr0 fun s1 x1 a1 b1=>?_
      rw [intV_int]
      refine S183 hx hs (by omega) (by omega) hn hrb hr0 fun s2 x2 a2 b2=>?_
      rw [intV_int]
      refine S183 hx hs (by omega) (by omega) hn hrb hr0 fun s3 x3 a3 b3=>?_
      rw [intV_int]
      exact fin2 s3 x1 x2 x3 (by omega) (by omega) (by omega) (by omega) (by omega) (by omega)
    · rw [decide_eq_false (by omega:¬ (m:Int)≥50),ite2_false]
      exact fin2 0 _ _ _ (by omega) (by omega) (by omega) (by omega) (by omega) (by omega)
  · rw [decide_eq_false (by omega:¬ (m:Int)≥8),ite2_false]
    exact fin 0 _ (by omega) (by omega)
end
end Go.Proofs
set_option linter.unusedVariables false
set_option maxRecDepth 20000
namespace Go.Proofs
open Go Go.HL
section
variable {e E:Env} {x0a:OA} {x0n x0c:Nat} {x1 x2:Int} {x3:Value} {x8 x9:Int} {hp:HP} {K:Env→PV→HP→Prop}
abbrev R160 (p n:Nat):=RW Tryd.prog 53 [] (opsAt Tryd.f160 (pth p)) (List.range n)
theorem F160_r0:R160 33 3 (w2 e 8 (sI x8) 2 (sI x2)) V0 hp K=
 K (w5 e 8 (sI x8) 2 (sI x2) 12 (sI x8) 13 (sI x2) 14 (sB (decide (x8<x2)))) V0 hp:= by kernel_rfl
theorem F160_r1:R160 57 3 (upd e 8 (sI x8)) V0 hp K=
 K (w4 e 8 (sI x8) 15 (sI x8) 16 (sI ((wr (x8+1)))) 8 (sI ((wr (x8+1))))) V0 hp:= by kernel_rfl
def F160_j3 (x0a:OA) (x0n x0c:Nat) (x1 x2:Int) (x3:Value) (x8:Int) (hp:HP) (I2:(Int)→HP→Prop) (K:Kh):Prop:=
  (I2 (IntKind.wrap .i64 (x8+1)) hp)
theorem F160_r2:R160 4681 18 (w2 e 9 (sI x9) 0 (sS x0a x0n x0c)) V0 hp K=
    ((0≤((wr (x9-1)):Int))∧(((wr (x9-1)):Int)<x0n)∧(ptrN x0a fun b1 o2=>ldL (HP.cellN hp b1 (o2+Int.toNat (wr (x9-1))*9) 9) fun l3=>(0≤x9)∧(x9<x0n)∧(ptrN x0a fun b4 o5=>ldL (HP.cellN hp b4 (o5+Int.toNat x9*9) 9) fun l6=>(0≤x9)∧(x9<x0n)∧(ptrN x0a fun b7 o8=>(List.length l3=9)∧(HP.stN hp b7 (o8+Int.toNat x9*9) l3 fun h9=>(0≤((wr (x9-1)):Int))∧(((wr (x9-1)):Int)<x0n)∧(ptrN x0a fun b10 o11=>(List.length l6=9)∧(HP.stN h9 b10 (o11+Int.toNat (wr (x9-1))*9) l6 fun h12=>K (w2 (w8 (w8 e 9 (sI x9) 0 (sS x0a x0n x0c) 37 (sS x0a x0n x0c) 38 (sI x9) 39 (sS x0a x0n x0c) 40 (sI x9) 41 (sI ((wr (x9-1)))) 42 (sS x0a x0n x0c)) 43 (sI x9) 44 (sI ((wr (x9-1)))) 45 (sV (ptr b1 (o2+Int.toNat (wr (x9-1))*9))) 46 (sA l3) 47 (sS x0a x0n x0c) 48 (sI x9) 49 (sQ b4 (o5+Int.toNat x9*9)) 50 (sA l6)) 51 (sQ b7 (o8+Int.toNat x9*9)) 52 (sV (ptr b10 (o11+Int.toNat (wr (x9-1))*9)))) V0 h12))))))):=by kernel_rfl
theorem F160_r3:R160 3657 3 (upd e 9 (sI x9)) V0 hp K=
 K (w4 e 9 (sI x9) 35 (sI x9) 36 (sI ((wr (x9-1)))) 9 (sI ((wr (x9-1))))) V0 hp:= by kernel_rfl
def F160_j6 (x0a:OA) (x0n x0c:Nat) (x1 x2:Int) (x3:Value) (x8 x9:Int) (x34:Bool) (hp:HP) (I2 I5:(Int)→HP→Prop) (K:Kh):Prop:=
  (ite2 x34 ((0≤((IntKind.wrap .i64 (x9-1)):Int))∧(((IntKind.wrap .i64 (x9-1)):Int)<x0n)∧(ptrN x0a fun b1 o2=>ldL (HP.cellN hp b1 (o2+Int.toNat (IntKind.wrap .i64 (x9-1))*9) 9) fun l3=>(0≤x9)∧(x9<x0n)∧(ptrN x0a fun b4 o5=>ldL (HP.cellN hp b4 (o5+Int.toNat x9*9) 9) fun l6=>(0≤x9)∧(x9<x0n)∧(ptrN x0a fun b7 o8=>(List.length l3=9)∧(HP.stN hp b7 (o8+Int.toNat x9*9) l3 fun h9=>(0≤((IntKind.wrap .i64 (x9-1)):Int))∧(((IntKind.wrap .i64 (x9-1)):Int)<x0n)∧(ptrN x0a fun b10 o11=>(List.length l6=9)∧(HP.stN h9 b10 (o11+Int.toNat (IntKind.wrap .i64 (x9-1))*9) l6 fun h12=>I5 (IntKind.wrap .i64 (x9-1)) h12))))))) (F160_j3 x0a x0n x0c x1 x2 x3 x8 hp I2 K))
theorem F160_r4 (h:E=upd (w3 e 9 (sI x9) 3 (sV x3) 1 (sI x1)) 0 (sS x0a x0n x0c)):R160 2121 17 E V0 hp K=
    (ite2 (decide (x9 > x1)) ((0≤x9)∧(x9<x0n)∧(ptrN x0a fun b1 o2=>ldL (HP.cellN hp b1 (o2+Int.toNat x9*9) 9) fun l3=>(0≤((wr (x9-1)):Int))∧(((wr (x9-1)):Int)<x0n)∧(ptrN x0a fun b4 o5=>ldL (HP.cellN hp b4 (o5+Int.toNat (wr (x9-1))*9) 9) fun l6=>fnV x3 fun f7 ga8 gb9=>CF Tryd.prog f7 (ga8++[(Value.agg ⟨l3⟩),(.agg ⟨l6⟩)]++gb9) hp fun u10 h11=>intV u10 .i64 fun i12=>K (upd (w8 (w8 E 18 (sI x9) 19 (sI x1) 20 (sB (decide (x9 > x1))) 21 (sB true) 22 (sV x3) 23 (sS x0a x0n x0c) 24 (sI x9) 25 (sQ b1 (o2+Int.toNat x9*9))) 26 (sA l3) 27 (sS x0a x0n x0c) 28 (sI x9) 29 (sI ((wr (x9-1)))) 30 (sV (ptr b4 (o5+Int.toNat (wr (x9-1))*9))) 31 (sA l6) 32 (sI i12) 33 (sB (decide (i12<0)))) 34 (sB (decide (i12<0)))) V0 h11))) (K (upd (w8 (w8 E 18 (sI x9) 19 (sI x1) 20 (sB (decide (x9 > x1))) 21 (sB false) 22 sU 23 sU 24 sU 25 sU) 26 sU 27 sU 28 sU 29 sU 30 sU 31 sU 32 sU 33 sU) 34 (sB false)) V0 hp)):=by subst h; kernel_rfl
def F160_l5 (x0a:OA) (x0n x0c:Nat) (x1 x2:Int) (x3:Value) (x8:Int) (I2:(Int)→HP→Prop) (K:Kh) (I5:(Int)→HP→Prop) (x9:Int) (hp:HP):Prop:=
  (ite2 (decide (x9 > x1)) ((0≤x9)∧(x9<x0n)∧(ptrN x0a fun b13 o14=>ldL (HP.cellN hp b13 (o14+Int.toNat x9*9) 9) fun l15=>(0≤((IntKind.wrap .i64 (x9-1)):Int))∧(((IntKind.wrap .i64 (x9-1)):Int)<x0n)∧(ptrN x0a fun b16 o17=>ldL (HP.cellN hp b16 (o17+Int.toNat (IntKind.wrap .i64 (x9-1))*9) 9) fun l18=>fnV x3 fun f19 ga_20 gb_21=>CF Tryd.prog f19 (ga_20++[(Value.agg ⟨l15⟩),(.agg ⟨l18⟩)]++gb_21) hp fun u22 h23=>intV u22 .i64 fun i24=>F160_j6 x0a x0n x0c x1 x2 x3 x8 x9 (decide (i24<0)) h23 I2 I5 K))) (F160_j6 x0a x0n x0c x1 x2 x3 x8 x9 false hp I2 I5 K))
def F160_j4 (x0a:OA) (x0n x0c:Nat) (x1 x2:Int) (x3:Value) (x8 x9:Int) (hp:HP) (I2:(Int)→HP→Prop) (K:Kh):Prop:=
  (LoopP (σ:=Int) (fun I s hp=>F160_l5 x0a x0n x0c x1 x2 x3 x8 I2 K I s hp) x9 hp)
theorem F160_r5:R160 137 2 (upd e 8 (sI x8)) V0 hp K=
 K (w3 e 8 (sI x8) 17 (sI x8) 9 (sI x8)) V0 hp:= by kernel_rfl
def F160_l2 (x0a:OA) (x0n x0c:Nat) (x1 x2:Int) (x3:Value) (K:Kh) (I2:(Int)→HP→Prop) (x8:Int) (hp:HP):Prop:=
  (ite2 (decide (x8<x2)) (F160_j4 x0a x0n x0c x1 x2 x3 x8 x8 hp I2 K) (K (.tuple ⟨[]⟩) hp))
def F160_j1 (x0a:OA) (x0n x0c:Nat) (x1 x2:Int) (x3:Value) (x8:Int) (hp:HP) (K:Kh):Prop:=
  (LoopP (σ:=Int) (fun I s hp=>F160_l2 x0a x0n x0c x1 x2 x3  K I s hp) x8 hp)
theorem F160_r6:R160 2 3 (upd e 1 (sI x1)) V0 hp K=
 K (w4 e 1 (sI x1) 10 (sI x1) 11 (sI ((wr (x1+1)))) 8 (sI ((wr (x1+1))))) V0 hp:= by kernel_rfl
def F160 (x0a:OA) (x0n x0c:Nat) (x1 x2:Int) (x3:Value) (hp:HP) (K:Kh):Prop:=
  (F160_j1 x0a x0n x0c x1 x2 x3 (IntKind.wrap .i64 (x1+1)) hp  K)
noncomputable abbrev o160 (k n:Nat):Code:=.region k (opsAt Tryd.f160 (pth n)) false
noncomputable def F160_code:Code:=(.seq (o160 0 2) (.block 0 (.loop (.seq (.seq (o160 1 33) (.cond (.tmp 14) .skip (.exit 0))) (.seq (.block 1 (.seq (o160 3 137) (.block 2 (.loop (.seq (.seq (.region 4 (opsAt Tryd.f160 (pth 2121)) true) (.cond (.tmp 34) .skip (.exit 2))) (.seq (.block 3 (.region 6 (opsAt Tryd.f160 (pth 4681)) true)) (o160 5 3657))))))) (o160 2 57))))))
theorem F160_body:Tryd.f160.body=some F160_code:=by kernel_rfl
theorem F160_ok (x0a:OA) (x0n x0c:Nat) (x1 x2:Int) (x3:Value) (hp:HP) (K:Kh) (h:F160 x0a x0n x0c x1 x2 x3 hp K):CF Tryd.prog 160 [(.slice x0a x0n x0c),(.int .i64 x1),(.int .i64 x2),x3] hp K:=by
 refine .inl ⟨by kernel_rfl,AC.intro (N:=53) Tryd.func160 F160_body rfl (Nat.le_of_ble_eq_true rfl) ?_⟩
 unfold F160 at h
 refine As (fun env pv hp=>∃ x0a x0n x0c x1 x2 x3 x8,Sub (w5 E0 8 (sI x8) 3 (sV x3) 2 (sI x2) 1 (sI x1) 0 (sS x0a x0n x0c)) env∧Sub V0 pv∧F160_j1 x0a x0n x0c x1 x2 x3 x8 hp  K) ?_ ?_
 ·refine Ag F160_r6 ?_ (r4 1 0 2 3 Rn) (z4 Sn) Sn
  exact ⟨_,_,_,_,_,_,_,(z5 Sn),Sn,h⟩
 ·rintro env pv hp ⟨x0a,x0n,x0c,x1,x2,x3,x8,he,hv,h⟩
  refine Ae ?_ (r5 0 1 2 3 8 Rn) he hv
  unfold F160_j1 at h
  refine AWP.block (AWP.loop (σ:=Int) _ (fun s=>w5 E0 8 (sI s) 3 (sV x3) 2 (sI x2) 1 (sI x1) 0 (sS x0a x0n x0c)) (fun s=>V0) x8 h (fun s=>r5 0 1 2 3 8 Rn) (z5 Sn) Sn ?_)
  intro I2 x8 hp h
  replace h:F160_l2 x0a x0n x0c x1 x2 x3  K I2 x8 hp:=h
  unfold F160_l2 at h
  refine Aq (Ar F160_r0 ?_ (r5 2 8 0 1 3 Rn) (z5 Sn) Sn)
  refine Ac h rfl (fun h=>?_) (fun h=>?_)
  ·refine AWP.skip (As (fun env pv hp=>∃ x8,Sub (w5 E0 8 (sI x8) 3 (sV x3) 2 (sI x2) 1 (sI x1) 0 (sS x0a x0n x0c)) env∧Sub V0 pv∧F160_j3 x0a x0n x0c x1 x2 x3 x8 hp I2 K) ?_ ?_)
   ·refine AWP.block (As (fun env pv hp=>∃ x8 x9,Sub (w6 E0 9 (sI x9) 8 (sI x8) 3 (sV x3) 2 (sI x2) 1 (sI x1) 0 (sS x0a x0n x0c)) env∧Sub V0 pv∧F160_j4 x0a x0n x0c x1 x2 x3 x8 x9 hp I2 K) ?_ ?_)
    ·refine Ag F160_r5 ?_ (r5 8 0 1 2 3 Rn) (z5 Sn) Sn
     exact ⟨_,_,(z6 Sn),Sn,h⟩
    ·rintro env pv hp ⟨x8,x9,he,hv,h⟩
     refine Ae ?_ (r6 0 1 2 3 8 9 Rn) he hv
     unfold F160_j4 at h
     refine AWP.block (AWP.loop (σ:=Int) _ (fun s=>w6 E0 9 (sI s) 8 (sI x8) 3 (sV x3) 2 (sI x2) 1 (sI x1) 0 (sS x0a x0n x0c)) (fun s=>V0) x9 h (fun s=>r6 0 1 2 3 8 9 Rn) (z6 Sn) Sn ?_)
     intro I5 x9 hp h
     replace h:F160_l5 x0a x0n x0c x1 x2 x3 x8 I2 K I5 x9 hp:=h
     unfold F160_l5 at h
     refine Aq (As (fun env pv hp=>∃ x9 x34,Sub (w7 E0 34 (sB x34) 9 (sI x9) 8 (sI x8) 3 (sV x3) 2 (sI x2) 1 (sI x1) 0 (sS x0a x0n x0c)) env∧Sub V0 pv∧F160_j6 x0a x0n x0c x1 x2 x3 x8 x9 x34 hp I2 I5 K) ?_ ?_)
     ·refine AWP.rgnD (by kernel_rfl) (by kernel_rfl) (F160_r4 rfl) ?_ (r6 0 1 3 9 2 8 Rn) (z6 Sn) Sn
      refine mt h (fun h=>?_) (fun h=>?_)
      ·refine ⟨h.1,h.2.1,mN h.2.2 (fun b13 o14 h=>mL h (fun l15 h=>⟨h.1,h.2.1,mN h.2.2 fun b16 o17 h=>mL h fun l18 h=>mF h fun f19 ga_20 gb_21 h=>mC h fun u22 h23 h=>mI h fun i24 h=>?_⟩))⟩
       exact ⟨_,_,(z7 Sn),Sn,h⟩
      ·exact ⟨_,_,(z7 Sn),Sn,h⟩
     ·rintro env pv hp ⟨x9,x34,he,hv,h⟩
      refine Ae ?_ (r7 0 1 2 3 8 9 34 Rn) he hv
      unfold F160_j6 at h
      refine Ac h rfl (fun h=>?_) (fun h=>?_)
      ·refine AWP.skip (Aq (AWP.block (AWP.rgnD (by kernel_rfl) (by kernel_rfl) F160_r2 ?_ (r6 0 9 1 2 3 8 Rn) (z6 Sn) Sn)))
       refine ⟨h.1,h.2.1,mN h.2.2 (fun b1 o2 h=>mL h (fun l3 h=>⟨h.1,h.2.1,mN h.2.2 (fun b4 o5 h=>mL h (fun l6 h=>⟨h.1,h.2.1,mN h.2.2 (fun b7 o8 h=>⟨h.1,mW h.2 (fun h9 h=>⟨h.1,h.2.1,mN h.2.2 (fun b10 o11 h=>⟨h.1,mW h.2 fun h12 h=>?_⟩)⟩)⟩)⟩))⟩))⟩
       refine Ag F160_r3 ?_ (r6 9 0 1 2 3 8 Rn) (z6 Sn) Sn
       exact ⟨_,(z6 Sn),Sn,h⟩
      ·refine AWP.exit ?_
       exact ⟨_,(z5 Sn),Sn,h⟩
   ·rintro env pv hp ⟨x8,he,hv,h⟩
    refine Ae ?_ (r5 0 1 2 3 8 Rn) he hv
    unfold F160_j3 at h
    refine Ag F160_r1 ?_ (r5 8 0 1 2 3 Rn) (z5 Sn) Sn
    exact ⟨_,(z5 Sn),Sn,h⟩
  ·refine AWP.exit ?_
   exact h
end
end Go.Proofs
set_option linter.unusedVariables false
set_option maxRecDepth 20000
namespace Go.Proofs
open Go Go.HL
section
variable {f:FuncId} {ga gb:List Value} {hp0:HP} {b sp n c:Nat} {cf:Ss→Ss→Int}
theorem S160 (hc:CmpOk Tryd.prog f ga gb hp0 b 79 sp ssc n cf) {d:Array Ss} {lo hi:Nat} {K:Value→HP→Prop} (hs:d.size=n) (hlo:lo≤hi) (hhi:hi≤n) (hn:n≤1000000000)
    (h:K (.tuple ⟨[]⟩) (HA hp0 b 79 sp ssc (Sort.insertionSort (ltC cf) d lo hi))) :
    CF Tryd.prog 160 [.slice (some ⟨b,0,none⟩) n c,.int .i64 lo,.int .i64 hi,.func (.func f) ⟨ga⟩ ⟨gb⟩] (HA hp0 b 79 sp ssc d) K:=by
  refine F160_ok _ n c lo hi _ _ K ?_
  unfold F160 F160_j1
  rw [w64 (by omega) (by omega)]
  refine LoopP.by (J:=fun k (x:Int) hp=>∃ (i:Nat) (d':Array Ss),x=i∧hp=HA hp0 b 79 sp ssc d'∧d'.size=n∧lo<i∧k=hi-i∧Sort.insOuter (ltC cf) lo hi i d'=Sort.insertionSort (ltC cf) d lo hi) ?_
    (n:=hi-(lo+1)) ⟨lo+1,d,by omega,rfl,hs,by omega,rfl,rfl⟩
  rintro I k x hp ⟨i,d',rfl,rfl,hs',hli,rfl,he⟩ hI
  unfold F160_l2
  rw [Sort.insOuter] at he
  by_cases hi':i<hi
  · rw [decide_eq_true (by omega:(i:Int)<(hi:Int)),ite2_true]
    rw [if_pos hi'] at he
    unfold F160_j4
    refine LoopP.by (J:=fun k (y:Int) hp=>∃ (j:Nat) (d2:Array Ss),y=j∧hp=HA hp0 b 79 sp ssc d2∧d2.size=n∧j<n∧k=j∧Sort.insInner (ltC cf) lo j d2=Sort.insInner (ltC cf) lo i d') ?_
      (n:=i) ⟨i,d',rfl,rfl,hs',by omega,rfl,rfl⟩
    rintro I2 k2 y hp2 ⟨j,d2,rfl,rfl,hs2,hj,hk2,he2⟩ hI2
    unfold F160_l5
    have out:Sort.insInner (ltC cf) lo i d'=d2→F160_j6 (some ⟨b,0,none⟩) n c lo hi (.func (.func f) ⟨ga⟩ ⟨gb⟩) i j false (HA hp0 b 79 sp ssc d2) I I2 K:=by
      intro heq
      unfold F160_j6 F160_j3
      rw [ite2_false,w64 (by omega) (by omega)]
      exact hI (hi-(i+1)) _ _ (by omega) ⟨i+1,d2,by omega,rfl,hs2,by omega,rfl,by rw [← heq]; exact he⟩
    by_cases hjl:lo<j
    · rw [decide_eq_true (by omega:(j:Int) > (lo:Int)),ite2_true]
      obtain ⟨j',rfl⟩:∃ j',j=j'+1:=⟨j-1,by omega⟩
      have w1:IntKind.wrap .i64 (((j'+1:Nat):Int)-1)=(j':Int):=by rw [w64 (by omega) (by omega)]; omega
      have g1:=HA.get (hp0:=hp0) (b:=b) (e:=79) (sp:=sp) ssc_len (d:=d2) (i:=j'+1) (by omega)
      have g0:=HA.get (hp0:=hp0) (b:=b) (e:=79) (sp:=sp) ssc_len (d:=d2) (i:=j') (by omega)
      simp only [w1,ptrN_some,Int.toNat_natCast,g1,g0,ldL_some,fnV_mk]
      refine ⟨by omega,by omega,by omega,by omega,?_⟩
      refine hc d2 _ _ _ hs2 ?_
      rw [intV_int]
      rw [Sort.insInner] at he2
      have hgt:decide (j'+1 > lo)=true:=decide_eq_true (by omega)
      cases hlt:decide (cf d2[j'+1]! d2[j']!<0)
      · have:ltC cf d2[j'+1]! d2[j']! = false:=hlt
        rw [hgt,this] at he2
        exact out (by simpa using he2.symm)
      · have:ltC cf d2[j'+1]! d2[j']! = true:=hlt
        rw [hgt,this] at he2
        simp only [Bool.and_self,if_true] at he2
        unfold F160_j6
        simp only [ite2_true,w1,ptrN_some,Int.toNat_natCast,g0,g1,ldL_some]
        refine ⟨by omega,by omega,by omega,by omega,by omega,by omega,rfl,?_⟩
        refine HA.st ssc_len ssc_one (by omega) _ ?_
        refine ⟨by omega,by omega,rfl,?_⟩
        refine HA.st ssc_len ssc_one (by rw [Array.size_setIfInBounds]; omega) _ ?_
        exact hI2 j' _ _ (by omega) ⟨j',_,rfl,rfl,by rw [Array.size_setIfInBounds,Array.size_setIfInBounds]; exact hs2,by omega,rfl,he2⟩
    · rw [decide_eq_false (by omega:¬ (j:Int) > (lo:Int)),ite2_false]
      refine out ?_
      cases j with
      | zero=>rw [Sort.insInner] at he2; exact he2.symm
      | succ j=>
        rw [Sort.insInner] at he2
        have hgt:decide (j+1 > lo)=false:=decide_eq_false (by omega)
        rw [hgt] at he2
        simpa using he2.symm
  · rw [decide_eq_false (by omega:¬ (i:Int)<(hi:Int)),ite2_false]
    rw [if_neg hi'] at he
    rw [he]
    exact h
end
end Go.Proofs
