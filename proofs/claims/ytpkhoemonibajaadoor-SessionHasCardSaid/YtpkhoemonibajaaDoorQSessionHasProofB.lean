/- Parts of the proof of SessionHasProof: the logic of what is known of memory, functions' contracts. -/
import Derived.Test.YtpkhoemonibajaaDoorQSessionHasProofA
import Derived.Test.YtpkhoemonibajaaDoorHlUse2
import Derived.Test.YtpkhoemonibajaaDoorHlAbb
import Derived.Test.YtpkhoemonibajaaDoorProg
import Derived.Shelf.Strconv.Itoa3
import Derived.ChangeKeysEq
import Derived.Test.YtpkhoemonibajaaDoorHlLib
import Derived.Lib.ItoaNum
import Derived.Test.YtpkhoemonibajaaDoorHlBytes
import Derived.Lib.ItoaLen
import Derived.Lib.Overlaps
import Derived.Laws.Externs
import Derived.Test.YtpkhoemonibajaaDoorHlMid
import Derived.Sort.LotA
import Derived.Test.YtpkhoemonibajaaDoorHlRange
import Derived.Test.YtpkhoemonibajaaDoorHlMapL
import Derived.Sort.LotB
import Derived.Sort.LotC
import Derived.Sort.LotD1
import Derived.Sort.LotD3
set_option linter.unusedVariables false
set_option linter.unusedSimpArgs false
set_option linter.unusedVariables false
set_option maxRecDepth 20000
namespace Go.Proofs
open Go Go.HL Go.Shelf
def itoaRen:Ren where
  f:=fun | 129=>148 | 171=>116 | 243=>135 | 246=>159 | 283=>178 | 284=>179 | 285=>180 | 286=>181 | 317=>188 | 318=>189 | 319=>190 | 320=>191 | 337=>194 | 338=>195 | n=>n
  t:=fun | 0=>0 | 2=>2 | 3=>3 | 4=>4 | 5=>5 | 9=>9 | 20=>20 | 37=>199 | 46=>211 | 51=>215 | 53=>233 | 171=>257 | 173=>259 | 212=>267 | 213=>268 | 232=>271 | 233=>272 | n=>n
  g:=fun | 17=>0 | 18=>1 | 19=>2 | n=>n
theorem itoa_zero {P:Program} {t:TypeId} {z:Value} (h:(P.info? t).bind (·.zero)=some z) (w:World):(zeroValue t).run P w=.ok z w:=by
  cases hi:P.info? t with
  | none=>rw [hi] at h; cases h
  | some i=>
    rw [hi] at h
    have hz:i.zero=some z:=h
    simp [zeroValue,typeInfo,hi,hz]
theorem itoa_size {P:Program} {t:TypeId} {n:Nat} (h:(P.info? t).map (·.size)=some n) (w:World):(Go.sizeOf t).run P w=.ok n w:=by
  cases hi:P.info? t with
  | none=>rw [hi] at h; cases h
  | some i=>
    rw [hi] at h
    have hz:i.size=n:=by simpa using h
    simp [Go.sizeOf,typeInfo,hi,hz]
theorem itoa_agg {P:Program} {t:TypeId} {n e} (h:P.underlying t=some (.array n e)) (w:World):(isAgg t).run P w=.ok true w:=by
  simp [isAgg,run_underlying h]
theorem itoaLays0:Lays.n171 Tryd.prog itoaRen where
  mixed:=by kernel_rfl
  f129:=by kernel_rfl
  f171:=by kernel_rfl
  f243:=by kernel_rfl
  f246:=by kernel_rfl
  f283:=by kernel_rfl
  f284:=by kernel_rfl
  f285:=by kernel_rfl
  f286:=by kernel_rfl
  f317:=by kernel_rfl
  f318:=by kernel_rfl
  f319:=by kernel_rfl
  f320:=by kernel_rfl
  f337:=by kernel_rfl
  f338:=by kernel_rfl
  t0:=by kernel_rfl
  a0:=run_isAgg_plain (t:=itoaRen.t 0) (d:=(TypeDesc.tuple #[])) (by kernel_rfl) rfl
  z0:=itoa_size (by kernel_rfl)
  v0:=itoa_zero (by kernel_rfl)
  t2:=by kernel_rfl
  a2:=run_isAgg_plain (t:=itoaRen.t 2) (d:=(TypeDesc.int IntKind.i64)) (by kernel_rfl) rfl
  z2:=itoa_size (by kernel_rfl)
  v2:=itoa_zero (by kernel_rfl)
  t3:=by kernel_rfl
  a3:=run_isAgg_plain (t:=itoaRen.t 3) (d:=(TypeDesc.int IntKind.i64)) (by kernel_rfl) rfl
  z3:=itoa_size (by kernel_rfl)
  v3:=itoa_zero (by kernel_rfl)
  t4:=by kernel_rfl
  a4:=run_isAgg_plain (t:=itoaRen.t 4) (d:=(TypeDesc.bool)) (by kernel_rfl) rfl
  z4:=itoa_size (by kernel_rfl)
  v4:=itoa_zero (by kernel_rfl)
  t5:=by kernel_rfl
  a5:=run_isAgg_plain (t:=itoaRen.t 5) (d:=(TypeDesc.int IntKind.u8)) (by kernel_rfl) rfl
  z5:=itoa_size (by kernel_rfl)
  v5:=itoa_zero (by kernel_rfl)
  t9:=by kernel_rfl
  a9:=run_isAgg_plain (t:=itoaRen.t 9) (d:=(TypeDesc.string)) (by kernel_rfl) rfl
  z9:=itoa_size (by kernel_rfl)
  v9:=itoa_zero (by kernel_rfl)
  t20:=by kernel_rfl
  a20:=run_isAgg_plain (t:=itoaRen.t 20) (d:=(TypeDesc.interface #[])) (by kernel_rfl) rfl
  z20:=itoa_size (by kernel_rfl)
  v20:=itoa_zero (by kernel_rfl)
  t37:=by kernel_rfl
  a37:=run_isAgg_plain (t:=itoaRen.t 37) (d:=(TypeDesc.slice (itoaRen.t 5))) (by kernel_rfl) rfl
  z37:=itoa_size (by kernel_rfl)
  v37:=itoa_zero (by kernel_rfl)
  t46:=by kernel_rfl
  a46:=run_isAgg_plain (t:=itoaRen.t 46) (d:=(TypeDesc.int IntKind.u64)) (by kernel_rfl) rfl
  z46:=itoa_size (by kernel_rfl)
  v46:=itoa_zero (by kernel_rfl)
  t51:=by kernel_rfl
  a51:=run_isAgg_plain (t:=itoaRen.t 51) (d:=(TypeDesc.int IntKind.u32)) (by kernel_rfl) rfl
  z51:=itoa_size (by kernel_rfl)
  v51:=itoa_zero (by kernel_rfl)
  t53:=by kernel_rfl
  a53:=run_isAgg_plain (t:=itoaRen.t 53) (d:=(TypeDesc.int IntKind.u64)) (by kernel_rfl) rfl
  z53:=itoa_size (by kernel_rfl)
  v53:=itoa_zero (by kernel_rfl)
  t171:=by kernel_rfl
  a171:=itoa_agg (t:=itoaRen.t 171) (n:=24) (e:=(itoaRen.t 5)) (by kernel_rfl)
  z171:=itoa_size (by kernel_rfl)
  v171:=itoa_zero (by kernel_rfl)
  t173:=by kernel_rfl
  a173:=run_isAgg_plain (t:=itoaRen.t 173) (d:=(TypeDesc.tuple #[itoaRen.t 37,itoaRen.t 9])) (by kernel_rfl) rfl
  z173:=itoa_size (by kernel_rfl)
  v173:=itoa_zero (by kernel_rfl)
  t212:=by kernel_rfl
  a212:=itoa_agg (t:=itoaRen.t 212) (n:=20) (e:=(itoaRen.t 53)) (by kernel_rfl)
  z212:=itoa_size (by kernel_rfl)
  v212:=itoa_zero (by kernel_rfl)
  t213:=by kernel_rfl
  a213:=itoa_agg (t:=itoaRen.t 213) (n:=65) (e:=(itoaRen.t 5)) (by kernel_rfl)
  z213:=itoa_size (by kernel_rfl)
  t232:=by kernel_rfl
  a232:=itoa_agg (t:=itoaRen.t 232) (n:=32) (e:=(itoaRen.t 5)) (by kernel_rfl)
  z232:=itoa_size (by kernel_rfl)
  v232:=itoa_zero (by kernel_rfl)
  t233:=by kernel_rfl
  a233:=itoa_agg (t:=itoaRen.t 233) (n:=64) (e:=(itoaRen.t 5)) (by kernel_rfl)
  z233:=itoa_size (by kernel_rfl)
  v233:=itoa_zero (by kernel_rfl)
  g17:=by kernel_rfl
  g18:=by kernel_rfl
  g19:=by kernel_rfl
theorem itoaLays:LaysM.n171 Tryd.prog itoaRen:={ itoaLays0 with
  i0:=by kernel_rfl
  i2:=by kernel_rfl
  i3:=by kernel_rfl
  i4:=by kernel_rfl
  i5:=by kernel_rfl
  i9:=by kernel_rfl
  i20:=by kernel_rfl
  i37:=by kernel_rfl
  i46:=by kernel_rfl
  i51:=by kernel_rfl
  i53:=by kernel_rfl
  i171:=by kernel_rfl
  i173:=by kernel_rfl
  i212:=by kernel_rfl
  i232:=by kernel_rfl
  i233:=by kernel_rfl
  m17:=by kernel_rfl
  m18:=by kernel_rfl
  m19:=by kernel_rfl }
theorem fits_below {F:Nat→Prop} {w0 w w':World} {hp:HP} (h:Fits F w0 hp w) (b:RowKit.Below w.heap.size w w'):Fits F w0 hp w':=by
  refine ⟨fun k=>?_,fun k hk=>?_,b.os.trans h.os,b.tape.trans h.tape,b.output.trans h.output,Nat.le_trans h.size b.size⟩
  · have hk:=h.ent k
    by_cases hlt:k<w.heap.size
    · rw [b.block k hlt]; exact hk
    · have hn:w.heap[k]?=none:=by simp; omega
      rw [hn] at hk
      cases e:hp k with
      | none=>trivial
      | cells t cs sp=>rw [e] at hk; obtain ⟨_,_,hk⟩:=hk; cases hk
      | obj o=>rw [e] at hk; cases hk
  · obtain ⟨h1,h2,h3⟩:=h.fr k hk
    exact ⟨h1,Nat.lt_of_lt_of_le h2 b.size,(b.block k h2).trans h3⟩
/-- The table of the powers of ten, as it lies in memory. -/
def TabO (o:Obj):Prop:=∃ t z,o=.cells (Lib.pow10Tab.map fun z=>Value.int .u64 z).toArray t z
/-- It is what is known of the first block. -/
def TabR (o:Obj) (hp:HP):Prop:=hp 0=.obj o∧TabO o
theorem TabR.sub {o:Obj} {hp hp':HP} (h:TabR o hp) (hs:HSub hp hp'):TabR o hp':=⟨hs.obj h.1,h.2⟩
theorem TabR.tab {o : Obj} {hp : HP} (h : TabR o hp) {F w0 w} (hf : Fits F w0 hp w) : Lib.TabIs Tryd.prog w "internal/strconv.uint64pow10" .u64 Lib.pow10Tab := by
  obtain ⟨h,t,z,rfl⟩:=h
  have hb:w.heap[0]?=_:=h▸hf.ent 0
  have hg : Tryd.prog.globalNamed "internal/strconv.uint64pow10" = some 0 := by kernel_rfl
  unfold Lib.TabIs World.var?
  rw [hg]
  simp [hb]
theorem tabO_of {W : World} (h : Lib.TabIs Tryd.prog W "internal/strconv.uint64pow10" .u64 Lib.pow10Tab) : ∃ o, W.heap[0]? = some o ∧ TabO o := by
  have hg : Tryd.prog.globalNamed "internal/strconv.uint64pow10" = some 0 := by kernel_rfl
  unfold Lib.TabIs World.var? at h
  rw [hg] at h
  simp only [Option.bind_some] at h
  split at h
  · rename_i cs t z e
    cases h
    exact ⟨_,e,t,z,rfl⟩
  · cases h
theorem C116 {o:Obj} {n:Int} {hp:HP} {K:Value→HP→Prop} (ht:TabR o hp) (h0:-9223372036854775808≤n∧n≤9223372036854775807) (h:K (.string ⟨(Lib.itoa n).toArray⟩) hp):CF Tryd.prog 116 [.int .i64 n] hp K:=
  .inl ⟨by kernel_rfl,fun F w hf=>(Any.strconv_Itoa itoaLays n h0.1 h0.2 w (ht.tab hf)).mono fun e w' ⟨he,k,os,hw⟩=>⟨_,hp,he,fits_below hf (by subst hw; exact ⟨rfl,rfl,rfl,by simp [Sort.grow,World.drewN],fun k hk=>by simp [Sort.grow,World.drewN,Array.getElem?_append,hk]⟩),h⟩⟩
end Go.Proofs
set_option linter.unusedVariables false
namespace Go.Proofs
open Go Go.HL
/-- An address: four bytes. -/
abbrev Q:=Int × Int × Int × Int
def v4 (q:Q):List Value:=[.int .u8 q.1,.int .u8 q.2.1,.int .u8 q.2.2.1,.int .u8 q.2.2.2]
def t4 (t:Q × Int):List Value:=[.int .u8 t.1.1,.int .u8 t.1.2.1,.int .u8 t.1.2.2.1,.int .u8 t.1.2.2.2,.int .i64 t.2]
theorem v4_inj {p q:Q}:v4 p=v4 q↔p=q:=by
  simp only [v4,List.cons.injEq,Value.int.injEq,true_and,and_true]
  constructor
  · rintro ⟨a,b,c,d⟩; exact Prod.ext a (Prod.ext b (Prod.ext c d))
  · rintro rfl; exact ⟨rfl,rfl,rfl,rfl⟩
theorem t4_inj {p q:Q × Int}:t4 p=t4 q↔p=q:=by
  simp only [t4,List.cons.injEq,Value.int.injEq,true_and,and_true]
  constructor
  · rintro ⟨a,b,c,d,e⟩; exact Prod.ext (Prod.ext a (Prod.ext b (Prod.ext c d))) e
  · rintro rfl; exact ⟨rfl,rfl,rfl,rfl,rfl⟩
theorem v4_shaped (q:Q):shaped Tryd.prog 3 27 (v4 q)=true:=by kernel_rfl
theorem eq73 {p q:Q} {c:Bool→Prop} (h:c (decide (p=q))):eqAgg Tryd.prog 27 (v4 p) (v4 q) c:=
  eqAgg_of (m:=3) (D:=3) (by kernel_rfl) (v4_shaped p) (v4_shaped q) (by simp [v4_inj]) h
/-! Class, the two addresses. -/
/-- Where an address is in a list, or -1. -/
def idx (q:Q) (l:List Q):Int:=if q∈l then (l.idxOf q:Int) else -1
end Go.Proofs
namespace Go.HL
open Go Go.Lib
/-- The number that digits read as. -/
def dval (l:List UInt8):Nat:=l.foldl (fun a b=>a*10+(b.toNat-48)) 0
theorem dval_dec:∀ u:Nat,dval (decDigits u)=u
  | u=>by
    rw [decDigits]
    split
    · rename_i h
      simp only [dval,List.foldl_cons,List.foldl_nil]
      have:(UInt8.ofNat (48+u)).toNat=48+u:=by simp [UInt8.toNat_ofNat']; omega
      rw [this]; omega
    · rename_i h
      have ih:=dval_dec (u / 10)
      unfold dval at ih ⊢
      rw [List.foldl_append,ih]
      simp only [List.foldl_cons,List.foldl_nil]
      have:(UInt8.ofNat (48+u % 10)).toNat=48+u % 10:=by simp [UInt8.toNat_ofNat']; omega
      rw [this]; omega
termination_by u=>u
decreasing_by omega
theorem dec_digit:∀ (u:Nat) (b:UInt8),b∈decDigits u→48≤b.toNat∧b.toNat≤57
  | u,b,h=>by
    rw [decDigits] at h
    split at h
    · rename_i hu
      rw [List.mem_singleton] at h
      subst h
      have:(UInt8.ofNat (48+u)).toNat=48+u:=by simp [UInt8.toNat_ofNat']; omega
      omega
    · rename_i hu
      rw [List.mem_append,List.mem_singleton] at h
      rcases h with h | h
      · exact dec_digit (u / 10) b h
      · subst h
        have:(UInt8.ofNat (48+u % 10)).toNat=48+u % 10:=by simp [UInt8.toNat_ofNat']; omega
        omega
termination_by u=>u
decreasing_by omega
theorem dec_inj {u v:Nat} (h:decDigits u=decDigits v):u=v:=by
  rw [← dval_dec u,h,dval_dec]
theorem itoa_inj {a b:Int} (h:itoa a=itoa b):a=b:=by
  unfold itoa at h
  have key:∀ u v:Nat,(45:UInt8)::decDigits u≠decDigits v:=fun u v e=>by
    have:=dec_digit v 45 (by rw [← e]; simp)
    have e45:(45:UInt8).toNat=45:=rfl
    omega
  split at h <;> split at h
  · rw [List.cons.injEq] at h
    have:=dec_inj h.2
    omega
  · exact absurd h (key _ _)
  · exact absurd h.symm (key _ _)
  · have:=dec_inj h
    omega
theorem itoa_blank (a:Int):(32:UInt8) ∉ itoa a:=by
  unfold itoa
  have key:∀ u:Nat,(32:UInt8) ∉ decDigits u:=fun u h=>by
    have:=dec_digit u 32 h
    have e32:(32:UInt8).toNat=32:=rfl
    omega
  split
  · rw [List.mem_cons,not_or]
    exact ⟨by decide,key _⟩
  · exact key _
theorem blank_split:∀ {a b r s:List UInt8},(32:UInt8) ∉ a→(32:UInt8) ∉ b→a++32::r=b++32::s→a=b∧r=s
  | [],[],_,_,_,_,h=>by simpa using h
  | [],y::b,_,_,_,hb,h=>by
    simp only [List.nil_append,List.cons_append,List.cons.injEq] at h
    exact absurd (by rw [h.1]; simp) hb
  | x::a,[],_,_,ha,_,h=>by
    simp only [List.nil_append,List.cons_append,List.cons.injEq] at h
    exact absurd (by rw [← h.1]; simp) ha
  | x::a,y::b,r,s,ha,hb,h=>by
    simp only [List.cons_append,List.cons.injEq] at h
    obtain ⟨e1,e2⟩:=h
    have:=blank_split (a:=a) (b:=b) (fun hm=>ha (List.mem_cons_of_mem _ hm)) (fun hm=>hb (List.mem_cons_of_mem _ hm)) e2
    exact ⟨by rw [e1,this.1],this.2⟩
/-- Two numbers, each with a blank behind it, and bytes. -/
def keyL (a b:Int) (l:List UInt8):List UInt8:=itoa a++32::(itoa b++32::l)
theorem keyL_inj {a b c d:Int} {l m:List UInt8} (h:keyL a b l=keyL c d m):a=c∧b=d∧l=m:=by
  unfold keyL at h
  obtain ⟨h1,h2⟩:=blank_split (itoa_blank a) (itoa_blank c) h
  obtain ⟨h3,h4⟩:=blank_split (itoa_blank b) (itoa_blank d) h2
  exact ⟨itoa_inj h1,itoa_inj h3,h4⟩
end Go.HL
set_option linter.unusedVariables false
set_option linter.unusedSimpArgs false
set_option maxRecDepth 20000
namespace Go.Proofs
open Go Go.HL
def okB (n:Int):Prop:=0≤n∧n≤255
def okZ (n:Int):Prop:=-9223372036854775808≤n∧n≤9223372036854775807
def okQ (q:Q):Prop:=okB q.1∧okB q.2.1∧okB q.2.2.1∧okB q.2.2.2
def okT (t:Q × Int):Prop:=okQ t.1∧okZ t.2
def qi (q:Q):List Int:=[q.1,q.2.1,q.2.2.1,q.2.2.2]
def bs (q:Q):List UInt8:=(qi q).map u8
theorem bs_inj {p q:Q} (hp:okQ p) (hq:okQ q) (h:bs p=bs q):p=q:=by
  simp only [bs,qi,List.map_cons,List.map_nil,List.cons.injEq,and_true] at h
  obtain ⟨a1,a2,a3,a4⟩:=hp
  obtain ⟨b1,b2,b3,b4⟩:=hq
  exact Prod.ext (u8_inj a1 b1 h.1) (Prod.ext (u8_inj a2 b2 h.2.1) (Prod.ext (u8_inj a3 b3 h.2.2.1) (u8_inj a4 b4 h.2.2.2)))
/-- The key of two transport addresses. -/
def keyS (o p:Q × Int):ByteArray:=⟨(keyL o.2 p.2 (bs o.1++bs p.1)).toArray⟩
def itS (n:Int):ByteArray:=⟨(Lib.itoa n).toArray⟩
theorem itS_size {n:Int} (h:okZ n):(itS n).size≤21:=by
  have:=Lib.itoa_length_le n h.1 h.2
  show (Lib.itoa n).toArray.size≤21
  simpa using this
def byS (l:List UInt8):ByteArray:=⟨l.toArray⟩
theorem byS_app (l m:List UInt8):byS l++byS m=byS (l++m):=by
  apply ByteArray.ext
  simp [byS,ByteArray.data_append]
theorem TabR.set {o:Obj} {hp:HP} (h:TabR o hp) {b:Nat} (hb:hp b=.none) (e:Ent):TabR o (hp.set b e):=h.sub (HSub.set_fresh hp e hb)
end Go.Proofs
set_option linter.unusedVariables false
set_option maxRecDepth 20000
namespace Go.Proofs
open Go Go.HL
end Go.Proofs
set_option linter.unusedVariables false
set_option maxRecDepth 20000
namespace Go.Proofs
open Go Go.HL
end Go.Proofs
set_option linter.unusedVariables false
set_option maxRecDepth 20000
namespace Go.Proofs
open Go Go.HL
end Go.Proofs
set_option linter.unusedVariables false
namespace Go.Proofs
open Go Go.HL
def vb (b:Bool):Value:=.bool b
theorem zero_of {P:Program} {t:TypeId} {z:Value} (h:(P.info? t).bind (·.zero)=some z) (w:World):(zeroValue t).run P w=.ok z w:=by
  cases hi:P.info? t with
  | none=>rw [hi] at h; cases h
  | some i=>rw [hi] at h; simp only [Option.bind_some] at h; simp [zeroValue,typeInfo,hi,h]
theorem zwb4:∀ w:World,(zeroValue 4).run Tryd.prog w=.ok (.bool false) w:=zero_of (by kernel_rfl)
end Go.Proofs
set_option linter.unusedVariables false
set_option maxRecDepth 20000
namespace Go.Proofs
open Go Go.HL
end Go.Proofs
set_option linter.unusedVariables false
namespace Go.Proofs
open Go Go.HL
def ports:Nat→Int→List Int
  | 0,_=>[]
  | k+1,n=>n::ports k (n+1)
def q0:Q:=(0,0,0,0)
end Go.Proofs
set_option linter.unusedVariables false
set_option maxRecDepth 20000
namespace Go.Proofs
open Go Go.HL
/-! A nil pool. -/
/-! The document's answer. -/
end Go.Proofs
set_option linter.unusedVariables false
set_option maxRecDepth 20000
namespace Go.Proofs
open Go Go.HL
section
variable {p m:Nat} {l:List Q} {low high:Int} {held:List ((Q × Int) × Bool)} {t:Q × Int} {hp:HP} {K:Value→HP→Prop}
end
end Go.Proofs
set_option linter.unusedVariables false
namespace Go.Proofs
open Go Go.HL
/-- The lesser first, of two numbers. -/
def cmpI (x y:Int):Int:=if x<y then -1 else if x > y then 1 else 0
end Go.Proofs
set_option linter.unusedVariables false
set_option maxRecDepth 20000
namespace Go.Proofs
open Go Go.HL
section
variable {p m:Nat} {l:List Q} {low high:Int} {held:List ((Q × Int) × Bool)} {hp:HP} {K:Value→HP→Prop}
end
end Go.Proofs
set_option linter.unusedVariables false
namespace Go.Proofs
open Go Go.HL
end Go.Proofs
set_option linter.unusedVariables false
set_option linter.unusedSimpArgs false
set_option maxRecDepth 20000
namespace Go.Proofs
open Go Go.HL
/-- An inner address: sixteen bytes, by fours. -/
abbrev V6:=Q × Q × Q × Q
theorem pq (p:Nat) (c:Option Addr→Prop):ptrV (ptr p 0) c=c (some ⟨p,0,none⟩):=rfl
set_option synthInstance.maxSize 2000 in
set_option synthInstance.maxHeartbeats 400000 in
instance instV6:DecidableEq V6:=inferInstance
instance instT6:DecidableEq (V6 × Int):=instDecidableEqProd
def v6 (a:V6):List Value:=v4 a.1++(v4 a.2.1++(v4 a.2.2.1++v4 a.2.2.2))
def key4 (p:Int) (t:Q × Int):ByteArray:=⟨(keyL p t.2 (bs t.1)).toArray⟩
theorem keyA_inj {a b c d:Int} {l m:List UInt8} (h:(⟨(keyL a b l).toArray⟩:ByteArray)=⟨(keyL c d m).toArray⟩):a=c∧b=d∧l=m:=by
  refine keyL_inj ?_
  have:=congrArg ByteArray.data h
  have:=congrArg Array.toList this
  simpa using this
theorem key4_inj {p q:Int} {s t:Q × Int} (hs:okT s) (ht:okT t) (h:key4 p s=key4 q t):p=q∧s=t:=by
  obtain ⟨a,b,c⟩:=keyA_inj h
  exact ⟨a,Prod.ext (bs_inj hs.1 ht.1 c) b⟩
theorem keyA_app (a b:Int) (l:List UInt8):((((itS a++(⟨#[32]⟩:ByteArray))++itS b)++(⟨#[32]⟩:ByteArray))++byS l)=⟨(keyL a b l).toArray⟩:=by
  have e:(⟨#[32]⟩:ByteArray)=byS [32]:=rfl
  have e2:∀ n,itS n=byS (Lib.itoa n):=fun _=>rfl
  have e3:(⟨(keyL a b l).toArray⟩:ByteArray)=byS (keyL a b l):=rfl
  rw [e,e2,e2,e3,byS_app,byS_app,byS_app,byS_app]
  congr 1
  simp [keyL]
end Go.Proofs
set_option linter.unusedVariables false
set_option linter.unusedSimpArgs false
set_option maxRecDepth 20000
namespace Go.Proofs
open Go Go.HL
open Go.Exp (Th tlt Ord setW dropW insW)
/-- A stored one. -/
structure Sy where
  id:Int
  out:Q × Int
  peer:Q × Int
  due:Int
  text:ByteArray
deriving DecidableEq
def zT:Q × Int:=((0,0,0,0),0)
def sy0:Sy:=⟨0,zT,zT,0,⟨#[]⟩⟩
instance:Inhabited Sy:=⟨sy0⟩
def Sy.key (x:Sy):ByteArray:=keyS x.out x.peer
theorem t4_cells (t:Q × Int):cellsN (t4 t) 0 5=some (t4 t):=rfl
theorem pp (p:Nat) (c:Option Addr→Prop):ptrV (ptr p 0) c=c (some ⟨p,0,none⟩):=rfl
section
variable {tb:Obj} {hq:HP} {s mx last:Nat} {L:List Sy} {w:List Th} {K:Value→HP→Prop}
end
end Go.Proofs
set_option linter.unusedVariables false
set_option linter.unusedSimpArgs false
set_option maxRecDepth 20000
namespace Go.Proofs
open Go Go.HL
open Go.Exp (Th tlt Ord setW dropW insW)
section
variable {tb:Obj} {hq:HP} {s mx last:Nat} {L:List Sy} {w:List Th} {K:Value→HP→Prop}
end
end Go.Proofs
set_option linter.unusedVariables false
set_option linter.unusedSimpArgs false
set_option maxRecDepth 20000
namespace Go.Proofs
open Go Go.HL
open Go.Exp (Th tlt Ord setW dropW insW)
section
variable {tb:Obj} {hq:HP} {s mx last:Nat} {L:List Sy} {w:List Th} {K:Value→HP→Prop}
end
end Go.Proofs
set_option linter.unusedVariables false
set_option linter.unusedSimpArgs false
set_option maxRecDepth 20000
namespace Go.Proofs
open Go Go.HL
open Go.Exp (Th tlt Ord setW dropW insW)
section
variable {tb:Obj} {hp:HP} {ps:Nat→HP} {s mx last:Nat} {L:List Sy} {w:List Th} {K:Value→HP→Prop}
theorem TabR.set_other {tb:Obj} {hp:HP} (h:TabR tb hp) {b:Nat} (hb:b≠0) (e:Ent):TabR tb (hp.set b e):=⟨by rw [HP.set_ne _ _ (fun e'=>hb e'.symm)]; exact h.1,h.2⟩
/-- What is known, but for the table; the table. -/
def startP (hp:HP) (tb:Obj):Nat→HP:=pu (pu (fun _ _=>.none) 1 (HP.onlyF 0 (.obj tb))) 0 (hp.set 0 .none)
theorem startP_ok (ht:TabR tb hp):Parts hp (startP hp tb):=by
  refine Parts.of_two ?_ (HSub.onlyF ht.1) fun x=>?_
  · intro x
    by_cases hx:x=0
    · subst hx; exact .inl (HP.set_eq ..)
    · exact .inr (HP.set_ne _ _ hx)
  · by_cases hx:x=0
    · subst hx; exact .inl (HP.set_eq ..)
    · exact .inr (HP.onlyF_ne _ hx)
theorem startP_0:startP hp tb 0=hp.set 0 .none:=pu_eq ..
theorem startP_1 (ht:TabR tb hp):TabR tb (startP hp tb 1):=⟨by unfold startP; rw [pu_ne _ _ (by omega),pu_eq]; exact HP.onlyF_eq ..,ht.2⟩
theorem finish {hp':HP} (ht:TabR tb hp) (hP:Parts hp' ps) (h0:ps 0=hp.set 0 .none) (ht':TabR tb hp'):HSub hp hp':=fun x=>by
  by_cases hx:x=0
  · subst hx; right; rw [ht.1,ht'.1]
  · have:=hP.sub 0 x
    rw [h0,HP.set_ne _ _ hx] at this
    exact this
theorem okBc {n:Int} (h:decide (0≤n∧n≤255)=true):okB n:=@of_decide_eq_true (0≤n∧n≤255) _ h
theorem okZc {n:Int} (h:decide (-9223372036854775808≤n∧n≤9223372036854775807)=true):okZ n:=@of_decide_eq_true (-9223372036854775808≤n∧n≤9223372036854775807) _ h
end
end Go.Proofs
set_option linter.unusedVariables false
set_option maxRecDepth 20000
namespace Go.Proofs
open Go Go.HL
section
variable {e:Env} {x0:OA} {hp:HP} {K:Env→PV→HP→Prop}
abbrev R90 (p n:Nat):=RW Tryd.prog 12 [] (opsAt Tryd.f90 (pth p)) (List.range n)
theorem F90_r0:R90 2 1 e V0 hp K=
 K (upd e 2 (sB false)) V0 hp:= by kernel_rfl
theorem F90_r1:R90 5 10 (upd e 0 (sP x0)) V0 hp K=
 ite2 (Option.isNone x0) (K (w3 (w8 e 0 (sP x0) 3 (sP x0) 4 (sB ((Option.isNone x0))) 5 (sB true) 6 sU 7 sU 8 sU 9 sU) 10 sU 11 (sB true) 2 (sB true)) V0 hp) (ptrN x0 fun b1 o2=>ldV (HP.cell hp b1 (o2+2)) fun v3=>mapV v3 fun m4=>K (w3 (w8 e 0 (sP x0) 3 (sP x0) 4 (sB ((Option.isNone x0))) 5 (sB false) 6 (sP x0) 7 (sQ b1 o2) 8 (sQ b1 (o2+2)) 9 (sV (.map m4))) 10 (sB ((Option.isNone m4))) 11 (sB ((Option.isNone m4))) 2 (sB ((Option.isNone m4)))) V0 hp):= by kernel_rfl
def F90 (x0:OA) (hp:HP) (K:Kh):Prop:=
  (ite2 (Option.isNone x0) (K (.bool true) hp) (ptrN x0 fun b1 o2=>ldV (HP.cell hp b1 (o2+2)) fun v3=>mapV v3 fun m4=>K (.bool (Option.isNone m4)) hp))
noncomputable def F90_code:Code:=(.seq (.region 0 (opsAt Tryd.f90 (pth 2)) false) (.seq (.region 1 (opsAt Tryd.f90 (pth 5)) false) .ret))
theorem F90_body:Tryd.f90.body=some F90_code:=by kernel_rfl
theorem F90_ok (x0:OA) (hp:HP) (K:Kh) (h:F90 x0 hp K):CF Tryd.prog 90 [(.pointer x0)] hp K:=by
 refine .inl ⟨by kernel_rfl,AC.intro (N:=12) Tryd.func90 F90_body rfl (Nat.le_of_ble_eq_true rfl) ?_⟩
 unfold F90 at h
 refine Ar F90_r0 ?_ (r1 0 Rn) (z1 Sn) Sn
 refine Ar F90_r1 ?_ (r1 0 Rn) (z1 Sn) Sn
 refine mt h (fun h=>?_) (fun h=>?_)
 ·refine AWP.ret ?_
  exact h
 ·refine mN h fun b1 o2 h=>mV h fun v3 h=>mM h fun m4 h=>?_
  refine AWP.ret ?_
  exact h
end
section
variable {e:Env} {x1:List Value} {hp:HP} {K:Env→PV→HP→Prop}
abbrev R91 (p n:Nat):=RW Tryd.prog 17 [] (opsAt Tryd.f91 (pth p)) (List.range n)
theorem F91_r0:R91 2 2 (upd e 1 (sA x1)) V0 hp K=
    (∀ b1:Nat,hp b1=.none→(K (w3 e 1 (sA x1) 3 (sQ b1 0) 4 (sV (.string (⟨#[]⟩:ByteArray)))) V0 (HP.set hp b1 (.cells 34 x1 0)))):=by kernel_rfl
theorem F91_r1 {e:Env} {x0:Int} {x3:OA} {hp:HP} {K:Env→PV→HP→Prop}:RW Tryd.prog 17 [] (opsAt Tryd.f91 (pth 5)) [0,1,2,3,4,5,6,7,8,9,10,11,12] (w2 e 3 (sP x3) 0 (sI x0)) V0 hp K=
    (CF Tryd.prog 116 [(.int .i64 x0)] hp fun u1 h2=>strV u1 fun s3=>(ByteArray.size s3+ByteArray.size (⟨#[32]⟩:ByteArray)≤9223372036854775807)∧(ptrN x3 fun b4 o5=>ldV (HP.cell h2 b4 (o5+4)) fun v6=>intV v6 .i64 fun i7=>CF Tryd.prog 116 [(.int .i64 i7)] h2 fun u8 h9=>strV u8 fun s10=>(ByteArray.size (s3++(⟨#[32]⟩:ByteArray))+ByteArray.size s10≤9223372036854775807)∧((ByteArray.size ((s3++(⟨#[32]⟩:ByteArray))++s10)+ByteArray.size (⟨#[32]⟩:ByteArray)≤9223372036854775807)∧(ptrN x3 fun b11 o12=>rdS Tryd.prog (convert 199 9 (.slice (some ⟨b11,(o12+0),none⟩) 4 4)) h9 fun u13=>strV u13 fun s14=>(ByteArray.size (((s3++(⟨#[32]⟩:ByteArray))++s10)++(⟨#[32]⟩:ByteArray))+ByteArray.size s14≤9223372036854775807)∧(K (w7 (w8 e 3 (sP x3) 0 (sI x0) 5 (sI x0) 6 (sT s3) 7 (sV (.string (s3++(⟨#[32]⟩:ByteArray)))) 8 (sQ b4 (o5+4)) 9 (sI i7) 10 (sT s10)) 11 (sV (.string ((s3++(⟨#[32]⟩:ByteArray))++s10))) 12 (sV (.string (((s3++(⟨#[32]⟩:ByteArray))++s10)++(⟨#[32]⟩:ByteArray)))) 13 (sQ b11 (o12+0)) 14 (sV (.slice (some ⟨b11,(o12+0),none⟩) 4 4)) 15 (sT s14) 16 (sV (.string ((((s3++(⟨#[32]⟩:ByteArray))++s10)++(⟨#[32]⟩:ByteArray))++s14))) 4 (sV (.string ((((s3++(⟨#[32]⟩:ByteArray))++s10)++(⟨#[32]⟩:ByteArray))++s14)))) V0 h9))))):=by kernel_rfl
theorem F91_r2 {e:Env} {x0:Int} {x3:OA} {hp:HP} {K:Env→PV→HP→Prop}:RW Tryd.prog 17 [] (opsAt Tryd.f91 (pth 5)) [0,1,2,3,4,8,9,10,5,6,7,11,12] (w2 e 3 (sP x3) 0 (sI x0)) V0 hp K=
    (CF Tryd.prog 116 [(.int .i64 x0)] hp fun u1 h2=>strV u1 fun s3=>(ByteArray.size s3+ByteArray.size (⟨#[32]⟩:ByteArray)≤9223372036854775807)∧(ptrN x3 fun b4 o5=>ldV (HP.cell h2 b4 (o5+4)) fun v6=>intV v6 .i64 fun i7=>ptrN x3 fun b8 o9=>rdS Tryd.prog (convert 199 9 (.slice (some ⟨b8,(o9+0),none⟩) 4 4)) h2 fun u10=>strV u10 fun s11=>CF Tryd.prog 116 [(.int .i64 i7)] h2 fun u12 h13=>strV u12 fun s14=>(ByteArray.size (s3++(⟨#[32]⟩:ByteArray))+ByteArray.size s14≤9223372036854775807)∧((ByteArray.size ((s3++(⟨#[32]⟩:ByteArray))++s14)+ByteArray.size (⟨#[32]⟩:ByteArray)≤9223372036854775807)∧((ByteArray.size (((s3++(⟨#[32]⟩:ByteArray))++s14)++(⟨#[32]⟩:ByteArray))+ByteArray.size s11≤9223372036854775807)∧(K (w7 (w8 e 3 (sP x3) 0 (sI x0) 5 (sI x0) 6 (sT s3) 7 (sV (.string (s3++(⟨#[32]⟩:ByteArray)))) 8 (sQ b4 (o5+4)) 9 (sI i7) 13 (sQ b8 (o9+0))) 14 (sV (.slice (some ⟨b8,(o9+0),none⟩) 4 4)) 15 (sT s11) 10 (sT s14) 11 (sV (.string ((s3++(⟨#[32]⟩:ByteArray))++s14))) 12 (sV (.string (((s3++(⟨#[32]⟩:ByteArray))++s14)++(⟨#[32]⟩:ByteArray)))) 16 (sV (.string ((((s3++(⟨#[32]⟩:ByteArray))++s14)++(⟨#[32]⟩:ByteArray))++s11))) 4 (sV (.string ((((s3++(⟨#[32]⟩:ByteArray))++s14)++(⟨#[32]⟩:ByteArray))++s11)))) V0 h13))))):=by kernel_rfl
theorem F91_r3 {e:Env} {x0:Int} {x3:OA} {hp:HP} {K:Env→PV→HP→Prop}:RW Tryd.prog 17 [] (opsAt Tryd.f91 (pth 5)) [0,3,8,9,10,1,2,4,5,6,7,11,12] (w2 e 3 (sP x3) 0 (sI x0)) V0 hp K=
    (ptrN x3 fun b1 o2=>ptrN x3 fun b3 o4=>rdS Tryd.prog (convert 199 9 (.slice (some ⟨b3,(o4+0),none⟩) 4 4)) hp fun u5=>strV u5 fun s6=>CF Tryd.prog 116 [(.int .i64 x0)] hp fun u7 h8=>strV u7 fun s9=>(ByteArray.size s9+ByteArray.size (⟨#[32]⟩:ByteArray)≤9223372036854775807)∧(ldV (HP.cell h8 b1 (o2+4)) fun v10=>intV v10 .i64 fun i11=>CF Tryd.prog 116 [(.int .i64 i11)] h8 fun u12 h13=>strV u12 fun s14=>(ByteArray.size (s9++(⟨#[32]⟩:ByteArray))+ByteArray.size s14≤9223372036854775807)∧((ByteArray.size ((s9++(⟨#[32]⟩:ByteArray))++s14)+ByteArray.size (⟨#[32]⟩:ByteArray)≤9223372036854775807)∧((ByteArray.size (((s9++(⟨#[32]⟩:ByteArray))++s14)++(⟨#[32]⟩:ByteArray))+ByteArray.size s6≤9223372036854775807)∧(K (w7 (w8 e 3 (sP x3) 0 (sI x0) 5 (sI x0) 8 (sQ b1 (o2+4)) 13 (sQ b3 (o4+0)) 14 (sV (.slice (some ⟨b3,(o4+0),none⟩) 4 4)) 15 (sT s6) 6 (sT s9)) 7 (sV (.string (s9++(⟨#[32]⟩:ByteArray)))) 9 (sI i11) 10 (sT s14) 11 (sV (.string ((s9++(⟨#[32]⟩:ByteArray))++s14))) 12 (sV (.string (((s9++(⟨#[32]⟩:ByteArray))++s14)++(⟨#[32]⟩:ByteArray)))) 16 (sV (.string ((((s9++(⟨#[32]⟩:ByteArray))++s14)++(⟨#[32]⟩:ByteArray))++s6))) 4 (sV (.string ((((s9++(⟨#[32]⟩:ByteArray))++s14)++(⟨#[32]⟩:ByteArray))++s6)))) V0 h13))))):=by kernel_rfl
theorem F91_r4 {e:Env} {x0:Int} {x3:OA} {hp:HP} {K:Env→PV→HP→Prop}:RW Tryd.prog 17 [] (opsAt Tryd.f91 (pth 5)) [0,3,4,1,2,5,6,7,8,9,10,11,12] (w2 e 3 (sP x3) 0 (sI x0)) V0 hp K=
    (ptrN x3 fun b1 o2=>ldV (HP.cell hp b1 (o2+4)) fun v3=>intV v3 .i64 fun i4=>CF Tryd.prog 116 [(.int .i64 x0)] hp fun u5 h6=>strV u5 fun s7=>(ByteArray.size s7+ByteArray.size (⟨#[32]⟩:ByteArray)≤9223372036854775807)∧(CF Tryd.prog 116 [(.int .i64 i4)] h6 fun u8 h9=>strV u8 fun s10=>(ByteArray.size (s7++(⟨#[32]⟩:ByteArray))+ByteArray.size s10≤9223372036854775807)∧((ByteArray.size ((s7++(⟨#[32]⟩:ByteArray))++s10)+ByteArray.size (⟨#[32]⟩:ByteArray)≤9223372036854775807)∧(ptrN x3 fun b11 o12=>rdS Tryd.prog (convert 199 9 (.slice (some ⟨b11,(o12+0),none⟩) 4 4)) h9 fun u13=>strV u13 fun s14=>(ByteArray.size (((s7++(⟨#[32]⟩:ByteArray))++s10)++(⟨#[32]⟩:ByteArray))+ByteArray.size s14≤9223372036854775807)∧(K (w7 (w8 e 3 (sP x3) 0 (sI x0) 5 (sI x0) 8 (sQ b1 (o2+4)) 9 (sI i4) 6 (sT s7) 7 (sV (.string (s7++(⟨#[32]⟩:ByteArray)))) 10 (sT s10)) 11 (sV (.string ((s7++(⟨#[32]⟩:ByteArray))++s10))) 12 (sV (.string (((s7++(⟨#[32]⟩:ByteArray))++s10)++(⟨#[32]⟩:ByteArray)))) 13 (sQ b11 (o12+0)) 14 (sV (.slice (some ⟨b11,(o12+0),none⟩) 4 4)) 15 (sT s14) 16 (sV (.string ((((s7++(⟨#[32]⟩:ByteArray))++s10)++(⟨#[32]⟩:ByteArray))++s14))) 4 (sV (.string ((((s7++(⟨#[32]⟩:ByteArray))++s10)++(⟨#[32]⟩:ByteArray))++s14)))) V0 h9))))):=by kernel_rfl
theorem F91_r5 {e:Env} {x0:Int} {x3:OA} {hp:HP} {K:Env→PV→HP→Prop}:RW Tryd.prog 17 [] (opsAt Tryd.f91 (pth 5)) [0,3,4,1,2,8,9,10,5,6,7,11,12] (w2 e 3 (sP x3) 0 (sI x0)) V0 hp K=
    (ptrN x3 fun b1 o2=>ldV (HP.cell hp b1 (o2+4)) fun v3=>intV v3 .i64 fun i4=>CF Tryd.prog 116 [(.int .i64 x0)] hp fun u5 h6=>strV u5 fun s7=>(ByteArray.size s7+ByteArray.size (⟨#[32]⟩:ByteArray)≤9223372036854775807)∧(ptrN x3 fun b8 o9=>rdS Tryd.prog (convert 199 9 (.slice (some ⟨b8,(o9+0),none⟩) 4 4)) h6 fun u10=>strV u10 fun s11=>CF Tryd.prog 116 [(.int .i64 i4)] h6 fun u12 h13=>strV u12 fun s14=>(ByteArray.size (s7++(⟨#[32]⟩:ByteArray))+ByteArray.size s14≤9223372036854775807)∧((ByteArray.size ((s7++(⟨#[32]⟩:ByteArray))++s14)+ByteArray.size (⟨#[32]⟩:ByteArray)≤9223372036854775807)∧((ByteArray.size (((s7++(⟨#[32]⟩:ByteArray))++s14)++(⟨#[32]⟩:ByteArray))+ByteArray.size s11≤9223372036854775807)∧(K (w7 (w8 e 3 (sP x3) 0 (sI x0) 5 (sI x0) 8 (sQ b1 (o2+4)) 9 (sI i4) 6 (sT s7) 7 (sV (.string (s7++(⟨#[32]⟩:ByteArray)))) 13 (sQ b8 (o9+0))) 14 (sV (.slice (some ⟨b8,(o9+0),none⟩) 4 4)) 15 (sT s11) 10 (sT s14) 11 (sV (.string ((s7++(⟨#[32]⟩:ByteArray))++s14))) 12 (sV (.string (((s7++(⟨#[32]⟩:ByteArray))++s14)++(⟨#[32]⟩:ByteArray)))) 16 (sV (.string ((((s7++(⟨#[32]⟩:ByteArray))++s14)++(⟨#[32]⟩:ByteArray))++s11))) 4 (sV (.string ((((s7++(⟨#[32]⟩:ByteArray))++s14)++(⟨#[32]⟩:ByteArray))++s11)))) V0 h13))))):=by kernel_rfl
theorem F91_r6 {e:Env} {x0:Int} {x3:OA} {hp:HP} {K:Env→PV→HP→Prop}:RW Tryd.prog 17 [] (opsAt Tryd.f91 (pth 5)) [0,3,4,8,9,10,1,2,5,6,7,11,12] (w2 e 3 (sP x3) 0 (sI x0)) V0 hp K=
    (ptrN x3 fun b1 o2=>ldV (HP.cell hp b1 (o2+4)) fun v3=>intV v3 .i64 fun i4=>ptrN x3 fun b5 o6=>rdS Tryd.prog (convert 199 9 (.slice (some ⟨b5,(o6+0),none⟩) 4 4)) hp fun u7=>strV u7 fun s8=>CF Tryd.prog 116 [(.int .i64 x0)] hp fun u9 h10=>strV u9 fun s11=>(ByteArray.size s11+ByteArray.size (⟨#[32]⟩:ByteArray)≤9223372036854775807)∧(CF Tryd.prog 116 [(.int .i64 i4)] h10 fun u12 h13=>strV u12 fun s14=>(ByteArray.size (s11++(⟨#[32]⟩:ByteArray))+ByteArray.size s14≤9223372036854775807)∧((ByteArray.size ((s11++(⟨#[32]⟩:ByteArray))++s14)+ByteArray.size (⟨#[32]⟩:ByteArray)≤9223372036854775807)∧((ByteArray.size (((s11++(⟨#[32]⟩:ByteArray))++s14)++(⟨#[32]⟩:ByteArray))+ByteArray.size s8≤9223372036854775807)∧(K (w7 (w8 e 3 (sP x3) 0 (sI x0) 5 (sI x0) 8 (sQ b1 (o2+4)) 9 (sI i4) 13 (sQ b5 (o6+0)) 14 (sV (.slice (some ⟨b5,(o6+0),none⟩) 4 4)) 15 (sT s8)) 6 (sT s11) 7 (sV (.string (s11++(⟨#[32]⟩:ByteArray)))) 10 (sT s14) 11 (sV (.string ((s11++(⟨#[32]⟩:ByteArray))++s14))) 12 (sV (.string (((s11++(⟨#[32]⟩:ByteArray))++s14)++(⟨#[32]⟩:ByteArray)))) 16 (sV (.string ((((s11++(⟨#[32]⟩:ByteArray))++s14)++(⟨#[32]⟩:ByteArray))++s8))) 4 (sV (.string ((((s11++(⟨#[32]⟩:ByteArray))++s14)++(⟨#[32]⟩:ByteArray))++s8)))) V0 h13))))):=by kernel_rfl
def F91 (x0:Int) (x1:List Value) (hp:HP) (K:Kh):Prop:=
  (∀ b1:Nat,hp b1=.none→((CF Tryd.prog 116 [(.int .i64 x0)] (HP.set hp b1 (.cells 34 x1 0)) fun u2 h3=>strV u2 fun s4=>(ByteArray.size s4+ByteArray.size (⟨#[32]⟩:ByteArray)≤9223372036854775807)∧(ptrN (some ⟨b1,0,none⟩) fun b5 o6=>ldV (HP.cell h3 b5 (o6+4)) fun v7=>intV v7 .i64 fun i8=>CF Tryd.prog 116 [(.int .i64 i8)] h3 fun u9 h10=>strV u9 fun s11=>(ByteArray.size (s4++(⟨#[32]⟩:ByteArray))+ByteArray.size s11≤9223372036854775807)∧((ByteArray.size ((s4++(⟨#[32]⟩:ByteArray))++s11)+ByteArray.size (⟨#[32]⟩:ByteArray)≤9223372036854775807)∧(ptrN (some ⟨b1,0,none⟩) fun b12 o13=>rdS Tryd.prog (convert 199 9 (.slice (some ⟨b12,(o13+0),none⟩) 4 4)) h10 fun u14=>strV u14 fun s15=>(ByteArray.size (((s4++(⟨#[32]⟩:ByteArray))++s11)++(⟨#[32]⟩:ByteArray))+ByteArray.size s15≤9223372036854775807)∧(K (.string ((((s4++(⟨#[32]⟩:ByteArray))++s11)++(⟨#[32]⟩:ByteArray))++s15)) h10)))))∧(CF Tryd.prog 116 [(.int .i64 x0)] (HP.set hp b1 (.cells 34 x1 0)) fun u16 h17=>strV u16 fun s18=>(ByteArray.size s18+ByteArray.size (⟨#[32]⟩:ByteArray)≤9223372036854775807)∧(ptrN (some ⟨b1,0,none⟩) fun b19 o20=>ldV (HP.cell h17 b19 (o20+4)) fun v21=>intV v21 .i64 fun i22=>ptrN (some ⟨b1,0,none⟩) fun b23 o24=>rdS Tryd.prog (convert 199 9 (.slice (some ⟨b23,(o24+0),none⟩) 4 4)) h17 fun u25=>strV u25 fun s26=>CF Tryd.prog 116 [(.int .i64 i22)] h17 fun u27 h28=>strV u27 fun s29=>(ByteArray.size (s18++(⟨#[32]⟩:ByteArray))+ByteArray.size s29≤9223372036854775807)∧((ByteArray.size ((s18++(⟨#[32]⟩:ByteArray))++s29)+ByteArray.size (⟨#[32]⟩:ByteArray)≤9223372036854775807)∧((ByteArray.size (((s18++(⟨#[32]⟩:ByteArray))++s29)++(⟨#[32]⟩:ByteArray))+ByteArray.size s26≤9223372036854775807)∧(K (.string ((((s18++(⟨#[32]⟩:ByteArray))++s29)++(⟨#[32]⟩:ByteArray))++s26)) h28)))))∧(ptrN (some ⟨b1,0,none⟩) fun b30 o31=>ptrN (some ⟨b1,0,none⟩) fun b32 o33=>rdS Tryd.prog (convert 199 9 (.slice (some ⟨b32,(o33+0),none⟩) 4 4)) (HP.set hp b1 (.cells 34 x1 0)) fun u34=>strV u34 fun s35=>CF Tryd.prog 116 [(.int .i64 x0)] (HP.set hp b1 (.cells 34 x1 0)) fun u36 h37=>strV u36 fun s38=>(ByteArray.size s38+ByteArray.size (⟨#[32]⟩:ByteArray)≤9223372036854775807)∧(ldV (HP.cell h37 b30 (o31+4)) fun v39=>intV v39 .i64 fun i40=>CF Tryd.prog 116 [(.int .i64 i40)] h37 fun u41 h42=>strV u41 fun s43=>(ByteArray.size (s38++(⟨#[32]⟩:ByteArray))+ByteArray.size s43≤9223372036854775807)∧((ByteArray.size ((s38++(⟨#[32]⟩:ByteArray))++s43)+ByteArray.size (⟨#[32]⟩:ByteArray)≤9223372036854775807)∧((ByteArray.size (((s38++(⟨#[32]⟩:ByteArray))++s43)++(⟨#[32]⟩:ByteArray))+ByteArray.size s35≤9223372036854775807)∧(K (.string ((((s38++(⟨#[32]⟩:ByteArray))++s43)++(⟨#[32]⟩:ByteArray))++s35)) h42)))))∧(ptrN (some ⟨b1,0,none⟩) fun b44 o45=>ldV (HP.cell (HP.set hp b1 (.cells 34 x1 0)) b44 (o45+4)) fun v46=>intV v46 .i64 fun i47=>CF Tryd.prog 116 [(.int .i64 x0)] (HP.set hp b1 (.cells 34 x1 0)) fun u48 h49=>strV u48 fun s50=>(ByteArray.size s50+ByteArray.size (⟨#[32]⟩:ByteArray)≤9223372036854775807)∧(CF Tryd.prog 116 [(.int .i64 i47)] h49 fun u51 h52=>strV u51 fun s53=>(ByteArray.size (s50++(⟨#[32]⟩:ByteArray))+ByteArray.size s53≤9223372036854775807)∧((ByteArray.size ((s50++(⟨#[32]⟩:ByteArray))++s53)+ByteArray.size (⟨#[32]⟩:ByteArray)≤9223372036854775807)∧(ptrN (some ⟨b1,0,none⟩) fun b54 o55=>rdS Tryd.prog (convert 199 9 (.slice (some ⟨b54,(o55+0),none⟩) 4 4)) h52 fun u56=>strV u56 fun s57=>(ByteArray.size (((s50++(⟨#[32]⟩:ByteArray))++s53)++(⟨#[32]⟩:ByteArray))+ByteArray.size s57≤9223372036854775807)∧(K (.string ((((s50++(⟨#[32]⟩:ByteArray))++s53)++(⟨#[32]⟩:ByteArray))++s57)) h52)))))∧(ptrN (some ⟨b1,0,none⟩) fun b58 o59=>ldV (HP.cell (HP.set hp b1 (.cells 34 x1 0)) b58 (o59+4)) fun v60=>intV v60 .i64 fun i61=>CF Tryd.prog 116 [(.int .i64 x0)] (HP.set hp b1 (.cells 34 x1 0)) fun u62 h63=>strV u62 fun s64=>(ByteArray.size s64+ByteArray.size (⟨#[32]⟩:ByteArray)≤9223372036854775807)∧(ptrN (some ⟨b1,0,none⟩) fun b65 o66=>rdS Tryd.prog (convert 199 9 (.slice (some ⟨b65,(o66+0),none⟩) 4 4)) h63 fun u67=>strV u67 fun s68=>CF Tryd.prog 116 [(.int .i64 i61)] h63 fun u69 h70=>strV u69 fun s71=>(ByteArray.size (s64++(⟨#[32]⟩:ByteArray))+ByteArray.size s71≤9223372036854775807)∧((ByteArray.size ((s64++(⟨#[32]⟩:ByteArray))++s71)+ByteArray.size (⟨#[32]⟩:ByteArray)≤9223372036854775807)∧((ByteArray.size (((s64++(⟨#[32]⟩:ByteArray))++s71)++(⟨#[32]⟩:ByteArray))+ByteArray.size s68≤9223372036854775807)∧(K (.string ((((s64++(⟨#[32]⟩:ByteArray))++s71)++(⟨#[32]⟩:ByteArray))++s68)) h70)))))∧(ptrN (some ⟨b1,0,none⟩) fun b72 o73=>ldV (HP.cell (HP.set hp b1 (.cells 34 x1 0)) b72 (o73+4)) fun v74=>intV v74 .i64 fun i75=>ptrN (some ⟨b1,0,none⟩) fun b76 o77=>rdS Tryd.prog (convert 199 9 (.slice (some ⟨b76,(o77+0),none⟩) 4 4)) (HP.set hp b1 (.cells 34 x1 0)) fun u78=>strV u78 fun s79=>CF Tryd.prog 116 [(.int .i64 x0)] (HP.set hp b1 (.cells 34 x1 0)) fun u80 h81=>strV u80 fun s82=>(ByteArray.size s82+ByteArray.size (⟨#[32]⟩:ByteArray)≤9223372036854775807)∧(CF Tryd.prog 116 [(.int .i64 i75)] h81 fun u83 h84=>strV u83 fun s85=>(ByteArray.size (s82++(⟨#[32]⟩:ByteArray))+ByteArray.size s85≤9223372036854775807)∧((ByteArray.size ((s82++(⟨#[32]⟩:ByteArray))++s85)+ByteArray.size (⟨#[32]⟩:ByteArray)≤9223372036854775807)∧((ByteArray.size (((s82++(⟨#[32]⟩:ByteArray))++s85)++(⟨#[32]⟩:ByteArray))+ByteArray.size s79≤9223372036854775807)∧(K (.string ((((s82++(⟨#[32]⟩:ByteArray))++s85)++(⟨#[32]⟩:ByteArray))++s79)) h84)))))))
noncomputable def F91_code:Code:=(.seq (.region 0 (opsAt Tryd.f91 (pth 2)) false) (.seq (.region 1 (opsAt Tryd.f91 (pth 5)) true) .ret))
theorem F91_body:Tryd.f91.body=some F91_code:=by kernel_rfl
theorem F91_ok (x0:Int) (x1:List Value) (hp:HP) (K:Kh) (h:F91 x0 x1 hp K):CF Tryd.prog 91 [(.int .i64 x0),(.agg ⟨x1⟩)] hp K:=by
 refine .inl ⟨by kernel_rfl,AC.intro (N:=17) Tryd.func91 F91_body rfl (Nat.le_of_ble_eq_true rfl) ?_⟩
 unfold F91 at h
 refine Ar F91_r0 ?_ (r2 1 0 Rn) (z2 Sn) Sn
 refine fun b1 hb_b_1=>?_
 replace h:=h b1 hb_b_1
 refine Aq (AWP.rgnC (cf:=[(1,4),(1,10),(5,10)]) (c:=[([true,true,true],true,[0,1,2,3,4,5,6,7,8,9,10,11,12]),([true,true,false],true,[0,1,2,3,4,8,9,10,5,6,7,11,12]),([true,false,true],false,[1,4,5,10,1]),([true,false,false],true,[0,3,8,9,10,1,2,4,5,6,7,11,12]),([false,true,true],true,[0,3,4,1,2,5,6,7,8,9,10,11,12]),([false,true,false],true,[0,3,4,1,2,8,9,10,5,6,7,11,12]),([false,false,true],false,[1,5,10,1]),([false,false,false],true,[0,3,4,8,9,10,1,2,5,6,7,11,12])]) (by kernel_rfl) (by kernel_rfl) (by kernel_rfl) (by kernel_rfl) (allO_t (Eq.mpr F91_r1 ?_) (allO_t (Eq.mpr F91_r2 ?_) (allO_f (allO_t (Eq.mpr F91_r3 ?_) (allO_t (Eq.mpr F91_r4 ?_) (allO_t (Eq.mpr F91_r5 ?_) (allO_f (allO_t (Eq.mpr F91_r6 ?_) trivial)))))))) (r2 0 3 Rn) (z2 Sn) Sn)
 ·replace h:=h.1
  refine mC h (fun u2 h3 h=>ms h (fun s4 h=>⟨h.1,mN h.2 (fun b5 o6 h=>mV h (fun v7 h=>mI h (fun i8 h=>mC h (fun u9 h10 h=>ms h (fun s11 h=>⟨h.1,?_⟩)))))⟩))
  replace h:=h.2
  refine ⟨h.1,mN h.2 (fun b12 o13 h=>mR h (fun u14 h=>ms h (fun s15 h=>⟨h.1,?_⟩)))⟩
  replace h:=h.2
  refine AWP.ret ?_
  exact h
 ·replace h:=h.2.1
  refine mC h (fun u16 h17 h=>ms h (fun s18 h=>⟨h.1,mN h.2 (fun b19 o20 h=>mV h (fun v21 h=>mI h (fun i22 h=>mN h (fun b23 o24 h=>mR h (fun u25 h=>ms h (fun s26 h=>mC h (fun u27 h28 h=>ms h (fun s29 h=>⟨h.1,?_⟩))))))))⟩))
  replace h:=h.2
  refine ⟨h.1,?_⟩
  replace h:=h.2
  refine ⟨h.1,?_⟩
  replace h:=h.2
  refine AWP.ret ?_
  exact h
 ·replace h:=h.2.2.1
  refine mN h (fun b30 o31 h=>mN h (fun b32 o33 h=>mR h (fun u34 h=>ms h (fun s35 h=>mC h (fun u36 h37 h=>ms h (fun s38 h=>⟨h.1,mV h.2 (fun v39 h=>mI h (fun i40 h=>mC h (fun u41 h42 h=>ms h (fun s43 h=>⟨h.1,?_⟩))))⟩))))))
  replace h:=h.2
  refine ⟨h.1,?_⟩
  replace h:=h.2
  refine ⟨h.1,?_⟩
  replace h:=h.2
  refine AWP.ret ?_
  exact h
 ·replace h:=h.2.2.2.1
  refine mN h (fun b44 o45 h=>mV h (fun v46 h=>mI h (fun i47 h=>mC h (fun u48 h49 h=>ms h (fun s50 h=>⟨h.1,mC h.2 (fun u51 h52 h=>ms h (fun s53 h=>⟨h.1,?_⟩))⟩)))))
  replace h:=h.2
  refine ⟨h.1,mN h.2 (fun b54 o55 h=>mR h (fun u56 h=>ms h (fun s57 h=>⟨h.1,?_⟩)))⟩
  replace h:=h.2
  refine AWP.ret ?_
  exact h
 ·replace h:=h.2.2.2.2.1
  refine mN h (fun b58 o59 h=>mV h (fun v60 h=>mI h (fun i61 h=>mC h (fun u62 h63 h=>ms h (fun s64 h=>⟨h.1,mN h.2 (fun b65 o66 h=>mR h (fun u67 h=>ms h (fun s68 h=>mC h (fun u69 h70 h=>ms h (fun s71 h=>⟨h.1,?_⟩)))))⟩)))))
  replace h:=h.2
  refine ⟨h.1,?_⟩
  replace h:=h.2
  refine ⟨h.1,?_⟩
  replace h:=h.2
  refine AWP.ret ?_
  exact h
 ·replace h:=h.2.2.2.2.2
  refine mN h (fun b72 o73 h=>mV h (fun v74 h=>mI h (fun i75 h=>mN h (fun b76 o77 h=>mR h (fun u78 h=>ms h (fun s79 h=>mC h (fun u80 h81 h=>ms h (fun s82 h=>⟨h.1,mC h.2 (fun u83 h84 h=>ms h (fun s85 h=>⟨h.1,?_⟩))⟩))))))))
  replace h:=h.2
  refine ⟨h.1,?_⟩
  replace h:=h.2
  refine ⟨h.1,?_⟩
  replace h:=h.2
  refine AWP.ret ?_
  exact h
end
section
variable {e:Env} {x0:OA} {x2:List Value} {x8:Bool} {k5:List Value} {hp:HP} {K:Env→PV→HP→Prop}
abbrev R58 (p n:Nat):=RW Tryd.prog 33 [5] (opsAt Tryd.f58 (pth p)) (List.range n)
theorem F58_r0:R58 2 2 (upd e 2 (sA x2)) V0 hp K=
 K (w3 e 2 (sA x2) 5 (sR 5 0) 6 (sI 0)) (upd V0 5 (34,x2)) hp:= by kernel_rfl
theorem F58_r1:R58 9 2 (upd e 0 (sP x0)) (upd V0 5 (34,k5)) hp K=
 CF Tryd.prog 90 [(.pointer x0)] hp fun u1 h2=>(boolV u1 fun q3=>K (w3 e 0 (sP x0) 9 (sP x0) 10 (sB q3)) (upd V0 5 (34,k5)) h2):= by kernel_rfl
theorem F58_r2:R58 37 1 e V0 hp K=
 K (upd e 6 (sI 2)) V0 hp:= by kernel_rfl
theorem F58_r3:R58 43 1 (upd e 8 (sB x8)) V0 hp K=
 K (w2 e 8 (sB x8) 22 (sB x8)) V0 hp:= by kernel_rfl
theorem F58_r4:R58 155 1 e V0 hp K=
 K (upd e 6 (sI 5)) V0 hp:= by kernel_rfl
theorem F58_r5:R58 151 1 e V0 hp K=
 K (upd e 6 (sI 6)) V0 hp:= by kernel_rfl
theorem F58_r6:R58 47 1 e V0 hp K=
 K (upd e 6 (sI 0)) V0 hp:= by kernel_rfl
def F58_j2 (x32:Bool) (hp:HP) (K:Kh):Prop:=
  (ite2 x32 (K (.int .i64 6) hp) (K (.int .i64 0) hp))
theorem F58_r7 {e:Env} {x0:OA} {hp:HP} {K:Env→PV→HP→Prop}:RW Tryd.prog 33 [5] (opsAt Tryd.f58 (pth 39)) [0,1,2,3,4,5,6,7,8,9] (upd e 0 (sP x0)) V0 hp K=
 ptrN x0 fun b1 o2=>(ldV (HP.cell hp b1 (o2+2)) fun v3=>mapV v3 fun m4=>rdS Tryd.prog (Builtin.len_ #[154] 3 #[.map m4]) hp fun u5=>intV u5 .i64 fun i6=>ptrN x0 fun b7 o8=>ldV (HP.cell hp b7 (o8+0)) fun v9=>intV v9 .i64 fun i10=>K (w3 (w8 e 0 (sP x0) 23 (sP x0) 24 (sQ b1 o2) 25 (sQ b1 (o2+2)) 26 (sV (.map m4)) 27 (sI i6) 28 (sP x0) 29 (sQ b7 o8)) 30 (sQ b7 (o8+0)) 31 (sI i10) 32 (sB (decide (i6≥i10)))) V0 hp):= by kernel_rfl
theorem F58_r8 {e:Env} {x0:OA} {hp:HP} {K:Env→PV→HP→Prop}:RW Tryd.prog 33 [5] (opsAt Tryd.f58 (pth 39)) [0,1,2,3,5,6,7,8,4,9] (upd e 0 (sP x0)) V0 hp K=
 ptrN x0 fun b1 o2=>(ldV (HP.cell hp b1 (o2+2)) fun v3=>mapV v3 fun m4=>ptrN x0 fun b5 o6=>ldV (HP.cell hp b5 (o6+0)) fun v7=>intV v7 .i64 fun i8=>rdS Tryd.prog (Builtin.len_ #[154] 3 #[.map m4]) hp fun u9=>intV u9 .i64 fun i10=>K (w3 (w8 e 0 (sP x0) 23 (sP x0) 24 (sQ b1 o2) 25 (sQ b1 (o2+2)) 26 (sV (.map m4)) 28 (sP x0) 29 (sQ b5 o6) 30 (sQ b5 (o6+0))) 31 (sI i8) 27 (sI i10) 32 (sB (decide (i10≥i8)))) V0 hp):= by kernel_rfl
def F58_j1 (x0:OA) (x8:Bool) (hp:HP) (K:Kh):Prop:=
  (ite2 x8 (K (.int .i64 5) hp) ((ptrN x0 fun b4 o5=>ldV (HP.cell hp b4 (o5+2)) fun v6=>mapV v6 fun m7=>rdS Tryd.prog (Builtin.len_ #[154] 3 #[.map m7]) hp fun u8=>intV u8 .i64 fun i9=>ptrN x0 fun b10 o11=>ldV (HP.cell hp b10 (o11+0)) fun v12=>intV v12 .i64 fun i13=>F58_j2 (decide (i9≥i13)) hp  K)∧(ptrN x0 fun b14 o15=>ldV (HP.cell hp b14 (o15+2)) fun v16=>mapV v16 fun m17=>ptrN x0 fun b18 o19=>ldV (HP.cell hp b18 (o19+0)) fun v20=>intV v20 .i64 fun i21=>rdS Tryd.prog (Builtin.len_ #[154] 3 #[.map m17]) hp fun u22=>intV u22 .i64 fun i23=>F58_j2 (decide (i23≥i21)) hp  K)))
theorem F58_r9 {e:Env} {x0:OA} {x1:Int} {k5:List Value} {hp:HP} {K:Env→PV→HP→Prop}:RW Tryd.prog 33 [5] (opsAt Tryd.f58 (pth 19)) [0,1,2,3,4,5,6,7,8,9,10,11,12] (w3 e 5 (sR 5 0) 1 (sI x1) 0 (sP x0)) (upd V0 5 (34,k5)) hp K=
 ptrN x0 fun b1 o2=>(ldV (HP.cell hp b1 (o2+3)) fun v3=>ptrV v3 fun p4=>ldL (cellsN k5 0 5) fun l5=>CF Tryd.prog 91 [(.int .i64 x1),(.agg ⟨l5⟩)] hp fun u6 h7=>strV u6 fun s8=>CF Tryd.prog 84 [(.pointer p4),(.string s8)] h7 fun u9 h10=>tup2V u9 fun u11 u12=>intV u11 .i64 fun i13=>boolV u12 fun q14=>K (w8 (w8 e 5 (sR 5 0) 1 (sI x1) 0 (sP x0) 12 (sP x0) 13 (sQ b1 o2) 14 (sQ b1 (o2+3)) 15 (sP p4) 16 (sI x1)) 17 (sA l5) 18 (sT s8) 19 (sV (.tuple ⟨[(.int .i64 i13),(.bool q14)]⟩)) 11 (sV (.tuple ⟨[(.int .i64 i13),(.bool q14)]⟩)) 20 (sI i13) 21 (sB q14) 7 (sI i13) 8 (sB q14)) (upd V0 5 (34,k5)) h10):= by kernel_rfl
theorem F58_r10 {e:Env} {x0:OA} {x1:Int} {k5:List Value} {hp:HP} {K:Env→PV→HP→Prop}:RW Tryd.prog 33 [5] (opsAt Tryd.f58 (pth 19)) [0,1,2,4,5,6,3,7,8,9,10,11,12] (w3 e 5 (sR 5 0) 1 (sI x1) 0 (sP x0)) (upd V0 5 (34,k5)) hp K=
 ptrN x0 fun b1 o2=>(ldL (cellsN k5 0 5) fun l3=>CF Tryd.prog 91 [(.int .i64 x1),(.agg ⟨l3⟩)] hp fun u4 h5=>strV u4 fun s6=>ldV (HP.cell h5 b1 (o2+3)) fun v7=>ptrV v7 fun p8=>CF Tryd.prog 84 [(.pointer p8),(.string s6)] h5 fun u9 h10=>tup2V u9 fun u11 u12=>intV u11 .i64 fun i13=>boolV u12 fun q14=>K (w8 (w8 e 5 (sR 5 0) 1 (sI x1) 0 (sP x0) 12 (sP x0) 13 (sQ b1 o2) 14 (sQ b1 (o2+3)) 16 (sI x1) 17 (sA l3)) 18 (sT s6) 15 (sP p8) 19 (sV (.tuple ⟨[(.int .i64 i13),(.bool q14)]⟩)) 11 (sV (.tuple ⟨[(.int .i64 i13),(.bool q14)]⟩)) 20 (sI i13) 21 (sB q14) 7 (sI i13) 8 (sB q14)) (upd V0 5 (34,k5)) h10):= by kernel_rfl
def F58 (x0:OA) (x1:Int) (x2:List Value) (hp:HP) (K:Kh):Prop:=
  (CF Tryd.prog 90 [(.pointer x0)] hp fun u1 h2=>boolV u1 fun q3=>ite2 q3 (K (.int .i64 2) h2) ((ptrN x0 fun b24 o25=>ldV (HP.cell h2 b24 (o25+3)) fun v26=>ptrV v26 fun p27=>ldL (cellsN x2 0 5) fun l28=>CF Tryd.prog 91 [(.int .i64 x1),(.agg ⟨l28⟩)] h2 fun u29 h30=>strV u29 fun s31=>CF Tryd.prog 84 [(.pointer p27),(.string s31)] h30 fun u32 h33=>tup2V u32 fun u34 u35=>intV u34 .i64 fun i36=>boolV u35 fun q37=>F58_j1 x0 q37 h33  K)∧(ptrN x0 fun b38 o39=>ldL (cellsN x2 0 5) fun l40=>CF Tryd.prog 91 [(.int .i64 x1),(.agg ⟨l40⟩)] h2 fun u41 h42=>strV u41 fun s43=>ldV (HP.cell h42 b38 (o39+3)) fun v44=>ptrV v44 fun p45=>CF Tryd.prog 84 [(.pointer p45),(.string s43)] h42 fun u46 h47=>tup2V u46 fun u48 u49=>intV u48 .i64 fun i50=>boolV u49 fun q51=>F58_j1 x0 q51 h47  K)))
noncomputable abbrev o58 (k n:Nat):Code:=.region k (opsAt Tryd.f58 (pth n)) false
noncomputable def F58_code:Code:=(.seq (o58 0 2) (.seq (.seq (o58 1 9) (.cond (.tmp 10) (.seq (o58 2 37) .ret) .skip)) (.seq (.seq (.region 3 (opsAt Tryd.f58 (pth 19)) true) (.seq (o58 4 43) (.cond (.tmp 22) (.seq (o58 5 155) .ret) .skip))) (.seq (.seq (.region 6 (opsAt Tryd.f58 (pth 39)) true) (.cond (.tmp 32) (.seq (o58 7 151) .ret) .skip)) (.seq (o58 8 47) .ret)))))
theorem F58_body:Tryd.f58.body=some F58_code:=by kernel_rfl
theorem F58_ok (x0:OA) (x1:Int) (x2:List Value) (hp:HP) (K:Kh) (h:F58 x0 x1 x2 hp K):CF Tryd.prog 58 [(.pointer x0),(.int .i64 x1),(.agg ⟨x2⟩)] hp K:=by
 refine .inl ⟨by kernel_rfl,AC.intro (N:=33) Tryd.func58 F58_body rfl (Nat.le_of_ble_eq_true rfl) ?_⟩
 unfold F58 at h
 refine Ar F58_r0 ?_ (r3 2 0 1 Rn) (z3 Sn) Sn
 refine Aq (Ar F58_r1 ?_ (r2 0 1 (rp 5 5 0 Rn)) (z3 Sn) (z1 Sn))
 refine mC h fun u1 h2 h=>mB h fun q3 h=>?_
 refine Ac h rfl (fun h=>?_) (fun h=>?_)
 ·refine Ar F58_r2 ?_ Rn Sn Sn
  refine AWP.ret ?_
  exact h
 ·refine AWP.skip (Aq (As (fun env pv hp=>∃ x0 x8,Sub (w2 E0 8 (sB x8) 0 (sP x0)) env∧Sub V0 pv∧F58_j1 x0 x8 hp  K) ?_ ?_))
  ·refine AWP.rgnC (cf:=[(3,6)]) (c:=[([true],true,[0,1,2,3,4,5,6,7,8,9,10,11,12]),([false],true,[0,1,2,4,5,6,3,7,8,9,10,11,12])]) (by kernel_rfl) (by kernel_rfl) (by kernel_rfl) (by kernel_rfl) (allO_t (Eq.mpr F58_r9 ?_) (allO_t (Eq.mpr F58_r10 ?_) trivial)) (r2 0 1 (rp 5 5 0 Rn)) (z3 Sn) (z1 Sn)
   ·replace h:=h.1
    refine mN h fun b24 o25 h=>mV h fun v26 h=>mP h fun p27 h=>mL h fun l28 h=>mC h fun u29 h30 h=>ms h fun s31 h=>mC h fun u32 h33 h=>mT h fun u34 u35 h=>mI h fun i36 h=>mB h fun q37 h=>?_
    exact ⟨_,_,(z2 Sn),Sn,h⟩
   ·replace h:=h.2
    refine mN h fun b38 o39 h=>mL h fun l40 h=>mC h fun u41 h42 h=>ms h fun s43 h=>mV h fun v44 h=>mP h fun p45 h=>mC h fun u46 h47 h=>mT h fun u48 u49 h=>mI h fun i50 h=>mB h fun q51 h=>?_
    exact ⟨_,_,(z2 Sn),Sn,h⟩
  ·rintro env pv hp ⟨x0,x8,he,hv,h⟩
   refine Ae ?_ (r2 0 8 Rn) he hv
   unfold F58_j1 at h
   refine Ar F58_r3 ?_ (r2 8 0 Rn) (z2 Sn) Sn
   refine Ac h rfl (fun h=>?_) (fun h=>?_)
   ·refine Ar F58_r4 ?_ Rn Sn Sn
    refine AWP.ret ?_
    exact h
   ·refine AWP.skip (Aq (As (fun env pv hp=>∃ x32,Sub (upd E0 32 (sB x32)) env∧Sub V0 pv∧F58_j2 x32 hp  K) ?_ ?_))
    ·refine AWP.rgnC (cf:=[(4,8)]) (c:=[([true],true,[0,1,2,3,4,5,6,7,8,9]),([false],true,[0,1,2,3,5,6,7,8,4,9])]) (by kernel_rfl) (by kernel_rfl) (by kernel_rfl) (by kernel_rfl) (allO_t (Eq.mpr F58_r7 ?_) (allO_t (Eq.mpr F58_r8 ?_) trivial)) (r1 0 Rn) (z1 Sn) Sn
     ·replace h:=h.1
      refine mN h fun b4 o5 h=>mV h fun v6 h=>mM h fun m7 h=>mR h fun u8 h=>mI h fun i9 h=>mN h fun b10 o11 h=>mV h fun v12 h=>mI h fun i13 h=>?_
      exact ⟨_,(z1 Sn),Sn,h⟩
     ·replace h:=h.2
      refine mN h fun b14 o15 h=>mV h fun v16 h=>mM h fun m17 h=>mN h fun b18 o19 h=>mV h fun v20 h=>mI h fun i21 h=>mR h fun u22 h=>mI h fun i23 h=>?_
      exact ⟨_,(z1 Sn),Sn,h⟩
    ·rintro env pv hp ⟨x32,he,hv,h⟩
     refine Ae ?_ (r1 32 Rn) he hv
     unfold F58_j2 at h
     refine Ac h rfl (fun h=>?_) (fun h=>?_)
     ·refine Ar F58_r5 ?_ Rn Sn Sn
      refine AWP.ret ?_
      exact h
     ·refine AWP.skip (Ar F58_r6 ?_ Rn Sn Sn)
      refine AWP.ret ?_
      exact h
end
section
variable {e E:Env} {x0:OA} {x2:List Value} {x8:Int} {x9:Bool} {k5 k6:List Value} {hp:HP} {K:Env→PV→HP→Prop}
abbrev R57 (p n:Nat):=RW Tryd.prog 35 [5,6] (opsAt Tryd.f57 (pth p)) (List.range n)
theorem F57_r0:R57 2 3 (upd e 2 (sA x2)) V0 hp K=
 K (w4 e 2 (sA x2) 5 (sR 5 0) 6 (sR 6 0) 7 (sB false)) (w2 V0 5 (34,x2) 6 (79,[.int .i64 0,.int .i64 0,.int .u8 0,.int .u8 0,.int .u8 0,.int .u8 0,.int .i64 0,.int .i64 0,.int .i64 0])) hp:= by kernel_rfl
theorem F57_r1:R57 9 2 (upd e 0 (sP x0)) (w2 V0 6 (79,k6) 5 (34,k5)) hp K=
 CF Tryd.prog 90 [(.pointer x0)] hp fun u1 h2=>(boolV u1 fun q3=>K (w3 e 0 (sP x0) 10 (sP x0) 11 (sB q3)) (w2 V0 6 (79,k6) 5 (34,k5)) h2):= by kernel_rfl
theorem F57_r2:R57 37 3 (upd e 6 (sR 6 0)) (upd V0 6 (79,k6)) hp K=
    (if List.length [(Value.int .i64 0),.int .i64 0,.int .u8 0,.int .u8 0,.int .u8 0,.int .u8 0,.int .i64 0,.int .i64 0,.int .i64 0]=9 then (if List.all [(Value.int .i64 0),.int .i64 0,.int .u8 0,.int .u8 0,.int .u8 0,.int .u8 0,.int .i64 0,.int .i64 0,.int .i64 0] one=true then (if 0+List.length [(Value.int .i64 0),.int .i64 0,.int .u8 0,.int .u8 0,.int .u8 0,.int .u8 0,.int .i64 0,.int .i64 0,.int .i64 0]≤List.length k6 then (K (w3 e 6 (sR 6 0) 12 (sV (.agg ⟨[.int .i64 0,.int .i64 0,.int .u8 0,.int .u8 0,.int .u8 0,.int .u8 0,.int .i64 0,.int .i64 0,.int .i64 0]⟩)) 7 (sB false)) (w2 V0 6 (79,k6) 6 (79,(splice k6 0 [.int .i64 0,.int .i64 0,.int .u8 0,.int .u8 0,.int .u8 0,.int .u8 0,.int .i64 0,.int .i64 0,.int .i64 0]))) hp) else False) else False) else False):=by kernel_rfl
theorem F57_r3:R57 39 2 (upd e 9 (sB x9)) (upd V0 6 (79,k6)) hp K=
 K (w3 e 9 (sB x9) 24 (sB x9) 25 (sB ((!x9)))) (upd V0 6 (79,k6)) hp:= by kernel_rfl
theorem F57_r4:R57 151 3 (upd e 6 (sR 6 0)) (upd V0 6 (79,k6)) hp K=
    (if List.length [(Value.int .i64 0),.int .i64 0,.int .u8 0,.int .u8 0,.int .u8 0,.int .u8 0,.int .i64 0,.int .i64 0,.int .i64 0]=9 then (if List.all [(Value.int .i64 0),.int .i64 0,.int .u8 0,.int .u8 0,.int .u8 0,.int .u8 0,.int .i64 0,.int .i64 0,.int .i64 0] one=true then (if 0+List.length [(Value.int .i64 0),.int .i64 0,.int .u8 0,.int .u8 0,.int .u8 0,.int .u8 0,.int .i64 0,.int .i64 0,.int .i64 0]≤List.length k6 then (K (w3 e 6 (sR 6 0) 26 (sV (.agg ⟨[.int .i64 0,.int .i64 0,.int .u8 0,.int .u8 0,.int .u8 0,.int .u8 0,.int .i64 0,.int .i64 0,.int .i64 0]⟩)) 7 (sB false)) (w2 V0 6 (79,k6) 6 (79,(splice k6 0 [.int .i64 0,.int .i64 0,.int .u8 0,.int .u8 0,.int .u8 0,.int .u8 0,.int .i64 0,.int .i64 0,.int .i64 0]))) hp) else False) else False) else False):=by kernel_rfl
theorem F57_r5 (h:E=upd (w2 e 8 (sI x8) 6 (sR 6 0)) 0 (sP x0)):R57 47 10 E (upd V0 6 (79,k6)) hp K=
 ptrN x0 fun b1 o2=>(ldV (HP.cell hp b1 (o2+2)) fun v3=>mapV v3 fun m4=>rdS Tryd.prog (Instr.lookup 154 (.map m4) (.int .i64 x8) false) hp fun u5=>ptrV u5 fun p6=>ptrN p6 fun b7 o8=>ldL (HP.cellN hp b7 o8 9) fun l9=>if List.length l9=9 then (if List.all l9 one=true then (if 0+List.length l9≤List.length k6 then (K (upd (w8 E 27 (sP x0) 28 (sQ b1 o2) 29 (sQ b1 (o2+2)) 30 (sV (.map m4)) 31 (sI x8) 32 (sP p6) 33 (sQ b7 o8) 34 (sA l9)) 7 (sB true)) (w2 V0 6 (79,k6) 6 (79,(splice k6 0 l9))) hp) else False) else False) else False):= by subst h; kernel_rfl
def F57_j1 (x0:OA) (x8:Int) (x9:Bool) (k6:List Value) (hp:HP) (K:Kh):Prop:=
  (ite2 (!x9) (if List.length [(Value.int .i64 0),.int .i64 0,.int .u8 0,.int .u8 0,.int .u8 0,.int .u8 0,.int .i64 0,.int .i64 0,.int .i64 0]=9 then (if List.all [(Value.int .i64 0),.int .i64 0,.int .u8 0,.int .u8 0,.int .u8 0,.int .u8 0,.int .i64 0,.int .i64 0,.int .i64 0] one=true then (if 0+List.length [(Value.int .i64 0),.int .i64 0,.int .u8 0,.int .u8 0,.int .u8 0,.int .u8 0,.int .i64 0,.int .i64 0,.int .i64 0]≤List.length k6 then (ldL (cellsN (splice k6 0 [.int .i64 0,.int .i64 0,.int .u8 0,.int .u8 0,.int .u8 0,.int .u8 0,.int .i64 0,.int .i64 0,.int .i64 0]) 0 9) fun l5=>K (.tuple ⟨[(.agg ⟨l5⟩),.bool false]⟩) hp) else False) else False) else False) (ptrN x0 fun b6 o7=>ldV (HP.cell hp b6 (o7+2)) fun v8=>mapV v8 fun m9=>rdS Tryd.prog (Instr.lookup 154 (.map m9) (.int .i64 x8) false) hp fun u10=>ptrV u10 fun p11=>ptrN p11 fun b12 o13=>ldL (HP.cellN hp b12 o13 9) fun l14=>if List.length l14=9 then (if List.all l14 one=true then (if 0+List.length l14≤List.length k6 then (ldL (cellsN (splice k6 0 l14) 0 9) fun l15=>K (.tuple ⟨[(.agg ⟨l15⟩),(.bool true)]⟩) hp) else False) else False) else False))
theorem F57_r6 {e:Env} {x0:OA} {x1:Int} {k5:List Value} {k6:List Value} {hp:HP} {K:Env→PV→HP→Prop}:RW Tryd.prog 35 [5,6] (opsAt Tryd.f57 (pth 11)) [0,1,2,3,4,5,6,7,8,9,10,11,12] (w3 e 5 (sR 5 0) 1 (sI x1) 0 (sP x0)) (w2 V0 6 (79,k6) 5 (34,k5)) hp K=
 ptrN x0 fun b1 o2=>(ldV (HP.cell hp b1 (o2+3)) fun v3=>ptrV v3 fun p4=>ldL (cellsN k5 0 5) fun l5=>CF Tryd.prog 91 [(.int .i64 x1),(.agg ⟨l5⟩)] hp fun u6 h7=>strV u6 fun s8=>CF Tryd.prog 84 [(.pointer p4),(.string s8)] h7 fun u9 h10=>tup2V u9 fun u11 u12=>intV u11 .i64 fun i13=>boolV u12 fun q14=>K (w8 (w8 e 5 (sR 5 0) 1 (sI x1) 0 (sP x0) 14 (sP x0) 15 (sQ b1 o2) 16 (sQ b1 (o2+3)) 17 (sP p4) 18 (sI x1)) 19 (sA l5) 20 (sT s8) 21 (sV (.tuple ⟨[(.int .i64 i13),(.bool q14)]⟩)) 13 (sV (.tuple ⟨[(.int .i64 i13),(.bool q14)]⟩)) 22 (sI i13) 23 (sB q14) 8 (sI i13) 9 (sB q14)) (w2 V0 6 (79,k6) 5 (34,k5)) h10):= by kernel_rfl
theorem F57_r7 {e:Env} {x0:OA} {x1:Int} {k5:List Value} {k6:List Value} {hp:HP} {K:Env→PV→HP→Prop}:RW Tryd.prog 35 [5,6] (opsAt Tryd.f57 (pth 11)) [0,1,2,4,5,6,3,7,8,9,10,11,12] (w3 e 5 (sR 5 0) 1 (sI x1) 0 (sP x0)) (w2 V0 6 (79,k6) 5 (34,k5)) hp K=
 ptrN x0 fun b1 o2=>(ldL (cellsN k5 0 5) fun l3=>CF Tryd.prog 91 [(.int .i64 x1),(.agg ⟨l3⟩)] hp fun u4 h5=>strV u4 fun s6=>ldV (HP.cell h5 b1 (o2+3)) fun v7=>ptrV v7 fun p8=>CF Tryd.prog 84 [(.pointer p8),(.string s6)] h5 fun u9 h10=>tup2V u9 fun u11 u12=>intV u11 .i64 fun i13=>boolV u12 fun q14=>K (w8 (w8 e 5 (sR 5 0) 1 (sI x1) 0 (sP x0) 14 (sP x0) 15 (sQ b1 o2) 16 (sQ b1 (o2+3)) 18 (sI x1) 19 (sA l3)) 20 (sT s6) 17 (sP p8) 21 (sV (.tuple ⟨[(.int .i64 i13),(.bool q14)]⟩)) 13 (sV (.tuple ⟨[(.int .i64 i13),(.bool q14)]⟩)) 22 (sI i13) 23 (sB q14) 8 (sI i13) 9 (sB q14)) (w2 V0 6 (79,k6) 5 (34,k5)) h10):= by kernel_rfl
def F57 (x0:OA) (x1:Int) (x2:List Value) (hp:HP) (K:Kh):Prop:=
  (CF Tryd.prog 90 [(.pointer x0)] hp fun u1 h2=>boolV u1 fun q3=>ite2 q3 (if List.length [(Value.int .i64 0),.int .i64 0,.int .u8 0,.int .u8 0,.int .u8 0,.int .u8 0,.int .i64 0,.int .i64 0,.int .i64 0]=9 then (if List.all [(Value.int .i64 0),.int .i64 0,.int .u8 0,.int .u8 0,.int .u8 0,.int .u8 0,.int .i64 0,.int .i64 0,.int .i64 0] one=true then (if 0+List.length [(Value.int .i64 0),.int .i64 0,.int .u8 0,.int .u8 0,.int .u8 0,.int .u8 0,.int .i64 0,.int .i64 0,.int .i64 0]≤List.length [(Value.int .i64 0),.int .i64 0,.int .u8 0,.int .u8 0,.int .u8 0,.int .u8 0,.int .i64 0,.int .i64 0,.int .i64 0] then (ldL (cellsN (splice [.int .i64 0,.int .i64 0,.int .u8 0,.int .u8 0,.int .u8 0,.int .u8 0,.int .i64 0,.int .i64 0,.int .i64 0] 0 [.int .i64 0,.int .i64 0,.int .u8 0,.int .u8 0,.int .u8 0,.int .u8 0,.int .i64 0,.int .i64 0,.int .i64 0]) 0 9) fun l4=>K (.tuple ⟨[(.agg ⟨l4⟩),.bool false]⟩) h2) else False) else False) else False) ((ptrN x0 fun b16 o17=>ldV (HP.cell h2 b16 (o17+3)) fun v18=>ptrV v18 fun p19=>ldL (cellsN x2 0 5) fun l20=>CF Tryd.prog 91 [(.int .i64 x1),(.agg ⟨l20⟩)] h2 fun u21 h22=>strV u21 fun s23=>CF Tryd.prog 84 [(.pointer p19),(.string s23)] h22 fun u24 h25=>tup2V u24 fun u26 u27=>intV u26 .i64 fun i28=>boolV u27 fun q29=>F57_j1 x0 i28 q29 [.int .i64 0,.int .i64 0,.int .u8 0,.int .u8 0,.int .u8 0,.int .u8 0,.int .i64 0,.int .i64 0,.int .i64 0] h25  K)∧(ptrN x0 fun b30 o31=>ldL (cellsN x2 0 5) fun l32=>CF Tryd.prog 91 [(.int .i64 x1),(.agg ⟨l32⟩)] h2 fun u33 h34=>strV u33 fun s35=>ldV (HP.cell h34 b30 (o31+3)) fun v36=>ptrV v36 fun p37=>CF Tryd.prog 84 [(.pointer p37),(.string s35)] h34 fun u38 h39=>tup2V u38 fun u40 u41=>intV u40 .i64 fun i42=>boolV u41 fun q43=>F57_j1 x0 i42 q43 [.int .i64 0,.int .i64 0,.int .u8 0,.int .u8 0,.int .u8 0,.int .u8 0,.int .i64 0,.int .i64 0,.int .i64 0] h39  K)))
noncomputable abbrev o57 (k n:Nat):Code:=.region k (opsAt Tryd.f57 (pth n)) false
noncomputable def F57_code:Code:=(.seq (o57 0 2) (.seq (.seq (o57 1 9) (.cond (.tmp 11) (.seq (o57 2 37) .ret) .skip)) (.seq (.region 3 (opsAt Tryd.f57 (pth 11)) true) (.seq (.seq (o57 4 39) (.cond (.tmp 25) (.seq (o57 5 151) .ret) .skip)) (.seq (o57 6 47) .ret)))))
theorem F57_body:Tryd.f57.body=some F57_code:=by kernel_rfl
theorem F57_ok (x0:OA) (x1:Int) (x2:List Value) (hp:HP) (K:Kh) (h:F57 x0 x1 x2 hp K):CF Tryd.prog 57 [(.pointer x0),(.int .i64 x1),(.agg ⟨x2⟩)] hp K:=by
 refine .inl ⟨by kernel_rfl,AC.intro (N:=35) Tryd.func57 F57_body rfl (Nat.le_of_ble_eq_true rfl) ?_⟩
 unfold F57 at h
 refine Ar F57_r0 ?_ (r3 2 0 1 Rn) (z3 Sn) Sn
 refine Aq (Ar F57_r1 ?_ (r2 0 1 (rp 5 5 0 (rp 6 6 0 Rn))) (z4 Sn) (z2 Sn))
 refine mC h fun u1 h2 h=>mB h fun q3 h=>?_
 refine Ac h rfl (fun h=>?_) (fun h=>?_)
 ·refine Ar F57_r2 ?_ (rp 6 6 0 Rn) (z1 Sn) (z1 Sn)
  refine mf h fun h=>mf h fun h=>mf h fun h=>?_
  refine AWP.ret ?_
  exact h
 ·refine AWP.skip (As (fun env pv hp=>∃ x0 x8 x9 k6,Sub (w4 E0 9 (sB x9) 8 (sI x8) 6 (sR 6 0) 0 (sP x0)) env∧Sub (upd V0 6 (79,k6)) pv∧(F57_j1 x0 x8 x9 k6 hp  K)) ?_ ?_)
  ·refine AWP.rgnC (cf:=[(3,6)]) (c:=[([true],true,[0,1,2,3,4,5,6,7,8,9,10,11,12]),([false],true,[0,1,2,4,5,6,3,7,8,9,10,11,12])]) (by kernel_rfl) (by kernel_rfl) (by kernel_rfl) (by kernel_rfl) (allO_t (Eq.mpr F57_r6 ?_) (allO_t (Eq.mpr F57_r7 ?_) trivial)) (r2 0 1 (rp 5 5 0 (rp 6 6 0 Rn))) (z4 Sn) (z2 Sn)
   ·replace h:=h.1
    refine mN h fun b16 o17 h=>mV h fun v18 h=>mP h fun p19 h=>mL h fun l20 h=>mC h fun u21 h22 h=>ms h fun s23 h=>mC h fun u24 h25 h=>mT h fun u26 u27 h=>mI h fun i28 h=>mB h fun q29 h=>?_
    exact ⟨_,_,_,_,(z4 Sn),(z1 Sn),h⟩
   ·replace h:=h.2
    refine mN h fun b30 o31 h=>mL h fun l32 h=>mC h fun u33 h34 h=>ms h fun s35 h=>mV h fun v36 h=>mP h fun p37 h=>mC h fun u38 h39 h=>mT h fun u40 u41 h=>mI h fun i42 h=>mB h fun q43 h=>?_
    exact ⟨_,_,_,_,(z4 Sn),(z1 Sn),h⟩
  ·rintro env pv hp ⟨x0,x8,x9,k6,he,hv,h⟩
   refine Ae ?_ (r1 0 (rp 6 6 0 (r2 8 9 Rn))) he hv
   unfold F57_j1 at h
   refine Aq (Ar F57_r3 ?_ (r2 9 0 (rp 6 6 0 (r1 8 Rn))) (z4 Sn) (z1 Sn))
   refine Ac h rfl (fun h=>?_) (fun h=>?_)
   ·refine Ar F57_r4 ?_ (rp 6 6 0 Rn) (z1 Sn) (z1 Sn)
    refine mf h fun h=>mf h fun h=>mf h fun h=>?_
    refine AWP.ret ?_
    exact h
   ·refine AWP.skip (Ar (F57_r5 rfl) ?_ (r1 0 (rp 6 6 0 (r1 8 Rn))) (z3 Sn) (z1 Sn))
    refine mN h fun b6 o7 h=>mV h fun v8 h=>mM h fun m9 h=>mR h fun u10 h=>mP h fun p11 h=>mN h fun b12 o13 h=>mL h fun l14 h=>mf h fun h=>mf h fun h=>mf h fun h=>?_
    refine AWP.ret ?_
    exact h
end
section
variable {e:Env} {x0:Int} {x4:OA} {x5:Int} {hp:HP} {K:Env→PV→HP→Prop}
abbrev R41 (p n:Nat):=RW Tryd.prog 21 [] (opsAt Tryd.f41 (pth p)) (List.range n)
theorem F41_r0:R41 2 2 e V0 hp K=
 K (w2 e 2 (sP none) 3 (sI 0)) V0 hp:= by kernel_rfl
theorem F41_r1:R41 5 7 (upd e 0 (sI x0)) V0 hp K=
 CF Tryd.prog 66 [(.int .i64 x0)] hp fun u1 h2=>(tup2V u1 fun u3 u4=>ptrV u3 fun p5=>intV u4 .i64 fun i6=>K (w8 e 0 (sI x0) 7 (sI x0) 8 (sV (.tuple ⟨[(.pointer p5),(.int .i64 i6)]⟩)) 6 (sV (.tuple ⟨[(.pointer p5),(.int .i64 i6)]⟩)) 9 (sP p5) 10 (sI i6) 4 (sP p5) 5 (sI i6)) V0 h2):= by kernel_rfl
theorem F41_r2:R41 19 2 (upd e 5 (sI x5)) V0 hp K=
 K (w3 e 5 (sI x5) 11 (sI x5) 12 (sB ((x5 != 0)))) V0 hp:= by kernel_rfl
theorem F41_r3:R41 75 3 (upd e 5 (sI x5)) V0 hp K=
 K (w4 e 5 (sI x5) 13 (sI x5) 2 (sP none) 3 (sI x5)) V0 hp:= by kernel_rfl
theorem F41_r4:R41 23 9 (w2 e 4 (sP x4) 0 (sI x0)) V0 hp K=
    (∀ b1:Nat,hp b1=.none→(CF Tryd.prog 82 [] (HP.set hp b1 (.obj (.map #[] 0))) fun u2 h3=>ptrV u2 fun p4=>∀ b5:Nat,h3 b5=.none→(∀ b6:Nat,(HP.set h3 b5 (.obj (.map #[] 0))) b6=.none→(K (w3 (w8 e 4 (sP x4) 0 (sI x0) 14 (sI x0) 15 (sV (.map (some b1))) 16 (sP x4) 17 (sP p4) 18 (sV (.map (some b5))) 19 (sV (.agg ⟨[(.int .i64 x0),.int .i64 0,(.map (some b1)),(.pointer x4),(.pointer p4),(.map (some b5))]⟩))) 20 (sQ b6 0) 2 (sQ b6 0) 3 (sI 0)) V0 (HP.set (HP.set h3 b5 (.obj (.map #[] 0))) b6 (.cells 157 [(.int .i64 x0),.int .i64 0,(.map (some b1)),(.pointer x4),(.pointer p4),(.map (some b5))] 0)))))):=by kernel_rfl
def F41 (x0:Int) (hp:HP) (K:Kh):Prop:=
  (CF Tryd.prog 66 [(.int .i64 x0)] hp fun u1 h2=>tup2V u1 fun u3 u4=>ptrV u3 fun p5=>intV u4 .i64 fun i6=>ite2 (i6 != 0) (K (.tuple ⟨[(.pointer none),(.int .i64 i6)]⟩) h2) (∀ b7:Nat,h2 b7=.none→(CF Tryd.prog 82 [] (HP.set h2 b7 (.obj (.map #[] 0))) fun u8 h9=>ptrV u8 fun p10=>∀ b11:Nat,h9 b11=.none→(∀ b12:Nat,(HP.set h9 b11 (.obj (.map #[] 0))) b12=.none→(K (.tuple ⟨[(ptr b12 0),.int .i64 0]⟩) (HP.set (HP.set h9 b11 (.obj (.map #[] 0))) b12 (.cells 157 [(.int .i64 x0),.int .i64 0,(.map (some b7)),(.pointer p5),(.pointer p10),(.map (some b11))] 0)))))))
noncomputable def F41_code:Code:=(.seq (.region 0 (opsAt Tryd.f41 (pth 2)) false) (.seq (.region 1 (opsAt Tryd.f41 (pth 5)) false) (.seq (.seq (.region 2 (opsAt Tryd.f41 (pth 19)) false) (.cond (.tmp 12) (.seq (.region 3 (opsAt Tryd.f41 (pth 75)) false) .ret) .skip)) (.seq (.region 4 (opsAt Tryd.f41 (pth 23)) false) .ret))))
theorem F41_body:Tryd.f41.body=some F41_code:=by kernel_rfl
theorem F41_ok (x0:Int) (hp:HP) (K:Kh) (h:F41 x0 hp K):CF Tryd.prog 41 [(.int .i64 x0)] hp K:=by
 refine .inl ⟨by kernel_rfl,AC.intro (N:=21) Tryd.func41 F41_body rfl (Nat.le_of_ble_eq_true rfl) ?_⟩
 unfold F41 at h
 refine Ar F41_r0 ?_ (r1 0 Rn) (z1 Sn) Sn
 refine Ar F41_r1 ?_ (r1 0 Rn) (z1 Sn) Sn
 refine mC h fun u1 h2 h=>mT h fun u3 u4 h=>mP h fun p5 h=>mI h fun i6 h=>?_
 refine Aq (Ar F41_r2 ?_ (r3 5 0 4 Rn) (z3 Sn) Sn)
 refine Ac h rfl (fun h=>?_) (fun h=>?_)
 ·refine Ar F41_r3 ?_ (r1 5 Rn) (z1 Sn) Sn
  refine AWP.ret ?_
  exact h
 ·refine AWP.skip (Ar F41_r4 ?_ (r2 0 4 Rn) (z2 Sn) Sn)
  refine fun b7 hb_b_7=>?_
  replace h:=h b7 hb_b_7
  refine mC h fun u8 h9 h=>mP h fun p10 h=>?_
  refine fun b11 hb_b_11=>?_
  replace h:=h b11 hb_b_11
  refine fun b12 hb_b_12=>?_
  replace h:=h b12 hb_b_12
  refine AWP.ret ?_
  exact h
end
end Go.Proofs
set_option linter.unusedVariables false
set_option linter.unusedSimpArgs false
set_option maxRecDepth 20000
namespace Go.Proofs
open Go Go.HL
open Go.Exp (Th tlt Ord setW dropW insW)
/-- A session. -/
structure Ss where
  id:Int
  bnd:Int
  peer:Q × Int
  state:Int
  due:Int
deriving DecidableEq
def ss0:Ss:=⟨0,0,((0,0,0,0),0),0,0⟩
instance:Inhabited Ss:=⟨ss0⟩
def ssc (x:Ss):List Value:=.int .i64 x.id::.int .i64 x.bnd::(t4 x.peer++[.int .i64 x.state,.int .i64 x.due])
theorem ssc_len (x:Ss):(ssc x).length=9:=rfl
theorem ssc_one (x:Ss):(ssc x).all one=true:=rfl
theorem ssc_id (x:Ss):(ssc x)[0]?=some (.int .i64 x.id):=rfl
theorem ssc_bnd (x:Ss):(ssc x)[1]?=some (.int .i64 x.bnd):=rfl
theorem ssc_addr (x:Ss):cellsN (ssc x) 2 4=some (v4 x.peer.1):=rfl
theorem ssc_due (x:Ss):(ssc x)[8]?=some (.int .i64 x.due):=rfl
theorem ssc_cells (x:Ss):cellsN (ssc x) 0 9=some (ssc x):=rfl
theorem ss_spl {zs:List Value} {y:Ss} (h:zs.length=9):splice zs 0 (ssc y)=ssc y:=splice_all h.symm
theorem ssc_inj {x y:Ss}:ssc x=ssc y↔x=y:=by
  constructor
  · intro h
    obtain ⟨i,b,p,s,d⟩:=x
    obtain ⟨i',b',p',s',d'⟩:=y
    unfold ssc at h
    simp only [List.cons.injEq,Value.int.injEq,true_and] at h
    obtain ⟨rfl,rfl,h⟩:=h
    obtain ⟨h1,h⟩:=List.append_inj h rfl
    simp only [List.cons.injEq,Value.int.injEq,true_and,and_true] at h
    obtain ⟨rfl,rfl⟩:=h
    rw [t4_inj.1 h1]
  · rintro rfl; rfl
theorem ssc_shaped (x:Ss):shaped Tryd.prog 5 79 (ssc x)=true:=by kernel_rfl
theorem eq79 {x y:Ss} {c:Bool→Prop} (h:c (decide (x=y))):eqAgg Tryd.prog 79 (ssc x) (ssc y) c:=
  eqAgg_of (m:=5) (D:=5) (by kernel_rfl) (ssc_shaped x) (ssc_shaped y) (by simp [ssc_inj]) h
theorem u154:Tryd.prog.underlying 154=some (.map 3 158):=by kernel_rfl
theorem u155:Tryd.prog.underlying 155=some (.map 3 160):=by kernel_rfl
theorem u160:Tryd.prog.underlying 160=some (.map 3 4):=by kernel_rfl
theorem zw158:∀ w:World,(zeroValue 158).run Tryd.prog w=.ok (.pointer none) w:=fun w=>itoa_zero (by kernel_rfl) w
theorem zw160:∀ w:World,(zeroValue 160).run Tryd.prog w=.ok (.map none) w:=fun w=>itoa_zero (by kernel_rfl) w
def Ss.key (x:Ss):ByteArray:=key4 x.bnd x.peer
/-- What always holds of a list of sessions. -/
structure InvE (mx last:Nat) (L:List Ss):Prop where
  asc:(L.map (·.id)).Pairwise (· < ·)
  rng:∀ x∈L,1≤x.id∧x.id≤last
  keys:(L.map fun x=>(x.bnd,x.peer)).Nodup
  ok:∀ x∈L,okZ x.bnd∧okT x.peer∧0≤x.due∧x.due≤4611686018427387904
  len:L.length≤mx
  mx:mx≤65536
  last:last≤500000
section
variable {mx last:Nat} {L:List Ss}
theorem InvE.ids (h:InvE mx last L):(L.map (·.id)).Nodup:=h.asc.imp fun h e=>by omega
theorem InvE.keyNd (h:InvE mx last L):(L.map Ss.key).Nodup:=by
  have h1:=h.keys
  unfold List.Nodup at h1 ⊢
  rw [List.pairwise_map] at h1 ⊢
  refine h1.imp_of_mem fun {a b} ha hb hab e=>hab ?_
  obtain ⟨e1,e2⟩:=key4_inj (h.ok a ha).2.1 (h.ok b hb).2.1 e
  rw [e1,e2]
theorem InvE.filter (h:InvE mx last L) (p:Ss→Bool):InvE mx last (L.filter p) where
  asc:=h.asc.sublist (List.filter_sublist.map _)
  rng x hx:=h.rng x (List.mem_filter.1 hx).1
  keys:=h.keys.sublist (List.filter_sublist.map _)
  ok x hx:=h.ok x (List.mem_filter.1 hx).1
  len:=Nat.le_trans (List.length_filter_le _ _) h.len
  mx:=h.mx
  last:=h.last
theorem InvE.nil (h:mx≤65536):InvE mx 0 []:=⟨List.Pairwise.nil,fun x hx=>absurd hx (by simp),List.nodup_nil,fun x hx=>absurd hx (by simp),Nat.zero_le _,h,by omega⟩
/-- The one of a binding and a peer; the one of a number. -/
def findK (b:Int) (p:Q × Int) (L:List Ss):Option Ss:=L.find? fun x=>decide (x.bnd=b∧x.peer=p)
def findN (i:Int) (L:List Ss):Option Ss:=L.find? fun x=>decide (x.id=i)
theorem findK_key (h:InvE mx last L) {b:Int} {p:Q × Int} (hp:okT p):(L.find? fun x=>decide (x.key=key4 b p))=findK b p L:=by
  unfold findK
  have:∀ x∈L,decide (x.key=key4 b p)=decide (x.bnd=b∧x.peer=p):=fun x hx=>by
    refine decide_eq_decide.2 ⟨fun e=>key4_inj (h.ok x hx).2.1 hp e,fun ⟨e1,e2⟩=>?_⟩
    unfold Ss.key; rw [e1,e2]
  clear h
  induction L with
  | nil=>rfl
  | cons x L ih=>rw [List.find?_cons,List.find?_cons,this x (by simp),ih fun y hy=>this y (by simp [hy])]
theorem findK_mem {b:Int} {p:Q × Int} {x:Ss} (h:findK b p L=some x):x∈L∧x.bnd=b∧x.peer=p:=by
  obtain ⟨h1,h2⟩:=find_mem h
  exact ⟨h1,of_decide_eq_true h2⟩
theorem findN_mem {i:Int} {x:Ss} (h:findN i L=some x):x∈L∧x.id=i:=by
  obtain ⟨h1,h2⟩:=find_mem h
  exact ⟨h1,of_decide_eq_true h2⟩
theorem findN_of (h:InvE mx last L) {x:Ss} (hx:x∈L):findN x.id L=some x:=find_of (g:=Ss.id) h.ids hx
theorem InvE.put (h:InvE mx last L) {b:Int} {p:Q × Int} {state due:Int} (hb:okZ b) (hp:okT p) (hd:0≤due∧due≤4611686018427387904) (hf:findK b p L=none) (hl:L.length<mx) (hlast:last<500000) :
    InvE mx (last+1) (L++[⟨(last+1:Nat),b,p,state,due⟩]) where
  asc:=by
    rw [List.map_append]
    refine List.pairwise_append.2 ⟨h.asc,by simp,fun a ha b hb=>?_⟩
    obtain ⟨x,hx,rfl⟩:=List.mem_map.1 ha
    have:=(h.rng x hx).2
    simp only [List.map_cons,List.map_nil,List.mem_singleton] at hb
    subst hb; omega
  rng x hx:=by
    rcases List.mem_append.1 hx with hx | hx
    · have:=h.rng x hx; omega
    · rw [List.mem_singleton.1 hx]
      simp only
      omega
  keys:=by
    rw [List.map_append]
    refine List.nodup_append.2 ⟨h.keys,by simp,fun a ha b hb e=>?_⟩
    obtain ⟨x,hx,rfl⟩:=List.mem_map.1 ha
    simp only [List.map_cons,List.map_nil,List.mem_singleton] at hb
    subst hb
    have:=(find_none.1 hf) x hx
    simp only [decide_eq_false_iff_not] at this
    simp only [Prod.mk.injEq] at e
    exact this e
  ok x hx:=by
    rcases List.mem_append.1 hx with hx | hx
    · exact h.ok x hx
    · rw [List.mem_singleton.1 hx]; exact ⟨hb,hp,hd⟩
  len:=by rw [List.length_append]; simp; omega
  mx:=h.mx
  last:=by omega
/-- One's state and due are changed. -/
def setE1 (i s d:Int) (x:Ss):Ss:=if x.id=i then { x with state:=s,due:=d } else x
def updS (i s d:Int) (L:List Ss):List Ss:=L.map (setE1 i s d)
theorem setE1_id (i s d:Int) (x:Ss):(setE1 i s d x).id=x.id:=by unfold setE1; split <;> rfl
theorem setE1_bnd (i s d:Int) (x:Ss):(setE1 i s d x).bnd=x.bnd:=by unfold setE1; split <;> rfl
theorem setE1_peer (i s d:Int) (x:Ss):(setE1 i s d x).peer=x.peer:=by unfold setE1; split <;> rfl
theorem updS_map {β:Type} (f:Ss→β) (i s d:Int) (hf:∀ x,f (setE1 i s d x)=f x):(updS i s d L).map f=L.map f:=by
  unfold updS
  rw [List.map_map]
  exact List.map_congr_left fun x _=>hf x
theorem InvE.upd (h:InvE mx last L) {i s d:Int} (hd:0≤d∧d≤4611686018427387904):InvE mx last (updS i s d L) where
  asc:=by rw [updS_map (·.id) i s d (setE1_id i s d)]; exact h.asc
  rng y hy:=by
    obtain ⟨x,hx,rfl⟩:=List.mem_map.1 hy
    rw [setE1_id]; exact h.rng x hx
  keys:=by rw [updS_map _ i s d fun x=>by rw [setE1_bnd,setE1_peer]]; exact h.keys
  ok y hy:=by
    obtain ⟨x,hx,rfl⟩:=List.mem_map.1 hy
    obtain ⟨a,b,c⟩:=h.ok x hx
    rw [setE1_bnd,setE1_peer]
    refine ⟨a,b,?_⟩
    unfold setE1
    split
    · exact hd
    · exact c
  len:=by unfold updS; rw [List.length_map]; exact h.len
  mx:=h.mx
  last:=h.last
theorem upd_perm {i s d:Int}:∀ {L:List Ss} {x:Ss},(L.map (·.id)).Nodup→x∈L→x.id=i→((L.filter fun y=>decide (y.id≠i))++[setE1 i s d x]).Perm (updS i s d L)
  | [],x,_,hx,_=>absurd hx (by simp)
  | y::L,x,hn,hx,hi=>by
    rw [List.map_cons,List.nodup_cons] at hn
    rcases List.mem_cons.1 hx with e | hx
    · subst e
      have h1:∀ z∈L,z.id≠i:=fun z hz e=>hn.1 (List.mem_map.2 ⟨z,hz,by rw [e,hi]⟩)
      have e1:((x::L).filter fun y=>decide (y.id≠i))=L:=by
        rw [List.filter_cons,if_neg (by simp [hi])]
        exact List.filter_eq_self.2 fun z hz=>decide_eq_true (h1 z hz)
      have e2:updS i s d (x::L)=setE1 i s d x::L:=by
        unfold updS
        rw [List.map_cons]
        congr 1
        conv=>rhs; rw [← List.map_id L]
        exact List.map_congr_left fun z hz=>if_neg (h1 z hz)
      rw [e1,e2]
      exact List.perm_append_singleton _ _
    · have hy:y.id≠i:=fun e=>hn.1 (List.mem_map.2 ⟨x,hx,by rw [hi,e]⟩)
      have e1:((y::L).filter fun y=>decide (y.id≠i))=y::L.filter fun y=>decide (y.id≠i):=by
        rw [List.filter_cons,if_pos (decide_eq_true hy)]
      have e2:updS i s d (y::L)=y::updS i s d L:=by
        unfold updS
        rw [List.map_cons]
        congr 1
        exact if_neg hy
      rw [e1,e2,List.cons_append]
      exact (upd_perm hn.2 hx hi).cons _
theorem QOk.upd {w:List Th} {i s d:Int} (h:QOk Ss.id Ss.due L w) (hn:(L.map (·.id)).Nodup) {x:Ss} (hx:x∈L) (hi:x.id=i):QOk Ss.id Ss.due (updS i s d L) (setW i d w):=by
  have h1:=h.cut (i:=i)
  have hid:(setE1 i s d x).id=i:=by rw [setE1_id]; exact hi
  have hdue:(setE1 i s d x).due=d:=by unfold setE1; rw [if_pos hi]
  have h2:=h1.put (x:=setE1 i s d x) (by
    rw [hid]
    intro hm
    obtain ⟨y,hy,e⟩:=List.mem_map.1 hm
    exact of_decide_eq_true (List.mem_filter.1 hy).2 e)
  rw [hid,hdue] at h2
  have e:setW i d (dropW i w)=setW i d w:=by
    unfold setW
    congr 1
    unfold dropW
    rw [List.filter_filter]
    refine List.filter_congr fun t _=>?_
    cases t.1 != i <;> rfl
  rw [e] at h2
  exact ⟨h2.1.trans ((upd_perm hn hx hi).map _),h2.2⟩
end
/-! The sessions' numbers of each binding: a map of maps. -/
def mv (k:Nat):Value:=.map (some k)
/-- The numbers of a binding, as a map has them. -/
def innB (B:List (Int × Int)) (b:Int):List (Int × Bool):=(B.filter fun p=>decide (p.1=b)).map fun p=>(p.2,true)
structure OfO (A:HP) (f:Nat) (O:List (Int × Nat)) (B:List (Int × Int)):Prop where
  map:MapE iw mv O (A f)
  k1:(O.map (·.1)).Nodup
  k2:(O.map (·.2)).Nodup
  nf:∀ e∈O,e.2≠f
  cov:∀ b,b∈O.map (·.1)↔∃ p∈B,p.1=b
  inn:∀ e∈O,MapE iw vb (innB B e.1) (A e.2)
section
variable {A:HP} {f:Nat} {O:List (Int × Nat)} {B:List (Int × Int)}
theorem getL_some_mem {α β:Type} [DecidableEq α] {k:α} {v:β}:∀ {l:List (α × β)},getL k l=some v→(k,v)∈l
  | [],h=>by cases h
  | p::l,h=>by
    simp only [getL] at h
    by_cases hk:k=p.1
    · rw [if_pos hk] at h
      have:p=(k,v):=by rw [hk]; exact Prod.ext rfl (Option.some.inj h)
      rw [this]; simp
    · rw [if_neg hk] at h
      exact List.mem_cons_of_mem _ (getL_some_mem h)
theorem getL_none_mem {α β:Type} [DecidableEq α] {k:α}:∀ {l:List (α × β)},getL k l=none↔k ∉ l.map (·.1)
  | []=>by simp [getL]
  | p::l=>by
    simp only [getL,List.map_cons,List.mem_cons,not_or]
    by_cases hk:k=p.1
    · rw [if_pos hk]; simp [hk]
    · rw [if_neg hk,getL_none_mem]; simp [hk]
theorem OfO.none (h:OfO A f O B) {b:Int} (hg:getL b O=none):∀ p∈B,p.1≠b:=fun p hp e=>getL_none_mem.1 hg ((h.cov b).2 ⟨p,hp,e⟩)
theorem OfO.inner (h:OfO A f O B) {b:Int} {k:Nat} (hg:getL b O=some k):MapE iw vb (innB B b) (A k)∧k≠f:=⟨h.inn _ (getL_some_mem hg),h.nf _ (getL_some_mem hg)⟩
theorem OfO.nil {A:HP} {f:Nat} (h:A f=.obj (.map #[] 0)):OfO A f [] [] where
  map:=by rw [h]; exact MapE.empty _ _
  k1:=List.nodup_nil
  k2:=List.nodup_nil
  nf e he:=absurd he (by simp)
  cov b:=by simp
  inn e he:=absurd he (by simp)
theorem inn_snoc (B:List (Int × Int)) (b i b':Int):innB (B++[(b,i)]) b'=if b=b' then innB B b'++[(i,true)] else innB B b':=by
  unfold innB
  rw [List.filter_append,List.map_append]
  by_cases h:b=b'
  · rw [if_pos h]; simp [h]
  · rw [if_neg h]; simp [h]
theorem inn_ids {B:List (Int × Int)} {b i:Int} (h:i ∉ B.map (·.2)):getL i (innB B b)=none:=by
  rw [getL_none_mem]
  intro hm
  obtain ⟨p,hp,e⟩:=List.mem_map.1 hm
  obtain ⟨q,hq,rfl⟩:=List.mem_map.1 hp
  exact h (List.mem_map.2 ⟨q,(List.mem_filter.1 hq).1,e⟩)
theorem OfO.add_old (h:OfO A f O B) {b i:Int} {k:Nat} (hg:getL b O=some k) (hi:i ∉ B.map (·.2)) {e:Ent} (he:MapE iw vb (putL i true (innB B b)) e):OfO (A.set k e) f O (B++[(b,i)]) where
  map:=by rw [HP.set_ne _ _ (h.inner hg).2.symm]; exact h.map
  k1:=h.k1
  k2:=h.k2
  nf:=h.nf
  cov b':=by
    rw [h.cov b']
    constructor
    · rintro ⟨p,hp,e⟩; exact ⟨p,by simp [hp],e⟩
    · rintro ⟨p,hp,e⟩
      rcases List.mem_append.1 hp with hp | hp
      · exact ⟨p,hp,e⟩
      · rw [List.mem_singleton.1 hp] at e
        simp only at e
        subst e
        exact (h.cov b).1 (List.mem_map.2 ⟨_,getL_some_mem hg,rfl⟩)
  inn z hz:=by
    rw [inn_snoc]
    by_cases hb:b=z.1
    · have hzk:z.2=k:=by
        have:=inj_of (g:=fun e:Int × Nat=>e.1) h.k1 hz (getL_some_mem hg) hb.symm
        rw [this]
      rw [if_pos hb,hzk,HP.set_eq,← hb]
      rw [put_new (inn_ids hi)] at he
      exact he
    · have hne:z.2≠k:=fun e'=>hb (by
        have:=inj_of (g:=fun e:Int × Nat=>e.2) h.k2 hz (getL_some_mem hg) e'
        rw [this])
      rw [if_neg hb,HP.set_ne _ _ hne]
      exact h.inn z hz
theorem OfO.add_new (h:OfO A f O B) {b i:Int} {k:Nat} (hg:getL b O=Option.none) (hk:A k=.none) {e e2:Ent} (he:MapE iw mv (putL b k O) e) (he2:MapE iw vb [(i,true)] e2) :
    OfO (((A.set k (.obj (.map #[] 0))).set f e).set k e2) f (O++[(b,k)]) (B++[(b,i)]):=by
  have hkf:k≠f:=fun e'=>h.map.ne (by rw [← e',hk])
  have hkO:∀ z∈O,z.2≠k:=fun z hz e'=>(h.inn z hz).ne (by rw [e',hk])
  have hno:=h.none hg
  rw [put_new hg] at he
  refine ⟨?_,?_,?_,?_,fun b'=>?_,fun z hz=>?_⟩
  · rw [HP.set_ne _ _ hkf.symm,HP.set_eq]; exact he
  · rw [List.map_append]
    refine List.nodup_append.2 ⟨h.k1,by simp,fun x hx y hy e'=>?_⟩
    simp only [List.map_cons,List.map_nil,List.mem_singleton] at hy
    exact getL_none_mem.1 hg (by rw [← hy,← e']; exact hx)
  · rw [List.map_append]
    refine List.nodup_append.2 ⟨h.k2,by simp,fun x hx y hy e'=>?_⟩
    simp only [List.map_cons,List.map_nil,List.mem_singleton] at hy
    obtain ⟨z,hz,e2⟩:=List.mem_map.1 hx
    exact hkO z hz (by rw [e2,e',hy])
  · intro z hz
    rcases List.mem_append.1 hz with hz | hz
    · exact h.nf z hz
    · rw [List.mem_singleton.1 hz]; exact hkf
  · rw [List.map_append,List.mem_append,h.cov b']
    constructor
    · rintro (⟨p,hp,e⟩ | hm)
      · exact ⟨p,by simp [hp],e⟩
      · simp only [List.map_cons,List.map_nil,List.mem_singleton] at hm
        exact ⟨(b,i),by simp,hm.symm⟩
    · rintro ⟨p,hp,e⟩
      rcases List.mem_append.1 hp with hp | hp
      · exact .inl ⟨p,hp,e⟩
      · rw [List.mem_singleton.1 hp] at e
        exact .inr (by simp [← e])
  · rcases List.mem_append.1 hz with hz | hz
    · have hb:b≠z.1:=fun e'=>getL_none_mem.1 hg (by rw [e']; exact List.mem_map.2 ⟨z,hz,rfl⟩)
      rw [inn_snoc,if_neg hb,HP.set_ne _ _ (hkO z hz),HP.set_ne _ _ (h.nf z hz),HP.set_ne _ _ (hkO z hz)]
      exact h.inn z hz
    · rw [List.mem_singleton.1 hz,inn_snoc,if_pos rfl,HP.set_eq]
      have:innB B b=[]:=by
        unfold innB
        rw [List.map_eq_nil_iff,List.filter_eq_nil_iff]
        intro p hp
        simpa using hno p hp
      rw [this]; exact he2
theorem inn_del {B:List (Int × Int)} (hn:(B.map (·.2)).Nodup) (b i:Int):delL i (innB B b)=innB (B.filter fun p=>decide (p.2≠i)) b:=by
  unfold innB
  rw [delL_mapK (fun p:Int × Int=>p.2) (fun _=>true) i (hn.sublist (List.filter_sublist.map _)),List.filter_filter,List.filter_filter]
  congr 1
  exact List.filter_congr fun p _=>Bool.and_comm _ _
theorem OfO.cut (h:OfO A f O B) (hn:(B.map (·.2)).Nodup) {b i:Int} (hm:(b,i)∈B) {k:Nat} (hg:getL b O=some k) {e:Ent} (he:MapE iw vb (delL i (innB B b)) e) :
    (∀ z∈O,MapE iw vb (innB (B.filter fun p=>decide (p.2≠i)) z.1) ((A.set k e) z.2))∧∀ b',b'≠b→((∃ p∈B,p.1=b')↔∃ p∈B.filter fun p=>decide (p.2≠i),p.1=b'):=by
  have hu:∀ p∈B,p.2=i→p=(b,i):=fun p hp e'=>inj_of (g:=fun p:Int × Int=>p.2) hn hp hm e'
  constructor
  · intro z hz
    by_cases hb:z.1=b
    · have hzk:z.2=k:=by
        have:=inj_of (g:=fun e:Int × Nat=>e.1) h.k1 hz (getL_some_mem hg) hb
        rw [this]
      rw [hzk,HP.set_eq,hb,← inn_del hn]
      exact he
    · have hne:z.2≠k:=fun e'=>hb (by
        have:=inj_of (g:=fun e:Int × Nat=>e.2) h.k2 hz (getL_some_mem hg) e'
        rw [this])
      rw [HP.set_ne _ _ hne]
      have:innB (B.filter fun p=>decide (p.2≠i)) z.1=innB B z.1:=by
        unfold innB
        rw [List.filter_filter]
        congr 1
        refine List.filter_congr fun p hp=>?_
        by_cases h1:p.1=z.1
        · have:p.2≠i:=fun e'=>hb (by rw [← h1,hu p hp e'])
          simp [h1,this]
        · simp [h1]
      rw [this]; exact h.inn z hz
  · intro b' hb'
    constructor
    · rintro ⟨p,hp,e'⟩
      refine ⟨p,List.mem_filter.2 ⟨hp,decide_eq_true fun e2=>hb' ?_⟩,e'⟩
      rw [← e',hu p hp e2]
    · rintro ⟨p,hp,e'⟩
      exact ⟨p,(List.mem_filter.1 hp).1,e'⟩
theorem OfO.del_some (h:OfO A f O B) (hn:(B.map (·.2)).Nodup) {b i:Int} (hm:(b,i)∈B) {k:Nat} (hg:getL b O=some k) {e:Ent} (he:MapE iw vb (delL i (innB B b)) e)
    (hs:∃ p∈B.filter fun p=>decide (p.2≠i),p.1=b):OfO (A.set k e) f O (B.filter fun p=>decide (p.2≠i)) where
  map:=by rw [HP.set_ne _ _ (h.inner hg).2.symm]; exact h.map
  k1:=h.k1
  k2:=h.k2
  nf:=h.nf
  cov b':=by
    by_cases hb:b'=b
    · subst hb
      exact ⟨fun _=>hs,fun _=>List.mem_map.2 ⟨_,getL_some_mem hg,rfl⟩⟩
    · rw [h.cov b']; exact (h.cut hn hm hg he).2 b' hb
  inn:=(h.cut hn hm hg he).1
theorem OfO.del_last (h:OfO A f O B) (hn:(B.map (·.2)).Nodup) {b i:Int} (hm:(b,i)∈B) {k:Nat} (hg:getL b O=some k) {e e2:Ent} (he:MapE iw vb (delL i (innB B b)) e) (he2:MapE iw mv (delL b O) e2)
    (hs:¬ ∃ p∈B.filter fun p=>decide (p.2≠i),p.1=b):OfO ((A.set k e).set f e2) f (O.filter fun z=>decide (z.1≠b)) (B.filter fun p=>decide (p.2≠i)) where
  map:=by
    rw [HP.set_eq]
    have:=delL_mapK (fun z:Int × Nat=>z.1) (fun z=>z.2) b (L:=O) h.k1
    have h4:((O.filter fun z=>decide (z.1≠b)).map fun x:Int × Nat=>((x.1,x.2):Int × Nat))=O.filter fun z=>decide (z.1≠b):=List.map_id _
    have h5:(O.map fun x:Int × Nat=>((x.1,x.2):Int × Nat))=O:=List.map_id _
    rw [h4,h5] at this
    rw [this] at he2
    exact he2
  k1:=h.k1.sublist (List.filter_sublist.map _)
  k2:=h.k2.sublist (List.filter_sublist.map _)
  nf z hz:=h.nf z (List.mem_filter.1 hz).1
  cov b':=by
    by_cases hb:b'=b
    · subst hb
      refine ⟨fun hm=>?_,fun hm=>absurd hm hs⟩
      obtain ⟨z,hz,e'⟩:=List.mem_map.1 hm
      exact absurd e' (of_decide_eq_true (List.mem_filter.1 hz).2)
    · rw [← (h.cut hn hm hg he).2 b' hb,← h.cov b']
      constructor
      · intro hm
        obtain ⟨z,hz,e'⟩:=List.mem_map.1 hm
        exact List.mem_map.2 ⟨z,(List.mem_filter.1 hz).1,e'⟩
      · intro hm
        obtain ⟨z,hz,e'⟩:=List.mem_map.1 hm
        exact List.mem_map.2 ⟨z,List.mem_filter.2 ⟨hz,decide_eq_true (by rw [e']; exact hb)⟩,e'⟩
  inn z hz:=by
    have hz:=(List.mem_filter.1 hz).1
    rw [HP.set_ne _ _ (h.nf z hz)]
    exact (h.cut hn hm hg he).1 z hz
end
end Go.Proofs
set_option linter.unusedVariables false
set_option linter.unusedSimpArgs false
set_option maxRecDepth 20000
namespace Go.Proofs
open Go Go.HL
/-- A binding. -/
structure Bd where
  id:Int
  proto:Int
  inn:V6 × Int
  out:Q × Int
  st:Bool
  ses:Int
deriving DecidableEq
def zq4:Q:=(0,0,0,0)
def bd0:Bd:=⟨0,0,((zq4,zq4,zq4,zq4),0),(zq4,0),false,0⟩
instance:Inhabited Bd:=⟨bd0⟩
section
variable {l:List Q} {low high:Int} {mx last n:Nat} {L:List Bd}
def findI (i:Int) (L:List Bd):Option Bd:=L.find? fun x=>decide (x.id=i)
end
section
variable {tb:Obj} {hq:HP} {t:Nat} {l:List Q} {low high:Int} {mx last n:Nat} {L:List Bd} {E:List (Bd × Nat)} {ps:Nat→HP} {m x o:Nat} {pl pm:Nat→Nat} {H:Nat→List ((Q × Int) × Bool)} {K:Value→HP→Prop}
theorem findE (i:Int):∀ E:List (Bd × Nat),(E.find? fun e=>decide (e.1.id=i)).map (·.1)=findI i (E.map (·.1))
  | []=>rfl
  | e::E=>by
    unfold findI
    rw [List.map_cons,List.find?_cons,List.find?_cons]
    by_cases h:e.1.id=i
    · rw [decide_eq_true h]; rfl
    · rw [decide_eq_false h]; exact findE i E
end
end Go.Proofs
set_option linter.unusedVariables false
set_option linter.unusedSimpArgs false
namespace Go.Proofs
open Go Go.HL
section
variable {l:List Q} {low high:Int} {mx last n:Nat} {L:List Bd}
end
end Go.Proofs
set_option linter.unusedVariables false
set_option linter.unusedSimpArgs false
set_option maxRecDepth 20000
namespace Go.Proofs
open Go Go.HL
section
variable {tb:Obj} {hq:HP} {t:Nat} {l:List Q} {low high:Int} {mx last n:Nat} {L:List Bd} {E:List (Bd × Nat)} {ps:Nat→HP} {m x o:Nat} {pl pm:Nat→Nat} {H:Nat→List ((Q × Int) × Bool)} {K:Value→HP→Prop}
theorem pu_pu (ps:Nat→HP) (i:Nat) (a b:HP):pu (pu ps i a) i b=pu ps i b:=funext fun j=>by
  by_cases h:j=i
  · rw [h,pu_eq,pu_eq]
  · rw [pu_ne _ _ h,pu_ne _ _ h,pu_ne _ _ h]
end
end Go.Proofs
set_option linter.unusedVariables false
set_option linter.unusedSimpArgs false
set_option maxRecDepth 20000
namespace Go.Proofs
open Go Go.HL
section
variable {tb:Obj} {hq:HP} {t:Nat} {l:List Q} {low high:Int} {mx last n:Nat} {L:List Bd} {E:List (Bd × Nat)} {ps:Nat→HP} {m x o:Nat} {pl pm:Nat→Nat} {H:Nat→List ((Q × Int) × Bool)} {K:Value→HP→Prop}
theorem v4_cells (q:Q):cellsN (v4 q) 0 4=some (v4 q):=rfl
end
end Go.Proofs
set_option linter.unusedVariables false
set_option linter.unusedSimpArgs false
set_option maxRecDepth 20000
namespace Go.Proofs
open Go Go.HL
section
variable {tb:Obj} {hq:HP} {t:Nat} {l:List Q} {low high:Int} {mx last n:Nat} {L:List Bd} {E:List (Bd × Nat)} {ps:Nat→HP} {m x o:Nat} {pl pm:Nat→Nat} {H:Nat→List ((Q × Int) × Bool)} {K:Value→HP→Prop}
end
end Go.Proofs
set_option linter.unusedVariables false
set_option linter.unusedSimpArgs false
set_option maxRecDepth 20000
namespace Go.Proofs
open Go Go.HL
section
variable {tb:Obj} {hq:HP} {t:Nat} {l:List Q} {low high:Int} {mx last n:Nat} {L:List Bd} {E:List (Bd × Nat)} {ps:Nat→HP} {m x o:Nat} {pl pm:Nat→Nat} {H:Nat→List ((Q × Int) × Bool)} {K:Value→HP→Prop}
end
end Go.Proofs
set_option linter.unusedVariables false
set_option linter.unusedSimpArgs false
set_option maxRecDepth 20000
namespace Go.Proofs
open Go Go.HL
section
variable {tb:Obj} {hq:HP} {t:Nat} {l:List Q} {low high:Int} {mx last n:Nat} {L:List Bd} {E:List (Bd × Nat)} {ps:Nat→HP} {m x o:Nat} {pl pm:Nat→Nat} {H:Nat→List ((Q × Int) × Bool)} {K:Value→HP→Prop}
end
end Go.Proofs
set_option linter.unusedVariables false
set_option linter.unusedSimpArgs false
set_option maxRecDepth 20000
namespace Go.Proofs
open Go Go.HL
section
variable {tb:Obj} {hq:HP} {t:Nat} {l:List Q} {low high:Int} {mx last n:Nat} {L:List Bd} {E:List (Bd × Nat)} {ps:Nat→HP} {m x o:Nat} {pl pm:Nat→Nat} {H:Nat→List ((Q × Int) × Bool)} {K:Value→HP→Prop}
end
end Go.Proofs
set_option linter.unusedVariables false
set_option linter.unusedSimpArgs false
set_option maxRecDepth 20000
namespace Go.Proofs
open Go Go.HL
section
variable {tb:Obj} {hp:HP} {ps:Nat→HP} {K:Value→HP→Prop}
end
end Go.Proofs
set_option linter.unusedVariables false
set_option maxRecDepth 20000
namespace Go.Proofs
open Go Go.HL
section
variable {f:FuncId} {ga gb:List Value} {hp0:HP} {b sp n c:Nat} {cf:Bd→Bd→Int}
end
end Go.Proofs
set_option linter.unusedVariables false
set_option maxRecDepth 20000
namespace Go.Proofs
open Go Go.HL
section
variable {f:FuncId} {ga gb:List Value} {hp0:HP} {b sp n c:Nat} {cf:Bd→Bd→Int}
end
end Go.Proofs
set_option linter.unusedVariables false
set_option maxRecDepth 20000
namespace Go.Proofs
open Go Go.HL
section
variable {f:FuncId} {ga gb:List Value} {hp0:HP} {b sp n c:Nat} {cf:Bd→Bd→Int}
end
end Go.Proofs
set_option linter.unusedVariables false
set_option maxRecDepth 20000
namespace Go.Proofs
open Go Go.HL
section
variable {f:FuncId} {ga gb:List Value} {hp0:HP} {b sp n c:Nat} {cf:Bd→Bd→Int}
end
end Go.Proofs
set_option linter.unusedVariables false
set_option maxRecDepth 20000
namespace Go.Proofs
open Go Go.HL
section
variable {e:Env} {x0:Int} {hp:HP} {K:Env→PV→HP→Prop}
abbrev R128 (p n:Nat):=RW Tryd.prog 8 [] (opsAt Tryd.f128 (pth p)) (List.range n)
theorem F128_r0:R128 2 1 e V0 hp K=
 K (upd e 2 (sI 0)) V0 hp:= by kernel_rfl
theorem F128_r1:R128 11 3 (upd e 0 (sV (.int .u64 x0))) V0 hp K=
 CF Tryd.prog 148 [(.int .u64 x0)] hp fun u1 h2=>(intV u1 .i64 fun i3=>K (w4 e 0 (sV (.int .u64 x0)) 6 (sV (.int .u64 x0)) 7 (sI i3) 2 (sI i3)) V0 h2):= by kernel_rfl
def F128 (x0:Int) (hp:HP) (K:Kh):Prop:=
  (CF Tryd.prog 148 [(.int .u64 x0)] hp fun u1 h2=>intV u1 .i64 fun i3=>K (.int .i64 i3) h2)
noncomputable def F128_code:Code:=(.seq (.region 0 (opsAt Tryd.f128 (pth 2)) false) (.seq (.cond (.const (.bool false)) (.seq (.region 1 (opsAt Tryd.f128 (pth 17)) false) .ret) .skip) (.seq (.region 2 (opsAt Tryd.f128 (pth 11)) false) .ret)))
theorem F128_body:Tryd.f128.body=some F128_code:=by kernel_rfl
theorem F128_ok (x0:Int) (hp:HP) (K:Kh) (h:F128 x0 hp K):CF Tryd.prog 128 [(.int .u64 x0)] hp K:=by
 refine .inl ⟨by kernel_rfl,AC.intro (N:=8) Tryd.func128 F128_body rfl (Nat.le_of_ble_eq_true rfl) ?_⟩
 unfold F128 at h
 refine Ar F128_r0 ?_ (r1 0 Rn) (z1 Sn) Sn
 refine Aq (AWP.condK ?_)
 refine AWP.skip (Ar F128_r1 ?_ (r1 0 Rn) (z1 Sn) Sn)
 refine mC h fun u1 h2 h=>mI h fun i3 h=>?_
 refine AWP.ret ?_
 exact h
end
section
variable {e:Env} {x0 x2:Int} {hp:HP} {K:Env→PV→HP→Prop}
abbrev R148 (p n:Nat):=RW Tryd.prog 25 [] (opsAt Tryd.f148 (pth p)) (List.range n)
theorem F148_r0:R148 2 1 e V0 hp K=
 K (upd e 2 (sI 0)) V0 hp:= by kernel_rfl
theorem F148_r1:R148 47 7 (w2 e 2 (sI x2) 0 (sV (.int .u64 x0))) V0 hp K=
    ((0≤((IntKind.wrap .u8 (x0)):Int))∧(((IntKind.wrap .u8 (x0)):Int)<(ByteArray.size (⟨#[0,1,2,2,3,3,3,3,4,4,4,4,4,4,4,4,5,5,5,5,5,5,5,5,5,5,5,5,5,5,5,5,6,6,6,6,6,6,6,6,6,6,6,6,6,6,6,6,6,6,6,6,6,6,6,6,6,6,6,6,6,6,6,6,7,7,7,7,7,7,7,7,7,7,7,7,7,7,7,7,7,7,7,7,7,7,7,7,7,7,7,7,7,7,7,7,7,7,7,7,7,7,7,7,7,7,7,7,7,7,7,7,7,7,7,7,7,7,7,7,7,7,7,7,7,7,7,7,8,8,8,8,8,8,8,8,8,8,8,8,8,8,8,8,8,8,8,8,8,8,8,8,8,8,8,8,8,8,8,8,8,8,8,8,8,8,8,8,8,8,8,8,8,8,8,8,8,8,8,8,8,8,8,8,8,8,8,8,8,8,8,8,8,8,8,8,8,8,8,8,8,8,8,8,8,8,8,8,8,8,8,8,8,8,8,8,8,8,8,8,8,8,8,8,8,8,8,8,8,8,8,8,8,8,8,8,8,8,8,8,8,8,8,8,8,8,8,8,8,8,8,8,8,8,8,8]⟩:ByteArray):Nat))∧(K (upd (w8 e 2 (sI x2) 0 (sV (.int .u64 x0)) 19 (sI x2) 20 (sV (.int .u64 x0)) 21 (sV (.int .u8 (IntKind.wrap .u8 (x0)))) 22 (sV (.int .u8 (bt (⟨#[0,1,2,2,3,3,3,3,4,4,4,4,4,4,4,4,5,5,5,5,5,5,5,5,5,5,5,5,5,5,5,5,6,6,6,6,6,6,6,6,6,6,6,6,6,6,6,6,6,6,6,6,6,6,6,6,6,6,6,6,6,6,6,6,7,7,7,7,7,7,7,7,7,7,7,7,7,7,7,7,7,7,7,7,7,7,7,7,7,7,7,7,7,7,7,7,7,7,7,7,7,7,7,7,7,7,7,7,7,7,7,7,7,7,7,7,7,7,7,7,7,7,7,7,7,7,7,7,8,8,8,8,8,8,8,8,8,8,8,8,8,8,8,8,8,8,8,8,8,8,8,8,8,8,8,8,8,8,8,8,8,8,8,8,8,8,8,8,8,8,8,8,8,8,8,8,8,8,8,8,8,8,8,8,8,8,8,8,8,8,8,8,8,8,8,8,8,8,8,8,8,8,8,8,8,8,8,8,8,8,8,8,8,8,8,8,8,8,8,8,8,8,8,8,8,8,8,8,8,8,8,8,8,8,8,8,8,8,8,8,8,8,8,8,8,8,8,8,8,8,8,8,8,8,8,8]⟩:ByteArray) (IntKind.wrap .u8 (x0))))) 23 (sI ((wr ((bt (⟨#[0,1,2,2,3,3,3,3,4,4,4,4,4,4,4,4,5,5,5,5,5,5,5,5,5,5,5,5,5,5,5,5,6,6,6,6,6,6,6,6,6,6,6,6,6,6,6,6,6,6,6,6,6,6,6,6,6,6,6,6,6,6,6,6,7,7,7,7,7,7,7,7,7,7,7,7,7,7,7,7,7,7,7,7,7,7,7,7,7,7,7,7,7,7,7,7,7,7,7,7,7,7,7,7,7,7,7,7,7,7,7,7,7,7,7,7,7,7,7,7,7,7,7,7,7,7,7,7,8,8,8,8,8,8,8,8,8,8,8,8,8,8,8,8,8,8,8,8,8,8,8,8,8,8,8,8,8,8,8,8,8,8,8,8,8,8,8,8,8,8,8,8,8,8,8,8,8,8,8,8,8,8,8,8,8,8,8,8,8,8,8,8,8,8,8,8,8,8,8,8,8,8,8,8,8,8,8,8,8,8,8,8,8,8,8,8,8,8,8,8,8,8,8,8,8,8,8,8,8,8,8,8,8,8,8,8,8,8,8,8,8,8,8,8,8,8,8,8,8,8,8,8,8,8,8,8]⟩:ByteArray) (IntKind.wrap .u8 (x0))))))) 24 (sI ((wr (x2+(wr ((bt (⟨#[0,1,2,2,3,3,3,3,4,4,4,4,4,4,4,4,5,5,5,5,5,5,5,5,5,5,5,5,5,5,5,5,6,6,6,6,6,6,6,6,6,6,6,6,6,6,6,6,6,6,6,6,6,6,6,6,6,6,6,6,6,6,6,6,7,7,7,7,7,7,7,7,7,7,7,7,7,7,7,7,7,7,7,7,7,7,7,7,7,7,7,7,7,7,7,7,7,7,7,7,7,7,7,7,7,7,7,7,7,7,7,7,7,7,7,7,7,7,7,7,7,7,7,7,7,7,7,7,8,8,8,8,8,8,8,8,8,8,8,8,8,8,8,8,8,8,8,8,8,8,8,8,8,8,8,8,8,8,8,8,8,8,8,8,8,8,8,8,8,8,8,8,8,8,8,8,8,8,8,8,8,8,8,8,8,8,8,8,8,8,8,8,8,8,8,8,8,8,8,8,8,8,8,8,8,8,8,8,8,8,8,8,8,8,8,8,8,8,8,8,8,8,8,8,8,8,8,8,8,8,8,8,8,8,8,8,8,8,8,8,8,8,8,8,8,8,8,8,8,8,8,8,8,8,8,8]⟩:ByteArray) (IntKind.wrap .u8 (x0)))))))))) 2 (sI ((wr (x2+(wr ((bt (⟨#[0,1,2,2,3,3,3,3,4,4,4,4,4,4,4,4,5,5,5,5,5,5,5,5,5,5,5,5,5,5,5,5,6,6,6,6,6,6,6,6,6,6,6,6,6,6,6,6,6,6,6,6,6,6,6,6,6,6,6,6,6,6,6,6,7,7,7,7,7,7,7,7,7,7,7,7,7,7,7,7,7,7,7,7,7,7,7,7,7,7,7,7,7,7,7,7,7,7,7,7,7,7,7,7,7,7,7,7,7,7,7,7,7,7,7,7,7,7,7,7,7,7,7,7,7,7,7,7,8,8,8,8,8,8,8,8,8,8,8,8,8,8,8,8,8,8,8,8,8,8,8,8,8,8,8,8,8,8,8,8,8,8,8,8,8,8,8,8,8,8,8,8,8,8,8,8,8,8,8,8,8,8,8,8,8,8,8,8,8,8,8,8,8,8,8,8,8,8,8,8,8,8,8,8,8,8,8,8,8,8,8,8,8,8,8,8,8,8,8,8,8,8,8,8,8,8,8,8,8,8,8,8,8,8,8,8,8,8,8,8,8,8,8,8,8,8,8,8,8,8,8,8,8,8,8,8]⟩:ByteArray) (IntKind.wrap .u8 (x0)))))))))) V0 hp)):=by kernel_rfl
def F148_j3 (x0 x2:Int) (hp:HP) (K:Kh):Prop:=
  ((0≤((IntKind.wrap .u8 (x0)):Int))∧(((IntKind.wrap .u8 (x0)):Int)<(ByteArray.size (⟨#[0,1,2,2,3,3,3,3,4,4,4,4,4,4,4,4,5,5,5,5,5,5,5,5,5,5,5,5,5,5,5,5,6,6,6,6,6,6,6,6,6,6,6,6,6,6,6,6,6,6,6,6,6,6,6,6,6,6,6,6,6,6,6,6,7,7,7,7,7,7,7,7,7,7,7,7,7,7,7,7,7,7,7,7,7,7,7,7,7,7,7,7,7,7,7,7,7,7,7,7,7,7,7,7,7,7,7,7,7,7,7,7,7,7,7,7,7,7,7,7,7,7,7,7,7,7,7,7,8,8,8,8,8,8,8,8,8,8,8,8,8,8,8,8,8,8,8,8,8,8,8,8,8,8,8,8,8,8,8,8,8,8,8,8,8,8,8,8,8,8,8,8,8,8,8,8,8,8,8,8,8,8,8,8,8,8,8,8,8,8,8,8,8,8,8,8,8,8,8,8,8,8,8,8,8,8,8,8,8,8,8,8,8,8,8,8,8,8,8,8,8,8,8,8,8,8,8,8,8,8,8,8,8,8,8,8,8,8,8,8,8,8,8,8,8,8,8,8,8,8,8,8,8,8,8,8]⟩:ByteArray):Nat))∧(K (.int .i64 (IntKind.wrap .i64 (x2+(IntKind.wrap .i64 ((bt (⟨#[0,1,2,2,3,3,3,3,4,4,4,4,4,4,4,4,5,5,5,5,5,5,5,5,5,5,5,5,5,5,5,5,6,6,6,6,6,6,6,6,6,6,6,6,6,6,6,6,6,6,6,6,6,6,6,6,6,6,6,6,6,6,6,6,7,7,7,7,7,7,7,7,7,7,7,7,7,7,7,7,7,7,7,7,7,7,7,7,7,7,7,7,7,7,7,7,7,7,7,7,7,7,7,7,7,7,7,7,7,7,7,7,7,7,7,7,7,7,7,7,7,7,7,7,7,7,7,7,8,8,8,8,8,8,8,8,8,8,8,8,8,8,8,8,8,8,8,8,8,8,8,8,8,8,8,8,8,8,8,8,8,8,8,8,8,8,8,8,8,8,8,8,8,8,8,8,8,8,8,8,8,8,8,8,8,8,8,8,8,8,8,8,8,8,8,8,8,8,8,8,8,8,8,8,8,8,8,8,8,8,8,8,8,8,8,8,8,8,8,8,8,8,8,8,8,8,8,8,8,8,8,8,8,8,8,8,8,8,8,8,8,8,8,8,8,8,8,8,8,8,8,8,8,8,8,8]⟩:ByteArray) (IntKind.wrap .u8 (x0)))))))) hp))
theorem F148_r2:R148 39 2 (upd e 0 (sV (.int .u64 x0))) V0 hp K=
 K (w3 e 0 (sV (.int .u64 x0)) 13 (sV (.int .u64 x0)) 14 (sB (decide (x0≥256)))) V0 hp:= by kernel_rfl
theorem F148_r3:R148 151 3 (upd e 0 (sV (.int .u64 x0))) V0 hp K=
    ((0≤(8:Int))∧(K (w4 e 0 (sV (.int .u64 x0)) 15 (sV (.int .u64 x0)) 16 (sV (.int .u64 (Int.fdiv x0 (2 ^ (min (Int.toNat 8) (IntKind.bits .u64)))))) 0 (sV (.int .u64 (Int.fdiv x0 (2 ^ (min (Int.toNat 8) (IntKind.bits .u64))))))) V0 hp)):=by kernel_rfl
theorem F148_r4:R148 215 3 (upd e 2 (sI x2)) V0 hp K=
 K (w4 e 2 (sI x2) 17 (sI x2) 18 (sI ((wr (x2+8)))) 2 (sI ((wr (x2+8))))) V0 hp:= by kernel_rfl
def F148_j2 (x0 x2:Int) (hp:HP) (K:Kh):Prop:=
  (ite2 (decide (x0≥256)) ((0≤(8:Int))∧(F148_j3 (Int.fdiv x0 (2 ^ (min (Int.toNat 8) (IntKind.bits .u64)))) (IntKind.wrap .i64 (x2+8)) hp  K)) (F148_j3 x0 x2 hp  K))
theorem F148_r5:R148 19 2 (upd e 0 (sV (.int .u64 x0))) V0 hp K=
 K (w3 e 0 (sV (.int .u64 x0)) 7 (sV (.int .u64 x0)) 8 (sB (decide (x0≥65536)))) V0 hp:= by kernel_rfl
theorem F148_r6:R148 75 3 (upd e 0 (sV (.int .u64 x0))) V0 hp K=
    ((0≤(16:Int))∧(K (w4 e 0 (sV (.int .u64 x0)) 9 (sV (.int .u64 x0)) 10 (sV (.int .u64 (Int.fdiv x0 (2 ^ (min (Int.toNat 16) (IntKind.bits .u64)))))) 0 (sV (.int .u64 (Int.fdiv x0 (2 ^ (min (Int.toNat 16) (IntKind.bits .u64))))))) V0 hp)):=by kernel_rfl
theorem F148_r7:R148 107 3 (upd e 2 (sI x2)) V0 hp K=
 K (w4 e 2 (sI x2) 11 (sI x2) 12 (sI ((wr (x2+16)))) 2 (sI ((wr (x2+16))))) V0 hp:= by kernel_rfl
def F148_j1 (x0 x2:Int) (hp:HP) (K:Kh):Prop:=
  (ite2 (decide (x0≥65536)) ((0≤(16:Int))∧(F148_j2 (Int.fdiv x0 (2 ^ (min (Int.toNat 16) (IntKind.bits .u64)))) (IntKind.wrap .i64 (x2+16)) hp  K)) (F148_j2 x0 x2 hp  K))
theorem F148_r8:R148 9 2 (upd e 0 (sV (.int .u64 x0))) V0 hp K=
 K (w3 e 0 (sV (.int .u64 x0)) 3 (sV (.int .u64 x0)) 4 (sB (decide (x0≥4294967296)))) V0 hp:= by kernel_rfl
theorem F148_r9:R148 37 3 (upd e 0 (sV (.int .u64 x0))) V0 hp K=
    ((0≤(32:Int))∧(K (w4 e 0 (sV (.int .u64 x0)) 5 (sV (.int .u64 x0)) 6 (sV (.int .u64 (Int.fdiv x0 (2 ^ (min (Int.toNat 32) (IntKind.bits .u64)))))) 0 (sV (.int .u64 (Int.fdiv x0 (2 ^ (min (Int.toNat 32) (IntKind.bits .u64))))))) V0 hp)):=by kernel_rfl
theorem F148_r10:R148 53 1 e V0 hp K=
 K (upd e 2 (sI 32)) V0 hp:= by kernel_rfl
def F148 (x0:Int) (hp:HP) (K:Kh):Prop:=
  (ite2 (decide (x0≥4294967296)) ((0≤(32:Int))∧(F148_j1 (Int.fdiv x0 (2 ^ (min (Int.toNat 32) (IntKind.bits .u64)))) 32 hp  K)) (F148_j1 x0 0 hp  K))
noncomputable abbrev o148 (k n:Nat):Code:=.region k (opsAt Tryd.f148 (pth n)) false
noncomputable def F148_code:Code:=(.seq (o148 0 2) (.seq (.seq (o148 1 9) (.cond (.tmp 4) (.seq (o148 2 37) (o148 3 53)) .skip)) (.seq (.seq (o148 4 19) (.cond (.tmp 8) (.seq (o148 5 75) (o148 6 107)) .skip)) (.seq (.seq (o148 7 39) (.cond (.tmp 14) (.seq (o148 8 151) (o148 9 215)) .skip)) (.seq (o148 10 47) .ret)))))
theorem F148_body:Tryd.f148.body=some F148_code:=by kernel_rfl
theorem F148_ok (x0:Int) (hp:HP) (K:Kh) (h:F148 x0 hp K):CF Tryd.prog 148 [(.int .u64 x0)] hp K:=by
 refine .inl ⟨by kernel_rfl,AC.intro (N:=25) Tryd.func148 F148_body rfl (Nat.le_of_ble_eq_true rfl) ?_⟩
 unfold F148 at h
 refine Ar F148_r0 ?_ (r1 0 Rn) (z1 Sn) Sn
 refine As (fun env pv hp=>∃ x0 x2,Sub (w2 E0 2 (sI x2) 0 (sV (.int .u64 x0))) env∧Sub V0 pv∧F148_j1 x0 x2 hp  K) ?_ ?_
 ·refine Ar F148_r8 ?_ (r2 0 2 Rn) (z2 Sn) Sn
  refine Ac h rfl (fun h=>?_) (fun h=>?_)
  ·refine Ar F148_r9 ?_ (r1 0 Rn) (z1 Sn) Sn
   refine ⟨h.1,?_⟩
   replace h:=h.2
   refine Ag F148_r10 ?_ (r1 0 Rn) (z1 Sn) Sn
   exact ⟨_,_,(z2 Sn),Sn,h⟩
  ·refine AWP.skip ?_
   exact ⟨_,_,(z2 Sn),Sn,h⟩
 ·rintro env pv hp ⟨x0,x2,he,hv,h⟩
  refine Ae ?_ (r2 0 2 Rn) he hv
  unfold F148_j1 at h
  refine As (fun env pv hp=>∃ x0 x2,Sub (w2 E0 2 (sI x2) 0 (sV (.int .u64 x0))) env∧Sub V0 pv∧F148_j2 x0 x2 hp  K) ?_ ?_
  ·refine Ar F148_r5 ?_ (r2 0 2 Rn) (z2 Sn) Sn
   refine Ac h rfl (fun h=>?_) (fun h=>?_)
   ·refine Ar F148_r6 ?_ (r2 0 2 Rn) (z2 Sn) Sn
    refine ⟨h.1,?_⟩
    replace h:=h.2
    refine Ag F148_r7 ?_ (r2 2 0 Rn) (z2 Sn) Sn
    exact ⟨_,_,(z2 Sn),Sn,h⟩
   ·refine AWP.skip ?_
    exact ⟨_,_,(z2 Sn),Sn,h⟩
  ·rintro env pv hp ⟨x0,x2,he,hv,h⟩
   refine Ae ?_ (r2 0 2 Rn) he hv
   unfold F148_j2 at h
   refine As (fun env pv hp=>∃ x0 x2,Sub (w2 E0 2 (sI x2) 0 (sV (.int .u64 x0))) env∧Sub V0 pv∧F148_j3 x0 x2 hp  K) ?_ ?_
   ·refine Ar F148_r2 ?_ (r2 0 2 Rn) (z2 Sn) Sn
    refine Ac h rfl (fun h=>?_) (fun h=>?_)
    ·refine Ar F148_r3 ?_ (r2 0 2 Rn) (z2 Sn) Sn
     refine ⟨h.1,?_⟩
     replace h:=h.2
     refine Ag F148_r4 ?_ (r2 2 0 Rn) (z2 Sn) Sn
     exact ⟨_,_,(z2 Sn),Sn,h⟩
    ·refine AWP.skip ?_
     exact ⟨_,_,(z2 Sn),Sn,h⟩
   ·rintro env pv hp ⟨x0,x2,he,hv,h⟩
    refine Ae ?_ (r2 0 2 Rn) he hv
    unfold F148_j3 at h
    refine Ar F148_r1 ?_ (r2 0 2 Rn) (z2 Sn) Sn
    refine ⟨h.1,h.2.1,?_⟩
    replace h:=h.2.2
    refine AWP.ret ?_
    exact h
end
section
variable {e:Env} {x0:Int} {hp:HP} {K:Env→PV→HP→Prop}
abbrev R169 (p n:Nat):=RW Tryd.prog 7 [] (opsAt Tryd.f169 (pth p)) (List.range n)
theorem F169_r0:R169 2 1 e V0 hp K=
 K (upd e 2 (sV (.int .u64 0))) V0 hp:= by kernel_rfl
theorem F169_r1:R169 5 5 (upd e 0 (sI x0)) V0 hp K=
    (CF Tryd.prog 128 [(.int .u64 (IntKind.wrap .u64 (x0)))] hp fun u1 h2=>intV u1 .i64 fun i3=>(0≤i3)∧(K (w6 e 0 (sI x0) 3 (sI x0) 4 (sV (.int .u64 (IntKind.wrap .u64 (x0)))) 5 (sI i3) 6 (sV (.int .u64 (IntKind.wrap .u64 (1*2 ^ (min (Int.toNat i3) (IntKind.bits .u64)))))) 2 (sV (.int .u64 (IntKind.wrap .u64 (1*2 ^ (min (Int.toNat i3) (IntKind.bits .u64))))))) V0 h2)):=by kernel_rfl
def F169 (x0:Int) (hp:HP) (K:Kh):Prop:=
  (CF Tryd.prog 128 [(.int .u64 (IntKind.wrap .u64 (x0)))] hp fun u1 h2=>intV u1 .i64 fun i3=>(0≤i3)∧(K (.int .u64 (IntKind.wrap .u64 (1*2 ^ (min (Int.toNat i3) (IntKind.bits .u64))))) h2))
noncomputable def F169_code:Code:=(.seq (.region 0 (opsAt Tryd.f169 (pth 2)) false) (.seq (.region 1 (opsAt Tryd.f169 (pth 5)) false) .ret))
theorem F169_body:Tryd.f169.body=some F169_code:=by kernel_rfl
theorem F169_ok (x0:Int) (hp:HP) (K:Kh) (h:F169 x0 hp K):CF Tryd.prog 169 [(.int .i64 x0)] hp K:=by
 refine .inl ⟨by kernel_rfl,AC.intro (N:=7) Tryd.func169 F169_body rfl (Nat.le_of_ble_eq_true rfl) ?_⟩
 unfold F169 at h
 refine Ar F169_r0 ?_ (r1 0 Rn) (z1 Sn) Sn
 refine Ar F169_r1 ?_ (r1 0 Rn) (z1 Sn) Sn
 refine mC h (fun u1 h2 h=>mI h (fun i3 h=>⟨h.1,?_⟩))
 replace h:=h.2
 refine AWP.ret ?_
 exact h
end
section
variable {e:Env} {x0:OA} {hp:HP} {K:Env→PV→HP→Prop}
abbrev R170 (p n:Nat):=RW Tryd.prog 33 [] (opsAt Tryd.f170 (pth p)) (List.range n)
theorem F170_r0:R170 2 1 e V0 hp K=
 K (upd e 2 (sV (.int .u64 0))) V0 hp:= by kernel_rfl
theorem F170_r1:R170 5 10 (upd e 0 (sP x0)) V0 hp K=
    (ptrN x0 fun b1 o2=>ldV (HP.cell hp b1 o2) fun v3=>intV v3 .u64 fun i4=>ptrN x0 fun b5 o6=>ldV (HP.cell hp b5 o6) fun v7=>intV v7 .u64 fun i8=>(0≤(13:Int))∧(ptrN x0 fun b9 o10=>HP.st hp b9 o10 (.int .u64 (bxor .u64 i4 (IntKind.wrap .u64 (i8*2 ^ (min (Int.toNat 13) (IntKind.bits .u64)))))) fun h11=>K (w2 (w8 e 0 (sP x0) 3 (sP x0) 4 (sQ b1 o2) 5 (sV (.int .u64 i4)) 6 (sP x0) 7 (sQ b5 o6) 8 (sV (.int .u64 i8)) 9 (sV (.int .u64 (IntKind.wrap .u64 (i8*2 ^ (min (Int.toNat 13) (IntKind.bits .u64))))))) 10 (sV (.int .u64 (bxor .u64 i4 (IntKind.wrap .u64 (i8*2 ^ (min (Int.toNat 13) (IntKind.bits .u64))))))) 11 (sQ b9 o10)) V0 h11)):=by kernel_rfl
theorem F170_r2:R170 11 10 (upd e 0 (sP x0)) V0 hp K=
    (ptrN x0 fun b1 o2=>ldV (HP.cell hp b1 o2) fun v3=>intV v3 .u64 fun i4=>ptrN x0 fun b5 o6=>ldV (HP.cell hp b5 o6) fun v7=>intV v7 .u64 fun i8=>(0≤(7:Int))∧(ptrN x0 fun b9 o10=>HP.st hp b9 o10 (.int .u64 (bxor .u64 i4 (Int.fdiv i8 (2 ^ (min (Int.toNat 7) (IntKind.bits .u64)))))) fun h11=>K (w2 (w8 e 0 (sP x0) 12 (sP x0) 13 (sQ b1 o2) 14 (sV (.int .u64 i4)) 15 (sP x0) 16 (sQ b5 o6) 17 (sV (.int .u64 i8)) 18 (sV (.int .u64 (Int.fdiv i8 (2 ^ (min (Int.toNat 7) (IntKind.bits .u64))))))) 19 (sV (.int .u64 (bxor .u64 i4 (Int.fdiv i8 (2 ^ (min (Int.toNat 7) (IntKind.bits .u64))))))) 20 (sQ b9 o10)) V0 h11)):=by kernel_rfl
theorem F170_r3:R170 23 10 (upd e 0 (sP x0)) V0 hp K=
    (ptrN x0 fun b1 o2=>ldV (HP.cell hp b1 o2) fun v3=>intV v3 .u64 fun i4=>ptrN x0 fun b5 o6=>ldV (HP.cell hp b5 o6) fun v7=>intV v7 .u64 fun i8=>(0≤(17:Int))∧(ptrN x0 fun b9 o10=>HP.st hp b9 o10 (.int .u64 (bxor .u64 i4 (IntKind.wrap .u64 (i8*2 ^ (min (Int.toNat 17) (IntKind.bits .u64)))))) fun h11=>K (w2 (w8 e 0 (sP x0) 21 (sP x0) 22 (sQ b1 o2) 23 (sV (.int .u64 i4)) 24 (sP x0) 25 (sQ b5 o6) 26 (sV (.int .u64 i8)) 27 (sV (.int .u64 (IntKind.wrap .u64 (i8*2 ^ (min (Int.toNat 17) (IntKind.bits .u64))))))) 28 (sV (.int .u64 (bxor .u64 i4 (IntKind.wrap .u64 (i8*2 ^ (min (Int.toNat 17) (IntKind.bits .u64))))))) 29 (sQ b9 o10)) V0 h11)):=by kernel_rfl
theorem F170_r4:R170 47 4 (upd e 0 (sP x0)) V0 hp K=
 ptrN x0 fun b1 o2=>(ldV (HP.cell hp b1 o2) fun v3=>intV v3 .u64 fun i4=>K (w5 e 0 (sP x0) 30 (sP x0) 31 (sQ b1 o2) 32 (sV (.int .u64 i4)) 2 (sV (.int .u64 i4))) V0 hp):= by kernel_rfl
def F170 (x0:OA) (hp:HP) (K:Kh):Prop:=
  (ptrN x0 fun b1 o2=>ldV (HP.cell hp b1 o2) fun v3=>intV v3 .u64 fun i4=>ptrN x0 fun b5 o6=>ldV (HP.cell hp b5 o6) fun v7=>intV v7 .u64 fun i8=>(0≤(13:Int))∧(ptrN x0 fun b9 o10=>HP.st hp b9 o10 (.int .u64 (bxor .u64 i4 (IntKind.wrap .u64 (i8*2 ^ (min (Int.toNat 13) (IntKind.bits .u64)))))) fun h11=>ptrN x0 fun b12 o13=>ldV (HP.cell h11 b12 o13) fun v14=>intV v14 .u64 fun i15=>ptrN x0 fun b16 o17=>ldV (HP.cell h11 b16 o17) fun v18=>intV v18 .u64 fun i19=>(0≤(7:Int))∧(ptrN x0 fun b20 o21=>HP.st h11 b20 o21 (.int .u64 (bxor .u64 i15 (Int.fdiv i19 (2 ^ (min (Int.toNat 7) (IntKind.bits .u64)))))) fun h22=>ptrN x0 fun b23 o24=>ldV (HP.cell h22 b23 o24) fun v25=>intV v25 .u64 fun i26=>ptrN x0 fun b27 o28=>ldV (HP.cell h22 b27 o28) fun v29=>intV v29 .u64 fun i30=>(0≤(17:Int))∧(ptrN x0 fun b31 o32=>HP.st h22 b31 o32 (.int .u64 (bxor .u64 i26 (IntKind.wrap .u64 (i30*2 ^ (min (Int.toNat 17) (IntKind.bits .u64)))))) fun h33=>ptrN x0 fun b34 o35=>ldV (HP.cell h33 b34 o35) fun v36=>intV v36 .u64 fun i37=>K (.int .u64 i37) h33))))
noncomputable def F170_code:Code:=(.seq (.region 0 (opsAt Tryd.f170 (pth 2)) false) (.seq (.region 1 (opsAt Tryd.f170 (pth 5)) true) (.seq (.region 2 (opsAt Tryd.f170 (pth 11)) true) (.seq (.region 3 (opsAt Tryd.f170 (pth 23)) true) (.seq (.region 4 (opsAt Tryd.f170 (pth 47)) false) .ret)))))
theorem F170_body:Tryd.f170.body=some F170_code:=by kernel_rfl
theorem F170_ok (x0:OA) (hp:HP) (K:Kh) (h:F170 x0 hp K):CF Tryd.prog 170 [(.pointer x0)] hp K:=by
 refine .inl ⟨by kernel_rfl,AC.intro (N:=33) Tryd.func170 F170_body rfl (Nat.le_of_ble_eq_true rfl) ?_⟩
 unfold F170 at h
 refine Ar F170_r0 ?_ (r1 0 Rn) (z1 Sn) Sn
 refine Aq (AWP.rgnD (by kernel_rfl) (by kernel_rfl) F170_r1 ?_ (r1 0 Rn) (z1 Sn) Sn)
 refine mN h (fun b1 o2 h=>mV h (fun v3 h=>mI h (fun i4 h=>mN h (fun b5 o6 h=>mV h (fun v7 h=>mI h (fun i8 h=>⟨h.1,mN h.2 fun b9 o10 h=>mw h fun h11 h=>?_⟩))))))
 refine Aq (AWP.rgnD (by kernel_rfl) (by kernel_rfl) F170_r2 ?_ (r1 0 Rn) (z1 Sn) Sn)
 refine mN h (fun b12 o13 h=>mV h (fun v14 h=>mI h (fun i15 h=>mN h (fun b16 o17 h=>mV h (fun v18 h=>mI h (fun i19 h=>⟨h.1,mN h.2 fun b20 o21 h=>mw h fun h22 h=>?_⟩))))))
 refine Aq (AWP.rgnD (by kernel_rfl) (by kernel_rfl) F170_r3 ?_ (r1 0 Rn) (z1 Sn) Sn)
 refine mN h (fun b23 o24 h=>mV h (fun v25 h=>mI h (fun i26 h=>mN h (fun b27 o28 h=>mV h (fun v29 h=>mI h (fun i30 h=>⟨h.1,mN h.2 fun b31 o32 h=>mw h fun h33 h=>?_⟩))))))
 refine Ar F170_r4 ?_ (r1 0 Rn) (z1 Sn) Sn
 refine mN h fun b34 o35 h=>mV h fun v36 h=>mI h fun i37 h=>?_
 refine AWP.ret ?_
 exact h
end
end Go.Proofs
set_option linter.unusedVariables false
set_option maxRecDepth 20000
namespace Go.Proofs
open Go Go.HL
def lenTab:ByteArray:=⟨#[0,1,2,2,3,3,3,3,4,4,4,4,4,4,4,4,5,5,5,5,5,5,5,5,5,5,5,5,5,5,5,5,6,6,6,6,6,6,6,6,6,6,6,6,6,6,6,6,6,6,6,6,6,6,6,6,6,6,6,6,6,6,6,6,7,7,7,7,7,7,7,7,7,7,7,7,7,7,7,7,7,7,7,7,7,7,7,7,7,7,7,7,7,7,7,7,7,7,7,7,7,7,7,7,7,7,7,7,7,7,7,7,7,7,7,7,7,7,7,7,7,7,7,7,7,7,7,7,8,8,8,8,8,8,8,8,8,8,8,8,8,8,8,8,8,8,8,8,8,8,8,8,8,8,8,8,8,8,8,8,8,8,8,8,8,8,8,8,8,8,8,8,8,8,8,8,8,8,8,8,8,8,8,8,8,8,8,8,8,8,8,8,8,8,8,8,8,8,8,8,8,8,8,8,8,8,8,8,8,8,8,8,8,8,8,8,8,8,8,8,8,8,8,8,8,8,8,8,8,8,8,8,8,8,8,8,8,8,8,8,8,8,8,8,8,8,8,8,8,8,8,8,8,8,8,8]⟩
theorem len_tab:∀ y:Fin 256,bt lenTab (y.val:Int)=(Sort.bitsLen y.val:Nat):=by decide +kernel
theorem lenTab_size:lenTab.size=256:=by kernel_rfl
theorem C148 {n:Nat} {hp:HP} {K:Value→HP→Prop} (hn:n≤65535) (h:∀ L:Nat,L≤16→n<2 ^ L→(0<n→2 ^ L≤2*n)→K (.int .i64 L) hp):CF Tryd.prog 148 [.int .u64 n] hp K:=by
  refine F148_ok n hp K ?_
  have tail:∀ (y o:Nat),y<256→o≤8→n<2 ^ (o+Sort.bitsLen y)→(0<n→2 ^ (o+Sort.bitsLen y)≤2*n)→F148_j3 y o hp K:=by
    intro y o hy ho h1 h2
    unfold F148_j3
    change (0≤(IntKind.wrap .u8 (y:Int)))∧((IntKind.wrap .u8 (y:Int))<(ByteArray.size lenTab:Nat))∧K (Value.int .i64 (IntKind.wrap .i64 ((o:Int)+IntKind.wrap .i64 (bt lenTab (IntKind.wrap .u8 (y:Int)))))) hp
    rw [wu8 (by omega) (by omega),lenTab_size]
    have:=len_tab ⟨y,hy⟩
    simp only at this
    rw [this]
    have hb:Sort.bitsLen y≤8:=(Sort.bitsLen_le_iff y 8).2 (by omega)
    rw [w64 (n:=((Sort.bitsLen y:Nat):Int)) (by omega) (by omega),w64 (by omega) (by omega)]
    refine ⟨by omega,by omega,?_⟩
    have e:(o:Int)+(Sort.bitsLen y:Nat)=((o+Sort.bitsLen y:Nat):Int):=by omega
    rw [e]
    exact h _ (by omega) h1 h2
  unfold F148
  rw [decide_eq_false (by omega:¬ (n:Int)≥4294967296),ite2_false]
  unfold F148_j1
  rw [decide_eq_false (by omega:¬ (n:Int)≥65536),ite2_false]
  unfold F148_j2
  by_cases h8:n≥256
  · rw [decide_eq_true (by omega:(n:Int)≥256),ite2_true]
    refine ⟨by omega,?_⟩
    have e1:Int.fdiv (n:Int) (2 ^ (min (Int.toNat 8) (IntKind.bits .u64)))=((n / 256:Nat):Int):=by
      show Int.fdiv (n:Int) 256=_
      rw [Int.fdiv_eq_ediv_of_nonneg _ (by omega)]; omega
    have e2:IntKind.wrap .i64 ((0:Int)+8)=((8:Nat):Int):=by rw [w64 (by omega) (by omega)]; rfl
    rw [e1,e2]
    have ha:=Sort.lt_two_pow_bitsLen (n / 256)
    have hb:=Sort.two_pow_bitsLen_le (n:=n / 256) (by omega)
    have hp:2 ^ (8+Sort.bitsLen (n / 256))=256*2 ^ Sort.bitsLen (n / 256):=by rw [Nat.pow_add]
    refine tail _ 8 (by omega) (by omega) (by rw [hp]; omega) (fun _=>by rw [hp]; omega)
  · rw [decide_eq_false (by omega:¬ (n:Int)≥256),ite2_false]
    refine tail n 0 (by omega) (by omega) ?_ ?_
    · rw [Nat.zero_add]; exact Sort.lt_two_pow_bitsLen n
    · intro h0; rw [Nat.zero_add]; exact Sort.two_pow_bitsLen_le h0
theorem C128 {n:Nat} {hp:HP} {K:Value→HP→Prop} (hn:n≤65535) (h:∀ L:Nat,L≤16→n<2 ^ L→(0<n→2 ^ L≤2*n)→K (.int .i64 L) hp):CF Tryd.prog 128 [.int .u64 n] hp K:=by
  refine F128_ok n hp K ?_
  unfold F128
  refine C148 hn fun L h1 h2 h3=>?_
  rw [intV_int]
  exact h L h1 h2 h3
theorem C169 {n:Nat} {hp:HP} {K:Value→HP→Prop} (hn:n≤65535) (h:∀ L:Nat,L≤16→n<2 ^ L→(0<n→2 ^ L≤2*n)→K (.int .u64 ((2 ^ L:Nat):Int)) hp):CF Tryd.prog 169 [.int .i64 n] hp K:=by
  refine F169_ok n hp K ?_
  unfold F169
  rw [wu64 (by omega) (by omega)]
  refine C128 hn fun L h1 h2 h3=>?_
  rw [intV_int]
  refine ⟨by omega,?_⟩
  have e:min (Int.toNat (L:Int)) (IntKind.bits .u64)=L:=by
    show min (Int.toNat (L:Int)) 64=L
    rw [Int.toNat_natCast]; omega
  have hle:2 ^ L≤2 ^ 16:=Nat.pow_le_pow_right (by omega) h1
  rw [e]
  have e2:(1:Int)*2 ^ L=((2 ^ L:Nat):Int):=by rw [Int.one_mul]; simp
  rw [e2,wu64 (by omega) (by omega)]
  exact h L h1 h2 h3
theorem C170 {r:Nat} {y:Int} {hp:HP} {K:Value→HP→Prop} (hr:hp r=.cells 247 [.int .u64 y] 0) (h:∀ z:Int,K (.int .u64 z) (hp.set r (.cells 247 [.int .u64 z] 0))):CF Tryd.prog 170 [.pointer (some ⟨r,0,none⟩)] hp K:=by
  refine F170_ok _ hp K ?_
  unfold F170
  have hc:∀ o,hp.cell r o=[Value.int .u64 y][o]?:=fun o=>HP.cell_of hr
  simp only [ptrN_some,hc,List.getElem?_cons_zero,ldV_some,intV_int]
  refine ⟨by omega,?_⟩
  refine HP.st_at hr (by simp) ?_
  simp only [List.set_cons_zero]
  generalize bxor .u64 y _=y2
  have hr2:(hp.set r (.cells 247 [.int .u64 y2] 0)) r=.cells 247 [.int .u64 y2] 0:=HP.set_eq ..
  have hc2:∀ o,(hp.set r (.cells 247 [.int .u64 y2] 0)).cell r o=[Value.int .u64 y2][o]?:=fun o=>HP.cell_of hr2
  simp only [hc2,List.getElem?_cons_zero,ldV_some,intV_int]
  refine ⟨by omega,?_⟩
  refine HP.st_at hr2 (by simp) ?_
  simp only [List.set_cons_zero,HP.set_set]
  generalize bxor .u64 y2 _=y3
  have hr3:(hp.set r (.cells 247 [.int .u64 y3] 0)) r=.cells 247 [.int .u64 y3] 0:=HP.set_eq ..
  have hc3:∀ o,(hp.set r (.cells 247 [.int .u64 y3] 0)).cell r o=[Value.int .u64 y3][o]?:=fun o=>HP.cell_of hr3
  simp only [hc3,List.getElem?_cons_zero,ldV_some,intV_int]
  refine ⟨by omega,?_⟩
  refine HP.st_at hr3 (by simp) ?_
  simp only [List.set_cons_zero,HP.set_set]
  generalize bxor .u64 y3 _=y4
  have hr4:(hp.set r (.cells 247 [.int .u64 y4] 0)) r=.cells 247 [.int .u64 y4] 0:=HP.set_eq ..
  have hc4:∀ o,(hp.set r (.cells 247 [.int .u64 y4] 0)).cell r o=[Value.int .u64 y4][o]?:=fun o=>HP.cell_of hr4
  simp only [hc4,List.getElem?_cons_zero,ldV_some,intV_int]
  exact h y4
end Go.Proofs
set_option linter.unusedVariables false
set_option maxRecDepth 20000
namespace Go.Proofs
open Go Go.HL
section
variable {f:FuncId} {ga gb:List Value} {hp0:HP} {b sp n c:Nat} {cf:Bd→Bd→Int}
end
end Go.Proofs
set_option linter.unusedVariables false
set_option maxRecDepth 20000
namespace Go.Proofs
open Go Go.HL
section
variable {f:FuncId} {ga gb:List Value} {hp0:HP} {b sp n c:Nat} {cf:Bd→Bd→Int}
end
end Go.Proofs
set_option linter.unusedVariables false
set_option maxRecDepth 20000
namespace Go.Proofs
open Go Go.HL
section
variable {f:FuncId} {ga gb:List Value} {hp0:HP} {b sp n c:Nat} {cf:Bd→Bd→Int}
end
end Go.Proofs
set_option linter.unusedVariables false
set_option maxRecDepth 20000
namespace Go.Proofs
open Go Go.HL
end Go.Proofs
set_option linter.unusedVariables false
set_option maxRecDepth 20000
namespace Go.Proofs
open Go Go.HL
section
variable {e:Env} {x0 x1:Int} {x5 x6:Bool} {hp:HP} {K:Env→PV→HP→Prop}
abbrev R101 (p n:Nat):=RW Tryd.prog 20 [] (opsAt Tryd.f101 (pth p)) (List.range n)
theorem F101_r0:R101 2 1 e V0 hp K=
 K (upd e 4 (sI 0)) V0 hp:= by kernel_rfl
theorem F101_r1:R101 5 3 (upd e 0 (sI x0)) V0 hp K=
 CF Tryd.prog 129 [(.int .i64 x0)] hp fun u1 h2=>(boolV u1 fun q3=>K (w4 e 0 (sI x0) 7 (sI x0) 8 (sB q3) 5 (sB q3)) V0 h2):= by kernel_rfl
theorem F101_r2:R101 11 3 (upd e 1 (sI x1)) V0 hp K=
 CF Tryd.prog 129 [(.int .i64 x1)] hp fun u1 h2=>(boolV u1 fun q3=>K (w4 e 1 (sI x1) 9 (sI x1) 10 (sB q3) 6 (sB q3)) V0 h2):= by kernel_rfl
theorem F101_r3:R101 39 1 (upd e 5 (sB x5)) V0 hp K=
 K (w2 e 5 (sB x5) 11 (sB x5)) V0 hp:= by kernel_rfl
theorem F101_r4:R101 279 1 (upd e 6 (sB x6)) V0 hp K=
 K (w2 e 6 (sB x6) 12 (sB x6)) V0 hp:= by kernel_rfl
theorem F101_r5:R101 1175 1 e V0 hp K=
 K (upd e 4 (sI 0)) V0 hp:= by kernel_rfl
theorem F101_r6:R101 343 1 e V0 hp K=
 K (upd e 4 (sI ((-1)))) V0 hp:= by kernel_rfl
theorem F101_r7:R101 79 1 (upd e 6 (sB x6)) V0 hp K=
 K (w2 e 6 (sB x6) 13 (sB x6)) V0 hp:= by kernel_rfl
theorem F101_r8:R101 303 1 e V0 hp K=
 K (upd e 4 (sI 1)) V0 hp:= by kernel_rfl
theorem F101_r9:R101 159 3 (w2 e 1 (sI x1) 0 (sI x0)) V0 hp K=
 K (w5 e 1 (sI x1) 0 (sI x0) 14 (sI x0) 15 (sI x1) 16 (sB (decide (x0<x1)))) V0 hp:= by kernel_rfl
theorem F101_r10:R101 607 1 e V0 hp K=
 K (upd e 4 (sI ((-1)))) V0 hp:= by kernel_rfl
theorem F101_r11:R101 319 3 (w2 e 1 (sI x1) 0 (sI x0)) V0 hp K=
 K (w5 e 1 (sI x1) 0 (sI x0) 17 (sI x0) 18 (sI x1) 19 (sB (decide (x0 > x1)))) V0 hp:= by kernel_rfl
theorem F101_r12:R101 1215 1 e V0 hp K=
 K (upd e 4 (sI 1)) V0 hp:= by kernel_rfl
theorem F101_r13:R101 383 1 e V0 hp K=
 K (upd e 4 (sI 0)) V0 hp:= by kernel_rfl
def F101 (x0 x1:Int) (hp:HP) (K:Kh):Prop:=
  (CF Tryd.prog 129 [(.int .i64 x0)] hp fun u1 h2=>boolV u1 fun q3=>CF Tryd.prog 129 [(.int .i64 x1)] h2 fun u4 h5=>boolV u4 fun q6=>ite2 q3 (ite2 q6 (K (.int .i64 0) h5) (K (.int .i64 (-1)) h5)) (ite2 q6 (K (.int .i64 1) h5) (ite2 (decide (x0<x1)) (K (.int .i64 (-1)) h5) (ite2 (decide (x0 > x1)) (K (.int .i64 1) h5) (K (.int .i64 0) h5)))))
noncomputable abbrev o101 (k n:Nat):Code:=.region k (opsAt Tryd.f101 (pth n)) false
noncomputable def F101_code:Code:=(.seq (o101 0 2) (.seq (o101 1 5) (.seq (o101 2 11) (.seq (.seq (o101 3 39) (.cond (.tmp 11) (.seq (.seq (o101 4 279) (.cond (.tmp 12) (.seq (o101 5 1175) .ret) .skip)) (.seq (o101 6 343) .ret)) .skip)) (.seq (.seq (o101 7 79) (.cond (.tmp 13) (.seq (o101 8 303) .ret) .skip)) (.seq (.seq (o101 9 159) (.cond (.tmp 16) (.seq (o101 10 607) .ret) .skip)) (.seq (.seq (o101 11 319) (.cond (.tmp 19) (.seq (o101 12 1215) .ret) .skip)) (.seq (o101 13 383) .ret))))))))
theorem F101_body:Tryd.f101.body=some F101_code:=by kernel_rfl
theorem F101_ok (x0 x1:Int) (hp:HP) (K:Kh) (h:F101 x0 x1 hp K):CF Tryd.prog 101 [(.int .i64 x0),(.int .i64 x1)] hp K:=by
 refine .inl ⟨by kernel_rfl,AC.intro (N:=20) Tryd.func101 F101_body rfl (Nat.le_of_ble_eq_true rfl) ?_⟩
 unfold F101 at h
 refine Ar F101_r0 ?_ (r2 0 1 Rn) (z2 Sn) Sn
 refine Ar F101_r1 ?_ (r2 0 1 Rn) (z2 Sn) Sn
 refine mC h fun u1 h2 h=>mB h fun q3 h=>?_
 refine Ar F101_r2 ?_ (r3 1 0 5 Rn) (z3 Sn) Sn
 refine mC h fun u4 h5 h=>mB h fun q6 h=>?_
 refine Aq (Ar F101_r3 ?_ (r4 5 0 1 6 Rn) (z4 Sn) Sn)
 refine Ac h rfl (fun h=>?_) (fun h=>?_)
 ·refine Aq (Ar F101_r4 ?_ (r1 6 Rn) (z1 Sn) Sn)
  refine Ac h rfl (fun h=>?_) (fun h=>?_)
  ·refine Ar F101_r5 ?_ Rn Sn Sn
   refine AWP.ret ?_
   exact h
  ·refine AWP.skip (Ar F101_r6 ?_ Rn Sn Sn)
   refine AWP.ret ?_
   exact h
 ·refine AWP.skip (Aq (Ar F101_r7 ?_ (r3 6 0 1 Rn) (z3 Sn) Sn))
  refine Ac h rfl (fun h=>?_) (fun h=>?_)
  ·refine Ar F101_r8 ?_ Rn Sn Sn
   refine AWP.ret ?_
   exact h
  ·refine AWP.skip (Aq (Ar F101_r9 ?_ (r2 0 1 Rn) (z2 Sn) Sn))
   refine Ac h rfl (fun h=>?_) (fun h=>?_)
   ·refine Ar F101_r10 ?_ Rn Sn Sn
    refine AWP.ret ?_
    exact h
   ·refine AWP.skip (Aq (Ar F101_r11 ?_ (r2 0 1 Rn) (z2 Sn) Sn))
    refine Ac h rfl (fun h=>?_) (fun h=>?_)
    ·refine Ar F101_r12 ?_ Rn Sn Sn
     refine AWP.ret ?_
     exact h
    ·refine AWP.skip (Ar F101_r13 ?_ Rn Sn Sn)
     refine AWP.ret ?_
     exact h
end
section
variable {e:Env} {x0:Int} {hp:HP} {K:Env→PV→HP→Prop}
abbrev R129 (p n:Nat):=RW Tryd.prog 6 [] (opsAt Tryd.f129 (pth p)) (List.range n)
theorem F129_r0:R129 2 1 e V0 hp K=
 K (upd e 2 (sB false)) V0 hp:= by kernel_rfl
theorem F129_r1:R129 5 4 (upd e 0 (sI x0)) V0 hp K=
 K (w5 e 0 (sI x0) 3 (sI x0) 4 (sI x0) 5 (sB ((x0 != x0))) 2 (sB ((x0 != x0)))) V0 hp:= by kernel_rfl
def F129 (x0:Int) (hp:HP) (K:Kh):Prop:=
  (K (.bool (x0 != x0)) hp)
noncomputable def F129_code:Code:=(.seq (.region 0 (opsAt Tryd.f129 (pth 2)) false) (.seq (.region 1 (opsAt Tryd.f129 (pth 5)) false) .ret))
theorem F129_body:Tryd.f129.body=some F129_code:=by kernel_rfl
theorem F129_ok (x0:Int) (hp:HP) (K:Kh) (h:F129 x0 hp K):CF Tryd.prog 129 [(.int .i64 x0)] hp K:=by
 refine .inl ⟨by kernel_rfl,AC.intro (N:=6) Tryd.func129 F129_body rfl (Nat.le_of_ble_eq_true rfl) ?_⟩
 unfold F129 at h
 refine Ar F129_r0 ?_ (r1 0 Rn) (z1 Sn) Sn
 refine Ar F129_r1 ?_ (r1 0 Rn) (z1 Sn) Sn
 refine AWP.ret ?_
 exact h
end
end Go.Proofs
set_option linter.unusedVariables false
set_option maxRecDepth 20000
namespace Go.Proofs
open Go Go.HL
section
variable {f:FuncId} {ga gb:List Value} {hp0:HP} {b sp n c:Nat} {cf:Sy→Sy→Int}
end
end Go.Proofs
set_option linter.unusedVariables false
set_option maxRecDepth 20000
namespace Go.Proofs
open Go Go.HL
section
variable {f:FuncId} {ga gb:List Value} {hp0:HP} {b sp n c:Nat} {cf:Sy→Sy→Int}
end
end Go.Proofs
set_option linter.unusedVariables false
set_option maxRecDepth 20000
namespace Go.Proofs
open Go Go.HL
section
variable {f:FuncId} {ga gb:List Value} {hp0:HP} {b sp n c:Nat} {cf:Sy→Sy→Int}
end
end Go.Proofs
set_option linter.unusedVariables false
set_option maxRecDepth 20000
namespace Go.Proofs
open Go Go.HL
section
variable {f:FuncId} {ga gb:List Value} {hp0:HP} {b sp n c:Nat} {cf:Sy→Sy→Int}
end
end Go.Proofs
set_option linter.unusedVariables false
set_option maxRecDepth 20000
namespace Go.Proofs
open Go Go.HL
section
variable {f:FuncId} {ga gb:List Value} {hp0:HP} {b sp n c:Nat} {cf:Sy→Sy→Int}
end
end Go.Proofs
set_option linter.unusedVariables false
set_option maxRecDepth 20000
namespace Go.Proofs
open Go Go.HL
section
variable {f:FuncId} {ga gb:List Value} {hp0:HP} {b sp n c:Nat} {cf:Sy→Sy→Int}
end
end Go.Proofs
set_option linter.unusedVariables false
set_option maxRecDepth 20000
namespace Go.Proofs
open Go Go.HL
section
variable {f:FuncId} {ga gb:List Value} {hp0:HP} {b sp n c:Nat} {cf:Sy→Sy→Int}
end
end Go.Proofs
set_option linter.unusedVariables false
namespace Go.HL
open Go
/-- The lesser first, of two numbers. -/
def cmpI (x y:Int):Int:=if x<y then -1 else if x > y then 1 else 0
theorem cmpI_lt {x y:Int}:decide (cmpI x y<0)=true↔x<y:=by
  unfold cmpI
  rw [decide_eq_true_iff]
  repeat' split
  all_goals omega
theorem cmpI_neg {x y:Int}:cmpI x y<0↔x<y:=by
  unfold cmpI
  repeat' split
  all_goals omega
theorem ltC_f {α:Type} (f:α→Int) (a b:α):(ltC (fun a b=>cmpI (f a) (f b)) a b=false)↔¬ (f a<f b):=by
  unfold ltC
  rw [decide_eq_false_iff_not]
  exact not_congr cmpI_neg
theorem swo_cmpI {α:Type} (f:α→Int):Sort.SWO (ltC fun a b=>cmpI (f a) (f b)) where
  irrefl x:=by
    have:¬ (ltC (fun a b=>cmpI (f a) (f b)) x x=true):=by unfold ltC; rw [cmpI_lt]; omega
    simpa using this
  trans x y z:=by unfold ltC; simp only [cmpI_lt]; omega
  ntrans x y z:=by
    have k:=ltC_f f
    rw [k,k,k]; omega
/-- In order by rising numbers: there is one way. -/
theorem order_eq {α:Type} {f:α→Int} {a b:List α} (ha:a.Pairwise (fun x y=>ltC (fun a b=>cmpI (f a) (f b)) y x=false)) (hb:(b.map f).Pairwise (· < ·)) (hp:a.Perm b):a=b:=by
  rw [List.pairwise_map] at hb
  have k:=ltC_f f
  have inj:∀ x∈b,∀ y∈b,f x=f y→x=y:=fun x hx y hy e=>by
    have hn:(b.map f).Nodup:=by
      unfold List.Nodup
      rw [List.pairwise_map]
      exact hb.imp fun h e=>by omega
    clear hb hp ha
    induction b with
    | nil=>cases hx
    | cons z b ih=>
      rw [List.map_cons,List.nodup_cons] at hn
      rcases List.mem_cons.1 hx with hx1 | hx1
      · rcases List.mem_cons.1 hy with hy1 | hy1
        · rw [hx1,hy1]
        · subst hx1; exact absurd (e▸List.mem_map.2 ⟨y,hy1,rfl⟩) hn.1
      · rcases List.mem_cons.1 hy with hy1 | hy1
        · subst hy1; exact absurd (e▸List.mem_map.2 ⟨x,hx1,rfl⟩) hn.1
        · exact ih hx1 hy1 hn.2
  refine List.Perm.eq_of_pairwise (le:=fun x y=>f x≤f y) (fun x y hx hy h1 h2=>inj x (hp.mem_iff.1 hx) y hy (by omega)) ?_ ?_ hp
  · refine ha.imp fun h=>?_
    rw [k] at h; omega
  · exact hb.imp fun h=>by omega
end Go.HL
set_option linter.unusedVariables false
set_option linter.unusedSimpArgs false
set_option maxRecDepth 20000
namespace Go.Proofs
open Go Go.HL
open Go.Exp (Th tlt Ord setW dropW insW)
theorem tupI_end (c:Value→Prop):tupI (.tuple #[.bool false]) 0 c=c (.bool false):=rfl
theorem tupI_go (a b:Value) (c:Value→Prop):tupI (.tuple #[.bool true,a,b]) 0 c=c (.bool true):=rfl
theorem tupI_snd (a b:Value) (c:Value→Prop):tupI (.tuple #[a,b]) 1 c=c b:=rfl
theorem C129 {x:Int} {hp:HP} {K:Value→HP→Prop} (h:K (.bool false) hp):CF Tryd.prog 129 [.int .i64 x] hp K:=by
  refine F129_ok x hp K ?_
  unfold F129
  simpa using h
theorem C101 {x y:Int} {hp:HP} {K:Value→HP→Prop} (h:K (.int .i64 (cmpI x y)) hp):CF Tryd.prog 101 [.int .i64 x,.int .i64 y] hp K:=by
  refine F101_ok x y hp K ?_
  unfold F101
  refine C129 ?_
  rw [boolV_bool]
  refine C129 ?_
  rw [boolV_bool,ite2_false,ite2_false]
  unfold cmpI at h
  by_cases h1:x<y
  · rw [if_pos h1] at h
    rw [decide_eq_true h1,ite2_true]; exact h
  rw [if_neg h1] at h
  rw [decide_eq_false h1,ite2_false]
  by_cases h2:x > y
  · rw [if_pos h2] at h
    rw [decide_eq_true h2,ite2_true]; exact h
  · rw [if_neg h2] at h
    rw [decide_eq_false h2,ite2_false]; exact h
section
variable {tb:Obj} {hq:HP} {s mx last:Nat} {L:List Sy} {w:List Th} {K:Value→HP→Prop}
end
end Go.Proofs
set_option linter.unusedVariables false
set_option linter.unusedSimpArgs false
set_option maxRecDepth 20000
namespace Go.Proofs
open Go Go.HL
section
variable {tb:Obj} {hq:HP} {t:Nat} {l:List Q} {low high:Int} {mx last n:Nat} {L:List Bd} {E:List (Bd × Nat)} {ps:Nat→HP} {m x o:Nat} {pl pm:Nat→Nat} {H:Nat→List ((Q × Int) × Bool)} {K:Value→HP→Prop}
end
end Go.Proofs
set_option linter.unusedVariables false
set_option linter.unusedSimpArgs false
set_option maxRecDepth 20000
namespace Go.Proofs
open Go Go.HL
section
variable {tb:Obj} {hp:HP} {ps:Nat→HP} {t:Nat} {l:List Q} {low high:Int} {mx last n:Nat} {L:List Bd} {K:Value→HP→Prop}
end
section
variable {tb:Obj} {hp0 hp:HP} {ps:Nat→HP} {t:Nat} {l:List Q} {low high:Int} {mx last n:Nat} {L:List Bd} {K:Value→HP→Prop}
end
end Go.Proofs
set_option linter.unusedVariables false
set_option linter.unusedSimpArgs false
set_option maxRecDepth 20000
namespace Go.Proofs
open Go Go.HL
open Go.Exp (Th tlt Ord setW dropW insW)
/-- The cells of the table itself. -/
def tabE (mx last:Nat) (m x q f:Nat):List Value:=[.int .i64 mx,.int .i64 last,.map (some m),ptr x 0,ptr q 0,.map (some f)]
/-- The main part. -/
structure SeM (tb:Obj) (h:HP) (s mx last:Nat) (E:List (Ss × Nat)) (m x q f:Nat):Prop where
  tab:h s=.cells 157 (tabE mx last m x q f) 0
  map:MapE iw (fun k:Nat=>ptr k 0) (E.map fun e=>(e.1.id,e.2)) (h m)
  blk:∀ e∈E,h e.2=.cells 79 (ssc e.1) 0
  dig:TabR tb h
def bi (x:Ss):Int × Int:=(x.bnd,x.id)
structure SeP (tb:Obj) (hq:HP) (s mx last:Nat) (E:List (Ss × Nat)) (ps:Nat→HP) (m x q f:Nat) (O:List (Int × Nat)) (w:List Th):Prop where
  parts:Parts hq ps
  main:SeM tb (ps 0) s mx last E m x q f
  idx:IdxR (ps 1) x mx ((E.map (·.1)).map fun y=>(y.key,y.id))
  que:QW (ps 2) q w
  of:OfO (ps 3) f O ((E.map (·.1)).map bi)
  qok:QOk Ss.id Ss.due (E.map (·.1)) w
  inv:InvE mx last (E.map (·.1))
def SeW (tb:Obj) (hq:HP) (s mx last:Nat) (L:List Ss) (w:List Th):Prop:=
  ∃ (E:List (Ss × Nat)) (ps:Nat→HP) (m x q f:Nat) (O:List (Int × Nat)),L=E.map (·.1)∧SeP tb hq s mx last E ps m x q f O w
section
variable {tb:Obj} {hq:HP} {s mx last:Nat} {L:List Ss} {E:List (Ss × Nat)} {ps:Nat→HP} {m x q f:Nat} {O:List (Int × Nat)} {w:List Th} {K:Value→HP→Prop}
theorem SeM.ms {h:HP} (hm:SeM tb h s mx last E m x q f):m≠s:=fun e=>by
  obtain ⟨es,clock,e1,_⟩:=hm.map
  rw [e,hm.tab] at e1; cases e1
theorem SeM.m0 {h:HP} (hm:SeM tb h s mx last E m x q f):m≠0:=fun e=>by
  obtain ⟨es,clock,e1,_⟩:=hm.map
  obtain ⟨g1,a,z,g2⟩:=hm.dig
  rw [e,g1,g2] at e1; cases e1
theorem SeM.s0 {h:HP} (hm:SeM tb h s mx last E m x q f):s≠0:=fun e=>by
  have:=hm.tab
  obtain ⟨g1,a,z,g2⟩:=hm.dig
  rw [e,g1] at this; cases this
theorem SeM.bs {h:HP} (hm:SeM tb h s mx last E m x q f) {e:Ss × Nat} (he:e∈E):e.2≠s:=fun e'=>by
  have:=hm.blk e he
  rw [e',hm.tab] at this; cases this
theorem SeM.bm {h:HP} (hm:SeM tb h s mx last E m x q f) {e:Ss × Nat} (he:e∈E):e.2≠m:=fun e'=>by
  have:=hm.blk e he
  obtain ⟨es,clock,e1,_⟩:=hm.map
  rw [e',e1] at this; cases this
theorem SeM.b0 {h:HP} (hm:SeM tb h s mx last E m x q f) {e:Ss × Nat} (he:e∈E):e.2≠0:=fun e'=>by
  have:=hm.blk e he
  obtain ⟨g1,a,z,g2⟩:=hm.dig
  rw [e',g1] at this; cases this
/-- What is read of the table. -/
theorem SeM.rd {A hp:HP} (hm:SeM tb A s mx last E m x q f) (hs:HSub A hp) :
    TabR tb hp∧hp.cell s 0=some (.int .i64 mx)∧hp.cell s 1=some (.int .i64 last)∧hp.cell s 2=some (.map (some m))∧hp.cell s 3=some (ptr x 0)∧hp.cell s 4=some (ptr q 0)∧hp.cell s 5=some (.map (some f)):=by
  have hc:=hs.cells hm.tab
  exact ⟨hm.dig.sub hs,HP.cell_of hc,HP.cell_of hc,HP.cell_of hc,HP.cell_of hc,HP.cell_of hc,HP.cell_of hc⟩
theorem SeP.sub {hp:HP} (h:SeP tb hq s mx last E ps m x q f O w) (hs:HSub hq hp):SeP tb hp s mx last E ps m x q f O w:=⟨h.parts.weak hs,h.main,h.idx,h.que,h.of,h.qok,h.inv⟩
theorem SeW.sub {hp:HP} (h:SeW tb hq s mx last L w) (hs:HSub hq hp):SeW tb hp s mx last L w:=by
  obtain ⟨E,ps,m,x,q,f,O,e,h⟩:=h
  exact ⟨E,ps,m,x,q,f,O,e,h.sub hs⟩
theorem SeW.inv (h:SeW tb hq s mx last L w):InvE mx last L:=by obtain ⟨E,ps,m,x,q,f,O,rfl,h⟩:=h; exact h.inv
theorem SeW.qok (h:SeW tb hq s mx last L w):QOk Ss.id Ss.due L w:=by obtain ⟨E,ps,m,x,q,f,O,rfl,h⟩:=h; exact h.qok
theorem SeW.tab (h:SeW tb hq s mx last L w):TabR tb hq:=by obtain ⟨E,ps,m,x,q,f,O,rfl,h⟩:=h; exact h.main.dig.sub (h.parts.sub 0)
theorem SeP.rd (h:SeP tb hq s mx last E ps m x q f O w):TabR tb hq∧hq.cell s 0=some (.int .i64 mx)∧hq.cell s 1=some (.int .i64 last)∧hq.cell s 2=some (.map (some m))∧hq.cell s 3=some (ptr x 0)∧hq.cell s 4=some (ptr q 0)∧hq.cell s 5=some (.map (some f)):=h.main.rd (h.parts.sub 0)
theorem SeP.mapq (h:SeP tb hq s mx last E ps m x q f O w):MapE iw (fun k:Nat=>ptr k 0) (E.map fun e=>(e.1.id,e.2)) (hq m):=h.main.map.sub (h.parts.sub 0)
theorem SeP.ids (h:SeP tb hq s mx last E ps m x q f O w):(E.map fun e=>e.1.id).Nodup:=by
  have:=h.inv.ids
  rwa [List.map_map] at this
theorem SeP.get (h:SeP tb hq s mx last E ps m x q f O w) (i:Int):getL i (E.map fun e=>(e.1.id,e.2))=(E.find? fun e=>decide (e.1.id=i)).map (·.2):=getL_mapK (fun e:Ss × Nat=>e.1.id) (fun e=>e.2) i E
theorem findEs (i:Int):∀ E:List (Ss × Nat),(E.find? fun e=>decide (e.1.id=i)).map (·.1)=findN i (E.map (·.1))
  | []=>rfl
  | e::E=>by
    unfold findN
    rw [List.map_cons,List.find?_cons,List.find?_cons]
    by_cases h:e.1.id=i
    · rw [decide_eq_true h]; rfl
    · rw [decide_eq_false h]; exact findEs i E
theorem findEs_none {i:Int} (h:findN i (E.map (·.1))=none):(E.find? fun e=>decide (e.1.id=i))=none:=by
  rw [← findEs] at h
  simpa using h
theorem findEs_some {i:Int} {b:Ss} (hb:findN i (E.map (·.1))=some b):∃ e,e∈E∧e.1=b∧b.id=i∧(E.find? fun e=>decide (e.1.id=i))=some e:=by
  rw [← findEs] at hb
  cases hf:E.find? fun e=>decide (e.1.id=i) with
  | none=>rw [hf] at hb; cases hb
  | some e=>
    rw [hf] at hb
    simp only [Option.map_some,Option.some.injEq] at hb
    obtain ⟨h1,h2⟩:=find_mem hf
    have:=of_decide_eq_true h2
    exact ⟨e,h1,hb,by rw [← hb]; exact this,rfl⟩
theorem C90p (h:SeP tb hq s mx last E ps m x q f O w) (hK:K (.bool false) hq):CF Tryd.prog 90 [ptr s 0] hq K:=by
  refine F90_ok _ hq K ?_
  unfold F90
  obtain ⟨_,_,_,r2,_⟩:=h.rd
  simp only [Option.isNone_some,ite2_false,ptrN_some,Nat.zero_add,r2,ldV_some,mapV_map]
  exact hK
set_option maxHeartbeats 2000000 in
theorem C91 {p:Int} {o:Q × Int} {hp:HP} (ht:TabR tb hp) (hp':okZ p) (ho:okZ o.2) (hK:K (.string (key4 p o)) hp):CF Tryd.prog 91 [.int .i64 p,.agg ⟨t4 o⟩] hp K:=by
  refine CF.drop (F91_ok p (t4 o) hp _ ?_)
  unfold F91
  intro b1 hb1
  have ht2:TabR tb (hp.set b1 (.cells 34 (t4 o) 0)):=ht.set hb1 _
  have hs2:HSub hp (hp.set b1 (.cells 34 (t4 o) 0)):=HSub.set_fresh hp _ hb1
  have x1:(hp.set b1 (.cells 34 (t4 o) 0)) b1=.cells 34 (t4 o) 0:=HP.set_eq ..
  generalize hp.set b1 (.cells 34 (t4 o) 0)=hp2 at *
  have y1:hp2.cell b1 4=some (.int .i64 o.2):=HP.cell_of x1
  have z1:hp2.cellN b1 0 4=some ((qi o.1).map (Value.int .u8)):=by rw [HP.cellN_of x1]; rfl
  have i1:=itS_size ho
  have i2:=itS_size hp'
  have b1s:(byS (bs o.1)).size=4:=rfl
  have e32:(⟨#[32]⟩:ByteArray).size=1:=rfl
  have c1:∀ {K:Value→HP→Prop},K (.string (itS o.2)) hp2→CF Tryd.prog 116 [.int .i64 o.2] hp2 K:=fun h=>C116 ht2 ho h
  have c2:∀ {K:Value→HP→Prop},K (.string (itS p)) hp2→CF Tryd.prog 116 [.int .i64 p] hp2 K:=fun h=>C116 ht2 hp' h
  have r1:∀ {c:Value→Prop},c (.string (byS (bs o.1)))→rdS Tryd.prog (convert 199 9 (.slice (some ⟨b1,0,none⟩) 4 4)) hp2 c:=fun h=>rdS_bytes (e:=5) (by kernel_rfl) (by kernel_rfl) (by kernel_rfl) rfl z1 h
  have fin:∃ hp'',HSub hp'' hp2∧K (.string ((((itS p++(⟨#[32]⟩:ByteArray))++itS o.2)++(⟨#[32]⟩:ByteArray))++byS (bs o.1))) hp'':=⟨hp,hs2,by rw [keyA_app]; exact hK⟩
  clear x1 z1 ht2 ht hs2 hb1 hK
  generalize itS o.2=s1 at *
  generalize itS p=s2 at *
  generalize byS (bs o.1)=s3 at *
  simp only [ptrN_some,Nat.zero_add,y1,ldV_some,intV_int]
  repeat' apply And.intro
  all_goals repeat (first
    | exact fin
    | (refine c1 ?_; rw [strV_string])
    | (refine c2 ?_; rw [strV_string])
    | (refine r1 ?_; rw [strV_string])
    | (refine ⟨by first | omega | (simp only [str_app]; omega),?_⟩)
    | (simp only [y1,ldV_some,intV_int,ptrN_some,Nat.zero_add])
    | omega
    | (simp only [str_app]; omega))
theorem SeP.found (h:SeP tb hq s mx last E ps m x q f O w) {b:Int} {p:Q × Int} (hp:okT p):getL (key4 b p) ((E.map (·.1)).map fun y=>(y.key,y.id))=(findK b p (E.map (·.1))).map (·.id):=by
  rw [getL_mapK Ss.key Ss.id,findK_key h.inv hp]
theorem W57 (h:SeW tb hq s mx last L w) {b:Int} {p:Q × Int} (hb:okZ b) (hp:okT p) (hK:K (.tuple ⟨[.agg ⟨ssc ((findK b p L).getD ss0)⟩,.bool (findK b p L).isSome]⟩) hq):CF Tryd.prog 57 [ptr s 0,.int .i64 b,.agg ⟨t4 p⟩] hq K:=by
  obtain ⟨E,ps,m,x,q,f,O,rfl,h⟩:=h
  refine F57_ok _ b (t4 p) hq K ?_
  unfold F57
  refine C90p h ?_
  obtain ⟨rt,_,_,r2,r3,_⟩:=h.rd
  rw [boolV_bool,ite2_false]
  have main:F57_j1 (some ⟨s,0,none⟩) (((findK b p (E.map (·.1))).map (·.id)).getD 0) ((findK b p (E.map (·.1))).map (·.id)).isSome (ssc ss0) hq K:=by
    unfold F57_j1
    cases hf:findK b p (E.map (·.1)) with
    | none=>
      rw [hf] at hK
      show ite2 true _ _
      rw [ite2_true]
      exact ifI rfl (ifI rfl (ifI (Nat.le_refl 9) hK))
    | some y=>
      rw [hf] at hK
      obtain ⟨hy,_⟩:=findK_mem hf
      obtain ⟨e,he,rfl,_,hfe⟩:=findEs_some (findN_of h.inv hy)
      show ite2 false _ _
      simp only [ite2_false,ptrN_some,Nat.zero_add,r2,ldV_some,mapV_map]
      refine rdS_lookup (l:=E.map fun e=>(e.1.id,e.2)) u154 enc3 zw158 h.mapq e.1.id (ev:=fun k:Nat=>ptr k 0) (cm:=false) ?_
      rw [h.get,hfe]
      show ptrV (ptr e.2 0) _
      rw [pq,ptrN_some,HP.cellN_of ((h.parts.sub 0).cells (h.main.blk e he)),ssc_cells,ldL_some]
      rw [if_pos (ssc_len _),if_pos (ssc_one _),if_pos (by simp [ssc_len]),ss_spl (ssc_len _),ssc_cells,ldL_some]
      exact hK
  constructor
  all_goals
    simp only [ptrN_some,Nat.zero_add,r3,ldV_some,pq,t4_cells,ldL_some]
    refine C91 rt hb hp.2 ?_
    simp only [strV_string,ptrN_some,Nat.zero_add,r3,ldV_some,pq]
    refine C84 (h.idx.sub (h.parts.sub 1)) ?_
    rw [h.found hp]
    simp only [tup2V_mk,intV_int,boolV_bool]
    exact main
/-- What Room answers. -/
def roomE (mx:Nat) (b:Int) (p:Q × Int) (L:List Ss):Int:=if (findK b p L).isSome then 5 else if L.length≥mx then 6 else 0
theorem P58 (h:SeP tb hq s mx last E ps m x q f O w) {b:Int} {p:Q × Int} (hb:okZ b) (hp:okT p) (hK:K (.int .i64 (roomE mx b p (E.map (·.1)))) hq):CF Tryd.prog 58 [ptr s 0,.int .i64 b,.agg ⟨t4 p⟩] hq K:=by
  refine F58_ok _ b (t4 p) hq K ?_
  unfold F58
  refine C90p h ?_
  obtain ⟨rt,r0,_,r2,r3,_⟩:=h.rd
  rw [boolV_bool,ite2_false]
  have main:F58_j1 (some ⟨s,0,none⟩) ((findK b p (E.map (·.1))).map (·.id)).isSome hq K:=by
    unfold F58_j1
    cases hf:findK b p (E.map (·.1)) with
    | some y=>
      show ite2 true _ _
      rw [ite2_true]
      rw [show roomE mx b p (E.map (·.1))=5 from by unfold roomE; rw [hf]; rfl] at hK
      exact hK
    | none=>
      show ite2 false _ _
      rw [ite2_false]
      have fin:F58_j2 (decide ((((E.map (·.1)).length:Nat):Int)≥(mx:Nat))) hq K:=by
        unfold F58_j2
        by_cases c4:(E.map (·.1)).length≥mx
        · rw [decide_eq_true (by omega),ite2_true]
          rw [show roomE mx b p (E.map (·.1))=6 from by unfold roomE; rw [hf,if_neg (by simp),if_pos c4]] at hK
          exact hK
        · rw [decide_eq_false (by omega),ite2_false]
          rw [show roomE mx b p (E.map (·.1))=0 from by unfold roomE; rw [hf,if_neg (by simp),if_neg c4]] at hK
          exact hK
      have hlen:∀ {c:Value→Prop},c (.int .i64 ((E.map (·.1)).length:Nat))→rdS Tryd.prog (Builtin.len_ #[154] 3 #[.map (some m)]) hq c:=fun hc=>by
        refine rdS_mapLen u154 h.mapq ?_
        rw [List.length_map] at hc ⊢
        exact hc
      constructor
      · simp only [ptrN_some,Nat.zero_add,r2,ldV_some,mapV_map]
        refine hlen ?_
        simp only [intV_int,r0,ldV_some]
        exact fin
      · simp only [ptrN_some,Nat.zero_add,r2,r0,ldV_some,mapV_map,intV_int]
        refine hlen ?_
        rw [intV_int]
        exact fin
  constructor
  all_goals
    simp only [ptrN_some,Nat.zero_add,r3,ldV_some,pq,t4_cells,ldL_some]
    refine C91 rt hb hp.2 ?_
    simp only [strV_string,ptrN_some,Nat.zero_add,r3,ldV_some,pq]
    refine C84 (h.idx.sub (h.parts.sub 1)) ?_
    rw [h.found hp]
    simp only [tup2V_mk,intV_int,boolV_bool]
    exact main
set_option maxHeartbeats 1000000 in
/-- New. -/
theorem W41 {n:Int} {hq:HP} (ht:TabR tb hq) (hbad:(n<1∨n > 65536)→K (.tuple ⟨[.pointer none,.int .i64 1]⟩) hq)
    (hok:¬ (n<1∨n > 65536)→∀ s hq',SeW tb hq' s n.toNat 0 [] []→K (.tuple ⟨[ptr s 0,.int .i64 0]⟩) hq'):CF Tryd.prog 41 [.int .i64 n] hq K:=by
  refine F41_ok n hq K ?_
  unfold F41
  refine N66 (Parts.one (HSub.refl hq)) 1 (fun b=>by rw [pu_ne _ _ (by omega)]) (fun hm=>?_) (fun hm x l hp1 hl P1 hs1=>?_)
  · simp only [tup2V_mk,intV_int]
    rw [ptrV_pointer]
    show ite2 true _ _
    rw [ite2_true]
    exact hbad hm
  · rw [tup2V_mk,pq,intV_int]
    show ite2 false _ _
    rw [ite2_false]
    refine fun (b:Nat) (hb:hp1 b=Ent.none)=>?_
    have P2:=P1.new 0 hb (.obj (.map #[] 0))
    refine N82 P2 2 (fun b'=>by rw [pu_ne _ _ (by omega),pu_ne _ _ (by omega),pu_ne _ _ (by omega)]) fun q lq hp2 hlq P3 hs2=>?_
    rw [pq]
    refine fun (f:Nat) (hf:hp2 f=Ent.none)=>?_
    have P4:=P3.new 3 hf (.obj (.map #[] 0))
    refine fun (s:Nat) (hs:(hp2.set f (.obj (.map #[] 0))) s=Ent.none)=>?_
    have P5:=P4.new 0 hs (.cells 157 [.int .i64 n,.int .i64 0,.map (some b),.pointer (some ⟨x,0,none⟩),.pointer (some ⟨q,0,none⟩),.map (some f)] 0)
    have hsf:s≠f:=fun e=>by rw [e,HP.set_eq] at hs; cases hs
    rw [HP.set_ne _ _ hsf] at hs
    have hsb:s≠b:=fun e=>by
      have h1:=(hs2.obj (b:=b) (HP.set_eq ..))
      rw [← e,hs] at h1; cases h1
    have hb0:b≠0:=fun e=>by
      have:=(P1.sub 0).obj (b:=0) (by rw [pu_ne _ _ (by omega),pu_eq]; exact ht.1)
      rw [e,this] at hb; cases hb
    have hs0:s≠0:=fun e=>by
      have h1:=(P1.sub 0).obj (b:=0) (by rw [pu_ne _ _ (by omega),pu_eq]; exact ht.1)
      have h2:=hs2.obj (b:=0) (o:=tb) (by rw [HP.set_ne _ _ (fun e=>hb0 e.symm)]; exact h1)
      rw [e,h2] at hs; cases hs
    obtain ⟨k,rfl⟩:∃ k:Nat,n=k:=⟨n.toNat,by omega⟩
    refine hok hm s _ ⟨[],_,b,x,q,f,[],rfl,P5,?_,?_,?_,?_,QOk.nil,InvE.nil (by omega)⟩
    · rw [pu_eq,pu_ne _ _ (by omega),pu_ne _ _ (by omega),pu_eq]
      refine ⟨?_,?_,fun e he=>absurd he (by simp),?_⟩
      · rw [HP.set_eq]; rfl
      · rw [HP.set_ne _ _ hsb.symm,HP.set_eq]; exact MapE.empty _ _
      · rw [pu_ne _ _ (by omega),pu_eq]
        exact (ht.set_other hb0 _).set_other hs0 _
    · rw [pu_ne _ _ (by omega),pu_ne _ _ (by omega),pu_ne _ _ (by omega),pu_ne _ _ (by omega),pu_eq]; exact hl
    · rw [pu_ne _ _ (by omega),pu_ne _ _ (by omega),pu_eq]; exact hlq
    · rw [pu_ne _ _ (by omega),pu_eq,pu_ne _ _ (by omega),pu_ne _ _ (by omega),pu_ne _ _ (by omega),pu_ne _ _ (by omega)]
      exact OfO.nil (HP.set_eq ..)
end
end Go.Proofs
set_option linter.unusedVariables false
set_option maxRecDepth 20000
namespace Go.Proofs
open Go Go.HL
section
variable {e E:Env} {x0:OA} {x1:Int} {x2:List Value} {x4 x12:Int} {x13:OA} {k7 k10:List Value} {hp:HP} {K:Env→PV→HP→Prop}
abbrev R42 (p n:Nat):=RW Tryd.prog 96 [7,10] (opsAt Tryd.f42 (pth p)) (List.range n)
theorem F42_r0:R42 2 3 (upd e 2 (sA x2)) V0 hp K=
 K (w4 e 2 (sA x2) 7 (sR 7 0) 10 (sR 10 0) 11 (sI 0)) (w2 V0 7 (34,x2) 10 (79,[.int .i64 0,.int .i64 0,.int .u8 0,.int .u8 0,.int .u8 0,.int .u8 0,.int .i64 0,.int .i64 0,.int .i64 0])) hp:= by kernel_rfl
theorem F42_r1:R42 37 3 (upd e 10 (sR 10 0)) (upd V0 10 (79,k10)) hp K=
    (if List.length [(Value.int .i64 0),.int .i64 0,.int .u8 0,.int .u8 0,.int .u8 0,.int .u8 0,.int .i64 0,.int .i64 0,.int .i64 0]=9 then (if List.all [(Value.int .i64 0),.int .i64 0,.int .u8 0,.int .u8 0,.int .u8 0,.int .u8 0,.int .i64 0,.int .i64 0,.int .i64 0] one=true then (if 0+List.length [(Value.int .i64 0),.int .i64 0,.int .u8 0,.int .u8 0,.int .u8 0,.int .u8 0,.int .i64 0,.int .i64 0,.int .i64 0]≤List.length k10 then (K (w3 e 10 (sR 10 0) 25 (sV (.agg ⟨[.int .i64 0,.int .i64 0,.int .u8 0,.int .u8 0,.int .u8 0,.int .u8 0,.int .i64 0,.int .i64 0,.int .i64 0]⟩)) 11 (sI 1)) (w2 V0 10 (79,k10) 10 (79,(splice k10 0 [.int .i64 0,.int .i64 0,.int .u8 0,.int .u8 0,.int .u8 0,.int .u8 0,.int .i64 0,.int .i64 0,.int .i64 0]))) hp) else False) else False) else False):=by kernel_rfl
theorem F42_r2 (h:E=upd (w2 e 7 (sR 7 0) 1 (sI x1)) 0 (sP x0)):R42 19 5 E (w2 V0 10 (79,k10) 7 (34,k7)) hp K=
 ldL (cellsN k7 0 5) fun l1=>(CF Tryd.prog 58 [(.pointer x0),(.int .i64 x1),(.agg ⟨l1⟩)] hp fun u2 h3=>intV u2 .i64 fun i4=>K (w5 E 26 (sP x0) 27 (sI x1) 28 (sA l1) 29 (sI i4) 12 (sI i4)) (w2 V0 10 (79,k10) 7 (34,k7)) h3):= by subst h; kernel_rfl
theorem F42_r3:R42 43 2 (upd e 12 (sI x12)) (w2 V0 10 (79,k10) 7 (34,k7)) hp K=
 K (w3 e 12 (sI x12) 30 (sI x12) 31 (sB ((x12 != 0)))) (w2 V0 10 (79,k10) 7 (34,k7)) hp:= by kernel_rfl
theorem F42_r4:R42 155 4 (w2 e 12 (sI x12) 10 (sR 10 0)) (upd V0 10 (79,k10)) hp K=
    (if List.length [(Value.int .i64 0),.int .i64 0,.int .u8 0,.int .u8 0,.int .u8 0,.int .u8 0,.int .i64 0,.int .i64 0,.int .i64 0]=9 then (if List.all [(Value.int .i64 0),.int .i64 0,.int .u8 0,.int .u8 0,.int .u8 0,.int .u8 0,.int .i64 0,.int .i64 0,.int .i64 0] one=true then (if 0+List.length [(Value.int .i64 0),.int .i64 0,.int .u8 0,.int .u8 0,.int .u8 0,.int .u8 0,.int .i64 0,.int .i64 0,.int .i64 0]≤List.length k10 then (K (w5 e 12 (sI x12) 10 (sR 10 0) 32 (sV (.agg ⟨[.int .i64 0,.int .i64 0,.int .u8 0,.int .u8 0,.int .u8 0,.int .u8 0,.int .i64 0,.int .i64 0,.int .i64 0]⟩)) 33 (sI x12) 11 (sI x12)) (w2 V0 10 (79,k10) 10 (79,(splice k10 0 [.int .i64 0,.int .i64 0,.int .u8 0,.int .u8 0,.int .u8 0,.int .u8 0,.int .i64 0,.int .i64 0,.int .i64 0]))) hp) else False) else False) else False):=by kernel_rfl
theorem F42_r5:R42 23 8 (upd e 0 (sP x0)) (w2 V0 10 (79,k10) 7 (34,k7)) hp K=
 ptrN x0 fun b1 o2=>(ldV (HP.cell hp b1 (o2+1)) fun v3=>intV v3 .i64 fun i4=>ptrN x0 fun b5 o6=>HP.st hp b5 (o6+1) (.int .i64 (wr (i4+1))) fun h7=>K (w8 e 0 (sP x0) 34 (sP x0) 35 (sQ b1 o2) 36 (sQ b1 (o2+1)) 37 (sI i4) 38 (sI ((wr (i4+1)))) 39 (sQ b5 o6) 40 (sQ b5 (o6+1))) (w2 V0 10 (79,k10) 7 (34,k7)) h7):= by kernel_rfl
theorem F42_r6:R42 95 7 (w2 e 13 (sP x13) 0 (sP x0)) (w2 V0 10 (79,k10) 7 (34,k7)) hp K=
 ptrN x0 fun b1 o2=>(ldV (HP.cell hp b1 (o2+2)) fun v3=>mapV v3 fun m4=>ptrN x13 fun b5 o6=>ldV (HP.cell hp b5 (o6+0)) fun v7=>intV v7 .i64 fun i8=>opS Tryd.prog (Instr.mapUpdate 154 (.map m4) (.int .i64 i8) (.pointer x13)) hp fun u9 h10=>K (w8 e 13 (sP x13) 0 (sP x0) 50 (sP x0) 51 (sQ b1 o2) 52 (sQ b1 (o2+2)) 53 (sV (.map m4)) 54 (sQ b5 (o6+0)) 55 (sI i8)) (w2 V0 10 (79,k10) 7 (34,k7)) h10):= by kernel_rfl
theorem F42_r7 (h:E=upd (w2 e 13 (sP x13) 4 (sI x4)) 0 (sP x0)):R42 383 8 E (upd V0 10 (79,k10)) hp K=
 ptrN x0 fun b1 o2=>(ldV (HP.cell hp b1 (o2+4)) fun v3=>ptrV v3 fun p4=>ptrN x13 fun b5 o6=>ldV (HP.cell hp b5 (o6+0)) fun v7=>intV v7 .i64 fun i8=>CF Tryd.prog 87 [(.pointer p4),(.int .i64 i8),(.int .i64 x4)] hp fun u9 h10=>intV u9 .i64 fun i11=>K (w8 E 66 (sP x0) 67 (sQ b1 o2) 68 (sQ b1 (o2+4)) 69 (sP p4) 70 (sQ b5 (o6+0)) 71 (sI i8) 72 (sI x4) 73 (sI i11)) (upd V0 10 (79,k10)) h10):= by subst h; kernel_rfl
theorem F42_r8 (h:E=upd (w2 e 13 (sP x13) 1 (sI x1)) 0 (sP x0)):R42 1535 9 E (upd V0 10 (79,k10)) hp K=
 ptrN x0 fun b1 o2=>(ldV (HP.cell hp b1 (o2+5)) fun v3=>mapV v3 fun m4=>rdS Tryd.prog (Instr.lookup 155 (.map m4) (.int .i64 x1) false) hp fun u5=>mapV u5 fun m6=>ptrN x13 fun b7 o8=>ldV (HP.cell hp b7 (o8+0)) fun v9=>intV v9 .i64 fun i10=>opS Tryd.prog (Instr.mapUpdate 160 (.map m6) (.int .i64 i10) (.bool true)) hp fun u11 h12=>K (w8 E 87 (sP x0) 88 (sQ b1 o2) 89 (sQ b1 (o2+5)) 90 (sV (.map m4)) 91 (sI x1) 92 (sV (.map m6)) 93 (sQ b7 (o8+0)) 94 (sI i10)) (upd V0 10 (79,k10)) h12):= by subst h; kernel_rfl
theorem F42_r9:R42 3071 3 (w2 e 13 (sP x13) 10 (sR 10 0)) (upd V0 10 (79,k10)) hp K=
 ptrN x13 fun b1 o2=>(ldL (HP.cellN hp b1 o2 9) fun l3=>if List.length l3=9 then (if List.all l3 one=true then (if 0+List.length l3≤List.length k10 then (K (w4 e 13 (sP x13) 10 (sR 10 0) 95 (sA l3) 11 (sI 0)) (w2 V0 10 (79,k10) 10 (79,(splice k10 0 l3))) hp) else False) else False) else False):= by kernel_rfl
def F42_j4 (x0:OA) (x1:Int) (x13:OA) (k10:List Value) (hp:HP) (K:Kh):Prop:=
  (ptrN x0 fun b35 o36=>ldV (HP.cell hp b35 (o36+5)) fun v37=>mapV v37 fun m38=>rdS Tryd.prog (Instr.lookup 155 (.map m38) (.int .i64 x1) false) hp fun u39=>mapV u39 fun m40=>ptrN x13 fun b41 o42=>ldV (HP.cell hp b41 (o42+0)) fun v43=>intV v43 .i64 fun i44=>opS Tryd.prog (Instr.mapUpdate 160 (.map m40) (.int .i64 i44) (.bool true)) hp fun u45 h46=>ptrN x13 fun b47 o48=>ldL (HP.cellN h46 b47 o48 9) fun l49=>if List.length l49=9 then (if List.all l49 one=true then (if 0+List.length l49≤List.length k10 then (ldL (cellsN (splice k10 0 l49) 0 9) fun l50=>K (.tuple ⟨[(.agg ⟨l50⟩),.int .i64 0]⟩) h46) else False) else False) else False)
theorem F42_r10:R42 1279 7 (w2 e 1 (sI x1) 0 (sP x0)) (upd V0 10 (79,k10)) hp K=
 ptrN x0 fun b1 o2=>(ldV (HP.cell hp b1 (o2+5)) fun v3=>mapV v3 fun m4=>rdS Tryd.prog (Instr.lookup 155 (.map m4) (.int .i64 x1) false) hp fun u5=>mapV u5 fun m6=>K (upd (w8 e 1 (sI x1) 0 (sP x0) 74 (sP x0) 75 (sQ b1 o2) 76 (sQ b1 (o2+5)) 77 (sV (.map m4)) 78 (sI x1) 79 (sV (.map m6))) 80 (sB ((Option.isNone m6)))) (upd V0 10 (79,k10)) hp):= by kernel_rfl
theorem F42_r11:R42 2815 7 (w2 e 1 (sI x1) 0 (sP x0)) (upd V0 10 (79,k10)) hp K=
 ptrN x0 fun b1 o2=>(ldV (HP.cell hp b1 (o2+5)) fun v3=>mapV v3 fun m4=>∀ b5:Nat,hp b5=.none→(opS Tryd.prog (Instr.mapUpdate 155 (.map m4) (.int .i64 x1) (.map (some b5))) (HP.set hp b5 (.obj (.map #[] 0))) fun u6 h7=>K (w8 e 1 (sI x1) 0 (sP x0) 81 (sP x0) 82 (sQ b1 o2) 83 (sQ b1 (o2+5)) 84 (sV (.map m4)) 85 (sI x1) 86 (sV (.map (some b5)))) (upd V0 10 (79,k10)) h7)):= by kernel_rfl
def F42_j3 (x0:OA) (x1 x4:Int) (x13:OA) (k10:List Value) (hp:HP) (K:Kh):Prop:=
  (ptrN x0 fun b24 o25=>ldV (HP.cell hp b24 (o25+4)) fun v26=>ptrV v26 fun p27=>ptrN x13 fun b28 o29=>ldV (HP.cell hp b28 (o29+0)) fun v30=>intV v30 .i64 fun i31=>CF Tryd.prog 87 [(.pointer p27),(.int .i64 i31),(.int .i64 x4)] hp fun u32 h33=>intV u32 .i64 fun i34=>ptrN x0 fun b51 o52=>ldV (HP.cell h33 b51 (o52+5)) fun v53=>mapV v53 fun m54=>rdS Tryd.prog (Instr.lookup 155 (.map m54) (.int .i64 x1) false) h33 fun u55=>mapV u55 fun m56=>ite2 (Option.isNone m56) (ptrN x0 fun b57 o58=>ldV (HP.cell h33 b57 (o58+5)) fun v59=>mapV v59 fun m60=>∀ b61:Nat,h33 b61=.none→(opS Tryd.prog (Instr.mapUpdate 155 (.map m60) (.int .i64 x1) (.map (some b61))) (HP.set h33 b61 (.obj (.map #[] 0))) fun u62 h63=>F42_j4 x0 x1 x13 k10 h63  K)) (F42_j4 x0 x1 x13 k10 h33  K))
theorem F42_r12 {e:Env} {x0:OA} {x1:Int} {x13:OA} {k7:List Value} {k10:List Value} {hp:HP} {K:Env→PV→HP→Prop}:RW Tryd.prog 96 [7,10] (opsAt Tryd.f42 (pth 191)) [0,1,2,3,4,5,6,7,8,9] (w4 e 13 (sP x13) 7 (sR 7 0) 1 (sI x1) 0 (sP x0)) (w2 V0 10 (79,k10) 7 (34,k7)) hp K=
 ptrN x0 fun b1 o2=>(ldV (HP.cell hp b1 (o2+3)) fun v3=>ptrV v3 fun p4=>ldL (cellsN k7 0 5) fun l5=>CF Tryd.prog 91 [(.int .i64 x1),(.agg ⟨l5⟩)] hp fun u6 h7=>strV u6 fun s8=>ptrN x13 fun b9 o10=>ldV (HP.cell h7 b9 (o10+0)) fun v11=>intV v11 .i64 fun i12=>CF Tryd.prog 86 [(.pointer p4),(.string s8),(.int .i64 i12)] h7 fun u13 h14=>intV u13 .i64 fun i15=>K (w6 (w8 e 13 (sP x13) 7 (sR 7 0) 1 (sI x1) 0 (sP x0) 56 (sP x0) 57 (sQ b1 o2) 58 (sQ b1 (o2+3)) 59 (sP p4)) 60 (sI x1) 61 (sA l5) 62 (sT s8) 63 (sQ b9 (o10+0)) 64 (sI i12) 65 (sI i15)) (w2 V0 10 (79,k10) 7 (34,k7)) h14):= by kernel_rfl
theorem F42_r13 {e:Env} {x0:OA} {x1:Int} {x13:OA} {k7:List Value} {k10:List Value} {hp:HP} {K:Env→PV→HP→Prop}:RW Tryd.prog 96 [7,10] (opsAt Tryd.f42 (pth 191)) [0,1,2,3,4,5,7,8,6,9] (w4 e 13 (sP x13) 7 (sR 7 0) 1 (sI x1) 0 (sP x0)) (w2 V0 10 (79,k10) 7 (34,k7)) hp K=
 ptrN x0 fun b1 o2=>(ldV (HP.cell hp b1 (o2+3)) fun v3=>ptrV v3 fun p4=>ldL (cellsN k7 0 5) fun l5=>ptrN x13 fun b6 o7=>ldV (HP.cell hp b6 (o7+0)) fun v8=>intV v8 .i64 fun i9=>CF Tryd.prog 91 [(.int .i64 x1),(.agg ⟨l5⟩)] hp fun u10 h11=>strV u10 fun s12=>CF Tryd.prog 86 [(.pointer p4),(.string s12),(.int .i64 i9)] h11 fun u13 h14=>intV u13 .i64 fun i15=>K (w6 (w8 e 13 (sP x13) 7 (sR 7 0) 1 (sI x1) 0 (sP x0) 56 (sP x0) 57 (sQ b1 o2) 58 (sQ b1 (o2+3)) 59 (sP p4)) 60 (sI x1) 61 (sA l5) 63 (sQ b6 (o7+0)) 64 (sI i9) 62 (sT s12) 65 (sI i15)) (w2 V0 10 (79,k10) 7 (34,k7)) h14):= by kernel_rfl
theorem F42_r14 {e:Env} {x0:OA} {x1:Int} {x13:OA} {k7:List Value} {k10:List Value} {hp:HP} {K:Env→PV→HP→Prop}:RW Tryd.prog 96 [7,10] (opsAt Tryd.f42 (pth 191)) [0,1,2,4,5,6,3,7,8,9] (w4 e 13 (sP x13) 7 (sR 7 0) 1 (sI x1) 0 (sP x0)) (w2 V0 10 (79,k10) 7 (34,k7)) hp K=
 ptrN x0 fun b1 o2=>(ldL (cellsN k7 0 5) fun l3=>CF Tryd.prog 91 [(.int .i64 x1),(.agg ⟨l3⟩)] hp fun u4 h5=>strV u4 fun s6=>ldV (HP.cell h5 b1 (o2+3)) fun v7=>ptrV v7 fun p8=>ptrN x13 fun b9 o10=>ldV (HP.cell h5 b9 (o10+0)) fun v11=>intV v11 .i64 fun i12=>CF Tryd.prog 86 [(.pointer p8),(.string s6),(.int .i64 i12)] h5 fun u13 h14=>intV u13 .i64 fun i15=>K (w6 (w8 e 13 (sP x13) 7 (sR 7 0) 1 (sI x1) 0 (sP x0) 56 (sP x0) 57 (sQ b1 o2) 58 (sQ b1 (o2+3)) 60 (sI x1)) 61 (sA l3) 62 (sT s6) 59 (sP p8) 63 (sQ b9 (o10+0)) 64 (sI i12) 65 (sI i15)) (w2 V0 10 (79,k10) 7 (34,k7)) h14):= by kernel_rfl
theorem F42_r15 {e:Env} {x0:OA} {x1:Int} {x13:OA} {k7:List Value} {k10:List Value} {hp:HP} {K:Env→PV→HP→Prop}:RW Tryd.prog 96 [7,10] (opsAt Tryd.f42 (pth 191)) [0,1,2,4,5,7,8,6,3,9] (w4 e 13 (sP x13) 7 (sR 7 0) 1 (sI x1) 0 (sP x0)) (w2 V0 10 (79,k10) 7 (34,k7)) hp K=
 ptrN x0 fun b1 o2=>(ldL (cellsN k7 0 5) fun l3=>ptrN x13 fun b4 o5=>ldV (HP.cell hp b4 (o5+0)) fun v6=>intV v6 .i64 fun i7=>CF Tryd.prog 91 [(.int .i64 x1),(.agg ⟨l3⟩)] hp fun u8 h9=>strV u8 fun s10=>ldV (HP.cell h9 b1 (o2+3)) fun v11=>ptrV v11 fun p12=>CF Tryd.prog 86 [(.pointer p12),(.string s10),(.int .i64 i7)] h9 fun u13 h14=>intV u13 .i64 fun i15=>K (w6 (w8 e 13 (sP x13) 7 (sR 7 0) 1 (sI x1) 0 (sP x0) 56 (sP x0) 57 (sQ b1 o2) 58 (sQ b1 (o2+3)) 60 (sI x1)) 61 (sA l3) 63 (sQ b4 (o5+0)) 64 (sI i7) 62 (sT s10) 59 (sP p12) 65 (sI i15)) (w2 V0 10 (79,k10) 7 (34,k7)) h14):= by kernel_rfl
def F42_j2 (x0:OA) (x1 x4:Int) (x13:OA) (k7 k10:List Value) (hp:HP) (K:Kh):Prop:=
  (ptrN x0 fun b14 o15=>ldV (HP.cell hp b14 (o15+2)) fun v16=>mapV v16 fun m17=>ptrN x13 fun b18 o19=>ldV (HP.cell hp b18 (o19+0)) fun v20=>intV v20 .i64 fun i21=>opS Tryd.prog (Instr.mapUpdate 154 (.map m17) (.int .i64 i21) (.pointer x13)) hp fun u22 h23=>(ptrN x0 fun b64 o65=>ldV (HP.cell h23 b64 (o65+3)) fun v66=>ptrV v66 fun p67=>ldL (cellsN k7 0 5) fun l68=>CF Tryd.prog 91 [(.int .i64 x1),(.agg ⟨l68⟩)] h23 fun u69 h70=>strV u69 fun s71=>ptrN x13 fun b72 o73=>ldV (HP.cell h70 b72 (o73+0)) fun v74=>intV v74 .i64 fun i75=>CF Tryd.prog 86 [(.pointer p67),(.string s71),(.int .i64 i75)] h70 fun u76 h77=>intV u76 .i64 fun i78=>F42_j3 x0 x1 x4 x13 k10 h77  K)∧(ptrN x0 fun b79 o80=>ldV (HP.cell h23 b79 (o80+3)) fun v81=>ptrV v81 fun p82=>ldL (cellsN k7 0 5) fun l83=>ptrN x13 fun b84 o85=>ldV (HP.cell h23 b84 (o85+0)) fun v86=>intV v86 .i64 fun i87=>CF Tryd.prog 91 [(.int .i64 x1),(.agg ⟨l83⟩)] h23 fun u88 h89=>strV u88 fun s90=>CF Tryd.prog 86 [(.pointer p82),(.string s90),(.int .i64 i87)] h89 fun u91 h92=>intV u91 .i64 fun i93=>F42_j3 x0 x1 x4 x13 k10 h92  K)∧(ptrN x0 fun b94 o95=>ldL (cellsN k7 0 5) fun l96=>CF Tryd.prog 91 [(.int .i64 x1),(.agg ⟨l96⟩)] h23 fun u97 h98=>strV u97 fun s99=>ldV (HP.cell h98 b94 (o95+3)) fun v100=>ptrV v100 fun p101=>ptrN x13 fun b102 o103=>ldV (HP.cell h98 b102 (o103+0)) fun v104=>intV v104 .i64 fun i105=>CF Tryd.prog 86 [(.pointer p101),(.string s99),(.int .i64 i105)] h98 fun u106 h107=>intV u106 .i64 fun i108=>F42_j3 x0 x1 x4 x13 k10 h107  K)∧(ptrN x0 fun b109 o110=>ldL (cellsN k7 0 5) fun l111=>ptrN x13 fun b112 o113=>ldV (HP.cell h23 b112 (o113+0)) fun v114=>intV v114 .i64 fun i115=>CF Tryd.prog 91 [(.int .i64 x1),(.agg ⟨l111⟩)] h23 fun u116 h117=>strV u116 fun s118=>ldV (HP.cell h117 b109 (o110+3)) fun v119=>ptrV v119 fun p120=>CF Tryd.prog 86 [(.pointer p120),(.string s118),(.int .i64 i115)] h117 fun u121 h122=>intV u121 .i64 fun i123=>F42_j3 x0 x1 x4 x13 k10 h122  K))
theorem F42_r16 {e:Env} {x0:OA} {x1:Int} {x3:Int} {x4:Int} {k7:List Value} {k10:List Value} {hp:HP} {K:Env→PV→HP→Prop}:RW Tryd.prog 96 [7,10] (opsAt Tryd.f42 (pth 47)) [0,1,2,3,4,5,6,7,8,9,10] (w5 e 7 (sR 7 0) 4 (sI x4) 3 (sI x3) 1 (sI x1) 0 (sP x0)) (w2 V0 10 (79,k10) 7 (34,k7)) hp K=
    (ptrN x0 fun b1 o2=>ldV (HP.cell hp b1 (o2+1)) fun v3=>intV v3 .i64 fun i4=>ldL (cellsN k7 0 5) fun l5=>if List.length l5=5 then (∀ b6:Nat,hp b6=.none→((List.length (List.set (List.set (splice [(.int .i64 i4),(.int .i64 x1),.int .u8 0,.int .u8 0,.int .u8 0,.int .u8 0,.int .i64 0,.int .i64 0,.int .i64 0] 2 l5) 7 (.int .i64 x3)) 8 (.int .i64 x4))=9)∧(HP.stN (HP.set hp b6 (.cells 79 [.int .i64 0,.int .i64 0,.int .u8 0,.int .u8 0,.int .u8 0,.int .u8 0,.int .i64 0,.int .i64 0,.int .i64 0] 0)) b6 0 (List.set (List.set (splice [(.int .i64 i4),(.int .i64 x1),.int .u8 0,.int .u8 0,.int .u8 0,.int .u8 0,.int .i64 0,.int .i64 0,.int .i64 0] 2 l5) 7 (.int .i64 x3)) 8 (.int .i64 x4)) fun h7=>K (w7 (w8 e 7 (sR 7 0) 4 (sI x4) 3 (sI x3) 1 (sI x1) 0 (sP x0) 41 (sP x0) 42 (sQ b1 o2) 43 (sQ b1 (o2+1))) 44 (sI i4) 45 (sI x1) 46 (sA l5) 47 (sI x3) 48 (sI x4) 49 (sV (.agg ⟨(List.set (List.set (splice [(.int .i64 i4),(.int .i64 x1),.int .u8 0,.int .u8 0,.int .u8 0,.int .u8 0,.int .i64 0,.int .i64 0,.int .i64 0] 2 l5) 7 (.int .i64 x3)) 8 (.int .i64 x4))⟩)) 13 (sQ b6 0)) (w2 V0 10 (79,k10) 7 (34,k7)) h7))) else False):=by kernel_rfl
theorem F42_r17 {e:Env} {x0:OA} {x1:Int} {x3:Int} {x4:Int} {k7:List Value} {k10:List Value} {hp:HP} {K:Env→PV→HP→Prop}:RW Tryd.prog 96 [7,10] (opsAt Tryd.f42 (pth 47)) [0,1,2,4,5,6,7,9,3,8,10] (w5 e 7 (sR 7 0) 4 (sI x4) 3 (sI x3) 1 (sI x1) 0 (sP x0)) (w2 V0 10 (79,k10) 7 (34,k7)) hp K=
    (ptrN x0 fun b1 o2=>ldL (cellsN k7 0 5) fun l3=>∀ b4:Nat,hp b4=.none→(ldV (HP.cell (HP.set hp b4 (.cells 79 [.int .i64 0,.int .i64 0,.int .u8 0,.int .u8 0,.int .u8 0,.int .u8 0,.int .i64 0,.int .i64 0,.int .i64 0] 0)) b1 (o2+1)) fun v5=>intV v5 .i64 fun i6=>if List.length l3=5 then ((List.length (List.set (List.set (splice [(.int .i64 i6),(.int .i64 x1),.int .u8 0,.int .u8 0,.int .u8 0,.int .u8 0,.int .i64 0,.int .i64 0,.int .i64 0] 2 l3) 7 (.int .i64 x3)) 8 (.int .i64 x4))=9)∧(HP.stN (HP.set hp b4 (.cells 79 [.int .i64 0,.int .i64 0,.int .u8 0,.int .u8 0,.int .u8 0,.int .u8 0,.int .i64 0,.int .i64 0,.int .i64 0] 0)) b4 0 (List.set (List.set (splice [(.int .i64 i6),(.int .i64 x1),.int .u8 0,.int .u8 0,.int .u8 0,.int .u8 0,.int .i64 0,.int .i64 0,.int .i64 0] 2 l3) 7 (.int .i64 x3)) 8 (.int .i64 x4)) fun h7=>K (w7 (w8 e 7 (sR 7 0) 4 (sI x4) 3 (sI x3) 1 (sI x1) 0 (sP x0) 41 (sP x0) 42 (sQ b1 o2) 43 (sQ b1 (o2+1))) 45 (sI x1) 46 (sA l3) 47 (sI x3) 48 (sI x4) 13 (sQ b4 0) 44 (sI i6) 49 (sV (.agg ⟨(List.set (List.set (splice [(.int .i64 i6),(.int .i64 x1),.int .u8 0,.int .u8 0,.int .u8 0,.int .u8 0,.int .i64 0,.int .i64 0,.int .i64 0] 2 l3) 7 (.int .i64 x3)) 8 (.int .i64 x4))⟩))) (w2 V0 10 (79,k10) 7 (34,k7)) h7)) else False)):=by kernel_rfl
def F42_j1 (x0:OA) (x1 x3 x4:Int) (x24:Bool) (k7 k10:List Value) (hp:HP) (K:Kh):Prop:=
  (ite2 x24 (if List.length [(Value.int .i64 0),.int .i64 0,.int .u8 0,.int .u8 0,.int .u8 0,.int .u8 0,.int .i64 0,.int .i64 0,.int .i64 0]=9 then (if List.all [(Value.int .i64 0),.int .i64 0,.int .u8 0,.int .u8 0,.int .u8 0,.int .u8 0,.int .i64 0,.int .i64 0,.int .i64 0] one=true then (if 0+List.length [(Value.int .i64 0),.int .i64 0,.int .u8 0,.int .u8 0,.int .u8 0,.int .u8 0,.int .i64 0,.int .i64 0,.int .i64 0]≤List.length k10 then (ldL (cellsN (splice k10 0 [.int .i64 0,.int .i64 0,.int .u8 0,.int .u8 0,.int .u8 0,.int .u8 0,.int .i64 0,.int .i64 0,.int .i64 0]) 0 9) fun l1=>K (.tuple ⟨[(.agg ⟨l1⟩),(.int .i64 1)]⟩) hp) else False) else False) else False) (ldL (cellsN k7 0 5) fun l2=>CF Tryd.prog 58 [(.pointer x0),(.int .i64 x1),(.agg ⟨l2⟩)] hp fun u3 h4=>intV u3 .i64 fun i5=>ite2 (i5 != 0) (if List.length [(Value.int .i64 0),.int .i64 0,.int .u8 0,.int .u8 0,.int .u8 0,.int .u8 0,.int .i64 0,.int .i64 0,.int .i64 0]=9 then (if List.all [(Value.int .i64 0),.int .i64 0,.int .u8 0,.int .u8 0,.int .u8 0,.int .u8 0,.int .i64 0,.int .i64 0,.int .i64 0] one=true then (if 0+List.length [(Value.int .i64 0),.int .i64 0,.int .u8 0,.int .u8 0,.int .u8 0,.int .u8 0,.int .i64 0,.int .i64 0,.int .i64 0]≤List.length k10 then (ldL (cellsN (splice k10 0 [.int .i64 0,.int .i64 0,.int .u8 0,.int .u8 0,.int .u8 0,.int .u8 0,.int .i64 0,.int .i64 0,.int .i64 0]) 0 9) fun l6=>K (.tuple ⟨[(.agg ⟨l6⟩),(.int .i64 i5)]⟩) h4) else False) else False) else False) (ptrN x0 fun b7 o8=>ldV (HP.cell h4 b7 (o8+1)) fun v9=>intV v9 .i64 fun i10=>ptrN x0 fun b11 o12=>HP.st h4 b11 (o12+1) (.int .i64 (IntKind.wrap .i64 (i10+1))) fun h13=>(ptrN x0 fun b124 o125=>ldV (HP.cell h13 b124 (o125+1)) fun v126=>intV v126 .i64 fun i127=>ldL (cellsN k7 0 5) fun l128=>if List.length l128=5 then (∀ b129:Nat,h13 b129=.none→((List.length (List.set (List.set (splice [(.int .i64 i127),(.int .i64 x1),.int .u8 0,.int .u8 0,.int .u8 0,.int .u8 0,.int .i64 0,.int .i64 0,.int .i64 0] 2 l128) 7 (.int .i64 x3)) 8 (.int .i64 x4))=9)∧(HP.stN (HP.set h13 b129 (.cells 79 [.int .i64 0,.int .i64 0,.int .u8 0,.int .u8 0,.int .u8 0,.int .u8 0,.int .i64 0,.int .i64 0,.int .i64 0] 0)) b129 0 (List.set (List.set (splice [(.int .i64 i127),(.int .i64 x1),.int .u8 0,.int .u8 0,.int .u8 0,.int .u8 0,.int .i64 0,.int .i64 0,.int .i64 0] 2 l128) 7 (.int .i64 x3)) 8 (.int .i64 x4)) fun h130=>F42_j2 x0 x1 x4 (some ⟨b129,0,none⟩) k7 k10 h130  K))) else False)∧(ptrN x0 fun b131 o132=>ldL (cellsN k7 0 5) fun l133=>∀ b134:Nat,h13 b134=.none→(ldV (HP.cell (HP.set h13 b134 (.cells 79 [.int .i64 0,.int .i64 0,.int .u8 0,.int .u8 0,.int .u8 0,.int .u8 0,.int .i64 0,.int .i64 0,.int .i64 0] 0)) b131 (o132+1)) fun v135=>intV v135 .i64 fun i136=>if List.length l133=5 then ((List.length (List.set (List.set (splice [(.int .i64 i136),(.int .i64 x1),.int .u8 0,.int .u8 0,.int .u8 0,.int .u8 0,.int .i64 0,.int .i64 0,.int .i64 0] 2 l133) 7 (.int .i64 x3)) 8 (.int .i64 x4))=9)∧(HP.stN (HP.set h13 b134 (.cells 79 [.int .i64 0,.int .i64 0,.int .u8 0,.int .u8 0,.int .u8 0,.int .u8 0,.int .i64 0,.int .i64 0,.int .i64 0] 0)) b134 0 (List.set (List.set (splice [(.int .i64 i136),(.int .i64 x1),.int .u8 0,.int .u8 0,.int .u8 0,.int .u8 0,.int .i64 0,.int .i64 0,.int .i64 0] 2 l133) 7 (.int .i64 x3)) 8 (.int .i64 x4)) fun h137=>F42_j2 x0 x1 x4 (some ⟨b134,0,none⟩) k7 k10 h137  K)) else False)))))
theorem F42_r18 (h:E=upd (upd e 4 (sI x4)) 0 (sP x0)):R42 9 11 E (w2 V0 10 (79,k10) 7 (34,k7)) hp K=
 CF Tryd.prog 90 [(.pointer x0)] hp fun u1 h2=>(boolV u1 fun q3=>ite2 (!q3) (ite2 (decide (x4<0)) (K (w3 (w8 E 14 (sP x0) 15 (sB q3) 16 (sB ((!q3))) 17 (sB true) 18 (sI x4) 19 (sB (decide (x4<0))) 20 (sB true) 21 sU) 22 sU 23 (sB true) 24 (sB true)) (w2 V0 10 (79,k10) 7 (34,k7)) h2) (K (w3 (w8 E 14 (sP x0) 15 (sB q3) 16 (sB ((!q3))) 17 (sB true) 18 (sI x4) 19 (sB (decide (x4<0))) 20 (sB false) 21 (sI x4)) 22 (sB (decide (x4 > 4611686018427387904))) 23 (sB (decide (x4 > 4611686018427387904))) 24 (sB (decide (x4 > 4611686018427387904)))) (w2 V0 10 (79,k10) 7 (34,k7)) h2)) (K (w3 (w8 E 14 (sP x0) 15 (sB q3) 16 (sB ((!q3))) 17 (sB false) 18 sU 19 sU 20 sU 21 sU) 22 sU 23 sU 24 (sB false)) (w2 V0 10 (79,k10) 7 (34,k7)) h2)):= by subst h; kernel_rfl
def F42 (x0:OA) (x1:Int) (x2:List Value) (x3 x4:Int) (hp:HP) (K:Kh):Prop:=
  (CF Tryd.prog 90 [(.pointer x0)] hp fun u138 h139=>boolV u138 fun q140=>ite2 (!q140) (ite2 (decide (x4<0)) (F42_j1 x0 x1 x3 x4 true x2 [.int .i64 0,.int .i64 0,.int .u8 0,.int .u8 0,.int .u8 0,.int .u8 0,.int .i64 0,.int .i64 0,.int .i64 0] h139  K) (F42_j1 x0 x1 x3 x4 (decide (x4 > 4611686018427387904)) x2 [.int .i64 0,.int .i64 0,.int .u8 0,.int .u8 0,.int .u8 0,.int .u8 0,.int .i64 0,.int .i64 0,.int .i64 0] h139  K)) (F42_j1 x0 x1 x3 x4 false x2 [.int .i64 0,.int .i64 0,.int .u8 0,.int .u8 0,.int .u8 0,.int .u8 0,.int .i64 0,.int .i64 0,.int .i64 0] h139  K))
noncomputable abbrev o42 (k n:Nat):Code:=.region k (opsAt Tryd.f42 (pth n)) false
noncomputable def F42_code:Code:=(.seq (o42 0 2) (.seq (.seq (o42 1 9) (.cond (.tmp 24) (.seq (o42 2 37) .ret) .skip)) (.seq (.seq (o42 3 19) (.seq (o42 4 43) (.cond (.tmp 31) (.seq (o42 5 155) .ret) .skip))) (.seq (o42 6 23) (.seq (.region 7 (opsAt Tryd.f42 (pth 47)) true) (.seq (.region 8 (opsAt Tryd.f42 (pth 95)) true) (.seq (.region 9 (opsAt Tryd.f42 (pth 191)) true) (.seq (.region 10 (opsAt Tryd.f42 (pth 383)) true) (.seq (.seq (o42 11 1279) (.cond (.tmp 80) (o42 12 2815) .skip)) (.seq (.region 13 (opsAt Tryd.f42 (pth 1535)) true) (.seq (o42 14 3071) .ret)))))))))))
theorem F42_body:Tryd.f42.body=some F42_code:=by kernel_rfl
theorem F42_ok (x0:OA) (x1:Int) (x2:List Value) (x3 x4:Int) (hp:HP) (K:Kh) (h:F42 x0 x1 x2 x3 x4 hp K):CF Tryd.prog 42 [(.pointer x0),(.int .i64 x1),(.agg ⟨x2⟩),(.int .i64 x3),(.int .i64 x4)] hp K:=by
 refine .inl ⟨by kernel_rfl,AC.intro (N:=96) Tryd.func42 F42_body rfl (Nat.le_of_ble_eq_true rfl) ?_⟩
 unfold F42 at h
 refine Ar F42_r0 ?_ (r5 2 0 1 3 4 Rn) (z5 Sn) Sn
 refine Aq (As (fun env pv hp=>∃ x0 x1 x3 x4 x24 k7 k10,Sub (w7 E0 24 (sB x24) 10 (sR 10 0) 7 (sR 7 0) 4 (sI x4) 3 (sI x3) 1 (sI x1) 0 (sP x0)) env∧Sub (w2 V0 10 (79,k10) 7 (34,k7)) pv∧(F42_j1 x0 x1 x3 x4 x24 k7 k10 hp  K)) ?_ ?_)
 ·refine Ag (F42_r18 rfl) ?_ (r4 0 4 1 3 (rp 7 7 0 (rp 10 10 0 Rn))) (z6 Sn) (z2 Sn)
  refine mC h fun u138 h139 h=>mB h fun q140 h=>?_
  refine mt h (fun h=>?_) (fun h=>?_)
  ·refine mt h (fun h=>?_) (fun h=>?_)
   ·exact ⟨_,_,_,_,_,_,_,(z7 Sn),(z2 Sn),h⟩
   ·exact ⟨_,_,_,_,_,_,_,(z7 Sn),(z2 Sn),h⟩
  ·exact ⟨_,_,_,_,_,_,_,(z7 Sn),(z2 Sn),h⟩
 ·rintro env pv hp ⟨x0,x1,x3,x4,x24,k7,k10,he,hv,h⟩
  refine Ae ?_ (r4 0 1 3 4 (rp 7 7 0 (rp 10 10 0 (r1 24 Rn)))) he hv
  unfold F42_j1 at h
  refine Ac h rfl (fun h=>?_) (fun h=>?_)
  ·refine Ar F42_r1 ?_ (rp 10 10 0 Rn) (z1 Sn) (z1 Sn)
   refine mf h fun h=>mf h fun h=>mf h fun h=>?_
   refine AWP.ret ?_
   exact h
  ·refine AWP.skip (Aq (Ar (F42_r2 rfl) ?_ (r2 0 1 (rp 7 7 0 (r2 3 4 (rp 10 10 0 Rn)))) (z6 Sn) (z2 Sn)))
   refine mL h fun l2 h=>mC h fun u3 h4 h=>mI h fun i5 h=>?_
   refine Ar F42_r3 ?_ (r5 12 0 1 3 4 (rp 7 7 0 (rp 10 10 0 Rn))) (z7 Sn) (z2 Sn)
   refine Ac h rfl (fun h=>?_) (fun h=>?_)
   ·refine Ar F42_r4 ?_ (rp 10 10 0 (r1 12 Rn)) (z2 Sn) (z1 Sn)
    refine mf h fun h=>mf h fun h=>mf h fun h=>?_
    refine AWP.ret ?_
    exact h
   ·refine AWP.skip (Ar F42_r5 ?_ (r4 0 1 3 4 (rp 7 7 0 (rp 10 10 0 Rn))) (z6 Sn) (z2 Sn))
    refine mN h fun b7 o8 h=>mV h fun v9 h=>mI h fun i10 h=>mN h fun b11 o12 h=>mw h fun h13 h=>?_
    refine As (fun env pv hp=>∃ x0 x1 x4 x13 k7 k10,Sub (w6 E0 13 (sP x13) 10 (sR 10 0) 7 (sR 7 0) 4 (sI x4) 1 (sI x1) 0 (sP x0)) env∧Sub (w2 V0 10 (79,k10) 7 (34,k7)) pv∧(F42_j2 x0 x1 x4 x13 k7 k10 hp  K)) ?_ ?_
    ·refine AWP.rgnC (cf:=[(3,9)]) (c:=[([true],true,[0,1,2,3,4,5,6,7,8,9,10]),([false],true,[0,1,2,4,5,6,7,9,3,8,10])]) (by kernel_rfl) (by kernel_rfl) (by kernel_rfl) (by kernel_rfl) (allO_t (Eq.mpr F42_r16 ?_) (allO_t (Eq.mpr F42_r17 ?_) trivial)) (r4 0 1 3 4 (rp 7 7 0 (rp 10 10 0 Rn))) (z6 Sn) (z2 Sn)
     ·replace h:=h.1
      refine mN h fun b124 o125 h=>mV h fun v126 h=>mI h fun i127 h=>mL h fun l128 h=>mf h fun h=>?_
      refine fun b129 hb_b_129=>?_
      replace h:=h b129 hb_b_129
      refine ⟨h.1,mW h.2 fun h130 h=>?_⟩
      exact ⟨_,_,_,_,_,_,(z6 Sn),(z2 Sn),h⟩
     ·replace h:=h.2
      refine mN h fun b131 o132 h=>mL h fun l133 h=>?_
      refine fun b134 hb_b_134=>?_
      replace h:=h b134 hb_b_134
      refine mV h (fun v135 h=>mI h (fun i136 h=>mf h (fun h=>⟨h.1,mW h.2 fun h137 h=>?_⟩)))
      exact ⟨_,_,_,_,_,_,(z6 Sn),(z2 Sn),h⟩
    ·rintro env pv hp ⟨x0,x1,x4,x13,k7,k10,he,hv,h⟩
     refine Ae ?_ (r3 0 1 4 (rp 7 7 0 (rp 10 10 0 (r1 13 Rn)))) he hv
     unfold F42_j2 at h
     refine Aq (AWP.rgnD (by kernel_rfl) (by kernel_rfl) F42_r6 ?_ (r4 0 13 1 4 (rp 7 7 0 (rp 10 10 0 Rn))) (z6 Sn) (z2 Sn))
     refine mN h fun b14 o15 h=>mV h fun v16 h=>mM h fun m17 h=>mN h fun b18 o19 h=>mV h fun v20 h=>mI h fun i21 h=>mO h fun u22 h23 h=>?_
     refine As (fun env pv hp=>∃ x0 x1 x4 x13 k10,Sub (w5 E0 13 (sP x13) 10 (sR 10 0) 4 (sI x4) 1 (sI x1) 0 (sP x0)) env∧Sub (upd V0 10 (79,k10)) pv∧(F42_j3 x0 x1 x4 x13 k10 hp  K)) ?_ ?_
     ·refine AWP.rgnC (cf:=[(3,6),(6,8)]) (c:=[([true,true],true,[0,1,2,3,4,5,6,7,8,9]),([true,false],true,[0,1,2,3,4,5,7,8,6,9]),([false,true],true,[0,1,2,4,5,6,3,7,8,9]),([false,false],true,[0,1,2,4,5,7,8,6,3,9])]) (by kernel_rfl) (by kernel_rfl) (by kernel_rfl) (by kernel_rfl) (allO_t (Eq.mpr F42_r12 ?_) (allO_t (Eq.mpr F42_r13 ?_) (allO_t (Eq.mpr F42_r14 ?_) (allO_t (Eq.mpr F42_r15 ?_) trivial)))) (r2 0 1 (rp 7 7 0 (r2 13 4 (rp 10 10 0 Rn)))) (z6 Sn) (z2 Sn)
      ·replace h:=h.1
       refine mN h fun b64 o65 h=>mV h fun v66 h=>mP h fun p67 h=>mL h fun l68 h=>mC h fun u69 h70 h=>ms h fun s71 h=>mN h fun b72 o73 h=>mV h fun v74 h=>mI h fun i75 h=>mC h fun u76 h77 h=>mI h fun i78 h=>?_
       exact ⟨_,_,_,_,_,(z5 Sn),(z1 Sn),h⟩
      ·replace h:=h.2.1
       refine mN h fun b79 o80 h=>mV h fun v81 h=>mP h fun p82 h=>mL h fun l83 h=>mN h fun b84 o85 h=>mV h fun v86 h=>mI h fun i87 h=>mC h fun u88 h89 h=>ms h fun s90 h=>mC h fun u91 h92 h=>mI h fun i93 h=>?_
       exact ⟨_,_,_,_,_,(z5 Sn),(z1 Sn),h⟩
      ·replace h:=h.2.2.1
       refine mN h fun b94 o95 h=>mL h fun l96 h=>mC h fun u97 h98 h=>ms h fun s99 h=>mV h fun v100 h=>mP h fun p101 h=>mN h fun b102 o103 h=>mV h fun v104 h=>mI h fun i105 h=>mC h fun u106 h107 h=>mI h fun i108 h=>?_
       exact ⟨_,_,_,_,_,(z5 Sn),(z1 Sn),h⟩
      ·replace h:=h.2.2.2
       refine mN h fun b109 o110 h=>mL h fun l111 h=>mN h fun b112 o113 h=>mV h fun v114 h=>mI h fun i115 h=>mC h fun u116 h117 h=>ms h fun s118 h=>mV h fun v119 h=>mP h fun p120 h=>mC h fun u121 h122 h=>mI h fun i123 h=>?_
       exact ⟨_,_,_,_,_,(z5 Sn),(z1 Sn),h⟩
     ·rintro env pv hp ⟨x0,x1,x4,x13,k10,he,hv,h⟩
      refine Ae ?_ (r3 0 1 4 (rp 10 10 0 (r1 13 Rn))) he hv
      unfold F42_j3 at h
      refine Aq (AWP.rgnD (by kernel_rfl) (by kernel_rfl) (F42_r7 rfl) ?_ (r4 0 4 13 1 (rp 10 10 0 Rn)) (z5 Sn) (z1 Sn))
      refine mN h fun b24 o25 h=>mV h fun v26 h=>mP h fun p27 h=>mN h fun b28 o29 h=>mV h fun v30 h=>mI h fun i31 h=>mC h fun u32 h33 h=>mI h fun i34 h=>?_
      refine As (fun env pv hp=>∃ x0 x1 x13 k10,Sub (w4 E0 13 (sP x13) 10 (sR 10 0) 1 (sI x1) 0 (sP x0)) env∧Sub (upd V0 10 (79,k10)) pv∧(F42_j4 x0 x1 x13 k10 hp  K)) ?_ ?_
      ·refine Ar F42_r10 ?_ (r2 0 1 (rp 10 10 0 (r1 13 Rn))) (z4 Sn) (z1 Sn)
       refine mN h fun b51 o52 h=>mV h fun v53 h=>mM h fun m54 h=>mR h fun u55 h=>mM h fun m56 h=>?_
       refine Ac h rfl (fun h=>?_) (fun h=>?_)
       ·refine Ag F42_r11 ?_ (r2 0 1 (rp 10 10 0 (r1 13 Rn))) (z4 Sn) (z1 Sn)
        refine mN h fun b57 o58 h=>mV h fun v59 h=>mM h fun m60 h=>?_
        refine fun b61 hb_b_61=>?_
        replace h:=h b61 hb_b_61
        refine mO h fun u62 h63 h=>?_
        exact ⟨_,_,_,_,(z4 Sn),(z1 Sn),h⟩
       ·refine AWP.skip ?_
        exact ⟨_,_,_,_,(z4 Sn),(z1 Sn),h⟩
      ·rintro env pv hp ⟨x0,x1,x13,k10,he,hv,h⟩
       refine Ae ?_ (r2 0 1 (rp 10 10 0 (r1 13 Rn))) he hv
       unfold F42_j4 at h
       refine Aq (AWP.rgnD (by kernel_rfl) (by kernel_rfl) (F42_r8 rfl) ?_ (r3 0 1 13 (rp 10 10 0 Rn)) (z4 Sn) (z1 Sn))
       refine mN h fun b35 o36 h=>mV h fun v37 h=>mM h fun m38 h=>mR h fun u39 h=>mM h fun m40 h=>mN h fun b41 o42 h=>mV h fun v43 h=>mI h fun i44 h=>mO h fun u45 h46 h=>?_
       refine Ar F42_r9 ?_ (rp 10 10 0 (r1 13 Rn)) (z2 Sn) (z1 Sn)
       refine mN h fun b47 o48 h=>mL h fun l49 h=>mf h fun h=>mf h fun h=>mf h fun h=>?_
       refine AWP.ret ?_
       exact h
end
section
variable {e E:Env} {x0:OA} {x1:Int} {x6:OA} {x7:Bool} {k4:List Value} {hp:HP} {K:Env→PV→HP→Prop}
abbrev R44 (p n:Nat):=RW Tryd.prog 80 [4] (opsAt Tryd.f44 (pth p)) (List.range n)
theorem F44_r0:R44 2 2 e V0 hp K=
 K (w2 e 4 (sR 4 0) 5 (sI 0)) (upd V0 4 (79,[.int .i64 0,.int .i64 0,.int .u8 0,.int .u8 0,.int .u8 0,.int .u8 0,.int .i64 0,.int .i64 0,.int .i64 0])) hp:= by kernel_rfl
theorem F44_r1:R44 9 2 (upd e 0 (sP x0)) (upd V0 4 (79,k4)) hp K=
 CF Tryd.prog 90 [(.pointer x0)] hp fun u1 h2=>(boolV u1 fun q3=>K (w3 e 0 (sP x0) 8 (sP x0) 9 (sB q3)) (upd V0 4 (79,k4)) h2):= by kernel_rfl
theorem F44_r2:R44 37 3 (upd e 4 (sR 4 0)) (upd V0 4 (79,k4)) hp K=
    (if List.length [(Value.int .i64 0),.int .i64 0,.int .u8 0,.int .u8 0,.int .u8 0,.int .u8 0,.int .i64 0,.int .i64 0,.int .i64 0]=9 then (if List.all [(Value.int .i64 0),.int .i64 0,.int .u8 0,.int .u8 0,.int .u8 0,.int .u8 0,.int .i64 0,.int .i64 0,.int .i64 0] one=true then (if 0+List.length [(Value.int .i64 0),.int .i64 0,.int .u8 0,.int .u8 0,.int .u8 0,.int .u8 0,.int .i64 0,.int .i64 0,.int .i64 0]≤List.length k4 then (K (w3 e 4 (sR 4 0) 10 (sV (.agg ⟨[.int .i64 0,.int .i64 0,.int .u8 0,.int .u8 0,.int .u8 0,.int .u8 0,.int .i64 0,.int .i64 0,.int .i64 0]⟩)) 5 (sI 2)) (w2 V0 4 (79,k4) 4 (79,(splice k4 0 [.int .i64 0,.int .i64 0,.int .u8 0,.int .u8 0,.int .u8 0,.int .u8 0,.int .i64 0,.int .i64 0,.int .i64 0]))) hp) else False) else False) else False):=by kernel_rfl
theorem F44_r3:R44 11 11 (w2 e 1 (sI x1) 0 (sP x0)) (upd V0 4 (79,k4)) hp K=
 ptrN x0 fun b1 o2=>(ldV (HP.cell hp b1 (o2+2)) fun v3=>mapV v3 fun m4=>rdS Tryd.prog (Instr.lookup 154 (.map m4) (.int .i64 x1) true) hp fun u5=>tup2V u5 fun u6 u7=>ptrV u6 fun p8=>boolV u7 fun q9=>K (w5 (w8 e 1 (sI x1) 0 (sP x0) 12 (sP x0) 13 (sQ b1 o2) 14 (sQ b1 (o2+2)) 15 (sV (.map m4)) 16 (sI x1) 17 (sV (.tuple ⟨[(.pointer p8),(.bool q9)]⟩))) 11 (sV (.tuple ⟨[(.pointer p8),(.bool q9)]⟩)) 18 (sP p8) 19 (sB q9) 6 (sP p8) 7 (sB q9)) (upd V0 4 (79,k4)) hp):= by kernel_rfl
theorem F44_r4:R44 39 2 (upd e 7 (sB x7)) (upd V0 4 (79,k4)) hp K=
 K (w3 e 7 (sB x7) 20 (sB x7) 21 (sB ((!x7)))) (upd V0 4 (79,k4)) hp:= by kernel_rfl
theorem F44_r5:R44 151 3 (upd e 4 (sR 4 0)) (upd V0 4 (79,k4)) hp K=
    (if List.length [(Value.int .i64 0),.int .i64 0,.int .u8 0,.int .u8 0,.int .u8 0,.int .u8 0,.int .i64 0,.int .i64 0,.int .i64 0]=9 then (if List.all [(Value.int .i64 0),.int .i64 0,.int .u8 0,.int .u8 0,.int .u8 0,.int .u8 0,.int .i64 0,.int .i64 0,.int .i64 0] one=true then (if 0+List.length [(Value.int .i64 0),.int .i64 0,.int .u8 0,.int .u8 0,.int .u8 0,.int .u8 0,.int .i64 0,.int .i64 0,.int .i64 0]≤List.length k4 then (K (w3 e 4 (sR 4 0) 22 (sV (.agg ⟨[.int .i64 0,.int .i64 0,.int .u8 0,.int .u8 0,.int .u8 0,.int .u8 0,.int .i64 0,.int .i64 0,.int .i64 0]⟩)) 5 (sI 4)) (w2 V0 4 (79,k4) 4 (79,(splice k4 0 [.int .i64 0,.int .i64 0,.int .u8 0,.int .u8 0,.int .u8 0,.int .u8 0,.int .i64 0,.int .i64 0,.int .i64 0]))) hp) else False) else False) else False):=by kernel_rfl
theorem F44_r6:R44 47 6 (w2 e 1 (sI x1) 0 (sP x0)) (upd V0 4 (79,k4)) hp K=
 ptrN x0 fun b1 o2=>(ldV (HP.cell hp b1 (o2+2)) fun v3=>mapV v3 fun m4=>opS Tryd.prog (Builtin.delete_ #[154,3] 0 ⟨[(.map m4),(.int .i64 x1)]⟩) hp fun u5 h6=>K (w7 e 1 (sI x1) 0 (sP x0) 23 (sP x0) 24 (sQ b1 o2) 25 (sQ b1 (o2+2)) 26 (sV (.map m4)) 27 (sI x1)) (upd V0 4 (79,k4)) h6):= by kernel_rfl
theorem F44_r7:R44 191 6 (w2 e 1 (sI x1) 0 (sP x0)) (upd V0 4 (79,k4)) hp K=
 ptrN x0 fun b1 o2=>(ldV (HP.cell hp b1 (o2+4)) fun v3=>ptrV v3 fun p4=>CF Tryd.prog 93 [(.pointer p4),(.int .i64 x1)] hp fun u5 h6=>boolV u5 fun q7=>K (w8 e 1 (sI x1) 0 (sP x0) 42 (sP x0) 43 (sQ b1 o2) 44 (sQ b1 (o2+4)) 45 (sP p4) 46 (sI x1) 47 (sB q7)) (upd V0 4 (79,k4)) h6):= by kernel_rfl
theorem F44_r8 (h:E=upd (w2 e 6 (sP x6) 1 (sI x1)) 0 (sP x0)):R44 383 11 E (upd V0 4 (79,k4)) hp K=
 ptrN x0 fun b1 o2=>(ldV (HP.cell hp b1 (o2+5)) fun v3=>mapV v3 fun m4=>ptrN x6 fun b5 o6=>ldV (HP.cell hp b5 (o6+1)) fun v7=>intV v7 .i64 fun i8=>rdS Tryd.prog (Instr.lookup 155 (.map m4) (.int .i64 i8) false) hp fun u9=>mapV u9 fun m10=>opS Tryd.prog (Builtin.delete_ #[160,3] 0 ⟨[(.map m10),(.int .i64 x1)]⟩) hp fun u11 h12=>K (w2 (w8 E 48 (sP x0) 49 (sQ b1 o2) 50 (sQ b1 (o2+5)) 51 (sV (.map m4)) 52 (sP x6) 53 (sQ b5 o6) 54 (sQ b5 (o6+1)) 55 (sI i8)) 56 (sV (.map m10)) 57 (sI x1)) (upd V0 4 (79,k4)) h12):= by subst h; kernel_rfl
theorem F44_r9:R44 1535 5 (w2 e 6 (sP x6) 4 (sR 4 0)) (upd V0 4 (79,k4)) hp K=
 ptrN x6 fun b1 o2=>(ldL (HP.cellN hp b1 o2 9) fun l3=>if List.length l3=9 then (if List.all l3 one=true then (if 0+List.length l3≤List.length k4 then (K (w6 e 6 (sP x6) 4 (sR 4 0) 77 (sP x6) 78 (sQ b1 o2) 79 (sA l3) 5 (sI 0)) (w2 V0 4 (79,k4) 4 (79,(splice k4 0 l3))) hp) else False) else False) else False):= by kernel_rfl
def F44_j2 (x6:OA) (k4:List Value) (hp:HP) (K:Kh):Prop:=
  (ptrN x6 fun b40 o41=>ldL (HP.cellN hp b40 o41 9) fun l42=>if List.length l42=9 then (if List.all l42 one=true then (if 0+List.length l42≤List.length k4 then (ldL (cellsN (splice k4 0 l42) 0 9) fun l43=>K (.tuple ⟨[(.agg ⟨l43⟩),.int .i64 0]⟩) hp) else False) else False) else False)
theorem F44_r10:R44 1279 11 (w2 e 6 (sP x6) 0 (sP x0)) (upd V0 4 (79,k4)) hp K=
 ptrN x0 fun b1 o2=>(ldV (HP.cell hp b1 (o2+5)) fun v3=>mapV v3 fun m4=>ptrN x6 fun b5 o6=>ldV (HP.cell hp b5 (o6+1)) fun v7=>intV v7 .i64 fun i8=>rdS Tryd.prog (Instr.lookup 155 (.map m4) (.int .i64 i8) false) hp fun u9=>mapV u9 fun m10=>rdS Tryd.prog (Builtin.len_ #[160] 3 #[.map m10]) hp fun u11=>intV u11 .i64 fun i12=>K (w5 (w8 e 6 (sP x6) 0 (sP x0) 58 (sP x0) 59 (sQ b1 o2) 60 (sQ b1 (o2+5)) 61 (sV (.map m4)) 62 (sP x6) 63 (sQ b5 o6)) 64 (sQ b5 (o6+1)) 65 (sI i8) 66 (sV (.map m10)) 67 (sI i12) 68 (sB ((i12==0)))) (upd V0 4 (79,k4)) hp):= by kernel_rfl
theorem F44_r11:R44 2815 9 (w2 e 6 (sP x6) 0 (sP x0)) (upd V0 4 (79,k4)) hp K=
 ptrN x0 fun b1 o2=>(ldV (HP.cell hp b1 (o2+5)) fun v3=>mapV v3 fun m4=>ptrN x6 fun b5 o6=>ldV (HP.cell hp b5 (o6+1)) fun v7=>intV v7 .i64 fun i8=>opS Tryd.prog (Builtin.delete_ #[155,3] 0 ⟨[(.map m4),(.int .i64 i8)]⟩) hp fun u9 h10=>K (w2 (w8 e 6 (sP x6) 0 (sP x0) 69 (sP x0) 70 (sQ b1 o2) 71 (sQ b1 (o2+5)) 72 (sV (.map m4)) 73 (sP x6) 74 (sQ b5 o6)) 75 (sQ b5 (o6+1)) 76 (sI i8)) (upd V0 4 (79,k4)) h10):= by kernel_rfl
def F44_j1 (x0:OA) (x1:Int) (x6:OA) (k4:List Value) (hp:HP) (K:Kh):Prop:=
  (ptrN x0 fun b21 o22=>ldV (HP.cell hp b21 (o22+4)) fun v23=>ptrV v23 fun p24=>CF Tryd.prog 93 [(.pointer p24),(.int .i64 x1)] hp fun u25 h26=>boolV u25 fun q27=>ptrN x0 fun b28 o29=>ldV (HP.cell h26 b28 (o29+5)) fun v30=>mapV v30 fun m31=>ptrN x6 fun b32 o33=>ldV (HP.cell h26 b32 (o33+1)) fun v34=>intV v34 .i64 fun i35=>rdS Tryd.prog (Instr.lookup 155 (.map m31) (.int .i64 i35) false) h26 fun u36=>mapV u36 fun m37=>opS Tryd.prog (Builtin.delete_ #[160,3] 0 ⟨[(.map m37),(.int .i64 x1)]⟩) h26 fun u38 h39=>ptrN x0 fun b44 o45=>ldV (HP.cell h39 b44 (o45+5)) fun v46=>mapV v46 fun m47=>ptrN x6 fun b48 o49=>ldV (HP.cell h39 b48 (o49+1)) fun v50=>intV v50 .i64 fun i51=>rdS Tryd.prog (Instr.lookup 155 (.map m47) (.int .i64 i51) false) h39 fun u52=>mapV u52 fun m53=>rdS Tryd.prog (Builtin.len_ #[160] 3 #[.map m53]) h39 fun u54=>intV u54 .i64 fun i55=>ite2 (i55==0) (ptrN x0 fun b56 o57=>ldV (HP.cell h39 b56 (o57+5)) fun v58=>mapV v58 fun m59=>ptrN x6 fun b60 o61=>ldV (HP.cell h39 b60 (o61+1)) fun v62=>intV v62 .i64 fun i63=>opS Tryd.prog (Builtin.delete_ #[155,3] 0 ⟨[(.map m59),(.int .i64 i63)]⟩) h39 fun u64 h65=>F44_j2 x6 k4 h65  K) (F44_j2 x6 k4 h39  K))
theorem F44_r12 {e:Env} {x0:OA} {x6:OA} {k4:List Value} {hp:HP} {K:Env→PV→HP→Prop}:RW Tryd.prog 80 [4] (opsAt Tryd.f44 (pth 95)) [0,1,2,3,4,5,6,7,8,9,10,11,12,13] (w2 e 6 (sP x6) 0 (sP x0)) (upd V0 4 (79,k4)) hp K=
 ptrN x0 fun b1 o2=>(ldV (HP.cell hp b1 (o2+3)) fun v3=>ptrV v3 fun p4=>ptrN x6 fun b5 o6=>ldV (HP.cell hp b5 (o6+1)) fun v7=>intV v7 .i64 fun i8=>ptrN x6 fun b9 o10=>ldL (HP.cellN hp b9 (o10+2) 5) fun l11=>CF Tryd.prog 91 [(.int .i64 i8),(.agg ⟨l11⟩)] hp fun u12 h13=>strV u12 fun s14=>CF Tryd.prog 92 [(.pointer p4),(.string s14)] h13 fun u15 h16=>boolV u15 fun q17=>K (w8 (w8 e 6 (sP x6) 0 (sP x0) 28 (sP x0) 29 (sQ b1 o2) 30 (sQ b1 (o2+3)) 31 (sP p4) 32 (sP x6) 33 (sQ b5 o6)) 34 (sQ b5 (o6+1)) 35 (sI i8) 36 (sP x6) 37 (sQ b9 o10) 38 (sQ b9 (o10+2)) 39 (sA l11) 40 (sT s14) 41 (sB q17)) (upd V0 4 (79,k4)) h16):= by kernel_rfl
theorem F44_r13 {e:Env} {x0:OA} {x6:OA} {k4:List Value} {hp:HP} {K:Env→PV→HP→Prop}:RW Tryd.prog 80 [4] (opsAt Tryd.f44 (pth 95)) [0,1,2,4,5,6,7,8,9,10,11,12,3,13] (w2 e 6 (sP x6) 0 (sP x0)) (upd V0 4 (79,k4)) hp K=
 ptrN x0 fun b1 o2=>(ptrN x6 fun b3 o4=>ldV (HP.cell hp b3 (o4+1)) fun v5=>intV v5 .i64 fun i6=>ptrN x6 fun b7 o8=>ldL (HP.cellN hp b7 (o8+2) 5) fun l9=>CF Tryd.prog 91 [(.int .i64 i6),(.agg ⟨l9⟩)] hp fun u10 h11=>strV u10 fun s12=>ldV (HP.cell h11 b1 (o2+3)) fun v13=>ptrV v13 fun p14=>CF Tryd.prog 92 [(.pointer p14),(.string s12)] h11 fun u15 h16=>boolV u15 fun q17=>K (w8 (w8 e 6 (sP x6) 0 (sP x0) 28 (sP x0) 29 (sQ b1 o2) 30 (sQ b1 (o2+3)) 32 (sP x6) 33 (sQ b3 o4) 34 (sQ b3 (o4+1))) 35 (sI i6) 36 (sP x6) 37 (sQ b7 o8) 38 (sQ b7 (o8+2)) 39 (sA l9) 40 (sT s12) 31 (sP p14) 41 (sB q17)) (upd V0 4 (79,k4)) h16):= by kernel_rfl
def F44 (x0:OA) (x1:Int) (hp:HP) (K:Kh):Prop:=
  (CF Tryd.prog 90 [(.pointer x0)] hp fun u1 h2=>boolV u1 fun q3=>ite2 q3 (if List.length [(Value.int .i64 0),.int .i64 0,.int .u8 0,.int .u8 0,.int .u8 0,.int .u8 0,.int .i64 0,.int .i64 0,.int .i64 0]=9 then (if List.all [(Value.int .i64 0),.int .i64 0,.int .u8 0,.int .u8 0,.int .u8 0,.int .u8 0,.int .i64 0,.int .i64 0,.int .i64 0] one=true then (if 0+List.length [(Value.int .i64 0),.int .i64 0,.int .u8 0,.int .u8 0,.int .u8 0,.int .u8 0,.int .i64 0,.int .i64 0,.int .i64 0]≤List.length [(Value.int .i64 0),.int .i64 0,.int .u8 0,.int .u8 0,.int .u8 0,.int .u8 0,.int .i64 0,.int .i64 0,.int .i64 0] then (ldL (cellsN (splice [.int .i64 0,.int .i64 0,.int .u8 0,.int .u8 0,.int .u8 0,.int .u8 0,.int .i64 0,.int .i64 0,.int .i64 0] 0 [.int .i64 0,.int .i64 0,.int .u8 0,.int .u8 0,.int .u8 0,.int .u8 0,.int .i64 0,.int .i64 0,.int .i64 0]) 0 9) fun l4=>K (.tuple ⟨[(.agg ⟨l4⟩),(.int .i64 2)]⟩) h2) else False) else False) else False) (ptrN x0 fun b5 o6=>ldV (HP.cell h2 b5 (o6+2)) fun v7=>mapV v7 fun m8=>rdS Tryd.prog (Instr.lookup 154 (.map m8) (.int .i64 x1) true) h2 fun u9=>tup2V u9 fun u10 u11=>ptrV u10 fun p12=>boolV u11 fun q13=>ite2 (!q13) (if List.length [(Value.int .i64 0),.int .i64 0,.int .u8 0,.int .u8 0,.int .u8 0,.int .u8 0,.int .i64 0,.int .i64 0,.int .i64 0]=9 then (if List.all [(Value.int .i64 0),.int .i64 0,.int .u8 0,.int .u8 0,.int .u8 0,.int .u8 0,.int .i64 0,.int .i64 0,.int .i64 0] one=true then (if 0+List.length [(Value.int .i64 0),.int .i64 0,.int .u8 0,.int .u8 0,.int .u8 0,.int .u8 0,.int .i64 0,.int .i64 0,.int .i64 0]≤List.length [(Value.int .i64 0),.int .i64 0,.int .u8 0,.int .u8 0,.int .u8 0,.int .u8 0,.int .i64 0,.int .i64 0,.int .i64 0] then (ldL (cellsN (splice [.int .i64 0,.int .i64 0,.int .u8 0,.int .u8 0,.int .u8 0,.int .u8 0,.int .i64 0,.int .i64 0,.int .i64 0] 0 [.int .i64 0,.int .i64 0,.int .u8 0,.int .u8 0,.int .u8 0,.int .u8 0,.int .i64 0,.int .i64 0,.int .i64 0]) 0 9) fun l14=>K (.tuple ⟨[(.agg ⟨l14⟩),(.int .i64 4)]⟩) h2) else False) else False) else False) (ptrN x0 fun b15 o16=>ldV (HP.cell h2 b15 (o16+2)) fun v17=>mapV v17 fun m18=>opS Tryd.prog (Builtin.delete_ #[154,3] 0 ⟨[(.map m18),(.int .i64 x1)]⟩) h2 fun u19 h20=>(ptrN x0 fun b66 o67=>ldV (HP.cell h20 b66 (o67+3)) fun v68=>ptrV v68 fun p69=>ptrN p12 fun b70 o71=>ldV (HP.cell h20 b70 (o71+1)) fun v72=>intV v72 .i64 fun i73=>ptrN p12 fun b74 o75=>ldL (HP.cellN h20 b74 (o75+2) 5) fun l76=>CF Tryd.prog 91 [(.int .i64 i73),(.agg ⟨l76⟩)] h20 fun u77 h78=>strV u77 fun s79=>CF Tryd.prog 92 [(.pointer p69),(.string s79)] h78 fun u80 h81=>boolV u80 fun q82=>F44_j1 x0 x1 p12 [.int .i64 0,.int .i64 0,.int .u8 0,.int .u8 0,.int .u8 0,.int .u8 0,.int .i64 0,.int .i64 0,.int .i64 0] h81  K)∧(ptrN x0 fun b83 o84=>ptrN p12 fun b85 o86=>ldV (HP.cell h20 b85 (o86+1)) fun v87=>intV v87 .i64 fun i88=>ptrN p12 fun b89 o90=>ldL (HP.cellN h20 b89 (o90+2) 5) fun l91=>CF Tryd.prog 91 [(.int .i64 i88),(.agg ⟨l91⟩)] h20 fun u92 h93=>strV u92 fun s94=>ldV (HP.cell h93 b83 (o84+3)) fun v95=>ptrV v95 fun p96=>CF Tryd.prog 92 [(.pointer p96),(.string s94)] h93 fun u97 h98=>boolV u97 fun q99=>F44_j1 x0 x1 p12 [.int .i64 0,.int .i64 0,.int .u8 0,.int .u8 0,.int .u8 0,.int .u8 0,.int .i64 0,.int .i64 0,.int .i64 0] h98  K))))
noncomputable abbrev o44 (k n:Nat):Code:=.region k (opsAt Tryd.f44 (pth n)) false
noncomputable def F44_code:Code:=(.seq (o44 0 2) (.seq (.seq (o44 1 9) (.cond (.tmp 9) (.seq (o44 2 37) .ret) .skip)) (.seq (o44 3 11) (.seq (.seq (o44 4 39) (.cond (.tmp 21) (.seq (o44 5 151) .ret) .skip)) (.seq (o44 6 47) (.seq (.region 7 (opsAt Tryd.f44 (pth 95)) true) (.seq (o44 8 191) (.seq (.region 9 (opsAt Tryd.f44 (pth 383)) true) (.seq (.seq (.region 10 (opsAt Tryd.f44 (pth 1279)) true) (.cond (.tmp 68) (.region 11 (opsAt Tryd.f44 (pth 2815)) true) .skip)) (.seq (o44 12 1535) .ret))))))))))
theorem F44_body:Tryd.f44.body=some F44_code:=by kernel_rfl
theorem F44_ok (x0:OA) (x1:Int) (hp:HP) (K:Kh) (h:F44 x0 x1 hp K):CF Tryd.prog 44 [(.pointer x0),(.int .i64 x1)] hp K:=by
 refine .inl ⟨by kernel_rfl,AC.intro (N:=80) Tryd.func44 F44_body rfl (Nat.le_of_ble_eq_true rfl) ?_⟩
 unfold F44 at h
 refine Ar F44_r0 ?_ (r2 0 1 Rn) (z2 Sn) Sn
 refine Aq (Ar F44_r1 ?_ (r2 0 1 (rp 4 4 0 Rn)) (z3 Sn) (z1 Sn))
 refine mC h fun u1 h2 h=>mB h fun q3 h=>?_
 refine Ac h rfl (fun h=>?_) (fun h=>?_)
 ·refine Ar F44_r2 ?_ (rp 4 4 0 Rn) (z1 Sn) (z1 Sn)
  refine mf h fun h=>mf h fun h=>mf h fun h=>?_
  refine AWP.ret ?_
  exact h
 ·refine AWP.skip (Ar F44_r3 ?_ (r2 0 1 (rp 4 4 0 Rn)) (z3 Sn) (z1 Sn))
  refine mN h fun b5 o6 h=>mV h fun v7 h=>mM h fun m8 h=>mR h fun u9 h=>mT h fun u10 u11 h=>mP h fun p12 h=>mB h fun q13 h=>?_
  refine Aq (Ar F44_r4 ?_ (r3 7 0 1 (rp 4 4 0 (r1 6 Rn))) (z5 Sn) (z1 Sn))
  refine Ac h rfl (fun h=>?_) (fun h=>?_)
  ·refine Ar F44_r5 ?_ (rp 4 4 0 Rn) (z1 Sn) (z1 Sn)
   refine mf h fun h=>mf h fun h=>mf h fun h=>?_
   refine AWP.ret ?_
   exact h
  ·refine AWP.skip (Ar F44_r6 ?_ (r2 0 1 (rp 4 4 0 (r1 6 Rn))) (z4 Sn) (z1 Sn))
   refine mN h fun b15 o16 h=>mV h fun v17 h=>mM h fun m18 h=>mO h fun u19 h20 h=>?_
   refine As (fun env pv hp=>∃ x0 x1 x6 k4,Sub (w4 E0 6 (sP x6) 4 (sR 4 0) 1 (sI x1) 0 (sP x0)) env∧Sub (upd V0 4 (79,k4)) pv∧(F44_j1 x0 x1 x6 k4 hp  K)) ?_ ?_
   ·refine AWP.rgnC (cf:=[(3,12)]) (c:=[([true],true,[0,1,2,3,4,5,6,7,8,9,10,11,12,13]),([false],true,[0,1,2,4,5,6,7,8,9,10,11,12,3,13])]) (by kernel_rfl) (by kernel_rfl) (by kernel_rfl) (by kernel_rfl) (allO_t (Eq.mpr F44_r12 ?_) (allO_t (Eq.mpr F44_r13 ?_) trivial)) (r3 0 6 1 (rp 4 4 0 Rn)) (z4 Sn) (z1 Sn)
    ·replace h:=h.1
     refine mN h fun b66 o67 h=>mV h fun v68 h=>mP h fun p69 h=>mN h fun b70 o71 h=>mV h fun v72 h=>mI h fun i73 h=>mN h fun b74 o75 h=>mL h fun l76 h=>mC h fun u77 h78 h=>ms h fun s79 h=>mC h fun u80 h81 h=>mB h fun q82 h=>?_
     exact ⟨_,_,_,_,(z4 Sn),(z1 Sn),h⟩
    ·replace h:=h.2
     refine mN h fun b83 o84 h=>mN h fun b85 o86 h=>mV h fun v87 h=>mI h fun i88 h=>mN h fun b89 o90 h=>mL h fun l91 h=>mC h fun u92 h93 h=>ms h fun s94 h=>mV h fun v95 h=>mP h fun p96 h=>mC h fun u97 h98 h=>mB h fun q99 h=>?_
     exact ⟨_,_,_,_,(z4 Sn),(z1 Sn),h⟩
   ·rintro env pv hp ⟨x0,x1,x6,k4,he,hv,h⟩
    refine Ae ?_ (r2 0 1 (rp 4 4 0 (r1 6 Rn))) he hv
    unfold F44_j1 at h
    refine Ar F44_r7 ?_ (r2 0 1 (rp 4 4 0 (r1 6 Rn))) (z4 Sn) (z1 Sn)
    refine mN h fun b21 o22 h=>mV h fun v23 h=>mP h fun p24 h=>mC h fun u25 h26 h=>mB h fun q27 h=>?_
    refine Aq (AWP.rgnD (by kernel_rfl) (by kernel_rfl) (F44_r8 rfl) ?_ (r3 0 1 6 (rp 4 4 0 Rn)) (z4 Sn) (z1 Sn))
    refine mN h fun b28 o29 h=>mV h fun v30 h=>mM h fun m31 h=>mN h fun b32 o33 h=>mV h fun v34 h=>mI h fun i35 h=>mR h fun u36 h=>mM h fun m37 h=>mO h fun u38 h39 h=>?_
    refine As (fun env pv hp=>∃ x6 k4,Sub (w2 E0 6 (sP x6) 4 (sR 4 0)) env∧Sub (upd V0 4 (79,k4)) pv∧(F44_j2 x6 k4 hp  K)) ?_ ?_
    ·refine Aq (AWP.rgnD (by kernel_rfl) (by kernel_rfl) F44_r10 ?_ (r2 0 6 (rp 4 4 0 Rn)) (z3 Sn) (z1 Sn))
     refine mN h fun b44 o45 h=>mV h fun v46 h=>mM h fun m47 h=>mN h fun b48 o49 h=>mV h fun v50 h=>mI h fun i51 h=>mR h fun u52 h=>mM h fun m53 h=>mR h fun u54 h=>mI h fun i55 h=>?_
     refine Ac h rfl (fun h=>?_) (fun h=>?_)
     ·refine AWP.rgnD (by kernel_rfl) (by kernel_rfl) F44_r11 ?_ (r2 0 6 (rp 4 4 0 Rn)) (z3 Sn) (z1 Sn)
      refine mN h fun b56 o57 h=>mV h fun v58 h=>mM h fun m59 h=>mN h fun b60 o61 h=>mV h fun v62 h=>mI h fun i63 h=>mO h fun u64 h65 h=>?_
      exact ⟨_,_,(z2 Sn),(z1 Sn),h⟩
     ·refine AWP.skip ?_
      exact ⟨_,_,(z2 Sn),(z1 Sn),h⟩
    ·rintro env pv hp ⟨x6,k4,he,hv,h⟩
     refine Ae ?_ (rp 4 4 0 (r1 6 Rn)) he hv
     unfold F44_j2 at h
     refine Ar F44_r9 ?_ (rp 4 4 0 (r1 6 Rn)) (z2 Sn) (z1 Sn)
     refine mN h fun b40 o41 h=>mL h fun l42 h=>mf h fun h=>mf h fun h=>mf h fun h=>?_
     refine AWP.ret ?_
     exact h
end
end Go.Proofs
set_option linter.unusedVariables false
set_option linter.unusedSimpArgs false
set_option maxRecDepth 20000
namespace Go.Proofs
open Go Go.HL
open Go.Exp (Th tlt Ord setW dropW insW)
section
variable {tb:Obj} {hq:HP} {s mx last:Nat} {L:List Ss} {E:List (Ss × Nat)} {ps:Nat→HP} {m x q f:Nat} {O:List (Int × Nat)} {w:List Th} {K:Value→HP→Prop}
/-- What Add answers. -/
def addE (mx:Nat) (b:Int) (p:Q × Int) (due:Int) (L:List Ss):Int:=if due<0∨due > 4611686018427387904 then 1 else roomE mx b p L
theorem lookV {k:Int} {O:List (Int × Nat)} {f:Nat} {hp:HP} (hO:MapE iw mv O (hp f)) {c:Value→Prop} (h:c (.map (getL k O))):rdS Tryd.prog (Instr.lookup 155 (.map (some f)) (.int .i64 k) false) hp c:=by
  refine rdS_lookup (l:=O) u155 enc3 (z:=.map none) zw160 hO k (ev:=mv) (cm:=false) ?_
  simp only [Bool.false_eq_true,if_false]
  have:((getL k O).map mv).getD (.map none)=.map (getL k O):=by cases getL k O <;> rfl
  rw [this]; exact h
set_option maxHeartbeats 2000000 in
/-- The last step of Add: the number is put among the binding's. -/
theorem addOf {A hp:HP} {qs:Nat→HP} {b i:Int} {B:List (Int × Int)} {y:Nat} {xs:Ss} {k10:List Value} (hk:k10.length=9) (P:Parts hp qs) (h0:qs 0=A) (hm:SeM tb A s mx last E m x q f) (hy:A y=.cells 79 (ssc xs) 0) (hyi:xs.id=i)
    (hO:OfO (qs 3) f O B) (hi:i ∉ B.map (·.2))
    (hK:∀ hp' qs' O',Parts hp' qs'→(∀ j,j≠3→qs' j=qs j)→OfO (qs' 3) f O' (B++[(b,i)])→K (.tuple ⟨[.agg ⟨ssc xs⟩,.int .i64 0]⟩) hp') :
    (ptrN (some ⟨s,0,none⟩) fun b_51 o_52=>(ldV (HP.cell hp b_51 (o_52+5)) fun v_53=>(mapV v_53 fun m_54=>(rdS Tryd.prog (Instr.lookup 155 (Value.map m_54) (Value.int .i64 b) false) hp fun u_55=>(mapV u_55 fun m_56=>(ite2 (Option.isNone m_56) (ptrN (some ⟨s,0,none⟩) fun b_57 o_58=>(ldV (HP.cell hp b_57 (o_58+5)) fun v_59=>(mapV v_59 fun m_60=>(∀ b_61:Nat,hp b_61=.none→(opS Tryd.prog (Instr.mapUpdate 155 (Value.map m_60) (Value.int .i64 b) (Value.map (some b_61))) (HP.set hp b_61 (.obj (.map #[] 0))) fun u_62 h_63=>(F42_j4 (some ⟨s,0,none⟩) b (some ⟨y,0,none⟩) k10 h_63 K)))))) (F42_j4 (some ⟨s,0,none⟩) b (some ⟨y,0,none⟩) k10 hp K))))))):=by
  obtain ⟨_,_,_,_,_,_,r5⟩:=hm.rd (P.at 0 h0)
  have last4:∀ (hp':HP) (qs':Nat→HP) (O':List (Int × Nat)) (k:Nat) (l:List (Int × Bool)),Parts hp' qs'→qs' 0=A→MapE iw mv O' (qs' 3 f)→getL b O'=some k→MapE iw vb l (qs' 3 k) →
      (∀ e,MapE iw vb (putL i true l) e→∀ hp'',Parts hp'' (pu qs' 3 ((qs' 3).set k e))→K (.tuple ⟨[.agg ⟨ssc xs⟩,.int .i64 0]⟩) hp'')→F42_j4 (some ⟨s,0,none⟩) b (some ⟨y,0,none⟩) k10 hp' K:=by
    intro hp' qs' O' k l P' h0' hO' hg hl hfin
    obtain ⟨_,_,_,_,_,_,t5⟩:=hm.rd (P'.at 0 h0')
    have hyp:hp' y=.cells 79 (ssc xs) 0:=(P'.at 0 h0').cells hy
    unfold F42_j4
    simp only [ptrN_some,Nat.zero_add,t5,ldV_some,mapV_map]
    refine lookV (hO'.sub (P'.sub 3)) ?_
    rw [hg,mapV_map]
    have y0:hp'.cell y 0=some (.int .i64 i):=by rw [← hyi]; exact HP.cell_of hyp
    rw [y0,ldV_some,intV_int]
    refine opS_mapUpdate u160 enc3 (hl.sub (P'.sub 3)) i (ev:=vb) true fun e he=>?_
    have P2:=P'.put 3 hl.ne e
    have hyp2:(hp'.set k e) y=.cells 79 (ssc xs) 0:=(P2.at 0 (by rw [pu_ne _ _ (by omega)]; exact h0')).cells hy
    rw [HP.cellN_of hyp2,ssc_cells,ldL_some,if_pos (ssc_len _),if_pos (ssc_one _),if_pos (by simp [ssc_len,hk]),ss_spl hk,ssc_cells,ldL_some]
    exact hfin e he _ P2
  simp only [ptrN_some,Nat.zero_add,r5,ldV_some,mapV_map]
  refine lookV (hO.map.sub (P.sub 3)) ?_
  rw [mapV_map]
  cases hg:getL b O with
  | some k=>
    show ite2 false _ _
    rw [ite2_false]
    refine last4 hp qs O k _ P h0 hO.map hg (hO.inner hg).1 fun e he hp'' P''=>?_
    refine hK hp'' _ O P'' (fun j hj=>pu_ne _ _ hj) ?_
    rw [pu_eq]
    exact hO.add_old hg hi he
  | none=>
    show ite2 true _ _
    rw [ite2_true]
    refine fun (k:Nat) (hk1:hp k=Ent.none)=>?_
    have P1:=P.new 3 hk1 (.obj (.map #[] 0))
    have hk3:qs 3 k=.none:=(P.sub 3).none hk1
    have hkf:k≠f:=fun e'=>hO.map.ne (by rw [← e',hk3])
    have m1:MapE iw mv O (((qs 3).set k (.obj (.map #[] 0))) f):=by rw [HP.set_ne _ _ hkf.symm]; exact hO.map
    refine opS_mapUpdate u155 enc3 (m1.sub (P1.at 3 (pu_eq ..))) b (ev:=mv) k fun e he=>?_
    have P2:=P1.put 3 (b:=f) (by rw [pu_eq]; exact m1.ne) e
    rw [pu_eq,pu_pu] at P2
    refine last4 _ _ (putL b k O) k [] P2 (by rw [pu_ne _ _ (by omega)]; exact h0) (by rw [pu_eq,HP.set_eq]; exact he) (by rw [getL_put,if_pos rfl]) (by rw [pu_eq,HP.set_ne _ _ hkf,HP.set_eq]; exact MapE.empty _ _) fun e2 he2 hp'' P''=>?_
    rw [pu_eq,pu_pu] at P''
    refine hK hp'' _ (O++[(b,k)]) P'' (fun j hj=>pu_ne _ _ hj) ?_
    rw [pu_eq]
    exact hO.add_new hg hk3 he he2
set_option maxHeartbeats 4000000 in
/-- Add. -/
theorem W42 (h:SeW tb hq s mx last L w) {b st due:Int} {p:Q × Int} (hb:okZ b) (hp:okT p) (hlast:last<500000)
    (hno:addE mx b p due L≠0→K (.tuple ⟨[.agg ⟨ssc ss0⟩,.int .i64 (addE mx b p due L)]⟩) hq)
    (hyes:addE mx b p due L=0→∀ hq',SeW tb hq' s mx (last+1) (L++[⟨((last+1:Nat):Int),b,p,st,due⟩]) (setW ((last+1:Nat):Int) due w)→K (.tuple ⟨[.agg ⟨ssc ⟨((last+1:Nat):Int),b,p,st,due⟩⟩,.int .i64 0]⟩) hq') :
    CF Tryd.prog 42 [ptr s 0,.int .i64 b,.agg ⟨t4 p⟩,.int .i64 st,.int .i64 due] hq K:=by
  obtain ⟨E,ps,m,x,q,f,O,rfl,h⟩:=h
  refine F42_ok _ b (t4 p) st due hq K ?_
  unfold F42
  refine C90p h ?_
  rw [boolV_bool]
  show ite2 true _ _
  rw [ite2_true]
  have bad:(due<0∨due > 4611686018427387904)→F42_j1 (some ⟨s,0,none⟩) b st due true (t4 p) (ssc ss0) hq K:=fun hd=>by
    have e:addE mx b p due (E.map (·.1))=1:=if_pos hd
    rw [e] at hno
    unfold F42_j1
    rw [ite2_true]
    exact ifI rfl (ifI rfl (ifI (Nat.le_refl 9) (hno (by decide))))
  by_cases c1:due<0
  · rw [decide_eq_true c1,ite2_true]; exact bad (.inl c1)
  rw [decide_eq_false c1,ite2_false]
  by_cases c2:due > 4611686018427387904
  · rw [decide_eq_true c2]; exact bad (.inr c2)
  rw [decide_eq_false c2]
  clear bad
  have c12:¬ (due<0∨due > 4611686018427387904):=by omega
  have ea:addE mx b p due (E.map (·.1))=roomE mx b p (E.map (·.1)):=if_neg c12
  rw [ea] at hno hyes
  show F42_j1 _ _ _ _ false _ (ssc ss0) _ _
  unfold F42_j1
  rw [ite2_false,t4_cells,ldL_some]
  refine P58 h hb hp ?_
  rw [intV_int]
  by_cases c3:roomE mx b p (E.map (·.1))=0
  rotate_left
  · rw [show (roomE mx b p (E.map (·.1)) != 0)=true by simp [c3],ite2_true]
    exact ifI rfl (ifI rfl (ifI (Nat.le_refl 9) (hno c3)))
  rw [show (roomE mx b p (E.map (·.1)) != 0)=false by simp [c3],ite2_false]
  have hf:findK b p (E.map (·.1))=none:=by
    unfold roomE at c3
    cases hf:findK b p (E.map (·.1)) with
    | none=>rfl
    | some y=>rw [hf] at c3; simp at c3
  have hlt:(E.map (·.1)).length<mx:=by
    unfold roomE at c3
    rw [hf,if_neg (by simp)] at c3
    by_cases c4:(E.map (·.1)).length≥mx
    · rw [if_pos c4] at c3; cases c3
    · omega
  obtain ⟨rt,r0,r1,r2,r3,r4,r5⟩:=h.rd
  have w1:IntKind.wrap .i64 ((last:Int)+1)=((last+1:Nat):Int):=wi (by omega) (by omega)
  simp only [ptrN_some,Nat.zero_add,r1,ldV_some,intV_int,w1]
  have hinv:=h.inv
  refine HP.st_at ((h.parts.sub 0).cells h.main.tab) (by simp [tabE]) ?_
  rw [show (tabE mx last m x q f).set 1 (.int .i64 ((last+1:Nat):Int))=tabE mx (last+1) m x q f from rfl]
  have P1:=h.parts.put 0 (b:=s) (by rw [h.main.tab]; simp) (.cells 157 (tabE mx (last+1) m x q f) 0)
  have hm1:SeM tb ((ps 0).set s (.cells 157 (tabE mx (last+1) m x q f) 0)) s mx (last+1) E m x q f:=
    ⟨HP.set_eq ..,by rw [HP.set_ne _ _ h.main.ms]; exact h.main.map,fun e he=>by rw [HP.set_ne _ _ (h.main.bs he)]; exact h.main.blk e he,⟨by rw [HP.set_ne _ _ h.main.s0.symm]; exact h.main.dig.1,h.main.dig.2⟩⟩
  generalize hq.set s (.cells 157 (tabE mx (last+1) m x q f) 0)=hp1 at *
  generalize hA:(ps 0).set s (.cells 157 (tabE mx (last+1) m x q f) 0)=A1 at *
  obtain ⟨t0,_,t1,t2,t3,t4',t5⟩:=hm1.rd (P1.at 0 (pu_eq ..))
  obtain ⟨y,hy⟩:∃ y:Ss,y=⟨((last+1:Nat):Int),b,p,st,due⟩:=⟨_,rfl⟩
  have hz:∀ i:Int,List.set (List.set (splice [(Value.int .i64 i),(Value.int .i64 b),(Value.int .u8 0),(Value.int .u8 0),(Value.int .u8 0),(Value.int .u8 0),(Value.int .i64 0),(Value.int .i64 0),(Value.int .i64 0)] 2 (t4 p)) 7 (Value.int .i64 st)) 8 (Value.int .i64 due)=ssc ⟨i,b,p,st,due⟩:=fun _=>rfl
  have yid:y.id=((last+1:Nat):Int):=by rw [hy]
  have hnew:((last+1:Nat):Int) ∉ (E.map (·.1)).map Ss.id:=fun hm=>by
    obtain ⟨z,hz,e⟩:=List.mem_map.1 hm
    have:=(hinv.rng z hz).2
    rw [e] at this; omega
  have j2:∀ (bk:Nat),hp1 bk=.none→∀ hp2,hp2=hp1.set bk (.cells 79 (ssc y) 0)→F42_j2 (some ⟨s,0,none⟩) b due (some ⟨bk,0,none⟩) (t4 p) (ssc ss0) hp2 K:=by
    intro bk hbk hp2 ehp2
    have P2:=P1.new 0 hbk (.cells 79 (ssc y) 0)
    rw [pu_eq,pu_pu,← ehp2] at P2
    have hA0:A1 bk=.none:=(P1.at 0 (pu_eq ..)).none hbk
    have hbs:bk≠s:=fun e=>by rw [e,hm1.tab] at hA0; cases hA0
    have hbm:bk≠m:=fun e=>by
      obtain ⟨es,clock,e1,_⟩:=hm1.map
      rw [e,e1] at hA0; cases hA0
    have hb0:bk≠0:=fun e=>by rw [e,hm1.dig.1] at hA0; cases hA0
    have hm2:SeM tb (A1.set bk (.cells 79 (ssc y) 0)) s mx (last+1) E m x q f:=
      ⟨by rw [HP.set_ne _ _ hbs.symm]; exact hm1.tab,by rw [HP.set_ne _ _ hbm.symm]; exact hm1.map,fun e he=>by
        have:e.2≠bk:=fun e'=>by have:=hm1.blk e he; rw [e',hA0] at this; cases this
        rw [HP.set_ne _ _ this]; exact hm1.blk e he,⟨by rw [HP.set_ne _ _ hb0.symm]; exact hm1.dig.1,hm1.dig.2⟩⟩
    have hyb:(A1.set bk (.cells 79 (ssc y) 0)) bk=.cells 79 (ssc y) 0:=HP.set_eq ..
    generalize A1.set bk (.cells 79 (ssc y) 0)=A2 at *
    clear ehp2
    obtain ⟨_,_,_,u2,_⟩:=hm2.rd (P2.at 0 (pu_eq ..))
    have hyp:hp2 bk=.cells 79 (ssc y) 0:=(P2.at 0 (pu_eq ..)).cells hyb
    have y0:hp2.cell bk 0=some (.int .i64 y.id):=HP.cell_of hyp
    unfold F42_j2
    simp only [ptrN_some,Nat.zero_add,u2,ldV_some,mapV_map,y0,intV_int]
    refine opS_mapUpdate u154 enc3 (hm2.map.sub (P2.at 0 (pu_eq ..))) y.id (ev:=fun k:Nat=>ptr k 0) bk fun e he=>?_
    have P3:=P2.put 0 (b:=m) (by rw [pu_eq]; exact hm2.map.ne) e
    rw [pu_eq,pu_pu] at P3
    have hpl:putL y.id bk (E.map fun e=>(e.1.id,e.2))=(E++[(y,bk)]).map fun e=>(e.1.id,e.2):=by
      rw [put_new,List.map_append]; rfl
      rw [getL_none_mem,List.map_map]
      rw [yid]
      intro hm
      refine hnew ?_
      rw [List.map_map]
      exact hm
    rw [hpl] at he
    have hm3:SeM tb (A2.set m e) s mx (last+1) (E++[(y,bk)]) m x q f:=
      ⟨by rw [HP.set_ne _ _ hm2.ms.symm]; exact hm2.tab,by rw [HP.set_eq]; exact he,fun z hz=>by
        rcases List.mem_append.1 hz with hz | hz
        · rw [HP.set_ne _ _ (hm2.bm hz)]; exact hm2.blk z hz
        · rw [List.mem_singleton.1 hz]
          rw [HP.set_ne _ _ hbm]; exact hyb,⟨by rw [HP.set_ne _ _ hm2.m0.symm]; exact hm2.dig.1,hm2.dig.2⟩⟩
    have hyb3:(A2.set m e) bk=.cells 79 (ssc y) 0:=by rw [HP.set_ne _ _ hbm]; exact hyb
    generalize A2.set m e=A3 at *
    generalize hp2.set m e=hp3 at *
    obtain ⟨v0,_,_,_,v3,_⟩:=hm3.rd (P3.at 0 (pu_eq ..))
    have hyp3:hp3 bk=.cells 79 (ssc y) 0:=(P3.at 0 (pu_eq ..)).cells hyb3
    have y03:hp3.cell bk 0=some (.int .i64 y.id):=HP.cell_of hyp3
    have idx3:IdxR (pu ps 0 A3 1) x mx ((E.map (·.1)).map fun y=>(y.key,y.id)):=h.idx
    have hgn:getL (key4 b p) ((E.map (·.1)).map fun y=>(y.key,y.id))=none:=by rw [h.found hp,hf]; rfl
    have j3:∀ l hp',IdxR l x mx ((E.map (·.1)).map (fun y=>(y.key,y.id))++[(key4 b p,y.id)])→Parts hp' (pu (pu ps 0 A3) 1 l)→F42_j3 (some ⟨s,0,none⟩) b due (some ⟨bk,0,none⟩) (ssc ss0) hp' K:=by
      intro l hp' hl P4
      obtain ⟨_,_,_,_,_,a4,_⟩:=hm3.rd (P4.at 0 rfl)
      have hyp4:hp' bk=.cells 79 (ssc y) 0:=(P4.at 0 (l:=A3) rfl).cells hyb3
      have y04:hp'.cell bk 0=some (.int .i64 y.id):=HP.cell_of hyp4
      unfold F42_j3
      simp only [ptrN_some,Nat.zero_add,a4,ldV_some,pq,y04,intV_int]
      refine N87 P4 2 (q:=q) (w:=w) h.que (by rw [h.qok.len]; have:=hinv.len; have:=hinv.mx; omega) c12 fun l3 hp5 hl3 P5=>?_
      rw [intV_int]
      have hof:OfO (pu (pu (pu ps 0 A3) 1 l) 2 l3 3) f O ((E.map (·.1)).map bi):=h.of
      refine addOf (A:=A3) (qs:=pu (pu (pu ps 0 A3) 1 l) 2 l3) (i:=y.id) (y:=bk) (xs:=y) (B:=(E.map (·.1)).map bi) rfl P5 rfl hm3 hyb3 rfl hof ?_ fun hp6 qs' O' P6 hq' hO'=>?_
      · rw [yid,List.map_map]
        intro hm
        exact hnew hm
      · rw [hy]
        refine hyes c3 hp6 ⟨E++[(y,bk)],qs',m,x,q,f,O',?_,P6,?_,?_,?_,?_,?_,?_⟩
        · rw [List.map_append,← hy]; rfl
        · rw [hq' 0 (by omega)]; exact hm3
        · rw [hq' 1 (by omega),List.map_append,List.map_append]
          show IdxR l x mx (_++[(y.key,y.id)])
          rw [show y.key=key4 b p by rw [hy]; rfl]; exact hl
        · rw [hq' 2 (by omega)]
          show QW l3 q _
          rw [← yid]; exact hl3
        · rw [List.map_append,List.map_append]
          show OfO (qs' 3) f O' (_++[(y.bnd,y.id)])
          rw [show y.bnd=b by rw [hy]]; exact hO'
        · rw [List.map_append]
          have:=h.qok.put (x:=y) (by rw [yid]; exact hnew)
          rw [yid,show y.due=due by rw [hy]] at this
          exact this
        · rw [List.map_append]
          have:=hinv.put (state:=st) hb hp (by omega:0≤due∧due≤4611686018427387904) hf (by omega) hlast
          rw [← hy] at this
          exact this
    refine ⟨?_,?_,?_,?_⟩
    all_goals
      try simp only [ptrN_some,Nat.zero_add,v3,ldV_some,pq,t4_cells,ldL_some,y03,intV_int]
      refine C91 v0 hb hp.2 ?_
      simp only [strV_string,v3,ldV_some,pq,y03,intV_int]
      refine N86 P3 1 idx3 hgn (by simpa using hlt) hinv.mx fun l hp' hl P4=>?_
      rw [intV_int]
      exact j3 l hp' hl P4
  refine ⟨?_,?_⟩
  · simp only [t1,ldV_some,intV_int,t4_cells,ldL_some]
    refine ifI rfl ?_
    refine fun (bk:Nat) (hbk:hp1 bk=Ent.none)=>?_
    rw [hz,← hy]
    refine ⟨ssc_len y,?_⟩
    refine HP.stN_at (HP.set_eq ..) (by simp [ssc_len]) (ssc_one y) ?_
    rw [ss_spl rfl,HP.set_set]
    exact j2 bk hbk _ rfl
  · simp only [t4_cells,ldL_some]
    refine fun (bk:Nat) (hbk:hp1 bk=Ent.none)=>?_
    have hsk:s≠bk:=fun e=>by
      have:=(P1.at 0 (pu_eq ..)).cells hm1.tab
      rw [e,hbk] at this; cases this
    have t1':(hp1.set bk (.cells 79 [(Value.int .i64 0),(Value.int .i64 0),(Value.int .u8 0),(Value.int .u8 0),(Value.int .u8 0),(Value.int .u8 0),(Value.int .i64 0),(Value.int .i64 0),(Value.int .i64 0)] 0)).cell s 1=some (.int .i64 ((last+1:Nat):Int)):=by
      unfold HP.cell
      rw [HP.set_ne _ _ hsk]
      exact t1
    rw [t1',ldV_some,intV_int]
    refine ifI rfl ?_
    rw [hz,← hy]
    refine ⟨ssc_len y,?_⟩
    refine HP.stN_at (HP.set_eq ..) (by simp [ssc_len]) (ssc_one y) ?_
    rw [ss_spl rfl,HP.set_set]
    exact j2 bk hbk _ rfl
end
end Go.Proofs
set_option linter.unusedVariables false
set_option maxRecDepth 20000
namespace Go.Proofs
open Go Go.HL
section
variable {e E:Env} {x0:OA} {x1:Int} {x5a:OA} {x5n x5c:Nat} {x6 x7:Int} {x8:Bool} {k9:List Value} {hp:HP} {K:Env→PV→HP→Prop}
abbrev R45 (p n:Nat):=RW Tryd.prog 48 [9] (opsAt Tryd.f45 (pth p)) (List.range n)
theorem F45_r0:R45 2 1 e V0 hp K=
 K (upd e 4 (sS none 0 0)) V0 hp:= by kernel_rfl
theorem F45_r1:R45 5 1 e V0 hp K=
 K (upd e 5 (sS none 0 0)) V0 hp:= by kernel_rfl
theorem F45_r2:R45 19 2 (upd e 0 (sP x0)) V0 hp K=
 CF Tryd.prog 90 [(.pointer x0)] hp fun u1 h2=>(boolV u1 fun q3=>K (w3 e 0 (sP x0) 11 (sP x0) 12 (sB q3)) V0 h2):= by kernel_rfl
theorem F45_r3:R45 75 1 e V0 hp K=
 K (upd e 4 (sS none 0 0)) V0 hp:= by kernel_rfl
theorem F45_r4:R45 47 2 (upd e 5 (sS x5a x5n x5c)) V0 hp K=
 K (w3 e 5 (sS x5a x5n x5c) 47 (sS x5a x5n x5c) 4 (sS x5a x5n x5c)) V0 hp:= by kernel_rfl
def F45_j1 (x5a:OA) (x5n x5c:Nat) (hp:HP) (K:Kh):Prop:=
  (K (.slice x5a x5n x5c) hp)
theorem F45_r5:R45 2199 9 (w2 e 6 (sI x6) 0 (sP x0)) V0 hp K=
 CF Tryd.prog 44 [(.pointer x0),(.int .i64 x6)] hp fun u1 h2=>(tup2V u1 fun u3 u4=>aggV u3 fun l5=>intV u4 .i64 fun i6=>if List.length l5=9 then (if List.all l5 one=true then (if 0+List.length l5≤List.length [(Value.int .i64 0),.int .i64 0,.int .u8 0,.int .u8 0,.int .u8 0,.int .u8 0,.int .i64 0,.int .i64 0,.int .i64 0] then (K (w2 (w8 e 6 (sI x6) 0 (sP x0) 38 (sP x0) 39 (sI x6) 40 (sV (.tuple ⟨[(.agg ⟨l5⟩),(.int .i64 i6)]⟩)) 37 (sV (.tuple ⟨[(.agg ⟨l5⟩),(.int .i64 i6)]⟩)) 41 (sA l5) 42 (sI i6)) 9 (sR 9 0) 10 (sI i6)) (w2 V0 9 (79,[.int .i64 0,.int .i64 0,.int .u8 0,.int .u8 0,.int .u8 0,.int .u8 0,.int .i64 0,.int .i64 0,.int .i64 0]) 9 (79,(splice [.int .i64 0,.int .i64 0,.int .u8 0,.int .u8 0,.int .u8 0,.int .u8 0,.int .i64 0,.int .i64 0,.int .i64 0] 0 l5))) h2) else False) else False) else False):= by kernel_rfl
theorem F45_r6:R45 3223 5 (w2 e 9 (sR 9 0) 5 (sS x5a x5n x5c)) (upd V0 9 (79,k9)) hp K=
 ldL (cellsN k9 0 9) fun l1=>(if List.length l1=9 then (∀ b2:Nat,hp b2=.none→(opS Tryd.prog (Builtin.append_ #[83,83] 83 ⟨[(.slice x5a x5n x5c),(.slice (some ⟨b2,0,none⟩) 1 1)]⟩) (HP.set hp b2 (.cells 79 (splice [.int .i64 0,.int .i64 0,.int .u8 0,.int .u8 0,.int .u8 0,.int .u8 0,.int .i64 0,.int .i64 0,.int .i64 0] 0 l1) 0)) fun u3 h4=>slcV u3 fun a5 n6 c7=>K (w7 e 9 (sR 9 0) 5 (sS x5a x5n x5c) 43 (sS x5a x5n x5c) 44 (sA l1) 45 (sV (.slice (some ⟨b2,0,none⟩) 1 1)) 46 (sS a5 n6 c7) 5 (sS a5 n6 c7)) (upd V0 9 (79,k9)) h4)) else False):= by kernel_rfl
theorem F45_r7:R45 919 12 (upd e 0 (sP x0)) V0 hp K=
 ptrN x0 fun b1 o2=>(ldV (HP.cell hp b1 (o2+4)) fun v3=>ptrV v3 fun p4=>CF Tryd.prog 89 [(.pointer p4)] hp fun u5 h6=>tup3V u5 fun u7 u8 u9=>intV u7 .i64 fun i10=>intV u8 .i64 fun i11=>boolV u9 fun q12=>K (w5 (w8 e 0 (sP x0) 29 (sP x0) 30 (sQ b1 o2) 31 (sQ b1 (o2+4)) 32 (sP p4) 33 (sV (.tuple ⟨[(.int .i64 i10),(.int .i64 i11),(.bool q12)]⟩)) 28 (sV (.tuple ⟨[(.int .i64 i10),(.int .i64 i11),(.bool q12)]⟩)) 34 (sI i10)) 35 (sI i11) 36 (sB q12) 6 (sI i10) 7 (sI i11) 8 (sB q12)) V0 h6):= by kernel_rfl
def F45_j4 (x0:OA) (x1:Int) (x5a:OA) (x5n x5c:Nat) (x6:Int) (x27:Bool) (hp:HP) (I3:(OA × Nat × Nat × Int × Int × Bool)→HP→Prop) (K:Kh):Prop:=
  (ite2 x27 (CF Tryd.prog 44 [(.pointer x0),(.int .i64 x6)] hp fun u4 h5=>tup2V u4 fun u6 u7=>aggV u6 fun l8=>intV u7 .i64 fun i9=>if List.length l8=9 then (if List.all l8 one=true then (if 0+List.length l8≤List.length [(Value.int .i64 0),.int .i64 0,.int .u8 0,.int .u8 0,.int .u8 0,.int .u8 0,.int .i64 0,.int .i64 0,.int .i64 0] then (ldL (cellsN (splice [.int .i64 0,.int .i64 0,.int .u8 0,.int .u8 0,.int .u8 0,.int .u8 0,.int .i64 0,.int .i64 0,.int .i64 0] 0 l8) 0 9) fun l10=>if List.length l10=9 then (∀ b11:Nat,h5 b11=.none→(opS Tryd.prog (Builtin.append_ #[83,83] 83 ⟨[(.slice x5a x5n x5c),(.slice (some ⟨b11,0,none⟩) 1 1)]⟩) (HP.set h5 b11 (.cells 79 (splice [.int .i64 0,.int .i64 0,.int .u8 0,.int .u8 0,.int .u8 0,.int .u8 0,.int .i64 0,.int .i64 0,.int .i64 0] 0 l10) 0)) fun u12 h13=>slcV u12 fun a14 n15 c16=>ptrN x0 fun b17 o18=>ldV (HP.cell h13 b17 (o18+4)) fun v19=>ptrV v19 fun p20=>CF Tryd.prog 89 [(.pointer p20)] h13 fun u21 h22=>tup3V u21 fun u23 u24 u25=>intV u23 .i64 fun i26=>intV u24 .i64 fun i27=>boolV u25 fun q28=>I3 (a14,n15,c16,i26,i27,q28) h22)) else False) else False) else False) else False) (F45_j1 x5a x5n x5c hp  K))
theorem F45_r8 (h:E=upd (w2 e 8 (sB x8) 7 (sI x7)) 1 (sI x1)):R45 535 6 E V0 hp K=
 ite2 x8 (K (w6 E 22 (sB x8) 23 (sB true) 24 (sI x7) 25 (sI x1) 26 (sB (decide (x7≤x1))) 27 (sB (decide (x7≤x1)))) V0 hp) (K (w6 E 22 (sB x8) 23 (sB false) 24 sU 25 sU 26 sU 27 (sB false)) V0 hp):= by subst h; kernel_rfl
def F45_l3 (x0:OA) (x1:Int) (K:Kh) (I3:(OA × Nat × Nat × Int × Int × Bool)→HP→Prop) (x5a:OA) (x5n x5c:Nat) (x6 x7:Int) (x8:Bool) (hp:HP):Prop:=
  (ite2 x8 (F45_j4 x0 x1 x5a x5n x5c x6 (decide (x7≤x1)) hp I3 K) (F45_j4 x0 x1 x5a x5n x5c x6 false hp I3 K))
def F45_j2 (x0:OA) (x1:Int) (x5a:OA) (x5n x5c:Nat) (x6 x7:Int) (x8:Bool) (hp:HP) (K:Kh):Prop:=
  (LoopP (σ:=OA × Nat × Nat × Int × Int × Bool) (fun I s hp=>F45_l3 x0 x1  K I s.1 s.2.1 s.2.2.1 s.2.2.2.1 s.2.2.2.2.1 s.2.2.2.2.2 hp) (x5a,x5n,x5c,x6,x7,x8) hp)
theorem F45_r9:R45 39 12 (upd e 0 (sP x0)) V0 hp K=
 ptrN x0 fun b1 o2=>(ldV (HP.cell hp b1 (o2+4)) fun v3=>ptrV v3 fun p4=>CF Tryd.prog 89 [(.pointer p4)] hp fun u5 h6=>tup3V u5 fun u7 u8 u9=>intV u7 .i64 fun i10=>intV u8 .i64 fun i11=>boolV u9 fun q12=>K (w5 (w8 e 0 (sP x0) 14 (sP x0) 15 (sQ b1 o2) 16 (sQ b1 (o2+4)) 17 (sP p4) 18 (sV (.tuple ⟨[(.int .i64 i10),(.int .i64 i11),(.bool q12)]⟩)) 13 (sV (.tuple ⟨[(.int .i64 i10),(.int .i64 i11),(.bool q12)]⟩)) 19 (sI i10)) 20 (sI i11) 21 (sB q12) 6 (sI i10) 7 (sI i11) 8 (sB q12)) V0 h6):= by kernel_rfl
def F45 (x0:OA) (x1:Int) (hp:HP) (K:Kh):Prop:=
  (CF Tryd.prog 90 [(.pointer x0)] hp fun u1 h2=>boolV u1 fun q3=>ite2 q3 (K (.slice none 0 0) h2) (ptrN x0 fun b29 o30=>ldV (HP.cell h2 b29 (o30+4)) fun v31=>ptrV v31 fun p32=>CF Tryd.prog 89 [(.pointer p32)] h2 fun u33 h34=>tup3V u33 fun u35 u36 u37=>intV u35 .i64 fun i38=>intV u36 .i64 fun i39=>boolV u37 fun q40=>F45_j2 x0 x1 none 0 0 i38 i39 q40 h34  K))
noncomputable abbrev o45 (k n:Nat):Code:=.region k (opsAt Tryd.f45 (pth n)) false
noncomputable def F45_code:Code:=(.seq (o45 0 2) (.seq (o45 1 5) (.seq (.seq (o45 2 19) (.cond (.tmp 12) (.seq (o45 3 75) .ret) .skip)) (.seq (.seq (o45 4 39) (.block 0 (.loop (.seq (.seq (o45 5 535) (.cond (.tmp 27) .skip (.exit 0))) (.seq (.block 1 (.seq (o45 7 2199) (o45 8 3223))) (o45 6 919)))))) (.seq (o45 9 47) .ret)))))
theorem F45_body:Tryd.f45.body=some F45_code:=by kernel_rfl
theorem F45_ok (x0:OA) (x1:Int) (hp:HP) (K:Kh) (h:F45 x0 x1 hp K):CF Tryd.prog 45 [(.pointer x0),(.int .i64 x1)] hp K:=by
 refine .inl ⟨by kernel_rfl,AC.intro (N:=48) Tryd.func45 F45_body rfl (Nat.le_of_ble_eq_true rfl) ?_⟩
 unfold F45 at h
 refine Ar F45_r0 ?_ (r2 0 1 Rn) (z2 Sn) Sn
 refine Ar F45_r1 ?_ (r2 0 1 Rn) (z2 Sn) Sn
 refine Aq (Ar F45_r2 ?_ (r3 0 1 5 Rn) (z3 Sn) Sn)
 refine mC h fun u1 h2 h=>mB h fun q3 h=>?_
 refine Ac h rfl (fun h=>?_) (fun h=>?_)
 ·refine Ar F45_r3 ?_ Rn Sn Sn
  refine AWP.ret ?_
  exact h
 ·refine AWP.skip (As (fun env pv hp=>∃ x5a x5n x5c,Sub (upd E0 5 (sS x5a x5n x5c)) env∧Sub V0 pv∧F45_j1 x5a x5n x5c hp  K) ?_ ?_)
  ·refine As (fun env pv hp=>∃ x0 x1 x5a x5n x5c x6 x7 x8,Sub (w6 E0 8 (sB x8) 7 (sI x7) 6 (sI x6) 5 (sS x5a x5n x5c) 1 (sI x1) 0 (sP x0)) env∧Sub V0 pv∧F45_j2 x0 x1 x5a x5n x5c x6 x7 x8 hp  K) ?_ ?_
   ·refine Ag F45_r9 ?_ (r3 0 1 5 Rn) (z3 Sn) Sn
    refine mN h fun b29 o30 h=>mV h fun v31 h=>mP h fun p32 h=>mC h fun u33 h34 h=>mU h fun u35 u36 u37 h=>mI h fun i38 h=>mI h fun i39 h=>mB h fun q40 h=>?_
    exact ⟨_,_,_,_,_,_,_,_,(z6 Sn),Sn,h⟩
   ·rintro env pv hp ⟨x0,x1,x5a,x5n,x5c,x6,x7,x8,he,hv,h⟩
    refine Ae ?_ (r6 0 1 5 6 7 8 Rn) he hv
    unfold F45_j2 at h
    refine AWP.block (AWP.loop (σ:=OA × Nat × Nat × Int × Int × Bool) _ (fun s=>w6 E0 8 (sB (s.2.2.2.2.2)) 7 (sI (s.2.2.2.2.1)) 6 (sI (s.2.2.2.1)) 5 (sV (.slice s.1 s.2.1 s.2.2.1)) 1 (sI x1) 0 (sP x0)) (fun s=>V0) (x5a,x5n,x5c,x6,x7,x8) h (fun s=>r6 0 1 5 6 7 8 Rn) (z6 Sn) Sn ?_)
    intro I3 s hp h
    obtain ⟨x5a,x5n,x5c,x6,x7,x8⟩:=s
    replace h:F45_l3 x0 x1  K I3 x5a x5n x5c x6 x7 x8 hp:=h
    unfold F45_l3 at h
    refine Aq (As (fun env pv hp=>∃ x5a x5n x5c x6 x27,Sub (w5 E0 27 (sB x27) 6 (sI x6) 5 (sS x5a x5n x5c) 1 (sI x1) 0 (sP x0)) env∧Sub V0 pv∧F45_j4 x0 x1 x5a x5n x5c x6 x27 hp I3 K) ?_ ?_)
    ·refine Ag (F45_r8 rfl) ?_ (r6 1 7 8 0 5 6 Rn) (z6 Sn) Sn
     refine mt h (fun h=>?_) (fun h=>?_)
     ·exact ⟨_,_,_,_,_,(z5 Sn),Sn,h⟩
     ·exact ⟨_,_,_,_,_,(z5 Sn),Sn,h⟩
    ·rintro env pv hp ⟨x5a,x5n,x5c,x6,x27,he,hv,h⟩
     refine Ae ?_ (r5 0 1 5 6 27 Rn) he hv
     unfold F45_j4 at h
     refine Ac h rfl (fun h=>?_) (fun h=>?_)
     ·refine AWP.skip (Aq (AWP.block (Ar F45_r5 ?_ (r4 0 6 1 5 Rn) (z4 Sn) Sn)))
      refine mC h fun u4 h5 h=>mT h fun u6 u7 h=>mA h fun l8 h=>mI h fun i9 h=>mf h fun h=>mf h fun h=>mf h fun h=>?_
      refine Ag F45_r6 ?_ (r1 5 (rp 9 9 0 (r2 0 1 Rn))) (z4 Sn) (z1 Sn)
      refine mL h fun l10 h=>mf h fun h=>?_
      refine fun b11 hb_b_11=>?_
      replace h:=h b11 hb_b_11
      refine mO h fun u12 h13 h=>mS h fun a14 n15 c16 h=>?_
      refine Ag F45_r7 ?_ (r3 0 1 5 Rn) (z3 Sn) Sn
      refine mN h fun b17 o18 h=>mV h fun v19 h=>mP h fun p20 h=>mC h fun u21 h22 h=>mU h fun u23 u24 u25 h=>mI h fun i26 h=>mI h fun i27 h=>mB h fun q28 h=>?_
      exact ⟨_,(z6 Sn),Sn,h⟩
     ·refine AWP.exit ?_
      exact ⟨_,_,_,(z1 Sn),Sn,h⟩
  ·rintro env pv hp ⟨x5a,x5n,x5c,he,hv,h⟩
   refine Ae ?_ (r1 5 Rn) he hv
   unfold F45_j1 at h
   refine Ar F45_r4 ?_ (r1 5 Rn) (z1 Sn) Sn
   refine AWP.ret ?_
   exact h
end
section
variable {e E:Env} {x0:OA} {x1 x2 x3:Int} {x9:OA} {x10:Bool} {hp:HP} {K:Env→PV→HP→Prop}
abbrev R56 (p n:Nat):=RW Tryd.prog 47 [] (opsAt Tryd.f56 (pth p)) (List.range n)
theorem F56_r0:R56 2 1 e V0 hp K=
 K (upd e 8 (sI 0)) V0 hp:= by kernel_rfl
theorem F56_r1:R56 17 3 (upd e 0 (sP x0)) V0 hp K=
 CF Tryd.prog 90 [(.pointer x0)] hp fun u1 h2=>(boolV u1 fun q3=>K (w4 e 0 (sP x0) 12 (sP x0) 13 (sB q3) 11 (sB q3)) V0 h2):= by kernel_rfl
theorem F56_r2:R56 73 1 e V0 hp K=
 K (upd e 8 (sI 2)) V0 hp:= by kernel_rfl
theorem F56_r3:R56 313 1 e V0 hp K=
 K (upd e 8 (sI 1)) V0 hp:= by kernel_rfl
theorem F56_r4:R56 11 11 (w2 e 1 (sI x1) 0 (sP x0)) V0 hp K=
 ptrN x0 fun b1 o2=>(ldV (HP.cell hp b1 (o2+2)) fun v3=>mapV v3 fun m4=>rdS Tryd.prog (Instr.lookup 154 (.map m4) (.int .i64 x1) true) hp fun u5=>tup2V u5 fun u6 u7=>ptrV u6 fun p8=>boolV u7 fun q9=>K (w5 (w8 e 1 (sI x1) 0 (sP x0) 22 (sP x0) 23 (sQ b1 o2) 24 (sQ b1 (o2+2)) 25 (sV (.map m4)) 26 (sI x1) 27 (sV (.tuple ⟨[(.pointer p8),(.bool q9)]⟩))) 21 (sV (.tuple ⟨[(.pointer p8),(.bool q9)]⟩)) 28 (sP p8) 29 (sB q9) 9 (sP p8) 10 (sB q9)) V0 hp):= by kernel_rfl
theorem F56_r5:R56 39 2 (upd e 10 (sB x10)) V0 hp K=
 K (w3 e 10 (sB x10) 30 (sB x10) 31 (sB ((!x10)))) V0 hp:= by kernel_rfl
theorem F56_r6:R56 151 1 e V0 hp K=
 K (upd e 8 (sI 4)) V0 hp:= by kernel_rfl
theorem F56_r7 (h:E=upd (w2 e 9 (sP x9) 3 (sI x3)) 2 (sI x2)):R56 47 10 E V0 hp K=
 ptrN x9 fun b1 o2=>(HP.st hp b1 (o2+7) (.int .i64 x2) fun h3=>ptrN x9 fun b4 o5=>HP.st h3 b4 (o5+8) (.int .i64 x3) fun h6=>K (w8 E 32 (sP x9) 33 (sP x9) 34 (sI x2) 35 (sI x3) 36 (sQ b1 o2) 37 (sQ b1 (o2+7)) 38 (sQ b4 o5) 39 (sQ b4 (o5+8))) V0 h6):= by subst h; kernel_rfl
theorem F56_r8 (h:E=upd (w2 e 3 (sI x3) 1 (sI x1)) 0 (sP x0)):R56 95 8 E V0 hp K=
 ptrN x0 fun b1 o2=>(ldV (HP.cell hp b1 (o2+4)) fun v3=>ptrV v3 fun p4=>CF Tryd.prog 87 [(.pointer p4),(.int .i64 x1),(.int .i64 x3)] hp fun u5 h6=>intV u5 .i64 fun i7=>K (w8 E 40 (sP x0) 41 (sQ b1 o2) 42 (sQ b1 (o2+4)) 43 (sP p4) 44 (sI x1) 45 (sI x3) 46 (sI i7) 8 (sI i7)) V0 h6):= by subst h; kernel_rfl
def F56_j1 (x0:OA) (x1 x2 x3:Int) (x14:Bool) (hp:HP) (K:Kh):Prop:=
  (ite2 x14 (K (.int .i64 1) hp) (ptrN x0 fun b4 o5=>ldV (HP.cell hp b4 (o5+2)) fun v6=>mapV v6 fun m7=>rdS Tryd.prog (Instr.lookup 154 (.map m7) (.int .i64 x1) true) hp fun u8=>tup2V u8 fun u9 u10=>ptrV u9 fun p11=>boolV u10 fun q12=>ite2 (!q12) (K (.int .i64 4) hp) (ptrN p11 fun b13 o14=>HP.st hp b13 (o14+7) (.int .i64 x2) fun h15=>ptrN p11 fun b16 o17=>HP.st h15 b16 (o17+8) (.int .i64 x3) fun h18=>ptrN x0 fun b19 o20=>ldV (HP.cell h18 b19 (o20+4)) fun v21=>ptrV v21 fun p22=>CF Tryd.prog 87 [(.pointer p22),(.int .i64 x1),(.int .i64 x3)] h18 fun u23 h24=>intV u23 .i64 fun i25=>K (.int .i64 i25) h24)))
theorem F56_r9:R56 89 7 (upd e 3 (sI x3)) V0 hp K=
 ite2 (decide (x3<0)) (K (w8 e 3 (sI x3) 15 (sI x3) 16 (sB (decide (x3<0))) 17 (sB true) 18 sU 19 sU 20 (sB true) 14 (sB true)) V0 hp) (K (w8 e 3 (sI x3) 15 (sI x3) 16 (sB (decide (x3<0))) 17 (sB false) 18 (sI x3) 19 (sB (decide (x3 > 4611686018427387904))) 20 (sB (decide (x3 > 4611686018427387904))) 14 (sB (decide (x3 > 4611686018427387904)))) V0 hp):= by kernel_rfl
def F56 (x0:OA) (x1 x2 x3:Int) (hp:HP) (K:Kh):Prop:=
  (CF Tryd.prog 90 [(.pointer x0)] hp fun u1 h2=>boolV u1 fun q3=>ite2 q3 (K (.int .i64 2) h2) (ite2 (decide (x3<0)) (F56_j1 x0 x1 x2 x3 true h2  K) (F56_j1 x0 x1 x2 x3 (decide (x3 > 4611686018427387904)) h2  K)))
noncomputable abbrev o56 (k n:Nat):Code:=.region k (opsAt Tryd.f56 (pth n)) false
noncomputable def F56_code:Code:=(.seq (o56 0 2) (.seq (.block 0 (.seq (o56 1 17) (.cond (.tmp 11) (.seq (o56 2 73) .ret) (.seq (o56 3 89) (.cond (.tmp 14) (.seq (o56 4 313) .ret) .skip))))) (.seq (o56 5 11) (.seq (.seq (o56 6 39) (.cond (.tmp 31) (.seq (o56 7 151) .ret) .skip)) (.seq (o56 8 47) (.seq (o56 9 95) .ret))))))
theorem F56_body:Tryd.f56.body=some F56_code:=by kernel_rfl
theorem F56_ok (x0:OA) (x1 x2 x3:Int) (hp:HP) (K:Kh) (h:F56 x0 x1 x2 x3 hp K):CF Tryd.prog 56 [(.pointer x0),(.int .i64 x1),(.int .i64 x2),(.int .i64 x3)] hp K:=by
 refine .inl ⟨by kernel_rfl,AC.intro (N:=47) Tryd.func56 F56_body rfl (Nat.le_of_ble_eq_true rfl) ?_⟩
 unfold F56 at h
 refine Ar F56_r0 ?_ (r4 0 1 2 3 Rn) (z4 Sn) Sn
 refine Aq (AWP.block (Ar F56_r1 ?_ (r4 0 1 2 3 Rn) (z4 Sn) Sn))
 refine mC h fun u1 h2 h=>mB h fun q3 h=>?_
 refine Ac h rfl (fun h=>?_) (fun h=>?_)
 ·refine Ar F56_r2 ?_ Rn Sn Sn
  refine AWP.ret ?_
  exact h
 ·refine As (fun env pv hp=>∃ x0 x1 x2 x3 x14,Sub (w5 E0 14 (sB x14) 3 (sI x3) 2 (sI x2) 1 (sI x1) 0 (sP x0)) env∧Sub V0 pv∧F56_j1 x0 x1 x2 x3 x14 hp  K) ?_ ?_
  ·refine Ag F56_r9 ?_ (r4 3 0 1 2 Rn) (z4 Sn) Sn
   refine mt h (fun h=>?_) (fun h=>?_)
   ·exact ⟨_,_,_,_,_,(z5 Sn),Sn,h⟩
   ·exact ⟨_,_,_,_,_,(z5 Sn),Sn,h⟩
  ·rintro env pv hp ⟨x0,x1,x2,x3,x14,he,hv,h⟩
   refine Ae ?_ (r5 0 1 2 3 14 Rn) he hv
   unfold F56_j1 at h
   refine Ac h rfl (fun h=>?_) (fun h=>?_)
   ·refine Ar F56_r3 ?_ Rn Sn Sn
    refine AWP.ret ?_
    exact h
   ·refine AWP.skip (Ar F56_r4 ?_ (r4 0 1 2 3 Rn) (z4 Sn) Sn)
    refine mN h fun b4 o5 h=>mV h fun v6 h=>mM h fun m7 h=>mR h fun u8 h=>mT h fun u9 u10 h=>mP h fun p11 h=>mB h fun q12 h=>?_
    refine Aq (Ar F56_r5 ?_ (r6 10 0 1 2 3 9 Rn) (z6 Sn) Sn)
    refine Ac h rfl (fun h=>?_) (fun h=>?_)
    ·refine Ar F56_r6 ?_ Rn Sn Sn
     refine AWP.ret ?_
     exact h
    ·refine AWP.skip (Ar (F56_r7 rfl) ?_ (r5 2 3 9 0 1 Rn) (z5 Sn) Sn)
     refine mN h fun b13 o14 h=>mw h fun h15 h=>mN h fun b16 o17 h=>mw h fun h18 h=>?_
     refine Ar (F56_r8 rfl) ?_ (r3 0 1 3 Rn) (z3 Sn) Sn
     refine mN h fun b19 o20 h=>mV h fun v21 h=>mP h fun p22 h=>mC h fun u23 h24 h=>mI h fun i25 h=>?_
     refine AWP.ret ?_
     exact h
end
section
variable {e:Env} {x0:OA} {x1:Int} {hp:HP} {K:Env→PV→HP→Prop}
abbrev R46 (p n:Nat):=RW Tryd.prog 17 [] (opsAt Tryd.f46 (pth p)) (List.range n)
theorem F46_r0:R46 2 1 e V0 hp K=
 K (upd e 4 (sS none 0 0)) V0 hp:= by kernel_rfl
theorem F46_r1:R46 9 2 (upd e 0 (sP x0)) V0 hp K=
 CF Tryd.prog 90 [(.pointer x0)] hp fun u1 h2=>(boolV u1 fun q3=>K (w3 e 0 (sP x0) 5 (sP x0) 6 (sB q3)) V0 h2):= by kernel_rfl
theorem F46_r2:R46 37 1 e V0 hp K=
 K (upd e 4 (sS none 0 0)) V0 hp:= by kernel_rfl
theorem F46_r3:R46 11 11 (w2 e 1 (sI x1) 0 (sP x0)) V0 hp K=
 ptrN x0 fun b1 o2=>(ldV (HP.cell hp b1 (o2+5)) fun v3=>mapV v3 fun m4=>rdS Tryd.prog (Instr.lookup 155 (.map m4) (.int .i64 x1) false) hp fun u5=>mapV u5 fun m6=>CF Tryd.prog 96 [(.map m6)] hp fun u7 h8=>CF Tryd.prog 95 [u7] h8 fun u9 h10=>slcV u9 fun a11 n12 c13=>CF Tryd.prog 94 [(.pointer x0),(.slice a11 n12 c13)] h10 fun u14 h15=>slcV u14 fun a16 n17 c18=>K (w5 (w8 e 1 (sI x1) 0 (sP x0) 7 (sP x0) 8 (sP x0) 9 (sQ b1 o2) 10 (sQ b1 (o2+5)) 11 (sV (.map m4)) 12 (sI x1)) 13 (sV (.map m6)) 14 (sV u7) 15 (sS a11 n12 c13) 16 (sS a16 n17 c18) 4 (sS a16 n17 c18)) V0 h15):= by kernel_rfl
def F46 (x0:OA) (x1:Int) (hp:HP) (K:Kh):Prop:=
  (CF Tryd.prog 90 [(.pointer x0)] hp fun u1 h2=>boolV u1 fun q3=>ite2 q3 (K (.slice none 0 0) h2) (ptrN x0 fun b4 o5=>ldV (HP.cell h2 b4 (o5+5)) fun v6=>mapV v6 fun m7=>rdS Tryd.prog (Instr.lookup 155 (.map m7) (.int .i64 x1) false) h2 fun u8=>mapV u8 fun m9=>CF Tryd.prog 96 [(.map m9)] h2 fun u10 h11=>CF Tryd.prog 95 [u10] h11 fun u12 h13=>slcV u12 fun a14 n15 c16=>CF Tryd.prog 94 [(.pointer x0),(.slice a14 n15 c16)] h13 fun u17 h18=>slcV u17 fun a19 n20 c21=>K (.slice a19 n20 c21) h18))
noncomputable def F46_code:Code:=(.seq (.region 0 (opsAt Tryd.f46 (pth 2)) false) (.seq (.seq (.region 1 (opsAt Tryd.f46 (pth 9)) false) (.cond (.tmp 6) (.seq (.region 2 (opsAt Tryd.f46 (pth 37)) false) .ret) .skip)) (.seq (.region 3 (opsAt Tryd.f46 (pth 11)) false) .ret)))
theorem F46_body:Tryd.f46.body=some F46_code:=by kernel_rfl
theorem F46_ok (x0:OA) (x1:Int) (hp:HP) (K:Kh) (h:F46 x0 x1 hp K):CF Tryd.prog 46 [(.pointer x0),(.int .i64 x1)] hp K:=by
 refine .inl ⟨by kernel_rfl,AC.intro (N:=17) Tryd.func46 F46_body rfl (Nat.le_of_ble_eq_true rfl) ?_⟩
 unfold F46 at h
 refine Ar F46_r0 ?_ (r2 0 1 Rn) (z2 Sn) Sn
 refine Aq (Ar F46_r1 ?_ (r2 0 1 Rn) (z2 Sn) Sn)
 refine mC h fun u1 h2 h=>mB h fun q3 h=>?_
 refine Ac h rfl (fun h=>?_) (fun h=>?_)
 ·refine Ar F46_r2 ?_ Rn Sn Sn
  refine AWP.ret ?_
  exact h
 ·refine AWP.skip (Ar F46_r3 ?_ (r2 0 1 Rn) (z2 Sn) Sn)
  refine mN h fun b4 o5 h=>mV h fun v6 h=>mM h fun m7 h=>mR h fun u8 h=>mM h fun m9 h=>mC h fun u10 h11 h=>mC h fun u12 h13 h=>mS h fun a14 n15 c16 h=>mC h fun u17 h18 h=>mS h fun a19 n20 c21 h=>?_
  refine AWP.ret ?_
  exact h
end
section
variable {e:Env} {x0:OA} {hp:HP} {K:Env→PV→HP→Prop}
abbrev R59 (p n:Nat):=RW Tryd.prog 13 [] (opsAt Tryd.f59 (pth p)) (List.range n)
theorem F59_r0:R59 2 1 e V0 hp K=
 K (upd e 2 (sS none 0 0)) V0 hp:= by kernel_rfl
theorem F59_r1:R59 9 2 (upd e 0 (sP x0)) V0 hp K=
 CF Tryd.prog 90 [(.pointer x0)] hp fun u1 h2=>(boolV u1 fun q3=>K (w3 e 0 (sP x0) 3 (sP x0) 4 (sB q3)) V0 h2):= by kernel_rfl
theorem F59_r2:R59 37 1 e V0 hp K=
 K (upd e 2 (sS none 0 0)) V0 hp:= by kernel_rfl
theorem F59_r3:R59 11 9 (upd e 0 (sP x0)) V0 hp K=
 ptrN x0 fun b1 o2=>(ldV (HP.cell hp b1 (o2+2)) fun v3=>mapV v3 fun m4=>CF Tryd.prog 102 [(.map m4)] hp fun u5 h6=>CF Tryd.prog 95 [u5] h6 fun u7 h8=>slcV u7 fun a9 n10 c11=>CF Tryd.prog 94 [(.pointer x0),(.slice a9 n10 c11)] h8 fun u12 h13=>slcV u12 fun a14 n15 c16=>K (w2 (w8 e 0 (sP x0) 5 (sP x0) 6 (sP x0) 7 (sQ b1 o2) 8 (sQ b1 (o2+2)) 9 (sV (.map m4)) 10 (sV u5) 11 (sS a9 n10 c11)) 12 (sS a14 n15 c16) 2 (sS a14 n15 c16)) V0 h13):= by kernel_rfl
def F59 (x0:OA) (hp:HP) (K:Kh):Prop:=
  (CF Tryd.prog 90 [(.pointer x0)] hp fun u1 h2=>boolV u1 fun q3=>ite2 q3 (K (.slice none 0 0) h2) (ptrN x0 fun b4 o5=>ldV (HP.cell h2 b4 (o5+2)) fun v6=>mapV v6 fun m7=>CF Tryd.prog 102 [(.map m7)] h2 fun u8 h9=>CF Tryd.prog 95 [u8] h9 fun u10 h11=>slcV u10 fun a12 n13 c14=>CF Tryd.prog 94 [(.pointer x0),(.slice a12 n13 c14)] h11 fun u15 h16=>slcV u15 fun a17 n18 c19=>K (.slice a17 n18 c19) h16))
noncomputable def F59_code:Code:=(.seq (.region 0 (opsAt Tryd.f59 (pth 2)) false) (.seq (.seq (.region 1 (opsAt Tryd.f59 (pth 9)) false) (.cond (.tmp 4) (.seq (.region 2 (opsAt Tryd.f59 (pth 37)) false) .ret) .skip)) (.seq (.region 3 (opsAt Tryd.f59 (pth 11)) false) .ret)))
theorem F59_body:Tryd.f59.body=some F59_code:=by kernel_rfl
theorem F59_ok (x0:OA) (hp:HP) (K:Kh) (h:F59 x0 hp K):CF Tryd.prog 59 [(.pointer x0)] hp K:=by
 refine .inl ⟨by kernel_rfl,AC.intro (N:=13) Tryd.func59 F59_body rfl (Nat.le_of_ble_eq_true rfl) ?_⟩
 unfold F59 at h
 refine Ar F59_r0 ?_ (r1 0 Rn) (z1 Sn) Sn
 refine Aq (Ar F59_r1 ?_ (r1 0 Rn) (z1 Sn) Sn)
 refine mC h fun u1 h2 h=>mB h fun q3 h=>?_
 refine Ac h rfl (fun h=>?_) (fun h=>?_)
 ·refine Ar F59_r2 ?_ Rn Sn Sn
  refine AWP.ret ?_
  exact h
 ·refine AWP.skip (Ar F59_r3 ?_ (r1 0 Rn) (z1 Sn) Sn)
  refine mN h fun b4 o5 h=>mV h fun v6 h=>mM h fun m7 h=>mC h fun u8 h9 h=>mC h fun u10 h11 h=>mS h fun a12 n13 c14 h=>mC h fun u15 h16 h=>mS h fun a17 n18 c19 h=>?_
  refine AWP.ret ?_
  exact h
end
end Go.Proofs
