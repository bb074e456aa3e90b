/- Parts of the proof of SynsOnceProof: the logic of what is known of memory, functions' contracts. -/
import Derived.Test.YtpkhoemonibajaaDoorQSynsOnceProofA
import Derived.Test.YtpkhoemonibajaaDoorHlUse2
import Derived.Test.YtpkhoemonibajaaDoorHlAbb
import Derived.Test.YtpkhoemonibajaaDoorProg
import Derived.Shelf.Strconv.Itoa3
import Derived.ChangeKeysEq
import Derived.Test.YtpkhoemonibajaaDoorHlLib
import Derived.Lib.ItoaNum
import Derived.Test.YtpkhoemonibajaaDoorHlBytes
import Derived.Lib.ItoaLen
import Derived.Sort.LotB
import Derived.Sort.LotC
import Derived.Sort.LotA
import Derived.Sort.LotD1
set_option linter.unusedVariables false
set_option linter.unusedSimpArgs false
set_option linter.unusedVariables false
set_option maxRecDepth 20000
namespace Go.Proofs
open Go Go.HL Go.Shelf
def itoaRen:Ren where
  f:=fun | 129=>148 | 171=>116 | 243=>135 | 246=>159 | 283=>178 | 284=>179 | 285=>180 | 286=>181 | 317=>188 | 318=>189 | 319=>190 | 320=>191 | 337=>194 | 338=>195 | n=>n
  t:=fun | 0=>0 | 2=>2 | 3=>3 | 4=>4 | 5=>5 | 9=>9 | 20=>20 | 37=>199 | 46=>211 | 51=>215 | 53=>233 | 171=>257 | 173=>259 | 212=>267 | 213=>268 | 232=>271 | 233=>272 | n=>n
  g:=fun | 17=>0 | 18=>1 | 19=>2 | n=>n
theorem itoa_zero {P:Program} {t:TypeId} {z:Value} (h:(P.info? t).bind (·.zero)=some z) (w:World):(zeroValue t).run P w=.ok z w:=by
  cases hi:P.info? t with
  | none=>rw [hi] at h; cases h
  | some i=>
    rw [hi] at h
    have hz:i.zero=some z:=h
    simp [zeroValue,typeInfo,hi,hz]
theorem itoa_size {P:Program} {t:TypeId} {n:Nat} (h:(P.info? t).map (·.size)=some n) (w:World):(Go.sizeOf t).run P w=.ok n w:=by
  cases hi:P.info? t with
  | none=>rw [hi] at h; cases h
  | some i=>
    rw [hi] at h
    have hz:i.size=n:=by simpa using h
    simp [Go.sizeOf,typeInfo,hi,hz]
theorem itoa_agg {P:Program} {t:TypeId} {n e} (h:P.underlying t=some (.array n e)) (w:World):(isAgg t).run P w=.ok true w:=by
  simp [isAgg,run_underlying h]
theorem itoaLays0:Lays.n171 Tryd.prog itoaRen where
  mixed:=by kernel_rfl
  f129:=by kernel_rfl
  f171:=by kernel_rfl
  f243:=by kernel_rfl
  f246:=by kernel_rfl
  f283:=by kernel_rfl
  f284:=by kernel_rfl
  f285:=by kernel_rfl
  f286:=by kernel_rfl
  f317:=by kernel_rfl
  f318:=by kernel_rfl
  f319:=by kernel_rfl
  f320:=by kernel_rfl
  f337:=by kernel_rfl
  f338:=by kernel_rfl
  t0:=by kernel_rfl
  a0:=run_isAgg_plain (t:=itoaRen.t 0) (d:=(TypeDesc.tuple #[])) (by kernel_rfl) rfl
  z0:=itoa_size (by kernel_rfl)
  v0:=itoa_zero (by kernel_rfl)
  t2:=by kernel_rfl
  a2:=run_isAgg_plain (t:=itoaRen.t 2) (d:=(TypeDesc.int IntKind.i64)) (by kernel_rfl) rfl
  z2:=itoa_size (by kernel_rfl)
  v2:=itoa_zero (by kernel_rfl)
  t3:=by kernel_rfl
  a3:=run_isAgg_plain (t:=itoaRen.t 3) (d:=(TypeDesc.int IntKind.i64)) (by kernel_rfl) rfl
  z3:=itoa_size (by kernel_rfl)
  v3:=itoa_zero (by kernel_rfl)
  t4:=by kernel_rfl
  a4:=run_isAgg_plain (t:=itoaRen.t 4) (d:=(TypeDesc.bool)) (by kernel_rfl) rfl
  z4:=itoa_size (by kernel_rfl)
  v4:=itoa_zero (by kernel_rfl)
  t5:=by kernel_rfl
  a5:=run_isAgg_plain (t:=itoaRen.t 5) (d:=(TypeDesc.int IntKind.u8)) (by kernel_rfl) rfl
  z5:=itoa_size (by kernel_rfl)
  v5:=itoa_zero (by kernel_rfl)
  t9:=by kernel_rfl
  a9:=run_isAgg_plain (t:=itoaRen.t 9) (d:=(TypeDesc.string)) (by kernel_rfl) rfl
  z9:=itoa_size (by kernel_rfl)
  v9:=itoa_zero (by kernel_rfl)
  t20:=by kernel_rfl
  a20:=run_isAgg_plain (t:=itoaRen.t 20) (d:=(TypeDesc.interface #[])) (by kernel_rfl) rfl
  z20:=itoa_size (by kernel_rfl)
  v20:=itoa_zero (by kernel_rfl)
  t37:=by kernel_rfl
  a37:=run_isAgg_plain (t:=itoaRen.t 37) (d:=(TypeDesc.slice (itoaRen.t 5))) (by kernel_rfl) rfl
  z37:=itoa_size (by kernel_rfl)
  v37:=itoa_zero (by kernel_rfl)
  t46:=by kernel_rfl
  a46:=run_isAgg_plain (t:=itoaRen.t 46) (d:=(TypeDesc.int IntKind.u64)) (by kernel_rfl) rfl
  z46:=itoa_size (by kernel_rfl)
  v46:=itoa_zero (by kernel_rfl)
  t51:=by kernel_rfl
  a51:=run_isAgg_plain (t:=itoaRen.t 51) (d:=(TypeDesc.int IntKind.u32)) (by kernel_rfl) rfl
  z51:=itoa_size (by kernel_rfl)
  v51:=itoa_zero (by kernel_rfl)
  t53:=by kernel_rfl
  a53:=run_isAgg_plain (t:=itoaRen.t 53) (d:=(TypeDesc.int IntKind.u64)) (by kernel_rfl) rfl
  z53:=itoa_size (by kernel_rfl)
  v53:=itoa_zero (by kernel_rfl)
  t171:=by kernel_rfl
  a171:=itoa_agg (t:=itoaRen.t 171) (n:=24) (e:=(itoaRen.t 5)) (by kernel_rfl)
  z171:=itoa_size (by kernel_rfl)
  v171:=itoa_zero (by kernel_rfl)
  t173:=by kernel_rfl
  a173:=run_isAgg_plain (t:=itoaRen.t 173) (d:=(TypeDesc.tuple #[itoaRen.t 37,itoaRen.t 9])) (by kernel_rfl) rfl
  z173:=itoa_size (by kernel_rfl)
  v173:=itoa_zero (by kernel_rfl)
  t212:=by kernel_rfl
  a212:=itoa_agg (t:=itoaRen.t 212) (n:=20) (e:=(itoaRen.t 53)) (by kernel_rfl)
  z212:=itoa_size (by kernel_rfl)
  v212:=itoa_zero (by kernel_rfl)
  t213:=by kernel_rfl
  a213:=itoa_agg (t:=itoaRen.t 213) (n:=65) (e:=(itoaRen.t 5)) (by kernel_rfl)
  z213:=itoa_size (by kernel_rfl)
  t232:=by kernel_rfl
  a232:=itoa_agg (t:=itoaRen.t 232) (n:=32) (e:=(itoaRen.t 5)) (by kernel_rfl)
  z232:=itoa_size (by kernel_rfl)
  v232:=itoa_zero (by kernel_rfl)
  t233:=by kernel_rfl
  a233:=itoa_agg (t:=itoaRen.t 233) (n:=64) (e:=(itoaRen.t 5)) (by kernel_rfl)
  z233:=itoa_size (by kernel_rfl)
  v233:=itoa_zero (by kernel_rfl)
  g17:=by kernel_rfl
  g18:=by kernel_rfl
  g19:=by kernel_rfl
theorem itoaLays:LaysM.n171 Tryd.prog itoaRen:={ itoaLays0 with
  i0:=by kernel_rfl
  i2:=by kernel_rfl
  i3:=by kernel_rfl
  i4:=by kernel_rfl
  i5:=by kernel_rfl
  i9:=by kernel_rfl
  i20:=by kernel_rfl
  i37:=by kernel_rfl
  i46:=by kernel_rfl
  i51:=by kernel_rfl
  i53:=by kernel_rfl
  i171:=by kernel_rfl
  i173:=by kernel_rfl
  i212:=by kernel_rfl
  i232:=by kernel_rfl
  i233:=by kernel_rfl
  m17:=by kernel_rfl
  m18:=by kernel_rfl
  m19:=by kernel_rfl }
theorem fits_below {F:Nat→Prop} {w0 w w':World} {hp:HP} (h:Fits F w0 hp w) (b:RowKit.Below w.heap.size w w'):Fits F w0 hp w':=by
  refine ⟨fun k=>?_,fun k hk=>?_,b.os.trans h.os,b.tape.trans h.tape,b.output.trans h.output,Nat.le_trans h.size b.size⟩
  · have hk:=h.ent k
    by_cases hlt:k<w.heap.size
    · rw [b.block k hlt]; exact hk
    · have hn:w.heap[k]?=none:=by simp; omega
      rw [hn] at hk
      cases e:hp k with
      | none=>trivial
      | cells t cs sp=>rw [e] at hk; obtain ⟨_,_,hk⟩:=hk; cases hk
      | obj o=>rw [e] at hk; cases hk
  · obtain ⟨h1,h2,h3⟩:=h.fr k hk
    exact ⟨h1,Nat.lt_of_lt_of_le h2 b.size,(b.block k h2).trans h3⟩
/-- The table of the powers of ten, as it lies in memory. -/
def TabO (o:Obj):Prop:=∃ t z,o=.cells (Lib.pow10Tab.map fun z=>Value.int .u64 z).toArray t z
/-- It is what is known of the first block. -/
def TabR (o:Obj) (hp:HP):Prop:=hp 0=.obj o∧TabO o
theorem TabR.sub {o:Obj} {hp hp':HP} (h:TabR o hp) (hs:HSub hp hp'):TabR o hp':=⟨hs.obj h.1,h.2⟩
theorem TabR.tab {o : Obj} {hp : HP} (h : TabR o hp) {F w0 w} (hf : Fits F w0 hp w) : Lib.TabIs Tryd.prog w "internal/strconv.uint64pow10" .u64 Lib.pow10Tab := by
  obtain ⟨h,t,z,rfl⟩:=h
  have hb:w.heap[0]?=_:=h▸hf.ent 0
  have hg : Tryd.prog.globalNamed "internal/strconv.uint64pow10" = some 0 := by kernel_rfl
  unfold Lib.TabIs World.var?
  rw [hg]
  simp [hb]
theorem tabO_of {W : World} (h : Lib.TabIs Tryd.prog W "internal/strconv.uint64pow10" .u64 Lib.pow10Tab) : ∃ o, W.heap[0]? = some o ∧ TabO o := by
  have hg : Tryd.prog.globalNamed "internal/strconv.uint64pow10" = some 0 := by kernel_rfl
  unfold Lib.TabIs World.var? at h
  rw [hg] at h
  simp only [Option.bind_some] at h
  split at h
  · rename_i cs t z e
    cases h
    exact ⟨_,e,t,z,rfl⟩
  · cases h
theorem C116 {o:Obj} {n:Int} {hp:HP} {K:Value→HP→Prop} (ht:TabR o hp) (h0:-9223372036854775808≤n∧n≤9223372036854775807) (h:K (.string ⟨(Lib.itoa n).toArray⟩) hp):CF Tryd.prog 116 [.int .i64 n] hp K:=
  .inl ⟨by kernel_rfl,fun F w hf=>(Any.strconv_Itoa itoaLays n h0.1 h0.2 w (ht.tab hf)).mono fun e w' ⟨he,k,os,hw⟩=>⟨_,hp,he,fits_below hf (by subst hw; exact ⟨rfl,rfl,rfl,by simp [Sort.grow,World.drewN],fun k hk=>by simp [Sort.grow,World.drewN,Array.getElem?_append,hk]⟩),h⟩⟩
end Go.Proofs
set_option linter.unusedVariables false
set_option maxRecDepth 20000
set_option maxHeartbeats 4000000
namespace Go.Proofs
open Go Go.HL
section
variable {e:Env} {x0 x1:List Value} {hp:HP} {K:Env→PV→HP→Prop}
abbrev R85 (p n:Nat):=RW Tryd.prog 22 [] (opsAt Tryd.f85 (pth p)) (List.range n)
theorem F85_r0:R85 2 3 (w2 e 1 (sA x1) 0 (sA x0)) V0 hp K=
    (∀ b1:Nat,hp b1=.none→(∀ b2:Nat,(HP.set hp b1 (.cells 34 x0 0)) b2=.none→(K (w5 e 1 (sA x1) 0 (sA x0) 2 (sQ b1 0) 3 (sQ b2 0) 4 (sV (.string (⟨#[]⟩:ByteArray)))) V0 (HP.set (HP.set hp b1 (.cells 34 x0 0)) b2 (.cells 34 x1 0))))):=by kernel_rfl
theorem F85_r1 {e:Env} {x2:OA} {x3:OA} {hp:HP} {K:Env→PV→HP→Prop}:RW Tryd.prog 22 [] (opsAt Tryd.f85 (pth 5)) [0,1,2,3,4,5,6,7,8,9,10,11,12,13,14,15,16,17] (w2 e 3 (sP x3) 2 (sP x2)) V0 hp K=
    (ptrN x2 fun b1 o2=>ldV (HP.cell hp b1 (o2+4)) fun v3=>intV v3 .i64 fun i4=>CF Tryd.prog 116 [(.int .i64 i4)] hp fun u5 h6=>strV u5 fun s7=>(ByteArray.size s7+ByteArray.size (⟨#[32]⟩:ByteArray)≤9223372036854775807)∧(ptrN x3 fun b8 o9=>ldV (HP.cell h6 b8 (o9+4)) fun v10=>intV v10 .i64 fun i11=>CF Tryd.prog 116 [(.int .i64 i11)] h6 fun u12 h13=>strV u12 fun s14=>(ByteArray.size (s7++(⟨#[32]⟩:ByteArray))+ByteArray.size s14≤9223372036854775807)∧((ByteArray.size ((s7++(⟨#[32]⟩:ByteArray))++s14)+ByteArray.size (⟨#[32]⟩:ByteArray)≤9223372036854775807)∧(ptrN x2 fun b15 o16=>rdS Tryd.prog (convert 199 9 (.slice (some ⟨b15,(o16+0),none⟩) 4 4)) h13 fun u17=>strV u17 fun s18=>(ByteArray.size (((s7++(⟨#[32]⟩:ByteArray))++s14)++(⟨#[32]⟩:ByteArray))+ByteArray.size s18≤9223372036854775807)∧(ptrN x3 fun b19 o20=>rdS Tryd.prog (convert 199 9 (.slice (some ⟨b19,(o20+0),none⟩) 4 4)) h13 fun u21=>strV u21 fun s22=>(ByteArray.size ((((s7++(⟨#[32]⟩:ByteArray))++s14)++(⟨#[32]⟩:ByteArray))++s18)+ByteArray.size s22≤9223372036854775807)∧(K (w4 (w8 (w8 e 3 (sP x3) 2 (sP x2) 5 (sQ b1 (o2+4)) 6 (sI i4) 7 (sT s7) 8 (sV (.string (s7++(⟨#[32]⟩:ByteArray)))) 9 (sQ b8 (o9+4)) 10 (sI i11)) 11 (sT s14) 12 (sV (.string ((s7++(⟨#[32]⟩:ByteArray))++s14))) 13 (sV (.string (((s7++(⟨#[32]⟩:ByteArray))++s14)++(⟨#[32]⟩:ByteArray)))) 14 (sQ b15 (o16+0)) 15 (sV (.slice (some ⟨b15,(o16+0),none⟩) 4 4)) 16 (sT s18) 17 (sV (.string ((((s7++(⟨#[32]⟩:ByteArray))++s14)++(⟨#[32]⟩:ByteArray))++s18))) 18 (sQ b19 (o20+0))) 19 (sV (.slice (some ⟨b19,(o20+0),none⟩) 4 4)) 20 (sT s22) 21 (sV (.string (((((s7++(⟨#[32]⟩:ByteArray))++s14)++(⟨#[32]⟩:ByteArray))++s18)++s22))) 4 (sV (.string (((((s7++(⟨#[32]⟩:ByteArray))++s14)++(⟨#[32]⟩:ByteArray))++s18)++s22)))) V0 h13)))))):=by kernel_rfl
theorem F85_r2 {e:Env} {x2:OA} {x3:OA} {hp:HP} {K:Env→PV→HP→Prop}:RW Tryd.prog 22 [] (opsAt Tryd.f85 (pth 5)) [0,1,2,3,4,5,9,10,13,14,15,6,7,8,11,12,16,17] (w2 e 3 (sP x3) 2 (sP x2)) V0 hp K=
    (ptrN x2 fun b1 o2=>ldV (HP.cell hp b1 (o2+4)) fun v3=>intV v3 .i64 fun i4=>CF Tryd.prog 116 [(.int .i64 i4)] hp fun u5 h6=>strV u5 fun s7=>(ByteArray.size s7+ByteArray.size (⟨#[32]⟩:ByteArray)≤9223372036854775807)∧(ptrN x3 fun b8 o9=>ldV (HP.cell h6 b8 (o9+4)) fun v10=>intV v10 .i64 fun i11=>ptrN x2 fun b12 o13=>ptrN x3 fun b14 o15=>rdS Tryd.prog (convert 199 9 (.slice (some ⟨b14,(o15+0),none⟩) 4 4)) h6 fun u16=>strV u16 fun s17=>CF Tryd.prog 116 [(.int .i64 i11)] h6 fun u18 h19=>strV u18 fun s20=>(ByteArray.size (s7++(⟨#[32]⟩:ByteArray))+ByteArray.size s20≤9223372036854775807)∧((ByteArray.size ((s7++(⟨#[32]⟩:ByteArray))++s20)+ByteArray.size (⟨#[32]⟩:ByteArray)≤9223372036854775807)∧(rdS Tryd.prog (convert 199 9 (.slice (some ⟨b12,(o13+0),none⟩) 4 4)) h19 fun u21=>strV u21 fun s22=>(ByteArray.size (((s7++(⟨#[32]⟩:ByteArray))++s20)++(⟨#[32]⟩:ByteArray))+ByteArray.size s22≤9223372036854775807)∧((ByteArray.size ((((s7++(⟨#[32]⟩:ByteArray))++s20)++(⟨#[32]⟩:ByteArray))++s22)+ByteArray.size s17≤9223372036854775807)∧(K (w4 (w8 (w8 e 3 (sP x3) 2 (sP x2) 5 (sQ b1 (o2+4)) 6 (sI i4) 7 (sT s7) 8 (sV (.string (s7++(⟨#[32]⟩:ByteArray)))) 9 (sQ b8 (o9+4)) 10 (sI i11)) 14 (sQ b12 (o13+0)) 15 (sV (.slice (some ⟨b12,(o13+0),none⟩) 4 4)) 18 (sQ b14 (o15+0)) 19 (sV (.slice (some ⟨b14,(o15+0),none⟩) 4 4)) 20 (sT s17) 11 (sT s20) 12 (sV (.string ((s7++(⟨#[32]⟩:ByteArray))++s20))) 13 (sV (.string (((s7++(⟨#[32]⟩:ByteArray))++s20)++(⟨#[32]⟩:ByteArray))))) 16 (sT s22) 17 (sV (.string ((((s7++(⟨#[32]⟩:ByteArray))++s20)++(⟨#[32]⟩:ByteArray))++s22))) 21 (sV (.string (((((s7++(⟨#[32]⟩:ByteArray))++s20)++(⟨#[32]⟩:ByteArray))++s22)++s17))) 4 (sV (.string (((((s7++(⟨#[32]⟩:ByteArray))++s20)++(⟨#[32]⟩:ByteArray))++s22)++s17)))) V0 h19)))))):=by kernel_rfl
theorem F85_r3 {e:Env} {x2:OA} {x3:OA} {hp:HP} {K:Env→PV→HP→Prop}:RW Tryd.prog 22 [] (opsAt Tryd.f85 (pth 5)) [0,1,4,9,10,13,14,15,2,3,5,6,7,8,11,12,16,17] (w2 e 3 (sP x3) 2 (sP x2)) V0 hp K=
    (ptrN x2 fun b1 o2=>ldV (HP.cell hp b1 (o2+4)) fun v3=>intV v3 .i64 fun i4=>ptrN x3 fun b5 o6=>ptrN x2 fun b7 o8=>ptrN x3 fun b9 o10=>rdS Tryd.prog (convert 199 9 (.slice (some ⟨b9,(o10+0),none⟩) 4 4)) hp fun u11=>strV u11 fun s12=>CF Tryd.prog 116 [(.int .i64 i4)] hp fun u13 h14=>strV u13 fun s15=>(ByteArray.size s15+ByteArray.size (⟨#[32]⟩:ByteArray)≤9223372036854775807)∧(ldV (HP.cell h14 b5 (o6+4)) fun v16=>intV v16 .i64 fun i17=>CF Tryd.prog 116 [(.int .i64 i17)] h14 fun u18 h19=>strV u18 fun s20=>(ByteArray.size (s15++(⟨#[32]⟩:ByteArray))+ByteArray.size s20≤9223372036854775807)∧((ByteArray.size ((s15++(⟨#[32]⟩:ByteArray))++s20)+ByteArray.size (⟨#[32]⟩:ByteArray)≤9223372036854775807)∧(rdS Tryd.prog (convert 199 9 (.slice (some ⟨b7,(o8+0),none⟩) 4 4)) h19 fun u21=>strV u21 fun s22=>(ByteArray.size (((s15++(⟨#[32]⟩:ByteArray))++s20)++(⟨#[32]⟩:ByteArray))+ByteArray.size s22≤9223372036854775807)∧((ByteArray.size ((((s15++(⟨#[32]⟩:ByteArray))++s20)++(⟨#[32]⟩:ByteArray))++s22)+ByteArray.size s12≤9223372036854775807)∧(K (w4 (w8 (w8 e 3 (sP x3) 2 (sP x2) 5 (sQ b1 (o2+4)) 6 (sI i4) 9 (sQ b5 (o6+4)) 14 (sQ b7 (o8+0)) 15 (sV (.slice (some ⟨b7,(o8+0),none⟩) 4 4)) 18 (sQ b9 (o10+0))) 19 (sV (.slice (some ⟨b9,(o10+0),none⟩) 4 4)) 20 (sT s12) 7 (sT s15) 8 (sV (.string (s15++(⟨#[32]⟩:ByteArray)))) 10 (sI i17) 11 (sT s20) 12 (sV (.string ((s15++(⟨#[32]⟩:ByteArray))++s20))) 13 (sV (.string (((s15++(⟨#[32]⟩:ByteArray))++s20)++(⟨#[32]⟩:ByteArray))))) 16 (sT s22) 17 (sV (.string ((((s15++(⟨#[32]⟩:ByteArray))++s20)++(⟨#[32]⟩:ByteArray))++s22))) 21 (sV (.string (((((s15++(⟨#[32]⟩:ByteArray))++s20)++(⟨#[32]⟩:ByteArray))++s22)++s12))) 4 (sV (.string (((((s15++(⟨#[32]⟩:ByteArray))++s20)++(⟨#[32]⟩:ByteArray))++s22)++s12)))) V0 h19)))))):=by kernel_rfl
theorem F85_r4 {e:Env} {x2:OA} {x3:OA} {hp:HP} {K:Env→PV→HP→Prop}:RW Tryd.prog 22 [] (opsAt Tryd.f85 (pth 5)) [0,1,2,3,4,5,9,10,11,6,7,8,12,13,14,15,16,17] (w2 e 3 (sP x3) 2 (sP x2)) V0 hp K=
    (ptrN x2 fun b1 o2=>ldV (HP.cell hp b1 (o2+4)) fun v3=>intV v3 .i64 fun i4=>CF Tryd.prog 116 [(.int .i64 i4)] hp fun u5 h6=>strV u5 fun s7=>(ByteArray.size s7+ByteArray.size (⟨#[32]⟩:ByteArray)≤9223372036854775807)∧(ptrN x3 fun b8 o9=>ldV (HP.cell h6 b8 (o9+4)) fun v10=>intV v10 .i64 fun i11=>ptrN x2 fun b12 o13=>rdS Tryd.prog (convert 199 9 (.slice (some ⟨b12,(o13+0),none⟩) 4 4)) h6 fun u14=>strV u14 fun s15=>CF Tryd.prog 116 [(.int .i64 i11)] h6 fun u16 h17=>strV u16 fun s18=>(ByteArray.size (s7++(⟨#[32]⟩:ByteArray))+ByteArray.size s18≤9223372036854775807)∧((ByteArray.size ((s7++(⟨#[32]⟩:ByteArray))++s18)+ByteArray.size (⟨#[32]⟩:ByteArray)≤9223372036854775807)∧((ByteArray.size (((s7++(⟨#[32]⟩:ByteArray))++s18)++(⟨#[32]⟩:ByteArray))+ByteArray.size s15≤9223372036854775807)∧(ptrN x3 fun b19 o20=>rdS Tryd.prog (convert 199 9 (.slice (some ⟨b19,(o20+0),none⟩) 4 4)) h17 fun u21=>strV u21 fun s22=>(ByteArray.size ((((s7++(⟨#[32]⟩:ByteArray))++s18)++(⟨#[32]⟩:ByteArray))++s15)+ByteArray.size s22≤9223372036854775807)∧(K (w4 (w8 (w8 e 3 (sP x3) 2 (sP x2) 5 (sQ b1 (o2+4)) 6 (sI i4) 7 (sT s7) 8 (sV (.string (s7++(⟨#[32]⟩:ByteArray)))) 9 (sQ b8 (o9+4)) 10 (sI i11)) 14 (sQ b12 (o13+0)) 15 (sV (.slice (some ⟨b12,(o13+0),none⟩) 4 4)) 16 (sT s15) 11 (sT s18) 12 (sV (.string ((s7++(⟨#[32]⟩:ByteArray))++s18))) 13 (sV (.string (((s7++(⟨#[32]⟩:ByteArray))++s18)++(⟨#[32]⟩:ByteArray)))) 17 (sV (.string ((((s7++(⟨#[32]⟩:ByteArray))++s18)++(⟨#[32]⟩:ByteArray))++s15))) 18 (sQ b19 (o20+0))) 19 (sV (.slice (some ⟨b19,(o20+0),none⟩) 4 4)) 20 (sT s22) 21 (sV (.string (((((s7++(⟨#[32]⟩:ByteArray))++s18)++(⟨#[32]⟩:ByteArray))++s15)++s22))) 4 (sV (.string (((((s7++(⟨#[32]⟩:ByteArray))++s18)++(⟨#[32]⟩:ByteArray))++s15)++s22)))) V0 h17)))))):=by kernel_rfl
theorem F85_r5 {e:Env} {x2:OA} {x3:OA} {hp:HP} {K:Env→PV→HP→Prop}:RW Tryd.prog 22 [] (opsAt Tryd.f85 (pth 5)) [0,1,2,3,4,5,9,10,11,13,14,15,6,7,8,12,16,17] (w2 e 3 (sP x3) 2 (sP x2)) V0 hp K=
    (ptrN x2 fun b1 o2=>ldV (HP.cell hp b1 (o2+4)) fun v3=>intV v3 .i64 fun i4=>CF Tryd.prog 116 [(.int .i64 i4)] hp fun u5 h6=>strV u5 fun s7=>(ByteArray.size s7+ByteArray.size (⟨#[32]⟩:ByteArray)≤9223372036854775807)∧(ptrN x3 fun b8 o9=>ldV (HP.cell h6 b8 (o9+4)) fun v10=>intV v10 .i64 fun i11=>ptrN x2 fun b12 o13=>rdS Tryd.prog (convert 199 9 (.slice (some ⟨b12,(o13+0),none⟩) 4 4)) h6 fun u14=>strV u14 fun s15=>ptrN x3 fun b16 o17=>rdS Tryd.prog (convert 199 9 (.slice (some ⟨b16,(o17+0),none⟩) 4 4)) h6 fun u18=>strV u18 fun s19=>CF Tryd.prog 116 [(.int .i64 i11)] h6 fun u20 h21=>strV u20 fun s22=>(ByteArray.size (s7++(⟨#[32]⟩:ByteArray))+ByteArray.size s22≤9223372036854775807)∧((ByteArray.size ((s7++(⟨#[32]⟩:ByteArray))++s22)+ByteArray.size (⟨#[32]⟩:ByteArray)≤9223372036854775807)∧((ByteArray.size (((s7++(⟨#[32]⟩:ByteArray))++s22)++(⟨#[32]⟩:ByteArray))+ByteArray.size s15≤9223372036854775807)∧((ByteArray.size ((((s7++(⟨#[32]⟩:ByteArray))++s22)++(⟨#[32]⟩:ByteArray))++s15)+ByteArray.size s19≤9223372036854775807)∧(K (w4 (w8 (w8 e 3 (sP x3) 2 (sP x2) 5 (sQ b1 (o2+4)) 6 (sI i4) 7 (sT s7) 8 (sV (.string (s7++(⟨#[32]⟩:ByteArray)))) 9 (sQ b8 (o9+4)) 10 (sI i11)) 14 (sQ b12 (o13+0)) 15 (sV (.slice (some ⟨b12,(o13+0),none⟩) 4 4)) 16 (sT s15) 18 (sQ b16 (o17+0)) 19 (sV (.slice (some ⟨b16,(o17+0),none⟩) 4 4)) 20 (sT s19) 11 (sT s22) 12 (sV (.string ((s7++(⟨#[32]⟩:ByteArray))++s22)))) 13 (sV (.string (((s7++(⟨#[32]⟩:ByteArray))++s22)++(⟨#[32]⟩:ByteArray)))) 17 (sV (.string ((((s7++(⟨#[32]⟩:ByteArray))++s22)++(⟨#[32]⟩:ByteArray))++s15))) 21 (sV (.string (((((s7++(⟨#[32]⟩:ByteArray))++s22)++(⟨#[32]⟩:ByteArray))++s15)++s19))) 4 (sV (.string (((((s7++(⟨#[32]⟩:ByteArray))++s22)++(⟨#[32]⟩:ByteArray))++s15)++s19)))) V0 h21)))))):=by kernel_rfl
theorem F85_r6 {e:Env} {x2:OA} {x3:OA} {hp:HP} {K:Env→PV→HP→Prop}:RW Tryd.prog 22 [] (opsAt Tryd.f85 (pth 5)) [0,1,4,9,10,13,14,15,2,3,5,11,6,7,8,12,16,17] (w2 e 3 (sP x3) 2 (sP x2)) V0 hp K=
    (ptrN x2 fun b1 o2=>ldV (HP.cell hp b1 (o2+4)) fun v3=>intV v3 .i64 fun i4=>ptrN x3 fun b5 o6=>ptrN x2 fun b7 o8=>ptrN x3 fun b9 o10=>rdS Tryd.prog (convert 199 9 (.slice (some ⟨b9,(o10+0),none⟩) 4 4)) hp fun u11=>strV u11 fun s12=>CF Tryd.prog 116 [(.int .i64 i4)] hp fun u13 h14=>strV u13 fun s15=>(ByteArray.size s15+ByteArray.size (⟨#[32]⟩:ByteArray)≤9223372036854775807)∧(ldV (HP.cell h14 b5 (o6+4)) fun v16=>intV v16 .i64 fun i17=>rdS Tryd.prog (convert 199 9 (.slice (some ⟨b7,(o8+0),none⟩) 4 4)) h14 fun u18=>strV u18 fun s19=>CF Tryd.prog 116 [(.int .i64 i17)] h14 fun u20 h21=>strV u20 fun s22=>(ByteArray.size (s15++(⟨#[32]⟩:ByteArray))+ByteArray.size s22≤9223372036854775807)∧((ByteArray.size ((s15++(⟨#[32]⟩:ByteArray))++s22)+ByteArray.size (⟨#[32]⟩:ByteArray)≤9223372036854775807)∧((ByteArray.size (((s15++(⟨#[32]⟩:ByteArray))++s22)++(⟨#[32]⟩:ByteArray))+ByteArray.size s19≤9223372036854775807)∧((ByteArray.size ((((s15++(⟨#[32]⟩:ByteArray))++s22)++(⟨#[32]⟩:ByteArray))++s19)+ByteArray.size s12≤9223372036854775807)∧(K (w4 (w8 (w8 e 3 (sP x3) 2 (sP x2) 5 (sQ b1 (o2+4)) 6 (sI i4) 9 (sQ b5 (o6+4)) 14 (sQ b7 (o8+0)) 15 (sV (.slice (some ⟨b7,(o8+0),none⟩) 4 4)) 18 (sQ b9 (o10+0))) 19 (sV (.slice (some ⟨b9,(o10+0),none⟩) 4 4)) 20 (sT s12) 7 (sT s15) 8 (sV (.string (s15++(⟨#[32]⟩:ByteArray)))) 10 (sI i17) 16 (sT s19) 11 (sT s22) 12 (sV (.string ((s15++(⟨#[32]⟩:ByteArray))++s22)))) 13 (sV (.string (((s15++(⟨#[32]⟩:ByteArray))++s22)++(⟨#[32]⟩:ByteArray)))) 17 (sV (.string ((((s15++(⟨#[32]⟩:ByteArray))++s22)++(⟨#[32]⟩:ByteArray))++s19))) 21 (sV (.string (((((s15++(⟨#[32]⟩:ByteArray))++s22)++(⟨#[32]⟩:ByteArray))++s19)++s12))) 4 (sV (.string (((((s15++(⟨#[32]⟩:ByteArray))++s22)++(⟨#[32]⟩:ByteArray))++s19)++s12)))) V0 h21)))))):=by kernel_rfl
theorem F85_r7 {e:Env} {x2:OA} {x3:OA} {hp:HP} {K:Env→PV→HP→Prop}:RW Tryd.prog 22 [] (opsAt Tryd.f85 (pth 5)) [0,1,4,9,10,11,2,3,5,6,7,8,12,13,14,15,16,17] (w2 e 3 (sP x3) 2 (sP x2)) V0 hp K=
    (ptrN x2 fun b1 o2=>ldV (HP.cell hp b1 (o2+4)) fun v3=>intV v3 .i64 fun i4=>ptrN x3 fun b5 o6=>ptrN x2 fun b7 o8=>rdS Tryd.prog (convert 199 9 (.slice (some ⟨b7,(o8+0),none⟩) 4 4)) hp fun u9=>strV u9 fun s10=>CF Tryd.prog 116 [(.int .i64 i4)] hp fun u11 h12=>strV u11 fun s13=>(ByteArray.size s13+ByteArray.size (⟨#[32]⟩:ByteArray)≤9223372036854775807)∧(ldV (HP.cell h12 b5 (o6+4)) fun v14=>intV v14 .i64 fun i15=>CF Tryd.prog 116 [(.int .i64 i15)] h12 fun u16 h17=>strV u16 fun s18=>(ByteArray.size (s13++(⟨#[32]⟩:ByteArray))+ByteArray.size s18≤9223372036854775807)∧((ByteArray.size ((s13++(⟨#[32]⟩:ByteArray))++s18)+ByteArray.size (⟨#[32]⟩:ByteArray)≤9223372036854775807)∧((ByteArray.size (((s13++(⟨#[32]⟩:ByteArray))++s18)++(⟨#[32]⟩:ByteArray))+ByteArray.size s10≤9223372036854775807)∧(ptrN x3 fun b19 o20=>rdS Tryd.prog (convert 199 9 (.slice (some ⟨b19,(o20+0),none⟩) 4 4)) h17 fun u21=>strV u21 fun s22=>(ByteArray.size ((((s13++(⟨#[32]⟩:ByteArray))++s18)++(⟨#[32]⟩:ByteArray))++s10)+ByteArray.size s22≤9223372036854775807)∧(K (w4 (w8 (w8 e 3 (sP x3) 2 (sP x2) 5 (sQ b1 (o2+4)) 6 (sI i4) 9 (sQ b5 (o6+4)) 14 (sQ b7 (o8+0)) 15 (sV (.slice (some ⟨b7,(o8+0),none⟩) 4 4)) 16 (sT s10)) 7 (sT s13) 8 (sV (.string (s13++(⟨#[32]⟩:ByteArray)))) 10 (sI i15) 11 (sT s18) 12 (sV (.string ((s13++(⟨#[32]⟩:ByteArray))++s18))) 13 (sV (.string (((s13++(⟨#[32]⟩:ByteArray))++s18)++(⟨#[32]⟩:ByteArray)))) 17 (sV (.string ((((s13++(⟨#[32]⟩:ByteArray))++s18)++(⟨#[32]⟩:ByteArray))++s10))) 18 (sQ b19 (o20+0))) 19 (sV (.slice (some ⟨b19,(o20+0),none⟩) 4 4)) 20 (sT s22) 21 (sV (.string (((((s13++(⟨#[32]⟩:ByteArray))++s18)++(⟨#[32]⟩:ByteArray))++s10)++s22))) 4 (sV (.string (((((s13++(⟨#[32]⟩:ByteArray))++s18)++(⟨#[32]⟩:ByteArray))++s10)++s22)))) V0 h17)))))):=by kernel_rfl
theorem F85_r8 {e:Env} {x2:OA} {x3:OA} {hp:HP} {K:Env→PV→HP→Prop}:RW Tryd.prog 22 [] (opsAt Tryd.f85 (pth 5)) [0,1,4,9,10,11,2,3,5,13,14,15,6,7,8,12,16,17] (w2 e 3 (sP x3) 2 (sP x2)) V0 hp K=
    (ptrN x2 fun b1 o2=>ldV (HP.cell hp b1 (o2+4)) fun v3=>intV v3 .i64 fun i4=>ptrN x3 fun b5 o6=>ptrN x2 fun b7 o8=>rdS Tryd.prog (convert 199 9 (.slice (some ⟨b7,(o8+0),none⟩) 4 4)) hp fun u9=>strV u9 fun s10=>CF Tryd.prog 116 [(.int .i64 i4)] hp fun u11 h12=>strV u11 fun s13=>(ByteArray.size s13+ByteArray.size (⟨#[32]⟩:ByteArray)≤9223372036854775807)∧(ldV (HP.cell h12 b5 (o6+4)) fun v14=>intV v14 .i64 fun i15=>ptrN x3 fun b16 o17=>rdS Tryd.prog (convert 199 9 (.slice (some ⟨b16,(o17+0),none⟩) 4 4)) h12 fun u18=>strV u18 fun s19=>CF Tryd.prog 116 [(.int .i64 i15)] h12 fun u20 h21=>strV u20 fun s22=>(ByteArray.size (s13++(⟨#[32]⟩:ByteArray))+ByteArray.size s22≤9223372036854775807)∧((ByteArray.size ((s13++(⟨#[32]⟩:ByteArray))++s22)+ByteArray.size (⟨#[32]⟩:ByteArray)≤9223372036854775807)∧((ByteArray.size (((s13++(⟨#[32]⟩:ByteArray))++s22)++(⟨#[32]⟩:ByteArray))+ByteArray.size s10≤9223372036854775807)∧((ByteArray.size ((((s13++(⟨#[32]⟩:ByteArray))++s22)++(⟨#[32]⟩:ByteArray))++s10)+ByteArray.size s19≤9223372036854775807)∧(K (w4 (w8 (w8 e 3 (sP x3) 2 (sP x2) 5 (sQ b1 (o2+4)) 6 (sI i4) 9 (sQ b5 (o6+4)) 14 (sQ b7 (o8+0)) 15 (sV (.slice (some ⟨b7,(o8+0),none⟩) 4 4)) 16 (sT s10)) 7 (sT s13) 8 (sV (.string (s13++(⟨#[32]⟩:ByteArray)))) 10 (sI i15) 18 (sQ b16 (o17+0)) 19 (sV (.slice (some ⟨b16,(o17+0),none⟩) 4 4)) 20 (sT s19) 11 (sT s22) 12 (sV (.string ((s13++(⟨#[32]⟩:ByteArray))++s22)))) 13 (sV (.string (((s13++(⟨#[32]⟩:ByteArray))++s22)++(⟨#[32]⟩:ByteArray)))) 17 (sV (.string ((((s13++(⟨#[32]⟩:ByteArray))++s22)++(⟨#[32]⟩:ByteArray))++s10))) 21 (sV (.string (((((s13++(⟨#[32]⟩:ByteArray))++s22)++(⟨#[32]⟩:ByteArray))++s10)++s19))) 4 (sV (.string (((((s13++(⟨#[32]⟩:ByteArray))++s22)++(⟨#[32]⟩:ByteArray))++s10)++s19)))) V0 h21)))))):=by kernel_rfl
theorem F85_r9 {e:Env} {x2:OA} {x3:OA} {hp:HP} {K:Env→PV→HP→Prop}:RW Tryd.prog 22 [] (opsAt Tryd.f85 (pth 5)) [0,1,4,9,10,11,13,14,15,2,3,5,6,7,8,12,16,17] (w2 e 3 (sP x3) 2 (sP x2)) V0 hp K=
    (ptrN x2 fun b1 o2=>ldV (HP.cell hp b1 (o2+4)) fun v3=>intV v3 .i64 fun i4=>ptrN x3 fun b5 o6=>ptrN x2 fun b7 o8=>rdS Tryd.prog (convert 199 9 (.slice (some ⟨b7,(o8+0),none⟩) 4 4)) hp fun u9=>strV u9 fun s10=>ptrN x3 fun b11 o12=>rdS Tryd.prog (convert 199 9 (.slice (some ⟨b11,(o12+0),none⟩) 4 4)) hp fun u13=>strV u13 fun s14=>CF Tryd.prog 116 [(.int .i64 i4)] hp fun u15 h16=>strV u15 fun s17=>(ByteArray.size s17+ByteArray.size (⟨#[32]⟩:ByteArray)≤9223372036854775807)∧(ldV (HP.cell h16 b5 (o6+4)) fun v18=>intV v18 .i64 fun i19=>CF Tryd.prog 116 [(.int .i64 i19)] h16 fun u20 h21=>strV u20 fun s22=>(ByteArray.size (s17++(⟨#[32]⟩:ByteArray))+ByteArray.size s22≤9223372036854775807)∧((ByteArray.size ((s17++(⟨#[32]⟩:ByteArray))++s22)+ByteArray.size (⟨#[32]⟩:ByteArray)≤9223372036854775807)∧((ByteArray.size (((s17++(⟨#[32]⟩:ByteArray))++s22)++(⟨#[32]⟩:ByteArray))+ByteArray.size s10≤9223372036854775807)∧((ByteArray.size ((((s17++(⟨#[32]⟩:ByteArray))++s22)++(⟨#[32]⟩:ByteArray))++s10)+ByteArray.size s14≤9223372036854775807)∧(K (w4 (w8 (w8 e 3 (sP x3) 2 (sP x2) 5 (sQ b1 (o2+4)) 6 (sI i4) 9 (sQ b5 (o6+4)) 14 (sQ b7 (o8+0)) 15 (sV (.slice (some ⟨b7,(o8+0),none⟩) 4 4)) 16 (sT s10)) 18 (sQ b11 (o12+0)) 19 (sV (.slice (some ⟨b11,(o12+0),none⟩) 4 4)) 20 (sT s14) 7 (sT s17) 8 (sV (.string (s17++(⟨#[32]⟩:ByteArray)))) 10 (sI i19) 11 (sT s22) 12 (sV (.string ((s17++(⟨#[32]⟩:ByteArray))++s22)))) 13 (sV (.string (((s17++(⟨#[32]⟩:ByteArray))++s22)++(⟨#[32]⟩:ByteArray)))) 17 (sV (.string ((((s17++(⟨#[32]⟩:ByteArray))++s22)++(⟨#[32]⟩:ByteArray))++s10))) 21 (sV (.string (((((s17++(⟨#[32]⟩:ByteArray))++s22)++(⟨#[32]⟩:ByteArray))++s10)++s14))) 4 (sV (.string (((((s17++(⟨#[32]⟩:ByteArray))++s22)++(⟨#[32]⟩:ByteArray))++s10)++s14)))) V0 h21)))))):=by kernel_rfl
theorem F85_r10 {e:Env} {x2:OA} {x3:OA} {hp:HP} {K:Env→PV→HP→Prop}:RW Tryd.prog 22 [] (opsAt Tryd.f85 (pth 5)) [0,1,4,5,2,3,6,7,8,9,10,11,12,13,14,15,16,17] (w2 e 3 (sP x3) 2 (sP x2)) V0 hp K=
    (ptrN x2 fun b1 o2=>ldV (HP.cell hp b1 (o2+4)) fun v3=>intV v3 .i64 fun i4=>ptrN x3 fun b5 o6=>ldV (HP.cell hp b5 (o6+4)) fun v7=>intV v7 .i64 fun i8=>CF Tryd.prog 116 [(.int .i64 i4)] hp fun u9 h10=>strV u9 fun s11=>(ByteArray.size s11+ByteArray.size (⟨#[32]⟩:ByteArray)≤9223372036854775807)∧(CF Tryd.prog 116 [(.int .i64 i8)] h10 fun u12 h13=>strV u12 fun s14=>(ByteArray.size (s11++(⟨#[32]⟩:ByteArray))+ByteArray.size s14≤9223372036854775807)∧((ByteArray.size ((s11++(⟨#[32]⟩:ByteArray))++s14)+ByteArray.size (⟨#[32]⟩:ByteArray)≤9223372036854775807)∧(ptrN x2 fun b15 o16=>rdS Tryd.prog (convert 199 9 (.slice (some ⟨b15,(o16+0),none⟩) 4 4)) h13 fun u17=>strV u17 fun s18=>(ByteArray.size (((s11++(⟨#[32]⟩:ByteArray))++s14)++(⟨#[32]⟩:ByteArray))+ByteArray.size s18≤9223372036854775807)∧(ptrN x3 fun b19 o20=>rdS Tryd.prog (convert 199 9 (.slice (some ⟨b19,(o20+0),none⟩) 4 4)) h13 fun u21=>strV u21 fun s22=>(ByteArray.size ((((s11++(⟨#[32]⟩:ByteArray))++s14)++(⟨#[32]⟩:ByteArray))++s18)+ByteArray.size s22≤9223372036854775807)∧(K (w4 (w8 (w8 e 3 (sP x3) 2 (sP x2) 5 (sQ b1 (o2+4)) 6 (sI i4) 9 (sQ b5 (o6+4)) 10 (sI i8) 7 (sT s11) 8 (sV (.string (s11++(⟨#[32]⟩:ByteArray))))) 11 (sT s14) 12 (sV (.string ((s11++(⟨#[32]⟩:ByteArray))++s14))) 13 (sV (.string (((s11++(⟨#[32]⟩:ByteArray))++s14)++(⟨#[32]⟩:ByteArray)))) 14 (sQ b15 (o16+0)) 15 (sV (.slice (some ⟨b15,(o16+0),none⟩) 4 4)) 16 (sT s18) 17 (sV (.string ((((s11++(⟨#[32]⟩:ByteArray))++s14)++(⟨#[32]⟩:ByteArray))++s18))) 18 (sQ b19 (o20+0))) 19 (sV (.slice (some ⟨b19,(o20+0),none⟩) 4 4)) 20 (sT s22) 21 (sV (.string (((((s11++(⟨#[32]⟩:ByteArray))++s14)++(⟨#[32]⟩:ByteArray))++s18)++s22))) 4 (sV (.string (((((s11++(⟨#[32]⟩:ByteArray))++s14)++(⟨#[32]⟩:ByteArray))++s18)++s22)))) V0 h13)))))):=by kernel_rfl
theorem F85_r11 {e:Env} {x2:OA} {x3:OA} {hp:HP} {K:Env→PV→HP→Prop}:RW Tryd.prog 22 [] (opsAt Tryd.f85 (pth 5)) [0,1,4,5,2,3,9,10,13,14,15,6,7,8,11,12,16,17] (w2 e 3 (sP x3) 2 (sP x2)) V0 hp K=
    (ptrN x2 fun b1 o2=>ldV (HP.cell hp b1 (o2+4)) fun v3=>intV v3 .i64 fun i4=>ptrN x3 fun b5 o6=>ldV (HP.cell hp b5 (o6+4)) fun v7=>intV v7 .i64 fun i8=>CF Tryd.prog 116 [(.int .i64 i4)] hp fun u9 h10=>strV u9 fun s11=>(ByteArray.size s11+ByteArray.size (⟨#[32]⟩:ByteArray)≤9223372036854775807)∧(ptrN x2 fun b12 o13=>ptrN x3 fun b14 o15=>rdS Tryd.prog (convert 199 9 (.slice (some ⟨b14,(o15+0),none⟩) 4 4)) h10 fun u16=>strV u16 fun s17=>CF Tryd.prog 116 [(.int .i64 i8)] h10 fun u18 h19=>strV u18 fun s20=>(ByteArray.size (s11++(⟨#[32]⟩:ByteArray))+ByteArray.size s20≤9223372036854775807)∧((ByteArray.size ((s11++(⟨#[32]⟩:ByteArray))++s20)+ByteArray.size (⟨#[32]⟩:ByteArray)≤9223372036854775807)∧(rdS Tryd.prog (convert 199 9 (.slice (some ⟨b12,(o13+0),none⟩) 4 4)) h19 fun u21=>strV u21 fun s22=>(ByteArray.size (((s11++(⟨#[32]⟩:ByteArray))++s20)++(⟨#[32]⟩:ByteArray))+ByteArray.size s22≤9223372036854775807)∧((ByteArray.size ((((s11++(⟨#[32]⟩:ByteArray))++s20)++(⟨#[32]⟩:ByteArray))++s22)+ByteArray.size s17≤9223372036854775807)∧(K (w4 (w8 (w8 e 3 (sP x3) 2 (sP x2) 5 (sQ b1 (o2+4)) 6 (sI i4) 9 (sQ b5 (o6+4)) 10 (sI i8) 7 (sT s11) 8 (sV (.string (s11++(⟨#[32]⟩:ByteArray))))) 14 (sQ b12 (o13+0)) 15 (sV (.slice (some ⟨b12,(o13+0),none⟩) 4 4)) 18 (sQ b14 (o15+0)) 19 (sV (.slice (some ⟨b14,(o15+0),none⟩) 4 4)) 20 (sT s17) 11 (sT s20) 12 (sV (.string ((s11++(⟨#[32]⟩:ByteArray))++s20))) 13 (sV (.string (((s11++(⟨#[32]⟩:ByteArray))++s20)++(⟨#[32]⟩:ByteArray))))) 16 (sT s22) 17 (sV (.string ((((s11++(⟨#[32]⟩:ByteArray))++s20)++(⟨#[32]⟩:ByteArray))++s22))) 21 (sV (.string (((((s11++(⟨#[32]⟩:ByteArray))++s20)++(⟨#[32]⟩:ByteArray))++s22)++s17))) 4 (sV (.string (((((s11++(⟨#[32]⟩:ByteArray))++s20)++(⟨#[32]⟩:ByteArray))++s22)++s17)))) V0 h19)))))):=by kernel_rfl
theorem F85_r12 {e:Env} {x2:OA} {x3:OA} {hp:HP} {K:Env→PV→HP→Prop}:RW Tryd.prog 22 [] (opsAt Tryd.f85 (pth 5)) [0,1,4,5,9,10,13,14,15,2,3,6,7,8,11,12,16,17] (w2 e 3 (sP x3) 2 (sP x2)) V0 hp K=
    (ptrN x2 fun b1 o2=>ldV (HP.cell hp b1 (o2+4)) fun v3=>intV v3 .i64 fun i4=>ptrN x3 fun b5 o6=>ldV (HP.cell hp b5 (o6+4)) fun v7=>intV v7 .i64 fun i8=>ptrN x2 fun b9 o10=>ptrN x3 fun b11 o12=>rdS Tryd.prog (convert 199 9 (.slice (some ⟨b11,(o12+0),none⟩) 4 4)) hp fun u13=>strV u13 fun s14=>CF Tryd.prog 116 [(.int .i64 i4)] hp fun u15 h16=>strV u15 fun s17=>(ByteArray.size s17+ByteArray.size (⟨#[32]⟩:ByteArray)≤9223372036854775807)∧(CF Tryd.prog 116 [(.int .i64 i8)] h16 fun u18 h19=>strV u18 fun s20=>(ByteArray.size (s17++(⟨#[32]⟩:ByteArray))+ByteArray.size s20≤9223372036854775807)∧((ByteArray.size ((s17++(⟨#[32]⟩:ByteArray))++s20)+ByteArray.size (⟨#[32]⟩:ByteArray)≤9223372036854775807)∧(rdS Tryd.prog (convert 199 9 (.slice (some ⟨b9,(o10+0),none⟩) 4 4)) h19 fun u21=>strV u21 fun s22=>(ByteArray.size (((s17++(⟨#[32]⟩:ByteArray))++s20)++(⟨#[32]⟩:ByteArray))+ByteArray.size s22≤9223372036854775807)∧((ByteArray.size ((((s17++(⟨#[32]⟩:ByteArray))++s20)++(⟨#[32]⟩:ByteArray))++s22)+ByteArray.size s14≤9223372036854775807)∧(K (w4 (w8 (w8 e 3 (sP x3) 2 (sP x2) 5 (sQ b1 (o2+4)) 6 (sI i4) 9 (sQ b5 (o6+4)) 10 (sI i8) 14 (sQ b9 (o10+0)) 15 (sV (.slice (some ⟨b9,(o10+0),none⟩) 4 4))) 18 (sQ b11 (o12+0)) 19 (sV (.slice (some ⟨b11,(o12+0),none⟩) 4 4)) 20 (sT s14) 7 (sT s17) 8 (sV (.string (s17++(⟨#[32]⟩:ByteArray)))) 11 (sT s20) 12 (sV (.string ((s17++(⟨#[32]⟩:ByteArray))++s20))) 13 (sV (.string (((s17++(⟨#[32]⟩:ByteArray))++s20)++(⟨#[32]⟩:ByteArray))))) 16 (sT s22) 17 (sV (.string ((((s17++(⟨#[32]⟩:ByteArray))++s20)++(⟨#[32]⟩:ByteArray))++s22))) 21 (sV (.string (((((s17++(⟨#[32]⟩:ByteArray))++s20)++(⟨#[32]⟩:ByteArray))++s22)++s14))) 4 (sV (.string (((((s17++(⟨#[32]⟩:ByteArray))++s20)++(⟨#[32]⟩:ByteArray))++s22)++s14)))) V0 h19)))))):=by kernel_rfl
theorem F85_r13 {e:Env} {x2:OA} {x3:OA} {hp:HP} {K:Env→PV→HP→Prop}:RW Tryd.prog 22 [] (opsAt Tryd.f85 (pth 5)) [0,1,4,5,2,3,9,10,11,6,7,8,12,13,14,15,16,17] (w2 e 3 (sP x3) 2 (sP x2)) V0 hp K=
    (ptrN x2 fun b1 o2=>ldV (HP.cell hp b1 (o2+4)) fun v3=>intV v3 .i64 fun i4=>ptrN x3 fun b5 o6=>ldV (HP.cell hp b5 (o6+4)) fun v7=>intV v7 .i64 fun i8=>CF Tryd.prog 116 [(.int .i64 i4)] hp fun u9 h10=>strV u9 fun s11=>(ByteArray.size s11+ByteArray.size (⟨#[32]⟩:ByteArray)≤9223372036854775807)∧(ptrN x2 fun b12 o13=>rdS Tryd.prog (convert 199 9 (.slice (some ⟨b12,(o13+0),none⟩) 4 4)) h10 fun u14=>strV u14 fun s15=>CF Tryd.prog 116 [(.int .i64 i8)] h10 fun u16 h17=>strV u16 fun s18=>(ByteArray.size (s11++(⟨#[32]⟩:ByteArray))+ByteArray.size s18≤9223372036854775807)∧((ByteArray.size ((s11++(⟨#[32]⟩:ByteArray))++s18)+ByteArray.size (⟨#[32]⟩:ByteArray)≤9223372036854775807)∧((ByteArray.size (((s11++(⟨#[32]⟩:ByteArray))++s18)++(⟨#[32]⟩:ByteArray))+ByteArray.size s15≤9223372036854775807)∧(ptrN x3 fun b19 o20=>rdS Tryd.prog (convert 199 9 (.slice (some ⟨b19,(o20+0),none⟩) 4 4)) h17 fun u21=>strV u21 fun s22=>(ByteArray.size ((((s11++(⟨#[32]⟩:ByteArray))++s18)++(⟨#[32]⟩:ByteArray))++s15)+ByteArray.size s22≤9223372036854775807)∧(K (w4 (w8 (w8 e 3 (sP x3) 2 (sP x2) 5 (sQ b1 (o2+4)) 6 (sI i4) 9 (sQ b5 (o6+4)) 10 (sI i8) 7 (sT s11) 8 (sV (.string (s11++(⟨#[32]⟩:ByteArray))))) 14 (sQ b12 (o13+0)) 15 (sV (.slice (some ⟨b12,(o13+0),none⟩) 4 4)) 16 (sT s15) 11 (sT s18) 12 (sV (.string ((s11++(⟨#[32]⟩:ByteArray))++s18))) 13 (sV (.string (((s11++(⟨#[32]⟩:ByteArray))++s18)++(⟨#[32]⟩:ByteArray)))) 17 (sV (.string ((((s11++(⟨#[32]⟩:ByteArray))++s18)++(⟨#[32]⟩:ByteArray))++s15))) 18 (sQ b19 (o20+0))) 19 (sV (.slice (some ⟨b19,(o20+0),none⟩) 4 4)) 20 (sT s22) 21 (sV (.string (((((s11++(⟨#[32]⟩:ByteArray))++s18)++(⟨#[32]⟩:ByteArray))++s15)++s22))) 4 (sV (.string (((((s11++(⟨#[32]⟩:ByteArray))++s18)++(⟨#[32]⟩:ByteArray))++s15)++s22)))) V0 h17)))))):=by kernel_rfl
theorem F85_r14 {e:Env} {x2:OA} {x3:OA} {hp:HP} {K:Env→PV→HP→Prop}:RW Tryd.prog 22 [] (opsAt Tryd.f85 (pth 5)) [0,1,4,5,2,3,9,10,11,13,14,15,6,7,8,12,16,17] (w2 e 3 (sP x3) 2 (sP x2)) V0 hp K=
    (ptrN x2 fun b1 o2=>ldV (HP.cell hp b1 (o2+4)) fun v3=>intV v3 .i64 fun i4=>ptrN x3 fun b5 o6=>ldV (HP.cell hp b5 (o6+4)) fun v7=>intV v7 .i64 fun i8=>CF Tryd.prog 116 [(.int .i64 i4)] hp fun u9 h10=>strV u9 fun s11=>(ByteArray.size s11+ByteArray.size (⟨#[32]⟩:ByteArray)≤9223372036854775807)∧(ptrN x2 fun b12 o13=>rdS Tryd.prog (convert 199 9 (.slice (some ⟨b12,(o13+0),none⟩) 4 4)) h10 fun u14=>strV u14 fun s15=>ptrN x3 fun b16 o17=>rdS Tryd.prog (convert 199 9 (.slice (some ⟨b16,(o17+0),none⟩) 4 4)) h10 fun u18=>strV u18 fun s19=>CF Tryd.prog 116 [(.int .i64 i8)] h10 fun u20 h21=>strV u20 fun s22=>(ByteArray.size (s11++(⟨#[32]⟩:ByteArray))+ByteArray.size s22≤9223372036854775807)∧((ByteArray.size ((s11++(⟨#[32]⟩:ByteArray))++s22)+ByteArray.size (⟨#[32]⟩:ByteArray)≤9223372036854775807)∧((ByteArray.size (((s11++(⟨#[32]⟩:ByteArray))++s22)++(⟨#[32]⟩:ByteArray))+ByteArray.size s15≤9223372036854775807)∧((ByteArray.size ((((s11++(⟨#[32]⟩:ByteArray))++s22)++(⟨#[32]⟩:ByteArray))++s15)+ByteArray.size s19≤9223372036854775807)∧(K (w4 (w8 (w8 e 3 (sP x3) 2 (sP x2) 5 (sQ b1 (o2+4)) 6 (sI i4) 9 (sQ b5 (o6+4)) 10 (sI i8) 7 (sT s11) 8 (sV (.string (s11++(⟨#[32]⟩:ByteArray))))) 14 (sQ b12 (o13+0)) 15 (sV (.slice (some ⟨b12,(o13+0),none⟩) 4 4)) 16 (sT s15) 18 (sQ b16 (o17+0)) 19 (sV (.slice (some ⟨b16,(o17+0),none⟩) 4 4)) 20 (sT s19) 11 (sT s22) 12 (sV (.string ((s11++(⟨#[32]⟩:ByteArray))++s22)))) 13 (sV (.string (((s11++(⟨#[32]⟩:ByteArray))++s22)++(⟨#[32]⟩:ByteArray)))) 17 (sV (.string ((((s11++(⟨#[32]⟩:ByteArray))++s22)++(⟨#[32]⟩:ByteArray))++s15))) 21 (sV (.string (((((s11++(⟨#[32]⟩:ByteArray))++s22)++(⟨#[32]⟩:ByteArray))++s15)++s19))) 4 (sV (.string (((((s11++(⟨#[32]⟩:ByteArray))++s22)++(⟨#[32]⟩:ByteArray))++s15)++s19)))) V0 h21)))))):=by kernel_rfl
theorem F85_r15 {e:Env} {x2:OA} {x3:OA} {hp:HP} {K:Env→PV→HP→Prop}:RW Tryd.prog 22 [] (opsAt Tryd.f85 (pth 5)) [0,1,4,5,9,10,13,14,15,2,3,11,6,7,8,12,16,17] (w2 e 3 (sP x3) 2 (sP x2)) V0 hp K=
    (ptrN x2 fun b1 o2=>ldV (HP.cell hp b1 (o2+4)) fun v3=>intV v3 .i64 fun i4=>ptrN x3 fun b5 o6=>ldV (HP.cell hp b5 (o6+4)) fun v7=>intV v7 .i64 fun i8=>ptrN x2 fun b9 o10=>ptrN x3 fun b11 o12=>rdS Tryd.prog (convert 199 9 (.slice (some ⟨b11,(o12+0),none⟩) 4 4)) hp fun u13=>strV u13 fun s14=>CF Tryd.prog 116 [(.int .i64 i4)] hp fun u15 h16=>strV u15 fun s17=>(ByteArray.size s17+ByteArray.size (⟨#[32]⟩:ByteArray)≤9223372036854775807)∧(rdS Tryd.prog (convert 199 9 (.slice (some ⟨b9,(o10+0),none⟩) 4 4)) h16 fun u18=>strV u18 fun s19=>CF Tryd.prog 116 [(.int .i64 i8)] h16 fun u20 h21=>strV u20 fun s22=>(ByteArray.size (s17++(⟨#[32]⟩:ByteArray))+ByteArray.size s22≤9223372036854775807)∧((ByteArray.size ((s17++(⟨#[32]⟩:ByteArray))++s22)+ByteArray.size (⟨#[32]⟩:ByteArray)≤9223372036854775807)∧((ByteArray.size (((s17++(⟨#[32]⟩:ByteArray))++s22)++(⟨#[32]⟩:ByteArray))+ByteArray.size s19≤9223372036854775807)∧((ByteArray.size ((((s17++(⟨#[32]⟩:ByteArray))++s22)++(⟨#[32]⟩:ByteArray))++s19)+ByteArray.size s14≤9223372036854775807)∧(K (w4 (w8 (w8 e 3 (sP x3) 2 (sP x2) 5 (sQ b1 (o2+4)) 6 (sI i4) 9 (sQ b5 (o6+4)) 10 (sI i8) 14 (sQ b9 (o10+0)) 15 (sV (.slice (some ⟨b9,(o10+0),none⟩) 4 4))) 18 (sQ b11 (o12+0)) 19 (sV (.slice (some ⟨b11,(o12+0),none⟩) 4 4)) 20 (sT s14) 7 (sT s17) 8 (sV (.string (s17++(⟨#[32]⟩:ByteArray)))) 16 (sT s19) 11 (sT s22) 12 (sV (.string ((s17++(⟨#[32]⟩:ByteArray))++s22)))) 13 (sV (.string (((s17++(⟨#[32]⟩:ByteArray))++s22)++(⟨#[32]⟩:ByteArray)))) 17 (sV (.string ((((s17++(⟨#[32]⟩:ByteArray))++s22)++(⟨#[32]⟩:ByteArray))++s19))) 21 (sV (.string (((((s17++(⟨#[32]⟩:ByteArray))++s22)++(⟨#[32]⟩:ByteArray))++s19)++s14))) 4 (sV (.string (((((s17++(⟨#[32]⟩:ByteArray))++s22)++(⟨#[32]⟩:ByteArray))++s19)++s14)))) V0 h21)))))):=by kernel_rfl
theorem F85_r16 {e:Env} {x2:OA} {x3:OA} {hp:HP} {K:Env→PV→HP→Prop}:RW Tryd.prog 22 [] (opsAt Tryd.f85 (pth 5)) [0,1,4,5,9,10,11,2,3,6,7,8,12,13,14,15,16,17] (w2 e 3 (sP x3) 2 (sP x2)) V0 hp K=
    (ptrN x2 fun b1 o2=>ldV (HP.cell hp b1 (o2+4)) fun v3=>intV v3 .i64 fun i4=>ptrN x3 fun b5 o6=>ldV (HP.cell hp b5 (o6+4)) fun v7=>intV v7 .i64 fun i8=>ptrN x2 fun b9 o10=>rdS Tryd.prog (convert 199 9 (.slice (some ⟨b9,(o10+0),none⟩) 4 4)) hp fun u11=>strV u11 fun s12=>CF Tryd.prog 116 [(.int .i64 i4)] hp fun u13 h14=>strV u13 fun s15=>(ByteArray.size s15+ByteArray.size (⟨#[32]⟩:ByteArray)≤9223372036854775807)∧(CF Tryd.prog 116 [(.int .i64 i8)] h14 fun u16 h17=>strV u16 fun s18=>(ByteArray.size (s15++(⟨#[32]⟩:ByteArray))+ByteArray.size s18≤9223372036854775807)∧((ByteArray.size ((s15++(⟨#[32]⟩:ByteArray))++s18)+ByteArray.size (⟨#[32]⟩:ByteArray)≤9223372036854775807)∧((ByteArray.size (((s15++(⟨#[32]⟩:ByteArray))++s18)++(⟨#[32]⟩:ByteArray))+ByteArray.size s12≤9223372036854775807)∧(ptrN x3 fun b19 o20=>rdS Tryd.prog (convert 199 9 (.slice (some ⟨b19,(o20+0),none⟩) 4 4)) h17 fun u21=>strV u21 fun s22=>(ByteArray.size ((((s15++(⟨#[32]⟩:ByteArray))++s18)++(⟨#[32]⟩:ByteArray))++s12)+ByteArray.size s22≤9223372036854775807)∧(K (w4 (w8 (w8 e 3 (sP x3) 2 (sP x2) 5 (sQ b1 (o2+4)) 6 (sI i4) 9 (sQ b5 (o6+4)) 10 (sI i8) 14 (sQ b9 (o10+0)) 15 (sV (.slice (some ⟨b9,(o10+0),none⟩) 4 4))) 16 (sT s12) 7 (sT s15) 8 (sV (.string (s15++(⟨#[32]⟩:ByteArray)))) 11 (sT s18) 12 (sV (.string ((s15++(⟨#[32]⟩:ByteArray))++s18))) 13 (sV (.string (((s15++(⟨#[32]⟩:ByteArray))++s18)++(⟨#[32]⟩:ByteArray)))) 17 (sV (.string ((((s15++(⟨#[32]⟩:ByteArray))++s18)++(⟨#[32]⟩:ByteArray))++s12))) 18 (sQ b19 (o20+0))) 19 (sV (.slice (some ⟨b19,(o20+0),none⟩) 4 4)) 20 (sT s22) 21 (sV (.string (((((s15++(⟨#[32]⟩:ByteArray))++s18)++(⟨#[32]⟩:ByteArray))++s12)++s22))) 4 (sV (.string (((((s15++(⟨#[32]⟩:ByteArray))++s18)++(⟨#[32]⟩:ByteArray))++s12)++s22)))) V0 h17)))))):=by kernel_rfl
theorem F85_r17 {e:Env} {x2:OA} {x3:OA} {hp:HP} {K:Env→PV→HP→Prop}:RW Tryd.prog 22 [] (opsAt Tryd.f85 (pth 5)) [0,1,4,5,9,10,11,2,3,13,14,15,6,7,8,12,16,17] (w2 e 3 (sP x3) 2 (sP x2)) V0 hp K=
    (ptrN x2 fun b1 o2=>ldV (HP.cell hp b1 (o2+4)) fun v3=>intV v3 .i64 fun i4=>ptrN x3 fun b5 o6=>ldV (HP.cell hp b5 (o6+4)) fun v7=>intV v7 .i64 fun i8=>ptrN x2 fun b9 o10=>rdS Tryd.prog (convert 199 9 (.slice (some ⟨b9,(o10+0),none⟩) 4 4)) hp fun u11=>strV u11 fun s12=>CF Tryd.prog 116 [(.int .i64 i4)] hp fun u13 h14=>strV u13 fun s15=>(ByteArray.size s15+ByteArray.size (⟨#[32]⟩:ByteArray)≤9223372036854775807)∧(ptrN x3 fun b16 o17=>rdS Tryd.prog (convert 199 9 (.slice (some ⟨b16,(o17+0),none⟩) 4 4)) h14 fun u18=>strV u18 fun s19=>CF Tryd.prog 116 [(.int .i64 i8)] h14 fun u20 h21=>strV u20 fun s22=>(ByteArray.size (s15++(⟨#[32]⟩:ByteArray))+ByteArray.size s22≤9223372036854775807)∧((ByteArray.size ((s15++(⟨#[32]⟩:ByteArray))++s22)+ByteArray.size (⟨#[32]⟩:ByteArray)≤9223372036854775807)∧((ByteArray.size (((s15++(⟨#[32]⟩:ByteArray))++s22)++(⟨#[32]⟩:ByteArray))+ByteArray.size s12≤9223372036854775807)∧((ByteArray.size ((((s15++(⟨#[32]⟩:ByteArray))++s22)++(⟨#[32]⟩:ByteArray))++s12)+ByteArray.size s19≤9223372036854775807)∧(K (w4 (w8 (w8 e 3 (sP x3) 2 (sP x2) 5 (sQ b1 (o2+4)) 6 (sI i4) 9 (sQ b5 (o6+4)) 10 (sI i8) 14 (sQ b9 (o10+0)) 15 (sV (.slice (some ⟨b9,(o10+0),none⟩) 4 4))) 16 (sT s12) 7 (sT s15) 8 (sV (.string (s15++(⟨#[32]⟩:ByteArray)))) 18 (sQ b16 (o17+0)) 19 (sV (.slice (some ⟨b16,(o17+0),none⟩) 4 4)) 20 (sT s19) 11 (sT s22) 12 (sV (.string ((s15++(⟨#[32]⟩:ByteArray))++s22)))) 13 (sV (.string (((s15++(⟨#[32]⟩:ByteArray))++s22)++(⟨#[32]⟩:ByteArray)))) 17 (sV (.string ((((s15++(⟨#[32]⟩:ByteArray))++s22)++(⟨#[32]⟩:ByteArray))++s12))) 21 (sV (.string (((((s15++(⟨#[32]⟩:ByteArray))++s22)++(⟨#[32]⟩:ByteArray))++s12)++s19))) 4 (sV (.string (((((s15++(⟨#[32]⟩:ByteArray))++s22)++(⟨#[32]⟩:ByteArray))++s12)++s19)))) V0 h21)))))):=by kernel_rfl
theorem F85_r18 {e:Env} {x2:OA} {x3:OA} {hp:HP} {K:Env→PV→HP→Prop}:RW Tryd.prog 22 [] (opsAt Tryd.f85 (pth 5)) [0,1,4,5,9,10,11,13,14,15,2,3,6,7,8,12,16,17] (w2 e 3 (sP x3) 2 (sP x2)) V0 hp K=
    (ptrN x2 fun b1 o2=>ldV (HP.cell hp b1 (o2+4)) fun v3=>intV v3 .i64 fun i4=>ptrN x3 fun b5 o6=>ldV (HP.cell hp b5 (o6+4)) fun v7=>intV v7 .i64 fun i8=>ptrN x2 fun b9 o10=>rdS Tryd.prog (convert 199 9 (.slice (some ⟨b9,(o10+0),none⟩) 4 4)) hp fun u11=>strV u11 fun s12=>ptrN x3 fun b13 o14=>rdS Tryd.prog (convert 199 9 (.slice (some ⟨b13,(o14+0),none⟩) 4 4)) hp fun u15=>strV u15 fun s16=>CF Tryd.prog 116 [(.int .i64 i4)] hp fun u17 h18=>strV u17 fun s19=>(ByteArray.size s19+ByteArray.size (⟨#[32]⟩:ByteArray)≤9223372036854775807)∧(CF Tryd.prog 116 [(.int .i64 i8)] h18 fun u20 h21=>strV u20 fun s22=>(ByteArray.size (s19++(⟨#[32]⟩:ByteArray))+ByteArray.size s22≤9223372036854775807)∧((ByteArray.size ((s19++(⟨#[32]⟩:ByteArray))++s22)+ByteArray.size (⟨#[32]⟩:ByteArray)≤9223372036854775807)∧((ByteArray.size (((s19++(⟨#[32]⟩:ByteArray))++s22)++(⟨#[32]⟩:ByteArray))+ByteArray.size s12≤9223372036854775807)∧((ByteArray.size ((((s19++(⟨#[32]⟩:ByteArray))++s22)++(⟨#[32]⟩:ByteArray))++s12)+ByteArray.size s16≤9223372036854775807)∧(K (w4 (w8 (w8 e 3 (sP x3) 2 (sP x2) 5 (sQ b1 (o2+4)) 6 (sI i4) 9 (sQ b5 (o6+4)) 10 (sI i8) 14 (sQ b9 (o10+0)) 15 (sV (.slice (some ⟨b9,(o10+0),none⟩) 4 4))) 16 (sT s12) 18 (sQ b13 (o14+0)) 19 (sV (.slice (some ⟨b13,(o14+0),none⟩) 4 4)) 20 (sT s16) 7 (sT s19) 8 (sV (.string (s19++(⟨#[32]⟩:ByteArray)))) 11 (sT s22) 12 (sV (.string ((s19++(⟨#[32]⟩:ByteArray))++s22)))) 13 (sV (.string (((s19++(⟨#[32]⟩:ByteArray))++s22)++(⟨#[32]⟩:ByteArray)))) 17 (sV (.string ((((s19++(⟨#[32]⟩:ByteArray))++s22)++(⟨#[32]⟩:ByteArray))++s12))) 21 (sV (.string (((((s19++(⟨#[32]⟩:ByteArray))++s22)++(⟨#[32]⟩:ByteArray))++s12)++s16))) 4 (sV (.string (((((s19++(⟨#[32]⟩:ByteArray))++s22)++(⟨#[32]⟩:ByteArray))++s12)++s16)))) V0 h21)))))):=by kernel_rfl
def F85 (x0 x1:List Value) (hp:HP) (K:Kh):Prop:=
  (∀ b1:Nat,hp b1=.none→(∀ b2:Nat,(HP.set hp b1 (.cells 34 x0 0)) b2=.none→((ptrN (some ⟨b1,0,none⟩) fun b3 o4=>ldV (HP.cell (HP.set (HP.set hp b1 (.cells 34 x0 0)) b2 (.cells 34 x1 0)) b3 (o4+4)) fun v5=>intV v5 .i64 fun i6=>CF Tryd.prog 116 [(.int .i64 i6)] (HP.set (HP.set hp b1 (.cells 34 x0 0)) b2 (.cells 34 x1 0)) fun u7 h8=>strV u7 fun s9=>(ByteArray.size s9+ByteArray.size (⟨#[32]⟩:ByteArray)≤9223372036854775807)∧(ptrN (some ⟨b2,0,none⟩) fun b10 o11=>ldV (HP.cell h8 b10 (o11+4)) fun v12=>intV v12 .i64 fun i13=>CF Tryd.prog 116 [(.int .i64 i13)] h8 fun u14 h15=>strV u14 fun s16=>(ByteArray.size (s9++(⟨#[32]⟩:ByteArray))+ByteArray.size s16≤9223372036854775807)∧((ByteArray.size ((s9++(⟨#[32]⟩:ByteArray))++s16)+ByteArray.size (⟨#[32]⟩:ByteArray)≤9223372036854775807)∧(ptrN (some ⟨b1,0,none⟩) fun b17 o18=>rdS Tryd.prog (convert 199 9 (.slice (some ⟨b17,(o18+0),none⟩) 4 4)) h15 fun u19=>strV u19 fun s20=>(ByteArray.size (((s9++(⟨#[32]⟩:ByteArray))++s16)++(⟨#[32]⟩:ByteArray))+ByteArray.size s20≤9223372036854775807)∧(ptrN (some ⟨b2,0,none⟩) fun b21 o22=>rdS Tryd.prog (convert 199 9 (.slice (some ⟨b21,(o22+0),none⟩) 4 4)) h15 fun u23=>strV u23 fun s24=>(ByteArray.size ((((s9++(⟨#[32]⟩:ByteArray))++s16)++(⟨#[32]⟩:ByteArray))++s20)+ByteArray.size s24≤9223372036854775807)∧(K (.string (((((s9++(⟨#[32]⟩:ByteArray))++s16)++(⟨#[32]⟩:ByteArray))++s20)++s24)) h15))))))∧(ptrN (some ⟨b1,0,none⟩) fun b25 o26=>ldV (HP.cell (HP.set (HP.set hp b1 (.cells 34 x0 0)) b2 (.cells 34 x1 0)) b25 (o26+4)) fun v27=>intV v27 .i64 fun i28=>CF Tryd.prog 116 [(.int .i64 i28)] (HP.set (HP.set hp b1 (.cells 34 x0 0)) b2 (.cells 34 x1 0)) fun u29 h30=>strV u29 fun s31=>(ByteArray.size s31+ByteArray.size (⟨#[32]⟩:ByteArray)≤9223372036854775807)∧(ptrN (some ⟨b2,0,none⟩) fun b32 o33=>ldV (HP.cell h30 b32 (o33+4)) fun v34=>intV v34 .i64 fun i35=>ptrN (some ⟨b1,0,none⟩) fun b36 o37=>ptrN (some ⟨b2,0,none⟩) fun b38 o39=>rdS Tryd.prog (convert 199 9 (.slice (some ⟨b38,(o39+0),none⟩) 4 4)) h30 fun u40=>strV u40 fun s41=>CF Tryd.prog 116 [(.int .i64 i35)] h30 fun u42 h43=>strV u42 fun s44=>(ByteArray.size (s31++(⟨#[32]⟩:ByteArray))+ByteArray.size s44≤9223372036854775807)∧((ByteArray.size ((s31++(⟨#[32]⟩:ByteArray))++s44)+ByteArray.size (⟨#[32]⟩:ByteArray)≤9223372036854775807)∧(rdS Tryd.prog (convert 199 9 (.slice (some ⟨b36,(o37+0),none⟩) 4 4)) h43 fun u45=>strV u45 fun s46=>(ByteArray.size (((s31++(⟨#[32]⟩:ByteArray))++s44)++(⟨#[32]⟩:ByteArray))+ByteArray.size s46≤9223372036854775807)∧((ByteArray.size ((((s31++(⟨#[32]⟩:ByteArray))++s44)++(⟨#[32]⟩:ByteArray))++s46)+ByteArray.size s41≤9223372036854775807)∧(K (.string (((((s31++(⟨#[32]⟩:ByteArray))++s44)++(⟨#[32]⟩:ByteArray))++s46)++s41)) h43))))))∧(ptrN (some ⟨b1,0,none⟩) fun b47 o48=>ldV (HP.cell (HP.set (HP.set hp b1 (.cells 34 x0 0)) b2 (.cells 34 x1 0)) b47 (o48+4)) fun v49=>intV v49 .i64 fun i50=>ptrN (some ⟨b2,0,none⟩) fun b51 o52=>ptrN (some ⟨b1,0,none⟩) fun b53 o54=>ptrN (some ⟨b2,0,none⟩) fun b55 o56=>rdS Tryd.prog (convert 199 9 (.slice (some ⟨b55,(o56+0),none⟩) 4 4)) (HP.set (HP.set hp b1 (.cells 34 x0 0)) b2 (.cells 34 x1 0)) fun u57=>strV u57 fun s58=>CF Tryd.prog 116 [(.int .i64 i50)] (HP.set (HP.set hp b1 (.cells 34 x0 0)) b2 (.cells 34 x1 0)) fun u59 h60=>strV u59 fun s61=>(ByteArray.size s61+ByteArray.size (⟨#[32]⟩:ByteArray)≤9223372036854775807)∧(ldV (HP.cell h60 b51 (o52+4)) fun v62=>intV v62 .i64 fun i63=>CF Tryd.prog 116 [(.int .i64 i63)] h60 fun u64 h65=>strV u64 fun s66=>(ByteArray.size (s61++(⟨#[32]⟩:ByteArray))+ByteArray.size s66≤9223372036854775807)∧((ByteArray.size ((s61++(⟨#[32]⟩:ByteArray))++s66)+ByteArray.size (⟨#[32]⟩:ByteArray)≤9223372036854775807)∧(rdS Tryd.prog (convert 199 9 (.slice (some ⟨b53,(o54+0),none⟩) 4 4)) h65 fun u67=>strV u67 fun s68=>(ByteArray.size (((s61++(⟨#[32]⟩:ByteArray))++s66)++(⟨#[32]⟩:ByteArray))+ByteArray.size s68≤9223372036854775807)∧((ByteArray.size ((((s61++(⟨#[32]⟩:ByteArray))++s66)++(⟨#[32]⟩:ByteArray))++s68)+ByteArray.size s58≤9223372036854775807)∧(K (.string (((((s61++(⟨#[32]⟩:ByteArray))++s66)++(⟨#[32]⟩:ByteArray))++s68)++s58)) h65))))))∧(ptrN (some ⟨b1,0,none⟩) fun b69 o70=>ldV (HP.cell (HP.set (HP.set hp b1 (.cells 34 x0 0)) b2 (.cells 34 x1 0)) b69 (o70+4)) fun v71=>intV v71 .i64 fun i72=>CF Tryd.prog 116 [(.int .i64 i72)] (HP.set (HP.set hp b1 (.cells 34 x0 0)) b2 (.cells 34 x1 0)) fun u73 h74=>strV u73 fun s75=>(ByteArray.size s75+ByteArray.size (⟨#[32]⟩:ByteArray)≤9223372036854775807)∧(ptrN (some ⟨b2,0,none⟩) fun b76 o77=>ldV (HP.cell h74 b76 (o77+4)) fun v78=>intV v78 .i64 fun i79=>ptrN (some ⟨b1,0,none⟩) fun b80 o81=>rdS Tryd.prog (convert 199 9 (.slice (some ⟨b80,(o81+0),none⟩) 4 4)) h74 fun u82=>strV u82 fun s83=>CF Tryd.prog 116 [(.int .i64 i79)] h74 fun u84 h85=>strV u84 fun s86=>(ByteArray.size (s75++(⟨#[32]⟩:ByteArray))+ByteArray.size s86≤9223372036854775807)∧((ByteArray.size ((s75++(⟨#[32]⟩:ByteArray))++s86)+ByteArray.size (⟨#[32]⟩:ByteArray)≤9223372036854775807)∧((ByteArray.size (((s75++(⟨#[32]⟩:ByteArray))++s86)++(⟨#[32]⟩:ByteArray))+ByteArray.size s83≤9223372036854775807)∧(ptrN (some ⟨b2,0,none⟩) fun b87 o88=>rdS Tryd.prog (convert 199 9 (.slice (some ⟨b87,(o88+0),none⟩) 4 4)) h85 fun u89=>strV u89 fun s90=>(ByteArray.size ((((s75++(⟨#[32]⟩:ByteArray))++s86)++(⟨#[32]⟩:ByteArray))++s83)+ByteArray.size s90≤9223372036854775807)∧(K (.string (((((s75++(⟨#[32]⟩:ByteArray))++s86)++(⟨#[32]⟩:ByteArray))++s83)++s90)) h85))))))∧(ptrN (some ⟨b1,0,none⟩) fun b91 o92=>ldV (HP.cell (HP.set (HP.set hp b1 (.cells 34 x0 0)) b2 (.cells 34 x1 0)) b91 (o92+4)) fun v93=>intV v93 .i64 fun i94=>CF Tryd.prog 116 [(.int .i64 i94)] (HP.set (HP.set hp b1 (.cells 34 x0 0)) b2 (.cells 34 x1 0)) fun u95 h96=>strV u95 fun s97=>(ByteArray.size s97+ByteArray.size (⟨#[32]⟩:ByteArray)≤9223372036854775807)∧(ptrN (some ⟨b2,0,none⟩) fun b98 o99=>ldV (HP.cell h96 b98 (o99+4)) fun v100=>intV v100 .i64 fun i101=>ptrN (some ⟨b1,0,none⟩) fun b102 o103=>rdS Tryd.prog (convert 199 9 (.slice (some ⟨b102,(o103+0),none⟩) 4 4)) h96 fun u104=>strV u104 fun s105=>ptrN (some ⟨b2,0,none⟩) fun b106 o107=>rdS Tryd.prog (convert 199 9 (.slice (some ⟨b106,(o107+0),none⟩) 4 4)) h96 fun u108=>strV u108 fun s109=>CF Tryd.prog 116 [(.int .i64 i101)] h96 fun u110 h111=>strV u110 fun s112=>(ByteArray.size (s97++(⟨#[32]⟩:ByteArray))+ByteArray.size s112≤9223372036854775807)∧((ByteArray.size ((s97++(⟨#[32]⟩:ByteArray))++s112)+ByteArray.size (⟨#[32]⟩:ByteArray)≤9223372036854775807)∧((ByteArray.size (((s97++(⟨#[32]⟩:ByteArray))++s112)++(⟨#[32]⟩:ByteArray))+ByteArray.size s105≤9223372036854775807)∧((ByteArray.size ((((s97++(⟨#[32]⟩:ByteArray))++s112)++(⟨#[32]⟩:ByteArray))++s105)+ByteArray.size s109≤9223372036854775807)∧(K (.string (((((s97++(⟨#[32]⟩:ByteArray))++s112)++(⟨#[32]⟩:ByteArray))++s105)++s109)) h111))))))∧(ptrN (some ⟨b1,0,none⟩) fun b113 o114=>ldV (HP.cell (HP.set (HP.set hp b1 (.cells 34 x0 0)) b2 (.cells 34 x1 0)) b113 (o114+4)) fun v115=>intV v115 .i64 fun i116=>ptrN (some ⟨b2,0,none⟩) fun b117 o118=>ptrN (some ⟨b1,0,none⟩) fun b119 o120=>ptrN (some ⟨b2,0,none⟩) fun b121 o122=>rdS Tryd.prog (convert 199 9 (.slice (some ⟨b121,(o122+0),none⟩) 4 4)) (HP.set (HP.set hp b1 (.cells 34 x0 0)) b2 (.cells 34 x1 0)) fun u123=>strV u123 fun s124=>CF Tryd.prog 116 [(.int .i64 i116)] (HP.set (HP.set hp b1 (.cells 34 x0 0)) b2 (.cells 34 x1 0)) fun u125 h126=>strV u125 fun s127=>(ByteArray.size s127+ByteArray.size (⟨#[32]⟩:ByteArray)≤9223372036854775807)∧(ldV (HP.cell h126 b117 (o118+4)) fun v128=>intV v128 .i64 fun i129=>rdS Tryd.prog (convert 199 9 (.slice (some ⟨b119,(o120+0),none⟩) 4 4)) h126 fun u130=>strV u130 fun s131=>CF Tryd.prog 116 [(.int .i64 i129)] h126 fun u132 h133=>strV u132 fun s134=>(ByteArray.size (s127++(⟨#[32]⟩:ByteArray))+ByteArray.size s134≤9223372036854775807)∧((ByteArray.size ((s127++(⟨#[32]⟩:ByteArray))++s134)+ByteArray.size (⟨#[32]⟩:ByteArray)≤9223372036854775807)∧((ByteArray.size (((s127++(⟨#[32]⟩:ByteArray))++s134)++(⟨#[32]⟩:ByteArray))+ByteArray.size s131≤9223372036854775807)∧((ByteArray.size ((((s127++(⟨#[32]⟩:ByteArray))++s134)++(⟨#[32]⟩:ByteArray))++s131)+ByteArray.size s124≤9223372036854775807)∧(K (.string (((((s127++(⟨#[32]⟩:ByteArray))++s134)++(⟨#[32]⟩:ByteArray))++s131)++s124)) h133))))))∧(ptrN (some ⟨b1,0,none⟩) fun b135 o136=>ldV (HP.cell (HP.set (HP.set hp b1 (.cells 34 x0 0)) b2 (.cells 34 x1 0)) b135 (o136+4)) fun v137=>intV v137 .i64 fun i138=>ptrN (some ⟨b2,0,none⟩) fun b139 o140=>ptrN (some ⟨b1,0,none⟩) fun b141 o142=>rdS Tryd.prog (convert 199 9 (.slice (some ⟨b141,(o142+0),none⟩) 4 4)) (HP.set (HP.set hp b1 (.cells 34 x0 0)) b2 (.cells 34 x1 0)) fun u143=>strV u143 fun s144=>CF Tryd.prog 116 [(.int .i64 i138)] (HP.set (HP.set hp b1 (.cells 34 x0 0)) b2 (.cells 34 x1 0)) fun u145 h146=>strV u145 fun s147=>(ByteArray.size s147+ByteArray.size (⟨#[32]⟩:ByteArray)≤9223372036854775807)∧(ldV (HP.cell h146 b139 (o140+4)) fun v148=>intV v148 .i64 fun i149=>CF Tryd.prog 116 [(.int .i64 i149)] h146 fun u150 h151=>strV u150 fun s152=>(ByteArray.size (s147++(⟨#[32]⟩:ByteArray))+ByteArray.size s152≤9223372036854775807)∧((ByteArray.size ((s147++(⟨#[32]⟩:ByteArray))++s152)+ByteArray.size (⟨#[32]⟩:ByteArray)≤9223372036854775807)∧((ByteArray.size (((s147++(⟨#[32]⟩:ByteArray))++s152)++(⟨#[32]⟩:ByteArray))+ByteArray.size s144≤9223372036854775807)∧(ptrN (some ⟨b2,0,none⟩) fun b153 o154=>rdS Tryd.prog (convert 199 9 (.slice (some ⟨b153,(o154+0),none⟩) 4 4)) h151 fun u155=>strV u155 fun s156=>(ByteArray.size ((((s147++(⟨#[32]⟩:ByteArray))++s152)++(⟨#[32]⟩:ByteArray))++s144)+ByteArray.size s156≤9223372036854775807)∧(K (.string (((((s147++(⟨#[32]⟩:ByteArray))++s152)++(⟨#[32]⟩:ByteArray))++s144)++s156)) h151))))))∧(ptrN (some ⟨b1,0,none⟩) fun b157 o158=>ldV (HP.cell (HP.set (HP.set hp b1 (.cells 34 x0 0)) b2 (.cells 34 x1 0)) b157 (o158+4)) fun v159=>intV v159 .i64 fun i160=>ptrN (some ⟨b2,0,none⟩) fun b161 o162=>ptrN (some ⟨b1,0,none⟩) fun b163 o164=>rdS Tryd.prog (convert 199 9 (.slice (some ⟨b163,(o164+0),none⟩) 4 4)) (HP.set (HP.set hp b1 (.cells 34 x0 0)) b2 (.cells 34 x1 0)) fun u165=>strV u165 fun s166=>CF Tryd.prog 116 [(.int .i64 i160)] (HP.set (HP.set hp b1 (.cells 34 x0 0)) b2 (.cells 34 x1 0)) fun u167 h168=>strV u167 fun s169=>(ByteArray.size s169+ByteArray.size (⟨#[32]⟩:ByteArray)≤9223372036854775807)∧(ldV (HP.cell h168 b161 (o162+4)) fun v170=>intV v170 .i64 fun i171=>ptrN (some ⟨b2,0,none⟩) fun b172 o173=>rdS Tryd.prog (convert 199 9 (.slice (some ⟨b172,(o173+0),none⟩) 4 4)) h168 fun u174=>strV u174 fun s175=>CF Tryd.prog 116 [(.int .i64 i171)] h168 fun u176 h177=>strV u176 fun s178=>(ByteArray.size (s169++(⟨#[32]⟩:ByteArray))+ByteArray.size s178≤9223372036854775807)∧((ByteArray.size ((s169++(⟨#[32]⟩:ByteArray))++s178)+ByteArray.size (⟨#[32]⟩:ByteArray)≤9223372036854775807)∧((ByteArray.size (((s169++(⟨#[32]⟩:ByteArray))++s178)++(⟨#[32]⟩:ByteArray))+ByteArray.size s166≤9223372036854775807)∧((ByteArray.size ((((s169++(⟨#[32]⟩:ByteArray))++s178)++(⟨#[32]⟩:ByteArray))++s166)+ByteArray.size s175≤9223372036854775807)∧(K (.string (((((s169++(⟨#[32]⟩:ByteArray))++s178)++(⟨#[32]⟩:ByteArray))++s166)++s175)) h177))))))∧(ptrN (some ⟨b1,0,none⟩) fun b179 o180=>ldV (HP.cell (HP.set (HP.set hp b1 (.cells 34 x0 0)) b2 (.cells 34 x1 0)) b179 (o180+4)) fun v181=>intV v181 .i64 fun i182=>ptrN (some ⟨b2,0,none⟩) fun b183 o184=>ptrN (some ⟨b1,0,none⟩) fun b185 o186=>rdS Tryd.prog (convert 199 9 (.slice (some ⟨b185,(o186+0),none⟩) 4 4)) (HP.set (HP.set hp b1 (.cells 34 x0 0)) b2 (.cells 34 x1 0)) fun u187=>strV u187 fun s188=>ptrN (some ⟨b2,0,none⟩) fun b189 o190=>rdS Tryd.prog (convert 199 9 (.slice (some ⟨b189,(o190+0),none⟩) 4 4)) (HP.set (HP.set hp b1 (.cells 34 x0 0)) b2 (.cells 34 x1 0)) fun u191=>strV u191 fun s192=>CF Tryd.prog 116 [(.int .i64 i182)] (HP.set (HP.set hp b1 (.cells 34 x0 0)) b2 (.cells 34 x1 0)) fun u193 h194=>strV u193 fun s195=>(ByteArray.size s195+ByteArray.size (⟨#[32]⟩:ByteArray)≤9223372036854775807)∧(ldV (HP.cell h194 b183 (o184+4)) fun v196=>intV v196 .i64 fun i197=>CF Tryd.prog 116 [(.int .i64 i197)] h194 fun u198 h199=>strV u198 fun s200=>(ByteArray.size (s195++(⟨#[32]⟩:ByteArray))+ByteArray.size s200≤9223372036854775807)∧((ByteArray.size ((s195++(⟨#[32]⟩:ByteArray))++s200)+ByteArray.size (⟨#[32]⟩:ByteArray)≤9223372036854775807)∧((ByteArray.size (((s195++(⟨#[32]⟩:ByteArray))++s200)++(⟨#[32]⟩:ByteArray))+ByteArray.size s188≤9223372036854775807)∧((ByteArray.size ((((s195++(⟨#[32]⟩:ByteArray))++s200)++(⟨#[32]⟩:ByteArray))++s188)+ByteArray.size s192≤9223372036854775807)∧(K (.string (((((s195++(⟨#[32]⟩:ByteArray))++s200)++(⟨#[32]⟩:ByteArray))++s188)++s192)) h199))))))∧(ptrN (some ⟨b1,0,none⟩) fun b201 o202=>ldV (HP.cell (HP.set (HP.set hp b1 (.cells 34 x0 0)) b2 (.cells 34 x1 0)) b201 (o202+4)) fun v203=>intV v203 .i64 fun i204=>ptrN (some ⟨b2,0,none⟩) fun b205 o206=>ldV (HP.cell (HP.set (HP.set hp b1 (.cells 34 x0 0)) b2 (.cells 34 x1 0)) b205 (o206+4)) fun v207=>intV v207 .i64 fun i208=>CF Tryd.prog 116 [(.int .i64 i204)] (HP.set (HP.set hp b1 (.cells 34 x0 0)) b2 (.cells 34 x1 0)) fun u209 h210=>strV u209 fun s211=>(ByteArray.size s211+ByteArray.size (⟨#[32]⟩:ByteArray)≤9223372036854775807)∧(CF Tryd.prog 116 [(.int .i64 i208)] h210 fun u212 h213=>strV u212 fun s214=>(ByteArray.size (s211++(⟨#[32]⟩:ByteArray))+ByteArray.size s214≤9223372036854775807)∧((ByteArray.size ((s211++(⟨#[32]⟩:ByteArray))++s214)+ByteArray.size (⟨#[32]⟩:ByteArray)≤9223372036854775807)∧(ptrN (some ⟨b1,0,none⟩) fun b215 o216=>rdS Tryd.prog (convert 199 9 (.slice (some ⟨b215,(o216+0),none⟩) 4 4)) h213 fun u217=>strV u217 fun s218=>(ByteArray.size (((s211++(⟨#[32]⟩:ByteArray))++s214)++(⟨#[32]⟩:ByteArray))+ByteArray.size s218≤9223372036854775807)∧(ptrN (some ⟨b2,0,none⟩) fun b219 o220=>rdS Tryd.prog (convert 199 9 (.slice (some ⟨b219,(o220+0),none⟩) 4 4)) h213 fun u221=>strV u221 fun s222=>(ByteArray.size ((((s211++(⟨#[32]⟩:ByteArray))++s214)++(⟨#[32]⟩:ByteArray))++s218)+ByteArray.size s222≤9223372036854775807)∧(K (.string (((((s211++(⟨#[32]⟩:ByteArray))++s214)++(⟨#[32]⟩:ByteArray))++s218)++s222)) h213))))))∧(ptrN (some ⟨b1,0,none⟩) fun b223 o224=>ldV (HP.cell (HP.set (HP.set hp b1 (.cells 34 x0 0)) b2 (.cells 34 x1 0)) b223 (o224+4)) fun v225=>intV v225 .i64 fun i226=>ptrN (some ⟨b2,0,none⟩) fun b227 o228=>ldV (HP.cell (HP.set (HP.set hp b1 (.cells 34 x0 0)) b2 (.cells 34 x1 0)) b227 (o228+4)) fun v229=>intV v229 .i64 fun i230=>CF Tryd.prog 116 [(.int .i64 i226)] (HP.set (HP.set hp b1 (.cells 34 x0 0)) b2 (.cells 34 x1 0)) fun u231 h232=>strV u231 fun s233=>(ByteArray.size s233+ByteArray.size (⟨#[32]⟩:ByteArray)≤9223372036854775807)∧(ptrN (some ⟨b1,0,none⟩) fun b234 o235=>ptrN (some ⟨b2,0,none⟩) fun b236 o237=>rdS Tryd.prog (convert 199 9 (.slice (some ⟨b236,(o237+0),none⟩) 4 4)) h232 fun u238=>strV u238 fun s239=>CF Tryd.prog 116 [(.int .i64 i230)] h232 fun u240 h241=>strV u240 fun s242=>(ByteArray.size (s233++(⟨#[32]⟩:ByteArray))+ByteArray.size s242≤9223372036854775807)∧((ByteArray.size ((s233++(⟨#[32]⟩:ByteArray))++s242)+ByteArray.size (⟨#[32]⟩:ByteArray)≤9223372036854775807)∧(rdS Tryd.prog (convert 199 9 (.slice (some ⟨b234,(o235+0),none⟩) 4 4)) h241 fun u243=>strV u243 fun s244=>(ByteArray.size (((s233++(⟨#[32]⟩:ByteArray))++s242)++(⟨#[32]⟩:ByteArray))+ByteArray.size s244≤9223372036854775807)∧((ByteArray.size ((((s233++(⟨#[32]⟩:ByteArray))++s242)++(⟨#[32]⟩:ByteArray))++s244)+ByteArray.size s239≤9223372036854775807)∧(K (.string (((((s233++(⟨#[32]⟩:ByteArray))++s242)++(⟨#[32]⟩:ByteArray))++s244)++s239)) h241))))))∧(ptrN (some ⟨b1,0,none⟩) fun b245 o246=>ldV (HP.cell (HP.set (HP.set hp b1 (.cells 34 x0 0)) b2 (.cells 34 x1 0)) b245 (o246+4)) fun v247=>intV v247 .i64 fun i248=>ptrN (some ⟨b2,0,none⟩) fun b249 o250=>ldV (HP.cell (HP.set (HP.set hp b1 (.cells 34 x0 0)) b2 (.cells 34 x1 0)) b249 (o250+4)) fun v251=>intV v251 .i64 fun i252=>ptrN (some ⟨b1,0,none⟩) fun b253 o254=>ptrN (some ⟨b2,0,none⟩) fun b255 o256=>rdS Tryd.prog (convert 199 9 (.slice (some ⟨b255,(o256+0),none⟩) 4 4)) (HP.set (HP.set hp b1 (.cells 34 x0 0)) b2 (.cells 34 x1 0)) fun u257=>strV u257 fun s258=>CF Tryd.prog 116 [(.int .i64 i248)] (HP.set (HP.set hp b1 (.cells 34 x0 0)) b2 (.cells 34 x1 0)) fun u259 h260=>strV u259 fun s261=>(ByteArray.size s261+ByteArray.size (⟨#[32]⟩:ByteArray)≤9223372036854775807)∧(CF Tryd.prog 116 [(.int .i64 i252)] h260 fun u262 h263=>strV u262 fun s264=>(ByteArray.size (s261++(⟨#[32]⟩:ByteArray))+ByteArray.size s264≤9223372036854775807)∧((ByteArray.size ((s261++(⟨#[32]⟩:ByteArray))++s264)+ByteArray.size (⟨#[32]⟩:ByteArray)≤9223372036854775807)∧(rdS Tryd.prog (convert 199 9 (.slice (some ⟨b253,(o254+0),none⟩) 4 4)) h263 fun u265=>strV u265 fun s266=>(ByteArray.size (((s261++(⟨#[32]⟩:ByteArray))++s264)++(⟨#[32]⟩:ByteArray))+ByteArray.size s266≤9223372036854775807)∧((ByteArray.size ((((s261++(⟨#[32]⟩:ByteArray))++s264)++(⟨#[32]⟩:ByteArray))++s266)+ByteArray.size s258≤9223372036854775807)∧(K (.string (((((s261++(⟨#[32]⟩:ByteArray))++s264)++(⟨#[32]⟩:ByteArray))++s266)++s258)) h263))))))∧(ptrN (some ⟨b1,0,none⟩) fun b267 o268=>ldV (HP.cell (HP.set (HP.set hp b1 (.cells 34 x0 0)) b2 (.cells 34 x1 0)) b267 (o268+4)) fun v269=>intV v269 .i64 fun i270=>ptrN (some ⟨b2,0,none⟩) fun b271 o272=>ldV (HP.cell (HP.set (HP.set hp b1 (.cells 34 x0 0)) b2 (.cells 34 x1 0)) b271 (o272+4)) fun v273=>intV v273 .i64 fun i274=>CF Tryd.prog 116 [(.int .i64 i270)] (HP.set (HP.set hp b1 (.cells 34 x0 0)) b2 (.cells 34 x1 0)) fun u275 h276=>strV u275 fun s277=>(ByteArray.size s277+ByteArray.size (⟨#[32]⟩:ByteArray)≤9223372036854775807)∧(ptrN (some ⟨b1,0,none⟩) fun b278 o279=>rdS Tryd.prog (convert 199 9 (.slice (some ⟨b278,(o279+0),none⟩) 4 4)) h276 fun u280=>strV u280 fun s281=>CF Tryd.prog 116 [(.int .i64 i274)] h276 fun u282 h283=>strV u282 fun s284=>(ByteArray.size (s277++(⟨#[32]⟩:ByteArray))+ByteArray.size s284≤9223372036854775807)∧((ByteArray.size ((s277++(⟨#[32]⟩:ByteArray))++s284)+ByteArray.size (⟨#[32]⟩:ByteArray)≤9223372036854775807)∧((ByteArray.size (((s277++(⟨#[32]⟩:ByteArray))++s284)++(⟨#[32]⟩:ByteArray))+ByteArray.size s281≤9223372036854775807)∧(ptrN (some ⟨b2,0,none⟩) fun b285 o286=>rdS Tryd.prog (convert 199 9 (.slice (some ⟨b285,(o286+0),none⟩) 4 4)) h283 fun u287=>strV u287 fun s288=>(ByteArray.size ((((s277++(⟨#[32]⟩:ByteArray))++s284)++(⟨#[32]⟩:ByteArray))++s281)+ByteArray.size s288≤9223372036854775807)∧(K (.string (((((s277++(⟨#[32]⟩:ByteArray))++s284)++(⟨#[32]⟩:ByteArray))++s281)++s288)) h283))))))∧(ptrN (some ⟨b1,0,none⟩) fun b289 o290=>ldV (HP.cell (HP.set (HP.set hp b1 (.cells 34 x0 0)) b2 (.cells 34 x1 0)) b289 (o290+4)) fun v291=>intV v291 .i64 fun i292=>ptrN (some ⟨b2,0,none⟩) fun b293 o294=>ldV (HP.cell (HP.set (HP.set hp b1 (.cells 34 x0 0)) b2 (.cells 34 x1 0)) b293 (o294+4)) fun v295=>intV v295 .i64 fun i296=>CF Tryd.prog 116 [(.int .i64 i292)] (HP.set (HP.set hp b1 (.cells 34 x0 0)) b2 (.cells 34 x1 0)) fun u297 h298=>strV u297 fun s299=>(ByteArray.size s299+ByteArray.size (⟨#[32]⟩:ByteArray)≤9223372036854775807)∧(ptrN (some ⟨b1,0,none⟩) fun b300 o301=>rdS Tryd.prog (convert 199 9 (.slice (some ⟨b300,(o301+0),none⟩) 4 4)) h298 fun u302=>strV u302 fun s303=>ptrN (some ⟨b2,0,none⟩) fun b304 o305=>rdS Tryd.prog (convert 199 9 (.slice (some ⟨b304,(o305+0),none⟩) 4 4)) h298 fun u306=>strV u306 fun s307=>CF Tryd.prog 116 [(.int .i64 i296)] h298 fun u308 h309=>strV u308 fun s310=>(ByteArray.size (s299++(⟨#[32]⟩:ByteArray))+ByteArray.size s310≤9223372036854775807)∧((ByteArray.size ((s299++(⟨#[32]⟩:ByteArray))++s310)+ByteArray.size (⟨#[32]⟩:ByteArray)≤9223372036854775807)∧((ByteArray.size (((s299++(⟨#[32]⟩:ByteArray))++s310)++(⟨#[32]⟩:ByteArray))+ByteArray.size s303≤9223372036854775807)∧((ByteArray.size ((((s299++(⟨#[32]⟩:ByteArray))++s310)++(⟨#[32]⟩:ByteArray))++s303)+ByteArray.size s307≤9223372036854775807)∧(K (.string (((((s299++(⟨#[32]⟩:ByteArray))++s310)++(⟨#[32]⟩:ByteArray))++s303)++s307)) h309))))))∧(ptrN (some ⟨b1,0,none⟩) fun b311 o312=>ldV (HP.cell (HP.set (HP.set hp b1 (.cells 34 x0 0)) b2 (.cells 34 x1 0)) b311 (o312+4)) fun v313=>intV v313 .i64 fun i314=>ptrN (some ⟨b2,0,none⟩) fun b315 o316=>ldV (HP.cell (HP.set (HP.set hp b1 (.cells 34 x0 0)) b2 (.cells 34 x1 0)) b315 (o316+4)) fun v317=>intV v317 .i64 fun i318=>ptrN (some ⟨b1,0,none⟩) fun b319 o320=>ptrN (some ⟨b2,0,none⟩) fun b321 o322=>rdS Tryd.prog (convert 199 9 (.slice (some ⟨b321,(o322+0),none⟩) 4 4)) (HP.set (HP.set hp b1 (.cells 34 x0 0)) b2 (.cells 34 x1 0)) fun u323=>strV u323 fun s324=>CF Tryd.prog 116 [(.int .i64 i314)] (HP.set (HP.set hp b1 (.cells 34 x0 0)) b2 (.cells 34 x1 0)) fun u325 h326=>strV u325 fun s327=>(ByteArray.size s327+ByteArray.size (⟨#[32]⟩:ByteArray)≤9223372036854775807)∧(rdS Tryd.prog (convert 199 9 (.slice (some ⟨b319,(o320+0),none⟩) 4 4)) h326 fun u328=>strV u328 fun s329=>CF Tryd.prog 116 [(.int .i64 i318)] h326 fun u330 h331=>strV u330 fun s332=>(ByteArray.size (s327++(⟨#[32]⟩:ByteArray))+ByteArray.size s332≤9223372036854775807)∧((ByteArray.size ((s327++(⟨#[32]⟩:ByteArray))++s332)+ByteArray.size (⟨#[32]⟩:ByteArray)≤9223372036854775807)∧((ByteArray.size (((s327++(⟨#[32]⟩:ByteArray))++s332)++(⟨#[32]⟩:ByteArray))+ByteArray.size s329≤9223372036854775807)∧((ByteArray.size ((((s327++(⟨#[32]⟩:ByteArray))++s332)++(⟨#[32]⟩:ByteArray))++s329)+ByteArray.size s324≤9223372036854775807)∧(K (.string (((((s327++(⟨#[32]⟩:ByteArray))++s332)++(⟨#[32]⟩:ByteArray))++s329)++s324)) h331))))))∧(ptrN (some ⟨b1,0,none⟩) fun b333 o334=>ldV (HP.cell (HP.set (HP.set hp b1 (.cells 34 x0 0)) b2 (.cells 34 x1 0)) b333 (o334+4)) fun v335=>intV v335 .i64 fun i336=>ptrN (some ⟨b2,0,none⟩) fun b337 o338=>ldV (HP.cell (HP.set (HP.set hp b1 (.cells 34 x0 0)) b2 (.cells 34 x1 0)) b337 (o338+4)) fun v339=>intV v339 .i64 fun i340=>ptrN (some ⟨b1,0,none⟩) fun b341 o342=>rdS Tryd.prog (convert 199 9 (.slice (some ⟨b341,(o342+0),none⟩) 4 4)) (HP.set (HP.set hp b1 (.cells 34 x0 0)) b2 (.cells 34 x1 0)) fun u343=>strV u343 fun s344=>CF Tryd.prog 116 [(.int .i64 i336)] (HP.set (HP.set hp b1 (.cells 34 x0 0)) b2 (.cells 34 x1 0)) fun u345 h346=>strV u345 fun s347=>(ByteArray.size s347+ByteArray.size (⟨#[32]⟩:ByteArray)≤9223372036854775807)∧(CF Tryd.prog 116 [(.int .i64 i340)] h346 fun u348 h349=>strV u348 fun s350=>(ByteArray.size (s347++(⟨#[32]⟩:ByteArray))+ByteArray.size s350≤9223372036854775807)∧((ByteArray.size ((s347++(⟨#[32]⟩:ByteArray))++s350)+ByteArray.size (⟨#[32]⟩:ByteArray)≤9223372036854775807)∧((ByteArray.size (((s347++(⟨#[32]⟩:ByteArray))++s350)++(⟨#[32]⟩:ByteArray))+ByteArray.size s344≤9223372036854775807)∧(ptrN (some ⟨b2,0,none⟩) fun b351 o352=>rdS Tryd.prog (convert 199 9 (.slice (some ⟨b351,(o352+0),none⟩) 4 4)) h349 fun u353=>strV u353 fun s354=>(ByteArray.size ((((s347++(⟨#[32]⟩:ByteArray))++s350)++(⟨#[32]⟩:ByteArray))++s344)+ByteArray.size s354≤9223372036854775807)∧(K (.string (((((s347++(⟨#[32]⟩:ByteArray))++s350)++(⟨#[32]⟩:ByteArray))++s344)++s354)) h349))))))∧(ptrN (some ⟨b1,0,none⟩) fun b355 o356=>ldV (HP.cell (HP.set (HP.set hp b1 (.cells 34 x0 0)) b2 (.cells 34 x1 0)) b355 (o356+4)) fun v357=>intV v357 .i64 fun i358=>ptrN (some ⟨b2,0,none⟩) fun b359 o360=>ldV (HP.cell (HP.set (HP.set hp b1 (.cells 34 x0 0)) b2 (.cells 34 x1 0)) b359 (o360+4)) fun v361=>intV v361 .i64 fun i362=>ptrN (some ⟨b1,0,none⟩) fun b363 o364=>rdS Tryd.prog (convert 199 9 (.slice (some ⟨b363,(o364+0),none⟩) 4 4)) (HP.set (HP.set hp b1 (.cells 34 x0 0)) b2 (.cells 34 x1 0)) fun u365=>strV u365 fun s366=>CF Tryd.prog 116 [(.int .i64 i358)] (HP.set (HP.set hp b1 (.cells 34 x0 0)) b2 (.cells 34 x1 0)) fun u367 h368=>strV u367 fun s369=>(ByteArray.size s369+ByteArray.size (⟨#[32]⟩:ByteArray)≤9223372036854775807)∧(ptrN (some ⟨b2,0,none⟩) fun b370 o371=>rdS Tryd.prog (convert 199 9 (.slice (some ⟨b370,(o371+0),none⟩) 4 4)) h368 fun u372=>strV u372 fun s373=>CF Tryd.prog 116 [(.int .i64 i362)] h368 fun u374 h375=>strV u374 fun s376=>(ByteArray.size (s369++(⟨#[32]⟩:ByteArray))+ByteArray.size s376≤9223372036854775807)∧((ByteArray.size ((s369++(⟨#[32]⟩:ByteArray))++s376)+ByteArray.size (⟨#[32]⟩:ByteArray)≤9223372036854775807)∧((ByteArray.size (((s369++(⟨#[32]⟩:ByteArray))++s376)++(⟨#[32]⟩:ByteArray))+ByteArray.size s366≤9223372036854775807)∧((ByteArray.size ((((s369++(⟨#[32]⟩:ByteArray))++s376)++(⟨#[32]⟩:ByteArray))++s366)+ByteArray.size s373≤9223372036854775807)∧(K (.string (((((s369++(⟨#[32]⟩:ByteArray))++s376)++(⟨#[32]⟩:ByteArray))++s366)++s373)) h375))))))∧(ptrN (some ⟨b1,0,none⟩) fun b377 o378=>ldV (HP.cell (HP.set (HP.set hp b1 (.cells 34 x0 0)) b2 (.cells 34 x1 0)) b377 (o378+4)) fun v379=>intV v379 .i64 fun i380=>ptrN (some ⟨b2,0,none⟩) fun b381 o382=>ldV (HP.cell (HP.set (HP.set hp b1 (.cells 34 x0 0)) b2 (.cells 34 x1 0)) b381 (o382+4)) fun v383=>intV v383 .i64 fun i384=>ptrN (some ⟨b1,0,none⟩) fun b385 o386=>rdS Tryd.prog (convert 199 9 (.slice (some ⟨b385,(o386+0),none⟩) 4 4)) (HP.set (HP.set hp b1 (.cells 34 x0 0)) b2 (.cells 34 x1 0)) fun u387=>strV u387 fun s388=>ptrN (some ⟨b2,0,none⟩) fun b389 o390=>rdS Tryd.prog (convert 199 9 (.slice (some ⟨b389,(o390+0),none⟩) 4 4)) (HP.set (HP.set hp b1 (.cells 34 x0 0)) b2 (.cells 34 x1 0)) fun u391=>strV u391 fun s392=>CF Tryd.prog 116 [(.int .i64 i380)] (HP.set (HP.set hp b1 (.cells 34 x0 0)) b2 (.cells 34 x1 0)) fun u393 h394=>strV u393 fun s395=>(ByteArray.size s395+ByteArray.size (⟨#[32]⟩:ByteArray)≤9223372036854775807)∧(CF Tryd.prog 116 [(.int .i64 i384)] h394 fun u396 h397=>strV u396 fun s398=>(ByteArray.size (s395++(⟨#[32]⟩:ByteArray))+ByteArray.size s398≤9223372036854775807)∧((ByteArray.size ((s395++(⟨#[32]⟩:ByteArray))++s398)+ByteArray.size (⟨#[32]⟩:ByteArray)≤9223372036854775807)∧((ByteArray.size (((s395++(⟨#[32]⟩:ByteArray))++s398)++(⟨#[32]⟩:ByteArray))+ByteArray.size s388≤9223372036854775807)∧((ByteArray.size ((((s395++(⟨#[32]⟩:ByteArray))++s398)++(⟨#[32]⟩:ByteArray))++s388)+ByteArray.size s392≤9223372036854775807)∧(K (.string (((((s395++(⟨#[32]⟩:ByteArray))++s398)++(⟨#[32]⟩:ByteArray))++s388)++s392)) h397)))))))))
noncomputable def F85_code:Code:=(.seq (.region 0 (opsAt Tryd.f85 (pth 2)) false) (.seq (.region 1 (opsAt Tryd.f85 (pth 5)) true) .ret))
theorem F85_body:Tryd.f85.body=some F85_code:=by kernel_rfl
theorem F85_ok (x0 x1:List Value) (hp:HP) (K:Kh) (h:F85 x0 x1 hp K):CF Tryd.prog 85 [(.agg ⟨x0⟩),(.agg ⟨x1⟩)] hp K:=by
 refine .inl ⟨by kernel_rfl,AC.intro (N:=22) Tryd.func85 F85_body rfl (Nat.le_of_ble_eq_true rfl) ?_⟩
 unfold F85 at h
 refine Ar F85_r0 ?_ (r2 0 1 Rn) (z2 Sn) Sn
 refine fun b1 hb_b_1=>?_
 replace h:=h b1 hb_b_1
 refine fun b2 hb_b_2=>?_
 replace h:=h b2 hb_b_2
 refine Aq (AWP.rgnC (cf:=[(2,5),(2,11),(6,11),(2,15),(6,15)]) (c:=[([true,true,true,true,true],true,[0,1,2,3,4,5,6,7,8,9,10,11,12,13,14,15,16,17]),([true,true,true,true,false],true,[0,1,2,3,4,5,9,10,13,14,15,6,7,8,11,12,16,17]),([true,true,true,false,true],false,[2,5,6,15,2]),([true,true,true,false,false],true,[0,1,4,9,10,13,14,15,2,3,5,6,7,8,11,12,16,17]),([true,true,false,true,true],true,[0,1,2,3,4,5,9,10,11,6,7,8,12,13,14,15,16,17]),([true,true,false,true,false],true,[0,1,2,3,4,5,9,10,11,13,14,15,6,7,8,12,16,17]),([true,true,false,false,true],false,[2,5,6,15,2]),([true,true,false,false,false],true,[0,1,4,9,10,13,14,15,2,3,5,11,6,7,8,12,16,17]),([true,false,true,true,true],false,[2,5,6,11,2]),([true,false,true,true,false],false,[2,5,6,11,2]),([true,false,true,false,true],false,[2,5,6,11,2]),([true,false,true,false,false],false,[2,5,6,11,2]),([true,false,false,true,true],true,[0,1,4,9,10,11,2,3,5,6,7,8,12,13,14,15,16,17]),([true,false,false,true,false],true,[0,1,4,9,10,11,2,3,5,13,14,15,6,7,8,12,16,17]),([true,false,false,false,true],false,[2,5,6,15,2]),([true,false,false,false,false],true,[0,1,4,9,10,11,13,14,15,2,3,5,6,7,8,12,16,17]),([false,true,true,true,true],true,[0,1,4,5,2,3,6,7,8,9,10,11,12,13,14,15,16,17]),([false,true,true,true,false],true,[0,1,4,5,2,3,9,10,13,14,15,6,7,8,11,12,16,17]),([false,true,true,false,true],false,[2,6,15,2]),([false,true,true,false,false],true,[0,1,4,5,9,10,13,14,15,2,3,6,7,8,11,12,16,17]),([false,true,false,true,true],true,[0,1,4,5,2,3,9,10,11,6,7,8,12,13,14,15,16,17]),([false,true,false,true,false],true,[0,1,4,5,2,3,9,10,11,13,14,15,6,7,8,12,16,17]),([false,true,false,false,true],false,[2,6,15,2]),([false,true,false,false,false],true,[0,1,4,5,9,10,13,14,15,2,3,11,6,7,8,12,16,17]),([false,false,true,true,true],false,[2,6,11,2]),([false,false,true,true,false],false,[2,6,11,2]),([false,false,true,false,true],false,[2,6,11,2]),([false,false,true,false,false],false,[2,6,11,2]),([false,false,false,true,true],true,[0,1,4,5,9,10,11,2,3,6,7,8,12,13,14,15,16,17]),([false,false,false,true,false],true,[0,1,4,5,9,10,11,2,3,13,14,15,6,7,8,12,16,17]),([false,false,false,false,true],false,[2,6,15,2]),([false,false,false,false,false],true,[0,1,4,5,9,10,11,13,14,15,2,3,6,7,8,12,16,17])]) (by kernel_rfl) (by kernel_rfl) (by kernel_rfl) (by kernel_rfl) (allO_t (Eq.mpr F85_r1 ?_) (allO_t (Eq.mpr F85_r2 ?_) (allO_f (allO_t (Eq.mpr F85_r3 ?_) (allO_t (Eq.mpr F85_r4 ?_) (allO_t (Eq.mpr F85_r5 ?_) (allO_f (allO_t (Eq.mpr F85_r6 ?_) (allO_f (allO_f (allO_f (allO_f (allO_t (Eq.mpr F85_r7 ?_) (allO_t (Eq.mpr F85_r8 ?_) (allO_f (allO_t (Eq.mpr F85_r9 ?_) (allO_t (Eq.mpr F85_r10 ?_) (allO_t (Eq.mpr F85_r11 ?_) (allO_f (allO_t (Eq.mpr F85_r12 ?_) (allO_t (Eq.mpr F85_r13 ?_) (allO_t (Eq.mpr F85_r14 ?_) (allO_f (allO_t (Eq.mpr F85_r15 ?_) (allO_f (allO_f (allO_f (allO_f (allO_t (Eq.mpr F85_r16 ?_) (allO_t (Eq.mpr F85_r17 ?_) (allO_f (allO_t (Eq.mpr F85_r18 ?_) trivial)))))))))))))))))))))))))))))))) (r2 2 3 Rn) (z2 Sn) Sn)
 ·replace h:=h.1
  refine mN h (fun b3 o4 h=>mV h (fun v5 h=>mI h (fun i6 h=>mC h (fun u7 h8 h=>ms h (fun s9 h=>⟨h.1,mN h.2 (fun b10 o11 h=>mV h (fun v12 h=>mI h (fun i13 h=>mC h (fun u14 h15 h=>ms h (fun s16 h=>⟨h.1,?_⟩)))))⟩)))))
  replace h:=h.2
  refine ⟨h.1,mN h.2 (fun b17 o18 h=>mR h (fun u19 h=>ms h (fun s20 h=>⟨h.1,mN h.2 (fun b21 o22 h=>mR h (fun u23 h=>ms h (fun s24 h=>⟨h.1,?_⟩)))⟩)))⟩
  replace h:=h.2
  refine AWP.ret ?_
  exact h
 ·replace h:=h.2.1
  refine mN h (fun b25 o26 h=>mV h (fun v27 h=>mI h (fun i28 h=>mC h (fun u29 h30 h=>ms h (fun s31 h=>⟨h.1,mN h.2 (fun b32 o33 h=>mV h (fun v34 h=>mI h (fun i35 h=>mN h (fun b36 o37 h=>mN h (fun b38 o39 h=>mR h (fun u40 h=>ms h (fun s41 h=>mC h (fun u42 h43 h=>ms h (fun s44 h=>⟨h.1,?_⟩)))))))))⟩)))))
  replace h:=h.2
  refine ⟨h.1,mR h.2 (fun u45 h=>ms h (fun s46 h=>⟨h.1,?_⟩))⟩
  replace h:=h.2
  refine ⟨h.1,?_⟩
  replace h:=h.2
  refine AWP.ret ?_
  exact h
 ·replace h:=h.2.2.1
  refine mN h (fun b47 o48 h=>mV h (fun v49 h=>mI h (fun i50 h=>mN h (fun b51 o52 h=>mN h (fun b53 o54 h=>mN h (fun b55 o56 h=>mR h (fun u57 h=>ms h (fun s58 h=>mC h (fun u59 h60 h=>ms h (fun s61 h=>⟨h.1,mV h.2 (fun v62 h=>mI h (fun i63 h=>mC h (fun u64 h65 h=>ms h (fun s66 h=>⟨h.1,?_⟩))))⟩))))))))))
  replace h:=h.2
  refine ⟨h.1,mR h.2 (fun u67 h=>ms h (fun s68 h=>⟨h.1,?_⟩))⟩
  replace h:=h.2
  refine ⟨h.1,?_⟩
  replace h:=h.2
  refine AWP.ret ?_
  exact h
 ·replace h:=h.2.2.2.1
  refine mN h (fun b69 o70 h=>mV h (fun v71 h=>mI h (fun i72 h=>mC h (fun u73 h74 h=>ms h (fun s75 h=>⟨h.1,mN h.2 (fun b76 o77 h=>mV h (fun v78 h=>mI h (fun i79 h=>mN h (fun b80 o81 h=>mR h (fun u82 h=>ms h (fun s83 h=>mC h (fun u84 h85 h=>ms h (fun s86 h=>⟨h.1,?_⟩))))))))⟩)))))
  replace h:=h.2
  refine ⟨h.1,?_⟩
  replace h:=h.2
  refine ⟨h.1,mN h.2 (fun b87 o88 h=>mR h (fun u89 h=>ms h (fun s90 h=>⟨h.1,?_⟩)))⟩
  replace h:=h.2
  refine AWP.ret ?_
  exact h
 ·replace h:=h.2.2.2.2.1
  refine mN h (fun b91 o92 h=>mV h (fun v93 h=>mI h (fun i94 h=>mC h (fun u95 h96 h=>ms h (fun s97 h=>⟨h.1,mN h.2 (fun b98 o99 h=>mV h (fun v100 h=>mI h (fun i101 h=>mN h (fun b102 o103 h=>mR h (fun u104 h=>ms h (fun s105 h=>mN h (fun b106 o107 h=>mR h (fun u108 h=>ms h (fun s109 h=>mC h (fun u110 h111 h=>ms h (fun s112 h=>⟨h.1,?_⟩)))))))))))⟩)))))
  replace h:=h.2
  refine ⟨h.1,?_⟩
  replace h:=h.2
  refine ⟨h.1,?_⟩
  replace h:=h.2
  refine ⟨h.1,?_⟩
  replace h:=h.2
  refine AWP.ret ?_
  exact h
 ·replace h:=h.2.2.2.2.2.1
  refine mN h (fun b113 o114 h=>mV h (fun v115 h=>mI h (fun i116 h=>mN h (fun b117 o118 h=>mN h (fun b119 o120 h=>mN h (fun b121 o122 h=>mR h (fun u123 h=>ms h (fun s124 h=>mC h (fun u125 h126 h=>ms h (fun s127 h=>⟨h.1,mV h.2 (fun v128 h=>mI h (fun i129 h=>mR h (fun u130 h=>ms h (fun s131 h=>mC h (fun u132 h133 h=>ms h (fun s134 h=>⟨h.1,?_⟩))))))⟩))))))))))
  replace h:=h.2
  refine ⟨h.1,?_⟩
  replace h:=h.2
  refine ⟨h.1,?_⟩
  replace h:=h.2
  refine ⟨h.1,?_⟩
  replace h:=h.2
  refine AWP.ret ?_
  exact h
 ·replace h:=h.2.2.2.2.2.2.1
  refine mN h (fun b135 o136 h=>mV h (fun v137 h=>mI h (fun i138 h=>mN h (fun b139 o140 h=>mN h (fun b141 o142 h=>mR h (fun u143 h=>ms h (fun s144 h=>mC h (fun u145 h146 h=>ms h (fun s147 h=>⟨h.1,mV h.2 (fun v148 h=>mI h (fun i149 h=>mC h (fun u150 h151 h=>ms h (fun s152 h=>⟨h.1,?_⟩))))⟩)))))))))
  replace h:=h.2
  refine ⟨h.1,?_⟩
  replace h:=h.2
  refine ⟨h.1,mN h.2 (fun b153 o154 h=>mR h (fun u155 h=>ms h (fun s156 h=>⟨h.1,?_⟩)))⟩
  replace h:=h.2
  refine AWP.ret ?_
  exact h
 ·replace h:=h.2.2.2.2.2.2.2.1
  refine mN h (fun b157 o158 h=>mV h (fun v159 h=>mI h (fun i160 h=>mN h (fun b161 o162 h=>mN h (fun b163 o164 h=>mR h (fun u165 h=>ms h (fun s166 h=>mC h (fun u167 h168 h=>ms h (fun s169 h=>⟨h.1,mV h.2 (fun v170 h=>mI h (fun i171 h=>mN h (fun b172 o173 h=>mR h (fun u174 h=>ms h (fun s175 h=>mC h (fun u176 h177 h=>ms h (fun s178 h=>⟨h.1,?_⟩)))))))⟩)))))))))
  replace h:=h.2
  refine ⟨h.1,?_⟩
  replace h:=h.2
  refine ⟨h.1,?_⟩
  replace h:=h.2
  refine ⟨h.1,?_⟩
  replace h:=h.2
  refine AWP.ret ?_
  exact h
 ·replace h:=h.2.2.2.2.2.2.2.2.1
  refine mN h (fun b179 o180 h=>mV h (fun v181 h=>mI h (fun i182 h=>mN h (fun b183 o184 h=>mN h (fun b185 o186 h=>mR h (fun u187 h=>ms h (fun s188 h=>mN h (fun b189 o190 h=>mR h (fun u191 h=>ms h (fun s192 h=>mC h (fun u193 h194 h=>ms h (fun s195 h=>⟨h.1,mV h.2 (fun v196 h=>mI h (fun i197 h=>mC h (fun u198 h199 h=>ms h (fun s200 h=>⟨h.1,?_⟩))))⟩))))))))))))
  replace h:=h.2
  refine ⟨h.1,?_⟩
  replace h:=h.2
  refine ⟨h.1,?_⟩
  replace h:=h.2
  refine ⟨h.1,?_⟩
  replace h:=h.2
  refine AWP.ret ?_
  exact h
 ·replace h:=h.2.2.2.2.2.2.2.2.2.1
  refine mN h (fun b201 o202 h=>mV h (fun v203 h=>mI h (fun i204 h=>mN h (fun b205 o206 h=>mV h (fun v207 h=>mI h (fun i208 h=>mC h (fun u209 h210 h=>ms h (fun s211 h=>⟨h.1,mC h.2 (fun u212 h213 h=>ms h (fun s214 h=>⟨h.1,?_⟩))⟩))))))))
  replace h:=h.2
  refine ⟨h.1,mN h.2 (fun b215 o216 h=>mR h (fun u217 h=>ms h (fun s218 h=>⟨h.1,mN h.2 (fun b219 o220 h=>mR h (fun u221 h=>ms h (fun s222 h=>⟨h.1,?_⟩)))⟩)))⟩
  replace h:=h.2
  refine AWP.ret ?_
  exact h
 ·replace h:=h.2.2.2.2.2.2.2.2.2.2.1
  refine mN h (fun b223 o224 h=>mV h (fun v225 h=>mI h (fun i226 h=>mN h (fun b227 o228 h=>mV h (fun v229 h=>mI h (fun i230 h=>mC h (fun u231 h232 h=>ms h (fun s233 h=>⟨h.1,mN h.2 (fun b234 o235 h=>mN h (fun b236 o237 h=>mR h (fun u238 h=>ms h (fun s239 h=>mC h (fun u240 h241 h=>ms h (fun s242 h=>⟨h.1,?_⟩))))))⟩))))))))
  replace h:=h.2
  refine ⟨h.1,mR h.2 (fun u243 h=>ms h (fun s244 h=>⟨h.1,?_⟩))⟩
  replace h:=h.2
  refine ⟨h.1,?_⟩
  replace h:=h.2
  refine AWP.ret ?_
  exact h
 ·replace h:=h.2.2.2.2.2.2.2.2.2.2.2.1
  refine mN h (fun b245 o246 h=>mV h (fun v247 h=>mI h (fun i248 h=>mN h (fun b249 o250 h=>mV h (fun v251 h=>mI h (fun i252 h=>mN h (fun b253 o254 h=>mN h (fun b255 o256 h=>mR h (fun u257 h=>ms h (fun s258 h=>mC h (fun u259 h260 h=>ms h (fun s261 h=>⟨h.1,mC h.2 (fun u262 h263 h=>ms h (fun s264 h=>⟨h.1,?_⟩))⟩))))))))))))
  replace h:=h.2
  refine ⟨h.1,mR h.2 (fun u265 h=>ms h (fun s266 h=>⟨h.1,?_⟩))⟩
  replace h:=h.2
  refine ⟨h.1,?_⟩
  replace h:=h.2
  refine AWP.ret ?_
  exact h
 ·replace h:=h.2.2.2.2.2.2.2.2.2.2.2.2.1
  refine mN h (fun b267 o268 h=>mV h (fun v269 h=>mI h (fun i270 h=>mN h (fun b271 o272 h=>mV h (fun v273 h=>mI h (fun i274 h=>mC h (fun u275 h276 h=>ms h (fun s277 h=>⟨h.1,mN h.2 (fun b278 o279 h=>mR h (fun u280 h=>ms h (fun s281 h=>mC h (fun u282 h283 h=>ms h (fun s284 h=>⟨h.1,?_⟩)))))⟩))))))))
  replace h:=h.2
  refine ⟨h.1,?_⟩
  replace h:=h.2
  refine ⟨h.1,mN h.2 (fun b285 o286 h=>mR h (fun u287 h=>ms h (fun s288 h=>⟨h.1,?_⟩)))⟩
  replace h:=h.2
  refine AWP.ret ?_
  exact h
 ·replace h:=h.2.2.2.2.2.2.2.2.2.2.2.2.2.1
  refine mN h (fun b289 o290 h=>mV h (fun v291 h=>mI h (fun i292 h=>mN h (fun b293 o294 h=>mV h (fun v295 h=>mI h (fun i296 h=>mC h (fun u297 h298 h=>ms h (fun s299 h=>⟨h.1,mN h.2 (fun b300 o301 h=>mR h (fun u302 h=>ms h (fun s303 h=>mN h (fun b304 o305 h=>mR h (fun u306 h=>ms h (fun s307 h=>mC h (fun u308 h309 h=>ms h (fun s310 h=>⟨h.1,?_⟩))))))))⟩))))))))
  replace h:=h.2
  refine ⟨h.1,?_⟩
  replace h:=h.2
  refine ⟨h.1,?_⟩
  replace h:=h.2
  refine ⟨h.1,?_⟩
  replace h:=h.2
  refine AWP.ret ?_
  exact h
 ·replace h:=h.2.2.2.2.2.2.2.2.2.2.2.2.2.2.1
  refine mN h (fun b311 o312 h=>mV h (fun v313 h=>mI h (fun i314 h=>mN h (fun b315 o316 h=>mV h (fun v317 h=>mI h (fun i318 h=>mN h (fun b319 o320 h=>mN h (fun b321 o322 h=>mR h (fun u323 h=>ms h (fun s324 h=>mC h (fun u325 h326 h=>ms h (fun s327 h=>⟨h.1,mR h.2 (fun u328 h=>ms h (fun s329 h=>mC h (fun u330 h331 h=>ms h (fun s332 h=>⟨h.1,?_⟩))))⟩))))))))))))
  replace h:=h.2
  refine ⟨h.1,?_⟩
  replace h:=h.2
  refine ⟨h.1,?_⟩
  replace h:=h.2
  refine ⟨h.1,?_⟩
  replace h:=h.2
  refine AWP.ret ?_
  exact h
 ·replace h:=h.2.2.2.2.2.2.2.2.2.2.2.2.2.2.2.1
  refine mN h (fun b333 o334 h=>mV h (fun v335 h=>mI h (fun i336 h=>mN h (fun b337 o338 h=>mV h (fun v339 h=>mI h (fun i340 h=>mN h (fun b341 o342 h=>mR h (fun u343 h=>ms h (fun s344 h=>mC h (fun u345 h346 h=>ms h (fun s347 h=>⟨h.1,mC h.2 (fun u348 h349 h=>ms h (fun s350 h=>⟨h.1,?_⟩))⟩)))))))))))
  replace h:=h.2
  refine ⟨h.1,?_⟩
  replace h:=h.2
  refine ⟨h.1,mN h.2 (fun b351 o352 h=>mR h (fun u353 h=>ms h (fun s354 h=>⟨h.1,?_⟩)))⟩
  replace h:=h.2
  refine AWP.ret ?_
  exact h
 ·replace h:=h.2.2.2.2.2.2.2.2.2.2.2.2.2.2.2.2.1
  refine mN h (fun b355 o356 h=>mV h (fun v357 h=>mI h (fun i358 h=>mN h (fun b359 o360 h=>mV h (fun v361 h=>mI h (fun i362 h=>mN h (fun b363 o364 h=>mR h (fun u365 h=>ms h (fun s366 h=>mC h (fun u367 h368 h=>ms h (fun s369 h=>⟨h.1,mN h.2 (fun b370 o371 h=>mR h (fun u372 h=>ms h (fun s373 h=>mC h (fun u374 h375 h=>ms h (fun s376 h=>⟨h.1,?_⟩)))))⟩)))))))))))
  replace h:=h.2
  refine ⟨h.1,?_⟩
  replace h:=h.2
  refine ⟨h.1,?_⟩
  replace h:=h.2
  refine ⟨h.1,?_⟩
  replace h:=h.2
  refine AWP.ret ?_
  exact h
 ·replace h:=h.2.2.2.2.2.2.2.2.2.2.2.2.2.2.2.2.2
  refine mN h (fun b377 o378 h=>mV h (fun v379 h=>mI h (fun i380 h=>mN h (fun b381 o382 h=>mV h (fun v383 h=>mI h (fun i384 h=>mN h (fun b385 o386 h=>mR h (fun u387 h=>ms h (fun s388 h=>mN h (fun b389 o390 h=>mR h (fun u391 h=>ms h (fun s392 h=>mC h (fun u393 h394 h=>ms h (fun s395 h=>⟨h.1,mC h.2 (fun u396 h397 h=>ms h (fun s398 h=>⟨h.1,?_⟩))⟩))))))))))))))
  replace h:=h.2
  refine ⟨h.1,?_⟩
  replace h:=h.2
  refine ⟨h.1,?_⟩
  replace h:=h.2
  refine ⟨h.1,?_⟩
  replace h:=h.2
  refine AWP.ret ?_
  exact h
end
end Go.Proofs
set_option linter.unusedVariables false
namespace Go.Proofs
open Go Go.HL
/-- An address: four bytes. -/
abbrev Q:=Int × Int × Int × Int
def v4 (q:Q):List Value:=[.int .u8 q.1,.int .u8 q.2.1,.int .u8 q.2.2.1,.int .u8 q.2.2.2]
def t4 (t:Q × Int):List Value:=[.int .u8 t.1.1,.int .u8 t.1.2.1,.int .u8 t.1.2.2.1,.int .u8 t.1.2.2.2,.int .i64 t.2]
theorem t4_inj {p q:Q × Int}:t4 p=t4 q↔p=q:=by
  simp only [t4,List.cons.injEq,Value.int.injEq,true_and,and_true]
  constructor
  · rintro ⟨a,b,c,d,e⟩; exact Prod.ext (Prod.ext a (Prod.ext b (Prod.ext c d))) e
  · rintro rfl; exact ⟨rfl,rfl,rfl,rfl,rfl⟩
theorem t4_shaped (q:Q × Int):shaped Tryd.prog 3 34 (t4 q)=true:=by kernel_rfl
theorem eq75 {p q:Q × Int} {c:Bool→Prop} (h:c (decide (p=q))):eqAgg Tryd.prog 34 (t4 p) (t4 q) c:=
  eqAgg_of (m:=3) (D:=3) (by kernel_rfl) (t4_shaped p) (t4_shaped q) (by simp [t4_inj]) h
/-! Class, the two addresses. -/
end Go.Proofs
namespace Go.HL
open Go Go.Lib
/-- The number that digits read as. -/
def dval (l:List UInt8):Nat:=l.foldl (fun a b=>a*10+(b.toNat-48)) 0
theorem dval_dec:∀ u:Nat,dval (decDigits u)=u
  | u=>by
    rw [decDigits]
    split
    · rename_i h
      simp only [dval,List.foldl_cons,List.foldl_nil]
      have:(UInt8.ofNat (48+u)).toNat=48+u:=by simp [UInt8.toNat_ofNat']; omega
      rw [this]; omega
    · rename_i h
      have ih:=dval_dec (u / 10)
      unfold dval at ih ⊢
      rw [List.foldl_append,ih]
      simp only [List.foldl_cons,List.foldl_nil]
      have:(UInt8.ofNat (48+u % 10)).toNat=48+u % 10:=by simp [UInt8.toNat_ofNat']; omega
      rw [this]; omega
termination_by u=>u
decreasing_by omega
theorem dec_digit:∀ (u:Nat) (b:UInt8),b∈decDigits u→48≤b.toNat∧b.toNat≤57
  | u,b,h=>by
    rw [decDigits] at h
    split at h
    · rename_i hu
      rw [List.mem_singleton] at h
      subst h
      have:(UInt8.ofNat (48+u)).toNat=48+u:=by simp [UInt8.toNat_ofNat']; omega
      omega
    · rename_i hu
      rw [List.mem_append,List.mem_singleton] at h
      rcases h with h | h
      · exact dec_digit (u / 10) b h
      · subst h
        have:(UInt8.ofNat (48+u % 10)).toNat=48+u % 10:=by simp [UInt8.toNat_ofNat']; omega
        omega
termination_by u=>u
decreasing_by omega
theorem dec_inj {u v:Nat} (h:decDigits u=decDigits v):u=v:=by
  rw [← dval_dec u,h,dval_dec]
theorem itoa_inj {a b:Int} (h:itoa a=itoa b):a=b:=by
  unfold itoa at h
  have key:∀ u v:Nat,(45:UInt8)::decDigits u≠decDigits v:=fun u v e=>by
    have:=dec_digit v 45 (by rw [← e]; simp)
    have e45:(45:UInt8).toNat=45:=rfl
    omega
  split at h <;> split at h
  · rw [List.cons.injEq] at h
    have:=dec_inj h.2
    omega
  · exact absurd h (key _ _)
  · exact absurd h.symm (key _ _)
  · have:=dec_inj h
    omega
theorem itoa_blank (a:Int):(32:UInt8) ∉ itoa a:=by
  unfold itoa
  have key:∀ u:Nat,(32:UInt8) ∉ decDigits u:=fun u h=>by
    have:=dec_digit u 32 h
    have e32:(32:UInt8).toNat=32:=rfl
    omega
  split
  · rw [List.mem_cons,not_or]
    exact ⟨by decide,key _⟩
  · exact key _
theorem blank_split:∀ {a b r s:List UInt8},(32:UInt8) ∉ a→(32:UInt8) ∉ b→a++32::r=b++32::s→a=b∧r=s
  | [],[],_,_,_,_,h=>by simpa using h
  | [],y::b,_,_,_,hb,h=>by
    simp only [List.nil_append,List.cons_append,List.cons.injEq] at h
    exact absurd (by rw [h.1]; simp) hb
  | x::a,[],_,_,ha,_,h=>by
    simp only [List.nil_append,List.cons_append,List.cons.injEq] at h
    exact absurd (by rw [← h.1]; simp) ha
  | x::a,y::b,r,s,ha,hb,h=>by
    simp only [List.cons_append,List.cons.injEq] at h
    obtain ⟨e1,e2⟩:=h
    have:=blank_split (a:=a) (b:=b) (fun hm=>ha (List.mem_cons_of_mem _ hm)) (fun hm=>hb (List.mem_cons_of_mem _ hm)) e2
    exact ⟨by rw [e1,this.1],this.2⟩
/-- Two numbers, each with a blank behind it, and bytes. -/
def keyL (a b:Int) (l:List UInt8):List UInt8:=itoa a++32::(itoa b++32::l)
theorem keyL_inj {a b c d:Int} {l m:List UInt8} (h:keyL a b l=keyL c d m):a=c∧b=d∧l=m:=by
  unfold keyL at h
  obtain ⟨h1,h2⟩:=blank_split (itoa_blank a) (itoa_blank c) h
  obtain ⟨h3,h4⟩:=blank_split (itoa_blank b) (itoa_blank d) h2
  exact ⟨itoa_inj h1,itoa_inj h3,h4⟩
end Go.HL
set_option linter.unusedVariables false
set_option linter.unusedSimpArgs false
set_option maxRecDepth 20000
namespace Go.Proofs
open Go Go.HL
def okB (n:Int):Prop:=0≤n∧n≤255
def okZ (n:Int):Prop:=-9223372036854775808≤n∧n≤9223372036854775807
def okQ (q:Q):Prop:=okB q.1∧okB q.2.1∧okB q.2.2.1∧okB q.2.2.2
def okT (t:Q × Int):Prop:=okQ t.1∧okZ t.2
def qi (q:Q):List Int:=[q.1,q.2.1,q.2.2.1,q.2.2.2]
def bs (q:Q):List UInt8:=(qi q).map u8
theorem bs_inj {p q:Q} (hp:okQ p) (hq:okQ q) (h:bs p=bs q):p=q:=by
  simp only [bs,qi,List.map_cons,List.map_nil,List.cons.injEq,and_true] at h
  obtain ⟨a1,a2,a3,a4⟩:=hp
  obtain ⟨b1,b2,b3,b4⟩:=hq
  exact Prod.ext (u8_inj a1 b1 h.1) (Prod.ext (u8_inj a2 b2 h.2.1) (Prod.ext (u8_inj a3 b3 h.2.2.1) (u8_inj a4 b4 h.2.2.2)))
/-- The key of two transport addresses. -/
def keyS (o p:Q × Int):ByteArray:=⟨(keyL o.2 p.2 (bs o.1++bs p.1)).toArray⟩
theorem keyS_inj {o p o' p':Q × Int} (h1:okT o) (h2:okT p) (h3:okT o') (h4:okT p') (h:keyS o p=keyS o' p'):o=o'∧p=p':=by
  have e:keyL o.2 p.2 (bs o.1++bs p.1)=keyL o'.2 p'.2 (bs o'.1++bs p'.1):=by
    have:=congrArg ByteArray.data h
    have:=congrArg Array.toList this
    simpa [keyS] using this
  obtain ⟨a,b,c⟩:=keyL_inj e
  obtain ⟨c1,c2⟩:=List.append_inj c rfl
  exact ⟨Prod.ext (bs_inj h1.1 h3.1 c1) a,Prod.ext (bs_inj h2.1 h4.1 c2) b⟩
def itS (n:Int):ByteArray:=⟨(Lib.itoa n).toArray⟩
theorem itS_size {n:Int} (h:okZ n):(itS n).size≤21:=by
  have:=Lib.itoa_length_le n h.1 h.2
  show (Lib.itoa n).toArray.size≤21
  simpa using this
def byS (l:List UInt8):ByteArray:=⟨l.toArray⟩
theorem byS_app (l m:List UInt8):byS l++byS m=byS (l++m):=by
  apply ByteArray.ext
  simp [byS,ByteArray.data_append]
theorem key_app (o p:Q × Int):(((((itS o.2++(⟨#[32]⟩:ByteArray))++itS p.2)++(⟨#[32]⟩:ByteArray))++byS (bs o.1))++byS (bs p.1))=keyS o p:=by
  have e:(⟨#[32]⟩:ByteArray)=byS [32]:=rfl
  have e2:∀ n,itS n=byS (Lib.itoa n):=fun _=>rfl
  have e3:keyS o p=byS (keyL o.2 p.2 (bs o.1++bs p.1)):=rfl
  rw [e,e2,e2,e3,byS_app,byS_app,byS_app,byS_app,byS_app]
  congr 1
  simp [keyL]
theorem TabR.set {o:Obj} {hp:HP} (h:TabR o hp) {b:Nat} (hb:hp b=.none) (e:Ent):TabR o (hp.set b e):=h.sub (HSub.set_fresh hp e hb)
theorem C85 {tb:Obj} {o p:Q × Int} {hp:HP} {K:Value→HP→Prop} (ht:TabR tb hp) (ho:okZ o.2) (hp':okZ p.2) (hK:K (.string (keyS o p)) hp):CF Tryd.prog 85 [.agg ⟨t4 o⟩,.agg ⟨t4 p⟩] hp K:=by
  refine CF.drop (F85_ok (t4 o) (t4 p) hp _ ?_)
  unfold F85
  intro b1 hb1 b2 hb2
  have hne:b2≠b1:=fun e=>by rw [e,HP.set_eq] at hb2; cases hb2
  have ht2:TabR tb ((hp.set b1 (.cells 34 (t4 o) 0)).set b2 (.cells 34 (t4 p) 0)):=(ht.set hb1 _).set hb2 _
  have hs2:HSub hp ((hp.set b1 (.cells 34 (t4 o) 0)).set b2 (.cells 34 (t4 p) 0)):=(HSub.set_fresh hp _ hb1).trans (HSub.set_fresh _ _ hb2)
  have x1:((hp.set b1 (.cells 34 (t4 o) 0)).set b2 (.cells 34 (t4 p) 0)) b1=.cells 34 (t4 o) 0:=by rw [HP.set_ne _ _ hne.symm,HP.set_eq]
  have x2:((hp.set b1 (.cells 34 (t4 o) 0)).set b2 (.cells 34 (t4 p) 0)) b2=.cells 34 (t4 p) 0:=HP.set_eq ..
  generalize (hp.set b1 (.cells 34 (t4 o) 0)).set b2 (.cells 34 (t4 p) 0)=hp2 at *
  have y1:hp2.cell b1 4=some (.int .i64 o.2):=HP.cell_of x1
  have y2:hp2.cell b2 4=some (.int .i64 p.2):=HP.cell_of x2
  have z1:hp2.cellN b1 0 4=some ((qi o.1).map (Value.int .u8)):=by rw [HP.cellN_of x1]; rfl
  have z2:hp2.cellN b2 0 4=some ((qi p.1).map (Value.int .u8)):=by rw [HP.cellN_of x2]; rfl
  have i1:=itS_size ho
  have i2:=itS_size hp'
  have b1s:(byS (bs o.1)).size=4:=rfl
  have b2s:(byS (bs p.1)).size=4:=rfl
  have e32:(⟨#[32]⟩:ByteArray).size=1:=rfl
  have c1:∀ {K:Value→HP→Prop},K (.string (itS o.2)) hp2→CF Tryd.prog 116 [.int .i64 o.2] hp2 K:=fun h=>C116 ht2 ho h
  have c2:∀ {K:Value→HP→Prop},K (.string (itS p.2)) hp2→CF Tryd.prog 116 [.int .i64 p.2] hp2 K:=fun h=>C116 ht2 hp' h
  have r1:∀ {c:Value→Prop},c (.string (byS (bs o.1)))→rdS Tryd.prog (convert 199 9 (.slice (some ⟨b1,0,none⟩) 4 4)) hp2 c:=fun h=>rdS_bytes (e:=5) (by kernel_rfl) (by kernel_rfl) (by kernel_rfl) rfl z1 h
  have r2:∀ {c:Value→Prop},c (.string (byS (bs p.1)))→rdS Tryd.prog (convert 199 9 (.slice (some ⟨b2,0,none⟩) 4 4)) hp2 c:=fun h=>rdS_bytes (e:=5) (by kernel_rfl) (by kernel_rfl) (by kernel_rfl) rfl z2 h
  have fin:∃ hp'',HSub hp'' hp2∧K (.string (((((itS o.2++(⟨#[32]⟩:ByteArray))++itS p.2)++(⟨#[32]⟩:ByteArray))++byS (bs o.1))++byS (bs p.1))) hp'':=⟨hp,hs2,by rw [key_app]; exact hK⟩
  clear x1 x2 z1 z2 ht2 ht hs2 hb1 hb2 hK
  generalize itS o.2=s1 at *
  generalize itS p.2=s2 at *
  generalize byS (bs o.1)=s3 at *
  generalize byS (bs p.1)=s4 at *
  simp only [ptrN_some,Nat.zero_add,y1,y2,ldV_some,intV_int]
  repeat' apply And.intro
  all_goals repeat (first
    | exact fin
    | (refine c1 ?_; rw [strV_string])
    | (refine c2 ?_; rw [strV_string])
    | (refine r1 ?_; rw [strV_string])
    | (refine r2 ?_; rw [strV_string])
    | (refine ⟨by first | omega | (simp only [str_app]; omega),?_⟩)
    | (simp only [y1,y2,ldV_some,intV_int,ptrN_some,Nat.zero_add])
    | omega
    | (simp only [str_app]; omega))
end Go.Proofs
set_option linter.unusedVariables false
set_option maxRecDepth 20000
set_option maxHeartbeats 4000000
namespace Go.Proofs
open Go Go.HL
section
variable {e:Env} {x0:Int} {x4:OA} {x5:Int} {hp:HP} {K:Env→PV→HP→Prop}
abbrev R32 (p n:Nat):=RW Tryd.prog 20 [] (opsAt Tryd.f32 (pth p)) (List.range n)
theorem F32_r0:R32 2 2 e V0 hp K=
 K (w2 e 2 (sP none) 3 (sI 0)) V0 hp:= by kernel_rfl
theorem F32_r1:R32 5 7 (upd e 0 (sI x0)) V0 hp K=
 CF Tryd.prog 66 [(.int .i64 x0)] hp fun u1 h2=>(tup2V u1 fun u3 u4=>ptrV u3 fun p5=>intV u4 .i64 fun i6=>K (w8 e 0 (sI x0) 7 (sI x0) 8 (sV (.tuple ⟨[(.pointer p5),(.int .i64 i6)]⟩)) 6 (sV (.tuple ⟨[(.pointer p5),(.int .i64 i6)]⟩)) 9 (sP p5) 10 (sI i6) 4 (sP p5) 5 (sI i6)) V0 h2):= by kernel_rfl
theorem F32_r2:R32 19 2 (upd e 5 (sI x5)) V0 hp K=
 K (w3 e 5 (sI x5) 11 (sI x5) 12 (sB ((x5 != 0)))) V0 hp:= by kernel_rfl
theorem F32_r3:R32 75 3 (upd e 5 (sI x5)) V0 hp K=
 K (w4 e 5 (sI x5) 13 (sI x5) 2 (sP none) 3 (sI x5)) V0 hp:= by kernel_rfl
theorem F32_r4:R32 23 8 (w2 e 4 (sP x4) 0 (sI x0)) V0 hp K=
    (∀ b1:Nat,hp b1=.none→(CF Tryd.prog 82 [] (HP.set hp b1 (.obj (.map #[] 0))) fun u2 h3=>ptrV u2 fun p4=>∀ b5:Nat,h3 b5=.none→(K (w2 (w8 e 4 (sP x4) 0 (sI x0) 14 (sI x0) 15 (sV (.map (some b1))) 16 (sP x4) 17 (sP p4) 18 (sV (.agg ⟨[(.int .i64 x0),.int .i64 0,(.map (some b1)),(.pointer x4),(.pointer p4)]⟩)) 19 (sQ b5 0)) 2 (sQ b5 0) 3 (sI 0)) V0 (HP.set h3 b5 (.cells 145 [(.int .i64 x0),.int .i64 0,(.map (some b1)),(.pointer x4),(.pointer p4)] 0))))):=by kernel_rfl
def F32 (x0:Int) (hp:HP) (K:Kh):Prop:=
  (CF Tryd.prog 66 [(.int .i64 x0)] hp fun u1 h2=>tup2V u1 fun u3 u4=>ptrV u3 fun p5=>intV u4 .i64 fun i6=>ite2 (i6 != 0) (K (.tuple ⟨[(.pointer none),(.int .i64 i6)]⟩) h2) (∀ b7:Nat,h2 b7=.none→(CF Tryd.prog 82 [] (HP.set h2 b7 (.obj (.map #[] 0))) fun u8 h9=>ptrV u8 fun p10=>∀ b11:Nat,h9 b11=.none→(K (.tuple ⟨[(ptr b11 0),.int .i64 0]⟩) (HP.set h9 b11 (.cells 145 [(.int .i64 x0),.int .i64 0,(.map (some b7)),(.pointer p5),(.pointer p10)] 0))))))
noncomputable def F32_code:Code:=(.seq (.region 0 (opsAt Tryd.f32 (pth 2)) false) (.seq (.region 1 (opsAt Tryd.f32 (pth 5)) false) (.seq (.seq (.region 2 (opsAt Tryd.f32 (pth 19)) false) (.cond (.tmp 12) (.seq (.region 3 (opsAt Tryd.f32 (pth 75)) false) .ret) .skip)) (.seq (.region 4 (opsAt Tryd.f32 (pth 23)) false) .ret))))
theorem F32_body:Tryd.f32.body=some F32_code:=by kernel_rfl
theorem F32_ok (x0:Int) (hp:HP) (K:Kh) (h:F32 x0 hp K):CF Tryd.prog 32 [(.int .i64 x0)] hp K:=by
 refine .inl ⟨by kernel_rfl,AC.intro (N:=20) Tryd.func32 F32_body rfl (Nat.le_of_ble_eq_true rfl) ?_⟩
 unfold F32 at h
 refine Ar F32_r0 ?_ (r1 0 Rn) (z1 Sn) Sn
 refine Ar F32_r1 ?_ (r1 0 Rn) (z1 Sn) Sn
 refine mC h fun u1 h2 h=>mT h fun u3 u4 h=>mP h fun p5 h=>mI h fun i6 h=>?_
 refine Aq (Ar F32_r2 ?_ (r3 5 0 4 Rn) (z3 Sn) Sn)
 refine Ac h rfl (fun h=>?_) (fun h=>?_)
 ·refine Ar F32_r3 ?_ (r1 5 Rn) (z1 Sn) Sn
  refine AWP.ret ?_
  exact h
 ·refine AWP.skip (Ar F32_r4 ?_ (r2 0 4 Rn) (z2 Sn) Sn)
  refine fun b7 hb_b_7=>?_
  replace h:=h b7 hb_b_7
  refine mC h fun u8 h9 h=>mP h fun p10 h=>?_
  refine fun b11 hb_b_11=>?_
  replace h:=h b11 hb_b_11
  refine AWP.ret ?_
  exact h
end
section
variable {e E:Env} {x0:OA} {x1 x2:List Value} {x3:Int} {x4:ByteArray} {x12:Bool} {k6 k7:List Value} {hp:HP} {K:Env→PV→HP→Prop}
abbrev R33 (p n:Nat):=RW Tryd.prog 95 [6,7] (opsAt Tryd.f33 (pth p)) (List.range n)
theorem F33_r0:R33 2 3 (w2 e 2 (sA x2) 1 (sA x1)) V0 hp K=
 K (w5 e 2 (sA x2) 1 (sA x1) 6 (sR 6 0) 7 (sR 7 0) 10 (sI 0)) (w2 V0 6 (34,x1) 7 (34,x2)) hp:= by kernel_rfl
theorem F33_r1:R33 17 3 (upd e 0 (sP x0)) (w2 V0 7 (34,k7) 6 (34,k6)) hp K=
 CF Tryd.prog 83 [(.pointer x0)] hp fun u1 h2=>(boolV u1 fun q3=>K (w4 e 0 (sP x0) 14 (sP x0) 15 (sB q3) 13 (sB q3)) (w2 V0 7 (34,k7) 6 (34,k6)) h2):= by kernel_rfl
theorem F33_r2:R33 73 1 e V0 hp K=
 K (upd e 10 (sI 2)) V0 hp:= by kernel_rfl
theorem F33_r3:R33 89 4 (upd e 4 (sT x4)) (w2 V0 7 (34,k7) 6 (34,k6)) hp K=
 K (w5 e 4 (sT x4) 17 (sT x4) 18 (sI ((ByteArray.size x4:Nat))) 19 (sB ((decide (((ByteArray.size x4:Nat):Int) > 65536)))) 16 (sB ((decide (((ByteArray.size x4:Nat):Int) > 65536))))) (w2 V0 7 (34,k7) 6 (34,k6)) hp:= by kernel_rfl
theorem F33_r4:R33 313 1 e V0 hp K=
 K (upd e 10 (sI 3)) V0 hp:= by kernel_rfl
theorem F33_r5:R33 1273 1 e V0 hp K=
 K (upd e 10 (sI 1)) V0 hp:= by kernel_rfl
theorem F33_r6:R33 43 1 (upd e 12 (sB x12)) (w2 V0 7 (34,k7) 6 (34,k6)) hp K=
 K (w2 e 12 (sB x12) 38 (sB x12)) (w2 V0 7 (34,k7) 6 (34,k6)) hp:= by kernel_rfl
theorem F33_r7:R33 155 1 e V0 hp K=
 K (upd e 10 (sI 5)) V0 hp:= by kernel_rfl
theorem F33_r8:R33 151 1 e V0 hp K=
 K (upd e 10 (sI 6)) V0 hp:= by kernel_rfl
theorem F33_r9:R33 47 8 (upd e 0 (sP x0)) (w2 V0 7 (34,k7) 6 (34,k6)) hp K=
 ptrN x0 fun b1 o2=>(ldV (HP.cell hp b1 (o2+1)) fun v3=>intV v3 .i64 fun i4=>ptrN x0 fun b5 o6=>HP.st hp b5 (o6+1) (.int .i64 (wr (i4+1))) fun h7=>K (w8 e 0 (sP x0) 49 (sP x0) 50 (sQ b1 o2) 51 (sQ b1 (o2+1)) 52 (sI i4) 53 (sI ((wr (i4+1)))) 54 (sQ b5 o6) 55 (sQ b5 (o6+1))) (w2 V0 7 (34,k7) 6 (34,k6)) h7):= by kernel_rfl
theorem F33_r10 (h:E=upd (w4 e 7 (sR 7 0) 6 (sR 6 0) 4 (sT x4) 3 (sI x3)) 0 (sP x0)):R33 95 18 E (w2 V0 7 (34,k7) 6 (34,k6)) hp K=
 ptrN x0 fun b1 o2=>(ldV (HP.cell hp b1 (o2+2)) fun v3=>mapV v3 fun m4=>ptrN x0 fun b5 o6=>ldV (HP.cell hp b5 (o6+1)) fun v7=>intV v7 .i64 fun i8=>ptrN x0 fun b9 o10=>ldV (HP.cell hp b9 (o10+1)) fun v11=>intV v11 .i64 fun i12=>ldL (cellsN k6 0 5) fun l13=>ldL (cellsN k7 0 5) fun l14=>if List.length l13=5 then (if List.length l14=5 then (opS Tryd.prog (Instr.mapUpdate 57 (.map m4) (.int .i64 i8) (.agg ⟨(List.set (List.set (splice (splice [(.int .i64 i12),.int .u8 0,.int .u8 0,.int .u8 0,.int .u8 0,.int .i64 0,.int .u8 0,.int .u8 0,.int .u8 0,.int .u8 0,.int .i64 0,.int .i64 0,.string ⟨#[]⟩] 1 l13) 6 l14) 11 (.int .i64 x3)) 12 (.string x4))⟩)) hp fun u15 h16=>K (upd (w8 (w8 E 56 (sP x0) 57 (sQ b1 o2) 58 (sQ b1 (o2+2)) 59 (sV (.map m4)) 60 (sP x0) 61 (sQ b5 o6) 62 (sQ b5 (o6+1)) 63 (sI i8)) 64 (sP x0) 65 (sQ b9 o10) 66 (sQ b9 (o10+1)) 67 (sI i12) 68 (sA l13) 69 (sA l14) 70 (sI x3) 71 (sT x4)) 72 (sV (.agg ⟨(List.set (List.set (splice (splice [(.int .i64 i12),.int .u8 0,.int .u8 0,.int .u8 0,.int .u8 0,.int .i64 0,.int .u8 0,.int .u8 0,.int .u8 0,.int .u8 0,.int .i64 0,.int .i64 0,.string ⟨#[]⟩] 1 l13) 6 l14) 11 (.int .i64 x3)) 12 (.string x4))⟩))) (w2 V0 7 (34,k7) 6 (34,k6)) h16) else False) else False):= by subst h; kernel_rfl
theorem F33_r11:R33 383 11 (w2 e 3 (sI x3) 0 (sP x0)) V0 hp K=
 ptrN x0 fun b1 o2=>(ldV (HP.cell hp b1 (o2+4)) fun v3=>ptrV v3 fun p4=>ptrN x0 fun b5 o6=>ldV (HP.cell hp b5 (o6+1)) fun v7=>intV v7 .i64 fun i8=>CF Tryd.prog 87 [(.pointer p4),(.int .i64 i8),(.int .i64 x3)] hp fun u9 h10=>intV u9 .i64 fun i11=>K (w5 (w8 e 3 (sI x3) 0 (sP x0) 85 (sP x0) 86 (sQ b1 o2) 87 (sQ b1 (o2+4)) 88 (sP p4) 89 (sP x0) 90 (sQ b5 o6)) 91 (sQ b5 (o6+1)) 92 (sI i8) 93 (sI x3) 94 (sI i11) 10 (sI i11)) V0 h10):= by kernel_rfl
def F33_j4 (x0:OA) (x3:Int) (hp:HP) (K:Kh):Prop:=
  (ptrN x0 fun b27 o28=>ldV (HP.cell hp b27 (o28+4)) fun v29=>ptrV v29 fun p30=>ptrN x0 fun b31 o32=>ldV (HP.cell hp b31 (o32+1)) fun v33=>intV v33 .i64 fun i34=>CF Tryd.prog 87 [(.pointer p30),(.int .i64 i34),(.int .i64 x3)] hp fun u35 h36=>intV u35 .i64 fun i37=>K (.int .i64 i37) h36)
theorem F33_r12 {e:Env} {x0:OA} {k6:List Value} {k7:List Value} {hp:HP} {K:Env→PV→HP→Prop}:RW Tryd.prog 95 [6,7] (opsAt Tryd.f33 (pth 191)) [0,1,2,3,4,5,6,7,8,9,10,11] (w3 e 7 (sR 7 0) 6 (sR 6 0) 0 (sP x0)) (w2 V0 7 (34,k7) 6 (34,k6)) hp K=
 ptrN x0 fun b1 o2=>(ldV (HP.cell hp b1 (o2+3)) fun v3=>ptrV v3 fun p4=>ldL (cellsN k6 0 5) fun l5=>ldL (cellsN k7 0 5) fun l6=>CF Tryd.prog 85 [(.agg ⟨l5⟩),(.agg ⟨l6⟩)] hp fun u7 h8=>strV u7 fun s9=>ptrN x0 fun b10 o11=>ldV (HP.cell h8 b10 (o11+1)) fun v12=>intV v12 .i64 fun i13=>CF Tryd.prog 86 [(.pointer p4),(.string s9),(.int .i64 i13)] h8 fun u14 h15=>intV u14 .i64 fun i16=>K (w7 (w8 e 7 (sR 7 0) 6 (sR 6 0) 0 (sP x0) 73 (sP x0) 74 (sQ b1 o2) 75 (sQ b1 (o2+3)) 76 (sP p4) 77 (sA l5)) 78 (sA l6) 79 (sT s9) 80 (sP x0) 81 (sQ b10 o11) 82 (sQ b10 (o11+1)) 83 (sI i13) 84 (sI i16)) (w2 V0 7 (34,k7) 6 (34,k6)) h15):= by kernel_rfl
theorem F33_r13 {e:Env} {x0:OA} {k6:List Value} {k7:List Value} {hp:HP} {K:Env→PV→HP→Prop}:RW Tryd.prog 95 [6,7] (opsAt Tryd.f33 (pth 191)) [0,1,2,3,4,5,7,8,9,10,6,11] (w3 e 7 (sR 7 0) 6 (sR 6 0) 0 (sP x0)) (w2 V0 7 (34,k7) 6 (34,k6)) hp K=
 ptrN x0 fun b1 o2=>(ldV (HP.cell hp b1 (o2+3)) fun v3=>ptrV v3 fun p4=>ldL (cellsN k6 0 5) fun l5=>ldL (cellsN k7 0 5) fun l6=>ptrN x0 fun b7 o8=>ldV (HP.cell hp b7 (o8+1)) fun v9=>intV v9 .i64 fun i10=>CF Tryd.prog 85 [(.agg ⟨l5⟩),(.agg ⟨l6⟩)] hp fun u11 h12=>strV u11 fun s13=>CF Tryd.prog 86 [(.pointer p4),(.string s13),(.int .i64 i10)] h12 fun u14 h15=>intV u14 .i64 fun i16=>K (w7 (w8 e 7 (sR 7 0) 6 (sR 6 0) 0 (sP x0) 73 (sP x0) 74 (sQ b1 o2) 75 (sQ b1 (o2+3)) 76 (sP p4) 77 (sA l5)) 78 (sA l6) 80 (sP x0) 81 (sQ b7 o8) 82 (sQ b7 (o8+1)) 83 (sI i10) 79 (sT s13) 84 (sI i16)) (w2 V0 7 (34,k7) 6 (34,k6)) h15):= by kernel_rfl
theorem F33_r14 {e:Env} {x0:OA} {k6:List Value} {k7:List Value} {hp:HP} {K:Env→PV→HP→Prop}:RW Tryd.prog 95 [6,7] (opsAt Tryd.f33 (pth 191)) [0,1,2,4,5,6,3,7,8,9,10,11] (w3 e 7 (sR 7 0) 6 (sR 6 0) 0 (sP x0)) (w2 V0 7 (34,k7) 6 (34,k6)) hp K=
 ptrN x0 fun b1 o2=>(ldL (cellsN k6 0 5) fun l3=>ldL (cellsN k7 0 5) fun l4=>CF Tryd.prog 85 [(.agg ⟨l3⟩),(.agg ⟨l4⟩)] hp fun u5 h6=>strV u5 fun s7=>ldV (HP.cell h6 b1 (o2+3)) fun v8=>ptrV v8 fun p9=>ptrN x0 fun b10 o11=>ldV (HP.cell h6 b10 (o11+1)) fun v12=>intV v12 .i64 fun i13=>CF Tryd.prog 86 [(.pointer p9),(.string s7),(.int .i64 i13)] h6 fun u14 h15=>intV u14 .i64 fun i16=>K (w7 (w8 e 7 (sR 7 0) 6 (sR 6 0) 0 (sP x0) 73 (sP x0) 74 (sQ b1 o2) 75 (sQ b1 (o2+3)) 77 (sA l3) 78 (sA l4)) 79 (sT s7) 76 (sP p9) 80 (sP x0) 81 (sQ b10 o11) 82 (sQ b10 (o11+1)) 83 (sI i13) 84 (sI i16)) (w2 V0 7 (34,k7) 6 (34,k6)) h15):= by kernel_rfl
theorem F33_r15 {e:Env} {x0:OA} {k6:List Value} {k7:List Value} {hp:HP} {K:Env→PV→HP→Prop}:RW Tryd.prog 95 [6,7] (opsAt Tryd.f33 (pth 191)) [0,1,2,4,5,7,8,9,10,6,3,11] (w3 e 7 (sR 7 0) 6 (sR 6 0) 0 (sP x0)) (w2 V0 7 (34,k7) 6 (34,k6)) hp K=
 ptrN x0 fun b1 o2=>(ldL (cellsN k6 0 5) fun l3=>ldL (cellsN k7 0 5) fun l4=>ptrN x0 fun b5 o6=>ldV (HP.cell hp b5 (o6+1)) fun v7=>intV v7 .i64 fun i8=>CF Tryd.prog 85 [(.agg ⟨l3⟩),(.agg ⟨l4⟩)] hp fun u9 h10=>strV u9 fun s11=>ldV (HP.cell h10 b1 (o2+3)) fun v12=>ptrV v12 fun p13=>CF Tryd.prog 86 [(.pointer p13),(.string s11),(.int .i64 i8)] h10 fun u14 h15=>intV u14 .i64 fun i16=>K (w7 (w8 e 7 (sR 7 0) 6 (sR 6 0) 0 (sP x0) 73 (sP x0) 74 (sQ b1 o2) 75 (sQ b1 (o2+3)) 77 (sA l3) 78 (sA l4)) 80 (sP x0) 81 (sQ b5 o6) 82 (sQ b5 (o6+1)) 83 (sI i8) 79 (sT s11) 76 (sP p13) 84 (sI i16)) (w2 V0 7 (34,k7) 6 (34,k6)) h15):= by kernel_rfl
def F33_j3 (x0:OA) (x3:Int) (x4:ByteArray) (x48:Bool) (k6 k7:List Value) (hp:HP) (K:Kh):Prop:=
  (ite2 x48 (K (.int .i64 6) hp) (ptrN x0 fun b4 o5=>ldV (HP.cell hp b4 (o5+1)) fun v6=>intV v6 .i64 fun i7=>ptrN x0 fun b8 o9=>HP.st hp b8 (o9+1) (.int .i64 (IntKind.wrap .i64 (i7+1))) fun h10=>ptrN x0 fun b11 o12=>ldV (HP.cell h10 b11 (o12+2)) fun v13=>mapV v13 fun m14=>ptrN x0 fun b15 o16=>ldV (HP.cell h10 b15 (o16+1)) fun v17=>intV v17 .i64 fun i18=>ptrN x0 fun b19 o20=>ldV (HP.cell h10 b19 (o20+1)) fun v21=>intV v21 .i64 fun i22=>ldL (cellsN k6 0 5) fun l23=>ldL (cellsN k7 0 5) fun l24=>if List.length l23=5 then (if List.length l24=5 then (opS Tryd.prog (Instr.mapUpdate 57 (.map m14) (.int .i64 i18) (.agg ⟨(List.set (List.set (splice (splice [(.int .i64 i22),.int .u8 0,.int .u8 0,.int .u8 0,.int .u8 0,.int .i64 0,.int .u8 0,.int .u8 0,.int .u8 0,.int .u8 0,.int .i64 0,.int .i64 0,.string ⟨#[]⟩] 1 l23) 6 l24) 11 (.int .i64 x3)) 12 (.string x4))⟩)) h10 fun u25 h26=>(ptrN x0 fun b38 o39=>ldV (HP.cell h26 b38 (o39+3)) fun v40=>ptrV v40 fun p41=>ldL (cellsN k6 0 5) fun l42=>ldL (cellsN k7 0 5) fun l43=>CF Tryd.prog 85 [(.agg ⟨l42⟩),(.agg ⟨l43⟩)] h26 fun u44 h45=>strV u44 fun s46=>ptrN x0 fun b47 o48=>ldV (HP.cell h45 b47 (o48+1)) fun v49=>intV v49 .i64 fun i50=>CF Tryd.prog 86 [(.pointer p41),(.string s46),(.int .i64 i50)] h45 fun u51 h52=>intV u51 .i64 fun i53=>F33_j4 x0 x3 h52  K)∧(ptrN x0 fun b54 o55=>ldV (HP.cell h26 b54 (o55+3)) fun v56=>ptrV v56 fun p57=>ldL (cellsN k6 0 5) fun l58=>ldL (cellsN k7 0 5) fun l59=>ptrN x0 fun b60 o61=>ldV (HP.cell h26 b60 (o61+1)) fun v62=>intV v62 .i64 fun i63=>CF Tryd.prog 85 [(.agg ⟨l58⟩),(.agg ⟨l59⟩)] h26 fun u64 h65=>strV u64 fun s66=>CF Tryd.prog 86 [(.pointer p57),(.string s66),(.int .i64 i63)] h65 fun u67 h68=>intV u67 .i64 fun i69=>F33_j4 x0 x3 h68  K)∧(ptrN x0 fun b70 o71=>ldL (cellsN k6 0 5) fun l72=>ldL (cellsN k7 0 5) fun l73=>CF Tryd.prog 85 [(.agg ⟨l72⟩),(.agg ⟨l73⟩)] h26 fun u74 h75=>strV u74 fun s76=>ldV (HP.cell h75 b70 (o71+3)) fun v77=>ptrV v77 fun p78=>ptrN x0 fun b79 o80=>ldV (HP.cell h75 b79 (o80+1)) fun v81=>intV v81 .i64 fun i82=>CF Tryd.prog 86 [(.pointer p78),(.string s76),(.int .i64 i82)] h75 fun u83 h84=>intV u83 .i64 fun i85=>F33_j4 x0 x3 h84  K)∧(ptrN x0 fun b86 o87=>ldL (cellsN k6 0 5) fun l88=>ldL (cellsN k7 0 5) fun l89=>ptrN x0 fun b90 o91=>ldV (HP.cell h26 b90 (o91+1)) fun v92=>intV v92 .i64 fun i93=>CF Tryd.prog 85 [(.agg ⟨l88⟩),(.agg ⟨l89⟩)] h26 fun u94 h95=>strV u94 fun s96=>ldV (HP.cell h95 b86 (o87+3)) fun v97=>ptrV v97 fun p98=>CF Tryd.prog 86 [(.pointer p98),(.string s96),(.int .i64 i93)] h95 fun u99 h100=>intV u99 .i64 fun i101=>F33_j4 x0 x3 h100  K)) else False) else False))
theorem F33_r16 {e:Env} {x0:OA} {k6:List Value} {k7:List Value} {hp:HP} {K:Env→PV→HP→Prop}:RW Tryd.prog 95 [6,7] (opsAt Tryd.f33 (pth 39)) [0,1,2,3,4,5,6,7,8,9] (upd e 0 (sP x0)) (w2 V0 7 (34,k7) 6 (34,k6)) hp K=
 ptrN x0 fun b1 o2=>(ldV (HP.cell hp b1 (o2+2)) fun v3=>mapV v3 fun m4=>rdS Tryd.prog (Builtin.len_ #[57] 3 #[.map m4]) hp fun u5=>intV u5 .i64 fun i6=>ptrN x0 fun b7 o8=>ldV (HP.cell hp b7 (o8+0)) fun v9=>intV v9 .i64 fun i10=>K (w3 (w8 e 0 (sP x0) 39 (sP x0) 40 (sQ b1 o2) 41 (sQ b1 (o2+2)) 42 (sV (.map m4)) 43 (sI i6) 44 (sP x0) 45 (sQ b7 o8)) 46 (sQ b7 (o8+0)) 47 (sI i10) 48 (sB (decide (i6≥i10)))) (w2 V0 7 (34,k7) 6 (34,k6)) hp):= by kernel_rfl
theorem F33_r17 {e:Env} {x0:OA} {k6:List Value} {k7:List Value} {hp:HP} {K:Env→PV→HP→Prop}:RW Tryd.prog 95 [6,7] (opsAt Tryd.f33 (pth 39)) [0,1,2,3,5,6,7,8,4,9] (upd e 0 (sP x0)) (w2 V0 7 (34,k7) 6 (34,k6)) hp K=
 ptrN x0 fun b1 o2=>(ldV (HP.cell hp b1 (o2+2)) fun v3=>mapV v3 fun m4=>ptrN x0 fun b5 o6=>ldV (HP.cell hp b5 (o6+0)) fun v7=>intV v7 .i64 fun i8=>rdS Tryd.prog (Builtin.len_ #[57] 3 #[.map m4]) hp fun u9=>intV u9 .i64 fun i10=>K (w3 (w8 e 0 (sP x0) 39 (sP x0) 40 (sQ b1 o2) 41 (sQ b1 (o2+2)) 42 (sV (.map m4)) 44 (sP x0) 45 (sQ b5 o6) 46 (sQ b5 (o6+0))) 47 (sI i8) 43 (sI i10) 48 (sB (decide (i10≥i8)))) (w2 V0 7 (34,k7) 6 (34,k6)) hp):= by kernel_rfl
def F33_j2 (x0:OA) (x3:Int) (x4:ByteArray) (x12:Bool) (k6 k7:List Value) (hp:HP) (K:Kh):Prop:=
  (ite2 x12 (K (.int .i64 5) hp) ((ptrN x0 fun b102 o103=>ldV (HP.cell hp b102 (o103+2)) fun v104=>mapV v104 fun m105=>rdS Tryd.prog (Builtin.len_ #[57] 3 #[.map m105]) hp fun u106=>intV u106 .i64 fun i107=>ptrN x0 fun b108 o109=>ldV (HP.cell hp b108 (o109+0)) fun v110=>intV v110 .i64 fun i111=>F33_j3 x0 x3 x4 (decide (i107≥i111)) k6 k7 hp  K)∧(ptrN x0 fun b112 o113=>ldV (HP.cell hp b112 (o113+2)) fun v114=>mapV v114 fun m115=>ptrN x0 fun b116 o117=>ldV (HP.cell hp b116 (o117+0)) fun v118=>intV v118 .i64 fun i119=>rdS Tryd.prog (Builtin.len_ #[57] 3 #[.map m115]) hp fun u120=>intV u120 .i64 fun i121=>F33_j3 x0 x3 x4 (decide (i121≥i119)) k6 k7 hp  K)))
theorem F33_r18 {e:Env} {x0:OA} {k6:List Value} {k7:List Value} {hp:HP} {K:Env→PV→HP→Prop}:RW Tryd.prog 95 [6,7] (opsAt Tryd.f33 (pth 19)) [0,1,2,3,4,5,6,7,8,9,10,11,12] (w3 e 7 (sR 7 0) 6 (sR 6 0) 0 (sP x0)) (w2 V0 7 (34,k7) 6 (34,k6)) hp K=
 ptrN x0 fun b1 o2=>(ldV (HP.cell hp b1 (o2+3)) fun v3=>ptrV v3 fun p4=>ldL (cellsN k6 0 5) fun l5=>ldL (cellsN k7 0 5) fun l6=>CF Tryd.prog 85 [(.agg ⟨l5⟩),(.agg ⟨l6⟩)] hp fun u7 h8=>strV u7 fun s9=>CF Tryd.prog 84 [(.pointer p4),(.string s9)] h8 fun u10 h11=>tup2V u10 fun u12 u13=>intV u12 .i64 fun i14=>boolV u13 fun q15=>K (w8 (w8 e 7 (sR 7 0) 6 (sR 6 0) 0 (sP x0) 28 (sP x0) 29 (sQ b1 o2) 30 (sQ b1 (o2+3)) 31 (sP p4) 32 (sA l5)) 33 (sA l6) 34 (sT s9) 35 (sV (.tuple ⟨[(.int .i64 i14),(.bool q15)]⟩)) 27 (sV (.tuple ⟨[(.int .i64 i14),(.bool q15)]⟩)) 36 (sI i14) 37 (sB q15) 11 (sI i14) 12 (sB q15)) (w2 V0 7 (34,k7) 6 (34,k6)) h11):= by kernel_rfl
theorem F33_r19 {e:Env} {x0:OA} {k6:List Value} {k7:List Value} {hp:HP} {K:Env→PV→HP→Prop}:RW Tryd.prog 95 [6,7] (opsAt Tryd.f33 (pth 19)) [0,1,2,4,5,6,3,7,8,9,10,11,12] (w3 e 7 (sR 7 0) 6 (sR 6 0) 0 (sP x0)) (w2 V0 7 (34,k7) 6 (34,k6)) hp K=
 ptrN x0 fun b1 o2=>(ldL (cellsN k6 0 5) fun l3=>ldL (cellsN k7 0 5) fun l4=>CF Tryd.prog 85 [(.agg ⟨l3⟩),(.agg ⟨l4⟩)] hp fun u5 h6=>strV u5 fun s7=>ldV (HP.cell h6 b1 (o2+3)) fun v8=>ptrV v8 fun p9=>CF Tryd.prog 84 [(.pointer p9),(.string s7)] h6 fun u10 h11=>tup2V u10 fun u12 u13=>intV u12 .i64 fun i14=>boolV u13 fun q15=>K (w8 (w8 e 7 (sR 7 0) 6 (sR 6 0) 0 (sP x0) 28 (sP x0) 29 (sQ b1 o2) 30 (sQ b1 (o2+3)) 32 (sA l3) 33 (sA l4)) 34 (sT s7) 31 (sP p9) 35 (sV (.tuple ⟨[(.int .i64 i14),(.bool q15)]⟩)) 27 (sV (.tuple ⟨[(.int .i64 i14),(.bool q15)]⟩)) 36 (sI i14) 37 (sB q15) 11 (sI i14) 12 (sB q15)) (w2 V0 7 (34,k7) 6 (34,k6)) h11):= by kernel_rfl
def F33_j1 (x0:OA) (x3:Int) (x4:ByteArray) (x20:Bool) (k6 k7:List Value) (hp:HP) (K:Kh):Prop:=
  (ite2 x20 (K (.int .i64 1) hp) ((ptrN x0 fun b122 o123=>ldV (HP.cell hp b122 (o123+3)) fun v124=>ptrV v124 fun p125=>ldL (cellsN k6 0 5) fun l126=>ldL (cellsN k7 0 5) fun l127=>CF Tryd.prog 85 [(.agg ⟨l126⟩),(.agg ⟨l127⟩)] hp fun u128 h129=>strV u128 fun s130=>CF Tryd.prog 84 [(.pointer p125),(.string s130)] h129 fun u131 h132=>tup2V u131 fun u133 u134=>intV u133 .i64 fun i135=>boolV u134 fun q136=>F33_j2 x0 x3 x4 q136 k6 k7 h132  K)∧(ptrN x0 fun b137 o138=>ldL (cellsN k6 0 5) fun l139=>ldL (cellsN k7 0 5) fun l140=>CF Tryd.prog 85 [(.agg ⟨l139⟩),(.agg ⟨l140⟩)] hp fun u141 h142=>strV u141 fun s143=>ldV (HP.cell h142 b137 (o138+3)) fun v144=>ptrV v144 fun p145=>CF Tryd.prog 84 [(.pointer p145),(.string s143)] h142 fun u146 h147=>tup2V u146 fun u148 u149=>intV u148 .i64 fun i150=>boolV u149 fun q151=>F33_j2 x0 x3 x4 q151 k6 k7 h147  K)))
theorem F33_r20:R33 377 7 (upd e 3 (sI x3)) (w2 V0 7 (34,k7) 6 (34,k6)) hp K=
 ite2 (decide (x3<0)) (K (w8 e 3 (sI x3) 21 (sI x3) 22 (sB (decide (x3<0))) 23 (sB true) 24 sU 25 sU 26 (sB true) 20 (sB true)) (w2 V0 7 (34,k7) 6 (34,k6)) hp) (K (w8 e 3 (sI x3) 21 (sI x3) 22 (sB (decide (x3<0))) 23 (sB false) 24 (sI x3) 25 (sB (decide (x3 > 4611686018427387904))) 26 (sB (decide (x3 > 4611686018427387904))) 20 (sB (decide (x3 > 4611686018427387904)))) (w2 V0 7 (34,k7) 6 (34,k6)) hp):= by kernel_rfl
def F33 (x0:OA) (x1 x2:List Value) (x3:Int) (x4:ByteArray) (hp:HP) (K:Kh):Prop:=
  (CF Tryd.prog 83 [(.pointer x0)] hp fun u1 h2=>boolV u1 fun q3=>ite2 q3 (K (.int .i64 2) h2) (ite2 (decide (((ByteArray.size x4:Nat):Int) > 65536)) (K (.int .i64 3) h2) (ite2 (decide (x3<0)) (F33_j1 x0 x3 x4 true x1 x2 h2  K) (F33_j1 x0 x3 x4 (decide (x3 > 4611686018427387904)) x1 x2 h2  K))))
noncomputable abbrev o33 (k n:Nat):Code:=.region k (opsAt Tryd.f33 (pth n)) false
noncomputable def F33_code:Code:=(.seq (o33 0 2) (.seq (.block 0 (.seq (o33 1 17) (.cond (.tmp 13) (.seq (o33 2 73) .ret) (.seq (o33 3 89) (.cond (.tmp 16) (.seq (o33 4 313) .ret) (.seq (o33 5 377) (.cond (.tmp 20) (.seq (o33 6 1273) .ret) .skip))))))) (.seq (.seq (.region 7 (opsAt Tryd.f33 (pth 19)) true) (.seq (o33 8 43) (.cond (.tmp 38) (.seq (o33 9 155) .ret) .skip))) (.seq (.seq (.region 10 (opsAt Tryd.f33 (pth 39)) true) (.cond (.tmp 48) (.seq (o33 11 151) .ret) .skip)) (.seq (o33 12 47) (.seq (.region 13 (opsAt Tryd.f33 (pth 95)) true) (.seq (.region 14 (opsAt Tryd.f33 (pth 191)) true) (.seq (.region 15 (opsAt Tryd.f33 (pth 383)) true) .ret))))))))
theorem F33_body:Tryd.f33.body=some F33_code:=by kernel_rfl
theorem F33_ok (x0:OA) (x1 x2:List Value) (x3:Int) (x4:ByteArray) (hp:HP) (K:Kh) (h:F33 x0 x1 x2 x3 x4 hp K):CF Tryd.prog 33 [(.pointer x0),(.agg ⟨x1⟩),(.agg ⟨x2⟩),(.int .i64 x3),(.string x4)] hp K:=by
 refine .inl ⟨by kernel_rfl,AC.intro (N:=95) Tryd.func33 F33_body rfl (Nat.le_of_ble_eq_true rfl) ?_⟩
 unfold F33 at h
 refine Ar F33_r0 ?_ (r5 1 2 0 3 4 Rn) (z5 Sn) Sn
 refine Aq (AWP.block (Ar F33_r1 ?_ (r3 0 3 4 (rp 6 6 0 (rp 7 7 0 Rn))) (z5 Sn) (z2 Sn)))
 refine mC h fun u1 h2 h=>mB h fun q3 h=>?_
 refine Ac h rfl (fun h=>?_) (fun h=>?_)
 ·refine Ar F33_r2 ?_ Rn Sn Sn
  refine AWP.ret ?_
  exact h
 ·refine Ar F33_r3 ?_ (r3 4 0 3 (rp 6 6 0 (rp 7 7 0 Rn))) (z5 Sn) (z2 Sn)
  refine Ac h rfl (fun h=>?_) (fun h=>?_)
  ·refine Ar F33_r4 ?_ Rn Sn Sn
   refine AWP.ret ?_
   exact h
  ·refine As (fun env pv hp=>∃ x0 x3 x4 x20 k6 k7,Sub (w6 E0 20 (sB x20) 7 (sR 7 0) 6 (sR 6 0) 4 (sT x4) 3 (sI x3) 0 (sP x0)) env∧Sub (w2 V0 7 (34,k7) 6 (34,k6)) pv∧(F33_j1 x0 x3 x4 x20 k6 k7 hp  K)) ?_ ?_
   ·refine Ag F33_r20 ?_ (r3 3 0 4 (rp 6 6 0 (rp 7 7 0 Rn))) (z5 Sn) (z2 Sn)
    refine mt h (fun h=>?_) (fun h=>?_)
    ·exact ⟨_,_,_,_,_,_,(z6 Sn),(z2 Sn),h⟩
    ·exact ⟨_,_,_,_,_,_,(z6 Sn),(z2 Sn),h⟩
   ·rintro env pv hp ⟨x0,x3,x4,x20,k6,k7,he,hv,h⟩
    refine Ae ?_ (r3 0 3 4 (rp 6 6 0 (rp 7 7 0 (r1 20 Rn)))) he hv
    unfold F33_j1 at h
    refine Ac h rfl (fun h=>?_) (fun h=>?_)
    ·refine Ar F33_r5 ?_ Rn Sn Sn
     refine AWP.ret ?_
     exact h
    ·refine AWP.skip (Aq (As (fun env pv hp=>∃ x0 x3 x4 x12 k6 k7,Sub (w6 E0 12 (sB x12) 7 (sR 7 0) 6 (sR 6 0) 4 (sT x4) 3 (sI x3) 0 (sP x0)) env∧Sub (w2 V0 7 (34,k7) 6 (34,k6)) pv∧(F33_j2 x0 x3 x4 x12 k6 k7 hp  K)) ?_ ?_))
     ·refine AWP.rgnC (cf:=[(3,6)]) (c:=[([true],true,[0,1,2,3,4,5,6,7,8,9,10,11,12]),([false],true,[0,1,2,4,5,6,3,7,8,9,10,11,12])]) (by kernel_rfl) (by kernel_rfl) (by kernel_rfl) (by kernel_rfl) (allO_t (Eq.mpr F33_r18 ?_) (allO_t (Eq.mpr F33_r19 ?_) trivial)) (r1 0 (rp 6 6 0 (rp 7 7 0 (r2 3 4 Rn)))) (z5 Sn) (z2 Sn)
      ·replace h:=h.1
       refine mN h fun b122 o123 h=>mV h fun v124 h=>mP h fun p125 h=>mL h fun l126 h=>mL h fun l127 h=>mC h fun u128 h129 h=>ms h fun s130 h=>mC h fun u131 h132 h=>mT h fun u133 u134 h=>mI h fun i135 h=>mB h fun q136 h=>?_
       exact ⟨_,_,_,_,_,_,(z6 Sn),(z2 Sn),h⟩
      ·replace h:=h.2
       refine mN h fun b137 o138 h=>mL h fun l139 h=>mL h fun l140 h=>mC h fun u141 h142 h=>ms h fun s143 h=>mV h fun v144 h=>mP h fun p145 h=>mC h fun u146 h147 h=>mT h fun u148 u149 h=>mI h fun i150 h=>mB h fun q151 h=>?_
       exact ⟨_,_,_,_,_,_,(z6 Sn),(z2 Sn),h⟩
     ·rintro env pv hp ⟨x0,x3,x4,x12,k6,k7,he,hv,h⟩
      refine Ae ?_ (r3 0 3 4 (rp 6 6 0 (rp 7 7 0 (r1 12 Rn)))) he hv
      unfold F33_j2 at h
      refine Ar F33_r6 ?_ (r4 12 0 3 4 (rp 6 6 0 (rp 7 7 0 Rn))) (z6 Sn) (z2 Sn)
      refine Ac h rfl (fun h=>?_) (fun h=>?_)
      ·refine Ar F33_r7 ?_ Rn Sn Sn
       refine AWP.ret ?_
       exact h
      ·refine AWP.skip (Aq (As (fun env pv hp=>∃ x0 x3 x4 x48 k6 k7,Sub (w6 E0 48 (sB x48) 7 (sR 7 0) 6 (sR 6 0) 4 (sT x4) 3 (sI x3) 0 (sP x0)) env∧Sub (w2 V0 7 (34,k7) 6 (34,k6)) pv∧(F33_j3 x0 x3 x4 x48 k6 k7 hp  K)) ?_ ?_))
       ·refine AWP.rgnC (cf:=[(4,8)]) (c:=[([true],true,[0,1,2,3,4,5,6,7,8,9]),([false],true,[0,1,2,3,5,6,7,8,4,9])]) (by kernel_rfl) (by kernel_rfl) (by kernel_rfl) (by kernel_rfl) (allO_t (Eq.mpr F33_r16 ?_) (allO_t (Eq.mpr F33_r17 ?_) trivial)) (r3 0 3 4 (rp 6 6 0 (rp 7 7 0 Rn))) (z5 Sn) (z2 Sn)
        ·replace h:=h.1
         refine mN h fun b102 o103 h=>mV h fun v104 h=>mM h fun m105 h=>mR h fun u106 h=>mI h fun i107 h=>mN h fun b108 o109 h=>mV h fun v110 h=>mI h fun i111 h=>?_
         exact ⟨_,_,_,_,_,_,(z6 Sn),(z2 Sn),h⟩
        ·replace h:=h.2
         refine mN h fun b112 o113 h=>mV h fun v114 h=>mM h fun m115 h=>mN h fun b116 o117 h=>mV h fun v118 h=>mI h fun i119 h=>mR h fun u120 h=>mI h fun i121 h=>?_
         exact ⟨_,_,_,_,_,_,(z6 Sn),(z2 Sn),h⟩
       ·rintro env pv hp ⟨x0,x3,x4,x48,k6,k7,he,hv,h⟩
        refine Ae ?_ (r3 0 3 4 (rp 6 6 0 (rp 7 7 0 (r1 48 Rn)))) he hv
        unfold F33_j3 at h
        refine Ac h rfl (fun h=>?_) (fun h=>?_)
        ·refine Ar F33_r8 ?_ Rn Sn Sn
         refine AWP.ret ?_
         exact h
        ·refine AWP.skip (Ar F33_r9 ?_ (r3 0 3 4 (rp 6 6 0 (rp 7 7 0 Rn))) (z5 Sn) (z2 Sn))
         refine mN h fun b4 o5 h=>mV h fun v6 h=>mI h fun i7 h=>mN h fun b8 o9 h=>mw h fun h10 h=>?_
         refine Aq (AWP.rgnD (by kernel_rfl) (by kernel_rfl) (F33_r10 rfl) ?_ (r3 0 3 4 (rp 6 6 0 (rp 7 7 0 Rn))) (z5 Sn) (z2 Sn))
         refine mN h fun b11 o12 h=>mV h fun v13 h=>mM h fun m14 h=>mN h fun b15 o16 h=>mV h fun v17 h=>mI h fun i18 h=>mN h fun b19 o20 h=>mV h fun v21 h=>mI h fun i22 h=>mL h fun l23 h=>mL h fun l24 h=>mf h fun h=>mf h fun h=>mO h fun u25 h26 h=>?_
         refine As (fun env pv hp=>∃ x0 x3,Sub (w2 E0 3 (sI x3) 0 (sP x0)) env∧Sub V0 pv∧F33_j4 x0 x3 hp  K) ?_ ?_
         ·refine AWP.rgnC (cf:=[(3,6),(6,10)]) (c:=[([true,true],true,[0,1,2,3,4,5,6,7,8,9,10,11]),([true,false],true,[0,1,2,3,4,5,7,8,9,10,6,11]),([false,true],true,[0,1,2,4,5,6,3,7,8,9,10,11]),([false,false],true,[0,1,2,4,5,7,8,9,10,6,3,11])]) (by kernel_rfl) (by kernel_rfl) (by kernel_rfl) (by kernel_rfl) (allO_t (Eq.mpr F33_r12 ?_) (allO_t (Eq.mpr F33_r13 ?_) (allO_t (Eq.mpr F33_r14 ?_) (allO_t (Eq.mpr F33_r15 ?_) trivial)))) (r1 0 (rp 6 6 0 (rp 7 7 0 (r1 3 Rn)))) (z4 Sn) (z2 Sn)
          ·replace h:=h.1
           refine mN h fun b38 o39 h=>mV h fun v40 h=>mP h fun p41 h=>mL h fun l42 h=>mL h fun l43 h=>mC h fun u44 h45 h=>ms h fun s46 h=>mN h fun b47 o48 h=>mV h fun v49 h=>mI h fun i50 h=>mC h fun u51 h52 h=>mI h fun i53 h=>?_
           exact ⟨_,_,(z2 Sn),Sn,h⟩
          ·replace h:=h.2.1
           refine mN h fun b54 o55 h=>mV h fun v56 h=>mP h fun p57 h=>mL h fun l58 h=>mL h fun l59 h=>mN h fun b60 o61 h=>mV h fun v62 h=>mI h fun i63 h=>mC h fun u64 h65 h=>ms h fun s66 h=>mC h fun u67 h68 h=>mI h fun i69 h=>?_
           exact ⟨_,_,(z2 Sn),Sn,h⟩
          ·replace h:=h.2.2.1
           refine mN h fun b70 o71 h=>mL h fun l72 h=>mL h fun l73 h=>mC h fun u74 h75 h=>ms h fun s76 h=>mV h fun v77 h=>mP h fun p78 h=>mN h fun b79 o80 h=>mV h fun v81 h=>mI h fun i82 h=>mC h fun u83 h84 h=>mI h fun i85 h=>?_
           exact ⟨_,_,(z2 Sn),Sn,h⟩
          ·replace h:=h.2.2.2
           refine mN h fun b86 o87 h=>mL h fun l88 h=>mL h fun l89 h=>mN h fun b90 o91 h=>mV h fun v92 h=>mI h fun i93 h=>mC h fun u94 h95 h=>ms h fun s96 h=>mV h fun v97 h=>mP h fun p98 h=>mC h fun u99 h100 h=>mI h fun i101 h=>?_
           exact ⟨_,_,(z2 Sn),Sn,h⟩
         ·rintro env pv hp ⟨x0,x3,he,hv,h⟩
          refine Ae ?_ (r2 0 3 Rn) he hv
          unfold F33_j4 at h
          refine Aq (AWP.rgnD (by kernel_rfl) (by kernel_rfl) F33_r11 ?_ (r2 0 3 Rn) (z2 Sn) Sn)
          refine mN h fun b27 o28 h=>mV h fun v29 h=>mP h fun p30 h=>mN h fun b31 o32 h=>mV h fun v33 h=>mI h fun i34 h=>mC h fun u35 h36 h=>mI h fun i37 h=>?_
          refine AWP.ret ?_
          exact h
end
section
variable {e E:Env} {x0 x1:Int} {k4:List Value} {hp:HP} {K:Env→PV→HP→Prop}
abbrev R34 (p n:Nat):=RW Tryd.prog 9 [4] (opsAt Tryd.f34 (pth p)) (List.range n)
theorem F34_r0:R34 2 1 e V0 hp K=
 K (upd e 4 (sR 4 0)) (upd V0 4 (34,[.int .u8 0,.int .u8 0,.int .u8 0,.int .u8 0,.int .i64 0])) hp:= by kernel_rfl
theorem F34_r1 (h:E=upd (w2 e 4 (sR 4 0) 1 (sI x1)) 0 (sV (.int .u8 x0))):R34 5 5 E (upd V0 4 (34,k4)) hp K=
    (if List.length [(Value.int .u8 1),.int .u8 0,.int .u8 0,(.int .u8 x0)]=4 then (if List.length (List.set (splice [.int .u8 0,.int .u8 0,.int .u8 0,.int .u8 0,.int .i64 0] 0 [(.int .u8 1),.int .u8 0,.int .u8 0,(.int .u8 x0)]) 4 (.int .i64 x1))=5 then (if List.all (List.set (splice [.int .u8 0,.int .u8 0,.int .u8 0,.int .u8 0,.int .i64 0] 0 [(.int .u8 1),.int .u8 0,.int .u8 0,(.int .u8 x0)]) 4 (.int .i64 x1)) one=true then (if 0+List.length (List.set (splice [.int .u8 0,.int .u8 0,.int .u8 0,.int .u8 0,.int .i64 0] 0 [(.int .u8 1),.int .u8 0,.int .u8 0,(.int .u8 x0)]) 4 (.int .i64 x1))≤List.length k4 then (K (w4 E 5 (sV (.int .u8 x0)) 6 (sV (.agg ⟨[(.int .u8 1),.int .u8 0,.int .u8 0,(.int .u8 x0)]⟩)) 7 (sI x1) 8 (sV (.agg ⟨(List.set (splice [.int .u8 0,.int .u8 0,.int .u8 0,.int .u8 0,.int .i64 0] 0 [(.int .u8 1),.int .u8 0,.int .u8 0,(.int .u8 x0)]) 4 (.int .i64 x1))⟩))) (w2 V0 4 (34,k4) 4 (34,(splice k4 0 (List.set (splice [.int .u8 0,.int .u8 0,.int .u8 0,.int .u8 0,.int .i64 0] 0 [(.int .u8 1),.int .u8 0,.int .u8 0,(.int .u8 x0)]) 4 (.int .i64 x1))))) hp) else False) else False) else False) else False):=by subst h; kernel_rfl
def F34 (x0 x1:Int) (hp:HP) (K:Kh):Prop:=
  (if List.length [(Value.int .u8 1),.int .u8 0,.int .u8 0,(.int .u8 x0)]=4 then (if List.length (List.set (splice [.int .u8 0,.int .u8 0,.int .u8 0,.int .u8 0,.int .i64 0] 0 [(.int .u8 1),.int .u8 0,.int .u8 0,(.int .u8 x0)]) 4 (.int .i64 x1))=5 then (if List.all (List.set (splice [.int .u8 0,.int .u8 0,.int .u8 0,.int .u8 0,.int .i64 0] 0 [(.int .u8 1),.int .u8 0,.int .u8 0,(.int .u8 x0)]) 4 (.int .i64 x1)) one=true then (if 0+List.length (List.set (splice [.int .u8 0,.int .u8 0,.int .u8 0,.int .u8 0,.int .i64 0] 0 [(.int .u8 1),.int .u8 0,.int .u8 0,(.int .u8 x0)]) 4 (.int .i64 x1))≤List.length [(Value.int .u8 0),.int .u8 0,.int .u8 0,.int .u8 0,.int .i64 0] then (ldL (cellsN (splice [.int .u8 0,.int .u8 0,.int .u8 0,.int .u8 0,.int .i64 0] 0 (List.set (splice [.int .u8 0,.int .u8 0,.int .u8 0,.int .u8 0,.int .i64 0] 0 [(.int .u8 1),.int .u8 0,.int .u8 0,(.int .u8 x0)]) 4 (.int .i64 x1))) 0 5) fun l1=>K (.agg ⟨l1⟩) hp) else False) else False) else False) else False)
noncomputable def F34_code:Code:=(.seq (.region 0 (opsAt Tryd.f34 (pth 2)) false) (.seq (.region 1 (opsAt Tryd.f34 (pth 5)) false) .ret))
theorem F34_body:Tryd.f34.body=some F34_code:=by kernel_rfl
theorem F34_ok (x0 x1:Int) (hp:HP) (K:Kh) (h:F34 x0 x1 hp K):CF Tryd.prog 34 [(.int .u8 x0),(.int .i64 x1)] hp K:=by
 refine .inl ⟨by kernel_rfl,AC.intro (N:=9) Tryd.func34 F34_body rfl (Nat.le_of_ble_eq_true rfl) ?_⟩
 unfold F34 at h
 refine Ar F34_r0 ?_ (r2 0 1 Rn) (z2 Sn) Sn
 refine Ar (F34_r1 rfl) ?_ (r2 0 1 (rp 4 4 0 Rn)) (z3 Sn) (z1 Sn)
 refine mf h fun h=>mf h fun h=>mf h fun h=>mf h fun h=>?_
 refine AWP.ret ?_
 exact h
end
section
variable {e E:Env} {x0:OA} {x1 x2:List Value} {x9:Bool} {k4 k5 k6 k8:List Value} {hp:HP} {K:Env→PV→HP→Prop}
abbrev R35 (p n:Nat):=RW Tryd.prog 27 [4,5,6,8] (opsAt Tryd.f35 (pth p)) (List.range n)
theorem F35_r0:R35 2 4 (w2 e 2 (sA x2) 1 (sA x1)) V0 hp K=
 K (w6 e 2 (sA x2) 1 (sA x1) 4 (sR 4 0) 5 (sR 5 0) 6 (sR 6 0) 7 (sI 0)) (w3 V0 4 (34,x1) 5 (34,x2) 6 (62,[.int .i64 0,.int .u8 0,.int .u8 0,.int .u8 0,.int .u8 0,.int .i64 0,.int .u8 0,.int .u8 0,.int .u8 0,.int .u8 0,.int .i64 0,.int .i64 0,.string ⟨#[]⟩])) hp:= by kernel_rfl
theorem F35_r1:R35 9 2 (upd e 0 (sP x0)) (w3 V0 6 (62,k6) 5 (34,k5) 4 (34,k4)) hp K=
 CF Tryd.prog 83 [(.pointer x0)] hp fun u1 h2=>(boolV u1 fun q3=>K (w3 e 0 (sP x0) 10 (sP x0) 11 (sB q3)) (w3 V0 6 (62,k6) 5 (34,k5) 4 (34,k4)) h2):= by kernel_rfl
theorem F35_r2:R35 37 3 (upd e 6 (sR 6 0)) (upd V0 6 (62,k6)) hp K=
    (if List.length [(Value.int .i64 0),.int .u8 0,.int .u8 0,.int .u8 0,.int .u8 0,.int .i64 0,.int .u8 0,.int .u8 0,.int .u8 0,.int .u8 0,.int .i64 0,.int .i64 0,.string ⟨#[]⟩]=13 then (if List.all [(Value.int .i64 0),.int .u8 0,.int .u8 0,.int .u8 0,.int .u8 0,.int .i64 0,.int .u8 0,.int .u8 0,.int .u8 0,.int .u8 0,.int .i64 0,.int .i64 0,.string ⟨#[]⟩] one=true then (if 0+List.length [(Value.int .i64 0),.int .u8 0,.int .u8 0,.int .u8 0,.int .u8 0,.int .i64 0,.int .u8 0,.int .u8 0,.int .u8 0,.int .u8 0,.int .i64 0,.int .i64 0,.string ⟨#[]⟩]≤List.length k6 then (K (w3 e 6 (sR 6 0) 12 (sV (.agg ⟨[.int .i64 0,.int .u8 0,.int .u8 0,.int .u8 0,.int .u8 0,.int .i64 0,.int .u8 0,.int .u8 0,.int .u8 0,.int .u8 0,.int .i64 0,.int .i64 0,.string ⟨#[]⟩]⟩)) 7 (sI 2)) (w2 V0 6 (62,k6) 6 (62,(splice k6 0 [.int .i64 0,.int .u8 0,.int .u8 0,.int .u8 0,.int .u8 0,.int .i64 0,.int .u8 0,.int .u8 0,.int .u8 0,.int .u8 0,.int .i64 0,.int .i64 0,.string ⟨#[]⟩]))) hp) else False) else False) else False):=by kernel_rfl
theorem F35_r3 (h:E=upd (w2 e 5 (sR 5 0) 4 (sR 4 0)) 0 (sP x0)):R35 11 10 E (w3 V0 6 (62,k6) 5 (34,k5) 4 (34,k4)) hp K=
 ldL (cellsN k4 0 5) fun l1=>(ldL (cellsN k5 0 5) fun l2=>CF Tryd.prog 39 [(.pointer x0),(.agg ⟨l1⟩),(.agg ⟨l2⟩)] hp fun u3 h4=>tup2V u3 fun u5 u6=>aggV u5 fun l7=>boolV u6 fun q8=>if List.length l7=13 then (if List.all l7 one=true then (if 0+List.length l7≤List.length [(Value.int .i64 0),.int .u8 0,.int .u8 0,.int .u8 0,.int .u8 0,.int .i64 0,.int .u8 0,.int .u8 0,.int .u8 0,.int .u8 0,.int .i64 0,.int .i64 0,.string ⟨#[]⟩] then (K (upd (w8 E 14 (sP x0) 15 (sA l1) 16 (sA l2) 17 (sV (.tuple ⟨[(.agg ⟨l7⟩),(.bool q8)]⟩)) 13 (sV (.tuple ⟨[(.agg ⟨l7⟩),(.bool q8)]⟩)) 18 (sA l7) 19 (sB q8) 8 (sR 8 0)) 9 (sB q8)) (w5 V0 6 (62,k6) 5 (34,k5) 4 (34,k4) 8 (62,[.int .i64 0,.int .u8 0,.int .u8 0,.int .u8 0,.int .u8 0,.int .i64 0,.int .u8 0,.int .u8 0,.int .u8 0,.int .u8 0,.int .i64 0,.int .i64 0,.string ⟨#[]⟩]) 8 (62,(splice [.int .i64 0,.int .u8 0,.int .u8 0,.int .u8 0,.int .u8 0,.int .i64 0,.int .u8 0,.int .u8 0,.int .u8 0,.int .u8 0,.int .i64 0,.int .i64 0,.string ⟨#[]⟩] 0 l7))) h4) else False) else False) else False):= by subst h; kernel_rfl
theorem F35_r4:R35 39 2 (upd e 9 (sB x9)) (w2 V0 8 (62,k8) 6 (62,k6)) hp K=
 K (w3 e 9 (sB x9) 20 (sB x9) 21 (sB ((!x9)))) (w2 V0 8 (62,k8) 6 (62,k6)) hp:= by kernel_rfl
theorem F35_r5:R35 151 3 (upd e 6 (sR 6 0)) (upd V0 6 (62,k6)) hp K=
    (if List.length [(Value.int .i64 0),.int .u8 0,.int .u8 0,.int .u8 0,.int .u8 0,.int .i64 0,.int .u8 0,.int .u8 0,.int .u8 0,.int .u8 0,.int .i64 0,.int .i64 0,.string ⟨#[]⟩]=13 then (if List.all [(Value.int .i64 0),.int .u8 0,.int .u8 0,.int .u8 0,.int .u8 0,.int .i64 0,.int .u8 0,.int .u8 0,.int .u8 0,.int .u8 0,.int .i64 0,.int .i64 0,.string ⟨#[]⟩] one=true then (if 0+List.length [(Value.int .i64 0),.int .u8 0,.int .u8 0,.int .u8 0,.int .u8 0,.int .i64 0,.int .u8 0,.int .u8 0,.int .u8 0,.int .u8 0,.int .i64 0,.int .i64 0,.string ⟨#[]⟩]≤List.length k6 then (K (w3 e 6 (sR 6 0) 22 (sV (.agg ⟨[.int .i64 0,.int .u8 0,.int .u8 0,.int .u8 0,.int .u8 0,.int .i64 0,.int .u8 0,.int .u8 0,.int .u8 0,.int .u8 0,.int .i64 0,.int .i64 0,.string ⟨#[]⟩]⟩)) 7 (sI 4)) (w2 V0 6 (62,k6) 6 (62,(splice k6 0 [.int .i64 0,.int .u8 0,.int .u8 0,.int .u8 0,.int .u8 0,.int .i64 0,.int .u8 0,.int .u8 0,.int .u8 0,.int .u8 0,.int .i64 0,.int .i64 0,.string ⟨#[]⟩]))) hp) else False) else False) else False):=by kernel_rfl
theorem F35_r6:R35 47 3 (w2 e 8 (sR 8 0) 0 (sP x0)) (w2 V0 8 (62,k8) 6 (62,k6)) hp K=
 ldL (cellsN k8 0 13) fun l1=>(CF Tryd.prog 88 [(.pointer x0),(.agg ⟨l1⟩)] hp fun u2 h3=>K (w5 e 8 (sR 8 0) 0 (sP x0) 23 (sP x0) 24 (sA l1) 25 (sV u2)) (w2 V0 8 (62,k8) 6 (62,k6)) h3):= by kernel_rfl
theorem F35_r7:R35 95 3 (w2 e 8 (sR 8 0) 6 (sR 6 0)) (w2 V0 8 (62,k8) 6 (62,k6)) hp K=
 ldL (cellsN k8 0 13) fun l1=>(if List.length l1=13 then (if List.all l1 one=true then (if 0+List.length l1≤List.length k6 then (K (w4 e 8 (sR 8 0) 6 (sR 6 0) 26 (sA l1) 7 (sI 0)) (w3 V0 8 (62,k8) 6 (62,k6) 6 (62,(splice k6 0 l1))) hp) else False) else False) else False):= by kernel_rfl
def F35 (x0:OA) (x1 x2:List Value) (hp:HP) (K:Kh):Prop:=
  (CF Tryd.prog 83 [(.pointer x0)] hp fun u1 h2=>boolV u1 fun q3=>ite2 q3 (if List.length [(Value.int .i64 0),.int .u8 0,.int .u8 0,.int .u8 0,.int .u8 0,.int .i64 0,.int .u8 0,.int .u8 0,.int .u8 0,.int .u8 0,.int .i64 0,.int .i64 0,.string ⟨#[]⟩]=13 then (if List.all [(Value.int .i64 0),.int .u8 0,.int .u8 0,.int .u8 0,.int .u8 0,.int .i64 0,.int .u8 0,.int .u8 0,.int .u8 0,.int .u8 0,.int .i64 0,.int .i64 0,.string ⟨#[]⟩] one=true then (if 0+List.length [(Value.int .i64 0),.int .u8 0,.int .u8 0,.int .u8 0,.int .u8 0,.int .i64 0,.int .u8 0,.int .u8 0,.int .u8 0,.int .u8 0,.int .i64 0,.int .i64 0,.string ⟨#[]⟩]≤List.length [(Value.int .i64 0),.int .u8 0,.int .u8 0,.int .u8 0,.int .u8 0,.int .i64 0,.int .u8 0,.int .u8 0,.int .u8 0,.int .u8 0,.int .i64 0,.int .i64 0,.string ⟨#[]⟩] then (ldL (cellsN (splice [.int .i64 0,.int .u8 0,.int .u8 0,.int .u8 0,.int .u8 0,.int .i64 0,.int .u8 0,.int .u8 0,.int .u8 0,.int .u8 0,.int .i64 0,.int .i64 0,.string ⟨#[]⟩] 0 [.int .i64 0,.int .u8 0,.int .u8 0,.int .u8 0,.int .u8 0,.int .i64 0,.int .u8 0,.int .u8 0,.int .u8 0,.int .u8 0,.int .i64 0,.int .i64 0,.string ⟨#[]⟩]) 0 13) fun l4=>K (.tuple ⟨[(.agg ⟨l4⟩),(.int .i64 2)]⟩) h2) else False) else False) else False) (ldL (cellsN x1 0 5) fun l5=>ldL (cellsN x2 0 5) fun l6=>CF Tryd.prog 39 [(.pointer x0),(.agg ⟨l5⟩),(.agg ⟨l6⟩)] h2 fun u7 h8=>tup2V u7 fun u9 u10=>aggV u9 fun l11=>boolV u10 fun q12=>if List.length l11=13 then (if List.all l11 one=true then (if 0+List.length l11≤List.length [(Value.int .i64 0),.int .u8 0,.int .u8 0,.int .u8 0,.int .u8 0,.int .i64 0,.int .u8 0,.int .u8 0,.int .u8 0,.int .u8 0,.int .i64 0,.int .i64 0,.string ⟨#[]⟩] then (ite2 (!q12) (if List.length [(Value.int .i64 0),.int .u8 0,.int .u8 0,.int .u8 0,.int .u8 0,.int .i64 0,.int .u8 0,.int .u8 0,.int .u8 0,.int .u8 0,.int .i64 0,.int .i64 0,.string ⟨#[]⟩]=13 then (if List.all [(Value.int .i64 0),.int .u8 0,.int .u8 0,.int .u8 0,.int .u8 0,.int .i64 0,.int .u8 0,.int .u8 0,.int .u8 0,.int .u8 0,.int .i64 0,.int .i64 0,.string ⟨#[]⟩] one=true then (if 0+List.length [(Value.int .i64 0),.int .u8 0,.int .u8 0,.int .u8 0,.int .u8 0,.int .i64 0,.int .u8 0,.int .u8 0,.int .u8 0,.int .u8 0,.int .i64 0,.int .i64 0,.string ⟨#[]⟩]≤List.length [(Value.int .i64 0),.int .u8 0,.int .u8 0,.int .u8 0,.int .u8 0,.int .i64 0,.int .u8 0,.int .u8 0,.int .u8 0,.int .u8 0,.int .i64 0,.int .i64 0,.string ⟨#[]⟩] then (ldL (cellsN (splice [.int .i64 0,.int .u8 0,.int .u8 0,.int .u8 0,.int .u8 0,.int .i64 0,.int .u8 0,.int .u8 0,.int .u8 0,.int .u8 0,.int .i64 0,.int .i64 0,.string ⟨#[]⟩] 0 [.int .i64 0,.int .u8 0,.int .u8 0,.int .u8 0,.int .u8 0,.int .i64 0,.int .u8 0,.int .u8 0,.int .u8 0,.int .u8 0,.int .i64 0,.int .i64 0,.string ⟨#[]⟩]) 0 13) fun l13=>K (.tuple ⟨[(.agg ⟨l13⟩),(.int .i64 4)]⟩) h8) else False) else False) else False) (ldL (cellsN (splice [.int .i64 0,.int .u8 0,.int .u8 0,.int .u8 0,.int .u8 0,.int .i64 0,.int .u8 0,.int .u8 0,.int .u8 0,.int .u8 0,.int .i64 0,.int .i64 0,.string ⟨#[]⟩] 0 l11) 0 13) fun l14=>CF Tryd.prog 88 [(.pointer x0),(.agg ⟨l14⟩)] h8 fun u15 h16=>ldL (cellsN (splice [.int .i64 0,.int .u8 0,.int .u8 0,.int .u8 0,.int .u8 0,.int .i64 0,.int .u8 0,.int .u8 0,.int .u8 0,.int .u8 0,.int .i64 0,.int .i64 0,.string ⟨#[]⟩] 0 l11) 0 13) fun l17=>if List.length l17=13 then (if List.all l17 one=true then (if 0+List.length l17≤List.length [(Value.int .i64 0),.int .u8 0,.int .u8 0,.int .u8 0,.int .u8 0,.int .i64 0,.int .u8 0,.int .u8 0,.int .u8 0,.int .u8 0,.int .i64 0,.int .i64 0,.string ⟨#[]⟩] then (ldL (cellsN (splice [.int .i64 0,.int .u8 0,.int .u8 0,.int .u8 0,.int .u8 0,.int .i64 0,.int .u8 0,.int .u8 0,.int .u8 0,.int .u8 0,.int .i64 0,.int .i64 0,.string ⟨#[]⟩] 0 l17) 0 13) fun l18=>K (.tuple ⟨[(.agg ⟨l18⟩),.int .i64 0]⟩) h16) else False) else False) else False)) else False) else False) else False))
noncomputable abbrev o35 (k n:Nat):Code:=.region k (opsAt Tryd.f35 (pth n)) false
noncomputable def F35_code:Code:=(.seq (o35 0 2) (.seq (.seq (o35 1 9) (.cond (.tmp 11) (.seq (o35 2 37) .ret) .skip)) (.seq (o35 3 11) (.seq (.seq (o35 4 39) (.cond (.tmp 21) (.seq (o35 5 151) .ret) .skip)) (.seq (o35 6 47) (.seq (o35 7 95) .ret))))))
theorem F35_body:Tryd.f35.body=some F35_code:=by kernel_rfl
theorem F35_ok (x0:OA) (x1 x2:List Value) (hp:HP) (K:Kh) (h:F35 x0 x1 x2 hp K):CF Tryd.prog 35 [(.pointer x0),(.agg ⟨x1⟩),(.agg ⟨x2⟩)] hp K:=by
 refine .inl ⟨by kernel_rfl,AC.intro (N:=27) Tryd.func35 F35_body rfl (Nat.le_of_ble_eq_true rfl) ?_⟩
 unfold F35 at h
 refine Ar F35_r0 ?_ (r3 1 2 0 Rn) (z3 Sn) Sn
 refine Aq (Ar F35_r1 ?_ (r1 0 (rp 4 4 0 (rp 5 5 0 (rp 6 6 0 Rn)))) (z4 Sn) (z3 Sn))
 refine mC h fun u1 h2 h=>mB h fun q3 h=>?_
 refine Ac h rfl (fun h=>?_) (fun h=>?_)
 ·refine Ar F35_r2 ?_ (rp 6 6 0 Rn) (z1 Sn) (z1 Sn)
  refine mf h fun h=>mf h fun h=>mf h fun h=>?_
  refine AWP.ret ?_
  exact h
 ·refine AWP.skip (Ar (F35_r3 rfl) ?_ (r1 0 (rp 4 4 0 (rp 5 5 0 (rp 6 6 0 Rn)))) (z4 Sn) (z3 Sn))
  refine mL h fun l5 h=>mL h fun l6 h=>mC h fun u7 h8 h=>mT h fun u9 u10 h=>mA h fun l11 h=>mB h fun q12 h=>mf h fun h=>mf h fun h=>mf h fun h=>?_
  refine Aq (Ar F35_r4 ?_ (r2 9 0 (rp 6 6 0 (rp 8 8 0 Rn))) (z4 Sn) (z2 Sn))
  refine Ac h rfl (fun h=>?_) (fun h=>?_)
  ·refine Ar F35_r5 ?_ (rp 6 6 0 Rn) (z1 Sn) (z1 Sn)
   refine mf h fun h=>mf h fun h=>mf h fun h=>?_
   refine AWP.ret ?_
   exact h
  ·refine AWP.skip (Ar F35_r6 ?_ (r1 0 (rp 8 8 0 (rp 6 6 0 Rn))) (z3 Sn) (z2 Sn))
   refine mL h fun l14 h=>mC h fun u15 h16 h=>?_
   refine Ar F35_r7 ?_ (rp 6 6 0 (rp 8 8 0 Rn)) (z2 Sn) (z2 Sn)
   refine mL h fun l17 h=>mf h fun h=>mf h fun h=>mf h fun h=>?_
   refine AWP.ret ?_
   exact h
end
section
variable {e E:Env} {x0:OA} {x1:Int} {x5a:OA} {x5n x5c:Nat} {x6 x7:Int} {x8:Bool} {k9:List Value} {hp:HP} {K:Env→PV→HP→Prop}
abbrev R37 (p n:Nat):=RW Tryd.prog 50 [9] (opsAt Tryd.f37 (pth p)) (List.range n)
theorem F37_r0:R37 2 1 e V0 hp K=
 K (upd e 4 (sS none 0 0)) V0 hp:= by kernel_rfl
theorem F37_r1:R37 9 2 (upd e 0 (sP x0)) V0 hp K=
 CF Tryd.prog 83 [(.pointer x0)] hp fun u1 h2=>(boolV u1 fun q3=>K (w3 e 0 (sP x0) 10 (sP x0) 11 (sB q3)) V0 h2):= by kernel_rfl
theorem F37_r2:R37 37 1 e V0 hp K=
 K (upd e 4 (sS none 0 0)) V0 hp:= by kernel_rfl
theorem F37_r3:R37 11 1 e V0 hp K=
 K (upd e 5 (sS none 0 0)) V0 hp:= by kernel_rfl
theorem F37_r4:R37 47 2 (upd e 5 (sS x5a x5n x5c)) V0 hp K=
 K (w3 e 5 (sS x5a x5n x5c) 49 (sS x5a x5n x5c) 4 (sS x5a x5n x5c)) V0 hp:= by kernel_rfl
def F37_j1 (x5a:OA) (x5n x5c:Nat) (hp:HP) (K:Kh):Prop:=
  (K (.slice x5a x5n x5c) hp)
theorem F37_r5:R37 2199 8 (w2 e 6 (sI x6) 0 (sP x0)) V0 hp K=
 ptrN x0 fun b1 o2=>(ldV (HP.cell hp b1 (o2+2)) fun v3=>mapV v3 fun m4=>rdS Tryd.prog (Instr.lookup 57 (.map m4) (.int .i64 x6) false) hp fun u5=>aggV u5 fun l6=>if List.length l6=13 then (if List.all l6 one=true then (if 0+List.length l6≤List.length [(Value.int .i64 0),.int .u8 0,.int .u8 0,.int .u8 0,.int .u8 0,.int .i64 0,.int .u8 0,.int .u8 0,.int .u8 0,.int .u8 0,.int .i64 0,.int .i64 0,.string ⟨#[]⟩] then (K (upd (w8 e 6 (sI x6) 0 (sP x0) 36 (sP x0) 37 (sQ b1 o2) 38 (sQ b1 (o2+2)) 39 (sV (.map m4)) 40 (sI x6) 41 (sA l6)) 9 (sR 9 0)) (w2 V0 9 (62,[.int .i64 0,.int .u8 0,.int .u8 0,.int .u8 0,.int .u8 0,.int .i64 0,.int .u8 0,.int .u8 0,.int .u8 0,.int .u8 0,.int .i64 0,.int .i64 0,.string ⟨#[]⟩]) 9 (62,(splice [.int .i64 0,.int .u8 0,.int .u8 0,.int .u8 0,.int .u8 0,.int .i64 0,.int .u8 0,.int .u8 0,.int .u8 0,.int .u8 0,.int .i64 0,.int .i64 0,.string ⟨#[]⟩] 0 l6))) hp) else False) else False) else False):= by kernel_rfl
theorem F37_r6:R37 5271 3 (w2 e 9 (sR 9 0) 0 (sP x0)) (upd V0 9 (62,k9)) hp K=
 ldL (cellsN k9 0 13) fun l1=>(CF Tryd.prog 88 [(.pointer x0),(.agg ⟨l1⟩)] hp fun u2 h3=>K (w5 e 9 (sR 9 0) 0 (sP x0) 42 (sP x0) 43 (sA l1) 44 (sV u2)) (upd V0 9 (62,k9)) h3):= by kernel_rfl
theorem F37_r7:R37 7319 5 (w2 e 9 (sR 9 0) 5 (sS x5a x5n x5c)) (upd V0 9 (62,k9)) hp K=
 ldL (cellsN k9 0 13) fun l1=>(if List.length l1=13 then (∀ b2:Nat,hp b2=.none→(opS Tryd.prog (Builtin.append_ #[66,66] 66 ⟨[(.slice x5a x5n x5c),(.slice (some ⟨b2,0,none⟩) 1 1)]⟩) (HP.set hp b2 (.cells 62 (splice [.int .i64 0,.int .u8 0,.int .u8 0,.int .u8 0,.int .u8 0,.int .i64 0,.int .u8 0,.int .u8 0,.int .u8 0,.int .u8 0,.int .i64 0,.int .i64 0,.string ⟨#[]⟩] 0 l1) 0)) fun u3 h4=>slcV u3 fun a5 n6 c7=>K (w7 e 9 (sR 9 0) 5 (sS x5a x5n x5c) 45 (sS x5a x5n x5c) 46 (sA l1) 47 (sV (.slice (some ⟨b2,0,none⟩) 1 1)) 48 (sS a5 n6 c7) 5 (sS a5 n6 c7)) (upd V0 9 (62,k9)) h4)) else False):= by kernel_rfl
theorem F37_r8:R37 919 12 (upd e 0 (sP x0)) V0 hp K=
 ptrN x0 fun b1 o2=>(ldV (HP.cell hp b1 (o2+4)) fun v3=>ptrV v3 fun p4=>CF Tryd.prog 89 [(.pointer p4)] hp fun u5 h6=>tup3V u5 fun u7 u8 u9=>intV u7 .i64 fun i10=>intV u8 .i64 fun i11=>boolV u9 fun q12=>K (w5 (w8 e 0 (sP x0) 28 (sP x0) 29 (sQ b1 o2) 30 (sQ b1 (o2+4)) 31 (sP p4) 32 (sV (.tuple ⟨[(.int .i64 i10),(.int .i64 i11),(.bool q12)]⟩)) 27 (sV (.tuple ⟨[(.int .i64 i10),(.int .i64 i11),(.bool q12)]⟩)) 33 (sI i10)) 34 (sI i11) 35 (sB q12) 6 (sI i10) 7 (sI i11) 8 (sB q12)) V0 h6):= by kernel_rfl
def F37_j4 (x0:OA) (x1:Int) (x5a:OA) (x5n x5c:Nat) (x6:Int) (x26:Bool) (hp:HP) (I3:(OA × Nat × Nat × Int × Int × Bool)→HP→Prop) (K:Kh):Prop:=
  (ite2 x26 (ptrN x0 fun b4 o5=>ldV (HP.cell hp b4 (o5+2)) fun v6=>mapV v6 fun m7=>rdS Tryd.prog (Instr.lookup 57 (.map m7) (.int .i64 x6) false) hp fun u8=>aggV u8 fun l9=>if List.length l9=13 then (if List.all l9 one=true then (if 0+List.length l9≤List.length [(Value.int .i64 0),.int .u8 0,.int .u8 0,.int .u8 0,.int .u8 0,.int .i64 0,.int .u8 0,.int .u8 0,.int .u8 0,.int .u8 0,.int .i64 0,.int .i64 0,.string ⟨#[]⟩] then (ldL (cellsN (splice [.int .i64 0,.int .u8 0,.int .u8 0,.int .u8 0,.int .u8 0,.int .i64 0,.int .u8 0,.int .u8 0,.int .u8 0,.int .u8 0,.int .i64 0,.int .i64 0,.string ⟨#[]⟩] 0 l9) 0 13) fun l10=>CF Tryd.prog 88 [(.pointer x0),(.agg ⟨l10⟩)] hp fun u11 h12=>ldL (cellsN (splice [.int .i64 0,.int .u8 0,.int .u8 0,.int .u8 0,.int .u8 0,.int .i64 0,.int .u8 0,.int .u8 0,.int .u8 0,.int .u8 0,.int .i64 0,.int .i64 0,.string ⟨#[]⟩] 0 l9) 0 13) fun l13=>if List.length l13=13 then (∀ b14:Nat,h12 b14=.none→(opS Tryd.prog (Builtin.append_ #[66,66] 66 ⟨[(.slice x5a x5n x5c),(.slice (some ⟨b14,0,none⟩) 1 1)]⟩) (HP.set h12 b14 (.cells 62 (splice [.int .i64 0,.int .u8 0,.int .u8 0,.int .u8 0,.int .u8 0,.int .i64 0,.int .u8 0,.int .u8 0,.int .u8 0,.int .u8 0,.int .i64 0,.int .i64 0,.string ⟨#[]⟩] 0 l13) 0)) fun u15 h16=>slcV u15 fun a17 n18 c19=>ptrN x0 fun b20 o21=>ldV (HP.cell h16 b20 (o21+4)) fun v22=>ptrV v22 fun p23=>CF Tryd.prog 89 [(.pointer p23)] h16 fun u24 h25=>tup3V u24 fun u26 u27 u28=>intV u26 .i64 fun i29=>intV u27 .i64 fun i30=>boolV u28 fun q31=>I3 (a17,n18,c19,i29,i30,q31) h25)) else False) else False) else False) else False) (F37_j1 x5a x5n x5c hp  K))
theorem F37_r9 (h:E=upd (w2 e 8 (sB x8) 7 (sI x7)) 1 (sI x1)):R37 535 6 E V0 hp K=
 ite2 x8 (K (w6 E 21 (sB x8) 22 (sB true) 23 (sI x7) 24 (sI x1) 25 (sB (decide (x7≤x1))) 26 (sB (decide (x7≤x1)))) V0 hp) (K (w6 E 21 (sB x8) 22 (sB false) 23 sU 24 sU 25 sU 26 (sB false)) V0 hp):= by subst h; kernel_rfl
def F37_l3 (x0:OA) (x1:Int) (K:Kh) (I3:(OA × Nat × Nat × Int × Int × Bool)→HP→Prop) (x5a:OA) (x5n x5c:Nat) (x6 x7:Int) (x8:Bool) (hp:HP):Prop:=
  (ite2 x8 (F37_j4 x0 x1 x5a x5n x5c x6 (decide (x7≤x1)) hp I3 K) (F37_j4 x0 x1 x5a x5n x5c x6 false hp I3 K))
def F37_j2 (x0:OA) (x1:Int) (x5a:OA) (x5n x5c:Nat) (x6 x7:Int) (x8:Bool) (hp:HP) (K:Kh):Prop:=
  (LoopP (σ:=OA × Nat × Nat × Int × Int × Bool) (fun I s hp=>F37_l3 x0 x1  K I s.1 s.2.1 s.2.2.1 s.2.2.2.1 s.2.2.2.2.1 s.2.2.2.2.2 hp) (x5a,x5n,x5c,x6,x7,x8) hp)
theorem F37_r10:R37 39 12 (upd e 0 (sP x0)) V0 hp K=
 ptrN x0 fun b1 o2=>(ldV (HP.cell hp b1 (o2+4)) fun v3=>ptrV v3 fun p4=>CF Tryd.prog 89 [(.pointer p4)] hp fun u5 h6=>tup3V u5 fun u7 u8 u9=>intV u7 .i64 fun i10=>intV u8 .i64 fun i11=>boolV u9 fun q12=>K (w5 (w8 e 0 (sP x0) 13 (sP x0) 14 (sQ b1 o2) 15 (sQ b1 (o2+4)) 16 (sP p4) 17 (sV (.tuple ⟨[(.int .i64 i10),(.int .i64 i11),(.bool q12)]⟩)) 12 (sV (.tuple ⟨[(.int .i64 i10),(.int .i64 i11),(.bool q12)]⟩)) 18 (sI i10)) 19 (sI i11) 20 (sB q12) 6 (sI i10) 7 (sI i11) 8 (sB q12)) V0 h6):= by kernel_rfl
def F37 (x0:OA) (x1:Int) (hp:HP) (K:Kh):Prop:=
  (CF Tryd.prog 83 [(.pointer x0)] hp fun u1 h2=>boolV u1 fun q3=>ite2 q3 (K (.slice none 0 0) h2) (ptrN x0 fun b32 o33=>ldV (HP.cell h2 b32 (o33+4)) fun v34=>ptrV v34 fun p35=>CF Tryd.prog 89 [(.pointer p35)] h2 fun u36 h37=>tup3V u36 fun u38 u39 u40=>intV u38 .i64 fun i41=>intV u39 .i64 fun i42=>boolV u40 fun q43=>F37_j2 x0 x1 none 0 0 i41 i42 q43 h37  K))
noncomputable abbrev o37 (k n:Nat):Code:=.region k (opsAt Tryd.f37 (pth n)) false
noncomputable def F37_code:Code:=(.seq (o37 0 2) (.seq (.seq (o37 1 9) (.cond (.tmp 11) (.seq (o37 2 37) .ret) .skip)) (.seq (o37 3 11) (.seq (.seq (o37 4 39) (.block 0 (.loop (.seq (.seq (o37 5 535) (.cond (.tmp 26) .skip (.exit 0))) (.seq (.block 1 (.seq (o37 7 2199) (.seq (o37 8 5271) (o37 9 7319)))) (o37 6 919)))))) (.seq (o37 10 47) .ret)))))
theorem F37_body:Tryd.f37.body=some F37_code:=by kernel_rfl
theorem F37_ok (x0:OA) (x1:Int) (hp:HP) (K:Kh) (h:F37 x0 x1 hp K):CF Tryd.prog 37 [(.pointer x0),(.int .i64 x1)] hp K:=by
 refine .inl ⟨by kernel_rfl,AC.intro (N:=50) Tryd.func37 F37_body rfl (Nat.le_of_ble_eq_true rfl) ?_⟩
 unfold F37 at h
 refine Ar F37_r0 ?_ (r2 0 1 Rn) (z2 Sn) Sn
 refine Aq (Ar F37_r1 ?_ (r2 0 1 Rn) (z2 Sn) Sn)
 refine mC h fun u1 h2 h=>mB h fun q3 h=>?_
 refine Ac h rfl (fun h=>?_) (fun h=>?_)
 ·refine Ar F37_r2 ?_ Rn Sn Sn
  refine AWP.ret ?_
  exact h
 ·refine AWP.skip (Ar F37_r3 ?_ (r2 0 1 Rn) (z2 Sn) Sn)
  refine As (fun env pv hp=>∃ x5a x5n x5c,Sub (upd E0 5 (sS x5a x5n x5c)) env∧Sub V0 pv∧F37_j1 x5a x5n x5c hp  K) ?_ ?_
  ·refine As (fun env pv hp=>∃ x0 x1 x5a x5n x5c x6 x7 x8,Sub (w6 E0 8 (sB x8) 7 (sI x7) 6 (sI x6) 5 (sS x5a x5n x5c) 1 (sI x1) 0 (sP x0)) env∧Sub V0 pv∧F37_j2 x0 x1 x5a x5n x5c x6 x7 x8 hp  K) ?_ ?_
   ·refine Ag F37_r10 ?_ (r3 0 1 5 Rn) (z3 Sn) Sn
    refine mN h fun b32 o33 h=>mV h fun v34 h=>mP h fun p35 h=>mC h fun u36 h37 h=>mU h fun u38 u39 u40 h=>mI h fun i41 h=>mI h fun i42 h=>mB h fun q43 h=>?_
    exact ⟨_,_,_,_,_,_,_,_,(z6 Sn),Sn,h⟩
   ·rintro env pv hp ⟨x0,x1,x5a,x5n,x5c,x6,x7,x8,he,hv,h⟩
    refine Ae ?_ (r6 0 1 5 6 7 8 Rn) he hv
    unfold F37_j2 at h
    refine AWP.block (AWP.loop (σ:=OA × Nat × Nat × Int × Int × Bool) _ (fun s=>w6 E0 8 (sB (s.2.2.2.2.2)) 7 (sI (s.2.2.2.2.1)) 6 (sI (s.2.2.2.1)) 5 (sV (.slice s.1 s.2.1 s.2.2.1)) 1 (sI x1) 0 (sP x0)) (fun s=>V0) (x5a,x5n,x5c,x6,x7,x8) h (fun s=>r6 0 1 5 6 7 8 Rn) (z6 Sn) Sn ?_)
    intro I3 s hp h
    obtain ⟨x5a,x5n,x5c,x6,x7,x8⟩:=s
    replace h:F37_l3 x0 x1  K I3 x5a x5n x5c x6 x7 x8 hp:=h
    unfold F37_l3 at h
    refine Aq (As (fun env pv hp=>∃ x5a x5n x5c x6 x26,Sub (w5 E0 26 (sB x26) 6 (sI x6) 5 (sS x5a x5n x5c) 1 (sI x1) 0 (sP x0)) env∧Sub V0 pv∧F37_j4 x0 x1 x5a x5n x5c x6 x26 hp I3 K) ?_ ?_)
    ·refine Ag (F37_r9 rfl) ?_ (r6 1 7 8 0 5 6 Rn) (z6 Sn) Sn
     refine mt h (fun h=>?_) (fun h=>?_)
     ·exact ⟨_,_,_,_,_,(z5 Sn),Sn,h⟩
     ·exact ⟨_,_,_,_,_,(z5 Sn),Sn,h⟩
    ·rintro env pv hp ⟨x5a,x5n,x5c,x6,x26,he,hv,h⟩
     refine Ae ?_ (r5 0 1 5 6 26 Rn) he hv
     unfold F37_j4 at h
     refine Ac h rfl (fun h=>?_) (fun h=>?_)
     ·refine AWP.skip (Aq (AWP.block (Ar F37_r5 ?_ (r4 0 6 1 5 Rn) (z4 Sn) Sn)))
      refine mN h fun b4 o5 h=>mV h fun v6 h=>mM h fun m7 h=>mR h fun u8 h=>mA h fun l9 h=>mf h fun h=>mf h fun h=>mf h fun h=>?_
      refine Ar F37_r6 ?_ (r1 0 (rp 9 9 0 (r2 1 5 Rn))) (z4 Sn) (z1 Sn)
      refine mL h fun l10 h=>mC h fun u11 h12 h=>?_
      refine Ag F37_r7 ?_ (r1 5 (rp 9 9 0 (r2 0 1 Rn))) (z4 Sn) (z1 Sn)
      refine mL h fun l13 h=>mf h fun h=>?_
      refine fun b14 hb_b_14=>?_
      replace h:=h b14 hb_b_14
      refine mO h fun u15 h16 h=>mS h fun a17 n18 c19 h=>?_
      refine Ag F37_r8 ?_ (r3 0 1 5 Rn) (z3 Sn) Sn
      refine mN h fun b20 o21 h=>mV h fun v22 h=>mP h fun p23 h=>mC h fun u24 h25 h=>mU h fun u26 u27 u28 h=>mI h fun i29 h=>mI h fun i30 h=>mB h fun q31 h=>?_
      exact ⟨_,(z6 Sn),Sn,h⟩
     ·refine AWP.exit ?_
      exact ⟨_,_,_,(z1 Sn),Sn,h⟩
  ·rintro env pv hp ⟨x5a,x5n,x5c,he,hv,h⟩
   refine Ae ?_ (r1 5 Rn) he hv
   unfold F37_j1 at h
   refine Ar F37_r4 ?_ (r1 5 Rn) (z1 Sn) Sn
   refine AWP.ret ?_
   exact h
end
section
variable {e:Env} {x0:OA} {hp:HP} {K:Env→PV→HP→Prop}
abbrev R38 (p n:Nat):=RW Tryd.prog 10 [] (opsAt Tryd.f38 (pth p)) (List.range n)
theorem F38_r0:R38 2 1 e V0 hp K=
 K (upd e 2 (sI 0)) V0 hp:= by kernel_rfl
theorem F38_r1:R38 9 2 (upd e 0 (sP x0)) V0 hp K=
 CF Tryd.prog 83 [(.pointer x0)] hp fun u1 h2=>(boolV u1 fun q3=>K (w3 e 0 (sP x0) 3 (sP x0) 4 (sB q3)) V0 h2):= by kernel_rfl
theorem F38_r2:R38 37 1 e V0 hp K=
 K (upd e 2 (sI 0)) V0 hp:= by kernel_rfl
theorem F38_r3:R38 11 6 (upd e 0 (sP x0)) V0 hp K=
 ptrN x0 fun b1 o2=>(ldV (HP.cell hp b1 (o2+2)) fun v3=>mapV v3 fun m4=>rdS Tryd.prog (Builtin.len_ #[57] 3 #[.map m4]) hp fun u5=>intV u5 .i64 fun i6=>K (w7 e 0 (sP x0) 5 (sP x0) 6 (sQ b1 o2) 7 (sQ b1 (o2+2)) 8 (sV (.map m4)) 9 (sI i6) 2 (sI i6)) V0 hp):= by kernel_rfl
def F38 (x0:OA) (hp:HP) (K:Kh):Prop:=
  (CF Tryd.prog 83 [(.pointer x0)] hp fun u1 h2=>boolV u1 fun q3=>ite2 q3 (K (.int .i64 0) h2) (ptrN x0 fun b4 o5=>ldV (HP.cell h2 b4 (o5+2)) fun v6=>mapV v6 fun m7=>rdS Tryd.prog (Builtin.len_ #[57] 3 #[.map m7]) h2 fun u8=>intV u8 .i64 fun i9=>K (.int .i64 i9) h2))
noncomputable def F38_code:Code:=(.seq (.region 0 (opsAt Tryd.f38 (pth 2)) false) (.seq (.seq (.region 1 (opsAt Tryd.f38 (pth 9)) false) (.cond (.tmp 4) (.seq (.region 2 (opsAt Tryd.f38 (pth 37)) false) .ret) .skip)) (.seq (.region 3 (opsAt Tryd.f38 (pth 11)) false) .ret)))
theorem F38_body:Tryd.f38.body=some F38_code:=by kernel_rfl
theorem F38_ok (x0:OA) (hp:HP) (K:Kh) (h:F38 x0 hp K):CF Tryd.prog 38 [(.pointer x0)] hp K:=by
 refine .inl ⟨by kernel_rfl,AC.intro (N:=10) Tryd.func38 F38_body rfl (Nat.le_of_ble_eq_true rfl) ?_⟩
 unfold F38 at h
 refine Ar F38_r0 ?_ (r1 0 Rn) (z1 Sn) Sn
 refine Aq (Ar F38_r1 ?_ (r1 0 Rn) (z1 Sn) Sn)
 refine mC h fun u1 h2 h=>mB h fun q3 h=>?_
 refine Ac h rfl (fun h=>?_) (fun h=>?_)
 ·refine Ar F38_r2 ?_ Rn Sn Sn
  refine AWP.ret ?_
  exact h
 ·refine AWP.skip (Ar F38_r3 ?_ (r1 0 Rn) (z1 Sn) Sn)
  refine mN h fun b4 o5 h=>mV h fun v6 h=>mM h fun m7 h=>mR h fun u8 h=>mI h fun i9 h=>?_
  refine AWP.ret ?_
  exact h
end
section
variable {e E:Env} {x0:OA} {x1 x2:List Value} {x8:Int} {x9:Bool} {k4 k5 k6:List Value} {hp:HP} {K:Env→PV→HP→Prop}
abbrev R39 (p n:Nat):=RW Tryd.prog 33 [4,5,6] (opsAt Tryd.f39 (pth p)) (List.range n)
theorem F39_r0:R39 2 4 (w2 e 2 (sA x2) 1 (sA x1)) V0 hp K=
 K (w6 e 2 (sA x2) 1 (sA x1) 4 (sR 4 0) 5 (sR 5 0) 6 (sR 6 0) 7 (sB false)) (w3 V0 4 (34,x1) 5 (34,x2) 6 (62,[.int .i64 0,.int .u8 0,.int .u8 0,.int .u8 0,.int .u8 0,.int .i64 0,.int .u8 0,.int .u8 0,.int .u8 0,.int .u8 0,.int .i64 0,.int .i64 0,.string ⟨#[]⟩])) hp:= by kernel_rfl
theorem F39_r1:R39 9 2 (upd e 0 (sP x0)) (w3 V0 6 (62,k6) 5 (34,k5) 4 (34,k4)) hp K=
 CF Tryd.prog 83 [(.pointer x0)] hp fun u1 h2=>(boolV u1 fun q3=>K (w3 e 0 (sP x0) 10 (sP x0) 11 (sB q3)) (w3 V0 6 (62,k6) 5 (34,k5) 4 (34,k4)) h2):= by kernel_rfl
theorem F39_r2:R39 37 3 (upd e 6 (sR 6 0)) (upd V0 6 (62,k6)) hp K=
    (if List.length [(Value.int .i64 0),.int .u8 0,.int .u8 0,.int .u8 0,.int .u8 0,.int .i64 0,.int .u8 0,.int .u8 0,.int .u8 0,.int .u8 0,.int .i64 0,.int .i64 0,.string ⟨#[]⟩]=13 then (if List.all [(Value.int .i64 0),.int .u8 0,.int .u8 0,.int .u8 0,.int .u8 0,.int .i64 0,.int .u8 0,.int .u8 0,.int .u8 0,.int .u8 0,.int .i64 0,.int .i64 0,.string ⟨#[]⟩] one=true then (if 0+List.length [(Value.int .i64 0),.int .u8 0,.int .u8 0,.int .u8 0,.int .u8 0,.int .i64 0,.int .u8 0,.int .u8 0,.int .u8 0,.int .u8 0,.int .i64 0,.int .i64 0,.string ⟨#[]⟩]≤List.length k6 then (K (w3 e 6 (sR 6 0) 12 (sV (.agg ⟨[.int .i64 0,.int .u8 0,.int .u8 0,.int .u8 0,.int .u8 0,.int .i64 0,.int .u8 0,.int .u8 0,.int .u8 0,.int .u8 0,.int .i64 0,.int .i64 0,.string ⟨#[]⟩]⟩)) 7 (sB false)) (w2 V0 6 (62,k6) 6 (62,(splice k6 0 [.int .i64 0,.int .u8 0,.int .u8 0,.int .u8 0,.int .u8 0,.int .i64 0,.int .u8 0,.int .u8 0,.int .u8 0,.int .u8 0,.int .i64 0,.int .i64 0,.string ⟨#[]⟩]))) hp) else False) else False) else False):=by kernel_rfl
theorem F39_r3:R39 39 2 (upd e 9 (sB x9)) (upd V0 6 (62,k6)) hp K=
 K (w3 e 9 (sB x9) 24 (sB x9) 25 (sB ((!x9)))) (upd V0 6 (62,k6)) hp:= by kernel_rfl
theorem F39_r4:R39 151 3 (upd e 6 (sR 6 0)) (upd V0 6 (62,k6)) hp K=
    (if List.length [(Value.int .i64 0),.int .u8 0,.int .u8 0,.int .u8 0,.int .u8 0,.int .i64 0,.int .u8 0,.int .u8 0,.int .u8 0,.int .u8 0,.int .i64 0,.int .i64 0,.string ⟨#[]⟩]=13 then (if List.all [(Value.int .i64 0),.int .u8 0,.int .u8 0,.int .u8 0,.int .u8 0,.int .i64 0,.int .u8 0,.int .u8 0,.int .u8 0,.int .u8 0,.int .i64 0,.int .i64 0,.string ⟨#[]⟩] one=true then (if 0+List.length [(Value.int .i64 0),.int .u8 0,.int .u8 0,.int .u8 0,.int .u8 0,.int .i64 0,.int .u8 0,.int .u8 0,.int .u8 0,.int .u8 0,.int .i64 0,.int .i64 0,.string ⟨#[]⟩]≤List.length k6 then (K (w3 e 6 (sR 6 0) 26 (sV (.agg ⟨[.int .i64 0,.int .u8 0,.int .u8 0,.int .u8 0,.int .u8 0,.int .i64 0,.int .u8 0,.int .u8 0,.int .u8 0,.int .u8 0,.int .i64 0,.int .i64 0,.string ⟨#[]⟩]⟩)) 7 (sB false)) (w2 V0 6 (62,k6) 6 (62,(splice k6 0 [.int .i64 0,.int .u8 0,.int .u8 0,.int .u8 0,.int .u8 0,.int .i64 0,.int .u8 0,.int .u8 0,.int .u8 0,.int .u8 0,.int .i64 0,.int .i64 0,.string ⟨#[]⟩]))) hp) else False) else False) else False):=by kernel_rfl
theorem F39_r5 (h:E=upd (w2 e 8 (sI x8) 6 (sR 6 0)) 0 (sP x0)):R39 47 8 E (upd V0 6 (62,k6)) hp K=
 ptrN x0 fun b1 o2=>(ldV (HP.cell hp b1 (o2+2)) fun v3=>mapV v3 fun m4=>rdS Tryd.prog (Instr.lookup 57 (.map m4) (.int .i64 x8) false) hp fun u5=>aggV u5 fun l6=>if List.length l6=13 then (if List.all l6 one=true then (if 0+List.length l6≤List.length k6 then (K (w7 E 27 (sP x0) 28 (sQ b1 o2) 29 (sQ b1 (o2+2)) 30 (sV (.map m4)) 31 (sI x8) 32 (sA l6) 7 (sB true)) (w2 V0 6 (62,k6) 6 (62,(splice k6 0 l6))) hp) else False) else False) else False):= by subst h; kernel_rfl
def F39_j1 (x0:OA) (x8:Int) (x9:Bool) (k6:List Value) (hp:HP) (K:Kh):Prop:=
  (ite2 (!x9) (if List.length [(Value.int .i64 0),.int .u8 0,.int .u8 0,.int .u8 0,.int .u8 0,.int .i64 0,.int .u8 0,.int .u8 0,.int .u8 0,.int .u8 0,.int .i64 0,.int .i64 0,.string ⟨#[]⟩]=13 then (if List.all [(Value.int .i64 0),.int .u8 0,.int .u8 0,.int .u8 0,.int .u8 0,.int .i64 0,.int .u8 0,.int .u8 0,.int .u8 0,.int .u8 0,.int .i64 0,.int .i64 0,.string ⟨#[]⟩] one=true then (if 0+List.length [(Value.int .i64 0),.int .u8 0,.int .u8 0,.int .u8 0,.int .u8 0,.int .i64 0,.int .u8 0,.int .u8 0,.int .u8 0,.int .u8 0,.int .i64 0,.int .i64 0,.string ⟨#[]⟩]≤List.length k6 then (ldL (cellsN (splice k6 0 [.int .i64 0,.int .u8 0,.int .u8 0,.int .u8 0,.int .u8 0,.int .i64 0,.int .u8 0,.int .u8 0,.int .u8 0,.int .u8 0,.int .i64 0,.int .i64 0,.string ⟨#[]⟩]) 0 13) fun l5=>K (.tuple ⟨[(.agg ⟨l5⟩),.bool false]⟩) hp) else False) else False) else False) (ptrN x0 fun b6 o7=>ldV (HP.cell hp b6 (o7+2)) fun v8=>mapV v8 fun m9=>rdS Tryd.prog (Instr.lookup 57 (.map m9) (.int .i64 x8) false) hp fun u10=>aggV u10 fun l11=>if List.length l11=13 then (if List.all l11 one=true then (if 0+List.length l11≤List.length k6 then (ldL (cellsN (splice k6 0 l11) 0 13) fun l12=>K (.tuple ⟨[(.agg ⟨l12⟩),(.bool true)]⟩) hp) else False) else False) else False))
theorem F39_r6 {e:Env} {x0:OA} {k4:List Value} {k5:List Value} {k6:List Value} {hp:HP} {K:Env→PV→HP→Prop}:RW Tryd.prog 33 [4,5,6] (opsAt Tryd.f39 (pth 11)) [0,1,2,3,4,5,6,7,8,9,10,11,12] (w3 e 5 (sR 5 0) 4 (sR 4 0) 0 (sP x0)) (w3 V0 6 (62,k6) 5 (34,k5) 4 (34,k4)) hp K=
 ptrN x0 fun b1 o2=>(ldV (HP.cell hp b1 (o2+3)) fun v3=>ptrV v3 fun p4=>ldL (cellsN k4 0 5) fun l5=>ldL (cellsN k5 0 5) fun l6=>CF Tryd.prog 85 [(.agg ⟨l5⟩),(.agg ⟨l6⟩)] hp fun u7 h8=>strV u7 fun s9=>CF Tryd.prog 84 [(.pointer p4),(.string s9)] h8 fun u10 h11=>tup2V u10 fun u12 u13=>intV u12 .i64 fun i14=>boolV u13 fun q15=>K (w8 (w8 e 5 (sR 5 0) 4 (sR 4 0) 0 (sP x0) 14 (sP x0) 15 (sQ b1 o2) 16 (sQ b1 (o2+3)) 17 (sP p4) 18 (sA l5)) 19 (sA l6) 20 (sT s9) 21 (sV (.tuple ⟨[(.int .i64 i14),(.bool q15)]⟩)) 13 (sV (.tuple ⟨[(.int .i64 i14),(.bool q15)]⟩)) 22 (sI i14) 23 (sB q15) 8 (sI i14) 9 (sB q15)) (w3 V0 6 (62,k6) 5 (34,k5) 4 (34,k4)) h11):= by kernel_rfl
theorem F39_r7 {e:Env} {x0:OA} {k4:List Value} {k5:List Value} {k6:List Value} {hp:HP} {K:Env→PV→HP→Prop}:RW Tryd.prog 33 [4,5,6] (opsAt Tryd.f39 (pth 11)) [0,1,2,4,5,6,3,7,8,9,10,11,12] (w3 e 5 (sR 5 0) 4 (sR 4 0) 0 (sP x0)) (w3 V0 6 (62,k6) 5 (34,k5) 4 (34,k4)) hp K=
 ptrN x0 fun b1 o2=>(ldL (cellsN k4 0 5) fun l3=>ldL (cellsN k5 0 5) fun l4=>CF Tryd.prog 85 [(.agg ⟨l3⟩),(.agg ⟨l4⟩)] hp fun u5 h6=>strV u5 fun s7=>ldV (HP.cell h6 b1 (o2+3)) fun v8=>ptrV v8 fun p9=>CF Tryd.prog 84 [(.pointer p9),(.string s7)] h6 fun u10 h11=>tup2V u10 fun u12 u13=>intV u12 .i64 fun i14=>boolV u13 fun q15=>K (w8 (w8 e 5 (sR 5 0) 4 (sR 4 0) 0 (sP x0) 14 (sP x0) 15 (sQ b1 o2) 16 (sQ b1 (o2+3)) 18 (sA l3) 19 (sA l4)) 20 (sT s7) 17 (sP p9) 21 (sV (.tuple ⟨[(.int .i64 i14),(.bool q15)]⟩)) 13 (sV (.tuple ⟨[(.int .i64 i14),(.bool q15)]⟩)) 22 (sI i14) 23 (sB q15) 8 (sI i14) 9 (sB q15)) (w3 V0 6 (62,k6) 5 (34,k5) 4 (34,k4)) h11):= by kernel_rfl
def F39 (x0:OA) (x1 x2:List Value) (hp:HP) (K:Kh):Prop:=
  (CF Tryd.prog 83 [(.pointer x0)] hp fun u1 h2=>boolV u1 fun q3=>ite2 q3 (if List.length [(Value.int .i64 0),.int .u8 0,.int .u8 0,.int .u8 0,.int .u8 0,.int .i64 0,.int .u8 0,.int .u8 0,.int .u8 0,.int .u8 0,.int .i64 0,.int .i64 0,.string ⟨#[]⟩]=13 then (if List.all [(Value.int .i64 0),.int .u8 0,.int .u8 0,.int .u8 0,.int .u8 0,.int .i64 0,.int .u8 0,.int .u8 0,.int .u8 0,.int .u8 0,.int .i64 0,.int .i64 0,.string ⟨#[]⟩] one=true then (if 0+List.length [(Value.int .i64 0),.int .u8 0,.int .u8 0,.int .u8 0,.int .u8 0,.int .i64 0,.int .u8 0,.int .u8 0,.int .u8 0,.int .u8 0,.int .i64 0,.int .i64 0,.string ⟨#[]⟩]≤List.length [(Value.int .i64 0),.int .u8 0,.int .u8 0,.int .u8 0,.int .u8 0,.int .i64 0,.int .u8 0,.int .u8 0,.int .u8 0,.int .u8 0,.int .i64 0,.int .i64 0,.string ⟨#[]⟩] then (ldL (cellsN (splice [.int .i64 0,.int .u8 0,.int .u8 0,.int .u8 0,.int .u8 0,.int .i64 0,.int .u8 0,.int .u8 0,.int .u8 0,.int .u8 0,.int .i64 0,.int .i64 0,.string ⟨#[]⟩] 0 [.int .i64 0,.int .u8 0,.int .u8 0,.int .u8 0,.int .u8 0,.int .i64 0,.int .u8 0,.int .u8 0,.int .u8 0,.int .u8 0,.int .i64 0,.int .i64 0,.string ⟨#[]⟩]) 0 13) fun l4=>K (.tuple ⟨[(.agg ⟨l4⟩),.bool false]⟩) h2) else False) else False) else False) ((ptrN x0 fun b13 o14=>ldV (HP.cell h2 b13 (o14+3)) fun v15=>ptrV v15 fun p16=>ldL (cellsN x1 0 5) fun l17=>ldL (cellsN x2 0 5) fun l18=>CF Tryd.prog 85 [(.agg ⟨l17⟩),(.agg ⟨l18⟩)] h2 fun u19 h20=>strV u19 fun s21=>CF Tryd.prog 84 [(.pointer p16),(.string s21)] h20 fun u22 h23=>tup2V u22 fun u24 u25=>intV u24 .i64 fun i26=>boolV u25 fun q27=>F39_j1 x0 i26 q27 [.int .i64 0,.int .u8 0,.int .u8 0,.int .u8 0,.int .u8 0,.int .i64 0,.int .u8 0,.int .u8 0,.int .u8 0,.int .u8 0,.int .i64 0,.int .i64 0,.string ⟨#[]⟩] h23  K)∧(ptrN x0 fun b28 o29=>ldL (cellsN x1 0 5) fun l30=>ldL (cellsN x2 0 5) fun l31=>CF Tryd.prog 85 [(.agg ⟨l30⟩),(.agg ⟨l31⟩)] h2 fun u32 h33=>strV u32 fun s34=>ldV (HP.cell h33 b28 (o29+3)) fun v35=>ptrV v35 fun p36=>CF Tryd.prog 84 [(.pointer p36),(.string s34)] h33 fun u37 h38=>tup2V u37 fun u39 u40=>intV u39 .i64 fun i41=>boolV u40 fun q42=>F39_j1 x0 i41 q42 [.int .i64 0,.int .u8 0,.int .u8 0,.int .u8 0,.int .u8 0,.int .i64 0,.int .u8 0,.int .u8 0,.int .u8 0,.int .u8 0,.int .i64 0,.int .i64 0,.string ⟨#[]⟩] h38  K)))
noncomputable abbrev o39 (k n:Nat):Code:=.region k (opsAt Tryd.f39 (pth n)) false
noncomputable def F39_code:Code:=(.seq (o39 0 2) (.seq (.seq (o39 1 9) (.cond (.tmp 11) (.seq (o39 2 37) .ret) .skip)) (.seq (.region 3 (opsAt Tryd.f39 (pth 11)) true) (.seq (.seq (o39 4 39) (.cond (.tmp 25) (.seq (o39 5 151) .ret) .skip)) (.seq (o39 6 47) .ret)))))
theorem F39_body:Tryd.f39.body=some F39_code:=by kernel_rfl
theorem F39_ok (x0:OA) (x1 x2:List Value) (hp:HP) (K:Kh) (h:F39 x0 x1 x2 hp K):CF Tryd.prog 39 [(.pointer x0),(.agg ⟨x1⟩),(.agg ⟨x2⟩)] hp K:=by
 refine .inl ⟨by kernel_rfl,AC.intro (N:=33) Tryd.func39 F39_body rfl (Nat.le_of_ble_eq_true rfl) ?_⟩
 unfold F39 at h
 refine Ar F39_r0 ?_ (r3 1 2 0 Rn) (z3 Sn) Sn
 refine Aq (Ar F39_r1 ?_ (r1 0 (rp 4 4 0 (rp 5 5 0 (rp 6 6 0 Rn)))) (z4 Sn) (z3 Sn))
 refine mC h fun u1 h2 h=>mB h fun q3 h=>?_
 refine Ac h rfl (fun h=>?_) (fun h=>?_)
 ·refine Ar F39_r2 ?_ (rp 6 6 0 Rn) (z1 Sn) (z1 Sn)
  refine mf h fun h=>mf h fun h=>mf h fun h=>?_
  refine AWP.ret ?_
  exact h
 ·refine AWP.skip (As (fun env pv hp=>∃ x0 x8 x9 k6,Sub (w4 E0 9 (sB x9) 8 (sI x8) 6 (sR 6 0) 0 (sP x0)) env∧Sub (upd V0 6 (62,k6)) pv∧(F39_j1 x0 x8 x9 k6 hp  K)) ?_ ?_)
  ·refine AWP.rgnC (cf:=[(3,6)]) (c:=[([true],true,[0,1,2,3,4,5,6,7,8,9,10,11,12]),([false],true,[0,1,2,4,5,6,3,7,8,9,10,11,12])]) (by kernel_rfl) (by kernel_rfl) (by kernel_rfl) (by kernel_rfl) (allO_t (Eq.mpr F39_r6 ?_) (allO_t (Eq.mpr F39_r7 ?_) trivial)) (r1 0 (rp 4 4 0 (rp 5 5 0 (rp 6 6 0 Rn)))) (z4 Sn) (z3 Sn)
   ·replace h:=h.1
    refine mN h fun b13 o14 h=>mV h fun v15 h=>mP h fun p16 h=>mL h fun l17 h=>mL h fun l18 h=>mC h fun u19 h20 h=>ms h fun s21 h=>mC h fun u22 h23 h=>mT h fun u24 u25 h=>mI h fun i26 h=>mB h fun q27 h=>?_
    exact ⟨_,_,_,_,(z4 Sn),(z1 Sn),h⟩
   ·replace h:=h.2
    refine mN h fun b28 o29 h=>mL h fun l30 h=>mL h fun l31 h=>mC h fun u32 h33 h=>ms h fun s34 h=>mV h fun v35 h=>mP h fun p36 h=>mC h fun u37 h38 h=>mT h fun u39 u40 h=>mI h fun i41 h=>mB h fun q42 h=>?_
    exact ⟨_,_,_,_,(z4 Sn),(z1 Sn),h⟩
  ·rintro env pv hp ⟨x0,x8,x9,k6,he,hv,h⟩
   refine Ae ?_ (r1 0 (rp 6 6 0 (r2 8 9 Rn))) he hv
   unfold F39_j1 at h
   refine Aq (Ar F39_r3 ?_ (r2 9 0 (rp 6 6 0 (r1 8 Rn))) (z4 Sn) (z1 Sn))
   refine Ac h rfl (fun h=>?_) (fun h=>?_)
   ·refine Ar F39_r4 ?_ (rp 6 6 0 Rn) (z1 Sn) (z1 Sn)
    refine mf h fun h=>mf h fun h=>mf h fun h=>?_
    refine AWP.ret ?_
    exact h
   ·refine AWP.skip (Ar (F39_r5 rfl) ?_ (r1 0 (rp 6 6 0 (r1 8 Rn))) (z3 Sn) (z1 Sn))
    refine mN h fun b6 o7 h=>mV h fun v8 h=>mM h fun m9 h=>mR h fun u10 h=>mA h fun l11 h=>mf h fun h=>mf h fun h=>mf h fun h=>?_
    refine AWP.ret ?_
    exact h
end
section
variable {e:Env} {x0:OA} {hp:HP} {K:Env→PV→HP→Prop}
abbrev R83 (p n:Nat):=RW Tryd.prog 12 [] (opsAt Tryd.f83 (pth p)) (List.range n)
theorem F83_r0:R83 2 1 e V0 hp K=
 K (upd e 2 (sB false)) V0 hp:= by kernel_rfl
theorem F83_r1:R83 5 10 (upd e 0 (sP x0)) V0 hp K=
 ite2 (Option.isNone x0) (K (w3 (w8 e 0 (sP x0) 3 (sP x0) 4 (sB ((Option.isNone x0))) 5 (sB true) 6 sU 7 sU 8 sU 9 sU) 10 sU 11 (sB true) 2 (sB true)) V0 hp) (ptrN x0 fun b1 o2=>ldV (HP.cell hp b1 (o2+2)) fun v3=>mapV v3 fun m4=>K (w3 (w8 e 0 (sP x0) 3 (sP x0) 4 (sB ((Option.isNone x0))) 5 (sB false) 6 (sP x0) 7 (sQ b1 o2) 8 (sQ b1 (o2+2)) 9 (sV (.map m4))) 10 (sB ((Option.isNone m4))) 11 (sB ((Option.isNone m4))) 2 (sB ((Option.isNone m4)))) V0 hp):= by kernel_rfl
def F83 (x0:OA) (hp:HP) (K:Kh):Prop:=
  (ite2 (Option.isNone x0) (K (.bool true) hp) (ptrN x0 fun b1 o2=>ldV (HP.cell hp b1 (o2+2)) fun v3=>mapV v3 fun m4=>K (.bool (Option.isNone m4)) hp))
noncomputable def F83_code:Code:=(.seq (.region 0 (opsAt Tryd.f83 (pth 2)) false) (.seq (.region 1 (opsAt Tryd.f83 (pth 5)) false) .ret))
theorem F83_body:Tryd.f83.body=some F83_code:=by kernel_rfl
theorem F83_ok (x0:OA) (hp:HP) (K:Kh) (h:F83 x0 hp K):CF Tryd.prog 83 [(.pointer x0)] hp K:=by
 refine .inl ⟨by kernel_rfl,AC.intro (N:=12) Tryd.func83 F83_body rfl (Nat.le_of_ble_eq_true rfl) ?_⟩
 unfold F83 at h
 refine Ar F83_r0 ?_ (r1 0 Rn) (z1 Sn) Sn
 refine Ar F83_r1 ?_ (r1 0 Rn) (z1 Sn) Sn
 refine mt h (fun h=>?_) (fun h=>?_)
 ·refine AWP.ret ?_
  exact h
 ·refine mN h fun b1 o2 h=>mV h fun v3 h=>mM h fun m4 h=>?_
  refine AWP.ret ?_
  exact h
end
section
variable {e:Env} {x0:OA} {x1 k3:List Value} {hp:HP} {K:Env→PV→HP→Prop}
abbrev R88 (p n:Nat):=RW Tryd.prog 27 [3,8,14,16,24] (opsAt Tryd.f88 (pth p)) (List.range n)
theorem F88_r0:R88 2 1 (upd e 1 (sA x1)) V0 hp K=
 K (w2 e 1 (sA x1) 3 (sR 3 0)) (upd V0 3 (62,x1)) hp:= by kernel_rfl
theorem F88_r1:R88 5 7 (w2 e 3 (sR 3 0) 0 (sP x0)) (upd V0 3 (62,k3)) hp K=
 ptrN x0 fun b1 o2=>(ldV (HP.cell hp b1 (o2+2)) fun v3=>mapV v3 fun m4=>ldV (k3)[0]? fun v5=>intV v5 .i64 fun i6=>opS Tryd.prog (Builtin.delete_ #[57,3] 0 ⟨[(.map m4),(.int .i64 i6)]⟩) hp fun u7 h8=>K (w8 e 3 (sR 3 0) 0 (sP x0) 4 (sP x0) 5 (sQ b1 o2) 6 (sQ b1 (o2+2)) 7 (sV (.map m4)) 8 (sR 3 0) 9 (sI i6)) (upd V0 3 (62,k3)) h8):= by kernel_rfl
theorem F88_r2:R88 15 7 (w2 e 3 (sR 3 0) 0 (sP x0)) (upd V0 3 (62,k3)) hp K=
 ptrN x0 fun b1 o2=>(ldV (HP.cell hp b1 (o2+4)) fun v3=>ptrV v3 fun p4=>ldV (k3)[0]? fun v5=>intV v5 .i64 fun i6=>CF Tryd.prog 93 [(.pointer p4),(.int .i64 i6)] hp fun u7 h8=>boolV u7 fun q9=>K (upd (w8 e 3 (sR 3 0) 0 (sP x0) 20 (sP x0) 21 (sQ b1 o2) 22 (sQ b1 (o2+4)) 23 (sP p4) 24 (sR 3 0) 25 (sI i6)) 26 (sB q9)) (upd V0 3 (62,k3)) h8):= by kernel_rfl
def F88_j1 (x0:OA) (k3:List Value) (hp:HP) (K:Kh):Prop:=
  (ptrN x0 fun b9 o10=>ldV (HP.cell hp b9 (o10+4)) fun v11=>ptrV v11 fun p12=>ldV (k3)[0]? fun v13=>intV v13 .i64 fun i14=>CF Tryd.prog 93 [(.pointer p12),(.int .i64 i14)] hp fun u15 h16=>boolV u15 fun q17=>K (.tuple ⟨[]⟩) h16)
theorem F88_r3 {e:Env} {x0:OA} {k3:List Value} {hp:HP} {K:Env→PV→HP→Prop}:RW Tryd.prog 27 [3,8,14,16,24] (opsAt Tryd.f88 (pth 11)) [0,1,2,3,4,5,6,7,8,9] (w2 e 3 (sR 3 0) 0 (sP x0)) (upd V0 3 (62,k3)) hp K=
 ptrN x0 fun b1 o2=>(ldV (HP.cell hp b1 (o2+3)) fun v3=>ptrV v3 fun p4=>ldL (cellsN k3 1 5) fun l5=>ldL (cellsN k3 6 5) fun l6=>CF Tryd.prog 85 [(.agg ⟨l5⟩),(.agg ⟨l6⟩)] hp fun u7 h8=>strV u7 fun s9=>CF Tryd.prog 92 [(.pointer p4),(.string s9)] h8 fun u10 h11=>boolV u10 fun q12=>K (w4 (w8 e 3 (sR 3 0) 0 (sP x0) 10 (sP x0) 11 (sQ b1 o2) 12 (sQ b1 (o2+3)) 13 (sP p4) 14 (sR 3 1) 15 (sA l5)) 16 (sR 3 6) 17 (sA l6) 18 (sT s9) 19 (sB q12)) (upd V0 3 (62,k3)) h11):= by kernel_rfl
theorem F88_r4 {e:Env} {x0:OA} {k3:List Value} {hp:HP} {K:Env→PV→HP→Prop}:RW Tryd.prog 27 [3,8,14,16,24] (opsAt Tryd.f88 (pth 11)) [0,1,2,4,5,6,7,8,3,9] (w2 e 3 (sR 3 0) 0 (sP x0)) (upd V0 3 (62,k3)) hp K=
 ptrN x0 fun b1 o2=>(ldL (cellsN k3 1 5) fun l3=>ldL (cellsN k3 6 5) fun l4=>CF Tryd.prog 85 [(.agg ⟨l3⟩),(.agg ⟨l4⟩)] hp fun u5 h6=>strV u5 fun s7=>ldV (HP.cell h6 b1 (o2+3)) fun v8=>ptrV v8 fun p9=>CF Tryd.prog 92 [(.pointer p9),(.string s7)] h6 fun u10 h11=>boolV u10 fun q12=>K (w4 (w8 e 3 (sR 3 0) 0 (sP x0) 10 (sP x0) 11 (sQ b1 o2) 12 (sQ b1 (o2+3)) 14 (sR 3 1) 15 (sA l3) 16 (sR 3 6)) 17 (sA l4) 18 (sT s7) 13 (sP p9) 19 (sB q12)) (upd V0 3 (62,k3)) h11):= by kernel_rfl
def F88 (x0:OA) (x1:List Value) (hp:HP) (K:Kh):Prop:=
  (ptrN x0 fun b1 o2=>ldV (HP.cell hp b1 (o2+2)) fun v3=>mapV v3 fun m4=>ldV (x1)[0]? fun v5=>intV v5 .i64 fun i6=>opS Tryd.prog (Builtin.delete_ #[57,3] 0 ⟨[(.map m4),(.int .i64 i6)]⟩) hp fun u7 h8=>(ptrN x0 fun b18 o19=>ldV (HP.cell h8 b18 (o19+3)) fun v20=>ptrV v20 fun p21=>ldL (cellsN x1 1 5) fun l22=>ldL (cellsN x1 6 5) fun l23=>CF Tryd.prog 85 [(.agg ⟨l22⟩),(.agg ⟨l23⟩)] h8 fun u24 h25=>strV u24 fun s26=>CF Tryd.prog 92 [(.pointer p21),(.string s26)] h25 fun u27 h28=>boolV u27 fun q29=>F88_j1 x0 x1 h28  K)∧(ptrN x0 fun b30 o31=>ldL (cellsN x1 1 5) fun l32=>ldL (cellsN x1 6 5) fun l33=>CF Tryd.prog 85 [(.agg ⟨l32⟩),(.agg ⟨l33⟩)] h8 fun u34 h35=>strV u34 fun s36=>ldV (HP.cell h35 b30 (o31+3)) fun v37=>ptrV v37 fun p38=>CF Tryd.prog 92 [(.pointer p38),(.string s36)] h35 fun u39 h40=>boolV u39 fun q41=>F88_j1 x0 x1 h40  K))
noncomputable def F88_code:Code:=(.seq (.region 0 (opsAt Tryd.f88 (pth 2)) false) (.seq (.region 1 (opsAt Tryd.f88 (pth 5)) true) (.seq (.region 2 (opsAt Tryd.f88 (pth 11)) true) (.region 3 (opsAt Tryd.f88 (pth 15)) true))))
theorem F88_body:Tryd.f88.body=some F88_code:=by kernel_rfl
theorem F88_ok (x0:OA) (x1:List Value) (hp:HP) (K:Kh) (h:F88 x0 x1 hp K):CF Tryd.prog 88 [(.pointer x0),(.agg ⟨x1⟩)] hp K:=by
 refine .inl ⟨by kernel_rfl,AC.intro (N:=27) Tryd.func88 F88_body rfl (Nat.le_of_ble_eq_true rfl) ?_⟩
 unfold F88 at h
 refine Ar F88_r0 ?_ (r2 1 0 Rn) (z2 Sn) Sn
 refine Aq (AWP.rgnD (by kernel_rfl) (by kernel_rfl) F88_r1 ?_ (r1 0 (rp 3 3 0 Rn)) (z2 Sn) (z1 Sn))
 refine mN h fun b1 o2 h=>mV h fun v3 h=>mM h fun m4 h=>mV h fun v5 h=>mI h fun i6 h=>mO h fun u7 h8 h=>?_
 refine As (fun env pv hp=>∃ x0 k3,Sub (w2 E0 3 (sR 3 0) 0 (sP x0)) env∧Sub (upd V0 3 (62,k3)) pv∧(F88_j1 x0 k3 hp  K)) ?_ ?_
 ·refine AWP.rgnC (cf:=[(3,8)]) (c:=[([true],true,[0,1,2,3,4,5,6,7,8,9]),([false],true,[0,1,2,4,5,6,7,8,3,9])]) (by kernel_rfl) (by kernel_rfl) (by kernel_rfl) (by kernel_rfl) (allO_t (Eq.mpr F88_r3 ?_) (allO_t (Eq.mpr F88_r4 ?_) trivial)) (r1 0 (rp 3 3 0 Rn)) (z2 Sn) (z1 Sn)
  ·replace h:=h.1
   refine mN h fun b18 o19 h=>mV h fun v20 h=>mP h fun p21 h=>mL h fun l22 h=>mL h fun l23 h=>mC h fun u24 h25 h=>ms h fun s26 h=>mC h fun u27 h28 h=>mB h fun q29 h=>?_
   exact ⟨_,_,(z2 Sn),(z1 Sn),h⟩
  ·replace h:=h.2
   refine mN h fun b30 o31 h=>mL h fun l32 h=>mL h fun l33 h=>mC h fun u34 h35 h=>ms h fun s36 h=>mV h fun v37 h=>mP h fun p38 h=>mC h fun u39 h40 h=>mB h fun q41 h=>?_
   exact ⟨_,_,(z2 Sn),(z1 Sn),h⟩
 ·rintro env pv hp ⟨x0,k3,he,hv,h⟩
  refine Ae ?_ (r1 0 (rp 3 3 0 Rn)) he hv
  unfold F88_j1 at h
  refine AWP.rgnD (by kernel_rfl) (by kernel_rfl) F88_r2 ?_ (r1 0 (rp 3 3 0 Rn)) (z2 Sn) (z1 Sn)
  refine mN h fun b9 o10 h=>mV h fun v11 h=>mP h fun p12 h=>mV h fun v13 h=>mI h fun i14 h=>mC h fun u15 h16 h=>mB h fun q17 h=>?_
  exact h
end
end Go.Proofs
set_option linter.unusedVariables false
set_option linter.unusedSimpArgs false
set_option maxRecDepth 20000
namespace Go.Proofs
open Go Go.HL
open Go.Exp (Th tlt Ord setW dropW insW)
/-- A stored one. -/
structure Sy where
  id:Int
  out:Q × Int
  peer:Q × Int
  due:Int
  text:ByteArray
deriving DecidableEq
def zT:Q × Int:=((0,0,0,0),0)
def sy0:Sy:=⟨0,zT,zT,0,⟨#[]⟩⟩
instance:Inhabited Sy:=⟨sy0⟩
def syc (x:Sy):List Value:=.int .i64 x.id::(t4 x.out++(t4 x.peer++[.int .i64 x.due,.string x.text]))
def syv (x:Sy):Value:=.agg ⟨syc x⟩
theorem syc_len (x:Sy):(syc x).length=13:=rfl
theorem syc_one (x:Sy):(syc x).all one=true:=rfl
def Sy.key (x:Sy):ByteArray:=keyS x.out x.peer
/-- What always holds of a list of stored ones. -/
structure InvS (mx last:Nat) (L:List Sy):Prop where
  asc:(L.map (·.id)).Pairwise (· < ·)
  rng:∀ x∈L,1≤x.id∧x.id≤last
  keys:(L.map fun x=>(x.out,x.peer)).Nodup
  ok:∀ x∈L,okT x.out∧okT x.peer∧0≤x.due∧x.due≤4611686018427387904
  len:L.length≤mx
  mx:mx≤65536
  last:last≤500000
theorem InvS.ids {mx last:Nat} {L:List Sy} (h:InvS mx last L):(L.map (·.id)).Nodup:=h.asc.imp fun h e=>by omega
theorem InvS.keyNd {mx last:Nat} {L:List Sy} (h:InvS mx last L):(L.map Sy.key).Nodup:=by
  have h1:=h.keys
  have h2:=h.ok
  unfold List.Nodup at h1 ⊢
  rw [List.pairwise_map] at h1 ⊢
  refine h1.imp_of_mem fun {a b} ha hb hab e=>hab ?_
  obtain ⟨a1,a2,_⟩:=h2 a ha
  obtain ⟨b1,b2,_⟩:=h2 b hb
  obtain ⟨e1,e2⟩:=keyS_inj a1 a2 b1 b2 e
  rw [e1,e2]
theorem InvS.filter {mx last:Nat} {L:List Sy} (h:InvS mx last L) (p:Sy→Bool):InvS mx last (L.filter p) where
  asc:=h.asc.sublist (List.filter_sublist.map _)
  rng x hx:=h.rng x (List.mem_filter.1 hx).1
  keys:=h.keys.sublist (List.filter_sublist.map _)
  ok x hx:=h.ok x (List.mem_filter.1 hx).1
  len:=Nat.le_trans (List.length_filter_le _ _) h.len
  mx:=h.mx
  last:=h.last
theorem InvS.nil {mx:Nat} (h:mx≤65536):InvS mx 0 []:=⟨List.Pairwise.nil,fun x hx=>absurd hx (by simp),List.nodup_nil,fun x hx=>absurd hx (by simp),Nat.zero_le _,h,by omega⟩
/-- The one of two addresses. -/
def findS (o p:Q × Int) (L:List Sy):Option Sy:=L.find? fun x=>decide (x.out=o∧x.peer=p)
theorem find_key {mx last:Nat} {L:List Sy} (h:InvS mx last L) {o p:Q × Int} (ho:okT o) (hp:okT p):(L.find? fun x=>decide (x.key=keyS o p))=findS o p L:=by
  unfold findS
  have:∀ x∈L,decide (x.key=keyS o p)=decide (x.out=o∧x.peer=p):=fun x hx=>by
    obtain ⟨a1,a2,_⟩:=h.ok x hx
    refine decide_eq_decide.2 ⟨fun e=>keyS_inj a1 a2 ho hp e,fun ⟨e1,e2⟩=>?_⟩
    unfold Sy.key; rw [e1,e2]
  clear h
  induction L with
  | nil=>rfl
  | cons x L ih=>
    rw [List.find?_cons,List.find?_cons,this x (by simp),ih fun y hy=>this y (by simp [hy])]
theorem findS_mem {o p:Q × Int} {L:List Sy} {x:Sy} (h:findS o p L=some x):x∈L∧x.out=o∧x.peer=p:=by
  obtain ⟨h1,h2⟩:=find_mem h
  exact ⟨h1,of_decide_eq_true h2⟩
theorem InvS.put {mx last:Nat} {L:List Sy} (h:InvS mx last L) {o p:Q × Int} {due:Int} {text:ByteArray} (ho:okT o) (hp:okT p) (hd:0≤due∧due≤4611686018427387904) (hf:findS o p L=none) (hl:L.length<mx) (hlast:last<500000) :
    InvS mx (last+1) (L++[⟨(last+1:Nat),o,p,due,text⟩]) where
  asc:=by
    rw [List.map_append]
    refine List.pairwise_append.2 ⟨h.asc,by simp,fun a ha b hb=>?_⟩
    obtain ⟨x,hx,rfl⟩:=List.mem_map.1 ha
    have:=(h.rng x hx).2
    simp only [List.map_cons,List.map_nil,List.mem_singleton] at hb
    subst hb; omega
  rng x hx:=by
    rcases List.mem_append.1 hx with hx | hx
    · have:=h.rng x hx; omega
    · rw [List.mem_singleton.1 hx]
      simp only
      omega
  keys:=by
    rw [List.map_append]
    refine List.nodup_append.2 ⟨h.keys,by simp,fun a ha b hb e=>?_⟩
    obtain ⟨x,hx,rfl⟩:=List.mem_map.1 ha
    simp only [List.map_cons,List.map_nil,List.mem_singleton] at hb
    subst hb
    have:=(find_none.1 hf) x hx
    simp only [decide_eq_false_iff_not] at this
    simp only [Prod.mk.injEq] at e
    exact this e
  ok x hx:=by
    rcases List.mem_append.1 hx with hx | hx
    · exact h.ok x hx
    · rw [List.mem_singleton.1 hx]; exact ⟨ho,hp,hd⟩
  len:=by rw [List.length_append]; simp; omega
  mx:=h.mx
  last:=by omega
/-- A store in memory: s itself, the map m of the stored ones, the index x of their keys, the queue q of their dues. -/
def SyW (tb:Obj) (hq:HP) (s mx last:Nat) (L:List Sy) (w:List Th):Prop:=
  ∃ (ps:Nat→HP) (m x q:Nat),Parts hq ps∧ps 0 s=.cells 145 [.int .i64 mx,.int .i64 last,.map (some m),ptr x 0,ptr q 0] 0∧MapE iw syv (L.map fun y=>(y.id,y)) (ps 0 m)∧TabR tb (ps 0) ∧
    IdxR (ps 1) x mx (L.map fun y=>(y.key,y.id))∧QW (ps 2) q w∧QOk Sy.id Sy.due L w∧InvS mx last L
theorem u57:Tryd.prog.underlying 57=some (.map 3 62):=by kernel_rfl
theorem zw62:∀ w:World,(zeroValue 62).run Tryd.prog w=.ok (syv sy0) w:=fun w=>itoa_zero (by kernel_rfl) w
theorem syz:([(Value.int .i64 0),(Value.int .u8 0),(Value.int .u8 0),(Value.int .u8 0),(Value.int .u8 0),(Value.int .i64 0),(Value.int .u8 0),(Value.int .u8 0),(Value.int .u8 0),(Value.int .u8 0),(Value.int .i64 0),(Value.int .i64 0),(Value.string ⟨#[]⟩)]:List Value)=syc sy0:=rfl
theorem syc_splice (x y:Sy):splice (syc x) 0 (syc y)=syc y:=splice_all rfl
theorem syc_cells (x:Sy):cellsN (syc x) 0 13=some (syc x):=rfl
theorem syc_out (x:Sy):cellsN (syc x) 1 5=some (t4 x.out):=rfl
theorem syc_peer (x:Sy):cellsN (syc x) 6 5=some (t4 x.peer):=rfl
theorem t4_cells (t:Q × Int):cellsN (t4 t) 0 5=some (t4 t):=rfl
theorem syc_id (x:Sy):(syc x)[0]?=some (.int .i64 x.id):=rfl
theorem pp (p:Nat) (c:Option Addr→Prop):ptrV (ptr p 0) c=c (some ⟨p,0,none⟩):=rfl
section
variable {tb:Obj} {hq:HP} {s mx last:Nat} {L:List Sy} {w:List Th} {K:Value→HP→Prop}
theorem SyW.sub {hp:HP} (h:SyW tb hq s mx last L w) (hs:HSub hq hp):SyW tb hp s mx last L w:=by
  obtain ⟨ps,m,x,q,hP,r⟩:=h
  exact ⟨ps,m,x,q,hP.weak hs,r⟩
theorem SyW.inv (h:SyW tb hq s mx last L w):InvS mx last L:=by obtain ⟨ps,m,x,q,h1,h2,h3,h4,h5,h6,h7,h8⟩:=h; exact h8
theorem SyW.qok (h:SyW tb hq s mx last L w):QOk Sy.id Sy.due L w:=by obtain ⟨ps,m,x,q,h1,h2,h3,h4,h5,h6,h7,h8⟩:=h; exact h7
theorem SyW.tab (h:SyW tb hq s mx last L w):TabR tb hq:=by obtain ⟨ps,m,x,q,h1,h2,h3,h4,h5,h6,h7,h8⟩:=h; exact h4.sub (h1.sub 0)
theorem C83 (h:SyW tb hq s mx last L w) (hK:K (.bool false) hq):CF Tryd.prog 83 [ptr s 0] hq K:=by
  refine F83_ok _ hq K ?_
  unfold F83
  obtain ⟨ps,m,x,q,h1,h2,h3,h4,h5,h6,h7,h8⟩:=h
  have hc:hq.cell s 2=some (.map (some m)):=HP.cell_of ((h1.sub 0).cells h2)
  simp only [Option.isNone_some,ite2_false,ptrN_some,Nat.zero_add,hc,ldV_some,mapV_map]
  exact hK
theorem C38 (h:SyW tb hq s mx last L w) (hK:K (.int .i64 (L.length:Nat)) hq):CF Tryd.prog 38 [ptr s 0] hq K:=by
  refine F38_ok _ hq K ?_
  unfold F38
  refine C83 h ?_
  obtain ⟨ps,m,x,q,h1,h2,h3,h4,h5,h6,h7,h8⟩:=h
  have hc:hq.cell s 2=some (.map (some m)):=HP.cell_of ((h1.sub 0).cells h2)
  simp only [boolV_bool,ite2_false,ptrN_some,Nat.zero_add,hc,ldV_some,mapV_map]
  refine rdS_mapLen u57 (h3.sub (h1.sub 0)) ?_
  rw [intV_int,List.length_map]
  exact hK
theorem C39 {o p:Q × Int} (h:SyW tb hq s mx last L w) (ho:okT o) (hp:okT p) (hK:K (.tuple ⟨[.agg ⟨syc ((findS o p L).getD sy0)⟩,.bool (findS o p L).isSome]⟩) hq):CF Tryd.prog 39 [ptr s 0,.agg ⟨t4 o⟩,.agg ⟨t4 p⟩] hq K:=by
  refine F39_ok _ (t4 o) (t4 p) hq K ?_
  unfold F39
  refine C83 h ?_
  obtain ⟨ps,m,x,q,h1,h2,h3,h4,h5,h6,h7,h8⟩:=h
  have hc:∀ t,hq.cell s t=_:=fun t=>HP.cell_of ((h1.sub 0).cells h2)
  have hc2:hq.cell s 2=some (.map (some m)):=hc 2
  have hc3:hq.cell s 3=some (ptr x 0):=hc 3
  have ht:TabR tb hq:=h4.sub (h1.sub 0)
  have hx:IdxR hq x mx (L.map fun y=>(y.key,y.id)):=h5.sub (h1.sub 1)
  have hg:getL (keyS o p) (L.map fun y=>(y.key,y.id))=(findS o p L).map (·.id):=by
    rw [getL_mapK Sy.key Sy.id,find_key h8 ho hp]
  rw [boolV_bool,ite2_false]
  have main:F39_j1 (some ⟨s,0,none⟩) (((findS o p L).map (·.id)).getD 0) ((findS o p L).map (·.id)).isSome (syc sy0) hq K:=by
    unfold F39_j1
    simp only [syz]
    cases hf:findS o p L with
    | none=>
      show ite2 true _ _
      rw [ite2_true]
      refine ifI rfl (ifI rfl (ifI (by decide) ?_))
      rw [syc_splice,syc_cells,ldL_some]
      rw [hf] at hK
      exact hK
    | some y=>
      obtain ⟨hy,_⟩:=findS_mem hf
      show ite2 false _ _
      simp only [ite2_false,ptrN_some,Nat.zero_add,hc2,ldV_some,mapV_map]
      refine rdS_lookup (l:=L.map fun y=>(y.id,y)) u57 enc3 zw62 (h3.sub (h1.sub 0)) y.id (ev:=syv) (cm:=false) ?_
      have hg2:getL y.id (L.map fun y=>(y.id,y))=some y:=by
        rw [getL_mapK Sy.id (fun y=>y),find_of (g:=Sy.id) h8.ids hy]; rfl
      rw [hg2]
      show aggV (syv y) _
      simp only [syv,aggV_agg]
      refine ifI rfl (ifI rfl (ifI (by simp [syc_len]) ?_))
      rw [syc_splice,syc_cells,ldL_some]
      rw [hf] at hK
      exact hK
  constructor
  all_goals
    simp only [ptrN_some,Nat.zero_add,hc3,ldV_some,pp,t4_cells,ldL_some]
    refine C85 ht ho.2 hp.2 ?_
    simp only [strV_string,ptrN_some,Nat.zero_add,hc3,ldV_some,pp]
    refine C84 hx ?_
    rw [hg]
    simp only [tup2V_mk,intV_int,boolV_bool,syz]
    exact main
theorem N85 {o p:Q × Int} {hp:HP} (ht:TabR tb hp) (ho:okT o) (hp':okT p) (hK:K (.string (keyS o p)) hp):CF Tryd.prog 85 [.agg ⟨t4 o⟩,.agg ⟨t4 p⟩] hp K:=C85 ht ho.2 hp'.2 hK
theorem C88 {y:Sy} (h:SyW tb hq s mx last L w) (hy:y∈L) (hK:∀ hq',SyW tb hq' s mx last (L.filter fun z=>decide (z.id≠y.id)) (dropW y.id w)→K (.tuple ⟨[]⟩) hq'):CF Tryd.prog 88 [ptr s 0,.agg ⟨syc y⟩] hq K:=by
  refine F88_ok _ (syc y) hq K ?_
  unfold F88
  obtain ⟨ps,m,x,q,h1,h2,h3,h4,h5,h6,h7,h8⟩:=h
  have hc:∀ t,hq.cell s t=_:=fun t=>HP.cell_of ((h1.sub 0).cells h2)
  have hc2:hq.cell s 2=some (.map (some m)):=hc 2
  simp only [ptrN_some,Nat.zero_add,hc2,ldV_some,mapV_map,syc_id,intV_int]
  refine opS_delete u57 enc3 (h3.sub (h1.sub 0)) y.id (ev:=syv) fun e he=>?_
  rw [delL_mapK Sy.id (fun y=>y) y.id h8.ids] at he
  have hms:m≠s:=fun e'=>by
    obtain ⟨es,clock,e1,_⟩:=h3
    rw [e',h2] at e1; cases e1
  have hm0:m≠0∨True:=.inr trivial
  have P1:=h1.put 0 (b:=m) h3.ne e
  have hs1:(pu ps 0 ((ps 0).set m e)) 0 s=.cells 145 [.int .i64 mx,.int .i64 last,.map (some m),ptr x 0,ptr q 0] 0:=by rw [pu_eq,HP.set_ne _ _ hms.symm]; exact h2
  have hm1:MapE iw syv ((L.filter fun z=>decide (z.id≠y.id)).map fun y=>(y.id,y)) ((pu ps 0 ((ps 0).set m e)) 0 m):=by rw [pu_eq,HP.set_eq]; exact he
  have ht1:TabR tb ((pu ps 0 ((ps 0).set m e)) 0):=by
    refine ⟨?_,h4.2⟩
    have:m≠0:=fun e'=>by
      obtain ⟨es,clock,e1,_⟩:=h3
      obtain ⟨g1,t,z,g2⟩:=h4
      rw [e',g1,g2] at e1; cases e1
    rw [pu_eq,HP.set_ne _ _ (fun e'=>this e'.symm)]; exact h4.1
  have hx1:IdxR ((pu ps 0 ((ps 0).set m e)) 1) x mx (L.map fun y=>(y.key,y.id)):=h5
  have hq1:QW ((pu ps 0 ((ps 0).set m e)) 2) q w:=h6
  generalize hq.set m e=hp1 at *
  generalize pu ps 0 ((ps 0).set m e)=ps1 at *
  clear h1 h2 h3 h4 h5 h6 hc hc2 he
  have hc:∀ t,hp1.cell s t=_:=fun t=>HP.cell_of ((P1.sub 0).cells hs1)
  have hc3:hp1.cell s 3=some (ptr x 0):=hc 3
  obtain ⟨oy1,oy2,_⟩:=h8.ok y hy
  have hin:getL (keyS y.out y.peer) (L.map fun y=>(y.key,y.id))=some y.id:=by
    have:=find_of (g:=Sy.key) h8.keyNd hy
    rw [getL_mapK Sy.key Sy.id]
    show (L.find? fun x=>decide (x.key=y.key)).map Sy.id=_
    rw [this]; rfl
  have hdel:delL (keyS y.out y.peer) (L.map fun y=>(y.key,y.id))=(L.filter fun z=>decide (z.id≠y.id)).map fun y=>(y.key,y.id):=by
    rw [delL_mapK Sy.key Sy.id _ h8.keyNd]
    congr 1
    exact filter_congr_key (g:=Sy.key) (f:=Sy.id) h8.keyNd h8.ids hy
  have main:∀ l hp',IdxR l x mx (delL (keyS y.out y.peer) (L.map fun y=>(y.key,y.id)))→Parts hp' (pu ps1 1 l)→F88_j1 (some ⟨s,0,none⟩) (syc y) hp' K:=by
    intro l hp' hl P2
    unfold F88_j1
    have hc4:hp'.cell s 4=some (ptr q 0):=HP.cell_of ((P2.sub 0).cells hs1)
    simp only [ptrN_some,Nat.zero_add,hc4,ldV_some,pp,syc_id,intV_int]
    refine N93 P2 2 (q:=q) (w:=w) hq1 (by rw [h7.len]; have:=h8.len; have:=h8.mx; omega) fun l3 hp3 hl3 P3=>?_
    rw [boolV_bool]
    refine hK hp3 ⟨_,m,x,q,P3,hs1,hm1,ht1,?_,hl3,h7.cut,h8.filter _⟩
    rw [hdel] at hl; exact hl
  have ht:=ht1.sub (P1.sub 0)
  constructor
  all_goals
    simp only [ptrN_some,Nat.zero_add,hc3,ldV_some,pp,syc_out,syc_peer,ldL_some]
    refine N85 ht oy1 oy2 ?_
    simp only [strV_string,hc3,ldV_some,pp]
    refine N92 P1 1 hx1 hin h8.mx fun l hp' hl P2=>?_
    rw [boolV_bool]
    exact main l hp' hl P2
end
end Go.Proofs
set_option linter.unusedVariables false
set_option linter.unusedSimpArgs false
set_option maxRecDepth 20000
namespace Go.Proofs
open Go Go.HL
open Go.Exp (Th tlt Ord setW dropW insW)
section
variable {tb:Obj} {hq:HP} {s mx last:Nat} {L:List Sy} {w:List Th} {K:Value→HP→Prop}
theorem C35 {o p:Q × Int} (h:SyW tb hq s mx last L w) (ho:okT o) (hp:okT p)
    (hno:findS o p L=none→K (.tuple ⟨[.agg ⟨syc sy0⟩,.int .i64 4]⟩) hq)
    (hyes:∀ y,findS o p L=some y→∀ hq',SyW tb hq' s mx last (L.filter fun z=>decide (z.id≠y.id)) (dropW y.id w)→K (.tuple ⟨[.agg ⟨syc y⟩,.int .i64 0]⟩) hq'):CF Tryd.prog 35 [ptr s 0,.agg ⟨t4 o⟩,.agg ⟨t4 p⟩] hq K:=by
  refine F35_ok _ (t4 o) (t4 p) hq K ?_
  unfold F35
  refine C83 h ?_
  simp only [boolV_bool,ite2_false,t4_cells,ldL_some,syz]
  refine C39 h ho hp ?_
  simp only [tup2V_mk,aggV_agg,boolV_bool]
  refine ifI rfl (ifI rfl (ifI (by simp [syc_len]) ?_))
  cases hf:findS o p L with
  | none=>
    show ite2 true _ _
    rw [ite2_true]
    refine ifI rfl (ifI rfl (ifI (by simp [syc_len]) ?_))
    rw [syc_splice,syc_cells,ldL_some]
    exact hno hf
  | some y=>
    show ite2 false _ _
    simp only [ite2_false,Option.getD_some,syc_splice,syc_cells,ldL_some]
    refine C88 h (findS_mem hf).1 fun hq' h'=>?_
    refine ifI rfl (ifI rfl (ifI (by simp [syc_len]) ?_))
    exact hyes y hf hq' h'
/-- What Put answers. -/
def putE (mx:Nat) (o p:Q × Int) (due:Int) (text:ByteArray) (L:List Sy):Int:=
  if text.size > 65536 then 3 else if due<0∨due > 4611686018427387904 then 1 else if (findS o p L).isSome then 5 else if L.length≥mx then 6 else 0
theorem C33 {o p:Q × Int} {due:Int} {text:ByteArray} (h:SyW tb hq s mx last L w) (ho:okT o) (hp:okT p) (hlast:last<500000)
    (hno:∀ e,putE mx o p due text L=e→e≠0→K (.int .i64 e) hq)
    (hyes:putE mx o p due text L=0→∀ hq',SyW tb hq' s mx (last+1) (L++[⟨(last+1:Nat),o,p,due,text⟩]) (setW (last+1:Nat) due w)→K (.int .i64 0) hq') :
    CF Tryd.prog 33 [ptr s 0,.agg ⟨t4 o⟩,.agg ⟨t4 p⟩,.int .i64 due,.string text] hq K:=by
  refine F33_ok _ (t4 o) (t4 p) due text hq K ?_
  unfold F33
  refine C83 h ?_
  rw [boolV_bool,ite2_false]
  by_cases c1:text.size > 65536
  · rw [decide_eq_true (by omega:((text.size:Nat):Int) > 65536),ite2_true]
    exact hno 3 (by unfold putE; rw [if_pos c1]) (by decide)
  rw [decide_eq_false (by omega:¬ ((text.size:Nat):Int) > 65536),ite2_false]
  by_cases c2:due<0
  · rw [decide_eq_true c2,ite2_true]
    unfold F33_j1
    rw [ite2_true]
    exact hno 1 (by unfold putE; rw [if_neg c1,if_pos (.inl c2)]) (by decide)
  rw [decide_eq_false c2,ite2_false]
  unfold F33_j1
  by_cases c3:due > 4611686018427387904
  · rw [decide_eq_true c3,ite2_true]
    exact hno 1 (by unfold putE; rw [if_neg c1,if_pos (.inr c3)]) (by decide)
  rw [decide_eq_false c3,ite2_false]
  have c23:¬ (due<0∨due > 4611686018427387904):=by omega
  obtain ⟨ps,m,x,q,h1,h2,h3,h4,h5,h6,h7,h8⟩:=h
  have hc:∀ t,hq.cell s t=_:=fun t=>HP.cell_of ((h1.sub 0).cells h2)
  have hc0:hq.cell s 0=some (.int .i64 mx):=hc 0
  have hc1:hq.cell s 1=some (.int .i64 last):=hc 1
  have hc2:hq.cell s 2=some (.map (some m)):=hc 2
  have hc3:hq.cell s 3=some (ptr x 0):=hc 3
  have ht:TabR tb hq:=h4.sub (h1.sub 0)
  have hx:IdxR hq x mx (L.map fun y=>(y.key,y.id)):=h5.sub (h1.sub 1)
  have hg:getL (keyS o p) (L.map fun y=>(y.key,y.id))=(findS o p L).map (·.id):=by
    rw [getL_mapK Sy.key Sy.id,find_key h8 ho hp]
  have main:F33_j2 (some ⟨s,0,none⟩) due text ((findS o p L).map (·.id)).isSome (t4 o) (t4 p) hq K:=by
    unfold F33_j2
    cases hf:findS o p L with
    | some y=>
      show ite2 true _ _
      rw [ite2_true]
      exact hno 5 (by unfold putE; rw [if_neg c1,if_neg c23,if_pos (by rw [hf]; rfl)]) (by decide)
    | none=>
      show ite2 false _ _
      rw [ite2_false]
      have main2:F33_j3 (some ⟨s,0,none⟩) due text (decide (((L.length:Nat):Int)≥(mx:Nat))) (t4 o) (t4 p) hq K:=by
        unfold F33_j3
        by_cases c4:L.length≥mx
        · rw [decide_eq_true (by omega:((L.length:Nat):Int)≥(mx:Nat)),ite2_true]
          exact hno 6 (by unfold putE; rw [if_neg c1,if_neg c23,if_neg (by rw [hf]; simp),if_pos c4]) (by decide)
        rw [decide_eq_false (by omega:¬ ((L.length:Nat):Int)≥(mx:Nat)),ite2_false]
        have hput:putE mx o p due text L=0:=by unfold putE; rw [if_neg c1,if_neg c23,if_neg (by rw [hf]; simp),if_neg c4]
        simp only [ptrN_some,Nat.zero_add,hc1,ldV_some,intV_int]
        have w1:IntKind.wrap .i64 ((last:Int)+1)=((last+1:Nat):Int):=wi (by omega) (by omega)
        rw [w1]
        refine HP.st_at ((h1.sub 0).cells h2) (by simp) ?_
        have P1:=h1.put 0 (b:=s) (by rw [h2]; simp) (.cells 145 [.int .i64 mx,.int .i64 ((last+1:Nat):Int),.map (some m),ptr x 0,ptr q 0] 0)
        have hms:m≠s:=fun e'=>by
          obtain ⟨es,clock,e1,_⟩:=h3
          rw [e',h2] at e1; cases e1
        have h0s:(0:Nat)≠s:=fun e'=>by
          obtain ⟨g1,t,z,g2⟩:=h4
          rw [← e',g1] at h2; cases h2
        have h0m:(0:Nat)≠m:=fun e'=>by
          obtain ⟨es,clock,e1,_⟩:=h3
          obtain ⟨g1,t,z,g2⟩:=h4
          rw [← e',g1,g2] at e1; cases e1
        have hset:([Value.int .i64 (mx:Nat),.int .i64 (last:Nat),.map (some m),ptr x 0,ptr q 0].set 1 (.int .i64 ((last+1:Nat):Int)))=[.int .i64 (mx:Nat),.int .i64 ((last+1:Nat):Int),.map (some m),ptr x 0,ptr q 0]:=rfl
        rw [hset]
        have g2:(pu ps 0 ((ps 0).set s (.cells 145 [.int .i64 mx,.int .i64 ((last+1:Nat):Int),.map (some m),ptr x 0,ptr q 0] 0))) 0 s=.cells 145 [.int .i64 mx,.int .i64 ((last+1:Nat):Int),.map (some m),ptr x 0,ptr q 0] 0:=by rw [pu_eq,HP.set_eq]
        have g3:MapE iw syv (L.map fun y=>(y.id,y)) ((pu ps 0 ((ps 0).set s (.cells 145 [.int .i64 mx,.int .i64 ((last+1:Nat):Int),.map (some m),ptr x 0,ptr q 0] 0))) 0 m):=by rw [pu_eq,HP.set_ne _ _ hms]; exact h3
        have g4:TabR tb ((pu ps 0 ((ps 0).set s (.cells 145 [.int .i64 mx,.int .i64 ((last+1:Nat):Int),.map (some m),ptr x 0,ptr q 0] 0))) 0):=by rw [pu_eq]; exact ⟨by rw [HP.set_ne _ _ h0s]; exact h4.1,h4.2⟩
        have g5:IdxR ((pu ps 0 ((ps 0).set s (.cells 145 [.int .i64 mx,.int .i64 ((last+1:Nat):Int),.map (some m),ptr x 0,ptr q 0] 0))) 1) x mx (L.map fun y=>(y.key,y.id)):=h5
        have g6:QW ((pu ps 0 ((ps 0).set s (.cells 145 [.int .i64 mx,.int .i64 ((last+1:Nat):Int),.map (some m),ptr x 0,ptr q 0] 0))) 2) q w:=h6
        generalize hq.set s (.cells 145 [.int .i64 mx,.int .i64 ((last+1:Nat):Int),.map (some m),ptr x 0,ptr q 0] 0)=hp1 at *
        generalize pu ps 0 ((ps 0).set s (.cells 145 [.int .i64 mx,.int .i64 ((last+1:Nat):Int),.map (some m),ptr x 0,ptr q 0] 0))=ps1 at *
        clear h1 h2 h3 h4 h5 h6 hc hc0 hc1 hc2 hc3 ht hx hset w1 hno
        have hc:∀ t,hp1.cell s t=_:=fun t=>HP.cell_of ((P1.sub 0).cells g2)
        have hc1:hp1.cell s 1=some (.int .i64 ((last+1:Nat):Int)):=hc 1
        have hc2:hp1.cell s 2=some (.map (some m)):=hc 2
        have hz:∀ i:Int,(List.set (List.set (splice (splice [(Value.int .i64 i),(Value.int .u8 0),(Value.int .u8 0),(Value.int .u8 0),(Value.int .u8 0),(Value.int .i64 0),(Value.int .u8 0),(Value.int .u8 0),(Value.int .u8 0),(Value.int .u8 0),(Value.int .i64 0),(Value.int .i64 0),(Value.string ⟨#[]⟩)] 1 (t4 o)) 6 (t4 p)) 11 (Value.int .i64 due)) 12 (Value.string text))=syc ⟨i,o,p,due,text⟩:=fun _=>rfl
        simp only [hc1,hc2,ldV_some,intV_int,mapV_map,t4_cells,ldL_some,hz]
        refine ifI rfl (ifI rfl ?_)
        have hnew:(⟨((last+1:Nat):Int),o,p,due,text⟩:Sy).id ∉ L.map Sy.id:=fun hm=>by
          obtain ⟨y,hy,e⟩:=List.mem_map.1 hm
          have:=(h8.rng y hy).2
          rw [e] at this; simp only at this; omega
        refine opS_mapUpdate u57 enc3 (g3.sub (P1.sub 0)) ((last+1:Nat):Int) (ev:=syv) (⟨((last+1:Nat):Int),o,p,due,text⟩:Sy) fun e he=>?_
        have hpl:=putL_mapK Sy.id (fun y:Sy=>y) (x:=⟨((last+1:Nat):Int),o,p,due,text⟩) hnew
        simp only at hpl
        rw [hpl] at he
        have P2:=P1.put 0 (b:=m) g3.ne e
        have k2:(pu ps1 0 ((ps1 0).set m e)) 0 s=.cells 145 [.int .i64 mx,.int .i64 ((last+1:Nat):Int),.map (some m),ptr x 0,ptr q 0] 0:=by rw [pu_eq,HP.set_ne _ _ hms.symm]; exact g2
        have k3:MapE iw syv ((L++[(⟨((last+1:Nat):Int),o,p,due,text⟩:Sy)]).map fun y:Sy=>(y.id,y)) ((pu ps1 0 ((ps1 0).set m e)) 0 m):=by rw [pu_eq,HP.set_eq]; exact he
        have k4:TabR tb ((pu ps1 0 ((ps1 0).set m e)) 0):=by rw [pu_eq]; exact ⟨by rw [HP.set_ne _ _ h0m]; exact g4.1,g4.2⟩
        have k5:IdxR ((pu ps1 0 ((ps1 0).set m e)) 1) x mx (L.map fun y=>(y.key,y.id)):=g5
        have k6:QW ((pu ps1 0 ((ps1 0).set m e)) 2) q w:=g6
        generalize hp1.set m e=hp2 at *
        generalize pu ps1 0 ((ps1 0).set m e)=ps2 at *
        clear P1 g2 g3 g4 g5 g6 hc hc1 hc2
        have hc:∀ t,hp2.cell s t=_:=fun t=>HP.cell_of ((P2.sub 0).cells k2)
        have hc1:hp2.cell s 1=some (.int .i64 ((last+1:Nat):Int)):=hc 1
        have hc3:hp2.cell s 3=some (ptr x 0):=hc 3
        have ht:TabR tb hp2:=k4.sub (P2.sub 0)
        have hgn:getL (keyS o p) (L.map fun y=>(y.key,y.id))=none:=by rw [hg,hf]; rfl
        have hkn:(⟨((last+1:Nat):Int),o,p,due,text⟩:Sy).key=keyS o p:=rfl
        have main3:∀ l hp',IdxR l x mx ((L.map fun y=>(y.key,y.id))++[(keyS o p,((last+1:Nat):Int))])→Parts hp' (pu ps2 1 l)→F33_j4 (some ⟨s,0,none⟩) due hp' K:=by
          intro l hp' hl P3
          unfold F33_j4
          have hd:∀ t,hp'.cell s t=_:=fun t=>HP.cell_of ((P3.sub 0).cells k2)
          have hd1:hp'.cell s 1=some (.int .i64 ((last+1:Nat):Int)):=hd 1
          have hd4:hp'.cell s 4=some (ptr q 0):=hd 4
          simp only [ptrN_some,Nat.zero_add,hd4,hd1,ldV_some,pp,intV_int]
          refine N87 P3 2 (q:=q) (w:=w) k6 (by rw [h7.len]; have:=h8.len; have:=h8.mx; omega) c23 fun l3 hp3 hl3 P4=>?_
          rw [intV_int]
          refine hyes hput hp3 ⟨_,m,x,q,P4,k2,k3,k4,?_,hl3,h7.put (x:=⟨((last+1:Nat):Int),o,p,due,text⟩) hnew,h8.put ho hp (by omega) hf (by omega) hlast⟩
          rw [List.map_append]; exact hl
        refine ⟨?_,?_,?_,?_⟩
        all_goals
          try simp only [ptrN_some,Nat.zero_add,hc3,hc1,ldV_some,pp,t4_cells,ldL_some,intV_int]
          refine C85 ht ho.2 hp.2 ?_
          simp only [strV_string,hc3,hc1,ldV_some,pp,intV_int]
          refine N86 P2 1 k5 hgn (by rw [List.length_map]; omega) h8.mx fun l hp' hl P3=>?_
          rw [intV_int]
          exact main3 l hp' hl P3
      have hlen:∀ {c:Value→Prop},c (.int .i64 (L.length:Nat))→rdS Tryd.prog (Builtin.len_ #[57] 3 #[.map (some m)]) hq c:=fun h=>by
        refine rdS_mapLen u57 (h3.sub (h1.sub 0)) ?_
        rw [List.length_map]; exact h
      constructor
      all_goals
        simp only [ptrN_some,Nat.zero_add,hc0,hc2,ldV_some,mapV_map,intV_int]
        refine hlen ?_
        simp only [intV_int,hc0,ldV_some]
        exact main2
  constructor
  all_goals
    simp only [ptrN_some,Nat.zero_add,hc3,ldV_some,pp,t4_cells,ldL_some]
    refine C85 ht ho.2 hp.2 ?_
    simp only [strV_string,ptrN_some,Nat.zero_add,hc3,ldV_some,pp]
    refine C84 hx ?_
    rw [hg]
    simp only [tup2V_mk,intV_int,boolV_bool]
    exact main
end
end Go.Proofs
set_option linter.unusedVariables false
set_option linter.unusedSimpArgs false
set_option maxRecDepth 20000
namespace Go.Proofs
open Go Go.HL
open Go.Exp (Th tlt Ord setW dropW insW)
section
variable {tb:Obj} {hq:HP} {s mx last:Nat} {L:List Sy} {w:List Th} {K:Value→HP→Prop}
theorem N88 {ps:Nat→HP} {hp:HP} {i:Nat} {y:Sy} (hP:Parts hp ps) (h:SyW tb (ps i) s mx last L w) (hy:y∈L)
    (hK:∀ l hp',SyW tb l s mx last (L.filter fun z=>decide (z.id≠y.id)) (dropW y.id w)→Parts hp' (pu ps i l)→K (.tuple ⟨[]⟩) hp'):CF Tryd.prog 88 [ptr s 0,.agg ⟨syc y⟩] hp K:=by
  refine CF.part hP i (C88 (K:=fun u l=>u=.tuple ⟨[]⟩∧SyW tb l s mx last (L.filter fun z=>decide (z.id≠y.id)) (dropW y.id w)) h hy fun l hl=>⟨rfl,hl⟩) ?_
  rintro u l hp' ⟨rfl,hl⟩ hP'
  exact hK l hp' hl hP'
/-- What is popped, and the store behind it, lie beside each other. -/
theorem C37 {now:Int} (h:SyW tb hq s mx last L w)
    (hK:∀ ps hp' a c w',Parts hp' ps→SyW tb (ps 0) s mx last (restL Sy.due now L) w'→Row (ps 1) a (popsL Sy.id now L w).length c 62 13 ((popsL Sy.id now L w).flatMap syc)→(∀ i,2≤i→∀ b,ps i b=.none)→K (.slice a (popsL Sy.id now L w).length c) hp') :
    CF Tryd.prog 37 [ptr s 0,.int .i64 now] hq K:=by
  refine F37_ok _ now hq K ?_
  unfold F37
  refine C83 h ?_
  rw [boolV_bool,ite2_false]
  have nx:∀ {hp:HP} {L:List Sy} {w:List Th} {X:Value→HP→Prop},SyW tb hp s mx last L w→X (.tuple ⟨[.int .i64 ((w.head?.map (·.1)).getD 0),.int .i64 ((w.head?.map (·.2)).getD 0),.bool w.head?.isSome]⟩) hp →
      (ptrN (some ⟨s,0,none⟩) fun b_32 o_33=>(ldV (HP.cell hp b_32 (o_33+4)) fun v_34=>(ptrV v_34 fun p_35=>CF Tryd.prog 89 [(Value.pointer p_35)] hp X))):=by
    intro hp L w X h hX
    obtain ⟨ps,m,x,q,h1,h2,h3,h4,h5,h6,h7,h8⟩:=h
    have hc4:hp.cell s 4=some (ptr q 0):=HP.cell_of ((h1.sub 0).cells h2)
    simp only [ptrN_some,Nat.zero_add,hc4,ldV_some,pp]
    exact C89 (h6.sub (h1.sub 2)) hX
  refine nx h ?_
  simp only [tup3V_mk,intV_int,boolV_bool]
  unfold F37_j2
  refine LoopP.by (J:=fun k (st:Option Addr × Nat × Nat × Int × Int × Bool) hp=>∃ (ps:Nat→HP) (L':List Sy) (w':List Th) (out:List Sy),k=w'.length∧Parts hp ps∧SyW tb (ps 0) s mx last L' w'∧(∀ i,2≤i→∀ b,ps i b=.none) ∧
      st.2.1=out.length∧Row (ps 1) st.1 st.2.1 st.2.2.1 62 13 (out.flatMap syc)∧st.2.2.2.1=(w'.head?.map (·.1)).getD 0∧st.2.2.2.2.1=(w'.head?.map (·.2)).getD 0∧st.2.2.2.2.2=w'.head?.isSome ∧
      out++popsL Sy.id now L' w'=popsL Sy.id now L w∧restL Sy.due now L'=restL Sy.due now L) ?_
    (n:=w.length) ⟨pu (fun _ _=>.none) 0 hq,L,w,[],rfl,Parts.one (HSub.refl hq),by rw [pu_eq]; exact h,(fun i hi b=>by rw [pu_ne _ _ (by omega)]),rfl,.inl ⟨rfl,rfl,rfl,rfl⟩,rfl,rfl,rfl,rfl,rfl⟩
  rintro I k ⟨a,n,c,id,due,ok⟩ hp ⟨ps,L',w',out,hk,hP,hS,hfree,hn,hrow,hid,hdue,hok,hout,hrest⟩ hI
  simp only at hn hrow hid hdue hok
  subst hn
  unfold F37_l3
  have hinv:=hS.inv
  have hq0:=hS.qok
  have stop:(∀ t,w'.head?=some t→¬ t.2≤now)→F37_j4 (some ⟨s,0,none⟩) now a out.length c id false hp I K:=by
    intro hst
    unfold F37_j4 F37_j1
    rw [ite2_false]
    obtain ⟨e1,e2⟩:=pops_stop hq0 hst
    rw [e1,List.append_nil] at hout
    rw [e2] at hrest
    subst hout
    exact hK ps hp a c w' hP (hrest▸hS) hrow hfree
  cases hw:w' with
  | nil=>
    rw [hw] at hok
    subst hok
    show ite2 false _ _
    rw [ite2_false]
    exact stop fun t ht=>by rw [hw] at ht; cases ht
  | cons t w2=>
    subst hw
    have hid':id=t.1:=hid
    have hdue':due=t.2:=hdue
    have hok':ok=true:=hok
    subst hid' hdue' hok'
    simp only [ite2_true]
    by_cases hle:t.2≤now
    · rw [decide_eq_true hle]
      unfold F37_j4
      rw [ite2_true]
      obtain ⟨y,hy,hy1,hy2,_⟩:=hq0.head
      obtain ⟨e1,e2⟩:=pops_step hinv.ids hq0 hle hy hy1
      have hlook:∀ {X:Value→Prop},X (syv y)→(ptrN (some ⟨s,0,none⟩) fun b_4 o_5=>(ldV (HP.cell hp b_4 (o_5+2)) fun v_6=>(mapV v_6 fun m_7=>rdS Tryd.prog (Instr.lookup 57 (Value.map m_7) (Value.int .i64 t.1) false) hp X))):=by
        intro X hX
        obtain ⟨ps',m,x,q,h1,h2,h3,h4,h5,h6,h7,h8⟩:=hS.sub (hP.sub 0)
        have hc2:hp.cell s 2=some (.map (some m)):=HP.cell_of ((h1.sub 0).cells h2)
        simp only [ptrN_some,Nat.zero_add,hc2,ldV_some,mapV_map]
        refine rdS_lookup (l:=L'.map fun y=>(y.id,y)) u57 enc3 zw62 (h3.sub (h1.sub 0)) t.1 (ev:=syv) (cm:=false) ?_
        have hg2:getL t.1 (L'.map fun y=>(y.id,y))=some y:=by
          rw [getL_mapK Sy.id (fun y=>y),← hy1,find_of (g:=Sy.id) h8.ids hy]; rfl
        rw [hg2]
        exact hX
      refine hlook ?_
      simp only [syv,aggV_agg,syz]
      refine ifI rfl (ifI rfl (ifI (by simp [syc_len]) ?_))
      rw [syc_splice,syc_cells,ldL_some]
      refine N88 (i:=0) hP hS hy fun l hp1 hS1 P1=>?_
      rw [ldL_some]
      refine ifI rfl ?_
      intro b hb
      rw [syc_splice]
      have P2:Parts (hp1.set b (.cells 62 (syc y) 0)) (pu ps 0 l):=P1.weak (HSub.set_fresh _ _ hb)
      have hlen:out.length+1≤65536:=by
        have h1:=congrArg List.length hout
        rw [e1] at h1
        simp only [List.length_append,List.length_cons] at h1
        have h2:(popsL Sy.id now L w).length≤w.length:=by
          unfold popsL
          exact Nat.le_trans (List.length_filterMap_le _ _) ((List.takeWhile_sublist _).length_le)
        have h3:=h.qok.len
        have h4:=h.inv.len
        have h5:=h.inv.mx
        omega
      refine opS_appP (e:=62) (size:=13) (bytes:=64) (by kernel_rfl) P2 1 (s:=a) (n:=out.length) (c:=c) (xs:=out.flatMap syc) (by rw [pu_ne _ _ (by omega)]; exact hrow)
        (ys:=syc y) (.inr ⟨b,0,rfl,by rw [HP.cellN_of (HP.set_eq ..)]; exact cellsN_all rfl⟩) (syc_one y) (by simp [syc]) (by omega) (by omega) ?_
      intro a2 c2 hp2 r hr P3
      rw [slcV_slice]
      have hS2:SyW tb ((pu (pu ps 0 l) 1 r) 0) s mx last (L'.filter fun z=>decide (z.id≠y.id)) (dropW y.id (t::w2)):=by
        rw [pu_ne _ _ (by omega),pu_eq]; exact hS1
      have hdw:dropW y.id (t::w2)=w2:=by rw [hy1]; exact hq0.tail
      rw [hdw] at hS2
      refine nx (hS2.sub (P3.sub 0)) ?_
      simp only [tup3V_mk,intV_int,boolV_bool]
      have ef:(L'.filter fun z=>decide (z.id≠y.id))=L'.filter fun z=>decide (Sy.id z≠t.1):=by rw [hy1]
      rw [ef] at hS2
      refine hI w2.length _ _ (by rw [hk]; simp) ⟨_,_,w2,out++[y],rfl,P3,hS2,fun i hi b=>?_,?_,?_,rfl,rfl,rfl,?_,?_⟩
      · rw [pu_ne _ _ (by omega),pu_ne _ _ (by omega)]; exact hfree i hi b
      · simp
      · rw [pu_eq]
        show Row r a2 (out.length+1) c2 62 13 ((out++[y]).flatMap syc)
        rw [List.flatMap_append]
        simpa using hr
      · rw [← hout,e1,List.append_assoc]; rfl
      · rw [e2]; exact hrest
    · rw [decide_eq_false hle]
      exact stop fun t' ht'=>by cases ht'; exact hle
end
end Go.Proofs
set_option linter.unusedVariables false
set_option maxRecDepth 20000
namespace Go.Proofs
open Go Go.HL
section
variable {e E:Env} {x1:OA} {x2 x3 x4 x6:Int} {k5:List Value} {hp:HP} {K:Env→PV→HP→Prop}
abbrev R31 (p n:Nat):=RW Tryd.prog 57 [5,43,48] (opsAt Tryd.f31 (pth p)) (List.range n)
theorem F31_r0:R31 2 1 e V0 hp K=
 K (upd e 0 (sB false)) V0 hp:= by kernel_rfl
theorem F31_r1:R31 5 6 e V0 hp K=
 CF Tryd.prog 32 [(.int .i64 3)] hp fun u1 h2=>(tup2V u1 fun u3 u4=>ptrV u3 fun p5=>intV u4 .i64 fun i6=>K (w6 e 8 (sV (.tuple ⟨[(.pointer p5),(.int .i64 i6)]⟩)) 7 (sV (.tuple ⟨[(.pointer p5),(.int .i64 i6)]⟩)) 9 (sP p5) 10 (sI i6) 1 (sP p5) 2 (sI i6)) V0 h2):= by kernel_rfl
theorem F31_r2:R31 75 1 e V0 hp K=
 K (upd e 0 (sB false)) V0 hp:= by kernel_rfl
theorem F31_r3:R31 23 5 (upd e 1 (sP x1)) V0 hp K=
 CF Tryd.prog 34 [(.int .u8 1),(.int .i64 80)] hp fun u1 h2=>(aggV u1 fun l3=>CF Tryd.prog 34 [(.int .u8 2),(.int .i64 9)] h2 fun u4 h5=>aggV u4 fun l6=>CF Tryd.prog 33 [(.pointer x1),(.agg ⟨l3⟩),(.agg ⟨l6⟩),(.int .i64 5),(.string (⟨#[120]⟩:ByteArray))] h5 fun u7 h8=>intV u7 .i64 fun i9=>K (w6 e 1 (sP x1) 17 (sP x1) 18 (sA l3) 19 (sA l6) 20 (sI i9) 3 (sI i9)) V0 h8):= by kernel_rfl
theorem F31_r4:R31 47 5 (upd e 1 (sP x1)) V0 hp K=
 CF Tryd.prog 34 [(.int .u8 1),(.int .i64 80)] hp fun u1 h2=>(aggV u1 fun l3=>CF Tryd.prog 34 [(.int .u8 2),(.int .i64 9)] h2 fun u4 h5=>aggV u4 fun l6=>CF Tryd.prog 33 [(.pointer x1),(.agg ⟨l3⟩),(.agg ⟨l6⟩),(.int .i64 7),(.string (⟨#[121]⟩:ByteArray))] h5 fun u7 h8=>intV u7 .i64 fun i9=>K (w6 e 1 (sP x1) 21 (sP x1) 22 (sA l3) 23 (sA l6) 24 (sI i9) 4 (sI i9)) V0 h8):= by kernel_rfl
theorem F31_r5:R31 95 10 (upd e 1 (sP x1)) V0 hp K=
 CF Tryd.prog 34 [(.int .u8 1),(.int .i64 80)] hp fun u1 h2=>(aggV u1 fun l3=>CF Tryd.prog 34 [(.int .u8 2),(.int .i64 9)] h2 fun u4 h5=>aggV u4 fun l6=>CF Tryd.prog 35 [(.pointer x1),(.agg ⟨l3⟩),(.agg ⟨l6⟩)] h5 fun u7 h8=>tup2V u7 fun u9 u10=>aggV u9 fun l11=>intV u10 .i64 fun i12=>if List.length l11=13 then (if List.all l11 one=true then (if 0+List.length l11≤List.length [(Value.int .i64 0),.int .u8 0,.int .u8 0,.int .u8 0,.int .u8 0,.int .i64 0,.int .u8 0,.int .u8 0,.int .u8 0,.int .u8 0,.int .i64 0,.int .i64 0,.string ⟨#[]⟩] then (K (w2 (w8 e 1 (sP x1) 26 (sP x1) 27 (sA l3) 28 (sA l6) 29 (sV (.tuple ⟨[(.agg ⟨l11⟩),(.int .i64 i12)]⟩)) 25 (sV (.tuple ⟨[(.agg ⟨l11⟩),(.int .i64 i12)]⟩)) 30 (sA l11) 31 (sI i12)) 5 (sR 5 0) 6 (sI i12)) (w2 V0 5 (62,[.int .i64 0,.int .u8 0,.int .u8 0,.int .u8 0,.int .u8 0,.int .i64 0,.int .u8 0,.int .u8 0,.int .u8 0,.int .u8 0,.int .i64 0,.int .i64 0,.string ⟨#[]⟩]) 5 (62,(splice [.int .i64 0,.int .u8 0,.int .u8 0,.int .u8 0,.int .u8 0,.int .i64 0,.int .u8 0,.int .u8 0,.int .u8 0,.int .u8 0,.int .i64 0,.int .i64 0,.string ⟨#[]⟩] 0 l11))) h8) else False) else False) else False):= by kernel_rfl
theorem F31_r6 (h:E=upd (w4 e 6 (sI x6) 5 (sR 5 0) 4 (sI x4) 3 (sI x3)) 1 (sP x1)):R31 191 26 E (upd V0 5 (62,k5)) hp K=
 ite2 (x3==0) (ite2 (x4==5) (ite2 (x6==0) (ldV (k5)[12]? fun v1=>strV v1 fun s2=>ite2 ((ByteArray.toList s2)==(ByteArray.toList (⟨#[120]⟩:ByteArray))) (ldV (k5)[0]? fun v3=>intV v3 .i64 fun i4=>ite2 (i4==1) (CF Tryd.prog 38 [(.pointer x1)] hp fun u5 h6=>intV u5 .i64 fun i7=>K (w2 (w8 (w8 (w8 E 32 (sI x3) 33 (sB ((x3==0))) 34 (sB true) 35 (sI x4) 36 (sB ((x4==5))) 37 (sB ((x4==5))) 38 (sB true) 39 (sI x6)) 40 (sB ((x6==0))) 41 (sB ((x6==0))) 42 (sB true) 43 (sR 5 12) 44 (sT s2) 45 (sB (((ByteArray.toList s2)==(ByteArray.toList (⟨#[120]⟩:ByteArray))))) 46 (sB (((ByteArray.toList s2)==(ByteArray.toList (⟨#[120]⟩:ByteArray))))) 47 (sB true)) 48 (sR 5 0) 49 (sI i4) 50 (sB ((i4==1))) 51 (sB ((i4==1))) 52 (sB true) 53 (sP x1) 54 (sI i7) 55 (sB ((i7==0)))) 56 (sB ((i7==0))) 0 (sB ((i7==0)))) (upd V0 5 (62,k5)) h6) (K (w2 (w8 (w8 (w8 E 32 (sI x3) 33 (sB ((x3==0))) 34 (sB true) 35 (sI x4) 36 (sB ((x4==5))) 37 (sB ((x4==5))) 38 (sB true) 39 (sI x6)) 40 (sB ((x6==0))) 41 (sB ((x6==0))) 42 (sB true) 43 (sR 5 12) 44 (sT s2) 45 (sB (((ByteArray.toList s2)==(ByteArray.toList (⟨#[120]⟩:ByteArray))))) 46 (sB (((ByteArray.toList s2)==(ByteArray.toList (⟨#[120]⟩:ByteArray))))) 47 (sB true)) 48 (sR 5 0) 49 (sI i4) 50 (sB ((i4==1))) 51 (sB ((i4==1))) 52 (sB false) 53 sU 54 sU 55 sU) 56 (sB false) 0 (sB false)) (upd V0 5 (62,k5)) hp)) (K (w2 (w8 (w8 (w8 E 32 (sI x3) 33 (sB ((x3==0))) 34 (sB true) 35 (sI x4) 36 (sB ((x4==5))) 37 (sB ((x4==5))) 38 (sB true) 39 (sI x6)) 40 (sB ((x6==0))) 41 (sB ((x6==0))) 42 (sB true) 43 (sR 5 12) 44 (sT s2) 45 (sB (((ByteArray.toList s2)==(ByteArray.toList (⟨#[120]⟩:ByteArray))))) 46 (sB (((ByteArray.toList s2)==(ByteArray.toList (⟨#[120]⟩:ByteArray))))) 47 (sB false)) 48 sU 49 sU 50 sU 51 (sB false) 52 (sB false) 53 sU 54 sU 55 sU) 56 (sB false) 0 (sB false)) (upd V0 5 (62,k5)) hp)) (K (w2 (w8 (w8 (w8 E 32 (sI x3) 33 (sB ((x3==0))) 34 (sB true) 35 (sI x4) 36 (sB ((x4==5))) 37 (sB ((x4==5))) 38 (sB true) 39 (sI x6)) 40 (sB ((x6==0))) 41 (sB ((x6==0))) 42 (sB false) 43 sU 44 sU 45 sU 46 (sB false) 47 (sB false)) 48 sU 49 sU 50 sU 51 (sB false) 52 (sB false) 53 sU 54 sU 55 sU) 56 (sB false) 0 (sB false)) (upd V0 5 (62,k5)) hp)) (K (w2 (w8 (w8 (w8 E 32 (sI x3) 33 (sB ((x3==0))) 34 (sB true) 35 (sI x4) 36 (sB ((x4==5))) 37 (sB ((x4==5))) 38 (sB false) 39 sU) 40 sU 41 (sB false) 42 (sB false) 43 sU 44 sU 45 sU 46 (sB false) 47 (sB false)) 48 sU 49 sU 50 sU 51 (sB false) 52 (sB false) 53 sU 54 sU 55 sU) 56 (sB false) 0 (sB false)) (upd V0 5 (62,k5)) hp)) (K (w2 (w8 (w8 (w8 E 32 (sI x3) 33 (sB ((x3==0))) 34 (sB false) 35 sU 36 sU 37 (sB false) 38 (sB false) 39 sU) 40 sU 41 (sB false) 42 (sB false) 43 sU 44 sU 45 sU 46 (sB false) 47 (sB false)) 48 sU 49 sU 50 sU 51 (sB false) 52 (sB false) 53 sU 54 sU 55 sU) 56 (sB false) 0 (sB false)) (upd V0 5 (62,k5)) hp):= by subst h; kernel_rfl
def F31_j1 (x1:OA) (x16:Bool) (hp:HP) (K:Kh):Prop:=
  (ite2 x16 (K (.bool false) hp) (CF Tryd.prog 34 [(.int .u8 1),(.int .i64 80)] hp fun u7 h8=>aggV u7 fun l9=>CF Tryd.prog 34 [(.int .u8 2),(.int .i64 9)] h8 fun u10 h11=>aggV u10 fun l12=>CF Tryd.prog 33 [(.pointer x1),(.agg ⟨l9⟩),(.agg ⟨l12⟩),(.int .i64 5),(.string (⟨#[120]⟩:ByteArray))] h11 fun u13 h14=>intV u13 .i64 fun i15=>CF Tryd.prog 34 [(.int .u8 1),(.int .i64 80)] h14 fun u16 h17=>aggV u16 fun l18=>CF Tryd.prog 34 [(.int .u8 2),(.int .i64 9)] h17 fun u19 h20=>aggV u19 fun l21=>CF Tryd.prog 33 [(.pointer x1),(.agg ⟨l18⟩),(.agg ⟨l21⟩),(.int .i64 7),(.string (⟨#[121]⟩:ByteArray))] h20 fun u22 h23=>intV u22 .i64 fun i24=>CF Tryd.prog 34 [(.int .u8 1),(.int .i64 80)] h23 fun u25 h26=>aggV u25 fun l27=>CF Tryd.prog 34 [(.int .u8 2),(.int .i64 9)] h26 fun u28 h29=>aggV u28 fun l30=>CF Tryd.prog 35 [(.pointer x1),(.agg ⟨l27⟩),(.agg ⟨l30⟩)] h29 fun u31 h32=>tup2V u31 fun u33 u34=>aggV u33 fun l35=>intV u34 .i64 fun i36=>if List.length l35=13 then (if List.all l35 one=true then (if 0+List.length l35≤List.length [(Value.int .i64 0),.int .u8 0,.int .u8 0,.int .u8 0,.int .u8 0,.int .i64 0,.int .u8 0,.int .u8 0,.int .u8 0,.int .u8 0,.int .i64 0,.int .i64 0,.string ⟨#[]⟩] then (ite2 (i15==0) (ite2 (i24==5) (ite2 (i36==0) (ldV ((splice [.int .i64 0,.int .u8 0,.int .u8 0,.int .u8 0,.int .u8 0,.int .i64 0,.int .u8 0,.int .u8 0,.int .u8 0,.int .u8 0,.int .i64 0,.int .i64 0,.string ⟨#[]⟩] 0 l35))[12]? fun v37=>strV v37 fun s38=>ite2 ((ByteArray.toList s38)==(ByteArray.toList (⟨#[120]⟩:ByteArray))) (ldV ((splice [.int .i64 0,.int .u8 0,.int .u8 0,.int .u8 0,.int .u8 0,.int .i64 0,.int .u8 0,.int .u8 0,.int .u8 0,.int .u8 0,.int .i64 0,.int .i64 0,.string ⟨#[]⟩] 0 l35))[0]? fun v39=>intV v39 .i64 fun i40=>ite2 (i40==1) (CF Tryd.prog 38 [(.pointer x1)] h32 fun u41 h42=>intV u41 .i64 fun i43=>K (.bool (i43==0)) h42) (K (.bool false) h32)) (K (.bool false) h32)) (K (.bool false) h32)) (K (.bool false) h32)) (K (.bool false) h32)) else False) else False) else False))
theorem F31_r7 (h:E=upd (upd e 2 (sI x2)) 1 (sP x1)):R31 19 6 E V0 hp K=
 ite2 (x2 != 0) (K (w6 E 11 (sI x2) 12 (sB ((x2 != 0))) 13 (sB true) 14 sU 15 sU 16 (sB true)) V0 hp) (K (w6 E 11 (sI x2) 12 (sB ((x2 != 0))) 13 (sB false) 14 (sP x1) 15 (sB ((Option.isNone x1))) 16 (sB ((Option.isNone x1)))) V0 hp):= by subst h; kernel_rfl
def F31 (hp:HP) (K:Kh):Prop:=
  (CF Tryd.prog 32 [(.int .i64 3)] hp fun u1 h2=>tup2V u1 fun u3 u4=>ptrV u3 fun p5=>intV u4 .i64 fun i6=>ite2 (i6 != 0) (F31_j1 p5 true h2  K) (F31_j1 p5 (Option.isNone p5) h2  K))
noncomputable abbrev o31 (k n:Nat):Code:=.region k (opsAt Tryd.f31 (pth n)) false
noncomputable def F31_code:Code:=(.seq (o31 0 2) (.seq (o31 1 5) (.seq (.seq (o31 2 19) (.cond (.tmp 16) (.seq (o31 3 75) .ret) .skip)) (.seq (o31 4 23) (.seq (o31 5 47) (.seq (o31 6 95) (.seq (o31 7 191) .ret)))))))
theorem F31_body:Tryd.f31.body=some F31_code:=by kernel_rfl
theorem F31_ok (hp:HP) (K:Kh) (h:F31  hp K):CF Tryd.prog 31 [] hp K:=by
 refine .inl ⟨by kernel_rfl,AC.intro (N:=57) Tryd.func31 F31_body rfl (Nat.le_of_ble_eq_true rfl) ?_⟩
 unfold F31 at h
 refine Ar F31_r0 ?_ Rn Sn Sn
 refine Ar F31_r1 ?_ Rn Sn Sn
 refine mC h fun u1 h2 h=>mT h fun u3 u4 h=>mP h fun p5 h=>mI h fun i6 h=>?_
 refine Aq (As (fun env pv hp=>∃ x1 x16,Sub (w2 E0 16 (sB x16) 1 (sP x1)) env∧Sub V0 pv∧F31_j1 x1 x16 hp  K) ?_ ?_)
 ·refine Ag (F31_r7 rfl) ?_ (r2 1 2 Rn) (z2 Sn) Sn
  refine mt h (fun h=>?_) (fun h=>?_)
  ·exact ⟨_,_,(z2 Sn),Sn,h⟩
  ·exact ⟨_,_,(z2 Sn),Sn,h⟩
 ·rintro env pv hp ⟨x1,x16,he,hv,h⟩
  refine Ae ?_ (r2 1 16 Rn) he hv
  unfold F31_j1 at h
  refine Ac h rfl (fun h=>?_) (fun h=>?_)
  ·refine Ar F31_r2 ?_ Rn Sn Sn
   refine AWP.ret ?_
   exact h
  ·refine AWP.skip (Ar F31_r3 ?_ (r1 1 Rn) (z1 Sn) Sn)
   refine mC h fun u7 h8 h=>mA h fun l9 h=>mC h fun u10 h11 h=>mA h fun l12 h=>mC h fun u13 h14 h=>mI h fun i15 h=>?_
   refine Ar F31_r4 ?_ (r2 1 3 Rn) (z2 Sn) Sn
   refine mC h fun u16 h17 h=>mA h fun l18 h=>mC h fun u19 h20 h=>mA h fun l21 h=>mC h fun u22 h23 h=>mI h fun i24 h=>?_
   refine Ar F31_r5 ?_ (r3 1 3 4 Rn) (z3 Sn) Sn
   refine mC h fun u25 h26 h=>mA h fun l27 h=>mC h fun u28 h29 h=>mA h fun l30 h=>mC h fun u31 h32 h=>mT h fun u33 u34 h=>mA h fun l35 h=>mI h fun i36 h=>mf h fun h=>mf h fun h=>mf h fun h=>?_
   refine Ar (F31_r6 rfl) ?_ (r3 1 3 4 (rp 5 5 0 (r1 6 Rn))) (z5 Sn) (z1 Sn)
   refine mt h (fun h=>?_) (fun h=>?_)
   ·refine mt h (fun h=>?_) (fun h=>?_)
    ·refine mt h (fun h=>?_) (fun h=>?_)
     ·refine mV h fun v37 h=>ms h fun s38 h=>?_
      refine mt h (fun h=>?_) (fun h=>?_)
      ·refine mV h fun v39 h=>mI h fun i40 h=>?_
       refine mt h (fun h=>?_) (fun h=>?_)
       ·refine mC h fun u41 h42 h=>mI h fun i43 h=>?_
        refine AWP.ret ?_
        exact h
       ·refine AWP.ret ?_
        exact h
      ·refine AWP.ret ?_
       exact h
     ·refine AWP.ret ?_
      exact h
    ·refine AWP.ret ?_
     exact h
   ·refine AWP.ret ?_
    exact h
end
end Go.Proofs
set_option linter.unusedVariables false
set_option linter.unusedSimpArgs false
set_option maxRecDepth 20000
namespace Go.Proofs
open Go Go.HL
open Go.Exp (Th tlt Ord setW dropW insW)
section
variable {tb:Obj} {hp:HP} {ps:Nat→HP} {s mx last:Nat} {L:List Sy} {w:List Th} {K:Value→HP→Prop}
theorem ppn (c:Option Addr→Prop):ptrV (.pointer none) c=c none:=rfl
theorem syc_text (x:Sy):(syc x)[12]?=some (.string x.text):=rfl
theorem syc_due (x:Sy):(syc x)[11]?=some (.int .i64 x.due):=rfl
theorem TabR.set_other {tb:Obj} {hp:HP} (h:TabR tb hp) {b:Nat} (hb:b≠0) (e:Ent):TabR tb (hp.set b e):=⟨by rw [HP.set_ne _ _ (fun e'=>hb e'.symm)]; exact h.1,h.2⟩
theorem C32 {m:Int} {hq:HP} (ht:TabR tb hq) (hbad:(m<1∨m > 65536)→K (.tuple ⟨[.pointer none,.int .i64 1]⟩) hq)
    (hok:¬ (m<1∨m > 65536)→∀ s hq',SyW tb hq' s m.toNat 0 [] []→K (.tuple ⟨[ptr s 0,.int .i64 0]⟩) hq'):CF Tryd.prog 32 [.int .i64 m] hq K:=by
  refine F32_ok m hq K ?_
  unfold F32
  refine N66 (Parts.one (HSub.refl hq)) 1 (fun b=>by rw [pu_ne _ _ (by omega)]) (fun hm=>?_) (fun hm x l hp1 hl P1 hs1=>?_)
  · simp only [tup2V_mk,ppn,intV_int]
    show ite2 true _ _
    rw [ite2_true]
    exact hbad hm
  · simp only [tup2V_mk,pp,intV_int]
    show ite2 false _ _
    rw [ite2_false]
    intro b hb
    have P2:=P1.new 0 hb (.obj (.map #[] 0))
    refine N82 P2 2 (fun b'=>by rw [pu_ne _ _ (by omega),pu_ne _ _ (by omega),pu_ne _ _ (by omega)]) fun q lq hp2 hlq P3 hs2=>?_
    rw [pp]
    intro s hs
    have P4:=P3.new 0 hs (.cells 145 [.int .i64 m,.int .i64 0,.map (some b),.pointer (some ⟨x,0,none⟩),.pointer (some ⟨q,0,none⟩)] 0)
    have hsb:s≠b:=fun e=>by
      have h1:=(hs2.obj (b:=b) (HP.set_eq ..))
      rw [← e,hs] at h1; cases h1
    have h0:TabR tb ((pu (fun _ _=>.none) 0 hq) 0):=by rw [pu_eq]; exact ht
    have hb0:b≠0:=fun e=>by
      have:=(P1.sub 0).obj (b:=0) (by rw [pu_ne _ _ (by omega),pu_eq]; exact ht.1)
      rw [e,this] at hb; cases hb
    have hs0:s≠0:=fun e=>by
      have h1:=(P1.sub 0).obj (b:=0) (by rw [pu_ne _ _ (by omega),pu_eq]; exact ht.1)
      have h2:=hs2.obj (b:=0) (o:=tb) (by rw [HP.set_ne _ _ (fun e=>hb0 e.symm)]; exact h1)
      rw [e,h2] at hs; cases hs
    obtain ⟨n,rfl⟩:∃ n:Nat,m=n:=⟨m.toNat,by omega⟩
    refine hok hm s _ ⟨_,b,x,q,P4,?_,?_,?_,?_,?_,QOk.nil,InvS.nil (by omega)⟩
    · rw [pu_eq,HP.set_eq]; rfl
    · rw [pu_eq,HP.set_ne _ _ hsb.symm,pu_ne _ _ (by omega),pu_eq,HP.set_eq]; exact MapE.empty _ _
    · rw [pu_eq,pu_ne _ _ (by omega),pu_eq,pu_ne _ _ (by omega),pu_eq]
      exact (ht.set_other hb0 _).set_other hs0 _
    · rw [pu_ne _ _ (by omega),pu_ne _ _ (by omega),pu_ne _ _ (by omega),pu_eq]; exact hl
    · rw [pu_ne _ _ (by omega),pu_eq]; exact hlq
theorem N32ok {m:Int} (hP:Parts hp ps) (i:Nat) (ht:TabR tb (ps i)) (hm:1≤m∧m≤65536)
    (hK:∀ s l hp',SyW tb l s m.toNat 0 [] []→Parts hp' (pu ps i l)→K (.tuple ⟨[ptr s 0,.int .i64 0]⟩) hp'):CF Tryd.prog 32 [.int .i64 m] hp K:=by
  refine CF.part hP i (C32 (K:=fun u l=>∃ s,u=.tuple ⟨[ptr s 0,.int .i64 0]⟩∧SyW tb l s m.toNat 0 [] []) ht (fun hb=>absurd hb (by omega)) fun _ s l hl=>⟨s,rfl,hl⟩) ?_
  rintro u l hp' ⟨s,rfl,hl⟩ hP'
  exact hK s l hp' hl hP'
theorem N33no {o p:Q × Int} {due:Int} {text:ByteArray} {e:Int} (h:SyW tb hp s mx last L w) (ho:okT o) (hp':okT p) (hlast:last<500000) (he:putE mx o p due text L=e) (hne:e≠0)
    (hK:K (.int .i64 e) hp):CF Tryd.prog 33 [ptr s 0,.agg ⟨t4 o⟩,.agg ⟨t4 p⟩,.int .i64 due,.string text] hp K:=
  C33 h ho hp' hlast (fun e' he' _=>by rw [he] at he'; rw [← he']; exact hK) fun h0=>absurd (he.symm.trans h0) hne
theorem N33yes {o p:Q × Int} {due:Int} {text:ByteArray} (hP:Parts hp ps) (i:Nat) (h:SyW tb (ps i) s mx last L w) (ho:okT o) (hp':okT p) (hlast:last<500000) (he:putE mx o p due text L=0)
    (hK:∀ l hp',SyW tb l s mx (last+1) (L++[⟨(last+1:Nat),o,p,due,text⟩]) (setW (last+1:Nat) due w)→Parts hp' (pu ps i l)→K (.int .i64 0) hp'):CF Tryd.prog 33 [ptr s 0,.agg ⟨t4 o⟩,.agg ⟨t4 p⟩,.int .i64 due,.string text] hp K:=by
  refine CF.part hP i (C33 (K:=fun u l=>u=.int .i64 0∧SyW tb l s mx (last+1) (L++[⟨(last+1:Nat),o,p,due,text⟩]) (setW (last+1:Nat) due w)) h ho hp' hlast (fun e h1 h2=>absurd (h1.symm.trans he) h2) fun _ l hl=>⟨rfl,hl⟩) ?_
  rintro u l hp'' ⟨rfl,hl⟩ hP'
  exact hK l hp'' hl hP'
theorem N35no {o p:Q × Int} (h:SyW tb hp s mx last L w) (ho:okT o) (hp':okT p) (hf:findS o p L=none) (hK:K (.tuple ⟨[.agg ⟨syc sy0⟩,.int .i64 4]⟩) hp):CF Tryd.prog 35 [ptr s 0,.agg ⟨t4 o⟩,.agg ⟨t4 p⟩] hp K:=
  C35 h ho hp' (fun _=>hK) fun y hy=>by rw [hf] at hy; cases hy
theorem N35yes {o p:Q × Int} {y:Sy} (hP:Parts hp ps) (i:Nat) (h:SyW tb (ps i) s mx last L w) (ho:okT o) (hp':okT p) (hf:findS o p L=some y)
    (hK:∀ l hp',SyW tb l s mx last (L.filter fun z=>decide (z.id≠y.id)) (dropW y.id w)→Parts hp' (pu ps i l)→K (.tuple ⟨[.agg ⟨syc y⟩,.int .i64 0]⟩) hp'):CF Tryd.prog 35 [ptr s 0,.agg ⟨t4 o⟩,.agg ⟨t4 p⟩] hp K:=by
  refine CF.part hP i (C35 (K:=fun u l=>u=.tuple ⟨[.agg ⟨syc y⟩,.int .i64 0]⟩∧SyW tb l s mx last (L.filter fun z=>decide (z.id≠y.id)) (dropW y.id w)) h ho hp' (fun hn=>by rw [hf] at hn; cases hn) fun z hz l hl=>?_) ?_
  · rw [hf] at hz; cases hz; exact ⟨rfl,hl⟩
  rintro u l hp'' ⟨rfl,hl⟩ hP'
  exact hK l hp'' hl hP'
theorem N37 {now:Int} {j:Nat} (hP:Parts hp ps) (i:Nat) (hij:j≠i) (hj:∀ b,ps j b=.none) (h:SyW tb (ps i) s mx last L w)
    (hK:∀ l r hp' a c w',SyW tb l s mx last (restL Sy.due now L) w'→Row r a (popsL Sy.id now L w).length c 62 13 ((popsL Sy.id now L w).flatMap syc)→Parts hp' (pu (pu ps i l) j r)→K (.slice a (popsL Sy.id now L w).length c) hp') :
    CF Tryd.prog 37 [ptr s 0,.int .i64 now] hp K:=by
  refine CF.part hP i (C37 (K:=fun u q=>∃ qs a c w',u=.slice a (popsL Sy.id now L w).length c∧Parts q qs∧SyW tb (qs 0) s mx last (restL Sy.due now L) w'∧Row (qs 1) a (popsL Sy.id now L w).length c 62 13 ((popsL Sy.id now L w).flatMap syc)) h
    fun qs hq' a c w' h1 h2 h3 _=>⟨qs,a,c,w',rfl,h1,h2,h3⟩) ?_
  rintro u q hp'' ⟨qs,a,c,w',rfl,h1,h2,h3⟩ hP'
  refine hK (qs 0) (qs 1) hp'' a c w' h2 h3 ?_
  have:=hP'.split (i:=i) (j:=j) hij (fun b=>by rw [pu_ne _ _ hij]; exact hj b) (l:=qs 0) (r:=qs 1) (by rw [pu_eq]; exact h1.sub 0) (by rw [pu_eq]; exact h1.sub 1) (h1.dis 0 1 (by omega))
  have e:pu (pu (pu ps i q) i (qs 0)) j (qs 1)=pu (pu ps i (qs 0)) j (qs 1):=by
    funext k
    by_cases h1:k=j
    · subst h1; rw [pu_eq,pu_eq]
    · rw [pu_ne _ _ h1,pu_ne _ _ h1]
      by_cases h2:k=i
      · subst h2; rw [pu_eq,pu_eq]
      · rw [pu_ne _ _ h2,pu_ne _ _ h2,pu_ne _ _ h2]
  rw [e] at this
  exact this
/-- What is known, but for the table; the table. -/
def startP (hp:HP) (tb:Obj):Nat→HP:=pu (pu (fun _ _=>.none) 1 (HP.onlyF 0 (.obj tb))) 0 (hp.set 0 .none)
theorem startP_ok (ht:TabR tb hp):Parts hp (startP hp tb):=by
  refine Parts.of_two ?_ (HSub.onlyF ht.1) fun x=>?_
  · intro x
    by_cases hx:x=0
    · subst hx; exact .inl (HP.set_eq ..)
    · exact .inr (HP.set_ne _ _ hx)
  · by_cases hx:x=0
    · subst hx; exact .inl (HP.set_eq ..)
    · exact .inr (HP.onlyF_ne _ hx)
theorem startP_0:startP hp tb 0=hp.set 0 .none:=pu_eq ..
theorem startP_1 (ht:TabR tb hp):TabR tb (startP hp tb 1):=⟨by unfold startP; rw [pu_ne _ _ (by omega),pu_eq]; exact HP.onlyF_eq ..,ht.2⟩
theorem finish {hp':HP} (ht:TabR tb hp) (hP:Parts hp' ps) (h0:ps 0=hp.set 0 .none) (ht':TabR tb hp'):HSub hp hp':=fun x=>by
  by_cases hx:x=0
  · subst hx; right; rw [ht.1,ht'.1]
  · have:=hP.sub 0 x
    rw [h0,HP.set_ne _ _ hx] at this
    exact this
def ta (a port:Int):Q × Int:=((1,0,0,a),port)
theorem ta_ok {a port:Int} (ha:okB a) (hz:okZ port):okT (ta a port):=⟨⟨(by decide:(0:Int)≤1∧(1:Int)≤255),(by decide:(0:Int)≤0∧(0:Int)≤255),(by decide:(0:Int)≤0∧(0:Int)≤255),ha⟩,hz⟩
theorem C34 {a port:Int} (h:K (.agg ⟨t4 (ta a port)⟩) hp):CF Tryd.prog 34 [.int .u8 a,.int .i64 port] hp K:=by
  refine F34_ok a port hp K ?_
  unfold F34
  refine ifI rfl (ifI rfl (ifI rfl (ifI (by simp [splice]) ?_)))
  exact h
theorem okBc {n:Int} (h:decide (0≤n∧n≤255)=true):okB n:=@of_decide_eq_true (0≤n∧n≤255) _ h
theorem okZc {n:Int} (h:decide (-9223372036854775808≤n∧n≤9223372036854775807)=true):okZ n:=@of_decide_eq_true (-9223372036854775808≤n∧n≤9223372036854775807) _ h
theorem C31 (ht:TabR tb hp) (hK:∀ hp',HSub hp hp'→K (.bool true) hp'):CF Tryd.prog 31 [] hp K:=by
  refine F31_ok hp K ?_
  unfold F31
  refine N32ok (startP_ok ht) 1 (startP_1 ht) (by decide) fun s l hp1 h1 P1=>?_
  simp only [tup2V_mk,pp,intV_int]
  show ite2 false _ _
  rw [ite2_false]
  unfold F31_j1
  show ite2 false _ _
  rw [ite2_false]
  have o1:okT (ta 1 80):=ta_ok (okBc rfl) (okZc rfl)
  have o2:okT (ta 2 9):=ta_ok (okBc rfl) (okZc rfl)
  refine C34 ?_
  rw [aggV_agg]
  refine C34 ?_
  rw [aggV_agg]
  refine N33yes P1 1 (by rw [pu_eq]; exact h1) o1 o2 (by decide) rfl fun l2 hp2 h2 P2=>?_
  rw [intV_int]
  refine C34 ?_
  rw [aggV_agg]
  refine C34 ?_
  rw [aggV_agg]
  refine N33no (e:=5) (h2.sub (by have:=P2.sub 1; rw [pu_eq] at this; exact this)) o1 o2 (by decide) rfl (by decide) ?_
  rw [intV_int]
  refine C34 ?_
  rw [aggV_agg]
  refine C34 ?_
  rw [aggV_agg]
  refine N35yes (y:=⟨1,ta 1 80,ta 2 9,5,⟨#[120]⟩⟩) P2 1 (by rw [pu_eq]; exact h2) o1 o2 rfl fun l3 hp3 h3 P3=>?_
  simp only [tup2V_mk,aggV_agg,intV_int,syz]
  refine ifI rfl (ifI rfl (ifI (by simp [syc_len]) ?_))
  rw [syc_splice]
  simp only [show ((0:Int)==0)=true from rfl,show ((5:Int)==5)=true from rfl,show ((1:Int)==1)=true from rfl,ite2_true,syc_text,syc_id,ldV_some,strV_string,intV_int,str_eq,decide_true]
  have h3':=h3.sub (by have:=P3.sub 1; rw [pu_eq] at this; exact this)
  refine C38 h3' ?_
  rw [intV_int]
  refine hK hp3 (finish ht P3 ?_ h3'.tab)
  rw [pu_ne _ _ (by omega),pu_ne _ _ (by omega),pu_ne _ _ (by omega),startP_0]
end
end Go.Proofs
set_option linter.unusedVariables false
set_option maxRecDepth 20000
namespace Go.Proofs
open Go Go.HL
theorem syc_inj {x y:Sy}:syc x=syc y↔x=y:=by
  constructor
  · intro h
    obtain ⟨i,⟨⟨a1,a2,a3,a4⟩,a5⟩,⟨⟨b1,b2,b3,b4⟩,b5⟩,d,t⟩:=x
    obtain ⟨i',⟨⟨a1',a2',a3',a4'⟩,a5'⟩,⟨⟨b1',b2',b3',b4'⟩,b5'⟩,d',t'⟩:=y
    simp only [syc,t4,List.cons_append,List.nil_append,List.cons.injEq,Value.int.injEq,Value.string.injEq,true_and,and_true] at h
    obtain ⟨rfl,rfl,rfl,rfl,rfl,rfl,rfl,rfl,rfl,rfl,rfl,rfl,rfl⟩:=h
    rfl
  · rintro rfl; rfl
theorem syc_shaped (x:Sy):shaped Tryd.prog 4 62 (syc x)=true:=by kernel_rfl
theorem eq62 {x y:Sy} {c:Bool→Prop} (h:c (decide (x=y))):eqAgg Tryd.prog 62 (syc x) (syc y) c:=
  eqAgg_of (m:=4) (D:=4) (by kernel_rfl) (syc_shaped x) (syc_shaped y) (by simp [syc_inj]) h
end Go.Proofs
set_option linter.unusedVariables false
set_option maxRecDepth 20000
namespace Go.Proofs
open Go Go.HL
section
variable {f:FuncId} {ga gb:List Value} {hp0:HP} {b sp n c:Nat} {cf:Sy→Sy→Int}
end
end Go.Proofs
set_option linter.unusedVariables false
set_option maxRecDepth 20000
namespace Go.Proofs
open Go Go.HL
section
variable {f:FuncId} {ga gb:List Value} {hp0:HP} {b sp n c:Nat} {cf:Sy→Sy→Int}
end
end Go.Proofs
set_option linter.unusedVariables false
set_option maxRecDepth 20000
namespace Go.Proofs
open Go Go.HL
section
variable {f:FuncId} {ga gb:List Value} {hp0:HP} {b sp n c:Nat} {cf:Sy→Sy→Int}
end
end Go.Proofs
set_option linter.unusedVariables false
set_option maxRecDepth 20000
namespace Go.Proofs
open Go Go.HL
section
variable {f:FuncId} {ga gb:List Value} {hp0:HP} {b sp n c:Nat} {cf:Sy→Sy→Int}
end
end Go.Proofs
set_option linter.unusedVariables false
set_option maxRecDepth 20000
namespace Go.Proofs
open Go Go.HL
end Go.Proofs
set_option linter.unusedVariables false
set_option maxRecDepth 20000
namespace Go.Proofs
open Go Go.HL
section
variable {f:FuncId} {ga gb:List Value} {hp0:HP} {b sp n c:Nat} {cf:Sy→Sy→Int}
end
end Go.Proofs
set_option linter.unusedVariables false
set_option maxRecDepth 20000
namespace Go.Proofs
open Go Go.HL
section
variable {f:FuncId} {ga gb:List Value} {hp0:HP} {b sp n c:Nat} {cf:Sy→Sy→Int}
end
end Go.Proofs
