/- Parts of the proof of SynsPlaysProof: the logic of what is known of memory, functions' contracts. -/
import Derived.Test.YtpkhoemonibajaaDoorQSynsPlaysProofC
import Derived.Test.YtpkhoemonibajaaDoorHlUse2
import Derived.Sort.LotD1
import Derived.Test.YtpkhoemonibajaaDoorHlAbb
import Derived.Test.YtpkhoemonibajaaDoorProg
import Derived.Sort.LotD3
import Derived.Sort.LotA
set_option linter.unusedVariables false
set_option linter.unusedSimpArgs false
set_option linter.unusedVariables false
set_option maxRecDepth 20000
namespace Go.Proofs
open Go Go.HL
def lenTab:ByteArray:=⟨#[0,1,2,2,3,3,3,3,4,4,4,4,4,4,4,4,5,5,5,5,5,5,5,5,5,5,5,5,5,5,5,5,6,6,6,6,6,6,6,6,6,6,6,6,6,6,6,6,6,6,6,6,6,6,6,6,6,6,6,6,6,6,6,6,7,7,7,7,7,7,7,7,7,7,7,7,7,7,7,7,7,7,7,7,7,7,7,7,7,7,7,7,7,7,7,7,7,7,7,7,7,7,7,7,7,7,7,7,7,7,7,7,7,7,7,7,7,7,7,7,7,7,7,7,7,7,7,7,8,8,8,8,8,8,8,8,8,8,8,8,8,8,8,8,8,8,8,8,8,8,8,8,8,8,8,8,8,8,8,8,8,8,8,8,8,8,8,8,8,8,8,8,8,8,8,8,8,8,8,8,8,8,8,8,8,8,8,8,8,8,8,8,8,8,8,8,8,8,8,8,8,8,8,8,8,8,8,8,8,8,8,8,8,8,8,8,8,8,8,8,8,8,8,8,8,8,8,8,8,8,8,8,8,8,8,8,8,8,8,8,8,8,8,8,8,8,8,8,8,8,8,8,8,8,8,8]⟩
theorem len_tab:∀ y:Fin 256,bt lenTab (y.val:Int)=(Sort.bitsLen y.val:Nat):=by decide +kernel
theorem lenTab_size:lenTab.size=256:=by kernel_rfl
theorem C148 {n:Nat} {hp:HP} {K:Value→HP→Prop} (hn:n≤65535) (h:∀ L:Nat,L≤16→n<2 ^ L→(0<n→2 ^ L≤2*n)→K (.int .i64 L) hp):CF Tryd.prog 148 [.int .u64 n] hp K:=by
  refine F148_ok n hp K ?_
  have tail:∀ (y o:Nat),y<256→o≤8→n<2 ^ (o+Sort.bitsLen y)→(0<n→2 ^ (o+Sort.bitsLen y)≤2*n)→F148_j3 y o hp K:=by
    intro y o hy ho h1 h2
    unfold F148_j3
    change (0≤(IntKind.wrap .u8 (y:Int)))∧((IntKind.wrap .u8 (y:Int))<(ByteArray.size lenTab:Nat))∧K (Value.int .i64 (IntKind.wrap .i64 ((o:Int)+IntKind.wrap .i64 (bt lenTab (IntKind.wrap .u8 (y:Int)))))) hp
    rw [wu8 (by omega) (by omega),lenTab_size]
    have:=len_tab ⟨y,hy⟩
    simp only at this
    rw [this]
    have hb:Sort.bitsLen y≤8:=(Sort.bitsLen_le_iff y 8).2 (by omega)
    rw [w64 (n:=((Sort.bitsLen y:Nat):Int)) (by omega) (by omega),w64 (by omega) (by omega)]
    refine ⟨by omega,by omega,?_⟩
    have e:(o:Int)+(Sort.bitsLen y:Nat)=((o+Sort.bitsLen y:Nat):Int):=by omega
    rw [e]
    exact h _ (by omega) h1 h2
  unfold F148
  rw [decide_eq_false (by omega:¬ (n:Int)≥4294967296),ite2_false]
  unfold F148_j1
  rw [decide_eq_false (by omega:¬ (n:Int)≥65536),ite2_false]
  unfold F148_j2
  by_cases h8:n≥256
  · rw [decide_eq_true (by omega:(n:Int)≥256),ite2_true]
    refine ⟨by omega,?_⟩
    have e1:Int.fdiv (n:Int) (2 ^ (min (Int.toNat 8) (IntKind.bits .u64)))=((n / 256:Nat):Int):=by
      show Int.fdiv (n:Int) 256=_
      rw [Int.fdiv_eq_ediv_of_nonneg _ (by omega)]; omega
    have e2:IntKind.wrap .i64 ((0:Int)+8)=((8:Nat):Int):=by rw [w64 (by omega) (by omega)]; rfl
    rw [e1,e2]
    have ha:=Sort.lt_two_pow_bitsLen (n / 256)
    have hb:=Sort.two_pow_bitsLen_le (n:=n / 256) (by omega)
    have hp:2 ^ (8+Sort.bitsLen (n / 256))=256*2 ^ Sort.bitsLen (n / 256):=by rw [Nat.pow_add]
    refine tail _ 8 (by omega) (by omega) (by rw [hp]; omega) (fun _=>by rw [hp]; omega)
  · rw [decide_eq_false (by omega:¬ (n:Int)≥256),ite2_false]
    refine tail n 0 (by omega) (by omega) ?_ ?_
    · rw [Nat.zero_add]; exact Sort.lt_two_pow_bitsLen n
    · intro h0; rw [Nat.zero_add]; exact Sort.two_pow_bitsLen_le h0
theorem C128 {n:Nat} {hp:HP} {K:Value→HP→Prop} (hn:n≤65535) (h:∀ L:Nat,L≤16→n<2 ^ L→(0<n→2 ^ L≤2*n)→K (.int .i64 L) hp):CF Tryd.prog 128 [.int .u64 n] hp K:=by
  refine F128_ok n hp K ?_
  unfold F128
  refine C148 hn fun L h1 h2 h3=>?_
  rw [intV_int]
  exact h L h1 h2 h3
theorem C169 {n:Nat} {hp:HP} {K:Value→HP→Prop} (hn:n≤65535) (h:∀ L:Nat,L≤16→n<2 ^ L→(0<n→2 ^ L≤2*n)→K (.int .u64 ((2 ^ L:Nat):Int)) hp):CF Tryd.prog 169 [.int .i64 n] hp K:=by
  refine F169_ok n hp K ?_
  unfold F169
  rw [wu64 (by omega) (by omega)]
  refine C128 hn fun L h1 h2 h3=>?_
  rw [intV_int]
  refine ⟨by omega,?_⟩
  have e:min (Int.toNat (L:Int)) (IntKind.bits .u64)=L:=by
    show min (Int.toNat (L:Int)) 64=L
    rw [Int.toNat_natCast]; omega
  have hle:2 ^ L≤2 ^ 16:=Nat.pow_le_pow_right (by omega) h1
  rw [e]
  have e2:(1:Int)*2 ^ L=((2 ^ L:Nat):Int):=by rw [Int.one_mul]; simp
  rw [e2,wu64 (by omega) (by omega)]
  exact h L h1 h2 h3
theorem C170 {r:Nat} {y:Int} {hp:HP} {K:Value→HP→Prop} (hr:hp r=.cells 247 [.int .u64 y] 0) (h:∀ z:Int,K (.int .u64 z) (hp.set r (.cells 247 [.int .u64 z] 0))):CF Tryd.prog 170 [.pointer (some ⟨r,0,none⟩)] hp K:=by
  refine F170_ok _ hp K ?_
  unfold F170
  have hc:∀ o,hp.cell r o=[Value.int .u64 y][o]?:=fun o=>HP.cell_of hr
  simp only [ptrN_some,hc,List.getElem?_cons_zero,ldV_some,intV_int]
  refine ⟨by omega,?_⟩
  refine HP.st_at hr (by simp) ?_
  simp only [List.set_cons_zero]
  generalize bxor .u64 y _=y2
  have hr2:(hp.set r (.cells 247 [.int .u64 y2] 0)) r=.cells 247 [.int .u64 y2] 0:=HP.set_eq ..
  have hc2:∀ o,(hp.set r (.cells 247 [.int .u64 y2] 0)).cell r o=[Value.int .u64 y2][o]?:=fun o=>HP.cell_of hr2
  simp only [hc2,List.getElem?_cons_zero,ldV_some,intV_int]
  refine ⟨by omega,?_⟩
  refine HP.st_at hr2 (by simp) ?_
  simp only [List.set_cons_zero,HP.set_set]
  generalize bxor .u64 y2 _=y3
  have hr3:(hp.set r (.cells 247 [.int .u64 y3] 0)) r=.cells 247 [.int .u64 y3] 0:=HP.set_eq ..
  have hc3:∀ o,(hp.set r (.cells 247 [.int .u64 y3] 0)).cell r o=[Value.int .u64 y3][o]?:=fun o=>HP.cell_of hr3
  simp only [hc3,List.getElem?_cons_zero,ldV_some,intV_int]
  refine ⟨by omega,?_⟩
  refine HP.st_at hr3 (by simp) ?_
  simp only [List.set_cons_zero,HP.set_set]
  generalize bxor .u64 y3 _=y4
  have hr4:(hp.set r (.cells 247 [.int .u64 y4] 0)) r=.cells 247 [.int .u64 y4] 0:=HP.set_eq ..
  have hc4:∀ o,(hp.set r (.cells 247 [.int .u64 y4] 0)).cell r o=[Value.int .u64 y4][o]?:=fun o=>HP.cell_of hr4
  simp only [hc4,List.getElem?_cons_zero,ldV_some,intV_int]
  exact h y4
end Go.Proofs
set_option linter.unusedVariables false
set_option maxRecDepth 20000
namespace Go.Proofs
open Go Go.HL
section
variable {f:FuncId} {ga gb:List Value} {hp0:HP} {b sp n c:Nat} {cf:Sy→Sy→Int}
theorem S141 {v:Value} {d:Array Sy} {lo hi:Nat} {K:Value→HP→Prop} (hs:d.size=n) (hlo:lo≤hi) (hf:hi≤n) (hn:n≤65535)
    (h:∀ d',Sort.PermIn lo hi d d'→K (.tuple ⟨[]⟩) (HA hp0 b 62 sp syc d')) :
    CF Tryd.prog 141 [.slice (some ⟨b,0,none⟩) n c,.int .i64 lo,.int .i64 hi,v] (HA hp0 b 62 sp syc d) K:=by
  refine CF.drop (F141_ok _ n c lo hi _ _ _ ?_)
  unfold F141
  have w1:IntKind.wrap .i64 ((hi:Int)-(lo:Int))=((hi-lo:Nat):Int):=wi (by omega) (by omega)
  rw [w1]
  by_cases h8:hi-lo≥8
  · rw [decide_eq_true (by omega:((hi-lo:Nat):Int)≥8),ite2_true]
    intro r hr
    obtain ⟨hrb,hr0⟩:=HA.ne_of_none hr
    refine HP.st_at (HP.set_eq ..) (by simp) ?_
    simp only [List.set_cons_zero,HP.set_set]
    rw [HA.set_comm hrb]
    refine C169 (n:=hi-lo) (by omega) fun L hL1 hL2 hL3=>?_
    have hL4:=hL3 (by omega)
    have hL5:2 ^ L≤2 ^ 16:=Nat.pow_le_pow_right (by omega) hL1
    rw [intV_int]
    refine ⟨by omega,?_⟩
    have e4:Int.tdiv ((hi-lo:Nat):Int) 4=(((hi-lo) / 4:Nat):Int):=rfl
    generalize hm:hi-lo=m at *
    rw [e4]
    have v1:IntKind.wrap .i64 ((m / 4:Nat):Int)=((m / 4:Nat):Int):=wi rfl (by omega)
    have v2:IntKind.wrap .i64 (((m / 4:Nat):Int)*2)=((m / 4*2:Nat):Int):=wi (by omega) (by omega)
    have v3:IntKind.wrap .i64 ((lo:Int)+((m / 4*2:Nat):Int))=((lo+m / 4*2:Nat):Int):=wi (by omega) (by omega)
    have v4:IntKind.wrap .i64 (((lo+m / 4*2:Nat):Int)-1)=((lo+m / 4*2-1:Nat):Int):=wi (by omega) (by omega)
    have v5:IntKind.wrap .i64 (((lo+m / 4*2:Nat):Int)+1)=((lo+m / 4*2+1:Nat):Int):=wi (by omega) (by omega)
    rw [v1,v2,v3,v4]
    unfold F141_j1
    generalize hz0:IntKind.wrap .u64 (m:Int)=z0
    refine LoopP.by (J:=fun k (x:Int) hp=>∃ (i:Nat) (d':Array Sy) (z:Int),x=i∧hp=HA (hp0.set r (.cells 247 [.int .u64 z] 0)) b 62 sp syc d'∧Sort.PermIn lo hi d d'∧lo≤i∧k=lo+m / 4*2+2-i) ?_
      (n:=lo+m / 4*2+2-(lo+m / 4*2-1)) ⟨lo+m / 4*2-1,d,z0,rfl,rfl,Sort.permIn_refl d lo hi,by omega,rfl⟩
    rintro I k x hp ⟨i,d',z,rfl,rfl,hpm,hli,rfl⟩ hI
    unfold F141_l2
    refine ⟨by omega,?_⟩
    rw [e4,v1,v2,v3,v5]
    by_cases hi':i≤lo+m / 4*2+1
    · rw [decide_eq_true (by omega:(i:Int)≤((lo+m / 4*2+1:Nat):Int)),ite2_true]
      refine C170 (y:=z) (by rw [HA.ne hrb,HP.set_eq]) fun z'=>?_
      rw [HA.set_comm hrb,HP.set_set,intV_int]
      have u1:IntKind.wrap .u64 (((2 ^ L:Nat):Int)-1)=((2 ^ L-1:Nat):Int):=by rw [wu64 (by omega) (by omega)]; omega
      rw [u1]
      have hbd:=band_le (z:=z') (m:=((2 ^ L-1:Nat):Int)) (by omega) (by omega)
      generalize band .u64 z' ((2 ^ L-1:Nat):Int)=w at hbd
      obtain ⟨o,rfl⟩:∃ o:Nat,w=o:=⟨w.toNat,by omega⟩
      rw [w64 (n:=(o:Int)) (by omega) (by omega)]
      have hs':d'.size=n:=by rw [hpm.1]; exact hs
      have step:∀ o:Nat,o<m→F141_j3 (some ⟨b,0,none⟩) n c lo m (some ⟨r,0,none⟩) ((2 ^ L:Nat):Int) i o (HA (hp0.set r (.cells 247 [.int .u64 z'] 0)) b 62 sp syc d') I (fun v hp'=>∃ hp'',HSub hp'' hp'∧K v hp''):=by
        intro o ho
        unfold F141_j3
        have x1:IntKind.wrap .i64 ((lo:Int)+(o:Int))=((lo+o:Nat):Int):=wi (by omega) (by omega)
        have x2:IntKind.wrap .i64 ((i:Int)+1)=((i+1:Nat):Int):=wi (by omega) (by omega)
        rw [x1,x2]
        refine swapP syc_len syc_one hs' (i:=i) (j:=lo+o) rfl rfl (by omega) (by omega) ?_
        exact hI (lo+m / 4*2+2-(i+1)) _ _ (by omega) ⟨i+1,_,z',rfl,rfl,Sort.permIn_trans _ _ _ _ _ hpm (Sort.swp_permIn d' lo hi i (lo+o) (by omega) (by omega) (by omega) (by omega) (by omega)),by omega,rfl⟩
      by_cases hom:o≥m
      · rw [decide_eq_true (by omega:(o:Int)≥(m:Int)),ite2_true]
        have x3:IntKind.wrap .i64 ((o:Int)-(m:Int))=((o-m:Nat):Int):=wi (by omega) (by omega)
        rw [x3]
        exact step (o-m) (by omega)
      · rw [decide_eq_false (by omega:¬ (o:Int)≥(m:Int)),ite2_false]
        exact step o (by omega)
    · rw [decide_eq_false (by omega:¬ (i:Int)≤((lo+m / 4*2+1:Nat):Int)),ite2_false]
      exact ⟨_,HA.sub (HSub.set_fresh hp0 _ hr0),h d' hpm⟩
  · rw [decide_eq_false (by omega:¬ ((hi-lo:Nat):Int)≥8),ite2_false]
    exact ⟨_,HSub.refl _,h d (Sort.permIn_refl d lo hi)⟩
theorem S185 (hx:CmpX Tryd.prog f ga gb hp0 b 62 sp syc n cf) {d:Array Sy} {i j r:Nat} {s:Int} {K:Value→HP→Prop} (hs:d.size=n) (hi:i<n) (hj:j<n) (hrb:r≠b) (hr0:hp0 r=.none)
    (h:∀ (s':Int) (x y:Nat),(x=i∧y=j)∨(x=j∧y=i)→K (.tuple ⟨[.int .i64 x,.int .i64 y]⟩) (HA (hp0.set r (.cells 3 [.int .i64 s'] 0)) b 62 sp syc d)) :
    CF Tryd.prog 185 [.slice (some ⟨b,0,none⟩) n c,.int .i64 i,.int .i64 j,.pointer (some ⟨r,0,none⟩),.func (.func f) ⟨ga⟩ ⟨gb⟩] (HA (hp0.set r (.cells 3 [.int .i64 s] 0)) b 62 sp syc d) K:=by
  refine F185_ok _ n c i j _ _ _ K ?_
  unfold F185
  refine cmpP (hx _ (HSub.set_fresh hp0 _ hr0)) syc_len hs (i:=j) (j:=i) rfl rfl hj hi ?_
  cases decide (cf d[j]! d[i]!<0)
  · rw [ite2_false]
    exact h s i j (.inl ⟨rfl,rfl⟩)
  · have hc:(HA (hp0.set r (.cells 3 [.int .i64 s] 0)) b 62 sp syc d) r=.cells 3 [.int .i64 s] 0:=by rw [HA.ne hrb,HP.set_eq]
    rw [ite2_true,ptrN_some,HP.cell_of hc]
    simp only [List.getElem?_cons_zero,ldV_some,intV_int,ptrN_some]
    refine HP.st_at hc (by simp) ?_
    rw [List.set_cons_zero,HA.set_comm hrb,HP.set_set]
    exact h _ j i (.inr ⟨rfl,rfl⟩)
theorem S172 (hx:CmpX Tryd.prog f ga gb hp0 b 62 sp syc n cf) {d:Array Sy} {i j k r:Nat} {s:Int} {K:Value→HP→Prop} (hs:d.size=n) (hi:i<n) (hj:j<n) (hk:k<n) (hrb:r≠b) (hr0:hp0 r=.none)
    (h:∀ (s':Int) (x:Nat),x=i∨x=j∨x=k→K (.int .i64 x) (HA (hp0.set r (.cells 3 [.int .i64 s'] 0)) b 62 sp syc d)) :
    CF Tryd.prog 172 [.slice (some ⟨b,0,none⟩) n c,.int .i64 i,.int .i64 j,.int .i64 k,.pointer (some ⟨r,0,none⟩),.func (.func f) ⟨ga⟩ ⟨gb⟩] (HA (hp0.set r (.cells 3 [.int .i64 s] 0)) b 62 sp syc d) K:=by
  refine F172_ok _ n c i j k _ _ _ K ?_
  unfold F172
  refine S185 hx hs hi hj hrb hr0 fun s1 a1 b1 h1=>?_
  simp only [tup2V_mk,intV_int]
  refine S185 hx hs (by omega) hk hrb hr0 fun s2 a2 b2 h2=>?_
  simp only [tup2V_mk,intV_int]
  refine S185 hx hs (by omega) (by omega) hrb hr0 fun s3 a3 b3 h3=>?_
  simp only [tup2V_mk,intV_int]
  exact h s3 b3 (by omega)
theorem S171 (hx:CmpX Tryd.prog f ga gb hp0 b 62 sp syc n cf) {d:Array Sy} {i r:Nat} {s:Int} {K:Value→HP→Prop} (hs:d.size=n) (hi0:0<i) (hi:i+1<n) (hn:n≤65535) (hrb:r≠b) (hr0:hp0 r=.none)
    (h:∀ (s':Int) (x:Nat),i-1≤x→x≤i+1→K (.int .i64 x) (HA (hp0.set r (.cells 3 [.int .i64 s'] 0)) b 62 sp syc d)) :
    CF Tryd.prog 171 [.slice (some ⟨b,0,none⟩) n c,.int .i64 i,.pointer (some ⟨r,0,none⟩),.func (.func f) ⟨ga⟩ ⟨gb⟩] (HA (hp0.set r (.cells 3 [.int .i64 s] 0)) b 62 sp syc d) K:=by
  refine F171_ok _ n c i _ _ _ K ?_
  unfold F171
  have v1:IntKind.wrap .i64 ((i:Int)-1)=((i-1:Nat):Int):=wi (by omega) (by omega)
  have v2:IntKind.wrap .i64 ((i:Int)+1)=((i+1:Nat):Int):=wi (by omega) (by omega)
  rw [v1,v2]
  refine S172 hx hs (by omega) (by omega) (by omega) hrb hr0 fun s1 x h1=>?_
  rw [intV_int]
  exact h s1 x (by omega) (by omega)
theorem S142 (hx:CmpX Tryd.prog f ga gb hp0 b 62 sp syc n cf) {d:Array Sy} {lo hi:Nat} {K:Value→HP→Prop} (hs:d.size=n) (hlo:lo<hi) (hf:hi≤n) (hn:n≤65535)
    (h:∀ (p:Nat) (w:Int),lo≤p→p<hi→K (.tuple ⟨[.int .i64 p,.int .i64 w]⟩) (HA hp0 b 62 sp syc d)) :
    CF Tryd.prog 142 [.slice (some ⟨b,0,none⟩) n c,.int .i64 lo,.int .i64 hi,.func (.func f) ⟨ga⟩ ⟨gb⟩] (HA hp0 b 62 sp syc d) K:=by
  refine CF.drop (F142_ok _ n c lo hi _ _ _ ?_)
  unfold F142
  intro r hr
  obtain ⟨hrb,hr0⟩:=HA.ne_of_none hr
  have w1:IntKind.wrap .i64 ((hi:Int)-(lo:Int))=((hi-lo:Nat):Int):=wi (by omega) (by omega)
  have e4:Int.tdiv ((hi-lo:Nat):Int) 4=(((hi-lo) / 4:Nat):Int):=rfl
  simp only [w1,e4]
  refine ⟨by omega,by omega,by omega,?_⟩
  clear e4 w1
  rw [HA.set_comm hrb]
  have hmm:hi=lo+(hi-lo):=by omega
  generalize hi-lo=m at *
  subst hmm
  have v0:IntKind.wrap .i64 ((m / 4:Nat):Int)=((m / 4:Nat):Int):=wi rfl (by omega)
  have v1:IntKind.wrap .i64 (((m / 4:Nat):Int)*1)=((m / 4:Nat):Int):=wi (by omega) (by omega)
  have v2:IntKind.wrap .i64 (((m / 4:Nat):Int)*2)=((m / 4*2:Nat):Int):=wi (by omega) (by omega)
  have v3:IntKind.wrap .i64 (((m / 4:Nat):Int)*3)=((m / 4*3:Nat):Int):=wi (by omega) (by omega)
  have u1:IntKind.wrap .i64 ((lo:Int)+((m / 4:Nat):Int))=((lo+m / 4:Nat):Int):=wi (by omega) (by omega)
  have u2:IntKind.wrap .i64 ((lo:Int)+((m / 4*2:Nat):Int))=((lo+m / 4*2:Nat):Int):=wi (by omega) (by omega)
  have u3:IntKind.wrap .i64 ((lo:Int)+((m / 4*3:Nat):Int))=((lo+m / 4*3:Nat):Int):=wi (by omega) (by omega)
  simp only [v0,v1,v2,v3,u1,u2,u3]
  have fin:∀ (s:Int) (p:Nat),lo≤p→p<lo+m→F142_j1 (some ⟨r,0,none⟩) p (HA (hp0.set r (.cells 3 [.int .i64 s] 0)) b 62 sp syc d) (fun v hp'=>∃ hp'',HSub hp'' hp'∧K v hp''):=by
    intro s p h1 h2
    have hc:(HA (hp0.set r (.cells 3 [.int .i64 s] 0)) b 62 sp syc d) r=.cells 3 [.int .i64 s] 0:=by rw [HA.ne hrb,HP.set_eq]
    unfold F142_j1
    rw [ptrN_some,HP.cell_of hc]
    simp only [List.getElem?_cons_zero,ldV_some,intV_int]
    have hsub:=HA.sub (b:=b) (e:=62) (sp:=sp) (en:=syc) (d:=d) (HSub.set_fresh hp0 (.cells 3 [.int .i64 s] 0) hr0)
    cases (s==0)
    · rw [ite2_false]
      cases (s==12)
      · rw [ite2_false]; exact ⟨_,hsub,h p 0 h1 h2⟩
      · rw [ite2_true]; exact ⟨_,hsub,h p 2 h1 h2⟩
    · rw [ite2_true]; exact ⟨_,hsub,h p 1 h1 h2⟩
  have fin2:∀ (s:Int) (i j k:Nat),lo≤i→i<lo+m→lo≤j→j<lo+m→lo≤k→k<lo+m→F142_j2 (some ⟨b,0,none⟩) n c (.func (.func f) ⟨ga⟩ ⟨gb⟩) (some ⟨r,0,none⟩) i j k (HA (hp0.set r (.cells 3 [.int .i64 s] 0)) b 62 sp syc d) (fun v hp'=>∃ hp'',HSub hp'' hp'∧K v hp''):=by
    intro s i j k h1 h2 h3 h4 h5 h6
    unfold F142_j2
    refine S172 hx hs (by omega) (by omega) (by omega) hrb hr0 fun s1 x hx1=>?_
    rw [intV_int]
    exact fin s1 x (by omega) (by omega)
  by_cases h8:m≥8
  · rw [decide_eq_true (by omega:(m:Int)≥8),ite2_true]
    by_cases h50:m≥50
    · rw [decide_eq_true (by omega:(m:Int)≥50),ite2_true]
      refine S171 hx hs (by omega) (by omega) hn hrb hr0 fun s1 x1 a1 b1=>?_
      rw [intV_int]
      refine S171 hx hs (by omega) (by omega) hn hrb hr0 fun s2 x2 a2 b2=>?_
      rw [intV_int]
      refine S171 hx hs (by omega) (by omega) hn hrb hr0 fun s3 x3 a3 b3=>?_
      rw [intV_int]
      exact fin2 s3 x1 x2 x3 (by omega) (by omega) (by omega) (by omega) (by omega) (by omega)
    · rw [decide_eq_false (by omega:¬ (m:Int)≥50),ite2_false]
      exact fin2 0 _ _ _ (by omega) (by omega) (by omega) (by omega) (by omega) (by omega)
  · rw [decide_eq_false (by omega:¬ (m:Int)≥8),ite2_false]
    exact fin 0 _ (by omega) (by omega)
end
end Go.Proofs
set_option linter.unusedVariables false
set_option maxRecDepth 20000
namespace Go.Proofs
open Go Go.HL
section
variable {e E:Env} {x0a:OA} {x0n x0c:Nat} {x1 x2:Int} {x3:Value} {x8 x9:Int} {hp:HP} {K:Env→PV→HP→Prop}
abbrev R139 (p n:Nat):=RW Tryd.prog 53 [] (opsAt Tryd.f139 (pth p)) (List.range n)
theorem F139_r0:R139 33 3 (w2 e 8 (sI x8) 2 (sI x2)) V0 hp K=
 K (w5 e 8 (sI x8) 2 (sI x2) 12 (sI x8) 13 (sI x2) 14 (sB (decide (x8<x2)))) V0 hp:= by kernel_rfl
theorem F139_r1:R139 57 3 (upd e 8 (sI x8)) V0 hp K=
 K (w4 e 8 (sI x8) 15 (sI x8) 16 (sI ((wr (x8+1)))) 8 (sI ((wr (x8+1))))) V0 hp:= by kernel_rfl
def F139_j3 (x0a:OA) (x0n x0c:Nat) (x1 x2:Int) (x3:Value) (x8:Int) (hp:HP) (I2:(Int)→HP→Prop) (K:Kh):Prop:=
  (I2 (IntKind.wrap .i64 (x8+1)) hp)
theorem F139_r2:R139 4681 18 (w2 e 9 (sI x9) 0 (sS x0a x0n x0c)) V0 hp K=
    ((0≤((wr (x9-1)):Int))∧(((wr (x9-1)):Int)<x0n)∧(ptrN x0a fun b1 o2=>ldL (HP.cellN hp b1 (o2+Int.toNat (wr (x9-1))*13) 13) fun l3=>(0≤x9)∧(x9<x0n)∧(ptrN x0a fun b4 o5=>ldL (HP.cellN hp b4 (o5+Int.toNat x9*13) 13) fun l6=>(0≤x9)∧(x9<x0n)∧(ptrN x0a fun b7 o8=>(List.length l3=13)∧(HP.stN hp b7 (o8+Int.toNat x9*13) l3 fun h9=>(0≤((wr (x9-1)):Int))∧(((wr (x9-1)):Int)<x0n)∧(ptrN x0a fun b10 o11=>(List.length l6=13)∧(HP.stN h9 b10 (o11+Int.toNat (wr (x9-1))*13) l6 fun h12=>K (w2 (w8 (w8 e 9 (sI x9) 0 (sS x0a x0n x0c) 37 (sS x0a x0n x0c) 38 (sI x9) 39 (sS x0a x0n x0c) 40 (sI x9) 41 (sI ((wr (x9-1)))) 42 (sS x0a x0n x0c)) 43 (sI x9) 44 (sI ((wr (x9-1)))) 45 (sV (ptr b1 (o2+Int.toNat (wr (x9-1))*13))) 46 (sA l3) 47 (sS x0a x0n x0c) 48 (sI x9) 49 (sQ b4 (o5+Int.toNat x9*13)) 50 (sA l6)) 51 (sQ b7 (o8+Int.toNat x9*13)) 52 (sV (ptr b10 (o11+Int.toNat (wr (x9-1))*13)))) V0 h12))))))):=by kernel_rfl
theorem F139_r3:R139 3657 3 (upd e 9 (sI x9)) V0 hp K=
 K (w4 e 9 (sI x9) 35 (sI x9) 36 (sI ((wr (x9-1)))) 9 (sI ((wr (x9-1))))) V0 hp:= by kernel_rfl
def F139_j6 (x0a:OA) (x0n x0c:Nat) (x1 x2:Int) (x3:Value) (x8 x9:Int) (x34:Bool) (hp:HP) (I2 I5:(Int)→HP→Prop) (K:Kh):Prop:=
  (ite2 x34 ((0≤((IntKind.wrap .i64 (x9-1)):Int))∧(((IntKind.wrap .i64 (x9-1)):Int)<x0n)∧(ptrN x0a fun b1 o2=>ldL (HP.cellN hp b1 (o2+Int.toNat (IntKind.wrap .i64 (x9-1))*13) 13) fun l3=>(0≤x9)∧(x9<x0n)∧(ptrN x0a fun b4 o5=>ldL (HP.cellN hp b4 (o5+Int.toNat x9*13) 13) fun l6=>(0≤x9)∧(x9<x0n)∧(ptrN x0a fun b7 o8=>(List.length l3=13)∧(HP.stN hp b7 (o8+Int.toNat x9*13) l3 fun h9=>(0≤((IntKind.wrap .i64 (x9-1)):Int))∧(((IntKind.wrap .i64 (x9-1)):Int)<x0n)∧(ptrN x0a fun b10 o11=>(List.length l6=13)∧(HP.stN h9 b10 (o11+Int.toNat (IntKind.wrap .i64 (x9-1))*13) l6 fun h12=>I5 (IntKind.wrap .i64 (x9-1)) h12))))))) (F139_j3 x0a x0n x0c x1 x2 x3 x8 hp I2 K))
theorem F139_r4 (h:E=upd (w3 e 9 (sI x9) 3 (sV x3) 1 (sI x1)) 0 (sS x0a x0n x0c)):R139 2121 17 E V0 hp K=
    (ite2 (decide (x9 > x1)) ((0≤x9)∧(x9<x0n)∧(ptrN x0a fun b1 o2=>ldL (HP.cellN hp b1 (o2+Int.toNat x9*13) 13) fun l3=>(0≤((wr (x9-1)):Int))∧(((wr (x9-1)):Int)<x0n)∧(ptrN x0a fun b4 o5=>ldL (HP.cellN hp b4 (o5+Int.toNat (wr (x9-1))*13) 13) fun l6=>fnV x3 fun f7 ga8 gb9=>CF Tryd.prog f7 (ga8++[(Value.agg ⟨l3⟩),(.agg ⟨l6⟩)]++gb9) hp fun u10 h11=>intV u10 .i64 fun i12=>K (upd (w8 (w8 E 18 (sI x9) 19 (sI x1) 20 (sB (decide (x9 > x1))) 21 (sB true) 22 (sV x3) 23 (sS x0a x0n x0c) 24 (sI x9) 25 (sQ b1 (o2+Int.toNat x9*13))) 26 (sA l3) 27 (sS x0a x0n x0c) 28 (sI x9) 29 (sI ((wr (x9-1)))) 30 (sV (ptr b4 (o5+Int.toNat (wr (x9-1))*13))) 31 (sA l6) 32 (sI i12) 33 (sB (decide (i12<0)))) 34 (sB (decide (i12<0)))) V0 h11))) (K (upd (w8 (w8 E 18 (sI x9) 19 (sI x1) 20 (sB (decide (x9 > x1))) 21 (sB false) 22 sU 23 sU 24 sU 25 sU) 26 sU 27 sU 28 sU 29 sU 30 sU 31 sU 32 sU 33 sU) 34 (sB false)) V0 hp)):=by subst h; kernel_rfl
def F139_l5 (x0a:OA) (x0n x0c:Nat) (x1 x2:Int) (x3:Value) (x8:Int) (I2:(Int)→HP→Prop) (K:Kh) (I5:(Int)→HP→Prop) (x9:Int) (hp:HP):Prop:=
  (ite2 (decide (x9 > x1)) ((0≤x9)∧(x9<x0n)∧(ptrN x0a fun b13 o14=>ldL (HP.cellN hp b13 (o14+Int.toNat x9*13) 13) fun l15=>(0≤((IntKind.wrap .i64 (x9-1)):Int))∧(((IntKind.wrap .i64 (x9-1)):Int)<x0n)∧(ptrN x0a fun b16 o17=>ldL (HP.cellN hp b16 (o17+Int.toNat (IntKind.wrap .i64 (x9-1))*13) 13) fun l18=>fnV x3 fun f19 ga_20 gb_21=>CF Tryd.prog f19 (ga_20++[(Value.agg ⟨l15⟩),(.agg ⟨l18⟩)]++gb_21) hp fun u22 h23=>intV u22 .i64 fun i24=>F139_j6 x0a x0n x0c x1 x2 x3 x8 x9 (decide (i24<0)) h23 I2 I5 K))) (F139_j6 x0a x0n x0c x1 x2 x3 x8 x9 false hp I2 I5 K))
def F139_j4 (x0a:OA) (x0n x0c:Nat) (x1 x2:Int) (x3:Value) (x8 x9:Int) (hp:HP) (I2:(Int)→HP→Prop) (K:Kh):Prop:=
  (LoopP (σ:=Int) (fun I s hp=>F139_l5 x0a x0n x0c x1 x2 x3 x8 I2 K I s hp) x9 hp)
theorem F139_r5:R139 137 2 (upd e 8 (sI x8)) V0 hp K=
 K (w3 e 8 (sI x8) 17 (sI x8) 9 (sI x8)) V0 hp:= by kernel_rfl
def F139_l2 (x0a:OA) (x0n x0c:Nat) (x1 x2:Int) (x3:Value) (K:Kh) (I2:(Int)→HP→Prop) (x8:Int) (hp:HP):Prop:=
  (ite2 (decide (x8<x2)) (F139_j4 x0a x0n x0c x1 x2 x3 x8 x8 hp I2 K) (K (.tuple ⟨[]⟩) hp))
def F139_j1 (x0a:OA) (x0n x0c:Nat) (x1 x2:Int) (x3:Value) (x8:Int) (hp:HP) (K:Kh):Prop:=
  (LoopP (σ:=Int) (fun I s hp=>F139_l2 x0a x0n x0c x1 x2 x3  K I s hp) x8 hp)
theorem F139_r6:R139 2 3 (upd e 1 (sI x1)) V0 hp K=
 K (w4 e 1 (sI x1) 10 (sI x1) 11 (sI ((wr (x1+1)))) 8 (sI ((wr (x1+1))))) V0 hp:= by kernel_rfl
def F139 (x0a:OA) (x0n x0c:Nat) (x1 x2:Int) (x3:Value) (hp:HP) (K:Kh):Prop:=
  (F139_j1 x0a x0n x0c x1 x2 x3 (IntKind.wrap .i64 (x1+1)) hp  K)
noncomputable abbrev o139 (k n:Nat):Code:=.region k (opsAt Tryd.f139 (pth n)) false
noncomputable def F139_code:Code:=(.seq (o139 0 2) (.block 0 (.loop (.seq (.seq (o139 1 33) (.cond (.tmp 14) .skip (.exit 0))) (.seq (.block 1 (.seq (o139 3 137) (.block 2 (.loop (.seq (.seq (.region 4 (opsAt Tryd.f139 (pth 2121)) true) (.cond (.tmp 34) .skip (.exit 2))) (.seq (.block 3 (.region 6 (opsAt Tryd.f139 (pth 4681)) true)) (o139 5 3657))))))) (o139 2 57))))))
theorem F139_body:Tryd.f139.body=some F139_code:=by kernel_rfl
theorem F139_ok (x0a:OA) (x0n x0c:Nat) (x1 x2:Int) (x3:Value) (hp:HP) (K:Kh) (h:F139 x0a x0n x0c x1 x2 x3 hp K):CF Tryd.prog 139 [(.slice x0a x0n x0c),(.int .i64 x1),(.int .i64 x2),x3] hp K:=by
 refine .inl ⟨by kernel_rfl,AC.intro (N:=53) Tryd.func139 F139_body rfl (Nat.le_of_ble_eq_true rfl) ?_⟩
 unfold F139 at h
 refine As (fun env pv hp=>∃ x0a x0n x0c x1 x2 x3 x8,Sub (w5 E0 8 (sI x8) 3 (sV x3) 2 (sI x2) 1 (sI x1) 0 (sS x0a x0n x0c)) env∧Sub V0 pv∧F139_j1 x0a x0n x0c x1 x2 x3 x8 hp  K) ?_ ?_
 ·refine Ag F139_r6 ?_ (r4 1 0 2 3 Rn) (z4 Sn) Sn
  exact ⟨_,_,_,_,_,_,_,(z5 Sn),Sn,h⟩
 ·rintro env pv hp ⟨x0a,x0n,x0c,x1,x2,x3,x8,he,hv,h⟩
  refine Ae ?_ (r5 0 1 2 3 8 Rn) he hv
  unfold F139_j1 at h
  refine AWP.block (AWP.loop (σ:=Int) _ (fun s=>w5 E0 8 (sI s) 3 (sV x3) 2 (sI x2) 1 (sI x1) 0 (sS x0a x0n x0c)) (fun s=>V0) x8 h (fun s=>r5 0 1 2 3 8 Rn) (z5 Sn) Sn ?_)
  intro I2 x8 hp h
  replace h:F139_l2 x0a x0n x0c x1 x2 x3  K I2 x8 hp:=h
  unfold F139_l2 at h
  refine Aq (Ar F139_r0 ?_ (r5 2 8 0 1 3 Rn) (z5 Sn) Sn)
  refine Ac h rfl (fun h=>?_) (fun h=>?_)
  ·refine AWP.skip (As (fun env pv hp=>∃ x8,Sub (w5 E0 8 (sI x8) 3 (sV x3) 2 (sI x2) 1 (sI x1) 0 (sS x0a x0n x0c)) env∧Sub V0 pv∧F139_j3 x0a x0n x0c x1 x2 x3 x8 hp I2 K) ?_ ?_)
   ·refine AWP.block (As (fun env pv hp=>∃ x8 x9,Sub (w6 E0 9 (sI x9) 8 (sI x8) 3 (sV x3) 2 (sI x2) 1 (sI x1) 0 (sS x0a x0n x0c)) env∧Sub V0 pv∧F139_j4 x0a x0n x0c x1 x2 x3 x8 x9 hp I2 K) ?_ ?_)
    ·refine Ag F139_r5 ?_ (r5 8 0 1 2 3 Rn) (z5 Sn) Sn
     exact ⟨_,_,(z6 Sn),Sn,h⟩
    ·rintro env pv hp ⟨x8,x9,he,hv,h⟩
     refine Ae ?_ (r6 0 1 2 3 8 9 Rn) he hv
     unfold F139_j4 at h
     refine AWP.block (AWP.loop (σ:=Int) _ (fun s=>w6 E0 9 (sI s) 8 (sI x8) 3 (sV x3) 2 (sI x2) 1 (sI x1) 0 (sS x0a x0n x0c)) (fun s=>V0) x9 h (fun s=>r6 0 1 2 3 8 9 Rn) (z6 Sn) Sn ?_)
     intro I5 x9 hp h
     replace h:F139_l5 x0a x0n x0c x1 x2 x3 x8 I2 K I5 x9 hp:=h
     unfold F139_l5 at h
     refine Aq (As (fun env pv hp=>∃ x9 x34,Sub (w7 E0 34 (sB x34) 9 (sI x9) 8 (sI x8) 3 (sV x3) 2 (sI x2) 1 (sI x1) 0 (sS x0a x0n x0c)) env∧Sub V0 pv∧F139_j6 x0a x0n x0c x1 x2 x3 x8 x9 x34 hp I2 I5 K) ?_ ?_)
     ·refine AWP.rgnD (by kernel_rfl) (by kernel_rfl) (F139_r4 rfl) ?_ (r6 0 1 3 9 2 8 Rn) (z6 Sn) Sn
      refine mt h (fun h=>?_) (fun h=>?_)
      ·refine ⟨h.1,h.2.1,mN h.2.2 (fun b13 o14 h=>mL h (fun l15 h=>⟨h.1,h.2.1,mN h.2.2 fun b16 o17 h=>mL h fun l18 h=>mF h fun f19 ga_20 gb_21 h=>mC h fun u22 h23 h=>mI h fun i24 h=>?_⟩))⟩
       exact ⟨_,_,(z7 Sn),Sn,h⟩
      ·exact ⟨_,_,(z7 Sn),Sn,h⟩
     ·rintro env pv hp ⟨x9,x34,he,hv,h⟩
      refine Ae ?_ (r7 0 1 2 3 8 9 34 Rn) he hv
      unfold F139_j6 at h
      refine Ac h rfl (fun h=>?_) (fun h=>?_)
      ·refine AWP.skip (Aq (AWP.block (AWP.rgnD (by kernel_rfl) (by kernel_rfl) F139_r2 ?_ (r6 0 9 1 2 3 8 Rn) (z6 Sn) Sn)))
       refine ⟨h.1,h.2.1,mN h.2.2 (fun b1 o2 h=>mL h (fun l3 h=>⟨h.1,h.2.1,mN h.2.2 (fun b4 o5 h=>mL h (fun l6 h=>⟨h.1,h.2.1,mN h.2.2 (fun b7 o8 h=>⟨h.1,mW h.2 (fun h9 h=>⟨h.1,h.2.1,mN h.2.2 (fun b10 o11 h=>⟨h.1,mW h.2 fun h12 h=>?_⟩)⟩)⟩)⟩))⟩))⟩
       refine Ag F139_r3 ?_ (r6 9 0 1 2 3 8 Rn) (z6 Sn) Sn
       exact ⟨_,(z6 Sn),Sn,h⟩
      ·refine AWP.exit ?_
       exact ⟨_,(z5 Sn),Sn,h⟩
   ·rintro env pv hp ⟨x8,he,hv,h⟩
    refine Ae ?_ (r5 0 1 2 3 8 Rn) he hv
    unfold F139_j3 at h
    refine Ag F139_r1 ?_ (r5 8 0 1 2 3 Rn) (z5 Sn) Sn
    exact ⟨_,(z5 Sn),Sn,h⟩
  ·refine AWP.exit ?_
   exact h
end
end Go.Proofs
set_option linter.unusedVariables false
set_option maxRecDepth 20000
namespace Go.Proofs
open Go Go.HL
section
variable {f:FuncId} {ga gb:List Value} {hp0:HP} {b sp n c:Nat} {cf:Sy→Sy→Int}
theorem S139 (hc:CmpOk Tryd.prog f ga gb hp0 b 62 sp syc n cf) {d:Array Sy} {lo hi:Nat} {K:Value→HP→Prop} (hs:d.size=n) (hlo:lo≤hi) (hhi:hi≤n) (hn:n≤1000000000)
    (h:K (.tuple ⟨[]⟩) (HA hp0 b 62 sp syc (Sort.insertionSort (ltC cf) d lo hi))) :
    CF Tryd.prog 139 [.slice (some ⟨b,0,none⟩) n c,.int .i64 lo,.int .i64 hi,.func (.func f) ⟨ga⟩ ⟨gb⟩] (HA hp0 b 62 sp syc d) K:=by
  refine F139_ok _ n c lo hi _ _ K ?_
  unfold F139 F139_j1
  rw [w64 (by omega) (by omega)]
  refine LoopP.by (J:=fun k (x:Int) hp=>∃ (i:Nat) (d':Array Sy),x=i∧hp=HA hp0 b 62 sp syc d'∧d'.size=n∧lo<i∧k=hi-i∧Sort.insOuter (ltC cf) lo hi i d'=Sort.insertionSort (ltC cf) d lo hi) ?_
    (n:=hi-(lo+1)) ⟨lo+1,d,by omega,rfl,hs,by omega,rfl,rfl⟩
  rintro I k x hp ⟨i,d',rfl,rfl,hs',hli,rfl,he⟩ hI
  unfold F139_l2
  rw [Sort.insOuter] at he
  by_cases hi':i<hi
  · rw [decide_eq_true (by omega:(i:Int)<(hi:Int)),ite2_true]
    rw [if_pos hi'] at he
    unfold F139_j4
    refine LoopP.by (J:=fun k (y:Int) hp=>∃ (j:Nat) (d2:Array Sy),y=j∧hp=HA hp0 b 62 sp syc d2∧d2.size=n∧j<n∧k=j∧Sort.insInner (ltC cf) lo j d2=Sort.insInner (ltC cf) lo i d') ?_
      (n:=i) ⟨i,d',rfl,rfl,hs',by omega,rfl,rfl⟩
    rintro I2 k2 y hp2 ⟨j,d2,rfl,rfl,hs2,hj,hk2,he2⟩ hI2
    unfold F139_l5
    have out:Sort.insInner (ltC cf) lo i d'=d2→F139_j6 (some ⟨b,0,none⟩) n c lo hi (.func (.func f) ⟨ga⟩ ⟨gb⟩) i j false (HA hp0 b 62 sp syc d2) I I2 K:=by
      intro heq
      unfold F139_j6 F139_j3
      rw [ite2_false,w64 (by omega) (by omega)]
      exact hI (hi-(i+1)) _ _ (by omega) ⟨i+1,d2,by omega,rfl,hs2,by omega,rfl,by rw [← heq]; exact he⟩
    by_cases hjl:lo<j
    · rw [decide_eq_true (by omega:(j:Int) > (lo:Int)),ite2_true]
      obtain ⟨j',rfl⟩:∃ j',j=j'+1:=⟨j-1,by omega⟩
      have w1:IntKind.wrap .i64 (((j'+1:Nat):Int)-1)=(j':Int):=by rw [w64 (by omega) (by omega)]; omega
      have g1:=HA.get (hp0:=hp0) (b:=b) (e:=62) (sp:=sp) syc_len (d:=d2) (i:=j'+1) (by omega)
      have g0:=HA.get (hp0:=hp0) (b:=b) (e:=62) (sp:=sp) syc_len (d:=d2) (i:=j') (by omega)
      simp only [w1,ptrN_some,Int.toNat_natCast,g1,g0,ldL_some,fnV_mk]
      refine ⟨by omega,by omega,by omega,by omega,?_⟩
      refine hc d2 _ _ _ hs2 ?_
      rw [intV_int]
      rw [Sort.insInner] at he2
      have hgt:decide (j'+1 > lo)=true:=decide_eq_true (by omega)
      cases hlt:decide (cf d2[j'+1]! d2[j']!<0)
      · have:ltC cf d2[j'+1]! d2[j']! = false:=hlt
        rw [hgt,this] at he2
        exact out (by simpa using he2.symm)
      · have:ltC cf d2[j'+1]! d2[j']! = true:=hlt
        rw [hgt,this] at he2
        simp only [Bool.and_self,if_true] at he2
        unfold F139_j6
        simp only [ite2_true,w1,ptrN_some,Int.toNat_natCast,g0,g1,ldL_some]
        refine ⟨by omega,by omega,by omega,by omega,by omega,by omega,rfl,?_⟩
        refine HA.st syc_len syc_one (by omega) _ ?_
        refine ⟨by omega,by omega,rfl,?_⟩
        refine HA.st syc_len syc_one (by rw [Array.size_setIfInBounds]; omega) _ ?_
        exact hI2 j' _ _ (by omega) ⟨j',_,rfl,rfl,by rw [Array.size_setIfInBounds,Array.size_setIfInBounds]; exact hs2,by omega,rfl,he2⟩
    · rw [decide_eq_false (by omega:¬ (j:Int) > (lo:Int)),ite2_false]
      refine out ?_
      cases j with
      | zero=>rw [Sort.insInner] at he2; exact he2.symm
      | succ j=>
        rw [Sort.insInner] at he2
        have hgt:decide (j+1 > lo)=false:=decide_eq_false (by omega)
        rw [hgt] at he2
        simpa using he2.symm
  · rw [decide_eq_false (by omega:¬ (i:Int)<(hi:Int)),ite2_false]
    rw [if_neg hi'] at he
    rw [he]
    exact h
end
end Go.Proofs
set_option linter.unusedVariables false
set_option maxRecDepth 20000
namespace Go.Proofs
open Go Go.HL
section
variable {f:FuncId} {ga gb:List Value} {hp0:HP} {b sp n c:Nat} {cf:Sy→Sy→Int}
theorem S127 (hx:CmpX Tryd.prog f ga gb hp0 b 62 sp syc n cf) (hS:Sort.SWO (ltC cf)) (hn:n≤65535):∀ (m:Nat) {d:Array Sy} {lo hi limit:Nat} {K:Value→HP→Prop},d.size=n→lo≤hi→hi≤n→limit≤64→hi-lo≤m→Sort.Below (ltC cf) lo hi d →
    (∀ d',Sort.PermIn lo hi d d'→Sort.SortedIn (ltC cf) lo hi d'→K (.tuple ⟨[]⟩) (HA hp0 b 62 sp syc d')) →
    CF Tryd.prog 127 [.slice (some ⟨b,0,none⟩) n c,.int .i64 lo,.int .i64 hi,.int .i64 limit,.func (.func f) ⟨ga⟩ ⟨gb⟩] (HA hp0 b 62 sp syc d) K:=by
  intro m
  induction m using Nat.strongRecOn with
  | ind m ih=>
  intro d lo hi limit K hs hlo hhi hl hm hB h
  have hc:=hx.ok
  refine F127_ok _ n c lo hi limit _ _ K ?_
  unfold F127 F127_j1
  refine LoopP.by (J:=fun k (s:Int × Int × Int × Bool × Bool) hp=>∃ (a e lim:Nat) (wb wp:Bool) (d':Array Sy),s=((a:Int),(e:Int),(lim:Int),wb,wp)∧hp=HA hp0 b 62 sp syc d'∧d'.size=n∧a≤e∧e≤n∧lim≤64∧e-a≤hi-lo∧k=e-a∧Sort.Below (ltC cf) a e d' ∧
      (∀ R,Sort.PermIn a e d' R→Sort.SortedIn (ltC cf) a e R→K (.tuple ⟨[]⟩) (HA hp0 b 62 sp syc R))) ?_
    (n:=hi-lo) ⟨lo,hi,limit,true,true,d,rfl,rfl,hs,hlo,hhi,hl,Nat.le_refl _,rfl,hB,h⟩
  clear hs hlo hhi hl hB h
  rintro I k x hp ⟨a,e,lim,wb,wp,d,rfl,rfl,hs,hae,hen,hl,hle,rfl,hB,h⟩ hI
  unfold F127_l2
  simp only []
  have w1:IntKind.wrap .i64 ((e:Int)-(a:Int))=((e-a:Nat):Int):=wi (by omega) (by omega)
  rw [w1]
  by_cases h12:e-a≤12
  · rw [decide_eq_true (by omega:((e-a:Nat):Int)≤12),ite2_true]
    refine S139 hc hs hae hen (by omega) ?_
    have hi:=Sort.insertionSort_holds hS d a e hae (by omega)
    exact h _ hi.1 hi.2
  rw [decide_eq_false (by omega:¬ ((e-a:Nat):Int)≤12),ite2_false]
  by_cases h0:lim=0
  · subst h0
    have hb:(((0:Nat):Int)==0)=true:=rfl
    rw [hb,ite2_true]
    refine S140 hc hs hae hen (by omega) ?_
    have hi:=Sort.heapSort_holds hS d a e hae (by omega)
    exact h _ hi.1 hi.2
  have hb:((lim:Int)==0)=false:=by rw [beq_eq_false_iff_ne]; omega
  rw [hb,ite2_false]
  have last:∀ (lim':Nat) (d3:Array Sy) (p:Nat) (wb wp:Bool),lim'≤64→Sort.PermIn a e d d3→a≤p→p<e →
      F127_j5 (some ⟨b,0,none⟩) n c a e lim' (.func (.func f) ⟨ga⟩ ⟨gb⟩) wb wp ((e-a:Nat):Int) p (HA hp0 b 62 sp syc d3) I K:=by
    intro lim' d3 p wb wp hl' hp3 hpa hpe
    have hs3:d3.size=n:=by rw [hp3.1]; exact hs
    have B3:Sort.Below (ltC cf) a e d3:=hB.perm (by omega) hp3
    have two:F127_j6 (some ⟨b,0,none⟩) n c a e lim' (.func (.func f) ⟨ga⟩ ⟨gb⟩) wb wp ((e-a:Nat):Int) p false (HA hp0 b 62 sp syc d3) I K:=by
      unfold F127_j6
      rw [ite2_false]
      refine S146 hc hs3 (by omega) hen (by omega) (by omega) ?_
      rcases hR:Sort.partition (ltC cf) d3 a e p with ⟨mid,ap,d4⟩
      obtain ⟨q1,q2,q3,q4,q5,q6,q7⟩:=Sort.round_part hS (Sort.partition_holds _) hpa hpe (by omega) B3 hR
      simp only [tup2V_mk,intV_int,boolV_bool]
      refine ⟨by omega,?_⟩
      have v1:IntKind.wrap .i64 ((mid:Int)-(a:Int))=((mid-a:Nat):Int):=wi (by omega) (by omega)
      have v2:IntKind.wrap .i64 ((e:Int)-(mid:Int))=((e-mid:Nat):Int):=wi (by omega) (by omega)
      have v3:IntKind.wrap .i64 ((mid:Int)+1)=((mid+1:Nat):Int):=wi (by omega) (by omega)
      rw [v1,v2,v3]
      by_cases hlt:mid-a<e-mid
      · rw [decide_eq_true (by omega:((mid-a:Nat):Int)<((e-mid:Nat):Int)),ite2_true]
        refine ih (mid-a) (by omega) (by omega) q1 (by omega) hl' (Nat.le_refl _) q4 ?_
        intro L hL hsL
        obtain ⟨z1,z2⟩:=q6 L hL hsL
        exact hI (e-(mid+1)) _ _ (by omega) ⟨mid+1,e,lim',_,ap,L,rfl,rfl,by rw [hL.1]; omega,by omega,hen,hl',by omega,rfl,z1,fun R hR hsR=>h R (Sort.permIn_trans _ _ _ _ _ hp3 (z2 R hR hsR).1) (z2 R hR hsR).2⟩
      · rw [decide_eq_false (by omega:¬ ((mid-a:Nat):Int)<((e-mid:Nat):Int)),ite2_false]
        refine ih (e-(mid+1)) (by omega) (by omega) (by omega) hen hl' (Nat.le_refl _) q5 ?_
        intro L hL hsL
        obtain ⟨z1,z2⟩:=q7 L hL hsL
        exact hI (mid-a) _ _ (by omega) ⟨a,mid,lim',_,ap,L,rfl,rfl,by rw [hL.1]; omega,q1,by omega,hl',by omega,rfl,z1,fun R hR hsR=>h R (Sort.permIn_trans _ _ _ _ _ hp3 (z2 R hR hsR).1) (z2 R hR hsR).2⟩
    unfold F127_j5
    by_cases ha:a > 0
    · rw [decide_eq_true (by omega:(a:Int) > 0),ite2_true]
      have v1:IntKind.wrap .i64 ((a:Int)-1)=((a-1:Nat):Int):=wi (by omega) (by omega)
      rw [v1]
      refine cmpP hc syc_len hs3 (i:=a-1) (j:=p) rfl rfl (by omega) (by omega) ?_
      have hlq:decide (cf d3[a-1]! d3[p]!<0)=ltC cf d3[a-1]! d3[p]! := rfl
      rw [hlq]
      cases hlt:ltC cf d3[a-1]! d3[p]!
      · unfold F127_j6
        simp only [Bool.not_false,ite2_true]
        refine S145 hc hs3 (by omega) hen (by omega) (by omega) ?_
        rcases hR:Sort.partitionEqual (ltC cf) d3 a e p with ⟨mid,d4⟩
        obtain ⟨q1,q2,q3,q4,q5⟩:=Sort.round_eq hS (Sort.partitionEqual_holds _) ha hpa hpe (by omega) B3 hlt hR
        rw [intV_int]
        exact hI (e-mid) _ _ (by omega) ⟨mid,e,lim',wb,wp,d4,rfl,rfl,by omega,q2,hen,hl',by omega,rfl,q4,fun R hR hsR=>h R (Sort.permIn_trans _ _ _ _ _ hp3 (q5 R hR hsR).1) (q5 R hR hsR).2⟩
      · simp only [Bool.not_true]
        exact two
    · rw [decide_eq_false (by omega:¬ (a:Int) > 0),ite2_false]
      exact two
  have part:∀ (lim':Nat) (d2:Array Sy) (p:Nat) (w:Int),lim'≤64→Sort.PermIn a e d d2→a≤p→p<e →
      F127_j4 (some ⟨b,0,none⟩) n c a e lim' (.func (.func f) ⟨ga⟩ ⟨gb⟩) wb wp ((e-a:Nat):Int) p w (HA hp0 b 62 sp syc d2) I K:=by
    intro lim' d2 p w hl' hp2 hpa hpe
    have hs2:d2.size=n:=by rw [hp2.1]; exact hs
    have B2:Sort.Below (ltC cf) a e d2:=hB.perm (by omega) hp2
    have seven:∀ q:Bool,F127_j7 (some ⟨b,0,none⟩) n c a e lim' (.func (.func f) ⟨ga⟩ ⟨gb⟩) wb wp ((e-a:Nat):Int) p q (HA hp0 b 62 sp syc d2) I K:=by
      intro q
      unfold F127_j7
      cases q
      · rw [ite2_false]; exact last lim' d2 p wb wp hl' hp2 hpa hpe
      · rw [ite2_true]
        refine S144 hc hs2 (by omega) hen (by omega) ?_
        obtain ⟨r1,r2⟩:=Sort.partialInsertionSort_holds hS d2 a e (by omega) (by omega) B2
        rw [boolV_bool]
        cases hq:(Sort.partialInsertionSort (ltC cf) d2 a e).2
        · rw [ite2_false]
          exact last lim' _ p wb wp hl' (Sort.permIn_trans _ _ _ _ _ hp2 r1) hpa hpe
        · rw [ite2_true]
          exact h _ (Sort.permIn_trans _ _ _ _ _ hp2 r1) (r2 hq)
    unfold F127_j4
    cases wb
    · rw [ite2_false]; exact seven _
    · rw [ite2_true]
      cases wp
      · rw [ite2_false]; exact seven _
      · rw [ite2_true]; exact seven _
  have piv:∀ (lim':Nat) (d1:Array Sy),lim'≤64→Sort.PermIn a e d d1→F127_j3 (some ⟨b,0,none⟩) n c a e lim' (.func (.func f) ⟨ga⟩ ⟨gb⟩) wb wp ((e-a:Nat):Int) (HA hp0 b 62 sp syc d1) I K:=by
    intro lim' d1 hl' hp1
    have hs1:d1.size=n:=by rw [hp1.1]; exact hs
    unfold F127_j3
    refine S142 hx hs1 (by omega) hen hn fun p w hpa hpe=>?_
    simp only [tup2V_mk,intV_int]
    cases (w==2)
    · rw [ite2_false]; exact part lim' d1 p w hl' hp1 hpa hpe
    · rw [ite2_true]
      refine S143 hs1 (by omega) hen (by omega) ?_
      have v1:IntKind.wrap .i64 ((e:Int)-1)=((e-1:Nat):Int):=wi (by omega) (by omega)
      have v2:IntKind.wrap .i64 ((p:Int)-(a:Int))=((p-a:Nat):Int):=wi (by omega) (by omega)
      have v3:IntKind.wrap .i64 (((e-1:Nat):Int)-((p-a:Nat):Int))=((e-1-(p-a):Nat):Int):=wi (by omega) (by omega)
      rw [v1,v2,v3]
      exact part lim' _ _ 1 hl' (Sort.permIn_trans _ _ _ _ _ hp1 (Sort.reverseRange_holds d1 a e hae (by omega))) (by omega) (by omega)
  cases wb
  · simp only [Bool.not_false,ite2_true]
    refine S141 hs hae hen hn fun d1 hp1=>?_
    have v1:IntKind.wrap .i64 ((lim:Int)-1)=((lim-1:Nat):Int):=wi (by omega) (by omega)
    rw [v1]
    exact piv (lim-1) d1 (by omega) hp1
  · simp only [Bool.not_true,ite2_false]
    exact piv lim d hl (Sort.permIn_refl d a e)
end
theorem S99 {f:FuncId} {ga gb:List Value} {cf:Sy→Sy→Int} (hS:Sort.SWO (ltC cf)) {hp:HP} {s:Option Addr} {n c:Nat} {ts:List Sy} (hr:Row hp s n c 62 13 (ts.flatMap syc)) (hl:ts.length=n) (hn:n≤65535)
    (hx:∀ b,s=some ⟨b,0,none⟩→CmpX Tryd.prog f ga gb hp b 62 ((c-n)*13) syc n cf) {K:Value→HP→Prop}
    (h:∀ (ts':List Sy) (hp':HP),ts'.Perm ts→ts'.Pairwise (fun x y=>ltC cf y x=false)→Row hp' s n c 62 13 (ts'.flatMap syc)→(hp'=hp∨∃ b e,s=some ⟨b,0,none⟩∧hp'=hp.set b e)→K (.tuple ⟨[]⟩) hp') :
    CF Tryd.prog 99 [.slice s n c,.func (.func f) ⟨ga⟩ ⟨gb⟩] hp K:=by
  refine F99_ok s n c _ hp K ?_
  unfold F99
  rw [wu64 (by omega) (by omega)]
  refine C128 hn fun L hL _ _=>?_
  rw [intV_int]
  have z0:(Value.int .i64 0)=Value.int .i64 ((0:Nat):Int):=rfl
  rcases hr with ⟨rfl,rfl,rfl,hnil⟩ | ⟨b,rfl,hnc,hxl,hb⟩
  · have ht:ts=[]:=List.eq_nil_of_length_eq_zero hl
    subst ht
    rw [z0]
    refine F127_ok none 0 0 ((0:Nat):Int) ((0:Nat):Int) L _ hp _ ?_
    unfold F127 F127_j1
    refine LoopP.by (J:=fun k (s:Int × Int × Int × Bool × Bool) hp'=>s.1=0∧s.2.1=0∧hp'=hp) ?_ (n:=0) ⟨rfl,rfl,rfl⟩
    rintro I k ⟨a,e,lim,wb,wp⟩ hp' ⟨h1,h2,rfl⟩ hI
    simp only at h1 h2
    subst h1 h2
    unfold F127_l2
    simp only []
    have w0:IntKind.wrap .i64 ((0:Int)-0)=0:=by rw [w64 (by omega) (by omega)]; omega
    rw [w0,decide_eq_true (by omega:(0:Int)≤12),ite2_true]
    refine F139_ok none 0 0 0 0 _ hp' _ ?_
    unfold F139 F139_j1
    have w1:IntKind.wrap .i64 ((0:Int)+1)=1:=by rw [w64 (by omega) (by omega)]; omega
    rw [w1]
    refine LoopP.by (J:=fun k (x:Int) hp2=>x=1∧hp2=hp') ?_ (n:=0) ⟨rfl,rfl⟩
    rintro I2 k2 x hp2 ⟨rfl,rfl⟩ hI2
    unfold F139_l2
    rw [decide_eq_false (by omega:¬ (1:Int)<0),ite2_false]
    exact h [] _ (List.Perm.refl _) List.Pairwise.nil (.inl ⟨rfl,rfl,rfl,rfl⟩) (.inl rfl)
  · have hha:HA hp b 62 ((c-n)*13) syc ts.toArray=hp:=HP.set_self _ _ _ hb
    rw [z0]
    have key:=S127 (c:=c) (hx b rfl) hS hn n (d:=ts.toArray) (lo:=0) (hi:=n) (limit:=L) (K:=fun u_4 h_5=>K (.tuple ⟨[]⟩) h_5) (by simpa using hl) (Nat.zero_le _) (Nat.le_refl _) (by omega) (by omega) (.inl rfl) ?_
    · rw [hha] at key; exact key
    intro d' hpm hst
    have hsz:d'.size=n:=by rw [hpm.1]; simpa using hl
    have hpl:d'.toList.Perm ts:=by
      have h3:=hpm.2.2
      have e1:d'.extract 0 n=d':=by rw [← hsz]; simp
      have e2:ts.toArray.extract 0 n=ts.toArray:=by rw [← hl]; simp
      rw [e1,e2] at h3
      exact h3
    refine h d'.toList _ hpl ?_ (.inr ⟨b,rfl,hnc,by rw [flat_len syc_len]; simp [hsz],by unfold HA; rw [HP.set_eq]⟩) (.inr ⟨b,_,rfl,rfl⟩)
    rw [List.pairwise_iff_getElem]
    intro i j hi hj hij
    have:=hst i j (Nat.zero_le _) hij (by simpa [hsz] using hj)
    rw [getElem!_pos d' j (by simpa using hj),getElem!_pos d' i (by simpa using hi)] at this
    simpa using this
end Go.Proofs
set_option linter.unusedVariables false
namespace Go.HL
open Go
theorem perm_of_mapI {α β:Type} {f:α→β} (hf:∀ a b,f a=f b→a=b):∀ {l l':List α},(l.map f).Perm (l'.map f)→l.Perm l'
  | [],l',h=>by
    have:=h.length_eq
    simp at this
    rw [List.eq_nil_of_length_eq_zero this.symm]
  | a::l,l',h=>by
    classical
    have hm:f a∈l'.map f:=h.mem_iff.1 (by simp)
    obtain ⟨a',ha',e⟩:=List.mem_map.1 hm
    have:=hf _ _ e
    subst this
    have hp:=List.perm_cons_erase ha'
    refine List.Perm.trans ?_ hp.symm
    refine List.Perm.cons _ (perm_of_mapI hf ?_)
    have h2:=h.trans (hp.map f)
    simp only [List.map_cons] at h2
    exact h2.cons_inv
def cmpI (x y:Int):Int:=if x<y then -1 else if x > y then 1 else 0
theorem cmpI_lt {x y:Int}:decide (cmpI x y<0)=true↔x<y:=by
  unfold cmpI
  rw [decide_eq_true_iff]
  repeat' split
  all_goals omega
theorem cmpI_neg {x y:Int}:cmpI x y<0↔x<y:=by
  unfold cmpI
  repeat' split
  all_goals omega
theorem ltC_f {α:Type} (f:α→Int) (a b:α):(ltC (fun a b=>cmpI (f a) (f b)) a b=false)↔¬ (f a<f b):=by
  unfold ltC
  rw [decide_eq_false_iff_not]
  exact not_congr cmpI_neg
theorem swo_cmpI {α:Type} (f:α→Int):Sort.SWO (ltC fun a b=>cmpI (f a) (f b)) where
  irrefl x:=by
    have:¬ (ltC (fun a b=>cmpI (f a) (f b)) x x=true):=by unfold ltC; rw [cmpI_lt]; omega
    simpa using this
  trans x y z:=by unfold ltC; simp only [cmpI_lt]; omega
  ntrans x y z:=by
    have k:=ltC_f f
    rw [k,k,k]; omega
theorem order_eq {α:Type} {f:α→Int} {a b:List α} (ha:a.Pairwise (fun x y=>ltC (fun a b=>cmpI (f a) (f b)) y x=false)) (hb:(b.map f).Pairwise (· < ·)) (hp:a.Perm b):a=b:=by
  rw [List.pairwise_map] at hb
  have k:=ltC_f f
  have inj:∀ x∈b,∀ y∈b,f x=f y→x=y:=fun x hx y hy e=>by
    have hn:(b.map f).Nodup:=by
      unfold List.Nodup
      rw [List.pairwise_map]
      exact hb.imp fun h e=>by omega
    clear hb hp ha
    induction b with
    | nil=>cases hx
    | cons z b ih=>
      rw [List.map_cons,List.nodup_cons] at hn
      rcases List.mem_cons.1 hx with hx1 | hx1
      · rcases List.mem_cons.1 hy with hy1 | hy1
        · rw [hx1,hy1]
        · subst hx1; exact absurd (e▸List.mem_map.2 ⟨y,hy1,rfl⟩) hn.1
      · rcases List.mem_cons.1 hy with hy1 | hy1
        · subst hy1; exact absurd (e▸List.mem_map.2 ⟨x,hx1,rfl⟩) hn.1
        · exact ih hx1 hy1 hn.2
  refine List.Perm.eq_of_pairwise (le:=fun x y=>f x≤f y) (fun x y hx hy h1 h2=>inj x (hp.mem_iff.1 hx) y hy (by omega)) ?_ ?_ hp
  · refine ha.imp fun h=>?_
    rw [k] at h; omega
  · exact hb.imp fun h=>by omega
end Go.HL
set_option linter.unusedVariables false
set_option linter.unusedSimpArgs false
set_option maxRecDepth 20000
namespace Go.Proofs
open Go Go.HL
open Go.Exp (Th tlt Ord setW dropW insW)
theorem tupI_end (c:Value→Prop):tupI (.tuple #[.bool false]) 0 c=c (.bool false):=rfl
theorem tupI_go (a b:Value) (c:Value→Prop):tupI (.tuple #[.bool true,a,b]) 0 c=c (.bool true):=rfl
theorem tupI_snd (a b:Value) (c:Value→Prop):tupI (.tuple #[a,b]) 1 c=c b:=rfl
theorem C129 {x:Int} {hp:HP} {K:Value→HP→Prop} (h:K (.bool false) hp):CF Tryd.prog 129 [.int .i64 x] hp K:=by
  refine F129_ok x hp K ?_
  unfold F129
  simpa using h
theorem C101 {x y:Int} {hp:HP} {K:Value→HP→Prop} (h:K (.int .i64 (cmpI x y)) hp):CF Tryd.prog 101 [.int .i64 x,.int .i64 y] hp K:=by
  refine F101_ok x y hp K ?_
  unfold F101
  refine C129 ?_
  rw [boolV_bool]
  refine C129 ?_
  rw [boolV_bool,ite2_false,ite2_false]
  unfold cmpI at h
  by_cases h1:x<y
  · rw [if_pos h1] at h
    rw [decide_eq_true h1,ite2_true]; exact h
  rw [if_neg h1] at h
  rw [decide_eq_false h1,ite2_false]
  by_cases h2:x > y
  · rw [if_pos h2] at h
    rw [decide_eq_true h2,ite2_true]; exact h
  · rw [if_neg h2] at h
    rw [decide_eq_false h2,ite2_false]; exact h
theorem C100 {x y:Sy} {hp:HP} {K:Value→HP→Prop} (h:K (.int .i64 (cmpI x.id y.id)) hp):CF Tryd.prog 100 [.agg ⟨syc x⟩,.agg ⟨syc y⟩] hp K:=by
  refine F100_ok (syc x) (syc y) hp K ?_
  unfold F100
  simp only [syc_id,ldV_some,intV_int]
  refine C101 ?_
  rw [intV_int]
  exact h
section
variable {tb:Obj} {hq:HP} {s mx last:Nat} {L:List Sy} {w:List Th} {K:Value→HP→Prop}
theorem same_at {hp hp' h:HP} {b:Nat} (h1:HSub h hp) (h2:HSub h hp') (hb:h b≠.none):hp' b=hp b:=by
  rw [h1.some rfl hb,h2.some rfl hb]
set_option maxHeartbeats 2000000 in
theorem C55 (h:SyW tb hq s mx last L w) (hsm:L.length≤10000)
    (hK:∀ ps hp' a c,Parts hp' ps→ps 0=hq→Row (ps 1) a L.length c 62 13 (L.flatMap syc)→K (.slice a L.length c) hp'):CF Tryd.prog 55 [ptr s 0] hq K:=by
  refine F55_ok _ hq K ?_
  unfold F55
  refine C83 h ?_
  have hinv:=h.inv
  obtain ⟨qs,m,x,q,h1,h2,h3,h4,h5,h6,h7,h8⟩:=h
  have hc2:hq.cell s 2=some (.map (some m)):=HP.cell_of ((h1.sub 0).cells h2)
  have hM:=h3.sub (h1.sub 0)
  simp only [boolV_bool,ite2_false,ptrN_some,Nat.zero_add,hc2,ldV_some,mapV_map]
  refine opS_range u57 hM fun it e hit hI0=>?_
  unfold F55_j2
  have hme:hq m≠.none:=hM.ne
  have hmit:m≠it:=fun e'=>hme (by rw [e']; exact hit)
  refine LoopP.by (J:=fun k (st:Option Addr × Nat × Nat) hp=>∃ (ps:Nat→HP) (done:List (Int × Sy)),Parts hp ps∧ps 0=hq∧ps 2 it≠.none∧IterR hp it m iw syv (L.map fun y=>(y.id,y)) done ∧
      Row (ps 1) st.1 st.2.1 st.2.2 62 13 ((done.map (·.2)).flatMap syc)∧st.2.1=done.length∧k=L.length-done.length) ?_
    (n:=L.length) ⟨pu (pu (fun _ _=>.none) 0 hq) 2 (HP.set (fun _=>.none) it e),[],?_,by rw [pu_ne _ _ (by omega),pu_eq],?_,hI0,?_,rfl,by simp⟩
  rotate_left
  · have P0:=(Parts.one (HSub.refl hq)).new 2 hit e
    rwa [pu_ne _ _ (by omega)] at P0
  · rw [pu_eq,HP.set_eq]
    obtain ⟨o,ho⟩:=hI0.obj.1
    rw [HP.set_eq] at ho
    rw [ho]; simp
  · exact .inl ⟨rfl,rfl,rfl,rfl⟩
  rintro I k ⟨a,n,c⟩ hp ⟨ps,done,hP,h0,hit2,hI,hrow,hn,rfl⟩ hgo
  simp only at hrow hn
  subst hn
  unfold F55_l3
  have hlenI:=hI.len
  rw [List.length_map] at hlenI
  have hl1:=hinv.len
  have hl2:=hinv.mx
  refine opS_next hI ?_ ?_
  · intro hperm
    rw [tupI_end,boolV_bool,ite2_false]
    unfold F55_j1
    have hpm:(done.map (·.2)).Perm L:=by
      have h1:done.Perm (L.map fun y=>(y.id,y)):=by
        refine perm_of_mapI (f:=fun p:Int × Sy=>(iw p.1,syv p.2)) (fun a b e=>?_) hperm
        simp only [Prod.mk.injEq,iw,syv,Value.int.injEq,true_and,Value.agg.injEq] at e
        refine Prod.ext e.1 ?_
        have e2:=congrArg Array.toList e.2
        exact syc_inj.1 e2
      have h2:=h1.map (·.2)
      rw [List.map_map] at h2
      have e:((fun x:Int × Sy=>x.2) ∘ fun y:Sy=>(y.id,y))=id:=rfl
      rw [e,List.map_id] at h2
      exact h2
    have hdl:(done.map (·.2)).length=L.length:=hpm.length_eq
    have hdl':done.length=L.length:=by simpa using hdl
    refine S99 (swo_cmpI Sy.id) (hrow.sub (hP.sub 1)) (by simp) (by omega) ?_ ?_
    · intro b hb hp3 h3 d x y K' hsz hk
      exact C100 hk
    · intro ts' hp' hp1' hpw hrow' hh'
      have e:=order_eq (f:=Sy.id) hpw hinv.asc (hp1'.trans hpm)
      subst e
      rw [hdl'] at hrow' ⊢
      rcases hh' with rfl | ⟨b,e',hb,rfl⟩
      · refine hK ps hp' a c hP h0 ?_
        rcases hrow with ⟨r1,r2,r3,r4⟩ | ⟨b,r1,r2,r3,r4⟩
        · rcases hrow' with h | ⟨b,r1',_⟩
          · exact .inl h
          · rw [r1] at r1'; cases r1'
        · rcases hrow' with ⟨r1',_⟩ | ⟨b',r1',r2',r3',r4'⟩
          · rw [r1] at r1'; cases r1'
          · rw [r1] at r1'; cases r1'
            refine .inr ⟨b,r1,r2',r3',?_⟩
            rw [← (hP.sub 1).some rfl (by rw [r4]; simp)]; exact r4'
      · have hne:ps 1 b≠.none:=by
          rcases hrow with ⟨r1,_⟩ | ⟨b0,r1,_,_,r4⟩
          · rw [r1] at hb; cases hb
          · rw [r1] at hb; cases hb
            rw [r4]; simp
        refine hK _ _ a c (hP.put 1 hne e') (by rw [pu_ne _ _ (by omega)]; exact h0) ?_
        rw [pu_eq]
        rcases hrow' with ⟨r1',_⟩ | ⟨b',r1',r2',r3',r4'⟩
        · rw [hb] at r1'; cases r1'
        · rw [hb] at r1'; cases r1'
          rw [HP.set_eq] at r4'
          exact .inr ⟨b,hb,r2',r3',by rw [HP.set_eq]; exact r4'⟩
  · intro kv hkv e2 hI2
    have hlen2:=hI2.step_len
    rw [List.length_map] at hlen2
    obtain ⟨y,hy,rfl⟩:=List.mem_map.1 hkv
    rw [tupI_go,boolV_bool,ite2_true]
    refine rdS_entry hI2 ?_
    rw [tupI_snd]
    show aggV (.agg ⟨syc y⟩) _
    rw [aggV_agg]
    simp only [syz]
    refine ifI (syc_len y) ?_
    refine ifI (syc_one y) ?_
    refine ifI (by rw [syc_len,syc_len]; omega) ?_
    rw [syc_splice,syc_cells,ldL_some]
    refine ifI (syc_len y) ?_
    intro b3 hb3
    rw [syc_splice]
    have P1:=hP.put 2 hit2 e2
    have P2:Parts ((hp.set it e2).set b3 (.cells 62 (syc y) 0)) _:=P1.weak (HSub.set_fresh _ _ hb3)
    refine opS_appP (e:=62) (size:=13) (bytes:=64) (by kernel_rfl) P2 1 (s:=a) (n:=done.length) (c:=c) (xs:=(done.map (·.2)).flatMap syc) (by rw [pu_ne _ _ (by omega)]; exact hrow)
      (ys:=syc y) (.inr ⟨b3,0,rfl,by rw [HP.cellN_of (HP.set_eq ..)]; exact cellsN_all rfl⟩) (syc_one y) (by simp [syc]) (by omega) (by omega) ?_
    intro a2 c2 hp2 r hr P3
    rw [slcV_slice]
    have hit3:(pu ps 2 ((ps 2).set it e2)) 2 it≠.none:=by
      rw [pu_eq,HP.set_eq]
      obtain ⟨o,ho⟩:=hI2.obj.1
      rw [HP.set_eq] at ho
      rw [ho]; simp
    have k1:hp2 it=(hp.set it e2) it:=same_at (P1.sub 2) (P3.at 2 (by rw [pu_ne _ _ (by omega)])) hit3
    have k2:hp2 m=(hp.set it e2) m:=same_at (P1.at 0 (by rw [pu_ne _ _ (by omega)]; exact h0)) (P3.at 0 (by rw [pu_ne _ _ (by omega),pu_ne _ _ (by omega)]; exact h0)) hme
    refine hgo (L.length-(done.length+1)) _ _ (by omega) ⟨_,done++[(y.id,y)],P3,by rw [pu_ne _ _ (by omega),pu_ne _ _ (by omega)]; exact h0,by rw [pu_ne _ _ (by omega)]; exact hit3,hI2.keep k1 k2,?_,by simp,by simp⟩
    rw [pu_eq]
    show Row r a2 (done.length+1) c2 62 13 _
    rw [List.map_append,List.flatMap_append]
    simpa using hr
theorem N55 {ps:Nat→HP} {hp:HP} {i j:Nat} (hP:Parts hp ps) (hij:j≠i) (hj:∀ b,ps j b=.none) (h:SyW tb (ps i) s mx last L w) (hsm:L.length≤10000)
    (hK:∀ r hp' a c,Row r a L.length c 62 13 (L.flatMap syc)→Parts hp' (pu ps j r)→K (.slice a L.length c) hp'):CF Tryd.prog 55 [ptr s 0] hp K:=by
  refine CF.part hP i (C55 (K:=fun u q=>∃ qs a c,u=.slice a L.length c∧Parts q qs∧qs 0=ps i∧Row (qs 1) a L.length c 62 13 (L.flatMap syc)) h hsm
    fun qs hq' a c h1 h2 h3=>⟨qs,a,c,rfl,h1,h2,h3⟩) ?_
  rintro u q hp'' ⟨qs,a,c,rfl,h1,h2,h3⟩ hP'
  refine hK (qs 1) hp'' a c h3 ?_
  have:=hP'.split (i:=i) (j:=j) hij (fun b=>by rw [pu_ne _ _ hij]; exact hj b) (l:=qs 0) (r:=qs 1) (by rw [pu_eq]; exact h1.sub 0) (by rw [pu_eq]; exact h1.sub 1) (h1.dis 0 1 (by omega))
  have e:pu (pu (pu ps i q) i (qs 0)) j (qs 1)=pu ps j (qs 1):=by
    funext k
    by_cases h1:k=j
    · subst h1; rw [pu_eq,pu_eq]
    · rw [pu_ne _ _ h1,pu_ne _ _ h1]
      by_cases h4:k=i
      · subst h4; rw [pu_eq]; exact h2
      · rw [pu_ne _ _ h4,pu_ne _ _ h4]
  rw [e] at this
  exact this
end
end Go.Proofs
set_option linter.unusedVariables false
set_option linter.unusedSimpArgs false
set_option maxRecDepth 20000
namespace Go.Proofs
open Go Go.HL
open Go.Exp (Th tlt Ord setW dropW insW)
section
variable {tb:Obj} {hp:HP} {K:Value→HP→Prop}
end
end Go.Proofs
set_option linter.unusedVariables false
set_option maxRecDepth 20000
namespace Go.Proofs
open Go Go.HL
section
variable {e E:Env} {x0:OA} {x1 x2:List Value} {x7:Int} {k4 k5:List Value} {hp:HP} {K:Env→PV→HP→Prop}
abbrev R49 (p n:Nat):=RW Tryd.prog 40 [4,5] (opsAt Tryd.f49 (pth p)) (List.range n)
theorem F49_r0:R49 2 3 (w2 e 2 (sA x2) 1 (sA x1)) V0 hp K=
 K (w5 e 2 (sA x2) 1 (sA x1) 4 (sR 4 0) 5 (sR 5 0) 6 (sI 0)) (w2 V0 4 (34,x1) 5 (34,x2)) hp:= by kernel_rfl
theorem F49_r1:R49 133 7 (w2 e 7 (sI x7) 0 (sP x0)) (w2 V0 5 (34,k5) 4 (34,k4)) hp K=
 ptrN x0 fun b1 o2=>(ldV (HP.cell hp b1 (o2+2)) fun v3=>slcV v3 fun a4 n5 c6=>K (upd (w8 e 7 (sI x7) 0 (sP x0) 8 (sI x7) 9 (sP x0) 10 (sQ b1 o2) 11 (sQ b1 (o2+2)) 12 (sS a4 n5 c6) 13 (sI ((n5:Nat)))) 14 (sB ((decide (x7<n5))))) (w2 V0 5 (34,k5) 4 (34,k4)) hp):= by kernel_rfl
theorem F49_r2:R49 2341 2 (upd e 7 (sI x7)) V0 hp K=
 K (w3 e 7 (sI x7) 39 (sI x7) 6 (sI x7)) V0 hp:= by kernel_rfl
theorem F49_r3:R49 229 3 (upd e 7 (sI x7)) (w2 V0 5 (34,k5) 4 (34,k4)) hp K=
 K (w4 e 7 (sI x7) 15 (sI x7) 16 (sI ((wr (x7+1)))) 7 (sI ((wr (x7+1))))) (w2 V0 5 (34,k5) 4 (34,k4)) hp:= by kernel_rfl
def F49_j3 (x0:OA) (x7:Int) (x38:Bool) (k4 k5:List Value) (hp:HP) (I2:(Int)→HP→Prop) (K:Kh):Prop:=
  (ite2 x38 (K (.int .i64 x7) hp) (I2 (IntKind.wrap .i64 (x7+1)) hp))
theorem F49_r4 (h:E=upd (w3 e 7 (sI x7) 5 (sR 5 0) 4 (sR 4 0)) 0 (sP x0)):R49 549 22 E (w2 V0 5 (34,k5) 4 (34,k4)) hp K=
    (ptrN x0 fun b1 o2=>ldV (HP.cell hp b1 (o2+2)) fun v3=>slcV v3 fun a4 n5 c6=>(0≤x7)∧(x7<n5)∧(ptrN a4 fun b7 o8=>ldL (HP.cellN hp b7 ((o8+Int.toNat x7*13)+1) 5) fun l9=>ldL (cellsN k4 0 5) fun l10=>eqAgg Tryd.prog 34 l9 l10 fun q11=>ite2 q11 (ptrN x0 fun b12 o13=>ldV (HP.cell hp b12 (o13+2)) fun v14=>slcV v14 fun a15 n16 c17=>(0≤x7)∧(x7<n16)∧(ptrN a15 fun b18 o19=>ldL (HP.cellN hp b18 ((o19+Int.toNat x7*13)+6) 5) fun l20=>ldL (cellsN k5 0 5) fun l21=>eqAgg Tryd.prog 34 l20 l21 fun q22=>K (w6 (w8 (w8 E 17 (sP x0) 18 (sQ b1 o2) 19 (sQ b1 (o2+2)) 20 (sS a4 n5 c6) 21 (sI x7) 22 (sQ b7 (o8+Int.toNat x7*13)) 23 (sQ b7 ((o8+Int.toNat x7*13)+1)) 24 (sA l9)) 25 (sA l10) 26 (sB q11) 27 (sB true) 28 (sP x0) 29 (sQ b12 o13) 30 (sQ b12 (o13+2)) 31 (sS a15 n16 c17) 32 (sI x7)) 33 (sQ b18 (o19+Int.toNat x7*13)) 34 (sQ b18 ((o19+Int.toNat x7*13)+6)) 35 (sA l20) 36 (sA l21) 37 (sB q22) 38 (sB q22)) (w2 V0 5 (34,k5) 4 (34,k4)) hp)) (K (w6 (w8 (w8 E 17 (sP x0) 18 (sQ b1 o2) 19 (sQ b1 (o2+2)) 20 (sS a4 n5 c6) 21 (sI x7) 22 (sQ b7 (o8+Int.toNat x7*13)) 23 (sQ b7 ((o8+Int.toNat x7*13)+1)) 24 (sA l9)) 25 (sA l10) 26 (sB q11) 27 (sB false) 28 sU 29 sU 30 sU 31 sU 32 sU) 33 sU 34 sU 35 sU 36 sU 37 sU 38 (sB false)) (w2 V0 5 (34,k5) 4 (34,k4)) hp))):=by subst h; kernel_rfl
theorem F49_r5:R49 11 1 e V0 hp K=
 K (upd e 6 (sI ((-1)))) V0 hp:= by kernel_rfl
def F49_l2 (x0:OA) (k4 k5:List Value) (K:Kh) (I2:(Int)→HP→Prop) (x7:Int) (hp:HP):Prop:=
  (ptrN x0 fun b1 o2=>ldV (HP.cell hp b1 (o2+2)) fun v3=>slcV v3 fun a4 n5 c6=>ite2 (decide (x7<n5)) (ptrN x0 fun b7 o8=>ldV (HP.cell hp b7 (o8+2)) fun v9=>slcV v9 fun a10 n11 c12=>(0≤x7)∧(x7<n11)∧(ptrN a10 fun b13 o14=>ldL (HP.cellN hp b13 ((o14+Int.toNat x7*13)+1) 5) fun l15=>ldL (cellsN k4 0 5) fun l16=>eqAgg Tryd.prog 34 l15 l16 fun q17=>ite2 q17 (ptrN x0 fun b18 o19=>ldV (HP.cell hp b18 (o19+2)) fun v20=>slcV v20 fun a21 n22 c23=>(0≤x7)∧(x7<n22)∧(ptrN a21 fun b24 o25=>ldL (HP.cellN hp b24 ((o25+Int.toNat x7*13)+6) 5) fun l26=>ldL (cellsN k5 0 5) fun l27=>eqAgg Tryd.prog 34 l26 l27 fun q28=>F49_j3 x0 x7 q28 k4 k5 hp I2 K)) (F49_j3 x0 x7 false k4 k5 hp I2 K))) (K (.int .i64 (-1)) hp))
def F49_j1 (x0:OA) (x7:Int) (k4 k5:List Value) (hp:HP) (K:Kh):Prop:=
  (LoopP (σ:=Int) (fun I s hp=>F49_l2 x0 k4 k5  K I s hp) x7 hp)
theorem F49_r6:R49 9 1 e (w2 V0 5 (34,k5) 4 (34,k4)) hp K=
 K (upd e 7 (sI 0)) (w2 V0 5 (34,k5) 4 (34,k4)) hp:= by kernel_rfl
def F49 (x0:OA) (x1 x2:List Value) (hp:HP) (K:Kh):Prop:=
  (F49_j1 x0 0 x1 x2 hp  K)
noncomputable abbrev o49 (k n:Nat):Code:=.region k (opsAt Tryd.f49 (pth n)) false
noncomputable def F49_code:Code:=(.seq (o49 0 2) (.seq (.seq (o49 1 9) (.block 0 (.loop (.seq (.seq (o49 2 133) (.cond (.tmp 14) .skip (.exit 0))) (.seq (.block 1 (.seq (.region 4 (opsAt Tryd.f49 (pth 549)) true) (.cond (.tmp 38) (.seq (o49 5 2341) .ret) .skip))) (o49 3 229)))))) (.seq (o49 6 11) .ret)))
theorem F49_body:Tryd.f49.body=some F49_code:=by kernel_rfl
theorem F49_ok (x0:OA) (x1 x2:List Value) (hp:HP) (K:Kh) (h:F49 x0 x1 x2 hp K):CF Tryd.prog 49 [(.pointer x0),(.agg ⟨x1⟩),(.agg ⟨x2⟩)] hp K:=by
 refine .inl ⟨by kernel_rfl,AC.intro (N:=40) Tryd.func49 F49_body rfl (Nat.le_of_ble_eq_true rfl) ?_⟩
 unfold F49 at h
 refine Ar F49_r0 ?_ (r3 1 2 0 Rn) (z3 Sn) Sn
 refine Aq (As (fun env pv hp=>∃ x0 x7 k4 k5,Sub (w4 E0 7 (sI x7) 5 (sR 5 0) 4 (sR 4 0) 0 (sP x0)) env∧Sub (w2 V0 5 (34,k5) 4 (34,k4)) pv∧(F49_j1 x0 x7 k4 k5 hp  K)) ?_ ?_)
 ·refine Ag F49_r6 ?_ (r1 0 (rp 4 4 0 (rp 5 5 0 Rn))) (z3 Sn) (z2 Sn)
  exact ⟨_,_,_,_,(z4 Sn),(z2 Sn),h⟩
 ·rintro env pv hp ⟨x0,x7,k4,k5,he,hv,h⟩
  refine Ae ?_ (r1 0 (rp 4 4 0 (rp 5 5 0 (r1 7 Rn)))) he hv
  unfold F49_j1 at h
  refine AWP.block (AWP.loop (σ:=Int) _ (fun s=>w4 E0 7 (sI s) 5 (sR 5 0) 4 (sR 4 0) 0 (sP x0)) (fun s=>w2 V0 5 (34,k5) 4 (34,k4)) x7 h (fun s=>r1 0 (rp 4 4 0 (rp 5 5 0 (r1 7 Rn)))) (z4 Sn) (z2 Sn) ?_)
  intro I2 x7 hp h
  replace h:F49_l2 x0 k4 k5  K I2 x7 hp:=h
  unfold F49_l2 at h
  refine Aq (Ar F49_r1 ?_ (r2 0 7 (rp 4 4 0 (rp 5 5 0 Rn))) (z4 Sn) (z2 Sn))
  refine mN h fun b1 o2 h=>mV h fun v3 h=>mS h fun a4 n5 c6 h=>?_
  refine Ac h rfl (fun h=>?_) (fun h=>?_)
  ·refine AWP.skip (Aq (AWP.block (As (fun env pv hp=>∃ x7 x38,Sub (w5 E0 38 (sB x38) 7 (sI x7) 5 (sR 5 0) 4 (sR 4 0) 0 (sP x0)) env∧Sub (w2 V0 5 (34,k5) 4 (34,k4)) pv∧(F49_j3 x0 x7 x38 k4 k5 hp I2 K)) ?_ ?_)))
   ·refine AWP.rgnD (by kernel_rfl) (by kernel_rfl) (F49_r4 rfl) ?_ (r1 0 (rp 4 4 0 (rp 5 5 0 (r1 7 Rn)))) (z4 Sn) (z2 Sn)
    refine mN h (fun b7 o8 h=>mV h (fun v9 h=>mS h (fun a10 n11 c12 h=>⟨h.1,h.2.1,mN h.2.2 fun b13 o14 h=>mL h fun l15 h=>mL h fun l16 h=>mE h fun q17 h=>?_⟩)))
    refine mt h (fun h=>?_) (fun h=>?_)
    ·refine mN h (fun b18 o19 h=>mV h (fun v20 h=>mS h (fun a21 n22 c23 h=>⟨h.1,h.2.1,mN h.2.2 fun b24 o25 h=>mL h fun l26 h=>mL h fun l27 h=>mE h fun q28 h=>?_⟩)))
     exact ⟨_,_,(z5 Sn),(z2 Sn),h⟩
    ·exact ⟨_,_,(z5 Sn),(z2 Sn),h⟩
   ·rintro env pv hp ⟨x7,x38,he,hv,h⟩
    refine Ae ?_ (r1 0 (rp 4 4 0 (rp 5 5 0 (r2 7 38 Rn)))) he hv
    unfold F49_j3 at h
    refine Ac h rfl (fun h=>?_) (fun h=>?_)
    ·refine Ar F49_r2 ?_ (r1 7 Rn) (z1 Sn) Sn
     refine AWP.ret ?_
     exact h
    ·refine AWP.skip (Ag F49_r3 ?_ (r2 7 0 (rp 4 4 0 (rp 5 5 0 Rn))) (z4 Sn) (z2 Sn))
     exact ⟨_,(z4 Sn),(z2 Sn),h⟩
  ·refine AWP.exit ?_
   refine Ar F49_r5 ?_ Rn Sn Sn
   refine AWP.ret ?_
   exact h
end
section
variable {e E:Env} {x0 x1 k2 k3:List Value} {hp:HP} {K:Env→PV→HP→Prop}
abbrev R50 (p n:Nat):=RW Tryd.prog 38 [2,3,5,7,11,13,18,20,25,27,32,34] (opsAt Tryd.f50 (pth p)) (List.range n)
theorem F50_r0:R50 2 3 (w2 e 1 (sA x1) 0 (sA x0)) V0 hp K=
 K (w5 e 1 (sA x1) 0 (sA x0) 2 (sR 2 0) 3 (sR 3 0) 4 (sB false)) (w2 V0 2 (62,x0) 3 (93,x1)) hp:= by kernel_rfl
theorem F50_r1 (h:E=upd (upd e 3 (sR 3 0)) 2 (sR 2 0)):R50 5 34 E (w2 V0 3 (93,k3) 2 (62,k2)) hp K=
 ldV (k2)[0]? fun v1=>(intV v1 .i64 fun i2=>ldV (k3)[0]? fun v3=>intV v3 .i64 fun i4=>ite2 (i2==i4) (ldL (cellsN k2 1 5) fun l5=>ldL (cellsN k3 1 5) fun l6=>eqAgg Tryd.prog 34 l5 l6 fun q7=>ite2 q7 (ldL (cellsN k2 6 5) fun l8=>ldL (cellsN k3 6 5) fun l9=>eqAgg Tryd.prog 34 l8 l9 fun q10=>ite2 q10 (ldV (k2)[11]? fun v11=>intV v11 .i64 fun i12=>ldV (k3)[11]? fun v13=>intV v13 .i64 fun i14=>ite2 (i12==i14) (ldV (k2)[12]? fun v15=>strV v15 fun s16=>ldV (k3)[12]? fun v17=>strV v17 fun s18=>K (w2 (w8 (w8 (w8 (w8 E 5 (sR 2 0) 6 (sI i2) 7 (sR 3 0) 8 (sI i4) 9 (sB ((i2==i4))) 10 (sB true) 11 (sR 2 1) 12 (sA l5)) 13 (sR 3 1) 14 (sA l6) 15 (sB q7) 16 (sB q7) 17 (sB true) 18 (sR 2 6) 19 (sA l8) 20 (sR 3 6)) 21 (sA l9) 22 (sB q10) 23 (sB q10) 24 (sB true) 25 (sR 2 11) 26 (sI i12) 27 (sR 3 11) 28 (sI i14)) 29 (sB ((i12==i14))) 30 (sB ((i12==i14))) 31 (sB true) 32 (sR 2 12) 33 (sT s16) 34 (sR 3 12) 35 (sT s18) 36 (sB (((ByteArray.toList s16)==(ByteArray.toList s18))))) 37 (sB (((ByteArray.toList s16)==(ByteArray.toList s18)))) 4 (sB (((ByteArray.toList s16)==(ByteArray.toList s18))))) (w2 V0 3 (93,k3) 2 (62,k2)) hp) (K (w2 (w8 (w8 (w8 (w8 E 5 (sR 2 0) 6 (sI i2) 7 (sR 3 0) 8 (sI i4) 9 (sB ((i2==i4))) 10 (sB true) 11 (sR 2 1) 12 (sA l5)) 13 (sR 3 1) 14 (sA l6) 15 (sB q7) 16 (sB q7) 17 (sB true) 18 (sR 2 6) 19 (sA l8) 20 (sR 3 6)) 21 (sA l9) 22 (sB q10) 23 (sB q10) 24 (sB true) 25 (sR 2 11) 26 (sI i12) 27 (sR 3 11) 28 (sI i14)) 29 (sB ((i12==i14))) 30 (sB ((i12==i14))) 31 (sB false) 32 sU 33 sU 34 sU 35 sU 36 sU) 37 (sB false) 4 (sB false)) (w2 V0 3 (93,k3) 2 (62,k2)) hp)) (K (w2 (w8 (w8 (w8 (w8 E 5 (sR 2 0) 6 (sI i2) 7 (sR 3 0) 8 (sI i4) 9 (sB ((i2==i4))) 10 (sB true) 11 (sR 2 1) 12 (sA l5)) 13 (sR 3 1) 14 (sA l6) 15 (sB q7) 16 (sB q7) 17 (sB true) 18 (sR 2 6) 19 (sA l8) 20 (sR 3 6)) 21 (sA l9) 22 (sB q10) 23 (sB q10) 24 (sB false) 25 sU 26 sU 27 sU 28 sU) 29 sU 30 (sB false) 31 (sB false) 32 sU 33 sU 34 sU 35 sU 36 sU) 37 (sB false) 4 (sB false)) (w2 V0 3 (93,k3) 2 (62,k2)) hp)) (K (w2 (w8 (w8 (w8 (w8 E 5 (sR 2 0) 6 (sI i2) 7 (sR 3 0) 8 (sI i4) 9 (sB ((i2==i4))) 10 (sB true) 11 (sR 2 1) 12 (sA l5)) 13 (sR 3 1) 14 (sA l6) 15 (sB q7) 16 (sB q7) 17 (sB false) 18 sU 19 sU 20 sU) 21 sU 22 sU 23 (sB false) 24 (sB false) 25 sU 26 sU 27 sU 28 sU) 29 sU 30 (sB false) 31 (sB false) 32 sU 33 sU 34 sU 35 sU 36 sU) 37 (sB false) 4 (sB false)) (w2 V0 3 (93,k3) 2 (62,k2)) hp)) (K (w2 (w8 (w8 (w8 (w8 E 5 (sR 2 0) 6 (sI i2) 7 (sR 3 0) 8 (sI i4) 9 (sB ((i2==i4))) 10 (sB false) 11 sU 12 sU) 13 sU 14 sU 15 sU 16 (sB false) 17 (sB false) 18 sU 19 sU 20 sU) 21 sU 22 sU 23 (sB false) 24 (sB false) 25 sU 26 sU 27 sU 28 sU) 29 sU 30 (sB false) 31 (sB false) 32 sU 33 sU 34 sU 35 sU 36 sU) 37 (sB false) 4 (sB false)) (w2 V0 3 (93,k3) 2 (62,k2)) hp)):= by subst h; kernel_rfl
def F50 (x0 x1:List Value) (hp:HP) (K:Kh):Prop:=
  (ldV (x0)[0]? fun v1=>intV v1 .i64 fun i2=>ldV (x1)[0]? fun v3=>intV v3 .i64 fun i4=>ite2 (i2==i4) (ldL (cellsN x0 1 5) fun l5=>ldL (cellsN x1 1 5) fun l6=>eqAgg Tryd.prog 34 l5 l6 fun q7=>ite2 q7 (ldL (cellsN x0 6 5) fun l8=>ldL (cellsN x1 6 5) fun l9=>eqAgg Tryd.prog 34 l8 l9 fun q10=>ite2 q10 (ldV (x0)[11]? fun v11=>intV v11 .i64 fun i12=>ldV (x1)[11]? fun v13=>intV v13 .i64 fun i14=>ite2 (i12==i14) (ldV (x0)[12]? fun v15=>strV v15 fun s16=>ldV (x1)[12]? fun v17=>strV v17 fun s18=>K (.bool ((ByteArray.toList s16)==(ByteArray.toList s18))) hp) (K (.bool false) hp)) (K (.bool false) hp)) (K (.bool false) hp)) (K (.bool false) hp))
noncomputable def F50_code:Code:=(.seq (.region 0 (opsAt Tryd.f50 (pth 2)) false) (.seq (.region 1 (opsAt Tryd.f50 (pth 5)) false) .ret))
theorem F50_body:Tryd.f50.body=some F50_code:=by kernel_rfl
theorem F50_ok (x0 x1:List Value) (hp:HP) (K:Kh) (h:F50 x0 x1 hp K):CF Tryd.prog 50 [(.agg ⟨x0⟩),(.agg ⟨x1⟩)] hp K:=by
 refine .inl ⟨by kernel_rfl,AC.intro (N:=38) Tryd.func50 F50_body rfl (Nat.le_of_ble_eq_true rfl) ?_⟩
 unfold F50 at h
 refine Ar F50_r0 ?_ (r2 0 1 Rn) (z2 Sn) Sn
 refine Ar (F50_r1 rfl) ?_ (rp 2 2 0 (rp 3 3 0 Rn)) (z2 Sn) (z2 Sn)
 refine mV h fun v1 h=>mI h fun i2 h=>mV h fun v3 h=>mI h fun i4 h=>?_
 refine mt h (fun h=>?_) (fun h=>?_)
 ·refine mL h fun l5 h=>mL h fun l6 h=>mE h fun q7 h=>?_
  refine mt h (fun h=>?_) (fun h=>?_)
  ·refine mL h fun l8 h=>mL h fun l9 h=>mE h fun q10 h=>?_
   refine mt h (fun h=>?_) (fun h=>?_)
   ·refine mV h fun v11 h=>mI h fun i12 h=>mV h fun v13 h=>mI h fun i14 h=>?_
    refine mt h (fun h=>?_) (fun h=>?_)
    ·refine mV h fun v15 h=>ms h fun s16 h=>mV h fun v17 h=>ms h fun s18 h=>?_
     refine AWP.ret ?_
     exact h
    ·refine AWP.ret ?_
     exact h
   ·refine AWP.ret ?_
    exact h
  ·refine AWP.ret ?_
   exact h
 ·refine AWP.ret ?_
  exact h
end
section
variable {e:Env} {x0:OA} {x1:Int} {k4 k5:List Value} {hp:HP} {K:Env→PV→HP→Prop}
abbrev R52 (p n:Nat):=RW Tryd.prog 33 [4,5] (opsAt Tryd.f52 (pth p)) (List.range n)
theorem F52_r0:R52 2 1 e V0 hp K=
 K (upd e 4 (sR 4 0)) (upd V0 4 (93,[.int .i64 0,.int .u8 0,.int .u8 0,.int .u8 0,.int .u8 0,.int .i64 0,.int .u8 0,.int .u8 0,.int .u8 0,.int .u8 0,.int .i64 0,.int .i64 0,.string ⟨#[]⟩])) hp:= by kernel_rfl
theorem F52_r1:R52 5 9 (w2 e 1 (sI x1) 0 (sP x0)) (upd V0 4 (93,k4)) hp K=
    (ptrN x0 fun b1 o2=>ldV (HP.cell hp b1 (o2+2)) fun v3=>slcV v3 fun a4 n5 c6=>(0≤x1)∧(x1<n5)∧(ptrN a4 fun b7 o8=>ldL (HP.cellN hp b7 (o8+Int.toNat x1*13) 13) fun l9=>if List.length l9=13 then (if List.all l9 one=true then (if 0+List.length l9≤List.length [(Value.int .i64 0),.int .u8 0,.int .u8 0,.int .u8 0,.int .u8 0,.int .i64 0,.int .u8 0,.int .u8 0,.int .u8 0,.int .u8 0,.int .i64 0,.int .i64 0,.string ⟨#[]⟩] then (K (w2 (w8 e 1 (sI x1) 0 (sP x0) 6 (sP x0) 7 (sQ b1 o2) 8 (sQ b1 (o2+2)) 9 (sS a4 n5 c6) 10 (sI x1) 11 (sQ b7 (o8+Int.toNat x1*13))) 12 (sA l9) 5 (sR 5 0)) (w3 V0 4 (93,k4) 5 (93,[.int .i64 0,.int .u8 0,.int .u8 0,.int .u8 0,.int .u8 0,.int .i64 0,.int .u8 0,.int .u8 0,.int .u8 0,.int .u8 0,.int .i64 0,.int .i64 0,.string ⟨#[]⟩]) 5 (93,(splice [.int .i64 0,.int .u8 0,.int .u8 0,.int .u8 0,.int .u8 0,.int .i64 0,.int .u8 0,.int .u8 0,.int .u8 0,.int .u8 0,.int .i64 0,.int .i64 0,.string ⟨#[]⟩] 0 l9))) hp) else False) else False) else False)):=by kernel_rfl
theorem F52_r2:R52 23 2 (w2 e 5 (sR 5 0) 4 (sR 4 0)) (w2 V0 5 (93,k5) 4 (93,k4)) hp K=
 ldL (cellsN k5 0 13) fun l1=>(if List.length l1=13 then (if List.all l1 one=true then (if 0+List.length l1≤List.length k4 then (K (w3 e 5 (sR 5 0) 4 (sR 4 0) 32 (sA l1)) (w3 V0 5 (93,k5) 4 (93,k4) 4 (93,(splice k4 0 l1))) hp) else False) else False) else False):= by kernel_rfl
def F52_j1 (k4 k5:List Value) (hp:HP) (K:Kh):Prop:=
  (ldL (cellsN k5 0 13) fun l10=>if List.length l10=13 then (if List.all l10 one=true then (if 0+List.length l10≤List.length k4 then (ldL (cellsN (splice k4 0 l10) 0 13) fun l11=>K (.agg ⟨l11⟩) hp) else False) else False) else False)
theorem F52_r3 {e:Env} {x0:OA} {x1:Int} {k4:List Value} {k5:List Value} {hp:HP} {K:Env→PV→HP→Prop}:RW Tryd.prog 33 [4,5] (opsAt Tryd.f52 (pth 11)) [0,1,2,3,4,5,6,7,8,9,10,11,12,13,14,15,16,17,18,19] (w2 e 1 (sI x1) 0 (sP x0)) (w2 V0 5 (93,k5) 4 (93,k4)) hp K=
    (∀ b1:Nat,hp b1=.none→(ptrN x0 fun b2 o3=>ldV (HP.cell (HP.set hp b1 (.cells 93 [] 0)) b2 (o3+2)) fun v4=>slcV v4 fun a5 n6 c7=>(0≤x1)∧(x1≤(c7:Nat))∧(opS Tryd.prog (Builtin.append_ #[88,88] 88 ⟨[(.slice (some ⟨b1,0,none⟩) 0 0),(.slice a5 (Int.toNat x1) c7)]⟩) (HP.set hp b1 (.cells 93 [] 0)) fun u8 h9=>slcV u8 fun a10 n11 c12=>ptrN x0 fun b13 o14=>ldV (HP.cell h9 b13 (o14+2)) fun v15=>slcV v15 fun a16 n17 c18=>(0≤((wr (x1+1)):Int))∧(((wr (x1+1)):Int)≤n17)∧(n17≤c18)∧(opS Tryd.prog (Builtin.append_ #[88,88] 88 ⟨[(.slice a10 n11 c12),(.slice (sub0 a16 c18 (Int.toNat (wr (x1+1))) 13) (n17-Int.toNat (wr (x1+1))) (c18-Int.toNat (wr (x1+1))))]⟩) h9 fun u19 h20=>slcV u19 fun a21 n22 c23=>ptrN x0 fun b24 o25=>HP.st h20 b24 (o25+2) (.slice a21 n22 c23) fun h26=>K (w5 (w8 (w8 e 1 (sI x1) 0 (sP x0) 13 (sP x0) 14 (sV (.slice (some ⟨b1,0,none⟩) 0 0)) 15 (sP x0) 16 (sQ b2 o3) 17 (sQ b2 (o3+2)) 18 (sS a5 n6 c7)) 19 (sI x1) 20 (sV (.slice a5 (Int.toNat x1) c7)) 21 (sS a10 n11 c12) 22 (sP x0) 23 (sQ b13 o14) 24 (sQ b13 (o14+2)) 25 (sS a16 n17 c18) 26 (sI x1)) 27 (sI ((wr (x1+1)))) 28 (sV (.slice (sub0 a16 c18 (Int.toNat (wr (x1+1))) 13) (n17-Int.toNat (wr (x1+1))) (c18-Int.toNat (wr (x1+1))))) 29 (sS a21 n22 c23) 30 (sQ b24 o25) 31 (sQ b24 (o25+2))) (w2 V0 5 (93,k5) 4 (93,k4)) h26)))):=by kernel_rfl
theorem F52_r4 {e:Env} {x0:OA} {x1:Int} {k4:List Value} {k5:List Value} {hp:HP} {K:Env→PV→HP→Prop}:RW Tryd.prog 33 [4,5] (opsAt Tryd.f52 (pth 11)) [0,1,2,3,4,5,6,7,9,10,11,12,8,13,14,15,16,17,18,19] (w2 e 1 (sI x1) 0 (sP x0)) (w2 V0 5 (93,k5) 4 (93,k4)) hp K=
    (∀ b1:Nat,hp b1=.none→(ptrN x0 fun b2 o3=>ldV (HP.cell (HP.set hp b1 (.cells 93 [] 0)) b2 (o3+2)) fun v4=>slcV v4 fun a5 n6 c7=>(0≤x1)∧(x1≤(c7:Nat))∧(ptrN x0 fun b8 o9=>ldV (HP.cell (HP.set hp b1 (.cells 93 [] 0)) b8 (o9+2)) fun v10=>slcV v10 fun a11 n12 c13=>opS Tryd.prog (Builtin.append_ #[88,88] 88 ⟨[(.slice (some ⟨b1,0,none⟩) 0 0),(.slice a5 (Int.toNat x1) c7)]⟩) (HP.set hp b1 (.cells 93 [] 0)) fun u14 h15=>slcV u14 fun a16 n17 c18=>(0≤((wr (x1+1)):Int))∧(((wr (x1+1)):Int)≤n12)∧(n12≤c13)∧(opS Tryd.prog (Builtin.append_ #[88,88] 88 ⟨[(.slice a16 n17 c18),(.slice (sub0 a11 c13 (Int.toNat (wr (x1+1))) 13) (n12-Int.toNat (wr (x1+1))) (c13-Int.toNat (wr (x1+1))))]⟩) h15 fun u19 h20=>slcV u19 fun a21 n22 c23=>ptrN x0 fun b24 o25=>HP.st h20 b24 (o25+2) (.slice a21 n22 c23) fun h26=>K (w5 (w8 (w8 e 1 (sI x1) 0 (sP x0) 13 (sP x0) 14 (sV (.slice (some ⟨b1,0,none⟩) 0 0)) 15 (sP x0) 16 (sQ b2 o3) 17 (sQ b2 (o3+2)) 18 (sS a5 n6 c7)) 19 (sI x1) 20 (sV (.slice a5 (Int.toNat x1) c7)) 22 (sP x0) 23 (sQ b8 o9) 24 (sQ b8 (o9+2)) 25 (sS a11 n12 c13) 21 (sS a16 n17 c18) 26 (sI x1)) 27 (sI ((wr (x1+1)))) 28 (sV (.slice (sub0 a11 c13 (Int.toNat (wr (x1+1))) 13) (n12-Int.toNat (wr (x1+1))) (c13-Int.toNat (wr (x1+1))))) 29 (sS a21 n22 c23) 30 (sQ b24 o25) 31 (sQ b24 (o25+2))) (w2 V0 5 (93,k5) 4 (93,k4)) h26)))):=by kernel_rfl
theorem F52_r5 {e:Env} {x0:OA} {x1:Int} {k4:List Value} {k5:List Value} {hp:HP} {K:Env→PV→HP→Prop}:RW Tryd.prog 33 [4,5] (opsAt Tryd.f52 (pth 11)) [0,2,3,4,6,9,10,11,12,1,5,7,8,13,14,15,16,17,18,19] (w2 e 1 (sI x1) 0 (sP x0)) (w2 V0 5 (93,k5) 4 (93,k4)) hp K=
    (ptrN x0 fun b1 o2=>ptrN x0 fun b3 o4=>ldV (HP.cell hp b3 (o4+2)) fun v5=>slcV v5 fun a6 n7 c8=>∀ b9:Nat,hp b9=.none→(ldV (HP.cell (HP.set hp b9 (.cells 93 [] 0)) b1 (o2+2)) fun v10=>slcV v10 fun a11 n12 c13=>(0≤x1)∧(x1≤(c13:Nat))∧(opS Tryd.prog (Builtin.append_ #[88,88] 88 ⟨[(.slice (some ⟨b9,0,none⟩) 0 0),(.slice a11 (Int.toNat x1) c13)]⟩) (HP.set hp b9 (.cells 93 [] 0)) fun u14 h15=>slcV u14 fun a16 n17 c18=>(0≤((wr (x1+1)):Int))∧(((wr (x1+1)):Int)≤n7)∧(n7≤c8)∧(opS Tryd.prog (Builtin.append_ #[88,88] 88 ⟨[(.slice a16 n17 c18),(.slice (sub0 a6 c8 (Int.toNat (wr (x1+1))) 13) (n7-Int.toNat (wr (x1+1))) (c8-Int.toNat (wr (x1+1))))]⟩) h15 fun u19 h20=>slcV u19 fun a21 n22 c23=>ptrN x0 fun b24 o25=>HP.st h20 b24 (o25+2) (.slice a21 n22 c23) fun h26=>K (w5 (w8 (w8 e 1 (sI x1) 0 (sP x0) 13 (sP x0) 15 (sP x0) 16 (sQ b1 o2) 17 (sQ b1 (o2+2)) 19 (sI x1) 22 (sP x0)) 23 (sQ b3 o4) 24 (sQ b3 (o4+2)) 25 (sS a6 n7 c8) 14 (sV (.slice (some ⟨b9,0,none⟩) 0 0)) 18 (sS a11 n12 c13) 20 (sV (.slice a11 (Int.toNat x1) c13)) 21 (sS a16 n17 c18) 26 (sI x1)) 27 (sI ((wr (x1+1)))) 28 (sV (.slice (sub0 a6 c8 (Int.toNat (wr (x1+1))) 13) (n7-Int.toNat (wr (x1+1))) (c8-Int.toNat (wr (x1+1))))) 29 (sS a21 n22 c23) 30 (sQ b24 o25) 31 (sQ b24 (o25+2))) (w2 V0 5 (93,k5) 4 (93,k4)) h26)))):=by kernel_rfl
theorem F52_r6 {e:Env} {x0:OA} {x1:Int} {k4:List Value} {k5:List Value} {hp:HP} {K:Env→PV→HP→Prop}:RW Tryd.prog 33 [4,5] (opsAt Tryd.f52 (pth 11)) [0,2,3,4,5,1,6,7,8,9,10,11,12,13,14,15,16,17,18,19] (w2 e 1 (sI x1) 0 (sP x0)) (w2 V0 5 (93,k5) 4 (93,k4)) hp K=
    (ptrN x0 fun b1 o2=>ldV (HP.cell hp b1 (o2+2)) fun v3=>slcV v3 fun a4 n5 c6=>∀ b7:Nat,hp b7=.none→((0≤x1)∧(x1≤(c6:Nat))∧(opS Tryd.prog (Builtin.append_ #[88,88] 88 ⟨[(.slice (some ⟨b7,0,none⟩) 0 0),(.slice a4 (Int.toNat x1) c6)]⟩) (HP.set hp b7 (.cells 93 [] 0)) fun u8 h9=>slcV u8 fun a10 n11 c12=>ptrN x0 fun b13 o14=>ldV (HP.cell h9 b13 (o14+2)) fun v15=>slcV v15 fun a16 n17 c18=>(0≤((wr (x1+1)):Int))∧(((wr (x1+1)):Int)≤n17)∧(n17≤c18)∧(opS Tryd.prog (Builtin.append_ #[88,88] 88 ⟨[(.slice a10 n11 c12),(.slice (sub0 a16 c18 (Int.toNat (wr (x1+1))) 13) (n17-Int.toNat (wr (x1+1))) (c18-Int.toNat (wr (x1+1))))]⟩) h9 fun u19 h20=>slcV u19 fun a21 n22 c23=>ptrN x0 fun b24 o25=>HP.st h20 b24 (o25+2) (.slice a21 n22 c23) fun h26=>K (w5 (w8 (w8 e 1 (sI x1) 0 (sP x0) 13 (sP x0) 15 (sP x0) 16 (sQ b1 o2) 17 (sQ b1 (o2+2)) 18 (sS a4 n5 c6) 14 (sV (.slice (some ⟨b7,0,none⟩) 0 0))) 19 (sI x1) 20 (sV (.slice a4 (Int.toNat x1) c6)) 21 (sS a10 n11 c12) 22 (sP x0) 23 (sQ b13 o14) 24 (sQ b13 (o14+2)) 25 (sS a16 n17 c18) 26 (sI x1)) 27 (sI ((wr (x1+1)))) 28 (sV (.slice (sub0 a16 c18 (Int.toNat (wr (x1+1))) 13) (n17-Int.toNat (wr (x1+1))) (c18-Int.toNat (wr (x1+1))))) 29 (sS a21 n22 c23) 30 (sQ b24 o25) 31 (sQ b24 (o25+2))) (w2 V0 5 (93,k5) 4 (93,k4)) h26)))):=by kernel_rfl
theorem F52_r7 {e:Env} {x0:OA} {x1:Int} {k4:List Value} {k5:List Value} {hp:HP} {K:Env→PV→HP→Prop}:RW Tryd.prog 33 [4,5] (opsAt Tryd.f52 (pth 11)) [0,2,3,4,5,1,6,7,9,10,11,12,8,13,14,15,16,17,18,19] (w2 e 1 (sI x1) 0 (sP x0)) (w2 V0 5 (93,k5) 4 (93,k4)) hp K=
    (ptrN x0 fun b1 o2=>ldV (HP.cell hp b1 (o2+2)) fun v3=>slcV v3 fun a4 n5 c6=>∀ b7:Nat,hp b7=.none→((0≤x1)∧(x1≤(c6:Nat))∧(ptrN x0 fun b8 o9=>ldV (HP.cell (HP.set hp b7 (.cells 93 [] 0)) b8 (o9+2)) fun v10=>slcV v10 fun a11 n12 c13=>opS Tryd.prog (Builtin.append_ #[88,88] 88 ⟨[(.slice (some ⟨b7,0,none⟩) 0 0),(.slice a4 (Int.toNat x1) c6)]⟩) (HP.set hp b7 (.cells 93 [] 0)) fun u14 h15=>slcV u14 fun a16 n17 c18=>(0≤((wr (x1+1)):Int))∧(((wr (x1+1)):Int)≤n12)∧(n12≤c13)∧(opS Tryd.prog (Builtin.append_ #[88,88] 88 ⟨[(.slice a16 n17 c18),(.slice (sub0 a11 c13 (Int.toNat (wr (x1+1))) 13) (n12-Int.toNat (wr (x1+1))) (c13-Int.toNat (wr (x1+1))))]⟩) h15 fun u19 h20=>slcV u19 fun a21 n22 c23=>ptrN x0 fun b24 o25=>HP.st h20 b24 (o25+2) (.slice a21 n22 c23) fun h26=>K (w5 (w8 (w8 e 1 (sI x1) 0 (sP x0) 13 (sP x0) 15 (sP x0) 16 (sQ b1 o2) 17 (sQ b1 (o2+2)) 18 (sS a4 n5 c6) 14 (sV (.slice (some ⟨b7,0,none⟩) 0 0))) 19 (sI x1) 20 (sV (.slice a4 (Int.toNat x1) c6)) 22 (sP x0) 23 (sQ b8 o9) 24 (sQ b8 (o9+2)) 25 (sS a11 n12 c13) 21 (sS a16 n17 c18) 26 (sI x1)) 27 (sI ((wr (x1+1)))) 28 (sV (.slice (sub0 a11 c13 (Int.toNat (wr (x1+1))) 13) (n12-Int.toNat (wr (x1+1))) (c13-Int.toNat (wr (x1+1))))) 29 (sS a21 n22 c23) 30 (sQ b24 o25) 31 (sQ b24 (o25+2))) (w2 V0 5 (93,k5) 4 (93,k4)) h26)))):=by kernel_rfl
theorem F52_r8 {e:Env} {x0:OA} {x1:Int} {k4:List Value} {k5:List Value} {hp:HP} {K:Env→PV→HP→Prop}:RW Tryd.prog 33 [4,5] (opsAt Tryd.f52 (pth 11)) [0,2,3,4,5,6,7,9,10,11,12,1,8,13,14,15,16,17,18,19] (w2 e 1 (sI x1) 0 (sP x0)) (w2 V0 5 (93,k5) 4 (93,k4)) hp K=
    (ptrN x0 fun b1 o2=>ldV (HP.cell hp b1 (o2+2)) fun v3=>slcV v3 fun a4 n5 c6=>(0≤x1)∧(x1≤(c6:Nat))∧(ptrN x0 fun b7 o8=>ldV (HP.cell hp b7 (o8+2)) fun v9=>slcV v9 fun a10 n11 c12=>∀ b13:Nat,hp b13=.none→(opS Tryd.prog (Builtin.append_ #[88,88] 88 ⟨[(.slice (some ⟨b13,0,none⟩) 0 0),(.slice a4 (Int.toNat x1) c6)]⟩) (HP.set hp b13 (.cells 93 [] 0)) fun u14 h15=>slcV u14 fun a16 n17 c18=>(0≤((wr (x1+1)):Int))∧(((wr (x1+1)):Int)≤n11)∧(n11≤c12)∧(opS Tryd.prog (Builtin.append_ #[88,88] 88 ⟨[(.slice a16 n17 c18),(.slice (sub0 a10 c12 (Int.toNat (wr (x1+1))) 13) (n11-Int.toNat (wr (x1+1))) (c12-Int.toNat (wr (x1+1))))]⟩) h15 fun u19 h20=>slcV u19 fun a21 n22 c23=>ptrN x0 fun b24 o25=>HP.st h20 b24 (o25+2) (.slice a21 n22 c23) fun h26=>K (w5 (w8 (w8 e 1 (sI x1) 0 (sP x0) 13 (sP x0) 15 (sP x0) 16 (sQ b1 o2) 17 (sQ b1 (o2+2)) 18 (sS a4 n5 c6) 19 (sI x1)) 20 (sV (.slice a4 (Int.toNat x1) c6)) 22 (sP x0) 23 (sQ b7 o8) 24 (sQ b7 (o8+2)) 25 (sS a10 n11 c12) 14 (sV (.slice (some ⟨b13,0,none⟩) 0 0)) 21 (sS a16 n17 c18) 26 (sI x1)) 27 (sI ((wr (x1+1)))) 28 (sV (.slice (sub0 a10 c12 (Int.toNat (wr (x1+1))) 13) (n11-Int.toNat (wr (x1+1))) (c12-Int.toNat (wr (x1+1))))) 29 (sS a21 n22 c23) 30 (sQ b24 o25) 31 (sQ b24 (o25+2))) (w2 V0 5 (93,k5) 4 (93,k4)) h26)))):=by kernel_rfl
def F52 (x0:OA) (x1:Int) (hp:HP) (K:Kh):Prop:=
  (ptrN x0 fun b1 o2=>ldV (HP.cell hp b1 (o2+2)) fun v3=>slcV v3 fun a4 n5 c6=>(0≤x1)∧(x1<n5)∧(ptrN a4 fun b7 o8=>ldL (HP.cellN hp b7 (o8+Int.toNat x1*13) 13) fun l9=>if List.length l9=13 then (if List.all l9 one=true then (if 0+List.length l9≤List.length [(Value.int .i64 0),.int .u8 0,.int .u8 0,.int .u8 0,.int .u8 0,.int .i64 0,.int .u8 0,.int .u8 0,.int .u8 0,.int .u8 0,.int .i64 0,.int .i64 0,.string ⟨#[]⟩] then ((∀ b12:Nat,hp b12=.none→(ptrN x0 fun b13 o14=>ldV (HP.cell (HP.set hp b12 (.cells 93 [] 0)) b13 (o14+2)) fun v15=>slcV v15 fun a16 n17 c18=>(0≤x1)∧(x1≤(c18:Nat))∧(opS Tryd.prog (Builtin.append_ #[88,88] 88 ⟨[(.slice (some ⟨b12,0,none⟩) 0 0),(.slice a16 (Int.toNat x1) c18)]⟩) (HP.set hp b12 (.cells 93 [] 0)) fun u19 h20=>slcV u19 fun a21 n22 c23=>ptrN x0 fun b24 o25=>ldV (HP.cell h20 b24 (o25+2)) fun v26=>slcV v26 fun a27 n28 c29=>(0≤((IntKind.wrap .i64 (x1+1)):Int))∧(((IntKind.wrap .i64 (x1+1)):Int)≤n28)∧(n28≤c29)∧(opS Tryd.prog (Builtin.append_ #[88,88] 88 ⟨[(.slice a21 n22 c23),(.slice (sub0 a27 c29 (Int.toNat (IntKind.wrap .i64 (x1+1))) 13) (n28-Int.toNat (IntKind.wrap .i64 (x1+1))) (c29-Int.toNat (IntKind.wrap .i64 (x1+1))))]⟩) h20 fun u30 h31=>slcV u30 fun a32 n33 c34=>ptrN x0 fun b35 o36=>HP.st h31 b35 (o36+2) (.slice a32 n33 c34) fun h37=>F52_j1 [.int .i64 0,.int .u8 0,.int .u8 0,.int .u8 0,.int .u8 0,.int .i64 0,.int .u8 0,.int .u8 0,.int .u8 0,.int .u8 0,.int .i64 0,.int .i64 0,.string ⟨#[]⟩] (splice [.int .i64 0,.int .u8 0,.int .u8 0,.int .u8 0,.int .u8 0,.int .i64 0,.int .u8 0,.int .u8 0,.int .u8 0,.int .u8 0,.int .i64 0,.int .i64 0,.string ⟨#[]⟩] 0 l9) h37  K))))∧(∀ b38:Nat,hp b38=.none→(ptrN x0 fun b39 o40=>ldV (HP.cell (HP.set hp b38 (.cells 93 [] 0)) b39 (o40+2)) fun v41=>slcV v41 fun a42 n43 c44=>(0≤x1)∧(x1≤(c44:Nat))∧(ptrN x0 fun b45 o46=>ldV (HP.cell (HP.set hp b38 (.cells 93 [] 0)) b45 (o46+2)) fun v47=>slcV v47 fun a48 n49 c50=>opS Tryd.prog (Builtin.append_ #[88,88] 88 ⟨[(.slice (some ⟨b38,0,none⟩) 0 0),(.slice a42 (Int.toNat x1) c44)]⟩) (HP.set hp b38 (.cells 93 [] 0)) fun u51 h52=>slcV u51 fun a53 n54 c55=>(0≤((IntKind.wrap .i64 (x1+1)):Int))∧(((IntKind.wrap .i64 (x1+1)):Int)≤n49)∧(n49≤c50)∧(opS Tryd.prog (Builtin.append_ #[88,88] 88 ⟨[(.slice a53 n54 c55),(.slice (sub0 a48 c50 (Int.toNat (IntKind.wrap .i64 (x1+1))) 13) (n49-Int.toNat (IntKind.wrap .i64 (x1+1))) (c50-Int.toNat (IntKind.wrap .i64 (x1+1))))]⟩) h52 fun u56 h57=>slcV u56 fun a58 n59 c60=>ptrN x0 fun b61 o62=>HP.st h57 b61 (o62+2) (.slice a58 n59 c60) fun h63=>F52_j1 [.int .i64 0,.int .u8 0,.int .u8 0,.int .u8 0,.int .u8 0,.int .i64 0,.int .u8 0,.int .u8 0,.int .u8 0,.int .u8 0,.int .i64 0,.int .i64 0,.string ⟨#[]⟩] (splice [.int .i64 0,.int .u8 0,.int .u8 0,.int .u8 0,.int .u8 0,.int .i64 0,.int .u8 0,.int .u8 0,.int .u8 0,.int .u8 0,.int .i64 0,.int .i64 0,.string ⟨#[]⟩] 0 l9) h63  K))))∧(ptrN x0 fun b64 o65=>ptrN x0 fun b66 o67=>ldV (HP.cell hp b66 (o67+2)) fun v68=>slcV v68 fun a69 n70 c71=>∀ b72:Nat,hp b72=.none→(ldV (HP.cell (HP.set hp b72 (.cells 93 [] 0)) b64 (o65+2)) fun v73=>slcV v73 fun a74 n75 c76=>(0≤x1)∧(x1≤(c76:Nat))∧(opS Tryd.prog (Builtin.append_ #[88,88] 88 ⟨[(.slice (some ⟨b72,0,none⟩) 0 0),(.slice a74 (Int.toNat x1) c76)]⟩) (HP.set hp b72 (.cells 93 [] 0)) fun u77 h78=>slcV u77 fun a79 n80 c81=>(0≤((IntKind.wrap .i64 (x1+1)):Int))∧(((IntKind.wrap .i64 (x1+1)):Int)≤n70)∧(n70≤c71)∧(opS Tryd.prog (Builtin.append_ #[88,88] 88 ⟨[(.slice a79 n80 c81),(.slice (sub0 a69 c71 (Int.toNat (IntKind.wrap .i64 (x1+1))) 13) (n70-Int.toNat (IntKind.wrap .i64 (x1+1))) (c71-Int.toNat (IntKind.wrap .i64 (x1+1))))]⟩) h78 fun u82 h83=>slcV u82 fun a84 n85 c86=>ptrN x0 fun b87 o88=>HP.st h83 b87 (o88+2) (.slice a84 n85 c86) fun h89=>F52_j1 [.int .i64 0,.int .u8 0,.int .u8 0,.int .u8 0,.int .u8 0,.int .i64 0,.int .u8 0,.int .u8 0,.int .u8 0,.int .u8 0,.int .i64 0,.int .i64 0,.string ⟨#[]⟩] (splice [.int .i64 0,.int .u8 0,.int .u8 0,.int .u8 0,.int .u8 0,.int .i64 0,.int .u8 0,.int .u8 0,.int .u8 0,.int .u8 0,.int .i64 0,.int .i64 0,.string ⟨#[]⟩] 0 l9) h89  K))))∧(ptrN x0 fun b90 o91=>ldV (HP.cell hp b90 (o91+2)) fun v92=>slcV v92 fun a93 n94 c95=>∀ b96:Nat,hp b96=.none→((0≤x1)∧(x1≤(c95:Nat))∧(opS Tryd.prog (Builtin.append_ #[88,88] 88 ⟨[(.slice (some ⟨b96,0,none⟩) 0 0),(.slice a93 (Int.toNat x1) c95)]⟩) (HP.set hp b96 (.cells 93 [] 0)) fun u97 h98=>slcV u97 fun a99 n100 c101=>ptrN x0 fun b102 o103=>ldV (HP.cell h98 b102 (o103+2)) fun v104=>slcV v104 fun a105 n106 c107=>(0≤((IntKind.wrap .i64 (x1+1)):Int))∧(((IntKind.wrap .i64 (x1+1)):Int)≤n106)∧(n106≤c107)∧(opS Tryd.prog (Builtin.append_ #[88,88] 88 ⟨[(.slice a99 n100 c101),(.slice (sub0 a105 c107 (Int.toNat (IntKind.wrap .i64 (x1+1))) 13) (n106-Int.toNat (IntKind.wrap .i64 (x1+1))) (c107-Int.toNat (IntKind.wrap .i64 (x1+1))))]⟩) h98 fun u108 h109=>slcV u108 fun a110 n111 c112=>ptrN x0 fun b113 o114=>HP.st h109 b113 (o114+2) (.slice a110 n111 c112) fun h115=>F52_j1 [.int .i64 0,.int .u8 0,.int .u8 0,.int .u8 0,.int .u8 0,.int .i64 0,.int .u8 0,.int .u8 0,.int .u8 0,.int .u8 0,.int .i64 0,.int .i64 0,.string ⟨#[]⟩] (splice [.int .i64 0,.int .u8 0,.int .u8 0,.int .u8 0,.int .u8 0,.int .i64 0,.int .u8 0,.int .u8 0,.int .u8 0,.int .u8 0,.int .i64 0,.int .i64 0,.string ⟨#[]⟩] 0 l9) h115  K))))∧(ptrN x0 fun b116 o117=>ldV (HP.cell hp b116 (o117+2)) fun v118=>slcV v118 fun a119 n120 c121=>∀ b122:Nat,hp b122=.none→((0≤x1)∧(x1≤(c121:Nat))∧(ptrN x0 fun b123 o124=>ldV (HP.cell (HP.set hp b122 (.cells 93 [] 0)) b123 (o124+2)) fun v125=>slcV v125 fun a126 n127 c128=>opS Tryd.prog (Builtin.append_ #[88,88] 88 ⟨[(.slice (some ⟨b122,0,none⟩) 0 0),(.slice a119 (Int.toNat x1) c121)]⟩) (HP.set hp b122 (.cells 93 [] 0)) fun u129 h130=>slcV u129 fun a131 n132 c133=>(0≤((IntKind.wrap .i64 (x1+1)):Int))∧(((IntKind.wrap .i64 (x1+1)):Int)≤n127)∧(n127≤c128)∧(opS Tryd.prog (Builtin.append_ #[88,88] 88 ⟨[(.slice a131 n132 c133),(.slice (sub0 a126 c128 (Int.toNat (IntKind.wrap .i64 (x1+1))) 13) (n127-Int.toNat (IntKind.wrap .i64 (x1+1))) (c128-Int.toNat (IntKind.wrap .i64 (x1+1))))]⟩) h130 fun u134 h135=>slcV u134 fun a136 n137 c138=>ptrN x0 fun b139 o140=>HP.st h135 b139 (o140+2) (.slice a136 n137 c138) fun h141=>F52_j1 [.int .i64 0,.int .u8 0,.int .u8 0,.int .u8 0,.int .u8 0,.int .i64 0,.int .u8 0,.int .u8 0,.int .u8 0,.int .u8 0,.int .i64 0,.int .i64 0,.string ⟨#[]⟩] (splice [.int .i64 0,.int .u8 0,.int .u8 0,.int .u8 0,.int .u8 0,.int .i64 0,.int .u8 0,.int .u8 0,.int .u8 0,.int .u8 0,.int .i64 0,.int .i64 0,.string ⟨#[]⟩] 0 l9) h141  K))))∧(ptrN x0 fun b142 o143=>ldV (HP.cell hp b142 (o143+2)) fun v144=>slcV v144 fun a145 n146 c147=>(0≤x1)∧(x1≤(c147:Nat))∧(ptrN x0 fun b148 o149=>ldV (HP.cell hp b148 (o149+2)) fun v150=>slcV v150 fun a151 n152 c153=>∀ b154:Nat,hp b154=.none→(opS Tryd.prog (Builtin.append_ #[88,88] 88 ⟨[(.slice (some ⟨b154,0,none⟩) 0 0),(.slice a145 (Int.toNat x1) c147)]⟩) (HP.set hp b154 (.cells 93 [] 0)) fun u155 h156=>slcV u155 fun a157 n158 c159=>(0≤((IntKind.wrap .i64 (x1+1)):Int))∧(((IntKind.wrap .i64 (x1+1)):Int)≤n152)∧(n152≤c153)∧(opS Tryd.prog (Builtin.append_ #[88,88] 88 ⟨[(.slice a157 n158 c159),(.slice (sub0 a151 c153 (Int.toNat (IntKind.wrap .i64 (x1+1))) 13) (n152-Int.toNat (IntKind.wrap .i64 (x1+1))) (c153-Int.toNat (IntKind.wrap .i64 (x1+1))))]⟩) h156 fun u160 h161=>slcV u160 fun a162 n163 c164=>ptrN x0 fun b165 o166=>HP.st h161 b165 (o166+2) (.slice a162 n163 c164) fun h167=>F52_j1 [.int .i64 0,.int .u8 0,.int .u8 0,.int .u8 0,.int .u8 0,.int .i64 0,.int .u8 0,.int .u8 0,.int .u8 0,.int .u8 0,.int .i64 0,.int .i64 0,.string ⟨#[]⟩] (splice [.int .i64 0,.int .u8 0,.int .u8 0,.int .u8 0,.int .u8 0,.int .i64 0,.int .u8 0,.int .u8 0,.int .u8 0,.int .u8 0,.int .i64 0,.int .i64 0,.string ⟨#[]⟩] 0 l9) h167  K))))) else False) else False) else False))
noncomputable def F52_code:Code:=(.seq (.region 0 (opsAt Tryd.f52 (pth 2)) false) (.seq (.region 1 (opsAt Tryd.f52 (pth 5)) false) (.seq (.region 2 (opsAt Tryd.f52 (pth 11)) true) (.seq (.region 3 (opsAt Tryd.f52 (pth 23)) false) .ret))))
theorem F52_body:Tryd.f52.body=some F52_code:=by kernel_rfl
theorem F52_ok (x0:OA) (x1:Int) (hp:HP) (K:Kh) (h:F52 x0 x1 hp K):CF Tryd.prog 52 [(.pointer x0),(.int .i64 x1)] hp K:=by
 refine .inl ⟨by kernel_rfl,AC.intro (N:=33) Tryd.func52 F52_body rfl (Nat.le_of_ble_eq_true rfl) ?_⟩
 unfold F52 at h
 refine Ar F52_r0 ?_ (r2 0 1 Rn) (z2 Sn) Sn
 refine Ar F52_r1 ?_ (r2 0 1 (rp 4 4 0 Rn)) (z3 Sn) (z1 Sn)
 refine mN h (fun b1 o2 h=>mV h (fun v3 h=>mS h (fun a4 n5 c6 h=>⟨h.1,h.2.1,mN h.2.2 fun b7 o8 h=>mL h fun l9 h=>mf h fun h=>mf h fun h=>mf h fun h=>?_⟩)))
 refine As (fun env pv hp=>∃ k4 k5,Sub (w2 E0 5 (sR 5 0) 4 (sR 4 0)) env∧Sub (w2 V0 5 (93,k5) 4 (93,k4)) pv∧(F52_j1 k4 k5 hp  K)) ?_ ?_
 ·refine AWP.rgnC (cf:=[(1,5),(1,12),(8,12)]) (c:=[([true,true,true],true,[0,1,2,3,4,5,6,7,8,9,10,11,12,13,14,15,16,17,18,19]),([true,true,false],true,[0,1,2,3,4,5,6,7,9,10,11,12,8,13,14,15,16,17,18,19]),([true,false,true],false,[1,8,12,1]),([true,false,false],true,[0,2,3,4,6,9,10,11,12,1,5,7,8,13,14,15,16,17,18,19]),([false,true,true],true,[0,2,3,4,5,1,6,7,8,9,10,11,12,13,14,15,16,17,18,19]),([false,true,false],true,[0,2,3,4,5,1,6,7,9,10,11,12,8,13,14,15,16,17,18,19]),([false,false,true],false,[1,8,12,1]),([false,false,false],true,[0,2,3,4,5,6,7,9,10,11,12,1,8,13,14,15,16,17,18,19])]) (by kernel_rfl) (by kernel_rfl) (by kernel_rfl) (by kernel_rfl) (allO_t (Eq.mpr F52_r3 ?_) (allO_t (Eq.mpr F52_r4 ?_) (allO_f (allO_t (Eq.mpr F52_r5 ?_) (allO_t (Eq.mpr F52_r6 ?_) (allO_t (Eq.mpr F52_r7 ?_) (allO_f (allO_t (Eq.mpr F52_r8 ?_) trivial)))))))) (r2 0 1 (rp 4 4 0 (rp 5 5 0 Rn))) (z4 Sn) (z2 Sn)
  ·replace h:=h.1
   refine fun b12 hb_b_12=>?_
   replace h:=h b12 hb_b_12
   refine mN h (fun b13 o14 h=>mV h (fun v15 h=>mS h (fun a16 n17 c18 h=>⟨h.1,h.2.1,mO h.2.2 (fun u19 h20 h=>mS h (fun a21 n22 c23 h=>mN h (fun b24 o25 h=>mV h (fun v26 h=>mS h (fun a27 n28 c29 h=>⟨h.1,h.2.1,h.2.2.1,?_⟩)))))⟩)))
   replace h:=h.2.2.2
   refine mO h fun u30 h31 h=>mS h fun a32 n33 c34 h=>mN h fun b35 o36 h=>mw h fun h37 h=>?_
   exact ⟨_,_,(z2 Sn),(z2 Sn),h⟩
  ·replace h:=h.2.1
   refine fun b38 hb_b_38=>?_
   replace h:=h b38 hb_b_38
   refine mN h (fun b39 o40 h=>mV h (fun v41 h=>mS h (fun a42 n43 c44 h=>⟨h.1,h.2.1,mN h.2.2 (fun b45 o46 h=>mV h (fun v47 h=>mS h (fun a48 n49 c50 h=>mO h (fun u51 h52 h=>mS h (fun a53 n54 c55 h=>⟨h.1,h.2.1,h.2.2.1,?_⟩)))))⟩)))
   replace h:=h.2.2.2
   refine mO h fun u56 h57 h=>mS h fun a58 n59 c60 h=>mN h fun b61 o62 h=>mw h fun h63 h=>?_
   exact ⟨_,_,(z2 Sn),(z2 Sn),h⟩
  ·replace h:=h.2.2.1
   refine mN h fun b64 o65 h=>mN h fun b66 o67 h=>mV h fun v68 h=>mS h fun a69 n70 c71 h=>?_
   refine fun b72 hb_b_72=>?_
   replace h:=h b72 hb_b_72
   refine mV h (fun v73 h=>mS h (fun a74 n75 c76 h=>⟨h.1,h.2.1,mO h.2.2 (fun u77 h78 h=>mS h (fun a79 n80 c81 h=>⟨h.1,h.2.1,h.2.2.1,?_⟩))⟩))
   replace h:=h.2.2.2
   refine mO h fun u82 h83 h=>mS h fun a84 n85 c86 h=>mN h fun b87 o88 h=>mw h fun h89 h=>?_
   exact ⟨_,_,(z2 Sn),(z2 Sn),h⟩
  ·replace h:=h.2.2.2.1
   refine mN h fun b90 o91 h=>mV h fun v92 h=>mS h fun a93 n94 c95 h=>?_
   refine fun b96 hb_b_96=>?_
   replace h:=h b96 hb_b_96
   refine ⟨h.1,h.2.1,mO h.2.2 (fun u97 h98 h=>mS h (fun a99 n100 c101 h=>mN h (fun b102 o103 h=>mV h (fun v104 h=>mS h (fun a105 n106 c107 h=>⟨h.1,h.2.1,h.2.2.1,?_⟩)))))⟩
   replace h:=h.2.2.2
   refine mO h fun u108 h109 h=>mS h fun a110 n111 c112 h=>mN h fun b113 o114 h=>mw h fun h115 h=>?_
   exact ⟨_,_,(z2 Sn),(z2 Sn),h⟩
  ·replace h:=h.2.2.2.2.1
   refine mN h fun b116 o117 h=>mV h fun v118 h=>mS h fun a119 n120 c121 h=>?_
   refine fun b122 hb_b_122=>?_
   replace h:=h b122 hb_b_122
   refine ⟨h.1,h.2.1,mN h.2.2 (fun b123 o124 h=>mV h (fun v125 h=>mS h (fun a126 n127 c128 h=>mO h (fun u129 h130 h=>mS h (fun a131 n132 c133 h=>⟨h.1,h.2.1,h.2.2.1,?_⟩)))))⟩
   replace h:=h.2.2.2
   refine mO h fun u134 h135 h=>mS h fun a136 n137 c138 h=>mN h fun b139 o140 h=>mw h fun h141 h=>?_
   exact ⟨_,_,(z2 Sn),(z2 Sn),h⟩
  ·replace h:=h.2.2.2.2.2
   refine mN h (fun b142 o143 h=>mV h (fun v144 h=>mS h (fun a145 n146 c147 h=>⟨h.1,h.2.1,mN h.2.2 fun b148 o149 h=>mV h fun v150 h=>mS h fun a151 n152 c153 h=>?_⟩)))
   refine fun b154 hb_b_154=>?_
   replace h:=h b154 hb_b_154
   refine mO h (fun u155 h156 h=>mS h (fun a157 n158 c159 h=>⟨h.1,h.2.1,h.2.2.1,?_⟩))
   replace h:=h.2.2.2
   refine mO h fun u160 h161 h=>mS h fun a162 n163 c164 h=>mN h fun b165 o166 h=>mw h fun h167 h=>?_
   exact ⟨_,_,(z2 Sn),(z2 Sn),h⟩
 ·rintro env pv hp ⟨k4,k5,he,hv,h⟩
  refine Ae ?_ (rp 4 4 0 (rp 5 5 0 Rn)) he hv
  unfold F52_j1 at h
  refine Ar F52_r2 ?_ (rp 4 4 0 (rp 5 5 0 Rn)) (z2 Sn) (z2 Sn)
  refine mL h fun l10 h=>mf h fun h=>mf h fun h=>mf h fun h=>?_
  refine AWP.ret ?_
  exact h
end
section
variable {e E:Env} {x0a:OA} {x0n x0c:Nat} {x1a:OA} {x1n x1c:Nat} {x5:Int} {hp:HP} {K:Env→PV→HP→Prop}
abbrev R53 (p n:Nat):=RW Tryd.prog 27 [] (opsAt Tryd.f53 (pth p)) (List.range n)
theorem F53_r0:R53 2 1 e V0 hp K=
 K (upd e 4 (sB false)) V0 hp:= by kernel_rfl
theorem F53_r1 (h:E=upd (upd e 1 (sS x1a x1n x1c)) 0 (sS x0a x0n x0c)):R53 9 5 E V0 hp K=
 K (w5 E 6 (sS x0a x0n x0c) 7 (sI ((x0n:Nat))) 8 (sS x1a x1n x1c) 9 (sI ((x1n:Nat))) 10 (sB ((((x0n:Nat):Int) != x1n)))) V0 hp:= by subst h; kernel_rfl
theorem F53_r2:R53 37 1 e V0 hp K=
 K (upd e 4 (sB false)) V0 hp:= by kernel_rfl
theorem F53_r3:R53 267 4 (w2 e 5 (sI x5) 0 (sS x0a x0n x0c)) V0 hp K=
 K (w6 e 5 (sI x5) 0 (sS x0a x0n x0c) 11 (sI x5) 12 (sS x0a x0n x0c) 13 (sI ((x0n:Nat))) 14 (sB ((decide (x5<x0n))))) V0 hp:= by kernel_rfl
theorem F53_r4 (h:E=upd (w2 e 5 (sI x5) 1 (sS x1a x1n x1c)) 0 (sS x0a x0n x0c)):R53 1099 10 E V0 hp K=
    ((0≤x5)∧(x5<x0n)∧(ptrN x0a fun b1 o2=>ldL (HP.cellN hp b1 (o2+Int.toNat x5*13) 13) fun l3=>(0≤x5)∧(x5<x1n)∧(ptrN x1a fun b4 o5=>ldL (HP.cellN hp b4 (o5+Int.toNat x5*13) 13) fun l6=>CF Tryd.prog 50 [(.agg ⟨l3⟩),(.agg ⟨l6⟩)] hp fun u7 h8=>boolV u7 fun q9=>K (w2 (w8 E 17 (sS x0a x0n x0c) 18 (sI x5) 19 (sQ b1 (o2+Int.toNat x5*13)) 20 (sA l3) 21 (sS x1a x1n x1c) 22 (sI x5) 23 (sQ b4 (o5+Int.toNat x5*13)) 24 (sA l6)) 25 (sB q9) 26 (sB ((!q9)))) V0 h8))):=by subst h; kernel_rfl
theorem F53_r5:R53 4683 1 e V0 hp K=
 K (upd e 4 (sB false)) V0 hp:= by kernel_rfl
theorem F53_r6:R53 459 3 (upd e 5 (sI x5)) V0 hp K=
 K (w4 e 5 (sI x5) 15 (sI x5) 16 (sI ((wr (x5+1)))) 5 (sI ((wr (x5+1))))) V0 hp:= by kernel_rfl
theorem F53_r7:R53 23 1 e V0 hp K=
 K (upd e 4 (sB true)) V0 hp:= by kernel_rfl
def F53_l2 (x0a:OA) (x0n x0c:Nat) (x1a:OA) (x1n x1c:Nat) (K:Kh) (I2:(Int)→HP→Prop) (x5:Int) (hp:HP):Prop:=
  (ite2 (decide (x5<x0n)) ((0≤x5)∧(x5<x0n)∧(ptrN x0a fun b1 o2=>ldL (HP.cellN hp b1 (o2+Int.toNat x5*13) 13) fun l3=>(0≤x5)∧(x5<x1n)∧(ptrN x1a fun b4 o5=>ldL (HP.cellN hp b4 (o5+Int.toNat x5*13) 13) fun l6=>CF Tryd.prog 50 [(.agg ⟨l3⟩),(.agg ⟨l6⟩)] hp fun u7 h8=>boolV u7 fun q9=>ite2 (!q9) (K (.bool false) h8) (I2 (IntKind.wrap .i64 (x5+1)) h8)))) (K (.bool true) hp))
def F53_j1 (x0a:OA) (x0n x0c:Nat) (x1a:OA) (x1n x1c:Nat) (x5:Int) (hp:HP) (K:Kh):Prop:=
  (LoopP (σ:=Int) (fun I s hp=>F53_l2 x0a x0n x0c x1a x1n x1c  K I s hp) x5 hp)
theorem F53_r8:R53 19 1 e V0 hp K=
 K (upd e 5 (sI 0)) V0 hp:= by kernel_rfl
def F53 (x0a:OA) (x0n x0c:Nat) (x1a:OA) (x1n x1c:Nat) (hp:HP) (K:Kh):Prop:=
  (ite2 (((x0n:Nat):Int) != x1n) (K (.bool false) hp) (F53_j1 x0a x0n x0c x1a x1n x1c 0 hp  K))
noncomputable abbrev o53 (k n:Nat):Code:=.region k (opsAt Tryd.f53 (pth n)) false
noncomputable def F53_code:Code:=(.seq (o53 0 2) (.seq (.seq (o53 1 9) (.cond (.tmp 10) (.seq (o53 2 37) .ret) .skip)) (.seq (.seq (o53 3 19) (.block 0 (.loop (.seq (.seq (o53 4 267) (.cond (.tmp 14) .skip (.exit 0))) (.seq (.block 1 (.seq (.region 6 (opsAt Tryd.f53 (pth 1099)) true) (.cond (.tmp 26) (.seq (o53 7 4683) .ret) .skip))) (o53 5 459)))))) (.seq (o53 8 23) .ret))))
theorem F53_body:Tryd.f53.body=some F53_code:=by kernel_rfl
theorem F53_ok (x0a:OA) (x0n x0c:Nat) (x1a:OA) (x1n x1c:Nat) (hp:HP) (K:Kh) (h:F53 x0a x0n x0c x1a x1n x1c hp K):CF Tryd.prog 53 [(.slice x0a x0n x0c),(.slice x1a x1n x1c)] hp K:=by
 refine .inl ⟨by kernel_rfl,AC.intro (N:=27) Tryd.func53 F53_body rfl (Nat.le_of_ble_eq_true rfl) ?_⟩
 unfold F53 at h
 refine Ar F53_r0 ?_ (r2 0 1 Rn) (z2 Sn) Sn
 refine Aq (Ar (F53_r1 rfl) ?_ (r2 0 1 Rn) (z2 Sn) Sn)
 refine Ac h rfl (fun h=>?_) (fun h=>?_)
 ·refine Ar F53_r2 ?_ Rn Sn Sn
  refine AWP.ret ?_
  exact h
 ·refine AWP.skip (Aq (As (fun env pv hp=>∃ x0a x0n x0c x1a x1n x1c x5,Sub (w3 E0 5 (sI x5) 1 (sS x1a x1n x1c) 0 (sS x0a x0n x0c)) env∧Sub V0 pv∧F53_j1 x0a x0n x0c x1a x1n x1c x5 hp  K) ?_ ?_))
  ·refine Ag F53_r8 ?_ (r2 0 1 Rn) (z2 Sn) Sn
   exact ⟨_,_,_,_,_,_,_,(z3 Sn),Sn,h⟩
  ·rintro env pv hp ⟨x0a,x0n,x0c,x1a,x1n,x1c,x5,he,hv,h⟩
   refine Ae ?_ (r3 0 1 5 Rn) he hv
   unfold F53_j1 at h
   refine AWP.block (AWP.loop (σ:=Int) _ (fun s=>w3 E0 5 (sI s) 1 (sS x1a x1n x1c) 0 (sS x0a x0n x0c)) (fun s=>V0) x5 h (fun s=>r3 0 1 5 Rn) (z3 Sn) Sn ?_)
   intro I2 x5 hp h
   replace h:F53_l2 x0a x0n x0c x1a x1n x1c  K I2 x5 hp:=h
   unfold F53_l2 at h
   refine Aq (Ar F53_r3 ?_ (r3 0 5 1 Rn) (z3 Sn) Sn)
   refine Ac h rfl (fun h=>?_) (fun h=>?_)
   ·refine AWP.skip (Aq (AWP.block (Aq (AWP.rgnD (by kernel_rfl) (by kernel_rfl) (F53_r4 rfl) ?_ (r3 0 1 5 Rn) (z3 Sn) Sn))))
    refine ⟨h.1,h.2.1,mN h.2.2 (fun b1 o2 h=>mL h (fun l3 h=>⟨h.1,h.2.1,mN h.2.2 fun b4 o5 h=>mL h fun l6 h=>mC h fun u7 h8 h=>mB h fun q9 h=>?_⟩))⟩
    refine Ac h rfl (fun h=>?_) (fun h=>?_)
    ·refine Ar F53_r5 ?_ Rn Sn Sn
     refine AWP.ret ?_
     exact h
    ·refine AWP.skip (Ag F53_r6 ?_ (r3 5 0 1 Rn) (z3 Sn) Sn)
     exact ⟨_,(z3 Sn),Sn,h⟩
   ·refine AWP.exit ?_
    refine Ar F53_r7 ?_ Rn Sn Sn
    refine AWP.ret ?_
    exact h
end
end Go.Proofs
set_option linter.unusedVariables false
set_option linter.unusedSimpArgs false
set_option maxRecDepth 20000
namespace Go.Proofs
open Go Go.HL
open Go.Exp (Th tlt Ord setW dropW insW)
def RefS (hq:HP) (r:Nat) (mx:Int) (last:Nat) (L:List Sy):Prop:=
  ∃ (a:Option Addr) (c:Nat),hq r=.cells 90 [.int .i64 mx,.int .i64 last,.slice a L.length c] 0∧Row hq a L.length c 93 13 (L.flatMap syc)
section
variable {hq hp:HP} {r:Nat} {mx:Int} {last:Nat} {L:List Sy} {K:Value→HP→Prop}
theorem RefS.sub (h:RefS hq r mx last L) (hs:HSub hq hp):RefS hp r mx last L:=by
  obtain ⟨a,c,h1,h2⟩:=h
  exact ⟨a,c,hs.cells h1,h2.sub hs⟩
theorem Shows.at {hp:HP} {a:Option Addr} {n i:Nat} {l:List Sy} (h:Shows hp a n 13 (l.flatMap syc)) (hl:l.length=n) (hi:i<n) :
    ∃ b o,a=some ⟨b,o,none⟩∧hp.cellN b (o+i*13) 13=some (syc (l[i]'(hl▸hi)))∧∀ t v,(syc (l[i]'(hl▸hi)))[t]?=some v→hp.cell b (o+i*13+t)=some v:=by
  obtain ⟨b,o,e,hc⟩:=h.get syc_len hl hi
  exact ⟨b,o,e,hc,fun t v hv=>HP.cell_cellN hc hv⟩
theorem cellN_sub5 {hp:HP} {b o:Nat} {x:Sy} (h:hp.cellN b o 13=some (syc x)):hp.cellN b (o+1) 5=some (t4 x.out)∧hp.cellN b (o+6) 5=some (t4 x.peer):=
  ⟨by rw [cellN_cellN h (by omega)]; rfl,by rw [cellN_cellN h (by omega)]; rfl⟩
theorem eq34 {p q:Q × Int} {c:Bool→Prop} (h:c (decide (p=q))):eqAgg Tryd.prog 34 (t4 p) (t4 q) c:=eq75 h
def atS (o p:Q × Int) (L:List Sy) (v:Int):Prop:=(v=-1∧findS o p L=none)∨∃ (j:Nat) (hj:j<L.length),v=j∧findS o p L=some L[j]
theorem C49 {o p:Q × Int} (h:RefS hp r mx last L) (hl:L.length≤1000000) (hK:∀ v:Int,atS o p L v→K (.int .i64 v) hp):CF Tryd.prog 49 [ptr r 0,.agg ⟨t4 o⟩,.agg ⟨t4 p⟩] hp K:=by
  refine F49_ok _ (t4 o) (t4 p) hp K ?_
  unfold F49 F49_j1
  obtain ⟨a,c,h1,h2⟩:=h
  have hc2:hp.cell r 2=some (.slice a L.length c):=HP.cell_of h1
  refine LoopP.by (J:=fun k (x:Int) hp'=>hp'=hp∧∃ i:Nat,x=i∧i+k=L.length∧findS o p L=findS o p (L.drop i)) ?_ (n:=L.length) ⟨rfl,0,rfl,by omega,by simp⟩
  rintro I k x hp' ⟨rfl,i,rfl,hik,hf⟩ hI
  unfold F49_l2
  simp only [ptrN_some,Nat.zero_add,hc2,ldV_some,slcV_slice]
  by_cases hi:i<L.length
  · rw [decide_eq_true (by omega:(i:Int)<(L.length:Nat)),ite2_true]
    obtain ⟨b,off,rfl,g,g2⟩:=Shows.at h2.shows rfl hi
    obtain ⟨g3,g4⟩:=cellN_sub5 g
    simp only [ptrN_some,Int.toNat_natCast,g3,g4,t4_cells,ldL_some]
    refine ⟨by omega,by omega,?_⟩
    have w1:IntKind.wrap .i64 ((i:Int)+1)=((i+1:Nat):Int):=wi (by omega) (by omega)
    rw [List.drop_eq_getElem_cons hi] at hf
    have next:¬ ((L[i]'hi).out=o∧(L[i]'hi).peer=p)→I (IntKind.wrap .i64 ((i:Int)+1)) hp':=fun hn=>by
      rw [w1]
      refine hI (k-1) _ _ (by omega) ⟨rfl,i+1,rfl,by omega,?_⟩
      rw [hf]
      unfold findS
      rw [List.find?_cons,decide_eq_false hn]
    refine eq34 ?_
    by_cases e1:(L[i]'hi).out=o
    · rw [decide_eq_true e1,ite2_true]
      refine ⟨by omega,by omega,?_⟩
      refine eq34 ?_
      unfold F49_j3
      by_cases e2:(L[i]'hi).peer=p
      · rw [decide_eq_true e2,ite2_true]
        refine hK _ (.inr ⟨i,hi,rfl,?_⟩)
        rw [hf]
        unfold findS
        rw [List.find?_cons,decide_eq_true ⟨e1,e2⟩]
      · rw [decide_eq_false e2,ite2_false]
        exact next fun h=>e2 h.2
    · rw [decide_eq_false e1,ite2_false]
      unfold F49_j3
      rw [ite2_false]
      exact next fun h=>e1 h.1
  · rw [decide_eq_false (by omega:¬ (i:Int)<(L.length:Nat)),ite2_false]
    refine hK _ (.inl ⟨rfl,?_⟩)
    rw [hf,List.drop_of_length_le (by omega)]; rfl
theorem C50 {x y:Sy} (hK:K (.bool (decide (x=y))) hp):CF Tryd.prog 50 [.agg ⟨syc x⟩,.agg ⟨syc y⟩] hp K:=by
  refine F50_ok (syc x) (syc y) hp K ?_
  unfold F50
  simp only [syc_id,syc_out,syc_peer,syc_due,syc_text,ldV_some,ldL_some,intV_int,strV_string,str_eq]
  have no:¬ x=y→K (.bool false) hp:=fun h=>by rw [decide_eq_false h] at hK; exact hK
  have bq:∀ i j:Int,(i==j)=decide (i=j):=fun i j=>by
    by_cases h:i=j
    · subst h; simp
    · simp [h]
  rw [bq]
  by_cases e1:x.id=y.id
  · rw [decide_eq_true e1,ite2_true]
    refine eq34 ?_
    by_cases e2:x.out=y.out
    · rw [decide_eq_true e2,ite2_true]
      refine eq34 ?_
      by_cases e3:x.peer=y.peer
      · rw [decide_eq_true e3,ite2_true,bq]
        by_cases e4:x.due=y.due
        · rw [decide_eq_true e4,ite2_true]
          by_cases e5:x.text=y.text
          · rw [decide_eq_true e5]
            have:x=y:=by
              cases x; cases y; simp_all
            rw [decide_eq_true this] at hK; exact hK
          · rw [decide_eq_false e5]; exact no fun h=>e5 (by rw [h])
        · rw [decide_eq_false e4,ite2_false]; exact no fun h=>e4 (by rw [h])
      · rw [decide_eq_false e3,ite2_false]; exact no fun h=>e3 (by rw [h])
    · rw [decide_eq_false e2,ite2_false]; exact no fun h=>e2 (by rw [h])
  · rw [decide_eq_false e1,ite2_false]; exact no fun h=>e1 (by rw [h])
theorem C53 {a a':Option Addr} {n m c c':Nat} {l l':List Sy} (h:Shows hp a n 13 (l.flatMap syc)) (h':Shows hp a' m 13 (l'.flatMap syc)) (hl:l.length=n) (hl':l'.length=m) (hn:n≤1000000)
    (hK:K (.bool (decide (l=l'))) hp):CF Tryd.prog 53 [.slice a n c,.slice a' m c'] hp K:=by
  refine F53_ok a n c a' m c' hp K ?_
  unfold F53
  by_cases hnm:n=m
  · subst hnm
    have e:(((n:Nat):Int) != (n:Nat))=false:=by simp
    rw [e,ite2_false]
    unfold F53_j1
    refine LoopP.by (J:=fun k (x:Int) hp'=>hp'=hp∧∃ i:Nat,x=i∧i+k=n∧l.take i=l'.take i) ?_ (n:=n) ⟨rfl,0,rfl,by omega,by simp⟩
    rintro I k x hp' ⟨rfl,i,rfl,hik,ht⟩ hI
    unfold F53_l2
    by_cases hi:i<n
    · rw [decide_eq_true (by omega:(i:Int)<(n:Int)),ite2_true]
      obtain ⟨b,o,rfl,g,_⟩:=Shows.at h hl hi
      obtain ⟨b',o',rfl,g',_⟩:=Shows.at h' hl' hi
      simp only [ptrN_some,Int.toNat_natCast,g,g',ldL_some]
      refine ⟨by omega,by omega,by omega,by omega,?_⟩
      refine C50 ?_
      rw [boolV_bool]
      by_cases he:l[i]'(hl▸hi)=l'[i]'(hl'▸hi)
      · have w1:IntKind.wrap .i64 ((i:Int)+1)=((i+1:Nat):Int):=wi (by omega) (by omega)
        rw [decide_eq_true he,Bool.not_true,ite2_false,w1]
        refine hI (k-1) _ _ (by omega) ⟨rfl,i+1,rfl,by omega,?_⟩
        rw [List.take_succ_eq_append_getElem (hl▸hi),List.take_succ_eq_append_getElem (hl'▸hi),ht,he]
      · rw [decide_eq_false he,Bool.not_false,ite2_true]
        have:¬ l=l':=fun e=>he (by subst e; rfl)
        rw [decide_eq_false this] at hK; exact hK
    · rw [decide_eq_false (by omega:¬ (i:Int)<(n:Int)),ite2_false]
      have:l=l':=by
        have hin:i=n:=by omega
        subst hin
        rw [List.take_of_length_le (by omega),List.take_of_length_le (by omega)] at ht
        exact ht
      rw [decide_eq_true this] at hK; exact hK
  · have e:(((n:Nat):Int) != (m:Nat))=true:=by
      rw [bne_iff_ne]; omega
    rw [e,ite2_true]
    have:¬ l=l':=fun h=>hnm (by rw [← hl,← hl',h])
    rw [decide_eq_false this] at hK; exact hK
set_option maxHeartbeats 2000000 in
theorem C52 {i:Nat} (h:RefS hq r mx last L) (hi:i<L.length) (hl:L.length≤1000000) (hK:∀ hq',RefS hq' r mx last (L.take i++L.drop (i+1))→K (.agg ⟨syc L[i]⟩) hq'):CF Tryd.prog 52 [ptr r 0,.int .i64 i] hq K:=by
  refine F52_ok _ i hq K ?_
  unfold F52
  obtain ⟨a,c,h1,h2⟩:=h
  have hc2:∀ {hp:HP},HSub hq hp→hp.cell r 2=some (.slice a L.length c):=fun hs=>HP.cell_of (hs.cells h1)
  have hc20:=hc2 (HSub.refl hq)
  have hcn:L.length≤c:=by
    rcases h2 with ⟨_,h0,h3,_⟩ | ⟨_,_,h3,_,_⟩
    · omega
    · exact h3
  obtain ⟨b,off,hab,g,_⟩:=Shows.at h2.shows rfl hi
  have wi1:IntKind.wrap .i64 ((i:Int)+1)=((i+1:Nat):Int):=wi (by omega) (by omega)
  simp only [ptrN_some,Nat.zero_add,hc20,ldV_some,slcV_slice,wi1,Int.toNat_natCast,syz]
  refine ⟨by omega,by omega,?_⟩
  rw [hab]
  simp only [ptrN_some,Int.toNat_natCast,g,ldL_some,syc_splice]
  rw [← hab]
  refine ifI rfl (ifI rfl (ifI (by simp [syc_len]) ?_))
  have fin:∀ hp2 a2 c2,HSub hq hp2→(∀ b',a2=some ⟨b',0,none⟩→hq b'=.none)→Row hp2 a2 (L.take i++L.drop (i+1)).length c2 93 13 ((L.take i++L.drop (i+1)).flatMap syc) →
      HP.st hp2 r 2 (.slice a2 (L.take i++L.drop (i+1)).length c2) fun h=>F52_j1 (syc sy0) (syc L[i]) h K:=by
    intro hp2 a2 c2 hs hf hrow
    refine HP.st_at (hs.cells h1) (by simp) ?_
    unfold F52_j1
    rw [syc_cells,ldL_some]
    refine ifI rfl (ifI rfl (ifI (by simp [syc_len]) ?_))
    rw [syc_splice,syc_cells,ldL_some]
    refine hK _ ⟨a2,c2,by rw [HP.set_eq]; rfl,?_⟩
    rcases hrow with h | ⟨b,r1,r2,r3,r4⟩
    · exact .inl h
    · exact .inr ⟨b,r1,r2,r3,by rw [HP.set_ne _ _ (fun e=>by have:=hf b r1; rw [e,h1] at this; cases this)]; exact r4⟩
  have hlen:(L.take i++L.drop (i+1)).length=i+(L.length-(i+1)):=by simp; omega
  have app:∀ (b0:Nat) {X:Value→HP→Prop},hq b0=.none→(∀ hp2 a2 c2,HSub hq hp2→(∀ b',a2=some ⟨b',0,none⟩→hq b'=.none)→Row hp2 a2 i c2 93 13 ((L.take i).flatMap syc)→X (.slice a2 (0+i) c2) hp2) →
      opS Tryd.prog (Builtin.append_ #[88,88] 88 ⟨[.slice (some ⟨b0,0,none⟩) 0 0,.slice a i c]⟩) (hq.set b0 (.cells 93 [] 0)) X:=by
    intro b0 X hb0 hX
    have s0:=HSub.set_fresh hq (.cells 93 [] 0) hb0
    have hr0:Row (hq.set b0 (.cells 93 [] 0)) (some ⟨b0,0,none⟩) 0 0 93 13 []:=.inr ⟨b0,rfl,Nat.le_refl _,rfl,by rw [HP.set_eq]⟩
    have hsh:=(h2.sub s0).shows.take syc_len rfl (Nat.le_of_lt hi)
    refine opS_appF (e:=93) (size:=13) (bytes:=64) (by kernel_rfl) hr0 hsh (all_flat syc_one _) (by omega) (by omega) ?_
    intro s2 c2 hp2 hrow2 hf2
    obtain ⟨k1,k2⟩:=hf2 hq s0 (fun b' e=>by cases e; exact hb0)
    exact hX hp2 s2 c2 k1 k2 (by rw [Nat.zero_add] at hrow2; simpa using hrow2)
  have app2:∀ (hp2:HP) (a2:Option Addr) (c2:Nat) {X:Value→HP→Prop},HSub hq hp2→(∀ b',a2=some ⟨b',0,none⟩→hq b'=.none)→Row hp2 a2 i c2 93 13 ((L.take i).flatMap syc) →
      (∀ hp3 a3 c3,HSub hq hp3→(∀ b',a3=some ⟨b',0,none⟩→hq b'=.none)→Row hp3 a3 (L.take i++L.drop (i+1)).length c3 93 13 ((L.take i++L.drop (i+1)).flatMap syc)→X (.slice a3 (L.take i++L.drop (i+1)).length c3) hp3) →
      opS Tryd.prog (Builtin.append_ #[88,88] 88 ⟨[.slice a2 i c2,.slice (sub0 a c (i+1) 13) (L.length-(i+1)) (c-(i+1))]⟩) hp2 X:=by
    intro hp2 a2 c2 X hs hf hrow hX
    have hsh:=Shows.subF (enc:=syc) (i:=i+1) (h2.sub hs).shows syc_len rfl hcn (by omega)
    refine opS_appF (e:=93) (size:=13) (bytes:=64) (by kernel_rfl) hrow hsh (all_flat syc_one _) (by omega) (by omega) ?_
    intro s3 c3 hp3 hrow3 hf3
    obtain ⟨k1,k2⟩:=hf3 hq hs hf
    rw [← List.flatMap_append,← hlen] at hrow3
    rw [← hlen]
    exact hX hp3 s3 c3 k1 k2 hrow3
  repeat' apply And.intro
  all_goals try omega
  all_goals
    try simp only [ptrN_some,Nat.zero_add,hc20,ldV_some,slcV_slice]
    refine fun (b0:Nat) (hb0:hq b0=Ent.none)=>?_
    have s0:=HSub.set_fresh hq (.cells 93 [] 0) hb0
    have hc21:=hc2 s0
    try simp only [ptrN_some,Nat.zero_add,hc21,ldV_some,slcV_slice]
    first
      | refine ⟨by omega,by omega,?_⟩
      | skip
    try simp only [ptrN_some,Nat.zero_add,hc21,ldV_some,slcV_slice]
    refine app b0 hb0 fun hp2 a2 c2 hs2 hf2 hrow2=>?_
    have hc22:=hc2 hs2
    rw [Nat.zero_add]
    simp only [ptrN_some,Nat.zero_add,hc22,ldV_some,slcV_slice]
    refine ⟨by omega,by omega,hcn,?_⟩
    refine app2 hp2 a2 c2 hs2 hf2 hrow2 fun hp3 a3 c3 hs3 hf3 hrow3=>?_
    simp only [slcV_slice,ptrN_some,Nat.zero_add]
    exact fin hp3 a3 c3 hs3 hf3 hrow3
end
end Go.Proofs
set_option linter.unusedVariables false
set_option maxRecDepth 20000
set_option maxHeartbeats 4000000
namespace Go.Proofs
open Go Go.HL
section
variable {e E:Env} {x0:OA} {x1 x2:List Value} {x3:Int} {x4:ByteArray} {k6 k7:List Value} {hp:HP} {K:Env→PV→HP→Prop}
abbrev R51 (p n:Nat):=RW Tryd.prog 63 [6,7] (opsAt Tryd.f51 (pth p)) (List.range n)
theorem F51_r0:R51 2 3 (w2 e 2 (sA x2) 1 (sA x1)) V0 hp K=
 K (w5 e 2 (sA x2) 1 (sA x1) 6 (sR 6 0) 7 (sR 7 0) 10 (sI 0)) (w2 V0 6 (34,x1) 7 (34,x2)) hp:= by kernel_rfl
theorem F51_r1:R51 9 3 (upd e 4 (sT x4)) (w2 V0 7 (34,k7) 6 (34,k6)) hp K=
 K (w4 e 4 (sT x4) 11 (sT x4) 12 (sI ((ByteArray.size x4:Nat))) 13 (sB ((decide (((ByteArray.size x4:Nat):Int) > 65536))))) (w2 V0 7 (34,k7) 6 (34,k6)) hp:= by kernel_rfl
theorem F51_r2:R51 37 1 e V0 hp K=
 K (upd e 10 (sI 3)) V0 hp:= by kernel_rfl
theorem F51_r3:R51 75 1 e V0 hp K=
 K (upd e 10 (sI 1)) V0 hp:= by kernel_rfl
theorem F51_r4 (h:E=upd (w2 e 7 (sR 7 0) 6 (sR 6 0)) 0 (sP x0)):R51 39 5 E (w2 V0 7 (34,k7) 6 (34,k6)) hp K=
 ldL (cellsN k6 0 5) fun l1=>(ldL (cellsN k7 0 5) fun l2=>CF Tryd.prog 49 [(.pointer x0),(.agg ⟨l1⟩),(.agg ⟨l2⟩)] hp fun u3 h4=>intV u3 .i64 fun i5=>K (w5 E 20 (sP x0) 21 (sA l1) 22 (sA l2) 23 (sI i5) 24 (sB (decide (i5≥0)))) (w2 V0 7 (34,k7) 6 (34,k6)) h4):= by subst h; kernel_rfl
theorem F51_r5:R51 151 1 e V0 hp K=
 K (upd e 10 (sI 5)) V0 hp:= by kernel_rfl
theorem F51_r6:R51 79 10 (upd e 0 (sP x0)) (w2 V0 7 (34,k7) 6 (34,k6)) hp K=
 ptrN x0 fun b1 o2=>(ldV (HP.cell hp b1 (o2+2)) fun v3=>slcV v3 fun a4 n5 c6=>ptrN x0 fun b7 o8=>ldV (HP.cell hp b7 (o8+0)) fun v9=>intV v9 .i64 fun i10=>K (w3 (w8 e 0 (sP x0) 25 (sP x0) 26 (sQ b1 o2) 27 (sQ b1 (o2+2)) 28 (sS a4 n5 c6) 29 (sI ((n5:Nat))) 30 (sP x0) 31 (sQ b7 o8)) 32 (sQ b7 (o8+0)) 33 (sI i10) 34 (sB ((decide (((n5:Nat):Int)≥i10))))) (w2 V0 7 (34,k7) 6 (34,k6)) hp):= by kernel_rfl
theorem F51_r7:R51 303 1 e V0 hp K=
 K (upd e 10 (sI 6)) V0 hp:= by kernel_rfl
theorem F51_r8:R51 95 9 (upd e 0 (sP x0)) (w2 V0 7 (34,k7) 6 (34,k6)) hp K=
 ptrN x0 fun b1 o2=>(ldV (HP.cell hp b1 (o2+1)) fun v3=>intV v3 .i64 fun i4=>ptrN x0 fun b5 o6=>HP.st hp b5 (o6+1) (.int .i64 (wr (i4+1))) fun h7=>K (upd (w8 e 0 (sP x0) 35 (sP x0) 36 (sP x0) 37 (sQ b1 o2) 38 (sQ b1 (o2+1)) 39 (sI i4) 40 (sI ((wr (i4+1)))) 41 (sQ b5 o6)) 42 (sQ b5 (o6+1))) (w2 V0 7 (34,k7) 6 (34,k6)) h7):= by kernel_rfl
theorem F51_r9 {e:Env} {x0:OA} {x3:Int} {x4:ByteArray} {k6:List Value} {k7:List Value} {hp:HP} {K:Env→PV→HP→Prop}:RW Tryd.prog 63 [6,7] (opsAt Tryd.f51 (pth 191)) [0,1,2,3,4,5,6,7,8,9,10,11,12,13,14,15,16,17,18,19,20] (w5 e 7 (sR 7 0) 6 (sR 6 0) 4 (sT x4) 3 (sI x3) 0 (sP x0)) (w2 V0 7 (34,k7) 6 (34,k6)) hp K=
    (∀ b1:Nat,hp b1=.none→(ptrN x0 fun b2 o3=>ldV (HP.cell (HP.set hp b1 (.cells 93 [] 0)) b2 (o3+2)) fun v4=>slcV v4 fun a5 n6 c7=>opS Tryd.prog (Builtin.append_ #[88,88] 88 ⟨[(.slice (some ⟨b1,0,none⟩) 0 0),(.slice a5 n6 c7)]⟩) (HP.set hp b1 (.cells 93 [] 0)) fun u8 h9=>slcV u8 fun a10 n11 c12=>ptrN x0 fun b13 o14=>ldV (HP.cell h9 b13 (o14+1)) fun v15=>intV v15 .i64 fun i16=>ldL (cellsN k6 0 5) fun l17=>ldL (cellsN k7 0 5) fun l18=>if List.length l17=5 then (if List.length l18=5 then (if List.length (List.set (List.set (splice (splice [(.int .i64 i16),.int .u8 0,.int .u8 0,.int .u8 0,.int .u8 0,.int .i64 0,.int .u8 0,.int .u8 0,.int .u8 0,.int .u8 0,.int .i64 0,.int .i64 0,.string ⟨#[]⟩] 1 l17) 6 l18) 11 (.int .i64 x3)) 12 (.string x4))=13 then (∀ b19:Nat,h9 b19=.none→(opS Tryd.prog (Builtin.append_ #[88,88] 88 ⟨[(.slice a10 n11 c12),(.slice (some ⟨b19,0,none⟩) 1 1)]⟩) (HP.set h9 b19 (.cells 93 (splice [.int .i64 0,.int .u8 0,.int .u8 0,.int .u8 0,.int .u8 0,.int .i64 0,.int .u8 0,.int .u8 0,.int .u8 0,.int .u8 0,.int .i64 0,.int .i64 0,.string ⟨#[]⟩] 0 (List.set (List.set (splice (splice [(.int .i64 i16),.int .u8 0,.int .u8 0,.int .u8 0,.int .u8 0,.int .i64 0,.int .u8 0,.int .u8 0,.int .u8 0,.int .u8 0,.int .i64 0,.int .i64 0,.string ⟨#[]⟩] 1 l17) 6 l18) 11 (.int .i64 x3)) 12 (.string x4))) 0)) fun u20 h21=>slcV u20 fun a22 n23 c24=>ptrN x0 fun b25 o26=>HP.st h21 b25 (o26+2) (.slice a22 n23 c24) fun h27=>K (upd (w8 (w8 (w8 e 7 (sR 7 0) 6 (sR 6 0) 4 (sT x4) 3 (sI x3) 0 (sP x0) 43 (sP x0) 44 (sV (.slice (some ⟨b1,0,none⟩) 0 0)) 45 (sP x0)) 46 (sQ b2 o3) 47 (sQ b2 (o3+2)) 48 (sS a5 n6 c7) 49 (sS a10 n11 c12) 50 (sP x0) 51 (sQ b13 o14) 52 (sQ b13 (o14+1)) 53 (sI i16)) 54 (sA l17) 55 (sA l18) 56 (sI x3) 57 (sT x4) 58 (sV (.agg ⟨(List.set (List.set (splice (splice [(.int .i64 i16),.int .u8 0,.int .u8 0,.int .u8 0,.int .u8 0,.int .i64 0,.int .u8 0,.int .u8 0,.int .u8 0,.int .u8 0,.int .i64 0,.int .i64 0,.string ⟨#[]⟩] 1 l17) 6 l18) 11 (.int .i64 x3)) 12 (.string x4))⟩)) 59 (sV (.slice (some ⟨b19,0,none⟩) 1 1)) 60 (sS a22 n23 c24) 61 (sQ b25 o26)) 62 (sQ b25 (o26+2))) (w2 V0 7 (34,k7) 6 (34,k6)) h27)) else False) else False) else False)):=by kernel_rfl
theorem F51_r10 {e:Env} {x0:OA} {x3:Int} {x4:ByteArray} {k6:List Value} {k7:List Value} {hp:HP} {K:Env→PV→HP→Prop}:RW Tryd.prog 63 [6,7] (opsAt Tryd.f51 (pth 191)) [0,1,2,3,4,5,7,8,9,10,6,11,12,13,14,15,16,17,18,19,20] (w5 e 7 (sR 7 0) 6 (sR 6 0) 4 (sT x4) 3 (sI x3) 0 (sP x0)) (w2 V0 7 (34,k7) 6 (34,k6)) hp K=
    (∀ b1:Nat,hp b1=.none→(ptrN x0 fun b2 o3=>ldV (HP.cell (HP.set hp b1 (.cells 93 [] 0)) b2 (o3+2)) fun v4=>slcV v4 fun a5 n6 c7=>ptrN x0 fun b8 o9=>ldV (HP.cell (HP.set hp b1 (.cells 93 [] 0)) b8 (o9+1)) fun v10=>intV v10 .i64 fun i11=>opS Tryd.prog (Builtin.append_ #[88,88] 88 ⟨[(.slice (some ⟨b1,0,none⟩) 0 0),(.slice a5 n6 c7)]⟩) (HP.set hp b1 (.cells 93 [] 0)) fun u12 h13=>slcV u12 fun a14 n15 c16=>ldL (cellsN k6 0 5) fun l17=>ldL (cellsN k7 0 5) fun l18=>if List.length l17=5 then (if List.length l18=5 then (if List.length (List.set (List.set (splice (splice [(.int .i64 i11),.int .u8 0,.int .u8 0,.int .u8 0,.int .u8 0,.int .i64 0,.int .u8 0,.int .u8 0,.int .u8 0,.int .u8 0,.int .i64 0,.int .i64 0,.string ⟨#[]⟩] 1 l17) 6 l18) 11 (.int .i64 x3)) 12 (.string x4))=13 then (∀ b19:Nat,h13 b19=.none→(opS Tryd.prog (Builtin.append_ #[88,88] 88 ⟨[(.slice a14 n15 c16),(.slice (some ⟨b19,0,none⟩) 1 1)]⟩) (HP.set h13 b19 (.cells 93 (splice [.int .i64 0,.int .u8 0,.int .u8 0,.int .u8 0,.int .u8 0,.int .i64 0,.int .u8 0,.int .u8 0,.int .u8 0,.int .u8 0,.int .i64 0,.int .i64 0,.string ⟨#[]⟩] 0 (List.set (List.set (splice (splice [(.int .i64 i11),.int .u8 0,.int .u8 0,.int .u8 0,.int .u8 0,.int .i64 0,.int .u8 0,.int .u8 0,.int .u8 0,.int .u8 0,.int .i64 0,.int .i64 0,.string ⟨#[]⟩] 1 l17) 6 l18) 11 (.int .i64 x3)) 12 (.string x4))) 0)) fun u20 h21=>slcV u20 fun a22 n23 c24=>ptrN x0 fun b25 o26=>HP.st h21 b25 (o26+2) (.slice a22 n23 c24) fun h27=>K (upd (w8 (w8 (w8 e 7 (sR 7 0) 6 (sR 6 0) 4 (sT x4) 3 (sI x3) 0 (sP x0) 43 (sP x0) 44 (sV (.slice (some ⟨b1,0,none⟩) 0 0)) 45 (sP x0)) 46 (sQ b2 o3) 47 (sQ b2 (o3+2)) 48 (sS a5 n6 c7) 50 (sP x0) 51 (sQ b8 o9) 52 (sQ b8 (o9+1)) 53 (sI i11) 49 (sS a14 n15 c16)) 54 (sA l17) 55 (sA l18) 56 (sI x3) 57 (sT x4) 58 (sV (.agg ⟨(List.set (List.set (splice (splice [(.int .i64 i11),.int .u8 0,.int .u8 0,.int .u8 0,.int .u8 0,.int .i64 0,.int .u8 0,.int .u8 0,.int .u8 0,.int .u8 0,.int .i64 0,.int .i64 0,.string ⟨#[]⟩] 1 l17) 6 l18) 11 (.int .i64 x3)) 12 (.string x4))⟩)) 59 (sV (.slice (some ⟨b19,0,none⟩) 1 1)) 60 (sS a22 n23 c24) 61 (sQ b25 o26)) 62 (sQ b25 (o26+2))) (w2 V0 7 (34,k7) 6 (34,k6)) h27)) else False) else False) else False)):=by kernel_rfl
theorem F51_r11 {e:Env} {x0:OA} {x3:Int} {x4:ByteArray} {k6:List Value} {k7:List Value} {hp:HP} {K:Env→PV→HP→Prop}:RW Tryd.prog 63 [6,7] (opsAt Tryd.f51 (pth 191)) [0,1,2,3,4,5,7,8,9,10,11,12,13,14,15,16,6,17,18,19,20] (w5 e 7 (sR 7 0) 6 (sR 6 0) 4 (sT x4) 3 (sI x3) 0 (sP x0)) (w2 V0 7 (34,k7) 6 (34,k6)) hp K=
    (∀ b1:Nat,hp b1=.none→(ptrN x0 fun b2 o3=>ldV (HP.cell (HP.set hp b1 (.cells 93 [] 0)) b2 (o3+2)) fun v4=>slcV v4 fun a5 n6 c7=>ptrN x0 fun b8 o9=>ldV (HP.cell (HP.set hp b1 (.cells 93 [] 0)) b8 (o9+1)) fun v10=>intV v10 .i64 fun i11=>ldL (cellsN k6 0 5) fun l12=>ldL (cellsN k7 0 5) fun l13=>if List.length l12=5 then (if List.length l13=5 then (if List.length (List.set (List.set (splice (splice [(.int .i64 i11),.int .u8 0,.int .u8 0,.int .u8 0,.int .u8 0,.int .i64 0,.int .u8 0,.int .u8 0,.int .u8 0,.int .u8 0,.int .i64 0,.int .i64 0,.string ⟨#[]⟩] 1 l12) 6 l13) 11 (.int .i64 x3)) 12 (.string x4))=13 then (∀ b14:Nat,(HP.set hp b1 (.cells 93 [] 0)) b14=.none→(opS Tryd.prog (Builtin.append_ #[88,88] 88 ⟨[(.slice (some ⟨b1,0,none⟩) 0 0),(.slice a5 n6 c7)]⟩) (HP.set (HP.set hp b1 (.cells 93 [] 0)) b14 (.cells 93 (splice [.int .i64 0,.int .u8 0,.int .u8 0,.int .u8 0,.int .u8 0,.int .i64 0,.int .u8 0,.int .u8 0,.int .u8 0,.int .u8 0,.int .i64 0,.int .i64 0,.string ⟨#[]⟩] 0 (List.set (List.set (splice (splice [(.int .i64 i11),.int .u8 0,.int .u8 0,.int .u8 0,.int .u8 0,.int .i64 0,.int .u8 0,.int .u8 0,.int .u8 0,.int .u8 0,.int .i64 0,.int .i64 0,.string ⟨#[]⟩] 1 l12) 6 l13) 11 (.int .i64 x3)) 12 (.string x4))) 0)) fun u15 h16=>slcV u15 fun a17 n18 c19=>opS Tryd.prog (Builtin.append_ #[88,88] 88 ⟨[(.slice a17 n18 c19),(.slice (some ⟨b14,0,none⟩) 1 1)]⟩) h16 fun u20 h21=>slcV u20 fun a22 n23 c24=>ptrN x0 fun b25 o26=>HP.st h21 b25 (o26+2) (.slice a22 n23 c24) fun h27=>K (upd (w8 (w8 (w8 e 7 (sR 7 0) 6 (sR 6 0) 4 (sT x4) 3 (sI x3) 0 (sP x0) 43 (sP x0) 44 (sV (.slice (some ⟨b1,0,none⟩) 0 0)) 45 (sP x0)) 46 (sQ b2 o3) 47 (sQ b2 (o3+2)) 48 (sS a5 n6 c7) 50 (sP x0) 51 (sQ b8 o9) 52 (sQ b8 (o9+1)) 53 (sI i11) 54 (sA l12)) 55 (sA l13) 56 (sI x3) 57 (sT x4) 58 (sV (.agg ⟨(List.set (List.set (splice (splice [(.int .i64 i11),.int .u8 0,.int .u8 0,.int .u8 0,.int .u8 0,.int .i64 0,.int .u8 0,.int .u8 0,.int .u8 0,.int .u8 0,.int .i64 0,.int .i64 0,.string ⟨#[]⟩] 1 l12) 6 l13) 11 (.int .i64 x3)) 12 (.string x4))⟩)) 59 (sV (.slice (some ⟨b14,0,none⟩) 1 1)) 49 (sS a17 n18 c19) 60 (sS a22 n23 c24) 61 (sQ b25 o26)) 62 (sQ b25 (o26+2))) (w2 V0 7 (34,k7) 6 (34,k6)) h27)) else False) else False) else False)):=by kernel_rfl
theorem F51_r12 {e:Env} {x0:OA} {x3:Int} {x4:ByteArray} {k6:List Value} {k7:List Value} {hp:HP} {K:Env→PV→HP→Prop}:RW Tryd.prog 63 [6,7] (opsAt Tryd.f51 (pth 191)) [0,1,2,3,4,7,8,9,10,11,12,13,14,15,16,5,6,17,18,19,20] (w5 e 7 (sR 7 0) 6 (sR 6 0) 4 (sT x4) 3 (sI x3) 0 (sP x0)) (w2 V0 7 (34,k7) 6 (34,k6)) hp K=
    (∀ b1:Nat,hp b1=.none→(ptrN x0 fun b2 o3=>ptrN x0 fun b4 o5=>ldV (HP.cell (HP.set hp b1 (.cells 93 [] 0)) b4 (o5+1)) fun v6=>intV v6 .i64 fun i7=>ldL (cellsN k6 0 5) fun l8=>ldL (cellsN k7 0 5) fun l9=>if List.length l8=5 then (if List.length l9=5 then (if List.length (List.set (List.set (splice (splice [(.int .i64 i7),.int .u8 0,.int .u8 0,.int .u8 0,.int .u8 0,.int .i64 0,.int .u8 0,.int .u8 0,.int .u8 0,.int .u8 0,.int .i64 0,.int .i64 0,.string ⟨#[]⟩] 1 l8) 6 l9) 11 (.int .i64 x3)) 12 (.string x4))=13 then (∀ b10:Nat,(HP.set hp b1 (.cells 93 [] 0)) b10=.none→(ldV (HP.cell (HP.set (HP.set hp b1 (.cells 93 [] 0)) b10 (.cells 93 (splice [.int .i64 0,.int .u8 0,.int .u8 0,.int .u8 0,.int .u8 0,.int .i64 0,.int .u8 0,.int .u8 0,.int .u8 0,.int .u8 0,.int .i64 0,.int .i64 0,.string ⟨#[]⟩] 0 (List.set (List.set (splice (splice [(.int .i64 i7),.int .u8 0,.int .u8 0,.int .u8 0,.int .u8 0,.int .i64 0,.int .u8 0,.int .u8 0,.int .u8 0,.int .u8 0,.int .i64 0,.int .i64 0,.string ⟨#[]⟩] 1 l8) 6 l9) 11 (.int .i64 x3)) 12 (.string x4))) 0)) b2 (o3+2)) fun v11=>slcV v11 fun a12 n13 c14=>opS Tryd.prog (Builtin.append_ #[88,88] 88 ⟨[(.slice (some ⟨b1,0,none⟩) 0 0),(.slice a12 n13 c14)]⟩) (HP.set (HP.set hp b1 (.cells 93 [] 0)) b10 (.cells 93 (splice [.int .i64 0,.int .u8 0,.int .u8 0,.int .u8 0,.int .u8 0,.int .i64 0,.int .u8 0,.int .u8 0,.int .u8 0,.int .u8 0,.int .i64 0,.int .i64 0,.string ⟨#[]⟩] 0 (List.set (List.set (splice (splice [(.int .i64 i7),.int .u8 0,.int .u8 0,.int .u8 0,.int .u8 0,.int .i64 0,.int .u8 0,.int .u8 0,.int .u8 0,.int .u8 0,.int .i64 0,.int .i64 0,.string ⟨#[]⟩] 1 l8) 6 l9) 11 (.int .i64 x3)) 12 (.string x4))) 0)) fun u15 h16=>slcV u15 fun a17 n18 c19=>opS Tryd.prog (Builtin.append_ #[88,88] 88 ⟨[(.slice a17 n18 c19),(.slice (some ⟨b10,0,none⟩) 1 1)]⟩) h16 fun u20 h21=>slcV u20 fun a22 n23 c24=>ptrN x0 fun b25 o26=>HP.st h21 b25 (o26+2) (.slice a22 n23 c24) fun h27=>K (upd (w8 (w8 (w8 e 7 (sR 7 0) 6 (sR 6 0) 4 (sT x4) 3 (sI x3) 0 (sP x0) 43 (sP x0) 44 (sV (.slice (some ⟨b1,0,none⟩) 0 0)) 45 (sP x0)) 46 (sQ b2 o3) 47 (sQ b2 (o3+2)) 50 (sP x0) 51 (sQ b4 o5) 52 (sQ b4 (o5+1)) 53 (sI i7) 54 (sA l8) 55 (sA l9)) 56 (sI x3) 57 (sT x4) 58 (sV (.agg ⟨(List.set (List.set (splice (splice [(.int .i64 i7),.int .u8 0,.int .u8 0,.int .u8 0,.int .u8 0,.int .i64 0,.int .u8 0,.int .u8 0,.int .u8 0,.int .u8 0,.int .i64 0,.int .i64 0,.string ⟨#[]⟩] 1 l8) 6 l9) 11 (.int .i64 x3)) 12 (.string x4))⟩)) 59 (sV (.slice (some ⟨b10,0,none⟩) 1 1)) 48 (sS a12 n13 c14) 49 (sS a17 n18 c19) 60 (sS a22 n23 c24) 61 (sQ b25 o26)) 62 (sQ b25 (o26+2))) (w2 V0 7 (34,k7) 6 (34,k6)) h27)) else False) else False) else False)):=by kernel_rfl
theorem F51_r13 {e:Env} {x0:OA} {x3:Int} {x4:ByteArray} {k6:List Value} {k7:List Value} {hp:HP} {K:Env→PV→HP→Prop}:RW Tryd.prog 63 [6,7] (opsAt Tryd.f51 (pth 191)) [0,2,3,4,7,8,9,10,1,5,6,11,12,13,14,15,16,17,18,19,20] (w5 e 7 (sR 7 0) 6 (sR 6 0) 4 (sT x4) 3 (sI x3) 0 (sP x0)) (w2 V0 7 (34,k7) 6 (34,k6)) hp K=
 ptrN x0 fun b1 o2=>(ptrN x0 fun b3 o4=>ldV (HP.cell hp b3 (o4+1)) fun v5=>intV v5 .i64 fun i6=>∀ b7:Nat,hp b7=.none→(ldV (HP.cell (HP.set hp b7 (.cells 93 [] 0)) b1 (o2+2)) fun v8=>slcV v8 fun a9 n10 c11=>opS Tryd.prog (Builtin.append_ #[88,88] 88 ⟨[(.slice (some ⟨b7,0,none⟩) 0 0),(.slice a9 n10 c11)]⟩) (HP.set hp b7 (.cells 93 [] 0)) fun u12 h13=>slcV u12 fun a14 n15 c16=>ldL (cellsN k6 0 5) fun l17=>ldL (cellsN k7 0 5) fun l18=>if List.length l17=5 then (if List.length l18=5 then (if List.length (List.set (List.set (splice (splice [(.int .i64 i6),.int .u8 0,.int .u8 0,.int .u8 0,.int .u8 0,.int .i64 0,.int .u8 0,.int .u8 0,.int .u8 0,.int .u8 0,.int .i64 0,.int .i64 0,.string ⟨#[]⟩] 1 l17) 6 l18) 11 (.int .i64 x3)) 12 (.string x4))=13 then (∀ b19:Nat,h13 b19=.none→(opS Tryd.prog (Builtin.append_ #[88,88] 88 ⟨[(.slice a14 n15 c16),(.slice (some ⟨b19,0,none⟩) 1 1)]⟩) (HP.set h13 b19 (.cells 93 (splice [.int .i64 0,.int .u8 0,.int .u8 0,.int .u8 0,.int .u8 0,.int .i64 0,.int .u8 0,.int .u8 0,.int .u8 0,.int .u8 0,.int .i64 0,.int .i64 0,.string ⟨#[]⟩] 0 (List.set (List.set (splice (splice [(.int .i64 i6),.int .u8 0,.int .u8 0,.int .u8 0,.int .u8 0,.int .i64 0,.int .u8 0,.int .u8 0,.int .u8 0,.int .u8 0,.int .i64 0,.int .i64 0,.string ⟨#[]⟩] 1 l17) 6 l18) 11 (.int .i64 x3)) 12 (.string x4))) 0)) fun u20 h21=>slcV u20 fun a22 n23 c24=>ptrN x0 fun b25 o26=>HP.st h21 b25 (o26+2) (.slice a22 n23 c24) fun h27=>K (upd (w8 (w8 (w8 e 7 (sR 7 0) 6 (sR 6 0) 4 (sT x4) 3 (sI x3) 0 (sP x0) 43 (sP x0) 45 (sP x0) 46 (sQ b1 o2)) 47 (sQ b1 (o2+2)) 50 (sP x0) 51 (sQ b3 o4) 52 (sQ b3 (o4+1)) 53 (sI i6) 44 (sV (.slice (some ⟨b7,0,none⟩) 0 0)) 48 (sS a9 n10 c11) 49 (sS a14 n15 c16)) 54 (sA l17) 55 (sA l18) 56 (sI x3) 57 (sT x4) 58 (sV (.agg ⟨(List.set (List.set (splice (splice [(.int .i64 i6),.int .u8 0,.int .u8 0,.int .u8 0,.int .u8 0,.int .i64 0,.int .u8 0,.int .u8 0,.int .u8 0,.int .u8 0,.int .i64 0,.int .i64 0,.string ⟨#[]⟩] 1 l17) 6 l18) 11 (.int .i64 x3)) 12 (.string x4))⟩)) 59 (sV (.slice (some ⟨b19,0,none⟩) 1 1)) 60 (sS a22 n23 c24) 61 (sQ b25 o26)) 62 (sQ b25 (o26+2))) (w2 V0 7 (34,k7) 6 (34,k6)) h27)) else False) else False) else False)):= by kernel_rfl
theorem F51_r14 {e:Env} {x0:OA} {x3:Int} {x4:ByteArray} {k6:List Value} {k7:List Value} {hp:HP} {K:Env→PV→HP→Prop}:RW Tryd.prog 63 [6,7] (opsAt Tryd.f51 (pth 191)) [0,2,3,4,7,8,9,10,1,5,11,12,13,14,15,16,6,17,18,19,20] (w5 e 7 (sR 7 0) 6 (sR 6 0) 4 (sT x4) 3 (sI x3) 0 (sP x0)) (w2 V0 7 (34,k7) 6 (34,k6)) hp K=
 ptrN x0 fun b1 o2=>(ptrN x0 fun b3 o4=>ldV (HP.cell hp b3 (o4+1)) fun v5=>intV v5 .i64 fun i6=>∀ b7:Nat,hp b7=.none→(ldV (HP.cell (HP.set hp b7 (.cells 93 [] 0)) b1 (o2+2)) fun v8=>slcV v8 fun a9 n10 c11=>ldL (cellsN k6 0 5) fun l12=>ldL (cellsN k7 0 5) fun l13=>if List.length l12=5 then (if List.length l13=5 then (if List.length (List.set (List.set (splice (splice [(.int .i64 i6),.int .u8 0,.int .u8 0,.int .u8 0,.int .u8 0,.int .i64 0,.int .u8 0,.int .u8 0,.int .u8 0,.int .u8 0,.int .i64 0,.int .i64 0,.string ⟨#[]⟩] 1 l12) 6 l13) 11 (.int .i64 x3)) 12 (.string x4))=13 then (∀ b14:Nat,(HP.set hp b7 (.cells 93 [] 0)) b14=.none→(opS Tryd.prog (Builtin.append_ #[88,88] 88 ⟨[(.slice (some ⟨b7,0,none⟩) 0 0),(.slice a9 n10 c11)]⟩) (HP.set (HP.set hp b7 (.cells 93 [] 0)) b14 (.cells 93 (splice [.int .i64 0,.int .u8 0,.int .u8 0,.int .u8 0,.int .u8 0,.int .i64 0,.int .u8 0,.int .u8 0,.int .u8 0,.int .u8 0,.int .i64 0,.int .i64 0,.string ⟨#[]⟩] 0 (List.set (List.set (splice (splice [(.int .i64 i6),.int .u8 0,.int .u8 0,.int .u8 0,.int .u8 0,.int .i64 0,.int .u8 0,.int .u8 0,.int .u8 0,.int .u8 0,.int .i64 0,.int .i64 0,.string ⟨#[]⟩] 1 l12) 6 l13) 11 (.int .i64 x3)) 12 (.string x4))) 0)) fun u15 h16=>slcV u15 fun a17 n18 c19=>opS Tryd.prog (Builtin.append_ #[88,88] 88 ⟨[(.slice a17 n18 c19),(.slice (some ⟨b14,0,none⟩) 1 1)]⟩) h16 fun u20 h21=>slcV u20 fun a22 n23 c24=>ptrN x0 fun b25 o26=>HP.st h21 b25 (o26+2) (.slice a22 n23 c24) fun h27=>K (upd (w8 (w8 (w8 e 7 (sR 7 0) 6 (sR 6 0) 4 (sT x4) 3 (sI x3) 0 (sP x0) 43 (sP x0) 45 (sP x0) 46 (sQ b1 o2)) 47 (sQ b1 (o2+2)) 50 (sP x0) 51 (sQ b3 o4) 52 (sQ b3 (o4+1)) 53 (sI i6) 44 (sV (.slice (some ⟨b7,0,none⟩) 0 0)) 48 (sS a9 n10 c11) 54 (sA l12)) 55 (sA l13) 56 (sI x3) 57 (sT x4) 58 (sV (.agg ⟨(List.set (List.set (splice (splice [(.int .i64 i6),.int .u8 0,.int .u8 0,.int .u8 0,.int .u8 0,.int .i64 0,.int .u8 0,.int .u8 0,.int .u8 0,.int .u8 0,.int .i64 0,.int .i64 0,.string ⟨#[]⟩] 1 l12) 6 l13) 11 (.int .i64 x3)) 12 (.string x4))⟩)) 59 (sV (.slice (some ⟨b14,0,none⟩) 1 1)) 49 (sS a17 n18 c19) 60 (sS a22 n23 c24) 61 (sQ b25 o26)) 62 (sQ b25 (o26+2))) (w2 V0 7 (34,k7) 6 (34,k6)) h27)) else False) else False) else False)):= by kernel_rfl
theorem F51_r15 {e:Env} {x0:OA} {x3:Int} {x4:ByteArray} {k6:List Value} {k7:List Value} {hp:HP} {K:Env→PV→HP→Prop}:RW Tryd.prog 63 [6,7] (opsAt Tryd.f51 (pth 191)) [0,2,3,4,7,8,9,10,1,11,12,13,14,15,16,5,6,17,18,19,20] (w5 e 7 (sR 7 0) 6 (sR 6 0) 4 (sT x4) 3 (sI x3) 0 (sP x0)) (w2 V0 7 (34,k7) 6 (34,k6)) hp K=
 ptrN x0 fun b1 o2=>(ptrN x0 fun b3 o4=>ldV (HP.cell hp b3 (o4+1)) fun v5=>intV v5 .i64 fun i6=>∀ b7:Nat,hp b7=.none→(ldL (cellsN k6 0 5) fun l8=>ldL (cellsN k7 0 5) fun l9=>if List.length l8=5 then (if List.length l9=5 then (if List.length (List.set (List.set (splice (splice [(.int .i64 i6),.int .u8 0,.int .u8 0,.int .u8 0,.int .u8 0,.int .i64 0,.int .u8 0,.int .u8 0,.int .u8 0,.int .u8 0,.int .i64 0,.int .i64 0,.string ⟨#[]⟩] 1 l8) 6 l9) 11 (.int .i64 x3)) 12 (.string x4))=13 then (∀ b10:Nat,(HP.set hp b7 (.cells 93 [] 0)) b10=.none→(ldV (HP.cell (HP.set (HP.set hp b7 (.cells 93 [] 0)) b10 (.cells 93 (splice [.int .i64 0,.int .u8 0,.int .u8 0,.int .u8 0,.int .u8 0,.int .i64 0,.int .u8 0,.int .u8 0,.int .u8 0,.int .u8 0,.int .i64 0,.int .i64 0,.string ⟨#[]⟩] 0 (List.set (List.set (splice (splice [(.int .i64 i6),.int .u8 0,.int .u8 0,.int .u8 0,.int .u8 0,.int .i64 0,.int .u8 0,.int .u8 0,.int .u8 0,.int .u8 0,.int .i64 0,.int .i64 0,.string ⟨#[]⟩] 1 l8) 6 l9) 11 (.int .i64 x3)) 12 (.string x4))) 0)) b1 (o2+2)) fun v11=>slcV v11 fun a12 n13 c14=>opS Tryd.prog (Builtin.append_ #[88,88] 88 ⟨[(.slice (some ⟨b7,0,none⟩) 0 0),(.slice a12 n13 c14)]⟩) (HP.set (HP.set hp b7 (.cells 93 [] 0)) b10 (.cells 93 (splice [.int .i64 0,.int .u8 0,.int .u8 0,.int .u8 0,.int .u8 0,.int .i64 0,.int .u8 0,.int .u8 0,.int .u8 0,.int .u8 0,.int .i64 0,.int .i64 0,.string ⟨#[]⟩] 0 (List.set (List.set (splice (splice [(.int .i64 i6),.int .u8 0,.int .u8 0,.int .u8 0,.int .u8 0,.int .i64 0,.int .u8 0,.int .u8 0,.int .u8 0,.int .u8 0,.int .i64 0,.int .i64 0,.string ⟨#[]⟩] 1 l8) 6 l9) 11 (.int .i64 x3)) 12 (.string x4))) 0)) fun u15 h16=>slcV u15 fun a17 n18 c19=>opS Tryd.prog (Builtin.append_ #[88,88] 88 ⟨[(.slice a17 n18 c19),(.slice (some ⟨b10,0,none⟩) 1 1)]⟩) h16 fun u20 h21=>slcV u20 fun a22 n23 c24=>ptrN x0 fun b25 o26=>HP.st h21 b25 (o26+2) (.slice a22 n23 c24) fun h27=>K (upd (w8 (w8 (w8 e 7 (sR 7 0) 6 (sR 6 0) 4 (sT x4) 3 (sI x3) 0 (sP x0) 43 (sP x0) 45 (sP x0) 46 (sQ b1 o2)) 47 (sQ b1 (o2+2)) 50 (sP x0) 51 (sQ b3 o4) 52 (sQ b3 (o4+1)) 53 (sI i6) 44 (sV (.slice (some ⟨b7,0,none⟩) 0 0)) 54 (sA l8) 55 (sA l9)) 56 (sI x3) 57 (sT x4) 58 (sV (.agg ⟨(List.set (List.set (splice (splice [(.int .i64 i6),.int .u8 0,.int .u8 0,.int .u8 0,.int .u8 0,.int .i64 0,.int .u8 0,.int .u8 0,.int .u8 0,.int .u8 0,.int .i64 0,.int .i64 0,.string ⟨#[]⟩] 1 l8) 6 l9) 11 (.int .i64 x3)) 12 (.string x4))⟩)) 59 (sV (.slice (some ⟨b10,0,none⟩) 1 1)) 48 (sS a12 n13 c14) 49 (sS a17 n18 c19) 60 (sS a22 n23 c24) 61 (sQ b25 o26)) 62 (sQ b25 (o26+2))) (w2 V0 7 (34,k7) 6 (34,k6)) h27)) else False) else False) else False)):= by kernel_rfl
theorem F51_r16 {e:Env} {x0:OA} {x3:Int} {x4:ByteArray} {k6:List Value} {k7:List Value} {hp:HP} {K:Env→PV→HP→Prop}:RW Tryd.prog 63 [6,7] (opsAt Tryd.f51 (pth 191)) [0,2,3,4,7,8,9,10,11,12,13,14,15,16,1,5,6,17,18,19,20] (w5 e 7 (sR 7 0) 6 (sR 6 0) 4 (sT x4) 3 (sI x3) 0 (sP x0)) (w2 V0 7 (34,k7) 6 (34,k6)) hp K=
 ptrN x0 fun b1 o2=>(ptrN x0 fun b3 o4=>ldV (HP.cell hp b3 (o4+1)) fun v5=>intV v5 .i64 fun i6=>ldL (cellsN k6 0 5) fun l7=>ldL (cellsN k7 0 5) fun l8=>if List.length l7=5 then (if List.length l8=5 then (if List.length (List.set (List.set (splice (splice [(.int .i64 i6),.int .u8 0,.int .u8 0,.int .u8 0,.int .u8 0,.int .i64 0,.int .u8 0,.int .u8 0,.int .u8 0,.int .u8 0,.int .i64 0,.int .i64 0,.string ⟨#[]⟩] 1 l7) 6 l8) 11 (.int .i64 x3)) 12 (.string x4))=13 then (∀ b9:Nat,hp b9=.none→(∀ b10:Nat,(HP.set hp b9 (.cells 93 (splice [.int .i64 0,.int .u8 0,.int .u8 0,.int .u8 0,.int .u8 0,.int .i64 0,.int .u8 0,.int .u8 0,.int .u8 0,.int .u8 0,.int .i64 0,.int .i64 0,.string ⟨#[]⟩] 0 (List.set (List.set (splice (splice [(.int .i64 i6),.int .u8 0,.int .u8 0,.int .u8 0,.int .u8 0,.int .i64 0,.int .u8 0,.int .u8 0,.int .u8 0,.int .u8 0,.int .i64 0,.int .i64 0,.string ⟨#[]⟩] 1 l7) 6 l8) 11 (.int .i64 x3)) 12 (.string x4))) 0)) b10=.none→(ldV (HP.cell (HP.set (HP.set hp b9 (.cells 93 (splice [.int .i64 0,.int .u8 0,.int .u8 0,.int .u8 0,.int .u8 0,.int .i64 0,.int .u8 0,.int .u8 0,.int .u8 0,.int .u8 0,.int .i64 0,.int .i64 0,.string ⟨#[]⟩] 0 (List.set (List.set (splice (splice [(.int .i64 i6),.int .u8 0,.int .u8 0,.int .u8 0,.int .u8 0,.int .i64 0,.int .u8 0,.int .u8 0,.int .u8 0,.int .u8 0,.int .i64 0,.int .i64 0,.string ⟨#[]⟩] 1 l7) 6 l8) 11 (.int .i64 x3)) 12 (.string x4))) 0)) b10 (.cells 93 [] 0)) b1 (o2+2)) fun v11=>slcV v11 fun a12 n13 c14=>opS Tryd.prog (Builtin.append_ #[88,88] 88 ⟨[(.slice (some ⟨b10,0,none⟩) 0 0),(.slice a12 n13 c14)]⟩) (HP.set (HP.set hp b9 (.cells 93 (splice [.int .i64 0,.int .u8 0,.int .u8 0,.int .u8 0,.int .u8 0,.int .i64 0,.int .u8 0,.int .u8 0,.int .u8 0,.int .u8 0,.int .i64 0,.int .i64 0,.string ⟨#[]⟩] 0 (List.set (List.set (splice (splice [(.int .i64 i6),.int .u8 0,.int .u8 0,.int .u8 0,.int .u8 0,.int .i64 0,.int .u8 0,.int .u8 0,.int .u8 0,.int .u8 0,.int .i64 0,.int .i64 0,.string ⟨#[]⟩] 1 l7) 6 l8) 11 (.int .i64 x3)) 12 (.string x4))) 0)) b10 (.cells 93 [] 0)) fun u15 h16=>slcV u15 fun a17 n18 c19=>opS Tryd.prog (Builtin.append_ #[88,88] 88 ⟨[(.slice a17 n18 c19),(.slice (some ⟨b9,0,none⟩) 1 1)]⟩) h16 fun u20 h21=>slcV u20 fun a22 n23 c24=>ptrN x0 fun b25 o26=>HP.st h21 b25 (o26+2) (.slice a22 n23 c24) fun h27=>K (upd (w8 (w8 (w8 e 7 (sR 7 0) 6 (sR 6 0) 4 (sT x4) 3 (sI x3) 0 (sP x0) 43 (sP x0) 45 (sP x0) 46 (sQ b1 o2)) 47 (sQ b1 (o2+2)) 50 (sP x0) 51 (sQ b3 o4) 52 (sQ b3 (o4+1)) 53 (sI i6) 54 (sA l7) 55 (sA l8) 56 (sI x3)) 57 (sT x4) 58 (sV (.agg ⟨(List.set (List.set (splice (splice [(.int .i64 i6),.int .u8 0,.int .u8 0,.int .u8 0,.int .u8 0,.int .i64 0,.int .u8 0,.int .u8 0,.int .u8 0,.int .u8 0,.int .i64 0,.int .i64 0,.string ⟨#[]⟩] 1 l7) 6 l8) 11 (.int .i64 x3)) 12 (.string x4))⟩)) 59 (sV (.slice (some ⟨b9,0,none⟩) 1 1)) 44 (sV (.slice (some ⟨b10,0,none⟩) 0 0)) 48 (sS a12 n13 c14) 49 (sS a17 n18 c19) 60 (sS a22 n23 c24) 61 (sQ b25 o26)) 62 (sQ b25 (o26+2))) (w2 V0 7 (34,k7) 6 (34,k6)) h27))) else False) else False) else False):= by kernel_rfl
theorem F51_r17 {e:Env} {x0:OA} {x3:Int} {x4:ByteArray} {k6:List Value} {k7:List Value} {hp:HP} {K:Env→PV→HP→Prop}:RW Tryd.prog 63 [6,7] (opsAt Tryd.f51 (pth 191)) [0,2,3,4,5,1,6,7,8,9,10,11,12,13,14,15,16,17,18,19,20] (w5 e 7 (sR 7 0) 6 (sR 6 0) 4 (sT x4) 3 (sI x3) 0 (sP x0)) (w2 V0 7 (34,k7) 6 (34,k6)) hp K=
 ptrN x0 fun b1 o2=>(ldV (HP.cell hp b1 (o2+2)) fun v3=>slcV v3 fun a4 n5 c6=>∀ b7:Nat,hp b7=.none→(opS Tryd.prog (Builtin.append_ #[88,88] 88 ⟨[(.slice (some ⟨b7,0,none⟩) 0 0),(.slice a4 n5 c6)]⟩) (HP.set hp b7 (.cells 93 [] 0)) fun u8 h9=>slcV u8 fun a10 n11 c12=>ptrN x0 fun b13 o14=>ldV (HP.cell h9 b13 (o14+1)) fun v15=>intV v15 .i64 fun i16=>ldL (cellsN k6 0 5) fun l17=>ldL (cellsN k7 0 5) fun l18=>if List.length l17=5 then (if List.length l18=5 then (if List.length (List.set (List.set (splice (splice [(.int .i64 i16),.int .u8 0,.int .u8 0,.int .u8 0,.int .u8 0,.int .i64 0,.int .u8 0,.int .u8 0,.int .u8 0,.int .u8 0,.int .i64 0,.int .i64 0,.string ⟨#[]⟩] 1 l17) 6 l18) 11 (.int .i64 x3)) 12 (.string x4))=13 then (∀ b19:Nat,h9 b19=.none→(opS Tryd.prog (Builtin.append_ #[88,88] 88 ⟨[(.slice a10 n11 c12),(.slice (some ⟨b19,0,none⟩) 1 1)]⟩) (HP.set h9 b19 (.cells 93 (splice [.int .i64 0,.int .u8 0,.int .u8 0,.int .u8 0,.int .u8 0,.int .i64 0,.int .u8 0,.int .u8 0,.int .u8 0,.int .u8 0,.int .i64 0,.int .i64 0,.string ⟨#[]⟩] 0 (List.set (List.set (splice (splice [(.int .i64 i16),.int .u8 0,.int .u8 0,.int .u8 0,.int .u8 0,.int .i64 0,.int .u8 0,.int .u8 0,.int .u8 0,.int .u8 0,.int .i64 0,.int .i64 0,.string ⟨#[]⟩] 1 l17) 6 l18) 11 (.int .i64 x3)) 12 (.string x4))) 0)) fun u20 h21=>slcV u20 fun a22 n23 c24=>ptrN x0 fun b25 o26=>HP.st h21 b25 (o26+2) (.slice a22 n23 c24) fun h27=>K (upd (w8 (w8 (w8 e 7 (sR 7 0) 6 (sR 6 0) 4 (sT x4) 3 (sI x3) 0 (sP x0) 43 (sP x0) 45 (sP x0) 46 (sQ b1 o2)) 47 (sQ b1 (o2+2)) 48 (sS a4 n5 c6) 44 (sV (.slice (some ⟨b7,0,none⟩) 0 0)) 49 (sS a10 n11 c12) 50 (sP x0) 51 (sQ b13 o14) 52 (sQ b13 (o14+1)) 53 (sI i16)) 54 (sA l17) 55 (sA l18) 56 (sI x3) 57 (sT x4) 58 (sV (.agg ⟨(List.set (List.set (splice (splice [(.int .i64 i16),.int .u8 0,.int .u8 0,.int .u8 0,.int .u8 0,.int .i64 0,.int .u8 0,.int .u8 0,.int .u8 0,.int .u8 0,.int .i64 0,.int .i64 0,.string ⟨#[]⟩] 1 l17) 6 l18) 11 (.int .i64 x3)) 12 (.string x4))⟩)) 59 (sV (.slice (some ⟨b19,0,none⟩) 1 1)) 60 (sS a22 n23 c24) 61 (sQ b25 o26)) 62 (sQ b25 (o26+2))) (w2 V0 7 (34,k7) 6 (34,k6)) h27)) else False) else False) else False)):= by kernel_rfl
theorem F51_r18 {e:Env} {x0:OA} {x3:Int} {x4:ByteArray} {k6:List Value} {k7:List Value} {hp:HP} {K:Env→PV→HP→Prop}:RW Tryd.prog 63 [6,7] (opsAt Tryd.f51 (pth 191)) [0,2,3,4,5,1,7,8,9,10,6,11,12,13,14,15,16,17,18,19,20] (w5 e 7 (sR 7 0) 6 (sR 6 0) 4 (sT x4) 3 (sI x3) 0 (sP x0)) (w2 V0 7 (34,k7) 6 (34,k6)) hp K=
 ptrN x0 fun b1 o2=>(ldV (HP.cell hp b1 (o2+2)) fun v3=>slcV v3 fun a4 n5 c6=>∀ b7:Nat,hp b7=.none→(ptrN x0 fun b8 o9=>ldV (HP.cell (HP.set hp b7 (.cells 93 [] 0)) b8 (o9+1)) fun v10=>intV v10 .i64 fun i11=>opS Tryd.prog (Builtin.append_ #[88,88] 88 ⟨[(.slice (some ⟨b7,0,none⟩) 0 0),(.slice a4 n5 c6)]⟩) (HP.set hp b7 (.cells 93 [] 0)) fun u12 h13=>slcV u12 fun a14 n15 c16=>ldL (cellsN k6 0 5) fun l17=>ldL (cellsN k7 0 5) fun l18=>if List.length l17=5 then (if List.length l18=5 then (if List.length (List.set (List.set (splice (splice [(.int .i64 i11),.int .u8 0,.int .u8 0,.int .u8 0,.int .u8 0,.int .i64 0,.int .u8 0,.int .u8 0,.int .u8 0,.int .u8 0,.int .i64 0,.int .i64 0,.string ⟨#[]⟩] 1 l17) 6 l18) 11 (.int .i64 x3)) 12 (.string x4))=13 then (∀ b19:Nat,h13 b19=.none→(opS Tryd.prog (Builtin.append_ #[88,88] 88 ⟨[(.slice a14 n15 c16),(.slice (some ⟨b19,0,none⟩) 1 1)]⟩) (HP.set h13 b19 (.cells 93 (splice [.int .i64 0,.int .u8 0,.int .u8 0,.int .u8 0,.int .u8 0,.int .i64 0,.int .u8 0,.int .u8 0,.int .u8 0,.int .u8 0,.int .i64 0,.int .i64 0,.string ⟨#[]⟩] 0 (List.set (List.set (splice (splice [(.int .i64 i11),.int .u8 0,.int .u8 0,.int .u8 0,.int .u8 0,.int .i64 0,.int .u8 0,.int .u8 0,.int .u8 0,.int .u8 0,.int .i64 0,.int .i64 0,.string ⟨#[]⟩] 1 l17) 6 l18) 11 (.int .i64 x3)) 12 (.string x4))) 0)) fun u20 h21=>slcV u20 fun a22 n23 c24=>ptrN x0 fun b25 o26=>HP.st h21 b25 (o26+2) (.slice a22 n23 c24) fun h27=>K (upd (w8 (w8 (w8 e 7 (sR 7 0) 6 (sR 6 0) 4 (sT x4) 3 (sI x3) 0 (sP x0) 43 (sP x0) 45 (sP x0) 46 (sQ b1 o2)) 47 (sQ b1 (o2+2)) 48 (sS a4 n5 c6) 44 (sV (.slice (some ⟨b7,0,none⟩) 0 0)) 50 (sP x0) 51 (sQ b8 o9) 52 (sQ b8 (o9+1)) 53 (sI i11) 49 (sS a14 n15 c16)) 54 (sA l17) 55 (sA l18) 56 (sI x3) 57 (sT x4) 58 (sV (.agg ⟨(List.set (List.set (splice (splice [(.int .i64 i11),.int .u8 0,.int .u8 0,.int .u8 0,.int .u8 0,.int .i64 0,.int .u8 0,.int .u8 0,.int .u8 0,.int .u8 0,.int .i64 0,.int .i64 0,.string ⟨#[]⟩] 1 l17) 6 l18) 11 (.int .i64 x3)) 12 (.string x4))⟩)) 59 (sV (.slice (some ⟨b19,0,none⟩) 1 1)) 60 (sS a22 n23 c24) 61 (sQ b25 o26)) 62 (sQ b25 (o26+2))) (w2 V0 7 (34,k7) 6 (34,k6)) h27)) else False) else False) else False)):= by kernel_rfl
theorem F51_r19 {e:Env} {x0:OA} {x3:Int} {x4:ByteArray} {k6:List Value} {k7:List Value} {hp:HP} {K:Env→PV→HP→Prop}:RW Tryd.prog 63 [6,7] (opsAt Tryd.f51 (pth 191)) [0,2,3,4,5,1,7,8,9,10,11,12,13,14,15,16,6,17,18,19,20] (w5 e 7 (sR 7 0) 6 (sR 6 0) 4 (sT x4) 3 (sI x3) 0 (sP x0)) (w2 V0 7 (34,k7) 6 (34,k6)) hp K=
 ptrN x0 fun b1 o2=>(ldV (HP.cell hp b1 (o2+2)) fun v3=>slcV v3 fun a4 n5 c6=>∀ b7:Nat,hp b7=.none→(ptrN x0 fun b8 o9=>ldV (HP.cell (HP.set hp b7 (.cells 93 [] 0)) b8 (o9+1)) fun v10=>intV v10 .i64 fun i11=>ldL (cellsN k6 0 5) fun l12=>ldL (cellsN k7 0 5) fun l13=>if List.length l12=5 then (if List.length l13=5 then (if List.length (List.set (List.set (splice (splice [(.int .i64 i11),.int .u8 0,.int .u8 0,.int .u8 0,.int .u8 0,.int .i64 0,.int .u8 0,.int .u8 0,.int .u8 0,.int .u8 0,.int .i64 0,.int .i64 0,.string ⟨#[]⟩] 1 l12) 6 l13) 11 (.int .i64 x3)) 12 (.string x4))=13 then (∀ b14:Nat,(HP.set hp b7 (.cells 93 [] 0)) b14=.none→(opS Tryd.prog (Builtin.append_ #[88,88] 88 ⟨[(.slice (some ⟨b7,0,none⟩) 0 0),(.slice a4 n5 c6)]⟩) (HP.set (HP.set hp b7 (.cells 93 [] 0)) b14 (.cells 93 (splice [.int .i64 0,.int .u8 0,.int .u8 0,.int .u8 0,.int .u8 0,.int .i64 0,.int .u8 0,.int .u8 0,.int .u8 0,.int .u8 0,.int .i64 0,.int .i64 0,.string ⟨#[]⟩] 0 (List.set (List.set (splice (splice [(.int .i64 i11),.int .u8 0,.int .u8 0,.int .u8 0,.int .u8 0,.int .i64 0,.int .u8 0,.int .u8 0,.int .u8 0,.int .u8 0,.int .i64 0,.int .i64 0,.string ⟨#[]⟩] 1 l12) 6 l13) 11 (.int .i64 x3)) 12 (.string x4))) 0)) fun u15 h16=>slcV u15 fun a17 n18 c19=>opS Tryd.prog (Builtin.append_ #[88,88] 88 ⟨[(.slice a17 n18 c19),(.slice (some ⟨b14,0,none⟩) 1 1)]⟩) h16 fun u20 h21=>slcV u20 fun a22 n23 c24=>ptrN x0 fun b25 o26=>HP.st h21 b25 (o26+2) (.slice a22 n23 c24) fun h27=>K (upd (w8 (w8 (w8 e 7 (sR 7 0) 6 (sR 6 0) 4 (sT x4) 3 (sI x3) 0 (sP x0) 43 (sP x0) 45 (sP x0) 46 (sQ b1 o2)) 47 (sQ b1 (o2+2)) 48 (sS a4 n5 c6) 44 (sV (.slice (some ⟨b7,0,none⟩) 0 0)) 50 (sP x0) 51 (sQ b8 o9) 52 (sQ b8 (o9+1)) 53 (sI i11) 54 (sA l12)) 55 (sA l13) 56 (sI x3) 57 (sT x4) 58 (sV (.agg ⟨(List.set (List.set (splice (splice [(.int .i64 i11),.int .u8 0,.int .u8 0,.int .u8 0,.int .u8 0,.int .i64 0,.int .u8 0,.int .u8 0,.int .u8 0,.int .u8 0,.int .i64 0,.int .i64 0,.string ⟨#[]⟩] 1 l12) 6 l13) 11 (.int .i64 x3)) 12 (.string x4))⟩)) 59 (sV (.slice (some ⟨b14,0,none⟩) 1 1)) 49 (sS a17 n18 c19) 60 (sS a22 n23 c24) 61 (sQ b25 o26)) 62 (sQ b25 (o26+2))) (w2 V0 7 (34,k7) 6 (34,k6)) h27)) else False) else False) else False)):= by kernel_rfl
theorem F51_r20 {e:Env} {x0:OA} {x3:Int} {x4:ByteArray} {k6:List Value} {k7:List Value} {hp:HP} {K:Env→PV→HP→Prop}:RW Tryd.prog 63 [6,7] (opsAt Tryd.f51 (pth 191)) [0,2,3,4,5,7,8,9,10,1,6,11,12,13,14,15,16,17,18,19,20] (w5 e 7 (sR 7 0) 6 (sR 6 0) 4 (sT x4) 3 (sI x3) 0 (sP x0)) (w2 V0 7 (34,k7) 6 (34,k6)) hp K=
 ptrN x0 fun b1 o2=>(ldV (HP.cell hp b1 (o2+2)) fun v3=>slcV v3 fun a4 n5 c6=>ptrN x0 fun b7 o8=>ldV (HP.cell hp b7 (o8+1)) fun v9=>intV v9 .i64 fun i10=>∀ b11:Nat,hp b11=.none→(opS Tryd.prog (Builtin.append_ #[88,88] 88 ⟨[(.slice (some ⟨b11,0,none⟩) 0 0),(.slice a4 n5 c6)]⟩) (HP.set hp b11 (.cells 93 [] 0)) fun u12 h13=>slcV u12 fun a14 n15 c16=>ldL (cellsN k6 0 5) fun l17=>ldL (cellsN k7 0 5) fun l18=>if List.length l17=5 then (if List.length l18=5 then (if List.length (List.set (List.set (splice (splice [(.int .i64 i10),.int .u8 0,.int .u8 0,.int .u8 0,.int .u8 0,.int .i64 0,.int .u8 0,.int .u8 0,.int .u8 0,.int .u8 0,.int .i64 0,.int .i64 0,.string ⟨#[]⟩] 1 l17) 6 l18) 11 (.int .i64 x3)) 12 (.string x4))=13 then (∀ b19:Nat,h13 b19=.none→(opS Tryd.prog (Builtin.append_ #[88,88] 88 ⟨[(.slice a14 n15 c16),(.slice (some ⟨b19,0,none⟩) 1 1)]⟩) (HP.set h13 b19 (.cells 93 (splice [.int .i64 0,.int .u8 0,.int .u8 0,.int .u8 0,.int .u8 0,.int .i64 0,.int .u8 0,.int .u8 0,.int .u8 0,.int .u8 0,.int .i64 0,.int .i64 0,.string ⟨#[]⟩] 0 (List.set (List.set (splice (splice [(.int .i64 i10),.int .u8 0,.int .u8 0,.int .u8 0,.int .u8 0,.int .i64 0,.int .u8 0,.int .u8 0,.int .u8 0,.int .u8 0,.int .i64 0,.int .i64 0,.string ⟨#[]⟩] 1 l17) 6 l18) 11 (.int .i64 x3)) 12 (.string x4))) 0)) fun u20 h21=>slcV u20 fun a22 n23 c24=>ptrN x0 fun b25 o26=>HP.st h21 b25 (o26+2) (.slice a22 n23 c24) fun h27=>K (upd (w8 (w8 (w8 e 7 (sR 7 0) 6 (sR 6 0) 4 (sT x4) 3 (sI x3) 0 (sP x0) 43 (sP x0) 45 (sP x0) 46 (sQ b1 o2)) 47 (sQ b1 (o2+2)) 48 (sS a4 n5 c6) 50 (sP x0) 51 (sQ b7 o8) 52 (sQ b7 (o8+1)) 53 (sI i10) 44 (sV (.slice (some ⟨b11,0,none⟩) 0 0)) 49 (sS a14 n15 c16)) 54 (sA l17) 55 (sA l18) 56 (sI x3) 57 (sT x4) 58 (sV (.agg ⟨(List.set (List.set (splice (splice [(.int .i64 i10),.int .u8 0,.int .u8 0,.int .u8 0,.int .u8 0,.int .i64 0,.int .u8 0,.int .u8 0,.int .u8 0,.int .u8 0,.int .i64 0,.int .i64 0,.string ⟨#[]⟩] 1 l17) 6 l18) 11 (.int .i64 x3)) 12 (.string x4))⟩)) 59 (sV (.slice (some ⟨b19,0,none⟩) 1 1)) 60 (sS a22 n23 c24) 61 (sQ b25 o26)) 62 (sQ b25 (o26+2))) (w2 V0 7 (34,k7) 6 (34,k6)) h27)) else False) else False) else False)):= by kernel_rfl
theorem F51_r21 {e:Env} {x0:OA} {x3:Int} {x4:ByteArray} {k6:List Value} {k7:List Value} {hp:HP} {K:Env→PV→HP→Prop}:RW Tryd.prog 63 [6,7] (opsAt Tryd.f51 (pth 191)) [0,2,3,4,5,7,8,9,10,1,11,12,13,14,15,16,6,17,18,19,20] (w5 e 7 (sR 7 0) 6 (sR 6 0) 4 (sT x4) 3 (sI x3) 0 (sP x0)) (w2 V0 7 (34,k7) 6 (34,k6)) hp K=
 ptrN x0 fun b1 o2=>(ldV (HP.cell hp b1 (o2+2)) fun v3=>slcV v3 fun a4 n5 c6=>ptrN x0 fun b7 o8=>ldV (HP.cell hp b7 (o8+1)) fun v9=>intV v9 .i64 fun i10=>∀ b11:Nat,hp b11=.none→(ldL (cellsN k6 0 5) fun l12=>ldL (cellsN k7 0 5) fun l13=>if List.length l12=5 then (if List.length l13=5 then (if List.length (List.set (List.set (splice (splice [(.int .i64 i10),.int .u8 0,.int .u8 0,.int .u8 0,.int .u8 0,.int .i64 0,.int .u8 0,.int .u8 0,.int .u8 0,.int .u8 0,.int .i64 0,.int .i64 0,.string ⟨#[]⟩] 1 l12) 6 l13) 11 (.int .i64 x3)) 12 (.string x4))=13 then (∀ b14:Nat,(HP.set hp b11 (.cells 93 [] 0)) b14=.none→(opS Tryd.prog (Builtin.append_ #[88,88] 88 ⟨[(.slice (some ⟨b11,0,none⟩) 0 0),(.slice a4 n5 c6)]⟩) (HP.set (HP.set hp b11 (.cells 93 [] 0)) b14 (.cells 93 (splice [.int .i64 0,.int .u8 0,.int .u8 0,.int .u8 0,.int .u8 0,.int .i64 0,.int .u8 0,.int .u8 0,.int .u8 0,.int .u8 0,.int .i64 0,.int .i64 0,.string ⟨#[]⟩] 0 (List.set (List.set (splice (splice [(.int .i64 i10),.int .u8 0,.int .u8 0,.int .u8 0,.int .u8 0,.int .i64 0,.int .u8 0,.int .u8 0,.int .u8 0,.int .u8 0,.int .i64 0,.int .i64 0,.string ⟨#[]⟩] 1 l12) 6 l13) 11 (.int .i64 x3)) 12 (.string x4))) 0)) fun u15 h16=>slcV u15 fun a17 n18 c19=>opS Tryd.prog (Builtin.append_ #[88,88] 88 ⟨[(.slice a17 n18 c19),(.slice (some ⟨b14,0,none⟩) 1 1)]⟩) h16 fun u20 h21=>slcV u20 fun a22 n23 c24=>ptrN x0 fun b25 o26=>HP.st h21 b25 (o26+2) (.slice a22 n23 c24) fun h27=>K (upd (w8 (w8 (w8 e 7 (sR 7 0) 6 (sR 6 0) 4 (sT x4) 3 (sI x3) 0 (sP x0) 43 (sP x0) 45 (sP x0) 46 (sQ b1 o2)) 47 (sQ b1 (o2+2)) 48 (sS a4 n5 c6) 50 (sP x0) 51 (sQ b7 o8) 52 (sQ b7 (o8+1)) 53 (sI i10) 44 (sV (.slice (some ⟨b11,0,none⟩) 0 0)) 54 (sA l12)) 55 (sA l13) 56 (sI x3) 57 (sT x4) 58 (sV (.agg ⟨(List.set (List.set (splice (splice [(.int .i64 i10),.int .u8 0,.int .u8 0,.int .u8 0,.int .u8 0,.int .i64 0,.int .u8 0,.int .u8 0,.int .u8 0,.int .u8 0,.int .i64 0,.int .i64 0,.string ⟨#[]⟩] 1 l12) 6 l13) 11 (.int .i64 x3)) 12 (.string x4))⟩)) 59 (sV (.slice (some ⟨b14,0,none⟩) 1 1)) 49 (sS a17 n18 c19) 60 (sS a22 n23 c24) 61 (sQ b25 o26)) 62 (sQ b25 (o26+2))) (w2 V0 7 (34,k7) 6 (34,k6)) h27)) else False) else False) else False)):= by kernel_rfl
theorem F51_r22 {e:Env} {x0:OA} {x3:Int} {x4:ByteArray} {k6:List Value} {k7:List Value} {hp:HP} {K:Env→PV→HP→Prop}:RW Tryd.prog 63 [6,7] (opsAt Tryd.f51 (pth 191)) [0,2,3,4,5,7,8,9,10,11,12,13,14,15,16,1,6,17,18,19,20] (w5 e 7 (sR 7 0) 6 (sR 6 0) 4 (sT x4) 3 (sI x3) 0 (sP x0)) (w2 V0 7 (34,k7) 6 (34,k6)) hp K=
 ptrN x0 fun b1 o2=>(ldV (HP.cell hp b1 (o2+2)) fun v3=>slcV v3 fun a4 n5 c6=>ptrN x0 fun b7 o8=>ldV (HP.cell hp b7 (o8+1)) fun v9=>intV v9 .i64 fun i10=>ldL (cellsN k6 0 5) fun l11=>ldL (cellsN k7 0 5) fun l12=>if List.length l11=5 then (if List.length l12=5 then (if List.length (List.set (List.set (splice (splice [(.int .i64 i10),.int .u8 0,.int .u8 0,.int .u8 0,.int .u8 0,.int .i64 0,.int .u8 0,.int .u8 0,.int .u8 0,.int .u8 0,.int .i64 0,.int .i64 0,.string ⟨#[]⟩] 1 l11) 6 l12) 11 (.int .i64 x3)) 12 (.string x4))=13 then (∀ b13:Nat,hp b13=.none→(∀ b14:Nat,(HP.set hp b13 (.cells 93 (splice [.int .i64 0,.int .u8 0,.int .u8 0,.int .u8 0,.int .u8 0,.int .i64 0,.int .u8 0,.int .u8 0,.int .u8 0,.int .u8 0,.int .i64 0,.int .i64 0,.string ⟨#[]⟩] 0 (List.set (List.set (splice (splice [(.int .i64 i10),.int .u8 0,.int .u8 0,.int .u8 0,.int .u8 0,.int .i64 0,.int .u8 0,.int .u8 0,.int .u8 0,.int .u8 0,.int .i64 0,.int .i64 0,.string ⟨#[]⟩] 1 l11) 6 l12) 11 (.int .i64 x3)) 12 (.string x4))) 0)) b14=.none→(opS Tryd.prog (Builtin.append_ #[88,88] 88 ⟨[(.slice (some ⟨b14,0,none⟩) 0 0),(.slice a4 n5 c6)]⟩) (HP.set (HP.set hp b13 (.cells 93 (splice [.int .i64 0,.int .u8 0,.int .u8 0,.int .u8 0,.int .u8 0,.int .i64 0,.int .u8 0,.int .u8 0,.int .u8 0,.int .u8 0,.int .i64 0,.int .i64 0,.string ⟨#[]⟩] 0 (List.set (List.set (splice (splice [(.int .i64 i10),.int .u8 0,.int .u8 0,.int .u8 0,.int .u8 0,.int .i64 0,.int .u8 0,.int .u8 0,.int .u8 0,.int .u8 0,.int .i64 0,.int .i64 0,.string ⟨#[]⟩] 1 l11) 6 l12) 11 (.int .i64 x3)) 12 (.string x4))) 0)) b14 (.cells 93 [] 0)) fun u15 h16=>slcV u15 fun a17 n18 c19=>opS Tryd.prog (Builtin.append_ #[88,88] 88 ⟨[(.slice a17 n18 c19),(.slice (some ⟨b13,0,none⟩) 1 1)]⟩) h16 fun u20 h21=>slcV u20 fun a22 n23 c24=>ptrN x0 fun b25 o26=>HP.st h21 b25 (o26+2) (.slice a22 n23 c24) fun h27=>K (upd (w8 (w8 (w8 e 7 (sR 7 0) 6 (sR 6 0) 4 (sT x4) 3 (sI x3) 0 (sP x0) 43 (sP x0) 45 (sP x0) 46 (sQ b1 o2)) 47 (sQ b1 (o2+2)) 48 (sS a4 n5 c6) 50 (sP x0) 51 (sQ b7 o8) 52 (sQ b7 (o8+1)) 53 (sI i10) 54 (sA l11) 55 (sA l12)) 56 (sI x3) 57 (sT x4) 58 (sV (.agg ⟨(List.set (List.set (splice (splice [(.int .i64 i10),.int .u8 0,.int .u8 0,.int .u8 0,.int .u8 0,.int .i64 0,.int .u8 0,.int .u8 0,.int .u8 0,.int .u8 0,.int .i64 0,.int .i64 0,.string ⟨#[]⟩] 1 l11) 6 l12) 11 (.int .i64 x3)) 12 (.string x4))⟩)) 59 (sV (.slice (some ⟨b13,0,none⟩) 1 1)) 44 (sV (.slice (some ⟨b14,0,none⟩) 0 0)) 49 (sS a17 n18 c19) 60 (sS a22 n23 c24) 61 (sQ b25 o26)) 62 (sQ b25 (o26+2))) (w2 V0 7 (34,k7) 6 (34,k6)) h27))) else False) else False) else False):= by kernel_rfl
theorem F51_r23 {e:Env} {x0:OA} {x3:Int} {x4:ByteArray} {k6:List Value} {k7:List Value} {hp:HP} {K:Env→PV→HP→Prop}:RW Tryd.prog 63 [6,7] (opsAt Tryd.f51 (pth 191)) [0,2,3,4,7,8,9,10,11,12,13,14,15,16,5,1,6,17,18,19,20] (w5 e 7 (sR 7 0) 6 (sR 6 0) 4 (sT x4) 3 (sI x3) 0 (sP x0)) (w2 V0 7 (34,k7) 6 (34,k6)) hp K=
 ptrN x0 fun b1 o2=>(ptrN x0 fun b3 o4=>ldV (HP.cell hp b3 (o4+1)) fun v5=>intV v5 .i64 fun i6=>ldL (cellsN k6 0 5) fun l7=>ldL (cellsN k7 0 5) fun l8=>if List.length l7=5 then (if List.length l8=5 then (if List.length (List.set (List.set (splice (splice [(.int .i64 i6),.int .u8 0,.int .u8 0,.int .u8 0,.int .u8 0,.int .i64 0,.int .u8 0,.int .u8 0,.int .u8 0,.int .u8 0,.int .i64 0,.int .i64 0,.string ⟨#[]⟩] 1 l7) 6 l8) 11 (.int .i64 x3)) 12 (.string x4))=13 then (∀ b9:Nat,hp b9=.none→(ldV (HP.cell (HP.set hp b9 (.cells 93 (splice [.int .i64 0,.int .u8 0,.int .u8 0,.int .u8 0,.int .u8 0,.int .i64 0,.int .u8 0,.int .u8 0,.int .u8 0,.int .u8 0,.int .i64 0,.int .i64 0,.string ⟨#[]⟩] 0 (List.set (List.set (splice (splice [(.int .i64 i6),.int .u8 0,.int .u8 0,.int .u8 0,.int .u8 0,.int .i64 0,.int .u8 0,.int .u8 0,.int .u8 0,.int .u8 0,.int .i64 0,.int .i64 0,.string ⟨#[]⟩] 1 l7) 6 l8) 11 (.int .i64 x3)) 12 (.string x4))) 0)) b1 (o2+2)) fun v10=>slcV v10 fun a11 n12 c13=>∀ b14:Nat,(HP.set hp b9 (.cells 93 (splice [.int .i64 0,.int .u8 0,.int .u8 0,.int .u8 0,.int .u8 0,.int .i64 0,.int .u8 0,.int .u8 0,.int .u8 0,.int .u8 0,.int .i64 0,.int .i64 0,.string ⟨#[]⟩] 0 (List.set (List.set (splice (splice [(.int .i64 i6),.int .u8 0,.int .u8 0,.int .u8 0,.int .u8 0,.int .i64 0,.int .u8 0,.int .u8 0,.int .u8 0,.int .u8 0,.int .i64 0,.int .i64 0,.string ⟨#[]⟩] 1 l7) 6 l8) 11 (.int .i64 x3)) 12 (.string x4))) 0)) b14=.none→(opS Tryd.prog (Builtin.append_ #[88,88] 88 ⟨[(.slice (some ⟨b14,0,none⟩) 0 0),(.slice a11 n12 c13)]⟩) (HP.set (HP.set hp b9 (.cells 93 (splice [.int .i64 0,.int .u8 0,.int .u8 0,.int .u8 0,.int .u8 0,.int .i64 0,.int .u8 0,.int .u8 0,.int .u8 0,.int .u8 0,.int .i64 0,.int .i64 0,.string ⟨#[]⟩] 0 (List.set (List.set (splice (splice [(.int .i64 i6),.int .u8 0,.int .u8 0,.int .u8 0,.int .u8 0,.int .i64 0,.int .u8 0,.int .u8 0,.int .u8 0,.int .u8 0,.int .i64 0,.int .i64 0,.string ⟨#[]⟩] 1 l7) 6 l8) 11 (.int .i64 x3)) 12 (.string x4))) 0)) b14 (.cells 93 [] 0)) fun u15 h16=>slcV u15 fun a17 n18 c19=>opS Tryd.prog (Builtin.append_ #[88,88] 88 ⟨[(.slice a17 n18 c19),(.slice (some ⟨b9,0,none⟩) 1 1)]⟩) h16 fun u20 h21=>slcV u20 fun a22 n23 c24=>ptrN x0 fun b25 o26=>HP.st h21 b25 (o26+2) (.slice a22 n23 c24) fun h27=>K (upd (w8 (w8 (w8 e 7 (sR 7 0) 6 (sR 6 0) 4 (sT x4) 3 (sI x3) 0 (sP x0) 43 (sP x0) 45 (sP x0) 46 (sQ b1 o2)) 47 (sQ b1 (o2+2)) 50 (sP x0) 51 (sQ b3 o4) 52 (sQ b3 (o4+1)) 53 (sI i6) 54 (sA l7) 55 (sA l8) 56 (sI x3)) 57 (sT x4) 58 (sV (.agg ⟨(List.set (List.set (splice (splice [(.int .i64 i6),.int .u8 0,.int .u8 0,.int .u8 0,.int .u8 0,.int .i64 0,.int .u8 0,.int .u8 0,.int .u8 0,.int .u8 0,.int .i64 0,.int .i64 0,.string ⟨#[]⟩] 1 l7) 6 l8) 11 (.int .i64 x3)) 12 (.string x4))⟩)) 59 (sV (.slice (some ⟨b9,0,none⟩) 1 1)) 48 (sS a11 n12 c13) 44 (sV (.slice (some ⟨b14,0,none⟩) 0 0)) 49 (sS a17 n18 c19) 60 (sS a22 n23 c24) 61 (sQ b25 o26)) 62 (sQ b25 (o26+2))) (w2 V0 7 (34,k7) 6 (34,k6)) h27))) else False) else False) else False):= by kernel_rfl
theorem F51_r24:R51 383 1 e V0 hp K=
 K (upd e 10 (sI 0)) V0 hp:= by kernel_rfl
def F51_j1 (x0:OA) (x3:Int) (x4:ByteArray) (x19:Bool) (k6 k7:List Value) (hp:HP) (K:Kh):Prop:=
  (ite2 x19 (K (.int .i64 1) hp) (ldL (cellsN k6 0 5) fun l1=>ldL (cellsN k7 0 5) fun l2=>CF Tryd.prog 49 [(.pointer x0),(.agg ⟨l1⟩),(.agg ⟨l2⟩)] hp fun u3 h4=>intV u3 .i64 fun i5=>ite2 (decide (i5≥0)) (K (.int .i64 5) h4) (ptrN x0 fun b6 o7=>ldV (HP.cell h4 b6 (o7+2)) fun v8=>slcV v8 fun a9 n10 c11=>ptrN x0 fun b12 o13=>ldV (HP.cell h4 b12 (o13+0)) fun v14=>intV v14 .i64 fun i15=>ite2 (decide (((n10:Nat):Int)≥i15)) (K (.int .i64 6) h4) (ptrN x0 fun b16 o17=>ldV (HP.cell h4 b16 (o17+1)) fun v18=>intV v18 .i64 fun i19=>ptrN x0 fun b20 o21=>HP.st h4 b20 (o21+1) (.int .i64 (IntKind.wrap .i64 (i19+1))) fun h22=>(∀ b23:Nat,h22 b23=.none→(ptrN x0 fun b24 o25=>ldV (HP.cell (HP.set h22 b23 (.cells 93 [] 0)) b24 (o25+2)) fun v26=>slcV v26 fun a27 n28 c29=>opS Tryd.prog (Builtin.append_ #[88,88] 88 ⟨[(.slice (some ⟨b23,0,none⟩) 0 0),(.slice a27 n28 c29)]⟩) (HP.set h22 b23 (.cells 93 [] 0)) fun u30 h31=>slcV u30 fun a32 n33 c34=>ptrN x0 fun b35 o36=>ldV (HP.cell h31 b35 (o36+1)) fun v37=>intV v37 .i64 fun i38=>ldL (cellsN k6 0 5) fun l39=>ldL (cellsN k7 0 5) fun l40=>if List.length l39=5 then (if List.length l40=5 then (if List.length (List.set (List.set (splice (splice [(.int .i64 i38),.int .u8 0,.int .u8 0,.int .u8 0,.int .u8 0,.int .i64 0,.int .u8 0,.int .u8 0,.int .u8 0,.int .u8 0,.int .i64 0,.int .i64 0,.string ⟨#[]⟩] 1 l39) 6 l40) 11 (.int .i64 x3)) 12 (.string x4))=13 then (∀ b41:Nat,h31 b41=.none→(opS Tryd.prog (Builtin.append_ #[88,88] 88 ⟨[(.slice a32 n33 c34),(.slice (some ⟨b41,0,none⟩) 1 1)]⟩) (HP.set h31 b41 (.cells 93 (splice [.int .i64 0,.int .u8 0,.int .u8 0,.int .u8 0,.int .u8 0,.int .i64 0,.int .u8 0,.int .u8 0,.int .u8 0,.int .u8 0,.int .i64 0,.int .i64 0,.string ⟨#[]⟩] 0 (List.set (List.set (splice (splice [(.int .i64 i38),.int .u8 0,.int .u8 0,.int .u8 0,.int .u8 0,.int .i64 0,.int .u8 0,.int .u8 0,.int .u8 0,.int .u8 0,.int .i64 0,.int .i64 0,.string ⟨#[]⟩] 1 l39) 6 l40) 11 (.int .i64 x3)) 12 (.string x4))) 0)) fun u42 h43=>slcV u42 fun a44 n45 c46=>ptrN x0 fun b47 o48=>HP.st h43 b47 (o48+2) (.slice a44 n45 c46) fun h49=>K (.int .i64 0) h49)) else False) else False) else False))∧(∀ b50:Nat,h22 b50=.none→(ptrN x0 fun b51 o52=>ldV (HP.cell (HP.set h22 b50 (.cells 93 [] 0)) b51 (o52+2)) fun v53=>slcV v53 fun a54 n55 c56=>ptrN x0 fun b57 o58=>ldV (HP.cell (HP.set h22 b50 (.cells 93 [] 0)) b57 (o58+1)) fun v59=>intV v59 .i64 fun i60=>opS Tryd.prog (Builtin.append_ #[88,88] 88 ⟨[(.slice (some ⟨b50,0,none⟩) 0 0),(.slice a54 n55 c56)]⟩) (HP.set h22 b50 (.cells 93 [] 0)) fun u61 h62=>slcV u61 fun a63 n64 c65=>ldL (cellsN k6 0 5) fun l66=>ldL (cellsN k7 0 5) fun l67=>if List.length l66=5 then (if List.length l67=5 then (if List.length (List.set (List.set (splice (splice [(.int .i64 i60),.int .u8 0,.int .u8 0,.int .u8 0,.int .u8 0,.int .i64 0,.int .u8 0,.int .u8 0,.int .u8 0,.int .u8 0,.int .i64 0,.int .i64 0,.string ⟨#[]⟩] 1 l66) 6 l67) 11 (.int .i64 x3)) 12 (.string x4))=13 then (∀ b68:Nat,h62 b68=.none→(opS Tryd.prog (Builtin.append_ #[88,88] 88 ⟨[(.slice a63 n64 c65),(.slice (some ⟨b68,0,none⟩) 1 1)]⟩) (HP.set h62 b68 (.cells 93 (splice [.int .i64 0,.int .u8 0,.int .u8 0,.int .u8 0,.int .u8 0,.int .i64 0,.int .u8 0,.int .u8 0,.int .u8 0,.int .u8 0,.int .i64 0,.int .i64 0,.string ⟨#[]⟩] 0 (List.set (List.set (splice (splice [(.int .i64 i60),.int .u8 0,.int .u8 0,.int .u8 0,.int .u8 0,.int .i64 0,.int .u8 0,.int .u8 0,.int .u8 0,.int .u8 0,.int .i64 0,.int .i64 0,.string ⟨#[]⟩] 1 l66) 6 l67) 11 (.int .i64 x3)) 12 (.string x4))) 0)) fun u69 h70=>slcV u69 fun a71 n72 c73=>ptrN x0 fun b74 o75=>HP.st h70 b74 (o75+2) (.slice a71 n72 c73) fun h76=>K (.int .i64 0) h76)) else False) else False) else False))∧(∀ b77:Nat,h22 b77=.none→(ptrN x0 fun b78 o79=>ldV (HP.cell (HP.set h22 b77 (.cells 93 [] 0)) b78 (o79+2)) fun v80=>slcV v80 fun a81 n82 c83=>ptrN x0 fun b84 o85=>ldV (HP.cell (HP.set h22 b77 (.cells 93 [] 0)) b84 (o85+1)) fun v86=>intV v86 .i64 fun i87=>ldL (cellsN k6 0 5) fun l88=>ldL (cellsN k7 0 5) fun l89=>if List.length l88=5 then (if List.length l89=5 then (if List.length (List.set (List.set (splice (splice [(.int .i64 i87),.int .u8 0,.int .u8 0,.int .u8 0,.int .u8 0,.int .i64 0,.int .u8 0,.int .u8 0,.int .u8 0,.int .u8 0,.int .i64 0,.int .i64 0,.string ⟨#[]⟩] 1 l88) 6 l89) 11 (.int .i64 x3)) 12 (.string x4))=13 then (∀ b90:Nat,(HP.set h22 b77 (.cells 93 [] 0)) b90=.none→(opS Tryd.prog (Builtin.append_ #[88,88] 88 ⟨[(.slice (some ⟨b77,0,none⟩) 0 0),(.slice a81 n82 c83)]⟩) (HP.set (HP.set h22 b77 (.cells 93 [] 0)) b90 (.cells 93 (splice [.int .i64 0,.int .u8 0,.int .u8 0,.int .u8 0,.int .u8 0,.int .i64 0,.int .u8 0,.int .u8 0,.int .u8 0,.int .u8 0,.int .i64 0,.int .i64 0,.string ⟨#[]⟩] 0 (List.set (List.set (splice (splice [(.int .i64 i87),.int .u8 0,.int .u8 0,.int .u8 0,.int .u8 0,.int .i64 0,.int .u8 0,.int .u8 0,.int .u8 0,.int .u8 0,.int .i64 0,.int .i64 0,.string ⟨#[]⟩] 1 l88) 6 l89) 11 (.int .i64 x3)) 12 (.string x4))) 0)) fun u91 h92=>slcV u91 fun a93 n94 c95=>opS Tryd.prog (Builtin.append_ #[88,88] 88 ⟨[(.slice a93 n94 c95),(.slice (some ⟨b90,0,none⟩) 1 1)]⟩) h92 fun u96 h97=>slcV u96 fun a98 n99 c100=>ptrN x0 fun b101 o102=>HP.st h97 b101 (o102+2) (.slice a98 n99 c100) fun h103=>K (.int .i64 0) h103)) else False) else False) else False))∧(∀ b104:Nat,h22 b104=.none→(ptrN x0 fun b105 o106=>ptrN x0 fun b107 o108=>ldV (HP.cell (HP.set h22 b104 (.cells 93 [] 0)) b107 (o108+1)) fun v109=>intV v109 .i64 fun i110=>ldL (cellsN k6 0 5) fun l111=>ldL (cellsN k7 0 5) fun l112=>if List.length l111=5 then (if List.length l112=5 then (if List.length (List.set (List.set (splice (splice [(.int .i64 i110),.int .u8 0,.int .u8 0,.int .u8 0,.int .u8 0,.int .i64 0,.int .u8 0,.int .u8 0,.int .u8 0,.int .u8 0,.int .i64 0,.int .i64 0,.string ⟨#[]⟩] 1 l111) 6 l112) 11 (.int .i64 x3)) 12 (.string x4))=13 then (∀ b113:Nat,(HP.set h22 b104 (.cells 93 [] 0)) b113=.none→(ldV (HP.cell (HP.set (HP.set h22 b104 (.cells 93 [] 0)) b113 (.cells 93 (splice [.int .i64 0,.int .u8 0,.int .u8 0,.int .u8 0,.int .u8 0,.int .i64 0,.int .u8 0,.int .u8 0,.int .u8 0,.int .u8 0,.int .i64 0,.int .i64 0,.string ⟨#[]⟩] 0 (List.set (List.set (splice (splice [(.int .i64 i110),.int .u8 0,.int .u8 0,.int .u8 0,.int .u8 0,.int .i64 0,.int .u8 0,.int .u8 0,.int .u8 0,.int .u8 0,.int .i64 0,.int .i64 0,.string ⟨#[]⟩] 1 l111) 6 l112) 11 (.int .i64 x3)) 12 (.string x4))) 0)) b105 (o106+2)) fun v114=>slcV v114 fun a115 n116 c117=>opS Tryd.prog (Builtin.append_ #[88,88] 88 ⟨[(.slice (some ⟨b104,0,none⟩) 0 0),(.slice a115 n116 c117)]⟩) (HP.set (HP.set h22 b104 (.cells 93 [] 0)) b113 (.cells 93 (splice [.int .i64 0,.int .u8 0,.int .u8 0,.int .u8 0,.int .u8 0,.int .i64 0,.int .u8 0,.int .u8 0,.int .u8 0,.int .u8 0,.int .i64 0,.int .i64 0,.string ⟨#[]⟩] 0 (List.set (List.set (splice (splice [(.int .i64 i110),.int .u8 0,.int .u8 0,.int .u8 0,.int .u8 0,.int .i64 0,.int .u8 0,.int .u8 0,.int .u8 0,.int .u8 0,.int .i64 0,.int .i64 0,.string ⟨#[]⟩] 1 l111) 6 l112) 11 (.int .i64 x3)) 12 (.string x4))) 0)) fun u118 h119=>slcV u118 fun a120 n121 c122=>opS Tryd.prog (Builtin.append_ #[88,88] 88 ⟨[(.slice a120 n121 c122),(.slice (some ⟨b113,0,none⟩) 1 1)]⟩) h119 fun u123 h124=>slcV u123 fun a125 n126 c127=>ptrN x0 fun b128 o129=>HP.st h124 b128 (o129+2) (.slice a125 n126 c127) fun h130=>K (.int .i64 0) h130)) else False) else False) else False))∧(ptrN x0 fun b131 o132=>ptrN x0 fun b133 o134=>ldV (HP.cell h22 b133 (o134+1)) fun v135=>intV v135 .i64 fun i136=>∀ b137:Nat,h22 b137=.none→(ldV (HP.cell (HP.set h22 b137 (.cells 93 [] 0)) b131 (o132+2)) fun v138=>slcV v138 fun a139 n140 c141=>opS Tryd.prog (Builtin.append_ #[88,88] 88 ⟨[(.slice (some ⟨b137,0,none⟩) 0 0),(.slice a139 n140 c141)]⟩) (HP.set h22 b137 (.cells 93 [] 0)) fun u142 h143=>slcV u142 fun a144 n145 c146=>ldL (cellsN k6 0 5) fun l147=>ldL (cellsN k7 0 5) fun l148=>if List.length l147=5 then (if List.length l148=5 then (if List.length (List.set (List.set (splice (splice [(.int .i64 i136),.int .u8 0,.int .u8 0,.int .u8 0,.int .u8 0,.int .i64 0,.int .u8 0,.int .u8 0,.int .u8 0,.int .u8 0,.int .i64 0,.int .i64 0,.string ⟨#[]⟩] 1 l147) 6 l148) 11 (.int .i64 x3)) 12 (.string x4))=13 then (∀ b149:Nat,h143 b149=.none→(opS Tryd.prog (Builtin.append_ #[88,88] 88 ⟨[(.slice a144 n145 c146),(.slice (some ⟨b149,0,none⟩) 1 1)]⟩) (HP.set h143 b149 (.cells 93 (splice [.int .i64 0,.int .u8 0,.int .u8 0,.int .u8 0,.int .u8 0,.int .i64 0,.int .u8 0,.int .u8 0,.int .u8 0,.int .u8 0,.int .i64 0,.int .i64 0,.string ⟨#[]⟩] 0 (List.set (List.set (splice (splice [(.int .i64 i136),.int .u8 0,.int .u8 0,.int .u8 0,.int .u8 0,.int .i64 0,.int .u8 0,.int .u8 0,.int .u8 0,.int .u8 0,.int .i64 0,.int .i64 0,.string ⟨#[]⟩] 1 l147) 6 l148) 11 (.int .i64 x3)) 12 (.string x4))) 0)) fun u150 h151=>slcV u150 fun a152 n153 c154=>ptrN x0 fun b155 o156=>HP.st h151 b155 (o156+2) (.slice a152 n153 c154) fun h157=>K (.int .i64 0) h157)) else False) else False) else False))∧(ptrN x0 fun b158 o159=>ptrN x0 fun b160 o161=>ldV (HP.cell h22 b160 (o161+1)) fun v162=>intV v162 .i64 fun i163=>∀ b164:Nat,h22 b164=.none→(ldV (HP.cell (HP.set h22 b164 (.cells 93 [] 0)) b158 (o159+2)) fun v165=>slcV v165 fun a166 n167 c168=>ldL (cellsN k6 0 5) fun l169=>ldL (cellsN k7 0 5) fun l170=>if List.length l169=5 then (if List.length l170=5 then (if List.length (List.set (List.set (splice (splice [(.int .i64 i163),.int .u8 0,.int .u8 0,.int .u8 0,.int .u8 0,.int .i64 0,.int .u8 0,.int .u8 0,.int .u8 0,.int .u8 0,.int .i64 0,.int .i64 0,.string ⟨#[]⟩] 1 l169) 6 l170) 11 (.int .i64 x3)) 12 (.string x4))=13 then (∀ b171:Nat,(HP.set h22 b164 (.cells 93 [] 0)) b171=.none→(opS Tryd.prog (Builtin.append_ #[88,88] 88 ⟨[(.slice (some ⟨b164,0,none⟩) 0 0),(.slice a166 n167 c168)]⟩) (HP.set (HP.set h22 b164 (.cells 93 [] 0)) b171 (.cells 93 (splice [.int .i64 0,.int .u8 0,.int .u8 0,.int .u8 0,.int .u8 0,.int .i64 0,.int .u8 0,.int .u8 0,.int .u8 0,.int .u8 0,.int .i64 0,.int .i64 0,.string ⟨#[]⟩] 0 (List.set (List.set (splice (splice [(.int .i64 i163),.int .u8 0,.int .u8 0,.int .u8 0,.int .u8 0,.int .i64 0,.int .u8 0,.int .u8 0,.int .u8 0,.int .u8 0,.int .i64 0,.int .i64 0,.string ⟨#[]⟩] 1 l169) 6 l170) 11 (.int .i64 x3)) 12 (.string x4))) 0)) fun u172 h173=>slcV u172 fun a174 n175 c176=>opS Tryd.prog (Builtin.append_ #[88,88] 88 ⟨[(.slice a174 n175 c176),(.slice (some ⟨b171,0,none⟩) 1 1)]⟩) h173 fun u177 h178=>slcV u177 fun a179 n180 c181=>ptrN x0 fun b182 o183=>HP.st h178 b182 (o183+2) (.slice a179 n180 c181) fun h184=>K (.int .i64 0) h184)) else False) else False) else False))∧(ptrN x0 fun b185 o186=>ptrN x0 fun b187 o188=>ldV (HP.cell h22 b187 (o188+1)) fun v189=>intV v189 .i64 fun i190=>∀ b191:Nat,h22 b191=.none→(ldL (cellsN k6 0 5) fun l192=>ldL (cellsN k7 0 5) fun l193=>if List.length l192=5 then (if List.length l193=5 then (if List.length (List.set (List.set (splice (splice [(.int .i64 i190),.int .u8 0,.int .u8 0,.int .u8 0,.int .u8 0,.int .i64 0,.int .u8 0,.int .u8 0,.int .u8 0,.int .u8 0,.int .i64 0,.int .i64 0,.string ⟨#[]⟩] 1 l192) 6 l193) 11 (.int .i64 x3)) 12 (.string x4))=13 then (∀ b194:Nat,(HP.set h22 b191 (.cells 93 [] 0)) b194=.none→(ldV (HP.cell (HP.set (HP.set h22 b191 (.cells 93 [] 0)) b194 (.cells 93 (splice [.int .i64 0,.int .u8 0,.int .u8 0,.int .u8 0,.int .u8 0,.int .i64 0,.int .u8 0,.int .u8 0,.int .u8 0,.int .u8 0,.int .i64 0,.int .i64 0,.string ⟨#[]⟩] 0 (List.set (List.set (splice (splice [(.int .i64 i190),.int .u8 0,.int .u8 0,.int .u8 0,.int .u8 0,.int .i64 0,.int .u8 0,.int .u8 0,.int .u8 0,.int .u8 0,.int .i64 0,.int .i64 0,.string ⟨#[]⟩] 1 l192) 6 l193) 11 (.int .i64 x3)) 12 (.string x4))) 0)) b185 (o186+2)) fun v195=>slcV v195 fun a196 n197 c198=>opS Tryd.prog (Builtin.append_ #[88,88] 88 ⟨[(.slice (some ⟨b191,0,none⟩) 0 0),(.slice a196 n197 c198)]⟩) (HP.set (HP.set h22 b191 (.cells 93 [] 0)) b194 (.cells 93 (splice [.int .i64 0,.int .u8 0,.int .u8 0,.int .u8 0,.int .u8 0,.int .i64 0,.int .u8 0,.int .u8 0,.int .u8 0,.int .u8 0,.int .i64 0,.int .i64 0,.string ⟨#[]⟩] 0 (List.set (List.set (splice (splice [(.int .i64 i190),.int .u8 0,.int .u8 0,.int .u8 0,.int .u8 0,.int .i64 0,.int .u8 0,.int .u8 0,.int .u8 0,.int .u8 0,.int .i64 0,.int .i64 0,.string ⟨#[]⟩] 1 l192) 6 l193) 11 (.int .i64 x3)) 12 (.string x4))) 0)) fun u199 h200=>slcV u199 fun a201 n202 c203=>opS Tryd.prog (Builtin.append_ #[88,88] 88 ⟨[(.slice a201 n202 c203),(.slice (some ⟨b194,0,none⟩) 1 1)]⟩) h200 fun u204 h205=>slcV u204 fun a206 n207 c208=>ptrN x0 fun b209 o210=>HP.st h205 b209 (o210+2) (.slice a206 n207 c208) fun h211=>K (.int .i64 0) h211)) else False) else False) else False))∧(ptrN x0 fun b212 o213=>ptrN x0 fun b214 o215=>ldV (HP.cell h22 b214 (o215+1)) fun v216=>intV v216 .i64 fun i217=>ldL (cellsN k6 0 5) fun l218=>ldL (cellsN k7 0 5) fun l219=>if List.length l218=5 then (if List.length l219=5 then (if List.length (List.set (List.set (splice (splice [(.int .i64 i217),.int .u8 0,.int .u8 0,.int .u8 0,.int .u8 0,.int .i64 0,.int .u8 0,.int .u8 0,.int .u8 0,.int .u8 0,.int .i64 0,.int .i64 0,.string ⟨#[]⟩] 1 l218) 6 l219) 11 (.int .i64 x3)) 12 (.string x4))=13 then (∀ b220:Nat,h22 b220=.none→(∀ b221:Nat,(HP.set h22 b220 (.cells 93 (splice [.int .i64 0,.int .u8 0,.int .u8 0,.int .u8 0,.int .u8 0,.int .i64 0,.int .u8 0,.int .u8 0,.int .u8 0,.int .u8 0,.int .i64 0,.int .i64 0,.string ⟨#[]⟩] 0 (List.set (List.set (splice (splice [(.int .i64 i217),.int .u8 0,.int .u8 0,.int .u8 0,.int .u8 0,.int .i64 0,.int .u8 0,.int .u8 0,.int .u8 0,.int .u8 0,.int .i64 0,.int .i64 0,.string ⟨#[]⟩] 1 l218) 6 l219) 11 (.int .i64 x3)) 12 (.string x4))) 0)) b221=.none→(ldV (HP.cell (HP.set (HP.set h22 b220 (.cells 93 (splice [.int .i64 0,.int .u8 0,.int .u8 0,.int .u8 0,.int .u8 0,.int .i64 0,.int .u8 0,.int .u8 0,.int .u8 0,.int .u8 0,.int .i64 0,.int .i64 0,.string ⟨#[]⟩] 0 (List.set (List.set (splice (splice [(.int .i64 i217),.int .u8 0,.int .u8 0,.int .u8 0,.int .u8 0,.int .i64 0,.int .u8 0,.int .u8 0,.int .u8 0,.int .u8 0,.int .i64 0,.int .i64 0,.string ⟨#[]⟩] 1 l218) 6 l219) 11 (.int .i64 x3)) 12 (.string x4))) 0)) b221 (.cells 93 [] 0)) b212 (o213+2)) fun v222=>slcV v222 fun a223 n224 c225=>opS Tryd.prog (Builtin.append_ #[88,88] 88 ⟨[(.slice (some ⟨b221,0,none⟩) 0 0),(.slice a223 n224 c225)]⟩) (HP.set (HP.set h22 b220 (.cells 93 (splice [.int .i64 0,.int .u8 0,.int .u8 0,.int .u8 0,.int .u8 0,.int .i64 0,.int .u8 0,.int .u8 0,.int .u8 0,.int .u8 0,.int .i64 0,.int .i64 0,.string ⟨#[]⟩] 0 (List.set (List.set (splice (splice [(.int .i64 i217),.int .u8 0,.int .u8 0,.int .u8 0,.int .u8 0,.int .i64 0,.int .u8 0,.int .u8 0,.int .u8 0,.int .u8 0,.int .i64 0,.int .i64 0,.string ⟨#[]⟩] 1 l218) 6 l219) 11 (.int .i64 x3)) 12 (.string x4))) 0)) b221 (.cells 93 [] 0)) fun u226 h227=>slcV u226 fun a228 n229 c230=>opS Tryd.prog (Builtin.append_ #[88,88] 88 ⟨[(.slice a228 n229 c230),(.slice (some ⟨b220,0,none⟩) 1 1)]⟩) h227 fun u231 h232=>slcV u231 fun a233 n234 c235=>ptrN x0 fun b236 o237=>HP.st h232 b236 (o237+2) (.slice a233 n234 c235) fun h238=>K (.int .i64 0) h238))) else False) else False) else False)∧(ptrN x0 fun b239 o240=>ldV (HP.cell h22 b239 (o240+2)) fun v241=>slcV v241 fun a242 n243 c244=>∀ b245:Nat,h22 b245=.none→(opS Tryd.prog (Builtin.append_ #[88,88] 88 ⟨[(.slice (some ⟨b245,0,none⟩) 0 0),(.slice a242 n243 c244)]⟩) (HP.set h22 b245 (.cells 93 [] 0)) fun u246 h247=>slcV u246 fun a248 n249 c250=>ptrN x0 fun b251 o252=>ldV (HP.cell h247 b251 (o252+1)) fun v253=>intV v253 .i64 fun i254=>ldL (cellsN k6 0 5) fun l255=>ldL (cellsN k7 0 5) fun l256=>if List.length l255=5 then (if List.length l256=5 then (if List.length (List.set (List.set (splice (splice [(.int .i64 i254),.int .u8 0,.int .u8 0,.int .u8 0,.int .u8 0,.int .i64 0,.int .u8 0,.int .u8 0,.int .u8 0,.int .u8 0,.int .i64 0,.int .i64 0,.string ⟨#[]⟩] 1 l255) 6 l256) 11 (.int .i64 x3)) 12 (.string x4))=13 then (∀ b257:Nat,h247 b257=.none→(opS Tryd.prog (Builtin.append_ #[88,88] 88 ⟨[(.slice a248 n249 c250),(.slice (some ⟨b257,0,none⟩) 1 1)]⟩) (HP.set h247 b257 (.cells 93 (splice [.int .i64 0,.int .u8 0,.int .u8 0,.int .u8 0,.int .u8 0,.int .i64 0,.int .u8 0,.int .u8 0,.int .u8 0,.int .u8 0,.int .i64 0,.int .i64 0,.string ⟨#[]⟩] 0 (List.set (List.set (splice (splice [(.int .i64 i254),.int .u8 0,.int .u8 0,.int .u8 0,.int .u8 0,.int .i64 0,.int .u8 0,.int .u8 0,.int .u8 0,.int .u8 0,.int .i64 0,.int .i64 0,.string ⟨#[]⟩] 1 l255) 6 l256) 11 (.int .i64 x3)) 12 (.string x4))) 0)) fun u258 h259=>slcV u258 fun a260 n261 c262=>ptrN x0 fun b263 o264=>HP.st h259 b263 (o264+2) (.slice a260 n261 c262) fun h265=>K (.int .i64 0) h265)) else False) else False) else False))∧(ptrN x0 fun b266 o267=>ldV (HP.cell h22 b266 (o267+2)) fun v268=>slcV v268 fun a269 n270 c271=>∀ b272:Nat,h22 b272=.none→(ptrN x0 fun b273 o274=>ldV (HP.cell (HP.set h22 b272 (.cells 93 [] 0)) b273 (o274+1)) fun v275=>intV v275 .i64 fun i276=>opS Tryd.prog (Builtin.append_ #[88,88] 88 ⟨[(.slice (some ⟨b272,0,none⟩) 0 0),(.slice a269 n270 c271)]⟩) (HP.set h22 b272 (.cells 93 [] 0)) fun u277 h278=>slcV u277 fun a279 n280 c281=>ldL (cellsN k6 0 5) fun l282=>ldL (cellsN k7 0 5) fun l283=>if List.length l282=5 then (if List.length l283=5 then (if List.length (List.set (List.set (splice (splice [(.int .i64 i276),.int .u8 0,.int .u8 0,.int .u8 0,.int .u8 0,.int .i64 0,.int .u8 0,.int .u8 0,.int .u8 0,.int .u8 0,.int .i64 0,.int .i64 0,.string ⟨#[]⟩] 1 l282) 6 l283) 11 (.int .i64 x3)) 12 (.string x4))=13 then (∀ b284:Nat,h278 b284=.none→(opS Tryd.prog (Builtin.append_ #[88,88] 88 ⟨[(.slice a279 n280 c281),(.slice (some ⟨b284,0,none⟩) 1 1)]⟩) (HP.set h278 b284 (.cells 93 (splice [.int .i64 0,.int .u8 0,.int .u8 0,.int .u8 0,.int .u8 0,.int .i64 0,.int .u8 0,.int .u8 0,.int .u8 0,.int .u8 0,.int .i64 0,.int .i64 0,.string ⟨#[]⟩] 0 (List.set (List.set (splice (splice [(.int .i64 i276),.int .u8 0,.int .u8 0,.int .u8 0,.int .u8 0,.int .i64 0,.int .u8 0,.int .u8 0,.int .u8 0,.int .u8 0,.int .i64 0,.int .i64 0,.string ⟨#[]⟩] 1 l282) 6 l283) 11 (.int .i64 x3)) 12 (.string x4))) 0)) fun u285 h286=>slcV u285 fun a287 n288 c289=>ptrN x0 fun b290 o291=>HP.st h286 b290 (o291+2) (.slice a287 n288 c289) fun h292=>K (.int .i64 0) h292)) else False) else False) else False))∧(ptrN x0 fun b293 o294=>ldV (HP.cell h22 b293 (o294+2)) fun v295=>slcV v295 fun a296 n297 c298=>∀ b299:Nat,h22 b299=.none→(ptrN x0 fun b300 o301=>ldV (HP.cell (HP.set h22 b299 (.cells 93 [] 0)) b300 (o301+1)) fun v302=>intV v302 .i64 fun i303=>ldL (cellsN k6 0 5) fun l304=>ldL (cellsN k7 0 5) fun l305=>if List.length l304=5 then (if List.length l305=5 then (if List.length (List.set (List.set (splice (splice [(.int .i64 i303),.int .u8 0,.int .u8 0,.int .u8 0,.int .u8 0,.int .i64 0,.int .u8 0,.int .u8 0,.int .u8 0,.int .u8 0,.int .i64 0,.int .i64 0,.string ⟨#[]⟩] 1 l304) 6 l305) 11 (.int .i64 x3)) 12 (.string x4))=13 then (∀ b306:Nat,(HP.set h22 b299 (.cells 93 [] 0)) b306=.none→(opS Tryd.prog (Builtin.append_ #[88,88] 88 ⟨[(.slice (some ⟨b299,0,none⟩) 0 0),(.slice a296 n297 c298)]⟩) (HP.set (HP.set h22 b299 (.cells 93 [] 0)) b306 (.cells 93 (splice [.int .i64 0,.int .u8 0,.int .u8 0,.int .u8 0,.int .u8 0,.int .i64 0,.int .u8 0,.int .u8 0,.int .u8 0,.int .u8 0,.int .i64 0,.int .i64 0,.string ⟨#[]⟩] 0 (List.set (List.set (splice (splice [(.int .i64 i303),.int .u8 0,.int .u8 0,.int .u8 0,.int .u8 0,.int .i64 0,.int .u8 0,.int .u8 0,.int .u8 0,.int .u8 0,.int .i64 0,.int .i64 0,.string ⟨#[]⟩] 1 l304) 6 l305) 11 (.int .i64 x3)) 12 (.string x4))) 0)) fun u307 h308=>slcV u307 fun a309 n310 c311=>opS Tryd.prog (Builtin.append_ #[88,88] 88 ⟨[(.slice a309 n310 c311),(.slice (some ⟨b306,0,none⟩) 1 1)]⟩) h308 fun u312 h313=>slcV u312 fun a314 n315 c316=>ptrN x0 fun b317 o318=>HP.st h313 b317 (o318+2) (.slice a314 n315 c316) fun h319=>K (.int .i64 0) h319)) else False) else False) else False))∧(ptrN x0 fun b320 o321=>ldV (HP.cell h22 b320 (o321+2)) fun v322=>slcV v322 fun a323 n324 c325=>ptrN x0 fun b326 o327=>ldV (HP.cell h22 b326 (o327+1)) fun v328=>intV v328 .i64 fun i329=>∀ b330:Nat,h22 b330=.none→(opS Tryd.prog (Builtin.append_ #[88,88] 88 ⟨[(.slice (some ⟨b330,0,none⟩) 0 0),(.slice a323 n324 c325)]⟩) (HP.set h22 b330 (.cells 93 [] 0)) fun u331 h332=>slcV u331 fun a333 n334 c335=>ldL (cellsN k6 0 5) fun l336=>ldL (cellsN k7 0 5) fun l337=>if List.length l336=5 then (if List.length l337=5 then (if List.length (List.set (List.set (splice (splice [(.int .i64 i329),.int .u8 0,.int .u8 0,.int .u8 0,.int .u8 0,.int .i64 0,.int .u8 0,.int .u8 0,.int .u8 0,.int .u8 0,.int .i64 0,.int .i64 0,.string ⟨#[]⟩] 1 l336) 6 l337) 11 (.int .i64 x3)) 12 (.string x4))=13 then (∀ b338:Nat,h332 b338=.none→(opS Tryd.prog (Builtin.append_ #[88,88] 88 ⟨[(.slice a333 n334 c335),(.slice (some ⟨b338,0,none⟩) 1 1)]⟩) (HP.set h332 b338 (.cells 93 (splice [.int .i64 0,.int .u8 0,.int .u8 0,.int .u8 0,.int .u8 0,.int .i64 0,.int .u8 0,.int .u8 0,.int .u8 0,.int .u8 0,.int .i64 0,.int .i64 0,.string ⟨#[]⟩] 0 (List.set (List.set (splice (splice [(.int .i64 i329),.int .u8 0,.int .u8 0,.int .u8 0,.int .u8 0,.int .i64 0,.int .u8 0,.int .u8 0,.int .u8 0,.int .u8 0,.int .i64 0,.int .i64 0,.string ⟨#[]⟩] 1 l336) 6 l337) 11 (.int .i64 x3)) 12 (.string x4))) 0)) fun u339 h340=>slcV u339 fun a341 n342 c343=>ptrN x0 fun b344 o345=>HP.st h340 b344 (o345+2) (.slice a341 n342 c343) fun h346=>K (.int .i64 0) h346)) else False) else False) else False))∧(ptrN x0 fun b347 o348=>ldV (HP.cell h22 b347 (o348+2)) fun v349=>slcV v349 fun a350 n351 c352=>ptrN x0 fun b353 o354=>ldV (HP.cell h22 b353 (o354+1)) fun v355=>intV v355 .i64 fun i356=>∀ b357:Nat,h22 b357=.none→(ldL (cellsN k6 0 5) fun l358=>ldL (cellsN k7 0 5) fun l359=>if List.length l358=5 then (if List.length l359=5 then (if List.length (List.set (List.set (splice (splice [(.int .i64 i356),.int .u8 0,.int .u8 0,.int .u8 0,.int .u8 0,.int .i64 0,.int .u8 0,.int .u8 0,.int .u8 0,.int .u8 0,.int .i64 0,.int .i64 0,.string ⟨#[]⟩] 1 l358) 6 l359) 11 (.int .i64 x3)) 12 (.string x4))=13 then (∀ b360:Nat,(HP.set h22 b357 (.cells 93 [] 0)) b360=.none→(opS Tryd.prog (Builtin.append_ #[88,88] 88 ⟨[(.slice (some ⟨b357,0,none⟩) 0 0),(.slice a350 n351 c352)]⟩) (HP.set (HP.set h22 b357 (.cells 93 [] 0)) b360 (.cells 93 (splice [.int .i64 0,.int .u8 0,.int .u8 0,.int .u8 0,.int .u8 0,.int .i64 0,.int .u8 0,.int .u8 0,.int .u8 0,.int .u8 0,.int .i64 0,.int .i64 0,.string ⟨#[]⟩] 0 (List.set (List.set (splice (splice [(.int .i64 i356),.int .u8 0,.int .u8 0,.int .u8 0,.int .u8 0,.int .i64 0,.int .u8 0,.int .u8 0,.int .u8 0,.int .u8 0,.int .i64 0,.int .i64 0,.string ⟨#[]⟩] 1 l358) 6 l359) 11 (.int .i64 x3)) 12 (.string x4))) 0)) fun u361 h362=>slcV u361 fun a363 n364 c365=>opS Tryd.prog (Builtin.append_ #[88,88] 88 ⟨[(.slice a363 n364 c365),(.slice (some ⟨b360,0,none⟩) 1 1)]⟩) h362 fun u366 h367=>slcV u366 fun a368 n369 c370=>ptrN x0 fun b371 o372=>HP.st h367 b371 (o372+2) (.slice a368 n369 c370) fun h373=>K (.int .i64 0) h373)) else False) else False) else False))∧(ptrN x0 fun b374 o375=>ldV (HP.cell h22 b374 (o375+2)) fun v376=>slcV v376 fun a377 n378 c379=>ptrN x0 fun b380 o381=>ldV (HP.cell h22 b380 (o381+1)) fun v382=>intV v382 .i64 fun i383=>ldL (cellsN k6 0 5) fun l384=>ldL (cellsN k7 0 5) fun l385=>if List.length l384=5 then (if List.length l385=5 then (if List.length (List.set (List.set (splice (splice [(.int .i64 i383),.int .u8 0,.int .u8 0,.int .u8 0,.int .u8 0,.int .i64 0,.int .u8 0,.int .u8 0,.int .u8 0,.int .u8 0,.int .i64 0,.int .i64 0,.string ⟨#[]⟩] 1 l384) 6 l385) 11 (.int .i64 x3)) 12 (.string x4))=13 then (∀ b386:Nat,h22 b386=.none→(∀ b387:Nat,(HP.set h22 b386 (.cells 93 (splice [.int .i64 0,.int .u8 0,.int .u8 0,.int .u8 0,.int .u8 0,.int .i64 0,.int .u8 0,.int .u8 0,.int .u8 0,.int .u8 0,.int .i64 0,.int .i64 0,.string ⟨#[]⟩] 0 (List.set (List.set (splice (splice [(.int .i64 i383),.int .u8 0,.int .u8 0,.int .u8 0,.int .u8 0,.int .i64 0,.int .u8 0,.int .u8 0,.int .u8 0,.int .u8 0,.int .i64 0,.int .i64 0,.string ⟨#[]⟩] 1 l384) 6 l385) 11 (.int .i64 x3)) 12 (.string x4))) 0)) b387=.none→(opS Tryd.prog (Builtin.append_ #[88,88] 88 ⟨[(.slice (some ⟨b387,0,none⟩) 0 0),(.slice a377 n378 c379)]⟩) (HP.set (HP.set h22 b386 (.cells 93 (splice [.int .i64 0,.int .u8 0,.int .u8 0,.int .u8 0,.int .u8 0,.int .i64 0,.int .u8 0,.int .u8 0,.int .u8 0,.int .u8 0,.int .i64 0,.int .i64 0,.string ⟨#[]⟩] 0 (List.set (List.set (splice (splice [(.int .i64 i383),.int .u8 0,.int .u8 0,.int .u8 0,.int .u8 0,.int .i64 0,.int .u8 0,.int .u8 0,.int .u8 0,.int .u8 0,.int .i64 0,.int .i64 0,.string ⟨#[]⟩] 1 l384) 6 l385) 11 (.int .i64 x3)) 12 (.string x4))) 0)) b387 (.cells 93 [] 0)) fun u388 h389=>slcV u388 fun a390 n391 c392=>opS Tryd.prog (Builtin.append_ #[88,88] 88 ⟨[(.slice a390 n391 c392),(.slice (some ⟨b386,0,none⟩) 1 1)]⟩) h389 fun u393 h394=>slcV u393 fun a395 n396 c397=>ptrN x0 fun b398 o399=>HP.st h394 b398 (o399+2) (.slice a395 n396 c397) fun h400=>K (.int .i64 0) h400))) else False) else False) else False)∧(ptrN x0 fun b401 o402=>ptrN x0 fun b403 o404=>ldV (HP.cell h22 b403 (o404+1)) fun v405=>intV v405 .i64 fun i406=>ldL (cellsN k6 0 5) fun l407=>ldL (cellsN k7 0 5) fun l408=>if List.length l407=5 then (if List.length l408=5 then (if List.length (List.set (List.set (splice (splice [(.int .i64 i406),.int .u8 0,.int .u8 0,.int .u8 0,.int .u8 0,.int .i64 0,.int .u8 0,.int .u8 0,.int .u8 0,.int .u8 0,.int .i64 0,.int .i64 0,.string ⟨#[]⟩] 1 l407) 6 l408) 11 (.int .i64 x3)) 12 (.string x4))=13 then (∀ b409:Nat,h22 b409=.none→(ldV (HP.cell (HP.set h22 b409 (.cells 93 (splice [.int .i64 0,.int .u8 0,.int .u8 0,.int .u8 0,.int .u8 0,.int .i64 0,.int .u8 0,.int .u8 0,.int .u8 0,.int .u8 0,.int .i64 0,.int .i64 0,.string ⟨#[]⟩] 0 (List.set (List.set (splice (splice [(.int .i64 i406),.int .u8 0,.int .u8 0,.int .u8 0,.int .u8 0,.int .i64 0,.int .u8 0,.int .u8 0,.int .u8 0,.int .u8 0,.int .i64 0,.int .i64 0,.string ⟨#[]⟩] 1 l407) 6 l408) 11 (.int .i64 x3)) 12 (.string x4))) 0)) b401 (o402+2)) fun v410=>slcV v410 fun a411 n412 c413=>∀ b414:Nat,(HP.set h22 b409 (.cells 93 (splice [.int .i64 0,.int .u8 0,.int .u8 0,.int .u8 0,.int .u8 0,.int .i64 0,.int .u8 0,.int .u8 0,.int .u8 0,.int .u8 0,.int .i64 0,.int .i64 0,.string ⟨#[]⟩] 0 (List.set (List.set (splice (splice [(.int .i64 i406),.int .u8 0,.int .u8 0,.int .u8 0,.int .u8 0,.int .i64 0,.int .u8 0,.int .u8 0,.int .u8 0,.int .u8 0,.int .i64 0,.int .i64 0,.string ⟨#[]⟩] 1 l407) 6 l408) 11 (.int .i64 x3)) 12 (.string x4))) 0)) b414=.none→(opS Tryd.prog (Builtin.append_ #[88,88] 88 ⟨[(.slice (some ⟨b414,0,none⟩) 0 0),(.slice a411 n412 c413)]⟩) (HP.set (HP.set h22 b409 (.cells 93 (splice [.int .i64 0,.int .u8 0,.int .u8 0,.int .u8 0,.int .u8 0,.int .i64 0,.int .u8 0,.int .u8 0,.int .u8 0,.int .u8 0,.int .i64 0,.int .i64 0,.string ⟨#[]⟩] 0 (List.set (List.set (splice (splice [(.int .i64 i406),.int .u8 0,.int .u8 0,.int .u8 0,.int .u8 0,.int .i64 0,.int .u8 0,.int .u8 0,.int .u8 0,.int .u8 0,.int .i64 0,.int .i64 0,.string ⟨#[]⟩] 1 l407) 6 l408) 11 (.int .i64 x3)) 12 (.string x4))) 0)) b414 (.cells 93 [] 0)) fun u415 h416=>slcV u415 fun a417 n418 c419=>opS Tryd.prog (Builtin.append_ #[88,88] 88 ⟨[(.slice a417 n418 c419),(.slice (some ⟨b409,0,none⟩) 1 1)]⟩) h416 fun u420 h421=>slcV u420 fun a422 n423 c424=>ptrN x0 fun b425 o426=>HP.st h421 b425 (o426+2) (.slice a422 n423 c424) fun h427=>K (.int .i64 0) h427))) else False) else False) else False)))))
theorem F51_r25:R51 19 6 (upd e 3 (sI x3)) (w2 V0 7 (34,k7) 6 (34,k6)) hp K=
 ite2 (decide (x3<0)) (K (w7 e 3 (sI x3) 14 (sI x3) 15 (sB (decide (x3<0))) 16 (sB true) 17 sU 18 sU 19 (sB true)) (w2 V0 7 (34,k7) 6 (34,k6)) hp) (K (w7 e 3 (sI x3) 14 (sI x3) 15 (sB (decide (x3<0))) 16 (sB false) 17 (sI x3) 18 (sB (decide (x3 > 4611686018427387904))) 19 (sB (decide (x3 > 4611686018427387904)))) (w2 V0 7 (34,k7) 6 (34,k6)) hp):= by kernel_rfl
def F51 (x0:OA) (x1 x2:List Value) (x3:Int) (x4:ByteArray) (hp:HP) (K:Kh):Prop:=
  (ite2 (decide (((ByteArray.size x4:Nat):Int) > 65536)) (K (.int .i64 3) hp) (ite2 (decide (x3<0)) (F51_j1 x0 x3 x4 true x1 x2 hp  K) (F51_j1 x0 x3 x4 (decide (x3 > 4611686018427387904)) x1 x2 hp  K)))
noncomputable abbrev o51 (k n:Nat):Code:=.region k (opsAt Tryd.f51 (pth n)) false
noncomputable def F51_code:Code:=(.seq (o51 0 2) (.seq (.seq (o51 1 9) (.cond (.tmp 13) (.seq (o51 2 37) .ret) .skip)) (.seq (.seq (o51 3 19) (.cond (.tmp 19) (.seq (o51 4 75) .ret) .skip)) (.seq (.seq (o51 5 39) (.cond (.tmp 24) (.seq (o51 6 151) .ret) .skip)) (.seq (.seq (.region 7 (opsAt Tryd.f51 (pth 79)) true) (.cond (.tmp 34) (.seq (o51 8 303) .ret) .skip)) (.seq (o51 9 95) (.seq (.region 10 (opsAt Tryd.f51 (pth 191)) true) (.seq (o51 11 383) .ret))))))))
theorem F51_body:Tryd.f51.body=some F51_code:=by kernel_rfl
theorem F51_ok (x0:OA) (x1 x2:List Value) (x3:Int) (x4:ByteArray) (hp:HP) (K:Kh) (h:F51 x0 x1 x2 x3 x4 hp K):CF Tryd.prog 51 [(.pointer x0),(.agg ⟨x1⟩),(.agg ⟨x2⟩),(.int .i64 x3),(.string x4)] hp K:=by
 refine .inl ⟨by kernel_rfl,AC.intro (N:=63) Tryd.func51 F51_body rfl (Nat.le_of_ble_eq_true rfl) ?_⟩
 unfold F51 at h
 refine Ar F51_r0 ?_ (r5 1 2 0 3 4 Rn) (z5 Sn) Sn
 refine Aq (Ar F51_r1 ?_ (r3 4 0 3 (rp 6 6 0 (rp 7 7 0 Rn))) (z5 Sn) (z2 Sn))
 refine Ac h rfl (fun h=>?_) (fun h=>?_)
 ·refine Ar F51_r2 ?_ Rn Sn Sn
  refine AWP.ret ?_
  exact h
 ·refine AWP.skip (Aq (As (fun env pv hp=>∃ x0 x3 x4 x19 k6 k7,Sub (w6 E0 19 (sB x19) 7 (sR 7 0) 6 (sR 6 0) 4 (sT x4) 3 (sI x3) 0 (sP x0)) env∧Sub (w2 V0 7 (34,k7) 6 (34,k6)) pv∧(F51_j1 x0 x3 x4 x19 k6 k7 hp  K)) ?_ ?_))
  ·refine Ag F51_r25 ?_ (r3 3 0 4 (rp 6 6 0 (rp 7 7 0 Rn))) (z5 Sn) (z2 Sn)
   refine mt h (fun h=>?_) (fun h=>?_)
   ·exact ⟨_,_,_,_,_,_,(z6 Sn),(z2 Sn),h⟩
   ·exact ⟨_,_,_,_,_,_,(z6 Sn),(z2 Sn),h⟩
  ·rintro env pv hp ⟨x0,x3,x4,x19,k6,k7,he,hv,h⟩
   refine Ae ?_ (r3 0 3 4 (rp 6 6 0 (rp 7 7 0 (r1 19 Rn)))) he hv
   unfold F51_j1 at h
   refine Ac h rfl (fun h=>?_) (fun h=>?_)
   ·refine Ar F51_r3 ?_ Rn Sn Sn
    refine AWP.ret ?_
    exact h
   ·refine AWP.skip (Aq (Ar (F51_r4 rfl) ?_ (r1 0 (rp 6 6 0 (rp 7 7 0 (r2 3 4 Rn)))) (z5 Sn) (z2 Sn)))
    refine mL h fun l1 h=>mL h fun l2 h=>mC h fun u3 h4 h=>mI h fun i5 h=>?_
    refine Ac h rfl (fun h=>?_) (fun h=>?_)
    ·refine Ar F51_r5 ?_ Rn Sn Sn
     refine AWP.ret ?_
     exact h
    ·refine AWP.skip (Aq (Aq (AWP.rgnD (by kernel_rfl) (by kernel_rfl) F51_r6 ?_ (r3 0 3 4 (rp 6 6 0 (rp 7 7 0 Rn))) (z5 Sn) (z2 Sn))))
     refine mN h fun b6 o7 h=>mV h fun v8 h=>mS h fun a9 n10 c11 h=>mN h fun b12 o13 h=>mV h fun v14 h=>mI h fun i15 h=>?_
     refine Ac h rfl (fun h=>?_) (fun h=>?_)
     ·refine Ar F51_r7 ?_ Rn Sn Sn
      refine AWP.ret ?_
      exact h
     ·refine AWP.skip (Ar F51_r8 ?_ (r3 0 3 4 (rp 6 6 0 (rp 7 7 0 Rn))) (z5 Sn) (z2 Sn))
      refine mN h fun b16 o17 h=>mV h fun v18 h=>mI h fun i19 h=>mN h fun b20 o21 h=>mw h fun h22 h=>?_
      refine Aq (AWP.rgnC (cf:=[(1,5),(1,10),(6,10),(1,16),(5,16),(6,16)]) (c:=[([true,true,true,true,true,true],true,[0,1,2,3,4,5,6,7,8,9,10,11,12,13,14,15,16,17,18,19,20]),([true,true,true,true,true,false],false,[6,10,15,16,6]),([true,true,true,true,false,true],false,[5,6,10,15,16,5]),([true,true,true,true,false,false],false,[5,6,10,15,16,5]),([true,true,true,false,true,true],false,[1,10,15,16,1]),([true,true,true,false,true,false],false,[1,10,15,16,1]),([true,true,true,false,false,true],false,[1,10,15,16,1]),([true,true,true,false,false,false],false,[1,10,15,16,1]),([true,true,false,true,true,true],true,[0,1,2,3,4,5,7,8,9,10,6,11,12,13,14,15,16,17,18,19,20]),([true,true,false,true,true,false],true,[0,1,2,3,4,5,7,8,9,10,11,12,13,14,15,16,6,17,18,19,20]),([true,true,false,true,false,true],false,[5,6,16,5]),([true,true,false,true,false,false],true,[0,1,2,3,4,7,8,9,10,11,12,13,14,15,16,5,6,17,18,19,20]),([true,true,false,false,true,true],false,[1,10,15,16,1]),([true,true,false,false,true,false],false,[1,10,15,16,1]),([true,true,false,false,false,true],false,[1,10,15,16,1]),([true,true,false,false,false,false],false,[1,10,15,16,1]),([true,false,true,true,true,true],false,[1,6,10,1]),([true,false,true,true,true,false],false,[1,6,10,1]),([true,false,true,true,false,true],false,[1,6,10,1]),([true,false,true,true,false,false],false,[1,6,10,1]),([true,false,true,false,true,true],false,[1,6,10,1]),([true,false,true,false,true,false],false,[1,6,10,1]),([true,false,true,false,false,true],false,[1,6,10,1]),([true,false,true,false,false,false],false,[1,6,10,1]),([true,false,false,true,true,true],true,[0,2,3,4,7,8,9,10,1,5,6,11,12,13,14,15,16,17,18,19,20]),([true,false,false,true,true,false],true,[0,2,3,4,7,8,9,10,1,5,11,12,13,14,15,16,6,17,18,19,20]),([true,false,false,true,false,true],false,[5,6,16,5]),([true,false,false,true,false,false],true,[0,2,3,4,7,8,9,10,1,11,12,13,14,15,16,5,6,17,18,19,20]),([true,false,false,false,true,true],false,[1,5,16,1]),([true,false,false,false,true,false],false,[1,5,16,1]),([true,false,false,false,false,true],false,[1,6,16,1]),([true,false,false,false,false,false],true,[0,2,3,4,7,8,9,10,11,12,13,14,15,16,1,5,6,17,18,19,20]),([false,true,true,true,true,true],true,[0,2,3,4,5,1,6,7,8,9,10,11,12,13,14,15,16,17,18,19,20]),([false,true,true,true,true,false],false,[6,10,15,16,6]),([false,true,true,true,false,true],false,[1,10,15,16,5,1]),([false,true,true,true,false,false],false,[1,10,15,16,5,1]),([false,true,true,false,true,true],false,[1,10,15,16,1]),([false,true,true,false,true,false],false,[1,10,15,16,1]),([false,true,true,false,false,true],false,[1,10,15,16,5,1]),([false,true,true,false,false,false],false,[1,10,15,16,5,1]),([false,true,false,true,true,true],true,[0,2,3,4,5,1,7,8,9,10,6,11,12,13,14,15,16,17,18,19,20]),([false,true,false,true,true,false],true,[0,2,3,4,5,1,7,8,9,10,11,12,13,14,15,16,6,17,18,19,20]),([false,true,false,true,false,true],false,[1,10,15,16,5,1]),([false,true,false,true,false,false],false,[1,10,15,16,5,1]),([false,true,false,false,true,true],false,[1,10,15,16,1]),([false,true,false,false,true,false],false,[1,10,15,16,1]),([false,true,false,false,false,true],false,[1,10,15,16,5,1]),([false,true,false,false,false,false],false,[1,10,15,16,5,1]),([false,false,true,true,true,true],false,[1,6,10,1]),([false,false,true,true,true,false],false,[1,6,10,1]),([false,false,true,true,false,true],false,[1,6,10,15,16,5,1]),([false,false,true,true,false,false],false,[1,6,10,15,16,5,1]),([false,false,true,false,true,true],false,[1,6,10,1]),([false,false,true,false,true,false],false,[1,6,10,1]),([false,false,true,false,false,true],false,[1,6,10,15,16,5,1]),([false,false,true,false,false,false],false,[1,6,10,15,16,5,1]),([false,false,false,true,true,true],true,[0,2,3,4,5,7,8,9,10,1,6,11,12,13,14,15,16,17,18,19,20]),([false,false,false,true,true,false],true,[0,2,3,4,5,7,8,9,10,1,11,12,13,14,15,16,6,17,18,19,20]),([false,false,false,true,false,true],false,[1,16,5,1]),([false,false,false,true,false,false],false,[1,16,5,1]),([false,false,false,false,true,true],false,[1,6,16,1]),([false,false,false,false,true,false],true,[0,2,3,4,5,7,8,9,10,11,12,13,14,15,16,1,6,17,18,19,20]),([false,false,false,false,false,true],false,[1,6,16,5,1]),([false,false,false,false,false,false],true,[0,2,3,4,7,8,9,10,11,12,13,14,15,16,5,1,6,17,18,19,20])]) (by kernel_rfl) (by kernel_rfl) (by kernel_rfl) (by kernel_rfl) (allO_t (Eq.mpr F51_r9 ?_) (allO_f (allO_f (allO_f (allO_f (allO_f (allO_f (allO_f (allO_t (Eq.mpr F51_r10 ?_) (allO_t (Eq.mpr F51_r11 ?_) (allO_f (allO_t (Eq.mpr F51_r12 ?_) (allO_f (allO_f (allO_f (allO_f (allO_f (allO_f (allO_f (allO_f (allO_f (allO_f (allO_f (allO_f (allO_t (Eq.mpr F51_r13 ?_) (allO_t (Eq.mpr F51_r14 ?_) (allO_f (allO_t (Eq.mpr F51_r15 ?_) (allO_f (allO_f (allO_f (allO_t (Eq.mpr F51_r16 ?_) (allO_t (Eq.mpr F51_r17 ?_) (allO_f (allO_f (allO_f (allO_f (allO_f (allO_f (allO_f (allO_t (Eq.mpr F51_r18 ?_) (allO_t (Eq.mpr F51_r19 ?_) (allO_f (allO_f (allO_f (allO_f (allO_f (allO_f (allO_f (allO_f (allO_f (allO_f (allO_f (allO_f (allO_f (allO_f (allO_t (Eq.mpr F51_r20 ?_) (allO_t (Eq.mpr F51_r21 ?_) (allO_f (allO_f (allO_f (allO_t (Eq.mpr F51_r22 ?_) (allO_f (allO_t (Eq.mpr F51_r23 ?_) trivial)))))))))))))))))))))))))))))))))))))))))))))))))))))))))))))))) (r3 0 3 4 (rp 6 6 0 (rp 7 7 0 Rn))) (z5 Sn) (z2 Sn))
      ·replace h:=h.1
       refine fun b23 hb_b_23=>?_
       replace h:=h b23 hb_b_23
       refine mN h fun b24 o25 h=>mV h fun v26 h=>mS h fun a27 n28 c29 h=>mO h fun u30 h31 h=>mS h fun a32 n33 c34 h=>mN h fun b35 o36 h=>mV h fun v37 h=>mI h fun i38 h=>mL h fun l39 h=>mL h fun l40 h=>mf h fun h=>mf h fun h=>mf h fun h=>?_
       refine fun b41 hb_b_41=>?_
       replace h:=h b41 hb_b_41
       refine mO h fun u42 h43 h=>mS h fun a44 n45 c46 h=>mN h fun b47 o48 h=>mw h fun h49 h=>?_
       refine Ar F51_r24 ?_ Rn Sn Sn
       refine AWP.ret ?_
       exact h
      ·replace h:=h.2.1
       refine fun b50 hb_b_50=>?_
       replace h:=h b50 hb_b_50
       refine mN h fun b51 o52 h=>mV h fun v53 h=>mS h fun a54 n55 c56 h=>mN h fun b57 o58 h=>mV h fun v59 h=>mI h fun i60 h=>mO h fun u61 h62 h=>mS h fun a63 n64 c65 h=>mL h fun l66 h=>mL h fun l67 h=>mf h fun h=>mf h fun h=>mf h fun h=>?_
       refine fun b68 hb_b_68=>?_
       replace h:=h b68 hb_b_68
       refine mO h fun u69 h70 h=>mS h fun a71 n72 c73 h=>mN h fun b74 o75 h=>mw h fun h76 h=>?_
       refine Ar F51_r24 ?_ Rn Sn Sn
       refine AWP.ret ?_
       exact h
      ·replace h:=h.2.2.1
       refine fun b77 hb_b_77=>?_
       replace h:=h b77 hb_b_77
       refine mN h fun b78 o79 h=>mV h fun v80 h=>mS h fun a81 n82 c83 h=>mN h fun b84 o85 h=>mV h fun v86 h=>mI h fun i87 h=>mL h fun l88 h=>mL h fun l89 h=>mf h fun h=>mf h fun h=>mf h fun h=>?_
       refine fun b90 hb_b_90=>?_
       replace h:=h b90 hb_b_90
       refine mO h fun u91 h92 h=>mS h fun a93 n94 c95 h=>mO h fun u96 h97 h=>mS h fun a98 n99 c100 h=>mN h fun b101 o102 h=>mw h fun h103 h=>?_
       refine Ar F51_r24 ?_ Rn Sn Sn
       refine AWP.ret ?_
       exact h
      ·replace h:=h.2.2.2.1
       refine fun b104 hb_b_104=>?_
       replace h:=h b104 hb_b_104
       refine mN h fun b105 o106 h=>mN h fun b107 o108 h=>mV h fun v109 h=>mI h fun i110 h=>mL h fun l111 h=>mL h fun l112 h=>mf h fun h=>mf h fun h=>mf h fun h=>?_
       refine fun b113 hb_b_113=>?_
       replace h:=h b113 hb_b_113
       refine mV h fun v114 h=>mS h fun a115 n116 c117 h=>mO h fun u118 h119 h=>mS h fun a120 n121 c122 h=>mO h fun u123 h124 h=>mS h fun a125 n126 c127 h=>mN h fun b128 o129 h=>mw h fun h130 h=>?_
       refine Ar F51_r24 ?_ Rn Sn Sn
       refine AWP.ret ?_
       exact h
      ·replace h:=h.2.2.2.2.1
       refine mN h fun b131 o132 h=>mN h fun b133 o134 h=>mV h fun v135 h=>mI h fun i136 h=>?_
       refine fun b137 hb_b_137=>?_
       replace h:=h b137 hb_b_137
       refine mV h fun v138 h=>mS h fun a139 n140 c141 h=>mO h fun u142 h143 h=>mS h fun a144 n145 c146 h=>mL h fun l147 h=>mL h fun l148 h=>mf h fun h=>mf h fun h=>mf h fun h=>?_
       refine fun b149 hb_b_149=>?_
       replace h:=h b149 hb_b_149
       refine mO h fun u150 h151 h=>mS h fun a152 n153 c154 h=>mN h fun b155 o156 h=>mw h fun h157 h=>?_
       refine Ar F51_r24 ?_ Rn Sn Sn
       refine AWP.ret ?_
       exact h
      ·replace h:=h.2.2.2.2.2.1
       refine mN h fun b158 o159 h=>mN h fun b160 o161 h=>mV h fun v162 h=>mI h fun i163 h=>?_
       refine fun b164 hb_b_164=>?_
       replace h:=h b164 hb_b_164
       refine mV h fun v165 h=>mS h fun a166 n167 c168 h=>mL h fun l169 h=>mL h fun l170 h=>mf h fun h=>mf h fun h=>mf h fun h=>?_
       refine fun b171 hb_b_171=>?_
       replace h:=h b171 hb_b_171
       refine mO h fun u172 h173 h=>mS h fun a174 n175 c176 h=>mO h fun u177 h178 h=>mS h fun a179 n180 c181 h=>mN h fun b182 o183 h=>mw h fun h184 h=>?_
       refine Ar F51_r24 ?_ Rn Sn Sn
       refine AWP.ret ?_
       exact h
      ·replace h:=h.2.2.2.2.2.2.1
       refine mN h fun b185 o186 h=>mN h fun b187 o188 h=>mV h fun v189 h=>mI h fun i190 h=>?_
       refine fun b191 hb_b_191=>?_
       replace h:=h b191 hb_b_191
       refine mL h fun l192 h=>mL h fun l193 h=>mf h fun h=>mf h fun h=>mf h fun h=>?_
       refine fun b194 hb_b_194=>?_
       replace h:=h b194 hb_b_194
       refine mV h fun v195 h=>mS h fun a196 n197 c198 h=>mO h fun u199 h200 h=>mS h fun a201 n202 c203 h=>mO h fun u204 h205 h=>mS h fun a206 n207 c208 h=>mN h fun b209 o210 h=>mw h fun h211 h=>?_
       refine Ar F51_r24 ?_ Rn Sn Sn
       refine AWP.ret ?_
       exact h
      ·replace h:=h.2.2.2.2.2.2.2.1
       refine mN h fun b212 o213 h=>mN h fun b214 o215 h=>mV h fun v216 h=>mI h fun i217 h=>mL h fun l218 h=>mL h fun l219 h=>mf h fun h=>mf h fun h=>mf h fun h=>?_
       refine fun b220 hb_b_220=>?_
       replace h:=h b220 hb_b_220
       refine fun b221 hb_b_221=>?_
       replace h:=h b221 hb_b_221
       refine mV h fun v222 h=>mS h fun a223 n224 c225 h=>mO h fun u226 h227 h=>mS h fun a228 n229 c230 h=>mO h fun u231 h232 h=>mS h fun a233 n234 c235 h=>mN h fun b236 o237 h=>mw h fun h238 h=>?_
       refine Ar F51_r24 ?_ Rn Sn Sn
       refine AWP.ret ?_
       exact h
      ·replace h:=h.2.2.2.2.2.2.2.2.1
       refine mN h fun b239 o240 h=>mV h fun v241 h=>mS h fun a242 n243 c244 h=>?_
       refine fun b245 hb_b_245=>?_
       replace h:=h b245 hb_b_245
       refine mO h fun u246 h247 h=>mS h fun a248 n249 c250 h=>mN h fun b251 o252 h=>mV h fun v253 h=>mI h fun i254 h=>mL h fun l255 h=>mL h fun l256 h=>mf h fun h=>mf h fun h=>mf h fun h=>?_
       refine fun b257 hb_b_257=>?_
       replace h:=h b257 hb_b_257
       refine mO h fun u258 h259 h=>mS h fun a260 n261 c262 h=>mN h fun b263 o264 h=>mw h fun h265 h=>?_
       refine Ar F51_r24 ?_ Rn Sn Sn
       refine AWP.ret ?_
       exact h
      ·replace h:=h.2.2.2.2.2.2.2.2.2.1
       refine mN h fun b266 o267 h=>mV h fun v268 h=>mS h fun a269 n270 c271 h=>?_
       refine fun b272 hb_b_272=>?_
       replace h:=h b272 hb_b_272
       refine mN h fun b273 o274 h=>mV h fun v275 h=>mI h fun i276 h=>mO h fun u277 h278 h=>mS h fun a279 n280 c281 h=>mL h fun l282 h=>mL h fun l283 h=>mf h fun h=>mf h fun h=>mf h fun h=>?_
       refine fun b284 hb_b_284=>?_
       replace h:=h b284 hb_b_284
       refine mO h fun u285 h286 h=>mS h fun a287 n288 c289 h=>mN h fun b290 o291 h=>mw h fun h292 h=>?_
       refine Ar F51_r24 ?_ Rn Sn Sn
       refine AWP.ret ?_
       exact h
      ·replace h:=h.2.2.2.2.2.2.2.2.2.2.1
       refine mN h fun b293 o294 h=>mV h fun v295 h=>mS h fun a296 n297 c298 h=>?_
       refine fun b299 hb_b_299=>?_
       replace h:=h b299 hb_b_299
       refine mN h fun b300 o301 h=>mV h fun v302 h=>mI h fun i303 h=>mL h fun l304 h=>mL h fun l305 h=>mf h fun h=>mf h fun h=>mf h fun h=>?_
       refine fun b306 hb_b_306=>?_
       replace h:=h b306 hb_b_306
       refine mO h fun u307 h308 h=>mS h fun a309 n310 c311 h=>mO h fun u312 h313 h=>mS h fun a314 n315 c316 h=>mN h fun b317 o318 h=>mw h fun h319 h=>?_
       refine Ar F51_r24 ?_ Rn Sn Sn
       refine AWP.ret ?_
       exact h
      ·replace h:=h.2.2.2.2.2.2.2.2.2.2.2.1
       refine mN h fun b320 o321 h=>mV h fun v322 h=>mS h fun a323 n324 c325 h=>mN h fun b326 o327 h=>mV h fun v328 h=>mI h fun i329 h=>?_
       refine fun b330 hb_b_330=>?_
       replace h:=h b330 hb_b_330
       refine mO h fun u331 h332 h=>mS h fun a333 n334 c335 h=>mL h fun l336 h=>mL h fun l337 h=>mf h fun h=>mf h fun h=>mf h fun h=>?_
       refine fun b338 hb_b_338=>?_
       replace h:=h b338 hb_b_338
       refine mO h fun u339 h340 h=>mS h fun a341 n342 c343 h=>mN h fun b344 o345 h=>mw h fun h346 h=>?_
       refine Ar F51_r24 ?_ Rn Sn Sn
       refine AWP.ret ?_
       exact h
      ·replace h:=h.2.2.2.2.2.2.2.2.2.2.2.2.1
       refine mN h fun b347 o348 h=>mV h fun v349 h=>mS h fun a350 n351 c352 h=>mN h fun b353 o354 h=>mV h fun v355 h=>mI h fun i356 h=>?_
       refine fun b357 hb_b_357=>?_
       replace h:=h b357 hb_b_357
       refine mL h fun l358 h=>mL h fun l359 h=>mf h fun h=>mf h fun h=>mf h fun h=>?_
       refine fun b360 hb_b_360=>?_
       replace h:=h b360 hb_b_360
       refine mO h fun u361 h362 h=>mS h fun a363 n364 c365 h=>mO h fun u366 h367 h=>mS h fun a368 n369 c370 h=>mN h fun b371 o372 h=>mw h fun h373 h=>?_
       refine Ar F51_r24 ?_ Rn Sn Sn
       refine AWP.ret ?_
       exact h
      ·replace h:=h.2.2.2.2.2.2.2.2.2.2.2.2.2.1
       refine mN h fun b374 o375 h=>mV h fun v376 h=>mS h fun a377 n378 c379 h=>mN h fun b380 o381 h=>mV h fun v382 h=>mI h fun i383 h=>mL h fun l384 h=>mL h fun l385 h=>mf h fun h=>mf h fun h=>mf h fun h=>?_
       refine fun b386 hb_b_386=>?_
       replace h:=h b386 hb_b_386
       refine fun b387 hb_b_387=>?_
       replace h:=h b387 hb_b_387
       refine mO h fun u388 h389 h=>mS h fun a390 n391 c392 h=>mO h fun u393 h394 h=>mS h fun a395 n396 c397 h=>mN h fun b398 o399 h=>mw h fun h400 h=>?_
       refine Ar F51_r24 ?_ Rn Sn Sn
       refine AWP.ret ?_
       exact h
      ·replace h:=h.2.2.2.2.2.2.2.2.2.2.2.2.2.2
       refine mN h fun b401 o402 h=>mN h fun b403 o404 h=>mV h fun v405 h=>mI h fun i406 h=>mL h fun l407 h=>mL h fun l408 h=>mf h fun h=>mf h fun h=>mf h fun h=>?_
       refine fun b409 hb_b_409=>?_
       replace h:=h b409 hb_b_409
       refine mV h fun v410 h=>mS h fun a411 n412 c413 h=>?_
       refine fun b414 hb_b_414=>?_
       replace h:=h b414 hb_b_414
       refine mO h fun u415 h416 h=>mS h fun a417 n418 c419 h=>mO h fun u420 h421 h=>mS h fun a422 n423 c424 h=>mN h fun b425 o426 h=>mw h fun h427 h=>?_
       refine Ar F51_r24 ?_ Rn Sn Sn
       refine AWP.ret ?_
       exact h
end
section
variable {e E:Env} {x0:OA} {x1:Int} {x5a:OA} {x5n x5c:Nat} {x6 x7:Int} {hp:HP} {K:Env→PV→HP→Prop}
abbrev R54 (p n:Nat):=RW Tryd.prog 60 [] (opsAt Tryd.f54 (pth p)) (List.range n)
theorem F54_r0:R54 2 1 e V0 hp K=
 K (upd e 4 (sS none 0 0)) V0 hp:= by kernel_rfl
theorem F54_r1:R54 67 1 e V0 hp K=
 K (upd e 6 (sI ((-1)))) V0 hp:= by kernel_rfl
theorem F54_r2:R54 611 2 (upd e 6 (sI x6)) V0 hp K=
 K (w3 e 6 (sI x6) 51 (sI x6) 52 (sB (decide (x6<0)))) V0 hp:= by kernel_rfl
theorem F54_r3:R54 2403 2 (upd e 5 (sS x5a x5n x5c)) V0 hp K=
 K (w3 e 5 (sS x5a x5n x5c) 53 (sS x5a x5n x5c) 4 (sS x5a x5n x5c)) V0 hp:= by kernel_rfl
theorem F54_r4 (h:E=upd (w2 e 6 (sI x6) 5 (sS x5a x5n x5c)) 0 (sP x0)):R54 483 7 E V0 hp K=
 CF Tryd.prog 52 [(.pointer x0),(.int .i64 x6)] hp fun u1 h2=>(aggV u1 fun l3=>if List.length l3=13 then (∀ b4:Nat,h2 b4=.none→(opS Tryd.prog (Builtin.append_ #[88,88] 88 ⟨[(.slice x5a x5n x5c),(.slice (some ⟨b4,0,none⟩) 1 1)]⟩) (HP.set h2 b4 (.cells 93 (splice [.int .i64 0,.int .u8 0,.int .u8 0,.int .u8 0,.int .u8 0,.int .i64 0,.int .u8 0,.int .u8 0,.int .u8 0,.int .u8 0,.int .i64 0,.int .i64 0,.string ⟨#[]⟩] 0 l3) 0)) fun u5 h6=>slcV u5 fun a7 n8 c9=>K (w7 E 54 (sS x5a x5n x5c) 55 (sP x0) 56 (sI x6) 57 (sA l3) 58 (sV (.slice (some ⟨b4,0,none⟩) 1 1)) 59 (sS a7 n8 c9) 5 (sS a7 n8 c9)) V0 h6)) else False):= by subst h; kernel_rfl
def F54_j3 (x0:OA) (x1:Int) (x5a:OA) (x5n x5c:Nat) (x6:Int) (hp:HP) (I2:(OA × Nat × Nat)→HP→Prop) (K:Kh):Prop:=
  (ite2 (decide (x6<0)) (K (.slice x5a x5n x5c) hp) (CF Tryd.prog 52 [(.pointer x0),(.int .i64 x6)] hp fun u1 h2=>aggV u1 fun l3=>if List.length l3=13 then (∀ b4:Nat,h2 b4=.none→(opS Tryd.prog (Builtin.append_ #[88,88] 88 ⟨[(.slice x5a x5n x5c),(.slice (some ⟨b4,0,none⟩) 1 1)]⟩) (HP.set h2 b4 (.cells 93 (splice [.int .i64 0,.int .u8 0,.int .u8 0,.int .u8 0,.int .u8 0,.int .i64 0,.int .u8 0,.int .u8 0,.int .u8 0,.int .u8 0,.int .i64 0,.int .i64 0,.string ⟨#[]⟩] 0 l3) 0)) fun u5 h6=>slcV u5 fun a7 n8 c9=>I2 (a7,n8,c9) h6)) else False))
theorem F54_r5:R54 4259 7 (w2 e 7 (sI x7) 0 (sP x0)) V0 hp K=
 ptrN x0 fun b1 o2=>(ldV (HP.cell hp b1 (o2+2)) fun v3=>slcV v3 fun a4 n5 c6=>K (upd (w8 e 7 (sI x7) 0 (sP x0) 8 (sI x7) 9 (sP x0) 10 (sQ b1 o2) 11 (sQ b1 (o2+2)) 12 (sS a4 n5 c6) 13 (sI ((n5:Nat)))) 14 (sB ((decide (x7<n5))))) V0 hp):= by kernel_rfl
theorem F54_r6:R54 7331 3 (upd e 7 (sI x7)) V0 hp K=
 K (w4 e 7 (sI x7) 15 (sI x7) 16 (sI ((wr (x7+1)))) 7 (sI ((wr (x7+1))))) V0 hp:= by kernel_rfl
def F54_j6 (x0:OA) (x1:Int) (x5a:OA) (x5n x5c:Nat) (x6 x7:Int) (hp:HP) (I2:(OA × Nat × Nat)→HP→Prop) (I5:(Int × Int)→HP→Prop) (K:Kh):Prop:=
  (I5 (x6,(IntKind.wrap .i64 (x7+1))) hp)
theorem F54_r7:R54 42147 2 (upd e 7 (sI x7)) V0 hp K=
 K (w3 e 7 (sI x7) 50 (sI x7) 6 (sI x7)) V0 hp:= by kernel_rfl
def F54_j7 (x0:OA) (x1:Int) (x5a:OA) (x5n x5c:Nat) (x6 x7:Int) (x49:Bool) (hp:HP) (I2:(OA × Nat × Nat)→HP→Prop) (I5:(Int × Int)→HP→Prop) (K:Kh):Prop:=
  (ite2 x49 (F54_j6 x0 x1 x5a x5n x5c x7 x7 hp I2 I5 K) (F54_j6 x0 x1 x5a x5n x5c x6 x7 hp I2 I5 K))
theorem F54_r8 (h:E=upd (w3 e 7 (sI x7) 6 (sI x6) 1 (sI x1)) 0 (sP x0)):R54 17571 33 E V0 hp K=
    (ptrN x0 fun b1 o2=>ldV (HP.cell hp b1 (o2+2)) fun v3=>slcV v3 fun a4 n5 c6=>(0≤x7)∧(x7<n5)∧(ptrN a4 fun b7 o8=>ldV (HP.cell hp b7 ((o8+Int.toNat x7*13)+11)) fun v9=>intV v9 .i64 fun i10=>ite2 (decide (i10≤x1)) (ite2 (decide (x6<0)) (K (upd (w8 (w8 (w8 (w8 E 17 (sP x0) 18 (sQ b1 o2) 19 (sQ b1 (o2+2)) 20 (sS a4 n5 c6) 21 (sI x7) 22 (sQ b7 (o8+Int.toNat x7*13)) 23 (sQ b7 ((o8+Int.toNat x7*13)+11)) 24 (sI i10)) 25 (sI x1) 26 (sB (decide (i10≤x1))) 27 (sB true) 28 (sI x6) 29 (sB (decide (x6<0))) 30 (sB true) 31 sU 32 sU) 33 sU 34 sU 35 sU 36 sU 37 sU 38 sU 39 sU 40 sU) 41 sU 42 sU 43 sU 44 sU 45 sU 46 sU 47 sU 48 (sB true)) 49 (sB true)) V0 hp) (ptrN x0 fun b11 o12=>ldV (HP.cell hp b11 (o12+2)) fun v13=>slcV v13 fun a14 n15 c16=>(0≤x7)∧(x7<n15)∧(ptrN a14 fun b17 o18=>ldV (HP.cell hp b17 ((o18+Int.toNat x7*13)+11)) fun v19=>intV v19 .i64 fun i20=>ptrN x0 fun b21 o22=>ldV (HP.cell hp b21 (o22+2)) fun v23=>slcV v23 fun a24 n25 c26=>(0≤x6)∧(x6<n25)∧(ptrN a24 fun b27 o28=>ldV (HP.cell hp b27 ((o28+Int.toNat x6*13)+11)) fun v29=>intV v29 .i64 fun i30=>K (upd (w8 (w8 (w8 (w8 E 17 (sP x0) 18 (sQ b1 o2) 19 (sQ b1 (o2+2)) 20 (sS a4 n5 c6) 21 (sI x7) 22 (sQ b7 (o8+Int.toNat x7*13)) 23 (sQ b7 ((o8+Int.toNat x7*13)+11)) 24 (sI i10)) 25 (sI x1) 26 (sB (decide (i10≤x1))) 27 (sB true) 28 (sI x6) 29 (sB (decide (x6<0))) 30 (sB false) 31 (sP x0) 32 (sQ b11 o12)) 33 (sQ b11 (o12+2)) 34 (sS a14 n15 c16) 35 (sI x7) 36 (sQ b17 (o18+Int.toNat x7*13)) 37 (sQ b17 ((o18+Int.toNat x7*13)+11)) 38 (sI i20) 39 (sP x0) 40 (sQ b21 o22)) 41 (sQ b21 (o22+2)) 42 (sS a24 n25 c26) 43 (sI x6) 44 (sQ b27 (o28+Int.toNat x6*13)) 45 (sQ b27 ((o28+Int.toNat x6*13)+11)) 46 (sI i30) 47 (sB (decide (i20<i30))) 48 (sB (decide (i20<i30)))) 49 (sB (decide (i20<i30)))) V0 hp)))) (K (upd (w8 (w8 (w8 (w8 E 17 (sP x0) 18 (sQ b1 o2) 19 (sQ b1 (o2+2)) 20 (sS a4 n5 c6) 21 (sI x7) 22 (sQ b7 (o8+Int.toNat x7*13)) 23 (sQ b7 ((o8+Int.toNat x7*13)+11)) 24 (sI i10)) 25 (sI x1) 26 (sB (decide (i10≤x1))) 27 (sB false) 28 sU 29 sU 30 sU 31 sU 32 sU) 33 sU 34 sU 35 sU 36 sU 37 sU 38 sU 39 sU 40 sU) 41 sU 42 sU 43 sU 44 sU 45 sU 46 sU 47 sU 48 sU) 49 (sB false)) V0 hp))):=by subst h; kernel_rfl
def F54_l5 (x0:OA) (x1:Int) (x5a:OA) (x5n x5c:Nat) (I2:(OA × Nat × Nat)→HP→Prop) (K:Kh) (I5:(Int × Int)→HP→Prop) (x6 x7:Int) (hp:HP):Prop:=
  (ptrN x0 fun b10 o11=>ldV (HP.cell hp b10 (o11+2)) fun v12=>slcV v12 fun a13 n14 c15=>ite2 (decide (x7<n14)) (ptrN x0 fun b16 o17=>ldV (HP.cell hp b16 (o17+2)) fun v18=>slcV v18 fun a19 n20 c21=>(0≤x7)∧(x7<n20)∧(ptrN a19 fun b22 o23=>ldV (HP.cell hp b22 ((o23+Int.toNat x7*13)+11)) fun v24=>intV v24 .i64 fun i25=>ite2 (decide (i25≤x1)) (ite2 (decide (x6<0)) (F54_j7 x0 x1 x5a x5n x5c x6 x7 true hp I2 I5 K) (ptrN x0 fun b26 o27=>ldV (HP.cell hp b26 (o27+2)) fun v28=>slcV v28 fun a29 n30 c31=>(0≤x7)∧(x7<n30)∧(ptrN a29 fun b32 o33=>ldV (HP.cell hp b32 ((o33+Int.toNat x7*13)+11)) fun v34=>intV v34 .i64 fun i35=>ptrN x0 fun b36 o37=>ldV (HP.cell hp b36 (o37+2)) fun v38=>slcV v38 fun a39 n40 c41=>(0≤x6)∧(x6<n40)∧(ptrN a39 fun b42 o43=>ldV (HP.cell hp b42 ((o43+Int.toNat x6*13)+11)) fun v44=>intV v44 .i64 fun i45=>F54_j7 x0 x1 x5a x5n x5c x6 x7 (decide (i35<i45)) hp I2 I5 K)))) (F54_j7 x0 x1 x5a x5n x5c x6 x7 false hp I2 I5 K))) (F54_j3 x0 x1 x5a x5n x5c x6 hp I2 K))
def F54_j4 (x0:OA) (x1:Int) (x5a:OA) (x5n x5c:Nat) (x6 x7:Int) (hp:HP) (I2:(OA × Nat × Nat)→HP→Prop) (K:Kh):Prop:=
  (LoopP (σ:=Int × Int) (fun I s hp=>F54_l5 x0 x1 x5a x5n x5c I2 K I s.1 s.2 hp) (x6,x7) hp)
theorem F54_r9:R54 291 1 e V0 hp K=
 K (upd e 7 (sI 0)) V0 hp:= by kernel_rfl
def F54_l2 (x0:OA) (x1:Int) (K:Kh) (I2:(OA × Nat × Nat)→HP→Prop) (x5a:OA) (x5n x5c:Nat) (hp:HP):Prop:=
  (F54_j4 x0 x1 x5a x5n x5c (-1) 0 hp I2 K)
def F54_j1 (x0:OA) (x1:Int) (x5a:OA) (x5n x5c:Nat) (hp:HP) (K:Kh):Prop:=
  (LoopP (σ:=OA × Nat × Nat) (fun I s hp=>F54_l2 x0 x1  K I s.1 s.2.1 s.2.2 hp) (x5a,x5n,x5c) hp)
theorem F54_r10:R54 5 1 e V0 hp K=
 K (upd e 5 (sS none 0 0)) V0 hp:= by kernel_rfl
def F54 (x0:OA) (x1:Int) (hp:HP) (K:Kh):Prop:=
  (F54_j1 x0 x1 none 0 0 hp  K)
noncomputable abbrev o54 (k n:Nat):Code:=.region k (opsAt Tryd.f54 (pth n)) false
noncomputable def F54_code:Code:=(.seq (o54 0 2) (.seq (o54 1 5) (.block 0 (.loop (.block 1 (.seq (o54 2 67) (.seq (.seq (o54 3 291) (.block 2 (.loop (.seq (.seq (o54 4 4259) (.cond (.tmp 14) .skip (.exit 2))) (.seq (.block 3 (.seq (.region 6 (opsAt Tryd.f54 (pth 17571)) true) (.cond (.tmp 49) (o54 7 42147) .skip))) (o54 5 7331)))))) (.seq (.seq (o54 8 611) (.cond (.tmp 52) (.seq (o54 9 2403) .ret) .skip)) (o54 10 483)))))))))
theorem F54_body:Tryd.f54.body=some F54_code:=by kernel_rfl
theorem F54_ok (x0:OA) (x1:Int) (hp:HP) (K:Kh) (h:F54 x0 x1 hp K):CF Tryd.prog 54 [(.pointer x0),(.int .i64 x1)] hp K:=by
 refine .inl ⟨by kernel_rfl,AC.intro (N:=60) Tryd.func54 F54_body rfl (Nat.le_of_ble_eq_true rfl) ?_⟩
 unfold F54 at h
 refine Ar F54_r0 ?_ (r2 0 1 Rn) (z2 Sn) Sn
 refine As (fun env pv hp=>∃ x0 x1 x5a x5n x5c,Sub (w3 E0 5 (sS x5a x5n x5c) 1 (sI x1) 0 (sP x0)) env∧Sub V0 pv∧F54_j1 x0 x1 x5a x5n x5c hp  K) ?_ ?_
 ·refine Ag F54_r10 ?_ (r2 0 1 Rn) (z2 Sn) Sn
  exact ⟨_,_,_,_,_,(z3 Sn),Sn,h⟩
 ·rintro env pv hp ⟨x0,x1,x5a,x5n,x5c,he,hv,h⟩
  refine Ae ?_ (r3 0 1 5 Rn) he hv
  unfold F54_j1 at h
  refine AWP.block (AWP.loop (σ:=OA × Nat × Nat) _ (fun s=>w3 E0 5 (sV (.slice s.1 s.2.1 s.2.2)) 1 (sI x1) 0 (sP x0)) (fun s=>V0) (x5a,x5n,x5c) h (fun s=>r3 0 1 5 Rn) (z3 Sn) Sn ?_)
  intro I2 s hp h
  obtain ⟨x5a,x5n,x5c⟩:=s
  replace h:F54_l2 x0 x1  K I2 x5a x5n x5c hp:=h
  unfold F54_l2 at h
  refine AWP.block (Ar F54_r1 ?_ (r3 0 1 5 Rn) (z3 Sn) Sn)
  refine As (fun env pv hp=>∃ x5a x5n x5c x6,Sub (w4 E0 6 (sI x6) 5 (sS x5a x5n x5c) 1 (sI x1) 0 (sP x0)) env∧Sub V0 pv∧F54_j3 x0 x1 x5a x5n x5c x6 hp I2 K) ?_ ?_
  ·refine As (fun env pv hp=>∃ x5a x5n x5c x6 x7,Sub (w5 E0 7 (sI x7) 6 (sI x6) 5 (sS x5a x5n x5c) 1 (sI x1) 0 (sP x0)) env∧Sub V0 pv∧F54_j4 x0 x1 x5a x5n x5c x6 x7 hp I2 K) ?_ ?_
   ·refine Ag F54_r9 ?_ (r4 0 1 5 6 Rn) (z4 Sn) Sn
    exact ⟨_,_,_,_,_,(z5 Sn),Sn,h⟩
   ·rintro env pv hp ⟨x5a,x5n,x5c,x6,x7,he,hv,h⟩
    refine Ae ?_ (r5 0 1 5 6 7 Rn) he hv
    unfold F54_j4 at h
    refine AWP.block (AWP.loop (σ:=Int × Int) _ (fun s=>w5 E0 7 (sI (s.2)) 6 (sI (s.1)) 5 (sS x5a x5n x5c) 1 (sI x1) 0 (sP x0)) (fun s=>V0) (x6,x7) h (fun s=>r5 0 1 5 6 7 Rn) (z5 Sn) Sn ?_)
    intro I5 s hp h
    obtain ⟨x6,x7⟩:=s
    replace h:F54_l5 x0 x1 x5a x5n x5c I2 K I5 x6 x7 hp:=h
    unfold F54_l5 at h
    refine Aq (Ar F54_r5 ?_ (r5 0 7 1 5 6 Rn) (z5 Sn) Sn)
    refine mN h fun b10 o11 h=>mV h fun v12 h=>mS h fun a13 n14 c15 h=>?_
    refine Ac h rfl (fun h=>?_) (fun h=>?_)
    ·refine AWP.skip (As (fun env pv hp=>∃ x6 x7,Sub (w5 E0 7 (sI x7) 6 (sI x6) 5 (sS x5a x5n x5c) 1 (sI x1) 0 (sP x0)) env∧Sub V0 pv∧F54_j6 x0 x1 x5a x5n x5c x6 x7 hp I2 I5 K) ?_ ?_)
     ·refine AWP.block (As (fun env pv hp=>∃ x6 x7 x49,Sub (w6 E0 49 (sB x49) 7 (sI x7) 6 (sI x6) 5 (sS x5a x5n x5c) 1 (sI x1) 0 (sP x0)) env∧Sub V0 pv∧F54_j7 x0 x1 x5a x5n x5c x6 x7 x49 hp I2 I5 K) ?_ ?_)
      ·refine AWP.rgnD (by kernel_rfl) (by kernel_rfl) (F54_r8 rfl) ?_ (r5 0 1 6 7 5 Rn) (z5 Sn) Sn
       refine mN h (fun b16 o17 h=>mV h (fun v18 h=>mS h (fun a19 n20 c21 h=>⟨h.1,h.2.1,mN h.2.2 fun b22 o23 h=>mV h fun v24 h=>mI h fun i25 h=>?_⟩)))
       refine mt h (fun h=>?_) (fun h=>?_)
       ·refine mt h (fun h=>?_) (fun h=>?_)
        ·exact ⟨_,_,_,(z6 Sn),Sn,h⟩
        ·refine mN h (fun b26 o27 h=>mV h (fun v28 h=>mS h (fun a29 n30 c31 h=>⟨h.1,h.2.1,mN h.2.2 (fun b32 o33 h=>mV h (fun v34 h=>mI h (fun i35 h=>mN h (fun b36 o37 h=>mV h (fun v38 h=>mS h (fun a39 n40 c41 h=>⟨h.1,h.2.1,mN h.2.2 fun b42 o43 h=>mV h fun v44 h=>mI h fun i45 h=>?_⟩))))))⟩)))
         exact ⟨_,_,_,(z6 Sn),Sn,h⟩
       ·exact ⟨_,_,_,(z6 Sn),Sn,h⟩
      ·rintro env pv hp ⟨x6,x7,x49,he,hv,h⟩
       refine Ae ?_ (r6 0 1 5 6 7 49 Rn) he hv
       unfold F54_j7 at h
       refine Ac h rfl (fun h=>?_) (fun h=>?_)
       ·refine Ag F54_r7 ?_ (r4 7 0 1 5 Rn) (z4 Sn) Sn
        exact ⟨_,_,(z5 Sn),Sn,h⟩
       ·refine AWP.skip ?_
        exact ⟨_,_,(z5 Sn),Sn,h⟩
     ·rintro env pv hp ⟨x6,x7,he,hv,h⟩
      refine Ae ?_ (r5 0 1 5 6 7 Rn) he hv
      unfold F54_j6 at h
      refine Ag F54_r6 ?_ (r5 7 0 1 5 6 Rn) (z5 Sn) Sn
      exact ⟨_,(z5 Sn),Sn,h⟩
    ·refine AWP.exit ?_
     exact ⟨_,_,_,_,(z4 Sn),Sn,h⟩
  ·rintro env pv hp ⟨x5a,x5n,x5c,x6,he,hv,h⟩
   refine Ae ?_ (r4 0 1 5 6 Rn) he hv
   unfold F54_j3 at h
   refine Aq (Ar F54_r2 ?_ (r4 6 0 1 5 Rn) (z4 Sn) Sn)
   refine Ac h rfl (fun h=>?_) (fun h=>?_)
   ·refine Ar F54_r3 ?_ (r1 5 Rn) (z1 Sn) Sn
    refine AWP.ret ?_
    exact h
   ·refine AWP.skip (Ag (F54_r4 rfl) ?_ (r4 0 5 6 1 Rn) (z4 Sn) Sn)
    refine mC h fun u1 h2 h=>mA h fun l3 h=>mf h fun h=>?_
    refine fun b4 hb_b_4=>?_
    replace h:=h b4 hb_b_4
    refine mO h fun u5 h6 h=>mS h fun a7 n8 c9 h=>?_
    exact ⟨_,(z3 Sn),Sn,h⟩
end
end Go.Proofs
