/- The heaplet logic, part 37: parts of slices, structs that are built, numbers and texts, by the evaluator. -/
import Derived.Test.YtobechphfppffaaGreatDoorHlEvC
set_option linter.unusedVariables false
set_option linter.unusedSimpArgs false
namespace Go.HL
open Go
set_option linter.unusedVariables false
set_option linter.unusedSectionVars false
section
variable {P:Program} {m:Nm} {x:RV} {v:Value}
theorem intOpt_sound {a:Option RV} {b:Option Value} {l:Option Nat} (h:intOpt a=some l) (hv:OVR m a b):(l=none∧b=none)∨∃ k n,l=some n∧b=some (.int k (n:Nat)):=by
  unfold intOpt at h
  split at h
  · cases h
    cases b with
    | none=>exact .inl ⟨rfl,rfl⟩
    | some _=>exact hv.elim
  · rename_i k n
    cases h
    cases b with
    | none=>exact hv.elim
    | some b=>
      have:b=_:=VR.vv hv
      exact .inr ⟨k,n,rfl,by rw [this]; rfl⟩
  · cases h
theorem strCut_eq (s:ByteArray) (l h:Nat):strCut s l h=s.extract l h:=by
  apply bytes_ext
  unfold strCut
  rw [ltake_eq,ldrop_eq,ByteArray.data_extract,Array.toList_extract,List.extract_eq_take_drop]
theorem sub0_off (b off c l z:Nat):sub0 (some ⟨b,off,none⟩) c l z=some ⟨b,offC c l off z,none⟩:=by
  unfold sub0 offC
  by_cases h:c=l
  · subst h; simp
  · have:Nat.beq c l=false:=by
      cases e:Nat.beq c l with
      | false=>rfl
      | true=>exact absurd (Nat.eq_of_beq_eq_true e) h
    rw [if_neg h,this,Option.map_some,add_eq]
theorem sliceE_sound {t:TypeId} {lo hi mx:Option RV} {lo' hi' mx':Option Value} {y:RV} (h:sliceE P t x lo hi mx=some y) (hv:VR m x v) (h1:OVR m lo lo') (h2:OVR m hi hi') (h3:OVR m mx mx')
    {c:Value→Prop} (hc:∀ w,VR m y w→c w):sliceSF P t v lo' hi' mx' c:=by
  unfold sliceE at h
  simp only [Option.bind_eq_some_iff] at h
  obtain ⟨l,e1,u,e2,w,e3,h⟩:=h
  have h1:=intOpt_sound e1 h1
  have h2:=intOpt_sound e2 h2
  have h3:=intOpt_sound e3 h3
  clear e1 e2 e3
  unfold sliceSF
  split at h
  ·
    rename_i s hu
    have:=hv.vv
    subst this
    rw [hu]
    rw [guardE_some] at h
    obtain ⟨hb,hy⟩:=h
    simp only [Bool.and_eq_true,Nat.ble_eq,strLen_eq] at hb
    rcases h3 with ⟨_,rfl⟩ | ⟨_,_,e,_⟩
    · rcases h1 with ⟨rfl,rfl⟩ | ⟨k1,n1,rfl,rfl⟩ <;> rcases h2 with ⟨rfl,rfl⟩ | ⟨k2,n2,rfl,rfl⟩ <;>
        simp only [Option.getD_none,Option.getD_some,strLen_eq] at hb hy <;> cases hy <;> (try simp only [strCut_eq] at hc)
      · exact hc _ (VR.rfl' _)
      · exact ⟨by omega,by omega,hc _ (VR.rfl' _)⟩
      · exact ⟨by omega,by omega,hc _ (VR.rfl' _)⟩
      · exact ⟨by omega,by omega,by omega,hc _ (VR.rfl' _)⟩
    · cases e
  ·
    rename_i e i off len cap hu
    rw [hu]
    simp only [Option.bind_eq_some_iff] at h
    obtain ⟨z,hz,h⟩:=h
    obtain ⟨b,hb,hle,rfl⟩:=hv.s
    rcases h3 with ⟨_,rfl⟩ | ⟨_,_,e,_⟩
    · split at h
      · rename_i cn
        simp only [capOf] at hle
        unfold cutK at h
        rcases h1 with ⟨rfl,rfl⟩ | ⟨k1,n1,rfl,rfl⟩ <;> rcases h2 with ⟨rfl,rfl⟩ | ⟨k2,n2,rfl,rfl⟩ <;> simp only [guardE_some,Bool.and_eq_true,Nat.ble_eq] at h
        · cases h
          exact sizeT_in hz (hc _ (VR.mk_s hb hle))
        · obtain ⟨h,hy⟩:=h
          cases hy
          exact ⟨by omega,by simp only [capOf]; omega,sizeT_in hz (hc _ (VR.mk_s hb h))⟩
        · obtain ⟨h,hy⟩:=h
          cases hy
          refine ⟨by omega,by omega,by simp only [capOf]; omega,sizeT_in hz ?_⟩
          simp only [capOf,Int.toNat_natCast,sub0_off]
          exact hc _ (VR.mk_s (c:=.kn _) hb (by simp only [capOf]; omega))
        · obtain ⟨h,hy⟩:=h
          cases hy
          refine ⟨by omega,by omega,by simp only [capOf]; omega,sizeT_in hz ?_⟩
          simp only [capOf,Int.toNat_natCast,sub0_off]
          exact hc _ (VR.mk_s (c:=.kn _) hb (by simp only [capOf]; omega))
      · rename_i k
        simp only [capOf] at hle
        unfold cutU at h
        rcases h1 with ⟨rfl,rfl⟩ | ⟨k1,n1,rfl,rfl⟩ <;> rcases h2 with ⟨rfl,rfl⟩ | ⟨k2,n2,rfl,rfl⟩ <;> simp only [guardE_some,Bool.and_eq_true,Nat.ble_eq] at h
        · cases h
          exact sizeT_in hz (hc _ (VR.mk_s hb hle))
        · obtain ⟨h,hy⟩:=h
          cases hy
          exact ⟨by omega,by simp only [capOf]; omega,sizeT_in hz (hc _ (VR.mk_s hb (by simp only [capOf]; omega)))⟩
        · obtain ⟨h,hy⟩:=h
          have h:=blt_lt h
          cases hy
          refine ⟨by omega,by omega,by simp only [capOf]; omega,sizeT_in hz ?_⟩
          simp only [capOf,Int.toNat_natCast,sub0_off]
          have e1:offC (b.2-k) n1 off z=off+n1*z:=by
            unfold offC
            have:Nat.beq (b.2-k) n1=false:=by
              cases e:Nat.beq (b.2-k) n1 with
              | false=>rfl
              | true=>have:=Nat.eq_of_beq_eq_true e; omega
            rw [this]
          have e2:b.2-k-n1=capOf b.2 (.un (k+n1)):=by simp only [capOf]; omega
          rw [e1,e2]
          exact hc _ (VR.mk_s hb (by simp only [capOf]; omega))
        · obtain ⟨h0,h,hy⟩:=h
          have h0:=blt_lt h0
          cases hy
          refine ⟨by omega,by omega,by simp only [capOf]; omega,sizeT_in hz ?_⟩
          simp only [capOf,Int.toNat_natCast,sub0_off]
          have e1:offC (b.2-k) n1 off z=off+n1*z:=by
            unfold offC
            have:Nat.beq (b.2-k) n1=false:=by
              cases e:Nat.beq (b.2-k) n1 with
              | false=>rfl
              | true=>have:=Nat.eq_of_beq_eq_true e; omega
            rw [this]
          have e2:b.2-k-n1=capOf b.2 (.un (k+n1)):=by simp only [capOf]; omega
          rw [e1,e2]
          exact hc _ (VR.mk_s hb (by simp only [capOf]; omega))
    · cases e
  ·
    rename_i e i off len cap xm hu
    rw [hu]
    simp only [Option.bind_eq_some_iff] at h
    obtain ⟨z,hz,h⟩:=h
    obtain ⟨b,hb,hle,rfl⟩:=hv.s
    rcases h3 with ⟨e,_⟩ | ⟨k3,n3,e,rfl⟩
    · cases e
    · cases e
      split at h
      · rename_i hh
        rcases h2 with ⟨e,_⟩ | ⟨k2,n2,e,rfl⟩
        · cases e
        · cases e
          have key:∃ cn,cn≤capOf b.2 cap∧cutM i off cn z l hh xm=some y:=by
            split at h
            · exact ⟨_,Nat.le_refl _,h⟩
            · exact ⟨_,hle,h⟩
          obtain ⟨cn,hcn,h⟩:=key
          unfold cutM at h
          rcases h1 with ⟨rfl,rfl⟩ | ⟨k1,n1,rfl,rfl⟩ <;> simp only [guardE_some,Bool.and_eq_true,Nat.ble_eq] at h
          · obtain ⟨h,hy⟩:=h
            cases hy
            refine ⟨by omega,by omega,by omega,sizeT_in hz ?_⟩
            simp only [Int.toNat_natCast]
            exact hc _ (VR.mk_s (c:=.kn _) hb (by simp only [capOf]; omega))
          · obtain ⟨h,hy⟩:=h
            cases hy
            refine ⟨by omega,by omega,by omega,by omega,sizeT_in hz ?_⟩
            simp only [Int.toNat_natCast,sub0_off]
            exact hc _ (VR.mk_s (c:=.kn _) hb (by simp only [capOf]; omega))
      · cases h
  ·
    rename_i e hu
    have:=hv.vv
    subst this
    rw [hu]
    simp only [Option.bind_eq_some_iff] at h
    obtain ⟨z,hz,h⟩:=h
    rw [guardE_some] at h
    obtain ⟨hb,hy⟩:=h
    cases hy
    simp only [Bool.and_eq_true] at hb
    have b1:=Nat.eq_of_beq_eq_true hb.1
    have b2:=Nat.eq_of_beq_eq_true hb.2
    rcases h3 with ⟨_,rfl⟩ | ⟨_,_,e,_⟩
    · rcases h1 with ⟨rfl,rfl⟩ | ⟨k1,n1,rfl,rfl⟩ <;> rcases h2 with ⟨rfl,rfl⟩ | ⟨k2,n2,rfl,rfl⟩ <;> simp only [Option.getD_none,Option.getD_some] at b1 b2 <;> (try subst b1) <;> (try subst b2)
      · exact sizeT_in hz (hc _ (VR.rfl' _))
      · exact ⟨by omega,by omega,sizeT_in hz (hc _ (VR.rfl' _))⟩
      · exact ⟨by omega,by omega,by omega,sizeT_in hz (hc _ (VR.rfl' _))⟩
      · exact ⟨by omega,by omega,by omega,sizeT_in hz (hc _ (VR.rfl' _))⟩
    · cases e
  · rename_i e hu
    have:=hv.vv
    subst this
    rw [hu]
    simp only [Option.bind_eq_some_iff] at h
    obtain ⟨z,hz,h⟩:=h
    rw [guardE_some] at h
    obtain ⟨hb,hy⟩:=h
    cases hy
    simp only [Bool.and_eq_true] at hb
    have b1:=Nat.eq_of_beq_eq_true hb.1
    have b2:=hb.2
    rcases h3 with ⟨e,_⟩ | ⟨k3,n3,e,rfl⟩
    · cases e
    · cases e
      split at b2
      · rcases h2 with ⟨e,_⟩ | ⟨k2,n2,e,rfl⟩
        · cases e
        · cases e
          rcases h1 with ⟨rfl,rfl⟩ | ⟨k1,n1,rfl,rfl⟩ <;> simp only [Option.getD_none,Option.getD_some] at b1 <;> (try subst b1)
          · exact ⟨by omega,by omega,by omega,sizeT_in hz (hc _ (VR.rfl' _))⟩
          · exact ⟨by omega,by omega,by omega,by omega,sizeT_in hz (hc _ (VR.rfl' _))⟩
      · cases b2
  ·
    rename_i n e i off hu
    rw [hu]
    simp only [Option.bind_eq_some_iff] at h
    obtain ⟨z,hz,h⟩:=h
    obtain ⟨b,hb,rfl⟩:=hv.p
    rcases h3 with ⟨_,rfl⟩ | ⟨_,_,e,_⟩
    · unfold cutK at h
      rcases h1 with ⟨rfl,rfl⟩ | ⟨k1,n1,rfl,rfl⟩ <;> rcases h2 with ⟨rfl,rfl⟩ | ⟨k2,n2,rfl,rfl⟩ <;> simp only [guardE_some,Bool.and_eq_true,Nat.ble_eq] at h
      · cases h
        show ptrN _ _
        rw [ptrN_some]
        exact sizeT_in hz (hc _ (VR.mk_s (c:=.kn n) hb (Nat.le_refl _)))
      · obtain ⟨h,hy⟩:=h
        cases hy
        refine ⟨by omega,by omega,?_⟩
        rw [ptrN_some]
        exact sizeT_in hz (hc _ (VR.mk_s (c:=.kn n) hb h))
      · obtain ⟨h,hy⟩:=h
        cases hy
        refine ⟨by omega,by omega,?_⟩
        rw [ptrN_some]
        refine sizeT_in hz ?_
        simp only [Int.toNat_natCast,sub0_off]
        exact hc _ (VR.mk_s (c:=.kn _) hb (by simp only [capOf]; omega))
      · obtain ⟨h,hy⟩:=h
        cases hy
        refine ⟨by omega,by omega,by omega,?_⟩
        rw [ptrN_some]
        refine sizeT_in hz ?_
        simp only [Int.toNat_natCast,sub0_off]
        exact hc _ (VR.mk_s (c:=.kn _) hb (by simp only [capOf]; omega))
    · cases e
  · cases h
/-! What is built. -/
theorem cellsV_in {x:RV} {v:Value} (hv:VR m x v) {z:Nat} (h1:llen (cellsE x)=z) (h2:z=1∨(aggE x).isSome=true) {c:List Value→Prop} (hc:∀ us,VL m (cellsE x) us→c us):cellsV v z c:=by
  have hcl:=cellsE_VL hv
  have hlen:=hcl.len
  rw [llen_eq] at h1
  unfold cellsV
  cases v with
  | agg cs=>
    obtain ⟨cs⟩:=cs
    have:cs.length=z:=by
      have:(Value.cells (.agg ⟨cs⟩)).toList=cs:=rfl
      rw [this] at hlen; omega
    simp only [if_pos this]
    exact hc _ hcl
  | _=>
    have hz:z=1:=by
      rcases h2 with h2 | h2
      · exact h2
      · obtain ⟨l,hl⟩:=Option.isSome_iff_exists.1 h2
        obtain ⟨vs,e,_⟩:=aggE_VR hl hv
        cases e
    simp only [if_pos hz]
    exact hc _ hcl
theorem fillE_sound {place:Nat→Option (Nat × Nat)} {n:Nat}:∀ {parts:List (Nat × RV)} {ps:List (Nat × Value)} {cells:List RV} {vs:List Value} {cs:List RV} {c:List Value→Prop},fillE place n cells parts=some cs→F2 (PaR m) parts ps →
    VL m cells vs→vs.length=n→(∀ us,VL m cs us→c us)→fillF place n vs ps c
  | [],ps,cells,vs,cs,c,h,hp,hv,hn,hc=>by
    cases hp
    cases h
    exact hc _ hv
  | (i,x)::parts,ps,cells,vs,cs,c,h,hp,hv,hn,hc=>by
    cases hp with
    | cons h1 h2=>
      rename_i y ps
      obtain ⟨i',v⟩:=y
      obtain ⟨rfl,hx⟩:=h1
      simp only [fillE] at h
      simp only [fillF]
      split at h
      · cases h
      · rename_i off size hpl
        split at h
        · rename_i hb
          simp only [Bool.and_eq_true,Bool.or_eq_true,Nat.ble_eq] at hb
          obtain ⟨⟨b1,b2⟩,b3⟩:=hb
          have b1:=Nat.eq_of_beq_eq_true b1
          simp only [hpl]
          refine cellsV_in hx b1 (b2.imp Nat.eq_of_beq_eq_true (fun h=>h)) fun us hus=>?_
          rw [if_pos b3]
          refine fillE_sound h h2 (spliceE_VL hv hus ?_) (by rw [length_splice,hn]) hc
          rw [llen_eq cells,hv.len,hn]; omega
        · cases h
theorem buildE_sound {t:TypeId} {parts:List (Nat × RV)} {ps:List (Nat × Value)} {y:RV} (h:buildE P t parts=some y) (hp:F2 (PaR m) parts ps) {c:Value→Prop} (hc:∀ w,VR m y w→c w):buildF P t ps c:=by
  unfold buildE at h
  unfold buildF
  split at h
  · rename_i fs hu
    rw [hu]
    rw [guardE_some] at h
    obtain ⟨hf,h⟩:=h
    simp only [Option.bind_eq_some_iff] at h
    obtain ⟨z,hz,cs,hcs,h⟩:=h
    cases h
    simp only [if_pos hf]
    rw [llen_eq] at hcs
    exact zeroT_in hz (fillE_sound hcs hp (VL.vals z) rfl fun us hus=>hc _ (mkAgg_VR hus))
  · rename_i n e hu
    rw [hu]
    simp only [Option.bind_eq_some_iff] at h
    obtain ⟨k,hk,z,hz,cs,hcs,h⟩:=h
    cases h
    rw [llen_eq] at hcs
    exact sizeT_in hk (zeroT_in hz (fillE_sound hcs hp (VL.vals z) rfl fun us hus=>hc _ (mkAgg_VR hus)))
  · cases h
end
/-! Numbers and texts. -/
theorem beq_ff {a b:Nat} (h:a≠b):Nat.beq a b=false:=by
  cases e:Nat.beq a b with
  | false=>rfl
  | true=>exact absurd (Nat.eq_of_beq_eq_true e) h
theorem ieq_eq (a b:Int):ieq a b=(a==b):=by
  unfold ieq
  cases a with
  | ofNat a=>
    cases b with
    | ofNat b=>
      by_cases h:a=b
      · subst h; simp
      · simp only [beq_ff h]
        symm
        rw [beq_eq_false_iff_ne]
        exact fun e=>h (Int.ofNat.inj e)
    | negSucc b=>rfl
  | negSucc a=>
    cases b with
    | ofNat b=>rfl
    | negSucc b=>
      by_cases h:a=b
      · subst h; simp
      · simp only [beq_ff h]
        symm
        rw [beq_eq_false_iff_ne]
        exact fun e=>h (Int.negSucc.inj e)
theorem blt_eq (a b:Nat):Nat.blt a b=decide (a<b):=by
  rw [Bool.eq_iff_iff,decide_eq_true_iff]
  exact ⟨blt_lt,fun h=>Nat.ble_eq_true_of_le (show a+1≤b from h)⟩
theorem ltE_eq (a b:Int):ltE a b=decide (a<b):=by
  unfold ltE
  cases a with
  | ofNat a=>
    cases b with
    | ofNat b=>
      simp only [Int.ofNat_eq_natCast,blt_eq]
      rw [Bool.eq_iff_iff,decide_eq_true_iff,decide_eq_true_iff]; omega
    | negSucc b=>
      simp only [Int.ofNat_eq_natCast,Int.negSucc_eq]
      symm; rw [decide_eq_false_iff_not]; omega
  | negSucc a=>
    cases b with
    | ofNat b=>
      simp only [Int.ofNat_eq_natCast,Int.negSucc_eq]
      symm; rw [decide_eq_true_iff]; omega
    | negSucc b=>
      simp only [Int.negSucc_eq,blt_eq]
      rw [Bool.eq_iff_iff,decide_eq_true_iff,decide_eq_true_iff]; omega
theorem wrap_small (k:IntKind) (n:Nat) (h:n<klim k):k.wrap (.ofNat n)=.ofNat n:=by
  simp only [Int.ofNat_eq_natCast]
  cases k <;> simp only [klim] at h <;> simp [IntKind.wrap,IntKind.bits,IntKind.signed] <;> omega
theorem wrapE_eq (k:IntKind) (z:Int):wrapE k z=k.wrap z:=by
  unfold wrapE
  split
  · split
    · rename_i h
      exact (wrap_small k _ (blt_lt h)).symm
    · rfl
  · rfl
theorem bytes_eq:∀ (a b:List UInt8),strEq.go a b=true↔a=b
  | [],[]=>by simp [strEq.go]
  | [],_::_=>by simp [strEq.go]
  | _::_,[]=>by simp [strEq.go]
  | x::xs,y::ys=>by
    simp only [strEq.go]
    by_cases h:x=y
    · subst h
      simp only [Nat.beq_refl,List.cons.injEq,true_and]
      exact bytes_eq xs ys
    · have:x.toNat≠y.toNat:=fun e=>h (UInt8.toNat_inj.1 e)
      simp [beq_ff this,h]
theorem strEq_eq (a b:ByteArray):strEq a b=(a.toList==b.toList):=by
  rw [toList_bytes,toList_bytes,Bool.eq_iff_iff,beq_iff_eq]
  exact bytes_eq _ _
theorem strEq_iff (a b:ByteArray):strEq a b=true↔a=b:=by
  rw [strEq_eq,str_eq,decide_eq_true_iff]
theorem strApp_eq (a b:ByteArray):strApp a b=a++b:=by
  apply bytes_ext
  unfold strApp
  rw [lapp_eq,ByteArray.data_append,Array.toList_append]
theorem leafEq_true:∀ {a b:List Value},leafEq a b=true→a=b
  | [],[],_=>rfl
  | [],_::_,h=>by simp [leafEq] at h
  | x::_,[],h=>by cases x <;> simp [leafEq] at h
  | x::xs,y::ys,h=>by
    cases x with
    | int k a=>
      cases y with
      | int k' b=>
        simp only [leafEq] at h
        split at h
        · rename_i h1
          split at h
          · rename_i h2
            rw [ieq_eq,beq_iff_eq] at h2
            rw [kcode_inj (Nat.eq_of_beq_eq_true h1),h2,leafEq_true h]
          · cases h
        · cases h
      | _=>simp [leafEq] at h
    | bool a=>
      cases y with
      | bool b=>
        simp only [leafEq] at h
        split at h
        · rename_i h1
          rw [decide_eq_true_iff.1 h1,leafEq_true h]
        · cases h
      | _=>simp [leafEq] at h
    | string a=>
      cases y with
      | string b=>
        simp only [leafEq] at h
        split at h
        · rename_i h1
          rw [(strEq_iff a b).1 h1,leafEq_true h]
        · cases h
      | _=>simp [leafEq] at h
    | _=>cases y <;> simp [leafEq] at h
theorem leafEq_refl:∀ {a:List Value},a.all leafB=true→leafEq a a=true
  | [],_=>rfl
  | x::xs,h=>by
    rw [List.all_cons,Bool.and_eq_true] at h
    have ih:=leafEq_refl h.2
    cases x <;> first
      | (cases h.1; done)
      | (simp [leafEq,ih,ieq_eq,(strEq_iff _ _).2]; done)
theorem leafEq_iff {a b:List Value} (h:a.all leafB=true):leafEq a b=true↔a=b:=⟨leafEq_true,fun e=>by subst e; exact leafEq_refl h⟩
section
variable {P:Program} {m:Nm} {op:BinOp} {t:TypeId} {x y:Operand}
def BinOk (P:Program) (m:Nm) (op:BinOp) (t:TypeId) (x y:Operand) (r:RV) (a b:Value):Prop:=∀ c:Value→Prop,(∀ w,VR m r w→c w)→binF P op t x y a b c
theorem BinOk.gen {r:RV} {a b:Value} (h:genBin P op t x y a b=some r) (hd:∀ c,binF P op t x y a b c=semV P (do eqGuard op t x y a b; binOp op t a b) c):BinOk P m op t x y r a b:=fun c hc=>by
  rw [hd]
  obtain ⟨w,rfl,hw⟩:=semVE_some h
  exact semE_semV hw (hc _ (VR.rfl' _))
theorem bv_some {b:Bool} {r:RV} (h:bv b=some r):r=.v (.bool b):=(Option.some.inj h).symm
theorem BinOk.nilPtr {r:RV} {p:Option Addr} (h:nilBin P op t x y (.pointer p) (.pointer none) (ptrNil P t) p.isNone=some r):BinOk P m op t x y r (.pointer p) (.pointer none):=by
  unfold nilBin at h
  have key:ptrNil P t=true→∃ e,P.underlying t=some (.pointer e):=fun h=>by
    unfold ptrNil at h; split at h
    · rename_i e he; exact ⟨e,he⟩
    · cases h
  split at h
  · rw [guardE_some] at h
    obtain ⟨e,he⟩:=key h.1
    have:=bv_some h.2; subst this
    exact fun c hc=>by simp only [binF,he]; exact hc _ (VR.rfl' _)
  · rw [guardE_some] at h
    obtain ⟨e,he⟩:=key h.1
    have:=bv_some h.2; subst this
    exact fun c hc=>by simp only [binF,he]; exact hc _ (VR.rfl' _)
  · rename_i h1 h2
    refine BinOk.gen h fun c=>?_
    cases op <;> first | exact absurd rfl h1 | exact absurd rfl h2 | rfl
theorem BinOk.nilMap {r:RV} {p:Option Nat} (h:nilBin P op t x y (.map p) (.map none) (mapNil P t) p.isNone=some r):BinOk P m op t x y r (.map p) (.map none):=by
  unfold nilBin at h
  have key:mapNil P t=true→∃ k e,P.underlying t=some (.map k e):=fun h=>by
    unfold mapNil at h; split at h
    · rename_i k e he; exact ⟨k,e,he⟩
    · cases h
  split at h
  · rw [guardE_some] at h
    obtain ⟨k,e,he⟩:=key h.1
    have:=bv_some h.2; subst this
    exact fun c hc=>by simp only [binF,he]; exact hc _ (VR.rfl' _)
  · rw [guardE_some] at h
    obtain ⟨k,e,he⟩:=key h.1
    have:=bv_some h.2; subst this
    exact fun c hc=>by simp only [binF,he]; exact hc _ (VR.rfl' _)
  · rename_i h1 h2
    refine BinOk.gen h fun c=>?_
    cases op <;> first | exact absurd rfl h1 | exact absurd rfl h2 | rfl
theorem BinOk.nilSlc {r:RV} {p:Option Addr} {n c n' c':Nat} (h:nilBin P op t x y (.slice p n c) (.slice none n' c') (slcNil P t) p.isNone=some r):BinOk P m op t x y r (.slice p n c) (.slice none n' c'):=by
  unfold nilBin at h
  have key:slcNil P t=true→∃ e,P.underlying t=some (.slice e):=fun h=>by
    unfold slcNil at h; split at h
    · rename_i e he; exact ⟨e,he⟩
    · cases h
  split at h
  · rw [guardE_some] at h
    obtain ⟨e,he⟩:=key h.1
    have:=bv_some h.2; subst this
    exact fun c hc=>by simp only [binF,he]; exact hc _ (VR.rfl' _)
  · rw [guardE_some] at h
    obtain ⟨e,he⟩:=key h.1
    have:=bv_some h.2; subst this
    exact fun c hc=>by simp only [binF,he]; exact hc _ (VR.rfl' _)
  · rename_i h1 h2
    refine BinOk.gen h fun c=>?_
    cases op <;> first | exact absurd rfl h1 | exact absurd rfl h2 | rfl
theorem BinOk.str {r:RV} {a b:ByteArray} (h:strBin P op t x y a b=some r):BinOk P m op t x y r (.string a) (.string b):=by
  unfold strBin at h
  split at h
  · rw [guardE_some,Nat.ble_eq,strLen_eq,strLen_eq] at h
    obtain ⟨h1,h2⟩:=h
    cases h2
    exact fun c hc=>⟨h1,by rw [strApp_eq] at hc; exact hc _ (VR.rfl' _)⟩
  · have:=bv_some h; subst this
    exact fun c hc=>by
      show c _
      rw [← strEq_eq]; exact hc _ (VR.rfl' _)
  · have:=bv_some h; subst this
    exact fun c hc=>by
      show c _
      rw [← strEq_eq]; exact hc _ (VR.rfl' _)
  · rename_i h1 h2 h3
    refine BinOk.gen h fun c=>?_
    cases op <;> first | exact absurd rfl h1 | exact absurd rfl h2 | exact absurd rfl h3 | rfl
theorem aggOk_shape {t:TypeId} (h:aggOk P t=true):(decide (8≤10000)&&P.keyTypeAt 8 t&&P.tiled 8 t&&(match P.underlying t with | some (.array _ _) | some (.struct _)=>true | _=>false))=true:=h
theorem BinOk.agg {r:RV} {a b:List Value} (h:aggBin P op t x y a b=some r):BinOk P m op t x y r (.agg ⟨a⟩) (.agg ⟨b⟩):=by
  unfold aggBin at h
  split at h
  · simp only [guardE_some,Bool.and_eq_true,Bool.not_eq_true'] at h
    obtain ⟨h1,h2,⟨⟨h3,h4⟩,h5⟩,h6⟩:=h
    have:=bv_some h6; subst this
    intro c hc
    simp only [binF,h1,Bool.false_eq_true,if_false]
    exact eqAgg_of (aggOk_shape h2) h3 h4 (leafEq_iff h5) (hc _ (VR.rfl' _))
  · simp only [guardE_some,Bool.and_eq_true,Bool.not_eq_true'] at h
    obtain ⟨h1,h2,⟨⟨h3,h4⟩,h5⟩,h6⟩:=h
    have:=bv_some h6; subst this
    intro c hc
    simp only [binF,h1,Bool.false_eq_true,if_false]
    exact eqAgg_of (aggOk_shape h2) h3 h4 (leafEq_iff h5) (hc _ (VR.rfl' _))
  · rename_i h1 h2
    refine BinOk.gen h fun c=>?_
    cases op <;> first | exact absurd rfl h1 | exact absurd rfl h2 | rfl
theorem shl_ok {k k':IntKind} {a b:Int} {r:RV} (h:shlE k a b=some r):BinOk P m .shl t x y r (.int k a) (.int k' b):=fun c hc=>by
  unfold shlE at h
  rw [guardE_some] at h
  obtain ⟨h1,h2⟩:=h
  cases h2
  rw [ltE_eq] at h1
  refine ⟨by simpa using h1,?_⟩
  have e:(Int.ofNat (Nat.pow 2 (min b.toNat k.bits)):Int)=2 ^ (min b.toNat k.bits):=by
    show ((2 ^ (min b.toNat k.bits):Nat):Int)=_
    simp
  rw [wrapE_eq,e] at hc
  exact hc _ (VR.rfl' _)
theorem shr_ok {k k':IntKind} {a b:Int} {r:RV} (h:shrE k a b=some r):BinOk P m .shr t x y r (.int k a) (.int k' b):=fun c hc=>by
  unfold shrE at h
  rw [guardE_some] at h
  obtain ⟨h1,h2⟩:=h
  cases h2
  rw [ltE_eq] at h1
  refine ⟨by simpa using h1,?_⟩
  have e:(Int.ofNat (Nat.pow 2 (min b.toNat k.bits)):Int)=2 ^ (min b.toNat k.bits):=by
    show ((2 ^ (min b.toNat k.bits):Nat):Int)=_
    simp
  rw [e] at hc
  exact hc _ (VR.rfl' _)
theorem ofInt_small (k:IntKind) {n:Nat} (h:n<klim k):(BitVec.ofInt k.bits (.ofNat n)).toNat=n:=by
  have e:(BitVec.ofInt k.bits (.ofNat n))=BitVec.ofNat k.bits n:=by
    simp only [Int.ofNat_eq_natCast,BitVec.ofInt_natCast]
  rw [e,BitVec.toNat_ofNat]
  apply Nat.mod_eq_of_lt
  cases k <;> simp only [klim,IntKind.bits] at h ⊢ <;> omega
theorem bit_ok {k:IntKind} {a b:Int} {r:RV} {f:Nat→Nat→Nat} (hd:∀ c,binF P op t x y (.int k a) (.int k b) c=semV P (do eqGuard op t x y (.int k a) (.int k b); binOp op t (.int k a) (.int k b)) c)
    (hf:∀ c:Value→Prop,c (.int k (k.wrap (f (BitVec.ofInt k.bits a).toNat (BitVec.ofInt k.bits b).toNat:Nat)))→semV P (do eqGuard op t x y (.int k a) (.int k b); binOp op t (.int k a) (.int k b)) c)
    (h:bitE P op t x y k a b f=some r):BinOk P m op t x y r (.int k a) (.int k b):=by
  unfold bitE at h
  split at h
  · rename_i a' b'
    split at h
    · rename_i hb
      cases h
      simp only [Bool.and_eq_true] at hb
      have h1:=blt_lt hb.1
      have h2:=blt_lt hb.2
      intro c hc
      rw [hd]
      refine hf c ?_
      rw [ofInt_small k h1,ofInt_small k h2]
      rw [wrapE_eq] at hc
      exact hc _ (VR.rfl' _)
    · exact BinOk.gen h hd
  · exact BinOk.gen h hd
theorem int_ok {k:IntKind} {a b:Int} {r:RV} (h:intBin P op t x y k a b=some r):BinOk P m op t x y r (.int k a) (.int k b):=by
  have triv:∀ {v:Value},(∀ c:Value→Prop,binF P op t x y (.int k a) (.int k b) c=c v)→r=.v v→BinOk P m op t x y r (.int k a) (.int k b):=by
    intro v hv e c hc
    subst e
    rw [hv]; exact hc _ (VR.rfl' _)
  unfold intBin at h
  split at h
  · cases h; exact triv (fun c=>by rw [wrapE_eq]; cases k <;> rfl) rfl
  · cases h; exact triv (fun c=>by rw [wrapE_eq]; cases k <;> rfl) rfl
  · cases h; exact triv (fun c=>by rw [wrapE_eq]; cases k <;> rfl) rfl
  · have:=bv_some h; rw [ieq_eq] at this; exact triv (fun c=>by cases k <;> rfl) this
  · have:=bv_some h; rw [ieq_eq] at this; exact triv (fun c=>by cases k <;> rfl) this
  · have:=bv_some h; rw [ltE_eq] at this; exact triv (fun c=>by cases k <;> rfl) this
  · have:=bv_some h; rw [ltE_eq] at this
    refine triv (v:=.bool (decide (a≤b))) (fun c=>by cases k <;> rfl) (this.trans ?_)
    congr 2
    by_cases hab:a≤b <;> simp [hab] <;> omega
  · have:=bv_some h; rw [ltE_eq] at this; exact triv (fun c=>by cases k <;> rfl) this
  · have:=bv_some h; rw [ltE_eq] at this
    refine triv (v:=.bool (decide (a≥b))) (fun c=>by cases k <;> rfl) (this.trans ?_)
    congr 2
    by_cases hab:b≤a <;> simp [hab] <;> omega
  · unfold quoE at h
    rw [guardE_some,ieq_eq] at h
    obtain ⟨h1,h2⟩:=h
    cases h2
    intro c hc
    rw [wrapE_eq] at hc
    simp only [binF,if_true]
    exact ⟨by simpa using h1,hc _ (VR.rfl' _)⟩
  · unfold remE at h
    rw [guardE_some,ieq_eq] at h
    obtain ⟨h1,h2⟩:=h
    cases h2
    intro c hc
    simp only [binF,if_true]
    exact ⟨by simpa using h1,hc _ (VR.rfl' _)⟩
  · exact shl_ok h
  · exact shr_ok h
  · exact bit_ok (fun c=>rfl) (fun c hc=>by cases k <;> exact hc) h
  · exact bit_ok (fun c=>rfl) (fun c hc=>by cases k <;> exact hc) h
  · exact bit_ok (fun c=>rfl) (fun c hc=>by cases k <;> exact hc) h
  · rename_i h1 h2 h3 h4 h5 h6 h7 h8 h9 h10 h11 h12 h13 h14 h15 h16
    refine BinOk.gen h fun c=>?_
    cases op <;> first | exact absurd rfl ‹_≠_› | rfl | (exfalso; simp_all; done)
theorem binE_sound {a b:RV} {a' b':Value} {r:RV} (h:binE P op t x y a b=some r) (ha:VR m a a') (hb:VR m b b'):BinOk P m op t x y r a' b':=by
  unfold binE at h
  split at h
  · rename_i b0
    have:=hb.vv; subst this
    split at h
    · rename_i a0
      have:=ha.vv; subst this
      unfold vBin at h
      split at h
      · rename_i k n
        split at h
        · rename_i k' n'
          split at h
          · rename_i hk
            have:=kcode_inj (Nat.eq_of_beq_eq_true hk)
            subst this
            exact int_ok h
          · unfold intBin2 at h
            split at h
            · exact shl_ok h
            · exact shr_ok h
            · cases h
        · rename_i hn
          refine BinOk.gen h fun c=>?_
          cases b' <;> first | exact absurd rfl (hn _ _) | (cases op <;> rfl)
      · rename_i s
        split at h
        · exact BinOk.str h
        · rename_i hn
          refine BinOk.gen h fun c=>?_
          cases b' <;> first | exact absurd rfl (hn _) | (cases op <;> rfl)
      · rename_i p
        split at h
        · exact BinOk.nilPtr h
        · rename_i hn
          refine BinOk.gen h fun c=>?_
          cases b' with
          | pointer q=>cases q with
            | none=>exact absurd rfl hn
            | some q=>cases op <;> rfl
          | _=>cases op <;> rfl
      · rename_i p
        split at h
        · exact BinOk.nilMap h
        · rename_i hn
          refine BinOk.gen h fun c=>?_
          cases b' with
          | map q=>cases q with
            | none=>exact absurd rfl hn
            | some q=>cases op <;> rfl
          | _=>cases op <;> rfl
      · rename_i p n cc
        split at h
        · exact BinOk.nilSlc h
        · rename_i hn
          refine BinOk.gen h fun c=>?_
          cases b' with
          | slice q n' c'=>cases q with
            | none=>exact absurd rfl (hn _ _)
            | some q=>cases op <;> rfl
          | _=>cases op <;> rfl
      · rename_i xs
        split at h
        · exact BinOk.agg h
        · rename_i hn
          refine BinOk.gen h fun c=>?_
          cases b' with
          | agg q=>obtain ⟨q⟩:=q; exact absurd rfl (hn _)
          | _=>cases op <;> rfl
      · rename_i h1 h2 h3 h4 h5 h6
        refine BinOk.gen h fun c=>?_
        cases a' with
        | int=>exact absurd rfl (h1 _ _)
        | string=>exact absurd rfl (h2 _)
        | pointer=>exact absurd rfl (h3 _)
        | map=>exact absurd rfl (h4 _)
        | slice=>exact absurd rfl (h5 _ _ _)
        | agg q=>obtain ⟨q⟩:=q; exact absurd rfl (h6 _)
        | _=>cases op <;> cases b' <;> rfl
    · unfold refNil at h
      split at h
      · obtain ⟨b,hb1,rfl⟩:=ha.p
        unfold refBin at h
        split at h <;> try (cases h; done)
        all_goals
          rw [guardE_some] at h
          have:=bv_some h.2; subst this
          have key:∃ e,P.underlying t=some (.pointer e):=by
            have h:=h.1
            unfold ptrNil at h; split at h
            · rename_i e he; exact ⟨e,he⟩
            · cases h
          obtain ⟨e,he⟩:=key
          exact fun c hc=>by simp only [binF,he]; exact hc _ (VR.rfl' _)
      · obtain ⟨b,hb1,rfl⟩:=ha.mm
        unfold refBin at h
        split at h <;> try (cases h; done)
        all_goals
          rw [guardE_some] at h
          have:=bv_some h.2; subst this
          have key:∃ k e,P.underlying t=some (.map k e):=by
            have h:=h.1
            unfold mapNil at h; split at h
            · rename_i k e he; exact ⟨k,e,he⟩
            · cases h
          obtain ⟨k,e,he⟩:=key
          exact fun c hc=>by simp only [binF,he]; exact hc _ (VR.rfl' _)
      · obtain ⟨b,hb1,_,rfl⟩:=ha.s
        unfold refBin at h
        split at h <;> try (cases h; done)
        all_goals
          rw [guardE_some] at h
          have:=bv_some h.2; subst this
          have key:∃ e,P.underlying t=some (.slice e):=by
            have h:=h.1
            unfold slcNil at h; split at h
            · rename_i e he; exact ⟨e,he⟩
            · cases h
          obtain ⟨e,he⟩:=key
          exact fun c hc=>by simp only [binF,he]; exact hc _ (VR.rfl' _)
      · cases h
  · cases h
end
section
variable {P:Program} {prv:List Nat} {m:Nm} {pv:EP} {pvc:PV} {st:St} {hp:HP} {ρ:Operand→Option ES} {ρc:Operand→Option SV} {o:Oper} {K:SV→PV→HP→Prop} {es:ES}
theorem sxSlice (hr:RR m pv ρ ρc) {t:TypeId} {x:Operand} {lo hi mx:Option Operand} (ho:o.op=.slice t x lo hi mx) (h:exSlice P ρ t x lo hi mx=some es) (hK:∀ s,ESR m pv es s→K s pvc hp):execF P prv ρc o pvc hp K:=by
  simp only [execF,ho]
  simp only [exSlice,Option.bind_eq_some_iff] at h
  obtain ⟨v,h1,l,h2,u,h3,w,h4,y,h5,h⟩:=h
  cases h
  obtain ⟨v',e1,hv⟩:=valE_sound hr h1
  obtain ⟨l',a1,b1⟩:=optE_sound hr h2
  obtain ⟨u',a2,b2⟩:=optE_sound hr h3
  obtain ⟨w',a3,b3⟩:=optE_sound hr h4
  exact vv_in e1 (b1 _ (b2 _ (b3 _ (sliceE_sound h5 hv a1 a2 a3 fun w hw=>hK _ hw))))
theorem sxBuild (hr:RR m pv ρ ρc) {t:TypeId} {parts:Array (Nat × Operand)} (ho:o.op=.build t parts) (h:exBuild P ρ t parts=some es) (hK:∀ s,ESR m pv es s→K s pvc hp):execF P prv ρc o pvc hp K:=by
  simp only [execF,ho]
  simp only [exBuild,Option.bind_eq_some_iff] at h
  obtain ⟨v,h1,y,h5,h⟩:=h
  cases h
  obtain ⟨ws,e1,hv⟩:=partsE_sound hr h1
  exact hv _ (buildE_sound h5 e1 fun w hw=>hK _ hw)
theorem sxBinOp (hr:RR m pv ρ ρc) {op:BinOp} {t:TypeId} {x y:Operand} {u:TypeId} (ho:o.op=.binOp op t x y u) (h:exBinOp P ρ op t x y=some es) (hK:∀ s,ESR m pv es s→K s pvc hp):execF P prv ρc o pvc hp K:=by
  simp only [execF,ho]
  simp only [exBinOp,Option.bind_eq_some_iff] at h
  obtain ⟨a,h1,b,h2,y,h5,h⟩:=h
  cases h
  obtain ⟨a',e1,ha⟩:=valE_sound hr h1
  obtain ⟨b',e2,hb⟩:=valE_sound hr h2
  exact vv_in e1 (vv_in e2 (binE_sound h5 ha hb _ fun w hw=>hK _ hw))
end
end Go.HL
