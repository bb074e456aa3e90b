/- The heaplet logic in use, part 2: when two structs or arrays of bools, integers and strings are equal; keys of maps. -/
import Derived.Test.YtobechphfppffaaGreatDoorHlUse
import Derived.DeepKeys3
import Derived.MapKept
set_option linter.unusedVariables false
set_option linter.unusedSimpArgs false
namespace Go.HL
open Go
/-- Cells that are a value of a type of bools, integers, strings, arrays and structs of such. -/
def shaped (P:Program):Nat→TypeId→List Value→Bool
  | 0,_,_=>false
  | d+1,t,cs=>match P.underlying t with
    | some .bool=>(match cs with | [.bool _]=>true | _=>false)
    | some (.int q)=>(match cs with | [.int q' _]=>decide (q'=q) | _=>false)
    | some .string=>(match cs with | [.string _]=>true | _=>false)
    | some (.array n e)=>decide (cs.length=P.cellsOf t)&&(List.range n).all fun i=>shaped P d e ((cs.drop (i*P.cellsOf e)).take (P.cellsOf e))
    | some (.struct fs)=>decide (cs.length=P.cellsOf t)&&fs.toList.all fun f=>shaped P d f.type ((cs.drop f.offset).take (P.cellsOf f.type))
    | _=>false
def wrapD (P:Program) (t:TypeId) (cs:List Value):Value:=match P.underlying t,cs with
  | some (.array _ _),cs | some (.struct _),cs=>.agg ⟨cs⟩
  | _,[v]=>v
  | _,_=>undef
section
variable {P:Program} (w:World)
theorem shaped_len {D:Nat} {t:TypeId} {cs:List Value} (h:shaped P D t cs=true) (hw:(match P.underlying t with | some (.array _ _) | some (.struct _)=>true | _=>false)=true):cs.length=P.cellsOf t:=by
  cases D with
  | zero=>cases h
  | succ D=>
    unfold shaped at h
    cases hu:P.underlying t with
    | none=>simp [hu] at hw
    | some k=>cases k <;> simp [hu] at hw h <;> exact h.1
theorem run_part_shaped {e:TypeId} {D off:Nat} {xs:List Value} (ha:shaped P D e ((xs.drop off).take (P.cellsOf e))=true) :
    (part e ⟨xs⟩ off).run P w=.ok (wrapD P e ((xs.drop off).take (P.cellsOf e))) w:=by
  have hl:=shaped_len ha
  cases D with
  | zero=>cases ha
  | succ D=>
    unfold shaped at ha
    have one:∀ v,(xs.drop off).take (P.cellsOf e)=[v]→xs[off]?=some v:=by
      intro v hv
      have h0:((xs.drop off).take (P.cellsOf e))[0]?=some v:=by rw [hv]; rfl
      rw [List.getElem?_take] at h0
      split at h0
      · simpa using h0
      · cases h0
    have ext:(⟨xs⟩:Array Value).extract off (off+P.cellsOf e)=⟨(xs.drop off).take (P.cellsOf e)⟩:=by
      apply Array.ext'
      simp [List.extract]
    cases hu:P.underlying e with
    | none=>simp [hu] at ha
    | some k=>
      have hi:=info_of_underlying hu
      obtain ⟨i,hi⟩:=hi
      cases k <;> simp only [hu,Bool.false_eq_true] at ha
      case bool=>
        split at ha
        · rename_i b hb
          simp [part,isAgg,run_underlying hu,one _ hb,wrapD,hu,hb]
        · cases ha
      case int q=>
        split at ha
        · rename_i b hb
          simp [part,isAgg,run_underlying hu,one _ hb,wrapD,hu,hb]
        · cases ha
      case string=>
        split at ha
        · rename_i b hb
          simp [part,isAgg,run_underlying hu,one _ hb,wrapD,hu,hb]
        · cases ha
      case array n e'=>simp [part,isAgg,run_underlying hu,run_sizeOf w hi,wrapD,hu,List.extract]
      case struct fs=>simp [part,isAgg,run_underlying hu,run_sizeOf w hi,wrapD,hu,List.extract]
def EqS (P:Program) (dd:Nat) (e:TypeId):Prop:=
  ∀ (w:World) (D D':Nat) (a b:List Value),shaped P D e a=true→shaped P D' e b=true →
    ∃ r:Bool,(Op.equalIn dd e (wrapD P e a) (wrapD P e b)).run P w=.ok r w∧(r=true↔a=b)
theorem run_eqFields_shaped (dd : Nat) (xs ys : List Value) {D D' : Nat} : ∀ (fs : List Field), (∀ f ∈ fs, f.name ≠ "_" ∧ EqS P dd f.type) →
    (∀ f∈fs,shaped P D f.type ((xs.drop f.offset).take (P.cellsOf f.type))=true)→(∀ f∈fs,shaped P D' f.type ((ys.drop f.offset).take (P.cellsOf f.type))=true) →
    ∃ r:Bool,(Op.eqFields dd ⟨xs⟩ ⟨ys⟩ fs).run P w=.ok r w∧(r=true↔∀ f∈fs,(xs.drop f.offset).take (P.cellsOf f.type)=(ys.drop f.offset).take (P.cellsOf f.type))
  | [],_,_,_=>⟨true,by simp [Op.eqFields],by simp⟩
  | f::fs,hall,ha,hb=>by
    obtain ⟨hn,hp⟩:=hall f (by simp)
    have p1:=run_part_shaped w (ha f (by simp))
    have p2:=run_part_shaped w (hb f (by simp))
    obtain ⟨r,p3,hiff⟩:=hp w D D' _ _ (ha f (by simp)) (hb f (by simp))
    obtain ⟨r',hr',hiff'⟩:=run_eqFields_shaped dd xs ys fs (fun g hg=>hall g (by simp [hg])) (fun g hg=>ha g (by simp [hg])) (fun g hg=>hb g (by simp [hg]))
    simp only [Op.eqFields,hn,ne_eq,not_false_eq_true,if_true,Sem.run_bind,p1,p2,p3,Result.andThen_ok]
    cases r
    · exact ⟨false,by simp,by simp; intro e; exact absurd (hiff.2 e) (by simp)⟩
    · refine ⟨r',by simpa using hr',?_⟩
      rw [hiff']
      simp [hiff.1 rfl]
theorem run_eqItems_shaped (dd:Nat) {e:TypeId} (IH:EqS P dd e) (xs ys:List Value) {D D':Nat}:∀ (is:List Nat),
    (∀ i∈is,shaped P D e ((xs.drop (i*P.cellsOf e)).take (P.cellsOf e))=true)→(∀ i∈is,shaped P D' e ((ys.drop (i*P.cellsOf e)).take (P.cellsOf e))=true) →
    ∃ r:Bool,(Op.eqItems dd e (P.cellsOf e) ⟨xs⟩ ⟨ys⟩ is).run P w=.ok r w∧(r=true↔∀ i∈is,(xs.drop (i*P.cellsOf e)).take (P.cellsOf e)=(ys.drop (i*P.cellsOf e)).take (P.cellsOf e))
  | [],_,_=>⟨true,by simp [Op.eqItems],by simp⟩
  | i::is,ha,hb=>by
    have p1:=run_part_shaped w (ha i (by simp))
    have p2:=run_part_shaped w (hb i (by simp))
    obtain ⟨r,p3,hiff⟩:=IH w D D' _ _ (ha i (by simp)) (hb i (by simp))
    obtain ⟨r',hr',hiff'⟩:=run_eqItems_shaped dd IH xs ys is (fun g hg=>ha g (by simp [hg])) (fun g hg=>hb g (by simp [hg]))
    simp only [Op.eqItems,Sem.run_bind,p1,p2,p3,Result.andThen_ok]
    cases r
    · exact ⟨false,by simp,by simp; intro e; exact absurd (hiff.2 e) (by simp)⟩
    · refine ⟨r',by simpa using hr',?_⟩
      rw [hiff']
      simp [hiff.1 rfl]
end
theorem fields_split {P:Program} (xs ys:List Value):∀ (fs:List Field) (off tot:Nat),P.runs off fs=some tot→xs.length=tot→ys.length=tot →
    (∀ f∈fs,(xs.drop f.offset).take (P.cellsOf f.type)=(ys.drop f.offset).take (P.cellsOf f.type))→xs.drop off=ys.drop off:=by
  intro fs off tot hr hx hy h
  rw [← fields_flatten xs fs off tot hr hx,← fields_flatten ys fs off tot hr hy]
  congr 1
  exact List.map_congr_left h
theorem run_equalIn_shaped {P:Program} (d:Nat):∀ (m:Nat) (t:TypeId),P.keyTypeAt m t=true→P.tiled m t=true→EqS P (d+m) t
  | 0,_,h,_=>by simp [Program.keyTypeAt] at h
  | m+1,t,hk,ht=>by
    intro w D D' xs ys hx hy
    unfold Program.keyTypeAt at hk
    unfold Program.tiled at ht
    cases D with
    | zero=>cases hx
    | succ D=>
    cases D' with
    | zero=>cases hy
    | succ D'=>
    unfold shaped at hx hy
    rw [show d+(m+1)=(d+m)+1 from rfl]
    cases hu:P.underlying t with
    | none=>simp [hu] at hk
    | some kd=>
      cases kd <;> simp only [hu,Bool.false_eq_true] at hk hx hy ht
      case bool=>
        split at hx
        · split at hy
          · rename_i a _ b
            exact ⟨a==b,by simp [Op.equalIn,run_underlying hu,wrapD,hu],by simp⟩
          · cases hy
        · cases hx
      case int q=>
        split at hx
        · split at hy
          · rename_i q1 a _ q2 b
            simp only [decide_eq_true_eq] at hx hy
            subst hx; subst hy
            exact ⟨a==b,by simp [Op.equalIn,run_underlying hu,wrapD,hu],by simp⟩
          · cases hy
        · cases hx
      case string=>
        split at hx
        · split at hy
          · rename_i a _ b
            exact ⟨a==b,by simp [Op.equalIn,run_underlying hu,wrapD,hu],by rw [MapKept.bytes_beq]; simp⟩
          · cases hy
        · cases hx
      case array n e=>
        simp only [Bool.and_eq_true,decide_eq_true_eq,List.all_eq_true,beq_iff_eq] at hx hy ht
        have hpe:∃ i,P.info? e=some i:=by
          cases m with
          | zero=>simp [Program.keyTypeAt] at hk
          | succ m'=>
            unfold Program.keyTypeAt at hk
            cases hue:P.underlying e with
            | none=>simp [hue] at hk
            | some _=>exact info_of_underlying hue
        obtain ⟨i,hi⟩:=hpe
        obtain ⟨r,hr,hiff⟩:=run_eqItems_shaped w (d+m) (run_equalIn_shaped d m e hk ht.2) xs ys (List.range n) hx.2 hy.2
        refine ⟨r,?_,?_⟩
        · simp only [wrapD,hu]
          rw [run_equalIn_array w (d+m) ⟨xs⟩ ⟨ys⟩ hu hi]; exact hr
        · rw [hiff]
          constructor
          · intro h
            rw [← chunks_flatten (P.cellsOf e) n xs (by rw [hx.1,ht.1]),← chunks_flatten (P.cellsOf e) n ys (by rw [hy.1,ht.1])]
            congr 1
            exact List.map_congr_left h
          · intro h; subst h; intros; rfl
      case struct fs=>
        simp only [Bool.and_eq_true,decide_eq_true_eq,List.all_eq_true,Bool.not_eq_true',beq_iff_eq] at hx hy hk ht
        have hfs:P.fieldsOf t=fs:=by simp [Program.fieldsOf,hu]
        obtain ⟨r,hr,hiff⟩:=run_eqFields_shaped w (d+m) xs ys fs.toList (fun f hf=>by
          have:=Array.all_eq_true_iff_forall_mem.1 hk.1.1 f (Array.mem_toList_iff.1 hf)
          simp only [Bool.and_eq_true,bne_iff_ne,ne_eq] at this
          exact ⟨this.1,run_equalIn_shaped d m f.type this.2 (Array.all_eq_true_iff_forall_mem.1 ht.2 f (Array.mem_toList_iff.1 hf))⟩) hx.2 hy.2
        refine ⟨r,?_,?_⟩
        · simp only [wrapD,hu]
          rw [run_equalIn_struct w (d+m) t ⟨xs⟩ ⟨ys⟩ (by rw [hfs]; exact hu) hk.2,hfs]; exact hr
        · rw [hiff]
          constructor
          · intro h
            have:=fields_split xs ys fs.toList 0 _ ht.1 hx.1 hy.1 h
            simpa using this
          · intro h; subst h; intros; rfl
/-- Equality of two structs or arrays: of their cells. -/
theorem eqAgg_of {P:Program} {t:TypeId} {m D:Nat} {xs ys:List Value} {c:Bool→Prop} (hm:(decide (m≤10000)&&P.keyTypeAt m t&&P.tiled m t&&(match P.underlying t with | some (.array _ _) | some (.struct _)=>true | _=>false))=true)
    (hx:shaped P D t xs=true) (hy:shaped P D t ys=true) {r:Bool} (hr:r=true↔xs=ys) (h:c r):eqAgg P t xs ys c:=by
  simp only [Bool.and_eq_true,decide_eq_true_eq] at hm
  refine ⟨r,fun F w0 w _=>?_,h⟩
  obtain ⟨r',hr',hiff⟩:=run_equalIn_shaped (10000-m) m t hm.1.1.2 hm.1.2 w D D xs ys hx hy
  have hwr:∀ cs,wrapD P t cs=.agg ⟨cs⟩:=by
    intro cs
    have h4:=hm.2
    unfold wrapD
    split at h4 <;> simp_all
  rw [hwr,hwr,Nat.sub_add_cancel hm.1.1.1] at hr'
  have e:r'=r:=by
    cases r <;> cases r' <;> simp_all
  rw [← e]
  exact hr'
end Go.HL
