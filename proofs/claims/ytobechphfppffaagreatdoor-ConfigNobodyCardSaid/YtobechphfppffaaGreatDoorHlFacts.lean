/- The closed facts of a row, each apart, of any program: so that no great term is unfolded. -/
import Derived.ProofKit
import Derived.JoinedOf
set_option linter.unusedVariables false
set_option linter.unusedSimpArgs false
namespace Go.HL
open Go
section
variable {P:Program} {ws rest:List (List Char)}
theorem made_of (h:behindMainWord (wordsSigns P.initOrder.toList)=[Char.ofNat 99,Char.ofNat 117,Char.ofNat 116]::rest):P.make=some .cut:=by
  unfold Program.make
  rw [h]
  rfl
theorem lifts_of (h:behindMainWord (wordsSigns P.initOrder.toList)=[Char.ofNat 99,Char.ofNat 117,Char.ofNat 116]::rest) (hs:stripLifts liftWords ([Char.ofNat 99,Char.ofNat 117,Char.ofNat 116]::rest)=([],[Char.ofNat 99,Char.ofNat 117,Char.ofNat 116]::rest)):P.liftsFinal=false:=by
  unfold Program.liftsFinal Program.headLifts
  rw [h,hs]
  have e1 : "carried".toList = [Char.ofNat 99, Char.ofNat 97, Char.ofNat 114, Char.ofNat 114, Char.ofNat 105, Char.ofNat 101, Char.ofNat 100] := String.toList_ofList
  have e2 : "cut".toList = [Char.ofNat 99, Char.ofNat 117, Char.ofNat 116] := String.toList_ofList
  simp [e1,e2]
theorem enters_of (h:behindMainWord (wordsSigns P.initOrder.toList)=[Char.ofNat 99,Char.ofNat 117,Char.ofNat 116]::rest) (hs:stripLifts liftWords ([Char.ofNat 99,Char.ofNat 117,Char.ofNat 116]::rest)=([],[Char.ofNat 99,Char.ofNat 117,Char.ofNat 116]::rest))
    (hl:P.laysLater=false) (hb:P.bearsReflect=false) (hd:P.doorFits []=true):P.mayEnter=true:=by
  unfold Program.mayEnter
  rw [h]
  have e2 : "cut".toList = [Char.ofNat 99, Char.ofNat 117, Char.ofNat 116] := String.toList_ofList
  simp [hs,hl,hb,hd,e2]
end
/-- All of them. -/
theorem facts_of {P:Program} {f:FuncId} {fn:Func} {s:ChangeSpec} {c:OpenClaim}
    (k0:c.wf (OpenSpec.ofChange s)=true) (k1:laidOutB P=true) (k2:mapsRowed P=true)
    (k3:fn.params.all (P.readableRec ·)=true) (k4:namedTie P c.named s.vars=true)
    (k5:c.stops=[]) (k6:P.stops=[]) (k7:c.knobs=[]) (k8:P.stopKnobs=[])
    (k9:c.inPlace=P.inPlace f) (k10:c.unfollowed=P.unfollowed f) (k11:c.recurses=P.recurses f) (k12:c.named=P.varsNamed f)
    (k13:c.maps=(fn.params.toList++s.plain.varTypes P).any (P.mapsRec ·)) (k14:c.ifaces=(fn.params.toList++s.plain.varTypes P).any (P.ifacesRec ·)) (k15:c.mapsOut=P.mapsAmong fn.resultTypes.toList)
    (k16:c.loops=(fn.params.toList++s.plain.varTypes P).any (P.loopsFrom ·)) (k17:c.wideKeys=(fn.params.toList++s.plain.varTypes P++fn.resultTypes.toList).any (P.wideKeysFrom ·))
    (k18:s.vars.all (P.varReadable ·)=true) (k19:fn.resultTypes.all (fun t=>P.readableRec t&&decide (t<P.types.size))=true) (k20:c.ifacesOut=fn.resultTypes.toList.any (P.ifacesRec ·)) (k21:c.loopsOut=fn.resultTypes.toList.any (P.loopsFrom ·))
    (k22:c.plainKeys=P.plainKeys) (k23:c.shortTexts.isNone=true) (k24:P.stopsHeard=true) (k25:P.mayEnter=true) (k26:P.liftsFinal=c.lifted) (k27:P.make=some c.make)
    (k28:c.kinds=[]) (k28':c.domain.isEmpty=true) (k29:c.pinned=c.pinnedBy)
    (k30:c.veiled=(fn.params.toList++s.plain.varTypes P++fn.resultTypes.toList).any (P.veiledRec ·)) (k31:c.veiledFits P fn.params.toList (fn.params.toList++s.plain.varTypes P++fn.resultTypes.toList)=true) :
    joinedFacts P f fn s c=true:=by
  unfold joinedFacts
  simp only [Bool.and_eq_true,beq_iff_eq]
  exact ⟨⟨⟨⟨⟨⟨⟨⟨⟨⟨⟨⟨⟨⟨⟨⟨⟨⟨⟨⟨⟨⟨⟨⟨⟨⟨⟨⟨⟨⟨⟨k0,k1⟩,k2⟩,k3⟩,k4⟩,k5⟩,k6⟩,k7⟩,k8⟩,k9⟩,k10⟩,k11⟩,k12⟩,k13⟩,k14⟩,k15⟩,k16⟩,k17⟩,k18⟩,k19⟩,k20⟩,k21⟩,k22⟩,k23⟩,k24⟩,k25⟩,k26.symm⟩,k27⟩,by rw [k28,if_pos k28']⟩,k29⟩,k30⟩,k31⟩
end Go.HL
