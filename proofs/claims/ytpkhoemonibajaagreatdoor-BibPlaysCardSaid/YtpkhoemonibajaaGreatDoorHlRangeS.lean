/- The heaplet logic in use, part 17: going through a string; a mask of ones. -/
import Derived.Test.YtpkhoemonibajaaGreatDoorHlRange
import Derived.Test.YtpkhoemonibajaaGreatDoorHlUse2
set_option linter.unusedVariables false
set_option linter.unusedSimpArgs false
namespace Go.HL
open Go
section
variable {P:Program} {hp:HP}
theorem opS_rangeS {mt:TypeId} {s:ByteArray} (hu:P.underlying mt=some .string) {K:Value→HP→Prop}
    (h:∀ it,hp it=.none→K (ptr it 0) (hp.set it (.obj (.stringIter s 0)))):opS P (Instr.range mt (.string s)) hp K:=by
  intro F w0 w hf
  refine ⟨ptr w.heap.size 0,w.alloc (.stringIter s 0),hp.set w.heap.size (.obj (.stringIter s 0)),?_,hf.alloc _ rfl,h _ hf.fresh⟩
  simp [Instr.range,run_underlying hu,run_newObj]
theorem opS_nextS {ty:TypeId} {s:ByteArray} {it pos:Nat} (hr:hp it=.obj (.stringIter s pos)) {K:Value→HP→Prop}
    (hend:¬ pos<s.size→K (.tuple #[.bool false]) hp)
    (hgo:pos<s.size→K (.tuple #[.bool true,.int .i64 pos,.int .i32 (Utf8.decode s pos).1]) (hp.set it (.obj (.stringIter s (pos+(Utf8.decode s pos).2))))):opS P (Instr.next (ptr it 0) true ty) hp K:=by
  intro F w0 w hf
  have hb:=getObj_of hf hr
  by_cases hp':pos<s.size
  · refine ⟨_,_,_,?_,hf.setObj hr (o':=.stringIter s (pos+(Utf8.decode s pos).2)),hgo hp'⟩
    simp [Instr.next,getObj,setObj,Sem.run,hb,hp',goInt]
  · refine ⟨_,_,_,?_,hf,hend hp'⟩
    simp [Instr.next,getObj,Sem.run,hb,hp']
end
theorem decode_pos (s:ByteArray) (i:Nat):1≤(Utf8.decode s i).2:=by
  unfold Utf8.decode
  simp only
  repeat' split
  all_goals simp
theorem band_mask {z:Int} {j:Nat} (h0:0≤z) (h1:z<9223372036854775808) (hj:j≤40):band .i64 z ((2 ^ j:Nat)-1:Int)=((z.toNat % 2 ^ j:Nat):Int):=by
  have h2:(2 ^ j:Nat)≤2 ^ 40:=Nat.pow_le_pow_right (by omega) hj
  have hp:0<(2 ^ j:Nat):=Nat.pos_of_ne_zero (by simp)
  have e40:(2 ^ 40:Nat)=1099511627776:=rfl
  unfold band
  have a1:(BitVec.ofInt (IntKind.bits .i64) z).toNat=z.toNat:=by
    show (BitVec.ofInt 64 z).toNat=z.toNat
    rw [BitVec.toNat_ofInt]
    have:z % ((2 ^ 64:Nat):Int)=z:=Int.emod_eq_of_lt h0 (by omega)
    rw [this]
  have a2:(BitVec.ofInt (IntKind.bits .i64) ((2 ^ j:Nat)-1:Int)).toNat=2 ^ j-1:=by
    show (BitVec.ofInt 64 _).toNat=_
    rw [BitVec.toNat_ofInt]
    have:((2 ^ j:Nat)-1:Int) % ((2 ^ 64:Nat):Int)=((2 ^ j:Nat)-1:Int):=Int.emod_eq_of_lt (by omega) (by omega)
    rw [this]; omega
  have e:(BitVec.ofInt (IntKind.bits .i64) z &&& BitVec.ofInt (IntKind.bits .i64) ((2 ^ j:Nat)-1:Int)).toNat=z.toNat % 2 ^ j:=by
    rw [BitVec.toNat_and,a1,a2,Nat.and_two_pow_sub_one_eq_mod]
  rw [e]
  have hm:z.toNat % 2 ^ j<2 ^ j:=Nat.mod_lt _ hp
  exact w64 (by omega) (by omega)
end Go.HL
