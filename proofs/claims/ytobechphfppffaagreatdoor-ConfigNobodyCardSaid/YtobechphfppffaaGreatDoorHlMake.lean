/- The heaplet logic in use, part 18: a row that is made, all zero. -/
import Derived.Test.YtobechphfppffaaGreatDoorHlUse2
import Derived.Laws.MakeOwn
set_option linter.unusedVariables false
set_option linter.unusedSimpArgs false
namespace Go.HL
open Go
theorem made_list {zs:List Value} {s:Nat} (hs:zs.length=s) (h0:0<s) (zero:Array Value) (hz:zero.toList=zs):∀ n:Nat,((List.range (n*s)).map fun k=>zero[k % zero.size]!)=(List.replicate n zs).flatten
  | 0=>by simp
  | n+1=>by
    have hsz:zero.size=s:=by rw [← hs,← hz]; simp
    rw [Nat.succ_mul,List.range_add,List.map_append,made_list hs h0 zero hz n,List.replicate_succ',List.flatten_append]
    congr 1
    simp only [List.flatten_cons,List.flatten_nil,List.append_nil,List.map_map]
    apply List.ext_getElem
    · simp [hs]
    · intro i h1 h2
      have hi:i<s:=by simpa using h1
      simp only [List.getElem_map,List.getElem_range,Function.comp,hsz]
      have e:(n*s+i) % s=i:=by rw [Nat.mul_comm,Nat.mul_add_mod,Nat.mod_eq_of_lt hi]
      rw [e,getElem!_pos zero i (by omega)]
      subst hz; simp
theorem opS_make {P:Program} {hp:HP} {t e:TypeId} {i:TypeInfo} {z:Value} {zs:List Value} (ht:P.underlying t=some (.slice e)) (hi:P.info? e=some i) (hz:i.zero=some z) (hzs:z.cells.toList=zs) (hsz:zs.length=i.size) (h0:0<i.size) {n:Nat}
    (hb:i.bytes*n≤281474976710656) (h63:n≤9223372036854775807) {K:Value→HP→Prop}
    (h:∀ b,hp b=.none→K (.slice (some ⟨b,0,none⟩) n n) (hp.set b (.cells e (List.replicate n zs).flatten 0))):opS P (Instr.makeSlice t (.int .i64 n) (.int .i64 n)) hp K:=by
  intro F w0 w hf
  have hb':(i.bytes:Int)*(n:Int)≤281474976710656:=by
    have h:((i.bytes*n:Nat):Int)≤281474976710656:=by omega
    rwa [Int.natCast_mul] at h
  have hr:=run_make (P:=P) w t e i z ht hi hz .i64 .i64 n n (by omega) (Int.le_refl _) hb' (by omega)
  simp only [Int.toNat_natCast] at hr
  refine ⟨_,_,_,hr,hf.alloc _ (e:=.cells e (List.replicate n zs).flatten 0) ⟨[],rfl,?_⟩,h _ hf.fresh⟩
  rw [List.append_nil]
  congr 2
  apply Array.ext'
  have:=made_list hsz h0 z.cells hzs n
  rw [← this]
  simp [madeCells]
end Go.HL
