/- The heaplet logic in use, part 12: stores, reads of parts, walks through maps, numbers without a sign. -/
import Derived.Test.YtpkhoemonibajaaGreatDoorHlSort
import Derived.Test.YtpkhoemonibajaaGreatDoorHlRange
import Derived.Test.YtpkhoemonibajaaGreatDoorHlMapL
set_option linter.unusedVariables false
set_option linter.unusedSimpArgs false
namespace Go.HL
open Go
theorem HP.st_at {hp:HP} {r o:Nat} {e:TypeId} {cs:List Value} {sp:Nat} {v:Value} {c:HP→Prop} (hb:hp r=.cells e cs sp) (ho:o<cs.length) (h:c (hp.set r (.cells e (cs.set o v) sp))):hp.st r o v c:=by
  unfold HP.st; rw [hb]; exact ⟨ho,h⟩
theorem HA.sub {α:Type} {hp0 hp1:HP} {b:Nat} {e:TypeId} {sp:Nat} {en:α→List Value} {d:Array α} (h:HSub hp0 hp1):HSub (HA hp0 b e sp en d) (HA hp1 b e sp en d):=HSub.set h _ _
theorem wu64 {n:Int} (h0:0≤n) (h1:n≤9223372036854775807):IntKind.wrap .u64 n=n:=by
  have e:IntKind.wrap .u64 n=n % 18446744073709551616:=by simp [IntKind.wrap,IntKind.bits,IntKind.signed]
  rw [e]; omega
theorem wu8 {n:Int} (h0:0≤n) (h1:n≤255):IntKind.wrap .u8 n=n:=by
  rw [IntKind.wrap_u8]; omega
theorem band_le {z m:Int} (h0:0≤m) (h1:m≤9223372036854775807):0≤band .u64 z m∧band .u64 z m≤m:=by
  unfold band
  have hm:(BitVec.ofInt (IntKind.bits .u64) m).toNat=m.toNat:=by
    show (BitVec.ofInt 64 m).toNat=m.toNat
    rw [BitVec.toNat_ofInt]
    have:m % ((2 ^ 64:Nat):Int)=m:=Int.emod_eq_of_lt h0 (by omega)
    rw [this]
  have hle:(BitVec.ofInt (IntKind.bits .u64) z &&& BitVec.ofInt (IntKind.bits .u64) m).toNat≤m.toNat:=by
    rw [BitVec.toNat_and,hm]; exact Nat.and_le_right
  rw [wu64 (by omega) (by omega)]
  omega
theorem nodup_len_le {α:Type}:∀ {a b:List α},a.Nodup→(∀ x∈a,x∈b)→a.length≤b.length
  | [],_,_,_=>Nat.zero_le _
  | x::a,b,ha,h=>by
    classical
    have hx:x∈b:=h x (by simp)
    rw [List.nodup_cons] at ha
    have:=nodup_len_le (b:=b.erase x) ha.2 (fun y hy=>by
      have hne:y≠x:=fun e=>ha.1 (e▸hy)
      exact (List.mem_erase_of_ne hne).2 (h y (by simp [hy])))
    rw [List.length_erase_of_mem hx] at this
    have:=List.length_pos_of_mem hx
    simp only [List.length_cons]; omega
section
variable {κ ν:Type} {hp hp':HP} {ek:κ→Value} {ev:ν→Value} {m it:Nat} {l done:List (κ × ν)}
theorem IterR.len (h:IterR hp it m ek ev l done):done.length≤l.length:=by
  obtain ⟨es,clock,seen,des,h1,h2,hes,hb1,hb2,hseen,hin,hnd,hdone⟩:=h
  have e1:=congrArg List.length hes
  have e2:=congrArg List.length hdone
  simp only [List.length_map] at e1 e2
  have:=nodup_len_le hnd hin
  omega
theorem IterR.keep (h:IterR hp it m ek ev l done) (h1:hp' it=hp it) (h2:hp' m=hp m):IterR hp' it m ek ev l done:=by
  obtain ⟨es,clock,seen,des,a,b,r⟩:=h
  exact ⟨es,clock,seen,des,h1.trans a,h2.trans b,r⟩
theorem IterR.obj (h:IterR hp it m ek ev l done):(∃ o,hp it=.obj o)∧∃ o,hp m=.obj o:=by
  obtain ⟨es,clock,seen,des,a,b,r⟩:=h
  exact ⟨⟨_,a⟩,⟨_,b⟩⟩
theorem IterR.step_len {kv:κ × ν} (h:IterR hp it m ek ev l (done++[kv])):done.length+1≤l.length:=by
  have:=h.len; simpa using this
end
theorem HSub.up {hp hp':HP} (h:HSub hp hp') {b:Nat} (hb:hp b=.none) (e:Ent):HSub hp (hp'.set b e):=fun x=>by
  by_cases hx:x=b
  · subst hx; exact .inl hb
  · rw [HP.set_ne _ _ hx]; exact h x
theorem HP.cell_cellN {hp:HP} {b o n j:Nat} {ys:List Value} {v:Value} (h:hp.cellN b o n=some ys) (hj:ys[j]?=some v):hp.cell b (o+j)=some v:=by
  unfold HP.cellN at h
  unfold HP.cell
  split at h
  · exact cellsN_get h hj
  · exact cellsN_get h hj
  · cases h
theorem HP.stN_at {hp:HP} {r o:Nat} {e:TypeId} {cs vs:List Value} {sp:Nat} {c:HP→Prop} (hb:hp r=.cells e cs sp) (ho:o+vs.length≤cs.length) (h1:vs.all one=true) (h:c (hp.set r (.cells e (splice cs o vs) sp))):hp.stN r o vs c:=by
  unfold HP.stN; rw [hb]; exact ⟨ho,h1,h⟩
end Go.HL
