/- Maps as lists of pairs: plain law. -/
import Derived.Test.YtpkhoemonibajaaGreatDoorHlMap
set_option linter.unusedVariables false
set_option linter.unusedSimpArgs false
namespace Go.HL
open Go
section
variable {κ ν:Type} [DecidableEq κ]
theorem getL_put (k k':κ) (v:ν):∀ l:List (κ × ν),getL k' (putL k v l)=if k'=k then some v else getL k' l
  | []=>by simp only [putL,getL]
  | p::l=>by
    by_cases h:k=p.1
    · simp only [putL,h,if_true,getL]
      by_cases h':k'=p.1 <;> simp [h']
    · simp only [putL,h,if_false,getL,getL_put k k' v l]
      by_cases h':k'=p.1
      · have hpk:¬ p.1=k:=fun e=>h e.symm
        simp [h',hpk]
      · simp [h']
theorem getL_none {k:κ}:∀ {l:List (κ × ν)},getL k l=none↔k ∉ l.map (·.1)
  | []=>by simp [getL]
  | p::l=>by
    simp only [getL,List.map_cons,List.mem_cons,not_or]
    by_cases h:k=p.1
    · simp [h]
    · simp [h,getL_none (l:=l)]
theorem getL_isSome {k:κ} {l:List (κ × ν)}:(getL k l).isSome=true↔k∈l.map (·.1):=by
  cases h:getL k l with
  | none=>simpa using getL_none.1 h
  | some v=>
    simp only [Option.isSome_some,true_iff]
    refine Classical.byContradiction fun hn=>?_
    rw [getL_none.2 hn] at h; cases h
theorem getL_some_mem {k:κ} {v:ν}:∀ {l:List (κ × ν)},getL k l=some v→(k,v)∈l
  | [],h=>by cases h
  | p::l,h=>by
    simp only [getL] at h
    by_cases hk:k=p.1
    · simp only [hk,if_true,Option.some.injEq] at h
      rw [hk,← h]; simp
    · simp only [hk,if_false] at h
      exact List.mem_cons_of_mem _ (getL_some_mem h)
theorem put_new {k:κ} {v:ν}:∀ {l:List (κ × ν)},getL k l=none→putL k v l=l++[(k,v)]
  | [],_=>rfl
  | p::l,h=>by
    simp only [getL] at h
    by_cases hk:k=p.1
    · simp [hk] at h
    · simp only [hk,if_false] at h
      simp only [putL,hk,if_false,List.cons_append,put_new h]
theorem keys_put_old {k:κ} {v:ν}:∀ {l:List (κ × ν)},(getL k l).isSome=true→(putL k v l).map (·.1)=l.map (·.1)
  | [],h=>by cases h
  | p::l,h=>by
    simp only [getL] at h
    by_cases hk:k=p.1
    · simp [putL,hk]
    · simp only [hk,if_false] at h
      simp only [putL,hk,if_false,List.map_cons,keys_put_old h]
theorem nodup_put {k:κ} {v:ν} {l:List (κ × ν)} (hn:(l.map (·.1)).Nodup):((putL k v l).map (·.1)).Nodup:=by
  cases h:getL k l with
  | none=>
    rw [put_new h,List.map_append]
    refine List.nodup_append.2 ⟨hn,by simp,?_⟩
    intro x hx y hy
    simp only [List.map_cons,List.map_nil,List.mem_singleton] at hy
    subst hy
    exact fun e=>getL_none.1 h (e▸hx)
  | some u=>rw [keys_put_old (by rw [h]; rfl)]; exact hn
theorem keys_del (k:κ):∀ l:List (κ × ν),((delL k l).map (·.1))=(l.map (·.1)).erase k
  | []=>rfl
  | p::l=>by
    by_cases hk:k=p.1
    · simp [delL,hk]
    · simp only [delL,hk,if_false,List.map_cons,keys_del k l]
      rw [List.erase_cons_tail (by simpa using fun e=>hk e.symm)]
theorem nodup_del {k:κ} {l:List (κ × ν)} (hn:(l.map (·.1)).Nodup):((delL k l).map (·.1)).Nodup:=by
  rw [keys_del]; exact hn.erase k
theorem getL_del {k k':κ}:∀ {l:List (κ × ν)},(l.map (·.1)).Nodup→getL k' (delL k l)=if k'=k then none else getL k' l
  | [],_=>by simp [delL,getL]
  | p::l,hn=>by
    rw [List.map_cons,List.nodup_cons] at hn
    by_cases hk:k=p.1
    · simp only [delL,hk,if_true,getL]
      by_cases h':k'=p.1
      · simp only [h',if_true]; exact getL_none.2 hn.1
      · simp [h']
    · simp only [delL,hk,if_false,getL,getL_del hn.2]
      by_cases h':k'=p.1
      · have hpk:¬ p.1=k:=fun e=>hk e.symm
        simp [h',hpk]
      · simp [h']
end
end Go.HL
