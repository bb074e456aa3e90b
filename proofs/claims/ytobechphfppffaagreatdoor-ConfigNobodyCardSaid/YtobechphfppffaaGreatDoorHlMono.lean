/- The heaplet logic, part 12: formulas are monotone; names for generated texts. -/
import Derived.Test.YtobechphfppffaaGreatDoorHlCode
import Derived.KernelRfl
set_option linter.unusedVariables false
set_option linter.unusedSimpArgs false
namespace Go.HL
open Go
section
variable {v:Value} {P:Program} {hp:HP}
theorem intV_mono {k} {c c':Int→Prop} (h:intV v k c) (hc:∀ n,c n→c' n):intV v k c':=by
  obtain ⟨n,e,k⟩:=intV_elim h; rw [e]; simp only [intV,if_true]; exact hc _ k
theorem strV_mono {c c':ByteArray→Prop} (h:strV v c) (hc:∀ n,c n→c' n):strV v c':=by
  obtain ⟨n,rfl,h⟩:=strV_elim h; exact hc _ h
theorem slcV_mono {c c':Option Addr→Nat→Nat→Prop} (h:slcV v c) (hc:∀ a n m,c a n m→c' a n m):slcV v c':=by
  obtain ⟨a,n,m,rfl,h⟩:=slcV_elim h; exact hc _ _ _ h
theorem aggV_mono {c c':List Value→Prop} (h:aggV v c) (hc:∀ n,c n→c' n):aggV v c':=by
  obtain ⟨n,rfl,h⟩:=aggV_elim h; exact hc _ h
theorem ifaceV_mono {c c':TypeId→Value→Prop} (h:ifaceV v c) (hc:∀ a b,c a b→c' a b):ifaceV v c':=by
  obtain ⟨a,b,rfl,h⟩:=ifaceV_elim h; exact hc _ _ h
theorem fnV_mono {c c':FuncId→List Value→List Value→Prop} (h:fnV v c) (hc:∀ f a b,c f a b→c' f a b):fnV v c':=by
  obtain ⟨f,a,b,rfl,h⟩:=fnV_elim h; exact hc _ _ _ h
theorem ptrN_mono {a} {c c':Nat→Nat→Prop} (h:ptrN a c) (hc:∀ b o,c b o→c' b o):ptrN a c':=by
  obtain ⟨b,o,rfl,h⟩:=ptrN_elim h; exact hc _ _ h
theorem ldV_mono {x} {c c':Value→Prop} (h:ldV x c) (hc:∀ v,c v→c' v):ldV x c':=by
  obtain ⟨v,rfl,h⟩:=ldV_elim h; exact hc _ h
theorem ldL_mono {x} {c c':List Value→Prop} (h:ldL x c) (hc:∀ v,c v→c' v):ldL x c':=by
  obtain ⟨v,rfl,h⟩:=ldL_elim h; exact hc _ h
theorem mthF_mono {t name} {c c':FuncId→Prop} (h:mthF P t name c) (hc:∀ v,c v→c' v):mthF P t name c':=by
  unfold mthF at h ⊢
  split at h
  · split at h
    · split at h
      · exact hc _ h
      · exact h.elim
      · exact hc _ h
      · exact h.elim
    · exact h.elim
  · exact h.elim
theorem CF_mono {f args} {c c':Value→HP→Prop} (h:CF P f args hp c) (hc:∀ v hp,c v hp→c' v hp):CF P f args hp c':=by
  rcases h with h | h
  · exact .inl ⟨h.1,h.2.mono hc⟩
  · exact .inr fun F w0 w hf=>let ⟨v,w',hp',a,b,k⟩:=h F w0 w hf; ⟨v,w',hp',a,b,hc _ _ k⟩
theorem rdS_mono {α:Type} {s:Sem α} {c c':α→Prop} (h:rdS P s hp c) (hc:∀ v,c v→c' v):rdS P s hp c':=
  let ⟨v,a,b⟩:=h; ⟨v,a,hc _ b⟩
theorem st_mono {b o v} {c c':HP→Prop} (h:hp.st b o v c) (hc:∀ hp,c hp→c' hp):hp.st b o v c':=by
  unfold HP.st at *; split at h
  · exact ⟨h.1,hc _ h.2⟩
  · exact h.elim
theorem stN_mono {b o v} {c c':HP→Prop} (h:hp.stN b o v c) (hc:∀ hp,c hp→c' hp):hp.stN b o v c':=by
  unfold HP.stN at *; split at h
  · exact ⟨h.1,h.2.1,hc _ h.2.2⟩
  · exact h.elim
theorem if_mono {p:Prop} [Decidable p] {c c':Prop} (h:if p then c else False) (hc:c→c'):if p then c' else False:=by
  split at h
  · rename_i hp; rw [if_pos hp]; exact hc h
  · exact h.elim
theorem semV_mono:∀ {s:Sem Value} {c c':Value→Prop},semV P s c→(∀ v,c v→c' v)→semV P s c'
  | .pure _,_,_,h,hc=>hc _ h
  | .program k,_,_,h,hc=>semV_mono (s:=k P) h hc
theorem ite2_t {b:Bool} {x y:Prop} (h:ite2 b x y) (e:b=true):x:=by subst e; exact h
theorem ite2_f {b:Bool} {x y:Prop} (h:ite2 b x y) (e:b=false):y:=by subst e; exact h
end
section
variable {P:Program} {N:Nat}
theorem AWP.condT {c a b} {Q:Post} {env pv hp} (hc:env c=some (.val (.bool true))) (h:AWP P N a Q env pv hp):AWP P N (.cond (.tmp c) a b) Q env pv hp:=
  AWP.cond hc (fun _=>h) (fun e=>by cases e)
theorem AWP.condF {c a b} {Q:Post} {env pv hp} (hc:env c=some (.val (.bool false))) (h:AWP P N b Q env pv hp):AWP P N (.cond (.tmp c) a b) Q env pv hp:=
  AWP.cond hc (fun e=>by cases e) (fun _=>h)
theorem AWP.condK {b:Bool} {x y} {Q:Post} {env pv hp} (h:AWP P N (match b with | true=>x | false=>y) Q env pv hp):AWP P N (.cond (.const (.bool b)) x y) Q env pv hp:=by
  intro F w0 nm tmps w hs hr
  have:=h F w0 nm tmps w hs hr
  cases b
  · exact wp_cond_false rfl this
  · exact wp_cond_true rfl this
end
abbrev V0:PV:=fun _=>none
end Go.HL
