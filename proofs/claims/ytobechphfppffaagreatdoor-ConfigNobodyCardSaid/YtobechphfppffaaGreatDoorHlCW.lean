/- The heaplet logic, part 30: what is asked of a piece of code, reckoned; functions' texts by its structure. -/
import Derived.Test.YtobechphfppffaaGreatDoorHlOrd2
import Derived.Test.YtobechphfppffaaGreatDoorHlMono
import Derived.Test.YtobechphfppffaaGreatDoorHlPth
set_option linter.unusedVariables false
set_option linter.unusedSimpArgs false
namespace Go.HL
open Go
set_option linter.unusedVariables false
set_option linter.unusedSectionVars false
inductive VK where
  | i (k:IntKind) | b | s | p | t | m | a | w
  | r (k off:Nat)
  | c (T:TypeId)
def VK.T:VK→Type→Type
  | .i _,X=>Int × X
  | .b,X=>Bool × X
  | .s,X=>Option Addr × Nat × Nat × X
  | .p,X=>Option Addr × X
  | .t,X=>ByteArray × X
  | .m,X=>Option Nat × X
  | .a,X=>List Value × X
  | .w,X=>Value × X
  | .r _ _,X=>X
  | .c _,X=>List Value × X
abbrev KS:=List (Nat × VK)
def AK:KS→Type
  | []=>Unit
  | (_,k)::ks=>k.T (AK ks)
def envA:(ks:KS)→AK ks→Env
  | [],_=>fun _=>none
  | (j,.i k)::ks,a=>upd (envA ks a.2) j (.val (.int k a.1))
  | (j,.b)::ks,a=>upd (envA ks a.2) j (.val (.bool a.1))
  | (j,.s)::ks,a=>upd (envA ks a.2.2.2) j (.val (.slice a.1 a.2.1 a.2.2.1))
  | (j,.p)::ks,a=>upd (envA ks a.2) j (.val (.pointer a.1))
  | (j,.t)::ks,a=>upd (envA ks a.2) j (.val (.string a.1))
  | (j,.m)::ks,a=>upd (envA ks a.2) j (.val (.map a.1))
  | (j,.a)::ks,a=>upd (envA ks a.2) j (.val (.agg ⟨a.1⟩))
  | (j,.w)::ks,a=>upd (envA ks a.2) j (.val a.1)
  | (j,.r k o)::ks,a=>upd (envA ks a) j (.priv k o)
  | (_,.c _)::ks,a=>envA ks a.2
def pvA:(ks:KS)→AK ks→PV
  | [],_=>fun _=>none
  | (_,.i _)::ks,a=>pvA ks a.2
  | (_,.b)::ks,a=>pvA ks a.2
  | (_,.s)::ks,a=>pvA ks a.2.2.2
  | (_,.p)::ks,a=>pvA ks a.2
  | (_,.t)::ks,a=>pvA ks a.2
  | (_,.m)::ks,a=>pvA ks a.2
  | (_,.a)::ks,a=>pvA ks a.2
  | (_,.w)::ks,a=>pvA ks a.2
  | (_,.r _ _)::ks,a=>pvA ks a
  | (j,.c T)::ks,a=>upd (pvA ks a.2) j (T,a.1)
def Rd:(ks:KS)→(AK ks→HP→Prop)→Env→PV→HP→Prop
  | [],J,_,_,hp=>J () hp
  | (j,.i k)::ks,J,env,pv,hp=>match env j with
    | some (.val (.int k' n))=>if k'=k then Rd ks (fun a=>J (n,a)) env pv hp else False
    | _=>False
  | (j,.b)::ks,J,env,pv,hp=>match env j with
    | some (.val (.bool n))=>Rd ks (fun a=>J (n,a)) env pv hp
    | _=>False
  | (j,.s)::ks,J,env,pv,hp=>match env j with
    | some (.val (.slice x n c))=>Rd ks (fun a=>J (x,n,c,a)) env pv hp
    | _=>False
  | (j,.p)::ks,J,env,pv,hp=>match env j with
    | some (.val (.pointer n))=>Rd ks (fun a=>J (n,a)) env pv hp
    | _=>False
  | (j,.t)::ks,J,env,pv,hp=>match env j with
    | some (.val (.string n))=>Rd ks (fun a=>J (n,a)) env pv hp
    | _=>False
  | (j,.m)::ks,J,env,pv,hp=>match env j with
    | some (.val (.map n))=>Rd ks (fun a=>J (n,a)) env pv hp
    | _=>False
  | (j,.a)::ks,J,env,pv,hp=>match env j with
    | some (.val (.agg n))=>Rd ks (fun a=>J (n.toList,a)) env pv hp
    | _=>False
  | (j,.w)::ks,J,env,pv,hp=>match env j with
    | some (.val n)=>Rd ks (fun a=>J (n,a)) env pv hp
    | _=>False
  | (j,.r k o)::ks,J,env,pv,hp=>match env j with
    | some (.priv k' o')=>if k'=k∧o'=o then Rd ks J env pv hp else False
    | _=>False
  | (j,.c T)::ks,J,env,pv,hp=>match pv j with
    | some (T',l)=>if T'=T then Rd ks (fun a=>J (l,a)) env pv hp else False
    | none=>False
theorem Rd_elim:∀ (ks:KS) {J:AK ks→HP→Prop} {env:Env} {pv:PV} {hp:HP},Rd ks J env pv hp→∃ a,Sub (envA ks a) env∧Sub (pvA ks a) pv∧J a hp
  | [],J,env,pv,hp,h=>⟨(),Sub.nil _,Sub.nil _,h⟩
  | (j,.i k)::ks,J,env,pv,hp,h=>by
    unfold Rd at h
    split at h
    · rename_i k' n e
      split at h
      · rename_i hk
        subst hk
        obtain ⟨a,h1,h2,h3⟩:=Rd_elim ks h
        exact ⟨(n,a),Sub.cons e h1,h2,h3⟩
      · exact h.elim
    · exact h.elim
  | (j,.b)::ks,J,env,pv,hp,h=>by
    unfold Rd at h
    split at h
    · rename_i n e
      obtain ⟨a,h1,h2,h3⟩:=Rd_elim ks h
      exact ⟨(n,a),Sub.cons e h1,h2,h3⟩
    · exact h.elim
  | (j,.s)::ks,J,env,pv,hp,h=>by
    unfold Rd at h
    split at h
    · rename_i x n c e
      obtain ⟨a,h1,h2,h3⟩:=Rd_elim ks h
      exact ⟨(x,n,c,a),Sub.cons e h1,h2,h3⟩
    · exact h.elim
  | (j,.p)::ks,J,env,pv,hp,h=>by
    unfold Rd at h
    split at h
    · rename_i n e
      obtain ⟨a,h1,h2,h3⟩:=Rd_elim ks h
      exact ⟨(n,a),Sub.cons e h1,h2,h3⟩
    · exact h.elim
  | (j,.t)::ks,J,env,pv,hp,h=>by
    unfold Rd at h
    split at h
    · rename_i n e
      obtain ⟨a,h1,h2,h3⟩:=Rd_elim ks h
      exact ⟨(n,a),Sub.cons e h1,h2,h3⟩
    · exact h.elim
  | (j,.m)::ks,J,env,pv,hp,h=>by
    unfold Rd at h
    split at h
    · rename_i n e
      obtain ⟨a,h1,h2,h3⟩:=Rd_elim ks h
      exact ⟨(n,a),Sub.cons e h1,h2,h3⟩
    · exact h.elim
  | (j,.a)::ks,J,env,pv,hp,h=>by
    unfold Rd at h
    split at h
    · rename_i n e
      obtain ⟨a,h1,h2,h3⟩:=Rd_elim ks h
      exact ⟨(n.toList,a),Sub.cons e h1,h2,h3⟩
    · exact h.elim
  | (j,.w)::ks,J,env,pv,hp,h=>by
    unfold Rd at h
    split at h
    · rename_i n e
      obtain ⟨a,h1,h2,h3⟩:=Rd_elim ks h
      exact ⟨(n,a),Sub.cons e h1,h2,h3⟩
    · exact h.elim
  | (j,.r k o)::ks,J,env,pv,hp,h=>by
    unfold Rd at h
    split at h
    · rename_i k' o' e
      split at h
      · rename_i hk
        obtain ⟨rfl,rfl⟩:=hk
        obtain ⟨a,h1,h2,h3⟩:=Rd_elim ks h
        exact ⟨a,Sub.cons e h1,h2,h3⟩
      · exact h.elim
    · exact h.elim
  | (j,.c T)::ks,J,env,pv,hp,h=>by
    unfold Rd at h
    split at h
    · rename_i T' l e
      split at h
      · rename_i hk
        subst hk
        obtain ⟨a,h1,h2,h3⟩:=Rd_elim ks h
        exact ⟨(l,a),h1,Sub.cons e h2,h3⟩
      · exact h.elim
    · exact h.elim
def okK (ks:KS):Bool:=ks.all fun x=>match x.2 with | .r k _=>ks.any fun y=>y.1==k&&(match y.2 with | .c _=>true | _=>false) | _=>true
theorem upd_ref {env:Env} {j:Nat} {v:Value} {i k o:Nat} (h:upd env j (.val v) i=some (.priv k o)):env i=some (.priv k o):=by
  by_cases e:i=j
  · subst e; rw [upd_eq] at h; cases h
  · rwa [upd_ne _ _ e] at h
theorem env_ref:∀ (ks:KS) (a:AK ks) {i k o:Nat},envA ks a i=some (.priv k o)→(i,VK.r k o)∈ks
  | [],_,_,_,_,h=>by cases h
  | (j,.i _)::ks,a,i,k,o,h=>List.mem_cons_of_mem _ (env_ref ks _ (upd_ref h))
  | (j,.b)::ks,a,i,k,o,h=>List.mem_cons_of_mem _ (env_ref ks _ (upd_ref h))
  | (j,.s)::ks,a,i,k,o,h=>List.mem_cons_of_mem _ (env_ref ks _ (upd_ref h))
  | (j,.p)::ks,a,i,k,o,h=>List.mem_cons_of_mem _ (env_ref ks _ (upd_ref h))
  | (j,.t)::ks,a,i,k,o,h=>List.mem_cons_of_mem _ (env_ref ks _ (upd_ref h))
  | (j,.m)::ks,a,i,k,o,h=>List.mem_cons_of_mem _ (env_ref ks _ (upd_ref h))
  | (j,.a)::ks,a,i,k,o,h=>List.mem_cons_of_mem _ (env_ref ks _ (upd_ref h))
  | (j,.w)::ks,a,i,k,o,h=>List.mem_cons_of_mem _ (env_ref ks _ (upd_ref h))
  | (j,.c _)::ks,a,i,k,o,h=>List.mem_cons_of_mem _ (env_ref ks a.2 h)
  | (j,.r k' o')::ks,a,i,k,o,h=>by
    have h':upd (envA ks a) j (.priv k' o') i=some (.priv k o):=h
    by_cases e:i=j
    · subst e
      rw [upd_eq] at h'
      cases h'
      exact List.mem_cons_self ..
    · rw [upd_ne _ _ e] at h'
      exact List.mem_cons_of_mem _ (env_ref ks a h')
theorem pv_has:∀ (ks:KS) (a:AK ks) {k:Nat} {T:TypeId},(k,VK.c T)∈ks→pvA ks a k≠none
  | [],_,_,_,h=>by cases h
  | (j, .i _) :: ks, a, k, T, h => pv_has ks a.2 (by rcases List.mem_cons.1 h with e | h; · cases e
                                                     · exact h)
  | (j, .b) :: ks, a, k, T, h => pv_has ks a.2 (by rcases List.mem_cons.1 h with e | h; · cases e
                                                   · exact h)
  | (j, .s) :: ks, a, k, T, h => pv_has ks a.2.2.2 (by rcases List.mem_cons.1 h with e | h; · cases e
                                                       · exact h)
  | (j, .p) :: ks, a, k, T, h => pv_has ks a.2 (by rcases List.mem_cons.1 h with e | h; · cases e
                                                   · exact h)
  | (j, .t) :: ks, a, k, T, h => pv_has ks a.2 (by rcases List.mem_cons.1 h with e | h; · cases e
                                                   · exact h)
  | (j, .m) :: ks, a, k, T, h => pv_has ks a.2 (by rcases List.mem_cons.1 h with e | h; · cases e
                                                   · exact h)
  | (j, .a) :: ks, a, k, T, h => pv_has ks a.2 (by rcases List.mem_cons.1 h with e | h; · cases e
                                                   · exact h)
  | (j, .w) :: ks, a, k, T, h => pv_has ks a.2 (by rcases List.mem_cons.1 h with e | h; · cases e
                                                   · exact h)
  | (j, .r _ _) :: ks, a, k, T, h => pv_has ks a (by rcases List.mem_cons.1 h with e | h; · cases e
                                                     · exact h)
  | (j,.c T')::ks,a,k,T,h=>by
    show upd (pvA ks a.2) j (T',a.1) k≠none
    by_cases e:k=j
    · subst e; rw [upd_eq]; exact fun h=>by cases h
    · rw [upd_ne _ _ e]
      refine pv_has ks a.2 (T:=T) ?_
      rcases List.mem_cons.1 h with e' | h
      · cases e'; exact absurd rfl e
      · exact h
theorem okK_ref {ks:KS} (h:okK ks=true) (a:AK ks):RefOk (envA ks a) (pvA ks a):=by
  intro i k o hi
  have hm:=env_ref ks a hi
  unfold okK at h
  have:=List.all_eq_true.1 h _ hm
  simp only at this
  obtain ⟨y,hy,e⟩:=List.any_eq_true.1 this
  obtain ⟨y1,y2⟩:=y
  simp only [Bool.and_eq_true,beq_iff_eq] at e
  obtain ⟨rfl,e⟩:=e
  cases y2 with
  | c T=>exact pv_has ks a hy
  | _=>simp at e
section
variable {P:Program} {N:Nat} {prv:List Nat}
def allP (R:List Nat→Prop):List (List Bool × Bool × List Nat)→Prop
  | []=>True
  | (_,false,_)::c=>allP R c
  | [(_,true,l)]=>R l
  | (_,true,l)::c=>R l∧allP R c
theorem allP_mem {R:List Nat→Prop}:∀ {c:List (List Bool × Bool × List Nat)},allP R c→∀ s l,(s,true,l)∈c→R l
  | [],_,_,_,h=>by cases h
  | (_,false,_)::c,h,s,l,hm=>by
    rcases List.mem_cons.1 hm with e | hm
    · cases e
    · exact allP_mem (c:=c) (by unfold allP at h; exact h) s l hm
  | [(_,true,_)],h,s,l,hm=>by
    rcases List.mem_cons.1 hm with e | hm
    · cases e; exact h
    · cases hm
  | (_,true,_)::d::c,h,s,l,hm=>by
    have h':=h
    unfold allP at h'
    rcases List.mem_cons.1 hm with e | hm
    · cases e; exact h'.1
    · exact allP_mem (c:=d::c) h'.2 s l hm
def certOk (P:Program) (prv:List Nat) (ops:Array Oper) (cf:List (Nat × Nat)) (c:List (List Bool × Bool × List Nat)):Bool:=
  P.follows .mixedOrders&&certD P prv ops cf c&&(vecs cf.length).all (fun s=>c.any (·.1==s))&&cf.all (fun (x,y)=>x != y&&decide (x<ops.size)&&decide (y<ops.size))
def cond2 (s:Option SV) (a b:Prop):Prop:=match s with | some (.val (.bool t))=>ite2 t a b | _=>False
def CW (P:Program) (N:Nat) (prv:List Nat) (ct:List (Nat × List (Nat × Nat) × List (List Bool × Bool × List Nat))):Code→Post→Env→PV→HP→Prop
  | .skip,Q,env,pv,hp=>Q .normal env pv hp
  | .ret,Q,env,pv,hp=>Q .ret env pv hp
  | .exit id,Q,env,pv,hp=>Q (.exit id) env pv hp
  | .seq a b,Q,env,pv,hp=>CW P N prv ct a (fun x env pv hp=>match x with | .normal=>CW P N prv ct b Q env pv hp | x=>Q x env pv hp) env pv hp
  | .cond o a b,Q,env,pv,hp=>match o with
    | .tmp t=>cond2 (env t) (CW P N prv ct a Q env pv hp) (CW P N prv ct b Q env pv hp)
    | .const (.bool true)=>CW P N prv ct a Q env pv hp
    | .const (.bool false)=>CW P N prv ct b Q env pv hp
    | _=>False
  | .block id a,Q,env,pv,hp=>CW P N prv ct a (fun x env pv hp=>match x with | .exit id'=>if id'=id then Q .normal env pv hp else Q (.exit id') env pv hp | x=>Q x env pv hp) env pv hp
  | .region id ops dr,Q,env,pv,hp=>match dr with
    | false=>RW P N prv ops (List.range ops.size) env pv hp fun env pv hp=>Q .normal env pv hp
    | true=>match ct.lookup id with
      | some (cf,c)=>match certOk P prv ops cf c with
        | true=>allP (fun l=>RW P N prv ops l env pv hp fun env pv hp=>Q .normal env pv hp) c
        | false=>False
      | none=>match certOk P prv ops [] [([],true,List.range ops.size)] with
        | true=>RW P N prv ops (List.range ops.size) env pv hp fun env pv hp=>Q .normal env pv hp
        | false=>False
  | .loop _,_,_,_,_=>False
  | .rangeFunc _ _ _ _,_,_,_,_=>False
  | .scope _,_,_,_,_=>False
  | .label _,_,_,_,_=>False
  | .goto _,_,_,_,_=>False
  | .refuse _,_,_,_,_=>False
theorem cond2_elim {s:Option SV} {a b:Prop} (h:cond2 s a b):∃ t,s=some (.val (.bool t))∧(t=true→a)∧(t=false→b):=by
  unfold cond2 at h
  split at h
  · rename_i t
    exact ⟨t,rfl,fun e=>ite2_t h e,fun e=>ite2_f h e⟩
  · exact h.elim
theorem certOk_drawn {id:Nat} {ops:Array Oper} {cf:List (Nat × Nat)} {c:List (List Bool × Bool × List Nat)} {Q:Post} {env pv hp} (h:certOk P prv ops cf c=true)
    (hR:∀ s l,(s,true,l)∈c→RW P N prv ops l env pv hp fun env pv hp=>Q .normal env pv hp):AWP P N (.region id ops true) Q env pv hp:=by
  unfold certOk at h
  simp only [Bool.and_eq_true] at h
  obtain ⟨⟨⟨h1,h2⟩,h3⟩,h4⟩:=h
  exact AWP.drawE h1 h2 h3 h4 hR
theorem CW_sound {ct}:∀ (c:Code) {Q:Post} {env:Env} {pv:PV} {hp:HP},CW P N prv ct c Q env pv hp→AWP P N c Q env pv hp
  | .skip,_,_,_,_,h=>AWP.skip h
  | .ret,_,_,_,_,h=>AWP.ret h
  | .exit id,_,_,_,_,h=>AWP.exit h
  | .seq a b,Q,env,pv,hp,h=>by
    unfold CW at h
    exact AWP.seq (fun env pv hp=>CW P N prv ct b Q env pv hp) (CW_sound a h) fun _ _ _ h=>CW_sound b h
  | .cond o a b,Q,env,pv,hp,h=>by
    unfold CW at h
    split at h
    · obtain ⟨t',e,ha,hb⟩:=cond2_elim h
      exact AWP.cond e (fun e=>CW_sound a (ha e)) fun e=>CW_sound b (hb e)
    · exact AWP.condK (CW_sound a h)
    · exact AWP.condK (CW_sound b h)
    · exact h.elim
  | .block id a,Q,env,pv,hp,h=>by
    unfold CW at h
    exact AWP.block (CW_sound a h)
  | .region id ops dr,Q,env,pv,hp,h=>by
    unfold CW at h
    cases dr with
    | false=>exact AWP.region h
    | true=>
      simp only at h
      split at h
      · rename_i cf c _
        split at h
        · rename_i hc
          exact certOk_drawn hc (allP_mem h)
        · exact h.elim
      · split at h
        · rename_i hc
          refine certOk_drawn hc fun s l hm=>?_
          simp only [List.mem_singleton,Prod.mk.injEq,true_and] at hm
          obtain ⟨_,rfl⟩:=hm
          exact h
        · exact h.elim
  | .loop _,_,_,_,_,h=>by unfold CW at h; exact h.elim
  | .rangeFunc _ _ _ _,_,_,_,_,h=>by unfold CW at h; exact h.elim
  | .scope _,_,_,_,_,h=>by unfold CW at h; exact h.elim
  | .label _,_,_,_,_,h=>by unfold CW at h; exact h.elim
  | .goto _,_,_,_,_,h=>by unfold CW at h; exact h.elim
  | .refuse _,_,_,_,_,h=>by unfold CW at h; exact h.elim
def Snd (P:Program) (N:Nat) (c:Code) (Q:Post) (T:Env→PV→HP→Prop):Prop:=∀ env pv hp,T env pv hp→AWP P N c Q env pv hp
abbrev thn (Q:Post) (M:Env→PV→HP→Prop):Post:=fun x env pv hp=>match x with | .normal=>M env pv hp | x=>Q x env pv hp
abbrev blk (id:Nat) (Q:Post):Post:=fun x env pv hp=>match x with | .exit id'=>if id'=id then Q .normal env pv hp else Q (.exit id') env pv hp | x=>Q x env pv hp
variable {Q:Post}
theorem Snd.leaf {c:Code} {ct}:Snd P N c Q (CW P N prv ct c Q):=fun _ _ _ h=>CW_sound c h
theorem Snd.seq {a b:Code} {A B:Env→PV→HP→Prop} (ha:Snd P N a (thn Q B) A) (hb:Snd P N b Q B):Snd P N (.seq a b) Q A:=
  fun env pv hp h=>AWP.seq B (ha env pv hp h) hb
theorem Snd.cond (t:Nat) {a b:Code} {A B:Env→PV→HP→Prop} (ha:Snd P N a Q A) (hb:Snd P N b Q B):Snd P N (.cond (.tmp t) a b) Q fun env pv hp=>cond2 (env t) (A env pv hp) (B env pv hp):=
  fun env pv hp h=>let ⟨_,e,h1,h2⟩:=cond2_elim h; AWP.cond e (fun e=>ha env pv hp (h1 e)) fun e=>hb env pv hp (h2 e)
theorem Snd.block (id:Nat) {a:Code} {A:Env→PV→HP→Prop} (ha:Snd P N a (blk id Q) A):Snd P N (.block id a) Q A:=fun env pv hp h=>AWP.block (ha env pv hp h)
theorem Snd.rd {c:Code} {ks:KS} (hk:okK ks=true) {J:AK ks→HP→Prop} (h:∀ a hp,J a hp→AWP P N c Q (envA ks a) (pvA ks a) hp):Snd P N c Q (Rd ks J):=fun env pv hp hr=>by
  obtain ⟨a,h1,h2,h3⟩:=Rd_elim ks hr
  exact AWP.sub (h a hp h3) (okK_ref hk a) h1 h2 (HSub.refl _)
theorem Snd.jn {a b:Code} {A B:Env→PV→HP→Prop} (ks:KS) (J:AK ks→HP→Prop) (ha:Snd P N a (thn Q (Rd ks J)) A) (hb:Snd P N b Q B) (hk:okK ks=true)
    (e:(fun a hp=>B (envA ks a) (pvA ks a) hp)=J):Snd P N (.seq a b) Q A:=
  Snd.seq ha (Snd.rd hk fun a hp h=>hb _ _ _ (by subst e; exact h))
theorem okF {f:FuncId} {fn:Func} {c:Code} {args:List Value} {hp:HP} {K:Value→HP→Prop} {T:Env→PV→HP→Prop} {X:Prop} (h:X) (hf:P.funcs[f]?=some fn)
    (S:Snd P N c (retPost P fn.results.toList K) T) (hx:(bodied P f&&Nat.beq fn.ntmps N&&Nat.ble args.length N)=true) (hb:fn.body=some c) (e:T (argEnv args) (fun _=>none) hp=X):CF P f args hp K:=by
  simp only [Bool.and_eq_true] at hx
  obtain ⟨⟨h1,h2⟩,h3⟩:=hx
  exact .inl ⟨h1,AC.intro (N:=N) hf hb (Nat.eq_of_beq_eq_true h2) (Nat.le_of_ble_eq_true h3) (S _ _ _ (e▸h))⟩
end
def cAt (f:Func) (p:List Nat):Code:=codeAt (bodyOf f) p
end Go.HL
