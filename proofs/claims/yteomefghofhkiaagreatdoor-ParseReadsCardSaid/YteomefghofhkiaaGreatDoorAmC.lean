/- The abstract machine, third part: drawn regions, loops, functions, frames. -/
import Derived.Test.YteomefghofhkiaaGreatDoorAmB
import Derived.Below
set_option linter.unusedSectionVars false
set_option linter.unusedVariables false
set_option linter.unusedSimpArgs false
namespace Go.AM
theorem Inv.weak{T:Tab}{C:Ctx}{g:Ghost}{env env':Env}{S:St}{a:Act}{w:World}(h:Inv T C g env S a w)(he:∀ t,env'.get t= .undef∨env'.get t=env.get t):Inv T C g env' S a w:=
 ⟨fun t=>by
   rcases he t with e|e
   ·rw[e];exact .undef _ _
   ·rw[e];exact h.tmp t,h.size,h.defers,h.rel,h.ext,h.ob,h.tb,h.glob,h.nm,h.next⟩
def rebase(C:Ctx)(g:Ghost)(S:St)(w:World):Ctx:={ n:=C.n,w0:=w,g0:=g,next:=S.next,touch:=fun b=>C.touch b∨C.w0.heap.size≤b,defers:=C.defers }
theorem Inv.rebase{T:Tab}{C:Ctx}{g:Ghost}{env:Env}{S:St}{a:Act}{w:World}(h:Inv T C g env S a w):Inv T (rebase C g S w) g env S a w:=
 ⟨h.tmp,h.size,h.defers,h.rel,.refl _ _ _,fun o b q=> .inl (h.ob o b q),fun k tk b q q'=> .inl (h.tb k tk b q q'),h.glob,fun o b q=> .inl q,Nat.le_refl _⟩
theorem Inv.unbase{T:Tab}{C:Ctx}{g g':Ghost}{env env':Env}{S S':St}{a a':Act}{w w':World}(h0:Inv T C g env S a w)(h:Inv T (AM.rebase C g S w) g' env' S' a' w') :
 Inv T C g' env' S' a' w'∧(∀ o b,g'.ρ o=some b→g.ρ o=some b∨S.next≤o)∧S.next≤S'.next:=by
 have ht:∀ b,((C.touch b∨C.w0.heap.size≤b)∨w.heap.size≤b)→C.touch b∨C.w0.heap.size≤b:=by
  rintro b (q|q)
  ·exact q
  ·exact .inr (Nat.le_trans h0.ext.size q)
 refine⟨⟨h.tmp,h.size,h.defers,h.rel,h0.ext.trans h.ext,fun o b q=>ht b (h.ob o b q),fun k tk b q q'=>ht b (h.tb k tk b q q'),h.glob,fun o b q=>?_,Nat.le_trans h0.next h.next⟩,h.nm,h.next⟩
 rcases h.nm o b q with q|q
 ·exact h0.nm o b q
 ·exact .inr (Nat.le_trans h0.next q)
theorem qo(env:Env)(d:Option Tmp)(v:AV)(t:Tmp):(xi env d v).get t=if d=some t then v else env.get t:=by
 cases d with
 |none=>simp[xi]
 |some d=>
  simp only[xi,zbb,Option.some.injEq]
theorem va3{P:Program}{T:Tab}{N:Nat}{all:List Oper}{env:Env}{S:St}:∀ {l:List Nat} {k:Prop},zp (pAlg P T N) T all env S l k →
 k∧∀ i,i ∈ l→∃ o,all[i]? =some o∧((∃ j want b,o.guard=some (j,want)∧ql all env j=b∧NotW b want)∨∃ d,o.dst=some d∧match yf T env S o.op with
  |.ok v=>v=env.get d
  |.need b v=>b=true∧v=env.get d
  |.new row=>∃ ob off,env.get d= .ptr ob off∧S.row ob=row
  |.no=>False)
 | [],k,h=>⟨h,by simp⟩
 |i::l,k,h=>by
  simp only[zp] at h
  cases ho:opAt all i with
  |none=>rw[ho] at h;exact h.elim
  |some o=>
   rw[ho] at h
   have ho':all[i]? =some o:=by rw[← xa5];exact ho
   have fin:∀ k':Prop,k'=zp (pAlg P T N) T all env S l k→((∃ j want b,o.guard=some (j,want)∧ql all env j=b∧NotW b want)∨∃ d,o.dst=some d∧match yf T env S o.op with
    |.ok v=>v=env.get d
    |.need b v=>b=true∧v=env.get d
    |.new row=>∃ ob off,env.get d= .ptr ob off∧S.row ob=row
    |.no=>False)→k'→k∧∀ p,p ∈ i::l→∃ o,all[p]? =some o∧((∃ j want b,o.guard=some (j,want)∧ql all env j=b∧NotW b want)∨∃ d,o.dst=some d∧match yf T env S o.op with
    |.ok v=>v=env.get d
    |.need b v=>b=true∧v=env.get d
    |.new row=>∃ ob off,env.get d= .ptr ob off∧S.row ob=row
    |.no=>False):=by
    rintro k' rfl hc hk
    obtain⟨h1,h2⟩:=va3 hk
    refine⟨h1,fun p hp=>?_⟩
    rcases List.mem_cons.1 hp with rfl|hp
    ·exact⟨o,ho',hc⟩
    ·exact h2 p hp
   have run:xai (pAlg P T N) T env S o (zp (pAlg P T N) T all env S l k)→k∧∀ p,p ∈ i::l→∃ o,all[p]? =some o∧((∃ j want b,o.guard=some (j,want)∧ql all env j=b∧NotW b want)∨∃ d,o.dst=some d∧match yf T env S o.op with
    |.ok v=>v=env.get d
    |.need b v=>b=true∧v=env.get d
    |.new row=>∃ ob off,env.get d= .ptr ob off∧S.row ob=row
    |.no=>False):=by
    intro h
    unfold xai at h
    cases hd:o.dst with
    |none=>rw[hd] at h;exact h.elim
    |some d=>
     rw[hd] at h
     simp only at h
     cases hp:yf T env S o.op with
     |ok v=>rw[hp] at h;exact fin _ rfl (.inr ⟨d,hd,by rw[hp];exact h.1⟩) h.2
     |need b v=>rw[hp] at h;exact fin _ rfl (.inr ⟨d,hd,by rw[hp];exact⟨h.1,h.2.1⟩⟩) h.2.2
     |new row=>
      rw[hp] at h
      simp only at h
      split at h
      ·rename_i ob off hv
       exact fin _ rfl (.inr ⟨d,hd,by rw[hp];exact⟨ob,off,hv,by have:=h.1;simpa using this⟩⟩) h.2
      ·exact h.elim
     |no=>rw[hp] at h;exact h.elim
   simp only[jdx] at h
   cases hg:o.guard with
   |none=>rw[hg] at h;exact run h
   |some jw=>
    obtain⟨j,want⟩:=jw
    rw[hg] at h
    simp only at h
    split at h
    ·rename_i b hb
     cases b<;>cases want
     ·exact run h
     ·exact fin _ rfl (.inl ⟨j,true,.bool false,hg,hb,.inr rfl⟩) h
     ·exact fin _ rfl (.inl ⟨j,false,.bool true,hg,hb,.inr rfl⟩) h
     ·exact run h
    ·rename_i hb
     exact fin _ rfl (.inl ⟨j,want,.tup [],hg,hb,.inl rfl⟩) h
    ·exact h.elim
section
variable {P:Program} {T:Tab} {C:Ctx} {N:Nat} {ops:Array Oper} {order:List Nat} {fl:List (Nat × List Nat)} {m:List Nat} {Pa:AV→St→Prop} {K:Env→St→Prop} {Q:Exit→Act→World→Prop}
def zm(listed:Array Bool)(i:Nat):Prop:=listed.getD i false=true
structure Sim (P:Program) (T:Tab) (C:Ctx) (N:Nat) (ops:Array Oper) (order:List Nat) (fl:List (Nat × List Nat)) (Pa:AV→St→Prop) (K:Env→St→Prop)
 (pre rest:List Nat) (env menv:Env) (S:St) (g:Ghost) (nm:Nat→Option Nat) (listed:Array Bool) (a:Act) (w:World):Prop where
 split:order=pre++rest
 hx:xops (pAlg P T N) T ops.toList fl Pa K (yt ops.toList rest) env S
 size:listed.size=ops.size
 later:∀ i,i ∈ rest→¬ zm listed i
 closed:∀ i o,ops.toList[i]? =some o→zm listed i→∀ e,e ∈ qad o→zm listed e
 inv:Inv T C g menv S a w
 agree:∀ t,(∀ p o,p ∈ pre→¬ zm listed p→ops.toList[p]? =some o→o.dst≠some t)→menv.get t=env.get t
 owed:∀ p o,p ∈ pre→¬ zm listed p→ops.toList[p]? =some o→Owed T C ops.toList env S g (nm p) o
 inj:∀ p q n,nm p=some n→nm q=some n→p=q
 lt:∀ p n,nm p=some n→n<S.next
theorem yev{T:Tab}{env env':Env}(x:Operand)(h:∀ t,x= .tmp t→env.get t=env'.get t):ev T env x=ev T env' x:=by
 cases x with
 |tmp t=>exact h t rfl
 |_=>rfl
theorem jam{T:Tab}{env env':Env}{all:List Oper}{o:Oper}(h:∀ t,t ∈ looks all o→env.get t=env'.get t):zcy T env env' o.op:=by
 intro x hx
 refine yev x fun t ht=>h t ?_
 subst ht
 exact List.mem_append_left _ (List.mem_filterMap.2 ⟨.tmp t,hx,rfl⟩)
theorem zr{env env':Env}{all:List Oper}{o:Oper}{j:Nat}{want:Bool}(hg:o.guard=some (j,want))(h:∀ t,t ∈ looks all o→env.get t=env'.get t):ql all env j=ql all env' j:=by
 unfold ql
 rw[xa5]
 cases hj:all[j]? with
 |none=>rfl
 |some p=>
  cases hd:p.dst with
  |none=>simp[hd]
  |some d=>
   simp only[hd]
   exact h d (List.mem_append_right _ (by simp[zcu,hg,hj,hd]))
theorem Owed.keep{T:Tab}{C:Ctx}{all:List Oper}{env env':Env}{S S':St}{g g':Ghost}{ob:Option Nat}{o:Oper}(h:Owed T C all env S g ob o)(he:∀ t,t ∈ looks all o→env'.get t=env.get t)
 (hd:∀ d,o.dst=some d→env'.get d=env.get d) (hS:qap T C env S g ob o→qap T C env S' g' ob o):Owed T C all env' S' g' ob o:=by
 obtain⟨h1,h2⟩:=h
 refine⟨h1,?_⟩
 rcases h2 with ⟨j,want,b,hg,hy,hne,hu⟩|⟨hg,hr⟩
 ·exact .inl ⟨j,want,b,hg,by rw[zr hg he];exact hy,hne,fun d q=>by rw[hd d q];exact hu d q⟩
 ·refine .inr ⟨?_,?_⟩
  ·rcases hg with hg|⟨j,want,hg,hy⟩
   ·exact .inl hg
   ·exact .inr ⟨j,want,hg,by rw[zr hg he];exact hy⟩
  ·have:=hS hr
   unfold qap at this ⊢
   rw[xz (jam he)]
   generalize yf T env S' o.op=r at this ⊢
   cases r with
   |ok v=>exact fun d q=>by rw[hd d q];exact this d q
   |need b v=>exact⟨this.1,fun d q=>by rw[hd d q];exact this.2 d q⟩
   |new row=>
    obtain⟨n,hn,h1,h2⟩:=this
    exact⟨n,hn,fun d q=>by rw[hd d q];exact h1 d q,h2⟩
   |no=>exact this.elim
theorem va8{all:List Oper}{i:Nat}{l:List Nat}{o:Oper}(h:all[i]? =some o):yt all (i::l)=(i,o)::yt all l:=by
 simp[yt,xa5,h]
theorem Sim.fenced{pre rest:List Nat}{env menv:Env}{S:St}{g:Ghost}{nm:Nat→Option Nat}{listed:Array Bool}{a:Act}{w:World}(h:Sim P T C N ops order fl Pa K pre rest env menv S g nm listed a w)(hD:DrawOk ops.toList order fl m){e q:Nat}{oe:Oper}(he1:e ∈ pre)(he2:ops.toList[e]? =some oe)(he3:zah oe.op=true)(he4:jag m e q=true):zm listed q:=by
 have hle:zm listed e:=by
  by_cases hl:zm listed e
  ·exact hl
  ·have:=(h.owed e oe he1 hl he2).1
   rw[he3] at this
   cases this
 exact hD.before h.closed e oe he2 (h.closed e oe he2 hle) q he4
theorem Sim.advance(hD:DrawOk ops.toList order fl m):∀(rest pre:List Nat) (env menv:Env) (S:St) (g:Ghost) (nm:Nat→Option Nat) (listed:Array Bool) (a:Act) (w:World),
 Sim P T C N ops order fl Pa K pre rest env menv S g nm listed a w →
 ∃ pre' rest' env' menv' S' nm',Sim P T C N ops order fl Pa K pre' rest' env' menv' S' g nm' listed a w∧(rest'=[]∨∃ i o l,rest'=i::l∧ops.toList[i]? =some o∧zah o.op=true):=by
 intro rest
 induction rest with
 |nil=>intro pre env menv S g nm listed a w h;exact⟨pre,[],env,menv,S,nm,h,.inl rfl⟩
 |cons i rest ih=>
  intro pre env menv S g nm listed a w h
  obtain⟨o,st⟩:=hD.step pre i rest h.split
  cases he:zah o.op with
  |true=>exact⟨pre,i::rest,env,menv,S,nm,h,.inr ⟨i,o,rest,rfl,st.op,he⟩⟩
  |false=>
   have hfl:=st.pure he
   have hx:=h.hx
   rw[va8 st.op] at hx
   have hsplit:order=(pre++[i])++rest:=by rw[h.split];simp
   have hni:∀ p,p ∈ pre→p≠i:=fun p hp e=>st.new (e ▸ hp)
   have hmask:∀ env':Env,Inv T C g (xi menv o.dst .undef) S a w:=fun _=>h.inv.weak fun t=>by
    rw[qo]
    by_cases hd:o.dst=some t
    ·rw[if_pos hd];exact .inl rfl
    ·rw[if_neg hd];exact .inr rfl
   have go:∀(v:AV) (S':St) (nm':Nat→Option Nat),Inv T C g (xi menv o.dst .undef) S' a w→xops (pAlg P T N) T ops.toList fl Pa K (yt ops.toList rest) (xi env o.dst v) S' →
    (∀ p o',p ∈ pre→ops.toList[p]? =some o'→nm' p=nm p∧∀ ob,qap T C env S g ob o'→qap T C env S' g ob o') →
    Owed T C ops.toList (xi env o.dst v) S' g (nm' i) o →
    (∀ p q n,nm' p=some n→nm' q=some n→p=q)→(∀ p n,nm' p=some n→n<S'.next) →
    Sim P T C N ops order fl Pa K (pre++[i]) rest (xi env o.dst v) (xi menv o.dst .undef) S' g nm' listed a w:=by
    intro v S' nm' hI hk hpre how hinj hlt
    refine⟨hsplit,hk,h.size,fun j hj=>h.later j (List.mem_cons_of_mem _ hj),h.closed,hI,?_,?_,hinj,hlt⟩
    ·intro t ht
     have h1:o.dst≠some t:=ht i o (by simp) (h.later i (by simp)) st.op
     rw[qo,if_neg h1,qo,if_neg h1]
     exact h.agree t fun p o' hp hl ho'=>ht p o' (by simp[hp]) hl ho'
    ·intro p o' hp hl ho'
     rcases List.mem_append.1 hp with hp|hp
     ·obtain⟨e1,e2⟩:=hpre p o' hp ho'
      rw[e1]
      refine(h.owed p o' hp hl ho').keep (fun t ht=>?_) (fun d hd=>?_) (e2 _)
      ·rw[qo,if_neg ?_]
       rcases st.old p o' hp ho' with q|⟨e,oe,he1,he2,he3,he4⟩
       ·exact q t ht
       ·exact absurd (h.fenced hD he1 he2 he3 he4) hl
      ·rw[qo,if_neg fun e=>st.dst d e p o' (hni p hp) ho' hd]
     ·have:p=i:=by simpa using hp
      subst this
      have:o'=o:=by have:=ho'.symm.trans st.op;simpa using this
      subst this
      exact how
   have own:∀(v:AV) t,t ∈ looks ops.toList o→(xi env o.dst v).get t=env.get t:=fun v t ht=>by rw[qo,if_neg (st.own t ht)]
   have own_d:∀(v:AV) d,o.dst=some d→(xi env o.dst v).get d=v:=fun v d hd=>by rw[qo,if_pos hd]
   have run:xop (pAlg P T N) T env S o.op Pa (fun v S'=>zp (pAlg P T N) T ops.toList env S' (yr fl i) (xops (pAlg P T N) T ops.toList fl Pa K (yt ops.toList rest) (xi env o.dst v) S')) →
    (o.guard=none∨∃ j want,o.guard=some (j,want)∧ql ops.toList env j= .bool want) →
    ∃ v S' nm',Sim P T C N ops order fl Pa K (pre++[i]) rest (xi env o.dst v) (xi menv o.dst .undef) S' g nm' listed a w:=by
    intro hx hg
    have hno:=qd8 he hx
    have hg':∀ v,o.guard=none∨∃ j want,o.guard=some (j,want)∧ql ops.toList (xi env o.dst v) j= .bool want:=fun v=>by
     rcases hg with hg|⟨j,want,hg,hy⟩
     ·exact .inl hg
     ·exact .inr ⟨j,want,hg,by rw[zr hg (own v)];exact hy⟩
    unfold xop at hx
    rw[hfl] at hx
    cases hp:yf T env S o.op with
    |no=>exact absurd hp hno
    |ok v=>
     rw[hp] at hx
     refine⟨v,S,nm,go v S nm (hmask env) hx (fun _ _ _ _=>⟨rfl,fun _ h=>h⟩) ⟨he,.inr ⟨hg' v,?_⟩⟩ h.inj h.lt⟩
     unfold qap
     rw[xz (jam (own v)),hp]
     exact own_d v
    |need b v=>
     rw[hp] at hx
     refine⟨v,S,nm,go v S nm (hmask env) hx.2 (fun _ _ _ _=>⟨rfl,fun _ h=>h⟩) ⟨he,.inr ⟨hg' v,?_⟩⟩ h.inj h.lt⟩
     unfold qap
     rw[xz (jam (own v)),hp]
     exact⟨hx.1,own_d v⟩
    |new row=>
     rw[hp] at hx
     have hrow:(S.push row).row S.next=row:=by rw[yat,if_pos rfl]
     refine⟨.ptr S.next 0,S.push row,fun q=>if q=i then some S.next else nm q,go _ _ _ ((hmask env).push row) hx (fun p o' hp' ho'=>⟨if_neg (hni p hp'),fun ob hr=>?_⟩) ⟨he,.inr ⟨hg' _,?_⟩⟩ ?_ ?_⟩
     ·unfold qap at hr ⊢
      have hne:yf T env S o'.op≠ .no:=fun e=>by rw[e] at hr;exact hr
      rw[qbp hne]
      cases hq:yf T env S o'.op with
      |ok v=>rw[hq] at hr;exact hr
      |need b v=>rw[hq] at hr;exact hr
      |no=>exact absurd hq hne
      |new row'=>
       rw[hq] at hr
       obtain⟨n,r0,r1,r2,r3,r4,r5⟩:=hr
       exact⟨n,r0,r1,by rw[yat,if_neg (by omega)];exact r2,Nat.lt_succ_of_lt r3,r4,r5⟩
     ·unfold qap
      rw[xz (jam (own _)),qbp (by rw[hp];simp),hp]
      simp only[if_true]
      refine⟨S.next,rfl,own_d _,hrow,Nat.lt_succ_self _,?_,h.inv.next⟩
      cases hq:g.ρ S.next with
      |none=>rfl
      |some b=>exact absurd (h.inv.rel.dom _ _ hq) (Nat.lt_irrefl _)
     ·intro p q n hp1 hq1
      by_cases e1:p=i<;>by_cases e2:q=i
      ·rw[e1,e2]
      ·rw[if_pos e1,Option.some.injEq] at hp1
       rw[if_neg e2] at hq1
       have:=h.lt q n hq1
       omega
      ·rw[if_neg e1] at hp1
       rw[if_pos e2,Option.some.injEq] at hq1
       have:=h.lt p n hp1
       omega
      ·rw[if_neg e1] at hp1
       rw[if_neg e2] at hq1
       exact h.inj p q n hp1 hq1
     ·intro p n hp1
      by_cases e1:p=i
      ·rw[if_pos e1,Option.some.injEq] at hp1
       rw[zb8];omega
      ·rw[if_neg e1] at hp1
       have:=h.lt p n hp1
       rw[zb8];omega
   simp only[xops] at hx
   cases hg:o.guard with
   |none=>
    rw[hg] at hx
    obtain⟨v,S',nm',hs⟩:=run hx (.inl hg)
    exact ih _ _ _ _ _ _ _ _ _ hs
   |some jw=>
    obtain⟨j,want⟩:=jw
    rw[hg] at hx
    simp only at hx
    split at hx
    ·rename_i b hb
     have skip:∀ b,ql ops.toList env j=b→NotW b want→xops (pAlg P T N) T ops.toList fl Pa K (yt ops.toList rest) (xi env o.dst (.tup [])) S →
      ∃ pre' rest' env' menv' S' nm',Sim P T C N ops order fl Pa K pre' rest' env' menv' S' g nm' listed a w∧(rest'=[]∨∃ i o l,rest'=i::l∧ops.toList[i]? =some o∧zah o.op=true):=fun b hb hne hx=>
      ih _ _ _ _ _ _ _ _ _ (go (.tup []) S nm (hmask env) hx (fun _ _ _ _=>⟨rfl,fun _ h=>h⟩) ⟨he,.inl ⟨j,want,b,hg,by rw[zr hg (own (.tup []))];exact hb,hne,own_d _⟩⟩ h.inj h.lt)
     have go2:b=want→(xop (pAlg P T N) T env S o.op Pa (fun v S'=>zp (pAlg P T N) T ops.toList env S' (yr fl i) (xops (pAlg P T N) T ops.toList fl Pa K (yt ops.toList rest) (xi env o.dst v) S'))) →
      ∃ pre' rest' env' menv' S' nm',Sim P T C N ops order fl Pa K pre' rest' env' menv' S' g nm' listed a w∧(rest'=[]∨∃ i o l,rest'=i::l∧ops.toList[i]? =some o∧zah o.op=true):=fun e (hx:xop (pAlg P T N) T env S o.op Pa (fun v S'=>zp (pAlg P T N) T ops.toList env S' (yr fl i) (xops (pAlg P T N) T ops.toList fl Pa K (yt ops.toList rest) (xi env o.dst v) S')))=>by
      obtain⟨v,S',nm',hs⟩:=run hx (.inr ⟨j,want,hg,by rw[← e];exact hb⟩)
      exact ih _ _ _ _ _ _ _ _ _ hs
     cases b<;>cases want
     ·exact go2 rfl hx
     ·exact skip _ hb (.inr rfl) hx
     ·exact skip _ hb (.inr rfl) hx
     ·exact go2 rfl hx
    ·rename_i hb
     exact ih _ _ _ _ _ _ _ _ _ (go (.tup []) S nm (hmask env) hx (fun _ _ _ _=>⟨rfl,fun _ h=>h⟩) ⟨he,.inl ⟨j,want,.tup [],hg,by rw[zr hg (own (.tup []))];exact hb,.inl rfl,own_d _⟩⟩ h.inj h.lt)
    ·exact hx.elim
end
end Go.AM
namespace Go.AM
section
variable {P:Program} {T:Tab} {C:Ctx} {N:Nat} {ops:Array Oper} {order:List Nat} {fl:List (Nat × List Nat)} {m:List Nat} {Pa:AV→St→Prop} {K:Env→St→Prop} {Q:Exit→Act→World→Prop}
variable {pre rest:List Nat} {env menv:Env} {S:St} {g:Ghost} {nm:Nat→Option Nat} {listed:Array Bool} {a:Act} {w:World}
def SimE(P:Program)(T:Tab)(C:Ctx)(N:Nat)(ops:Array Oper)(order:List Nat)(fl:List (Nat × List Nat))(Pa:AV→St→Prop)(K:Env→St→Prop)(listed:Array Bool)(a:Act)(w:World):Prop:=
 ∃ pre rest env menv S g nm,Sim P T C N ops order fl Pa K pre rest env menv S g nm listed a w
theorem zo{i j:Nat}(hi:i<listed.size):zm (listed.setIfInBounds i true) j↔zm listed j∨j=i:=by
 unfold zm
 by_cases h:i=j
 ·subst h
  simp[hi]
 ·simp[Array.getElem?_setIfInBounds_ne h,Ne.symm h]
theorem vau{i:Nat}(h:i ∈ Region.ready .any ops listed):¬ zm listed i∧∃ o,ops.toList[i]? =some o∧∀ e,e ∈ qad o→zm listed e:=by
 obtain⟨h0,o,ho,he⟩:=mem_ready.1 h
 refine⟨fun hl=>?_,o,by simpa using ho,fun e hm=>?_⟩
 ·unfold zm at hl
  rcases Nat.lt_or_ge i listed.size with h'|h'
  ·simp[h'] at h0 hl;rw[h0] at hl;cases hl
  ·simp[Array.getElem?_eq_none h'] at hl
 ·obtain⟨x,hx,hb,rfl⟩:=xbh.1 hm
  exact he x hx hb
theorem vbq:∀ {X U Y Z:List Nat} {q:Nat},(X++q::Y).Nodup→X++q::Y=U++q::Z→X=U
 | [],[],_,_,_,_,_=>rfl
 | [],u::U,Y,Z,q,hn,h=>by
  simp only[List.nil_append,List.cons_append,List.cons.injEq] at h
  obtain⟨rfl,h⟩:=h
  rw[h] at hn
  simp at hn
 |x::X,[],Y,Z,q,hn,h=>by
  simp only[List.nil_append,List.cons_append,List.cons.injEq] at h
  obtain⟨rfl,h⟩:=h
  simp at hn
 |x::X,u::U,Y,Z,q,hn,h=>by
  simp only[List.cons_append,List.cons.injEq] at h
  obtain⟨rfl,h⟩:=h
  rw[vbq (by simp only[List.cons_append,List.nodup_cons] at hn;exact hn.2) h]
theorem zd8{order pre rest X Y:List Nat}{q:Nat}(hn:order.Nodup)(h1:order=X++q::Y)(h2:order=pre++rest)(hq:q ∈ pre)(x:Nat)(hx:x ∈ X):x ∈ pre:=by
 obtain⟨U,V,rfl⟩:=List.append_of_mem hq
 have:X=U:=by
  refine vbq (Y:=Y) (Z:=V++rest) (q:=q) (by rw[← h1];exact hn) ?_
  rw[← h1,h2]
  simp
 rw[← this]
 simp[hx]
theorem Sim.look(h:Sim P T C N ops order fl Pa K pre rest env menv S g nm listed a w)(hD:DrawOk ops.toList order fl m){i:Nat}{o:Oper}{p1 p2:List Nat}(st:StepOk ops.toList fl m p1 i p2 o)
 (hr:∀ e,e ∈ qad o→zm listed e) (hn:order.Nodup) (hsp:order=p1++i::p2) (hnl:¬ zm listed i):∀ t,t ∈ looks ops.toList o→menv.get t=env.get t:=by
 intro t ht
 refine h.agree t fun p o' hp hl ho' hd=>?_
 rcases st.wr t ht p o' ho' hd with hb|⟨e,X,Y,hXY,heX,⟨oe,he2,he3⟩,he4⟩
 ·exact hl (hD.before h.closed i o st.op hr p hb)
 ·refine hnl (h.fenced hD ?_ he2 he3 he4)
  refine zd8 hn (X:=p1++i::X) (Y:=Y) (by rw[hsp,hXY];simp) h.split hp e (by simp[heX])
theorem jb2(h:Inv T C g menv S a w){o:Oper}{j:Nat}{want b:Bool}(hg:o.guard=some (j,want))(hy:ql ops.toList menv j= .bool b):Region.wanted o (yielded ops a.tmps)=(b == want):=by
 have:=ya3 (ops:=ops) h hy
 simp[Region.wanted,hg,this]
theorem Sim.owe(hT:TabOk P T)(hfit:zar C.n ops.toList=true)(hD:DrawOk ops.toList order fl m)(hn:order.Nodup)(h:Sim P T C N ops order fl Pa K pre rest env menv S g nm listed a w){i:Nat}(hi:i ∈ pre)(hr:i ∈ Region.ready .any ops listed) :
 wpOp P ops Q i (SimE P T C N ops order fl Pa K (listed.setIfInBounds i true)) a w:=by
 obtain⟨hnl,o,ho,hedge⟩:=vau hr
 obtain⟨p1,p2,hp⟩:=List.append_of_mem hi
 have hsp:order=p1++i::(p2++rest):=by rw[h.split,hp];simp
 obtain⟨o',st⟩:=hD.step _ _ _ hsp
 have:o'=o:=by have:=st.op.symm.trans ho;simpa using this
 subst this
 have hlook:=h.look hD st hedge hn hsp hnl
 have hsize:i<listed.size:=by
  rw[h.size]
  have:=(List.getElem?_eq_some_iff.1 ho).1
  simpa using this
 have ho2:ops[i]? =some o':=by simpa using ho
 have hd:∀ t,o'.dst=some t→t<C.n:=van hfit o' (List.mem_of_getElem? ho)
 obtain⟨heff,how⟩:=h.owed i o' hi hnl ho
 have hlaterne:∀ j,j ∈ rest→j≠i:=by
  intro j hj e
  subst e
  rw[h.split] at hn
  exact(List.nodup_append.1 hn).2.2 j hi j hj rfl
 have go:∀(x:Value) (g':Ghost) (w':World),Inv T C g' menv S a w'→(∀ d,o'.dst=some d→Rep T w' g' (env.get d) x)→(∀ p n,p≠i→nm p=some n→g'.ρ n=g.ρ n) →
  SimE P T C N ops order fl Pa K (listed.setIfInBounds i true) (a.put o'.dst x) w':=by
  intro x g' w' hI hv hρ
  have hput:∃ menv',Inv T C g' menv' S (a.put o'.dst x) w'∧∀ t,menv'.get t=if o'.dst=some t then env.get t else menv.get t:=by
   cases hdd:o'.dst with
   |none=>exact⟨menv,by simpa[hdd,Act.put] using hI,fun t=>by simp⟩
   |some d=>
    have:=hI.put (hv d hdd) (some d) (by rw[← hdd];exact hd)
    refine⟨_,this,fun t=>?_⟩
    rw[qo]
    by_cases e:some d=some t
    ·rw[if_pos e,if_pos e];simp only[Option.some.injEq] at e;rw[e]
    ·rw[if_neg e,if_neg e]
  obtain⟨menv',hI',hget⟩:=hput
  refine⟨pre,rest,env,menv',S,g',nm,h.split,h.hx,by simpa using h.size,?_,?_,hI',?_,?_,h.inj,h.lt⟩
  ·intro j hj hl
   rcases(zo hsize).1 hl with hl|e
   ·exact h.later j hj hl
   ·exact hlaterne j hj e
  ·intro j oj hoj hl e hee
   refine(zo hsize).2 (.inl ?_)
   rcases(zo hsize).1 hl with hl|rfl
   ·exact h.closed j oj hoj hl e hee
   ·have:oj=o':=by have:=hoj.symm.trans ho;simpa using this
    subst this
    exact hedge e hee
  ·intro t ht
   rw[hget]
   by_cases e:o'.dst=some t
   ·rw[if_pos e]
   ·rw[if_neg e]
    refine h.agree t fun p op hp hl hop=>?_
    by_cases hpi:p=i
    ·subst hpi
     have:op=o':=by have:=hop.symm.trans ho;simpa using this
     subst this
     exact e
    ·exact ht p op hp (fun q=>by
      rcases(zo hsize).1 q with q|q
      ·exact hl q
      ·exact hpi q) hop
  ·intro p op hp hl hop
   have hl0:¬ zm listed p:=fun q=>hl ((zo hsize).2 (.inl q))
   have hpi:p≠i:=fun q=>hl ((zo hsize).2 (.inr q))
   refine(h.owed p op hp hl0 hop).keep (fun _ _=>rfl) (fun _ _=>rfl) fun hr=>?_
   unfold qap at hr ⊢
   generalize yf T env S op.op=r at hr ⊢
   cases r with
   |ok v=>exact hr
   |need b v=>exact hr
   |no=>exact hr
   |new row=>
    obtain⟨n,r0,r1,r2,r3,r4,r5⟩:=hr
    exact⟨n,r0,r1,r2,r3,by rw[hρ p n hpi r0];exact r4,r5⟩
 unfold wpOp
 simp only[ho2]
 rcases how with ⟨j,want,b,hg,hy,hne,hu⟩|⟨hg,hrun⟩
 ·have hw:=xa4 (ops:=ops) h.inv hg (by rw[zr hg hlook];exact hy) hne
  rw[if_neg (by rw[hw];simp)]
  exact go undef g w h.inv (fun d hdd=>by rw[hu d hdd];exact qa0 _ _ _) (fun _ _ _ _=>rfl)
 ·have hw:Region.wanted o' (yielded ops a.tmps)=true:=by
   rcases hg with hg|⟨j,want,hg,hy⟩
   ·simp[Region.wanted,hg]
   ·rw[jb2 (ops:=ops) h.inv hg (b:=want) (by rw[zr hg hlook];exact hy)];simp
  rw[if_pos hw]
  refine .inl ?_
  have hs:=zbc hT h.inv o'
  rw[xz (jam hlook)] at hs
  unfold qap at hrun
  unfold Oper.wp
  cases hp:yf T env S o'.op with
  |ok v=>
   rw[hp] at hs hrun
   obtain⟨x,w',g',hr,hgr,hv⟩:=hs
   rw[hr]
   exact go x g' w' (h.inv.grow hgr) (fun d hdd=>by rw[hrun d hdd];exact hv) (fun _ _ _ _=>by rw[hgr.ρ])
  |need b v=>
   rw[hp] at hs hrun
   obtain⟨x,w',g',hr,hgr,hv⟩:=hs hrun.1
   rw[hr]
   exact go x g' w' (h.inv.grow hgr) (fun d hdd=>by rw[hrun.2 d hdd];exact hv) (fun _ _ _ _=>by rw[hgr.ρ])
  |new row=>
   rw[hp] at hs hrun
   obtain⟨c,t,hr,hs,h1,hR⟩:=hs
   obtain⟨n,r0,r1,r2,r3,r4,r5⟩:=hrun
   rw[hr]
   obtain⟨g',hI,hk,hv,hoth⟩:=h.inv.name (ob:=n) (t:=t) r3 r4 r5 (by rw[r2];exact hs) h1 (by rw[r2];exact hR)
   exact go _ g' _ hI (fun d hdd=>by rw[r1 d hdd];exact hv) (fun p n' hpi hnp=>hoth n' fun e=>hpi (h.inj p i n' hnp (by rw[e];exact r0)))
  |no=>rw[hp] at hrun;exact hrun.elim
theorem Sim.eff(hT:TabOk P T)(hfit:zar C.n ops.toList=true)(hD:DrawOk ops.toList order fl m)(hn:order.Nodup)(hQ:vbf T C Pa K Q){i:Nat}{l:List Nat}
 (h:Sim P T C N ops order fl Pa K pre (i::l) env menv S g nm listed a w) (hr:i ∈ Region.ready .any ops listed) {o:Oper} (ho:ops.toList[i]? =some o) (he:zah o.op=true) :
 wpOp P ops Q i (SimE P T C N ops order fl Pa K (listed.setIfInBounds i true)) a w:=by
 obtain⟨hnl,o2,ho',hedge⟩:=vau hr
 have:o2=o:=by have:=ho'.symm.trans ho;simpa using this
 subst this
 obtain⟨o',st⟩:=hD.step _ _ _ h.split
 have:o'=o2:=by have:=st.op.symm.trans ho;simpa using this
 subst this
 have hlook:=h.look hD st hedge hn h.split hnl
 have hsize:i<listed.size:=by
  rw[h.size]
  have:=(List.getElem?_eq_some_iff.1 ho).1
  simpa using this
 have ho2:ops[i]? =some o':=by simpa using ho
 have hd:∀ t,o'.dst=some t→t<C.n:=van hfit o' (List.mem_of_getElem? ho)
 have hx:=h.hx
 rw[va8 ho] at hx
 have hni:∀ p,p ∈ pre→p≠i:=fun p hp e=>st.new (e ▸ hp)
 have hil:i ∉ l:=by
  rw[h.split] at hn
  exact(List.nodup_cons.1 (List.nodup_append.1 hn).2.1).1
 have hbef:∀ p,jag m i p=true→zm listed p:=fun p=>hD.before h.closed i o' ho hedge p
 have go:∀(v:AV) (S':St) (x:Value) (g':Ghost) (w':World),xops (pAlg P T N) T ops.toList fl Pa K (yt ops.toList l) (xi env o'.dst v) S'→Inv T C g' menv S' a w'→Rep T w' g' v x →
  (∀ n b,g'.ρ n=some b→g.ρ n=some b∨S.next≤n)→S.next≤S'.next →
  (∀ p op,p ∈ pre→¬ zm listed p→ops.toList[p]? =some op→qap T C env S g (nm p) op→(∃ j want b,op.guard=some (j,want)∧ql ops.toList env j=b∧NotW b want)∨qap T C env S' g' (nm p) op) →
  SimE P T C N ops order fl Pa K (listed.setIfInBounds i true) (a.put o'.dst x) w':=by
  intro v S' x g' w' hk hI hv hρ hnx hrun
  refine⟨pre++[i],l,xi env o'.dst v,xi menv o'.dst v,S',g',nm,by rw[h.split];simp,hk,by simpa using h.size,?_,?_,hI.put hv o'.dst hd,?_,?_,h.inj,fun p n q=>Nat.lt_of_lt_of_le (h.lt p n q) hnx⟩
  ·intro j hj hl
   rcases(zo hsize).1 hl with hl|e
   ·exact h.later j (List.mem_cons_of_mem _ hj) hl
   ·subst e;exact hil hj
  ·intro j oj hoj hl e hee
   refine(zo hsize).2 (.inl ?_)
   rcases(zo hsize).1 hl with hl|rfl
   ·exact h.closed j oj hoj hl e hee
   ·have:oj=o':=by have:=hoj.symm.trans ho;simpa using this
    subst this
    exact hedge e hee
  ·intro t ht
   rw[qo,qo]
   by_cases e:o'.dst=some t
   ·rw[if_pos e,if_pos e]
   ·rw[if_neg e,if_neg e]
    exact h.agree t fun p op hp hl hop=>ht p op (by simp[hp]) (fun q=>by
     rcases(zo hsize).1 q with q|q
     ·exact hl q
     ·exact hni p hp q) hop
  ·intro p op hp hl hop
   have hl0:¬ zm listed p:=fun q=>hl ((zo hsize).2 (.inl q))
   have hpi:p≠i:=fun q=>hl ((zo hsize).2 (.inr q))
   have hp':p ∈ pre:=by
    rcases List.mem_append.1 hp with q|q
    ·exact q
    ·exact absurd (by simpa using q) hpi
   have hO:=h.owed p op hp' hl0 hop
   have hk1:∀ t,t ∈ looks ops.toList op→(xi env o'.dst v).get t=env.get t:=fun t ht=>by
    rw[qo,if_neg ?_]
    rcases st.old p op hp' hop with q|⟨e,oe,he1,he2,he3,he4⟩
    ·exact q t ht
    ·exact absurd (h.fenced hD he1 he2 he3 he4) hl0
   have hk2:∀ d,op.dst=some d→(xi env o'.dst v).get d=env.get d:=fun d hdd=>by rw[qo,if_neg fun e=>st.dst d e p op hpi hop hdd]
   obtain⟨hO1,hO2⟩:=hO
   rcases hO2 with hO2|⟨hO2,hO3⟩
   ·obtain⟨j,want,b,hg,hy,hne,hu⟩:=hO2
    exact⟨hO1,.inl ⟨j,want,b,hg,by rw[zr hg hk1];exact hy,hne,fun d q=>by rw[hk2 d q];exact hu d q⟩⟩
   ·exact Owed.keep ⟨hO1,.inr ⟨hO2,hO3⟩⟩ hk1 hk2 (fun hr=>by
     rcases hrun p op hp' hl0 hop hr with ⟨j,want,b,q1,q2,q3⟩|q
     ·rcases hO2 with hO2|⟨j2,want2,hO2,hO4⟩
      ·rw[hO2] at q1;cases q1
      ·rw[hO2] at q1
       simp only[Option.some.injEq,Prod.mk.injEq] at q1
       obtain⟨rfl,rfl⟩:=q1
       rw[hO4] at q2
       rcases q3 with q3|q3
       ·rw[q3] at q2;cases q2
       ·rw[q3] at q2
        simp at q2
     ·exact q)
 have hkeep:∀(k':Prop) (S':St) (g':Ghost),zp (pAlg P T N) T ops.toList env S' (yr fl i) k'→(∀ n b,g'.ρ n=some b→g.ρ n=some b∨S.next≤n)→S.next≤S'.next →
  k'∧∀ p op,p ∈ pre→¬ zm listed p→ops.toList[p]? =some op→qap T C env S g (nm p) op→(∃ j want b,op.guard=some (j,want)∧ql ops.toList env j=b∧NotW b want)∨qap T C env S' g' (nm p) op:=by
  intro k' S' g' hag hρ hnx
  obtain⟨h1,h2⟩:=va3 hag
  refine⟨h1,fun p op hp hl hop hr=>?_⟩
  have hρn:∀ n,n<S.next→g.ρ n=none→g'.ρ n=none:=fun n hn h0=>by
   cases hq:g'.ρ n with
   |none=>rfl
   |some b=>
    rcases hρ n b hq with q|q
    ·rw[h0] at q;cases q
    ·omega
  by_cases hs:qc0 op.op=true
  ·refine .inr ?_
   unfold qap at hr ⊢
   rw[← qbc (S:=S) (.inl hs)]
   cases hp2:yf T env S op.op with
   |ok v=>rw[hp2] at hr;exact hr
   |need b v=>rw[hp2] at hr;exact hr
   |no=>rw[hp2] at hr;exact hr
   |new row=>
    have:=jb8 hp2
    cases hq:op.op<;>rw[hq] at this hs<;>simp[qem,qc0] at this hs
  ·have hin:p ∈ yr fl i:=(st.eff he).2 p op hp hop (h.owed p op hp hl hop).1 (by
    cases hb:jag m i p with
    |false=>rfl
    |true=>exact absurd (hbef p hb) hl) (by simpa using hs)
   obtain⟨op',hop',hc⟩:=h2 p hin
   have:op'=op:=by have:=hop'.symm.trans hop;simpa using this
   subst this
   rcases hc with hc|⟨d,hdd,hc⟩
   ·exact .inl hc
   ·refine .inr ?_
    unfold qap
    cases hp2:yf T env S' op'.op with
    |ok v=>
     rw[hp2] at hc
     exact fun d' hd'=>by
      have:d'=d:=by have:=hd'.symm.trans hdd;simpa using this
      subst this
      exact hc.symm
    |need b v=>
     rw[hp2] at hc
     exact⟨hc.1,fun d' hd'=>by
      have:d'=d:=by have:=hd'.symm.trans hdd;simpa using this
      subst this
      exact hc.2.symm⟩
    |no=>rw[hp2] at hc;exact hc
    |new row=>
     rw[hp2] at hc
     obtain⟨ob,off,hv,hrow⟩:=hc
     have hnew:=jb8 hp2
     have hsame:yf T env S op'.op= .new row:=by
      rw[← hp2]
      refine qbc ?_
      cases hq:op'.op<;>rw[hq] at hnew<;>simp[qem] at hnew
      ·exact .inr (.inl rfl)
      ·exact .inr (.inr rfl)
     unfold qap at hr
     rw[hsame] at hr
     obtain⟨n,r0,r1,r2,r3,r4,r5⟩:=hr
     have hobn:ob=n:=by
      have:=hv.symm.trans (r1 d hdd)
      simp only[AV.ptr.injEq] at this
      exact this.1
     subst hobn
     exact⟨ob,r0,r1,hrow,Nat.lt_of_lt_of_le r3 hnx,hρn ob r3 r4,r5⟩
 have run:xop (pAlg P T N) T env S o'.op Pa (fun v S'=>zp (pAlg P T N) T ops.toList env S' (yr fl i) (xops (pAlg P T N) T ops.toList fl Pa K (yt ops.toList l) (xi env o'.dst v) S')) →
  o'.wp P a w (SimE P T C N ops order fl Pa K (listed.setIfInBounds i true)) Q:=by
  intro hx
  rw[← xdb (jam hlook)] at hx
  refine vb1 hT h.inv.rebase N o' hx _ _ ?_ ?_
  ·intro v S' x g' w' hk hI hv
   obtain⟨hI',hρ,hnx⟩:=h.inv.unbase hI
   obtain⟨hk1,hk2⟩:=hkeep _ S' g' hk hρ hnx
   exact go v S' x g' w' hk1 hI' hv hρ hnx hk2
  ·intro v S' x g' w' hp hI hv
   exact hQ.2 v S' g' a w' menv x hp (h.inv.unbase hI).1 hv
 unfold wpOp
 simp only[ho2]
 simp only[xops] at hx
 cases hg:o'.guard with
 |none=>
  simp only[hg] at hx
  rw[if_pos (by simp[Region.wanted,hg])]
  exact .inl (run hx)
 |some jw=>
  obtain⟨j,want⟩:=jw
  simp only[hg] at hx
  split at hx
  ·rename_i b hb
   have hw:=jb2 (ops:=ops) h.inv hg (b:=b) (by rw[zr hg hlook];exact hb)
   have skip:xops (pAlg P T N) T ops.toList fl Pa K (yt ops.toList l) (xi env o'.dst (.tup [])) S→SimE P T C N ops order fl Pa K (listed.setIfInBounds i true) (a.put o'.dst undef) w:=fun hx=>
    go (.tup []) S undef g w hx h.inv (qa0 _ _ _) (fun _ _ q=> .inl q) (Nat.le_refl _) (fun _ _ _ _ _ q=> .inr q)
   cases b<;>cases want<;>simp only at hx
   ·rw[if_pos (by rw[hw];rfl)];exact .inl (run hx)
   ·rw[if_neg (by rw[hw];simp)];exact skip hx
   ·rw[if_neg (by rw[hw];simp)];exact skip hx
   ·rw[if_pos (by rw[hw];rfl)];exact .inl (run hx)
  ·rename_i hb
   rw[if_neg (by rw[xa4 (ops:=ops) h.inv hg (by rw[zr hg hlook];exact hb) (.inl rfl)];simp)]
   exact go (.tup []) S undef g w hx h.inv (qa0 _ _ _) (fun _ _ q=> .inl q) (Nat.le_refl _) (fun _ _ _ _ _ q=> .inr q)
  ·exact hx.elim
theorem zbr(hD:DrawOk ops.toList order fl m)(hall:∀ i,i ∈ order→i<ops.size)(h:Sim P T C N ops order fl Pa K pre rest env menv S g nm listed a w)(hQ:vbf T C Pa K Q)
 (hr:Region.ready .any ops listed=[]):Q .normal a w∧∀ i,i ∈ order→zm listed i:=by
 have one:∀(p q:List Nat) (i:Nat),order=p++i::q→(∀ j,j ∈ p→zm listed j)→zm listed i:=by
  intro p q i hsp hp
  obtain⟨o,st⟩:=hD.step p i q hsp
  by_cases hli:zm listed i
  ·exact hli
  ·exfalso
   have:i ∈ Region.ready .any ops listed:=by
    refine mem_ready.2 ⟨?_,o,by simpa using st.op,fun e he hb=>hp e.on (st.lin e.on (xbh.2 ⟨e,he,hb,rfl⟩))⟩
    unfold zm at hli
    have hlt:i<listed.size:=by
     rw[h.size]
     exact hall i (by rw[hsp];simp)
    simpa[hlt] using hli
   rw[hr] at this
   cases this
 have hl:∀(q p:List Nat),order=p++q→(∀ j,j ∈ p→zm listed j)→∀ i,i ∈ q→zm listed i:=by
  intro q
  induction q with
  |nil=>intro p _ _ i hi;cases hi
  |cons k q ih=>
   intro p hsp hp i hi
   have hk:=one p q k hsp hp
   rcases List.mem_cons.1 hi with rfl|hi
   ·exact hk
   ·exact ih (p++[k]) (by rw[hsp];simp) (fun j hj=>by
     rcases List.mem_append.1 hj with hj|hj
     ·exact hp j hj
     ·have:j=k:=by simpa using hj
      rw[this];exact hk) i hi
 have hl':∀ i,i ∈ order→zm listed i:=hl order [] (by simp) (by simp)
 refine⟨?_,hl'⟩
 have hrest:rest=[]:=by
  cases hc:rest with
  |nil=>rfl
  |cons k l=>exact absurd (hl' k (by rw[h.split,hc];simp)) (h.later k (by rw[hc];simp))
 have hx:=h.hx
 rw[hrest] at hx
 refine hQ.1 env S g a w hx (h.inv.weak fun t=> .inr ?_)
 exact(h.agree t fun p o hp hnl=>absurd (hl' p (by rw[h.split];simp[hp])) hnl).symm
theorem qdu(hall:∀ i,i ∈ order→i<ops.size)(hsz:listed.size=ops.size){i:Nat}(hi:i ∈ order)(hnl:¬ zm listed i) :
 order.countP (fun j=> !listed.getD j false)=order.countP (fun j=> !listed.getD j false)∧order.countP (fun j=> !(listed.setIfInBounds i true).getD j false)<order.countP (fun j=> !listed.getD j false):=by
 refine⟨rfl,?_⟩
 have key:∀ l:List Nat,i ∈ l→l.countP (fun j=> !(listed.setIfInBounds i true).getD j false)<l.countP (fun j=> !listed.getD j false)∧True:=by
  have le:∀ l:List Nat,l.countP (fun j=> !(listed.setIfInBounds i true).getD j false)≤l.countP (fun j=> !listed.getD j false):=fun l=>
   List.countP_mono_left fun j _ hj=>by
    by_cases e:i=j
    ·subst e
     have:i<listed.size:=by rw[hsz];exact hall i hi
     simp[this] at hj
    ·rw[getD_set_ne false e] at hj;exact hj
  intro l
  induction l with
  |nil=>intro h;cases h
  |cons k l ih=>
   intro h
   refine⟨?_,trivial⟩
   rw[List.countP_cons,List.countP_cons]
   by_cases e:k=i
   ·subst e
    have hlt:k<listed.size:=by rw[hsz];exact hall k hi
    have h1:(!(listed.setIfInBounds k true).getD k false)=false:=by simp[hlt]
    have h2:(!listed.getD k false)=true:=by unfold zm at hnl;simpa using hnl
    rw[h1,h2]
    have:=le l
    rw[if_neg (by simp),if_pos rfl]
    omega
   ·have hil:i ∈ l:=by
     rcases List.mem_cons.1 h with h|h
     ·exact absurd h.symm e
     ·exact h
    have:=(ih hil).1
    rw[getD_set_ne false (Ne.symm e)]
    omega
 exact(key order hi).1
theorem qdx(hT:TabOk P T)(hfit:zar C.n ops.toList=true)(hD:DrawOk ops.toList order fl m)(hn:order.Nodup)(hall:∀ i,i ∈ order→i<ops.size)(hQ:vbf T C Pa K Q) :
 ∀(fuel:Nat) (listed:Array Bool) (a:Act) (w:World),SimE P T C N ops order fl Pa K listed a w→order.countP (fun j=> !listed.getD j false)≤fuel→wpAny P .any ops Q fuel listed a w:=by
 intro fuel
 induction fuel with
 |zero=>
  rintro listed a w ⟨pre,rest,env,menv,S,g,nm,h⟩ hc
  have hr:Region.ready .any ops listed=[]:=by
   cases hq:Region.ready .any ops listed with
   |nil=>rfl
   |cons k l=>
    have hk:k ∈ Region.ready .any ops listed:=by rw[hq];simp
    obtain⟨hnl,o,ho,_⟩:=vau hk
    have hin:k ∈ order:=hD.all k (List.getElem?_eq_some_iff.1 ho).1
    have hpos:0<order.countP (fun j=> !listed.getD j false):=List.countP_pos_iff.2 ⟨k,hin,by unfold zm at hnl;simpa using hnl⟩
    omega
  exact⟨hr,(zbr hD hall h hQ hr).1⟩
 |succ fuel ih=>
  rintro listed a w ⟨pre,rest,env,menv,S,g,nm,h⟩ hc
  refine⟨fun hr=>(zbr hD hall h hQ hr).1,fun i hi=>?_⟩
  obtain⟨pre',rest',env',menv',S',nm',h',hor⟩:=h.advance hD
  obtain⟨hnl,o,ho,hedge⟩:=vau hi
  have hin:i ∈ order:=hD.all i (List.getElem?_eq_some_iff.1 ho).1
  have hless:order.countP (fun j=> !(listed.setIfInBounds i true).getD j false)≤fuel:=by
   have:=(qdu hall h.size hin hnl).2
   omega
  have hstep:wpOp P ops Q i (SimE P T C N ops order fl Pa K (listed.setIfInBounds i true)) a w:=by
   rw[h'.split] at hin
   rcases List.mem_append.1 hin with hin|hin
   ·exact h'.owe hT hfit hD hn hin hi
   ·rcases hor with rfl|⟨k,ok,l,rfl,hok,hek⟩
    ·cases hin
    ·by_cases hik:i=k
     ·subst hik
      exact h'.eff hT hfit hD hn hQ hi hok hek
     ·exfalso
      have hil:i ∈ l:=by
       rcases List.mem_cons.1 hin with q|q
       ·exact absurd q hik
       ·exact q
      obtain⟨ok',st⟩:=hD.step _ _ _ h'.split
      have:ok'=ok:=by have:=st.op.symm.trans hok;simpa using this
      subst this
      exact h'.later k (by simp) (hD.before h'.closed i o ho hedge k ((st.eff hek).1 i hil))
  exact wpOp_mono (fun a' w' hs=>ih _ a' w' hs hless) hstep
theorem vch(hT:TabOk P T)(hm:P.follows .mixedOrders=true)(hfit:zar C.n ops.toList=true){an:Ann}(hd:xcv ops.toList an=true)(hn:an.order.Nodup)(hall:∀ i,i ∈ an.order→i<ops.size)
 (hlen:an.order.length≤ops.size) (hQ:vbf T C Pa K Q) {id:Nat} (h:Inv T C g env S a w) (hx:xops (pAlg P T N) T ops.toList an.floats Pa K (yt ops.toList an.order) env S):(Code.region id ops true).wp P Q a w:=by
 refine wp_region_any hm (qdx (m:=ybh ops.toList []) hT hfit (vcn hd) hn hall hQ _ _ _ _ ⟨[],an.order,env,env,S,g,fun _=>none,rfl,hx,by simp,?_,?_,h.grow (Grow.drew g w),fun _ _=>rfl,?_,?_,?_⟩ ?_)
 ·intro i hi hl
  unfold zm at hl
  by_cases hlt:i<ops.size<;>simp[hlt] at hl
 ·intro i o ho hl
  unfold zm at hl
  by_cases hlt:i<ops.size<;>simp[hlt] at hl
 ·intro p o hp;cases hp
 ·intro p q n h;cases h
 ·intro p n h;cases h
 ·exact Nat.le_trans List.countP_le_length hlen
end
end Go.AM
namespace Go.AM
def jcs:List Nat→Bool
 | []=>true
 |x::l=> !l.contains x && jcs l
theorem qbh:∀ {l:List Nat},jcs l=true→l.Nodup
 | [],_=>List.nodup_nil
 |x::l,h=>by
  simp only[jcs,Bool.and_eq_true] at h
  exact List.nodup_cons.2 ⟨by simpa using h.1,qbh h.2⟩
def qf(N:Nat)(ann:List (Nat × Ann)):Code→Bool
 |.region id ops draw=>zar N ops.toList && match draw,xda ann id with
  |true,some an=>xcv ops.toList an && jcs an.order && (an.order.all fun i=>Nat.blt i ops.toList.length) && Nat.ble an.order.length ops.toList.length
  |false,none=>true
  |_,_=>false
 |.seq a b=>qf N ann a && qf N ann b
 |.cond _ a b=>qf N ann a && qf N ann b
 |.block _ a=>qf N ann a
 |.loop a=>qf N ann a
 |_=>true
section
variable {P:Program} {T:Tab} {N:Nat} {ann:List (Nat × Ann)}
theorem vb8{c:Code}{Q:Exit→Act→World→Prop}{a:Act}{w:World}(h:c.wp P (Exit.then (qcd P c Q) Q) a w):qcd P c Q a w:=by
 intro b k cs
 obtain⟨e,a₁,w₁,hq,harr⟩:=h b (.inLoop c::k) cs
 cases e with
 |normal=>
  obtain⟨e₂,a₂,w₂,hq₂,harr₂⟩:=hq b k cs
  exact⟨e₂,a₂,w₂,hq₂,.of_steps (Steps.trans harr (.one step_inLoop)) harr₂⟩
 |exit id=>exact⟨_,a₁,w₁,hq,.pass (x:= .inLoop c) rfl (fun _ _=> .inl (by simp)) harr⟩
 |goto l=>exact⟨_,a₁,w₁,hq,.pass (x:= .inLoop c) rfl (fun _ _=> .inl (by simp)) harr⟩
 |ret=>exact⟨_,a₁,w₁,hq,.pass (x:= .inLoop c) rfl (fun _ _=> .inl (by simp)) harr⟩
 |panic ch=>exact⟨_,a₁,w₁,hq,.pass (x:= .inLoop c) rfl (fun _ _=> .inl (by simp)) harr⟩
 |outgrown=>exact⟨_,a₁,w₁,hq,.pass (x:= .inLoop c) rfl (fun _ _=> .inl (by simp)) harr⟩
theorem qb2{c:Code}{Q:Exit→Act→World→Prop}{a:Act}{w:World}(h:qcd P c Q a w):(Code.loop c).wp P Q a w:=by
 intro b k cs
 obtain⟨e,a',w',hq,harr⟩:=h b k cs
 exact⟨e,a',w',hq,.of_steps (.one step_loop) harr⟩
def andThen(K1:Env→St→Prop)(K:Ex→Env→St→Prop):Ex→Env→St→Prop
 |.normal,env,S=>K1 env S
 |.exit i,env,S=>K (.exit i) env S
 |.ret,env,S=>K .ret env S
 |.panic v,env,S=>K (.panic v) env S
theorem za0{C:Ctx}{K1:Env→St→Prop}{K:Ex→Env→St→Prop}{next:Act→World→Prop}(hn:∀ env S g a w,K1 env S→Inv T C g env S a w→next a w) :
 ∀ e a w,Post T C (andThen K1 K) e a w→Exit.then next (Post T C K) e a w:=by
 rintro e a w ⟨ex,env,S,g,hk,hr,hI⟩
 cases e with
 |normal=>cases ex<;>first|exact hn env S g a w hk hI|exact hr.elim
 |exit i=>cases ex<;>first|exact⟨_,env,S,g,hk,hr,hI⟩|exact hr.elim
 |ret=>cases ex<;>first|exact⟨_,env,S,g,hk,hr,hI⟩|exact hr.elim
 |panic ch=>cases ex<;>first|exact⟨_,env,S,g,hk,hr,hI⟩|exact hr.elim
 |goto l=>cases ex<;>exact hr.elim
 |outgrown=>cases ex<;>exact hr.elim
theorem jb3{T:Tab}{l:List Oper}{d:Tmp}{t:TypeId}(h:ya4 T l=some (d,t)):∃ o,l=[o]∧o.guard=none∧o.op= .alloc t∧o.dst=some d∧∃ fs,T.ty t= .struct fs [.p,.l]:=by
 unfold ya4 at h
 split at h
 ·rename_i o
  split at h
  ·rename_i hg
   split at h
   ·rename_i t' ho
    split at h
    ·rename_i d' hd
     split at h
     ·rename_i ht
      simp only[Option.some.injEq,Prod.mk.injEq] at h
      obtain⟨rfl,rfl⟩:=h
      refine⟨o,rfl,hg,ho,hd,?_⟩
      unfold qec at ht
      split at ht
      ·rename_i fs zs hty
       split at ht
       ·exact⟨fs,hty⟩
       ·cases ht
      ·cases ht
     ·cases h
    ·cases h
   ·cases h
  ·cases h
 ·cases h
theorem xch(hT:TabOk P T){C:Ctx}{g:Ghost}{env:Env}{S:St}{a:Act}{w:World}{ops:Array Oper}(hfit:zar C.n ops.toList=true){id:Nat}{Pa:Env→AV→St→Prop}{K:Env→St→Prop}{Q:Exit→Act→World→Prop}(hQ:xba T C Pa K Q)
 (h:Inv T C g env S a w) {d:Tmp} {t:TypeId} (hs:ya4 T ops.toList=some (d,t)) (hx:K ((d,.ptr S.next 0)::env) (S.push [.tnil S.next t,.slice 0 [] .exact])):(Code.region id ops false).wp P Q a w:=by
 obtain⟨o,hl,hg,ho,hd,fs,hty⟩:=jb3 hs
 have hops:ops= #[o]:=by rw[← Array.toArray_toList (xs:=ops),hl]
 have hhas:T.has t=true:=by unfold Tab.has;rw[hty]
 obtain⟨i,z,td,hi,htd,hsz,hz,hzs,hb,hsh,ha⟩:=(yaj hT hhas).row
 rw[hty] at hzs
 have hzs':z.cells.toList=[.pointer none,.slice none 0 0]:=by rw[hzs];rfl
 have hrun:(execOp a.eval o).run P w= .ok (.value (.pointer (some ⟨w.heap.size,0,none⟩))) (w.alloc (.cells z.cells t)):=by
  simp[execOp,ho,Instr.alloc,zeroValue,run_typeInfo w hi,hz,newVar,newRow]
 have hrow0:∀ j,j<[AV.nilp,AV.slice 0 [] .exact].length→Rep T w g (nth [AV.nilp,AV.slice 0 [] .exact] j) (z.cells.toList.getD j undef):=by
  intro j hj
  rw[hzs']
  match j,hj with
  | 0,_=>exact .nilp _
  | 1,_=>exact Rep.nilslice T w g 0
 obtain⟨g',hI,hk,hv⟩:=h.new (c:=z.cells) (t:=t) (row:=[.nilp,.slice 0 [] .exact]) (by rw[← Array.length_toList,hzs'];rfl) (by rw[hzs'];intro u hu;simp at hu;rcases hu with rfl|rfl<;>rfl) hrow0
 have hρ:g'.ρ S.next=some w.heap.size:=by cases hv with|ptr _ _ _ _ hh=>exact hh
 have hrow:(S.push [AV.nilp,AV.slice 0 [] .exact]).row S.next=[AV.nilp,AV.slice 0 [] .exact]:=by rw[yat,if_pos rfl]
 have hI2:=hI.retell (o:=S.next) (row:=[.tnil S.next t,.slice 0 [] .exact]) (by rw[hrow];simp) (by rw[hrow];rfl) (by
  intro j hj x hx
  rw[hrow] at hx
  match j,hj with
  | 0,_=>
   have:x= .pointer none:=by cases hx;rfl
   subst this
   exact .tnil _ S.next t w.heap.size z.cells (0,0) hρ (heap_alloc_new w _)
  | 1,_=>exact hx)
 have hset:(S.push [AV.nilp,AV.slice 0 [] .exact]).set S.next [.tnil S.next t,.slice 0 [] .exact]=S.push [.tnil S.next t,.slice 0 [] .exact]:=by
  simp[St.push,St.set,vcg]
 rw[hset] at hI2
 have hdl:∀ u,o.dst=some u→u<C.n:=van hfit o (by rw[hl];simp)
 have hI3:=hI2.put hv o.dst hdl
 rw[hd] at hI3
 refine wp_region ?_
 have hex:o.wp P a w (wpOps P ops Q []) Q:=by
  unfold Oper.wp
  rw[hrun]
  show wpOps P ops Q [] (a.put o.dst _) _
  rw[hd]
  exact hQ.1 _ _ g' _ _ hx hI3
 subst hops
 simp[List.range_succ,wpOps,Region.wanted,hg]
 exact .inl hex
theorem yaw(hT:TabOk P T)(hm:P.follows .mixedOrders=true)(un:Nat):∀(c:Code),qf N ann c=true→∀(C:Ctx),C.n=N→∀(K:Ex→Env→St→Prop) (env:Env) (S:St),
 xg (pAlg P T N) T ann un c K env S→WpA P T C c K env S:=by
 intro c
 induction c with
 |skip=>intro _ C _ K env S hx g a w h;exact wp_skip ⟨.normal,env,S,g,hx,trivial,h⟩
 |region id ops draw=>
  intro hc C hC K env S hx g a w h
  have hQE:xba T C (fun env v S=>K (.panic v) env S) (K .normal) (Post T C K):=
   ⟨fun env S g a w hk hI=>⟨.normal,env,S,g,hk,trivial,hI⟩,fun v S g a w env x hp hI hv=>⟨.panic v,env,S,g,hp,⟨x,rfl,hv⟩,hI⟩⟩
  have hQ:vbf T C (fun v S=>K (.panic v) [] S) (K .normal) (Post T C K):=
   ⟨fun env S g a w hk hI=>⟨.normal,env,S,g,hk,trivial,hI⟩,fun v S g a w env x hp hI hv=>⟨.panic v,[],S,g,hp,⟨x,rfl,hv⟩,hI.less⟩⟩
  simp only[qf,Bool.and_eq_true] at hc
  obtain⟨hfit,hc⟩:=hc
  rw[← hC] at hfit
  simp only[xg,vcd] at hx
  cases draw with
  |false=>
   cases ha:xda ann id with
   |some an=>simp[ha] at hc
   |none=>
    rw[ha] at hx
    simp only at hx
    cases hs:ya4 T ops.toList with
    |none=>rw[hs] at hx;exact vc1 hT hfit hQE h hx
    |some dt=>obtain⟨d,t⟩:=dt;rw[hs] at hx;exact xch hT hfit hQE h hs hx
  |true=>
   cases ha:xda ann id with
   |none=>simp[ha] at hc
   |some an=>
    rw[ha] at hx
    simp only[ha,Bool.and_eq_true] at hc
    obtain⟨⟨⟨hd,hn⟩,hall⟩,hlen⟩:=hc
    exact vch hT hm hfit hd (qbh hn) (fun i hi=>by
     have:i+1≤ops.toList.length:=nb (List.all_eq_true.1 hall i hi)
     rw[Array.length_toList] at this
     exact this) (by simpa using nb hlen) hQ h hx
 |seq x y ihx ihy=>
  intro hc C hC K env S hx g a w h
  simp only[qf,Bool.and_eq_true] at hc
  simp only[xg] at hx
  refine wp_seq (wp_mono (ihx hc.1 C hC (andThen (fun env S=>xg (pAlg P T N) T ann un y K env S) K) env S ?_ g a w h) (za0 fun env S g a w hk hI=>ihy hc.2 C hC K env S hk g a w hI))
  have he:andThen (fun env S=>xg (pAlg P T N) T ann un y K env S) K=fun e env S=>match e with
   |.normal=>xg (pAlg P T N) T ann un y K env S
   |.exit i=>K (.exit i) env S
   |.ret=>K .ret env S
   |.panic v=>K (.panic v) env S:=by
   funext e env S;cases e<;>rfl
  rw[he]
  exact hx
 |cond c x y ihx ihy=>
  intro hc C hC K env S hx g a w h
  simp only[qf,Bool.and_eq_true] at hc
  simp only[xg] at hx
  split at hx
  ·rename_i t ht
   have hv:=h.ev c
   rw[ht] at hv
   generalize hxx:a.eval c=u at hv
   cases hv
   split at hx
   ·exact wp_cond_true hxx (ihx hc.1 C hC K env S hx g a w h)
   ·exact wp_cond_false hxx (ihy hc.2 C hC K env S hx g a w h)
  ·exact hx.elim
 |block id x ih=>
  intro hc C hC K env S hx g a w h
  simp only[qf] at hc
  simp only[xg] at hx
  refine wp_block (wp_mono (ih hc C hC _ env S hx g a w h) ?_)
  rintro e a w ⟨ex,env,S,g,hk,hr,hI⟩
  cases e with
  |normal=>cases ex<;>first|exact⟨_,env,S,g,hk,hr,hI⟩|exact hr.elim
  |exit i=>
   cases ex with
   |exit j=>
    have hij:j=i:=hr
    subst hij
    simp only at hk
    simp only[Exit.inBlock]
    cases hb:Nat.beq j id with
    |true=>
     have:=Nat.eq_of_beq_eq_true hb
     rw[hb] at hk
     rw[if_pos this]
     exact⟨.normal,env,S,g,hk,trivial,hI⟩
    |false=>
     have:=Nat.ne_of_beq_eq_false hb
     rw[hb] at hk
     rw[if_neg this]
     exact⟨.exit j,env,S,g,hk,rfl,hI⟩
   |_=>exact hr.elim
  |ret=>cases ex<;>first|exact⟨_,env,S,g,hk,hr,hI⟩|exact hr.elim
  |panic ch=>cases ex<;>first|exact⟨_,env,S,g,hk,hr,hI⟩|exact hr.elim
  |goto l=>cases ex<;>exact hr.elim
  |outgrown=>cases ex<;>exact hr.elim
 |loop x ih=>
  intro hc C hC K env S hx g a w h
  simp only[qf] at hc
  refine qb2 ?_
  cases un with
  |zero=>exact hx C hC g a w h
  |succ n=>
   simp only[xg] at hx
   have key:∀(k:Nat) (env:Env) (S:St) (g:Ghost) (a:Act) (w:World),Inv T C g env S a w→jbm (xg (pAlg P T N) T ann (n+1) x) (pAlg P T N).fail K k env S→qcd P x (Post T C K) a w:=by
    intro k
    induction k with
    |zero=>intro env S g a w _ hx;exact hx.elim
    |succ k ihk=>
     intro env S g a w h hx
     simp only[jbm] at hx
     have he:andThen (fun env S=>jbm (xg (pAlg P T N) T ann (n+1) x) (pAlg P T N).fail K k env S) K=fun e env S=>match e with
      |.normal=>jbm (xg (pAlg P T N) T ann (n+1) x) (pAlg P T N).fail K k env S
      |.exit i=>K (.exit i) env S
      |.ret=>K .ret env S
      |.panic v=>K (.panic v) env S:=by
      funext e env S;cases e<;>rfl
     refine vb8 (wp_mono (ih hc C hC (andThen (fun env S=>jbm (xg (pAlg P T N) T ann (n+1) x) (pAlg P T N).fail K k env S) K) env S ?_ g a w h) (za0 fun env S g a w hk hI=>ihk env S g a w hI hk))
     rw[he]
     exact hx
   exact key _ env S g a w h hx
 |exit i=>intro _ C _ K env S hx g a w h;exact wp_exit ⟨.exit i,env,S,g,hx,rfl,h⟩
 |ret=>intro _ C _ K env S hx g a w h;exact wp_ret ⟨.ret,env,S,g,hx,trivial,h⟩
 |_=>intro _ C _ K env S hx g a w h;exact hx.elim
theorem vc(hT:TabOk P T)(hm:P.follows .mixedOrders=true){un:Nat}{c:Code}(hc:qf N ann c=true){K:Ex→Env→St→Prop}{env:Env}{S:St}
 (h:xg (pAlg P T N) T ann un c (andThen (za P T N c K) K) env S):za P T N c K env S:=fun C hC g a w hI=>
 vb8 (wp_mono (yaw hT hm un c hc C hC _ env S h g a w hI) (za0 fun env S g a w hk hI=>hk C hC g a w hI))
end
end Go.AM
namespace Go.AM
structure FnOk (P:Program) (f:FuncId) (fi:FnI):Prop where
 fn:∃ fn,P.funcs[f]? =some fn∧fn.body=some fi.body∧fn.ntmps=fi.n∧fn.results.toList=fi.results∧(fn.name == "runtime.NumGoroutine")=false
 ok:qf fi.n fi.ann fi.body=true
section
variable {P:Program} {T:Tab} {C:Ctx} {g:Ghost} {env:Env} {S:St} {a:Act} {w:World}
theorem FnOk.enters{f:FuncId}{fi:FnI}(h:FnOk P f fi):Enters P f:=by
 obtain⟨fn,hf,hb,_,_,hn⟩:=h.fn
 intro args w
 have hn':¬ fn.name= "runtime.NumGoroutine" :=by simpa using hn
 simp[callFunc,hf,hn',hb]
theorem xa7:∀(l:List AV) (n t:Nat),(xa3 n l).get t=if n≤t then nth l (t-n) else .undef
 | [],n,t=>by simp[xa3,Env.get,nth]
 |v::l,n,t=>by
  simp only[xa3,zbb]
  rw[xa7 l (n+1) t]
  by_cases h:n=t
  ·subst h;simp[nth]
  ·rw[if_neg h]
   by_cases h2:n≤t
   ·rw[if_pos (by omega),if_pos h2]
    have:t-n=(t-(n+1))+1:=by omega
    rw[this];rfl
   ·rw[if_neg (by omega),if_neg h2]
def xbf(tmps:Array Value):ResultVar→Sem Value
 |.tmp t=>pure (tmps.getD t undef)
 |.cell ad t=>do loadVar t (← asAddr (tmps.getD ad undef))
theorem qa5(fn:Func)(tmps:Array Value):results fn tmps=(do
 let vs ← fn.results.mapM (xbf tmps)
 pure (if h:vs.size=1 then vs[0] else .tuple vs)):=by
 unfold results
 have:(fun r=>match r with
  |ResultVar.tmp t=>pure (tmps.getD t undef)
  |ResultVar.cell a t=>do loadVar t (← asAddr (tmps.getD a undef)))=xbf tmps:=by
  funext r;cases r<;>rfl
 rw[← this]
 rfl
theorem vb5(hT:TabOk P T)(h:Inv T C g env S a w){r:ResultVar}{v:AV}(hr:qbr T env S r=some v) :
 ∃ x,(xbf a.tmps r).run P w= .ok x w∧Rep T w g v x:=by
 cases r with
 |tmp t=>
  simp only[qbr,Option.some.injEq] at hr
  subst hr
  exact⟨_,rfl,h.tmp t⟩
 |cell ad t=>
  simp only[qbr] at hr
  split at hr
  ·rename_i hh
   split at hr
   ·rename_i ob off hp
    split at hr
    ·rename_i hle
     simp only[Option.some.injEq] at hr
     subst hr
     have hle':=qat hle
     rw[vx] at hle'
     have hc:=h.tmp ad
     rw[hp] at hc
     generalize hx:a.tmps.getD ad undef=xc at hc
     cases hc with
     |ptr _ _ _ b hb=>
      obtain⟨c,tt,hcc,hsz,h1,hR⟩:=h.rel.obj ob b hb
      obtain⟨v,hl,hv⟩:=zba (P:=P) hT (g:=g) (w:=w) hh (S.row ob) b 0 off (fun j=>c.toList.getD j undef) hle'
       (fun j hj=>by
         have:j<c.size:=by omega
         simp[World.cell?,hcc,this,List.getD_eq_getElem?_getD])
       (fun j hj=>h1 _ (by
         have:j<c.toList.length:=by simpa[hsz] using hj
         rw[List.getD_eq_getElem?_getD,List.getElem?_eq_getElem this];exact List.getElem_mem _))
       (fun j hj=>hR j hj)
      refine⟨v,?_,hv⟩
      simp only[xbf,hx,asAddr,Sem.run_bind,Sem.run_pure,Result.andThen_ok]
      simpa using hl
    ·cases hr
   ·cases hr
  ·cases hr
theorem yaq(hT:TabOk P T)(h:Inv T C g env S a w):∀ {rs:List ResultVar} {l:List AV},yaz T env S rs=some l →
 ∃ xs:List Value,(rs.mapM (xbf a.tmps)).run P w= .ok xs w∧zk T w g l xs
 | [],l,hr=>by
  simp only[yaz,Option.some.injEq] at hr
  subst hr
  exact⟨[],rfl,rfl,by simp⟩
 |r::rs,l,hr=>by
  simp only[yaz] at hr
  cases h1:qbr T env S r with
  |none=>rw[h1] at hr;cases hr
  |some v=>
   rw[h1] at hr
   simp only at hr
   cases h2:yaz T env S rs with
   |none=>rw[h2] at hr;cases hr
   |some vs=>
    rw[h2] at hr
    simp only[Option.some.injEq] at hr
    subst hr
    obtain⟨x,hx,hv⟩:=vb5 hT h h1
    obtain⟨xs,hxs,hl,hR⟩:=yaq hT h h2
    refine⟨x::xs,?_,by simp[hl],?_⟩
    ·rw[List.mapM_cons,Sem.run_bind,hx,Result.andThen_ok,Sem.run_bind,hxs,Result.andThen_ok];rfl
    ·intro j hj
     cases j with
     |zero=>simpa[nth] using hv
     |succ j=>simpa[nth] using hR j (by simpa using hj)
theorem ja(hT:TabOk P T)(hm:P.follows .mixedOrders=true){un:Nat}{f:FuncId}{fi:FnI}(hf:FnOk P f fi){args:List AV}{K:Out→St→Prop}(hlen:args.length≤fi.n)
 (hx:xbm (pAlg P T fi.n) T un fi args S K):jb P T f args S K:=by
 intro g w vs hrel hglob hargs
 obtain⟨fn,hfn,hb,hn,hrs,hname⟩:=hf.fn
 refine .inl ⟨hf.enters,calls_of_wp hfn hb ?_⟩
 let C:Ctx:={ n:=fi.n,w0:=w,g0:=g,next:=S.next,touch:=qj g }
 let a0:Act:={ tmps:=vs.toArray++Array.replicate (fn.ntmps-vs.toArray.size) undef,defers:=[] }
 have hI:Inv T C g (xa3 0 args) S a0 w:=by
  refine⟨fun t=>?_,?_,rfl,hrel,.refl _ _ _,fun o b q=> .inl (.inl ⟨o,q⟩),fun k tk b q q'=> .inl (.inr ⟨k,tk,q,q'⟩),hglob,fun o b q=> .inl q,Nat.le_refl _⟩
  ·rw[xa7,if_pos (Nat.zero_le _),Nat.sub_zero]
   by_cases ht:t<args.length
   ·have:=hargs.2 t ht
    have hlt:t<vs.length:=by rw[hargs.1];exact ht
    have he:a0.tmps.getD t undef=vs.getD t undef:=by
     simp[a0,Array.getD_eq_getD_getElem?,List.getD_eq_getElem?_getD,Array.getElem?_append,hlt]
    rw[he];exact this
   ·rw[jdl (by omega)]
    exact .undef _ _
  ·simp only[a0,Array.size_append,Array.size_replicate,List.size_toArray,hn,hargs.1]
   show args.length+(fi.n-args.length)=fi.n
   omega
 refine wp_mono (yaw hT hm un fi.body hf.ok C rfl _ _ S hx g a0 w hI) ?_
 have fin:∀ env S' g' a w',xret (pAlg P T fi.n) T fi.results env S' K→Inv T C g' env S' a w'→a.defers=[]∧∃ v,(results fn a.tmps).run P w'= .ok v w'∧vj T g S w K (.returned v) w':=by
  intro env S' g' a w' hk hI'
  refine⟨hI'.defers,?_⟩
  unfold xret at hk
  split at hk
  ·rename_i l hl
   obtain⟨xs,hxs,hl1,hl2⟩:=yaq hT hI' hl
   have hrun:(results fn a.tmps).run P w'= .ok (if h:xs.toArray.size=1 then xs.toArray[0] else .tuple xs.toArray) w':=by
    have hxs':(fn.results.mapM (xbf a.tmps)).run P w'= .ok xs.toArray w':=by
     rw[← hrs] at hxs
     rw[Array.mapM_eq_mapM_toList,map_eq_pure_bind,Sem.run_bind,hxs,Result.andThen_ok]
     rfl
    rw[qa5,Sem.run_bind,hxs',Result.andThen_ok]
    rfl
   refine⟨_,hrun,.ret (xc3 l),S',g',hk,?_,hI'.rel,hI'.ext,?_,hI'.nm,hI'.next⟩
   ·show Rep T w' g' (xc3 l) _
    cases l with
    |nil=>
     have:xs=[]:=List.eq_nil_of_length_eq_zero (by simpa using hl1)
     subst this
     exact .tup _ _ _ rfl (by simp)
    |cons v l=>
     cases l with
     |nil=>
      cases xs with
      |nil=>simp at hl1
      |cons x xs=>
       have:xs=[]:=List.eq_nil_of_length_eq_zero (by simpa using hl1)
       subst this
       simpa[xc3,nth] using hl2 0 (by simp)
     |cons v2 l=>
      have:¬ xs.toArray.size=1:=by simp[hl1]
      rw[dif_neg this]
      exact .tup _ _ _ hl1 hl2
   ·rintro b (⟨o,q⟩|⟨k,tk,q,q'⟩)
    ·exact hI'.ob o b q
    ·exact hI'.tb k tk b q q'
  ·exact hk.elim
 rintro e a w' ⟨ex,env,S',g',hk,hr,hI'⟩
 cases e with
 |normal=>cases ex<;>first|exact fin env S' g' a w' hk hI'|exact hr.elim
 |ret=>cases ex<;>first|exact fin env S' g' a w' hk hI'|exact hr.elim
 |panic ch=>
  cases ex with
  |panic v=>
   refine⟨hI'.defers,.panic v,S',g',hk,hr,hI'.rel,hI'.ext,?_,hI'.nm,hI'.next⟩
   rintro b (⟨o,q⟩|⟨k,tk,q,q'⟩)
   ·exact hI'.ob o b q
   ·exact hI'.tb k tk b q q'
  |_=>exact hr.elim
 |exit i=>cases ex<;>first|exact hk.elim|exact hr.elim
 |goto l=>cases ex<;>exact hr.elim
 |outgrown=>cases ex<;>exact hr.elim
end
end Go.AM
namespace Go.AM
structure Hom {R:Type} (A:Alg R) (B:Alg Prop) (h:R→Prop):Prop where
 fail:¬ h A.fail
 need:∀ b r (q:Prop),h (A.need b r)→(h r→q)→B.need b q
 same:∀ a b r (q:Prop),h (A.same a b r)→(h r→q)→B.same a b q
 call:∀ f args S K (K':Out→St→Prop),h (A.call f args S K)→(∀ o S,h (K o S)→K' o S)→B.call f args S K'
 loop:∀ c K env S (K':Ex→Env→St→Prop),h (A.loop c K env S)→(∀ e env S,h (K e env S)→K' e env S)→B.loop c K' env S
section
variable {R:Type} {A:Alg R} {B:Alg Prop} {h:R→Prop} (H:Hom A B h) {T:Tab}
include H
theorem ybc{t:TypeId}{x y:AV}{S:St}{K:AV→St→R}{K':AV→St→Prop}(hk:∀ v S,h (K v S)→K' v S)(hx:h (qaq A T t x y S K)):qaq B T t x y S K':=by
 unfold qaq at hx ⊢
 split
 ·rename_i e ht
  simp only[ht] at hx
  cases hh:T.has e with
  |false=>rw[hh] at hx;exact(H.fail hx).elim
  |true=>
   rw[hh] at hx
   simp only at hx ⊢
   cases h1:Nat.ble 1 (T.size e) with
   |false=>rw[h1] at hx;exact(H.fail hx).elim
   |true=>
    cases h2:Nat.ble 1 (T.bytes e) with
    |false=>rw[h1,h2] at hx;exact(H.fail hx).elim
    |true=>
     rw[h1,h2] at hx
     simp only at hx ⊢
     split
     ·rename_i e1 cs m e2 ys m2
      simp only at hx
      cases h3:Nat.beq e2 e with
      |false=>rw[h3] at hx;exact(H.fail hx).elim
      |true=>
       rw[h3] at hx
       simp only at hx ⊢
       refine H.need _ _ _ hx fun hx=>?_
       cases m with
       |no=>exact(H.fail hx).elim
       |exact=>
        cases cs with
        |nil=>exact hk _ _ hx
        |cons v l=>
         simp only at hx ⊢
         cases h4:Nat.beq e1 e with
         |false=>rw[h4] at hx;exact(H.fail hx).elim
         |true=>rw[h4] at hx;exact H.need _ _ _ hx fun hx=>hk _ _ hx
       |own k=>
        simp only at hx ⊢
        cases h4:Nat.beq e1 e with
        |false=>rw[h4] at hx;exact(H.fail hx).elim
        |true=>rw[h4] at hx;exact H.need _ _ _ hx fun hx=>hk _ _ hx
     ·rename_i hne
      split at hx
      ·rename_i e1 cs m e2 ys m2
       exact(hne _ _ _ _ _ _ rfl rfl).elim
      ·exact(H.fail hx).elim
 ·rename_i hne
  split at hx
  ·rename_i e ht
   exact(hne e ht).elim
  ·exact(H.fail hx).elim
theorem qdy{env:Env}{S:St}{op:Op}{Pa K:AV→St→R}{Pa' K':AV→St→Prop}(hp:∀ v S,h (Pa v S)→Pa' v S)(hk:∀ v S,h (K v S)→K' v S)(hx:h (xeff A T env S op Pa K)) :
 xeff B T env S op Pa' K':=by
 cases op with
 |store t a v=>
  simp only[xeff] at hx ⊢
  cases h1:ev T env a with
  |ptr o off=>
   rw[h1] at hx
   simp only at hx ⊢
   cases h2:(ev T env v).known with
   |false=>rw[h2] at hx;exact(H.fail hx).elim
   |true=>
    rw[h2] at hx
    simp only at hx ⊢
    cases h3:Nat.beq (lenN (ev T env v).cells) (T.size t) with
    |false=>rw[h3] at hx;exact(H.fail hx).elim
    |true=>
     rw[h3] at hx
     simp only at hx ⊢
     cases h4:Nat.ble (off+T.size t) (lenN (S.row o)) with
     |false=>rw[h4] at hx;exact(H.fail hx).elim
     |true=>
      rw[h4] at hx
      simp only at hx ⊢
      cases h5:Nat.ble 1 (T.size t) with
      |true=>rw[h5] at hx;exact hk _ _ hx
      |false=>
       rw[h5] at hx
       simp only at hx ⊢
       cases h6:(ev T env v).cells with
       |nil=>
        rw[h6] at hx
        simp only at hx ⊢
        cases h7:T.has t with
        |true=>rw[h7] at hx;exact hk _ _ hx
        |false=>rw[h7] at hx;exact(H.fail hx).elim
       |cons=>rw[h6] at hx;exact(H.fail hx).elim
  |_=>rw[h1] at hx;exact(H.fail hx).elim
 |panic x=>
  simp only[xeff] at hx ⊢
  cases h1:ev T env x with
  |iface t v=>rw[h1] at hx;exact hp _ _ hx
  |_=>rw[h1] at hx;exact(H.fail hx).elim
 |call c=>
  cases hc:c.callee with
  |builtin b=>
   by_cases hb:b= .append
   ·subst hb
    simp only[xeff,hc] at hx ⊢
    split
    ·rename_i x y t u ha ht
     simp only[ha,ht] at hx
     cases h1:Nat.beq t u with
     |true=>rw[h1] at hx;exact ybc H hk hx
     |false=>
      rw[h1] at hx
      simp only at hx ⊢
      split
      ·rename_i q1 q2 s q3 q4
       simp only[q3,q4] at hx
       split
       ·rename_i e q5
        simp only[q5] at hx
        split
        ·rename_i q6
         simp only[q6] at hx
         exact ybc H hk hx
        ·rename_i q6
         split at hx
         ·rename_i q7
          exact(q6 q7).elim
         ·exact(H.fail hx).elim
       ·rename_i q6
        split at hx
        ·rename_i q7
         exact(q6 _ q7).elim
        ·exact(H.fail hx).elim
      ·rename_i q6
       split at hx
       ·rename_i s q7 q8
        exact(q6 _ q7 q8).elim
       ·exact(H.fail hx).elim
    ·rename_i hne
     split at hx
     ·rename_i x y t u ha ht
      exact(hne _ _ _ _ ha ht).elim
     ·exact(H.fail hx).elim
   ·simp only[xeff,hc] at hx ⊢
    cases b<;>first|exact absurd rfl hb|exact(H.fail hx).elim
  |value f=>
   simp only[xeff,hc] at hx ⊢
   cases h1:ev T env f with
   |func fid p q=>
    rw[h1] at hx
    refine H.call _ _ _ _ _ hx fun o S hx=>?_
    cases o with
    |ret v=>exact hk _ _ hx
    |panic v=>exact hp _ _ hx
   |_=>rw[h1] at hx;exact(H.fail hx).elim
  |invoke r n=>simp only[xeff,hc] at hx;exact(H.fail hx).elim
 |_=>exact(H.fail hx).elim
theorem qa4{env:Env}{S:St}{op:Op}{Pa K:AV→St→R}{Pa' K':AV→St→Prop}(hp:∀ v S,h (Pa v S)→Pa' v S)(hk:∀ v S,h (K v S)→K' v S)(hx:h (xop A T env S op Pa K)) :
 xop B T env S op Pa' K':=by
 unfold xop at hx ⊢
 generalize yf T env S op=r at hx ⊢
 cases r with
 |ok v=>exact hk _ _ hx
 |need b v=>exact H.need _ _ _ hx fun hx=>hk _ _ hx
 |new row=>exact hk _ _ hx
 |no=>exact qdy H hp hk hx
theorem zat{env:Env}{S:St}{o:Oper}{k:R}{k':Prop}(hk:h k→k')(hx:h (xai A T env S o k)):xai B T env S o k':=by
 unfold xai at hx ⊢
 generalize o.dst=dd at hx ⊢
 cases dd with
 |none=>exact(H.fail hx).elim
 |some d=>
  simp only at hx ⊢
  generalize yf T env S o.op=r at hx ⊢
  cases r with
  |ok w=>exact H.same _ _ _ _ hx hk
  |need b w=>exact H.need _ _ _ hx fun hx=>H.same _ _ _ _ hx hk
  |new row=>
   simp only at hx ⊢
   cases hv:env.get d with
   |ptr ob off=>rw[hv] at hx;exact H.same _ _ _ _ hx hk
   |_=>rw[hv] at hx;exact(H.fail hx).elim
  |no=>exact(H.fail hx).elim
theorem zdx{all:List Oper}{env:Env}{S:St}{o:Oper}{k:R}{k':Prop}(hk:h k→k')(hx:h (jdx A T all env S o k)):jdx B T all env S o k':=by
 unfold jdx at hx ⊢
 generalize o.guard=gd at hx ⊢
 cases gd with
 |none=>exact zat H hk hx
 |some jw=>
  obtain⟨j,want⟩:=jw
  simp only at hx ⊢
  cases hy:ql all env j with
  |bool b=>
   rw[hy] at hx
   cases b<;>cases want
   ·exact zat H hk hx
   ·exact hk hx
   ·exact hk hx
   ·exact zat H hk hx
  |tup vs=>
   rw[hy] at hx
   cases vs with
   |nil=>exact hk hx
   |cons=>exact(H.fail hx).elim
  |_=>rw[hy] at hx;exact(H.fail hx).elim
theorem jat{all:List Oper}{env:Env}{S:St}{k:R}{k':Prop}(hk:h k→k'):∀ {l:List Nat},h (zp A T all env S l k)→zp B T all env S l k':=by
 intro l
 induction l with
 |nil=>exact hk
 |cons i l ih=>
  intro hx
  simp only[zp] at hx ⊢
  cases ho:opAt all i with
  |none=>rw[ho] at hx;exact(H.fail hx).elim
  |some o=>rw[ho] at hx;exact zdx H ih hx
theorem ydx{all:List Oper}{fl:List (Nat × List Nat)}{Pa:AV→St→R}{Pa':AV→St→Prop}{K:Env→St→R}{K':Env→St→Prop}(hp:∀ v S,h (Pa v S)→Pa' v S)(hk:∀ env S,h (K env S)→K' env S) :
 ∀ {l:List (Nat × Oper)} {env:Env} {S:St},h (xops A T all fl Pa K l env S)→xops B T all fl Pa' K' l env S:=by
 intro l
 induction l with
 |nil=>intro env S hx;exact hk _ _ hx
 |cons p l ih=>
  intro env S hx
  obtain⟨i,o⟩:=p
  simp only[xops] at hx ⊢
  cases hg:o.guard with
  |none=>rw[hg] at hx;exact qa4 H hp (fun v S hx=>jat H ih hx) hx
  |some jw=>
   obtain⟨j,want⟩:=jw
   rw[hg] at hx
   simp only at hx ⊢
   cases hy:ql all env j with
   |bool b=>
    rw[hy] at hx
    cases b<;>cases want
    ·exact qa4 H hp (fun v S hx=>jat H ih hx) hx
    ·exact ih hx
    ·exact ih hx
    ·exact qa4 H hp (fun v S hx=>jat H ih hx) hx
   |tup vs=>
    rw[hy] at hx
    cases vs with
    |nil=>exact ih hx
    |cons=>exact(H.fail hx).elim
   |_=>rw[hy] at hx;exact(H.fail hx).elim
theorem jdb{all:List Oper}{Pa:Env→AV→St→R}{Pa':Env→AV→St→Prop}{K:Env→St→R}{K':Env→St→Prop}(hp:∀ env v S,h (Pa env v S)→Pa' env v S)(hk:∀ env S,h (K env S)→K' env S) :
 ∀ {l:List (Nat × Oper)} {env:Env} {S:St},h (vaw A T all Pa K l env S)→vaw B T all Pa' K' l env S:=by
 intro l
 induction l with
 |nil=>intro env S hx;exact hk _ _ hx
 |cons p l ih=>
  intro env S hx
  obtain⟨i,o⟩:=p
  simp only[vaw] at hx ⊢
  cases hg:o.guard with
  |none=>rw[hg] at hx;exact qa4 H (hp env) (fun v S hx=>ih hx) hx
  |some jw=>
   obtain⟨j,want⟩:=jw
   rw[hg] at hx
   simp only at hx ⊢
   cases hy:ql all env j with
   |bool b=>
    rw[hy] at hx
    cases b<;>cases want
    ·exact qa4 H (hp env) (fun v S hx=>ih hx) hx
    ·exact ih hx
    ·exact ih hx
    ·exact qa4 H (hp env) (fun v S hx=>ih hx) hx
   |tup vs=>
    rw[hy] at hx
    cases vs with
    |nil=>exact ih hx
    |cons=>exact(H.fail hx).elim
   |_=>rw[hy] at hx;exact(H.fail hx).elim
theorem yb1{ann:List (Nat × Ann)}{un:Nat}:∀ {c:Code} {K:Ex→Env→St→R} {K':Ex→Env→St→Prop} {env:Env} {S:St},(∀ e env S,h (K e env S)→K' e env S)→h (xg A T ann un c K env S) →
 xg B T ann un c K' env S:=by
 intro c
 induction c with
 |skip=>intro K K' env S hk hx;exact hk _ _ _ hx
 |region id ops draw=>
  intro K K' env S hk hx
  simp only[xg,vcd] at hx ⊢
  cases ha:xda ann id with
  |none=>
   rw[ha] at hx
   simp only at hx ⊢
   cases hs:ya4 T ops.toList with
   |none=>rw[hs] at hx;exact jdb H (fun env v S hx=>hk _ _ _ hx) (fun env S hx=>hk _ _ _ hx) hx
   |some dt=>obtain⟨d,t⟩:=dt;rw[hs] at hx;exact hk _ _ _ hx
  |some a=>rw[ha] at hx;exact ydx H (fun v S hx=>hk _ _ _ hx) (fun env S hx=>hk _ _ _ hx) hx
 |seq x y ihx ihy=>
  intro K K' env S hk hx
  simp only[xg] at hx ⊢
  refine ihx (fun e env S hx=>?_) hx
  cases e with
  |normal=>exact ihy hk hx
  |_=>exact hk _ _ _ hx
 |cond c x y ihx ihy=>
  intro K K' env S hk hx
  simp only[xg] at hx ⊢
  cases hc:ev T env c with
  |bool t=>
   rw[hc] at hx
   cases t
   ·exact ihy hk hx
   ·exact ihx hk hx
  |_=>rw[hc] at hx;exact(H.fail hx).elim
 |block id x ih=>
  intro K K' env S hk hx
  simp only[xg] at hx ⊢
  refine ih (fun e env S hx=>?_) hx
  cases e with
  |normal=>exact hk _ _ _ hx
  |exit i=>
   simp only at hx ⊢
   cases hb:Nat.beq i id with
   |true=>rw[hb] at hx;exact hk _ _ _ hx
   |false=>rw[hb] at hx;exact hk _ _ _ hx
  |_=>exact hk _ _ _ hx
 |loop x ih=>
  intro K K' env S hk hx
  cases un with
  |zero=>exact H.loop _ _ _ _ _ hx hk
  |succ n=>
   simp only[xg] at hx ⊢
   have key:∀(k:Nat) (env:Env) (S:St),h (jbm (xg A T ann (n+1) x) A.fail K k env S)→jbm (xg B T ann (n+1) x) B.fail K' k env S:=by
    intro k
    induction k with
    |zero=>intro env S hx;exact(H.fail hx).elim
    |succ k ihk=>
     intro env S hx
     simp only[jbm] at hx ⊢
     refine ih (fun e env S hx=>?_) hx
     cases e with
     |normal=>exact ihk _ _ hx
     |_=>exact hk _ _ _ hx
   exact key _ _ _ hx
 |exit i=>intro K K' env S hk hx;exact hk _ _ _ hx
 |ret=>intro K K' env S hk hx;exact hk _ _ _ hx
 |_=>intro K K' env S hk hx;exact(H.fail hx).elim
theorem xbc{un:Nat}{fi:FnI}{args:List AV}{S:St}{K:Out→St→R}{K':Out→St→Prop}(hk:∀ o S,h (K o S)→K' o S)(hx:h (xbm A T un fi args S K)):xbm B T un fi args S K':=by
 have hret:∀ env S,h (xret A T fi.results env S K)→xret B T fi.results env S K':=by
  intro env S hx
  unfold xret at hx ⊢
  cases hr:yaz T env S fi.results with
  |none=>rw[hr] at hx;exact(H.fail hx).elim
  |some l=>rw[hr] at hx;exact hk _ _ hx
 unfold xbm at hx ⊢
 refine yb1 H (fun e env S hx=>?_) hx
 cases e with
 |normal=>exact hret _ _ hx
 |ret=>exact hret _ _ hx
 |panic v=>exact hk _ _ hx
 |exit i=>exact(H.fail hx).elim
end
def qdm:Mode→Mode→Bool
 |.no,.no=>true
 |.exact,.exact=>true
 |.own j,.own k=>Nat.beq j k
 |_,_=>false
mutual
def avEq:AV→AV→Bool
 |.int k n,.int k' n'=>decide (k=k') && decide (n=n')
 |.bool b,.bool b'=>b == b'
 |.str s,.str s'=>s == s'
 |.ptr o f,.ptr o' f'=>Nat.beq o o' && Nat.beq f f'
 |.nilp,.nilp=>true
 |.nilf,.nilf=>true
 |.nili,.nili=>true
 |.slice e cs m,.slice e' cs' m'=>Nat.beq e e' && qdm m m' && ybo cs cs'
 |.func f a b,.func f' a' b'=>Nat.beq f f' && ybo a a' && ybo b b'
 |.iface t v,.iface t' v'=>Nat.beq t t' && avEq v v'
 |.agg l,.agg m=>ybo l m
 |.tup l,.tup m=>ybo l m
 |.undef,.undef=>true
 |_,_=>false
def ybo:List AV→List AV→Bool
 | [],[]=>true
 |a::l,b::m=>avEq a b && ybo l m
 |_,_=>false
end
theorem ydl{a b:Mode}(h:qdm a b=true):a=b:=by
 cases a<;>cases b<;>simp only[qdm] at h<;>first|rfl|cases h|rw[Nat.eq_of_beq_eq_true h]
mutual
theorem qa7:∀ {a b:AV},avEq a b=true→a=b:=by
 intro a b h
 cases a<;>cases b<;>simp only[avEq,Bool.and_eq_true,decide_eq_true_eq,beq_iff_eq] at h<;>first|rfl|(cases h;done)|skip
 ·obtain⟨rfl,rfl⟩:=h;rfl
 ·subst h;rfl
 ·subst h;rfl
 ·rw[Nat.eq_of_beq_eq_true h.1,Nat.eq_of_beq_eq_true h.2]
 ·rw[Nat.eq_of_beq_eq_true h.1.1,ydl h.1.2,vav h.2]
 ·rw[Nat.eq_of_beq_eq_true h.1.1,vav h.1.2,vav h.2]
 ·rw[Nat.eq_of_beq_eq_true h.1,qa7 h.2]
 ·rw[vav h]
 ·rw[vav h]
theorem vav:∀ {l m:List AV},ybo l m=true→l=m
 | [],[],_=>rfl
 |a::l,b::m,h=>by
  simp only[ybo,Bool.and_eq_true] at h
  rw[qa7 h.1,vav h.2]
 | [],_::_,h=>by simp[ybo] at h
 |_::_,[],h=>by simp[ybo] at h
end
def bAlg(T:Tab)(fns:FuncId→Option FnI)(un:Nat):Nat→Alg Bool
 | 0=>{ fail:=false,need:=fun b r=>match b with|true=>r|false=>false,same:=fun a b r=>match avEq a b with|true=>r|false=>false,call:=fun _ _ _ _=>false,loop:=fun _ _ _ _=>false }
 |d+1=>{ fail:=false,need:=fun b r=>match b with|true=>r|false=>false,same:=fun a b r=>match avEq a b with|true=>r|false=>false,loop:=fun _ _ _ _=>false,
         call:=fun f args S K=>match fns f with
          |some fi=>match Nat.ble (lenN args) fi.n with
           |true=>xbm (bAlg T fns un d) T un fi args S K
           |false=>false
          |none=>false }
section
variable {P:Program} {T:Tab} (hT:TabOk P T) (hm:P.follows .mixedOrders=true) {fns:FuncId→Option FnI} (hf:∀ f fi,fns f=some fi→FnOk P f fi)
include hT hm hf
theorem zcx(un:Nat):∀(d N:Nat),Hom (bAlg T fns un d) (pAlg P T N) (fun b=>b=true)
 | 0,N=>⟨fun h=>by simp[bAlg] at h,fun b _ _ h k=>by cases b<;>simp[bAlg] at h;exact⟨rfl,k h⟩,fun a b _ _ h k=>by
   simp only[bAlg] at h
   cases hq:avEq a b with
   |false=>rw[hq] at h;cases h
   |true=>rw[hq] at h;exact⟨qa7 hq,k h⟩,fun _ _ _ _ _ h _=>by simp[bAlg] at h,fun _ _ _ _ _ h _=>by simp[bAlg] at h⟩
 |d+1,N=>⟨fun h=>by simp[bAlg] at h,fun b _ _ h k=>by cases b<;>simp[bAlg] at h;exact⟨rfl,k h⟩,fun a b _ _ h k=>by
  simp only[bAlg] at h
  cases hq:avEq a b with
  |false=>rw[hq] at h;cases h
  |true=>rw[hq] at h;exact⟨qa7 hq,k h⟩,fun f args S K K' h k=>by
  simp only[bAlg] at h
  cases hq:fns f with
  |none=>rw[hq] at h;cases h
  |some fi=>
   rw[hq] at h
   simp only at h
   cases hl:Nat.ble (lenN args) fi.n with
   |false=>rw[hl] at h;cases h
   |true=>
    rw[hl] at h
    exact ja hT hm (hf f fi hq) (by have:=nb hl;rwa [vx] at this) (un:=un) (xbc (zcx un d fi.n) k h),fun _ _ _ _ _ h _=>by simp[bAlg] at h⟩
end
end Go.AM
namespace Go.AM
def jaf(P:Program):Nat→List Field→List Z→Bool
 |_,[],[]=>true
 |n,f::fs,z::zs=>Nat.beq f.offset n && decide (f.name≠ "_") && (match P.underlying f.type,z with
  |some (.int _),.i _=>true
  |some .string,.s=>true
  |some .bool,.b=>true
  |_,_=>false) && jaf P (n+1) fs zs
 |_,_,_=>false
def qdt(P:Program)(T:Tab)(t:TypeId):Bool:=
 (match P.underlying t,T.ty t with
   |some (.struct fs),.struct _ zs=>jaf P 0 fs.toList zs
   |_,_=>false) && !P.stoodInHeld t && !P.eqGuardType P.depth t
def qew(P:Program)(T:Tab):Bool:=T.eqs.all (qdt P T)
section
variable {P:Program} {T:Tab} {g:Ghost} {w:World}
theorem xc6{t:TypeId}{d:TypeDesc}(hd:P.underlying t=some d)(h:qbj d=false):(isAgg t).run P w= .ok false w:=by
 cases d<;>simp[isAgg,run_underlying hd,qbj] at h ⊢
theorem jb7{t:TypeId}{d:TypeDesc}(hd:P.underlying t=some d)(h:qbj d=false){cs:Array Value}{n:Nat}{v:Value}(hv:cs[n]? =some v):(Go.part t cs n).run P w= .ok v w:=by
 unfold Go.part
 simp[xc6 hd h,hv]
theorem qcb(d:Nat)(a b:List AV)(xs ys:List Value)(hxa:xs.length=a.length)(hyb:ys.length=b.length)(hA:∀ j,j<a.length→Rep T w g (nth a j) (xs.getD j undef))
 (hB:∀ j,j<b.length→Rep T w g (nth b j) (ys.getD j undef)):∀(fs:List Field) (zs:List Z) (n:Nat) (r:Bool),jaf P n fs zs=true→yp real zs (a.drop n) (b.drop n)=some r →
 (Op.eqFields (d+1) xs.toArray ys.toArray fs).run P w= .ok r w:=by
 intro fs
 induction fs with
 |nil=>
  intro zs n r hok hr
  cases zs with
  |cons=>simp[jaf] at hok
  |nil=>
   generalize a.drop n=p at hr
   generalize b.drop n=q at hr
   cases p<;>cases q<;>simp[yp] at hr
   subst hr
   rfl
 |cons f fs ih=>
  intro zs n r hok hr
  cases zs with
  |nil=>simp[jaf] at hok
  |cons z zs=>
   simp only[jaf,Bool.and_eq_true,decide_eq_true_eq] at hok
   obtain⟨⟨⟨h1,h2⟩,h3⟩,h5⟩:=hok
   have h1':f.offset=n:=Nat.eq_of_beq_eq_true h1
   have hna:n<a.length:=by
    rcases Nat.lt_or_ge n a.length with h|h
    ·exact h
    ·rw[List.drop_eq_nil_of_le h] at hr;simp[yp] at hr
   have hnb:n<b.length:=by
    rcases Nat.lt_or_ge n b.length with h|h
    ·exact h
    ·rw[List.drop_eq_nil_of_le h] at hr
     generalize a.drop n=p at hr
     cases p<;>simp[yp] at hr
   have hRa:=hA n hna
   have hRb:=hB n hnb
   rw[List.drop_eq_getElem_cons hna,List.drop_eq_getElem_cons hnb] at hr
   have ea:nth a n=a[n]:=by rw[nth_eq];simp[List.getD_eq_getElem?_getD,hna]
   have eb:nth b n=b[n]:=by rw[nth_eq];simp[List.getD_eq_getElem?_getD,hnb]
   rw[ea] at hRa
   rw[eb] at hRb
   have hxn:xs.toArray[n]? =some (xs.getD n undef):=by
    have:n<xs.length:=by omega
    simp[List.getD_eq_getElem?_getD,this]
   have hyn:ys.toArray[n]? =some (ys.getD n undef):=by
    have:n<ys.length:=by omega
    simp[List.getD_eq_getElem?_getD,this]
   generalize xs.getD n undef=xv at hRa hxn
   generalize ys.getD n undef=yv at hRb hyn
   have go:∀(dd:TypeDesc) (c r':Bool),P.underlying f.type=some dd→qbj dd=false→(Op.equalIn (d+1) f.type xv yv).run P w= .ok c w→yp real zs (a.drop (n+1)) (b.drop (n+1))=some r'→(c && r')=r →
    (Op.eqFields (d+1) xs.toArray ys.toArray (f::fs)).run P w= .ok r w:=by
    intro dd c r' hdd hag heq hr' hcr
    simp only[Op.eqFields,if_pos h2,h1',Sem.run_bind,jb7 hdd hag hxn,jb7 hdd hag hyn,Result.andThen_ok,heq]
    cases c
    ·simp at hcr ⊢;exact hcr
    ·simp at hcr ⊢;rw[← hcr];exact ih zs (n+1) r' h5 hr'
   generalize a[n]=u at hRa hr
   generalize b[n]=v at hRb hr
   cases hu:P.underlying f.type with
   |none=>simp[hu] at h3
   |some dd=>
    cases z with
    |i k0=>
     cases u with
     |int j x=>
      cases v with
      |int k y=>
       simp only[yp] at hr
       split at hr
       ·rename_i hjk
        have hjk':j=k:=of_decide_eq_true hjk
        subst hjk'
        split at hr
        ·rename_i r' hr'
         simp only[Option.some.injEq] at hr
         cases hRa;cases hRb
         have hdd:∃ k',dd= .int k':=by
          rw[hu] at h3
          cases dd<;>simp at h3
          exact⟨_,rfl⟩
         obtain⟨k',rfl⟩:=hdd
         exact go _ (x == y) r' hu rfl (run_equalIn_int w d f.type j k' x y hu) hr' hr
        ·cases hr
       ·cases hr
      |_=>simp[yp] at hr
     |_=>simp[yp] at hr
    |s=>
     cases u with
     |str x=>
      cases v with
      |str y=>
       simp only[yp] at hr
       split at hr
       ·rename_i r' hr'
        simp only[Option.some.injEq] at hr
        cases hRa;cases hRb
        have hdd:dd= .string:=by
         rw[hu] at h3
         cases dd<;>simp at h3
         rfl
        subst hdd
        refine go _ (x == y) r' hu rfl ?_ hr' hr
        rw[run_equalIn_string w d f.type _ _ hu]
        simp[ByteArray.toList_eq]
       ·cases hr
      |_=>simp[yp] at hr
     |_=>simp[yp] at hr
    |b=>
     cases u with
     |bool x=>
      cases v with
      |bool y=>
       simp only[yp] at hr
       split at hr
       ·rename_i r' hr'
        simp only[Option.some.injEq] at hr
        cases hRa;cases hRb
        have hdd:dd= .bool:=by
         rw[hu] at h3
         cases dd<;>simp at h3
         rfl
        subst hdd
        exact go _ (x == y) r' hu rfl (run_equalIn_bool' w d f.type x y hu) hr' hr
       ·cases hr
      |_=>simp[yp] at hr
     |_=>simp[yp] at hr
    |_=>simp[yp] at hr
theorem xem{t:TypeId}(h:qdt P T t=true):EqOk P T t:=by
 intro op xo yo w g fs zs a b x y r hty hx hy hr
 simp only[qdt,Bool.and_eq_true,Bool.not_eq_true'] at h
 obtain⟨⟨h1,h2⟩,h3⟩:=h
 rw[hty] at h1
 cases hu:P.underlying t with
 |none=>simp[hu] at h1
 |some d=>
  rw[hu] at h1
  cases d<;>simp only at h1<;>try (cases h1;done)
  rename_i fields
  cases hx with
  |agg _ _ xs hl hone hR=>
   cases hy with
   |agg _ _ ys hl' hone' hR'=>
    refine⟨run_eqGuard_agg w op t xo yo _ _ h3,?_⟩
    have hf:P.fieldsOf t=fields:=by simp[Program.fieldsOf,hu]
    have:=run_equalIn_struct (P:=P) w 9999 t xs.toArray ys.toArray (by rw[hf];exact hu) h2
    unfold Op.equal
    show (Op.equalIn 10000 t _ _).run P w=_
    rw[this,hf]
    exact qcb 9998 a b xs ys hl hl' hR hR' fields.toList zs 0 r h1 (by simpa using hr)
theorem vd8(h:qew P T=true)(t:TypeId)(ht:memN T.eqs t=true):EqOk P T t:=by
 have key:∀ l:List TypeId,l.all (qdt P T)=true→memN l t=true→qdt P T t=true:=by
  intro l
  induction l with
  |nil=>intro _ h;cases h
  |cons x l ih=>
   intro ha hm
   simp only[List.all_cons,Bool.and_eq_true] at ha
   simp only[memN] at hm
   cases hb:Nat.beq x t with
   |true=>rw[← Nat.eq_of_beq_eq_true hb];exact ha.1
   |false=>rw[hb] at hm;exact ih ha.2 hm
 exact xem (key _ h ht)
end
end Go.AM
namespace Go.AM
def renM(h:Nat→Option Nat):Mode→Mode
 |.own k=>match h k with
  |some k'=> .own k'
  |none=> .no
 |m=>m
mutual
def AV.ren(f h:Nat→Option Nat):AV→AV
 |.ptr o off=>match f o with
  |some o'=> .ptr o' off
  |none=> .undef
 |.slice e cs m=> .slice e cs (renM h m)
 |.func fid a b=> .func fid (renL f h a) (renL f h b)
 |.iface t v=> .iface t (AV.ren f h v)
 |.agg cs=> .agg (renL f h cs)
 |.tup vs=> .tup (renL f h vs)
 |.int k n=> .int k n
 |.bool b=> .bool b
 |.str s=> .str s
 |.eptr t e off=> .eptr t e off
 |.nilp=> .nilp
 |.anyInt k=> .anyInt k
 |.tnil o t=>match f o with
  |some o'=> .tnil o' t
  |none=> .nilp
 |.nilf=> .nilf
 |.nili=> .nili
 |.undef=> .undef
def renL(f h:Nat→Option Nat):List AV→List AV
 | []=>[]
 |v::l=>AV.ren f h v::renL f h l
end
theorem vq(f h:Nat→Option Nat):∀ l:List AV,(renL f h l).length=l.length
 | []=>rfl
 |v::l=>by simp[renL,vq f h l]
theorem vah(f h:Nat→Option Nat):∀(l:List AV) (j:Nat),j<l.length→nth (renL f h l) j=(nth l j).ren f h
 | [],j,hj=>by simp at hj
 |v::l,0,_=>rfl
 |v::l,j+1,hj=>by simpa[renL,nth] using vah f h l j (by simpa using hj)
def Out.ren(f h:Nat→Option Nat):Out→Out
 |.ret v=> .ret (v.ren f h)
 |.panic v=> .panic (v.ren f h)
theorem Rep.ren{T:Tab}{w:World}{f h:Nat→Option Nat}{g:Ghost}{v:AV}{x:Value}(hr:Rep T w g v x):∀ {g':Ghost},(∀ o b o',g.ρ o=some b→f o=some o'→g'.ρ o'=some b) →
 (∀ k tk k',g.τ k=some tk→h k=some k'→g'.τ k'=some tk)→(∀ b off,g.D b off→g'.D b off)→Rep T w g' (v.ren f h) x:=by
 have flatK:∀(g g':Ghost),(∀ b off,g.D b off→g'.D b off)→Keeps g.flat w g'.flat w:=fun g g' hD=>
  ⟨fun _ _ e=>by simp[Ghost.flat] at e,fun _ _ e=>by simp[Ghost.flat] at e,hD,fun _ _ _=>rfl,fun _ c _ fr h=>⟨c,fr,h⟩⟩
 induction hr with
 |int g k n=>intro g' _ _ _;exact .int ..
 |bool g b=>intro g' _ _ _;exact .bool ..
 |str g s=>intro g' _ _ _;exact .str ..
 |ptr g o off b hb=>
  intro g' h1 _ _
  simp only[AV.ren]
  cases hf:f o with
  |none=>exact .undef _ _
  |some o'=>exact .ptr _ _ _ _ (h1 o b o' hb hf)
 |eptr g t e off b base xs hf hc h1 hD hR ih=>
  intro g' _ _ h3
  exact .eptr g' t e off b base xs hf hc h1 (fun j hj=>h3 _ _ (hD j hj)) (fun j hj=>(hR j hj).keeps (flatK g g' h3))
 |nilp g=>intro g' _ _ _;exact .nilp _
 |anyInt g k m=>intro g' _ _ _;exact .anyInt ..
 |tnil g o t b c fr hb hc=>
  intro g' h1 _ _
  simp only[AV.ren]
  cases hf:f o with
  |none=>exact .nilp _
  |some o'=>exact .tnil _ o' t b c fr (h1 o b o' hb hf) hc
 |slice g e cs m a cap b base xs hcap hmax hm ho ha hf hc h1 hD hR ih=>
  intro g' _ h2 h3
  simp only[AV.ren]
  refine .slice g' e cs (renM h m) a cap b base xs hcap hmax ?_ ?_ ha hf hc h1 (fun i j hi hj=>h3 _ _ (hD i j hi hj)) (fun i j hi hj=>(hR i j hi hj).keeps (flatK g g' h3))
  ·intro he
   cases m with
   |own k=>simp only[renM] at he;split at he<;>cases he
   |no=>cases he
   |exact=>exact hm rfl
  ·intro k hk
   cases m with
   |no=>cases hk
   |exact=>cases hk
   |own k0=>
    simp only[renM] at hk
    cases hh:h k0 with
    |none=>rw[hh] at hk;cases hk
    |some k'=>
     rw[hh] at hk
     simp only[Mode.own.injEq] at hk
     subst hk
     obtain⟨tk,ht,rest⟩:=ho k0 rfl
     exact⟨tk,h2 k0 tk _ ht hh,rest⟩
 |func g fid first cap fs cs h1 h2 hf hc ih1 ih2=>
  intro g' q1 q2 q3
  simp only[AV.ren]
  refine .func g' fid _ _ fs cs (by rw[vq];exact h1) (by rw[vq];exact h2) ?_ ?_
  ·intro j hj
   rw[vq] at hj
   rw[vah _ _ _ _ hj]
   exact ih1 j hj q1 q2 q3
  ·intro j hj
   rw[vq] at hj
   rw[vah _ _ _ _ hj]
   exact ih2 j hj q1 q2 q3
 |nilf g=>intro g' _ _ _;exact .nilf _
 |iface g t v x _ ih=>intro g' q1 q2 q3;exact .iface _ _ _ _ (ih q1 q2 q3)
 |nili g=>intro g' _ _ _;exact .nili _
 |agg g cs xs hl h1 _ ih=>
  intro g' q1 q2 q3
  simp only[AV.ren]
  refine .agg _ _ _ (by rw[vq];exact hl) h1 fun j hj=>?_
  rw[vq] at hj
  rw[vah _ _ _ _ hj]
  exact ih j hj q1 q2 q3
 |tup g cs xs hl _ ih=>
  intro g' q1 q2 q3
  simp only[AV.ren]
  refine .tup _ _ _ (by rw[vq];exact hl) fun j hj=>?_
  rw[vq] at hj
  rw[vah _ _ _ _ hj]
  exact ih j hj q1 q2 q3
 |undef g x=>intro g' _ _ _;exact .undef _ _
structure View (f fi h hi:Nat→Option Nat) (S S0:St):Prop where
 inv:∀ o i,f o=some i↔fi i=some o
 tinv:∀ k l,h k=some l↔hi l=some k
 lt:∀ o i,f o=some i→o<S.next∧i<S0.next
 row:∀ o i,f o=some i→S0.row i=renL f h (S.row o)
 tok:∀ k l,h k=some l→k<S.caps.length∧l<S0.caps.length∧qu S0.caps l=qu S.caps k
def back(fi:Nat→Option Nat)(big yap n:Nat):Nat→Option Nat:=fun i=>
 match Nat.ble yap i with
 |false=>fi i
 |true=>match Nat.blt i (yap+n) with
  |true=>some (big+(i-yap))
  |false=>none
structure Lift (f fi h hi:Nat→Option Nat) (S S0 S0' S':St) (n:Nat):Prop where
 le:S0.next+n≤S0'.next
 next:S'.next=S.next+n
 other:∀ o,o<S.next→f o=none→S'.row o=S.row o
 row:∀ i o,back fi S.next S0.next n i=some o→S'.row o=renL (back fi S.next S0.next n) hi (S0'.row i)
 clen:S'.caps.length=S.caps.length
 cap:∀ k,qu S'.caps k=match h k with|some l=>qu S0'.caps l|none=>qu S.caps k
section
variable {P:Program} {T:Tab} {f fi h hi:Nat→Option Nat} {S S0:St}
def yap(fi hi:Nat→Option Nat)(g:Ghost):Ghost:={ ρ:=fun i=>(fi i).bind g.ρ,τ:=fun l=>(hi l).bind g.τ,D:=g.D }
theorem vad{g:Ghost}{i b:Nat}(e:(yap fi hi g).ρ i=some b):∃ o,fi i=some o∧g.ρ o=some b:=by
 simp only[yap] at e
 cases hq:fi i with
 |none=>rw[hq] at e;cases e
 |some o=>rw[hq] at e;exact⟨o,rfl,e⟩
theorem vat{g:Ghost}{l:Nat}{tk:Tok}(e:(yap fi hi g).τ l=some tk):∃ k,hi l=some k∧g.τ k=some tk:=by
 simp only[yap] at e
 cases hq:hi l with
 |none=>rw[hq] at e;cases e
 |some o=>rw[hq] at e;exact⟨o,rfl,e⟩
theorem View.rep(V:View f fi h hi S S0){w:World}{g:Ghost}{v:AV}{x:Value}(hr:Rep T w g v x):Rep T w (yap fi hi g) (v.ren f h) x:=
 hr.ren (fun o b o' e1 e2=>by simp[yap,(V.inv o o').1 e2,e1]) (fun k tk k' e1 e2=>by simp[yap,(V.tinv k k').1 e2,e1]) (fun _ _ q=>q)
theorem View.rel(V:View f fi h hi S S0){w:World}{g:Ghost}(r:WRel T g S w):WRel T (yap fi hi g) S0 w:=by
 refine⟨?_,?_,?_,?_,r.live,?_,?_⟩
 ·intro i b e
  obtain⟨o,h1,h2⟩:=vad e
  have hf:=(V.inv o i).2 h1
  obtain⟨c,t,hc,hs,h3,hR⟩:=r.obj o b h2
  refine⟨c,t,hc,by rw[V.row o i hf,vq];exact hs,h3,fun j hj=>?_⟩
  rw[V.row o i hf,vq] at hj
  rw[V.row o i hf,vah _ _ _ _ hj]
  exact V.rep (hR j hj)
 ·intro i i' b e e'
  obtain⟨o,h1,h2⟩:=vad e
  obtain⟨o',h1',h2'⟩:=vad e'
  have:=r.inj o o' b h2 h2'
  subst this
  have h3:=(V.inv o i).2 h1
  have h4:=(V.inv o i').2 h1'
  rw[h3] at h4
  simpa using h4
 ·intro i b e
  obtain⟨o,h1,h2⟩:=vad e
  exact(V.lt o i ((V.inv o i).2 h1)).2
 ·intro i b off e
  obtain⟨o,h1,h2⟩:=vad e
  exact r.apart o b off h2
 ·intro l tk e
  obtain⟨k,h1,h2⟩:=vat e
  obtain⟨q1,q2,q3⟩:=V.tok k l ((V.tinv k l).2 h1)
  obtain⟨p1,p2,xs,p3,p4⟩:=r.tok k tk h2
  refine⟨q2,q3.trans p2,xs,p3,fun b hb=>⟨(p4 b hb).1,fun i e'=>?_⟩⟩
  obtain⟨o,_,h4⟩:=vad e'
  exact(p4 b hb).2 o h4
 ·intro l l' tk tk' b e e' hb hb'
  obtain⟨k,h1,h2⟩:=vat e
  obtain⟨k',h1',h2'⟩:=vat e'
  have:=r.tinj k k' tk tk' b h2 h2' hb hb'
  subst this
  have h3:=(V.tinv k l).2 h1
  have h4:=(V.tinv k l').2 h1'
  rw[h3] at h4
  simpa using h4
theorem yam{g:Ghost}{b:Nat}(ht:qj (yap fi hi g) b):qj g b:=by
 rcases ht with ⟨i,e⟩|⟨l,tk,e,hb⟩
 ·obtain⟨o,_,h2⟩:=vad e
  exact .inl ⟨o,h2⟩
 ·obtain⟨k,_,h2⟩:=vat e
  exact .inr ⟨k,tk,h2,hb⟩
theorem vcw{n i:Nat}(hi':i<S0.next):back fi S.next S0.next n i=fi i:=by
 unfold back
 cases hb:Nat.ble S0.next i with
 |false=>rfl
 |true=>have:=nb hb;omega
theorem ycw{n i o:Nat}(hi':S0.next≤i):back fi S.next S0.next n i=some o↔i<S0.next+n∧o=S.next+(i-S0.next):=by
 unfold back
 rw[Nat.ble_eq_true_of_le hi']
 simp only
 cases hb:Nat.blt i (S0.next+n) with
 |false=>
  simp only
  constructor
  ·intro h;cases h
  ·rintro⟨h1,_⟩
   have:Nat.blt i (S0.next+n)=true:=Nat.ble_eq_true_of_le h1
   rw[hb] at this;cases this
 |true=>
  have:i+1≤S0.next+n:=nb hb
  simp only[Option.some.injEq]
  exact⟨fun h=>⟨this,h.symm⟩,fun h=>h.2.symm⟩
end
end Go.AM
namespace Go.AM
def fwd(f:Nat→Option Nat)(big yap n:Nat):Nat→Option Nat:=fun o=>
 match Nat.ble big o with
 |false=>f o
 |true=>match Nat.blt o (big+n) with
  |true=>some (yap+(o-big))
  |false=>none
section
variable {P:Program} {T:Tab} {f fi h hi:Nat→Option Nat} {S S0:St} {n:Nat}
theorem vcm{o:Nat}(ho:o<S.next):fwd f S.next S0.next n o=f o:=by
 unfold fwd
 cases hb:Nat.ble S.next o with
 |false=>rfl
 |true=>have:=nb hb;omega
theorem ycm{o i:Nat}(ho:S.next≤o):fwd f S.next S0.next n o=some i↔o<S.next+n∧i=S0.next+(o-S.next):=by
 unfold fwd
 rw[Nat.ble_eq_true_of_le ho]
 simp only
 cases hb:Nat.blt o (S.next+n) with
 |false=>
  simp only
  constructor
  ·intro h;cases h
  ·rintro⟨h1,_⟩
   have:Nat.blt o (S.next+n)=true:=Nat.ble_eq_true_of_le h1
   rw[hb] at this;cases this
 |true=>
  have:o+1≤S.next+n:=nb hb
  simp only[Option.some.injEq]
  exact⟨fun h=>⟨this,h.symm⟩,fun h=>h.2.symm⟩
theorem View.back_fwd(V:View f fi h hi S S0){i o:Nat}:back fi S.next S0.next n i=some o↔fwd f S.next S0.next n o=some i:=by
 constructor
 ·intro e
  rcases Nat.lt_or_ge i S0.next with hlt|hge
  ·rw[vcw hlt] at e
   have hf:=(V.inv o i).2 e
   rw[vcm (V.lt o i hf).1]
   exact hf
  ·obtain⟨h1,h2⟩:=(ycw hge).1 e
   exact(ycm (by omega)).2 ⟨by omega,by omega⟩
 ·intro e
  rcases Nat.lt_or_ge o S.next with hlt|hge
  ·rw[vcm hlt] at e
   rw[vcw (V.lt o i e).2]
   exact(V.inv o i).1 e
  ·obtain⟨h1,h2⟩:=(ycm hge).1 e
   exact(ycw (by omega)).2 ⟨by omega,by omega⟩
def bigG(f h:Nat→Option Nat)(S S0:St)(n:Nat)(g g0:Ghost):Ghost:=
 { ρ:=fun o=>match fwd f S.next S0.next n o with|some i=>g0.ρ i|none=>g.ρ o
   τ:=fun k=>match h k with|some l=>g0.τ l|none=>g.τ k
   D:=g0.D }
theorem xb0{g g0:Ghost}{o i:Nat}(e:fwd f S.next S0.next n o=some i):(bigG f h S S0 n g g0).ρ o=g0.ρ i:=by simp[bigG,e]
theorem jcw{g g0:Ghost}{o:Nat}(e:fwd f S.next S0.next n o=none):(bigG f h S S0 n g g0).ρ o=g.ρ o:=by simp[bigG,e]
theorem jb0{g g0:Ghost}{k l:Nat}(e:h k=some l):(bigG f h S S0 n g g0).τ k=g0.τ l:=by simp[bigG,e]
theorem zcw{g g0:Ghost}{k:Nat}(e:h k=none):(bigG f h S S0 n g g0).τ k=g.τ k:=by simp[bigG,e]
theorem frame{fid:FuncId}{args args0:List AV}{K K0:Out→St→Prop}(V:View f fi h hi S S0)(hargs:args0=renL f h args)(hc:jb P T fid args0 S0 K0)
 (hK:∀ out0 S0',K0 out0 S0'→∃ n S',Lift f fi h hi S S0 S0' S' n∧K (out0.ren (back fi S.next S0.next n) hi) S'):jb P T fid args S K:=by
 intro g w vs r hglob hA
 let g0:=yap fi hi g
 have r0:WRel T g0 S0 w:=V.rel r
 have hglob0:GlobOk T g0 w:=fun gl t e hg=>by
  have:=V.rep (hglob gl t e hg)
  simpa[AV.ren] using this
 have hA0:zk T w g0 args0 vs:=by
  subst hargs
  refine⟨by rw[vq];exact hA.1,fun j hj=>?_⟩
  rw[vq] at hj
  rw[vah _ _ _ _ hj]
  exact V.rep (hA.2 j hj)
 have key:∀ e w',vj T g0 S0 w K0 e w'→vj T g S w K e w':=by
  rintro e w' ⟨out0,S0',g0',hk0,hor,r0',ex,ht,nm,nx⟩
  obtain⟨n,S',L,hk⟩:=hK out0 S0' hk0
  let g':=bigG f h S S0 n g g0'
  have gone:∀ o b,g.ρ o=some b→b<w.heap.size:=fun o b e=>by
   obtain⟨c,t,hc,_⟩:=r.obj o b e
   exact xao hc
  have tob:∀ k tk b,g.τ k=some tk→tk.v.ownBlock=some b→b<w.heap.size∧(∀ o,g.ρ o≠some b)∧∀ off,tk.n * T.size tk.e≤off→¬ g.D b off:=fun k tk b e hb=>by
   obtain⟨_,_,xs,hown,hblk⟩:=r.tok k tk e
   exact⟨(hown.lt b hb).2,(hblk b hb).2,(hblk b hb).1⟩
  have old_of:∀ o i b,f o=some i→(g0.ρ i=some b↔g.ρ o=some b):=fun o i b e=>by
   have:=(V.inv o i).1 e
   simp[g0,yap,this]
  have told_of:∀ k l tk,h k=some l→(g0.τ l=some tk↔g.τ k=some tk):=fun k l tk e=>by
   have:=(V.tinv k l).1 e
   simp[g0,yap,this]
  have f_of_fwd:∀ o,o<S.next→fwd f S.next S0.next n o=f o:=fun o ho=>vcm ho
  have none_old:∀ o,g.ρ o≠none→fwd f S.next S0.next n o=none→f o=none:=fun o h1 h2=>by
   cases hq:g.ρ o with
   |none=>exact absurd hq h1
   |some b=>rw[← f_of_fwd o (r.dom o b hq)];exact h2
  have free_o:∀ o b,g.ρ o=some b→f o=none→¬ qj g0 b:=by
   rintro o b e hf (⟨i,e'⟩|⟨l,tk,e',hb⟩)
   ·obtain⟨o',h1,h2⟩:=vad e'
    have:=r.inj o o' b e h2
    subst this
    rw[(V.inv o i).2 h1] at hf
    cases hf
   ·obtain⟨k,h1,h2⟩:=vat e'
    exact(tob k tk b h2 hb).2.1 o e
  have free_t:∀ k tk b,g.τ k=some tk→tk.v.ownBlock=some b→h k=none→¬ qj g0 b:=by
   rintro k tk b e hb hf (⟨i,e'⟩|⟨l,tk',e',hb'⟩)
   ·obtain⟨o',h1,h2⟩:=vad e'
    exact(tob k tk b e hb).2.1 o' h2
   ·obtain⟨k',h1,h2⟩:=vat e'
    have:=r.tinj k k' tk tk' b e h2 hb hb'
    subst this
    rw[(V.tinv k l).2 h1] at hf
    cases hf
  have notouch:∀ b,b<w.heap.size→¬ qj g0 b→¬ qj g0' b:=fun b hb hn ht'=>by
   rcases ht b ht' with q|q
   ·exact hn q
   ·omega
  have keeps:Keeps g w g' w':=by
   refine⟨fun o b e=>?_,fun k tk e=>?_,ex.keeps.D,ex.keeps.cell,ex.keeps.ty⟩
   ·have ho:=r.dom o b e
    cases hq:f o with
    |none=>
     have:(bigG f h S S0 n g g0').ρ o=g.ρ o:=jcw (by rw[f_of_fwd o ho];exact hq)
     exact this.trans e
    |some i=>
     have:(bigG f h S S0 n g g0').ρ o=g0'.ρ i:=xb0 (by rw[f_of_fwd o ho];exact hq)
     exact this.trans (ex.keeps.ρ i b ((old_of o i b hq).2 e))
   ·cases hq:h k with
    |none=>exact⟨tk,(zcw hq).trans e,rfl,.inl rfl⟩
    |some l=>
     obtain⟨tk',h1,h2⟩:=ex.keeps.τ l tk ((told_of k l tk hq).2 e)
     exact⟨tk',(jb0 hq).trans h1,h2⟩
  have repR:∀ {v:AV} {x:Value},Rep T w' g0' v x→Rep T w' g' (v.ren (back fi S.next S0.next n) hi) x:=fun hr=>
   hr.ren (fun i b o e1 e2=>(xb0 (V.back_fwd.1 e2)).trans e1) (fun l tk k e1 e2=>(jb0 ((V.tinv k l).2 e2)).trans e1) (fun _ _ q=>q)
  have cases_ρ:∀ o b,g'.ρ o=some b→(∃ i,fwd f S.next S0.next n o=some i∧g0'.ρ i=some b)∨(fwd f S.next S0.next n o=none∧f o=none∧g.ρ o=some b):=fun o b e=>by
   cases hq:fwd f S.next S0.next n o with
   |some i=>exact .inl ⟨i,rfl,(xb0 hq).symm.trans e⟩
   |none=>
    have e':g.ρ o=some b:=(jcw hq).symm.trans e
    exact .inr ⟨rfl,none_old o (by rw[e'];simp) hq,e'⟩
  have cases_τ:∀ k tk,g'.τ k=some tk→(∃ l,h k=some l∧g0'.τ l=some tk)∨(h k=none∧g.τ k=some tk):=fun k tk e=>by
   cases hq:h k with
   |some l=>exact .inl ⟨l,rfl,(jb0 hq).symm.trans e⟩
   |none=>exact .inr ⟨rfl,(zcw hq).symm.trans e⟩
  have hrel:WRel T g' S' w':=by
   refine⟨?_,?_,?_,?_,r0'.live,?_,?_⟩
   ·intro o b e
    rcases cases_ρ o b e with ⟨i,h1,h2⟩|⟨h1,h2,h3⟩
    ·obtain⟨c,t,hc,hs,h4,hR⟩:=r0'.obj i b h2
     have hrow:=L.row i o (V.back_fwd.2 h1)
     refine⟨c,t,hc,by rw[hrow,vq];exact hs,h4,fun j hj=>?_⟩
     rw[hrow,vq] at hj
     rw[hrow,vah _ _ _ _ hj]
     exact repR (hR j hj)
    ·obtain⟨c,t,hc,hs,h4,hR⟩:=r.obj o b h3
     have hrow:=L.other o (r.dom o b h3) h2
     refine⟨c,t,(ex.frame b (gone o b h3) (free_o o b h3 h2)).trans hc,by rw[hrow];exact hs,h4,fun j hj=>?_⟩
     rw[hrow] at hj ⊢
     exact(hR j hj).keeps keeps
   ·have mixed:∀ o o' b i,fwd f S.next S0.next n o=some i→g0'.ρ i=some b→f o'=none→g.ρ o'=some b→False:=by
     intro o o' b i h1 h2 h3 h4
     exact notouch b (gone o' b h4) (free_o o' b h4 h3) (.inl ⟨i,h2⟩)
    intro o o' b e e'
    rcases cases_ρ o b e with ⟨i,h1,h2⟩|⟨h1,h2,h3⟩<;>rcases cases_ρ o' b e' with ⟨i',h1',h2'⟩|⟨h1',h2',h3'⟩
    ·have:=r0'.inj i i' b h2 h2'
     subst this
     have q1:=V.back_fwd.2 h1
     have q2:=V.back_fwd.2 h1'
     rw[q1] at q2
     simpa using q2
    ·exact(mixed o o' b i h1 h2 h2' h3').elim
    ·exact(mixed o' o b i' h1' h2' h2 h3).elim
    ·exact r.inj o o' b h3 h3'
   ·intro o b e
    rw[L.next]
    rcases cases_ρ o b e with ⟨i,h1,h2⟩|⟨h1,h2,h3⟩
    ·rcases Nat.lt_or_ge o S.next with q|q
     ·omega
     ·have:=((ycm q).1 h1).1;omega
    ·have:=r.dom o b h3;omega
   ·intro o b off e hD
    rcases cases_ρ o b e with ⟨i,h1,h2⟩|⟨h1,h2,h3⟩
    ·exact r0'.apart i b off h2 hD
    ·rcases ex.newD b off hD with q|q|q
     ·exact r.apart o b off h3 q
     ·exact free_o o b h3 h2 q
     ·have:=gone o b h3;omega
   ·intro k tk e
    rcases cases_τ k tk e with ⟨l,h1,h2⟩|⟨h1,h2⟩
    ·obtain⟨q1,q2,xs,q3,q4⟩:=r0'.tok l tk h2
     have hcap:=L.cap k
     rw[h1] at hcap
     refine⟨by rw[L.clen];exact(V.tok k l h1).1,hcap.trans q2,xs,q3,fun b hb=>⟨(q4 b hb).1,fun o e'=>?_⟩⟩
     rcases cases_ρ o b e' with ⟨i,p1,p2⟩|⟨p1,p2,p3⟩
     ·exact(q4 b hb).2 i p2
     ·exact notouch b (gone o b p3) (free_o o b p3 p2) (.inr ⟨l,tk,h2,hb⟩)
    ·obtain⟨q1,q2,xs,q3,q4⟩:=r.tok k tk h2
     have hcap:=L.cap k
     rw[h1] at hcap
     refine⟨by rw[L.clen];exact q1,hcap.trans q2,xs,?_,fun b hb=>⟨fun off ho hD=>?_,fun o e'=>?_⟩⟩
     ·rcases q3 with q3|q3
      ·exact .inl q3
      obtain⟨y1,y2⟩:=q3
      refine .inr ⟨y1,?_⟩
      rcases y2 with y2|⟨gb,cap,cur,y3,y4,y5,y6⟩
      ·exact .inl y2
      ·have hob:tk.v.ownBlock=some gb:=by rw[y3];rfl
       exact .inr ⟨gb,cap,cur,y3,y4,(ex.frame gb (tob k tk gb h2 hob).1 (free_t k tk gb h2 hob h1)).trans y5,y6⟩
     ·rcases ex.newD b off hD with q|q|q
      ·exact(q4 b hb).1 off ho q
      ·exact free_t k tk b h2 hb h1 q
      ·have:=(tob k tk b h2 hb).1;omega
     ·rcases cases_ρ o b e' with ⟨i,p1,p2⟩|⟨p1,p2,p3⟩
      ·exact notouch b (tob k tk b h2 hb).1 (free_t k tk b h2 hb h1) (.inl ⟨i,p2⟩)
      ·exact(q4 b hb).2 o p3
   ·intro k k' tk tk' b e e' hb hb'
    rcases cases_τ k tk e with ⟨l,h1,h2⟩|⟨h1,h2⟩<;>rcases cases_τ k' tk' e' with ⟨l',h1',h2'⟩|⟨h1',h2'⟩
    ·have:=r0'.tinj l l' tk tk' b h2 h2' hb hb'
     subst this
     have q1:=(V.tinv k l).1 h1
     have q2:=(V.tinv k' l).1 h1'
     rw[q1] at q2
     simpa using q2
    ·exact(notouch b (tob k' tk' b h2' hb').1 (free_t k' tk' b h2' hb' h1') (.inr ⟨l,tk,h2,hb⟩)).elim
    ·exact(notouch b (tob k tk b h2 hb).1 (free_t k tk b h2 hb h1) (.inr ⟨l',tk',h2',hb'⟩)).elim
    ·exact r.tinj k k' tk tk' b h2 h2' hb hb'
  refine⟨_,S',g',hk,?_,hrel,⟨ex.os,ex.tape,ex.output,ex.size,keeps,fun b hb hn=>ex.frame b hb fun q=>hn (yam q),fun b off hD=>?_⟩,?_,?_,by rw[L.next];omega⟩
  ·cases out0 with
   |ret v=>
    cases e with
    |returned x=>exact repR hor
    |_=>exact hor.elim
   |panic v=>
    cases e with
    |panicked ch=>
     obtain⟨x,rfl,hv⟩:=hor
     exact⟨x,rfl,repR hv⟩
    |_=>exact hor.elim
  ·rcases ex.newD b off hD with q|q|q
   ·exact .inl q
   ·exact .inr (.inl (yam q))
   ·exact .inr (.inr q)
  ·rintro b (⟨o,e⟩|⟨k,tk,e,hb⟩)
   ·rcases cases_ρ o b e with ⟨i,h1,h2⟩|⟨h1,h2,h3⟩
    ·rcases ht b (.inl ⟨i,h2⟩) with q|q
     ·exact .inl (yam q)
     ·exact .inr q
    ·exact .inl (.inl ⟨o,h3⟩)
   ·rcases cases_τ k tk e with ⟨l,h1,h2⟩|⟨h1,h2⟩
    ·rcases ht b (.inr ⟨l,tk,h2,hb⟩) with q|q
     ·exact .inl (yam q)
     ·exact .inr q
    ·exact .inl (.inr ⟨k,tk,h2,hb⟩)
  ·intro o b e
   rcases cases_ρ o b e with ⟨i,h1,h2⟩|⟨h1,h2,h3⟩
   ·rcases Nat.lt_or_ge o S.next with q|q
    ·have hf:f o=some i:=by rw[← f_of_fwd o q];exact h1
     rcases nm i b h2 with p|p
     ·exact .inl ((old_of o i b hf).1 p)
     ·have:=(V.lt o i hf).2;omega
    ·exact .inr q
   ·exact .inl h3
 rcases hc g0 w vs r0 hglob0 hA0 with ⟨hent,hcalls⟩|⟨x,w',hr,hp⟩
 ·exact .inl ⟨hent,Calls.mono hcalls fun e w' hp=>key e w' hp⟩
 ·exact .inr ⟨x,w',hr,key _ _ hp⟩
end
end Go.AM
namespace Go.AM
def g0(w:World):Ghost:={ ρ:=fun _=>none,τ:=fun _=>none,D:=fun b _=>b<w.heap.size }
def St.nil:St:=⟨[],0,[]⟩
theorem rel0(T:Tab)(w:World):WRel T (g0 w) St.nil w:=
 ⟨fun _ _ e=>(by cases e),fun _ _ _ e=>(by cases e),fun _ _ e=>(by cases e),fun _ _ _ e=>(by cases e),fun _ _ h=>h,fun _ _ e=>(by cases e),fun _ _ _ _ _ e=>(by cases e)⟩
theorem vdp{P:Program}{T:Tab}{f:FuncId}{args:List AV}{vs:List Value}{K:Out→St→Prop}(hc:jb P T f args St.nil K)(hent:Enters P f){w:World}(hglob:GlobOk T (g0 w) w)
 (hargs:zk T w (g0 w) args vs):Calls P f vs.toArray w fun e w'=>(∃ out S' g',K out S'∧vdj T w' g' out e)∧RowKit.Below w.heap.size w w':=by
 have key:∀ e w',vj T (g0 w) St.nil w K e w'→(∃ out S' g',K out S'∧vdj T w' g' out e)∧RowKit.Below w.heap.size w w':=by
  rintro e w' ⟨out,S',g',hk,hor,_,ex,_⟩
  refine⟨⟨out,S',g',hk,hor⟩,ex.os,ex.tape,ex.output,ex.size,fun b hb=>ex.frame b hb ?_⟩
  rintro(⟨o,e⟩|⟨k,tk,e,_⟩)<;>cases e
 rcases hc (g0 w) w vs (rel0 T w) hglob hargs with ⟨_,h⟩|⟨x,w',hr,_⟩
 ·exact Calls.mono h key
 ·rw[hent] at hr;cases hr
theorem law_true{P:Program}{T:Tab}{f:FuncId}{args:List AV}{vs:List Value}(hc:jb P T f args St.nil fun o _=>o= .ret (.bool true))(hent:Enters P f){w:World}(hglob:GlobOk T (g0 w) w)
 (hargs:zk T w (g0 w) args vs):Calls P f vs.toArray w fun e w'=>e= .returned (.bool true)∧RowKit.Below w.heap.size w w':=by
 refine Calls.mono (vdp hc hent hglob hargs) ?_
 rintro e w' ⟨⟨out,S',g',rfl,hor⟩,hb⟩
 refine⟨?_,hb⟩
 cases e with
 |returned x=>
  have hor':Rep T w' g' (.bool true) x:=hor
  cases hor'
  rfl
 |_=>exact hor.elim
theorem args_nil(T:Tab)(w:World)(g:Ghost):zk T w g [] []:=⟨rfl,by simp⟩
theorem args_cons{T:Tab}{w:World}{g:Ghost}{v:AV}{l:List AV}{x:Value}{m:List Value}(h:Rep T w g v x)(k:zk T w g l m):zk T w g (v::l) (x::m):=
 ⟨by simp[k.1],fun j hj=>by
   cases j with
   |zero=>simpa[nth] using h
   |succ j=>simpa[nth] using k.2 j (by simpa using hj)⟩
theorem rep_string(T:Tab)(w:World)(g:Ghost)(a:ByteArray):Rep T w g (.str a.data.toList) (.string a):=by
 have:a=⟨a.data.toList.toArray⟩:=by cases a;simp
 have h:=Rep.str (T:=T) (w:=w) g a.data.toList
 rwa [← this] at h
theorem zam{P:Program}{T:Tab}{f:FuncId}{args:List AV}{S:St}{K:Out→St→Prop}{v:AV}(hk:K (.ret v) S)
 (h:∀(g:Ghost) (w:World) (vs:List Value),WRel T g S w→zk T w g args vs→Into P f vs w fun e w'=>∃ x g',e= .returned x∧Grow g w g' w'∧Rep T w' g' v x):jb P T f args S K:=by
 intro g w vs r hglob hargs
 have key:∀ e w',(∃ x g',e= .returned x∧Grow g w g' w'∧Rep T w' g' v x)→vj T g S w K e w':=by
  rintro e w' ⟨x,g',rfl,hg,hv⟩
  refine⟨.ret v,S,g',hk,hv,r.grow hg,hg.ext r _,?_,fun o b q=>by rw[hg.ρ] at q;exact .inl q,Nat.le_refl _⟩
  rintro b (⟨o,q⟩|⟨k,tk,q,q'⟩)
  ·rw[hg.ρ] at q;exact .inl (.inl ⟨o,q⟩)
  ·rw[hg.τ] at q;exact .inl (.inr ⟨k,tk,q,q'⟩)
 rcases h g w vs r hargs with ⟨h1,h2⟩|⟨x,w',h1,h2⟩
 ·exact .inl ⟨h1,Calls.mono h2 fun e w' q=>key e w' q⟩
 ·exact .inr ⟨x,w',h1,key _ _ h2⟩
theorem vbk{P:Program}{T:Tab}{f:FuncId}{args:List AV}{S:St}{K:Out→St→Prop}{v:AV}(hk:K (.ret v) S)
 (h:∀(g:Ghost) (w:World) (vs:List Value),WRel T g S w→GlobOk T g w→zk T w g args vs→Into P f vs w fun e w'=>∃ x g',e= .returned x∧Grow g w g' w'∧Rep T w' g' v x):jb P T f args S K:=by
 intro g w vs r hglob hargs
 have key:∀ e w',(∃ x g',e= .returned x∧Grow g w g' w'∧Rep T w' g' v x)→vj T g S w K e w':=by
  rintro e w' ⟨x,g',rfl,hg,hv⟩
  refine⟨.ret v,S,g',hk,hv,r.grow hg,hg.ext r _,?_,fun o b q=>by rw[hg.ρ] at q;exact .inl q,Nat.le_refl _⟩
  rintro b (⟨o,q⟩|⟨k,tk,q,q'⟩)
  ·rw[hg.ρ] at q;exact .inl (.inl ⟨o,q⟩)
  ·rw[hg.τ] at q;exact .inl (.inr ⟨k,tk,q,q'⟩)
 rcases h g w vs r hglob hargs with ⟨h1,h2⟩|⟨x,w',h1,h2⟩
 ·exact .inl ⟨h1,Calls.mono h2 fun e w' q=>key e w' q⟩
 ·exact .inr ⟨x,w',h1,key _ _ h2⟩
theorem jb.mono{P:Program}{T:Tab}{f:FuncId}{args:List AV}{S:St}{K K':Out→St→Prop}(h:jb P T f args S K)(hk:∀ o S',K o S'→K' o S'):jb P T f args S K':=by
 intro g w vs r hg ha
 have key:∀ e w',vj T g S w K e w'→vj T g S w K' e w':=by
  rintro e w' ⟨out,S',g',q,rest⟩
  exact⟨out,S',g',hk _ _ q,rest⟩
 rcases h g w vs r hg ha with ⟨h1,h2⟩|⟨x,w',h1,h2⟩
 ·exact .inl ⟨h1,Calls.mono h2 fun e w' q=>key e w' q⟩
 ·exact .inr ⟨x,w',h1,key _ _ h2⟩
theorem jb.lift{P:Program}{T:Tab}{f:FuncId}{args:List AV}{K0 K:Out→St→Prop}{S:St}(hargs:renL (fun _=>none) (fun _=>none) args=args)(h:jb P T f args St.nil K0)
 (hk:∀ o S0,K0 o S0→K (o.ren (fun _=>none) (fun _=>none)) S):jb P T f args S K:=by
 refine frame (f:=fun _=>none) (fi:=fun _=>none) (h:=fun _=>none) (hi:=fun _=>none) (S0:=St.nil) ⟨fun _ _=>⟨fun e=>(by cases e),fun e=>(by cases e)⟩,fun _ _=>⟨fun e=>(by cases e),fun e=>(by cases e)⟩,fun _ _ e=>(by cases e),fun _ _ e=>(by cases e),fun _ _ e=>(by cases e)⟩ hargs.symm h ?_
 intro out0 S0' hk0
 have hb:back (fun _=>none) S.next St.nil.next 0=fun _=>none:=by
  funext i
  unfold back
  cases Nat.ble St.nil.next i with
  |false=>rfl
  |true=>
   cases hq:Nat.blt i (St.nil.next+0) with
   |false=>rfl
   |true=>have:i+1≤0:=nb hq;omega
 refine⟨0,S,⟨Nat.zero_le _,rfl,fun _ _ _=>rfl,?_,rfl,fun _=>rfl⟩,?_⟩
 ·intro i o e
  rw[hb] at e
  cases e
 ·rw[hb]
  exact hk _ _ hk0
end Go.AM
namespace Go.AM
def qz(l env:Env):Prop:=∀ t,l.get t= .undef∨l.get t=env.get t
theorem qz.nil(env:Env):qz [] env:=fun _=> .inl rfl
theorem qz.cons{k:Nat}{v:AV}{l env:Env}(h:env.get k=v)(hl:qz l env):qz ((k,v)::l) env:=fun t=>by
 rw[zbb]
 by_cases e:k=t
 ·subst e;rw[if_pos rfl];exact .inr h.symm
 ·rw[if_neg e];exact hl t
theorem za.weak{P:Program}{T:Tab}{N:Nat}{c:Code}{K:Ex→Env→St→Prop}{env env':Env}{S:St}(he:qz env' env)(h:za P T N c K env' S):za P T N c K env S:=
 fun C hC g a w hI=>h C hC g a w (hI.weak he)
theorem za.mono{P:Program}{T:Tab}{N:Nat}{c:Code}{K K':Ex→Env→St→Prop}{env:Env}{S:St}(h:za P T N c K env S)(hk:∀ e env S,K e env S→K' e env S):za P T N c K' env S:=by
 intro C hC g a w hI b k cs
 obtain⟨e,a',w',⟨ex,env,S,g',q,r⟩,harr⟩:=h C hC g a w hI b k cs
 exact⟨e,a',w',⟨ex,env,S,g',hk _ _ _ q,r⟩,harr⟩
def qas:Code→List Code
 |.seq a b=>qas a++qas b
 |.cond _ a b=>qas a++qas b
 |.block _ a=>qas a
 |.loop a=>a::qas a
 |_=>[]
def zdu:List Code→Nat→Code
 | [],_=> .skip
 |c::_,0=>c
 |_::l,n+1=>zdu l n
def fni(f:Func)(a:List (Nat × Ann)):FnI:={ n:=f.ntmps,ann:=a,results:=f.results.toList,body:=match f.body with|some c=>c|none=> .skip }
def FnI.loop(f:FnI)(k:Nat):Code:=zdu (qas f.body) k
theorem xcb{N:Nat}{ann:List (Nat × Ann)}:∀ {c:Code},qf N ann c=true→∀ d,d ∈ qas c→qf N ann d=true:=by
 intro c
 induction c with
 |seq a b iha ihb=>
  intro h d hd
  simp only[qf,Bool.and_eq_true] at h
  rcases List.mem_append.1 hd with hd|hd
  ·exact iha h.1 d hd
  ·exact ihb h.2 d hd
 |cond c a b iha ihb=>
  intro h d hd
  simp only[qf,Bool.and_eq_true] at h
  rcases List.mem_append.1 hd with hd|hd
  ·exact iha h.1 d hd
  ·exact ihb h.2 d hd
 |block i a ih=>intro h d hd;exact ih h d hd
 |loop a ih=>
  intro h d hd
  rcases List.mem_cons.1 hd with rfl|hd
  ·exact h
  ·exact ih h d hd
 |_=>intro _ d hd;cases hd
theorem vcb{N:Nat}{ann:List (Nat × Ann)}:∀ {l:List Code} {k:Nat},(∀ d,d ∈ l→qf N ann d=true)→qf N ann (zdu l k)=true
 | [],_,_=>rfl
 |c::_,0,h=>h c (by simp)
 |_::l,k+1,h=>vcb (l:=l) fun d hd=>h d (by simp[hd])
theorem FnOk.loop{P:Program}{f:FuncId}{fi:FnI}(h:FnOk P f fi)(k:Nat):qf fi.n fi.ann (fi.loop k)=true:=vcb (xcb h.ok)
end Go.AM
namespace Go.AM
structure GenH (P:Program) (T:Tab) (N:Nat) (A:Alg Prop) (X:Sg):Prop where
 A:A=pAlg P T N
 X:X=real
section
variable {P:Program} {T:Tab} {N:Nat} {fail:Prop} {need:Bool→Prop→Prop} {same:AV→AV→Prop→Prop} {call:FuncId→List AV→St→(Out→St→Prop)→Prop}
 {loop:Code→(Ex→Env→St→Prop)→Env→St→Prop}
 {len:List AV→Int} {slen:List UInt8→Int} {arith shift:BinOp→IntKind→Int→Int→Int} {cmp:BinOp→Int→Int→Bool} {conv:IntKind→Int→Int} {eqS ltS:List UInt8→List UInt8→Bool}
 {cat:List UInt8→List UInt8→List UInt8} {app:List AV→List AV→List AV} {elt:List AV→Int→AV} {byt:List UInt8→Int→Int} {subS:List UInt8→Int→Int→List UInt8} {subL:List AV→Int→Int→List AV}
 {strOf:List AV→List UInt8} {isB:List AV→Bool} {fit:List UInt8→List UInt8→Bool} {inb:Int→Int→Bool} {cut:Int→Int→Int→Bool} {room:Int→Nat→Bool} {not:Bool→Bool} {and eqB:Bool→Bool→Bool} {avs:List UInt8→List AV}
abbrev veb(P:Program)(T:Tab)(N:Nat)(fail:Prop)(need:Bool→Prop→Prop)(same:AV→AV→Prop→Prop)(call:FuncId→List AV→St→(Out→St→Prop)→Prop)
 (loop:Code→(Ex→Env→St→Prop)→Env→St→Prop)
 (len:List AV→Int) (slen:List UInt8→Int) (arith shift:BinOp→IntKind→Int→Int→Int) (cmp:BinOp→Int→Int→Bool) (conv:IntKind→Int→Int) (eqS ltS:List UInt8→List UInt8→Bool)
 (cat:List UInt8→List UInt8→List UInt8) (app:List AV→List AV→List AV) (elt:List AV→Int→AV) (byt:List UInt8→Int→Int) (subS:List UInt8→Int→Int→List UInt8) (subL:List AV→Int→Int→List AV)
 (strOf:List AV→List UInt8) (isB:List AV→Bool) (fit:List UInt8→List UInt8→Bool) (inb:Int→Int→Bool) (cut:Int→Int→Int→Bool) (room:Int→Nat→Bool) (not:Bool→Bool) (and eqB:Bool→Bool→Bool) (avs:List UInt8→List AV):Prop:=
 GenH P T N ⟨fail,need,same,call,loop⟩ ⟨len,slen,arith,shift,cmp,conv,eqS,ltS,cat,app,elt,byt,subS,subL,strOf,isB,fit,inb,cut,room,not,and,eqB,avs⟩
variable (G:veb P T N fail need same call loop len slen arith shift cmp conv eqS ltS cat app elt byt subS subL strOf isB fit inb cut room not and eqB avs)
include G
theorem GenH.n'{b:Bool}{r:Prop}(hb:b=true)(hr:r):need b r:=by
 have:need=(pAlg P T N).need:=congrArg Alg.need G.A
 rw[this];exact⟨hb,hr⟩
theorem GenH.s'{a b:AV}{r:Prop}(hb:a=b)(hr:r):same a b r:=by
 have:same=(pAlg P T N).same:=congrArg Alg.same G.A
 rw[this];exact⟨hb,hr⟩
theorem GenH.c'{f:FuncId}{args:List AV}{S:St}{K:Out→St→Prop}(h:jb P T f args S K):call f args S K:=by
 have:call=(pAlg P T N).call:=congrArg Alg.call G.A
 rw[this];exact h
theorem GenH.l'{c:Code}{K:Ex→Env→St→Prop}{env:Env}{S:St}(h:za P T N c K env S):loop c K env S:=by
 have:loop=(pAlg P T N).loop:=congrArg Alg.loop G.A
 rw[this];exact h
theorem GenH.len':len=fun cs=>(cs.length:Int):=congrArg Sg.len G.X
theorem GenH.slen':slen=fun s=>(s.length:Int):=congrArg Sg.slen G.X
theorem GenH.arith':arith=zaw:=congrArg Sg.arith G.X
theorem GenH.cmp':cmp=vb:=congrArg Sg.cmp G.X
theorem GenH.conv':conv=fun k n=>k.wrap n:=congrArg Sg.conv G.X
theorem GenH.eqS':eqS=fun a b=>a == b:=congrArg Sg.eqS G.X
theorem GenH.eqS2:∀ a b,eqS a b=(a == b):=fun a b=>by rw[G.eqS']
theorem GenH.cat':cat=fun a b=>a++b:=congrArg Sg.cat G.X
theorem GenH.app':app=fun a b=>a++b:=congrArg Sg.app G.X
theorem GenH.elt':elt=fun cs i=>cs.getD i.toNat .undef:=congrArg Sg.elt G.X
theorem GenH.byt':byt=fun s i=>((s.getD i.toNat 0).toNat:Int):=congrArg Sg.byt G.X
theorem GenH.subS':subS=fun s i j=>(s.drop i.toNat).take (j-i).toNat:=congrArg Sg.subS G.X
theorem GenH.subL':subL=fun s i j=>(s.drop i.toNat).take (j-i).toNat:=congrArg Sg.subL G.X
theorem GenH.strOf':strOf=fun cs=>cs.map qbl:=congrArg Sg.strOf G.X
theorem GenH.isB':isB=fun cs=>cs.all za2:=congrArg Sg.isB G.X
theorem GenH.fit':fit=fun a b=>decide (a.length+b.length≤9223372036854775807):=congrArg Sg.fit G.X
theorem GenH.inb':inb=fun i n=>decide (0≤i∧i<n):=congrArg Sg.inb G.X
theorem GenH.cut':cut=fun i j n=>decide (0≤i∧i≤j∧j≤n):=congrArg Sg.cut G.X
theorem GenH.room':room=fun(n:Int) (b:Nat)=>decide (n * (b:Int)≤140737488355328):=congrArg Sg.room G.X
theorem GenH.not':not=fun b=> !b:=congrArg Sg.not G.X
theorem GenH.not2:∀ b,not b= !b:=fun b=>by rw[G.not']
theorem GenH.avs':avs=fun s=>s.map fun b=>AV.int .u8 (b.toNat:Int):=congrArg Sg.avs G.X
end
theorem qb{P:Program}{mk:Sg→Tab}{N un:Nat}{fi:FnI}{args:List AV}{S:St}{K:Out→St→Prop}
 (h:∀ fail need same call loop len slen arith shift cmp conv eqS ltS cat app elt byt subS subL strOf isB fit inb cut room not and eqB avs,
   veb P (mk real) N fail need same call loop len slen arith shift cmp conv eqS ltS cat app elt byt subS subL strOf isB fit inb cut room not and eqB avs →
   xbm ⟨fail,need,same,call,loop⟩ (mk ⟨len,slen,arith,shift,cmp,conv,eqS,ltS,cat,app,elt,byt,subS,subL,strOf,isB,fit,inb,cut,room,not,and,eqB,avs⟩) un fi args S K) :
 xbm (pAlg P (mk real) N) (mk real) un fi args S K:=
 h _ _ _ _ _ _ _ _ _ _ _ _ _ _ _ _ _ _ _ _ _ _ _ _ _ _ _ _ _ ⟨rfl,rfl⟩
theorem xb{P:Program}{mk:Sg→Tab}{N un:Nat}{ann:List (Nat × Ann)}{c:Code}{env:Env}{S:St}{K:Ex→Env→St→Prop}
 (h:∀ fail need same call loop len slen arith shift cmp conv eqS ltS cat app elt byt subS subL strOf isB fit inb cut room not and eqB avs,
   veb P (mk real) N fail need same call loop len slen arith shift cmp conv eqS ltS cat app elt byt subS subL strOf isB fit inb cut room not and eqB avs →
   xg ⟨fail,need,same,call,loop⟩ (mk ⟨len,slen,arith,shift,cmp,conv,eqS,ltS,cat,app,elt,byt,subS,subL,strOf,isB,fit,inb,cut,room,not,and,eqB,avs⟩) ann un c K env S) :
 xg (pAlg P (mk real) N) (mk real) ann un c K env S:=
 h _ _ _ _ _ _ _ _ _ _ _ _ _ _ _ _ _ _ _ _ _ _ _ _ _ _ _ _ _ ⟨rfl,rfl⟩
def Less(K:Ex→Env→St→Prop):Ex→Env→St→Prop:=fun e env S=>∃ env',qz env' env∧K e env' S
theorem za.relax{P:Program}{T:Tab}{N:Nat}{c:Code}{K:Ex→Env→St→Prop}{env:Env}{S:St}(h:za P T N c (Less K) env S):za P T N c K env S:=by
 intro C hC g a w hI b k cs
 obtain⟨e,a',w',⟨ex,env,S,g',⟨env',hle,q⟩,r,hI'⟩,harr⟩:=h C hC g a w hI b k cs
 exact⟨e,a',w',⟨ex,env',S,g',q,r,hI'.weak hle⟩,harr⟩
end Go.AM
namespace Go.AM
def yas(T:Tab)(fns:FuncId→Option FnI)(fi:FnI)(q:UInt8→Bool):Bool:=
 (List.range 256).all fun n=>xbm (bAlg T fns 0 3) T 0 fi [.int .u8 n] St.nil fun o _=>match o with
   |.ret (.bool b)=>b == q (UInt8.ofNat n)
   |_=>false
def Asks(P:Program)(T:Tab)(fid:FuncId)(q:UInt8→Bool):Prop:=∀(b:UInt8) (S:St) (K:Out→St→Prop),K (.ret (.bool (q b))) S→jb P T fid [.int .u8 b.toNat] S K
theorem vv{P:Program}{T:Tab}(hT:TabOk P T)(hm:P.follows .mixedOrders=true){fns:FuncId→Option FnI}(hf:∀ f fi,fns f=some fi→FnOk P f fi){fid:FuncId}{fi:FnI}(hfi:FnOk P fid fi)(hn:1≤fi.n)
 {q:UInt8→Bool} (h:yas T fns fi q=true):Asks P T fid q:=by
 intro b S K hK
 have hb:=List.all_eq_true.1 h b.toNat (List.mem_range.2 b.toNat_lt)
 have h1:xbm (pAlg P T fi.n) T 0 fi [.int .u8 b.toNat] St.nil fun o _=>o= .ret (.bool (q b)):=by
  refine xbc (zcx hT hm hf 0 3 fi.n) ?_ hb
  intro o S' ho
  cases o with
  |panic v=>cases ho
  |ret v=>
   cases v with
   |bool c=>
    have:c=q (UInt8.ofNat b.toNat):=by simpa using ho
    rw[this,UInt8.ofNat_toNat]
   |_=>cases ho
 have h2:=ja hT hm hfi (by simpa using hn) h1
 refine jb.lift (by rfl) h2 ?_
 rintro o S0 rfl
 exact hK
end Go.AM
namespace Go.AM
def one(a b:Nat):Nat→Option Nat:=fun i=>match Nat.beq i a with
 |true=>some b
 |false=>none
def noh:Nat→Option Nat:=fun _=>none
theorem vo{a b i j:Nat}:one a b i=some j↔i=a∧j=b:=by
 unfold one
 cases hb:Nat.beq i a with
 |true=>
  have:=Nat.eq_of_beq_eq_true hb
  simp only[Option.some.injEq]
  exact⟨fun e=>⟨this,e.symm⟩,fun e=>e.2.symm⟩
 |false=>
  have:=Nat.ne_of_beq_eq_false hb
  constructor
  ·intro e;cases e
  ·rintro⟨e,_⟩;exact absurd e this
theorem xcw{o n:Nat}:back (one 0 o) n 1 0=one 0 o:=by
 funext i
 unfold back
 cases hb:Nat.ble 1 i with
 |false=>rfl
 |true=>
  have h1:1≤i:=nb hb
  have h2:one 0 o i=none:=by
   cases hq:one 0 o i with
   |none=>rfl
   |some j=>have:=(vo.1 hq).1;omega
  rw[h2]
  cases hq:Nat.blt i (1+0) with
  |false=>rfl
  |true=>have:i+1≤1+0:=nb hq;omega
theorem xbj{P:Program}{T:Tab}{fid:FuncId}{o:Nat}{S:St}{args:List AV}{K K0:Out→St→Prop}(ho:o<S.next)(hne:S.row o≠[])
 (hc:jb P T fid (renL (one o 0) noh args) ⟨[(0,renL (one o 0) noh (S.row o))],1,[]⟩ K0)
 (hK:∀ out0 S0',K0 out0 S0'→1≤S0'.next∧K (out0.ren (one 0 o) noh) (S.set o (renL (one 0 o) noh (S0'.row 0)))):jb P T fid args S K:=by
 refine frame (f:=one o 0) (fi:=one 0 o) (h:=noh) (hi:=noh) ⟨?_,?_,?_,?_,?_⟩ rfl hc ?_
 ·intro p i
  rw[vo,vo]
  exact⟨fun e=>⟨e.2,e.1⟩,fun e=>⟨e.2,e.1⟩⟩
 ·intro k l;exact⟨(fun e=>nomatch e),(fun e=>nomatch e)⟩
 ·intro p i e
  obtain⟨rfl,rfl⟩:=vo.1 e
  exact⟨ho,Nat.one_pos⟩
 ·intro p i e
  obtain⟨rfl,rfl⟩:=vo.1 e
  rfl
 ·intro k l e;cases e
 ·intro out0 S0' hk0
  obtain⟨hn,hk⟩:=hK out0 S0' hk0
  have hset:∀ p,(S.set o (renL (one 0 o) noh (S0'.row 0))).row p=if o=p then renL (one 0 o) noh (S0'.row 0) else S.row p:=fun p=>yak _ _ _ _ hne
  refine⟨0,S.set o (renL (one 0 o) noh (S0'.row 0)),⟨by simpa using hn,rfl,?_,?_,rfl,fun _=>rfl⟩,?_⟩
  ·intro p hp hf
   rw[hset,if_neg]
   rintro rfl
   have:one o 0 o=some 0:=vo.2 ⟨rfl,rfl⟩
   rw[this] at hf;cases hf
  ·intro i p e
   rw[xcw] at e ⊢
   obtain⟨rfl,rfl⟩:=vo.1 e
   rw[hset,if_pos rfl]
  ·rw[xcw];exact hk
end Go.AM
