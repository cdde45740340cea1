/- The abstract machine, fourth part: a deferred closure that asks recover; closed runs. -/
import Derived.Test.YteomefghofhkiaaGreatDoorAmC
import Derived.Recover
set_option linter.unusedSectionVars false
set_option linter.unusedVariables false
set_option linter.unusedSimpArgs false
namespace Go.AM
def vw:Code→List Code
 |.seq a b=>vw a++vw b
 |c=>[c]
theorem vcu:∀ c:Code,vw c≠[]
 |.seq a b=>by
  simp only[vw]
  intro h
  exact vcu a (List.append_eq_nil_iff.1 h).1
 |.region .. =>by simp[vw]
 |.cond .. =>by simp[vw]
 |.block .. =>by simp[vw]
 |.loop .. =>by simp[vw]
 |.skip=>by simp[vw]
 |.exit _=>by simp[vw]
 |.ret=>by simp[vw]
 |.goto .. =>by simp[vw]
 |.label .. =>by simp[vw]
 |.scope .. =>by simp[vw]
 |.rangeFunc .. =>by simp[vw]
 |.refuse .. =>by simp[vw]
def wpL(P:Program)(Q:Exit→Act→World→Prop):List Code→Act→World→Prop
 | [],a,w=>Q .normal a w
 |c::l,a,w=>c.wp P (Exit.then (wpL P Q l) Q) a w
section
variable {P:Program} {T:Tab}
theorem yay{n n':Act→World→Prop}{Q Q':Exit→Act→World→Prop}(hn:∀ a w,n a w→n' a w)(hq:∀ e a w,Q e a w→Q' e a w):∀ e a w,Exit.then n Q e a w→Exit.then n' Q' e a w:=by
 intro e a w h
 cases e<;>first|exact hn a w h|exact hq _ a w h
theorem vay{Q Q':Exit→Act→World→Prop}(hq:∀ e a w,Q e a w→Q' e a w):∀(l:List Code) (a:Act) (w:World),wpL P Q l a w→wpL P Q' l a w
 | [],a,w,h=>hq _ a w h
 |c::l,a,w,h=>wp_mono h (yay (vay hq l) hq)
theorem xb2{n:Act→World→Prop}{Q:Exit→Act→World→Prop}{m:Act→World→Prop}:∀ e a w,Exit.then n (Exit.then m Q) e a w↔Exit.then n Q e a w:=by
 intro e a w
 cases e<;>exact Iff.rfl
theorem qbd{Q:Exit→Act→World→Prop}{m:List Code}:∀(l:List Code) (a:Act) (w:World),wpL P (Exit.then (wpL P Q m) Q) l a w↔wpL P Q (l++m) a w
 | [],a,w=>Iff.rfl
 |c::l,a,w=>
  ⟨fun h=>wp_mono h fun e a w h=>yay (fun a w=>(qbd l a w).1) (fun _ _ _ h=>h) e a w ((xb2 e a w).1 h),
   fun h=>wp_mono h fun e a w h=>(xb2 e a w).2 (yay (fun a w=>(qbd l a w).2) (fun _ _ _ h=>h) e a w h)⟩
theorem zbp{c:Code}:∀ {Q:Exit→Act→World→Prop} {a:Act} {w:World},wpL P Q (vw c) a w→c.wp P Q a w:=by
 induction c with
 |seq x y ihx ihy=>
  intro Q a w h
  simp only[vw] at h
  exact wp_seq (wp_mono (ihx ((qbd _ a w).2 h)) (yay (fun a w h=>ihy h) fun _ _ _ h=>h))
 |_=>
  intro Q a w h
  simp only[vw,wpL] at h
  exact wp_mono h fun e a w h=>by cases e<;>exact h
theorem xcp{c:Code}{Q Q':Exit→Act→List Frame→World→Prop}{a:Act}{cs:List Frame}{w:World}(h:c.wpS P Q a cs w)(hq:∀ e a cs w,Q e a cs w→Q' e a cs w):c.wpS P Q' a cs w:=
 fun b k hb hr=>let ⟨e,a',cs',w',q,r⟩:=h b k hb hr;⟨e,a',cs',w',hq _ _ _ _ q,r⟩
theorem qce{c x:Code}{l:List Code}(hf:vw c=x::l){Q:Exit→Act→List Frame→World→Prop}{a:Act}{cs:List Frame}{w:World}
 (h:x.wpS P (Exit.thenS (fun a cs w=>wpL P (fun e a w=>Q e a cs w) l a w) Q) a cs w):c.wpS P Q a cs w:=by
 induction c generalizing l Q with
 |seq p q ihp ihq=>
  simp only[vw] at hf
  obtain⟨l1,hl1⟩:∃ l1,vw p=x::l1:=by
   cases hp:vw p with
   |nil=>exact absurd hp (vcu p)
   |cons y l1=>
    rw[hp] at hf
    simp only[List.cons_append,List.cons.injEq] at hf
    exact⟨l1,by rw[hf.1]⟩
  have hl:l=l1++vw q:=by
   rw[hl1] at hf
   simpa using hf.symm
  refine wpS_seq (ihp hl1 (xcp h ?_))
  intro e a cs w hx
  cases e with
  |normal=>
   simp only[Exit.thenS] at hx ⊢
   rw[hl] at hx
   refine vay (fun e a w hx=>?_) _ a w ((qbd l1 a w).2 hx)
   cases e with
   |normal=>exact wpS_of_wp (zbp hx)
   |_=>exact hx
  |_=>exact hx
 |_=>
  simp only[vw,List.cons.injEq] at hf
  obtain⟨rfl,rfl⟩:=hf
  refine xcp h fun e a cs w hx=>?_
  cases e<;>exact hx
end
section
variable {R:Type}
def jbc(A:Alg R)(T:Tab)(ann:List (Nat × Ann))(un:Nat)(K:Ex→Env→St→R):List Code→Env→St→R
 | [],env,S=>K .normal env S
 |c::l,env,S=>xg A T ann un c (fun e env S=>match e with
  |.normal=>jbc A T ann un K l env S
  |.exit i=>K (.exit i) env S
  |.ret=>K .ret env S
  |.panic v=>K (.panic v) env S) env S
structure DfI where
 fi:FnI
 pre:List Code
 post:List Code
 t:Tmp
 cid:FuncId
 cap:List Operand
 ci:FnI
 tr:Tmp
 ts:Tmp
 rest:List Code
def ya7(A:Alg R)(T:Tab)(un:Nat)(D:DfI)(cap:List AV)(r:AV)(S:St)(K:St→R):R:=
 jbc A T D.ci.ann un (fun e _ S=>match e with
  |.normal=>K S
  |.ret=>K S
  |.panic _=>A.fail
  |.exit _=>A.fail) D.rest ((D.ts,r)::(D.tr,r)::xa3 0 cap) S
def vbc(A:Alg R)(A2:Alg R)(T:Tab)(un:Nat)(D:DfI)(args:List AV)(S:St)(K:Out→St→R):R:=
 jbc A T D.fi.ann un (fun e env S=>match e with
  |.normal=>jbc A T D.fi.ann un (fun e env' S=>match e with
   |.normal=>ya7 A2 T un D (evs T env D.cap) .nili S fun S=>xret A T D.fi.results env' S K
   |.ret=>ya7 A2 T un D (evs T env D.cap) .nili S fun S=>xret A T D.fi.results env' S K
   |.panic v=>match v with
    |.iface t x=>ya7 A2 T un D (evs T env D.cap) (.iface t x) S fun S=>xret A T D.fi.results env' S K
    |_=>A.fail
   |.exit _=>A.fail) D.post ((D.t,.func D.cid [] (evs T env D.cap))::env) S
  |.ret=>xret A T D.fi.results env S K
  |.panic v=>K (.panic v) S
  |.exit _=>A.fail) D.pre (xa3 0 args) S
end
section
variable {P:Program} {T:Tab} {N:Nat} {ann:List (Nat × Ann)}
theorem vam(hT:TabOk P T)(hm:P.follows .mixedOrders=true)(un:Nat){C:Ctx}(hC:C.n=N){K:Ex→Env→St→Prop}:∀(l:List Code),(l.all (qf N ann))=true→∀(env:Env) (S:St) (g:Ghost) (a:Act) (w:World),
 jbc (pAlg P T N) T ann un K l env S→Inv T C g env S a w→wpL P (Post T C K) l a w
 | [],_,env,S,g,a,w,hx,h=>⟨.normal,env,S,g,hx,trivial,h⟩
 |c::l,hok,env,S,g,a,w,hx,h=>by
  simp only[List.all_cons,Bool.and_eq_true] at hok
  simp only[jbc] at hx
  have he:andThen (fun env S=>jbc (pAlg P T N) T ann un K l env S) K=fun e env S=>match e with
   |.normal=>jbc (pAlg P T N) T ann un K l env S
   |.exit i=>K (.exit i) env S
   |.ret=>K .ret env S
   |.panic v=>K (.panic v) env S:=by
   funext e env S;cases e<;>rfl
  rw[← he] at hx
  exact wp_mono (yaw hT hm un c hok.1 C hC _ env S hx g a w h) (za0 fun env S g a w hk hI=>vam hT hm un hC l hok.2 env S g a w hk hI)
structure DfOk (P:Program) (f:FuncId) (D:DfI):Prop where
 fn:∃ fn body id o1 o2,P.funcs[f]? =some fn∧fn.body=some body∧fn.ntmps=D.fi.n∧fn.results.toList=D.fi.results∧(fn.name == "runtime.NumGoroutine")=false ∧
  vw body=D.pre++ .region id #[o1,o2] false::D.post∧o1.guard=none∧o2.guard=none∧o1.dst=some D.t∧o2.dst=none ∧
  o1.op= .makeFunc (.func D.cid) #[] D.cap.toArray∧∃ ts,o2.op= .defer { callee:= .value (.tmp D.t),args:= #[],argTypes:=ts }
 lt:D.t<D.fi.n
 pre:D.pre.all (qf D.fi.n D.fi.ann)=true
 post:D.post.all (qf D.fi.n D.fi.ann)=true
 cf:∃ cf body id r1 r2,P.funcs[D.cid]? =some cf∧cf.body=some body∧cf.ntmps=D.ci.n∧cf.results= #[]∧(cf.name == "runtime.NumGoroutine")=false ∧
  vw body= .region id #[r1,r2] false::D.rest∧r1.guard=none∧r2.guard=none∧r1.dst=some D.tr∧r2.dst=some D.ts ∧
  (∃ ts,r1.op= .call { callee:= .builtin .recover,args:= #[],argTypes:=ts })∧r2.op= .assign (.tmp D.tr)
 trlt:D.tr<D.ci.n
 tslt:D.ts<D.ci.n
 caplt:D.cap.length≤D.ci.n
 rest:D.rest.all (qf D.ci.n D.ci.ann)=true
theorem zca{f:FuncId}{fn:Func}{n:Nat}{args:List AV}{vs:List Value}{S:St}{g:Ghost}{w:World}(hn:fn.ntmps=n)(hlen:args.length≤n)
 (hrel:WRel T g S w) (hglob:GlobOk T g w) (hargs:zk T w g args vs) :
 Inv T { n:=n,w0:=w,g0:=g,next:=S.next,touch:=qj g } g (xa3 0 args) S { tmps:=vs.toArray++Array.replicate (fn.ntmps-vs.toArray.size) undef,defers:=[] } w:=by
 refine⟨fun t=>?_,?_,rfl,hrel,.refl _ _ _,fun o b q=> .inl (.inl ⟨o,q⟩),fun k tk b q q'=> .inl (.inr ⟨k,tk,q,q'⟩),hglob,fun o b q=> .inl q,Nat.le_refl _⟩
 ·rw[xa7,if_pos (Nat.zero_le _),Nat.sub_zero]
  by_cases ht:t<args.length
  ·have:=hargs.2 t ht
   have hlt:t<vs.length:=by rw[hargs.1];exact ht
   have he:(vs.toArray++Array.replicate (fn.ntmps-vs.toArray.size) undef).getD t undef=vs.getD t undef:=by
    simp[Array.getD_eq_getD_getElem?,List.getD_eq_getElem?_getD,Array.getElem?_append,hlt]
   rw[he];exact this
  ·rw[jdl (by omega)]
   exact .undef _ _
 ·simp only[Array.size_append,Array.size_replicate,List.size_toArray,hn,hargs.1]
  omega
structure After (T:Tab) (g:Ghost) (S:St) (w:World) (g':Ghost) (S':St) (w':World):Prop where
 rel:WRel T g' S' w'
 ext:Ext (qj g) g w g' w'
 tch:∀ b,qj g' b→qj g b∨w.heap.size≤b
 nm:∀ o b,g'.ρ o=some b→g.ρ o=some b∨S.next≤o
 next:S.next≤S'.next
theorem xbb{g g':Ghost}{S S':St}{w w':World}{env:Env}{a:Act}{n:Nat}{ds:List Deferred}(h:Inv T { n:=n,w0:=w,g0:=g,next:=S.next,touch:=qj g,defers:=ds } g' env S' a w'):After T g S w g' S' w':=by
 refine⟨h.rel,h.ext,?_,h.nm,h.next⟩
 rintro b (⟨o,q⟩|⟨k,tk,q,q'⟩)
 ·exact h.ob o b q
 ·exact h.tb k tk b q q'
theorem vbo(hT:TabOk P T)(hm:P.follows .mixedOrders=true)(un:Nat){f:FuncId}{D:DfI}(hD:DfOk P f D){g:Ghost}{w:World}{S:St}{cap:List AV}{vals:List Value}(hcap:cap.length=D.cap.length)(hrel:WRel T g S w)
 (hglob:GlobOk T g w) (hargs:zk T w g cap vals) {u:FrameMode} {r:AV} (hu:(u= .returning∧r= .nili)∨∃ t x y,r= .iface t x∧u= .panicking [{ v:= .iface t y,recovered:=false }]∧Rep T w g r (.iface t y)) {K:St→Prop}
 (hx:ya7 (pAlg P T D.ci.n) T un D cap r S K) :
 CallsD P D.cid vals.toArray u w fun e u' w'=>(∃ y,e= .returned y)∧settle u'= .returning∧∃ S' g',K S'∧After T g S w g' S' w':=by
 obtain⟨cf,body,id,r1,r2,hf,hb,hn,hres,_,hfl,hg1,hg2,hd1,hd2,⟨ts,ho1⟩,ho2⟩:=hD.cf
 refine callsD_of_wpS hf hb fun c0 cs hmode=>?_
 refine qce hfl (wpS_region ?_)
 have hI:=zca (f:=D.cid) (fn:=cf) (n:=D.ci.n) (args:=cap) hn (by have:=hD.caplt;omega) hrel hglob hargs
 generalize ({ tmps:=vals.toArray++Array.replicate (cf.ntmps-vals.toArray.size) undef,defers:=[] }:Act)=a0 at *
 have fin:∀(x:Value) (c1:Frame),Rep T w g r x→(∃ u',c1={ c0 with mode:=u' }∧settle u'= .returning) →
  wpL P (fun e a w_1=>bodyPostS P cf c0 cs (fun e u' w'=>(∃ y,e= .returned y)∧settle u'= .returning∧∃ S' g',K S'∧After T g S w g' S' w') e a (c1::cs) w_1) D.rest ((a0.put (some D.tr) x).put (some D.ts) x) w:=by
  rintro x c1 hxr ⟨u',rfl,hset⟩
  have h1:=(hI.put hxr (some D.tr) (fun t h=>by cases h;exact hD.trlt)).put hxr (some D.ts) (fun t h=>by cases h;exact hD.tslt)
  refine vay ?_ _ _ _ (vam hT hm un (C:={ n:=D.ci.n,w0:=w,g0:=g,next:=S.next,touch:=qj g }) rfl D.rest hD.rest _ S g _ w hx h1)
  have done:∀ env S' g' a w',K S'→Inv T { n:=D.ci.n,w0:=w,g0:=g,next:=S.next,touch:=qj g } g' env S' a w'→a.defers=[]∧∃ u'',({ c0 with mode:=u' }::cs:List Frame)={ c0 with mode:=u'' }::cs∧∃ v,(results cf a.tmps).run P w'= .ok v w' ∧
   ((∃ y,Ending.returned v= .returned y)∧settle u''= .returning∧∃ S' g',K S'∧After T g S w g' S' w'):=by
   intro env S' g' a w' hk hI'
   refine⟨hI'.defers,u',rfl,.tuple #[],?_,⟨_,rfl⟩,hset,S',g',hk,xbb hI'⟩
   rw[qa5,hres]
   simp
  rintro e a w' ⟨ex,env,S',g',hk,hr,hI'⟩
  cases e with
  |normal=>cases ex<;>first|exact done env S' g' a w' hk hI'|exact hr.elim
  |ret=>cases ex<;>first|exact done env S' g' a w' hk hI'|exact hr.elim
  |panic ch=>cases ex<;>first|exact hk.elim|exact hr.elim
  |exit i=>cases ex<;>first|exact hk.elim|exact hr.elim
  |goto l=>cases ex<;>exact hr.elim
  |outgrown=>cases ex<;>exact hr.elim
 have hev:∀ x,(a0.put (some D.tr) x).eval (.tmp D.tr)=x:=by
  intro x
  have hsz:D.tr<a0.tmps.size:=by rw[hI.size];exact hD.trlt
  simp[Act.put,Act.eval,hsz]
 have hrec:(execOp a0.eval r1).run P w= .ok .recover w:=by
  simp[execOp,ho1,resolve,invoke,builtin]
 have has:∀(a:Act),(execOp a.eval r2).run P w= .ok (.value (a.eval (.tmp D.tr))) w:=by
  intro a
  simp[execOp,ho2]
 have hw1:Region.wanted r1 (yielded #[r1,r2] a0.tmps)=true:=by simp[Region.wanted,hg1]
 have hw2:∀ t,Region.wanted r2 (yielded #[r1,r2] t)=true:=fun t=>by simp[Region.wanted,hg2]
 rcases hu with ⟨rfl,rfl⟩|⟨t,x,y,rfl,rfl,hy⟩
 ·have hrd:recoverD (c0::cs)=none:=by simp[recoverD,hmode]
  simp only[List.size_toArray,List.length_cons,List.length_nil,List.range_succ,List.range_zero,List.nil_append,List.cons_append,wpOpsS,List.getElem?_toArray,List.getElem?_cons_zero,List.getElem?_cons_succ,hw1,hw2,if_true,hrec,hrd,has,Oper.upon,hd1,hd2,hev]
  exact fin _ c0 (.nili _) ⟨.returning,by cases c0;simp_all,rfl⟩
 ·have hrd:recoverD (c0::cs)=some (.iface t y,{ c0 with mode:= .panicking [{ v:= .iface t y,recovered:=true }] }::cs):=by simp[recoverD,hmode]
  simp only[List.size_toArray,List.length_cons,List.length_nil,List.range_succ,List.range_zero,List.nil_append,List.cons_append,wpOpsS,List.getElem?_toArray,List.getElem?_cons_zero,List.getElem?_cons_succ,hw1,hw2,if_true,hrec,hrd,has,Oper.upon,hd1,hd2,hev]
  exact fin _ _ hy ⟨_,rfl,rfl⟩
theorem yb3(hT:TabOk P T){fn:Func}{rs:List ResultVar}(hrs:fn.results.toList=rs){A:Alg Prop}(hA:A.fail=False){C:Ctx}{g:Ghost}{env:Env}{S:St}{a:Act}{w:World}{K:Out→St→Prop}(hI:Inv T C g env S a w)(hk:xret A T rs env S K) :
 ∃ x v,(results fn a.tmps).run P w= .ok x w∧K (.ret v) S∧Rep T w g v x:=by
 unfold xret at hk
 split at hk
 ·rename_i l hl
  obtain⟨xs,hxs,hl1,hl2⟩:=yaq hT hI hl
  have hrun:(results fn a.tmps).run P w= .ok (if h:xs.toArray.size=1 then xs.toArray[0] else .tuple xs.toArray) w:=by
   have hxs':(fn.results.mapM (xbf a.tmps)).run P w= .ok xs.toArray w:=by
    rw[← hrs] at hxs
    rw[Array.mapM_eq_mapM_toList,map_eq_pure_bind,Sem.run_bind,hxs,Result.andThen_ok]
    rfl
   rw[qa5,Sem.run_bind,hxs',Result.andThen_ok]
   rfl
  refine⟨_,xc3 l,hrun,hk,?_⟩
  cases l with
  |nil=>
   have:xs=[]:=List.eq_nil_of_length_eq_zero (by simpa using hl1)
   subst this
   exact .tup _ _ _ rfl (by simp)
  |cons v l=>
   cases l with
   |nil=>
    cases xs with
    |nil=>simp at hl1
    |cons x xs=>
     have:xs=[]:=List.eq_nil_of_length_eq_zero (by simpa using hl1)
     subst this
     simpa[xc3,nth] using hl2 0 (by simp)
   |cons v2 l=>
    have:¬ xs.toArray.size=1:=by simp[hl1]
    rw[dif_neg this]
    exact .tup _ _ _ hl1 hl2
 ·rw[hA] at hk;exact hk.elim
theorem zbl(hT:TabOk P T)(hm:P.follows .mixedOrders=true)(un:Nat){f:FuncId}{D:DfI}(hD:DfOk P f D){args:List AV}{S:St}{K:Out→St→Prop}(hlen:args.length≤D.fi.n)
 (hx:vbc (pAlg P T D.fi.n) (pAlg P T D.ci.n) T un D args S K):jb P T f args S K:=by
 intro g w vs hrel hglob hargs
 obtain⟨fn,body,id,o1,o2,hfn,hb,hn,hrs,hname,hfl,hg1,hg2,hd1,hd2,ho1,ts,ho2⟩:=hD.fn
 have hent:Enters P f:=by
  intro args w
  have hn':¬ fn.name= "runtime.NumGoroutine" :=by simpa using hname
  simp[callFunc,hfn,hn',hb]
 have hcent:Enters P D.cid:=by
  obtain⟨cf,cbody,_,_,_,hcf,hcb,_,_,hcn,_⟩:=hD.cf
  intro args w
  have hn':¬ cf.name= "runtime.NumGoroutine" :=by simpa using hcn
  simp[callFunc,hcf,hn',hcb]
 refine .inl ⟨hent,calls_of_wp_defers hfn hb (zbp ?_)⟩
 rw[hfl]
 have hI:=zca (f:=f) (fn:=fn) (n:=D.fi.n) (args:=args) hn hlen hrel hglob hargs
 generalize ({ tmps:=vs.toArray++Array.replicate (fn.ntmps-vs.toArray.size) undef,defers:=[] }:Act)=a0 at *
 rw[← qbd]
 have fin0:∀ env S' g' a w',xret (pAlg P T D.fi.n) T D.fi.results env S' K→Inv T { n:=D.fi.n,w0:=w,g0:=g,next:=S.next,touch:=qj g } g' env S' a w'→Leaves P fn a.tmps (vj T g S w K) a.defers .returning w':=by
  intro env S' g' a w' hk hI'
  rw[hI'.defers]
  obtain⟨x,v,hrun,hkv,hv⟩:=yb3 hT hrs rfl hI' hk
  have hA:=xbb hI'
  exact⟨x,hrun,.ret v,S',g',hkv,hv,hA.rel,hA.ext,hA.tch,hA.nm,hA.next⟩
 refine vay ?_ _ _ _ (vam hT hm un (C:={ n:=D.fi.n,w0:=w,g0:=g,next:=S.next,touch:=qj g }) rfl D.pre hD.pre _ S g _ w hx hI)
 rintro e a w' ⟨ex,env,S',g',hk,hr,hI'⟩
 cases e with
 |exit i=>cases ex<;>first|exact hk.elim|exact hr.elim
 |goto l=>cases ex<;>exact hr.elim
 |outgrown=>cases ex<;>exact hr.elim
 |ret=>cases ex<;>first|exact fin0 env S' g' a w' hk hI'|exact hr.elim
 |panic ch=>
  cases ex with
  |panic v=>
   obtain⟨x,rfl,hv⟩:=hr
   have hA:=xbb hI'
   show Leaves P fn a.tmps (vj T g S w K) a.defers _ w'
   rw[hI'.defers]
   exact⟨.panic v,S',g',hk,⟨x,rfl,hv⟩,hA.rel,hA.ext,hA.tch,hA.nm,hA.next⟩
  |_=>exact hr.elim
 |normal=>
  cases ex with
  |normal=>
   simp only[Exit.then,wpL] at hk ⊢
   refine wp_region ?_
   have hw1:Region.wanted o1 (yielded #[o1,o2] a.tmps)=true:=by simp[Region.wanted,hg1]
   have hw2:∀ t,Region.wanted o2 (yielded #[o1,o2] t)=true:=fun t=>by simp[Region.wanted,hg2]
   have hcapR:=qcy hT hI' D.cap
   obtain⟨vals,hvals⟩:∃ vals,D.cap.map a.eval=vals:=⟨_,rfl⟩
   rw[hvals] at hcapR
   have hrun1:(execOp a.eval o1).run P w'= .ok (.value (.func (.func D.cid) #[] vals.toArray)) w':=by
    simp[execOp,ho1,Instr.makeFunc,← hvals]
   have hfr:Rep T w' g' (.func D.cid [] (evs T env D.cap)) (.func (.func D.cid) #[] vals.toArray):= .func _ _ [] _ [] vals rfl hcapR.1 (fun j hj=>by simp at hj) hcapR.2
   have hput:=hI'.put hfr (some D.t) (fun t h=>by cases h;exact hD.lt)
   have hev:(a.put (some D.t) (.func (.func D.cid) #[] vals.toArray)).eval (.tmp D.t)= .func (.func D.cid) #[] vals.toArray:=by
    have hsz:D.t<a.tmps.size:=by rw[hI'.size];exact hD.lt
    simp[Act.put,Act.eval,hsz]
   have hrun2:(execOp (a.put (some D.t) (.func (.func D.cid) #[] vals.toArray)).eval o2).run P w'= .ok (.defer { target:= .fn (.func D.cid) vals.toArray,args:= #[] }) w':=by
    simp[execOp,ho2,resolve,hev,Deferred.ofValue]
   generalize ha1:a.put (some D.t) (.func (.func D.cid) #[] vals.toArray)=a1 at *
   have hw2':=hw2 a1.tmps
   simp only[List.size_toArray,List.length_cons,List.length_nil,List.range_succ,List.range_zero,List.nil_append,List.cons_append,wpOps,List.getElem?_toArray,List.getElem?_cons_zero,List.getElem?_cons_succ,hw1,if_true]
   refine .inl ?_
   unfold Oper.wp
   rw[hrun1]
   simp only[Oper.upon,hd1,ha1,hw2',if_true]
   refine .inl ?_
   try unfold Oper.wp
   rw[hrun2]
   simp only[Oper.upon,hd2,Act.put]
   have hd0:a1.defers=[]:=hput.defers
   have hI2:Inv T { n:=D.fi.n,w0:=w,g0:=g,next:=S.next,touch:=qj g,defers:=[{ target:= .fn (.func D.cid) vals.toArray,args:= #[] }] } g' ((D.t,.func D.cid [] (evs T env D.cap))::env) S' { a1 with defers:={ target:= .fn (.func D.cid) vals.toArray,args:= #[] }::a1.defers } w':=
    ⟨hput.tmp,hput.size,by rw[hd0],hput.rel,hput.ext,hput.ob,hput.tb,hput.glob,hput.nm,hput.next⟩
   have hI3:=hI2.rebase
   have hcl:(evs T env D.cap).length=D.cap.length:=by rw[jbt];simp
   generalize evs T env D.cap=capA at *
   generalize hd:({ target:= .fn (.func D.cid) vals.toArray,args:= #[] }:Deferred)=dd at *
   have leave:∀(r:AV) (u:FrameMode) (env2:Env) (S2:St) (g2:Ghost) (a2:Act) (w2:World),u≠ .run→((u= .returning∧r= .nili)∨∃ t x y,r= .iface t x∧u= .panicking [{ v:= .iface t y,recovered:=false }]∧Rep T w2 g2 r (.iface t y)) →
    (ya7 (pAlg P T D.ci.n) T un D capA r S2 fun S=>xret (pAlg P T D.fi.n) T D.fi.results env2 S K) →
    Inv T (AM.rebase { n:=D.fi.n,w0:=w,g0:=g,next:=S.next,touch:=qj g,defers:=[dd] } g' S' w') g2 env2 S2 a2 w2→Leaves P fn a2.tmps (vj T g S w K) a2.defers u w2:=by
    intro r u env2 S2 g2 a2 w2 hne hu hx2 hI4
    have hI5:=(hI2.unbase hI4).1
    rw[hI4.defers]
    show Leaves P fn a2.tmps (vj T g S w K) [dd] u w2
    rw[← hd]
    have hcap2:zk T w2 g2 capA vals:=⟨hcapR.1,fun j hj=>(hcapR.2 j hj).keeps hI4.ext.keeps⟩
    refine leaves_cons hne ?_ ((vbo hT hm un hD hcl hI5.rel (fun gl t e hg=>hI5.glob gl t e hg) hcap2 hu hx2).mono ?_)
    ·simp only[invoke]
     have:=hcent (#[]++vals.toArray) w2
     simpa using this
    ·rintro e u' w3 ⟨⟨y,rfl⟩,hset,S3,g3,hk3,hA3⟩
     simp only
     rw[hset]
     have hI6:=yax hT hI5 hA3.rel hA3.ext hA3.tch hA3.nm hA3.next
     obtain⟨x,v,hrun,hkv,hv⟩:=yb3 hT hrs rfl hI6 hk3
     have hA:=xbb hI6
     exact⟨x,hrun,.ret v,S3,g3,hkv,hv,hA.rel,hA.ext,hA.tch,hA.nm,hA.next⟩
   refine vay ?_ _ _ _ (vam hT hm un (C:=AM.rebase { n:=D.fi.n,w0:=w,g0:=g,next:=S.next,touch:=qj g,defers:=[dd] } g' S' w') rfl D.post hD.post _ S' g' _ w' hk hI3)
   rintro e a2 w2 ⟨ex,env2,S2,g2,hk2,hr2,hI4⟩
   cases e with
   |normal=>
    cases ex with
    |normal=>exact leave .nili .returning env2 S2 g2 a2 w2 (by simp) (.inl ⟨rfl,rfl⟩) hk2 hI4
    |_=>exact hr2.elim
   |ret=>
    cases ex with
    |ret=>exact leave .nili .returning env2 S2 g2 a2 w2 (by simp) (.inl ⟨rfl,rfl⟩) hk2 hI4
    |_=>exact hr2.elim
   |panic ch=>
    cases ex with
    |panic v=>
     obtain⟨x,rfl,hv⟩:=hr2
     cases v with
     |iface t y=>
      have hv':=hv
      cases hv with
      |iface _ _ _ z hz=>exact leave _ _ env2 S2 g2 a2 w2 (by simp) (.inr ⟨t,y,z,rfl,rfl,hv'⟩) hk2 hI4
     |_=>exact hk2.elim
    |_=>exact hr2.elim
   |exit i=>cases ex<;>first|exact hk2.elim|exact hr2.elim
   |goto l=>cases ex<;>exact hr2.elim
   |outgrown=>cases ex<;>exact hr2.elim
  |_=>exact hr.elim
end
end Go.AM
namespace Go.AM
section
variable {R:Type} {A A2:Alg R} {B B2:Alg Prop} {h:R→Prop} (H:Hom A B h) (H2:Hom A2 B2 h) {T:Tab}
include H
theorem xay{ann:List (Nat × Ann)}{un:Nat}{K:Ex→Env→St→R}{K':Ex→Env→St→Prop}(hk:∀ e env S,h (K e env S)→K' e env S):∀ {l:List Code} {env:Env} {S:St},h (jbc A T ann un K l env S)→jbc B T ann un K' l env S
 | [],env,S,hx=>hk _ _ _ hx
 |c::l,env,S,hx=>by
  simp only[jbc] at hx ⊢
  refine yb1 H (fun e env S hx=>?_) hx
  cases e with
  |normal=>exact xay hk hx
  |_=>exact hk _ _ _ hx
theorem ya9{rs:List ResultVar}{env:Env}{S:St}{K:Out→St→R}{K':Out→St→Prop}(hk:∀ o S,h (K o S)→K' o S)(hx:h (xret A T rs env S K)):xret B T rs env S K':=by
 unfold xret at hx ⊢
 cases hr:yaz T env S rs with
 |none=>rw[hr] at hx;exact(H.fail hx).elim
 |some l=>rw[hr] at hx;exact hk _ _ hx
theorem za4{un:Nat}{D:DfI}{cap:List AV}{r:AV}{S:St}{K:St→R}{K':St→Prop}(hk:∀ S,h (K S)→K' S)(hx:h (ya7 A T un D cap r S K)):ya7 B T un D cap r S K':=by
 unfold ya7 at hx ⊢
 refine xay H (fun e env S hx=>?_) hx
 cases e with
 |normal=>exact hk _ hx
 |ret=>exact hk _ hx
 |panic v=>exact(H.fail hx).elim
 |exit i=>exact(H.fail hx).elim
include H2 in
theorem xcy{un:Nat}{D:DfI}{args:List AV}{S:St}{K:Out→St→R}{K':Out→St→Prop}(hk:∀ o S,h (K o S)→K' o S)(hx:h (vbc A A2 T un D args S K)):vbc B B2 T un D args S K':=by
 unfold vbc at hx ⊢
 refine xay H (fun e env S hx=>?_) hx
 cases e with
 |ret=>exact ya9 H hk hx
 |panic v=>exact hk _ _ hx
 |exit i=>exact(H.fail hx).elim
 |normal=>
  refine xay H (fun e env' S hx=>?_) hx
  cases e with
  |normal=>exact za4 H2 (fun S hx=>ya9 H hk hx) hx
  |ret=>exact za4 H2 (fun S hx=>ya9 H hk hx) hx
  |exit i=>exact(H.fail hx).elim
  |panic v=>
   cases v with
   |iface t x=>exact za4 H2 (fun S hx=>ya9 H hk hx) hx
   |_=>exact(H.fail hx).elim
end
def cAlg(T:Tab)(fns:FuncId→Option FnI)(dfs:FuncId→Option DfI)(prim:FuncId→List AV→Option AV)(un:Nat):Nat→Alg Bool
 | 0=>{ fail:=false,need:=fun b r=>match b with|true=>r|false=>false,same:=fun a b r=>match avEq a b with|true=>r|false=>false,call:=fun _ _ _ _=>false,loop:=fun _ _ _ _=>false }
 |d+1=>{ fail:=false,need:=fun b r=>match b with|true=>r|false=>false,same:=fun a b r=>match avEq a b with|true=>r|false=>false,loop:=fun _ _ _ _=>false,
         call:=fun f args S K=>match fns f with
          |some fi=>match Nat.ble (lenN args) fi.n with
           |true=>xbm (cAlg T fns dfs prim un d) T un fi args S K
           |false=>false
          |none=>match prim f args with
           |some v=>K (.ret v) S
           |none=>match dfs f with
            |some D=>match Nat.ble (lenN args) D.fi.n with
             |true=>vbc (cAlg T fns dfs prim un d) (cAlg T fns dfs prim un d) T un D args S K
             |false=>false
            |none=>false }
section
variable {P:Program} {T:Tab} (hT:TabOk P T) (hm:P.follows .mixedOrders=true) {fns:FuncId→Option FnI} (hf:∀ f fi,fns f=some fi→FnOk P f fi)
variable {dfs:FuncId→Option DfI} (hd:∀ f D,dfs f=some D→DfOk P f D) {prim:FuncId→List AV→Option AV} (hp:∀ f args v,prim f args=some v→∀(S:St) (K:Out→St→Prop),K (.ret v) S→jb P T f args S K)
include hT hm hf hd hp
theorem jbb(un:Nat):∀(d N:Nat),Hom (cAlg T fns dfs prim un d) (pAlg P T N) (fun b=>b=true)
 | 0,N=>⟨fun h=>by simp[cAlg] at h,fun b _ _ h k=>by cases b<;>simp[cAlg] at h;exact⟨rfl,k h⟩,fun a b _ _ h k=>by
   simp only[cAlg] at h
   cases hq:avEq a b with
   |false=>rw[hq] at h;cases h
   |true=>rw[hq] at h;exact⟨qa7 hq,k h⟩,fun _ _ _ _ _ h _=>by simp[cAlg] at h,fun _ _ _ _ _ h _=>by simp[cAlg] at h⟩
 |d+1,N=>⟨fun h=>by simp[cAlg] at h,fun b _ _ h k=>by cases b<;>simp[cAlg] at h;exact⟨rfl,k h⟩,fun a b _ _ h k=>by
  simp only[cAlg] at h
  cases hq:avEq a b with
  |false=>rw[hq] at h;cases h
  |true=>rw[hq] at h;exact⟨qa7 hq,k h⟩,fun f args S K K' h k=>by
  simp only[cAlg] at h
  cases hq:fns f with
  |some fi=>
   rw[hq] at h
   simp only at h
   cases hl:Nat.ble (lenN args) fi.n with
   |false=>rw[hl] at h;cases h
   |true=>
    rw[hl] at h
    exact ja hT hm (hf f fi hq) (by have:=nb hl;rwa [vx] at this) (un:=un) (xbc (jbb un d fi.n) k h)
  |none=>
   rw[hq] at h
   simp only at h
   cases hpr:prim f args with
   |some v=>rw[hpr] at h;exact hp f args v hpr S K' (k _ _ h)
   |none=>
    rw[hpr] at h
    simp only at h
    cases hdf:dfs f with
    |none=>rw[hdf] at h;cases h
    |some D=>
     rw[hdf] at h
     simp only at h
     cases hl:Nat.ble (lenN args) D.fi.n with
     |false=>rw[hl] at h;cases h
     |true=>
      rw[hl] at h
      exact zbl hT hm un (hd f D hdf) (by have:=nb hl;rwa [vx] at this) (xcy (jbb un d D.fi.n) (jbb un d D.ci.n) k h),fun _ _ _ _ _ h _=>by simp[cAlg] at h⟩
theorem xdu(un d:Nat){f:FuncId}{args:List AV}{S:St}{q:Out→St→Bool}(h:(cAlg T fns dfs prim un d).call f args S q=true):jb P T f args S fun o S'=>q o S'=true:=
 (jbb hT hm hf hd hp un d 0).call f args S q _ h fun _ _ h=>h
end
end Go.AM
