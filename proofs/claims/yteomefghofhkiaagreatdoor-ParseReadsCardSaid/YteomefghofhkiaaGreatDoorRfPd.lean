/- The document's reader: calls and tests. -/
import Derived.Test.YteomefghofhkiaaGreatDoorRfPc
set_option maxRecDepth 100000
set_option maxHeartbeats 40000000
set_option linter.unusedVariables false
set_option linter.unusedSimpArgs false
namespace Go.AM.Rf
open Go.Proofs Go.AM.Ps Go.AM.W
theorem Rf.fn189:FnOk Tryz.prog 189 (fni Tryz.f189 Pr.a189):=⟨⟨Tryz.f189,Tryz.func189,rfl,rfl,rfl,by kernel_rfl⟩,by kernel_rfl⟩
noncomputable def c189_0:Code:=(fni Tryz.f189 Pr.a189).loop 0
theorem Rf.c189_0:qf 76 Pr.a189 c189_0=true:=by kernel_rfl
theorem jbp(K:Ex→Env→St→Prop)(env:Env)(S:St)(h:xg (pAlg Tryz.prog (Pr.tab real) 76) (Pr.tab real) Pr.a189 0 c189_0 (andThen (za Tryz.prog (Pr.tab real) 76 c189_0 K) K) env S):za Tryz.prog (Pr.tab real) 76 c189_0 K env S:=
 vc Pr.tabOk Pr.mixed Rf.c189_0 h
theorem jdu{t:List Tk}(tv:AV)(N:Nat){n:Nat}(hgot:∀ s,Lit tv N 24 [.str s] (got t s) .bool)(htot:∀ w,LitN tv N 190 [.str w] (total t n w))(F:Option (List UInt8)→M Nd)(hF:∀ w,F (some w)=total t n w)(K:Ex→Env→St→Prop)(Q:Nd→Nat→Bool→Prop)
 (hnone:∀(z:Nat) (b:Bool) (y:Int),y=z→z≤N→W (F none) z b Q→K (.exit 0) [(0,.ptr 0 0),(2,.ptr 1 0)] ⟨[(1,[.str [],.str [],.int .i64 0,.slice 0 [] .exact]),(0,[tv,.int .i64 y,.bool b])],2,[]⟩)
 (hret:∀(o s:List UInt8) (k:Int) (l:List Nd) (cl:List AV) (z:Nat) (b:Bool) (y:Int),Q (.mk o s k l) z b→cl=avL l→y=z→z≤N→K .ret [(2,.ptr 1 0)] ⟨[(1,[.str o,.str s,.int .i64 k,.slice 24 cl .no]),(0,[tv,.int .i64 y,.bool b])],2,[]⟩)
 (ws:List (List UInt8)) (wv:List AV) (hwv:wv=ws.map AV.str) (hw6:ws.length≤100) (rest:List (List UInt8)) :
 ∀(i:Nat) (yi:Int) (z:Nat) (b:Bool) (y:Int),ws.drop i=rest→i≤ws.length→yi=i→y=z→z≤N→W (bd (whichOf t rest) F) z b Q →
  za Tryz.prog (Pr.tab real) 76 c189_0 (Less K) [(0,.ptr 0 0),(2,.ptr 1 0),(3,.slice 9 wv .exact),(4,.int .i64 yi)] ⟨[(1,[.str [],.str [],.int .i64 0,.slice 0 [] .exact]),(0,[tv,.int .i64 y,.bool b])],2,[]⟩:=by
 induction rest with
 |nil=>
  intro i yi z b y hd hi hyi hy hz hK
  have hge:ws.length≤i:=by simpa using hd
  have hK:=hnone z b y hy hz (W.rb hK)
  apply jbp
  apply xb (mk:=Pr.tab)
  intro fail need same call loop len slen arith shift cmp conv eqS ltS cat app elt byt subS subL strOf isB fit inb cut room not and eqB avs G
  have hb:cmp BinOp.lss yi (len wv)=false:=by rw[G.cmp',G.len',hwv];simp[vb];omega
  generalize hL:za Tryz.prog (Pr.tab real) 76 c189_0 (Less K)=L
  generalize hK':Less K=K'
  cbv
  refine G.n' rfl ?_
  rw[hb]
  cbv
  rw[← hK']
  exact⟨[(0,.ptr 0 0),(2,.ptr 1 0)],(.cons rfl (.cons rfl (.nil _))),hK⟩
 |cons w rest ih=>
  intro i yi z b y hd hi hyi hy hz hK
  have hlt:i<ws.length:=by
   rcases Nat.lt_or_ge i ws.length with q|q
   ·exact q
   ·rw[List.drop_eq_nil_of_le q] at hd;cases hd
  have hw:ws[i]? =some w:=by
   have:=List.drop_eq_getElem_cons hlt
   rw[hd] at this
   injection this with h1 h2
   rw[List.getElem?_eq_getElem hlt,h1]
  have hd2:ws.drop (i+1)=rest:=by
   have:=List.drop_eq_getElem_cons hlt
   rw[hd] at this
   injection this with h1 h2
   exact h2.symm
  have ih:=fun z b y hy hz hK=>ih (i+1) (yi+1) z b y hd2 (by omega) (by omega) hy hz hK
  have hK:W (bd (got t w) fun ok=>bd (match ok with
   |true=>rt (some w)
   |false=>whichOf t rest) F) z b Q:=W.as hK
  apply jbp
  apply xb (mk:=Pr.tab)
  intro fail _ _ _ _ len _ arith _ cmp _ _ _ _ _ elt _ _ _ _ _ _ inb _ _ _ _ _ _ G
  have hb:cmp BinOp.lss yi (len wv)=true:=by rw[G.cmp',G.len',hwv];simp[vb];omega
  have hin:inb yi (len wv)=true:=by rw[G.inb',G.len',hwv];simp;omega
  have hel:elt wv yi= .str w:=by
   rw[G.elt',hwv];simp only[]
   rw[show yi.toNat=i by omega,List.getD_eq_getElem?_getD,List.getElem?_map,hw];rfl
  have hone:arith BinOp.add IntKind.i64 yi 1=yi+1:=by rw[G.arith'];exact wrap_i64 _ (by omega) (by omega)
  generalize hL:za Tryz.prog (Pr.tab real) 76 c189_0 (Less K)=L at ih ⊢
  generalize hK':Less K=K' at hL ⊢
  generalize yi+1=y1 at *
  clear hw hd hd2 hnone hwv hlt hi
  cbv
  refine G.n' rfl ?_
  rw[hb]
  cbv
  refine G.n' hin ?_
  rw[hel]
  refine G.c' (hgot _ _ _ _ _ _ hy rfl hz (nb rfl) (W.mono (W.bd hK) fun a z b hK hz y hy=>?_))
  cases a with
  |false=>
   have hgo:=ih z b y hy hz hK
   cbv
   refine G.n' rfl ?_
   rw[hone]
   subst hL
   exact za.weak (env':=[(0,.ptr 0 0),(2,.ptr 1 0),(3,.slice 9 wv .exact),(4,.int .i64 y1)]) (.cons rfl (.cons rfl (.cons rfl (.cons rfl (.nil _))))) hgo
  |true=>
   have hK:W (F (some w)) z b Q:=W.rb hK
   rw[hF] at hK
   clear ih
   cbv
   repeat' (first
    |(refine G.c' (htot _ _ _ _ _ _ hy rfl hz (nb rfl) (W.mono hK fun a z b hK hz y hy cl hcl=>?_));obtain⟨o,s,k,l⟩:=a;cbv)
    |(rw[hel];cbv)
    |refine G.n' hin ?_
    |(rw[← hK'];exact⟨[(2,.ptr 1 0)],(.cons rfl (.nil _)),hret _ _ _ _ _ _ _ _ hK hcl hy hz⟩)
    |fail)
theorem exprs_len{t:List Tk}{n:Nat}(hn:n≤1000000000)(a:List Nd)(z:Nat)(b:Bool)(z':Nat)(b':Bool)(h:exprs t n z b=some (a,z',b')):a.length≤2000000000:=by
 cases n with
 |zero=>cases h
 |succ n=>
  unfold exprs at h
  have:=qbz h
  omega
theorem vek{t:List Tk}(ht:Toks t)(hwd:Wd t){n:Nat}(hn:n≤1000000000)(he:Ok t 93 [] (expr t n) Nd.av)(hes:Ok t 124 [] (exprs t n) lav)(ht2:∀ w,Ok t 190 [.str w] (total t n w) Nd.av):Ok t 189 [] (call t (n+1)) Nd.av:=by
 refine Ok.of2 (fun _ _=>rfl) (fun a _ _=>zh _ _ a) fun tv htv z b y K hy hz hK=>?_
 unfold call at hK
 have hgot:=fun s=>(zj ht.len s).lit
 simp only[← htv] at hgot
 have hmust:=fun s=>(jm ht.len s).lit
 simp only[← htv] at hmust
 have hexpr:=he.litN
 rw[← htv] at hexpr
 have hexprs:=hes.litL
 rw[← htv] at hexprs
 have htot:=fun w=>(ht2 w).litN
 simp only[← htv] at htot
 have htyped:=(xcr ht).litN
 rw[← htv] at htyped
 have hcol:=(zbg ht hwd).litN
 rw[← htv] at hcol
 clear htv
 generalize t.length=N at *
 have hlen:=fun a z b z' b' h=>exprs_len (t:=t) hn a z b z' b' h
 apply ja (un:=0) Pr.tabOk Pr.mixed Rf.fn189 (nb rfl)
 apply qb (mk:=Pr.tab)
 intro fail _ _ _ _ _ _ _ _ _ _ _ _ _ _ _ _ _ _ _ _ _ _ _ _ not _ _ _ G
 have hnt:=G.not2
 cbv
 refine G.n' rfl ?_
 refine G.l' ?_
 change za Tryz.prog (Pr.tab real) 76 c189_0 _ _ _
 refine za.relax (za.weak (env':=[(0,.ptr 0 0),(2,.ptr 1 0),(3,.slice 9 [.str k_count,.str jcl,.str vcl,.str ycl] .exact),(4,.int .i64 0)]) (.cons rfl (.cons rfl (.cons rfl (.cons rfl (.nil _))))) (jdu (t:=t) tv N  hgot htot _ (fun _=>rfl) _ (FinL tv N Nd.av K) (fun z b y hy hz hK=>?_) (fun o s k l cl z b y hK hcl hy hz=>?_) [k_count,jcl,vcl,ycl] _ rfl (by decide) [k_count,jcl,vcl,ycl] 0 0 _ _ _ rfl (Nat.zero_le _) rfl hy hz hK))
 ·cbv
  repeat' (first
   |(refine G.c' (hgot _ _ _ _ _ _ hy rfl hz (nb rfl) (W.mono (W.bd hK) fun a z b hK hz y hy=>?_));cases a<;>cbv)
   |(refine G.c' (hmust _ _ _ _ _ _ hy rfl hz (nb rfl) (W.mono (W.bd hK) fun a z b hK hz y hy=>?_));cbv)
   |(refine G.c' (hexpr _ _ _ _ _ hy rfl hz (nb rfl) (W.mono (W.bd hK) fun a z b hK hz y hy cl hcl=>?_));obtain⟨o,s,k,l⟩:=a;cbv)
   |(refine G.c' (htyped _ _ _ _ _ hy rfl hz (nb rfl) (W.mono (W.bd hK) fun a z b hK hz y hy cl hcl=>?_));obtain⟨o,s,k,l⟩:=a;cbv)
   |(refine G.c' (hcol _ _ _ _ _ hy rfl hz (nb rfl) (W.mono hK fun a z b hK hz y hy cl hcl=>?_));obtain⟨o,s,k,l⟩:=a;cbv)
   |(refine G.c' (va [.mk _ _ _ _,.mk _ _ _ _] (by subst_vars;exact rfl) (.inl rfl) (by simp) fun cl hcl=>?_);cbv)
   |(refine G.c' (hexprs _ _ _ _ _ hy rfl hz (nb rfl) (W.mono (W.with (W.bd hK) fun a z' b' h=>hlen a z _ z' b' h) fun a z b hK hz y hy cl hcl=>?_));obtain⟨hne,hK⟩:=hK;cbv)
   |(refine G.c' (va _ hcl (.inl rfl) (by exact hne) fun cl hcl=>?_);cbv)
   |exact(W.rt hK).go hy hz (yd (by subst_vars;exact rfl)) rfl (nb rfl)
   |exact FinL.go hK hy hz (yd (by subst_vars;exact rfl)) rfl (nb rfl)
   |refine G.n' rfl ?_
   |fail)
 ·cbv
  exact FinL.go hK hy hz (yd hcl) rfl (nb rfl)
theorem Rf.fn154:FnOk Tryz.prog 154 (fni Tryz.f154 Pr.a154):=⟨⟨Tryz.f154,Tryz.func154,rfl,rfl,rfl,by kernel_rfl⟩,by kernel_rfl⟩
noncomputable def c154_0:Code:=(fni Tryz.f154 Pr.a154).loop 0
theorem Rf.c154_0:qf 111 Pr.a154 c154_0=true:=by kernel_rfl
theorem vbp(K:Ex→Env→St→Prop)(env:Env)(S:St)(h:xg (pAlg Tryz.prog (Pr.tab real) 111) (Pr.tab real) Pr.a154 0 c154_0 (andThen (za Tryz.prog (Pr.tab real) 111 c154_0 K) K) env S):za Tryz.prog (Pr.tab real) 111 c154_0 K env S:=
 vc Pr.tabOk Pr.mixed Rf.c154_0 h
theorem ycz{t:List Tk}(tv:AV)(N:Nat){n:Nat}(o0 s0:List UInt8)(k0:Int)(l0:List Nd)(cl0:List AV)(hcl0:cl0=avL l0)(hgot:∀ s,Lit tv N 24 [.str s] (got t s) .bool)(hcmp:∀ w,LitN tv N 165 [.str w,.agg [.str o0,.str s0,.int .i64 k0,.slice 24 cl0 .no]] (compared t n w (.mk o0 s0 k0 l0)))(F:Option (List UInt8)→M Nd)(hF:∀ w,F (some w)=compared t n w (.mk o0 s0 k0 l0))(K:Ex→Env→St→Prop)(Q:Nd→Nat→Bool→Prop)
 (hnone:∀(z:Nat) (b:Bool) (y:Int),y=z→z≤N→W (F none) z b Q→K (.exit 0) [(0,.ptr 0 0),(2,.ptr 1 0),(3,.ptr 2 0)] ⟨[(2,[.str o0,.str s0,.int .i64 k0,.slice 24 cl0 .no]),(1,[.str [],.str [],.int .i64 0,.slice 0 [] .exact]),(0,[tv,.int .i64 y,.bool b])],3,[]⟩)
 (hret:∀(o s:List UInt8) (k:Int) (l:List Nd) (cl:List AV) (z:Nat) (b:Bool) (y:Int),Q (.mk o s k l) z b→cl=avL l→y=z→z≤N→K .ret [(2,.ptr 1 0)] ⟨[(2,[.str o0,.str s0,.int .i64 k0,.slice 24 cl0 .no]),(1,[.str o,.str s,.int .i64 k,.slice 24 cl .no]),(0,[tv,.int .i64 y,.bool b])],3,[]⟩)
 (ws:List (List UInt8)) (wv:List AV) (hwv:wv=ws.map AV.str) (hw6:ws.length≤100) (rest:List (List UInt8)) :
 ∀(i:Nat) (yi:Int) (z:Nat) (b:Bool) (y:Int),ws.drop i=rest→i≤ws.length→yi=i→y=z→z≤N→W (bd (whichOf t rest) F) z b Q →
  za Tryz.prog (Pr.tab real) 111 c154_0 (Less K) [(0,.ptr 0 0),(2,.ptr 1 0),(3,.ptr 2 0),(4,.slice 9 wv .exact),(5,.int .i64 yi)] ⟨[(2,[.str o0,.str s0,.int .i64 k0,.slice 24 cl0 .no]),(1,[.str [],.str [],.int .i64 0,.slice 0 [] .exact]),(0,[tv,.int .i64 y,.bool b])],3,[]⟩:=by
 induction rest with
 |nil=>
  intro i yi z b y hd hi hyi hy hz hK
  have hge:ws.length≤i:=by simpa using hd
  have hK:=hnone z b y hy hz (W.rb hK)
  apply vbp
  apply xb (mk:=Pr.tab)
  intro fail need same call loop len slen arith shift cmp conv eqS ltS cat app elt byt subS subL strOf isB fit inb cut room not and eqB avs G
  have hb:cmp BinOp.lss yi (len wv)=false:=by rw[G.cmp',G.len',hwv];simp[vb];omega
  generalize hL:za Tryz.prog (Pr.tab real) 111 c154_0 (Less K)=L
  generalize hK':Less K=K'
  cbv
  refine G.n' rfl ?_
  rw[hb]
  cbv
  rw[← hK']
  exact⟨[(0,.ptr 0 0),(2,.ptr 1 0),(3,.ptr 2 0)],(.cons rfl (.cons rfl (.cons rfl (.nil _)))),hK⟩
 |cons w rest ih=>
  intro i yi z b y hd hi hyi hy hz hK
  have hlt:i<ws.length:=by
   rcases Nat.lt_or_ge i ws.length with q|q
   ·exact q
   ·rw[List.drop_eq_nil_of_le q] at hd;cases hd
  have hw:ws[i]? =some w:=by
   have:=List.drop_eq_getElem_cons hlt
   rw[hd] at this
   injection this with h1 h2
   rw[List.getElem?_eq_getElem hlt,h1]
  have hd2:ws.drop (i+1)=rest:=by
   have:=List.drop_eq_getElem_cons hlt
   rw[hd] at this
   injection this with h1 h2
   exact h2.symm
  have ih:=fun z b y hy hz hK=>ih (i+1) (yi+1) z b y hd2 (by omega) (by omega) hy hz hK
  have hK:W (bd (got t w) fun ok=>bd (match ok with
   |true=>rt (some w)
   |false=>whichOf t rest) F) z b Q:=W.as hK
  apply vbp
  apply xb (mk:=Pr.tab)
  intro fail _ _ _ _ len _ arith _ cmp _ _ _ _ _ elt _ _ _ _ _ _ inb _ _ _ _ _ _ G
  have hb:cmp BinOp.lss yi (len wv)=true:=by rw[G.cmp',G.len',hwv];simp[vb];omega
  have hin:inb yi (len wv)=true:=by rw[G.inb',G.len',hwv];simp;omega
  have hel:elt wv yi= .str w:=by
   rw[G.elt',hwv];simp only[]
   rw[show yi.toNat=i by omega,List.getD_eq_getElem?_getD,List.getElem?_map,hw];rfl
  have hone:arith BinOp.add IntKind.i64 yi 1=yi+1:=by rw[G.arith'];exact wrap_i64 _ (by omega) (by omega)
  generalize hL:za Tryz.prog (Pr.tab real) 111 c154_0 (Less K)=L at ih ⊢
  generalize hK':Less K=K' at hL ⊢
  generalize yi+1=y1 at *
  clear hw hd hd2 hnone hwv hlt hi
  cbv
  refine G.n' rfl ?_
  rw[hb]
  cbv
  refine G.n' hin ?_
  rw[hel]
  refine G.c' (hgot _ _ _ _ _ _ hy rfl hz (nb rfl) (W.mono (W.bd hK) fun a z b hK hz y hy=>?_))
  cases a with
  |false=>
   have hgo:=ih z b y hy hz hK
   cbv
   refine G.n' rfl ?_
   rw[hone]
   subst hL
   exact za.weak (env':=[(0,.ptr 0 0),(2,.ptr 1 0),(3,.ptr 2 0),(4,.slice 9 wv .exact),(5,.int .i64 y1)]) (.cons rfl (.cons rfl (.cons rfl (.cons rfl (.cons rfl (.nil _)))))) hgo
  |true=>
   have hK:W (F (some w)) z b Q:=W.rb hK
   rw[hF] at hK
   clear ih
   cbv
   repeat' (first
    |(refine G.c' (hcmp _ _ _ _ _ _ hy rfl hz (nb rfl) (W.mono hK fun a z b hK hz y hy cl hcl=>?_));obtain⟨o,s,k,l⟩:=a;cbv)
    |(rw[hel];cbv)
    |refine G.n' hin ?_
    |(rw[← hK'];exact⟨[(2,.ptr 1 0)],(.cons rfl (.nil _)),hret _ _ _ _ _ _ _ _ hK hcl hy hz⟩)
    |fail)
noncomputable def c154_1:Code:=(fni Tryz.f154 Pr.a154).loop 1
theorem Rf.c154_1:qf 111 Pr.a154 c154_1=true:=by kernel_rfl
theorem xbp(K:Ex→Env→St→Prop)(env:Env)(S:St)(h:xg (pAlg Tryz.prog (Pr.tab real) 111) (Pr.tab real) Pr.a154 0 c154_1 (andThen (za Tryz.prog (Pr.tab real) 111 c154_1 K) K) env S):za Tryz.prog (Pr.tab real) 111 c154_1 K env S:=
 vc Pr.tabOk Pr.mixed Rf.c154_1 h
theorem vcz{t:List Tk}(tv:AV)(N:Nat)(o0 s0:List UInt8)(k0:Int)(l0:List Nd)(cl0:List AV)(hcl0:cl0=avL l0)(no:Bool)(hgot:∀ s,Lit tv N 24 [.str s] (got t s) .bool)(F:Option (List UInt8)→M Nd)(hF:∀ w,F (some w)=rt (turned no (.mk k_is w 0 [.mk o0 s0 k0 l0])))(K:Ex→Env→St→Prop)(Q:Nd→Nat→Bool→Prop)
 (hnone:∀(z:Nat) (b:Bool) (y:Int),y=z→z≤N→W (F none) z b Q→K (.exit 2) [(0,.ptr 0 0),(2,.ptr 1 0),(3,.ptr 2 0)] ⟨[(2,[.str o0,.str s0,.int .i64 k0,.slice 24 cl0 .no]),(1,[.str [],.str [],.int .i64 0,.slice 0 [] .exact]),(0,[tv,.int .i64 y,.bool b])],3,[]⟩)
 (hret:∀(o s:List UInt8) (k:Int) (l:List Nd) (cl:List AV) (z:Nat) (b:Bool) (y:Int),Q (.mk o s k l) z b→cl=avL l→y=z→z≤N→K .ret [(2,.ptr 1 0)] ⟨[(2,[.str o0,.str s0,.int .i64 k0,.slice 24 cl0 .no]),(1,[.str o,.str s,.int .i64 k,.slice 24 cl .no]),(0,[tv,.int .i64 y,.bool b])],3,[]⟩)
 (ws:List (List UInt8)) (wv:List AV) (hwv:wv=ws.map AV.str) (hw6:ws.length≤100) (rest:List (List UInt8)) :
 ∀(i:Nat) (yi:Int) (z:Nat) (b:Bool) (y:Int),ws.drop i=rest→i≤ws.length→yi=i→y=z→z≤N→W (bd (whichOf t rest) F) z b Q →
  za Tryz.prog (Pr.tab real) 111 c154_1 (Less K) [(0,.ptr 0 0),(2,.ptr 1 0),(3,.ptr 2 0),(6,.bool no),(7,.slice 9 wv .exact),(8,.int .i64 yi)] ⟨[(2,[.str o0,.str s0,.int .i64 k0,.slice 24 cl0 .no]),(1,[.str [],.str [],.int .i64 0,.slice 0 [] .exact]),(0,[tv,.int .i64 y,.bool b])],3,[]⟩:=by
 induction rest with
 |nil=>
  intro i yi z b y hd hi hyi hy hz hK
  have hge:ws.length≤i:=by simpa using hd
  have hK:=hnone z b y hy hz (W.rb hK)
  apply xbp
  apply xb (mk:=Pr.tab)
  intro fail need same call loop len slen arith shift cmp conv eqS ltS cat app elt byt subS subL strOf isB fit inb cut room not and eqB avs G
  have hb:cmp BinOp.lss yi (len wv)=false:=by rw[G.cmp',G.len',hwv];simp[vb];omega
  generalize hL:za Tryz.prog (Pr.tab real) 111 c154_1 (Less K)=L
  generalize hK':Less K=K'
  cbv
  refine G.n' rfl ?_
  rw[hb]
  cbv
  rw[← hK']
  exact⟨[(0,.ptr 0 0),(2,.ptr 1 0),(3,.ptr 2 0)],(.cons rfl (.cons rfl (.cons rfl (.nil _)))),hK⟩
 |cons w rest ih=>
  intro i yi z b y hd hi hyi hy hz hK
  have hlt:i<ws.length:=by
   rcases Nat.lt_or_ge i ws.length with q|q
   ·exact q
   ·rw[List.drop_eq_nil_of_le q] at hd;cases hd
  have hw:ws[i]? =some w:=by
   have:=List.drop_eq_getElem_cons hlt
   rw[hd] at this
   injection this with h1 h2
   rw[List.getElem?_eq_getElem hlt,h1]
  have hd2:ws.drop (i+1)=rest:=by
   have:=List.drop_eq_getElem_cons hlt
   rw[hd] at this
   injection this with h1 h2
   exact h2.symm
  have ih:=fun z b y hy hz hK=>ih (i+1) (yi+1) z b y hd2 (by omega) (by omega) hy hz hK
  have hK:W (bd (got t w) fun ok=>bd (match ok with
   |true=>rt (some w)
   |false=>whichOf t rest) F) z b Q:=W.as hK
  apply xbp
  apply xb (mk:=Pr.tab)
  intro fail _ _ _ _ len _ arith _ cmp _ _ _ _ _ elt _ _ _ _ _ _ inb _ _ _ _ _ _ G
  have hb:cmp BinOp.lss yi (len wv)=true:=by rw[G.cmp',G.len',hwv];simp[vb];omega
  have hin:inb yi (len wv)=true:=by rw[G.inb',G.len',hwv];simp;omega
  have hel:elt wv yi= .str w:=by
   rw[G.elt',hwv];simp only[]
   rw[show yi.toNat=i by omega,List.getD_eq_getElem?_getD,List.getElem?_map,hw];rfl
  have hone:arith BinOp.add IntKind.i64 yi 1=yi+1:=by rw[G.arith'];exact wrap_i64 _ (by omega) (by omega)
  generalize hL:za Tryz.prog (Pr.tab real) 111 c154_1 (Less K)=L at ih ⊢
  generalize hK':Less K=K' at hL ⊢
  generalize yi+1=y1 at *
  clear hw hd hd2 hnone hwv hlt hi
  cbv
  refine G.n' rfl ?_
  rw[hb]
  cbv
  refine G.n' hin ?_
  rw[hel]
  refine G.c' (hgot _ _ _ _ _ _ hy rfl hz (nb rfl) (W.mono (W.bd hK) fun a z b hK hz y hy=>?_))
  cases a with
  |false=>
   have hgo:=ih z b y hy hz hK
   cbv
   refine G.n' rfl ?_
   rw[hone]
   subst hL
   exact za.weak (env':=[(0,.ptr 0 0),(2,.ptr 1 0),(3,.ptr 2 0),(6,.bool no),(7,.slice 9 wv .exact),(8,.int .i64 y1)]) (.cons rfl (.cons rfl (.cons rfl (.cons rfl (.cons rfl (.cons rfl (.nil _))))))) hgo
  |true=>
   have hK:W (F (some w)) z b Q:=W.rb hK
   rw[hF] at hK
   clear ih
   cbv
   repeat' (first
    |(refine G.c' (va [.mk _ _ _ _] (by subst_vars;exact rfl) (.inl rfl) (by simp) fun cl hcl=>?_);cbv)
    |(refine G.c' (at_turned hcl fun cl hcl=>?_);revert hK hcl;generalize turned no (.mk k_is w 0 [.mk o0 s0 k0 l0])=tn;intro hK hcl;obtain⟨o,s,k,l⟩:=tn;cbv)
    |(rw[hel];cbv)
    |refine G.n' hin ?_
    |(rw[← hK'];exact⟨[(2,.ptr 1 0)],(.cons rfl (.nil _)),hret _ _ _ _ _ _ _ _ (W.rt hK) hcl hy hz⟩)
    |refine G.n' rfl ?_
    |fail)
end Go.AM.Rf
namespace Go.AM.Rf
open Go.Proofs Go.AM.Ps Go.AM.W
theorem vej{t:List Tk}(ht:Toks t){n:Nat}(hs:Ok t 164 [] (sum t n) Nd.av)(hc:∀ w o0 s0 k0 l0 cl0,cl0=avL l0→Ok t 165 [.str w,.agg [.str o0,.str s0,.int .i64 k0,.slice 24 cl0 .no]] (compared t n w (.mk o0 s0 k0 l0)) Nd.av)
 (hi:∀ o0 s0 k0 l0 cl0,cl0=avL l0→Ok t 167 [.agg [.str o0,.str s0,.int .i64 k0,.slice 24 cl0 .no]] (inE t n (.mk o0 s0 k0 l0)) Nd.av):Ok t 154 [] (test t (n+1)) Nd.av:=by
 refine Ok.of2 (fun _ _=>rfl) (fun a _ _=>zh _ _ a) fun tv htv z b y K hy hz hK=>?_
 unfold test at hK
 have hgot:=fun s=>(zj ht.len s).lit
 simp only[← htv] at hgot
 have hmust:=fun s=>(jm ht.len s).lit
 simp only[← htv] at hmust
 have hsum:=hs.litN
 rw[← htv] at hsum
 have hcmp:=fun w o0 s0 k0 l0 cl0 h=>(hc w o0 s0 k0 l0 cl0 h).litN
 simp only[← htv] at hcmp
 have hin:=fun o0 s0 k0 l0 cl0 h=>(hi o0 s0 k0 l0 cl0 h).litN
 simp only[← htv] at hin
 clear htv
 generalize t.length=N at *
 apply ja (un:=0) Pr.tabOk Pr.mixed Rf.fn154 (nb rfl)
 apply qb (mk:=Pr.tab)
 intro fail _ _ _ _ _ _ _ _ _ _ _ _ _ _ _ _ _ _ _ _ _ _ _ _ not _ _ _ G
 have hnt:=G.not2
 cbv
 refine G.c' (hsum _ _ _ _ _ hy rfl hz (nb rfl) (W.mono (W.bd hK) fun a z b hK hz y hy cl hcl=>?_))
 obtain⟨o,s,k,l⟩:=a
 cbv
 refine G.n' rfl ?_
 refine G.l' ?_
 change za Tryz.prog (Pr.tab real) 111 c154_0 _ _ _
 refine za.relax (za.weak (env':=[(0,.ptr 0 0),(2,.ptr 1 0),(3,.ptr 2 0),(4,.slice 9 [.str g_eq,.str g_ne,.str g_lt,.str g_le,.str g_gt,.str g_ge] .exact),(5,.int .i64 0)]) (.cons rfl (.cons rfl (.cons rfl (.cons rfl (.cons rfl (.nil _)))))) (ycz (t:=t) tv N o s k l cl hcl hgot (fun w=>hcmp w _ _ _ _ _ hcl) _ (fun _=>rfl) _ (FinL tv N Nd.av K) (fun z b y hy hz hK=>?_) (fun o s k l cl z b y hK hcl hy hz=>?_) [g_eq,g_ne,g_lt,g_le,g_gt,g_ge] _ rfl (by decide) [g_eq,g_ne,g_lt,g_le,g_gt,g_ge] 0 0 _ _ _ rfl (Nat.zero_le _) rfl hy hz hK))
 ·cbv
  refine G.c' (hgot _ _ _ _ _ _ hy rfl hz (nb rfl) (W.mono (W.bd hK) fun a z b hK hz y hy=>?_))
  cases a with
  |true=>
   cbv
   refine G.c' (hgot _ _ _ _ _ _ hy rfl hz (nb rfl) (W.mono (W.bd hK) fun no z b hK hz y hy=>?_))
   cbv
   refine G.n' rfl ?_
   refine G.l' ?_
   change za Tryz.prog (Pr.tab real) 111 c154_1 _ _ _
   refine za.relax (za.weak (env':=[(0,.ptr 0 0),(2,.ptr 1 0),(3,.ptr 2 0),(6,.bool no),(7,.slice 9 [.str jy,.str qaw,.str jaj,.str zal] .exact),(8,.int .i64 0)]) (.cons rfl (.cons rfl (.cons rfl (.cons rfl (.cons rfl (.cons rfl (.nil _))))))) (vcz (t:=t) tv N o s k l cl hcl no hgot _ (fun _=>rfl) _ (FinL tv N Nd.av K) (fun z b y hy hz hK=>?_) (fun o s k l cl z b y hK hcl hy hz=>?_) [jy,qaw,jaj,zal] _ rfl (by decide) [jy,qaw,jaj,zal] 0 0 _ _ _ rfl (Nat.zero_le _) rfl hy hz hK))
   ·cbv
    exact(W.badrt hK).go hy hz (yd (by subst_vars;exact rfl)) rfl (nb rfl)
   ·cbv
    exact FinL.go hK hy hz (yd hcl) rfl (nb rfl)
  |false=>
  cbv
  refine G.c' (hgot _ _ _ _ _ _ hy rfl hz (nb rfl) (W.mono (W.bd hK) fun no z b hK hz y hy=>?_))
  cbv
  repeat' (first
   |(refine G.c' (hgot _ _ _ _ _ _ hy rfl hz (nb rfl) (W.mono (W.bd hK) fun a z b hK hz y hy=>?_));cases a<;>cbv)
   |(refine G.c' (hmust _ _ _ _ _ _ hy rfl hz (nb rfl) (W.mono (W.bd hK) fun a z b hK hz y hy=>?_));cbv)
   |(refine G.c' (hsum _ _ _ _ _ hy rfl hz (nb rfl) (W.mono (W.bd hK) fun a z b hK hz y hy cl hcl=>?_));obtain⟨o,s,k,l⟩:=a;cbv)
   |(refine G.c' (hin _ _ _ _ _ (by assumption) _ _ _ _ _ hy rfl hz (nb rfl) (W.mono (W.bd hK) fun a z b hK hz y hy cl hcl=>?_));obtain⟨o,s,k,l⟩:=a;cbv)
   |(refine G.c' (va [.mk _ _ _ _,.mk _ _ _ _] (by subst_vars;exact rfl) (.inl rfl) (by simp) fun cl hcl=>?_);cbv)
   |(refine G.c' (va [.mk _ _ _ _,.mk _ _ _ _,.mk _ _ _ _] (by subst_vars;exact rfl) (.inl rfl) (by simp) fun cl hcl=>?_);cbv)
   |(cases no<;>(refine G.c' (at_turned hcl fun cl hcl=>?_);cbv))
   |exact(W.rt hK).go hy hz (yd (by subst_vars;exact rfl)) rfl (nb rfl)
   |refine G.n' rfl ?_
   |refine G.s' rfl ?_
   |fail)
  all_goals (cases b<;>cases no<;>(cbv;first
   |exact(W.rt hK).go hy hz (yd (by subst_vars;exact rfl)) rfl (nb rfl)))
 ·cbv
  exact FinL.go hK hy hz (yd hcl) rfl (nb rfl)
end Go.AM.Rf
