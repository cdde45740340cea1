/- The document's reader: signs, lists, comparisons, types. -/
import Derived.Test.YteomefghofhkiaaGreatDoorRfPb
set_option maxRecDepth 100000
set_option maxHeartbeats 40000000
set_option linter.unusedVariables false
set_option linter.unusedSimpArgs false
namespace Go.AM.Rf
open Go.Proofs Go.AM.Ps Go.AM.W
theorem Rf.fn91:FnOk Tryz.prog 91 (fni Tryz.f91 Pr.a91):=⟨⟨Tryz.f91,Tryz.func91,rfl,rfl,rfl,by kernel_rfl⟩,by kernel_rfl⟩
noncomputable def c91:Code:=(fni Tryz.f91 Pr.a91).loop 0
theorem Rf.c91:qf 21 Pr.a91 c91=true:=by kernel_rfl
theorem vep(K:Ex→Env→St→Prop)(env:Env)(S:St)(h:xg (pAlg Tryz.prog (Pr.tab real) 21) (Pr.tab real) Pr.a91 0 c91 (andThen (za Tryz.prog (Pr.tab real) 21 c91 K) K) env S):za Tryz.prog (Pr.tab real) 21 c91 K env S:=
 vc Pr.tabOk Pr.mixed Rf.c91 h
theorem opens_loop{t:List Tk}(tv:AV)(N:Nat)(hN:N≤600)(hNt:N=t.length)(his:∀(on:Nat) (y0:Int) s,y0=on→on≤1000→Lit tv N 50 [.int .i64 y0,.str s] (isT t on s) .bool)(K:Ex→Env→St→Prop)(m:Nat) :
 ∀(z:Nat) (b:Bool) (y:Int) (k:Nat) (yk:Int),y=z→z≤N→yk=k→z+k≤N →
  W (pars t m k) z b (fun a z' b'=>z'≤N→a≤N→∀(y' ya:Int),y'=z'→ya=a→K (.exit 0) [(0,.ptr 0 0),(3,.int .i64 ya)] ⟨[(0,[tv,.int .i64 y',.bool b'])],1,[]⟩) →
  za Tryz.prog (Pr.tab real) 21 c91 (Less K) [(0,.ptr 0 0),(3,.int .i64 yk)] ⟨[(0,[tv,.int .i64 y,.bool b])],1,[]⟩:=by
 induction m with
 |zero=>
  intro z b y k yk _ _ _ _ hK
  obtain⟨_,_,_,h,_⟩:=hK
  cases h
 |succ m ih=>
  intro z b y k yk hy hz hyk hk hK
  have hi:=his k yk g_par hyk (by omega)
  have hnext:∀(z:Nat) (b:Bool) (y:Int),y=z→z≤N→(!b && sees t (z+k) g_par)=true→W (pars t m (k+1)) z b _→_:=fun z b y hy hz hs hK=>ih z b y (k+1) (yk+1) hy hz (by omega) (by
   simp only[Bool.and_eq_true] at hs
   have:=ybw hs.2
   omega) hK
  obtain⟨q,hq⟩:∃ q,(!b && sees t (z+k) g_par)=q:=⟨_,rfl⟩
  have hK:=W.bd hK
  obtain⟨a,z',b',hm,hK⟩:=hK
  obtain⟨rfl,rfl,rfl⟩:_∧_∧_:=by simpa[isT] using hm
  rw[hq] at hK
  have hcall:∀(S:St) (K:Out→St→Prop),S.row 0=[tv,.int .i64 y,.bool b]→0<S.next→K (.ret (.bool q)) (S.set 0 [tv,.int .i64 y,.bool b])→jb Tryz.prog (Pr.tab real) 50 [.ptr 0 0,.int .i64 yk,.str [40]] S K:=fun S K hr hn hK=>
   hi z b y S K hy hr hz hn ⟨_,_,_,rfl,fun _ y' hy'=>by
    obtain rfl:y'=y:=by omega
    rw[hq];exact hK⟩
  have hnext:=fun h hK=>hnext z b y hy hz (hq.trans h) hK
  clear hi his ih hm hq
  apply vep
  apply xb (mk:=Pr.tab)
  intro _ _ _ _ _ _ _ arith _ _ _ _ _ _ _ _ _ _ _ _ _ _ _ _ _ not _ _ _ G
  have hnt:=G.not2
  have hone:arith BinOp.add IntKind.i64 yk 1=yk+1:=by rw[G.arith'];exact wrap_i64 _ (by omega) (by omega)
  generalize hL:za Tryz.prog (Pr.tab real) 21 c91 (Less K)=L at hnext ⊢
  generalize hK':Less K=K' at hL ⊢
  generalize yk+1=y1 at *
  cbv
  refine G.c' (hcall _ _ rfl (nb rfl) ?_)
  cbv
  rw[hnt]
  cases q with
  |false=>
   cbv
   rw[← hK']
   exact⟨[(0,.ptr 0 0),(3,.int .i64 yk)],(.cons rfl (.cons rfl (.nil _))),(W.rt hK) hz (by omega) _ _ hy hyk⟩
  |true=>
   have hgo:=hnext rfl hK
   cbv
   refine G.n' rfl ?_
   rw[hone]
   subst hL
   exact za.weak (env':=[(0,.ptr 0 0),(3,.int .i64 y1)]) (.cons rfl (.cons rfl (.nil _))) hgo
theorem vba{t:List Tk}(ht:Toks t)(n:Nat):Ok t 91 [] (opens t n) .bool:=by
 refine Ok.of2 (fun _ _=>rfl) (fun _ _ _=>rfl) fun tv htv z b y K hy hz hK=>?_
 have his:=fun(on:Nat) (y0:Int) s (h0:y0=on) (h1:on≤1000)=>(zby ht.len on y0 h0 h1 s).lit
 simp only[← htv] at his
 clear htv
 have hl6:=ht.len
 obtain⟨N,hN⟩:∃ N,N=t.length:=⟨_,rfl⟩
 rw[← hN] at hl6 hz his hK
 have hloop:=opens_loop (t:=t) tv N hl6 hN his
 apply ja (un:=0) Pr.tabOk Pr.mixed Rf.fn91 (nb rfl)
 apply qb (mk:=Pr.tab)
 intro _ _ _ _ _ _ _ _ _ cmp _ _ _ _ _ _ _ _ _ _ _ _ _ _ _ _ _ _ _ G
 have hgt:∀(a:Nat) (ya:Int),ya=a→cmp BinOp.gtr ya 0=decide (0<a):=fun a ya h=>by
  rw[G.cmp',h];simp only[vb];rw[Bool.eq_iff_iff];simp only[decide_eq_true_eq];omega
 cbv
 refine G.l' ?_
 change za Tryz.prog (Pr.tab real) 21 c91 _ _ _
 refine za.relax (za.weak (env':=[(0,.ptr 0 0),(3,.int .i64 0)]) (.cons rfl (.cons rfl (.nil _))) (hloop _ _ _ _ _ 0 0 hy hz rfl (by omega) (W.mono (W.bd hK) fun a z b hK hz ha y ya hy hya=>?_)))
 have hi:=his a ya zn hya (by omega)
 have hg:=hgt a ya hya
 clear hloop his hgt
 cbv
 refine G.c' (hi _ _ _ _ _ hy rfl hz (nb rfl) (W.mono (W.bd hK) fun q z b hK hz y hy=>?_))
 cbv
 refine G.n' rfl ?_
 rw[hg]
 generalize decide (0<a)=d at *
 cases d<;>cases q<;>(cbv;exact(W.rt hK).go hy hz (Sub.refl _ _) rfl (nb rfl))
theorem Rf.fn166:FnOk Tryz.prog 166 (fni Tryz.f166 Pr.a166):=⟨⟨Tryz.f166,Tryz.func166,rfl,rfl,rfl,by kernel_rfl⟩,by kernel_rfl⟩
theorem jcz(no:Bool)(o s:List UInt8)(k:Int)(l:List Nd)(K:Out→St→Prop)(hK:∀ v S,Sub (Pr.tab real) v (turned no (.mk o s k l)).av→K (.ret v) S):jb Tryz.prog (Pr.tab real) 166 [.bool no,.agg [.str o,.str s,.int .i64 k,.slice 24 (avL l) .no]] St.nil K:=by
 obtain⟨cl,hcl⟩:∃ cl,cl=avL l:=⟨_,rfl⟩
 rw[← hcl]
 have h1:no=true→∀ cl2 S,cl2=avL [.mk o s k l]→K (.ret (.agg [.str qah,.str [],.int .i64 0,.slice 24 cl2 .no])) S:=fun h cl2 S h2=>by
  subst h
  exact hK _ _ (yd h2)
 have h0:no=false→∀ S,K (.ret (.agg [.str o,.str s,.int .i64 k,.slice 24 cl .no])) S:=fun h S=>by
  subst h
  exact hK _ _ (yd hcl)
 clear hK
 apply ja (un:=0) Pr.tabOk Pr.mixed Rf.fn166 (nb rfl)
 apply qb (mk:=Pr.tab)
 intro _ _ _ _ _ _ _ _ _ _ _ _ _ _ _ _ _ _ _ _ _ _ _ _ _ _ _ _ _ G
 cbv
 cases no with
 |true=>
  cbv
  refine G.n' rfl (G.c' (va [.mk o s k l] (by subst hcl;exact rfl) (.inl rfl) (by simp) fun cl2 hcl2=>?_))
  cbv
  exact h1 rfl _ _ hcl2
 |false=>
  cbv
  exact h0 rfl _
theorem at_turned{no:Bool}{o s:List UInt8}{k:Int}{l:List Nd}{cl:List AV}(hcl:cl=avL l){S:St}{K:Out→St→Prop}(hK:∀ cl2,cl2=avL (ndL (turned no (.mk o s k l)))→K (.ret (.agg [.str (ndOp (turned no (.mk o s k l))),.str (ndS (turned no (.mk o s k l))),.int .i64 (ndN (turned no (.mk o s k l))),.slice 24 cl2 .no])) S) :
 jb Tryz.prog (Pr.tab real) 166 [.bool no,.agg [.str o,.str s,.int .i64 k,.slice 24 cl .no]] S K:=by
 refine ja1 (K0:=fun out _=>out= .ret (turned no (.mk o s k l)).av) ?_ (by
  rintro o' S0 rfl
  simp only[Out.ren,zh]
  rw[qev]
  exact hK _ rfl)
 rw[hcl]
 have hr:renL (fun _=>none) (fun _=>none) [AV.bool no,.agg [.str o,.str s,.int .i64 k,.slice 24 (avL l) .no]]=[AV.bool no,.agg [.str o,.str s,.int .i64 k,.slice 24 (avL l) .no]]:=rfl
 rw[hr]
 exact jb.sub (jcz no o s k l _ fun v S hv=>⟨_,.ret _ _ hv,rfl⟩)
theorem Rf.fn140:FnOk Tryz.prog 140 (fni Tryz.f140 Pr.a140):=⟨⟨Tryz.f140,Tryz.func140,rfl,rfl,rfl,by kernel_rfl⟩,by kernel_rfl⟩
theorem qeu{t:List Tk}(ht:Toks t){n:Nat}(hn:Ok t 140 [] (notE t n) Nd.av)(hp:Ok t 154 [] (test t n) Nd.av):Ok t 140 [] (notE t (n+1)) Nd.av:=by
 refine Ok.of2 (fun _ _=>rfl) (fun a _ _=>zh _ _ a) fun tv htv z b y K hy hz hK=>?_
 unfold notE at hK
 have hgot:=fun s=>(zj ht.len s).lit
 simp only[← htv] at hgot
 have hn:=hn.litN
 rw[← htv] at hn
 have hp:=hp.litN
 rw[← htv] at hp
 have hl6:=ht.len
 clear htv
 apply ja (un:=0) Pr.tabOk Pr.mixed Rf.fn140 (nb rfl)
 apply qb (mk:=Pr.tab)
 intro fail _ _ _ _ _ _ _ _ _ _ _ _ _ _ _ _ _ _ _ _ _ _ _ _ not _ _ _ G
 have hnt:=G.not2
 generalize t.length=N at *
 cbv
 repeat' (first
  |(refine G.c' (hgot _ _ _ _ _ _ hy rfl hz (nb rfl) (W.mono (W.bd hK) fun a z b hK hz y hy=>?_));cases a<;>cbv)
  |(refine G.c' (hn _ _ _ _ _ hy rfl hz (nb rfl) (W.mono (W.bd hK) fun a z b hK hz y hy cl hcl=>?_));obtain⟨o,s,k,l⟩:=a;cbv)
  |(refine G.c' (hp _ _ _ _ _ hy rfl hz (nb rfl) (W.mono hK fun a z b hK hz y hy cl hcl=>?_));obtain⟨o,s,k,l⟩:=a;cbv)
  |(refine G.c' (va [.mk _ _ _ _] (by subst_vars;exact rfl) (.inl rfl) (by simp) fun cl hcl=>?_);cbv)
  |exact(W.rt hK).go hy hz (yd (by subst_vars;exact rfl)) rfl (nb rfl)
  |exact FinL.go hK hy hz (yd (by subst_vars;exact rfl)) rfl (nb rfl)
  |refine G.n' rfl ?_
  |fail)
theorem Rf.fn179:FnOk Tryz.prog 179 (fni Tryz.f179 Pr.a179):=⟨⟨Tryz.f179,Tryz.func179,rfl,rfl,rfl,by kernel_rfl⟩,by kernel_rfl⟩
theorem qek{t:List Tk}(ht:Toks t){n:Nat}(hn:Ok t 179 [] (sign t n) Nd.av)(hp:Ok t 185 [] (one t n) Nd.av):Ok t 179 [] (sign t (n+1)) Nd.av:=by
 refine Ok.of2 (fun _ _=>rfl) (fun a _ _=>zh _ _ a) fun tv htv z b y K hy hz hK=>?_
 unfold sign at hK
 have hgot:=fun s=>(zj ht.len s).lit
 simp only[← htv] at hgot
 have hn:=hn.litN
 rw[← htv] at hn
 have hp:=hp.litN
 rw[← htv] at hp
 have hl6:=ht.len
 clear htv
 apply ja (un:=0) Pr.tabOk Pr.mixed Rf.fn179 (nb rfl)
 apply qb (mk:=Pr.tab)
 intro fail _ _ _ _ _ _ _ _ _ _ _ _ _ _ _ _ _ _ _ _ _ _ _ _ not _ _ _ G
 have hnt:=G.not2
 generalize t.length=N at *
 cbv
 repeat' (first
  |(refine G.c' (hgot _ _ _ _ _ _ hy rfl hz (nb rfl) (W.mono (W.bd hK) fun a z b hK hz y hy=>?_));cases a<;>cbv)
  |(refine G.c' (hn _ _ _ _ _ hy rfl hz (nb rfl) (W.mono (W.bd hK) fun a z b hK hz y hy cl hcl=>?_));obtain⟨o,s,k,l⟩:=a;cbv)
  |(refine G.c' (hp _ _ _ _ _ hy rfl hz (nb rfl) (W.mono hK fun a z b hK hz y hy cl hcl=>?_));obtain⟨o,s,k,l⟩:=a;cbv)
  |(refine G.c' (va [.mk _ _ _ _] (by subst_vars;exact rfl) (.inl rfl) (by simp) fun cl hcl=>?_);cbv)
  |exact(W.rt hK).go hy hz (yd (by subst_vars;exact rfl)) rfl (nb rfl)
  |exact FinL.go hK hy hz (yd (by subst_vars;exact rfl)) rfl (nb rfl)
  |refine G.n' rfl ?_
  |fail)
theorem Rf.fn173:FnOk Tryz.prog 173 (fni Tryz.f173 Pr.a173):=⟨⟨Tryz.f173,Tryz.func173,rfl,rfl,rfl,by kernel_rfl⟩,by kernel_rfl⟩
theorem xd4{t:List Tk}(ht:Toks t){n:Nat}(hp:Ok t 86 [] (body t n) Nd.av):Ok t 173 [] (inner t (n+1)) Nd.av:=by
 refine Ok.of2 (fun _ _=>rfl) (fun a _ _=>zh _ _ a) fun tv htv z b y K hy hz hK=>?_
 unfold inner at hK
 have hmust:=fun s=>(jm ht.len s).lit
 simp only[← htv] at hmust
 have hp:=hp.litN
 rw[← htv] at hp
 have hl6:=ht.len
 clear htv
 apply ja (un:=0) Pr.tabOk Pr.mixed Rf.fn173 (nb rfl)
 apply qb (mk:=Pr.tab)
 intro fail _ _ _ _ _ _ _ _ _ _ _ _ _ _ _ _ _ _ _ _ _ _ _ _ not _ _ _ G
 have hnt:=G.not2
 generalize t.length=N at *
 cbv
 repeat' (first
  |(refine G.c' (hmust _ _ _ _ _ _ hy rfl hz (nb rfl) (W.mono (W.bd hK) fun a z b hK hz y hy=>?_));cbv)
  |(refine G.c' (hp _ _ _ _ _ hy rfl hz (nb rfl) (W.mono (W.bd hK) fun a z b hK hz y hy cl hcl=>?_));obtain⟨o,s,k,l⟩:=a;cbv)
  |exact(W.rt hK).go hy hz (yd (by subst_vars;exact rfl)) rfl (nb rfl)
  |fail)
end Go.AM.Rf
namespace Go.AM.Rf
open Go.Proofs Go.AM.Ps Go.AM.W
theorem W.as{α β γ:Type}{m:M α}{g:α→M β}{f:β→M γ}{z:Nat}{b:Bool}{Q:γ→Nat→Bool→Prop}(h:W (Rf.bd (Rf.bd m g) f) z b Q):W (Rf.bd m fun a=>Rf.bd (g a) f) z b Q:=by
 obtain⟨c,z',b',h1,h2⟩:=h
 refine⟨c,z',b',?_,h2⟩
 rw[← h1]
 unfold Rf.bd
 cases m z b with
 |none=>rfl
 |some r=>rfl
theorem W.rb{α β:Type}{a:α}{f:α→M β}{z:Nat}{b:Bool}{Q:β→Nat→Bool→Prop}(h:W (Rf.bd (Rf.rt a) f) z b Q):W (f a) z b Q:=h
inductive Grows:Mode→List AV→List Int→Prop where
 |fresh (v:AV):Grows .exact [v] []
 |own (cs:List AV) (n:Int) (h:n=cs.length):Grows (.own 0) cs [n]
theorem Rf.fn124:FnOk Tryz.prog 124 (fni Tryz.f124 Pr.a124):=⟨⟨Tryz.f124,Tryz.func124,rfl,rfl,rfl,by kernel_rfl⟩,by kernel_rfl⟩
noncomputable def c124:Code:=(fni Tryz.f124 Pr.a124).loop 0
theorem Rf.c124:qf 23 Pr.a124 c124=true:=by kernel_rfl
theorem zei(K:Ex→Env→St→Prop)(env:Env)(S:St)(h:xg (pAlg Tryz.prog (Pr.tab real) 23) (Pr.tab real) Pr.a124 0 c124 (andThen (za Tryz.prog (Pr.tab real) 23 c124 K) K) env S):za Tryz.prog (Pr.tab real) 23 c124 K env S:=
 vc Pr.tabOk Pr.mixed Rf.c124 h
theorem zc7{t:List Tk}{n:Nat}(tv:AV)(N:Nat)(hgot:∀ s,Lit tv N 24 [.str s] (got t s) .bool)(hp:LitN tv N 93 [] (expr t n))(K:Ex→Env→St→Prop)(r:Nat) :
 ∀(z:Nat) (b:Bool) (y:Int) (acc:List Nd) (cs:List AV) (m:Mode) (caps:List Int),y=z→z≤N→cs=avL acc→Grows m cs caps→acc.length+r≤2000000000 →
  W (commas t (expr t n) r acc) z b (fun a z' b'=>z'≤N→∀(y':Int) (cl':List AV) (m':Mode) (caps':List Int),y'=z'→cl'=avL a→a.length≤2000000000→K (.exit 0) [(0,.ptr 0 0),(3,.slice 24 cl' m')] ⟨[(0,[tv,.int .i64 y',.bool b'])],1,caps'⟩) →
  za Tryz.prog (Pr.tab real) 23 c124 (Less K) [(0,.ptr 0 0),(3,.slice 24 cs m)] ⟨[(0,[tv,.int .i64 y,.bool b])],1,caps⟩:=by
 induction r with
 |zero=>
  intro z b y acc cs m caps _ _ _ _ _ hK
  obtain⟨_,_,_,h,_⟩:=hK
  cases h
 |succ r ih=>
  intro z b y acc cs m caps hy hz hcs hg hal hK
  have hlen:cs.length≤2000000000:=by rw[hcs,xd,List.length_map];omega
  have happ':∀ op s k l cl,cl=avL l→cs++[.agg [.str op,.str s,.int .i64 k,.slice 24 cl .no]]=avL (acc++[.mk op s k l]):=by
   intro op s k l cl hcl
   rw[hcs,hcl,xd acc,xd (acc++_),List.map_append];rfl
  apply zei
  apply xb (mk:=Pr.tab)
  intro _ _ _ _ _ len _ _ _ cmp _ _ _ _ app _ _ _ _ _ _ _ _ _ room not _ _ _ G
  have hnt:=G.not2
  have hX:∀ op s k l cl,cl=avL l→∃(cc:List AV) (nn:Int),app cs [.agg [.str op,.str s,.int .i64 k,.slice 24 cl .no]]=cc∧room (len cc) 64=true∧len cc=nn∧cc=avL (acc++[.mk op s k l])∧Grows (.own 0) cc [nn]:=by
   intro op s k l cl hcl
   refine⟨_,_,rfl,?_,rfl,?_,?_⟩
   ·rw[G.app',G.room',G.len'];simp;omega
   ·rw[G.app'];exact happ' op s k l cl hcl
   ·rw[G.app',G.len'];exact .own _ _ rfl
  have h01:∀ x,cmp BinOp.lss 0 (len [x])=true:=fun x=>by rw[G.cmp',G.len'];rfl
  have heqc:∀ n2:Int,n2=cs.length→cmp BinOp.eql n2 (len cs)=true:=fun n2 h=>by rw[G.cmp',G.len',h];simp[vb]
  generalize hL:za Tryz.prog (Pr.tab real) 23 c124 (Less K)=L at *
  generalize hK':Less K=K' at *
  clear hlen happ'
  have hal2:acc.length≤2000000000:=by omega
  cases b with
  |true=>
   have hK:=W.unbad1 hK
   cbv
   rw[hnt]
   cbv
   rw[← hK']
   exact⟨[(0,.ptr 0 0),(3,.slice 24 cs m)],(.cons rfl (.cons rfl (.nil _))),hK hz _ _ _ _ hy hcs hal2⟩
  |false=>
   have hK:=W.unbad0 hK
   cases hg with
   |fresh v=>
    cbv
    rw[hnt]
    cbv
    refine G.c' (hgot _ _ _ _ _ _ hy rfl hz (nb rfl) (W.mono (W.bd hK) fun a z b hK hz y hy=>?_))
    cases a with
    |false=>
     cbv
     rw[hnt]
     cbv
     rw[← hK']
     exact⟨[(0,.ptr 0 0),(3,.slice 24 [v] .exact)],(.cons rfl (.cons rfl (.nil _))),(W.rt hK) hz _ _ _ _ hy hcs hal2⟩
    |true=>
    cbv
    rw[hnt]
    cbv
    refine G.c' (hp _ _ _ _ _ hy rfl hz (nb rfl) (W.mono (W.bd hK) fun a z b hK hz y hy cl hcl=>?_))
    obtain⟨o,s,k,l⟩:=a
    cbv
    have hgo:=fun cs' m' caps' q1 q2 q3=>ih z b y (acc++[.mk o s k l]) cs' m' caps' hy hz q1 q2 q3 hK
    obtain⟨cc,nn,h1,h2,h3,h4,h5⟩:=hX o s k l cl hcl
    have hgo:=hgo cc (.own 0) [nn] h4 h5 (by simp;omega)
    have h6:=h01 (AV.agg [.str o,.str s,.int .i64 k,.slice 24 cl .no])
    clear hX ih
    cbv
    iterate 3 (first|refine G.n' rfl ?_|skip)
    rw[h1]
    refine G.n' h2 (G.n' h6 ?_)
    rw[h3,← hL] at *
    exact za.weak (env':=[(0,.ptr 0 0),(3,.slice 24 cc (.own 0))]) (.cons rfl (.cons rfl (.nil _))) hgo
   |own cs n2 hn2=>
    have hq2:=heqc n2 hn2
    cbv
    rw[hnt]
    cbv
    refine G.c' (hgot _ _ _ _ _ _ hy rfl hz (nb rfl) (W.mono (W.bd hK) fun a z b hK hz y hy=>?_))
    cases a with
    |false=>
     cbv
     rw[hnt]
     cbv
     rw[← hK']
     exact⟨[(0,.ptr 0 0),(3,.slice 24 cs (.own 0))],(.cons rfl (.cons rfl (.nil _))),(W.rt hK) hz _ _ _ _ hy hcs hal2⟩
    |true=>
    cbv
    rw[hnt]
    cbv
    refine G.c' (hp _ _ _ _ _ hy rfl hz (nb rfl) (W.mono (W.bd hK) fun a z b hK hz y hy cl hcl=>?_))
    obtain⟨o,s,k,l⟩:=a
    cbv
    have hgo:=fun cs' m' caps' q1 q2 q3=>ih z b y (acc++[.mk o s k l]) cs' m' caps' hy hz q1 q2 q3 hK
    obtain⟨cc,nn,h1,h2,h3,h4,h5⟩:=hX o s k l cl hcl
    have hgo:=hgo cc (.own 0) [nn] h4 h5 (by simp;omega)
    have h6:=h01 (AV.agg [.str o,.str s,.int .i64 k,.slice 24 cl .no])
    clear hX ih
    cbv
    iterate 3 (first|refine G.n' rfl ?_|skip)
    rw[h1]
    refine G.n' h2 (G.n' hq2 ?_)
    rw[h3,← hL] at *
    exact za.weak (env':=[(0,.ptr 0 0),(3,.slice 24 cc (.own 0))]) (.cons rfl (.cons rfl (.nil _))) hgo
theorem Rf.fn89:FnOk Tryz.prog 89 (fni Tryz.f89 Pr.a89):=⟨⟨Tryz.f89,Tryz.func89,rfl,rfl,rfl,by kernel_rfl⟩,by kernel_rfl⟩
noncomputable def c89:Code:=(fni Tryz.f89 Pr.a89).loop 0
theorem Rf.c89:qf 29 Pr.a89 c89=true:=by kernel_rfl
theorem yep(K:Ex→Env→St→Prop)(env:Env)(S:St)(h:xg (pAlg Tryz.prog (Pr.tab real) 29) (Pr.tab real) Pr.a89 0 c89 (andThen (za Tryz.prog (Pr.tab real) 29 c89 K) K) env S):za Tryz.prog (Pr.tab real) 29 c89 K env S:=
 vc Pr.tabOk Pr.mixed Rf.c89 h
theorem xc4{t:List Tk}(tv:AV)(N:Nat)(hgot:∀ s,Lit tv N 24 [.str s] (got t s) .bool)(hname:Lit tv N 55 [] (name t) AV.str)(K:Ex→Env→St→Prop)(r:Nat) :
 ∀(z:Nat) (b:Bool) (y:Int) (acc:List Nd) (cs:List AV) (m:Mode) (caps:List Int),y=z→z≤N→cs=avL acc→Grows m cs caps→acc.length+r≤2000000000 →
  W (commas t (aName t) r acc) z b (fun a z' b'=>z'≤N→∀(y':Int) (cl':List AV) (m':Mode) (caps':List Int),y'=z'→cl'=avL a→a.length≤2000000000→K (.exit 0) [(0,.ptr 0 0),(3,.slice 24 cl' m')] ⟨[(0,[tv,.int .i64 y',.bool b'])],1,caps'⟩) →
  za Tryz.prog (Pr.tab real) 29 c89 (Less K) [(0,.ptr 0 0),(3,.slice 24 cs m)] ⟨[(0,[tv,.int .i64 y,.bool b])],1,caps⟩:=by
 induction r with
 |zero=>
  intro z b y acc cs m caps _ _ _ _ _ hK
  obtain⟨_,_,_,h,_⟩:=hK
  cases h
 |succ r ih=>
  intro z b y acc cs m caps hy hz hcs hg hal hK
  have hlen:cs.length≤2000000000:=by rw[hcs,xd,List.length_map];omega
  have happ':∀ op s k l cl,cl=avL l→cs++[.agg [.str op,.str s,.int .i64 k,.slice 24 cl .no]]=avL (acc++[.mk op s k l]):=by
   intro op s k l cl hcl
   rw[hcs,hcl,xd acc,xd (acc++_),List.map_append];rfl
  apply yep
  apply xb (mk:=Pr.tab)
  intro _ _ _ _ _ len _ _ _ cmp _ _ _ _ app _ _ _ _ _ _ _ _ _ room not _ _ _ G
  have hnt:=G.not2
  have hX:∀ op s k l cl,cl=avL l→∃(cc:List AV) (nn:Int),app cs [.agg [.str op,.str s,.int .i64 k,.slice 24 cl .no]]=cc∧room (len cc) 64=true∧len cc=nn∧cc=avL (acc++[.mk op s k l])∧Grows (.own 0) cc [nn]:=by
   intro op s k l cl hcl
   refine⟨_,_,rfl,?_,rfl,?_,?_⟩
   ·rw[G.app',G.room',G.len'];simp;omega
   ·rw[G.app'];exact happ' op s k l cl hcl
   ·rw[G.app',G.len'];exact .own _ _ rfl
  have h01:∀ x,cmp BinOp.lss 0 (len [x])=true:=fun x=>by rw[G.cmp',G.len'];rfl
  have heqc:∀ n2:Int,n2=cs.length→cmp BinOp.eql n2 (len cs)=true:=fun n2 h=>by rw[G.cmp',G.len',h];simp[vb]
  generalize hL:za Tryz.prog (Pr.tab real) 29 c89 (Less K)=L at *
  generalize hK':Less K=K' at *
  clear hlen happ'
  have hal2:acc.length≤2000000000:=by omega
  cases b with
  |true=>
   have hK:=W.unbad1 hK
   cbv
   rw[hnt]
   cbv
   rw[← hK']
   exact⟨[(0,.ptr 0 0),(3,.slice 24 cs m)],(.cons rfl (.cons rfl (.nil _))),hK hz _ _ _ _ hy hcs hal2⟩
  |false=>
   have hK:=W.unbad0 hK
   cases hg with
   |fresh v=>
    cbv
    rw[hnt]
    cbv
    refine G.c' (hgot _ _ _ _ _ _ hy rfl hz (nb rfl) (W.mono (W.bd hK) fun a z b hK hz y hy=>?_))
    cases a with
    |false=>
     cbv
     rw[hnt]
     cbv
     rw[← hK']
     exact⟨[(0,.ptr 0 0),(3,.slice 24 [v] .exact)],(.cons rfl (.cons rfl (.nil _))),(W.rt hK) hz _ _ _ _ hy hcs hal2⟩
    |true=>
    cbv
    rw[hnt]
    cbv
    have hK:=W.as hK
    refine G.c' (hname _ _ _ _ _ hy rfl hz (nb rfl) (W.mono (W.bd hK) fun w z b hK hz y hy=>?_))
    cbv
    refine G.c' (va [] (by exact rfl) (.inr rfl) (by simp) fun cl hcl=>?_)
    have hK:=W.rb hK
    cbv
    have hgo:=fun cs' m' caps' q1 q2 q3=>ih z b y (acc++[.mk xbg w 0 []]) cs' m' caps' hy hz q1 q2 q3 hK
    obtain⟨cc,nn,h1,h2,h3,h4,h5⟩:=hX xbg w 0 [] cl hcl
    have hgo:=hgo cc (.own 0) [nn] h4 h5 (by simp;omega)
    have h6:=h01 (AV.agg [.str [110,97,109,101],.str w,.int .i64 0,.slice 24 cl .no])
    clear hX ih
    cbv
    iterate 3 (first|refine G.n' rfl ?_|skip)
    rw[h1]
    refine G.n' h2 (G.n' h6 ?_)
    rw[h3,← hL] at *
    exact za.weak (env':=[(0,.ptr 0 0),(3,.slice 24 cc (.own 0))]) (.cons rfl (.cons rfl (.nil _))) hgo
   |own cs n2 hn2=>
    have hq2:=heqc n2 hn2
    cbv
    rw[hnt]
    cbv
    refine G.c' (hgot _ _ _ _ _ _ hy rfl hz (nb rfl) (W.mono (W.bd hK) fun a z b hK hz y hy=>?_))
    cases a with
    |false=>
     cbv
     rw[hnt]
     cbv
     rw[← hK']
     exact⟨[(0,.ptr 0 0),(3,.slice 24 cs (.own 0))],(.cons rfl (.cons rfl (.nil _))),(W.rt hK) hz _ _ _ _ hy hcs hal2⟩
    |true=>
    cbv
    rw[hnt]
    cbv
    have hK:=W.as hK
    refine G.c' (hname _ _ _ _ _ hy rfl hz (nb rfl) (W.mono (W.bd hK) fun w z b hK hz y hy=>?_))
    cbv
    refine G.c' (va [] (by exact rfl) (.inr rfl) (by simp) fun cl hcl=>?_)
    have hK:=W.rb hK
    cbv
    have hgo:=fun cs' m' caps' q1 q2 q3=>ih z b y (acc++[.mk xbg w 0 []]) cs' m' caps' hy hz q1 q2 q3 hK
    obtain⟨cc,nn,h1,h2,h3,h4,h5⟩:=hX xbg w 0 [] cl hcl
    have hgo:=hgo cc (.own 0) [nn] h4 h5 (by simp;omega)
    have h6:=h01 (AV.agg [.str [110,97,109,101],.str w,.int .i64 0,.slice 24 cl .no])
    clear hX ih
    cbv
    iterate 3 (first|refine G.n' rfl ?_|skip)
    rw[h1]
    refine G.n' h2 (G.n' hq2 ?_)
    rw[h3,← hL] at *
    exact za.weak (env':=[(0,.ptr 0 0),(3,.slice 24 cc (.own 0))]) (.cons rfl (.cons rfl (.nil _))) hgo
theorem yd4{t:List Tk}(ht:Toks t){n:Nat}(hn:n≤1000000000)(hp:Ok t 93 [] (expr t n) Nd.av):Ok t 124 [] (exprs t (n+1)) lav:=by
 refine Ok.of2 (fun _ _=>rfl) (fun a _ _=>jas _ _ a) fun tv htv z b y K hy hz hK=>?_
 unfold exprs at hK
 have hgot:=fun s=>(zj ht.len s).lit
 simp only[← htv] at hgot
 have hp:=hp.litN
 rw[← htv] at hp
 clear htv
 generalize t.length=N at *
 have hloop:=zc7 (t:=t) tv N hgot hp
 apply ja (un:=0) Pr.tabOk Pr.mixed Rf.fn124 (nb rfl)
 apply qb (mk:=Pr.tab)
 intro _ _ _ _ _ _ _ _ _ _ _ _ _ _ _ _ _ _ _ _ _ _ _ _ _ _ _ _ _ G
 cbv
 refine G.c' (hp _ _ _ _ _ hy rfl hz (nb rfl) (W.mono (W.bd hK) fun a z b hK hz y hy cl hcl=>?_))
 obtain⟨o,s,k,l⟩:=a
 cbv
 refine G.n' rfl ?_
 refine G.l' ?_
 change za Tryz.prog (Pr.tab real) 23 c124 _ _ _
 refine za.relax (za.weak (env':=[(0,.ptr 0 0),(3,.slice 24 [.agg [.str o,.str s,.int .i64 k,.slice 24 cl .no]] .exact)]) (.cons rfl (.cons rfl (.nil _))) (hloop _ _ _ _ _ [.mk o s k l] _ _ _ hy hz (by subst hcl;rfl) (.fresh _) (by simp;omega) (W.mono hK fun a z b hK hz y cl m caps hy hcl hal=>?_)))
 cbv
 exact FinL.go hK hy hz (by rw[hcl];exact xab _ _ _ _) rfl (nb rfl)
theorem vbx{t:List Tk}(ht:Toks t)(hwd:Wd t){n:Nat}(hn:n≤1000000000):Ok t 89 [] (names t n) lav:=by
 refine Ok.of2 (fun _ _=>rfl) (fun a _ _=>jas _ _ a) fun tv htv z b y K hy hz hK=>?_
 unfold names Rf.list aName at hK
 have hgot:=fun s=>(zj ht.len s).lit
 simp only[← htv] at hgot
 have hmust:=fun s=>(jm ht.len s).lit
 simp only[← htv] at hmust
 have hname:=(qv ht hwd).lit
 rw[← htv] at hname
 clear htv
 generalize t.length=N at *
 have hloop:=xc4 (t:=t) tv N hgot hname
 apply ja (un:=0) Pr.tabOk Pr.mixed Rf.fn89 (nb rfl)
 apply qb (mk:=Pr.tab)
 intro _ _ _ _ _ _ _ _ _ _ _ _ _ _ _ _ _ _ _ _ _ _ _ _ _ _ _ _ _ G
 cbv
 refine G.c' (hmust _ _ _ _ _ _ hy rfl hz (nb rfl) (W.mono (W.bd hK) fun a z b hK hz y hy=>?_))
 cbv
 have hK:=W.as (W.as hK)
 refine G.c' (hname _ _ _ _ _ hy rfl hz (nb rfl) (W.mono (W.bd hK) fun w z b hK hz y hy=>?_))
 cbv
 refine G.c' (va [] (by exact rfl) (.inr rfl) (by simp) fun cl hcl=>?_)
 have hK:=W.rb hK
 cbv
 refine G.n' rfl ?_
 refine G.l' ?_
 change za Tryz.prog (Pr.tab real) 29 c89 _ _ _
 refine za.relax (za.weak (env':=[(0,.ptr 0 0),(3,.slice 24 [.agg [.str [110,97,109,101],.str w,.int .i64 0,.slice 24 cl .no]] .exact)]) (.cons rfl (.cons rfl (.nil _))) (hloop _ _ _ _ _ [.mk xbg w 0 []] _ _ _ hy hz (by subst hcl;rfl) (.fresh _) (by simp;omega) (W.mono (W.bd hK) fun a z b hK hz y cl m caps hy hcl hal=>?_)))
 cbv
 refine G.c' (hmust _ _ _ _ _ _ hy rfl hz (nb rfl) (W.mono (W.bd hK) fun u z b hK hz y hy=>?_))
 cbv
 exact FinL.go (W.rt hK) hy hz (by rw[hcl];exact xab _ _ _ _) rfl (nb rfl)
end Go.AM.Rf
namespace Go.AM.Rf
open Go.Proofs Go.AM.Ps Go.AM.W
theorem qbu{t:List Tk}{p:M Nd}:∀(n:Nat) (acc:List Nd) (z:Nat) (b:Bool) (l:List Nd) (z':Nat) (b':Bool),commas t p n acc z b=some (l,z',b')→acc.length≤l.length∧l.length≤acc.length+n
 | 0,acc,z,b,l,z',b',h=>by cases h
 |n+1,acc,z,b,l,z',b',h=>by
  unfold commas unbad at h
  cases b with
  |true=>
   simp only[Option.some.injEq,Prod.mk.injEq] at h
   rw[← h.1];omega
  |false=>
   simp only at h
   unfold Rf.bd at h
   cases hg:got t W.g_comma z false with
   |none=>rw[hg] at h;cases h
   |some r=>
    obtain⟨ok,z1,b1⟩:=r
    rw[hg] at h
    cases ok with
    |false=>
     have h:some (acc,z1,b1)=some (l,z',b'):=h
     simp only[Option.some.injEq,Prod.mk.injEq] at h
     rw[← h.1];omega
    |true=>
     simp only at h
     cases hp:p z1 b1 with
     |none=>rw[hp] at h;cases h
     |some r=>
      obtain⟨x,z2,b2⟩:=r
      rw[hp] at h
      have:=qbu n (acc++[x]) z2 b2 l z' b' h
      simp only[List.length_append,List.length_singleton] at this
      omega
theorem qbz{t:List Tk}{p:M Nd}{n:Nat}{z:Nat}{b:Bool}{l:List Nd}{z':Nat}{b':Bool}(h:Rf.list t p n z b=some (l,z',b')):1≤l.length∧l.length≤n+1:=by
 unfold Rf.list Rf.bd at h
 cases hp:p z b with
 |none=>rw[hp] at h;cases h
 |some r=>
  obtain⟨x,z1,b1⟩:=r
  rw[hp] at h
  have:=qbu n [x] z1 b1 l z' b' h
  simp only[List.length_singleton] at this
  omega
theorem W.with{α:Type}{m:M α}{z:Nat}{b:Bool}{Q:α→Nat→Bool→Prop}{P:α→Prop}(h:W m z b Q)(hp:∀ a z' b',m z b=some (a,z',b')→P a):W m z b fun a z' b'=>P a∧Q a z' b':=by
 obtain⟨a,z',b',h1,h2⟩:=h
 exact⟨a,z',b',h1,hp _ _ _ h1,h2⟩
theorem Rf.fn165:FnOk Tryz.prog 165 (fni Tryz.f165 Pr.a165):=⟨⟨Tryz.f165,Tryz.func165,rfl,rfl,rfl,by kernel_rfl⟩,by kernel_rfl⟩
theorem xci{t:List Tk}(ht:Toks t){n:Nat}(hi:Ok t 173 [] (inner t n) Nd.av)(hs:Ok t 164 [] (sum t n) Nd.av)(w:List UInt8)(o0 s0:List UInt8)(k0:Int)(l0:List Nd)(cl0:List AV)(hcl0:cl0=avL l0):Ok t 165 [.str w,.agg [.str o0,.str s0,.int .i64 k0,.slice 24 cl0 .no]] (compared t (n+1) w (.mk o0 s0 k0 l0)) Nd.av:=by
 refine Ok.of2 (fun f h=>by subst hcl0;rfl) (fun a _ _=>zh _ _ a) fun tv htv z b y K hy hz hK=>?_
 unfold compared at hK
 have hgot:=fun s=>(zj ht.len s).lit
 simp only[← htv] at hgot
 have hi:=hi.litN
 rw[← htv] at hi
 have hs:=hs.litN
 rw[← htv] at hs
 have hl6:=ht.len
 clear htv
 apply ja (un:=0) Pr.tabOk Pr.mixed Rf.fn165 (nb rfl)
 apply qb (mk:=Pr.tab)
 intro fail _ _ _ _ _ _ _ _ _ _ _ _ _ _ _ _ _ _ _ _ _ _ _ _ not _ _ _ G
 have hnt:=G.not2
 generalize t.length=N at *
 cbv
 repeat' (first
  |(refine G.c' (hgot _ _ _ _ _ _ hy rfl hz (nb rfl) (W.mono (W.bd hK) fun a z b hK hz y hy=>?_));cases a<;>cbv)
  |(refine G.c' (hi _ _ _ _ _ hy rfl hz (nb rfl) (W.mono (W.bd hK) fun a z b hK hz y hy cl hcl=>?_));obtain⟨o,s,k,l⟩:=a;cbv)
  |(refine G.c' (hs _ _ _ _ _ hy rfl hz (nb rfl) (W.mono (W.bd hK) fun a z b hK hz y hy cl hcl=>?_));obtain⟨o,s,k,l⟩:=a;cbv)
  |(refine G.c' (va [.mk _ _ _ _,.mk _ _ _ _] (by subst_vars;exact rfl) (.inl rfl) (by simp) fun cl hcl=>?_);cbv)
  |exact(W.rt hK).go hy hz (yd (by subst_vars;exact rfl)) rfl (nb rfl)
  |refine G.n' rfl ?_
  |refine G.s' rfl ?_
  |fail)
theorem Rf.fn167:FnOk Tryz.prog 167 (fni Tryz.f167 Pr.a167):=⟨⟨Tryz.f167,Tryz.func167,rfl,rfl,rfl,by kernel_rfl⟩,by kernel_rfl⟩
theorem jeu{t:List Tk}(ht:Toks t){n:Nat}(hn:n≤1000000000)(hi:Ok t 173 [] (inner t n) Nd.av)(hx:Ok t 124 [] (exprs t n) lav)(o0 s0:List UInt8)(k0:Int)(l0:List Nd)(cl0:List AV)(hcl0:cl0=avL l0):Ok t 167 [.agg [.str o0,.str s0,.int .i64 k0,.slice 24 cl0 .no]] (inE t (n+1) (.mk o0 s0 k0 l0)) Nd.av:=by
 refine Ok.of2 (fun f h=>by subst hcl0;rfl) (fun a _ _=>zh _ _ a) fun tv htv z b y K hy hz hK=>?_
 unfold inE at hK
 have hgot:=fun s=>(zj ht.len s).lit
 simp only[← htv] at hgot
 have hmust:=fun s=>(jm ht.len s).lit
 simp only[← htv] at hmust
 have ho:=(vba ht n).lit
 rw[← htv] at ho
 have hi:=hi.litN
 rw[← htv] at hi
 have hx:=hx.litL
 rw[← htv] at hx
 have hl6:=ht.len
 clear htv
 apply ja (un:=0) Pr.tabOk Pr.mixed Rf.fn167 (nb rfl)
 apply qb (mk:=Pr.tab)
 intro fail _ _ _ _ len _ _ _ cmp _ _ _ _ app _ _ _ _ _ _ _ _ _ room not _ _ _ G
 have hnt:=G.not2
 have hlen:∀(a:List Nd) (z:Nat) (b:Bool) (z':Nat) (b':Bool),exprs t n z b=some (a,z',b')→1≤a.length∧a.length≤1000000001:=fun a z b z' b' h=>by
  cases n with
  |zero=>cases h
  |succ n=>
   unfold exprs at h
   have:=qbz h
   omega
 have happ:∀(v:AV) (c:List AV),app [v] c=v::c:=fun v c=>by rw[G.app'];rfl
 have hroom:∀(v:AV) (c:List AV),c.length≤1000000001→room (len (v::c)) 64=true:=fun v c h=>by rw[G.room',G.len'];simp;omega
 have hpos:∀(c:List AV),1≤c.length→cmp BinOp.lss 0 (len c)=true:=fun c h=>by rw[G.cmp',G.len'];simp[vb];omega
 generalize t.length=N at *
 cbv
 repeat' (first
  |(refine G.c' (ho _ _ _ _ _ hy rfl hz (nb rfl) (W.mono (W.bd hK) fun a z b hK hz y hy=>?_));cases a<;>cbv)
  |(refine G.c' (hmust _ _ _ _ _ _ hy rfl hz (nb rfl) (W.mono (W.bd hK) fun a z b hK hz y hy=>?_));cbv)
  |(refine G.c' (hi _ _ _ _ _ hy rfl hz (nb rfl) (W.mono (W.bd hK) fun a z b hK hz y hy cl hcl=>?_));obtain⟨o,s,k,l⟩:=a;cbv)
  |(refine G.c' (va [.mk _ _ _ _,.mk _ _ _ _] (by subst_vars;exact rfl) (.inl rfl) (by simp) fun cl hcl=>?_);cbv)
  |(refine G.c' (hx _ _ _ _ _ hy rfl hz (nb rfl) (W.mono (W.with (W.bd hK) fun a z' b' h=>hlen a z _ z' b' h) fun a z b hK hz y hy cl hcl=>?_));obtain⟨hne,hK⟩:=hK;cbv)
  |(rw[happ];try cbv)
  |refine G.n' (hroom _ _ (by rw[hcl,xd,List.length_map];exact hne.2)) ?_
  |refine G.n' (hpos _ (by rw[hcl,xd,List.length_map];exact hne.1)) ?_
  |(refine G.c' (va (.mk _ _ _ _::_) (by subst_vars;exact rfl) (.inl rfl) (by simp only[List.length_cons];omega) fun cl hcl=>?_);cbv)
  |exact(W.rt hK).go hy hz (yd (by subst_vars;exact rfl)) rfl (nb rfl)
  |refine G.n' rfl ?_
  |refine G.s' rfl ?_
  |fail)
theorem Rf.fn190:FnOk Tryz.prog 190 (fni Tryz.f190 Pr.a190):=⟨⟨Tryz.f190,Tryz.func190,rfl,rfl,rfl,by kernel_rfl⟩,by kernel_rfl⟩
theorem yd3{t:List Tk}(ht:Toks t){n:Nat}(he:Ok t 93 [] (expr t n) Nd.av)(w:List UInt8):Ok t 190 [.str w] (total t (n+1) w) Nd.av:=by
 refine Ok.of2 (fun _ _=>rfl) (fun a _ _=>zh _ _ a) fun tv htv z b y K hy hz hK=>?_
 unfold total at hK
 have hgot:=fun s=>(zj ht.len s).lit
 simp only[← htv] at hgot
 have hmust:=fun s=>(jm ht.len s).lit
 simp only[← htv] at hmust
 have he:=he.litN
 rw[← htv] at he
 have hl6:=ht.len
 clear htv
 apply ja (un:=0) Pr.tabOk Pr.mixed Rf.fn190 (nb rfl)
 apply qb (mk:=Pr.tab)
 intro fail _ _ _ _ _ _ _ _ _ _ eqS _ _ _ _ _ _ _ _ _ _ _ _ _ not _ _ _ G
 have hnt:=G.not2
 have hq:eqS w [99,111,117,110,116]=(w == W.k_count):=by rw[G.eqS']
 obtain⟨qc,hqc⟩:∃ q,(w == W.k_count)=q:=⟨_,rfl⟩
 rw[hqc] at hq hK
 generalize t.length=N at *
 cbv
 repeat' (first
  |(refine G.c' (hgot _ _ _ _ _ _ hy rfl hz (nb rfl) (W.mono (W.bd hK) fun a z b hK hz y hy=>?_));cases a<;>cbv)
  |(refine G.c' (hmust _ _ _ _ _ _ hy rfl hz (nb rfl) (W.mono (W.bd hK) fun a z b hK hz y hy=>?_));cbv)
  |(refine G.c' (he _ _ _ _ _ hy rfl hz (nb rfl) (W.mono (W.bd hK) fun a z b hK hz y hy cl hcl=>?_));obtain⟨o,s,k,l⟩:=a;cbv)
  |(refine G.c' (va [] (by exact rfl) (.inr rfl) (by simp) fun cl hcl=>?_);cbv)
  |(refine G.c' (va [.mk _ _ _ _] (by subst_vars;exact rfl) (.inl rfl) (by simp) fun cl hcl=>?_);cbv)
  |(rw[hq];cases qc<;>cbv)
  |exact(W.rt hK).go hy hz (yd (by subst_vars;exact rfl)) rfl (nb rfl)
  |refine G.n' rfl ?_
  |fail)
end Go.AM.Rf
namespace Go.AM.Rf
open Go.Proofs Go.AM.Ps Go.AM.W
theorem Rf.fn122:FnOk Tryz.prog 122 (fni Tryz.f122 Pr.a122):=⟨⟨Tryz.f122,Tryz.func122,rfl,rfl,rfl,by kernel_rfl⟩,by kernel_rfl⟩
noncomputable def c122_0:Code:=(fni Tryz.f122 Pr.a122).loop 0
theorem Rf.c122_0:qf 51 Pr.a122 c122_0=true:=by kernel_rfl
theorem ybp(K:Ex→Env→St→Prop)(env:Env)(S:St)(h:xg (pAlg Tryz.prog (Pr.tab real) 51) (Pr.tab real) Pr.a122 0 c122_0 (andThen (za Tryz.prog (Pr.tab real) 51 c122_0 K) K) env S):za Tryz.prog (Pr.tab real) 51 c122_0 K env S:=
 vc Pr.tabOk Pr.mixed Rf.c122_0 h
theorem qcz{t:List Tk}(tv:AV)(N:Nat)(hgot:∀ s,Lit tv N 24 [.str s] (got t s) .bool)(F:Option (List UInt8)→M Nd)(hF:∀ w,F (some w)=rt (.mk vaf w 0 []))(K:Ex→Env→St→Prop)(Q:Nd→Nat→Bool→Prop)
 (hnone:∀(z:Nat) (b:Bool) (y:Int),y=z→z≤N→W (F none) z b Q→K (.exit 0) [(0,.ptr 0 0),(2,.ptr 1 0)] ⟨[(1,[.str [],.str [],.int .i64 0,.slice 0 [] .exact]),(0,[tv,.int .i64 y,.bool b])],2,[]⟩)
 (hret:∀(o s:List UInt8) (k:Int) (l:List Nd) (cl:List AV) (z:Nat) (b:Bool) (y:Int),Q (.mk o s k l) z b→cl=avL l→y=z→z≤N→K .ret [(2,.ptr 1 0)] ⟨[(1,[.str o,.str s,.int .i64 k,.slice 24 cl .no]),(0,[tv,.int .i64 y,.bool b])],2,[]⟩)
 (ws:List (List UInt8)) (wv:List AV) (hwv:wv=ws.map AV.str) (hw6:ws.length≤100) (rest:List (List UInt8)) :
 ∀(i:Nat) (yi:Int) (z:Nat) (b:Bool) (y:Int),ws.drop i=rest→i≤ws.length→yi=i→y=z→z≤N→W (bd (whichOf t rest) F) z b Q →
  za Tryz.prog (Pr.tab real) 51 c122_0 (Less K) [(0,.ptr 0 0),(2,.ptr 1 0),(3,.slice 9 wv .exact),(4,.int .i64 yi)] ⟨[(1,[.str [],.str [],.int .i64 0,.slice 0 [] .exact]),(0,[tv,.int .i64 y,.bool b])],2,[]⟩:=by
 induction rest with
 |nil=>
  intro i yi z b y hd hi hyi hy hz hK
  have hge:ws.length≤i:=by simpa using hd
  have hK:=hnone z b y hy hz (W.rb hK)
  apply ybp
  apply xb (mk:=Pr.tab)
  intro fail need same call loop len slen arith shift cmp conv eqS ltS cat app elt byt subS subL strOf isB fit inb cut room not and eqB avs G
  have hb:cmp BinOp.lss yi (len wv)=false:=by rw[G.cmp',G.len',hwv];simp[vb];omega
  generalize hL:za Tryz.prog (Pr.tab real) 51 c122_0 (Less K)=L
  generalize hK':Less K=K'
  cbv
  refine G.n' rfl ?_
  rw[hb]
  cbv
  rw[← hK']
  exact⟨[(0,.ptr 0 0),(2,.ptr 1 0)],(.cons rfl (.cons rfl (.nil _))),hK⟩
 |cons w rest ih=>
  intro i yi z b y hd hi hyi hy hz hK
  have hlt:i<ws.length:=by
   rcases Nat.lt_or_ge i ws.length with q|q
   ·exact q
   ·rw[List.drop_eq_nil_of_le q] at hd;cases hd
  have hw:ws[i]? =some w:=by
   have:=List.drop_eq_getElem_cons hlt
   rw[hd] at this
   injection this with h1 h2
   rw[List.getElem?_eq_getElem hlt,h1]
  have hd2:ws.drop (i+1)=rest:=by
   have:=List.drop_eq_getElem_cons hlt
   rw[hd] at this
   injection this with h1 h2
   exact h2.symm
  have ih:=fun z b y hy hz hK=>ih (i+1) (yi+1) z b y hd2 (by omega) (by omega) hy hz hK
  have hK:W (bd (got t w) fun ok=>bd (match ok with
   |true=>rt (some w)
   |false=>whichOf t rest) F) z b Q:=W.as hK
  apply ybp
  apply xb (mk:=Pr.tab)
  intro fail _ _ _ _ len _ arith _ cmp _ _ _ _ _ elt _ _ _ _ _ _ inb _ _ _ _ _ _ G
  have hb:cmp BinOp.lss yi (len wv)=true:=by rw[G.cmp',G.len',hwv];simp[vb];omega
  have hin:inb yi (len wv)=true:=by rw[G.inb',G.len',hwv];simp;omega
  have hel:elt wv yi= .str w:=by
   rw[G.elt',hwv];simp only[]
   rw[show yi.toNat=i by omega,List.getD_eq_getElem?_getD,List.getElem?_map,hw];rfl
  have hone:arith BinOp.add IntKind.i64 yi 1=yi+1:=by rw[G.arith'];exact wrap_i64 _ (by omega) (by omega)
  generalize hL:za Tryz.prog (Pr.tab real) 51 c122_0 (Less K)=L at ih ⊢
  generalize hK':Less K=K' at hL ⊢
  generalize yi+1=y1 at *
  clear hw hd hd2 hnone hwv hlt hi
  cbv
  refine G.n' rfl ?_
  rw[hb]
  cbv
  refine G.n' hin ?_
  rw[hel]
  refine G.c' (hgot _ _ _ _ _ _ hy rfl hz (nb rfl) (W.mono (W.bd hK) fun a z b hK hz y hy=>?_))
  cases a with
  |false=>
   have hgo:=ih z b y hy hz hK
   cbv
   refine G.n' rfl ?_
   rw[hone]
   subst hL
   exact za.weak (env':=[(0,.ptr 0 0),(2,.ptr 1 0),(3,.slice 9 wv .exact),(4,.int .i64 y1)]) (.cons rfl (.cons rfl (.cons rfl (.cons rfl (.nil _))))) hgo
  |true=>
   have hK:W (F (some w)) z b Q:=W.rb hK
   rw[hF] at hK
   clear ih
   cbv
   repeat' (first
    |(refine G.c' (va [] (by exact rfl) (.inr rfl) (by simp) fun cl hcl=>?_);cbv)
    |(rw[hel];cbv)
    |refine G.n' hin ?_
    |(rw[← hK'];exact⟨[(2,.ptr 1 0)],(.cons rfl (.nil _)),hret _ _ _ _ _ _ _ _ (W.rt hK) hcl hy hz⟩)
    |fail)
theorem xcr{t:List Tk}(ht:Toks t):Ok t 122 [] (typed t) Nd.av:=by
 refine Ok.of2 (fun _ _=>rfl) (fun a _ _=>zh _ _ a) fun tv htv z b y K hy hz hK=>?_
 unfold typed at hK
 have hgot:=fun s=>(zj ht.len s).lit
 simp only[← htv] at hgot
 have hmust:=fun s=>(jm ht.len s).lit
 simp only[← htv] at hmust
 have hnum:=(xa0 ht).lit
 rw[← htv] at hnum
 clear htv
 generalize t.length=N at *
 apply ja (un:=0) Pr.tabOk Pr.mixed Rf.fn122 (nb rfl)
 apply qb (mk:=Pr.tab)
 intro fail _ _ _ _ _ _ _ _ _ _ _ _ _ _ _ _ _ _ _ _ _ _ _ _ not _ _ _ G
 have hnt:=G.not2
 cbv
 refine G.n' rfl ?_
 refine G.l' ?_
 change za Tryz.prog (Pr.tab real) 51 c122_0 _ _ _
 refine za.relax (za.weak (env':=[(0,.ptr 0 0),(2,.ptr 1 0),(3,.slice 9 [.str qaf,.str jac,.str zav,.str xal] .exact),(4,.int .i64 0)]) (.cons rfl (.cons rfl (.cons rfl (.cons rfl (.nil _))))) (qcz (t:=t) tv N  hgot _ (fun _=>rfl) _ (FinL tv N Nd.av K) (fun z b y hy hz hK=>?_) (fun o s k l cl z b y hK hcl hy hz=>?_) [qaf,jac,zav,xal] _ rfl (by decide) [qaf,jac,zav,xal] 0 0 _ _ _ rfl (Nat.zero_le _) rfl hy hz hK))
 ·cbv
  repeat' (first
   |(refine G.c' (hgot _ _ _ _ _ _ hy rfl hz (nb rfl) (W.mono (W.bd hK) fun a z b hK hz y hy=>?_));cases a<;>cbv)
   |(refine G.c' (hmust _ _ _ _ _ _ hy rfl hz (nb rfl) (W.mono (W.bd hK) fun a z b hK hz y hy=>?_));cbv)
   |(refine G.c' (hnum _ _ _ _ _ hy rfl hz (nb rfl) (W.mono (W.bd hK) fun a z b hK hz y hy=>?_));cbv)
   |(refine G.c' (va [] (by exact rfl) (.inr rfl) (by simp) fun cl hcl=>?_);cbv)
   |exact(W.rt hK).go hy hz (yd (by subst_vars;exact rfl)) rfl (nb rfl)
   |(rw[hnt];cbv)
   |fail)
 ·cbv
  exact FinL.go hK hy hz (yd hcl) rfl (nb rfl)
end Go.AM.Rf
