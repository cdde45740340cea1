/- The document's reader: columns, expressions, sums. -/
import Derived.Test.YteomefghofhkiaaGreatDoorRfPa
set_option maxRecDepth 100000
set_option maxHeartbeats 40000000
set_option linter.unusedVariables false
set_option linter.unusedSimpArgs false
namespace Go.AM.Rf
open Go.Proofs Go.AM.Ps Go.AM.W
theorem Rf.fn118:FnOk Tryz.prog 118 (fni Tryz.f118 Pr.a118):=⟨⟨Tryz.f118,Tryz.func118,rfl,rfl,rfl,by kernel_rfl⟩,by kernel_rfl⟩
theorem zee{t:List Tk}(ht:Toks t):Ok t 118 [] (all t) (AV.int .i64):=by
 refine Ok.of2 (fun _ _=>rfl) (fun _ _ _=>rfl) fun tv htv z b y K hy hz hK=>?_
 have hgot:=fun s=>(zj ht.len s).lit
 simp only[← htv] at hgot
 have hl6:=ht.len
 clear htv
 apply ja (un:=0) Pr.tabOk Pr.mixed Rf.fn118 (nb rfl)
 apply qb (mk:=Pr.tab)
 intro fail _ _ _ _ _ _ _ _ _ _ _ _ _ _ _ _ _ _ _ _ _ _ _ _ not _ _ _ G
 have hnt:=G.not2
 generalize t.length=N at *
 cbv
 repeat' (first
  |(refine G.c' (hgot _ _ _ _ _ _ hy rfl hz (nb rfl) (W.mono (W.bd hK) fun a z b hK hz y hy=>?_));cases a<;>cbv)
  |exact(W.rt hK).go hy hz (Sub.refl _ _) rfl (nb rfl)
  |fail)
theorem Rf.fn162:FnOk Tryz.prog 162 (fni Tryz.f162 Pr.a162):=⟨⟨Tryz.f162,Tryz.func162,rfl,rfl,rfl,by kernel_rfl⟩,by kernel_rfl⟩
theorem ycr{t:List Tk}(ht:Toks t)(hwd:Wd t)(s:List UInt8):Ok t 162 [.str s] (alias t s) AV.str:=by
 refine Ok.of2 (fun _ _=>rfl) (fun _ _ _=>rfl) fun tv htv z b y K hy hz hK=>?_
 have hgot:=fun s=>(zj ht.len s).lit
 simp only[← htv] at hgot
 have hnamed:=(ybx ht hwd 0 0 rfl (by omega)).lit
 rw[← htv] at hnamed
 have hname:=(qv ht hwd).lit
 rw[← htv] at hname
 have hl6:=ht.len
 clear htv
 apply ja (un:=0) Pr.tabOk Pr.mixed Rf.fn162 (nb rfl)
 apply qb (mk:=Pr.tab)
 intro fail _ _ _ _ _ _ _ _ _ _ _ _ _ _ _ _ _ _ _ _ _ _ _ _ not _ _ _ G
 have hnt:=G.not2
 generalize t.length=N at *
 cbv
 repeat' (first
  |(refine G.c' (hgot _ _ _ _ _ _ hy rfl hz (nb rfl) (W.mono (W.bd hK) fun a z b hK hz y hy=>?_));cases a<;>cbv)
  |(refine G.c' (hnamed _ _ _ _ _ hy rfl hz (nb rfl) (W.mono (W.bd hK) fun a z b hK hz y hy=>?_));cases a<;>cbv)
  |(refine G.c' (hname _ _ _ _ _ hy rfl hz (nb rfl) (W.mono hK fun a z b hK hz y hy=>?_));cbv)
  |exact(W.rt hK).go hy hz (Sub.refl _ _) rfl (nb rfl)
  |exact FinL.go hK hy hz (Sub.refl _ _) rfl (nb rfl)
  |fail)
theorem Rf.fn120:FnOk Tryz.prog 120 (fni Tryz.f120 Pr.a120):=⟨⟨Tryz.f120,Tryz.func120,rfl,rfl,rfl,by kernel_rfl⟩,by kernel_rfl⟩
theorem zbg{t:List Tk}(ht:Toks t)(hwd:Wd t):Ok t 120 [] (column t) Nd.av:=by
 refine Ok.of2 (fun _ _=>rfl) (fun a _ _=>zh _ _ a) fun tv htv z b y K hy hz hK=>?_
 have hgot:=fun s=>(zj ht.len s).lit
 simp only[← htv] at hgot
 have hname:=(qv ht hwd).lit
 rw[← htv] at hname
 have hl6:=ht.len
 clear htv
 apply ja (un:=0) Pr.tabOk Pr.mixed Rf.fn120 (nb rfl)
 apply qb (mk:=Pr.tab)
 intro fail _ _ _ _ _ _ _ _ _ _ _ _ _ _ _ _ _ _ _ _ _ _ _ _ not _ _ _ G
 have hnt:=G.not2
 generalize t.length=N at *
 cbv
 repeat' (first
  |(refine G.c' (hgot _ _ _ _ _ _ hy rfl hz (nb rfl) (W.mono (W.bd hK) fun a z b hK hz y hy=>?_));cases a<;>cbv)
  |(refine G.c' (hname _ _ _ _ _ hy rfl hz (nb rfl) (W.mono (W.bd hK) fun a z b hK hz y hy=>?_));cbv)
  |(refine G.c' (va [] (by exact rfl) (.inr rfl) (by simp) fun cl hcl=>?_);cbv)
  |(refine G.c' (va [.mk _ _ _ _] (by subst_vars;exact rfl) (.inl rfl) (by simp) fun cl hcl=>?_);cbv)
  |exact(W.rt hK).go hy hz (yd (by subst_vars;exact rfl)) rfl (nb rfl)
  |refine G.n' rfl ?_
  |fail)
end Go.AM.Rf
namespace Go.AM.Rf
open Go.Proofs Go.AM.Ps Go.AM.W
theorem Rf.fn93:FnOk Tryz.prog 93 (fni Tryz.f93 Pr.a93):=⟨⟨Tryz.f93,Tryz.func93,rfl,rfl,rfl,by kernel_rfl⟩,by kernel_rfl⟩
noncomputable def c93:Code:=(fni Tryz.f93 Pr.a93).loop 0
theorem Rf.c93:qf 22 Pr.a93 c93=true:=by kernel_rfl
theorem xep(K:Ex→Env→St→Prop)(env:Env)(S:St)(h:xg (pAlg Tryz.prog (Pr.tab real) 22) (Pr.tab real) Pr.a93 0 c93 (andThen (za Tryz.prog (Pr.tab real) 22 c93 K) K) env S):za Tryz.prog (Pr.tab real) 22 c93 K env S:=
 vc Pr.tabOk Pr.mixed Rf.c93 h
theorem yds{t:List Tk}{n:Nat}(tv:AV)(N:Nat)(hgot:∀ s,Lit tv N 24 [.str s] (got t s) .bool)(hp:LitN tv N 125 [] (andE t n))(K:Ex→Env→St→Prop)(m:Nat) :
 ∀(z:Nat) (b:Bool) (y:Int) (o s:List UInt8) (k:Int) (l:List Nd) (cl:List AV),y=z→z≤N→cl=avL l →
  W (chain t k_or (andE t n) m (.mk o s k l)) z b (fun a z' b'=>z'≤N→∀(y':Int) (cl':List AV),y'=z'→cl'=avL (ndL a)→K (.exit 0) [(0,.ptr 0 0),(2,.ptr 1 0),(3,.ptr 2 0)] ⟨[(2,[.str (ndOp a),.str (ndS a),.int .i64 (ndN a),.slice 24 cl' .no]),(1,[.str [],.str [],.int .i64 0,.slice 0 [] .exact]),(0,[tv,.int .i64 y',.bool b'])],3,[]⟩) →
  za Tryz.prog (Pr.tab real) 22 c93 (Less K) [(0,.ptr 0 0),(2,.ptr 1 0),(3,.ptr 2 0)] ⟨[(2,[.str o,.str s,.int .i64 k,.slice 24 cl .no]),(1,[.str [],.str [],.int .i64 0,.slice 0 [] .exact]),(0,[tv,.int .i64 y,.bool b])],3,[]⟩:=by
 induction m with
 |zero=>
  intro z b y o s k l cl _ _ _ hK
  obtain⟨_,_,_,h,_⟩:=hK
  cases h
 |succ m ih=>
  intro z b y o s k l cl hy hz hcl hK
  replace ih:=fun z b y o s k l cl hy hz hcl hK=>ih z b y o s k l cl hy hz hcl hK
  apply xep
  apply xb (mk:=Pr.tab)
  intro fail _ _ _ _ _ _ _ _ _ _ _ _ _ _ _ _ _ _ _ _ _ _ _ _ not _ _ _ G
  have hnt:=G.not2
  generalize hL:za Tryz.prog (Pr.tab real) 22 c93 (Less K)=L at ih ⊢
  generalize hK':Less K=K' at hL ⊢
  cases b with
  |true=>
   have hK:=W.unbad1 hK
   cbv
   rw[hnt]
   cbv
   rw[← hK']
   exact⟨[(0,.ptr 0 0),(2,.ptr 1 0),(3,.ptr 2 0)],(.cons rfl (.cons rfl (.cons rfl (.nil _)))),(hK hz _ _ hy hcl)⟩
  |false=>
   have hK:=W.unbad0 hK
   cbv
   rw[hnt]
   cbv
   repeat' (first
    |(refine G.c' (hgot _ _ _ _ _ _ hy rfl hz (nb rfl) (W.mono (W.bd hK) fun a z b hK hz y hy=>?_));cases a<;>cbv)
    |(refine G.c' (hp _ _ _ _ _ hy rfl hz (nb rfl) (W.mono (W.bd hK) fun a z b hK hz y hy cl hcl=>?_));obtain⟨o,s,k,l⟩:=a;cbv)
    |(refine G.c' (va [.mk _ _ _ _,.mk _ _ _ _] (by subst_vars;exact rfl) (.inl rfl) (by simp) fun cl hcl=>?_);cbv)
    |(subst hL;exact za.weak (env':=[(0,.ptr 0 0),(2,.ptr 1 0),(3,.ptr 2 0)]) (.cons rfl (.cons rfl (.cons rfl (.nil _)))) (ih _ _ _ _ _ _ _ _ hy hz hcl hK))
    |(rw[← hK'];exact⟨[(0,.ptr 0 0),(2,.ptr 1 0),(3,.ptr 2 0)],(.cons rfl (.cons rfl (.cons rfl (.nil _)))),((W.rt hK) hz _ _ hy hcl)⟩)
    |(rw[hnt];cbv)
    |refine G.n' rfl ?_
    |refine G.s' rfl ?_
    |fail)
theorem xek{t:List Tk}(ht:Toks t){n:Nat}(hp:Ok t 125 [] (andE t n) Nd.av):Ok t 93 [] (expr t (n+1)) Nd.av:=by
 refine Ok.of2 (fun _ _=>rfl) (fun a _ _=>zh _ _ a) fun tv htv z b y K hy hz hK=>?_
 have hgot:=fun s=>(zj ht.len s).lit
 simp only[← htv] at hgot
 have hp:=hp.litN
 rw[← htv] at hp
 clear htv
 generalize t.length=N at *
 have hloop:=yds (t:=t) tv N hgot hp
 apply ja (un:=0) Pr.tabOk Pr.mixed Rf.fn93 (nb rfl)
 apply qb (mk:=Pr.tab)
 intro _ _ _ _ _ _ _ _ _ _ _ _ _ _ _ _ _ _ _ _ _ _ _ _ _ _ _ _ _ G
 cbv
 (refine G.c' (hp _ _ _ _ _ hy rfl hz (nb rfl) (W.mono (W.bd hK) fun a z b hK hz y hy cl hcl=>?_));obtain⟨o,s,k,l⟩:=a;cbv)
 refine G.l' ?_
 change za Tryz.prog (Pr.tab real) 22 c93 _ _ _
 refine za.relax (za.weak (env':=[(0,.ptr 0 0),(2,.ptr 1 0),(3,.ptr 2 0)]) (.cons rfl (.cons rfl (.cons rfl (.nil _)))) (hloop _ _ _ _ _ _ _ _ _ _ hy hz hcl (W.mono hK fun a z b hK hz y cl hy hcl=>?_)))
 all_goals (obtain⟨o,s,k,l⟩:=a;cbv;exact FinL.go hK hy hz (yd hcl) rfl (nb rfl))
theorem Rf.fn125:FnOk Tryz.prog 125 (fni Tryz.f125 Pr.a125):=⟨⟨Tryz.f125,Tryz.func125,rfl,rfl,rfl,by kernel_rfl⟩,by kernel_rfl⟩
noncomputable def c125:Code:=(fni Tryz.f125 Pr.a125).loop 0
theorem Rf.c125:qf 22 Pr.a125 c125=true:=by kernel_rfl
theorem qei(K:Ex→Env→St→Prop)(env:Env)(S:St)(h:xg (pAlg Tryz.prog (Pr.tab real) 22) (Pr.tab real) Pr.a125 0 c125 (andThen (za Tryz.prog (Pr.tab real) 22 c125 K) K) env S):za Tryz.prog (Pr.tab real) 22 c125 K env S:=
 vc Pr.tabOk Pr.mixed Rf.c125 h
theorem xeb{t:List Tk}{n:Nat}(tv:AV)(N:Nat)(hgot:∀ s,Lit tv N 24 [.str s] (got t s) .bool)(hp:LitN tv N 140 [] (notE t n))(K:Ex→Env→St→Prop)(m:Nat) :
 ∀(z:Nat) (b:Bool) (y:Int) (o s:List UInt8) (k:Int) (l:List Nd) (cl:List AV),y=z→z≤N→cl=avL l →
  W (chain t xaj (notE t n) m (.mk o s k l)) z b (fun a z' b'=>z'≤N→∀(y':Int) (cl':List AV),y'=z'→cl'=avL (ndL a)→K (.exit 0) [(0,.ptr 0 0),(2,.ptr 1 0),(3,.ptr 2 0)] ⟨[(2,[.str (ndOp a),.str (ndS a),.int .i64 (ndN a),.slice 24 cl' .no]),(1,[.str [],.str [],.int .i64 0,.slice 0 [] .exact]),(0,[tv,.int .i64 y',.bool b'])],3,[]⟩) →
  za Tryz.prog (Pr.tab real) 22 c125 (Less K) [(0,.ptr 0 0),(2,.ptr 1 0),(3,.ptr 2 0)] ⟨[(2,[.str o,.str s,.int .i64 k,.slice 24 cl .no]),(1,[.str [],.str [],.int .i64 0,.slice 0 [] .exact]),(0,[tv,.int .i64 y,.bool b])],3,[]⟩:=by
 induction m with
 |zero=>
  intro z b y o s k l cl _ _ _ hK
  obtain⟨_,_,_,h,_⟩:=hK
  cases h
 |succ m ih=>
  intro z b y o s k l cl hy hz hcl hK
  replace ih:=fun z b y o s k l cl hy hz hcl hK=>ih z b y o s k l cl hy hz hcl hK
  apply qei
  apply xb (mk:=Pr.tab)
  intro fail _ _ _ _ _ _ _ _ _ _ _ _ _ _ _ _ _ _ _ _ _ _ _ _ not _ _ _ G
  have hnt:=G.not2
  generalize hL:za Tryz.prog (Pr.tab real) 22 c125 (Less K)=L at ih ⊢
  generalize hK':Less K=K' at hL ⊢
  cases b with
  |true=>
   have hK:=W.unbad1 hK
   cbv
   rw[hnt]
   cbv
   rw[← hK']
   exact⟨[(0,.ptr 0 0),(2,.ptr 1 0),(3,.ptr 2 0)],(.cons rfl (.cons rfl (.cons rfl (.nil _)))),(hK hz _ _ hy hcl)⟩
  |false=>
   have hK:=W.unbad0 hK
   cbv
   rw[hnt]
   cbv
   repeat' (first
    |(refine G.c' (hgot _ _ _ _ _ _ hy rfl hz (nb rfl) (W.mono (W.bd hK) fun a z b hK hz y hy=>?_));cases a<;>cbv)
    |(refine G.c' (hp _ _ _ _ _ hy rfl hz (nb rfl) (W.mono (W.bd hK) fun a z b hK hz y hy cl hcl=>?_));obtain⟨o,s,k,l⟩:=a;cbv)
    |(refine G.c' (va [.mk _ _ _ _,.mk _ _ _ _] (by subst_vars;exact rfl) (.inl rfl) (by simp) fun cl hcl=>?_);cbv)
    |(subst hL;exact za.weak (env':=[(0,.ptr 0 0),(2,.ptr 1 0),(3,.ptr 2 0)]) (.cons rfl (.cons rfl (.cons rfl (.nil _)))) (ih _ _ _ _ _ _ _ _ hy hz hcl hK))
    |(rw[← hK'];exact⟨[(0,.ptr 0 0),(2,.ptr 1 0),(3,.ptr 2 0)],(.cons rfl (.cons rfl (.cons rfl (.nil _)))),((W.rt hK) hz _ _ hy hcl)⟩)
    |(rw[hnt];cbv)
    |refine G.n' rfl ?_
    |refine G.s' rfl ?_
    |fail)
theorem xeu{t:List Tk}(ht:Toks t){n:Nat}(hp:Ok t 140 [] (notE t n) Nd.av):Ok t 125 [] (andE t (n+1)) Nd.av:=by
 refine Ok.of2 (fun _ _=>rfl) (fun a _ _=>zh _ _ a) fun tv htv z b y K hy hz hK=>?_
 have hgot:=fun s=>(zj ht.len s).lit
 simp only[← htv] at hgot
 have hp:=hp.litN
 rw[← htv] at hp
 clear htv
 generalize t.length=N at *
 have hloop:=xeb (t:=t) tv N hgot hp
 apply ja (un:=0) Pr.tabOk Pr.mixed Rf.fn125 (nb rfl)
 apply qb (mk:=Pr.tab)
 intro _ _ _ _ _ _ _ _ _ _ _ _ _ _ _ _ _ _ _ _ _ _ _ _ _ _ _ _ _ G
 cbv
 (refine G.c' (hp _ _ _ _ _ hy rfl hz (nb rfl) (W.mono (W.bd hK) fun a z b hK hz y hy cl hcl=>?_));obtain⟨o,s,k,l⟩:=a;cbv)
 refine G.l' ?_
 change za Tryz.prog (Pr.tab real) 22 c125 _ _ _
 refine za.relax (za.weak (env':=[(0,.ptr 0 0),(2,.ptr 1 0),(3,.ptr 2 0)]) (.cons rfl (.cons rfl (.cons rfl (.nil _)))) (hloop _ _ _ _ _ _ _ _ _ _ hy hz hcl (W.mono hK fun a z b hK hz y cl hy hcl=>?_)))
 all_goals (obtain⟨o,s,k,l⟩:=a;cbv;exact FinL.go hK hy hz (yd hcl) rfl (nb rfl))
theorem Rf.fn117:FnOk Tryz.prog 117 (fni Tryz.f117 Pr.a117):=⟨⟨Tryz.f117,Tryz.func117,rfl,rfl,rfl,by kernel_rfl⟩,by kernel_rfl⟩
noncomputable def c117:Code:=(fni Tryz.f117 Pr.a117).loop 0
theorem Rf.c117:qf 26 Pr.a117 c117=true:=by kernel_rfl
theorem jei(K:Ex→Env→St→Prop)(env:Env)(S:St)(h:xg (pAlg Tryz.prog (Pr.tab real) 26) (Pr.tab real) Pr.a117 0 c117 (andThen (za Tryz.prog (Pr.tab real) 26 c117 K) K) env S):za Tryz.prog (Pr.tab real) 26 c117 K env S:=
 vc Pr.tabOk Pr.mixed Rf.c117 h
theorem vdc{t:List Tk}{n:Nat}(tv:AV)(N:Nat)(hgot:∀ s,Lit tv N 24 [.str s] (got t s) .bool)(hall:Lit tv N 118 [] (all t) (AV.int .i64))(hp:LitN tv N 139 [] (simple t n))(K:Ex→Env→St→Prop)(m:Nat) :
 ∀(z:Nat) (b:Bool) (y:Int) (o s:List UInt8) (k:Int) (l:List Nd) (cl:List AV),y=z→z≤N→cl=avL l →
  W (sects t (simple t n) m (.mk o s k l)) z b (fun a z' b'=>z'≤N→∀(y':Int) (cl':List AV),y'=z'→cl'=avL (ndL a)→K (.exit 0) [(0,.ptr 0 0),(2,.ptr 1 0),(3,.ptr 2 0)] ⟨[(2,[.str (ndOp a),.str (ndS a),.int .i64 (ndN a),.slice 24 cl' .no]),(1,[.str [],.str [],.int .i64 0,.slice 0 [] .exact]),(0,[tv,.int .i64 y',.bool b'])],3,[]⟩) →
  za Tryz.prog (Pr.tab real) 26 c117 (Less K) [(0,.ptr 0 0),(2,.ptr 1 0),(3,.ptr 2 0)] ⟨[(2,[.str o,.str s,.int .i64 k,.slice 24 cl .no]),(1,[.str [],.str [],.int .i64 0,.slice 0 [] .exact]),(0,[tv,.int .i64 y,.bool b])],3,[]⟩:=by
 induction m with
 |zero=>
  intro z b y o s k l cl _ _ _ hK
  obtain⟨_,_,_,h,_⟩:=hK
  cases h
 |succ m ih=>
  intro z b y o s k l cl hy hz hcl hK
  replace ih:=fun z b y o s k l cl hy hz hcl hK=>ih z b y o s k l cl hy hz hcl hK
  apply jei
  apply xb (mk:=Pr.tab)
  intro fail _ _ _ _ _ _ _ _ _ _ _ _ _ _ _ _ _ _ _ _ _ _ _ _ not _ _ _ G
  have hnt:=G.not2
  generalize hL:za Tryz.prog (Pr.tab real) 26 c117 (Less K)=L at ih ⊢
  generalize hK':Less K=K' at hL ⊢
  cases b with
  |true=>
   have hK:=W.unbad1 hK
   cbv
   rw[hnt]
   cbv
   rw[← hK']
   exact⟨[(0,.ptr 0 0),(2,.ptr 1 0),(3,.ptr 2 0)],(.cons rfl (.cons rfl (.cons rfl (.nil _)))),(hK hz _ _ hy hcl)⟩
  |false=>
   have hK:=W.unbad0 hK
   cbv
   rw[hnt]
   cbv
   repeat' (first
    |(refine G.c' (hgot _ _ _ _ _ _ hy rfl hz (nb rfl) (W.mono (W.bd hK) fun a z b hK hz y hy=>?_));cases a<;>cbv)
    |(refine G.c' (hall _ _ _ _ _ hy rfl hz (nb rfl) (W.mono (W.bd hK) fun a z b hK hz y hy=>?_));cbv)
    |(refine G.c' (hp _ _ _ _ _ hy rfl hz (nb rfl) (W.mono (W.bd hK) fun a z b hK hz y hy cl hcl=>?_));obtain⟨o,s,k,l⟩:=a;cbv)
    |(refine G.c' (va [.mk _ _ _ _,.mk _ _ _ _] (by subst_vars;exact rfl) (.inl rfl) (by simp) fun cl hcl=>?_);cbv)
    |(subst hL;exact za.weak (env':=[(0,.ptr 0 0),(2,.ptr 1 0),(3,.ptr 2 0)]) (.cons rfl (.cons rfl (.cons rfl (.nil _)))) (ih _ _ _ _ _ _ _ _ hy hz hcl hK))
    |(rw[← hK'];exact⟨[(0,.ptr 0 0),(2,.ptr 1 0),(3,.ptr 2 0)],(.cons rfl (.cons rfl (.cons rfl (.nil _)))),((W.rt hK) hz _ _ hy hcl)⟩)
    |(rw[hnt];cbv)
    |refine G.n' rfl ?_
    |refine G.s' rfl ?_
    |fail)
theorem yej{t:List Tk}(ht:Toks t){n:Nat}(hp:Ok t 139 [] (simple t n) Nd.av):Ok t 117 [] (term t (n+1)) Nd.av:=by
 refine Ok.of2 (fun _ _=>rfl) (fun a _ _=>zh _ _ a) fun tv htv z b y K hy hz hK=>?_
 have hgot:=fun s=>(zj ht.len s).lit
 simp only[← htv] at hgot
 have hall:=(zee ht).lit
 simp only[← htv] at hall
 have hp:=hp.litN
 rw[← htv] at hp
 clear htv
 generalize t.length=N at *
 have hloop:=vdc (t:=t) tv N hgot hall hp
 apply ja (un:=0) Pr.tabOk Pr.mixed Rf.fn117 (nb rfl)
 apply qb (mk:=Pr.tab)
 intro _ _ _ _ _ _ _ _ _ _ _ _ _ _ _ _ _ _ _ _ _ _ _ _ _ _ _ _ _ G
 cbv
 (refine G.c' (hp _ _ _ _ _ hy rfl hz (nb rfl) (W.mono (W.bd hK) fun a z b hK hz y hy cl hcl=>?_));obtain⟨o,s,k,l⟩:=a;cbv)
 refine G.l' ?_
 change za Tryz.prog (Pr.tab real) 26 c117 _ _ _
 refine za.relax (za.weak (env':=[(0,.ptr 0 0),(2,.ptr 1 0),(3,.ptr 2 0)]) (.cons rfl (.cons rfl (.cons rfl (.nil _)))) (hloop _ _ _ _ _ _ _ _ _ _ hy hz hcl (W.mono hK fun a z b hK hz y cl hy hcl=>?_)))
 all_goals (obtain⟨o,s,k,l⟩:=a;cbv;exact FinL.go hK hy hz (yd hcl) rfl (nb rfl))
end Go.AM.Rf
namespace Go.AM.Rf
open Go.Proofs Go.AM.Ps Go.AM.W
theorem Rf.fn164:FnOk Tryz.prog 164 (fni Tryz.f164 Pr.a164):=⟨⟨Tryz.f164,Tryz.func164,rfl,rfl,rfl,by kernel_rfl⟩,by kernel_rfl⟩
noncomputable def c164:Code:=(fni Tryz.f164 Pr.a164).loop 0
theorem Rf.c164:qf 29 Pr.a164 c164=true:=by kernel_rfl
theorem veh(K:Ex→Env→St→Prop)(env:Env)(S:St)(h:xg (pAlg Tryz.prog (Pr.tab real) 29) (Pr.tab real) Pr.a164 0 c164 (andThen (za Tryz.prog (Pr.tab real) 29 c164 K) K) env S):za Tryz.prog (Pr.tab real) 29 c164 K env S:=
 vc Pr.tabOk Pr.mixed Rf.c164 h
theorem qdz{t:List Tk}{n:Nat}(tv:AV)(N:Nat)(hgot:∀ s,Lit tv N 24 [.str s] (got t s) .bool)(hp:LitN tv N 172 [] (product t n))(K:Ex→Env→St→Prop)(m:Nat) :
 ∀(z:Nat) (b:Bool) (y:Int) (o s:List UInt8) (k:Int) (l:List Nd) (cl:List AV),y=z→z≤N→cl=avL l →
  W (sumMore t (product t n) m (.mk o s k l)) z b (fun a z' b'=>z'≤N→∀(y':Int) (cl':List AV),y'=z'→cl'=avL (ndL a)→K (.exit 0) [(0,.ptr 0 0),(2,.ptr 1 0),(3,.ptr 2 0)] ⟨[(2,[.str (ndOp a),.str (ndS a),.int .i64 (ndN a),.slice 24 cl' .no]),(1,[.str [],.str [],.int .i64 0,.slice 0 [] .exact]),(0,[tv,.int .i64 y',.bool b'])],3,[]⟩∧K .ret [(2,.ptr 1 0)] ⟨[(2,[.str (ndOp a),.str (ndS a),.int .i64 (ndN a),.slice 24 cl' .no]),(1,[.str (ndOp a),.str (ndS a),.int .i64 (ndN a),.slice 24 cl' .no]),(0,[tv,.int .i64 y',.bool b'])],3,[]⟩) →
  za Tryz.prog (Pr.tab real) 29 c164 (Less K) [(0,.ptr 0 0),(2,.ptr 1 0),(3,.ptr 2 0)] ⟨[(2,[.str o,.str s,.int .i64 k,.slice 24 cl .no]),(1,[.str [],.str [],.int .i64 0,.slice 0 [] .exact]),(0,[tv,.int .i64 y,.bool b])],3,[]⟩:=by
 induction m with
 |zero=>
  intro z b y o s k l cl _ _ _ hK
  obtain⟨_,_,_,h,_⟩:=hK
  cases h
 |succ m ih=>
  intro z b y o s k l cl hy hz hcl hK
  replace ih:=fun z b y o s k l cl hy hz hcl hK=>ih z b y o s k l cl hy hz hcl hK
  apply veh
  apply xb (mk:=Pr.tab)
  intro fail _ _ _ _ _ _ _ _ _ _ _ _ _ _ _ _ _ _ _ _ _ _ _ _ not _ _ _ G
  have hnt:=G.not2
  generalize hL:za Tryz.prog (Pr.tab real) 29 c164 (Less K)=L at ih ⊢
  generalize hK':Less K=K' at hL ⊢
  cases b with
  |true=>
   have hK:=W.unbad1 hK
   cbv
   rw[hnt]
   cbv
   rw[← hK']
   exact⟨[(0,.ptr 0 0),(2,.ptr 1 0),(3,.ptr 2 0)],(.cons rfl (.cons rfl (.cons rfl (.nil _)))),(hK hz _ _ hy hcl).1⟩
  |false=>
   have hK:=W.unbad0 hK
   cbv
   rw[hnt]
   cbv
   repeat' (first
    |(refine G.c' (hgot _ _ _ _ _ _ hy rfl hz (nb rfl) (W.mono (W.bd hK) fun a z b hK hz y hy=>?_));cases a<;>cbv)
    |(refine G.c' (hp _ _ _ _ _ hy rfl hz (nb rfl) (W.mono (W.bd hK) fun a z b hK hz y hy cl hcl=>?_));obtain⟨o,s,k,l⟩:=a;cbv)
    |(refine G.c' (va [.mk _ _ _ _,.mk _ _ _ _] (by subst_vars;exact rfl) (.inl rfl) (by simp) fun cl hcl=>?_);cbv)
    |(subst hL;exact za.weak (env':=[(0,.ptr 0 0),(2,.ptr 1 0),(3,.ptr 2 0)]) (.cons rfl (.cons rfl (.cons rfl (.nil _)))) (ih _ _ _ _ _ _ _ _ hy hz hcl hK))
    |(rw[← hK'];exact⟨[(2,.ptr 1 0)],(.cons rfl (.nil _)),((W.rt hK) hz _ _ hy hcl).2⟩)
    |refine G.n' rfl ?_
    |refine G.s' rfl ?_
    |fail)
theorem xet{t:List Tk}(ht:Toks t){n:Nat}(hp:Ok t 172 [] (product t n) Nd.av):Ok t 164 [] (sum t (n+1)) Nd.av:=by
 refine Ok.of2 (fun _ _=>rfl) (fun a _ _=>zh _ _ a) fun tv htv z b y K hy hz hK=>?_
 have hgot:=fun s=>(zj ht.len s).lit
 simp only[← htv] at hgot
 have hp:=hp.litN
 rw[← htv] at hp
 clear htv
 generalize t.length=N at *
 have hloop:=qdz (t:=t) tv N hgot hp
 apply ja (un:=0) Pr.tabOk Pr.mixed Rf.fn164 (nb rfl)
 apply qb (mk:=Pr.tab)
 intro _ _ _ _ _ _ _ _ _ _ _ _ _ _ _ _ _ _ _ _ _ _ _ _ _ _ _ _ _ G
 cbv
 (refine G.c' (hp _ _ _ _ _ hy rfl hz (nb rfl) (W.mono (W.bd hK) fun a z b hK hz y hy cl hcl=>?_));obtain⟨o,s,k,l⟩:=a;cbv)
 refine G.l' ?_
 change za Tryz.prog (Pr.tab real) 29 c164 _ _ _
 refine za.relax (za.weak (env':=[(0,.ptr 0 0),(2,.ptr 1 0),(3,.ptr 2 0)]) (.cons rfl (.cons rfl (.cons rfl (.nil _)))) (hloop _ _ _ _ _ _ _ _ _ _ hy hz hcl (W.mono hK fun a z b hK hz y cl hy hcl=>⟨?_,?_⟩)))
 all_goals (obtain⟨o,s,k,l⟩:=a;cbv;exact FinL.go hK hy hz (yd hcl) rfl (nb rfl))
theorem Rf.fn172:FnOk Tryz.prog 172 (fni Tryz.f172 Pr.a172):=⟨⟨Tryz.f172,Tryz.func172,rfl,rfl,rfl,by kernel_rfl⟩,by kernel_rfl⟩
noncomputable def c172:Code:=(fni Tryz.f172 Pr.a172).loop 0
theorem Rf.c172:qf 26 Pr.a172 c172=true:=by kernel_rfl
theorem xeh(K:Ex→Env→St→Prop)(env:Env)(S:St)(h:xg (pAlg Tryz.prog (Pr.tab real) 26) (Pr.tab real) Pr.a172 0 c172 (andThen (za Tryz.prog (Pr.tab real) 26 c172 K) K) env S):za Tryz.prog (Pr.tab real) 26 c172 K env S:=
 vc Pr.tabOk Pr.mixed Rf.c172 h
theorem yb6{t:List Tk}{n:Nat}(tv:AV)(N:Nat)(hgot:∀ s,Lit tv N 24 [.str s] (got t s) .bool)(hp:LitN tv N 179 [] (sign t n))(K:Ex→Env→St→Prop)(m:Nat) :
 ∀(z:Nat) (b:Bool) (y:Int) (o s:List UInt8) (k:Int) (l:List Nd) (cl:List AV),y=z→z≤N→cl=avL l →
  W (prodMore t (sign t n) m (.mk o s k l)) z b (fun a z' b'=>z'≤N→∀(y':Int) (cl':List AV),y'=z'→cl'=avL (ndL a)→K (.exit 0) [(0,.ptr 0 0),(2,.ptr 1 0),(3,.ptr 2 0)] ⟨[(2,[.str (ndOp a),.str (ndS a),.int .i64 (ndN a),.slice 24 cl' .no]),(1,[.str [],.str [],.int .i64 0,.slice 0 [] .exact]),(0,[tv,.int .i64 y',.bool b'])],3,[]⟩∧K .ret [(2,.ptr 1 0)] ⟨[(2,[.str (ndOp a),.str (ndS a),.int .i64 (ndN a),.slice 24 cl' .no]),(1,[.str (ndOp a),.str (ndS a),.int .i64 (ndN a),.slice 24 cl' .no]),(0,[tv,.int .i64 y',.bool b'])],3,[]⟩) →
  za Tryz.prog (Pr.tab real) 26 c172 (Less K) [(0,.ptr 0 0),(2,.ptr 1 0),(3,.ptr 2 0)] ⟨[(2,[.str o,.str s,.int .i64 k,.slice 24 cl .no]),(1,[.str [],.str [],.int .i64 0,.slice 0 [] .exact]),(0,[tv,.int .i64 y,.bool b])],3,[]⟩:=by
 induction m with
 |zero=>
  intro z b y o s k l cl _ _ _ hK
  obtain⟨_,_,_,h,_⟩:=hK
  cases h
 |succ m ih=>
  intro z b y o s k l cl hy hz hcl hK
  replace ih:=fun z b y o s k l cl hy hz hcl hK=>ih z b y o s k l cl hy hz hcl hK
  apply xeh
  apply xb (mk:=Pr.tab)
  intro fail _ _ _ _ _ _ _ _ _ _ _ _ _ _ _ _ _ _ _ _ _ _ _ _ not _ _ _ G
  have hnt:=G.not2
  generalize hL:za Tryz.prog (Pr.tab real) 26 c172 (Less K)=L at ih ⊢
  generalize hK':Less K=K' at hL ⊢
  cases b with
  |true=>
   have hK:=W.unbad1 hK
   cbv
   rw[hnt]
   cbv
   rw[← hK']
   exact⟨[(0,.ptr 0 0),(2,.ptr 1 0),(3,.ptr 2 0)],(.cons rfl (.cons rfl (.cons rfl (.nil _)))),(hK hz _ _ hy hcl).1⟩
  |false=>
   have hK:=W.unbad0 hK
   cbv
   rw[hnt]
   cbv
   repeat' (first
    |(refine G.c' (hgot _ _ _ _ _ _ hy rfl hz (nb rfl) (W.mono (W.bd hK) fun a z b hK hz y hy=>?_));cases a<;>cbv)
    |(refine G.c' (hp _ _ _ _ _ hy rfl hz (nb rfl) (W.mono (W.bd hK) fun a z b hK hz y hy cl hcl=>?_));obtain⟨o,s,k,l⟩:=a;cbv)
    |(refine G.c' (va [.mk _ _ _ _,.mk _ _ _ _] (by subst_vars;exact rfl) (.inl rfl) (by simp) fun cl hcl=>?_);cbv)
    |(subst hL;exact za.weak (env':=[(0,.ptr 0 0),(2,.ptr 1 0),(3,.ptr 2 0)]) (.cons rfl (.cons rfl (.cons rfl (.nil _)))) (ih _ _ _ _ _ _ _ _ hy hz hcl hK))
    |(rw[← hK'];exact⟨[(2,.ptr 1 0)],(.cons rfl (.nil _)),((W.rt hK) hz _ _ hy hcl).2⟩)
    |(rw[hnt];cbv)
    |refine G.n' rfl ?_
    |refine G.s' rfl ?_
    |fail)
theorem vc3{t:List Tk}(ht:Toks t){n:Nat}(hp:Ok t 179 [] (sign t n) Nd.av):Ok t 172 [] (product t (n+1)) Nd.av:=by
 refine Ok.of2 (fun _ _=>rfl) (fun a _ _=>zh _ _ a) fun tv htv z b y K hy hz hK=>?_
 have hgot:=fun s=>(zj ht.len s).lit
 simp only[← htv] at hgot
 have hp:=hp.litN
 rw[← htv] at hp
 clear htv
 generalize t.length=N at *
 have hloop:=yb6 (t:=t) tv N hgot hp
 apply ja (un:=0) Pr.tabOk Pr.mixed Rf.fn172 (nb rfl)
 apply qb (mk:=Pr.tab)
 intro _ _ _ _ _ _ _ _ _ _ _ _ _ _ _ _ _ _ _ _ _ _ _ _ _ _ _ _ _ G
 cbv
 (refine G.c' (hp _ _ _ _ _ hy rfl hz (nb rfl) (W.mono (W.bd hK) fun a z b hK hz y hy cl hcl=>?_));obtain⟨o,s,k,l⟩:=a;cbv)
 refine G.l' ?_
 change za Tryz.prog (Pr.tab real) 26 c172 _ _ _
 refine za.relax (za.weak (env':=[(0,.ptr 0 0),(2,.ptr 1 0),(3,.ptr 2 0)]) (.cons rfl (.cons rfl (.cons rfl (.nil _)))) (hloop _ _ _ _ _ _ _ _ _ _ hy hz hcl (W.mono hK fun a z b hK hz y cl hy hcl=>⟨?_,?_⟩)))
 all_goals (obtain⟨o,s,k,l⟩:=a;cbv;exact FinL.go hK hy hz (yd hcl) rfl (nb rfl))
theorem Rf.fn86:FnOk Tryz.prog 86 (fni Tryz.f86 Pr.a86):=⟨⟨Tryz.f86,Tryz.func86,rfl,rfl,rfl,by kernel_rfl⟩,by kernel_rfl⟩
noncomputable def c86:Code:=(fni Tryz.f86 Pr.a86).loop 0
theorem Rf.c86:qf 37 Pr.a86 c86=true:=by kernel_rfl
theorem zeq(K:Ex→Env→St→Prop)(env:Env)(S:St)(h:xg (pAlg Tryz.prog (Pr.tab real) 37) (Pr.tab real) Pr.a86 0 c86 (andThen (za Tryz.prog (Pr.tab real) 37 c86 K) K) env S):za Tryz.prog (Pr.tab real) 37 c86 K env S:=
 vc Pr.tabOk Pr.mixed Rf.c86 h
theorem jdv{t:List Tk}{n:Nat}(tv:AV)(N:Nat)(hgot:∀ s,Lit tv N 24 [.str s] (got t s) .bool)(hall:Lit tv N 118 [] (all t) (AV.int .i64))(hp:LitN tv N 117 [] (term t n))(K:Ex→Env→St→Prop)(m:Nat) :
 ∀(z:Nat) (b:Bool) (y:Int) (o s:List UInt8) (k:Int) (l:List Nd) (cl:List AV),y=z→z≤N→cl=avL l →
  W (unions t (term t n) m (.mk o s k l)) z b (fun a z' b'=>z'≤N→∀(y':Int) (cl':List AV),y'=z'→cl'=avL (ndL a)→K (.exit 0) [(0,.ptr 0 0),(2,.ptr 1 0),(3,.ptr 2 0)] ⟨[(2,[.str (ndOp a),.str (ndS a),.int .i64 (ndN a),.slice 24 cl' .no]),(1,[.str [],.str [],.int .i64 0,.slice 0 [] .exact]),(0,[tv,.int .i64 y',.bool b'])],3,[]⟩∧K .ret [(2,.ptr 1 0)] ⟨[(2,[.str (ndOp a),.str (ndS a),.int .i64 (ndN a),.slice 24 cl' .no]),(1,[.str (ndOp a),.str (ndS a),.int .i64 (ndN a),.slice 24 cl' .no]),(0,[tv,.int .i64 y',.bool b'])],3,[]⟩) →
  za Tryz.prog (Pr.tab real) 37 c86 (Less K) [(0,.ptr 0 0),(2,.ptr 1 0),(3,.ptr 2 0)] ⟨[(2,[.str o,.str s,.int .i64 k,.slice 24 cl .no]),(1,[.str [],.str [],.int .i64 0,.slice 0 [] .exact]),(0,[tv,.int .i64 y,.bool b])],3,[]⟩:=by
 induction m with
 |zero=>
  intro z b y o s k l cl _ _ _ hK
  obtain⟨_,_,_,h,_⟩:=hK
  cases h
 |succ m ih=>
  intro z b y o s k l cl hy hz hcl hK
  replace ih:=fun z b y o s k l cl hy hz hcl hK=>ih z b y o s k l cl hy hz hcl hK
  apply zeq
  apply xb (mk:=Pr.tab)
  intro fail _ _ _ _ _ _ _ _ _ _ _ _ _ _ _ _ _ _ _ _ _ _ _ _ not _ _ _ G
  have hnt:=G.not2
  generalize hL:za Tryz.prog (Pr.tab real) 37 c86 (Less K)=L at ih ⊢
  generalize hK':Less K=K' at hL ⊢
  cases b with
  |true=>
   have hK:=W.unbad1 hK
   cbv
   rw[hnt]
   cbv
   rw[← hK']
   exact⟨[(0,.ptr 0 0),(2,.ptr 1 0),(3,.ptr 2 0)],(.cons rfl (.cons rfl (.cons rfl (.nil _)))),(hK hz _ _ hy hcl).1⟩
  |false=>
   have hK:=W.unbad0 hK
   cbv
   rw[hnt]
   cbv
   repeat' (first
    |(refine G.c' (hgot _ _ _ _ _ _ hy rfl hz (nb rfl) (W.mono (W.bd hK) fun a z b hK hz y hy=>?_));cases a<;>cbv)
    |(refine G.c' (hall _ _ _ _ _ hy rfl hz (nb rfl) (W.mono (W.bd hK) fun a z b hK hz y hy=>?_));cbv)
    |(refine G.c' (hp _ _ _ _ _ hy rfl hz (nb rfl) (W.mono (W.bd hK) fun a z b hK hz y hy cl hcl=>?_));obtain⟨o,s,k,l⟩:=a;cbv)
    |(refine G.c' (va [.mk _ _ _ _,.mk _ _ _ _] (by subst_vars;exact rfl) (.inl rfl) (by simp) fun cl hcl=>?_);cbv)
    |(subst hL;exact za.weak (env':=[(0,.ptr 0 0),(2,.ptr 1 0),(3,.ptr 2 0)]) (.cons rfl (.cons rfl (.cons rfl (.nil _)))) (ih _ _ _ _ _ _ _ _ hy hz hcl hK))
    |(rw[← hK'];exact⟨[(2,.ptr 1 0)],(.cons rfl (.nil _)),((W.rt hK) hz _ _ hy hcl).2⟩)
    |refine G.n' rfl ?_
    |refine G.s' rfl ?_
    |fail)
theorem yek{t:List Tk}(ht:Toks t){n:Nat}(hp:Ok t 117 [] (term t n) Nd.av):Ok t 86 [] (body t (n+1)) Nd.av:=by
 refine Ok.of2 (fun _ _=>rfl) (fun a _ _=>zh _ _ a) fun tv htv z b y K hy hz hK=>?_
 have hgot:=fun s=>(zj ht.len s).lit
 simp only[← htv] at hgot
 have hall:=(zee ht).lit
 simp only[← htv] at hall
 have hp:=hp.litN
 rw[← htv] at hp
 clear htv
 generalize t.length=N at *
 have hloop:=jdv (t:=t) tv N hgot hall hp
 apply ja (un:=0) Pr.tabOk Pr.mixed Rf.fn86 (nb rfl)
 apply qb (mk:=Pr.tab)
 intro _ _ _ _ _ _ _ _ _ _ _ _ _ _ _ _ _ _ _ _ _ _ _ _ _ _ _ _ _ G
 cbv
 (refine G.c' (hp _ _ _ _ _ hy rfl hz (nb rfl) (W.mono (W.bd hK) fun a z b hK hz y hy cl hcl=>?_));obtain⟨o,s,k,l⟩:=a;cbv)
 refine G.l' ?_
 change za Tryz.prog (Pr.tab real) 37 c86 _ _ _
 refine za.relax (za.weak (env':=[(0,.ptr 0 0),(2,.ptr 1 0),(3,.ptr 2 0)]) (.cons rfl (.cons rfl (.cons rfl (.nil _)))) (hloop _ _ _ _ _ _ _ _ _ _ hy hz hcl (W.mono hK fun a z b hK hz y cl hy hcl=>⟨?_,?_⟩)))
 all_goals (obtain⟨o,s,k,l⟩:=a;cbv;exact FinL.go hK hy hz (yd hcl) rfl (nb rfl))
end Go.AM.Rf
