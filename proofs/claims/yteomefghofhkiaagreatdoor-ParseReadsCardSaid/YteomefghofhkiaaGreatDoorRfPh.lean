/- The document's reader: insert, create, update. -/
import Derived.Test.YteomefghofhkiaaGreatDoorRfPg
import Derived.Test.YteomefghofhkiaaGreatDoorRfPf
set_option maxRecDepth 100000
set_option maxHeartbeats 40000000
set_option linter.unusedVariables false
set_option linter.unusedSimpArgs false
namespace Go.AM.Rf
open Go.Proofs Go.AM.Ps Go.AM.W
def insertE(t:List Tk)(n:Nat):M Nd:=bd (must t jdq) fun _=>bd (name t) fun s=>bd (opens t n) fun bo=>bd (isT t 0 g_par) fun op=>bd (match op && !bo with
 |true=>names t n
 |false=>rt []) fun l=>bd (got t k_values) fun v=>match v with
 |false=>bd (body t n) fun b=>rt (.mk k_insert s 0 [.mk o_columns [] 0 l,b])
 |true=>bd (list t (rowE t n) n) fun rows=>rt (.mk k_insert s 0 [.mk o_columns [] 0 l,.mk k_values [] 0 rows])
def createE(t:List Tk)(n:Nat):M Nd:=bd (got t qa6) fun q=>match q with
 |true=>bd (name t) fun s=>bd (must t g_par) fun _=>bd (list t (element t n) n) fun l=>bd (must t g_rap) fun _=>rt (.mk va0 s 0 l)
 |false=>bd (got t yx) fun u=>bd (must t za6) fun _=>bd (name t) fun s=>bd (must t k_on) fun _=>bd (name t) fun o=>bd (names t n) fun l=>rt (.mk yad s (match u with|true=>1|false=>0) (.mk k_on o 0 []::l))
theorem Rf.fn57:FnOk Tryz.prog 57 (fni Tryz.f57 Pr.a57):=⟨⟨Tryz.f57,Tryz.func57,rfl,rfl,rfl,by kernel_rfl⟩,by kernel_rfl⟩
inductive Grows57_0_0:Mode→List AV→List Int→Prop where
 |fresh (v:AV):Grows57_0_0 .exact [v] []
 |own (cs:List AV) (nn:Int) (h:nn=cs.length):Grows57_0_0 (.own 0) cs [nn]
noncomputable def c57_0_0:Code:=(fni Tryz.f57 Pr.a57).loop 0
theorem Rf.c57_0_0:qf 59 Pr.a57 c57_0_0=true:=by kernel_rfl
theorem yce(K:Ex→Env→St→Prop)(env:Env)(S:St)(h:xg (pAlg Tryz.prog (Pr.tab real) 59) (Pr.tab real) Pr.a57 0 c57_0_0 (andThen (za Tryz.prog (Pr.tab real) 59 c57_0_0 K) K) env S):za Tryz.prog (Pr.tab real) 59 c57_0_0 K env S:=
 vc Pr.tabOk Pr.mixed Rf.c57_0_0 h
theorem zcm{t:List Tk}{n:Nat}(tv:AV)(N:Nat)(hgot:∀ s,Lit tv N 24 [.str s] (got t s) .bool)(hrow:LitN tv N 92 [] (rowE t n))(o0 s0:List UInt8)(k0:Int)(cl0:List AV)(nm:List UInt8)(K:Ex→Env→St→Prop)(r:Nat) :
 ∀(z:Nat) (b:Bool) (y:Int) (acc:List Nd) (cs:List AV) (m:Mode) (caps:List Int),y=z→z≤N→cs=avL acc→Grows57_0_0 m cs caps→acc.length+r≤2000000000 →
  W (commas t (rowE t n) r acc) z b (fun a z' b'=>z'≤N→∀(y':Int) (cl':List AV) (m':Mode) (caps':List Int),y'=z'→cl'=avL a→a.length≤2000000000→Grows57_0_0 m' cl' caps'→K (.exit 0) [(0,.ptr 0 0),(2,.ptr 1 0),(3,.str nm),(7,.ptr 2 0),(8,.slice 24 cl' m')] ⟨[(2,[.str o0,.str s0,.int .i64 k0,.slice 24 cl0 .no]),(1,[.str [],.str [],.int .i64 0,.slice 0 [] .exact]),(0,[tv,.int .i64 y',.bool b'])],3,caps'⟩) →
  za Tryz.prog (Pr.tab real) 59 c57_0_0 (Less K) [(0,.ptr 0 0),(2,.ptr 1 0),(3,.str nm),(7,.ptr 2 0),(8,.slice 24 cs m)] ⟨[(2,[.str o0,.str s0,.int .i64 k0,.slice 24 cl0 .no]),(1,[.str [],.str [],.int .i64 0,.slice 0 [] .exact]),(0,[tv,.int .i64 y,.bool b])],3,caps⟩:=by
 induction r with
 |zero=>
  intro z b y acc cs m caps _ _ _ _ _ hK
  obtain⟨_,_,_,h,_⟩:=hK
  cases h
 |succ r ih=>
  intro z b y acc cs m caps hy hz hcs hg hal hK
  have hlen:cs.length≤2000000000:=by rw[hcs,xd,List.length_map];omega
  have happ':∀ op s k l cl,cl=avL l→cs++[.agg [.str op,.str s,.int .i64 k,.slice 24 cl .no]]=avL (acc++[.mk op s k l]):=by
   intro op s k l cl hcl
   rw[hcs,hcl,xd acc,xd (acc++_),List.map_append];rfl
  have hg0:=hg
  apply yce
  apply xb (mk:=Pr.tab)
  intro _ _ _ _ _ len _ _ _ cmp _ _ _ _ app _ _ _ _ _ _ _ _ _ room not _ _ _ G
  have hnt:=G.not2
  have hX:∀ op s k l cl,cl=avL l→∃(cc:List AV) (nn:Int),app cs [.agg [.str op,.str s,.int .i64 k,.slice 24 cl .no]]=cc∧room (len cc) 64=true∧len cc=nn∧cc=avL (acc++[.mk op s k l])∧Grows57_0_0 (.own 0) cc [nn]:=by
   intro op s k l cl hcl
   refine⟨_,_,rfl,?_,rfl,?_,?_⟩
   ·rw[G.app',G.room',G.len'];simp;omega
   ·rw[G.app'];exact happ' op s k l cl hcl
   ·rw[G.app',G.len'];exact .own _ _ rfl
  have h01:∀ x,cmp BinOp.lss 0 (len [x])=true:=fun x=>by rw[G.cmp',G.len'];rfl
  have heqc:∀ n2:Int,n2=cs.length→cmp BinOp.eql n2 (len cs)=true:=fun n2 h=>by rw[G.cmp',G.len',h];simp[vb]
  generalize hL:za Tryz.prog (Pr.tab real) 59 c57_0_0 (Less K)=L at *
  generalize hK':Less K=K' at *
  clear hlen happ'
  have hal2:acc.length≤2000000000:=by omega
  cases b with
  |true=>
   have hK:=W.unbad1 hK
   cbv
   rw[hnt]
   cbv
   rw[← hK']
   exact⟨[(0,.ptr 0 0),(2,.ptr 1 0),(3,.str nm),(7,.ptr 2 0),(8,.slice 24 cs m)],(.cons rfl (.cons rfl (.cons rfl (.cons rfl (.cons rfl (.nil _)))))),hK hz _ _ _ _ hy hcs hal2 hg0⟩
  |false=>
   have hK:=W.unbad0 hK
   cases hg with
   |fresh v=>
    cbv
    rw[hnt]
    cbv
    refine G.c' (hgot _ _ _ _ _ _ hy rfl hz (nb rfl) (W.mono (W.bd hK) fun a z b hK hz y hy=>?_))
    cases a with
    |false=>
     cbv
     rw[hnt]
     cbv
     rw[← hK']
     exact⟨[(0,.ptr 0 0),(2,.ptr 1 0),(3,.str nm),(7,.ptr 2 0),(8,.slice 24 [v] .exact)],(.cons rfl (.cons rfl (.cons rfl (.cons rfl (.cons rfl (.nil _)))))),(W.rt hK) hz _ _ _ _ hy hcs hal2 hg0⟩
    |true=>
    cbv
    rw[hnt]
    cbv
    refine G.c' (hrow _ _ _ _ _ hy rfl hz (nb rfl) (W.mono (W.bd hK) fun a z b hK hz y hy cl hcl=>?_))
    obtain⟨o,s,k,l⟩:=a
    cbv
    have hgo:=fun cs' m' caps' q1 q2 q3=>ih z b y (acc++[.mk o s k l]) cs' m' caps' hy hz q1 q2 q3 hK
    obtain⟨cc,nn,h1,h2,h3,h4,h5⟩:=hX o s k l cl hcl
    have hgo:=hgo cc (.own 0) [nn] h4 h5 (by simp;omega)
    have h6:=h01 (AV.agg [.str o,.str s,.int .i64 k,.slice 24 cl .no])
    clear hX ih
    cbv
    iterate 3 (first|refine G.n' rfl ?_|skip)
    rw[h1]
    refine G.n' h2 (G.n' h6 ?_)
    rw[h3,← hL] at *
    exact za.weak (env':=[(0,.ptr 0 0),(2,.ptr 1 0),(3,.str nm),(7,.ptr 2 0),(8,.slice 24 cc (.own 0))]) (.cons rfl (.cons rfl (.cons rfl (.cons rfl (.cons rfl (.nil _)))))) hgo
   |own cs n2 hn2=>
    have hq2:=heqc n2 hn2
    cbv
    rw[hnt]
    cbv
    refine G.c' (hgot _ _ _ _ _ _ hy rfl hz (nb rfl) (W.mono (W.bd hK) fun a z b hK hz y hy=>?_))
    cases a with
    |false=>
     cbv
     rw[hnt]
     cbv
     rw[← hK']
     exact⟨[(0,.ptr 0 0),(2,.ptr 1 0),(3,.str nm),(7,.ptr 2 0),(8,.slice 24 cs (.own 0))],(.cons rfl (.cons rfl (.cons rfl (.cons rfl (.cons rfl (.nil _)))))),(W.rt hK) hz _ _ _ _ hy hcs hal2 hg0⟩
    |true=>
    cbv
    rw[hnt]
    cbv
    refine G.c' (hrow _ _ _ _ _ hy rfl hz (nb rfl) (W.mono (W.bd hK) fun a z b hK hz y hy cl hcl=>?_))
    obtain⟨o,s,k,l⟩:=a
    cbv
    have hgo:=fun cs' m' caps' q1 q2 q3=>ih z b y (acc++[.mk o s k l]) cs' m' caps' hy hz q1 q2 q3 hK
    obtain⟨cc,nn,h1,h2,h3,h4,h5⟩:=hX o s k l cl hcl
    have hgo:=hgo cc (.own 0) [nn] h4 h5 (by simp;omega)
    have h6:=h01 (AV.agg [.str o,.str s,.int .i64 k,.slice 24 cl .no])
    clear hX ih
    cbv
    iterate 3 (first|refine G.n' rfl ?_|skip)
    rw[h1]
    refine G.n' h2 (G.n' hq2 ?_)
    rw[h3,← hL] at *
    exact za.weak (env':=[(0,.ptr 0 0),(2,.ptr 1 0),(3,.str nm),(7,.ptr 2 0),(8,.slice 24 cc (.own 0))]) (.cons rfl (.cons rfl (.cons rfl (.cons rfl (.cons rfl (.nil _)))))) hgo
theorem Rf.fn53:FnOk Tryz.prog 53 (fni Tryz.f53 Pr.a53):=⟨⟨Tryz.f53,Tryz.func53,rfl,rfl,rfl,by kernel_rfl⟩,by kernel_rfl⟩
inductive Grows53_0_0:Mode→List AV→List Int→Prop where
 |fresh (v:AV):Grows53_0_0 .exact [v] []
 |own (cs:List AV) (nn:Int) (h:nn=cs.length):Grows53_0_0 (.own 0) cs [nn]
noncomputable def c53_0_0:Code:=(fni Tryz.f53 Pr.a53).loop 0
theorem Rf.c53_0_0:qf 56 Pr.a53 c53_0_0=true:=by kernel_rfl
theorem qcf(K:Ex→Env→St→Prop)(env:Env)(S:St)(h:xg (pAlg Tryz.prog (Pr.tab real) 56) (Pr.tab real) Pr.a53 0 c53_0_0 (andThen (za Tryz.prog (Pr.tab real) 56 c53_0_0 K) K) env S):za Tryz.prog (Pr.tab real) 56 c53_0_0 K env S:=
 vc Pr.tabOk Pr.mixed Rf.c53_0_0 h
theorem zco{t:List Tk}{n:Nat}(tv:AV)(N:Nat)(hgot:∀ s,Lit tv N 24 [.str s] (got t s) .bool)(hel:LitN tv N 88 [] (element t n))(nm:List UInt8)(K:Ex→Env→St→Prop)(r:Nat) :
 ∀(z:Nat) (b:Bool) (y:Int) (acc:List Nd) (cs:List AV) (m:Mode) (caps:List Int),y=z→z≤N→cs=avL acc→Grows53_0_0 m cs caps→acc.length+r≤2000000000 →
  W (commas t (element t n) r acc) z b (fun a z' b'=>z'≤N→∀(y':Int) (cl':List AV) (m':Mode) (caps':List Int),y'=z'→cl'=avL a→a.length≤2000000000→Grows53_0_0 m' cl' caps'→K (.exit 0) [(0,.ptr 0 0),(2,.ptr 1 0),(3,.str nm),(4,.slice 24 cl' m')] ⟨[(1,[.str [],.str [],.int .i64 0,.slice 0 [] .exact]),(0,[tv,.int .i64 y',.bool b'])],2,caps'⟩) →
  za Tryz.prog (Pr.tab real) 56 c53_0_0 (Less K) [(0,.ptr 0 0),(2,.ptr 1 0),(3,.str nm),(4,.slice 24 cs m)] ⟨[(1,[.str [],.str [],.int .i64 0,.slice 0 [] .exact]),(0,[tv,.int .i64 y,.bool b])],2,caps⟩:=by
 induction r with
 |zero=>
  intro z b y acc cs m caps _ _ _ _ _ hK
  obtain⟨_,_,_,h,_⟩:=hK
  cases h
 |succ r ih=>
  intro z b y acc cs m caps hy hz hcs hg hal hK
  have hlen:cs.length≤2000000000:=by rw[hcs,xd,List.length_map];omega
  have happ':∀ op s k l cl,cl=avL l→cs++[.agg [.str op,.str s,.int .i64 k,.slice 24 cl .no]]=avL (acc++[.mk op s k l]):=by
   intro op s k l cl hcl
   rw[hcs,hcl,xd acc,xd (acc++_),List.map_append];rfl
  have hg0:=hg
  apply qcf
  apply xb (mk:=Pr.tab)
  intro _ _ _ _ _ len _ _ _ cmp _ _ _ _ app _ _ _ _ _ _ _ _ _ room not _ _ _ G
  have hnt:=G.not2
  have hX:∀ op s k l cl,cl=avL l→∃(cc:List AV) (nn:Int),app cs [.agg [.str op,.str s,.int .i64 k,.slice 24 cl .no]]=cc∧room (len cc) 64=true∧len cc=nn∧cc=avL (acc++[.mk op s k l])∧Grows53_0_0 (.own 0) cc [nn]:=by
   intro op s k l cl hcl
   refine⟨_,_,rfl,?_,rfl,?_,?_⟩
   ·rw[G.app',G.room',G.len'];simp;omega
   ·rw[G.app'];exact happ' op s k l cl hcl
   ·rw[G.app',G.len'];exact .own _ _ rfl
  have h01:∀ x,cmp BinOp.lss 0 (len [x])=true:=fun x=>by rw[G.cmp',G.len'];rfl
  have heqc:∀ n2:Int,n2=cs.length→cmp BinOp.eql n2 (len cs)=true:=fun n2 h=>by rw[G.cmp',G.len',h];simp[vb]
  generalize hL:za Tryz.prog (Pr.tab real) 56 c53_0_0 (Less K)=L at *
  generalize hK':Less K=K' at *
  clear hlen happ'
  have hal2:acc.length≤2000000000:=by omega
  cases b with
  |true=>
   have hK:=W.unbad1 hK
   cbv
   rw[hnt]
   cbv
   rw[← hK']
   exact⟨[(0,.ptr 0 0),(2,.ptr 1 0),(3,.str nm),(4,.slice 24 cs m)],(.cons rfl (.cons rfl (.cons rfl (.cons rfl (.nil _))))),hK hz _ _ _ _ hy hcs hal2 hg0⟩
  |false=>
   have hK:=W.unbad0 hK
   cases hg with
   |fresh v=>
    cbv
    rw[hnt]
    cbv
    refine G.c' (hgot _ _ _ _ _ _ hy rfl hz (nb rfl) (W.mono (W.bd hK) fun a z b hK hz y hy=>?_))
    cases a with
    |false=>
     cbv
     rw[hnt]
     cbv
     rw[← hK']
     exact⟨[(0,.ptr 0 0),(2,.ptr 1 0),(3,.str nm),(4,.slice 24 [v] .exact)],(.cons rfl (.cons rfl (.cons rfl (.cons rfl (.nil _))))),(W.rt hK) hz _ _ _ _ hy hcs hal2 hg0⟩
    |true=>
    cbv
    rw[hnt]
    cbv
    refine G.c' (hel _ _ _ _ _ hy rfl hz (nb rfl) (W.mono (W.bd hK) fun a z b hK hz y hy cl hcl=>?_))
    obtain⟨o,s,k,l⟩:=a
    cbv
    have hgo:=fun cs' m' caps' q1 q2 q3=>ih z b y (acc++[.mk o s k l]) cs' m' caps' hy hz q1 q2 q3 hK
    obtain⟨cc,nn,h1,h2,h3,h4,h5⟩:=hX o s k l cl hcl
    have hgo:=hgo cc (.own 0) [nn] h4 h5 (by simp;omega)
    have h6:=h01 (AV.agg [.str o,.str s,.int .i64 k,.slice 24 cl .no])
    clear hX ih
    cbv
    iterate 3 (first|refine G.n' rfl ?_|skip)
    rw[h1]
    refine G.n' h2 (G.n' h6 ?_)
    rw[h3,← hL] at *
    exact za.weak (env':=[(0,.ptr 0 0),(2,.ptr 1 0),(3,.str nm),(4,.slice 24 cc (.own 0))]) (.cons rfl (.cons rfl (.cons rfl (.cons rfl (.nil _))))) hgo
   |own cs n2 hn2=>
    have hq2:=heqc n2 hn2
    cbv
    rw[hnt]
    cbv
    refine G.c' (hgot _ _ _ _ _ _ hy rfl hz (nb rfl) (W.mono (W.bd hK) fun a z b hK hz y hy=>?_))
    cases a with
    |false=>
     cbv
     rw[hnt]
     cbv
     rw[← hK']
     exact⟨[(0,.ptr 0 0),(2,.ptr 1 0),(3,.str nm),(4,.slice 24 cs (.own 0))],(.cons rfl (.cons rfl (.cons rfl (.cons rfl (.nil _))))),(W.rt hK) hz _ _ _ _ hy hcs hal2 hg0⟩
    |true=>
    cbv
    rw[hnt]
    cbv
    refine G.c' (hel _ _ _ _ _ hy rfl hz (nb rfl) (W.mono (W.bd hK) fun a z b hK hz y hy cl hcl=>?_))
    obtain⟨o,s,k,l⟩:=a
    cbv
    have hgo:=fun cs' m' caps' q1 q2 q3=>ih z b y (acc++[.mk o s k l]) cs' m' caps' hy hz q1 q2 q3 hK
    obtain⟨cc,nn,h1,h2,h3,h4,h5⟩:=hX o s k l cl hcl
    have hgo:=hgo cc (.own 0) [nn] h4 h5 (by simp;omega)
    have h6:=h01 (AV.agg [.str o,.str s,.int .i64 k,.slice 24 cl .no])
    clear hX ih
    cbv
    iterate 3 (first|refine G.n' rfl ?_|skip)
    rw[h1]
    refine G.n' h2 (G.n' hq2 ?_)
    rw[h3,← hL] at *
    exact za.weak (env':=[(0,.ptr 0 0),(2,.ptr 1 0),(3,.str nm),(4,.slice 24 cc (.own 0))]) (.cons rfl (.cons rfl (.cons rfl (.cons rfl (.nil _))))) hgo
theorem vdk{t:List Tk}(ht:Toks t)(hwd:Wd t){n:Nat}(hn:n≤1000000000)(hb:Ok t 86 [] (body t n) Nd.av)(hes:Ok t 124 [] (exprs t n) lav):Ok t 57 [] (insertE t n) Nd.av:=by
 refine Ok.of2 (fun _ _=>rfl) (fun a _ _=>zh _ _ a) fun tv htv z b y K hy hz hK=>?_
 unfold insertE at hK
 have hgot:=fun s=>(zj ht.len s).lit
 simp only[← htv] at hgot
 have hmust:=fun s=>(jm ht.len s).lit
 simp only[← htv] at hmust
 have hname:=(qv ht hwd).lit
 rw[← htv] at hname
 have his:=(zby ht.len 0 0 rfl (by decide) W.g_par).lit
 rw[← htv] at his
 have ho:=(vba ht n).lit
 rw[← htv] at ho
 have hnames:=(vbx ht hwd hn).litL
 rw[← htv] at hnames
 have hbody:=hb.litN
 rw[← htv] at hbody
 have hrow:=(vet ht hn hes).litN
 rw[← htv] at hrow
 clear htv
 generalize t.length=N at *
 have hnl:=fun a z b z' b' h=>names_len (t:=t) hn a z b z' b' h
 have hloop:=zcm (t:=t) (n:=n) tv N hgot hrow
 apply ja (un:=0) Pr.tabOk Pr.mixed Rf.fn57 (nb rfl)
 apply qb (mk:=Pr.tab)
 intro _ _ _ _ _ _ _ _ _ _ _ _ _ _ _ _ _ _ _ _ _ _ _ _ _ not _ _ _ G
 have hnt:=G.not2
 cbv
 refine G.c' (hmust _ _ _ _ _ _ hy rfl hz (nb rfl) (W.mono (W.bd hK) fun u z b hK hz y hy=>?_))
 cbv
 refine G.c' (hname _ _ _ _ _ hy rfl hz (nb rfl) (W.mono (W.bd hK) fun w z b hK hz y hy=>?_))
 cbv
 refine G.c' (ho _ _ _ _ _ hy rfl hz (nb rfl) (W.mono (W.bd hK) fun bo z b hK hz y hy=>?_))
 cbv
 refine G.c' (his _ _ _ _ _ hy rfl hz (nb rfl) (W.mono (W.bd hK) fun op z b hK hz y hy=>?_))
 cbv
 have hK1:=hK
 have hz1:=hz
 have hy1:=hy
 cases op with
 |false=>
  have hK:=W.rb hK1
  have hz:=hz1
  have hy:=hy1
  cbv
  refine G.c' (va [] (by exact rfl) (.inr rfl) (by simp) fun cl0 hcl0=>?_)
  cbv
  refine G.c' (hgot _ _ _ _ _ _ hy rfl hz (nb rfl) (W.mono (W.bd hK) fun v z b hK hz y hy=>?_))
  cbv
  rw[hnt]
  cases v with
  |false=>
   cbv
   refine G.c' (hbody _ _ _ _ _ hy rfl hz (nb rfl) (W.mono (W.bd hK) fun a z b hK hz y hy cl hcl=>?_))
   obtain⟨o,s,k,l⟩:=a
   iterate 6 (first|refine G.n' rfl ?_|refine G.s' rfl ?_|cbv|skip)
   refine G.c' (va [.mk W.o_columns [] 0 [],.mk o s k l] (by subst hcl hcl0;exact rfl) (.inl rfl) (by simp) fun cl4 hcl4=>?_)
   iterate 6 (first|refine G.n' rfl ?_|refine G.s' rfl ?_|cbv|skip)
   exact FinL.go (W.rt hK) hy hz (yd hcl4) rfl (nb rfl)
  |true=>
   have hK:=W.as hK
   cbv
   refine G.c' (hrow _ _ _ _ _ hy rfl hz (nb rfl) (W.mono (W.bd hK) fun a z b hK hz y hy cl hcl=>?_))
   obtain⟨o,s,k,l⟩:=a
   cbv
   refine G.n' rfl ?_
   refine G.l' ?_
   change za Tryz.prog (Pr.tab real) 59 c57_0_0 _ _ _
   refine za.relax (za.weak (env':=[(0,.ptr 0 0),(2,.ptr 1 0),(3,.str w),(7,.ptr 2 0),(8,.slice 24 [.agg [.str o,.str s,.int .i64 k,.slice 24 cl .no]] .exact)]) (.cons rfl (.cons rfl (.cons rfl (.cons rfl (.cons rfl (.nil _)))))) (hloop _ _ _ cl0 w _ _ _ _ _ [.mk o s k l] _ _ _ hy hz (by subst hcl;rfl) (.fresh _) (by simp;omega) (W.mono (W.bd hK) fun a z b hK hz y cl2 m caps hy hcl2 hal hg=>?_)))
   iterate 6 (first|refine G.n' rfl ?_|refine G.s' rfl ?_|cbv|skip)
   refine G.c' (va a hcl2 (.inl rfl) hal fun cl3 hcl3=>?_)
   iterate 6 (first|refine G.n' rfl ?_|refine G.s' rfl ?_|cbv|skip)
   refine G.c' (va [.mk W.o_columns [] 0 [],.mk W.k_values [] 0 a] (by subst hcl3 hcl0;exact rfl) (.inl rfl) (by simp) fun cl4 hcl4=>?_)
   iterate 6 (first|refine G.n' rfl ?_|refine G.s' rfl ?_|cbv|skip)
   exact FinL.go (W.rt hK) hy hz (yd hcl4) rfl (nb rfl)
 |true=>
  cbv
  rw[hnt]
  cases bo with
  |true=>
   have hK:=W.rb hK1
   have hz:=hz1
   have hy:=hy1
   cbv
   refine G.c' (va [] (by exact rfl) (.inr rfl) (by simp) fun cl0 hcl0=>?_)
   cbv
   refine G.c' (hgot _ _ _ _ _ _ hy rfl hz (nb rfl) (W.mono (W.bd hK) fun v z b hK hz y hy=>?_))
   cbv
   rw[hnt]
   cases v with
   |false=>
    cbv
    refine G.c' (hbody _ _ _ _ _ hy rfl hz (nb rfl) (W.mono (W.bd hK) fun a z b hK hz y hy cl hcl=>?_))
    obtain⟨o,s,k,l⟩:=a
    iterate 6 (first|refine G.n' rfl ?_|refine G.s' rfl ?_|cbv|skip)
    refine G.c' (va [.mk W.o_columns [] 0 [],.mk o s k l] (by subst hcl hcl0;exact rfl) (.inl rfl) (by simp) fun cl4 hcl4=>?_)
    iterate 6 (first|refine G.n' rfl ?_|refine G.s' rfl ?_|cbv|skip)
    exact FinL.go (W.rt hK) hy hz (yd hcl4) rfl (nb rfl)
   |true=>
    have hK:=W.as hK
    cbv
    refine G.c' (hrow _ _ _ _ _ hy rfl hz (nb rfl) (W.mono (W.bd hK) fun a z b hK hz y hy cl hcl=>?_))
    obtain⟨o,s,k,l⟩:=a
    cbv
    refine G.n' rfl ?_
    refine G.l' ?_
    change za Tryz.prog (Pr.tab real) 59 c57_0_0 _ _ _
    refine za.relax (za.weak (env':=[(0,.ptr 0 0),(2,.ptr 1 0),(3,.str w),(7,.ptr 2 0),(8,.slice 24 [.agg [.str o,.str s,.int .i64 k,.slice 24 cl .no]] .exact)]) (.cons rfl (.cons rfl (.cons rfl (.cons rfl (.cons rfl (.nil _)))))) (hloop _ _ _ cl0 w _ _ _ _ _ [.mk o s k l] _ _ _ hy hz (by subst hcl;rfl) (.fresh _) (by simp;omega) (W.mono (W.bd hK) fun a z b hK hz y cl2 m caps hy hcl2 hal hg=>?_)))
    iterate 6 (first|refine G.n' rfl ?_|refine G.s' rfl ?_|cbv|skip)
    refine G.c' (va a hcl2 (.inl rfl) hal fun cl3 hcl3=>?_)
    iterate 6 (first|refine G.n' rfl ?_|refine G.s' rfl ?_|cbv|skip)
    refine G.c' (va [.mk W.o_columns [] 0 [],.mk W.k_values [] 0 a] (by subst hcl3 hcl0;exact rfl) (.inl rfl) (by simp) fun cl4 hcl4=>?_)
    iterate 6 (first|refine G.n' rfl ?_|refine G.s' rfl ?_|cbv|skip)
    exact FinL.go (W.rt hK) hy hz (yd hcl4) rfl (nb rfl)
  |false=>
   have hK:=hK1
   have hz:=hz1
   have hy:=hy1
   cbv
   refine G.c' (hnames _ _ _ _ _ hy rfl hz (nb rfl) (W.mono (W.with (W.bd hK) fun a z' b' h=>hnl a z _ z' b' h) fun nl z b hK hz y hy cl hcl=>?_))
   obtain⟨hne,hK⟩:=hK
   cbv
   refine G.c' (va nl hcl (.inl rfl) (Nat.le_trans hne.2 (by decide)) fun cl0 hcl0=>?_)
   cbv
   refine G.c' (hgot _ _ _ _ _ _ hy rfl hz (nb rfl) (W.mono (W.bd hK) fun v z b hK hz y hy=>?_))
   cbv
   rw[hnt]
   cases v with
   |false=>
    cbv
    refine G.c' (hbody _ _ _ _ _ hy rfl hz (nb rfl) (W.mono (W.bd hK) fun a z b hK hz y hy cl hcl=>?_))
    obtain⟨o,s,k,l⟩:=a
    iterate 6 (first|refine G.n' rfl ?_|refine G.s' rfl ?_|cbv|skip)
    refine G.c' (va [.mk W.o_columns [] 0 nl,.mk o s k l] (by subst hcl hcl0;exact rfl) (.inl rfl) (by simp) fun cl4 hcl4=>?_)
    iterate 6 (first|refine G.n' rfl ?_|refine G.s' rfl ?_|cbv|skip)
    exact FinL.go (W.rt hK) hy hz (yd hcl4) rfl (nb rfl)
   |true=>
    have hK:=W.as hK
    cbv
    refine G.c' (hrow _ _ _ _ _ hy rfl hz (nb rfl) (W.mono (W.bd hK) fun a z b hK hz y hy cl hcl=>?_))
    obtain⟨o,s,k,l⟩:=a
    cbv
    refine G.n' rfl ?_
    refine G.l' ?_
    change za Tryz.prog (Pr.tab real) 59 c57_0_0 _ _ _
    refine za.relax (za.weak (env':=[(0,.ptr 0 0),(2,.ptr 1 0),(3,.str w),(7,.ptr 2 0),(8,.slice 24 [.agg [.str o,.str s,.int .i64 k,.slice 24 cl .no]] .exact)]) (.cons rfl (.cons rfl (.cons rfl (.cons rfl (.cons rfl (.nil _)))))) (hloop _ _ _ cl0 w _ _ _ _ _ [.mk o s k l] _ _ _ hy hz (by subst hcl;rfl) (.fresh _) (by simp;omega) (W.mono (W.bd hK) fun a z b hK hz y cl2 m caps hy hcl2 hal hg=>?_)))
    iterate 6 (first|refine G.n' rfl ?_|refine G.s' rfl ?_|cbv|skip)
    refine G.c' (va a hcl2 (.inl rfl) hal fun cl3 hcl3=>?_)
    iterate 6 (first|refine G.n' rfl ?_|refine G.s' rfl ?_|cbv|skip)
    refine G.c' (va [.mk W.o_columns [] 0 nl,.mk W.k_values [] 0 a] (by subst hcl3 hcl0;exact rfl) (.inl rfl) (by simp) fun cl4 hcl4=>?_)
    iterate 6 (first|refine G.n' rfl ?_|refine G.s' rfl ?_|cbv|skip)
    exact FinL.go (W.rt hK) hy hz (yd hcl4) rfl (nb rfl)
theorem ydk{t:List Tk}(ht:Toks t)(hwd:Wd t){n:Nat}(hn:n≤1000000000)(he:Ok t 93 [] (expr t n) Nd.av):Ok t 53 [] (createE t n) Nd.av:=by
 refine Ok.of2 (fun _ _=>rfl) (fun a _ _=>zh _ _ a) fun tv htv z b y K hy hz hK=>?_
 unfold createE at hK
 have hgot:=fun s=>(zj ht.len s).lit
 simp only[← htv] at hgot
 have hmust:=fun s=>(jm ht.len s).lit
 simp only[← htv] at hmust
 have hname:=(qv ht hwd).lit
 rw[← htv] at hname
 have hnames:=(vbx ht hwd hn).litL
 rw[← htv] at hnames
 have hel:=(yc3 ht hwd hn he).litN
 rw[← htv] at hel
 clear htv
 generalize t.length=N at *
 have hnl:=fun a z b z' b' h=>names_len (t:=t) hn a z b z' b' h
 have hloop:=zco (t:=t) (n:=n) tv N hgot hel
 apply ja (un:=0) Pr.tabOk Pr.mixed Rf.fn53 (nb rfl)
 apply qb (mk:=Pr.tab)
 intro _ _ _ _ _ len _ _ _ cmp _ _ _ _ app _ _ _ _ _ _ _ _ _ room not _ _ _ G
 have hnt:=G.not2
 have happ:∀(v:AV) (c:List AV),app [v] c=v::c:=fun v c=>by rw[G.app'];rfl
 have hroom:∀(v:AV) (c:List AV),c.length≤1000000001→room (len (v::c)) 64=true:=fun v c h=>by rw[G.room',G.len'];simp;omega
 have hpos:∀(c:List AV),1≤c.length→cmp BinOp.lss 0 (len c)=true:=fun c h=>by rw[G.cmp',G.len'];simp[vb];omega
 cbv
 refine G.c' (hgot _ _ _ _ _ _ hy rfl hz (nb rfl) (W.mono (W.bd hK) fun q z b hK hz y hy=>?_))
 cases q with
 |true=>
  cbv
  refine G.c' (hname _ _ _ _ _ hy rfl hz (nb rfl) (W.mono (W.bd hK) fun w z b hK hz y hy=>?_))
  cbv
  refine G.c' (hmust _ _ _ _ _ _ hy rfl hz (nb rfl) (W.mono (W.bd hK) fun u z b hK hz y hy=>?_))
  cbv
  have hK:=W.as hK
  refine G.c' (hel _ _ _ _ _ hy rfl hz (nb rfl) (W.mono (W.bd hK) fun a z b hK hz y hy cl hcl=>?_))
  obtain⟨o,s,k,l⟩:=a
  cbv
  refine G.n' rfl ?_
  refine G.l' ?_
  change za Tryz.prog (Pr.tab real) 56 c53_0_0 _ _ _
  refine za.relax (za.weak (env':=[(0,.ptr 0 0),(2,.ptr 1 0),(3,.str w),(4,.slice 24 [.agg [.str o,.str s,.int .i64 k,.slice 24 cl .no]] .exact)]) (.cons rfl (.cons rfl (.cons rfl (.cons rfl (.nil _))))) (hloop w _ _ _ _ _ [.mk o s k l] _ _ _ hy hz (by subst hcl;rfl) (.fresh _) (by simp;omega) (W.mono (W.bd hK) fun a z b hK hz y cl2 m caps hy hcl2 hal hg=>?_)))
  cbv
  refine G.c' (hmust _ _ _ _ _ _ hy rfl hz (nb rfl) (W.mono (W.bd hK) fun u z b hK hz y hy=>?_))
  cbv
  refine G.c' (va a hcl2 (.inl rfl) hal fun cl3 hcl3=>?_)
  cbv
  exact FinL.go (W.rt hK) hy hz (yd hcl3) rfl (nb rfl)
 |false=>
 cbv
 refine G.c' (hgot _ _ _ _ _ _ hy rfl hz (nb rfl) (W.mono (W.bd hK) fun u z b hK hz y hy=>?_))
 cases u<;>cbv
 all_goals (
  refine G.c' (hmust _ _ _ _ _ _ hy rfl hz (nb rfl) (W.mono (W.bd hK) fun u z b hK hz y hy=>?_))
  cbv
  refine G.c' (hname _ _ _ _ _ hy rfl hz (nb rfl) (W.mono (W.bd hK) fun w z b hK hz y hy=>?_))
  cbv
  refine G.c' (hmust _ _ _ _ _ _ hy rfl hz (nb rfl) (W.mono (W.bd hK) fun u z b hK hz y hy=>?_))
  cbv
  refine G.c' (hname _ _ _ _ _ hy rfl hz (nb rfl) (W.mono (W.bd hK) fun w2 z b hK hz y hy=>?_))
  cbv
  refine G.c' (va [] (by exact rfl) (.inr rfl) (by simp) fun cl0 hcl0=>?_)
  cbv
  iterate 6 (first|refine G.n' rfl ?_|refine G.s' rfl ?_|cbv|skip)
  refine G.c' (hnames _ _ _ _ _ hy rfl hz (nb rfl) (W.mono (W.with (W.bd hK) fun a z' b' h=>hnl a z _ z' b' h) fun nl z b hK hz y hy cl hcl=>?_))
  obtain⟨hne,hK⟩:=hK
  iterate 6 (first|refine G.n' rfl ?_|refine G.s' rfl ?_|cbv|skip)
  rw[happ]
  refine G.n' (hroom _ _ (by rw[hcl,xd,List.length_map];exact hne.2)) (G.n' (hpos _ (by rw[hcl,xd,List.length_map];exact hne.1)) ?_)
  cbv
  try rw[happ]
  refine G.c' (va (.mk W.k_on w2 0 []::nl) (by subst hcl hcl0;exact rfl) (.inl rfl) (by simp only[List.length_cons];omega) fun cl4 hcl4=>?_)
  cbv
  iterate 6 (first|refine G.n' rfl ?_|refine G.s' rfl ?_|cbv|skip)
  exact FinL.go (W.rt hK) hy hz (yd hcl4) rfl (nb rfl))
end Go.AM.Rf
namespace Go.AM.Rf
open Go.Proofs Go.AM.Ps Go.AM.W
def sets(t:List Tk)(p:M Nd):Nat→List Nd→M (List Nd)
 | 0,_=>Rf.out
 |r+1,acc=>unbad acc (bd (name t) fun c=>bd (must t g_eq) fun _=>bd p fun e=>bd (got t g_comma) fun q=>match q with
  |true=>sets t p r (acc++[.mk k_set c 0 [e]])
  |false=>rt (acc++[.mk k_set c 0 [e]]))
def updateE(t:List Tk)(n:Nat):M Nd:=bd (name t) fun s=>bd (must t k_set) fun _=>bd (sets t (expr t n) n []) fun l=>bd (whose t n) fun w=>rt (.mk k_update s 0 (l++[w]))
theorem Rf.fn58:FnOk Tryz.prog 58 (fni Tryz.f58 Pr.a58):=⟨⟨Tryz.f58,Tryz.func58,rfl,rfl,rfl,by kernel_rfl⟩,by kernel_rfl⟩
noncomputable def c58:Code:=(fni Tryz.f58 Pr.a58).loop 0
theorem Rf.c58:qf 40 Pr.a58 c58=true:=by kernel_rfl
theorem xeq(K:Ex→Env→St→Prop)(env:Env)(S:St)(h:xg (pAlg Tryz.prog (Pr.tab real) 40) (Pr.tab real) Pr.a58 0 c58 (andThen (za Tryz.prog (Pr.tab real) 40 c58 K) K) env S):za Tryz.prog (Pr.tab real) 40 c58 K env S:=
 vc Pr.tabOk Pr.mixed Rf.c58 h
theorem qdh{t:List Tk}{n:Nat}(tv:AV)(N:Nat)(hgot:∀ s,Lit tv N 24 [.str s] (got t s) .bool)(hmust:∀ s,Lit tv N 56 [.str s] (must t s) (fun _=> .tup []))(hname:Lit tv N 55 [] (name t) AV.str)(hexpr:LitN tv N 93 [] (expr t n))(nm:List UInt8)(K:Ex→Env→St→Prop)(r:Nat) :
 ∀(z:Nat) (b:Bool) (y:Int) (acc:List Nd) (e:TypeId) (cs:List AV) (m:Mode) (caps:List Int),y=z→z≤N→cs=avL acc→GrowsA e m cs caps→acc.length+r≤1900000000 →
  W (sets t (expr t n) r acc) z b (fun a z' b'=>z'≤N→∀(y':Int) (e':TypeId) (cl':List AV) (m':Mode) (caps':List Int),y'=z'→cl'=avL a→a.length≤1900000000→GrowsA e' m' cl' caps'→K (.exit 0) [(0,.ptr 0 0),(2,.ptr 1 0),(3,.str nm),(4,.slice e' cl' m')] ⟨[(1,[.str [],.str [],.int .i64 0,.slice 0 [] .exact]),(0,[tv,.int .i64 y',.bool b'])],2,caps'⟩) →
  za Tryz.prog (Pr.tab real) 40 c58 (Less K) [(0,.ptr 0 0),(2,.ptr 1 0),(3,.str nm),(4,.slice e cs m)] ⟨[(1,[.str [],.str [],.int .i64 0,.slice 0 [] .exact]),(0,[tv,.int .i64 y,.bool b])],2,caps⟩:=by
 induction r with
 |zero=>
  intro z b y acc e cs m caps _ _ _ _ _ hK
  obtain⟨_,_,_,h,_⟩:=hK
  cases h
 |succ r ih=>
  intro z b y acc e cs m caps hy hz hcs hg hal hK
  have hlen:cs.length≤2000000000:=by rw[hcs,xd,List.length_map];omega
  have happ':∀ op s k l cl,cl=avL l→cs++[.agg [.str op,.str s,.int .i64 k,.slice 24 cl .no]]=avL (acc++[.mk op s k l]):=by
   intro op s k l cl hcl
   rw[hcs,hcl,xd acc,xd (acc++_),List.map_append];rfl
  have hg0:=hg
  have hacc0:cs=[]→acc=[]:=fun h=>by
   rw[h] at hcs
   cases acc with
   |nil=>rfl
   |cons x r=>simp[avL] at hcs
  apply xeq
  apply xb (mk:=Pr.tab)
  intro _ _ _ _ _ len _ _ _ cmp _ _ _ _ app _ _ _ _ _ _ _ _ _ room not _ _ _ G
  have hnt:=G.not2
  have happ0:∀ v,app [] [v]=[v]:=fun v=>by rw[G.app'];rfl
  have hroom0:∀ v,room (len [v]) 64=true:=fun v=>by rw[G.room',G.len'];simp
  have hlen0:∀ v,len [v]=1:=fun v=>by rw[G.len'];rfl
  have hX:∀ op s k l cl,cl=avL l→∃(cc:List AV) (nn:Int),app cs [.agg [.str op,.str s,.int .i64 k,.slice 24 cl .no]]=cc∧room (len cc) 64=true∧len cc=nn∧cc=avL (acc++[.mk op s k l])∧GrowsA 24 (.own 0) cc [nn]:=by
   intro op s k l cl hcl
   refine⟨_,_,rfl,?_,rfl,?_,?_⟩
   ·rw[G.app',G.room',G.len'];simp;omega
   ·rw[G.app'];exact happ' op s k l cl hcl
   ·rw[G.app',G.len'];exact .own _ _ rfl
  have heqc:∀ n2:Int,n2=cs.length→cmp BinOp.eql n2 (len cs)=true:=fun n2 h=>by rw[G.cmp',G.len',h];simp[vb]
  generalize hL:za Tryz.prog (Pr.tab real) 40 c58 (Less K)=L at *
  generalize hK':Less K=K' at *
  have hal2:acc.length≤1900000000:=by omega
  cases b with
  |true=>
   have hK:=W.unbad1 hK
   cbv
   rw[hnt]
   cbv
   rw[← hK']
   exact⟨[(0,.ptr 0 0),(2,.ptr 1 0),(3,.str nm),(4,.slice e cs m)],(.cons rfl (.cons rfl (.cons rfl (.cons rfl (.nil _))))),hK hz _ _ _ _ _ hy hcs hal2 hg0⟩
  |false=>
   have hK:=W.unbad0 hK
   cases hg with
   |nil=>
    obtain rfl:=hacc0 rfl
    cbv
    rw[hnt]
    cbv
    refine G.c' (hname _ _ _ _ _ hy rfl hz (nb rfl) (W.mono (W.bd hK) fun c z b hK hz y hy=>?_))
    cbv
    refine G.c' (hmust _ _ _ _ _ _ hy rfl hz (nb rfl) (W.mono (W.bd hK) fun u z b hK hz y hy=>?_))
    cbv
    refine G.c' (hexpr _ _ _ _ _ hy rfl hz (nb rfl) (W.mono (W.bd hK) fun a z b hK hz y hy cl hcl=>?_))
    obtain⟨o,s,k,l⟩:=a
    iterate 4 (first|refine G.n' rfl ?_|refine G.s' rfl ?_|cbv|skip)
    refine G.c' (va [.mk o s k l] (by subst hcl;exact rfl) (.inl rfl) (by simp) fun cl3 hcl3=>?_)
    iterate 4 (first|refine G.n' rfl ?_|refine G.s' rfl ?_|cbv|skip)
    rw[happ0]
    refine G.n' (hroom0 _) ?_
    rw[hlen0]
    cbv
    refine G.c' (hgot _ _ _ _ _ _ hy rfl hz (nb rfl) (W.mono (W.bd hK) fun more z b hK hz y hy=>?_))
    cbv
    rw[hnt]
    cases more with
    |true=>
     cbv
     have hgo:=ih z b y ([]++[.mk k_set c 0 [.mk o s k l]]) 24 [.agg [.str [115,101,116],.str c,.int .i64 0,.slice 24 cl3 .no]] (.own 0) _ hy hz (by subst hcl3;rfl) (.own _ _ rfl) (by simp only[List.length_append,List.length_cons,List.length_nil];omega) hK
     subst hL
     exact za.weak (env':=[(0,.ptr 0 0),(2,.ptr 1 0),(3,.str nm),(4,.slice 24 [.agg [.str [115,101,116],.str c,.int .i64 0,.slice 24 cl3 .no]] (.own 0))]) (.cons rfl (.cons rfl (.cons rfl (.cons rfl (.nil _))))) hgo
    |false=>
     cbv
     rw[← hK']
     exact⟨[(0,.ptr 0 0),(2,.ptr 1 0),(3,.str nm),(4,.slice 24 [.agg [.str [115,101,116],.str c,.int .i64 0,.slice 24 cl3 .no]] (.own 0))],(.cons rfl (.cons rfl (.cons rfl (.cons rfl (.nil _))))),(W.rt hK) hz _ 24 [.agg [.str [115,101,116],.str c,.int .i64 0,.slice 24 cl3 .no]] (.own 0) _ hy (by subst hcl3;rfl) (by simp only[List.length_append,List.length_cons,List.length_nil];omega) (.own _ _ rfl)⟩
   |own cs n2 hn2=>
    have hq2:=heqc n2 hn2
    cbv
    rw[hnt]
    cbv
    refine G.c' (hname _ _ _ _ _ hy rfl hz (nb rfl) (W.mono (W.bd hK) fun c z b hK hz y hy=>?_))
    cbv
    refine G.c' (hmust _ _ _ _ _ _ hy rfl hz (nb rfl) (W.mono (W.bd hK) fun u z b hK hz y hy=>?_))
    cbv
    refine G.c' (hexpr _ _ _ _ _ hy rfl hz (nb rfl) (W.mono (W.bd hK) fun a z b hK hz y hy cl hcl=>?_))
    obtain⟨o,s,k,l⟩:=a
    iterate 4 (first|refine G.n' rfl ?_|refine G.s' rfl ?_|cbv|skip)
    refine G.c' (va [.mk o s k l] (by subst hcl;exact rfl) (.inl rfl) (by simp) fun cl3 hcl3=>?_)
    obtain⟨cc,nn,h1,h2,h3,h4,h5⟩:=hX _ _ _ _ _ hcl3
    iterate 4 (first|refine G.n' rfl ?_|refine G.s' rfl ?_|cbv|skip)
    rw[h1]
    refine G.n' h2 (G.n' hq2 ?_)
    rw[h3]
    cbv
    refine G.c' (hgot _ _ _ _ _ _ hy rfl hz (nb rfl) (W.mono (W.bd hK) fun more z b hK hz y hy=>?_))
    cbv
    rw[hnt]
    cases more with
    |true=>
     cbv
     have hgo:=ih z b y (acc++[.mk k_set c 0 [.mk o s k l]]) 24 cc (.own 0) _ hy hz h4 h5 (by simp only[List.length_append,List.length_cons,List.length_nil];omega) hK
     subst hL
     exact za.weak (env':=[(0,.ptr 0 0),(2,.ptr 1 0),(3,.str nm),(4,.slice 24 cc (.own 0))]) (.cons rfl (.cons rfl (.cons rfl (.cons rfl (.nil _))))) hgo
    |false=>
     cbv
     rw[← hK']
     exact⟨[(0,.ptr 0 0),(2,.ptr 1 0),(3,.str nm),(4,.slice 24 cc (.own 0))],(.cons rfl (.cons rfl (.cons rfl (.cons rfl (.nil _))))),(W.rt hK) hz _ 24 cc (.own 0) _ hy h4 (by simp only[List.length_append,List.length_cons,List.length_nil];omega) h5⟩
theorem qdk{t:List Tk}(ht:Toks t)(hwd:Wd t){n:Nat}(hn:n≤1000000000)(he:Ok t 93 [] (expr t n) Nd.av):Ok t 58 [] (updateE t n) Nd.av:=by
 refine Ok.of2 (fun _ _=>rfl) (fun a _ _=>zh _ _ a) fun tv htv z b y K hy hz hK=>?_
 unfold updateE at hK
 have hgot:=fun s=>(zj ht.len s).lit
 simp only[← htv] at hgot
 have hmust:=fun s=>(jm ht.len s).lit
 simp only[← htv] at hmust
 have hname:=(qv ht hwd).lit
 rw[← htv] at hname
 have hexpr:=he.litN
 rw[← htv] at hexpr
 have hwhose:=(jcr ht hwd he).litN
 rw[← htv] at hwhose
 clear htv
 generalize t.length=N at *
 have hloop:=qdh (t:=t) (n:=n) tv N hgot hmust hname hexpr
 apply ja (un:=0) Pr.tabOk Pr.mixed Rf.fn58 (nb rfl)
 apply qb (mk:=Pr.tab)
 intro _ _ _ _ _ len _ _ _ cmp _ _ _ _ app _ _ _ _ _ _ _ _ _ room not _ _ _ G
 have hnt:=G.not2
 have happ0:∀ v,app [] [v]=[v]:=fun v=>by rw[G.app'];rfl
 have hroom0:∀ v,room (len [v]) 64=true:=fun v=>by rw[G.room',G.len'];simp
 have hXX:∀(cs:List AV) (a:List Nd) op s k l cl,cs=avL a→cl=avL l→cs.length≤2000000000→∃(cc:List AV),app cs [.agg [.str op,.str s,.int .i64 k,.slice 24 cl .no]]=cc∧room (len cc) 64=true∧cc=avL (a++[.mk op s k l]):=by
  intro cs a op s k l cl hcs hcl hlen
  refine⟨_,rfl,?_,?_⟩
  ·rw[G.app',G.room',G.len'];simp;omega
  ·rw[G.app',hcs,hcl,xd a,xd (a++_),List.map_append];rfl
 have hqq:∀(cs:List AV) (n2:Int),n2=cs.length→cmp BinOp.eql n2 (len cs)=true:=fun cs n2 h=>by rw[G.cmp',G.len',h];simp[vb]
 cbv
 refine G.c' (hname _ _ _ _ _ hy rfl hz (nb rfl) (W.mono (W.bd hK) fun w z b hK hz y hy=>?_))
 cbv
 refine G.c' (hmust _ _ _ _ _ _ hy rfl hz (nb rfl) (W.mono (W.bd hK) fun u z b hK hz y hy=>?_))
 cbv
 refine G.l' ?_
 change za Tryz.prog (Pr.tab real) 40 c58 _ _ _
 refine za.relax (za.weak (env':=[(0,.ptr 0 0),(2,.ptr 1 0),(3,.str w),(4,.slice 0 [] .exact)]) (.cons rfl (.cons rfl (.cons rfl (.cons rfl (.nil _))))) (hloop w _ n _ _ _ [] 0 [] .exact [] hy hz rfl .nil (by simp;omega) (W.mono (W.bd hK) fun a z b hK hz y e cl2 m caps hy hcl2 hal hg=>?_)))
 cbv
 refine G.c' (hwhose _ _ _ _ _ hy rfl hz (nb rfl) (W.mono (W.bd hK) fun x z b hK hz y hy cl3 hcl3=>?_))
 obtain⟨o2,s2,k2,l2⟩:=x
 cases hg with
 |nil=>
  obtain rfl:a=[]:=by
   cases a with
   |nil=>rfl
   |cons x r=>simp[avL] at hcl2
  iterate 6 (first|refine G.n' rfl ?_|refine G.s' rfl ?_|cbv|skip)
  rw[happ0]
  refine G.n' (hroom0 _) ?_
  cbv
  try rw[happ0]
  refine G.c' (va [.mk o2 s2 k2 l2] (by subst hcl3;exact rfl) (.inl rfl) (by simp) fun cl4 hcl4=>?_)
  iterate 6 (first|refine G.n' rfl ?_|refine G.s' rfl ?_|cbv|skip)
  exact FinL.go (W.rt hK) hy hz (yd hcl4) rfl (nb rfl)
 |own cs nn hnn2=>
  have hlen:cl2.length≤2000000000:=by rw[hcl2,xd,List.length_map];omega
  obtain⟨cc,h1,h2,h4⟩:=hXX _ _ o2 s2 k2 l2 _ hcl2 hcl3 hlen
  have hq:=hqq _ _ hnn2
  have hal3:(a++[Nd.mk o2 s2 k2 l2]).length≤2000000000:=by simp only[List.length_append,List.length_cons,List.length_nil];omega
  iterate 6 (first|refine G.n' rfl ?_|refine G.s' rfl ?_|cbv|skip)
  rw[h1]
  refine G.n' h2 (G.n' hq ?_)
  cbv
  try rw[h1]
  refine G.c' (va _ h4 (.inl rfl) hal3 fun cl4 hcl4=>?_)
  iterate 6 (first|refine G.n' rfl ?_|refine G.s' rfl ?_|cbv|skip)
  exact FinL.go (W.rt hK) hy hz (yd hcl4) rfl (nb rfl)
end Go.AM.Rf
