/- The document's reader: simple queries; all of its functions. -/
import Derived.Test.YteomefghofhkiaaGreatDoorRfPi
import Derived.Test.YteomefghofhkiaaGreatDoorRfPg
set_option maxRecDepth 100000
set_option maxHeartbeats 40000000
set_option linter.unusedVariables false
set_option linter.unusedSimpArgs false
namespace Go.AM.Rf
open Go.Proofs Go.AM.Ps Go.AM.W
def Pad(K:Ex→Env→St→Prop):Ex→Env→St→Prop:=fun e env S=>∃ S2:St,S2.objs=S.objs∧S2.next=S.next∧(∃ p,S2.caps=S.caps++p)∧K e env S2
theorem W.rbx{α β:Type}{a:α}{f:α→M β}{z:Nat}{b:Bool}{Q:β→Nat→Bool→Prop}(h:W (Rf.bd (Rf.rt a) f) z b Q):∃ x,x=a∧W (f x) z b Q:=⟨a,rfl,W.rb h⟩
theorem ycb:∀(l p:List Int) (k:Nat),k<l.length→qu (l++p) k=qu l k
 | [],_,k,h=>absurd h (Nat.not_lt_zero k)
 |a::l,p,0,_=>rfl
 |a::l,p,k+1,h=>ycb l p k (Nat.lt_of_succ_lt_succ h)
theorem za.pad{P:Program}{T:Tab}{N:Nat}{c:Code}{K:Ex→Env→St→Prop}{env:Env}{S:St}(h:za P T N c (Pad K) env S):za P T N c K env S:=by
 intro C hC g a w hI b k cs
 obtain⟨e,a',w',⟨ex,env,S,g',⟨⟨o2,n2,c2⟩,hr,hn,⟨p,hc⟩,q⟩,r,hI⟩,harr⟩:=h C hC g a w hI b k cs
 refine⟨e,a',w',⟨ex,env,⟨o2,n2,c2⟩,g',q,r,?_⟩,harr⟩
 subst hr hn hc
 refine⟨hI.tmp,hI.size,hI.defers,⟨hI.rel.obj,hI.rel.inj,hI.rel.dom,hI.rel.apart,hI.rel.live,fun k tk e=>?_,hI.rel.tinj⟩,hI.ext,hI.ob,hI.tb,hI.glob,hI.nm,hI.next⟩
 obtain⟨h1,h2,h3⟩:=hI.rel.tok k tk e
 exact⟨by rw[List.length_append];omega,(ycb _ _ _ h1).trans h2,h3⟩
theorem Rf.fn139:FnOk Tryz.prog 139 (fni Tryz.f139 Pr.a139):=⟨⟨Tryz.f139,Tryz.func139,rfl,rfl,rfl,by kernel_rfl⟩,by kernel_rfl⟩
inductive Grows139_0_0:Mode→List AV→List Int→Prop where
 |fresh (v:AV):Grows139_0_0 .exact [v] []
 |own (cs:List AV) (nn:Int) (h:nn=cs.length):Grows139_0_0 (.own 0) cs [nn]
noncomputable def c139_0_0:Code:=(fni Tryz.f139 Pr.a139).loop 0
theorem Rf.c139_0_0:qf 111 Pr.a139 c139_0_0=true:=by kernel_rfl
theorem qb3(K:Ex→Env→St→Prop)(env:Env)(S:St)(h:xg (pAlg Tryz.prog (Pr.tab real) 111) (Pr.tab real) Pr.a139 0 c139_0_0 (andThen (za Tryz.prog (Pr.tab real) 111 c139_0_0 K) K) env S):za Tryz.prog (Pr.tab real) 111 c139_0_0 K env S:=
 vc Pr.tabOk Pr.mixed Rf.c139_0_0 h
theorem jc6{t:List Tk}{n:Nat}(tv:AV)(N:Nat)(hgot:∀ s,Lit tv N 24 [.str s] (got t s) .bool)(hitem:LitN tv N 152 [] (item t n))(d:Int)(K:Ex→Env→St→Prop)(r:Nat) :
 ∀(z:Nat) (b:Bool) (y:Int) (acc:List Nd) (cs:List AV) (m:Mode) (caps:List Int),y=z→z≤N→cs=avL acc→Grows139_0_0 m cs caps→acc.length+r≤2000000000 →
  W (commas t (item t n) r acc) z b (fun a z' b'=>z'≤N→∀(y':Int) (cl':List AV) (m':Mode) (caps':List Int),y'=z'→cl'=avL a→a.length≤2000000000→Grows139_0_0 m' cl' caps'→K (.exit 0) [(0,.ptr 0 0),(2,.ptr 1 0),(4,.int .i64 d),(5,.slice 24 cl' m')] ⟨[(1,[.str [],.str [],.int .i64 0,.slice 0 [] .exact]),(0,[tv,.int .i64 y',.bool b'])],2,caps'⟩) →
  za Tryz.prog (Pr.tab real) 111 c139_0_0 (Less K) [(0,.ptr 0 0),(2,.ptr 1 0),(4,.int .i64 d),(5,.slice 24 cs m)] ⟨[(1,[.str [],.str [],.int .i64 0,.slice 0 [] .exact]),(0,[tv,.int .i64 y,.bool b])],2,caps⟩:=by
 induction r with
 |zero=>
  intro z b y acc cs m caps _ _ _ _ _ hK
  obtain⟨_,_,_,h,_⟩:=hK
  cases h
 |succ r ih=>
  intro z b y acc cs m caps hy hz hcs hg hal hK
  have hlen:cs.length≤2000000000:=by rw[hcs,xd,List.length_map];omega
  have happ':∀ op s k l cl,cl=avL l→cs++[.agg [.str op,.str s,.int .i64 k,.slice 24 cl .no]]=avL (acc++[.mk op s k l]):=by
   intro op s k l cl hcl
   rw[hcs,hcl,xd acc,xd (acc++_),List.map_append];rfl
  have hg0:=hg
  apply qb3
  apply xb (mk:=Pr.tab)
  intro _ _ _ _ _ len _ _ _ cmp _ _ _ _ app _ _ _ _ _ _ _ _ _ room not _ _ _ G
  have hnt:=G.not2
  have hX:∀ op s k l cl,cl=avL l→∃(cc:List AV) (nn:Int),app cs [.agg [.str op,.str s,.int .i64 k,.slice 24 cl .no]]=cc∧room (len cc) 64=true∧len cc=nn∧cc=avL (acc++[.mk op s k l])∧Grows139_0_0 (.own 0) cc [nn]:=by
   intro op s k l cl hcl
   refine⟨_,_,rfl,?_,rfl,?_,?_⟩
   ·rw[G.app',G.room',G.len'];simp;omega
   ·rw[G.app'];exact happ' op s k l cl hcl
   ·rw[G.app',G.len'];exact .own _ _ rfl
  have h01:∀ x,cmp BinOp.lss 0 (len [x])=true:=fun x=>by rw[G.cmp',G.len'];rfl
  have heqc:∀ n2:Int,n2=cs.length→cmp BinOp.eql n2 (len cs)=true:=fun n2 h=>by rw[G.cmp',G.len',h];simp[vb]
  generalize hL:za Tryz.prog (Pr.tab real) 111 c139_0_0 (Less K)=L at *
  generalize hK':Less K=K' at *
  clear hlen happ'
  have hal2:acc.length≤2000000000:=by omega
  cases b with
  |true=>
   have hK:=W.unbad1 hK
   cbv
   rw[hnt]
   cbv
   rw[← hK']
   exact⟨[(0,.ptr 0 0),(2,.ptr 1 0),(4,.int .i64 d),(5,.slice 24 cs m)],(.cons rfl (.cons rfl (.cons rfl (.cons rfl (.nil _))))),hK hz _ _ _ _ hy hcs hal2 hg0⟩
  |false=>
   have hK:=W.unbad0 hK
   cases hg with
   |fresh v=>
    cbv
    rw[hnt]
    cbv
    refine G.c' (hgot _ _ _ _ _ _ hy rfl hz (nb rfl) (W.mono (W.bd hK) fun a z b hK hz y hy=>?_))
    cases a with
    |false=>
     cbv
     rw[hnt]
     cbv
     rw[← hK']
     exact⟨[(0,.ptr 0 0),(2,.ptr 1 0),(4,.int .i64 d),(5,.slice 24 [v] .exact)],(.cons rfl (.cons rfl (.cons rfl (.cons rfl (.nil _))))),(W.rt hK) hz _ _ _ _ hy hcs hal2 hg0⟩
    |true=>
    cbv
    rw[hnt]
    cbv
    refine G.c' (hitem _ _ _ _ _ hy rfl hz (nb rfl) (W.mono (W.bd hK) fun a z b hK hz y hy cl hcl=>?_))
    obtain⟨o,s,k,l⟩:=a
    cbv
    have hgo:=fun cs' m' caps' q1 q2 q3=>ih z b y (acc++[.mk o s k l]) cs' m' caps' hy hz q1 q2 q3 hK
    obtain⟨cc,nn,h1,h2,h3,h4,h5⟩:=hX o s k l cl hcl
    have hgo:=hgo cc (.own 0) [nn] h4 h5 (by simp;omega)
    have h6:=h01 (AV.agg [.str o,.str s,.int .i64 k,.slice 24 cl .no])
    clear hX ih
    cbv
    iterate 3 (first|refine G.n' rfl ?_|skip)
    rw[h1]
    refine G.n' h2 (G.n' h6 ?_)
    rw[h3,← hL] at *
    exact za.weak (env':=[(0,.ptr 0 0),(2,.ptr 1 0),(4,.int .i64 d),(5,.slice 24 cc (.own 0))]) (.cons rfl (.cons rfl (.cons rfl (.cons rfl (.nil _))))) hgo
   |own cs n2 hn2=>
    have hq2:=heqc n2 hn2
    cbv
    rw[hnt]
    cbv
    refine G.c' (hgot _ _ _ _ _ _ hy rfl hz (nb rfl) (W.mono (W.bd hK) fun a z b hK hz y hy=>?_))
    cases a with
    |false=>
     cbv
     rw[hnt]
     cbv
     rw[← hK']
     exact⟨[(0,.ptr 0 0),(2,.ptr 1 0),(4,.int .i64 d),(5,.slice 24 cs (.own 0))],(.cons rfl (.cons rfl (.cons rfl (.cons rfl (.nil _))))),(W.rt hK) hz _ _ _ _ hy hcs hal2 hg0⟩
    |true=>
    cbv
    rw[hnt]
    cbv
    refine G.c' (hitem _ _ _ _ _ hy rfl hz (nb rfl) (W.mono (W.bd hK) fun a z b hK hz y hy cl hcl=>?_))
    obtain⟨o,s,k,l⟩:=a
    cbv
    have hgo:=fun cs' m' caps' q1 q2 q3=>ih z b y (acc++[.mk o s k l]) cs' m' caps' hy hz q1 q2 q3 hK
    obtain⟨cc,nn,h1,h2,h3,h4,h5⟩:=hX o s k l cl hcl
    have hgo:=hgo cc (.own 0) [nn] h4 h5 (by simp;omega)
    have h6:=h01 (AV.agg [.str o,.str s,.int .i64 k,.slice 24 cl .no])
    clear hX ih
    cbv
    iterate 3 (first|refine G.n' rfl ?_|skip)
    rw[h1]
    refine G.n' h2 (G.n' hq2 ?_)
    rw[h3,← hL] at *
    exact za.weak (env':=[(0,.ptr 0 0),(2,.ptr 1 0),(4,.int .i64 d),(5,.slice 24 cc (.own 0))]) (.cons rfl (.cons rfl (.cons rfl (.cons rfl (.nil _))))) hgo
inductive Grows139_1_1 (p1:Int):Mode→List AV→List Int→Prop where
 |fresh (v:AV):Grows139_1_1 p1 .exact [v] [p1]
 |own (cs:List AV) (nn:Int) (h:nn=cs.length):Grows139_1_1 p1 (.own 1) cs [p1,nn]
noncomputable def c139_1_1:Code:=(fni Tryz.f139 Pr.a139).loop 1
theorem Rf.c139_1_1:qf 111 Pr.a139 c139_1_1=true:=by kernel_rfl
theorem yb2(K:Ex→Env→St→Prop)(env:Env)(S:St)(h:xg (pAlg Tryz.prog (Pr.tab real) 111) (Pr.tab real) Pr.a139 0 c139_1_1 (andThen (za Tryz.prog (Pr.tab real) 111 c139_1_1 K) K) env S):za Tryz.prog (Pr.tab real) 111 c139_1_1 K env S:=
 vc Pr.tabOk Pr.mixed Rf.c139_1_1 h
theorem vdr{t:List Tk}{n:Nat}(tv:AV)(N:Nat)(hgot:∀ s,Lit tv N 24 [.str s] (got t s) .bool)(htable:LitN tv N 153 [] (table t n))(d:Int)(its:List AV)(m5:Mode)(p1:Int)(K:Ex→Env→St→Prop)(r:Nat) :
 ∀(z:Nat) (b:Bool) (y:Int) (acc:List Nd) (cs:List AV) (m:Mode) (caps:List Int),y=z→z≤N→cs=avL acc→Grows139_1_1 p1 m cs caps→acc.length+r≤2000000000 →
  W (commas t (table t n) r acc) z b (fun a z' b'=>z'≤N→∀(y':Int) (cl':List AV) (m':Mode) (caps':List Int),y'=z'→cl'=avL a→a.length≤2000000000→Grows139_1_1 p1 m' cl' caps'→K (.exit 2) [(0,.ptr 0 0),(2,.ptr 1 0),(4,.int .i64 d),(5,.slice 24 its m5),(7,.slice 24 cl' m')] ⟨[(1,[.str [],.str [],.int .i64 0,.slice 0 [] .exact]),(0,[tv,.int .i64 y',.bool b'])],2,caps'⟩) →
  za Tryz.prog (Pr.tab real) 111 c139_1_1 (Less K) [(0,.ptr 0 0),(2,.ptr 1 0),(4,.int .i64 d),(5,.slice 24 its m5),(7,.slice 24 cs m)] ⟨[(1,[.str [],.str [],.int .i64 0,.slice 0 [] .exact]),(0,[tv,.int .i64 y,.bool b])],2,caps⟩:=by
 induction r with
 |zero=>
  intro z b y acc cs m caps _ _ _ _ _ hK
  obtain⟨_,_,_,h,_⟩:=hK
  cases h
 |succ r ih=>
  intro z b y acc cs m caps hy hz hcs hg hal hK
  have hlen:cs.length≤2000000000:=by rw[hcs,xd,List.length_map];omega
  have happ':∀ op s k l cl,cl=avL l→cs++[.agg [.str op,.str s,.int .i64 k,.slice 24 cl .no]]=avL (acc++[.mk op s k l]):=by
   intro op s k l cl hcl
   rw[hcs,hcl,xd acc,xd (acc++_),List.map_append];rfl
  have hg0:=hg
  apply yb2
  apply xb (mk:=Pr.tab)
  intro _ _ _ _ _ len _ _ _ cmp _ _ _ _ app _ _ _ _ _ _ _ _ _ room not _ _ _ G
  have hnt:=G.not2
  have hX:∀ op s k l cl,cl=avL l→∃(cc:List AV) (nn:Int),app cs [.agg [.str op,.str s,.int .i64 k,.slice 24 cl .no]]=cc∧room (len cc) 64=true∧len cc=nn∧cc=avL (acc++[.mk op s k l])∧Grows139_1_1 p1 (.own 1) cc [p1,nn]:=by
   intro op s k l cl hcl
   refine⟨_,_,rfl,?_,rfl,?_,?_⟩
   ·rw[G.app',G.room',G.len'];simp;omega
   ·rw[G.app'];exact happ' op s k l cl hcl
   ·rw[G.app',G.len'];exact .own _ _ rfl
  have h01:∀ x,cmp BinOp.lss 0 (len [x])=true:=fun x=>by rw[G.cmp',G.len'];rfl
  have heqc:∀ n2:Int,n2=cs.length→cmp BinOp.eql n2 (len cs)=true:=fun n2 h=>by rw[G.cmp',G.len',h];simp[vb]
  generalize hL:za Tryz.prog (Pr.tab real) 111 c139_1_1 (Less K)=L at *
  generalize hK':Less K=K' at *
  clear hlen happ'
  have hal2:acc.length≤2000000000:=by omega
  cases b with
  |true=>
   have hK:=W.unbad1 hK
   cbv
   rw[hnt]
   cbv
   rw[← hK']
   exact⟨[(0,.ptr 0 0),(2,.ptr 1 0),(4,.int .i64 d),(5,.slice 24 its m5),(7,.slice 24 cs m)],(.cons rfl (.cons rfl (.cons rfl (.cons rfl (.cons rfl (.nil _)))))),hK hz _ _ _ _ hy hcs hal2 hg0⟩
  |false=>
   have hK:=W.unbad0 hK
   cases hg with
   |fresh v=>
    cbv
    rw[hnt]
    cbv
    refine G.c' (hgot _ _ _ _ _ _ hy rfl hz (nb rfl) (W.mono (W.bd hK) fun a z b hK hz y hy=>?_))
    cases a with
    |false=>
     cbv
     rw[hnt]
     cbv
     rw[← hK']
     exact⟨[(0,.ptr 0 0),(2,.ptr 1 0),(4,.int .i64 d),(5,.slice 24 its m5),(7,.slice 24 [v] .exact)],(.cons rfl (.cons rfl (.cons rfl (.cons rfl (.cons rfl (.nil _)))))),(W.rt hK) hz _ _ _ _ hy hcs hal2 hg0⟩
    |true=>
    cbv
    rw[hnt]
    cbv
    refine G.c' (htable _ _ _ _ _ hy rfl hz (nb rfl) (W.mono (W.bd hK) fun a z b hK hz y hy cl hcl=>?_))
    obtain⟨o,s,k,l⟩:=a
    cbv
    have hgo:=fun cs' m' caps' q1 q2 q3=>ih z b y (acc++[.mk o s k l]) cs' m' caps' hy hz q1 q2 q3 hK
    obtain⟨cc,nn,h1,h2,h3,h4,h5⟩:=hX o s k l cl hcl
    have hgo:=hgo cc (.own 1) [p1,nn] h4 h5 (by simp;omega)
    have h6:=h01 (AV.agg [.str o,.str s,.int .i64 k,.slice 24 cl .no])
    clear hX ih
    cbv
    iterate 3 (first|refine G.n' rfl ?_|skip)
    rw[h1]
    refine G.n' h2 (G.n' h6 ?_)
    rw[h3,← hL] at *
    exact za.weak (env':=[(0,.ptr 0 0),(2,.ptr 1 0),(4,.int .i64 d),(5,.slice 24 its m5),(7,.slice 24 cc (.own 1))]) (.cons rfl (.cons rfl (.cons rfl (.cons rfl (.cons rfl (.nil _)))))) hgo
   |own cs n2 hn2=>
    have hq2:=heqc n2 hn2
    cbv
    rw[hnt]
    cbv
    refine G.c' (hgot _ _ _ _ _ _ hy rfl hz (nb rfl) (W.mono (W.bd hK) fun a z b hK hz y hy=>?_))
    cases a with
    |false=>
     cbv
     rw[hnt]
     cbv
     rw[← hK']
     exact⟨[(0,.ptr 0 0),(2,.ptr 1 0),(4,.int .i64 d),(5,.slice 24 its m5),(7,.slice 24 cs (.own 1))],(.cons rfl (.cons rfl (.cons rfl (.cons rfl (.cons rfl (.nil _)))))),(W.rt hK) hz _ _ _ _ hy hcs hal2 hg0⟩
    |true=>
    cbv
    rw[hnt]
    cbv
    refine G.c' (htable _ _ _ _ _ hy rfl hz (nb rfl) (W.mono (W.bd hK) fun a z b hK hz y hy cl hcl=>?_))
    obtain⟨o,s,k,l⟩:=a
    cbv
    have hgo:=fun cs' m' caps' q1 q2 q3=>ih z b y (acc++[.mk o s k l]) cs' m' caps' hy hz q1 q2 q3 hK
    obtain⟨cc,nn,h1,h2,h3,h4,h5⟩:=hX o s k l cl hcl
    have hgo:=hgo cc (.own 1) [p1,nn] h4 h5 (by simp;omega)
    have h6:=h01 (AV.agg [.str o,.str s,.int .i64 k,.slice 24 cl .no])
    clear hX ih
    cbv
    iterate 3 (first|refine G.n' rfl ?_|skip)
    rw[h1]
    refine G.n' h2 (G.n' hq2 ?_)
    rw[h3,← hL] at *
    exact za.weak (env':=[(0,.ptr 0 0),(2,.ptr 1 0),(4,.int .i64 d),(5,.slice 24 its m5),(7,.slice 24 cc (.own 1))]) (.cons rfl (.cons rfl (.cons rfl (.cons rfl (.cons rfl (.nil _)))))) hgo
inductive Grows139_2_2 (p1:Int) (p2:Int):Mode→List AV→List Int→Prop where
 |fresh (v:AV):Grows139_2_2 p1 p2 .exact [v] [p1,p2]
 |own (cs:List AV) (nn:Int) (h:nn=cs.length):Grows139_2_2 p1 p2 (.own 2) cs [p1,p2,nn]
noncomputable def c139_2_2:Code:=(fni Tryz.f139 Pr.a139).loop 2
theorem Rf.c139_2_2:qf 111 Pr.a139 c139_2_2=true:=by kernel_rfl
theorem vb2(K:Ex→Env→St→Prop)(env:Env)(S:St)(h:xg (pAlg Tryz.prog (Pr.tab real) 111) (Pr.tab real) Pr.a139 0 c139_2_2 (andThen (za Tryz.prog (Pr.tab real) 111 c139_2_2 K) K) env S):za Tryz.prog (Pr.tab real) 111 c139_2_2 K env S:=
 vc Pr.tabOk Pr.mixed Rf.c139_2_2 h
theorem vc6{t:List Tk}{n:Nat}(tv:AV)(N:Nat)(hgot:∀ s,Lit tv N 24 [.str s] (got t s) .bool)(hcol:LitN tv N 120 [] (column t))(d:Int)(its frs:List AV)(m5 m7:Mode)(og sg ow sw:List UInt8)(kg kw:Int)(clg clw:List AV)(p1:Int)(p2:Int)(K:Ex→Env→St→Prop)(r:Nat) :
 ∀(z:Nat) (b:Bool) (y:Int) (acc:List Nd) (cs:List AV) (m:Mode) (caps:List Int),y=z→z≤N→cs=avL acc→Grows139_2_2 p1 p2 m cs caps→acc.length+r≤2000000000 →
  W (commas t (column t) r acc) z b (fun a z' b'=>z'≤N→∀(y':Int) (cl':List AV) (m':Mode) (caps':List Int),y'=z'→cl'=avL a→a.length≤2000000000→Grows139_2_2 p1 p2 m' cl' caps'→K (.exit 4) [(0,.ptr 0 0),(2,.ptr 1 0),(4,.int .i64 d),(5,.slice 24 its m5),(7,.slice 24 frs m7),(9,.ptr 2 0),(10,.ptr 3 0),(11,.slice 24 cl' m')] ⟨[(3,[.str og,.str sg,.int .i64 kg,.slice 24 clg .no]),(2,[.str ow,.str sw,.int .i64 kw,.slice 24 clw .no]),(1,[.str [],.str [],.int .i64 0,.slice 0 [] .exact]),(0,[tv,.int .i64 y',.bool b'])],4,caps'⟩) →
  za Tryz.prog (Pr.tab real) 111 c139_2_2 (Less K) [(0,.ptr 0 0),(2,.ptr 1 0),(4,.int .i64 d),(5,.slice 24 its m5),(7,.slice 24 frs m7),(9,.ptr 2 0),(10,.ptr 3 0),(11,.slice 24 cs m)] ⟨[(3,[.str og,.str sg,.int .i64 kg,.slice 24 clg .no]),(2,[.str ow,.str sw,.int .i64 kw,.slice 24 clw .no]),(1,[.str [],.str [],.int .i64 0,.slice 0 [] .exact]),(0,[tv,.int .i64 y,.bool b])],4,caps⟩:=by
 induction r with
 |zero=>
  intro z b y acc cs m caps _ _ _ _ _ hK
  obtain⟨_,_,_,h,_⟩:=hK
  cases h
 |succ r ih=>
  intro z b y acc cs m caps hy hz hcs hg hal hK
  have hlen:cs.length≤2000000000:=by rw[hcs,xd,List.length_map];omega
  have happ':∀ op s k l cl,cl=avL l→cs++[.agg [.str op,.str s,.int .i64 k,.slice 24 cl .no]]=avL (acc++[.mk op s k l]):=by
   intro op s k l cl hcl
   rw[hcs,hcl,xd acc,xd (acc++_),List.map_append];rfl
  have hg0:=hg
  apply vb2
  apply xb (mk:=Pr.tab)
  intro _ _ _ _ _ len _ _ _ cmp _ _ _ _ app _ _ _ _ _ _ _ _ _ room not _ _ _ G
  have hnt:=G.not2
  have hX:∀ op s k l cl,cl=avL l→∃(cc:List AV) (nn:Int),app cs [.agg [.str op,.str s,.int .i64 k,.slice 24 cl .no]]=cc∧room (len cc) 64=true∧len cc=nn∧cc=avL (acc++[.mk op s k l])∧Grows139_2_2 p1 p2 (.own 2) cc [p1,p2,nn]:=by
   intro op s k l cl hcl
   refine⟨_,_,rfl,?_,rfl,?_,?_⟩
   ·rw[G.app',G.room',G.len'];simp;omega
   ·rw[G.app'];exact happ' op s k l cl hcl
   ·rw[G.app',G.len'];exact .own _ _ rfl
  have h01:∀ x,cmp BinOp.lss 0 (len [x])=true:=fun x=>by rw[G.cmp',G.len'];rfl
  have heqc:∀ n2:Int,n2=cs.length→cmp BinOp.eql n2 (len cs)=true:=fun n2 h=>by rw[G.cmp',G.len',h];simp[vb]
  generalize hL:za Tryz.prog (Pr.tab real) 111 c139_2_2 (Less K)=L at *
  generalize hK':Less K=K' at *
  clear hlen happ'
  have hal2:acc.length≤2000000000:=by omega
  cases b with
  |true=>
   have hK:=W.unbad1 hK
   cbv
   rw[hnt]
   cbv
   rw[← hK']
   exact⟨[(0,.ptr 0 0),(2,.ptr 1 0),(4,.int .i64 d),(5,.slice 24 its m5),(7,.slice 24 frs m7),(9,.ptr 2 0),(10,.ptr 3 0),(11,.slice 24 cs m)],(.cons rfl (.cons rfl (.cons rfl (.cons rfl (.cons rfl (.cons rfl (.cons rfl (.cons rfl (.nil _))))))))),hK hz _ _ _ _ hy hcs hal2 hg0⟩
  |false=>
   have hK:=W.unbad0 hK
   cases hg with
   |fresh v=>
    cbv
    rw[hnt]
    cbv
    refine G.c' (hgot _ _ _ _ _ _ hy rfl hz (nb rfl) (W.mono (W.bd hK) fun a z b hK hz y hy=>?_))
    cases a with
    |false=>
     cbv
     rw[hnt]
     cbv
     rw[← hK']
     exact⟨[(0,.ptr 0 0),(2,.ptr 1 0),(4,.int .i64 d),(5,.slice 24 its m5),(7,.slice 24 frs m7),(9,.ptr 2 0),(10,.ptr 3 0),(11,.slice 24 [v] .exact)],(.cons rfl (.cons rfl (.cons rfl (.cons rfl (.cons rfl (.cons rfl (.cons rfl (.cons rfl (.nil _))))))))),(W.rt hK) hz _ _ _ _ hy hcs hal2 hg0⟩
    |true=>
    cbv
    rw[hnt]
    cbv
    refine G.c' (hcol _ _ _ _ _ hy rfl hz (nb rfl) (W.mono (W.bd hK) fun a z b hK hz y hy cl hcl=>?_))
    obtain⟨o,s,k,l⟩:=a
    cbv
    have hgo:=fun cs' m' caps' q1 q2 q3=>ih z b y (acc++[.mk o s k l]) cs' m' caps' hy hz q1 q2 q3 hK
    obtain⟨cc,nn,h1,h2,h3,h4,h5⟩:=hX o s k l cl hcl
    have hgo:=hgo cc (.own 2) [p1,p2,nn] h4 h5 (by simp;omega)
    have h6:=h01 (AV.agg [.str o,.str s,.int .i64 k,.slice 24 cl .no])
    clear hX ih
    cbv
    iterate 3 (first|refine G.n' rfl ?_|skip)
    rw[h1]
    refine G.n' h2 (G.n' h6 ?_)
    rw[h3,← hL] at *
    exact za.weak (env':=[(0,.ptr 0 0),(2,.ptr 1 0),(4,.int .i64 d),(5,.slice 24 its m5),(7,.slice 24 frs m7),(9,.ptr 2 0),(10,.ptr 3 0),(11,.slice 24 cc (.own 2))]) (.cons rfl (.cons rfl (.cons rfl (.cons rfl (.cons rfl (.cons rfl (.cons rfl (.cons rfl (.nil _))))))))) hgo
   |own cs n2 hn2=>
    have hq2:=heqc n2 hn2
    cbv
    rw[hnt]
    cbv
    refine G.c' (hgot _ _ _ _ _ _ hy rfl hz (nb rfl) (W.mono (W.bd hK) fun a z b hK hz y hy=>?_))
    cases a with
    |false=>
     cbv
     rw[hnt]
     cbv
     rw[← hK']
     exact⟨[(0,.ptr 0 0),(2,.ptr 1 0),(4,.int .i64 d),(5,.slice 24 its m5),(7,.slice 24 frs m7),(9,.ptr 2 0),(10,.ptr 3 0),(11,.slice 24 cs (.own 2))],(.cons rfl (.cons rfl (.cons rfl (.cons rfl (.cons rfl (.cons rfl (.cons rfl (.cons rfl (.nil _))))))))),(W.rt hK) hz _ _ _ _ hy hcs hal2 hg0⟩
    |true=>
    cbv
    rw[hnt]
    cbv
    refine G.c' (hcol _ _ _ _ _ hy rfl hz (nb rfl) (W.mono (W.bd hK) fun a z b hK hz y hy cl hcl=>?_))
    obtain⟨o,s,k,l⟩:=a
    cbv
    have hgo:=fun cs' m' caps' q1 q2 q3=>ih z b y (acc++[.mk o s k l]) cs' m' caps' hy hz q1 q2 q3 hK
    obtain⟨cc,nn,h1,h2,h3,h4,h5⟩:=hX o s k l cl hcl
    have hgo:=hgo cc (.own 2) [p1,p2,nn] h4 h5 (by simp;omega)
    have h6:=h01 (AV.agg [.str o,.str s,.int .i64 k,.slice 24 cl .no])
    clear hX ih
    cbv
    iterate 3 (first|refine G.n' rfl ?_|skip)
    rw[h1]
    refine G.n' h2 (G.n' hq2 ?_)
    rw[h3,← hL] at *
    exact za.weak (env':=[(0,.ptr 0 0),(2,.ptr 1 0),(4,.int .i64 d),(5,.slice 24 its m5),(7,.slice 24 frs m7),(9,.ptr 2 0),(10,.ptr 3 0),(11,.slice 24 cc (.own 2))]) (.cons rfl (.cons rfl (.cons rfl (.cons rfl (.cons rfl (.cons rfl (.cons rfl (.cons rfl (.nil _))))))))) hgo
theorem yb9{m:Mode}{cs:List AV}{caps:List Int}(h:Grows139_0_0 m cs caps):∃ q,∃ p,[q]=caps++p:=by
 cases h with
 |fresh v=>exact⟨0,[0],rfl⟩
 |own cs nn h=>exact⟨nn,[],rfl⟩
theorem jcu{p1:Int}{m:Mode}{cs:List AV}{caps:List Int}(h:Grows139_1_1 p1 m cs caps):∃ q,∃ p,[p1,q]=caps++p:=by
 cases h with
 |fresh v=>exact⟨0,[0],rfl⟩
 |own cs nn h=>exact⟨nn,[],rfl⟩
theorem xa2{p1:Int}{p2:Int}{m:Mode}{cs:List AV}{caps:List Int}(h:Grows139_2_2 p1 p2 m cs caps):∃ q,∃ p,[p1,p2,q]=caps++p:=by
 cases h with
 |fresh v=>exact⟨0,[0],rfl⟩
 |own cs nn h=>exact⟨nn,[],rfl⟩
theorem zdk{t:List Tk}(ht:Toks t)(hwd:Wd t){n:Nat}(hn:n≤1000000000)(hb:Ok t 86 [] (body t n) Nd.av)(he:Ok t 93 [] (expr t n) Nd.av)(hi:Ok t 152 [] (item t n) Nd.av)(htb:Ok t 153 [] (table t n) Nd.av):Ok t 139 [] (simple t (n+1)) Nd.av:=by
 refine Ok.of2 (fun _ _=>rfl) (fun a _ _=>zh _ _ a) fun tv htv z b y K hy hz hK=>?_
 unfold simple at hK
 have hgot:=fun s=>(zj ht.len s).lit
 simp only[← htv] at hgot
 have hmust:=fun s=>(jm ht.len s).lit
 simp only[← htv] at hmust
 have hbody:=hb.litN
 rw[← htv] at hbody
 have hexpr:=he.litN
 rw[← htv] at hexpr
 have hitem:=hi.litN
 rw[← htv] at hitem
 have htable:=htb.litN
 rw[← htv] at htable
 have hcol:=(zbg ht hwd).litN
 rw[← htv] at hcol
 clear htv
 generalize t.length=N at *
 have hiloop:=jc6 (t:=t) (n:=n) tv N hgot hitem
 have hfloop:=vdr (t:=t) (n:=n) tv N hgot htable
 have hgloop:=vc6 (t:=t) (n:=n) tv N hgot hcol
 apply ja (un:=0) Pr.tabOk Pr.mixed Rf.fn139 (nb rfl)
 apply qb (mk:=Pr.tab)
 intro fail _ _ _ _ _ _ _ _ _ _ _ _ _ _ _ _ _ _ _ _ _ _ _ _ not _ _ _ G
 have hnt:=G.not2
 cbv
 refine G.c' (hgot _ _ _ _ _ _ hy rfl hz (nb rfl) (W.mono (W.bd hK) fun q z b hK hz y hy=>?_))
 cases q with
 |true=>
  cbv
  repeat' (first
   |(refine G.c' (hmust _ _ _ _ _ _ hy rfl hz (nb rfl) (W.mono (W.bd hK) fun a z b hK hz y hy=>?_));cbv)
   |(refine G.c' (hbody _ _ _ _ _ hy rfl hz (nb rfl) (W.mono (W.bd hK) fun a z b hK hz y hy cl hcl=>?_));obtain⟨o,s,k,l⟩:=a;cbv)
   |exact(W.rt hK).go hy hz (yd (by subst_vars;exact rfl)) rfl (nb rfl)
   |fail)
 |false=>
 cbv
 refine G.c' (hmust _ _ _ _ _ _ hy rfl hz (nb rfl) (W.mono (W.bd hK) fun u z b hK hz y hy=>?_))
 cbv
 refine G.c' (hgot _ _ _ _ _ _ hy rfl hz (nb rfl) (W.mono (W.bd hK) fun dq z b hK hz y hy=>?_))
 cases dq with
 |true=>
  have hK:=W.rb hK
  cbv
  have hK:=W.as hK
  refine G.c' (hitem _ _ _ _ _ hy rfl hz (nb rfl) (W.mono (W.bd hK) fun a z b hK hz y hy cl hcl=>?_))
  obtain⟨o,s,k,l⟩:=a
  cbv
  iterate 6 (first|refine G.n' rfl ?_|refine G.s' rfl ?_|cbv|skip)
  refine G.l' ?_
  change za Tryz.prog (Pr.tab real) 111 c139_0_0 _ _ _
  refine za.pad (za.relax (za.weak (env':=[(0,.ptr 0 0),(2,.ptr 1 0),(4,.int .i64 1),(5,.slice 24 [.agg [.str o,.str s,.int .i64 k,.slice 24 cl .no]] .exact)]) (.cons rfl (.cons rfl (.cons rfl (.cons rfl (.nil _))))) (hiloop 1 _ _ _ _ _ [.mk o s k l] _ _ _ hy hz (by subst hcl;rfl) (.fresh _) (by simp;omega) (W.mono (W.bd hK) fun its z b hK hz y icl im caps hy hits hitl hg=>?_))))
  obtain⟨p1,hp1⟩:=yb9 hg
  refine⟨⟨_,_,[p1]⟩,rfl,rfl,hp1,?_⟩
  clear hg hp1
  cbv
  refine G.c' (hmust _ _ _ _ _ _ hy rfl hz (nb rfl) (W.mono (W.bd hK) fun u z b hK hz y hy=>?_))
  cbv
  have hK:=W.as hK
  refine G.c' (htable _ _ _ _ _ hy rfl hz (nb rfl) (W.mono (W.bd hK) fun a z b hK hz y hy cl hcl=>?_))
  obtain⟨o,s,k,l⟩:=a
  cbv
  iterate 6 (first|refine G.n' rfl ?_|refine G.s' rfl ?_|cbv|skip)
  refine G.l' ?_
  change za Tryz.prog (Pr.tab real) 111 c139_1_1 _ _ _
  refine za.pad (za.relax (za.weak (env':=[(0,.ptr 0 0),(2,.ptr 1 0),(4,.int .i64 1),(5,.slice 24 icl im),(7,.slice 24 [.agg [.str o,.str s,.int .i64 k,.slice 24 cl .no]] .exact)]) (.cons rfl (.cons rfl (.cons rfl (.cons rfl (.cons rfl (.nil _)))))) (hfloop 1 icl im p1 _ _ _ _ _ [.mk o s k l] _ _ _ hy hz (by subst hcl;rfl) (.fresh _) (by simp;omega) (W.mono (W.bd hK) fun frs z b hK hz y fcl fm caps hy hfrs hfrl hg=>?_))))
  obtain⟨p2,hp2⟩:=jcu hg
  refine⟨⟨_,_,[p1,p2]⟩,rfl,rfl,hp2,?_⟩
  clear hg hp2
  cbv
  refine G.c' (va [] (by exact rfl) (.inr rfl) (by simp) fun clw hclw=>?_)
  cbv
  refine G.c' (hgot _ _ _ _ _ _ hy rfl hz (nb rfl) (W.mono (W.bd hK) fun q z b hK hz y hy=>?_))
  cases q with
  |false=>
   obtain⟨wh,hwh,hK⟩:=W.rbx hK
   rw[← hwh] at hclw
   cbv
   refine G.c' (va [] (by exact rfl) (.inr rfl) (by simp) fun clg hclg=>?_)
   cbv
   refine G.c' (hgot _ _ _ _ _ _ hy rfl hz (nb rfl) (W.mono (W.bd hK) fun q z b hK hz y hy=>?_))
   cases q with
   |false=>
    obtain⟨gr,hgr,hK⟩:=W.rbx hK
    rw[← hgr] at hclg
    cbv
    refine G.c' (va [] (by exact rfl) (.inr rfl) (by simp) fun clh hclh=>?_)
    cbv
    refine G.c' (hgot _ _ _ _ _ _ hy rfl hz (nb rfl) (W.mono (W.bd hK) fun q z b hK hz y hy=>?_))
    cases q with
    |false=>
     obtain⟨hv,hhv,hK⟩:=W.rbx hK
     rw[← hhv] at hclh
     cbv
     iterate 6 (first|refine G.n' rfl ?_|refine G.s' rfl ?_|cbv|skip)
     refine G.c' (va its hits (.inl rfl) hitl fun cla hcla=>?_)
     iterate 6 (first|refine G.n' rfl ?_|refine G.s' rfl ?_|cbv|skip)
     refine G.c' (va frs hfrs (.inl rfl) hfrl fun clb hclb=>?_)
     iterate 6 (first|refine G.n' rfl ?_|refine G.s' rfl ?_|cbv|skip)
     refine G.c' (va [.mk W.o_items [] 0 its,.mk W.k_from [] 0 frs,.mk W.k_where [] 0 wh,.mk W.k_group [] 0 gr,.mk W.k_having [] 0 hv] (by subst hcla hclb hclw hclg hclh;exact rfl) (.inl rfl) (by simp) fun clz hclz=>?_)
     iterate 6 (first|refine G.n' rfl ?_|refine G.s' rfl ?_|cbv|skip)
     exact FinL.go (W.rt hK) hy hz (yd hclz) rfl (nb rfl)
    |true=>
     have hK:=W.as hK
     cbv
     refine G.c' (hexpr _ _ _ _ _ hy rfl hz (nb rfl) (W.mono (W.bd hK) fun e z b hK hz y hy cl hcl=>?_))
     obtain⟨o,s,k,l⟩:=e
     obtain⟨hv,hhv,hK⟩:=W.rbx hK
     cbv
     iterate 6 (first|refine G.n' rfl ?_|refine G.s' rfl ?_|cbv|skip)
     refine G.c' (va [.mk o s k l] (by subst hcl;exact rfl) (.inl rfl) (by simp) fun clh hclh=>?_)
     rw[← hhv] at hclh
     cbv
     iterate 6 (first|refine G.n' rfl ?_|refine G.s' rfl ?_|cbv|skip)
     refine G.c' (va its hits (.inl rfl) hitl fun cla hcla=>?_)
     iterate 6 (first|refine G.n' rfl ?_|refine G.s' rfl ?_|cbv|skip)
     refine G.c' (va frs hfrs (.inl rfl) hfrl fun clb hclb=>?_)
     iterate 6 (first|refine G.n' rfl ?_|refine G.s' rfl ?_|cbv|skip)
     refine G.c' (va [.mk W.o_items [] 0 its,.mk W.k_from [] 0 frs,.mk W.k_where [] 0 wh,.mk W.k_group [] 0 gr,.mk W.k_having [] 0 hv] (by subst hcla hclb hclw hclg hclh;exact rfl) (.inl rfl) (by simp) fun clz hclz=>?_)
     iterate 6 (first|refine G.n' rfl ?_|refine G.s' rfl ?_|cbv|skip)
     exact FinL.go (W.rt hK) hy hz (yd hclz) rfl (nb rfl)
   |true=>
    have hK:=W.as hK
    cbv
    refine G.c' (hmust _ _ _ _ _ _ hy rfl hz (nb rfl) (W.mono (W.bd hK) fun u z b hK hz y hy=>?_))
    cbv
    have hK:=W.as hK
    refine G.c' (hcol _ _ _ _ _ hy rfl hz (nb rfl) (W.mono (W.bd hK) fun a z b hK hz y hy cl hcl=>?_))
    obtain⟨o,s,k,l⟩:=a
    cbv
    iterate 6 (first|refine G.n' rfl ?_|refine G.s' rfl ?_|cbv|skip)
    refine G.l' ?_
    change za Tryz.prog (Pr.tab real) 111 c139_2_2 _ _ _
    refine za.pad (za.relax (za.weak (env':=[(0,.ptr 0 0),(2,.ptr 1 0),(4,.int .i64 1),(5,.slice 24 icl im),(7,.slice 24 fcl fm),(9,.ptr 2 0),(10,.ptr 3 0),(11,.slice 24 [.agg [.str o,.str s,.int .i64 k,.slice 24 cl .no]] .exact)]) (.cons rfl (.cons rfl (.cons rfl (.cons rfl (.cons rfl (.cons rfl (.cons rfl (.cons rfl (.nil _))))))))) (hgloop 1 icl fcl im fm _ _ _ _ _ _ _ _ p1 p2 _ _ _ _ _ [.mk o s k l] _ _ _ hy hz (by subst hcl;rfl) (.fresh _) (by simp;omega) (W.mono (W.bd hK) fun gr z b hK hz y cl2 m caps hy hcl2 hal hg=>?_))))
    obtain⟨p3,hp3⟩:=xa2 hg
    refine⟨⟨_,_,[p1,p2,p3]⟩,rfl,rfl,hp3,?_⟩
    clear hg hp3
    iterate 6 (first|refine G.n' rfl ?_|refine G.s' rfl ?_|cbv|skip)
    refine G.c' (va gr hcl2 (.inl rfl) hal fun clg hclg=>?_)
    cbv
    refine G.c' (va [] (by exact rfl) (.inr rfl) (by simp) fun clh hclh=>?_)
    cbv
    refine G.c' (hgot _ _ _ _ _ _ hy rfl hz (nb rfl) (W.mono (W.bd hK) fun q z b hK hz y hy=>?_))
    cases q with
    |false=>
     obtain⟨hv,hhv,hK⟩:=W.rbx hK
     rw[← hhv] at hclh
     cbv
     iterate 6 (first|refine G.n' rfl ?_|refine G.s' rfl ?_|cbv|skip)
     refine G.c' (va its hits (.inl rfl) hitl fun cla hcla=>?_)
     iterate 6 (first|refine G.n' rfl ?_|refine G.s' rfl ?_|cbv|skip)
     refine G.c' (va frs hfrs (.inl rfl) hfrl fun clb hclb=>?_)
     iterate 6 (first|refine G.n' rfl ?_|refine G.s' rfl ?_|cbv|skip)
     refine G.c' (va [.mk W.o_items [] 0 its,.mk W.k_from [] 0 frs,.mk W.k_where [] 0 wh,.mk W.k_group [] 0 gr,.mk W.k_having [] 0 hv] (by subst hcla hclb hclw hclg hclh;exact rfl) (.inl rfl) (by simp) fun clz hclz=>?_)
     iterate 6 (first|refine G.n' rfl ?_|refine G.s' rfl ?_|cbv|skip)
     exact FinL.go (W.rt hK) hy hz (yd hclz) rfl (nb rfl)
    |true=>
     have hK:=W.as hK
     cbv
     refine G.c' (hexpr _ _ _ _ _ hy rfl hz (nb rfl) (W.mono (W.bd hK) fun e z b hK hz y hy cl hcl=>?_))
     obtain⟨o,s,k,l⟩:=e
     obtain⟨hv,hhv,hK⟩:=W.rbx hK
     cbv
     iterate 6 (first|refine G.n' rfl ?_|refine G.s' rfl ?_|cbv|skip)
     refine G.c' (va [.mk o s k l] (by subst hcl;exact rfl) (.inl rfl) (by simp) fun clh hclh=>?_)
     rw[← hhv] at hclh
     cbv
     iterate 6 (first|refine G.n' rfl ?_|refine G.s' rfl ?_|cbv|skip)
     refine G.c' (va its hits (.inl rfl) hitl fun cla hcla=>?_)
     iterate 6 (first|refine G.n' rfl ?_|refine G.s' rfl ?_|cbv|skip)
     refine G.c' (va frs hfrs (.inl rfl) hfrl fun clb hclb=>?_)
     iterate 6 (first|refine G.n' rfl ?_|refine G.s' rfl ?_|cbv|skip)
     refine G.c' (va [.mk W.o_items [] 0 its,.mk W.k_from [] 0 frs,.mk W.k_where [] 0 wh,.mk W.k_group [] 0 gr,.mk W.k_having [] 0 hv] (by subst hcla hclb hclw hclg hclh;exact rfl) (.inl rfl) (by simp) fun clz hclz=>?_)
     iterate 6 (first|refine G.n' rfl ?_|refine G.s' rfl ?_|cbv|skip)
     exact FinL.go (W.rt hK) hy hz (yd hclz) rfl (nb rfl)
  |true=>
   have hK:=W.as hK
   cbv
   refine G.c' (hexpr _ _ _ _ _ hy rfl hz (nb rfl) (W.mono (W.bd hK) fun e z b hK hz y hy cl hcl=>?_))
   obtain⟨o,s,k,l⟩:=e
   obtain⟨wh,hwh,hK⟩:=W.rbx hK
   cbv
   iterate 6 (first|refine G.n' rfl ?_|refine G.s' rfl ?_|cbv|skip)
   refine G.c' (va [.mk o s k l] (by subst hcl;exact rfl) (.inl rfl) (by simp) fun clw hclw=>?_)
   rw[← hwh] at hclw
   cbv
   refine G.c' (va [] (by exact rfl) (.inr rfl) (by simp) fun clg hclg=>?_)
   cbv
   refine G.c' (hgot _ _ _ _ _ _ hy rfl hz (nb rfl) (W.mono (W.bd hK) fun q z b hK hz y hy=>?_))
   cases q with
   |false=>
    obtain⟨gr,hgr,hK⟩:=W.rbx hK
    rw[← hgr] at hclg
    cbv
    refine G.c' (va [] (by exact rfl) (.inr rfl) (by simp) fun clh hclh=>?_)
    cbv
    refine G.c' (hgot _ _ _ _ _ _ hy rfl hz (nb rfl) (W.mono (W.bd hK) fun q z b hK hz y hy=>?_))
    cases q with
    |false=>
     obtain⟨hv,hhv,hK⟩:=W.rbx hK
     rw[← hhv] at hclh
     cbv
     iterate 6 (first|refine G.n' rfl ?_|refine G.s' rfl ?_|cbv|skip)
     refine G.c' (va its hits (.inl rfl) hitl fun cla hcla=>?_)
     iterate 6 (first|refine G.n' rfl ?_|refine G.s' rfl ?_|cbv|skip)
     refine G.c' (va frs hfrs (.inl rfl) hfrl fun clb hclb=>?_)
     iterate 6 (first|refine G.n' rfl ?_|refine G.s' rfl ?_|cbv|skip)
     refine G.c' (va [.mk W.o_items [] 0 its,.mk W.k_from [] 0 frs,.mk W.k_where [] 0 wh,.mk W.k_group [] 0 gr,.mk W.k_having [] 0 hv] (by subst hcla hclb hclw hclg hclh;exact rfl) (.inl rfl) (by simp) fun clz hclz=>?_)
     iterate 6 (first|refine G.n' rfl ?_|refine G.s' rfl ?_|cbv|skip)
     exact FinL.go (W.rt hK) hy hz (yd hclz) rfl (nb rfl)
    |true=>
     have hK:=W.as hK
     cbv
     refine G.c' (hexpr _ _ _ _ _ hy rfl hz (nb rfl) (W.mono (W.bd hK) fun e z b hK hz y hy cl hcl=>?_))
     obtain⟨o,s,k,l⟩:=e
     obtain⟨hv,hhv,hK⟩:=W.rbx hK
     cbv
     iterate 6 (first|refine G.n' rfl ?_|refine G.s' rfl ?_|cbv|skip)
     refine G.c' (va [.mk o s k l] (by subst hcl;exact rfl) (.inl rfl) (by simp) fun clh hclh=>?_)
     rw[← hhv] at hclh
     cbv
     iterate 6 (first|refine G.n' rfl ?_|refine G.s' rfl ?_|cbv|skip)
     refine G.c' (va its hits (.inl rfl) hitl fun cla hcla=>?_)
     iterate 6 (first|refine G.n' rfl ?_|refine G.s' rfl ?_|cbv|skip)
     refine G.c' (va frs hfrs (.inl rfl) hfrl fun clb hclb=>?_)
     iterate 6 (first|refine G.n' rfl ?_|refine G.s' rfl ?_|cbv|skip)
     refine G.c' (va [.mk W.o_items [] 0 its,.mk W.k_from [] 0 frs,.mk W.k_where [] 0 wh,.mk W.k_group [] 0 gr,.mk W.k_having [] 0 hv] (by subst hcla hclb hclw hclg hclh;exact rfl) (.inl rfl) (by simp) fun clz hclz=>?_)
     iterate 6 (first|refine G.n' rfl ?_|refine G.s' rfl ?_|cbv|skip)
     exact FinL.go (W.rt hK) hy hz (yd hclz) rfl (nb rfl)
   |true=>
    have hK:=W.as hK
    cbv
    refine G.c' (hmust _ _ _ _ _ _ hy rfl hz (nb rfl) (W.mono (W.bd hK) fun u z b hK hz y hy=>?_))
    cbv
    have hK:=W.as hK
    refine G.c' (hcol _ _ _ _ _ hy rfl hz (nb rfl) (W.mono (W.bd hK) fun a z b hK hz y hy cl hcl=>?_))
    obtain⟨o,s,k,l⟩:=a
    cbv
    iterate 6 (first|refine G.n' rfl ?_|refine G.s' rfl ?_|cbv|skip)
    refine G.l' ?_
    change za Tryz.prog (Pr.tab real) 111 c139_2_2 _ _ _
    refine za.pad (za.relax (za.weak (env':=[(0,.ptr 0 0),(2,.ptr 1 0),(4,.int .i64 1),(5,.slice 24 icl im),(7,.slice 24 fcl fm),(9,.ptr 2 0),(10,.ptr 3 0),(11,.slice 24 [.agg [.str o,.str s,.int .i64 k,.slice 24 cl .no]] .exact)]) (.cons rfl (.cons rfl (.cons rfl (.cons rfl (.cons rfl (.cons rfl (.cons rfl (.cons rfl (.nil _))))))))) (hgloop 1 icl fcl im fm _ _ _ _ _ _ _ _ p1 p2 _ _ _ _ _ [.mk o s k l] _ _ _ hy hz (by subst hcl;rfl) (.fresh _) (by simp;omega) (W.mono (W.bd hK) fun gr z b hK hz y cl2 m caps hy hcl2 hal hg=>?_))))
    obtain⟨p3,hp3⟩:=xa2 hg
    refine⟨⟨_,_,[p1,p2,p3]⟩,rfl,rfl,hp3,?_⟩
    clear hg hp3
    iterate 6 (first|refine G.n' rfl ?_|refine G.s' rfl ?_|cbv|skip)
    refine G.c' (va gr hcl2 (.inl rfl) hal fun clg hclg=>?_)
    cbv
    refine G.c' (va [] (by exact rfl) (.inr rfl) (by simp) fun clh hclh=>?_)
    cbv
    refine G.c' (hgot _ _ _ _ _ _ hy rfl hz (nb rfl) (W.mono (W.bd hK) fun q z b hK hz y hy=>?_))
    cases q with
    |false=>
     obtain⟨hv,hhv,hK⟩:=W.rbx hK
     rw[← hhv] at hclh
     cbv
     iterate 6 (first|refine G.n' rfl ?_|refine G.s' rfl ?_|cbv|skip)
     refine G.c' (va its hits (.inl rfl) hitl fun cla hcla=>?_)
     iterate 6 (first|refine G.n' rfl ?_|refine G.s' rfl ?_|cbv|skip)
     refine G.c' (va frs hfrs (.inl rfl) hfrl fun clb hclb=>?_)
     iterate 6 (first|refine G.n' rfl ?_|refine G.s' rfl ?_|cbv|skip)
     refine G.c' (va [.mk W.o_items [] 0 its,.mk W.k_from [] 0 frs,.mk W.k_where [] 0 wh,.mk W.k_group [] 0 gr,.mk W.k_having [] 0 hv] (by subst hcla hclb hclw hclg hclh;exact rfl) (.inl rfl) (by simp) fun clz hclz=>?_)
     iterate 6 (first|refine G.n' rfl ?_|refine G.s' rfl ?_|cbv|skip)
     exact FinL.go (W.rt hK) hy hz (yd hclz) rfl (nb rfl)
    |true=>
     have hK:=W.as hK
     cbv
     refine G.c' (hexpr _ _ _ _ _ hy rfl hz (nb rfl) (W.mono (W.bd hK) fun e z b hK hz y hy cl hcl=>?_))
     obtain⟨o,s,k,l⟩:=e
     obtain⟨hv,hhv,hK⟩:=W.rbx hK
     cbv
     iterate 6 (first|refine G.n' rfl ?_|refine G.s' rfl ?_|cbv|skip)
     refine G.c' (va [.mk o s k l] (by subst hcl;exact rfl) (.inl rfl) (by simp) fun clh hclh=>?_)
     rw[← hhv] at hclh
     cbv
     iterate 6 (first|refine G.n' rfl ?_|refine G.s' rfl ?_|cbv|skip)
     refine G.c' (va its hits (.inl rfl) hitl fun cla hcla=>?_)
     iterate 6 (first|refine G.n' rfl ?_|refine G.s' rfl ?_|cbv|skip)
     refine G.c' (va frs hfrs (.inl rfl) hfrl fun clb hclb=>?_)
     iterate 6 (first|refine G.n' rfl ?_|refine G.s' rfl ?_|cbv|skip)
     refine G.c' (va [.mk W.o_items [] 0 its,.mk W.k_from [] 0 frs,.mk W.k_where [] 0 wh,.mk W.k_group [] 0 gr,.mk W.k_having [] 0 hv] (by subst hcla hclb hclw hclg hclh;exact rfl) (.inl rfl) (by simp) fun clz hclz=>?_)
     iterate 6 (first|refine G.n' rfl ?_|refine G.s' rfl ?_|cbv|skip)
     exact FinL.go (W.rt hK) hy hz (yd hclz) rfl (nb rfl)
 |false=>
  have hK:=W.as hK
  cbv
  refine G.c' (hgot _ _ _ _ _ _ hy rfl hz (nb rfl) (W.mono (W.bd hK) fun aq z b hK hz y hy=>?_))
  have hK:=W.rb hK
  cbv
  have hK:=W.as hK
  refine G.c' (hitem _ _ _ _ _ hy rfl hz (nb rfl) (W.mono (W.bd hK) fun a z b hK hz y hy cl hcl=>?_))
  obtain⟨o,s,k,l⟩:=a
  cbv
  iterate 6 (first|refine G.n' rfl ?_|refine G.s' rfl ?_|cbv|skip)
  refine G.l' ?_
  change za Tryz.prog (Pr.tab real) 111 c139_0_0 _ _ _
  refine za.pad (za.relax (za.weak (env':=[(0,.ptr 0 0),(2,.ptr 1 0),(4,.int .i64 0),(5,.slice 24 [.agg [.str o,.str s,.int .i64 k,.slice 24 cl .no]] .exact)]) (.cons rfl (.cons rfl (.cons rfl (.cons rfl (.nil _))))) (hiloop 0 _ _ _ _ _ [.mk o s k l] _ _ _ hy hz (by subst hcl;rfl) (.fresh _) (by simp;omega) (W.mono (W.bd hK) fun its z b hK hz y icl im caps hy hits hitl hg=>?_))))
  obtain⟨p1,hp1⟩:=yb9 hg
  refine⟨⟨_,_,[p1]⟩,rfl,rfl,hp1,?_⟩
  clear hg hp1
  cbv
  refine G.c' (hmust _ _ _ _ _ _ hy rfl hz (nb rfl) (W.mono (W.bd hK) fun u z b hK hz y hy=>?_))
  cbv
  have hK:=W.as hK
  refine G.c' (htable _ _ _ _ _ hy rfl hz (nb rfl) (W.mono (W.bd hK) fun a z b hK hz y hy cl hcl=>?_))
  obtain⟨o,s,k,l⟩:=a
  cbv
  iterate 6 (first|refine G.n' rfl ?_|refine G.s' rfl ?_|cbv|skip)
  refine G.l' ?_
  change za Tryz.prog (Pr.tab real) 111 c139_1_1 _ _ _
  refine za.pad (za.relax (za.weak (env':=[(0,.ptr 0 0),(2,.ptr 1 0),(4,.int .i64 0),(5,.slice 24 icl im),(7,.slice 24 [.agg [.str o,.str s,.int .i64 k,.slice 24 cl .no]] .exact)]) (.cons rfl (.cons rfl (.cons rfl (.cons rfl (.cons rfl (.nil _)))))) (hfloop 0 icl im p1 _ _ _ _ _ [.mk o s k l] _ _ _ hy hz (by subst hcl;rfl) (.fresh _) (by simp;omega) (W.mono (W.bd hK) fun frs z b hK hz y fcl fm caps hy hfrs hfrl hg=>?_))))
  obtain⟨p2,hp2⟩:=jcu hg
  refine⟨⟨_,_,[p1,p2]⟩,rfl,rfl,hp2,?_⟩
  clear hg hp2
  cbv
  refine G.c' (va [] (by exact rfl) (.inr rfl) (by simp) fun clw hclw=>?_)
  cbv
  refine G.c' (hgot _ _ _ _ _ _ hy rfl hz (nb rfl) (W.mono (W.bd hK) fun q z b hK hz y hy=>?_))
  cases q with
  |false=>
   obtain⟨wh,hwh,hK⟩:=W.rbx hK
   rw[← hwh] at hclw
   cbv
   refine G.c' (va [] (by exact rfl) (.inr rfl) (by simp) fun clg hclg=>?_)
   cbv
   refine G.c' (hgot _ _ _ _ _ _ hy rfl hz (nb rfl) (W.mono (W.bd hK) fun q z b hK hz y hy=>?_))
   cases q with
   |false=>
    obtain⟨gr,hgr,hK⟩:=W.rbx hK
    rw[← hgr] at hclg
    cbv
    refine G.c' (va [] (by exact rfl) (.inr rfl) (by simp) fun clh hclh=>?_)
    cbv
    refine G.c' (hgot _ _ _ _ _ _ hy rfl hz (nb rfl) (W.mono (W.bd hK) fun q z b hK hz y hy=>?_))
    cases q with
    |false=>
     obtain⟨hv,hhv,hK⟩:=W.rbx hK
     rw[← hhv] at hclh
     cbv
     iterate 6 (first|refine G.n' rfl ?_|refine G.s' rfl ?_|cbv|skip)
     refine G.c' (va its hits (.inl rfl) hitl fun cla hcla=>?_)
     iterate 6 (first|refine G.n' rfl ?_|refine G.s' rfl ?_|cbv|skip)
     refine G.c' (va frs hfrs (.inl rfl) hfrl fun clb hclb=>?_)
     iterate 6 (first|refine G.n' rfl ?_|refine G.s' rfl ?_|cbv|skip)
     refine G.c' (va [.mk W.o_items [] 0 its,.mk W.k_from [] 0 frs,.mk W.k_where [] 0 wh,.mk W.k_group [] 0 gr,.mk W.k_having [] 0 hv] (by subst hcla hclb hclw hclg hclh;exact rfl) (.inl rfl) (by simp) fun clz hclz=>?_)
     iterate 6 (first|refine G.n' rfl ?_|refine G.s' rfl ?_|cbv|skip)
     exact FinL.go (W.rt hK) hy hz (yd hclz) rfl (nb rfl)
    |true=>
     have hK:=W.as hK
     cbv
     refine G.c' (hexpr _ _ _ _ _ hy rfl hz (nb rfl) (W.mono (W.bd hK) fun e z b hK hz y hy cl hcl=>?_))
     obtain⟨o,s,k,l⟩:=e
     obtain⟨hv,hhv,hK⟩:=W.rbx hK
     cbv
     iterate 6 (first|refine G.n' rfl ?_|refine G.s' rfl ?_|cbv|skip)
     refine G.c' (va [.mk o s k l] (by subst hcl;exact rfl) (.inl rfl) (by simp) fun clh hclh=>?_)
     rw[← hhv] at hclh
     cbv
     iterate 6 (first|refine G.n' rfl ?_|refine G.s' rfl ?_|cbv|skip)
     refine G.c' (va its hits (.inl rfl) hitl fun cla hcla=>?_)
     iterate 6 (first|refine G.n' rfl ?_|refine G.s' rfl ?_|cbv|skip)
     refine G.c' (va frs hfrs (.inl rfl) hfrl fun clb hclb=>?_)
     iterate 6 (first|refine G.n' rfl ?_|refine G.s' rfl ?_|cbv|skip)
     refine G.c' (va [.mk W.o_items [] 0 its,.mk W.k_from [] 0 frs,.mk W.k_where [] 0 wh,.mk W.k_group [] 0 gr,.mk W.k_having [] 0 hv] (by subst hcla hclb hclw hclg hclh;exact rfl) (.inl rfl) (by simp) fun clz hclz=>?_)
     iterate 6 (first|refine G.n' rfl ?_|refine G.s' rfl ?_|cbv|skip)
     exact FinL.go (W.rt hK) hy hz (yd hclz) rfl (nb rfl)
   |true=>
    have hK:=W.as hK
    cbv
    refine G.c' (hmust _ _ _ _ _ _ hy rfl hz (nb rfl) (W.mono (W.bd hK) fun u z b hK hz y hy=>?_))
    cbv
    have hK:=W.as hK
    refine G.c' (hcol _ _ _ _ _ hy rfl hz (nb rfl) (W.mono (W.bd hK) fun a z b hK hz y hy cl hcl=>?_))
    obtain⟨o,s,k,l⟩:=a
    cbv
    iterate 6 (first|refine G.n' rfl ?_|refine G.s' rfl ?_|cbv|skip)
    refine G.l' ?_
    change za Tryz.prog (Pr.tab real) 111 c139_2_2 _ _ _
    refine za.pad (za.relax (za.weak (env':=[(0,.ptr 0 0),(2,.ptr 1 0),(4,.int .i64 0),(5,.slice 24 icl im),(7,.slice 24 fcl fm),(9,.ptr 2 0),(10,.ptr 3 0),(11,.slice 24 [.agg [.str o,.str s,.int .i64 k,.slice 24 cl .no]] .exact)]) (.cons rfl (.cons rfl (.cons rfl (.cons rfl (.cons rfl (.cons rfl (.cons rfl (.cons rfl (.nil _))))))))) (hgloop 0 icl fcl im fm _ _ _ _ _ _ _ _ p1 p2 _ _ _ _ _ [.mk o s k l] _ _ _ hy hz (by subst hcl;rfl) (.fresh _) (by simp;omega) (W.mono (W.bd hK) fun gr z b hK hz y cl2 m caps hy hcl2 hal hg=>?_))))
    obtain⟨p3,hp3⟩:=xa2 hg
    refine⟨⟨_,_,[p1,p2,p3]⟩,rfl,rfl,hp3,?_⟩
    clear hg hp3
    iterate 6 (first|refine G.n' rfl ?_|refine G.s' rfl ?_|cbv|skip)
    refine G.c' (va gr hcl2 (.inl rfl) hal fun clg hclg=>?_)
    cbv
    refine G.c' (va [] (by exact rfl) (.inr rfl) (by simp) fun clh hclh=>?_)
    cbv
    refine G.c' (hgot _ _ _ _ _ _ hy rfl hz (nb rfl) (W.mono (W.bd hK) fun q z b hK hz y hy=>?_))
    cases q with
    |false=>
     obtain⟨hv,hhv,hK⟩:=W.rbx hK
     rw[← hhv] at hclh
     cbv
     iterate 6 (first|refine G.n' rfl ?_|refine G.s' rfl ?_|cbv|skip)
     refine G.c' (va its hits (.inl rfl) hitl fun cla hcla=>?_)
     iterate 6 (first|refine G.n' rfl ?_|refine G.s' rfl ?_|cbv|skip)
     refine G.c' (va frs hfrs (.inl rfl) hfrl fun clb hclb=>?_)
     iterate 6 (first|refine G.n' rfl ?_|refine G.s' rfl ?_|cbv|skip)
     refine G.c' (va [.mk W.o_items [] 0 its,.mk W.k_from [] 0 frs,.mk W.k_where [] 0 wh,.mk W.k_group [] 0 gr,.mk W.k_having [] 0 hv] (by subst hcla hclb hclw hclg hclh;exact rfl) (.inl rfl) (by simp) fun clz hclz=>?_)
     iterate 6 (first|refine G.n' rfl ?_|refine G.s' rfl ?_|cbv|skip)
     exact FinL.go (W.rt hK) hy hz (yd hclz) rfl (nb rfl)
    |true=>
     have hK:=W.as hK
     cbv
     refine G.c' (hexpr _ _ _ _ _ hy rfl hz (nb rfl) (W.mono (W.bd hK) fun e z b hK hz y hy cl hcl=>?_))
     obtain⟨o,s,k,l⟩:=e
     obtain⟨hv,hhv,hK⟩:=W.rbx hK
     cbv
     iterate 6 (first|refine G.n' rfl ?_|refine G.s' rfl ?_|cbv|skip)
     refine G.c' (va [.mk o s k l] (by subst hcl;exact rfl) (.inl rfl) (by simp) fun clh hclh=>?_)
     rw[← hhv] at hclh
     cbv
     iterate 6 (first|refine G.n' rfl ?_|refine G.s' rfl ?_|cbv|skip)
     refine G.c' (va its hits (.inl rfl) hitl fun cla hcla=>?_)
     iterate 6 (first|refine G.n' rfl ?_|refine G.s' rfl ?_|cbv|skip)
     refine G.c' (va frs hfrs (.inl rfl) hfrl fun clb hclb=>?_)
     iterate 6 (first|refine G.n' rfl ?_|refine G.s' rfl ?_|cbv|skip)
     refine G.c' (va [.mk W.o_items [] 0 its,.mk W.k_from [] 0 frs,.mk W.k_where [] 0 wh,.mk W.k_group [] 0 gr,.mk W.k_having [] 0 hv] (by subst hcla hclb hclw hclg hclh;exact rfl) (.inl rfl) (by simp) fun clz hclz=>?_)
     iterate 6 (first|refine G.n' rfl ?_|refine G.s' rfl ?_|cbv|skip)
     exact FinL.go (W.rt hK) hy hz (yd hclz) rfl (nb rfl)
  |true=>
   have hK:=W.as hK
   cbv
   refine G.c' (hexpr _ _ _ _ _ hy rfl hz (nb rfl) (W.mono (W.bd hK) fun e z b hK hz y hy cl hcl=>?_))
   obtain⟨o,s,k,l⟩:=e
   obtain⟨wh,hwh,hK⟩:=W.rbx hK
   cbv
   iterate 6 (first|refine G.n' rfl ?_|refine G.s' rfl ?_|cbv|skip)
   refine G.c' (va [.mk o s k l] (by subst hcl;exact rfl) (.inl rfl) (by simp) fun clw hclw=>?_)
   rw[← hwh] at hclw
   cbv
   refine G.c' (va [] (by exact rfl) (.inr rfl) (by simp) fun clg hclg=>?_)
   cbv
   refine G.c' (hgot _ _ _ _ _ _ hy rfl hz (nb rfl) (W.mono (W.bd hK) fun q z b hK hz y hy=>?_))
   cases q with
   |false=>
    obtain⟨gr,hgr,hK⟩:=W.rbx hK
    rw[← hgr] at hclg
    cbv
    refine G.c' (va [] (by exact rfl) (.inr rfl) (by simp) fun clh hclh=>?_)
    cbv
    refine G.c' (hgot _ _ _ _ _ _ hy rfl hz (nb rfl) (W.mono (W.bd hK) fun q z b hK hz y hy=>?_))
    cases q with
    |false=>
     obtain⟨hv,hhv,hK⟩:=W.rbx hK
     rw[← hhv] at hclh
     cbv
     iterate 6 (first|refine G.n' rfl ?_|refine G.s' rfl ?_|cbv|skip)
     refine G.c' (va its hits (.inl rfl) hitl fun cla hcla=>?_)
     iterate 6 (first|refine G.n' rfl ?_|refine G.s' rfl ?_|cbv|skip)
     refine G.c' (va frs hfrs (.inl rfl) hfrl fun clb hclb=>?_)
     iterate 6 (first|refine G.n' rfl ?_|refine G.s' rfl ?_|cbv|skip)
     refine G.c' (va [.mk W.o_items [] 0 its,.mk W.k_from [] 0 frs,.mk W.k_where [] 0 wh,.mk W.k_group [] 0 gr,.mk W.k_having [] 0 hv] (by subst hcla hclb hclw hclg hclh;exact rfl) (.inl rfl) (by simp) fun clz hclz=>?_)
     iterate 6 (first|refine G.n' rfl ?_|refine G.s' rfl ?_|cbv|skip)
     exact FinL.go (W.rt hK) hy hz (yd hclz) rfl (nb rfl)
    |true=>
     have hK:=W.as hK
     cbv
     refine G.c' (hexpr _ _ _ _ _ hy rfl hz (nb rfl) (W.mono (W.bd hK) fun e z b hK hz y hy cl hcl=>?_))
     obtain⟨o,s,k,l⟩:=e
     obtain⟨hv,hhv,hK⟩:=W.rbx hK
     cbv
     iterate 6 (first|refine G.n' rfl ?_|refine G.s' rfl ?_|cbv|skip)
     refine G.c' (va [.mk o s k l] (by subst hcl;exact rfl) (.inl rfl) (by simp) fun clh hclh=>?_)
     rw[← hhv] at hclh
     cbv
     iterate 6 (first|refine G.n' rfl ?_|refine G.s' rfl ?_|cbv|skip)
     refine G.c' (va its hits (.inl rfl) hitl fun cla hcla=>?_)
     iterate 6 (first|refine G.n' rfl ?_|refine G.s' rfl ?_|cbv|skip)
     refine G.c' (va frs hfrs (.inl rfl) hfrl fun clb hclb=>?_)
     iterate 6 (first|refine G.n' rfl ?_|refine G.s' rfl ?_|cbv|skip)
     refine G.c' (va [.mk W.o_items [] 0 its,.mk W.k_from [] 0 frs,.mk W.k_where [] 0 wh,.mk W.k_group [] 0 gr,.mk W.k_having [] 0 hv] (by subst hcla hclb hclw hclg hclh;exact rfl) (.inl rfl) (by simp) fun clz hclz=>?_)
     iterate 6 (first|refine G.n' rfl ?_|refine G.s' rfl ?_|cbv|skip)
     exact FinL.go (W.rt hK) hy hz (yd hclz) rfl (nb rfl)
   |true=>
    have hK:=W.as hK
    cbv
    refine G.c' (hmust _ _ _ _ _ _ hy rfl hz (nb rfl) (W.mono (W.bd hK) fun u z b hK hz y hy=>?_))
    cbv
    have hK:=W.as hK
    refine G.c' (hcol _ _ _ _ _ hy rfl hz (nb rfl) (W.mono (W.bd hK) fun a z b hK hz y hy cl hcl=>?_))
    obtain⟨o,s,k,l⟩:=a
    cbv
    iterate 6 (first|refine G.n' rfl ?_|refine G.s' rfl ?_|cbv|skip)
    refine G.l' ?_
    change za Tryz.prog (Pr.tab real) 111 c139_2_2 _ _ _
    refine za.pad (za.relax (za.weak (env':=[(0,.ptr 0 0),(2,.ptr 1 0),(4,.int .i64 0),(5,.slice 24 icl im),(7,.slice 24 fcl fm),(9,.ptr 2 0),(10,.ptr 3 0),(11,.slice 24 [.agg [.str o,.str s,.int .i64 k,.slice 24 cl .no]] .exact)]) (.cons rfl (.cons rfl (.cons rfl (.cons rfl (.cons rfl (.cons rfl (.cons rfl (.cons rfl (.nil _))))))))) (hgloop 0 icl fcl im fm _ _ _ _ _ _ _ _ p1 p2 _ _ _ _ _ [.mk o s k l] _ _ _ hy hz (by subst hcl;rfl) (.fresh _) (by simp;omega) (W.mono (W.bd hK) fun gr z b hK hz y cl2 m caps hy hcl2 hal hg=>?_))))
    obtain⟨p3,hp3⟩:=xa2 hg
    refine⟨⟨_,_,[p1,p2,p3]⟩,rfl,rfl,hp3,?_⟩
    clear hg hp3
    iterate 6 (first|refine G.n' rfl ?_|refine G.s' rfl ?_|cbv|skip)
    refine G.c' (va gr hcl2 (.inl rfl) hal fun clg hclg=>?_)
    cbv
    refine G.c' (va [] (by exact rfl) (.inr rfl) (by simp) fun clh hclh=>?_)
    cbv
    refine G.c' (hgot _ _ _ _ _ _ hy rfl hz (nb rfl) (W.mono (W.bd hK) fun q z b hK hz y hy=>?_))
    cases q with
    |false=>
     obtain⟨hv,hhv,hK⟩:=W.rbx hK
     rw[← hhv] at hclh
     cbv
     iterate 6 (first|refine G.n' rfl ?_|refine G.s' rfl ?_|cbv|skip)
     refine G.c' (va its hits (.inl rfl) hitl fun cla hcla=>?_)
     iterate 6 (first|refine G.n' rfl ?_|refine G.s' rfl ?_|cbv|skip)
     refine G.c' (va frs hfrs (.inl rfl) hfrl fun clb hclb=>?_)
     iterate 6 (first|refine G.n' rfl ?_|refine G.s' rfl ?_|cbv|skip)
     refine G.c' (va [.mk W.o_items [] 0 its,.mk W.k_from [] 0 frs,.mk W.k_where [] 0 wh,.mk W.k_group [] 0 gr,.mk W.k_having [] 0 hv] (by subst hcla hclb hclw hclg hclh;exact rfl) (.inl rfl) (by simp) fun clz hclz=>?_)
     iterate 6 (first|refine G.n' rfl ?_|refine G.s' rfl ?_|cbv|skip)
     exact FinL.go (W.rt hK) hy hz (yd hclz) rfl (nb rfl)
    |true=>
     have hK:=W.as hK
     cbv
     refine G.c' (hexpr _ _ _ _ _ hy rfl hz (nb rfl) (W.mono (W.bd hK) fun e z b hK hz y hy cl hcl=>?_))
     obtain⟨o,s,k,l⟩:=e
     obtain⟨hv,hhv,hK⟩:=W.rbx hK
     cbv
     iterate 6 (first|refine G.n' rfl ?_|refine G.s' rfl ?_|cbv|skip)
     refine G.c' (va [.mk o s k l] (by subst hcl;exact rfl) (.inl rfl) (by simp) fun clh hclh=>?_)
     rw[← hhv] at hclh
     cbv
     iterate 6 (first|refine G.n' rfl ?_|refine G.s' rfl ?_|cbv|skip)
     refine G.c' (va its hits (.inl rfl) hitl fun cla hcla=>?_)
     iterate 6 (first|refine G.n' rfl ?_|refine G.s' rfl ?_|cbv|skip)
     refine G.c' (va frs hfrs (.inl rfl) hfrl fun clb hclb=>?_)
     iterate 6 (first|refine G.n' rfl ?_|refine G.s' rfl ?_|cbv|skip)
     refine G.c' (va [.mk W.o_items [] 0 its,.mk W.k_from [] 0 frs,.mk W.k_where [] 0 wh,.mk W.k_group [] 0 gr,.mk W.k_having [] 0 hv] (by subst hcla hclb hclw hclg hclh;exact rfl) (.inl rfl) (by simp) fun clz hclz=>?_)
     iterate 6 (first|refine G.n' rfl ?_|refine G.s' rfl ?_|cbv|skip)
     exact FinL.go (W.rt hK) hy hz (yd hclz) rfl (nb rfl)
end Go.AM.Rf
namespace Go.AM.Rf
open Go.Proofs Go.AM.Ps Go.AM.W
structure Reader (t:List Tk) (n:Nat):Prop where
 expr:Ok t 93 [] (expr t n) Nd.av
 and:Ok t 125 [] (andE t n) Nd.av
 not:Ok t 140 [] (notE t n) Nd.av
 test:Ok t 154 [] (test t n) Nd.av
 compared:∀ w o0 s0 k0 l0 cl0,cl0=avL l0→Ok t 165 [.str w,.agg [.str o0,.str s0,.int .i64 k0,.slice 24 cl0 .no]] (compared t n w (.mk o0 s0 k0 l0)) Nd.av
 inner:Ok t 173 [] (inner t n) Nd.av
 inE:∀ o0 s0 k0 l0 cl0,cl0=avL l0→Ok t 167 [.agg [.str o0,.str s0,.int .i64 k0,.slice 24 cl0 .no]] (inE t n (.mk o0 s0 k0 l0)) Nd.av
 exprs:Ok t 124 [] (exprs t n) lav
 sum:Ok t 164 [] (sum t n) Nd.av
 product:Ok t 172 [] (product t n) Nd.av
 sign:Ok t 179 [] (sign t n) Nd.av
 one:Ok t 185 [] (one t n) Nd.av
 cases:Ok t 188 [] (cases t n) Nd.av
 call:Ok t 189 [] (call t n) Nd.av
 total:∀ w,Ok t 190 [.str w] (total t n w) Nd.av
 body:Ok t 86 [] (body t n) Nd.av
 term:Ok t 117 [] (term t n) Nd.av
 simple:Ok t 139 [] (simple t n) Nd.av
 item:Ok t 152 [] (item t n) Nd.av
 table:Ok t 153 [] (table t n) Nd.av
 joined:Ok t 163 [] (joined t n) Nd.av
theorem Ok.zero{α:Type}{t:List Tk}{f:FuncId}{args:List AV}{m:M α}{av:α→AV}(h:m=out):Ok t f args m av:=fun z b y S o K _ _ _ _ hW=>by
 obtain⟨_,_,_,hm,_⟩:=hW
 rw[h] at hm
 cases hm
theorem vc2{t:List Tk}(ht:Toks t)(hwd:Wd t):∀ n,n≤1000000000→Reader t n:=by
 intro n
 induction n with
 |zero=>
  intro hn
  exact⟨.zero rfl,.zero rfl,.zero rfl,.zero rfl,fun _ _ _ _ _ _ _=> .zero rfl,.zero rfl,fun _ _ _ _ _ _=> .zero rfl,.zero rfl,.zero rfl,.zero rfl,.zero rfl,.zero rfl,.zero rfl,.zero rfl,fun _=> .zero rfl,.zero rfl,.zero rfl,.zero rfl,.zero rfl,.zero rfl,.zero rfl⟩
 |succ n ih=>
  intro hn
  have hn':n≤1000000000:=by omega
  have P:=ih hn'
  exact {
   expr:=xek ht P.and
   and:=xeu ht P.not
   not:=qeu ht P.not P.test
   test:=vej ht P.sum P.compared P.inE
   compared:=fun w o0 s0 k0 l0 cl0 h=>xci ht P.inner P.sum w o0 s0 k0 l0 cl0 h
   inner:=xd4 ht P.body
   inE:=fun o0 s0 k0 l0 cl0 h=>jeu ht hn' P.inner P.exprs o0 s0 k0 l0 cl0 h
   exprs:=yd4 ht hn' P.expr
   sum:=xet ht P.product
   product:=vc3 ht P.sign
   sign:=qek ht P.sign P.one
   one:=yet ht P.inner P.expr P.cases P.call
   cases:=qd5 ht hn' P.expr
   call:=vek ht hwd hn' P.expr P.exprs P.total
   total:=fun w=>yd3 ht P.expr w
   body:=yek ht P.term
   term:=yej ht P.simple
   simple:=zdk ht hwd hn' P.body P.expr P.item P.table
   item:=jek ht hwd P.expr
   table:=qd4 ht P.joined P.expr
   joined:=xdk ht hwd P.body P.table }
theorem qbw{t:List Tk}(ht:Toks t)(hwd:Wd t)(n:Nat)(hn:n≤1000000000):Ok t 23 [] (statementE t n) Nd.av:=
 have P:=vc2 ht hwd n hn
 vb7 ht hwd hn P.expr P.exprs P.body (zd4 ht hwd hn P.body)
end Go.AM.Rf
