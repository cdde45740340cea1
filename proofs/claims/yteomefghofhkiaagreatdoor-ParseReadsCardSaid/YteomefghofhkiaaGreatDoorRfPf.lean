/- The document's reader: queries and cases. -/
import Derived.Test.YteomefghofhkiaaGreatDoorRfPe
import Derived.Test.YteomefghofhkiaaGreatDoorRdF
set_option maxRecDepth 100000
set_option maxHeartbeats 40000000
set_option linter.unusedVariables false
set_option linter.unusedSimpArgs false
namespace Go.AM.Rf
open Go.Proofs Go.AM.Ps Go.AM.W
theorem Rf.fn51:FnOk Tryz.prog 51 (fni Tryz.f51 Pr.a51):=⟨⟨Tryz.f51,Tryz.func51,rfl,rfl,rfl,by kernel_rfl⟩,by kernel_rfl⟩
inductive Grows51_0_0:Mode→List AV→List Int→Prop where
 |fresh (v:AV):Grows51_0_0 .exact [v] []
 |own (cs:List AV) (nn:Int) (h:nn=cs.length):Grows51_0_0 (.own 0) cs [nn]
noncomputable def c51_0_0:Code:=(fni Tryz.f51 Pr.a51).loop 0
theorem Rf.c51_0_0:qf 36 Pr.a51 c51_0_0=true:=by kernel_rfl
theorem zcf(K:Ex→Env→St→Prop)(env:Env)(S:St)(h:xg (pAlg Tryz.prog (Pr.tab real) 36) (Pr.tab real) Pr.a51 0 c51_0_0 (andThen (za Tryz.prog (Pr.tab real) 36 c51_0_0 K) K) env S):za Tryz.prog (Pr.tab real) 36 c51_0_0 K env S:=
 vc Pr.tabOk Pr.mixed Rf.c51_0_0 h
theorem yc2{t:List Tk}{n:Nat}(tv:AV)(N:Nat)(hgot:∀ s,Lit tv N 24 [.str s] (got t s) .bool)(hkey:LitN tv N 87 [] (key t))(o0 s0:List UInt8)(k0:Int)(cl0:List AV)(K:Ex→Env→St→Prop)(r:Nat) :
 ∀(z:Nat) (b:Bool) (y:Int) (acc:List Nd) (cs:List AV) (m:Mode) (caps:List Int),y=z→z≤N→cs=avL acc→Grows51_0_0 m cs caps→acc.length+r≤2000000000 →
  W (commas t (key t) r acc) z b (fun a z' b'=>z'≤N→∀(y':Int) (cl':List AV) (m':Mode) (caps':List Int),y'=z'→cl'=avL a→a.length≤2000000000→Grows51_0_0 m' cl' caps'→K (.exit 0) [(0,.ptr 0 0),(2,.ptr 1 0),(3,.ptr 2 0),(4,.slice 24 cl' m')] ⟨[(2,[.str o0,.str s0,.int .i64 k0,.slice 24 cl0 .no]),(1,[.str [],.str [],.int .i64 0,.slice 0 [] .exact]),(0,[tv,.int .i64 y',.bool b'])],3,caps'⟩) →
  za Tryz.prog (Pr.tab real) 36 c51_0_0 (Less K) [(0,.ptr 0 0),(2,.ptr 1 0),(3,.ptr 2 0),(4,.slice 24 cs m)] ⟨[(2,[.str o0,.str s0,.int .i64 k0,.slice 24 cl0 .no]),(1,[.str [],.str [],.int .i64 0,.slice 0 [] .exact]),(0,[tv,.int .i64 y,.bool b])],3,caps⟩:=by
 induction r with
 |zero=>
  intro z b y acc cs m caps _ _ _ _ _ hK
  obtain⟨_,_,_,h,_⟩:=hK
  cases h
 |succ r ih=>
  intro z b y acc cs m caps hy hz hcs hg hal hK
  have hlen:cs.length≤2000000000:=by rw[hcs,xd,List.length_map];omega
  have happ':∀ op s k l cl,cl=avL l→cs++[.agg [.str op,.str s,.int .i64 k,.slice 24 cl .no]]=avL (acc++[.mk op s k l]):=by
   intro op s k l cl hcl
   rw[hcs,hcl,xd acc,xd (acc++_),List.map_append];rfl
  have hg0:=hg
  apply zcf
  apply xb (mk:=Pr.tab)
  intro _ _ _ _ _ len _ _ _ cmp _ _ _ _ app _ _ _ _ _ _ _ _ _ room not _ _ _ G
  have hnt:=G.not2
  have hX:∀ op s k l cl,cl=avL l→∃(cc:List AV) (nn:Int),app cs [.agg [.str op,.str s,.int .i64 k,.slice 24 cl .no]]=cc∧room (len cc) 64=true∧len cc=nn∧cc=avL (acc++[.mk op s k l])∧Grows51_0_0 (.own 0) cc [nn]:=by
   intro op s k l cl hcl
   refine⟨_,_,rfl,?_,rfl,?_,?_⟩
   ·rw[G.app',G.room',G.len'];simp;omega
   ·rw[G.app'];exact happ' op s k l cl hcl
   ·rw[G.app',G.len'];exact .own _ _ rfl
  have h01:∀ x,cmp BinOp.lss 0 (len [x])=true:=fun x=>by rw[G.cmp',G.len'];rfl
  have heqc:∀ n2:Int,n2=cs.length→cmp BinOp.eql n2 (len cs)=true:=fun n2 h=>by rw[G.cmp',G.len',h];simp[vb]
  generalize hL:za Tryz.prog (Pr.tab real) 36 c51_0_0 (Less K)=L at *
  generalize hK':Less K=K' at *
  clear hlen happ'
  have hal2:acc.length≤2000000000:=by omega
  cases b with
  |true=>
   have hK:=W.unbad1 hK
   cbv
   rw[hnt]
   cbv
   rw[← hK']
   exact⟨[(0,.ptr 0 0),(2,.ptr 1 0),(3,.ptr 2 0),(4,.slice 24 cs m)],(.cons rfl (.cons rfl (.cons rfl (.cons rfl (.nil _))))),hK hz _ _ _ _ hy hcs hal2 hg0⟩
  |false=>
   have hK:=W.unbad0 hK
   cases hg with
   |fresh v=>
    cbv
    rw[hnt]
    cbv
    refine G.c' (hgot _ _ _ _ _ _ hy rfl hz (nb rfl) (W.mono (W.bd hK) fun a z b hK hz y hy=>?_))
    cases a with
    |false=>
     cbv
     rw[hnt]
     cbv
     rw[← hK']
     exact⟨[(0,.ptr 0 0),(2,.ptr 1 0),(3,.ptr 2 0),(4,.slice 24 [v] .exact)],(.cons rfl (.cons rfl (.cons rfl (.cons rfl (.nil _))))),(W.rt hK) hz _ _ _ _ hy hcs hal2 hg0⟩
    |true=>
    cbv
    rw[hnt]
    cbv
    refine G.c' (hkey _ _ _ _ _ hy rfl hz (nb rfl) (W.mono (W.bd hK) fun a z b hK hz y hy cl hcl=>?_))
    obtain⟨o,s,k,l⟩:=a
    cbv
    have hgo:=fun cs' m' caps' q1 q2 q3=>ih z b y (acc++[.mk o s k l]) cs' m' caps' hy hz q1 q2 q3 hK
    obtain⟨cc,nn,h1,h2,h3,h4,h5⟩:=hX o s k l cl hcl
    have hgo:=hgo cc (.own 0) [nn] h4 h5 (by simp;omega)
    have h6:=h01 (AV.agg [.str o,.str s,.int .i64 k,.slice 24 cl .no])
    clear hX ih
    cbv
    iterate 3 (first|refine G.n' rfl ?_|skip)
    rw[h1]
    refine G.n' h2 (G.n' h6 ?_)
    rw[h3,← hL] at *
    exact za.weak (env':=[(0,.ptr 0 0),(2,.ptr 1 0),(3,.ptr 2 0),(4,.slice 24 cc (.own 0))]) (.cons rfl (.cons rfl (.cons rfl (.cons rfl (.nil _))))) hgo
   |own cs n2 hn2=>
    have hq2:=heqc n2 hn2
    cbv
    rw[hnt]
    cbv
    refine G.c' (hgot _ _ _ _ _ _ hy rfl hz (nb rfl) (W.mono (W.bd hK) fun a z b hK hz y hy=>?_))
    cases a with
    |false=>
     cbv
     rw[hnt]
     cbv
     rw[← hK']
     exact⟨[(0,.ptr 0 0),(2,.ptr 1 0),(3,.ptr 2 0),(4,.slice 24 cs (.own 0))],(.cons rfl (.cons rfl (.cons rfl (.cons rfl (.nil _))))),(W.rt hK) hz _ _ _ _ hy hcs hal2 hg0⟩
    |true=>
    cbv
    rw[hnt]
    cbv
    refine G.c' (hkey _ _ _ _ _ hy rfl hz (nb rfl) (W.mono (W.bd hK) fun a z b hK hz y hy cl hcl=>?_))
    obtain⟨o,s,k,l⟩:=a
    cbv
    have hgo:=fun cs' m' caps' q1 q2 q3=>ih z b y (acc++[.mk o s k l]) cs' m' caps' hy hz q1 q2 q3 hK
    obtain⟨cc,nn,h1,h2,h3,h4,h5⟩:=hX o s k l cl hcl
    have hgo:=hgo cc (.own 0) [nn] h4 h5 (by simp;omega)
    have h6:=h01 (AV.agg [.str o,.str s,.int .i64 k,.slice 24 cl .no])
    clear hX ih
    cbv
    iterate 3 (first|refine G.n' rfl ?_|skip)
    rw[h1]
    refine G.n' h2 (G.n' hq2 ?_)
    rw[h3,← hL] at *
    exact za.weak (env':=[(0,.ptr 0 0),(2,.ptr 1 0),(3,.ptr 2 0),(4,.slice 24 cc (.own 0))]) (.cons rfl (.cons rfl (.cons rfl (.cons rfl (.nil _))))) hgo
theorem zd4{t:List Tk}(ht:Toks t)(hwd:Wd t){n:Nat}(hn:n≤1000000000)(hb:Ok t 86 [] (body t n) Nd.av):Ok t 51 [] (query t n) Nd.av:=by
 refine Ok.of2 (fun _ _=>rfl) (fun a _ _=>zh _ _ a) fun tv htv z b y K hy hz hK=>?_
 unfold query at hK
 have hgot:=fun s=>(zj ht.len s).lit
 simp only[← htv] at hgot
 have hmust:=fun s=>(jm ht.len s).lit
 simp only[← htv] at hmust
 have hkey:=(zeu ht hwd).litN
 rw[← htv] at hkey
 have hbody:=hb.litN
 rw[← htv] at hbody
 clear htv
 generalize t.length=N at *
 have hloop:=yc2 (t:=t) (n:=n) tv N hgot hkey
 apply ja (un:=0) Pr.tabOk Pr.mixed Rf.fn51 (nb rfl)
 apply qb (mk:=Pr.tab)
 intro fail _ _ _ _ len _ _ _ _ _ _ _ _ app _ _ _ _ _ _ _ _ _ room not _ _ _ G
 have hnt:=G.not2
 cbv
 have happ:∀ v,app [] [v]=[v]:=fun v=>by rw[G.app'];rfl
 have hroom:∀ v,room (len [v]) 64=true:=fun v=>by rw[G.room',G.len'];simp
 have hlen1:∀ v,len [v]=1:=fun v=>by rw[G.len'];rfl
 refine G.c' (hbody _ _ _ _ _ hy rfl hz (nb rfl) (W.mono (W.bd hK) fun a z b hK hz y hy cl hcl=>?_))
 obtain⟨o,s,k,l⟩:=a
 cbv
 refine G.c' (hgot _ _ _ _ _ _ hy rfl hz (nb rfl) (W.mono (W.bd hK) fun a z b hK hz y hy=>?_))
 cases a with
 |false=>
  have hK:=W.rb hK
  cbv
  repeat' (first
   |(refine G.c' (va [] (by exact rfl) (.inr rfl) (by simp) fun cl hcl=>?_);cbv)
   |(refine G.c' (va [.mk _ _ _ _,.mk _ _ _ _] (by subst_vars;exact rfl) (.inl rfl) (by simp) fun cl hcl=>?_);cbv)
   |exact(W.rt hK).go hy hz (yd (by subst_vars;exact rfl)) rfl (nb rfl)
   |refine G.n' rfl ?_
   |refine G.s' rfl ?_
   |fail)
 |true=>
 cbv
 have hK:=W.as hK
 refine G.c' (hmust _ _ _ _ _ _ hy rfl hz (nb rfl) (W.mono (W.bd hK) fun u z b hK hz y hy=>?_))
 cbv
 have hK:=W.as hK
 refine G.c' (hkey _ _ _ _ _ hy rfl hz (nb rfl) (W.mono (W.bd hK) fun a z b hK hz y hy cl1 hcl1=>?_))
 obtain⟨o1,s1,k1,l1⟩:=a
 cbv
 refine G.n' rfl ?_
 rw[happ]
 refine G.n' (hroom _) ?_
 rw[hlen1]
 refine G.l' ?_
 change za Tryz.prog (Pr.tab real) 36 c51_0_0 _ _ _
 refine za.relax (za.weak (env':=[(0,.ptr 0 0),(2,.ptr 1 0),(3,.ptr 2 0),(4,.slice 24 [.agg [.str o1,.str s1,.int .i64 k1,.slice 24 cl1 .no]] (.own 0))]) (.cons rfl (.cons rfl (.cons rfl (.cons rfl (.nil _))))) (hloop _ _ _ _ _ _ _ _ _ [.mk o1 s1 k1 l1] _ _ _ hy hz (by subst hcl1;rfl) (.own _ _ rfl) (by simp;omega) (W.mono (W.bd hK) fun a z b hK hz y cl2 m caps hy hcl2 hal hg=>?_)))
 have hK:=hK
 cbv
 refine G.c' (va a hcl2 (.inl rfl) hal fun cl3 hcl3=>?_)
 cbv
 iterate 3 (first|refine G.n' rfl ?_|refine G.s' rfl ?_|skip)
 refine G.c' (va [.mk o s k l,.mk _ _ _ a] (by subst hcl3 hcl;exact rfl) (.inl rfl) (by simp) fun cl4 hcl4=>?_)
 cbv
 exact FinL.go (W.rt hK) hy hz (yd hcl4) rfl (nb rfl)
end Go.AM.Rf
namespace Go.AM
def Fr(K:Ex→Env→St→Prop):Ex→Env→St→Prop:=fun e env S=>∃ S2:St,(∀ p,S2.row p=S.row p)∧S2.next=S.next∧S2.caps=S.caps∧K e env S2
theorem za.refr{P:Program}{T:Tab}{N:Nat}{c:Code}{K:Ex→Env→St→Prop}{env:Env}{S:St}(h:za P T N c (Fr K) env S):za P T N c K env S:=by
 intro C hC g a w hI b k cs
 obtain⟨e,a',w',⟨ex,env,S,g',⟨S2,hr,hn,hc,q⟩,r,hI⟩,harr⟩:=h C hC g a w hI b k cs
 refine⟨e,a',w',⟨ex,env,S2,g',q,r,?_⟩,harr⟩
 refine⟨hI.tmp,hI.size,hI.defers,⟨fun o b e=>?_,hI.rel.inj,fun o b e=>by rw[hn];exact hI.rel.dom o b e,hI.rel.apart,hI.rel.live,fun k tk e=>by rw[hc];exact hI.rel.tok k tk e,hI.rel.tinj⟩,hI.ext,hI.ob,hI.tb,hI.glob,hI.nm,by rw[hn];exact hI.next⟩
 rw[hr]
 exact hI.rel.obj o b e
theorem za.front2{P:Program}{T:Tab}{N:Nat}{c:Code}{K:Ex→Env→St→Prop}{env:Env}{S:St}(h:za P T N c K env ⟨(0,S.row 0)::(1,S.row 1)::S.objs,S.next,S.caps⟩):za P T N c K env S:=by
 refine za.ext (S':=⟨(0,S.row 0)::(1,S.row 1)::S.objs,S.next,S.caps⟩) ?_ rfl rfl h
 intro o
 have h1:=qi S 1 o
 have h0:=qi ⟨(1,S.row 1)::S.objs,S.next,S.caps⟩ 0 o
 have e0:St.row ⟨(1,S.row 1)::S.objs,S.next,S.caps⟩ 0=S.row 0:=qi S 1 0
 rw[e0] at h0
 exact h0.trans h1
theorem exF2{K:Ex→Env→St→Prop}{e:Ex}{env ENV:Env}{S:St}{r0 r1:List AV}{m:Nat}(hle:qz ENV env)(h0:S.row 0=r0)(h1:S.row 1=r1)(hn:S.next=m+2)
 (hk:K e ENV ⟨(0,r0)::(1,r1)::S.objs,m+2,S.caps⟩):Less (Fr K) e env S:=by
 refine⟨ENV,hle,⟨(0,S.row 0)::(1,S.row 1)::S.objs,S.next,S.caps⟩,fun o=>?_,rfl,rfl,by rw[h0,h1,hn];exact hk⟩
 have h1:=qi S 1 o
 have h0:=qi ⟨(1,S.row 1)::S.objs,S.next,S.caps⟩ 0 o
 have e0:St.row ⟨(1,S.row 1)::S.objs,S.next,S.caps⟩ 0=S.row 0:=qi S 1 0
 rw[e0] at h0
 exact h0.trans h1
theorem exF3{K:Ex→Env→St→Prop}{e:Ex}{env ENV:Env}{S:St}{r0 r1 r2:List AV}{m:Nat}(hle:qz ENV env)(h0:S.row 0=r0)(h1:S.row 1=r1)(h2:S.row 2=r2)(hn:S.next=m+3)
 (hk:K e ENV ⟨(0,r0)::(1,r1)::(2,r2)::S.objs,m+3,S.caps⟩):Less (Fr K) e env S:=by
 refine⟨ENV,hle,⟨(0,S.row 0)::(1,S.row 1)::(2,S.row 2)::S.objs,S.next,S.caps⟩,fun o=>?_,rfl,rfl,by rw[h0,h1,h2,hn];exact hk⟩
 have h2:=qi S 2 o
 have h1:=qi ⟨(2,S.row 2)::S.objs,S.next,S.caps⟩ 1 o
 have h0:=qi ⟨(1,S.row 1)::(2,S.row 2)::S.objs,S.next,S.caps⟩ 0 o
 have e1:St.row ⟨(2,S.row 2)::S.objs,S.next,S.caps⟩ 1=S.row 1:=qi S 2 1
 have e0:St.row ⟨(1,S.row 1)::(2,S.row 2)::S.objs,S.next,S.caps⟩ 0=S.row 0:=by
  have a:=qi ⟨(2,S.row 2)::S.objs,S.next,S.caps⟩ 1 0
  rw[e1] at a
  exact a.trans (qi S 2 0)
 rw[e0] at h0
 rw[e1] at h1
 exact h0.trans (h1.trans h2)
end Go.AM
namespace Go.AM.Rf
open Go.Proofs Go.AM.Ps Go.AM.W
theorem Rf.fn188:FnOk Tryz.prog 188 (fni Tryz.f188 Pr.a188):=⟨⟨Tryz.f188,Tryz.func188,rfl,rfl,rfl,by kernel_rfl⟩,by kernel_rfl⟩
inductive GrowsA:TypeId→Mode→List AV→List Int→Prop where
 |nil:GrowsA 0 .exact [] []
 |own (cs:List AV) (nn:Int) (h:nn=cs.length):GrowsA 24 (.own 0) cs [nn]
noncomputable def c188:Code:=(fni Tryz.f188 Pr.a188).loop 0
theorem Rf.c188:qf 57 Pr.a188 c188=true:=by kernel_rfl
theorem zde(K:Ex→Env→St→Prop)(env:Env)(S:St)(h:xg (pAlg Tryz.prog (Pr.tab real) 57) (Pr.tab real) Pr.a188 0 c188 (andThen (za Tryz.prog (Pr.tab real) 57 c188 K) K) env S):za Tryz.prog (Pr.tab real) 57 c188 K env S:=
 vc Pr.tabOk Pr.mixed Rf.c188 h
theorem qda{t:List Tk}{n:Nat}(tv:AV)(N:Nat)(hmust:∀ s,Lit tv N 56 [.str s] (must t s) (fun _=> .tup []))(his:Lit tv N 50 [.int .i64 0,.str [119,104,101,110]] (isT t 0 k_when) .bool)(hexpr:LitN tv N 93 [] (expr t n))(o0 s0:List UInt8)(k0:Int)(l0:List Nd)(cl0:List AV)(hcl0:cl0=avL l0)(K:Ex→Env→St→Prop)(r:Nat) :
 ∀(S:St) (z:Nat) (b:Bool) (y:Int) (acc:List Nd) (e:TypeId) (cs:List AV) (m:Mode) (caps:List Int),S.row 0=[tv,.int .i64 y,.bool b]→S.row 1=[.str [],.str [],.int .i64 0,.slice 0 [] .exact]→S.row 2=[.str o0,.str s0,.int .i64 k0,.slice 24 cl0 .no]→(∃ k,S.next=k+3)→S.caps=caps→y=z→z≤N→cs=avL acc→GrowsA e m cs caps→acc.length+r≤1900000000 →
  W (arms t (expr t n) (some (.mk o0 s0 k0 l0)) r acc) z b (fun a z' b'=>z'≤N→∀(y':Int) (e':TypeId) (cl':List AV) (m':Mode) (caps':List Int) (O:List (Nat × List AV)) (j:Nat),y'=z'→cl'=avL a→a.length≤1900000000→GrowsA e' m' cl' caps'→K (.exit 0) [(0,.ptr 0 0),(2,.ptr 1 0),(3,.bool true),(4,.ptr 2 0),(5,.slice e' cl' m')] ⟨(0,[tv,.int .i64 y',.bool b'])::(1,[.str [],.str [],.int .i64 0,.slice 0 [] .exact])::(2,[.str o0,.str s0,.int .i64 k0,.slice 24 cl0 .no])::O,j+3,caps'⟩) →
  za Tryz.prog (Pr.tab real) 57 c188 (Less (Fr K)) [(0,.ptr 0 0),(2,.ptr 1 0),(3,.bool true),(4,.ptr 2 0),(5,.slice e cs m)] S:=by
 induction r with
 |zero=>
  intro S z b y acc e cs m caps _ _ _ _ _ _ _ _ _ _ hK
  obtain⟨_,_,_,h,_⟩:=hK
  cases h
 |succ r ih=>
  intro S z b y acc e cs m caps hr0 hr1 hr2 hnx hcp hy hz hcs hg hal hK
  obtain⟨j,hj⟩:=hnx
  refine za.front3 ?_
  rw[hr0,hr1,hr2,hj,hcp]
  obtain⟨O,hO⟩:∃ O,S.objs=O:=⟨_,rfl⟩
  rw[hO]
  clear hr0 hr1 hr2 hj hcp hO S
  have hlen:cs.length≤2000000000:=by rw[hcs,xd,List.length_map];omega
  have happ':∀ op s k l cl,cl=avL l→cs++[.agg [.str op,.str s,.int .i64 k,.slice 24 cl .no]]=avL (acc++[.mk op s k l]):=by
   intro op s k l cl hcl
   rw[hcs,hcl,xd acc,xd (acc++_),List.map_append];rfl
  have hg0:=hg
  have hacc0:cs=[]→acc=[]:=fun h=>by
   rw[h] at hcs
   cases acc with
   |nil=>rfl
   |cons x r=>simp[avL] at hcs
  apply zde
  apply xb (mk:=Pr.tab)
  intro fail _ _ _ _ len _ _ _ cmp _ _ _ _ app _ _ _ _ _ _ _ _ _ room not _ _ _ G
  have hnt:=G.not2
  have hnn:Nat.beq j j=true:=Nat.beq_refl j
  have hbb:Nat.ble j j=true:=Nat.ble_eq_true_of_le (Nat.le_refl j)
  cbv at hnn hbb
  have happ0:∀ v,app [] [v]=[v]:=fun v=>by rw[G.app'];rfl
  have hroom0:∀ v,room (len [v]) 64=true:=fun v=>by rw[G.room',G.len'];simp
  have hlen0:∀ v,len [v]=1:=fun v=>by rw[G.len'];rfl
  have hX:∀ op s k l cl,cl=avL l→∃(cc:List AV) (nn:Int),app cs [.agg [.str op,.str s,.int .i64 k,.slice 24 cl .no]]=cc∧room (len cc) 64=true∧len cc=nn∧cc=avL (acc++[.mk op s k l])∧GrowsA 24 (.own 0) cc [nn]:=by
   intro op s k l cl hcl
   refine⟨_,_,rfl,?_,rfl,?_,?_⟩
   ·rw[G.app',G.room',G.len'];simp;omega
   ·rw[G.app'];exact happ' op s k l cl hcl
   ·rw[G.app',G.len'];exact .own _ _ rfl
  have heqc:∀ n2:Int,n2=cs.length→cmp BinOp.eql n2 (len cs)=true:=fun n2 h=>by rw[G.cmp',G.len',h];simp[vb]
  generalize hL:za Tryz.prog (Pr.tab real) 57 c188 (Less (Fr K))=L at *
  generalize hK':Less (Fr K)=K' at *
  have hal2:acc.length≤1900000000:=by omega
  cases b with
  |true=>
   have hK:=W.unbad1 hK
   cbv
   rw[hnt]
   cbv
   rw[← hK']
   exact exF3 (ENV:=[(0,.ptr 0 0),(2,.ptr 1 0),(3,.bool true),(4,.ptr 2 0),(5,.slice e cs m)]) (.cons rfl (.cons rfl (.cons rfl (.cons rfl (.cons rfl (.nil _)))))) rfl rfl rfl rfl (hK hz _ _ _ _ _ _ _ hy hcs hal2 hg0)
  |false=>
   have hK:=W.unbad0 hK
   cases hg with
   |nil=>
    obtain rfl:=hacc0 rfl
    cbv
    rw[hnt]
    cbv
    refine G.c' (hmust _ _ _ _ _ _ hy rfl hz (nb rfl) (W.mono (W.bd hK) fun u z b hK hz y hy=>?_))
    cbv
    repeat' (first|(rw[hnn];try cbv)|(rw[hbb];try cbv)|refine G.n' rfl ?_|refine G.s' rfl ?_|fail)
    refine G.c' (hexpr _ _ _ _ _ hy rfl hz (nb rfl) (W.mono (W.bd hK) fun a z b hK hz y hy cl hcl=>?_))
    obtain⟨o,s,k,l⟩:=a
    cbv
    repeat' (first|(rw[hnn];try cbv)|(rw[hbb];try cbv)|refine G.n' rfl ?_|refine G.s' rfl ?_|fail)
    refine G.c' (va [.mk o0 s0 k0 l0,.mk o s k l] (by subst hcl hcl0;exact rfl) (.inl rfl) (by simp) fun cl1 hcl1=>?_)
    cbv
    repeat' (first|(rw[hnn];try cbv)|(rw[hbb];try cbv)|refine G.n' rfl ?_|refine G.s' rfl ?_|fail)
    refine G.c' (hmust _ _ _ _ _ _ hy rfl hz (nb rfl) (W.mono (W.bd hK) fun u z b hK hz y hy=>?_))
    cbv
    repeat' (first|(rw[hnn];try cbv)|(rw[hbb];try cbv)|refine G.n' rfl ?_|refine G.s' rfl ?_|fail)
    refine G.c' (hexpr _ _ _ _ _ hy rfl hz (nb rfl) (W.mono (W.bd hK) fun a z b hK hz y hy cl2 hcl2=>?_))
    obtain⟨o2,s2,k2,l2⟩:=a
    cbv
    repeat' (first|(rw[hnn];try cbv)|(rw[hbb];try cbv)|refine G.n' rfl ?_|refine G.s' rfl ?_|fail)
    refine G.c' (va [.mk g_eq [] 0 [.mk o0 s0 k0 l0,.mk o s k l],.mk o2 s2 k2 l2] (by first|(subst hcl1 hcl2;exact rfl)|(subst hcl2;rw[hcl1];exact rfl)) (.inl rfl) (by simp) fun cl3 hcl3=>?_)
    cbv
    repeat' (first|(rw[hnn];try cbv)|(rw[hbb];try cbv)|refine G.n' rfl ?_|refine G.s' rfl ?_|fail)
    rw[happ0]
    refine G.n' (hroom0 _) ?_
    rw[hlen0]
    cbv
    refine G.c' (his _ _ _ _ _ hy rfl hz (nb rfl) (W.mono (W.bd hK) fun more z b hK hz y hy=>?_))
    cbv
    rw[hnt]
    cases more with
    |true=>
     cbv
     have hgo:=fun S r0 r1 r2 hn hcp=>ih S z b y ([]++[.mk k_when [] 0 [.mk g_eq [] 0 [.mk o0 s0 k0 l0,.mk o s k l],.mk o2 s2 k2 l2]]) 24 [.agg [.str [119,104,101,110],.str [],.int .i64 0,.slice 24 cl3 .no]] (.own 0) _ r0 r1 r2 hn hcp hy hz (by subst hcl3;rfl) (.own _ _ rfl) (by simp only[List.length_append,List.length_cons,List.length_nil];omega) hK
     subst hL
     exact za.weak (env':=[(0,.ptr 0 0),(2,.ptr 1 0),(3,.bool true),(4,.ptr 2 0),(5,.slice 24 [.agg [.str [119,104,101,110],.str [],.int .i64 0,.slice 24 cl3 .no]] (.own 0))]) (.cons rfl (.cons rfl (.cons rfl (.cons rfl (.cons rfl (.nil _)))))) (hgo _ rfl rfl rfl ⟨_,rfl⟩ rfl)
    |false=>
     cbv
     have hfin:=(W.rt hK) hz
     rw[← hK']
     exact exF3 (ENV:=[(0,.ptr 0 0),(2,.ptr 1 0),(3,.bool true),(4,.ptr 2 0),(5,.slice 24 [.agg [.str [119,104,101,110],.str [],.int .i64 0,.slice 24 cl3 .no]] (.own 0))]) (.cons rfl (.cons rfl (.cons rfl (.cons rfl (.cons rfl (.nil _)))))) rfl rfl rfl rfl (hfin _ 24 [.agg [.str [119,104,101,110],.str [],.int .i64 0,.slice 24 cl3 .no]] (.own 0) _ _ _ hy (by subst hcl3;rfl) (by simp only[List.length_append,List.length_cons,List.length_nil];omega) (.own _ _ rfl))
   |own cs n2 hn2=>
    have hq2:=heqc n2 hn2
    cbv
    rw[hnt]
    cbv
    refine G.c' (hmust _ _ _ _ _ _ hy rfl hz (nb rfl) (W.mono (W.bd hK) fun u z b hK hz y hy=>?_))
    cbv
    repeat' (first|(rw[hnn];try cbv)|(rw[hbb];try cbv)|refine G.n' rfl ?_|refine G.s' rfl ?_|fail)
    refine G.c' (hexpr _ _ _ _ _ hy rfl hz (nb rfl) (W.mono (W.bd hK) fun a z b hK hz y hy cl hcl=>?_))
    obtain⟨o,s,k,l⟩:=a
    cbv
    repeat' (first|(rw[hnn];try cbv)|(rw[hbb];try cbv)|refine G.n' rfl ?_|refine G.s' rfl ?_|fail)
    refine G.c' (va [.mk o0 s0 k0 l0,.mk o s k l] (by subst hcl hcl0;exact rfl) (.inl rfl) (by simp) fun cl1 hcl1=>?_)
    cbv
    repeat' (first|(rw[hnn];try cbv)|(rw[hbb];try cbv)|refine G.n' rfl ?_|refine G.s' rfl ?_|fail)
    refine G.c' (hmust _ _ _ _ _ _ hy rfl hz (nb rfl) (W.mono (W.bd hK) fun u z b hK hz y hy=>?_))
    cbv
    repeat' (first|(rw[hnn];try cbv)|(rw[hbb];try cbv)|refine G.n' rfl ?_|refine G.s' rfl ?_|fail)
    refine G.c' (hexpr _ _ _ _ _ hy rfl hz (nb rfl) (W.mono (W.bd hK) fun a z b hK hz y hy cl2 hcl2=>?_))
    obtain⟨o2,s2,k2,l2⟩:=a
    cbv
    repeat' (first|(rw[hnn];try cbv)|(rw[hbb];try cbv)|refine G.n' rfl ?_|refine G.s' rfl ?_|fail)
    refine G.c' (va [.mk g_eq [] 0 [.mk o0 s0 k0 l0,.mk o s k l],.mk o2 s2 k2 l2] (by first|(subst hcl1 hcl2;exact rfl)|(subst hcl2;rw[hcl1];exact rfl)) (.inl rfl) (by simp) fun cl3 hcl3=>?_)
    obtain⟨cc,nn,h1,h2,h3,h4,h5⟩:=hX _ _ _ _ _ hcl3
    cbv
    repeat' (first|(rw[hnn];try cbv)|(rw[hbb];try cbv)|refine G.n' rfl ?_|refine G.s' rfl ?_|fail)
    rw[h1]
    refine G.n' h2 (G.n' hq2 ?_)
    rw[h3]
    cbv
    refine G.c' (his _ _ _ _ _ hy rfl hz (nb rfl) (W.mono (W.bd hK) fun more z b hK hz y hy=>?_))
    cbv
    rw[hnt]
    cases more with
    |true=>
     cbv
     have hgo:=fun S r0 r1 r2 hn hcp=>ih S z b y (acc++[.mk k_when [] 0 [.mk g_eq [] 0 [.mk o0 s0 k0 l0,.mk o s k l],.mk o2 s2 k2 l2]]) 24 cc (.own 0) _ r0 r1 r2 hn hcp hy hz h4 h5 (by simp only[List.length_append,List.length_cons,List.length_nil];omega) hK
     subst hL
     exact za.weak (env':=[(0,.ptr 0 0),(2,.ptr 1 0),(3,.bool true),(4,.ptr 2 0),(5,.slice 24 cc (.own 0))]) (.cons rfl (.cons rfl (.cons rfl (.cons rfl (.cons rfl (.nil _)))))) (hgo _ rfl rfl rfl ⟨_,rfl⟩ rfl)
    |false=>
     cbv
     have hfin:=(W.rt hK) hz
     rw[← hK']
     exact exF3 (ENV:=[(0,.ptr 0 0),(2,.ptr 1 0),(3,.bool true),(4,.ptr 2 0),(5,.slice 24 cc (.own 0))]) (.cons rfl (.cons rfl (.cons rfl (.cons rfl (.cons rfl (.nil _)))))) rfl rfl rfl rfl (hfin _ 24 cc (.own 0) _ _ _ hy h4 (by simp only[List.length_append,List.length_cons,List.length_nil];omega) h5)
theorem zda{t:List Tk}{n:Nat}(tv:AV)(N:Nat)(hmust:∀ s,Lit tv N 56 [.str s] (must t s) (fun _=> .tup []))(his:Lit tv N 50 [.int .i64 0,.str [119,104,101,110]] (isT t 0 k_when) .bool)(hexpr:LitN tv N 93 [] (expr t n))(K:Ex→Env→St→Prop)(r:Nat) :
 ∀(S:St) (z:Nat) (b:Bool) (y:Int) (acc:List Nd) (e:TypeId) (cs:List AV) (m:Mode) (caps:List Int),S.row 0=[tv,.int .i64 y,.bool b]→S.row 1=[.str [],.str [],.int .i64 0,.slice 0 [] .exact]→S.row 2=[.str [],.str [],.int .i64 0,.slice 0 [] .exact]→(∃ k,S.next=k+3)→S.caps=caps→y=z→z≤N→cs=avL acc→GrowsA e m cs caps→acc.length+r≤1900000000 →
  W (arms t (expr t n) none r acc) z b (fun a z' b'=>z'≤N→∀(y':Int) (e':TypeId) (cl':List AV) (m':Mode) (caps':List Int) (O:List (Nat × List AV)) (j:Nat),y'=z'→cl'=avL a→a.length≤1900000000→GrowsA e' m' cl' caps'→K (.exit 0) [(0,.ptr 0 0),(2,.ptr 1 0),(3,.bool false),(4,.ptr 2 0),(5,.slice e' cl' m')] ⟨(0,[tv,.int .i64 y',.bool b'])::(1,[.str [],.str [],.int .i64 0,.slice 0 [] .exact])::(2,[.str [],.str [],.int .i64 0,.slice 0 [] .exact])::O,j+3,caps'⟩) →
  za Tryz.prog (Pr.tab real) 57 c188 (Less (Fr K)) [(0,.ptr 0 0),(2,.ptr 1 0),(3,.bool false),(4,.ptr 2 0),(5,.slice e cs m)] S:=by
 induction r with
 |zero=>
  intro S z b y acc e cs m caps _ _ _ _ _ _ _ _ _ _ hK
  obtain⟨_,_,_,h,_⟩:=hK
  cases h
 |succ r ih=>
  intro S z b y acc e cs m caps hr0 hr1 hr2 hnx hcp hy hz hcs hg hal hK
  obtain⟨j,hj⟩:=hnx
  refine za.front3 ?_
  rw[hr0,hr1,hr2,hj,hcp]
  obtain⟨O,hO⟩:∃ O,S.objs=O:=⟨_,rfl⟩
  rw[hO]
  clear hr0 hr1 hr2 hj hcp hO S
  have hlen:cs.length≤2000000000:=by rw[hcs,xd,List.length_map];omega
  have happ':∀ op s k l cl,cl=avL l→cs++[.agg [.str op,.str s,.int .i64 k,.slice 24 cl .no]]=avL (acc++[.mk op s k l]):=by
   intro op s k l cl hcl
   rw[hcs,hcl,xd acc,xd (acc++_),List.map_append];rfl
  have hg0:=hg
  have hacc0:cs=[]→acc=[]:=fun h=>by
   rw[h] at hcs
   cases acc with
   |nil=>rfl
   |cons x r=>simp[avL] at hcs
  apply zde
  apply xb (mk:=Pr.tab)
  intro fail _ _ _ _ len _ _ _ cmp _ _ _ _ app _ _ _ _ _ _ _ _ _ room not _ _ _ G
  have hnt:=G.not2
  have hnn:Nat.beq j j=true:=Nat.beq_refl j
  have hbb:Nat.ble j j=true:=Nat.ble_eq_true_of_le (Nat.le_refl j)
  cbv at hnn hbb
  have happ0:∀ v,app [] [v]=[v]:=fun v=>by rw[G.app'];rfl
  have hroom0:∀ v,room (len [v]) 64=true:=fun v=>by rw[G.room',G.len'];simp
  have hlen0:∀ v,len [v]=1:=fun v=>by rw[G.len'];rfl
  have hX:∀ op s k l cl,cl=avL l→∃(cc:List AV) (nn:Int),app cs [.agg [.str op,.str s,.int .i64 k,.slice 24 cl .no]]=cc∧room (len cc) 64=true∧len cc=nn∧cc=avL (acc++[.mk op s k l])∧GrowsA 24 (.own 0) cc [nn]:=by
   intro op s k l cl hcl
   refine⟨_,_,rfl,?_,rfl,?_,?_⟩
   ·rw[G.app',G.room',G.len'];simp;omega
   ·rw[G.app'];exact happ' op s k l cl hcl
   ·rw[G.app',G.len'];exact .own _ _ rfl
  have heqc:∀ n2:Int,n2=cs.length→cmp BinOp.eql n2 (len cs)=true:=fun n2 h=>by rw[G.cmp',G.len',h];simp[vb]
  generalize hL:za Tryz.prog (Pr.tab real) 57 c188 (Less (Fr K))=L at *
  generalize hK':Less (Fr K)=K' at *
  have hal2:acc.length≤1900000000:=by omega
  cases b with
  |true=>
   have hK:=W.unbad1 hK
   cbv
   rw[hnt]
   cbv
   rw[← hK']
   exact exF3 (ENV:=[(0,.ptr 0 0),(2,.ptr 1 0),(3,.bool false),(4,.ptr 2 0),(5,.slice e cs m)]) (.cons rfl (.cons rfl (.cons rfl (.cons rfl (.cons rfl (.nil _)))))) rfl rfl rfl rfl (hK hz _ _ _ _ _ _ _ hy hcs hal2 hg0)
  |false=>
   have hK:=W.unbad0 hK
   cases hg with
   |nil=>
    obtain rfl:=hacc0 rfl
    cbv
    rw[hnt]
    cbv
    refine G.c' (hmust _ _ _ _ _ _ hy rfl hz (nb rfl) (W.mono (W.bd hK) fun u z b hK hz y hy=>?_))
    cbv
    repeat' (first|(rw[hnn];try cbv)|(rw[hbb];try cbv)|refine G.n' rfl ?_|refine G.s' rfl ?_|fail)
    refine G.c' (hexpr _ _ _ _ _ hy rfl hz (nb rfl) (W.mono (W.bd hK) fun a z b hK hz y hy cl hcl=>?_))
    obtain⟨o,s,k,l⟩:=a
    cbv
    repeat' (first|(rw[hnn];try cbv)|(rw[hbb];try cbv)|refine G.n' rfl ?_|refine G.s' rfl ?_|fail)
    refine G.c' (hmust _ _ _ _ _ _ hy rfl hz (nb rfl) (W.mono (W.bd hK) fun u z b hK hz y hy=>?_))
    cbv
    repeat' (first|(rw[hnn];try cbv)|(rw[hbb];try cbv)|refine G.n' rfl ?_|refine G.s' rfl ?_|fail)
    refine G.c' (hexpr _ _ _ _ _ hy rfl hz (nb rfl) (W.mono (W.bd hK) fun a z b hK hz y hy cl2 hcl2=>?_))
    obtain⟨o2,s2,k2,l2⟩:=a
    cbv
    repeat' (first|(rw[hnn];try cbv)|(rw[hbb];try cbv)|refine G.n' rfl ?_|refine G.s' rfl ?_|fail)
    refine G.c' (va [.mk o s k l,.mk o2 s2 k2 l2] (by subst hcl hcl2;exact rfl) (.inl rfl) (by simp) fun cl3 hcl3=>?_)
    cbv
    repeat' (first|(rw[hnn];try cbv)|(rw[hbb];try cbv)|refine G.n' rfl ?_|refine G.s' rfl ?_|fail)
    rw[happ0]
    refine G.n' (hroom0 _) ?_
    rw[hlen0]
    cbv
    refine G.c' (his _ _ _ _ _ hy rfl hz (nb rfl) (W.mono (W.bd hK) fun more z b hK hz y hy=>?_))
    cbv
    rw[hnt]
    cases more with
    |true=>
     cbv
     have hgo:=fun S r0 r1 r2 hn hcp=>ih S z b y ([]++[.mk k_when [] 0 [.mk o s k l,.mk o2 s2 k2 l2]]) 24 [.agg [.str [119,104,101,110],.str [],.int .i64 0,.slice 24 cl3 .no]] (.own 0) _ r0 r1 r2 hn hcp hy hz (by subst hcl3;rfl) (.own _ _ rfl) (by simp only[List.length_append,List.length_cons,List.length_nil];omega) hK
     subst hL
     exact za.weak (env':=[(0,.ptr 0 0),(2,.ptr 1 0),(3,.bool false),(4,.ptr 2 0),(5,.slice 24 [.agg [.str [119,104,101,110],.str [],.int .i64 0,.slice 24 cl3 .no]] (.own 0))]) (.cons rfl (.cons rfl (.cons rfl (.cons rfl (.cons rfl (.nil _)))))) (hgo _ rfl rfl rfl ⟨_,rfl⟩ rfl)
    |false=>
     cbv
     have hfin:=(W.rt hK) hz
     rw[← hK']
     exact exF3 (ENV:=[(0,.ptr 0 0),(2,.ptr 1 0),(3,.bool false),(4,.ptr 2 0),(5,.slice 24 [.agg [.str [119,104,101,110],.str [],.int .i64 0,.slice 24 cl3 .no]] (.own 0))]) (.cons rfl (.cons rfl (.cons rfl (.cons rfl (.cons rfl (.nil _)))))) rfl rfl rfl rfl (hfin _ 24 [.agg [.str [119,104,101,110],.str [],.int .i64 0,.slice 24 cl3 .no]] (.own 0) _ _ _ hy (by subst hcl3;rfl) (by simp only[List.length_append,List.length_cons,List.length_nil];omega) (.own _ _ rfl))
   |own cs n2 hn2=>
    have hq2:=heqc n2 hn2
    cbv
    rw[hnt]
    cbv
    refine G.c' (hmust _ _ _ _ _ _ hy rfl hz (nb rfl) (W.mono (W.bd hK) fun u z b hK hz y hy=>?_))
    cbv
    repeat' (first|(rw[hnn];try cbv)|(rw[hbb];try cbv)|refine G.n' rfl ?_|refine G.s' rfl ?_|fail)
    refine G.c' (hexpr _ _ _ _ _ hy rfl hz (nb rfl) (W.mono (W.bd hK) fun a z b hK hz y hy cl hcl=>?_))
    obtain⟨o,s,k,l⟩:=a
    cbv
    repeat' (first|(rw[hnn];try cbv)|(rw[hbb];try cbv)|refine G.n' rfl ?_|refine G.s' rfl ?_|fail)
    refine G.c' (hmust _ _ _ _ _ _ hy rfl hz (nb rfl) (W.mono (W.bd hK) fun u z b hK hz y hy=>?_))
    cbv
    repeat' (first|(rw[hnn];try cbv)|(rw[hbb];try cbv)|refine G.n' rfl ?_|refine G.s' rfl ?_|fail)
    refine G.c' (hexpr _ _ _ _ _ hy rfl hz (nb rfl) (W.mono (W.bd hK) fun a z b hK hz y hy cl2 hcl2=>?_))
    obtain⟨o2,s2,k2,l2⟩:=a
    cbv
    repeat' (first|(rw[hnn];try cbv)|(rw[hbb];try cbv)|refine G.n' rfl ?_|refine G.s' rfl ?_|fail)
    refine G.c' (va [.mk o s k l,.mk o2 s2 k2 l2] (by subst hcl hcl2;exact rfl) (.inl rfl) (by simp) fun cl3 hcl3=>?_)
    obtain⟨cc,nn,h1,h2,h3,h4,h5⟩:=hX _ _ _ _ _ hcl3
    cbv
    repeat' (first|(rw[hnn];try cbv)|(rw[hbb];try cbv)|refine G.n' rfl ?_|refine G.s' rfl ?_|fail)
    rw[h1]
    refine G.n' h2 (G.n' hq2 ?_)
    rw[h3]
    cbv
    refine G.c' (his _ _ _ _ _ hy rfl hz (nb rfl) (W.mono (W.bd hK) fun more z b hK hz y hy=>?_))
    cbv
    rw[hnt]
    cases more with
    |true=>
     cbv
     have hgo:=fun S r0 r1 r2 hn hcp=>ih S z b y (acc++[.mk k_when [] 0 [.mk o s k l,.mk o2 s2 k2 l2]]) 24 cc (.own 0) _ r0 r1 r2 hn hcp hy hz h4 h5 (by simp only[List.length_append,List.length_cons,List.length_nil];omega) hK
     subst hL
     exact za.weak (env':=[(0,.ptr 0 0),(2,.ptr 1 0),(3,.bool false),(4,.ptr 2 0),(5,.slice 24 cc (.own 0))]) (.cons rfl (.cons rfl (.cons rfl (.cons rfl (.cons rfl (.nil _)))))) (hgo _ rfl rfl rfl ⟨_,rfl⟩ rfl)
    |false=>
     cbv
     have hfin:=(W.rt hK) hz
     rw[← hK']
     exact exF3 (ENV:=[(0,.ptr 0 0),(2,.ptr 1 0),(3,.bool false),(4,.ptr 2 0),(5,.slice 24 cc (.own 0))]) (.cons rfl (.cons rfl (.cons rfl (.cons rfl (.cons rfl (.nil _)))))) rfl rfl rfl rfl (hfin _ 24 cc (.own 0) _ _ _ hy h4 (by simp only[List.length_append,List.length_cons,List.length_nil];omega) h5)
theorem qd5{t:List Tk}(ht:Toks t){n:Nat}(hn:n≤1000000000)(he:Ok t 93 [] (expr t n) Nd.av):Ok t 188 [] (cases t (n+1)) Nd.av:=by
 refine Ok.of2 (fun _ _=>rfl) (fun a _ _=>zh _ _ a) fun tv htv z b y K hy hz hK=>?_
 unfold cases at hK
 have hgot:=fun s=>(zj ht.len s).lit
 simp only[← htv] at hgot
 have hmust:=fun s=>(jm ht.len s).lit
 simp only[← htv] at hmust
 have his:=(zby ht.len 0 0 rfl (by decide) W.k_when).lit
 rw[← htv] at his
 have hexpr:=he.litN
 rw[← htv] at hexpr
 clear htv
 generalize t.length=N at *
 apply ja (un:=0) Pr.tabOk Pr.mixed Rf.fn188 (nb rfl)
 apply qb (mk:=Pr.tab)
 intro fail _ _ _ _ len _ _ _ cmp _ _ _ _ app _ _ _ _ _ _ _ _ _ room not _ _ _ G
 have hnt:=G.not2
 have happ0:∀ v,app [] [v]=[v]:=fun v=>by rw[G.app'];rfl
 have hroom0:∀ v,room (len [v]) 64=true:=fun v=>by rw[G.room',G.len'];simp
 have hlen0:∀ v,len [v]=1:=fun v=>by rw[G.len'];rfl
 have hXX:∀(cs:List AV) (a:List Nd) op s k l cl,cs=avL a→cl=avL l→cs.length≤2000000000→∃(cc:List AV),app cs [.agg [.str op,.str s,.int .i64 k,.slice 24 cl .no]]=cc∧room (len cc) 64=true∧cc=avL (a++[.mk op s k l]):=by
  intro cs a op s k l cl hcs hcl hlen
  refine⟨_,rfl,?_,?_⟩
  ·rw[G.app',G.room',G.len'];simp;omega
  ·rw[G.app',hcs,hcl,xd a,xd (a++_),List.map_append];rfl
 have hqq:∀(cs:List AV) (n2:Int),n2=cs.length→cmp BinOp.eql n2 (len cs)=true:=fun cs n2 h=>by rw[G.cmp',G.len',h];simp[vb]
 cbv
 refine G.c' (his _ _ _ _ _ hy rfl hz (nb rfl) (W.mono (W.bd hK) fun w z b hK hz y hy=>?_))
 cbv
 rw[hnt]
 cases w with
 |true=>
 have hK:=W.rb hK
 cbv
 refine G.l' ?_
 change za Tryz.prog (Pr.tab real) 57 c188 _ _ _
 refine za.refr (za.relax (za.weak (env':=[(0,.ptr 0 0),(2,.ptr 1 0),(3,.bool false),(4,.ptr 2 0),(5,.slice 0 [] .exact)]) (.cons rfl (.cons rfl (.cons rfl (.cons rfl (.cons rfl (.nil _)))))) (zda (t:=t) (n:=n) tv N hmust his hexpr  _ n _ _ _ _ [] 0 [] .exact [] rfl rfl rfl ⟨0,rfl⟩ rfl hy hz rfl .nil (by simp;omega) (W.mono (W.bd hK) fun a z b hK hz y e cl2 m caps O j hy hcl2 hal hg=>?_))))
 ·have hnn:Nat.beq j j=true:=Nat.beq_refl j
  have hbb:Nat.ble j j=true:=Nat.ble_eq_true_of_le (Nat.le_refl j)
  cbv at hnn hbb
  cbv
  refine G.c' (va [] (by exact rfl) (.inr rfl) (by simp) fun cl3 hcl3=>?_)
  cbv
  repeat' (first|(rw[hnn];try cbv)|(rw[hbb];try cbv)|refine G.n' rfl ?_|refine G.s' rfl ?_|fail)
  refine G.c' (hgot _ _ _ _ _ _ hy rfl hz (nb rfl) (W.mono (W.bd hK) fun el z b hK hz y hy=>?_))
  cases el with
  |false=>
   have hK:=W.rb hK
   cbv
   repeat' (first|(rw[hnn];try cbv)|(rw[hbb];try cbv)|refine G.n' rfl ?_|refine G.s' rfl ?_|fail)
   refine G.c' (hmust _ _ _ _ _ _ hy rfl hz (nb rfl) (W.mono (W.bd hK) fun u z b hK hz y hy=>?_))
   cbv
   repeat' (first|(rw[hnn];try cbv)|(rw[hbb];try cbv)|refine G.n' rfl ?_|refine G.s' rfl ?_|fail)
   cases hg with
   |nil=>
    obtain rfl:a=[]:=by
     cases a with
     |nil=>rfl
     |cons x r=>simp[avL] at hcl2
    cbv
    repeat' (first|(rw[hnn];try cbv)|(rw[hbb];try cbv)|refine G.n' rfl ?_|refine G.s' rfl ?_|fail)
    rw[happ0]
    refine G.n' (hroom0 _) ?_
    cbv
    try rw[happ0]
    refine G.c' (va [.mk _ _ _ _] (by subst hcl3;exact rfl) (.inl rfl) (by simp) fun cl4 hcl4=>?_)
    cbv
    repeat' (first|(rw[hnn];try cbv)|(rw[hbb];try cbv)|refine G.n' rfl ?_|refine G.s' rfl ?_|fail)
    exact FinL.go (W.rt hK) hy hz (yd hcl4) rfl (nb rfl)
   |own cs nn hnn2=>
    have hlen:cl2.length≤2000000000:=by rw[hcl2,xd,List.length_map];omega
    have hX:=hXX _ _ [110,117,108,108] [] 0 [] _ hcl2 hcl3 hlen
    have hq:=hqq _ _ hnn2
    have hal3:(a++[Nd.mk [110,117,108,108] [] 0 []]).length≤2000000000:=by simp only[List.length_append,List.length_cons,List.length_nil];omega
    obtain⟨cc,h1,h2,h4⟩:=hX
    cbv
    repeat' (first|(rw[hnn];try cbv)|(rw[hbb];try cbv)|refine G.n' rfl ?_|refine G.s' rfl ?_|fail)
    rw[h1]
    refine G.n' h2 (G.n' hq ?_)
    cbv
    try rw[h1]
    refine G.c' (va _ h4 (.inl rfl) hal3 fun cl4 hcl4=>?_)
    cbv
    repeat' (first|(rw[hnn];try cbv)|(rw[hbb];try cbv)|refine G.n' rfl ?_|refine G.s' rfl ?_|fail)
    exact FinL.go (W.rt hK) hy hz (yd hcl4) rfl (nb rfl)
  |true=>
   cbv
   repeat' (first|(rw[hnn];try cbv)|(rw[hbb];try cbv)|refine G.n' rfl ?_|refine G.s' rfl ?_|fail)
   refine G.c' (hexpr _ _ _ _ _ hy rfl hz (nb rfl) (W.mono (W.bd hK) fun x z b hK hz y hy cl3 hcl3=>?_))
   obtain⟨o2,s2,k2,l2⟩:=x
   cbv
   repeat' (first|(rw[hnn];try cbv)|(rw[hbb];try cbv)|refine G.n' rfl ?_|refine G.s' rfl ?_|fail)
   refine G.c' (hmust _ _ _ _ _ _ hy rfl hz (nb rfl) (W.mono (W.bd hK) fun u z b hK hz y hy=>?_))
   cbv
   repeat' (first|(rw[hnn];try cbv)|(rw[hbb];try cbv)|refine G.n' rfl ?_|refine G.s' rfl ?_|fail)
   cases hg with
   |nil=>
    obtain rfl:a=[]:=by
     cases a with
     |nil=>rfl
     |cons x r=>simp[avL] at hcl2
    cbv
    repeat' (first|(rw[hnn];try cbv)|(rw[hbb];try cbv)|refine G.n' rfl ?_|refine G.s' rfl ?_|fail)
    rw[happ0]
    refine G.n' (hroom0 _) ?_
    cbv
    try rw[happ0]
    refine G.c' (va [.mk _ _ _ _] (by subst hcl3;exact rfl) (.inl rfl) (by simp) fun cl4 hcl4=>?_)
    cbv
    repeat' (first|(rw[hnn];try cbv)|(rw[hbb];try cbv)|refine G.n' rfl ?_|refine G.s' rfl ?_|fail)
    exact FinL.go (W.rt hK) hy hz (yd hcl4) rfl (nb rfl)
   |own cs nn hnn2=>
    have hlen:cl2.length≤2000000000:=by rw[hcl2,xd,List.length_map];omega
    have hX:=hXX _ _ o2 s2 k2 l2 _ hcl2 hcl3 hlen
    have hq:=hqq _ _ hnn2
    have hal3:(a++[Nd.mk o2 s2 k2 l2]).length≤2000000000:=by simp only[List.length_append,List.length_cons,List.length_nil];omega
    obtain⟨cc,h1,h2,h4⟩:=hX
    cbv
    repeat' (first|(rw[hnn];try cbv)|(rw[hbb];try cbv)|refine G.n' rfl ?_|refine G.s' rfl ?_|fail)
    rw[h1]
    refine G.n' h2 (G.n' hq ?_)
    cbv
    try rw[h1]
    refine G.c' (va _ h4 (.inl rfl) hal3 fun cl4 hcl4=>?_)
    cbv
    repeat' (first|(rw[hnn];try cbv)|(rw[hbb];try cbv)|refine G.n' rfl ?_|refine G.s' rfl ?_|fail)
    exact FinL.go (W.rt hK) hy hz (yd hcl4) rfl (nb rfl)
 |false=>
 have hK:=W.as hK
 cbv
 refine G.c' (hexpr _ _ _ _ _ hy rfl hz (nb rfl) (W.mono (W.bd hK) fun x z b hK hz y hy cl0 hcl0=>?_))
 obtain⟨o0,s0,k0,l0⟩:=x
 have hK:=W.rb hK
 cbv
 refine G.l' ?_
 change za Tryz.prog (Pr.tab real) 57 c188 _ _ _
 refine za.refr (za.relax (za.weak (env':=[(0,.ptr 0 0),(2,.ptr 1 0),(3,.bool true),(4,.ptr 2 0),(5,.slice 0 [] .exact)]) (.cons rfl (.cons rfl (.cons rfl (.cons rfl (.cons rfl (.nil _)))))) (qda (t:=t) (n:=n) tv N hmust his hexpr o0 s0 k0 l0 cl0 hcl0 _ n _ _ _ _ [] 0 [] .exact [] rfl rfl rfl ⟨0,rfl⟩ rfl hy hz rfl .nil (by simp;omega) (W.mono (W.bd hK) fun a z b hK hz y e cl2 m caps O j hy hcl2 hal hg=>?_))))
 ·have hnn:Nat.beq j j=true:=Nat.beq_refl j
  have hbb:Nat.ble j j=true:=Nat.ble_eq_true_of_le (Nat.le_refl j)
  cbv at hnn hbb
  cbv
  refine G.c' (va [] (by exact rfl) (.inr rfl) (by simp) fun cl3 hcl3=>?_)
  cbv
  repeat' (first|(rw[hnn];try cbv)|(rw[hbb];try cbv)|refine G.n' rfl ?_|refine G.s' rfl ?_|fail)
  refine G.c' (hgot _ _ _ _ _ _ hy rfl hz (nb rfl) (W.mono (W.bd hK) fun el z b hK hz y hy=>?_))
  cases el with
  |false=>
   have hK:=W.rb hK
   cbv
   repeat' (first|(rw[hnn];try cbv)|(rw[hbb];try cbv)|refine G.n' rfl ?_|refine G.s' rfl ?_|fail)
   refine G.c' (hmust _ _ _ _ _ _ hy rfl hz (nb rfl) (W.mono (W.bd hK) fun u z b hK hz y hy=>?_))
   cbv
   repeat' (first|(rw[hnn];try cbv)|(rw[hbb];try cbv)|refine G.n' rfl ?_|refine G.s' rfl ?_|fail)
   cases hg with
   |nil=>
    obtain rfl:a=[]:=by
     cases a with
     |nil=>rfl
     |cons x r=>simp[avL] at hcl2
    cbv
    repeat' (first|(rw[hnn];try cbv)|(rw[hbb];try cbv)|refine G.n' rfl ?_|refine G.s' rfl ?_|fail)
    rw[happ0]
    refine G.n' (hroom0 _) ?_
    cbv
    try rw[happ0]
    refine G.c' (va [.mk _ _ _ _] (by subst hcl3;exact rfl) (.inl rfl) (by simp) fun cl4 hcl4=>?_)
    cbv
    repeat' (first|(rw[hnn];try cbv)|(rw[hbb];try cbv)|refine G.n' rfl ?_|refine G.s' rfl ?_|fail)
    exact FinL.go (W.rt hK) hy hz (yd hcl4) rfl (nb rfl)
   |own cs nn hnn2=>
    have hlen:cl2.length≤2000000000:=by rw[hcl2,xd,List.length_map];omega
    have hX:=hXX _ _ [110,117,108,108] [] 0 [] _ hcl2 hcl3 hlen
    have hq:=hqq _ _ hnn2
    have hal3:(a++[Nd.mk [110,117,108,108] [] 0 []]).length≤2000000000:=by simp only[List.length_append,List.length_cons,List.length_nil];omega
    obtain⟨cc,h1,h2,h4⟩:=hX
    cbv
    repeat' (first|(rw[hnn];try cbv)|(rw[hbb];try cbv)|refine G.n' rfl ?_|refine G.s' rfl ?_|fail)
    rw[h1]
    refine G.n' h2 (G.n' hq ?_)
    cbv
    try rw[h1]
    refine G.c' (va _ h4 (.inl rfl) hal3 fun cl4 hcl4=>?_)
    cbv
    repeat' (first|(rw[hnn];try cbv)|(rw[hbb];try cbv)|refine G.n' rfl ?_|refine G.s' rfl ?_|fail)
    exact FinL.go (W.rt hK) hy hz (yd hcl4) rfl (nb rfl)
  |true=>
   cbv
   repeat' (first|(rw[hnn];try cbv)|(rw[hbb];try cbv)|refine G.n' rfl ?_|refine G.s' rfl ?_|fail)
   refine G.c' (hexpr _ _ _ _ _ hy rfl hz (nb rfl) (W.mono (W.bd hK) fun x z b hK hz y hy cl3 hcl3=>?_))
   obtain⟨o2,s2,k2,l2⟩:=x
   cbv
   repeat' (first|(rw[hnn];try cbv)|(rw[hbb];try cbv)|refine G.n' rfl ?_|refine G.s' rfl ?_|fail)
   refine G.c' (hmust _ _ _ _ _ _ hy rfl hz (nb rfl) (W.mono (W.bd hK) fun u z b hK hz y hy=>?_))
   cbv
   repeat' (first|(rw[hnn];try cbv)|(rw[hbb];try cbv)|refine G.n' rfl ?_|refine G.s' rfl ?_|fail)
   cases hg with
   |nil=>
    obtain rfl:a=[]:=by
     cases a with
     |nil=>rfl
     |cons x r=>simp[avL] at hcl2
    cbv
    repeat' (first|(rw[hnn];try cbv)|(rw[hbb];try cbv)|refine G.n' rfl ?_|refine G.s' rfl ?_|fail)
    rw[happ0]
    refine G.n' (hroom0 _) ?_
    cbv
    try rw[happ0]
    refine G.c' (va [.mk _ _ _ _] (by subst hcl3;exact rfl) (.inl rfl) (by simp) fun cl4 hcl4=>?_)
    cbv
    repeat' (first|(rw[hnn];try cbv)|(rw[hbb];try cbv)|refine G.n' rfl ?_|refine G.s' rfl ?_|fail)
    exact FinL.go (W.rt hK) hy hz (yd hcl4) rfl (nb rfl)
   |own cs nn hnn2=>
    have hlen:cl2.length≤2000000000:=by rw[hcl2,xd,List.length_map];omega
    have hX:=hXX _ _ o2 s2 k2 l2 _ hcl2 hcl3 hlen
    have hq:=hqq _ _ hnn2
    have hal3:(a++[Nd.mk o2 s2 k2 l2]).length≤2000000000:=by simp only[List.length_append,List.length_cons,List.length_nil];omega
    obtain⟨cc,h1,h2,h4⟩:=hX
    cbv
    repeat' (first|(rw[hnn];try cbv)|(rw[hbb];try cbv)|refine G.n' rfl ?_|refine G.s' rfl ?_|fail)
    rw[h1]
    refine G.n' h2 (G.n' hq ?_)
    cbv
    try rw[h1]
    refine G.c' (va _ h4 (.inl rfl) hal3 fun cl4 hcl4=>?_)
    cbv
    repeat' (first|(rw[hnn];try cbv)|(rw[hbb];try cbv)|refine G.n' rfl ?_|refine G.s' rfl ?_|fail)
    exact FinL.go (W.rt hK) hy hz (yd hcl4) rfl (nb rfl)
end Go.AM.Rf
