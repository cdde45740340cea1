/- How deep a tree is in the document's words, and what ref14.Parse answers. -/
import Derived.Test.YteomefghofhkiaaGreatDoorRdL
import Derived.Test.YteomefghofhkiaaGreatDoorRfPl
import Derived.Test.YteomefghofhkiaaGreatDoorRdN
set_option maxRecDepth 100000
set_option maxHeartbeats 4000000
set_option linter.unusedVariables false
set_option linter.unusedSimpArgs false
namespace Go.AM.Rf
open Go.Proofs Go.AM.Ps Go.AM.W
theorem Rf.fn13:FnOk Tryz.prog 13 (fni Tryz.f13 Pr.a13):=⟨⟨Tryz.f13,Tryz.func13,rfl,rfl,rfl,by kernel_rfl⟩,by kernel_rfl⟩
noncomputable def c13:Code:=(fni Tryz.f13 Pr.a13).loop 0
theorem Rf.c13:qf 22 Pr.a13 c13=true:=by kernel_rfl
theorem step13(K:Ex→Env→St→Prop)(env:Env)(S:St)(h:xg (pAlg Tryz.prog (Pr.tab real) 22) (Pr.tab real) Pr.a13 0 c13 (andThen (za Tryz.prog (Pr.tab real) 22 c13 K) K) env S):za Tryz.prog (Pr.tab real) 22 c13 K env S:=
 vc Pr.tabOk Pr.mixed Rf.c13 h
def zcd(x:Nd):Prop:=∀(S:St) (K:Out→St→Prop),K (.ret (.int .i64 (depth x))) S→jb Tryz.prog (Pr.tab real) 13 [x.av] S K
def SD(op s:List UInt8)(k:Int)(cs:List AV):St:=⟨[(0,[.str op,.str s,.int .i64 k,.slice 24 cs .no])],1,[]⟩
theorem qco(op s:List UInt8)(kk:Int)(l:List Nd)(hl:l.length≤2000000000)(hx:∀ x ∈ l,zcd x)(K:Ex→Env→St→Prop)(k:Nat) :
 ∀(i:Nat) (y d:Int),y=i→i+k=l.length→(∀ d',d'=xw (l.drop i) d→K (.exit 0) [(3,.int .i64 d')] (SD op s kk (avL l))) →
  za Tryz.prog (Pr.tab real) 22 c13 (Less K) [(1,.ptr 0 0),(3,.int .i64 d),(4,.int .i64 y)] (SD op s kk (avL l)):=by
 unfold SD
 induction k with
 |zero=>
  intro i y d hy hi hK
  have hd:l.drop i=[]:=List.drop_eq_nil_of_le (by omega)
  rw[hd] at hK
  have hfin:=hK d (by simp[xw])
  apply step13
  apply xb (mk:=Pr.tab)
  intro fail need same call loop len slen arith shift cmp conv eqS ltS cat app elt byt subS subL strOf isB fit inb cut room not and eqB avs G
  have hb:cmp BinOp.lss y (len (avL l))=false:=by
   rw[G.cmp',G.len',xd];simp[vb];omega
  generalize za Tryz.prog (Pr.tab real) 22 c13 (Less K)=L at *
  generalize hK':Less K=K' at *
  clear hK hx
  generalize avL l=cs at *
  cbv
  refine G.n' rfl ?_
  rw[hb]
  cbv
  rw[← hK']
  exact⟨[(3,.int .i64 d)],.cons rfl (.nil _),hfin⟩
 |succ k ih=>
  intro i y d hy hi hK
  have hlt:i<l.length:=by omega
  obtain⟨x,hxe⟩:∃ x,l[i]=x:=⟨_,rfl⟩
  have hd:l.drop i=x::l.drop (i+1):=by rw[← hxe];exact List.drop_eq_getElem_cons hlt
  rw[hd] at hK
  have hrec:=hx x (by rw[← hxe];exact List.getElem_mem hlt)
  have hnext:∀(y':Int),y'=(i+1:Nat)→za Tryz.prog (Pr.tab real) 22 c13 (Less K) [(1,.ptr 0 0),(3,.int .i64 (imax d (depth x))),(4,.int .i64 y')] ⟨[(0,[.str op,.str s,.int .i64 kk,.slice 24 (avL l) .no])],1,[]⟩:=
   fun y' hy'=>ih (i+1) y' _ hy' (by omega) fun d' h=>hK d' (by rw[h];simp only[xw])
  clear ih hK hx
  apply step13
  apply xb (mk:=Pr.tab)
  intro _ _ _ _ _ len _ arith _ cmp _ _ _ _ _ elt _ _ _ _ _ _ inb _ _ _ _ _ _ G
  have hb:cmp BinOp.lss y (len (avL l))=true:=by
   rw[G.cmp',G.len',xd];simp[vb];omega
  have hin:inb y (len (avL l))=true:=by
   rw[G.inb',G.len',xd];simp;omega
  have hel:elt (avL l) y=x.av:=by
   rw[G.elt',xd];simp only[];rw[show y.toNat=i by omega];simp[hlt,hxe]
  obtain⟨y',hy'⟩:∃ y':Int,y'=(i+1:Nat):=⟨_,rfl⟩
  have hadd:arith BinOp.add IntKind.i64 y 1=y':=by
   rw[G.arith',hy',hy];exact wrap_i64 _ (by omega) (by omega)
  have hgt:cmp BinOp.gtr (depth x) d=decide (depth x > d):=by rw[G.cmp'];rfl
  have hmx:imax d (depth x)=match decide (depth x > d) with|true=>depth x|false=>d:=rfl
  rw[hmx] at hnext
  replace hnext:=hnext y' hy'
  generalize hL:za Tryz.prog (Pr.tab real) 22 c13 (Less K)=L at *
  generalize hK':Less K=K' at *
  clear hy hy' hi hd hlt hxe hmx hl
  obtain⟨xo,xs,xk,xl⟩:=x
  have hrec:∀(S:St) (K:Out→St→Prop),K (.ret (.int .i64 (depth (.mk xo xs xk xl)))) S→jb Tryz.prog (Pr.tab real) 13 [.agg [.str xo,.str xs,.int .i64 xk,.slice 24 (avL xl) .no]] S K:=hrec
  have hel:elt (avL l) y= .agg [.str xo,.str xs,.int .i64 xk,.slice 24 (avL xl) .no]:=hel
  generalize depth (.mk xo xs xk xl)=dx at *
  generalize avL xl=xcs at *
  generalize avL l=cs at *
  obtain⟨q,hq⟩:∃ q,decide (dx > d)=q:=⟨_,rfl⟩
  rw[hq] at hgt hnext
  clear hq
  cbv
  refine G.n' rfl ?_
  rw[hb]
  cbv
  refine G.n' hin ?_
  rw[hel]
  cbv
  refine G.c' (hrec _ _ ?_)
  cbv
  cases q
  all_goals
   have hnext:=hnext
   iterate 6 (first|refine G.n' rfl ?_|(rw[hgt])|(rw[hadd])|cbv|skip)
   subst hL
   exact za.weak (.cons rfl (.cons rfl (.cons rfl (.nil _)))) hnext
theorem ydt(op s:List UInt8)(k:Int)(l:List Nd)(hl:l.length≤2000000000)(hx:∀ x ∈ l,zcd x):zcd (.mk op s k l):=by
 intro S K hK
 have hd:depth (.mk op s k l)=IntKind.i64.wrap (xw l 0+1):=by simp only[depth]
 refine jb.lift (K0:=fun o _=>o= .ret (.int .i64 (depth (.mk op s k l)))) rfl ?_ (by rintro o S0 rfl;exact hK)
 rw[show (Nd.mk op s k l).av= .agg [.str op,.str s,.int .i64 k,.slice 24 (avL l) .no] from rfl]
 have hloop:=fun K=>qco op s k l hl hx K l.length 0 0 0
 rw[List.drop_zero] at hloop
 unfold SD at hloop
 rw[hd]
 apply ja (un:=0) Pr.tabOk Pr.mixed Rf.fn13 (nb rfl)
 apply qb (mk:=Pr.tab)
 intro _ _ _ _ _ _ _ arith _ _ _ _ _ _ _ _ _ _ _ _ _ _ _ _ _ _ _ _ _ G
 have hadd:∀ d':Int,d'=xw l 0→arith BinOp.add IntKind.i64 d' 1=IntKind.i64.wrap (xw l 0+1):=fun d' h=>by rw[G.arith',h];rfl
 generalize hK':(fun(o:Out) (_:St)=>o= .ret (.int .i64 (IntKind.i64.wrap (xw l 0+1))))=K0
 have hfin:∀ S,K0 (.ret (.int .i64 (IntKind.i64.wrap (xw l 0+1)))) S:=fun S=>by rw[← hK']
 generalize IntKind.i64.wrap (xw l 0+1)=dd at *
 generalize avL l=cs at *
 clear hK' hd
 cbv
 refine G.l' ?_
 change za Tryz.prog (Pr.tab real) 22 c13 _ _ _
 refine za.relax (za.weak (.cons rfl (.cons rfl (.cons rfl (.nil _)))) (hloop _ rfl (by omega) (fun d' hd'=>?_)))
 have ha:=hadd d' hd'
 cbv
 refine G.n' rfl ?_
 rw[ha]
 exact hfin _
mutual
theorem zbk:∀ x:Nd,Small x→zcd x
 |.mk op s k l,h=>ydt op s k l (by simp only[Small] at h;exact h.1) (vbt l (by simp only[Small] at h;exact h.2))
theorem vbt:∀ l:List Nd,ym l→∀ x ∈ l,zcd x
 | [],_,x,hx=>by simp at hx
 |y::l,h,x,hx=>by
  simp only[ym] at h
  have h1:=zbk y h.1
  rcases List.mem_cons.1 hx with hx|hx
  ·rw[hx];exact h1
  ·exact vbt l h.2 x hx
end
end Go.AM.Rf
namespace Go.AM.Rf
open Go.Proofs Go.AM.Ps Go.AM.W
theorem veo(p:UInt8→Bool)(h:(List.range 256).all (fun i=>p (UInt8.ofNat i))=true)(c:UInt8):p c=true:=by
 have:=List.all_eq_true.1 h c.toNat (List.mem_range.2 c.toNat_lt)
 simpa using this
theorem jeg(c:UInt8):(!xj c || low c != 32)=true:=veo (fun c=> !xj c || low c != 32) (by kernel_rfl) c
theorem jd9{s:List UInt8}:∀ {p:Nat} {l:List Tk},Chain s p l→Wd l∧Kd l:=by
 intro p l h
 induction h with
 |nil p=>exact⟨fun x hx=>by simp at hx,fun x hx=>by simp at hx⟩
 |cons p t l j hlt ht hj hle h ih=>
  refine⟨fun x hx hk=>?_,fun x hx=>?_⟩
  ·rcases List.mem_cons.1 hx with rfl|hx
   ·cases ht with
    |word w hw hl h32=>
     refine⟨?_,fun c hc=>?_⟩
     ·rw[hw,qag s _ hlt,List.takeWhile_cons]
      have:xj (s.getD (skip s p) 0)=true:=by unfold xj;rw[hl];rfl
      rw[this]
      simp
     ·obtain⟨d,hd,rfl⟩:=List.mem_map.1 hc
      rw[hw] at hd
      have h1:=yeb _ _ _ hd
      have h2:=jeg d
      rw[h1] at h2
      simpa using h2
    |num hd v hv=>cases hk
    |text b j hb h4=>cases hk
    |sign y hy hp=>cases hk
   ·exact ih.1 x hx hk
  ·rcases List.mem_cons.1 hx with rfl|hx
   ·cases ht with
    |word w hw hl h32=>exact .inl rfl
    |num hd v hv=>exact .inr (.inl rfl)
    |text b j hb h4=>exact .inr (.inr (.inl rfl))
    |sign y hy hp=>exact .inr (.inr (.inr ⟨rfl,hy⟩))
   ·exact ih.2 x hx
theorem xeo(s:List UInt8):Wd (ze s).1∧Kd (ze s).1:=by
 by_cases h:(ze s).2=jf
 ·exact jd9 (jb9 s h).2.2
 ·rw[(zas s).2.2 h]
  exact⟨fun x hx=>by simp at hx,fun x hx=>by simp at hx⟩
theorem Rf.fn9:FnOk Tryz.prog 9 (fni Tryz.f9 Pr.a9):=⟨⟨Tryz.f9,Tryz.func9,rfl,rfl,rfl,by kernel_rfl⟩,by kernel_rfl⟩
theorem yd2{t:List Tk}(hk:Kd t)(hl:t.length≤600)(n N:Nat)(hN:B n≤N)(hf:statement qa t n 0= .fuel→False):∃ a z' b' q z2,statementE t N 0 false=some (a,z',b')∧got t va2 z' b'=some (q,z2,b') ∧
 (b'=true→xu t (statement qa t n 0)=(jab,zf)) ∧
 (b'=false→∃ z,statement qa t n 0= .ok a z∧(z2≤t.length→xu t (statement qa t n 0)=match decide (z2≠t.length) with
   |true=>(jab,zf)
   |false=>match decide (depth a > 24) with
    |true=>(jab,vcq)
    |false=>(a,jf))):=by
 have hR:=R.statement hk hl (ydz hk hl n) hN 0
 generalize statement qa t n 0=r at *
 cases r with
 |fuel=>exact absurd rfl hf
 |wrong=>
  obtain⟨a,z',h⟩:=hR
  exact⟨a,z',true,false,z',h,rfl,(fun _=>rfl),(fun h=>by cases h)⟩
 |ok a z=>
  refine⟨a,z,false,sees t z va2,(match sees t z va2 with|true=>z+1|false=>z),hR,?_,(fun h=>by cases h),fun _=>⟨z,rfl,fun hz=>?_⟩⟩
  ·unfold Rf.got
   cases sees t z va2<;>rfl
  ·show xan t a z=_
   unfold xan
   have he:∀ y,y≤t.length→decide (y<t.length)=decide (y≠t.length):=fun y hy=>by rw[Bool.eq_iff_iff];simp only[decide_eq_true_eq];omega
   revert hz
   cases sees t z va2
   all_goals
    intro hz
    dsimp only at hz ⊢
    rw[he _ hz]
    rfl
theorem ves(s:List UInt8)(S:St)(K:Out→St→Prop)(hK:K (.ret (.tup [(zl qn s).1.av,.str (zl qn s).2])) S):jb Tryz.prog (Pr.tab real) 9 [.str s] S K:=by
 refine jb.lift (K0:=fun o _=>o= .ret (.tup [(zl qn s).1.av,.str (zl qn s).2])) rfl ?_ (by
  rintro o S0 rfl
  have:((zl qn s).1.av).ren (fun _=>none) (fun _=>none)=(zl qn s).1.av:=zh _ _ _
  simp only[Out.ren,AV.ren,renL,this]
  exact hK)
 refine jb.sub ?_
 have hfin:∀ v w S,Sub (Pr.tab real) v (zl qn s).1.av→w=(zl qn s).2→(fun(o:Out) (S':St)=>∃ o',SubO (Pr.tab real) o o'∧(fun(o:Out) (_:St)=>o= .ret (.tup [(zl qn s).1.av,.str (zl qn s).2])) o' S') (.ret (.tup [v,.str w])) S:=by
  rintro v w S h rfl
  exact⟨_,.ret _ _ (qcq h (Sub.refl _ _)),rfl⟩
 generalize (fun(o:Out) (S':St)=>∃ o',SubO (Pr.tab real) o o'∧(fun(o:Out) (_:St)=>o= .ret (.tup [(zl qn s).1.av,.str (zl qn s).2])) o' S')=K0 at hfin ⊢
 have hscan:=fun S K hK=>xb6 s S K hK
 rw[← yel s] at hscan
 have ht:=xbv s
 obtain⟨hwd,hkd⟩:=xeo s
 have htl:=ht.len
 have hr:Res (ze s).1 0 xe (statement qa (ze s).1 qn 0):=zan (by unfold qn;omega) (by unfold qn;omega)
 have hpdef:zl qn s=match (ze s).2 == jf with
  |false=>(jab,(ze s).2)
  |true=>xu (ze s).1 (statement qa (ze s).1 qn 0):=rfl
 obtain⟨a,z',b',q,z2,hm1,hm2,hbad,hgood⟩:=yd2 hkd htl qn 4000000 (by unfold B qn;omega) (fun h=>hr.1 h)
 have hsm:∀ z,statement qa (ze s).1 qn 0= .ok a z→Small a:=fun z h=>(hr.2 a z h).2.2
 have hst:=qbw ht hwd 4000000 (by omega)
 have hgot:=zj htl va2
 generalize (ze s).1=t at *
 generalize (ze s).2=st at *
 generalize statement qa t qn 0=r at *
 generalize zl qn s=ps at *
 obtain⟨e,cs,m,hv,hcs,he⟩:=qp t
 obtain⟨op,sx,k,l⟩:=a
 obtain⟨cl,hcl⟩:∃ cl,cl=avL l:=⟨_,rfl⟩
 have hst2:∀(S:St) (K:Out→St→Prop),S.row 1=[.slice e cs m,.int .i64 0,.bool false]→1<S.next→(z'≤t.length→∀ y':Int,y'=z'→K (.ret (.agg [.str op,.str sx,.int .i64 k,.slice 24 cl .no])) (S.set 1 [.slice e cs m,.int .i64 y',.bool b']))→jb Tryz.prog (Pr.tab real) 23 [.ptr 1 0] S K:=by
  intro S K hrow hn hK
  refine hst 0 false 0 S 1 K rfl (by rw[hrow];unfold row;rw[hv]) (Nat.zero_le _) hn ⟨_,_,_,hm1,fun hz y hy=>?_⟩
  have:=hK hz y hy
  rw[hcl] at this
  unfold row
  rw[hv]
  exact this
 have hgot2:∀(S:St) (y:Int) (K:Out→St→Prop),y=z'→z'≤t.length→S.row 1=[.slice e cs m,.int .i64 y,.bool b']→1<S.next→(z2≤t.length→∀ y':Int,y'=z2→K (.ret (.bool q)) (S.set 1 [.slice e cs m,.int .i64 y',.bool b']))→jb Tryz.prog (Pr.tab real) 24 [.ptr 1 0,.str [59]] S K:=by
  intro S y K hy hz hrow hn hK
  refine hgot z' b' y S 1 K hy (by rw[hrow];unfold row;rw[hv]) hz hn ⟨_,_,_,hm2,fun hz y hy=>?_⟩
  have:=hK hz y hy
  unfold row
  rw[hv]
  exact this
 have hdep:∀ z,r= .ok (.mk op sx k l) z→∀(S:St) (K:Out→St→Prop),K (.ret (.int .i64 (depth (.mk op sx k l)))) S→jb Tryz.prog (Pr.tab real) 13 [.agg [.str op,.str sx,.int .i64 k,.slice 24 cl .no]] S K:=fun z h=>by
  rw[hcl];exact zbk _ (hsm z h)
 have hsub:Sub (Pr.tab real) (.agg [.str op,.str sx,.int .i64 k,.slice 24 cl .no]) (Nd.mk op sx k l).av:=by rw[hcl];exact Sub.refl _ _
 have hz0:=xbu
 rw[hv] at hscan
 have hend:∀ z,r= .ok (.mk op sx k l) z→z2≤t.length→b'=false→∀ S,(decide (z2≠t.length)=true→ps=xu t r→K0 (.ret (.tup [.agg [.str [],.str [],.int .i64 0,.slice 0 [] .exact],.str [52,50,54,48,49]])) S) ∧
  (decide (z2≠t.length)=false→decide (depth (.mk op sx k l) > 24)=true→ps=xu t r→K0 (.ret (.tup [.agg [.str [],.str [],.int .i64 0,.slice 0 [] .exact],.str [53,52,48,48,49]])) S) ∧
  (decide (z2≠t.length)=false→decide (depth (.mk op sx k l) > 24)=false→ps=xu t r→K0 (.ret (.tup [.agg [.str op,.str sx,.int .i64 k,.slice 24 cl .no],.str [48,48,48,48,48]])) S):=by
  intro z hz hz2 hb S
  obtain⟨z3,h3,h4⟩:=hgood hb
  have h4:=h4 hz2
  refine⟨fun h1 hp=>?_,fun h1 h2 hp=>?_,fun h1 h2 hp=>?_⟩
  ·rw[h1] at h4
   exact hfin _ _ _ (by rw[hp,h4];exact hz0) (by rw[hp,h4];rfl)
  ·rw[h1,h2] at h4
   exact hfin _ _ _ (by rw[hp,h4];exact hz0) (by rw[hp,h4];rfl)
  ·rw[h1,h2] at h4
   exact hfin _ _ _ (by rw[hp,h4];exact hsub) (by rw[hp,h4];rfl)
 have hend0:b'=true→ps=xu t r→∀ S,K0 (.ret (.tup [.agg [.str [],.str [],.int .i64 0,.slice 0 [] .exact],.str [52,50,54,48,49]])) S:=fun hb hp S=>by
  have h4:=hbad hb
  exact hfin _ _ _ (by rw[hp,h4];exact hz0) (by rw[hp,h4];rfl)
 have hgood2:b'=false→∃ z,r= .ok (.mk op sx k l) z:=fun hb=>by obtain⟨z,h,_⟩:=hgood hb;exact⟨z,h⟩
 clear hst hgot hm1 hm2 hsm hr hgood hbad hsub
 apply ja (un:=0) Pr.tabOk Pr.mixed Rf.fn9 (nb rfl)
 apply qb (mk:=Pr.tab)
 intro _ _ _ _ _ len _ _ _ cmp _ eqS _ _ _ _ _ _ _ _ _ _ _ _ _ not _ _ _ G
 have hne:not (eqS st jf)= !(st == jf):=by rw[G.not',G.eqS']
 unfold jf at hne hpdef
 have hnt:=G.not2
 have hneq:∀ y:Int,y=z2→not (cmp BinOp.eql y (len cs))=decide (z2≠t.length):=fun y hy=>by
  rw[G.not',G.cmp',G.len',hcs];simp only[vb,List.length_map];rw[Bool.eq_iff_iff];simp;omega
 have hneq2:∀ y:Int,y=z2→cmp BinOp.neq y (len cs)=decide (z2≠t.length):=fun y hy=>by
  rw[G.cmp',G.len',hcs];simp only[vb,List.length_map];rw[Bool.eq_iff_iff];simp;omega
 have hgt:cmp BinOp.gtr (depth (.mk op sx k l)) 24=decide (depth (.mk op sx k l) > 24):=by rw[G.cmp'];rfl
 clear hcl hcs
 cbv
 refine G.c' (hscan _ _ ?_)
 cbv
 rw[hne]
 cases hb:(st == [48,48,48,48,48]) with
 |false=>
  rw[hb] at hpdef
  have hps:ps=(jab,st):=hpdef
  rw[hps] at hfin
  have hz:=hz0
  generalize jab.av=zv at *
  clear hpdef hps hend hend0
  cbv
  exact hfin _ _ _ hz rfl
 |true=>
  rw[hb] at hpdef
  have hps:ps=xu t r:=hpdef
  clear hpdef
  have hend0:=fun hb=>hend0 hb hps
  have hend:=fun z h hz hb S=>And.intro (fun h1=>(hend z h hz hb S).1 h1 hps) (And.intro (fun h1 h2=>(hend z h hz hb S).2.1 h1 h2 hps) (fun h1 h2=>(hend z h hz hb S).2.2 h1 h2 hps))
  clear hps hfin hz0
  generalize depth (.mk op sx k l)=dp at *
  cbv
  refine G.c' (hst2 _ _ rfl (nb rfl) fun hz y hy=>?_)
  cbv
  iterate 3 (first|refine G.n' rfl ?_|refine G.s' rfl ?_|skip)
  refine G.c' (hgot2 _ y _ hy hz rfl (nb rfl) fun hz2 y2 hy2=>?_)
  have h1:=hneq y2 hy2
  have h2:=hneq2 y2 hy2
  clear hst2 hgot2 hneq hneq2
  cases b' with
  |true=>
   have hend0:=hend0 rfl
   cbv
   iterate 8 (first|refine G.n' rfl ?_|refine G.s' rfl ?_|cbv|skip)
   exact hend0 _
  |false=>
   obtain⟨z,hz0⟩:=hgood2 rfl
   have hdep:=hdep z hz0
   have hend:=hend z hz0 hz2 rfl
   generalize decide (z2≠t.length)=b1 at *
   generalize decide (dp > 24)=b2 at *
   cbv
   iterate 8 (first|refine G.n' rfl ?_|refine G.s' rfl ?_|(rw[h2];try cbv)|(rw[h1];try cbv)|cbv|skip)
   cases b1 with
   |true=>
    have h3:=fun S=>(hend S).1 rfl
    cbv
    exact h3 _
   |false=>
    have hend2:=fun S=>(hend S).2
    cbv
    iterate 4 (first|refine G.n' rfl ?_|refine G.s' rfl ?_|cbv|skip)
    refine G.c' (hdep _ _ ?_)
    cbv
    iterate 4 (first|refine G.n' rfl ?_|refine G.s' rfl ?_|(rw[hgt];try cbv)|cbv|skip)
    cases b2 with
    |true=>
     have h3:=fun S=>(hend2 S).1 rfl rfl
     cbv
     exact h3 _
    |false=>
     have h3:=fun S=>(hend2 S).2 rfl rfl
     cbv
     exact h3 _
end Go.AM.Rf
