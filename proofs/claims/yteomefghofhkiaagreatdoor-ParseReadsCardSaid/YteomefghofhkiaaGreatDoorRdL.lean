/- How deep a tree is, what parse.Parse answers, and that a tree is the same as itself. -/
import Derived.Test.YteomefghofhkiaaGreatDoorRdK
import Derived.Test.YteomefghofhkiaaGreatDoorRdTab
set_option maxRecDepth 100000
set_option maxHeartbeats 4000000
set_option linter.unusedVariables false
set_option linter.unusedSimpArgs false
namespace Go.AM.Ps
open Go.Proofs W
def imax(a b:Int):Int:=match decide (b > a) with
 |true=>b
 |false=>a
mutual
def depth:Nd→Int
 |.mk _ _ _ l=>IntKind.i64.wrap (xw l 0+1)
def xw:List Nd→Int→Int
 | [],d=>d
 |x::l,d=>xw l (imax d (depth x))
end
theorem Ps.fn12:FnOk Tryz.prog 12 (fni Tryz.f12 Pr.a12):=⟨⟨Tryz.f12,Tryz.func12,rfl,rfl,rfl,by kernel_rfl⟩,by kernel_rfl⟩
noncomputable def c12:Code:=(fni Tryz.f12 Pr.a12).loop 0
theorem Ps.c12:qf 20 Pr.a12 c12=true:=by kernel_rfl
theorem ved(K:Ex→Env→St→Prop)(env:Env)(S:St)(h:xg (pAlg Tryz.prog (Pr.tab real) 20) (Pr.tab real) Pr.a12 0 c12 (andThen (za Tryz.prog (Pr.tab real) 20 c12 K) K) env S):za Tryz.prog (Pr.tab real) 20 c12 K env S:=
 vc Pr.tabOk Pr.mixed Ps.c12 h
def zbm(x:Nd):Prop:=∀(S:St) (K:Out→St→Prop),K (.ret (.int .i64 (depth x))) S→jb Tryz.prog (Pr.tab real) 12 [x.av] S K
theorem vc7(l:List Nd)(hl:l.length≤9223372036854775807)(hx:∀ x ∈ l,zbm x)(N:Int)(hN:N=l.length)(K:Ex→Env→St→Prop)(k:Nat) :
 ∀(i:Nat) (y d:Int) (S:St),y=i→i+k=l.length→(∃ m,S.next=m+1)→(∀ d' S',d'=xw (l.drop i) d→K (.exit 0) [(3,.int .i64 d')] S') →
  za Tryz.prog (Pr.tab real) 20 c12 (Less K) [(3,.int .i64 d),(7,.slice 24 (avL l) .no),(8,.int .i64 N),(9,.int .i64 y)] S:=by
 induction k with
 |zero=>
  intro i y d S hy hi hnx hK
  have hd:l.drop i=[]:=List.drop_eq_nil_of_le (by omega)
  rw[hd] at hK
  have hfin:=hK d S (by simp[xw])
  apply ved
  apply xb (mk:=Pr.tab)
  intro fail need same call loop len slen arith shift cmp conv eqS ltS cat app elt byt subS subL strOf isB fit inb cut room not and eqB avs G
  have hb:cmp BinOp.lss y N=false:=by
   rw[G.cmp'];simp[vb];omega
  generalize za Tryz.prog (Pr.tab real) 20 c12 (Less K)=L at *
  generalize hK':Less K=K' at *
  clear hK hx
  generalize avL l=cs
  cbv
  refine G.n' rfl ?_
  rw[hb]
  cbv
  rw[← hK']
  exact⟨[(3,.int .i64 d)],.cons rfl (.nil _),hfin⟩
 |succ k ih=>
  intro i y d S hy hi hnx hK
  have hlt:i<l.length:=by omega
  obtain⟨x,hxe⟩:∃ x,l[i]=x:=⟨_,rfl⟩
  have hd:l.drop i=x::l.drop (i+1):=by rw[← hxe];exact List.drop_eq_getElem_cons hlt
  rw[hd] at hK
  have hrec:=hx x (by rw[← hxe];exact List.getElem_mem hlt)
  have hnext:∀(y':Int) (S':St),y'=(i+1:Nat)→(∃ m,S'.next=m+1)→za Tryz.prog (Pr.tab real) 20 c12 (Less K) [(3,.int .i64 (imax d (depth x))),(7,.slice 24 (avL l) .no),(8,.int .i64 N),(9,.int .i64 y')] S':=
   fun y' S' hy' hn'=>ih (i+1) y' _ S' hy' (by omega) hn' fun d' S'' h=>hK d' S'' (by rw[h];simp only[xw])
  obtain⟨m,hm⟩:=hnx
  obtain⟨O,nx,caps⟩:=S
  have hm':nx=m+1:=hm
  subst hm'
  clear ih hK hx
  apply ved
  apply xb (mk:=Pr.tab)
  intro _ _ _ _ _ len _ arith _ cmp _ _ _ _ _ elt _ _ _ _ _ _ inb _ _ _ _ _ _ G
  have hb:cmp BinOp.lss y N=true:=by
   rw[G.cmp'];simp[vb];omega
  have hin:inb y (len (avL l))=true:=by
   rw[G.inb',G.len',xd];simp;omega
  have hel:elt (avL l) y=x.av:=by
   rw[G.elt',xd];simp only[];rw[show y.toNat=i by omega];simp[hlt,hxe]
  obtain⟨y',hy'⟩:∃ y':Int,y'=(i+1:Nat):=⟨_,rfl⟩
  have hadd:arith BinOp.add IntKind.i64 y 1=y':=by
   rw[G.arith',hy',hy];exact wrap_i64 _ (by omega) (by omega)
  have hgt:cmp BinOp.gtr (depth x) d=decide (depth x > d):=by rw[G.cmp'];rfl
  have hmx:imax d (depth x)=match decide (depth x > d) with|true=>depth x|false=>d:=rfl
  rw[hmx] at hnext
  have hnext:=fun S'=>hnext y' S' hy'
  generalize hdd:decide (depth x > d)=b at *
  obtain⟨op,s,kk,xl⟩:=x
  rw[show (Nd.mk op s kk xl).av= .agg [.str op,.str s,.int .i64 kk,.slice 24 (avL xl) .no] from rfl] at hel
  have hrec:∀(S:St) (K:Out→St→Prop),K (.ret (.int .i64 (depth (.mk op s kk xl)))) S→jb Tryz.prog (Pr.tab real) 12 [.agg [.str op,.str s,.int .i64 kk,.slice 24 (avL xl) .no]] S K:=hrec
  generalize depth (.mk op s kk xl)=dx at *
  generalize avL xl=xcl at *
  generalize avL l=cs at *
  have hnn:Nat.beq m m=true:=Nat.beq_refl m
  have hbb:Nat.ble m m=true:=Nat.ble_eq_true_of_le (Nat.le_refl m)
  cbv at hnn hbb
  generalize hL:za Tryz.prog (Pr.tab real) 20 c12 (Less K)=L at *
  generalize hK':Less K=K' at *
  clear hy' hm hdd hxe hmx hd hy
  cbv
  refine G.n' rfl ?_
  rw[hb]
  cbv
  refine G.n' hin ?_
  rw[hel]
  cbv
  iterate 6 (first|(rw[hnn];cbv)|(rw[hbb];cbv)|skip)
  refine G.c' (hrec _ _ ?_)
  cbv
  rw[hgt]
  cases b
  ·have hnext:=fun S'=>hnext S'
   cbv
   refine G.n' rfl ?_
   rw[hadd]
   have hgo:=fun S' h=>hnext S' h
   rw[← hL] at hgo ⊢
   exact za.weak (.cons rfl (.cons rfl (.cons rfl (.cons rfl (.nil _))))) (hgo _ ⟨_,rfl⟩)
  ·cbv
   refine G.n' rfl ?_
   rw[hadd]
   have hgo:=fun S' h=>hnext S' h
   rw[← hL] at hgo ⊢
   exact za.weak (.cons rfl (.cons rfl (.cons rfl (.cons rfl (.nil _))))) (hgo _ ⟨_,rfl⟩)
mutual
def Small:Nd→Prop
 |.mk _ _ _ l=>l.length≤2000000000∧ym l
def ym:List Nd→Prop
 | []=>True
 |x::l=>Small x∧ym l
end
theorem jbq:∀ {l:List Nd},ym l↔∀ x ∈ l,Small x
 | []=>by simp[ym]
 |x::l=>by simp[ym,jbq (l:=l)]
theorem zd9(op s:List UInt8)(k:Int)(l:List Nd)(hl:l.length≤2000000000)(hx:∀ x ∈ l,zbm x):zbm (.mk op s k l):=by
 intro S K hK
 have hd:depth (.mk op s k l)=IntKind.i64.wrap (xw l 0+1):=by simp only[depth]
 refine jb.lift (K0:=fun o _=>o= .ret (.int .i64 (depth (.mk op s k l)))) rfl ?_ (by rintro o S0 rfl;exact hK)
 rw[show (Nd.mk op s k l).av= .agg [.str op,.str s,.int .i64 k,.slice 24 (avL l) .no] from rfl]
 obtain⟨N,hN⟩:∃ N:Int,N=l.length:=⟨_,rfl⟩
 have hloop:=fun K=>vc7 l (by omega) hx N hN K l.length 0 0 0
 rw[List.drop_zero] at hloop
 rw[hd]
 apply ja (un:=0) Pr.tabOk Pr.mixed Ps.fn12 (nb rfl)
 apply qb (mk:=Pr.tab)
 intro _ _ _ _ _ len _ arith _ _ _ _ _ _ _ _ _ _ _ _ _ _ _ _ _ _ _ _ _ G
 have hlen:len (avL l)=N:=by rw[G.len',hN,xd];simp
 have hadd:∀ d':Int,d'=xw l 0→arith BinOp.add IntKind.i64 d' 1=IntKind.i64.wrap (xw l 0+1):=fun d' h=>by rw[G.arith',h];rfl
 generalize hK':(fun(o:Out) (_:St)=>o= .ret (.int .i64 (IntKind.i64.wrap (xw l 0+1))))=K0
 have hfin:∀ S,K0 (.ret (.int .i64 (IntKind.i64.wrap (xw l 0+1)))) S:=fun S=>by rw[← hK']
 generalize IntKind.i64.wrap (xw l 0+1)=dd at *
 generalize avL l=cs at *
 clear hK' hd
 cbv
 rw[hlen]
 refine G.l' ?_
 change za Tryz.prog (Pr.tab real) 20 c12 _ _ _
 refine za.relax (za.weak (.cons rfl (.cons rfl (.cons rfl (.cons rfl (.nil _))))) (hloop _ _ rfl (by omega) ⟨_,rfl⟩ (fun d' S' hd'=>?_)))
 have ha:=hadd d' hd'
 cbv
 refine G.n' rfl ?_
 rw[ha]
 exact hfin _
mutual
theorem qb0:∀ x:Nd,Small x→zbm x
 |.mk op s k l,h=>zd9 op s k l (by simp only[Small] at h;exact h.1) (jcb l (by simp only[Small] at h;exact h.2))
theorem jcb:∀ l:List Nd,ym l→∀ x ∈ l,zbm x
 | [],_,x,hx=>by simp at hx
 |y::l,h,x,hx=>by
  simp only[ym] at h
  have h1:=qb0 y h.1
  rcases List.mem_cons.1 hx with hx|hx
  ·rw[hx];exact h1
  ·exact jcb l h.2 x hx
end
end Go.AM.Ps
namespace Go.AM
theorem xdr{P:Program}{mk:Sg→Tab}{N N2 un:Nat}{D:DfI}{args:List AV}{S:St}{K:Out→St→Prop}
 (h:∀ fail need same call loop len slen arith shift cmp conv eqS ltS cat app elt byt subS subL strOf isB fit inb cut room not and eqB avs,
   veb P (mk real) N fail need same call loop len slen arith shift cmp conv eqS ltS cat app elt byt subS subL strOf isB fit inb cut room not and eqB avs →
   ∀ fail2 need2 same2 call2 loop2,GenH P (mk real) N2 ⟨fail2,need2,same2,call2,loop2⟩ ⟨len,slen,arith,shift,cmp,conv,eqS,ltS,cat,app,elt,byt,subS,subL,strOf,isB,fit,inb,cut,room,not,and,eqB,avs⟩ →
   vbc ⟨fail,need,same,call,loop⟩ ⟨fail2,need2,same2,call2,loop2⟩ (mk ⟨len,slen,arith,shift,cmp,conv,eqS,ltS,cat,app,elt,byt,subS,subL,strOf,isB,fit,inb,cut,room,not,and,eqB,avs⟩) un D args S K) :
 vbc (pAlg P (mk real) N) (pAlg P (mk real) N2) (mk real) un D args S K:=
 h _ _ _ _ _ _ _ _ _ _ _ _ _ _ _ _ _ _ _ _ _ _ _ _ _ _ _ _ _ ⟨rfl,rfl⟩ _ _ _ _ _ ⟨rfl,rfl⟩
theorem qcq{T:Tab}{a b a' b':AV}(h1:Sub T a a')(h2:Sub T b b'):Sub T (.tup [a,b]) (.tup [a',b']):=by
 intro w g x hr
 cases hr with
 |tup _ _ xs hl hR=>
  refine .tup g [a',b'] xs hl fun j hj=>?_
  match j,hj with
  | 0,_=>exact h1 _ _ _ (hR 0 (by simp))
  | 1,_=>exact h2 _ _ _ (hR 1 (by simp))
end Go.AM
namespace Go.AM.Ps
open Go.Proofs W
def jab:Nd:= .mk [] [] 0 []
def vcq:List UInt8:=[53,52,48,48,49]
def xan(t:List Tk)(a:Nd)(z:Nat):Nd × List UInt8:=
 match decide ((match sees t z va2 with|true=>z+1|false=>z)<t.length) with
 |true=>(jab,zf)
 |false=>match decide (depth a > 24) with
  |true=>(jab,vcq)
  |false=>(a,jf)
def xu(t:List Tk)(r:Rs Nd):Nd × List UInt8:=
 match r with
 |.fuel=>(jab,[])
 |.wrong=>(jab,zf)
 |.ok a z=>xan t a z
def zl(n:Nat)(s:List UInt8):Nd × List UInt8:=
 match (ze s).2 == jf with
 |false=>(jab,(ze s).2)
 |true=>xu (ze s).1 (statement qa (ze s).1 n 0)
theorem xbu:Sub (Pr.tab real) (.agg [.str [],.str [],.int .i64 0,.slice 0 [] .exact]) jab.av:=xad _ [] [] 0 0 [] .exact [] rfl (.inr rfl)
theorem parse_spec(n:Nat)(hn:n≤1000000000)(s:List UInt8)(ht:Toks (ze s).1)(hf:statement qa (ze s).1 n 0= .fuel→False)(hsm:∀ a z,statement qa (ze s).1 n 0= .ok a z→Small a)
 (S:St) (K:Out→St→Prop) (hK:K (.ret (.tup [(zl n s).1.av,.str (zl n s).2])) S):jb Tryz.prog (Pr.tab real) 8 [.str s] S K:=by
 refine jb.lift (K0:=fun o _=>o= .ret (.tup [(zl n s).1.av,.str (zl n s).2])) rfl ?_ (by
  rintro o S0 rfl
  have:((zl n s).1.av).ren (fun _=>none) (fun _=>none)=(zl n s).1.av:=zh _ _ _
  simp only[Out.ren,AV.ren,renL,this]
  exact hK)
 refine jb.sub ?_
 have hfin:∀ v w S,Sub (Pr.tab real) v (zl n s).1.av→w=(zl n s).2→(fun(o:Out) (S':St)=>∃ o',SubO (Pr.tab real) o o'∧(fun(o:Out) (_:St)=>o= .ret (.tup [(zl n s).1.av,.str (zl n s).2])) o' S') (.ret (.tup [v,.str w])) S:=by
  rintro v w S h rfl
  exact⟨_,.ret _ _ (qcq h (Sub.refl _ _)),rfl⟩
 generalize (fun(o:Out) (S':St)=>∃ o',SubO (Pr.tab real) o o'∧(fun(o:Out) (_:St)=>o= .ret (.tup [(zl n s).1.av,.str (zl n s).2])) o' S')=K0 at hfin ⊢
 have hscan:=fun S K hK=>xdh s S K hK
 have hpdef:zl n s=match (ze s).2 == jf with
  |false=>(jab,(ze s).2)
  |true=>xu (ze s).1 (statement qa (ze s).1 n 0):=rfl
 have hst:=zcc ht n hn (zc3 ht n hn) 0
 generalize (ze s).1=t at *
 generalize (ze s).2=st at *
 have htl:=ht.len
 generalize statement qa t n 0=r at *
 generalize zl n s=ps at *
 obtain⟨e,cs,m,hv,hcs,he⟩:=qp t
 have hat0:At t 0 [.slice e cs m,.int .i64 0]:=⟨by rw[hv];rfl,Nat.zero_le _⟩
 rw[hv] at hscan
 refine zbl Pr.tabOk Pr.mixed 0 Pr.d8 (nb rfl) ?_
 apply xdr (mk:=Pr.tab)
 intro fail need same call loop len slen arith shift cmp conv eqS ltS cat app elt byt subS subL strOf isB fit inb cut room not and eqB avs G fail2 need2 same2 call2 loop2 G2
 have hne:not (eqS st jf)= !(st == jf):=by rw[G.not',G.eqS']
 unfold jf at hne hpdef
 have hnot:=G.not2
 cbv
 refine G.c' (hscan _ _ ?_)
 cbv
 rw[hne]
 cases hb:(st == [48,48,48,48,48]) with
 |false=>
  rw[hb] at hpdef
  have hps:ps=(jab,st):=hpdef
  rw[hps] at hfin
  have hz:=xbu
  generalize jab.av=zv at *
  clear hpdef hps
  cbv
  refine G.s' rfl ?_
  exact hfin _ _ _ hz rfl
 |true=>
  rw[hb] at hpdef
  have hps:ps=xu t r:=hpdef
  clear hpdef
  have hz:=xbu
  have hwrong:r= .wrong→∀ S,K0 (.ret (.tup [.agg [.str [],.str [],.int .i64 0,.slice 0 [] .exact],.str [52,50,54,48,49]])) S:=by
   intro q S
   rw[q] at hps
   exact hfin _ _ _ (by rw[hps];exact hz) (by rw[hps];rfl)
  have hok:∀ op s k l cl z',r= .ok (.mk op s k l) z'→cl=avL l→∀ S,(∀ z2,z2=(match sees t z' va2 with|true=>z'+1|false=>z') →
   (decide (z2<t.length)=true→K0 (.ret (.tup [.agg [.str [],.str [],.int .i64 0,.slice 0 [] .exact],.str [52,50,54,48,49]])) S) ∧
   (decide (z2<t.length)=false→decide (depth (.mk op s k l) > 24)=true→K0 (.ret (.tup [.agg [.str [],.str [],.int .i64 0,.slice 0 [] .exact],.str [53,52,48,48,49]])) S) ∧
   (decide (z2<t.length)=false→decide (depth (.mk op s k l) > 24)=false→K0 (.ret (.tup [.agg [.str op,.str s,.int .i64 k,.slice 24 cl .no],.str [48,48,48,48,48]])) S)):=by
   intro op s k l cl z' q hcl S z2 hz2
   rw[q] at hps
   have hps2:ps=xan t (.mk op s k l) z':=hps
   unfold xan at hps2
   rw[← hz2] at hps2
   refine⟨fun h1=>?_,fun h1 h2=>?_,fun h1 h2=>?_⟩
   ·rw[h1] at hps2
    exact hfin _ _ _ (by rw[hps2];exact hz) (by rw[hps2];rfl)
   ·rw[h1,h2] at hps2
    exact hfin _ _ _ (by rw[hps2];exact hz) (by rw[hps2];rfl)
   ·rw[h1,h2] at hps2
    exact hfin _ _ _ (by rw[hps2,hcl];exact Sub.refl _ _) (by rw[hps2];rfl)
  clear hps hfin
  cbv
  refine G.c' (hst _ 2 _ hat0 (nb rfl) hf (fun op s k l cl z' r' hs hcl hr'=>?_) (fun z' r' hs hr'=>?_))
  ·have hend:=hok op s k l cl z' hs hcl
   have hdep:=qb0 _ (hsm _ _ hs)
   have hdep:∀(S:St) (K:Out→St→Prop),K (.ret (.int .i64 (depth (.mk op s k l)))) S→jb Tryz.prog (Pr.tab real) 12 [.agg [.str op,.str s,.int .i64 k,.slice 24 cl .no]] S K:=by rw[hcl];exact hdep
   clear hok hwrong hst
   have hsemi:=fun S o K hA ho a b=>qk ht (s:=va2) (z:=z') (S:=S) (o:=o) hA ho (K:=K) a b
   have hgt:cmp BinOp.gtr (depth (.mk op s k l)) 24=decide (depth (.mk op s k l) > 24):=by rw[G.cmp'];rfl
   have hlss:∀(z2:Nat) (y:Int),y=z2→cmp BinOp.lss y (len cs)=decide (z2<t.length):=by
    intro z2 y hy
    rw[G.cmp',G.len',hcs];simp only[vb,List.length_map];rw[Bool.eq_iff_iff];simp only[decide_eq_true_eq];omega
   generalize depth (.mk op s k l)=dp at *
   cbv
   refine G.n' rfl (G.c' (hsemi _ 2 _ hr' (nb rfl) (fun r2 hs2 hr2=>?_) (fun r2 hs2 hr2=>?_)))
   ·rw[hs2] at hend
    obtain⟨h1,_⟩:=hr2
    rw[hv] at h1
    obtain⟨y,hy⟩:∃ y:Int,y=((z'+1:Nat):Int):=⟨_,rfl⟩
    rw[← hy] at h1
    subst h1
    have hl:=hlss (z'+1) y hy
    have hend:=fun S=>hend S (z'+1) rfl
    clear hlss hy
    generalize decide (z'+1<t.length)=b1 at *
    generalize decide (dp > 24)=b2 at *
    cbv
    refine G.n' rfl ?_
    rw[hl]
    cases b1
    ·have hend2:=fun S=>(hend S).2
     cbv
     refine G.c' (hdep _ _ ?_)
     cbv
     refine G.n' rfl ?_
     rw[hgt]
     cases b2
     ·have h3:=fun S=>(hend2 S).2 rfl rfl
      cbv
      iterate 4 (first|(rw[hnot];cbv)|skip)
      exact h3 _
     ·have h3:=fun S=>(hend2 S).1 rfl rfl
      cbv
      iterate 4 (first|(rw[hnot];cbv)|skip)
      exact h3 _
    ·have h3:=fun S=>(hend S).1 rfl
     cbv
     iterate 4 (first|(rw[hnot];cbv)|skip)
     exact h3 _
   ·rw[hs2] at hend
    obtain⟨h1,_⟩:=hr2
    rw[hv] at h1
    obtain⟨y,hy⟩:∃ y:Int,y=(z':Int):=⟨_,rfl⟩
    rw[← hy] at h1
    subst h1
    have hl:=hlss z' y hy
    have hend:=fun S=>hend S z' rfl
    clear hlss hy
    generalize decide (z'<t.length)=b1 at *
    generalize decide (dp > 24)=b2 at *
    cbv
    refine G.n' rfl ?_
    rw[hl]
    cases b1
    ·have hend2:=fun S=>(hend S).2
     cbv
     refine G.c' (hdep _ _ ?_)
     cbv
     refine G.n' rfl ?_
     rw[hgt]
     cases b2
     ·have h3:=fun S=>(hend2 S).2 rfl rfl
      cbv
      iterate 4 (first|(rw[hnot];cbv)|skip)
      exact h3 _
     ·have h3:=fun S=>(hend2 S).1 rfl rfl
      cbv
      iterate 4 (first|(rw[hnot];cbv)|skip)
      exact h3 _
    ·have h3:=fun S=>(hend S).1 rfl
     cbv
     iterate 4 (first|(rw[hnot];cbv)|skip)
     exact h3 _
  ·have hgo:=hwrong hs
   clear hok hwrong hst
   cbv
   iterate 4 (first|(rw[hnot];cbv)|skip)
   exact hgo _
end Go.AM.Ps
namespace Go.AM.Ps
open Go.Proofs W
theorem Ps.fn10:FnOk Tryz.prog 10 (fni Tryz.f10 Pr.a10):=⟨⟨Tryz.f10,Tryz.func10,rfl,rfl,rfl,by kernel_rfl⟩,by kernel_rfl⟩
noncomputable def c10:Code:=(fni Tryz.f10 Pr.a10).loop 0
theorem Ps.c10:qf 55 Pr.a10 c10=true:=by kernel_rfl
theorem yed(K:Ex→Env→St→Prop)(env:Env)(S:St)(h:xg (pAlg Tryz.prog (Pr.tab real) 55) (Pr.tab real) Pr.a10 0 c10 (andThen (za Tryz.prog (Pr.tab real) 55 c10 K) K) env S):za Tryz.prog (Pr.tab real) 55 c10 K env S:=
 vc Pr.tabOk Pr.mixed Ps.c10 h
def vcc(x:Nd):Prop:=∀(S:St) (K:Out→St→Prop),K (.ret (.bool true)) S→jb Tryz.prog (Pr.tab real) 10 [x.av,x.av] S K
def S10(op s:List UInt8)(k:Int)(cs:List AV):St:=⟨[(1,[.str op,.str s,.int .i64 k,.slice 24 cs .no]),(0,[.str op,.str s,.int .i64 k,.slice 24 cs .no])],2,[]⟩
theorem zdi(op s:List UInt8)(kk:Int)(l:List Nd)(hl:l.length≤2000000000)(hx:∀ x ∈ l,vcc x)(K:Ex→Env→St→Prop)(hK:K (.exit 0) [] (S10 op s kk (avL l)))(k:Nat) :
 ∀(i:Nat) (y:Int),y=i→i+k=l.length →
  za Tryz.prog (Pr.tab real) 55 c10 (Less K) [(2,.ptr 0 0),(3,.ptr 1 0),(5,.int .i64 y)] (S10 op s kk (avL l)):=by
 induction k with
 |zero=>
  intro i y hy hi
  apply yed
  apply xb (mk:=Pr.tab)
  intro fail need same call loop len slen arith shift cmp conv eqS ltS cat app elt byt subS subL strOf isB fit inb cut room not and eqB avs G
  have hb:cmp BinOp.lss y (len (avL l))=false:=by
   rw[G.cmp',G.len',xd];simp[vb];omega
  generalize za Tryz.prog (Pr.tab real) 55 c10 (Less K)=L at *
  generalize hK':Less K=K' at *
  clear hx
  generalize avL l=cs at *
  unfold S10 at *
  cbv
  refine G.n' rfl ?_
  rw[hb]
  cbv
  rw[← hK']
  exact⟨[],.nil _,hK⟩
 |succ k ih=>
  intro i y hy hi
  have hlt:i<l.length:=by omega
  obtain⟨x,hxe⟩:∃ x,l[i]=x:=⟨_,rfl⟩
  have hrec:=hx x (by rw[← hxe];exact List.getElem_mem hlt)
  have hnext:=ih (i+1) (y+1) (by omega) (by omega)
  clear ih hx hK
  apply yed
  apply xb (mk:=Pr.tab)
  intro _ _ _ _ _ len _ arith _ cmp _ _ _ _ _ elt _ _ _ _ _ _ inb _ _ not _ _ _ G
  have hb:cmp BinOp.lss y (len (avL l))=true:=by
   rw[G.cmp',G.len',xd];simp[vb];omega
  have hin:inb y (len (avL l))=true:=by
   rw[G.inb',G.len',xd];simp;omega
  have hel:elt (avL l) y=x.av:=by
   rw[G.elt',xd];simp only[];rw[show y.toNat=i by omega];simp[hlt,hxe]
  have hadd:arith BinOp.add IntKind.i64 y 1=y+1:=by
   rw[G.arith'];exact wrap_i64 _ (by omega) (by omega)
  have hnt:not true=false:=by rw[G.not'];rfl
  obtain⟨op2,s2,kk2,xl⟩:=x
  rw[show (Nd.mk op2 s2 kk2 xl).av= .agg [.str op2,.str s2,.int .i64 kk2,.slice 24 (avL xl) .no] from rfl] at hel
  have hrec:∀(S:St) (K:Out→St→Prop),K (.ret (.bool true)) S→jb Tryz.prog (Pr.tab real) 10 [.agg [.str op2,.str s2,.int .i64 kk2,.slice 24 (avL xl) .no],.agg [.str op2,.str s2,.int .i64 kk2,.slice 24 (avL xl) .no]] S K:=hrec
  generalize avL xl=xcl at *
  generalize avL l=cs at *
  generalize hL:za Tryz.prog (Pr.tab real) 55 c10 (Less K)=L at *
  generalize hK':Less K=K' at *
  generalize y+1=y1 at *
  clear hxe hy hi hlt
  unfold S10 at *
  cbv
  refine G.n' rfl ?_
  rw[hb]
  cbv
  refine G.n' hin ?_
  rw[hel]
  cbv
  iterate 6 (first|refine G.n' hin ?_|(rw[hel];cbv)|skip)
  refine G.c' (hrec _ _ ?_)
  cbv
  iterate 6 (first|refine G.n' hin ?_|(rw[hel];cbv)|refine G.s' rfl ?_|(rw[hnt];cbv)|skip)
  refine G.n' rfl ?_
  rw[hadd]
  rw[← hL] at hnext ⊢
  exact za.weak (.cons rfl (.cons rfl (.cons rfl (.nil _)))) hnext
theorem qej(op s:List UInt8)(k:Int)(l:List Nd)(hl:l.length≤2000000000)(hx:∀ x ∈ l,vcc x):vcc (.mk op s k l):=by
 intro S K hK
 refine jb.lift (K0:=fun o _=>o= .ret (.bool true)) rfl ?_ (by rintro o S0 rfl;exact hK)
 rw[show (Nd.mk op s k l).av= .agg [.str op,.str s,.int .i64 k,.slice 24 (avL l) .no] from rfl]
 have hloop:=fun K hK=>zdi op s k l hl hx K hK l.length 0 0 rfl (by omega)
 apply ja (un:=0) Pr.tabOk Pr.mixed Ps.fn10 (nb rfl)
 apply qb (mk:=Pr.tab)
 intro _ _ _ _ _ _ _ _ _ cmp _ eqS _ _ _ _ _ _ _ _ _ _ _ _ _ not _ _ _ G
 have h1:∀ a:List UInt8,not (eqS a a)=false:=fun a=>by rw[G.not',G.eqS'];show (!(a == a))=false;rw[beq_self_eq_true];rfl
 have h2:∀ a:Int,cmp BinOp.neq a a=false:=fun a=>by rw[G.cmp'];simp[vb]
 generalize hK':(fun(o:Out) (_:St)=>o= .ret (.bool true))=K0
 have hfin:∀ S,K0 (.ret (.bool true)) S:=fun S=>by rw[← hK']
 generalize avL l=cs at *
 unfold S10 at *
 clear hx hK' hK
 cbv
 iterate 12 (first|(rw[h1];cbv)|(rw[h2];cbv)|(refine G.n' rfl ?_;try cbv)|skip)
 refine G.l' ?_
 change za Tryz.prog (Pr.tab real) 55 c10 _ _ _
 refine za.relax (za.weak (.cons rfl (.cons rfl (.cons rfl (.nil _)))) (hloop _ ?_))
 cbv
 exact hfin _
mutual
theorem qdi:∀ x:Nd,Small x→vcc x
 |.mk op s k l,h=>qej op s k l (by simp only[Small] at h;exact h.1) (xcq l (by simp only[Small] at h;exact h.2))
theorem xcq:∀ l:List Nd,ym l→∀ x ∈ l,vcc x
 | [],_,x,hx=>by simp at hx
 |y::l,h,x,hx=>by
  simp only[ym] at h
  have h1:=qdi y h.1
  rcases List.mem_cons.1 hx with hx|hx
  ·rw[hx];exact h1
  ·exact xcq l h.2 x hx
end
end Go.AM.Ps
