/- The program's scanner, second part: what lex.Scan answers. -/
import Derived.Test.YteomefghofhkiaaGreatDoorRdScanA
import Derived.Lib.ConvBytes
import Derived.Deep.LoopGhost
import Derived.WalkKit
set_option maxRecDepth 100000
set_option linter.unusedVariables false
set_option maxHeartbeats 2000000
namespace Go.AM
open Go.Proofs
theorem Pl.fn72:FnOk Tryz.prog 72 (fni Tryz.f72 Pr.a72):=⟨⟨Tryz.f72,Tryz.func72,rfl,rfl,rfl,by kernel_rfl⟩,by kernel_rfl⟩
noncomputable def c34:Code:=(fni Tryz.f72 Pr.a72).loop 0
noncomputable def c34b:Code:=(fni Tryz.f72 Pr.a72).loop 1
theorem Pl.c34:qf 83 Pr.a72 c34=true:=by kernel_rfl
theorem Pl.c34b:qf 83 Pr.a72 c34b=true:=by kernel_rfl
theorem veq(K:Ex→Env→St→Prop)(env:Env)(S:St)(h:xg (pAlg Tryz.prog (Pr.tab real) 83) (Pr.tab real) Pr.a72 0 c34 (andThen (za Tryz.prog (Pr.tab real) 83 c34 K) K) env S):za Tryz.prog (Pr.tab real) 83 c34 K env S:=
 vc Pr.tabOk Pr.mixed Pl.c34 h
theorem vdd(K:Ex→Env→St→Prop)(env:Env)(S:St)(h:xg (pAlg Tryz.prog (Pr.tab real) 83) (Pr.tab real) Pr.a72 0 c34b (andThen (za Tryz.prog (Pr.tab real) 83 c34b K) K) env S):za Tryz.prog (Pr.tab real) 83 c34b K env S:=
 vc Pr.tabOk Pr.mixed Pl.c34b h
def jf:List UInt8:=[48,48,48,48,48]
def zf:List UInt8:=[52,50,54,48,49]
def ja6(c:UInt8):Bool:= !(decide (c.toNat<32) || decide (126<c.toNat))
def stOf(ok:Bool):List UInt8:=match ok with|true=>jf|false=>zf
def envT(part:List UInt8)(ok:Bool):Env:=[(0,.ptr 0 0),(4,.ptr 1 0),(5,.str (stOf ok)),(6,.str part)]
def zcb(part:List UInt8)(ok:Bool)(n k:Int):Env:=[(0,.ptr 0 0),(4,.ptr 1 0),(5,.str (stOf ok)),(6,.str part),(11,.int .i64 n),(12,.int .i64 k)]
theorem xcz(part:List UInt8)(hs:part.length≤1000000000)(S:St)(z:Int)(hz:z=part.length)(K:Ex→Env→St→Prop)(n:Nat) :
 ∀(k:Nat) (y:Int) (ok:Bool),y=k→k+n=part.length→(∀ ok',ok'=(ok && (part.drop k).all ja6)→K (.exit 2) (envT part ok') S) →
  za Tryz.prog (Pr.tab real) 83 c34b (Less K) (zcb part ok z y) S:=by
 induction n with
 |zero=>
  intro k y ok hy hk hK
  have hfin:=hK ok (by rw[List.drop_eq_nil_of_le (by omega)];simp)
  apply vdd
  apply xb (mk:=Pr.tab)
  intro fail need same call loop len slen arith shift cmp conv eqS ltS cat app elt byt subS subL strOf isB fit inb cut room not and eqB avs G
  have hb:cmp BinOp.lss y z=false:=by rw[G.cmp',hz];simp[vb];omega
  generalize za Tryz.prog (Pr.tab real) 83 c34b (Less K)=L at *
  generalize hK':Less K=K' at *
  generalize hst:stOf ok=st at *
  simp only[zcb,hst]
  cbv
  refine G.n' rfl ?_
  rw[hb]
  cbv
  rw[← hK']
  refine⟨envT part ok,?_,hfin⟩
  unfold envT
  rw[hst]
  exact .cons rfl (.cons rfl (.cons rfl (.cons rfl (.nil _))))
 |succ n ih=>
  intro k y ok hy hk hK
  have hlt:k<part.length:=by omega
  have hdrop:part.drop k=part[k]::part.drop (k+1):=List.drop_eq_getElem_cons hlt
  have hgo:za Tryz.prog (Pr.tab real) 83 c34b (Less K) (zcb part (ok && ja6 part[k]) z (y+1)) S:=
   ih (k+1) (y+1) _ (by omega) (by omega) (fun ok' h=>hK ok' (by rw[h,hdrop,List.all_cons,Bool.and_assoc]))
  apply vdd
  apply xb (mk:=Pr.tab)
  intro _ _ _ _ _ _ slen arith _ cmp _ _ _ _ _ _ byt _ _ _ _ _ inb _ _ _ _ _ _ G
  have hb:cmp BinOp.lss y z=true:=by rw[G.cmp',hz];simp[vb];omega
  have hin:inb y (slen part)=true:=by rw[G.inb',G.slen'];simp;omega
  have hbyt:byt part y=(part[k].toNat:Int):=by rw[G.byt',hy];simp[List.getD_eq_getElem?_getD,hlt]
  have hone:arith BinOp.add IntKind.i64 y 1=y+1:=by rw[G.arith'];exact wrap_i64 _ (by omega) (by omega)
  have h32:cmp BinOp.lss (byt part y) 32=decide (part[k].toNat<32):=by
   rw[G.cmp',hbyt];simp only[vb];rw[Bool.eq_iff_iff];simp only[decide_eq_true_eq];omega
  have h126:cmp BinOp.gtr (byt part y) 126=decide (126<part[k].toNat):=by
   rw[G.cmp',hbyt];simp only[vb];rw[Bool.eq_iff_iff];simp only[decide_eq_true_eq];omega
  have hg:ja6 part[k]= !(decide (part[k].toNat<32) || decide (126<part[k].toNat)):=rfl
  generalize hL:za Tryz.prog (Pr.tab real) 83 c34b (Less K)=L at hgo ⊢
  generalize hK':Less K=K' at hL ⊢
  generalize hst:stOf ok=st
  simp only[zcb,hst]
  cbv
  refine G.n' rfl ?_
  rw[hb]
  cbv
  refine G.n' hin (G.n' rfl ?_)
  rw[h32]
  have hbad:ja6 part[k]=false→L (zcb part false z (y+1)) S:=fun h=>by
   have:=hgo;rw[h,Bool.and_false] at this;exact this
  have hgood:ja6 part[k]=true→L (zcb part ok z (y+1)) S:=fun h=>by
   have:=hgo;rw[h,Bool.and_true] at this;exact this
  cases hq:decide (part[k].toNat<32) with
  |true=>
   have hf:=hbad (by rw[hg,hq];rfl)
   cbv
   refine G.n' rfl ?_
   rw[hone]
   rw[← hL] at hf ⊢
   exact za.weak (.cons rfl (.cons rfl (.cons rfl (.cons rfl (.cons rfl (.cons rfl (.nil _))))))) hf
  |false=>
   cbv
   refine G.n' hin (G.n' rfl ?_)
   rw[h126]
   cases hp:decide (126<part[k].toNat) with
   |true=>
    have hf:=hbad (by rw[hg,hq,hp];rfl)
    cbv
    refine G.n' rfl ?_
    rw[hone]
    rw[← hL] at hf ⊢
    exact za.weak (.cons rfl (.cons rfl (.cons rfl (.cons rfl (.cons rfl (.cons rfl (.nil _))))))) hf
   |false=>
    have hf:=hgood (by rw[hg,hq,hp];rfl)
    unfold zcb at hf
    rw[hst] at hf
    cbv
    refine G.n' rfl ?_
    rw[hone]
    rw[← hL] at hf ⊢
    exact za.weak (.cons rfl (.cons rfl (.cons rfl (.cons rfl (.cons rfl (.cons rfl (.nil _))))))) hf
end Go.AM
namespace Go.AM
open Go.Proofs
theorem qz.refl(env:Env):qz env env:=fun _=> .inr rfl
def notQ(b:UInt8):Bool:=b != 39
def zb1(b:List UInt8)(e:TypeId)(p:AV)(cs:List AV)(m:Mode)(caps:List Int):Prop:=
 ∀(s:List UInt8) (z:Int) (t:List UInt8),t.length≤1000000000→∀ K:Out→St→Prop,
  (∀ n k:Int,n=t.length→k=(b++t).length→K (.ret (.tup [.int .i64 n,.nili])) (SB s z (.ptr 1 0) (avl (b++t)) (.own 0) [k])) →
  jb Tryz.prog (Pr.tab real) 102 [.ptr 1 0,.str t] (SE e s z p cs m caps) K
theorem vbm:zb1 [] 0 (.tnil 1 99) [] .exact []:=fun s z t ht K hK=>
 ycd s t z ht K fun n hn=>hK n n hn (by rw[hn];rfl)
theorem qbv(b:List UInt8)(hb:b.length≤1000000000)(m:Int)(hm:m=b.length):zb1 b 5 (.ptr 1 0) (avl b) (.own 0) [m]:=fun s z t ht K hK=>
 vcy s t b z ht hb m hm K hK
def txtN(s:List UInt8):Nat→Nat→List UInt8→Bool→Option (List UInt8 × Bool × Nat)
 | 0,_,_,_=>none
 |n+1,i,b,ok=>match decide (scan notQ s i=s.length) with
  |true=>none
  |false=>match decide (scan notQ s i+1=s.length) || s.getD (scan notQ s i+1) 0 != 39 with
   |true=>some (b++(s.drop i).takeWhile notQ,ok && ((s.drop i).takeWhile notQ).all ja6,scan notQ s i+1)
   |false=>txtN s n (scan notQ s i+2) (b++(s.drop i).takeWhile notQ++[39]) (ok && ((s.drop i).takeWhile notQ).all ja6)
def envX(ok:Bool):Env:=[(0,.ptr 0 0),(4,.ptr 1 0),(5,.str (stOf ok))]
def envR:Env:=[(2,.str []),(3,.str zf)]
theorem xdc(s:List UInt8)(hs:s.length≤1000000)(K:Ex→Env→St→Prop)(n:Nat) :
 ∀(i:Nat) (z:Int) (b:List UInt8) (ok:Bool) (e:TypeId) (p:AV) (cs:List AV) (m:Mode) (caps:List Int),z=i→i≤s.length→s.length-i<n→b.length≤2 * i→zb1 b e p cs m caps →
  (∀ b' ok' (i':Nat) (z' k':Int),txtN s n i b ok=some (b',ok',i')→z'=i'→k'=b'.length→K (.exit 0) (envX ok') (SB s z' (.ptr 1 0) (avl b') (.own 0) [k'])) →
  (∀(z':Int) p' cs' m' caps',txtN s n i b ok=none→z'=s.length→K .ret envR (SB s z' p' cs' m' caps')) →
  za Tryz.prog (Pr.tab real) 83 c34 (Less K) (envX ok) (SE e s z p cs m caps):=by
 induction n with
 |zero=>intro i z b ok e p cs m caps hz hi hn;omega
 |succ n ih=>
  intro i z b ok e p cs m caps hz hi hn hb2 hw hK1 hK2
  obtain⟨j,hj⟩:∃ j,scan notQ s i=j:=⟨_,rfl⟩
  obtain⟨part,hpart⟩:∃ part,(s.drop i).takeWhile notQ=part:=⟨_,rfl⟩
  have hjb:=xr notQ s i hi
  have hjp:j=i+part.length:=by rw[← hj,← hpart];rfl
  rw[hj] at hjb
  simp only[txtN,hj,hpart] at hK1 hK2
  have hpl:part.length≤1000000:=by omega
  have hrec:∀(x:Int) (ok':Bool) (k:Int),j+1<s.length→(decide (j=s.length))=false→(decide (j+1=s.length) || s.getD (j+1) 0 != 39)=false→ok'=(ok && part.all ja6)→x=j+2→k=(b++part++[39]).length →
   za Tryz.prog (Pr.tab real) 83 c34 (Less K) (envX ok') (SB s x (.ptr 1 0) (avl (b++part++[39])) (.own 0) [k]):=by
   intro x ok' k h1 h2 h3 h4 hx hk
   rw[h2,h3] at hK1 hK2
   subst h4
   refine ih (j+2) x _ _ 5 _ _ _ _ hx (by omega) (by omega) ?_ (qbv _ ?_ _ hk) hK1 hK2
   ·simp;omega
   ·simp;omega
  have hend:∀(x:Int),j=s.length→x=j→∀ p' cs' m' caps',K .ret envR (SB s x p' cs' m' caps'):=fun x h1 hx p' cs' m' caps'=>
   hK2 x p' cs' m' caps' (by rw[decide_eq_true h1]) (by rw[hx,h1])
  have hout:∀(ok':Bool) (x k:Int),j<s.length→(decide (j+1=s.length) || s.getD (j+1) 0 != 39)=true→ok'=(ok && part.all ja6)→x=j+1→k=(b++part).length →
   K (.exit 0) (envX ok') (SB s x (.ptr 1 0) (avl (b++part)) (.own 0) [k]):=by
   intro ok' x k h1 h3 h4 hx hk
   have h2:decide (j=s.length)=false:=by simp;omega
   refine hK1 _ _ (j+1) x k ?_ (by omega) hk
   rw[h2,h3,h4]
  apply veq
  apply xb (mk:=Pr.tab)
  intro _ _ _ _ _ _ slen arith _ cmp _ _ _ _ _ _ byt _ _ _ _ _ inb _ _ _ _ _ _ G
  generalize hL:za Tryz.prog (Pr.tab real) 83 c34 (Less K)=L at *
  generalize hK':Less K=K' at *
  have hslp:slen part=(part.length:Int):=by rw[G.slen']
  obtain⟨pl,hpl'⟩:∃ pl:Int,pl=part.length:=⟨_,rfl⟩
  rw[← hpl'] at hslp
  have hsls:slen s=(s.length:Int):=by rw[G.slen']
  obtain⟨sl,hsl'⟩:∃ sl:Int,sl=s.length:=⟨_,rfl⟩
  rw[← hsl'] at hsls
  have hmore:∀ y:Int,y=j→cmp BinOp.eql y sl=decide (j=s.length):=fun y hy=>by
   rw[G.cmp'];simp only[vb];rw[Bool.eq_iff_iff];simp only[beq_iff_eq,decide_eq_true_eq];omega
  have hadd:∀ y:Int,y=j→arith BinOp.add IntKind.i64 y 1=y+1:=fun y hy=>by rw[G.arith'];exact wrap_i64 _ (by omega) (by omega)
  have hadd2:∀ y:Int,y=j→arith BinOp.add IntKind.i64 (y+1) 1=y+2:=fun y hy=>by rw[G.arith',show y+2=y+1+1 by omega];exact wrap_i64 _ (by omega) (by omega)
  have hmore2:∀ y:Int,y=j→cmp BinOp.eql (y+1) sl=decide (j+1=s.length):=fun y hy=>by
   rw[G.cmp'];simp only[vb];rw[Bool.eq_iff_iff];simp only[beq_iff_eq,decide_eq_true_eq];omega
  have hin:∀ y:Int,y=j→j+1<s.length→inb (y+1) sl=true:=fun y hy h=>by rw[G.inb'];simp;omega
  have hq:∀ y:Int,y=j→j+1<s.length→cmp BinOp.neq (byt s (y+1)) 39=(s.getD (j+1) 0 != 39):=fun y hy h=>by
   have:byt s (y+1)=((s.getD (j+1) 0).toNat:Int):=by rw[G.byt'];simp only[];rw[show (y+1).toNat=j+1 by omega]
   rw[G.cmp',this]
   exact neb _ 39
  simp only[envX]
  generalize hst:stOf ok=st
  cbv
  refine G.c' (zbv 101 notQ vew s (by omega) i z hz hi _ 0 (Nat.zero_lt_succ 1) rfl _ fun y hy=>?_)
  rw[hj] at hy
  rw[hpart]
  cbv
  rw[hslp]
  refine G.l' ?_
  change za Tryz.prog (Pr.tab real) 83 c34b _ _ _
  refine za.relax (za.weak (env':=[(0,.ptr 0 0),(4,.ptr 1 0),(5,.str st),(6,.str part),(11,.int .i64 pl),(12,.int .i64 0)]) (.cons rfl (.cons rfl (.cons rfl (.cons rfl (.cons rfl (.cons rfl (.nil _))))))) ?_)
  have hinner:=fun Kx h=>xcz part (by omega) (SE e s y p cs m caps) pl hpl' Kx part.length 0 0 ok rfl (by omega) h
  unfold zcb at hinner
  rw[hst] at hinner
  refine hinner _ fun ok' hok'=>?_
  rw[List.drop_zero] at hok'
  have hY:=hmore y hy
  have hA:=hadd y hy
  have hA2:=hadd2 y hy
  have hM2:=hmore2 y hy
  have hE:=hend y
  generalize hst':stOf ok'=st'
  simp only[envT,hst']
  cbv
  refine G.c' (hw s y part (by omega) _ fun n1 k1 hn1 hk1=>?_)
  have hn39:(39:Int)=((39:UInt8).toNat:Int):=rfl
  have hbl:(b++part).length≤1000000000:=by simp;omega
  have hex:decide (j=s.length)=false→(decide (j+1=s.length) || s.getD (j+1) 0 != 39)=true→K (.exit 0) [(0,.ptr 0 0),(4,.ptr 1 0),(5,.str st')] (SB s (y+1) (.ptr 1 0) (avl (b++part)) (.own 0) [k1]):=fun h1 h2=>by
   have:=hout ok' (y+1) k1 (by have:=of_decide_eq_false h1;omega) h2 hok' (by omega) hk1
   unfold envX at this
   rw[hst'] at this
   exact this
  have hgo:decide (j=s.length)=false→decide (j+1=s.length)=false→(s.getD (j+1) 0 != 39)=false→∀ k2:Int,k2=(b++part++[39]).length →
   L [(0,.ptr 0 0),(4,.ptr 1 0),(5,.str st')] (SB s (y+2) (.ptr 1 0) (avl (b++part++[39])) (.own 0) [k2]):=fun h1 h2 h3 k2 hk2=>by
   have h1':=of_decide_eq_false h1
   have h2':=of_decide_eq_false h2
   have:=hrec (y+2) ok' k2 (by omega) h1 (by rw[h2,h3];rfl) hok' (by omega) hk2
   unfold envX at this
   rw[hst'] at this
   exact this
  have hI:decide (j=s.length)=false→decide (j+1=s.length)=false→inb (y+1) sl=true:=fun h1 h2=>by
   have h1':=of_decide_eq_false h1
   have h2':=of_decide_eq_false h2
   exact hin y hy (by omega)
  have hQ:decide (j=s.length)=false→decide (j+1=s.length)=false→cmp BinOp.neq (byt s (y+1)) 39=(s.getD (j+1) 0 != 39):=fun h1 h2=>by
   have h1':=of_decide_eq_false h1
   have h2':=of_decide_eq_false h2
   exact hq y hy (by omega)
  clear hmore hadd hadd2 hmore2 hin hq hend hout hrec hK1 hK2 ih
  generalize hdj:decide (j=s.length)=dj at *
  generalize hdj2:decide (j+1=s.length)=dj2 at *
  generalize hdq:(s.getD (j+1) 0 != 39)=dq at *
  have hE':dj=true→K .ret [(2,.str []),(3,.str [52,50,54,48,49])] (SB s y (.ptr 1 0) (avl (b++part)) (.own 0) [k1]):=fun h=>hE (of_decide_eq_true (hdj.trans h)) hy _ _ _ _
  have hwb:∀ Kx:Out→St→Prop,(∀ k2:Int,k2=(b++part++[39]).length→Kx (.ret .nili) (SB s (y+1) (.ptr 1 0) (avl (b++part++[39])) (.own 0) [k2])) →
   jb Tryz.prog (Pr.tab real) 103 [.ptr 1 0,.int .u8 39] (SB s (y+1) (.ptr 1 0) (avl (b++part)) (.own 0) [k1]) Kx:=fun Kx h=>ydu s (b++part) (y+1) 39 39 rfl hbl k1 hk1 Kx h
  generalize avl (b++part++[39])=cbq at *
  generalize avl (b++part)=cbp at *
  generalize hy1:y+1=y1 at *
  generalize hy2:y+2=y2 at *
  cbv
  refine G.n' rfl ?_
  rw[hsls,hY]
  cases dj with
  |true=>
   have:=hE' rfl
   cbv
   rw[← hK']
   exact⟨[(2,.str []),(3,.str [52,50,54,48,49])],.cons rfl (.cons rfl (.nil _)),this⟩
  |false=>
   have hI:=hI rfl
   have hQ:=hQ rfl
   have hex:=hex rfl
   have hgo:=hgo rfl
   cbv
   refine G.n' rfl ?_
   rw[hA]
   refine G.n' rfl ?_
   rw[hsls,hM2]
   cases dj2 with
   |true=>
    have:=hex rfl
    cbv
    rw[← hK']
    exact⟨[(0,.ptr 0 0),(4,.ptr 1 0),(5,.str st')],.cons rfl (.cons rfl (.cons rfl (.nil _))),this⟩
   |false=>
    have hI:=hI rfl
    have hQ:=hQ rfl
    have hgo:=hgo rfl
    cbv
    rw[hsls]
    refine G.n' hI (G.n' rfl ?_)
    rw[hQ]
    cases dq with
    |true=>
     have:=hex rfl
     cbv
     rw[← hK']
     exact⟨[(0,.ptr 0 0),(4,.ptr 1 0),(5,.str st')],.cons rfl (.cons rfl (.cons rfl (.nil _))),this⟩
    |false=>
     have hgo:=hgo rfl
     cbv
     refine G.c' (hwb _ fun k2 hk2=>?_)
     have hgo:=hgo k2 hk2
     cbv
     refine G.n' rfl ?_
     rw[hA2]
     rw[← hL] at hgo ⊢
     exact za.weak (env':=[(0,.ptr 0 0),(4,.ptr 1 0),(5,.str st')]) (.cons rfl (.cons rfl (.cons rfl (.nil _)))) hgo
end Go.AM
namespace Go.AM
open Go.Proofs
def jah:List UInt8:=[50,50,48,48,49]
def jbd(b:List UInt8)(ok:Bool):List UInt8:=match ok with
 |true=>match decide (400<b.length) with
  |true=>jah
  |false=>jf
 |false=>zf
def qax(s:List UInt8)(i:Nat):List UInt8 × List UInt8 × Nat:=match txtN s (s.length+1) i [] true with
 |none=>([],zf,s.length)
 |some (b,ok,j)=>(b,jbd b ok,j)
def jay(s:List UInt8)(i:Nat)(out:Out)(S':St):Prop:=
 ∃ y:Int,y=(qax s i).2.2∧out= .ret (.tup [.str (qax s i).1,.str (qax s i).2.1])∧1≤S'.next∧S'.row 0=[.str s,.int .i64 y]
theorem jdy(s:List UInt8)(n:Nat):∀(i:Nat) (b:List UInt8) (ok:Bool) (b':List UInt8) (ok':Bool) (j:Nat),i≤s.length→b.length≤2 * i→txtN s n i b ok=some (b',ok',j)→b'.length≤2 * j∧j≤s.length∧i<j:=by
 induction n with
 |zero=>intro i b ok b' ok' j _ _ h;cases h
 |succ n ih=>
  intro i b ok b' ok' j hi hb h
  have hjb:=xr notQ s i hi
  have hjp:scan notQ s i=i+((s.drop i).takeWhile notQ).length:=rfl
  unfold txtN at h
  cases h1:decide (scan notQ s i=s.length) with
  |true=>rw[h1] at h;cases h
  |false=>
   rw[h1] at h
   have h1':=of_decide_eq_false h1
   cases h2:(decide (scan notQ s i+1=s.length) || s.getD (scan notQ s i+1) 0 != 39) with
   |true=>
    rw[h2] at h
    simp only[Option.some.injEq,Prod.mk.injEq] at h
    obtain⟨rfl,rfl,rfl⟩:=h
    refine⟨?_,by omega,by omega⟩
    simp;omega
   |false=>
    rw[h2] at h
    simp only[Bool.or_eq_false_iff] at h2
    have h3:=of_decide_eq_false h2.1
    have:=ih (scan notQ s i+2) _ _ b' ok' j (by omega) (by simp;omega) h
    omega
theorem jdc(s:List UInt8)(hs:s.length≤1000000)(i:Nat)(z:Int)(hz:z=i)(hi:i≤s.length):jb Tryz.prog (Pr.tab real) 72 [.ptr 0 0] (S1 s z) (jay s i):=by
 apply ja (un:=0) Pr.tabOk Pr.mixed Pl.fn72 (nb rfl)
 apply qb (mk:=Pr.tab)
 intro _ _ _ _ _ _ _ _ _ cmp _ eqS _ _ _ _ _ _ _ _ _ _ _ _ _ _ _ _ _ G
 have hloop:=fun K=>xdc s hs K (s.length+1) i z [] true 0 (.tnil 1 99) [] .exact [] hz hi (by omega) (by simp) vbm
 have hnone:txtN s (s.length+1) i [] true=none→∀(z':Int) S',z'=s.length→1≤S'.next→S'.row 0=[.str s,.int .i64 z']→jay s i (.ret (.tup [.str [],.str zf])) S':=fun h z' S' hz' h1 h2=>by
  unfold jay qax
  rw[h]
  exact⟨z',hz',rfl,h1,h2⟩
 have hsome:∀ b ok (j:Nat),txtN s (s.length+1) i [] true=some (b,ok,j)→∀(z':Int) S',z'=j→1≤S'.next→S'.row 0=[.str s,.int .i64 z']→jay s i (.ret (.tup [.str b,.str (jbd b ok)])) S':=fun b ok j h z' S' hz' h1 h2=>by
  unfold jay qax
  rw[h]
  exact⟨z',hz',rfl,h1,h2⟩
 have hD:eqS jf [48,48,48,48,48]=true:=by rw[G.eqS'];rfl
 have hX:eqS zf [48,48,48,48,48]=false:=by rw[G.eqS'];rfl
 have hgt:∀(b:List UInt8) (k:Int),k=b.length→cmp BinOp.gtr k 400=decide (400<b.length):=fun b k hk=>by
  rw[G.cmp'];simp only[vb];rw[Bool.eq_iff_iff];simp only[decide_eq_true_eq];omega
 generalize jay s i=TO at *
 generalize htx:txtN s (s.length+1) i [] true=tx at *
 cbv
 refine G.l' ?_
 change za Tryz.prog (Pr.tab real) 83 c34 _ _ _
 refine za.relax (za.weak (env':=[(0,.ptr 0 0),(4,.ptr 1 0),(5,.str jf)]) (.cons rfl (.cons rfl (.cons rfl (.nil _)))) ?_)
 refine hloop _ ?_ ?_
 ·intro b' ok' i' z' k' h hz0 hk0
  have hz':z'=(i':Int):=hz0
  have hk':k'=(b'.length:Int):=hk0
  clear hz0 hk0
  have hs2:=hsome b' ok' i' h z'
  have hg2:=hgt b' k' hk'
  have hstr:=fun K=>jce 1 0 (.ptr 1 0) b' (SB s z' (.ptr 1 0) (avl b') (.own 0) [k']) rfl hk' K
  have hlen:∀ K:Out→St→Prop,K (.ret (.int .i64 k')) (SB s z' (.ptr 1 0) (avl b') (.own 0) [k'])→jb Tryz.prog (Pr.tab real) 104 [.ptr 1 0] (SB s z' (.ptr 1 0) (avl b') (.own 0) [k']) K:=
   fun K h=>vd7 s b' z' (.ptr 1 0) (.own 0) [k'] K fun k hk=>by rw[hk,← hk'];exact h
  generalize avl b'=cb at *
  cases ok' with
  |false=>
   have hfin:=fun S'=>hs2 S' hz'
   have he:jbd b' false=zf:=rfl
   rw[he] at hfin
   simp only[envX,stOf]
   generalize hS:zf=SS at *
   cbv
   rw[hX]
   cbv
   refine G.c' (hstr _ ?_)
   cbv
   exact hfin _ (nb rfl) rfl
  |true=>
   have hfin:=fun S'=>hs2 S' hz'
   have he:jbd b' true=match decide (400<b'.length) with
    |true=>jah
    |false=>jf:=rfl
   rw[he] at hfin
   simp only[envX,stOf]
   generalize hdl:decide (400<b'.length)=dl at *
   generalize hS:jf=SS at *
   cbv
   rw[hD]
   cbv
   refine G.c' (hlen _ ?_)
   cbv
   refine G.n' rfl ?_
   rw[hg2]
   cases dl with
   |true=>
    cbv
    refine G.c' (hstr _ ?_)
    cbv
    exact hfin _ (nb rfl) rfl
   |false=>
    cbv
    refine G.c' (hstr _ ?_)
    cbv
    exact hfin _ (nb rfl) rfl
 ·intro z' p' cs' m' caps' h hz'
  have hn:=fun S'=>hnone h z' S' hz'
  cbv
  exact hn _ (nb rfl) rfl
theorem qeh(s:List UInt8)(hs:s.length≤1000000)(i:Nat)(z:Int)(hz:z=i)(hi:i≤s.length)(S:St)(o:Nat)(ho:o<S.next)(hrow:S.row o=[.str s,.int .i64 z])(K:Out→St→Prop)
 (hK:∀ y:Int,y=(qax s i).2.2→K (.ret (.tup [.str (qax s i).1,.str (qax s i).2.1])) (S.set o [.str s,.int .i64 y])):jb Tryz.prog (Pr.tab real) 72 [.ptr o 0] S K:=by
 have hptr:one o 0 o=some 0:=vo.2 ⟨rfl,rfl⟩
 refine xbj (K0:=jay s i) ho (by rw[hrow];simp) ?_ ?_
 ·rw[hrow]
  simp only[renL,AV.ren,hptr]
  exact jdc s hs i z hz hi
 ·rintro out S' ⟨y,hy,rfl,h1,h2⟩
  refine⟨h1,?_⟩
  rw[h2]
  exact hK y hy
end Go.AM
namespace Go.AM
open Go.Proofs
theorem parse_spec(l:List UInt8)(h0:l≠[])(hd:l.all jc=true)(hl:l.length≤1000000000)(S:St)(K:Out→St→Prop)
 (hK1:xf 0 l<9223372036854775808→∀ n:Int,n=xf 0 l→K (.ret (.tup [.int .i64 n,.nili])) S)
 (hK2:¬ xf 0 l<9223372036854775808→K (.ret (.tup [.int .i64 bigN,.iface 112 .undef])) S):jb Tryz.prog (Pr.tab real) 71 [.str l,.int .i64 10,.int .i64 64] S K:=by
 have hp:=qee l h0 hd
 have hsz:(⟨l.toArray⟩:ByteArray).size=l.length:=by simp[ByteArray.size]
 by_cases hr:xf 0 l<9223372036854775808
 ·rw[if_pos hr] at hp
  refine zam (v:= .tup [.int .i64 (xf 0 l:Int),.nili]) (hK1 hr _ rfl) fun g w vs r ha=> .inl ⟨Pr.enters71,?_⟩
  obtain⟨x,y,z,rfl,hx,hy,hz⟩:=zeo ha
  cases hx;cases hy;cases hz
  refine Calls.mono (Tryz.strconv_ParseInt_10_at64_ok ⟨l.toArray⟩ (by omega) _ (by simpa using hp) w) ?_
  rintro e w' ⟨rfl,hw⟩
  refine⟨_,g,rfl,?_,?_⟩
  ·rcases hw with rfl|⟨t,rfl⟩
   ·exact .refl _ _
   ·exact jae g (ybk w t)
  ·refine .tup _ _ [_,_] rfl fun j hj=>?_
   match j,hj with
   | 0,_=>exact .int ..
   | 1,_=>exact .nili _
 ·rw[if_neg hr] at hp
  refine vbk (v:= .tup [.int .i64 bigN,.iface 112 .undef]) (hK2 hr) fun g w vs r hg ha=> .inl ⟨Pr.enters71,?_⟩
  obtain⟨x,y,z,rfl,hx,hy,hz⟩:=zeo ha
  cases hx;cases hy;cases hz
  have hgl:=hg 3 86 (.iface 126 .undef) rfl
  obtain⟨ev,hev,hev2⟩:∃ ev,w.cell? ⟨3,0,none⟩=some ev∧(ev= .nilIface∨∃ te pe,ev= .iface te pe):=by
   cases hgl with
   |eptr _ _ _ _ _ base xs hf hc h1 hD hR=>
    have h2:=hc 0 (by simp[AV.cells])
    have h3:=hR 0 (by simp[AV.cells])
    simp only[AV.cells,nth] at h3
    simp only[Nat.add_zero] at *
    refine⟨xs 0,?_,.inr ?_⟩
    ·first|exact h2|simpa using h2
    ·generalize xs 0=q at h3
     cases h3
     exact⟨_,_,rfl⟩
  refine Calls.mono (Tryz.strconv_ParseInt_10_at64_range ⟨l.toArray⟩ (by omega) (by simpa using hp) ev w hev hev2) ?_
  rintro e w' ⟨N,rfl,_,_,hb⟩
  refine⟨_,g,rfl,jae g hb,?_⟩
  have hsat:Lib.intSat 64 l=bigN:=by
   cases l with
   |nil=>exact absurd rfl h0
   |cons c r=>
    have hc:=za3 c (by rw[List.all_cons,Bool.and_eq_true] at hd;exact hd.1)
    unfold Lib.intSat
    rw[if_neg (by simp;omega)]
    rfl
  refine .tup _ _ [_,_] rfl fun j hj=>?_
  match j,hj with
  | 0,_=>simp only[nth];rw[← hsat];exact .int ..
  | 1,_=>exact .iface _ _ _ _ (.undef _ _)
end Go.AM
namespace Go.AM
open Go.Proofs
theorem Pl.fn35:FnOk Tryz.prog 35 (fni Tryz.f35 Pr.a35):=⟨⟨Tryz.f35,Tryz.func35,rfl,rfl,rfl,by kernel_rfl⟩,by kernel_rfl⟩
noncomputable def c14:Code:=(fni Tryz.f35 Pr.a35).loop 0
theorem Pl.c14:qf 120 Pr.a35 c14=true:=by kernel_rfl
theorem xed(K:Ex→Env→St→Prop)(env:Env)(S:St)(h:xg (pAlg Tryz.prog (Pr.tab real) 120) (Pr.tab real) Pr.a35 0 c14 (andThen (za Tryz.prog (Pr.tab real) 120 c14 K) K) env S):za Tryz.prog (Pr.tab real) 120 c14 K env S:=
 vc Pr.tabOk Pr.mixed Pl.c14 h
def SN(s:List UInt8)(z k:Int)(t:List UInt8)(n a:Int):St:=⟨[(1,[.int .i64 k,.str t,.int .i64 n,.int .i64 a]),(0,[.str s,.int .i64 z])],2,[]⟩
def js(s:List UInt8)(i:Nat)(l:List (List UInt8)):Option (List UInt8):=l.find? fun x=>x.isPrefixOf (s.drop i)
def jes:AV:= .agg [.str [60,61],.str [62,61],.str [60,62],.str [124,124],.str [40],.str [41],.str [44],.str [46],.str [59],.str [61],.str [60],.str [62],.str [43],.str [45],.str [42],.str [47]]
def envS(y:Int)(st:List UInt8):Env:=[(0,.ptr 0 0),(2,.ptr 1 0),(3,.str st),(24,jes),(25,.int .i64 y)]
def yd8(st:List UInt8):Env:=[(0,.ptr 0 0),(2,.ptr 1 0),(3,.str st)]
theorem vdg(s:List UInt8)(hs:s.length≤1000000)(i:Nat)(hi:i≤s.length)(z a:Int)(hz:z=i)(K:Ex→Env→St→Prop) (n:Nat) :
 ∀(k:Nat) (y:Int),y=k→k+n=16→(∀ x,js s i (Pr.signs.drop k)=some x→∀ z':Int,z'=i+x.length→K (.exit 1) (yd8 jf) (SN s z' 3 x 0 a)) →
  (js s i (Pr.signs.drop k)=none→K (.exit 1) (yd8 zf) (SN s z 3 [] 0 a)) →
  za Tryz.prog (Pr.tab real) 120 c14 (Less K) (envS y zf) (SN s z 3 [] 0 a):=by
 induction n with
 |zero=>
  intro k y hy hk hK1 hK2
  have hfin:=hK2 (by have:k=16:=by omega
                     subst this;rfl)
  apply xed
  apply xb (mk:=Pr.tab)
  intro fail need same call loop len slen arith shift cmp conv eqS ltS cat app elt byt subS subL strOf isB fit inb cut room not and eqB avs G
  have hb:cmp BinOp.lss y 16=false:=by rw[G.cmp'];simp[vb];omega
  generalize za Tryz.prog (Pr.tab real) 120 c14 (Less K)=L at *
  generalize hK':Less K=K' at *
  generalize hst:zf=st at *
  cbv
  refine G.n' rfl ?_
  rw[hb]
  cbv
  rw[← hK']
  exact⟨yd8 st,.cons rfl (.cons rfl (.cons rfl (.nil _))),hfin⟩
 |succ n ih=>
  intro k y hy hk hK1 hK2
  have hlt:k<Pr.signs.length:=by show k<16;omega
  have hdrop:Pr.signs.drop k=Pr.signs[k]::Pr.signs.drop (k+1):=List.drop_eq_getElem_cons hlt
  obtain⟨sg,hsg⟩:∃ sg,Pr.signs[k]=sg:=⟨_,rfl⟩
  rw[hsg] at hdrop
  have hsl:sg.length≤2:=by
   have:∀ x ∈ Pr.signs,x.length≤2:=by decide
   exact this sg (hsg ▸ List.getElem_mem hlt)
  have hstep:js s i (Pr.signs.drop k)=match sg.isPrefixOf (s.drop i) with
   |true=>some sg
   |false=>js s i (Pr.signs.drop (k+1)):=by
   rw[hdrop];unfold js;rw[List.find?_cons]
   cases sg.isPrefixOf (s.drop i)<;>rfl
  rw[hstep] at hK1 hK2
  have hyes:sg.isPrefixOf (s.drop i)=true→∀ z':Int,z'=i+sg.length→K (.exit 1) (yd8 jf) (SN s z' 3 sg 0 a):=fun h=>hK1 sg (by rw[h])
  have hno:sg.isPrefixOf (s.drop i)=false→za Tryz.prog (Pr.tab real) 120 c14 (Less K) (envS (y+1) zf) (SN s z 3 [] 0 a):=fun h=>by
   rw[h] at hK1 hK2
   exact ih (k+1) (y+1) (by omega) (by omega) hK1 hK2
  apply xed
  apply xb (mk:=Pr.tab)
  intro _ _ _ _ _ _ slen arith _ cmp _ _ _ _ _ elt _ subS _ _ _ _ inb cut _ _ _ _ _ G
  have hb:cmp BinOp.lss y 16=true:=by rw[G.cmp'];simp[vb];omega
  have hin:inb y 16=true:=by rw[G.inb'];simp;omega
  have helt:elt [.str [60,61],.str [62,61],.str [60,62],.str [124,124],.str [40],.str [41],.str [44],.str [46],.str [59],.str [61],.str [60],.str [62],.str [43],.str [45],.str [42],.str [47]] y= .str sg:=by
   rw[G.elt']
   show (Pr.signs.map AV.str).getD y.toNat AV.undef=_
   rw[hy,← hsg]
   simp[List.getD_eq_getElem?_getD,hlt]
  have hcut:cut z (slen s) (slen s)=true:=by rw[G.cut',G.slen',hz];simp;omega
  have hsub:subS s z (slen s)=s.drop i:=by
   rw[G.subS',G.slen',hz]
   simp only[Int.toNat_natCast]
   rw[List.take_of_length_le]
   simp
  have hone:arith BinOp.add IntKind.i64 y 1=y+1:=by rw[G.arith'];exact wrap_i64 _ (by omega) (by omega)
  have hadd:arith BinOp.add IntKind.i64 z (slen sg)=z+sg.length:=by rw[G.arith',G.slen'];exact wrap_i64 (z+(sg.length:Int)) (by omega) (by omega)
  have hyes:=fun h=>hyes h (z+sg.length) (by omega)
  generalize z+(sg.length:Int)=z2 at *
  generalize hL:za Tryz.prog (Pr.tab real) 120 c14 (Less K)=L at *
  generalize hK':Less K=K' at *
  generalize hst:zf=st at *
  generalize y+1=y1 at *
  generalize hdr:s.drop i=tl at *
  cbv
  refine G.n' rfl ?_
  rw[hb]
  cbv
  refine G.n' hin ?_
  rw[helt]
  refine G.n' hcut (G.c' ?_)
  rw[hsub]
  refine jaw _ _ _ _ ?_
  cases hp:sg.isPrefixOf tl with
  |true=>
   have hyes:=hyes hp
   cbv
   refine G.n' rfl ?_
   rw[hadd]
   rw[← hK']
   exact⟨[(0,.ptr 0 0),(2,.ptr 1 0),(3,.str [48,48,48,48,48])],.cons rfl (.cons rfl (.cons rfl (.nil _))),hyes⟩
  |false=>
   have hno:=hno hp
   cbv
   refine G.n' rfl ?_
   rw[hone]
   rw[← hL] at hno ⊢
   exact za.weak (env':=envS y1 st) (.cons rfl (.cons rfl (.cons rfl (.cons rfl (.cons rfl (.nil _)))))) hno
end Go.AM
namespace Go.AM
open Go.Proofs
structure Tk where
 k:Int
 t:List UInt8
 n:Int
 a:Int
def Tk.av(x:Tk):AV:= .agg [.int .i64 x.k,.str x.t,.int .i64 x.n,.int .i64 x.a]
def xj(b:UInt8):Bool:=ve b || jc b
def ja8:List UInt8:=[50,50,48,48,51]
def zap:List UInt8:=[53,52,48,48,48]
def xeg(w:List UInt8)(i j:Nat):Tk × List UInt8 × Nat:=(⟨0,w.map low,0,i⟩,match decide (32<w.length) with
 |true=>zf
 |false=>jf,j)
def numR(s d:List UInt8)(i j:Nat):Tk × List UInt8 × Nat:=match decide (xf 0 d<9223372036854775808) with
 |false=>(⟨1,[],bigN,i⟩,ja8,j)
 |true=>(⟨1,[],xf 0 d,i⟩,match decide (j<s.length) && ve (s.getD j 0) with
  |true=>zf
  |false=>jf,j)
def ydg(o:Option (List UInt8))(i:Nat):Tk × List UInt8 × Nat:=match o with
 |some x=>(⟨3,x,0,i⟩,jf,i+x.length)
 |none=>(⟨3,[],0,i⟩,zf,i)
def jl(s:List UInt8)(i:Nat):Tk × List UInt8 × Nat:=
 match ve (s.getD i 0) with
 |true=>xeg ((s.drop i).takeWhile xj) i (scan xj s i)
 |false=>match jc (s.getD i 0) with
  |true=>numR s ((s.drop i).takeWhile jc) i (scan jc s i)
  |false=>match s.getD i 0 == 39 with
   |true=>(⟨2,(qax s (i+1)).1,0,i⟩,(qax s (i+1)).2.1,(qax s (i+1)).2.2)
   |false=>ydg (js s i Pr.signs) i
def yag(s:List UInt8)(i:Nat)(out:Out)(S':St):Prop:=
 ∃ y:Int,y=(jl s i).2.2∧out= .ret (.tup [(jl s i).1.av,.str (jl s i).2.1])∧1≤S'.next∧S'.row 0=[.str s,.int .i64 y]
theorem yae{s:List UInt8}{i:Nat}{k n a y:Int}{t st:List UInt8}{j:Nat}(h:jl s i=(⟨k,t,n,a⟩,st,j))(hy:y=j)(S':St)(h1:1≤S'.next)(h2:S'.row 0=[.str s,.int .i64 y]) :
 yag s i (.ret (.tup [.agg [.int .i64 k,.str t,.int .i64 n,.int .i64 a],.str st])) S':=by
 unfold yag
 rw[h]
 exact⟨y,hy,rfl,h1,h2⟩
theorem xdl(s:List UInt8)(hs:s.length≤1000000)(i:Nat)(z:Int)(hz:z=i)(hi:i<s.length):jb Tryz.prog (Pr.tab real) 35 [.ptr 0 0] (S1 s z) (yag s i):=by
 apply ja (un:=0) Pr.tabOk Pr.mixed Pl.fn35 (nb rfl)
 apply qb (mk:=Pr.tab)
 intro _ _ _ _ _ _ slen arith _ cmp _ _ _ _ _ _ byt _ _ _ _ _ inb _ _ not _ _ _ G
 obtain⟨c,hc⟩:∃ c,s.getD i 0=c:=⟨_,rfl⟩
 obtain⟨cz,hcz⟩:∃ cz:Int,cz=c.toNat:=⟨_,rfl⟩
 have hbyt:byt s z=cz:=by rw[G.byt',hz,hcz,← hc];rfl
 have hin:inb z (slen s)=true:=by rw[G.inb',G.slen'];simp;omega
 have hL:∀ S K,K (.ret (.bool (ve c))) S→jb Tryz.prog (Pr.tab real) 67 [.int .u8 cz] S K:=fun S K h=>by rw[hcz];exact zeg c S K h
 have hD:∀ S K,K (.ret (.bool (jc c))) S→jb Tryz.prog (Pr.tab real) 70 [.int .u8 cz] S K:=fun S K h=>by rw[hcz];exact qeg c S K h
 have h39:cmp BinOp.eql cz 39=(c == 39):=by rw[G.cmp',hcz];exact eqb c 39
 have hone:arith BinOp.add IntKind.i64 z 1=z+1:=by rw[G.arith'];exact wrap_i64 _ (by omega) (by omega)
 have wW:=zbv 69 xj yew s (by omega) i z hz (by omega) (SN s z 0 [] 0 z) 0 (Nat.zero_lt_succ 1) rfl
 have wD:=zbv 70 jc qeg s (by omega) i z hz (by omega) (SN s z 1 [] 0 z) 0 (Nat.zero_lt_succ 1) rfl
 have wT:=qeh s hs (i+1) (z+1) (by omega) (by omega) (SN s (z+1) 2 [] 0 z) 0 (Nat.zero_lt_succ 1) rfl
 obtain⟨w,hw⟩:∃ w,(s.drop i).takeWhile xj=w:=⟨_,rfl⟩
 obtain⟨d,hd⟩:∃ d,(s.drop i).takeWhile jc=d:=⟨_,rfl⟩
 obtain⟨jw,hjw⟩:∃ j,scan xj s i=j:=⟨_,rfl⟩
 obtain⟨jd,hjd⟩:∃ j,scan jc s i=j:=⟨_,rfl⟩
 have hjdb:=xr jc s i (by omega)
 rw[hjd] at hjdb
 have hwl:w.length≤1000000:=by rw[← hw];have:=(List.takeWhile_prefix xj (l:=s.drop i)).length_le;simp at this;omega
 have hdl:d.length≤1000000:=by rw[← hd];have:=(List.takeWhile_prefix jc (l:=s.drop i)).length_le;simp at this;omega
 have hdall:d.all jc=true:=by rw[← hd];exact List.all_takeWhile
 have hdrop:s.drop i=c::s.drop (i+1):=by
  have:s[i]=c:=by rw[← hc];simp[List.getD_eq_getElem?_getD,hi]
  rw[List.drop_eq_getElem_cons hi,this]
 have hdne:jc c=true→d≠[]:=fun h=>by rw[← hd,hdrop,List.takeWhile_cons,h];simp
 rw[hw,hjw] at wW
 rw[hd,hjd] at wD
 obtain⟨tr,htr⟩:∃ tr,qax s (i+1)=tr:=⟨_,rfl⟩
 rw[htr] at wT
 have wS:=fun K h1 h2=>vdg s hs i (by omega) z z hz K 16 0 0 rfl rfl h1 h2
 rw[List.drop_zero] at wS
 obtain⟨so,hso⟩:∃ so,js s i Pr.signs=so:=⟨_,rfl⟩
 rw[hso] at wS
 have wLow:=fun S K=>qbs w (by omega) S K
 have hwlen:slen (w.map low)=(w.length:Int):=by rw[G.slen'];simp
 have h32:cmp BinOp.gtr (slen (w.map low)) 32=decide (32<w.length):=by
  rw[G.cmp',hwlen];simp only[vb];rw[Bool.eq_iff_iff];simp only[decide_eq_true_eq];omega
 obtain⟨bn,hbn⟩:∃ bn,bn=bigN:=⟨_,rfl⟩
 have wP:=fun h S K=>parse_spec d (hdne h) hdall (by omega) S K
 rw[← hbn] at wP
 have eW:ve c=true→∀ y:Int,y=jw→∀ S',1≤S'.next→S'.row 0=[.str s,.int .i64 y] →
  yag s i (.ret (.tup [.agg [.int .i64 0,.str (w.map low),.int .i64 0,.int .i64 z],.str (match decide (32<w.length) with
   |true=>zf
   |false=>jf)])) S':=fun h y hy S' h1 h2=>by
  refine yae ?_ hy S' h1 h2
  unfold jl
  rw[hc,h,hw,hjw,hz]
  rfl
 have eD1:ve c=false→jc c=true→¬ xf 0 d<9223372036854775808→∀ y:Int,y=jd→∀ S',1≤S'.next→S'.row 0=[.str s,.int .i64 y] →
  yag s i (.ret (.tup [.agg [.int .i64 1,.str [],.int .i64 bn,.int .i64 z],.str ja8])) S':=fun h0 h hn y hy S' h1 h2=>by
  rw[hbn]
  refine yae ?_ hy S' h1 h2
  unfold jl
  rw[hc,h0,h,hd,hjd,hz]
  simp only[numR]
  rw[decide_eq_false hn]
 have eD2:ve c=false→jc c=true→xf 0 d<9223372036854775808→∀ y n:Int,y=jd→n=xf 0 d→∀ S',1≤S'.next→S'.row 0=[.str s,.int .i64 y] →
  yag s i (.ret (.tup [.agg [.int .i64 1,.str [],.int .i64 n,.int .i64 z],.str (match decide (jd<s.length) && ve (s.getD jd 0) with
   |true=>zf
   |false=>jf)])) S':=fun h0 h hn y n hy hnn S' h1 h2=>by
  refine yae ?_ hy S' h1 h2
  unfold jl
  rw[hc,h0,h,hd,hjd,hz,hnn]
  simp only[numR]
  rw[decide_eq_true hn]
 have eT:ve c=false→jc c=false→(c == 39)=true→∀ y:Int,y=tr.2.2→∀ S',1≤S'.next→S'.row 0=[.str s,.int .i64 y] →
  yag s i (.ret (.tup [.agg [.int .i64 2,.str tr.1,.int .i64 0,.int .i64 z],.str tr.2.1])) S':=fun h0 h h3 y hy S' h1 h2=>by
  refine yae ?_ hy S' h1 h2
  unfold jl
  rw[hc,h0,h,h3,htr,hz]
 have eS1:ve c=false→jc c=false→(c == 39)=false→∀ x,so=some x→∀ y:Int,y=i+x.length→∀ S',1≤S'.next→S'.row 0=[.str s,.int .i64 y] →
  yag s i (.ret (.tup [.agg [.int .i64 3,.str x,.int .i64 0,.int .i64 z],.str jf])) S':=fun h0 h h3 x hx y hy S' h1 h2=>by
  refine yae (j:=i+x.length) ?_ (by omega) S' h1 h2
  unfold jl
  rw[hc,h0,h,h3,hso,hx,hz]
  rfl
 have eS2:ve c=false→jc c=false→(c == 39)=false→so=none→∀ S',1≤S'.next→S'.row 0=[.str s,.int .i64 z] →
  yag s i (.ret (.tup [.agg [.int .i64 3,.str [],.int .i64 0,.int .i64 z],.str zf])) S':=fun h0 h h3 hx S' h1 h2=>by
  refine yae (j:=i) ?_ hz S' h1 h2
  unfold jl
  rw[hc,h0,h,h3,hso,hx,hz]
  rfl
 have hmore:∀ y:Int,y=jd→cmp BinOp.lss y (slen s)=decide (jd<s.length):=fun y hy=>by
  rw[G.cmp',G.slen'];simp only[vb];rw[Bool.eq_iff_iff];simp only[decide_eq_true_eq];omega
 have hmin:∀ y:Int,y=jd→jd<s.length→inb y (slen s)=true:=fun y hy h=>by rw[G.inb',G.slen'];simp;omega
 have hmL:∀ y:Int,y=jd→∀ S K,K (.ret (.bool (ve (s.getD jd 0)))) S→jb Tryz.prog (Pr.tab real) 67 [.int .u8 (byt s y)] S K:=fun y hy S K h=>by
  have:byt s y=((s.getD jd 0).toNat:Int):=by rw[G.byt',hy];rfl
  rw[this];exact zeg _ S K h
 have hnot1:not true=false:=by rw[G.not'];rfl
 have hnot0:not false=true:=by rw[G.not'];rfl
 generalize yag s i=NO at *
 generalize hlc:ve c=lc at *
 generalize hdc:jc c=dc at *
 generalize hqc:(c == 39)=qc at *
 generalize hdw:decide (32<w.length)=dw at *
 generalize hml:ve (s.getD jd 0)=ml at *
 obtain⟨mj,hmj⟩:∃ mj,decide (jd<s.length)=mj:=⟨_,rfl⟩
 rw[hmj] at eD2
 have hmore:∀ y:Int,y=jd→cmp BinOp.lss y (slen s)=mj:=fun y hy=>by rw[hmore y hy,hmj]
 have hmin:∀ y:Int,y=jd→mj=true→inb y (slen s)=true:=fun y hy h=>hmin y hy (of_decide_eq_true (hmj.trans h))
 clear hbn hcz hc hjw hjd hw hd hdrop hdne hdall hso htr hmj hdw hml hqc hdc hlc hwlen hjdb
 generalize hz1:z+1=z1 at *
 generalize hwm:w.map low=wm at *
 cbv
 refine G.n' hin ?_
 rw[hbyt]
 refine G.c' (hL _ _ ?_)
 cases lc with
 |true=>
  have eW:=eW rfl
  cbv
  refine G.c' (wW _ fun y hy=>?_)
  have eW:=eW y hy
  cbv
  refine G.c' (wLow _ _ ?_)
  cbv
  refine G.n' rfl ?_
  rw[h32]
  cases dw with
  |true=>cbv;exact eW _ (nb rfl) rfl
  |false=>cbv;exact eW _ (nb rfl) rfl
 |false=>
  cbv
  refine G.c' (hD _ _ ?_)
  cases dc with
  |true=>
   cbv
   refine G.c' (wD _ fun y hy=>?_)
   have hmore:=hmore y hy
   have hmin:=hmin y hy
   have hmL:=hmL y hy
   have eD1:=fun h=>eD1 rfl rfl h y hy
   have eD2:=fun h n hn=>eD2 rfl rfl h y n hy hn
   cbv
   refine G.c' (wP rfl _ _ (fun hn n hnn=>?_) (fun hn=>?_))
   ·have eD2:=eD2 hn n hnn
    cbv
    rw[hnot1]
    cbv
    refine G.n' rfl ?_
    rw[hmore]
    cases mj with
    |false=>cbv;exact eD2 _ (nb rfl) rfl
    |true=>
     cbv
     refine G.n' (hmin rfl) (G.c' (hmL _ _ ?_))
     cases ml with
     |true=>cbv;exact eD2 _ (nb rfl) rfl
     |false=>cbv;exact eD2 _ (nb rfl) rfl
   ·have eD1:=eD1 hn
    cbv
    rw[hnot0]
    cbv
    exact eD1 _ (nb rfl) rfl
  |false=>
   cbv
   refine G.n' rfl ?_
   rw[h39]
   cases qc with
   |true=>
    cbv
    refine G.n' rfl ?_
    rw[hone]
    refine G.c' (wT _ fun y hy=>?_)
    have eT:=eT rfl rfl rfl y hy
    cbv
    exact eT _ (nb rfl) rfl
   |false=>
    cbv
    refine G.l' ?_
    change za Tryz.prog (Pr.tab real) 120 c14 _ _ _
    refine za.relax (za.weak (env':=envS 0 zf) (.cons rfl (.cons rfl (.cons rfl (.cons rfl (.cons rfl (.nil _)))))) ?_)
    refine wS _ (fun x hx z' hz'=>?_) fun hx=>?_
    ·have eS1:=eS1 rfl rfl rfl x hx z' hz'
     cbv
     exact eS1 _ (nb rfl) rfl
    ·have eS2:=eS2 rfl rfl rfl hx
     cbv
     exact eS2 _ (nb rfl) rfl
theorem jel(s:List UInt8)(hs:s.length≤1000000)(i:Nat)(z:Int)(hz:z=i)(hi:i<s.length)(S:St)(o:Nat)(ho:o<S.next)(hrow:S.row o=[.str s,.int .i64 z])(K:Out→St→Prop)
 (hK:∀ y:Int,y=(jl s i).2.2→K (.ret (.tup [(jl s i).1.av,.str (jl s i).2.1])) (S.set o [.str s,.int .i64 y])):jb Tryz.prog (Pr.tab real) 35 [.ptr o 0] S K:=by
 have hptr:one o 0 o=some 0:=vo.2 ⟨rfl,rfl⟩
 have hsp:=xdl s hs i z hz hi
 refine xbj (K0:=yag s i) ho (by rw[hrow];simp) ?_ ?_
 ·rw[hrow]
  simp only[renL,AV.ren,hptr]
  exact hsp
 ·rintro out S' ⟨y,hy,rfl,h1,h2⟩
  refine⟨h1,?_⟩
  rw[h2]
  generalize jl s i=r at *
  obtain⟨⟨k,t,n,a⟩,st,j⟩:=r
  exact hK y hy
end Go.AM
namespace Go.AM
open Go.Proofs
theorem xbw(s:List UInt8)(n:Nat):∀ i,i≤s.length→i≤zq s n i∧zq s n i≤s.length:=by
 induction n with
 |zero=>intro i hi;exact⟨Nat.le_refl _,hi⟩
 |succ n ih=>
  intro i hi
  have h1:=xr zi s i hi
  have h2:=xr yl s (scan zi s i) h1.2
  unfold zq
  cases [45,45].isPrefixOf (s.drop (scan zi s i)) with
  |true=>have:=ih _ h2.2;simp only;omega
  |false=>exact h1
theorem zbx(q:UInt8→Bool)(s:List UInt8)(i:Nat)(hi:i<s.length)(h:q (s.getD i 0)=true):i<scan q s i:=by
 have hdrop:s.drop i=s.getD i 0::s.drop (i+1):=by
  rw[List.drop_eq_getElem_cons hi];simp[List.getD_eq_getElem?_getD,hi]
 unfold scan
 rw[hdrop,List.takeWhile_cons,h]
 simp
theorem zbh(s:List UInt8)(i:Nat)(hi:i<s.length)(h:(jl s i).2.1=jf):i<(jl s i).2.2∧(jl s i).2.2≤s.length:=by
 unfold jl at h ⊢
 cases h1:ve (s.getD i 0) with
 |true=>
  have h2:=zbx xj s i hi (by unfold xj;rw[h1];rfl)
  have h3:=xr xj s i (by omega)
  exact⟨h2,h3.2⟩
 |false=>
  rw[h1] at h
  cases h2:jc (s.getD i 0) with
  |true=>
   rw[h2] at h
   have h3:=zbx jc s i hi h2
   have h4:=xr jc s i (by omega)
   simp only
   unfold numR
   cases decide (xf 0 ((s.drop i).takeWhile jc)<9223372036854775808)<;>exact⟨h3,h4.2⟩
  |false=>
   rw[h2] at h
   cases h3:(s.getD i 0 == 39) with
   |true=>
    rw[h3] at h
    simp only at h ⊢
    unfold qax at h ⊢
    cases ht:txtN s (s.length+1) (i+1) [] true with
    |none=>rw[ht] at h;simp[zf,jf] at h
    |some r=>
     obtain⟨b,ok,j⟩:=r
     have:=jdy s _ (i+1) [] true b ok j (by omega) (by simp) ht
     simp only
     omega
   |false=>
    rw[h3] at h
    simp only at h ⊢
    cases ho:js s i Pr.signs with
    |none=>rw[ho] at h;simp[ydg,zf,jf] at h
    |some x=>
     have hm:=List.mem_of_find?_eq_some ho
     have hp:=List.find?_some ho
     have hpos:∀ y ∈ Pr.signs,1≤y.length:=by decide
     have h1:=hpos x hm
     have hpre:x <+: s.drop i:=List.isPrefixOf_iff_prefix.1 hp
     have hl:=hpre.length_le
     simp at hl
     simp only[ydg]
     omega
theorem vd1(S:St)(o:Nat)(r:List AV)(h:S.row o≠[]):(S.set o r).row o=r:=by
 have:=yak S.objs o r o h
 rw[if_pos rfl] at this
 exact this
end Go.AM
namespace Go.AM
open Go.Proofs
theorem Pl.fn19:FnOk Tryz.prog 19 (fni Tryz.f19 Pr.a19):=⟨⟨Tryz.f19,Tryz.func19,rfl,rfl,rfl,by kernel_rfl⟩,by kernel_rfl⟩
noncomputable def c7:Code:=(fni Tryz.f19 Pr.a19).loop 0
theorem Pl.c7:qf 43 Pr.a19 c7=true:=by kernel_rfl
theorem step7(K:Ex→Env→St→Prop)(env:Env)(S:St)(h:xg (pAlg Tryz.prog (Pr.tab real) 43) (Pr.tab real) Pr.a19 0 c7 (andThen (za Tryz.prog (Pr.tab real) 43 c7 K) K) env S):za Tryz.prog (Pr.tab real) 43 c7 K env S:=
 vc Pr.tabOk Pr.mixed Pl.c7 h
theorem za.ext{P:Program}{T:Tab}{N:Nat}{c:Code}{K:Ex→Env→St→Prop}{env:Env}{S S':St}(hr:∀ o,S'.row o=S.row o)(hn:S'.next=S.next)(hc:S'.caps=S.caps)(h:za P T N c K env S'):za P T N c K env S:=by
 intro C hC g a w hI
 refine h C hC g a w ⟨hI.tmp,hI.size,hI.defers,⟨fun o b e=>?_,hI.rel.inj,fun o b e=>by rw[hn];exact hI.rel.dom o b e,hI.rel.apart,hI.rel.live,fun k tk e=>by rw[hc];exact hI.rel.tok k tk e,hI.rel.tinj⟩,hI.ext,hI.ob,hI.tb,hI.glob,hI.nm,by rw[hn];exact hI.next⟩
 rw[hr]
 exact hI.rel.obj o b e
theorem qi(S:St)(o p:Nat):({ objs:=(o,S.row o)::S.objs,next:=S.next,caps:=S.caps }:St).row p=S.row p:=by
 show vaq ((o,S.row o)::S.objs) p=S.row p
 simp only[vaq]
 cases hb:Nat.beq o p with
 |false=>rfl
 |true=>rw[Nat.eq_of_beq_eq_true hb]
def yai(s:List UInt8):Nat→Nat→List Tk→List Tk ⊕ List UInt8
 | 0,_,_=> .inr []
 |n+1,p,acc=>match decide (p<s.length) with
  |false=> .inl acc
  |true=>match (jl s p).2.1 == jf with
   |false=> .inr (jl s p).2.1
   |true=>match decide (acc.length=600) with
    |true=> .inr zap
    |false=>yai s n (zq s (s.length+1) (jl s p).2.2) (acc++[(jl s p).1])
def accV:List Tk→AV
 | []=> .slice 0 [] .exact
 |x::r=> .slice 41 ((x::r).map Tk.av) (.own 0)
def xat:List Tk→List Int
 | []=>[]
 |x::r=>[((x::r).length:Int)]
theorem vdh(s:List UInt8)(hs:s.length≤2000)(K:Ex→Env→St→Prop)(n:Nat) :
 ∀(p:Nat) (z:Int) (acc:List Tk) (S:St),z=p→p≤s.length→s.length-p<n→acc.length≤600→S.row 0=[.str s,.int .i64 z]→1≤S.next→S.caps=xat acc →
  (∀ acc' S',yai s n p acc= .inl acc'→K (.exit 0) [(5,accV acc')] S') →
  (∀ st S',yai s n p acc= .inr st→K .ret [(2,.slice 0 [] .exact),(3,.str st)] S') →
  za Tryz.prog (Pr.tab real) 43 c7 (Less K) [(0,.str s),(4,.ptr 0 0),(5,accV acc)] S:=by
 induction n with
 |zero=>intro p z acc S hz hp hn;omega
 |succ n ih=>
  intro p z acc S hz hp hn hacc hrow hnext hcaps hK1 hK2
  unfold yai at hK1 hK2
  have hn0:Nat.beq S.next 0=false:=by
   cases hq:Nat.beq S.next 0 with
   |false=>rfl
   |true=>have:=Nat.eq_of_beq_eq_true hq;omega
  obtain⟨tk,htk⟩:∃ tk,(jl s p).1=tk:=⟨_,rfl⟩
  obtain⟨st,hst⟩:∃ st,(jl s p).2.1=st:=⟨_,rfl⟩
  obtain⟨j,hj⟩:∃ j,(jl s p).2.2=j:=⟨_,rfl⟩
  rw[htk,hst,hj] at hK1 hK2
  have hle:p<s.length→st=jf→p<j∧j≤s.length:=fun h1 h2=>by
   have:=zbh s p h1 (hst.trans h2)
   rw[hj] at this;exact this
  have hround:∀(S':St) (y:Int),(decide (p<s.length))=true→(st == jf)=true→decide (acc.length=600)=false→y=zq s (s.length+1) j→S'.row 0=[.str s,.int .i64 y]→1≤S'.next→S'.caps=xat (acc++[tk]) →
   za Tryz.prog (Pr.tab real) 43 c7 (Less K) [(0,.str s),(4,.ptr 0 0),(5,accV (acc++[tk]))] S':=by
   intro S' y h1 h2 h3 hy hr hnx hc
   have h1':=of_decide_eq_true h1
   have h2':st=jf:=by simpa using h2
   have h3':=of_decide_eq_false h3
   have hjl:=hle h1' h2'
   have hsk:=xbw s (s.length+1) j hjl.2
   refine ih (zq s (s.length+1) j) y _ S' hy hsk.2 (by omega) (by simp;omega) hr hnx hc (fun acc' S'' h=>hK1 acc' S'' ?_) (fun st' S'' h=>hK2 st' S'' ?_)
   ·rw[h1,h2,h3];exact h
   ·rw[h1,h2,h3];exact h
  have hend:decide (p<s.length)=false→∀ S',K (.exit 0) [(5,accV acc)] S':=fun h S'=>hK1 acc S' (by rw[h])
  have herr:decide (p<s.length)=true→(st == jf)=false→∀ S',K .ret [(2,.slice 0 [] .exact),(3,.str st)] S':=fun h1 h2 S'=>hK2 st S' (by rw[h1,h2])
  have hbig:decide (p<s.length)=true→(st == jf)=true→decide (acc.length=600)=true→∀ S',K .ret [(2,.slice 0 [] .exact),(3,.str zap)] S':=fun h1 h2 h3 S'=>hK2 zap S' (by rw[h1,h2,h3])
  clear ih hK1 hK2
  refine za.ext (qi S 0) rfl rfl ?_
  rw[hrow]
  obtain⟨O,nx,caps⟩:=S
  obtain⟨m,rfl⟩:∃ m,nx=m+1:=⟨nx-1,by have:1≤nx:=hnext;omega⟩
  have hcaps:caps=xat acc:=hcaps
  have wN:p<s.length→∀ K':Out→St→Prop,(∀(y:Int),y=j→K' (.ret (.tup [tk.av,.str st])) ⟨(0,[.str s,.int .i64 y])::O,m+1,caps⟩) →
   jb Tryz.prog (Pr.tab real) 35 [.ptr 0 0] ⟨(0,[.str s,.int .i64 z])::O,m+1,caps⟩ K':=fun hlt K' h=>by
   refine jel s (by omega) p z hz hlt _ 0 (Nat.succ_pos m) rfl K' fun y hy=>?_
   rw[htk,hst]
   rw[hj] at hy
   exact h y hy
  have wK:p<s.length→st=jf→∀(O2:List (Nat × List AV)) (m2:Nat) (caps2:List Int) (y:Int),y=j→vaq O2 0=[.str s,.int .i64 y]→∀ K':Out→St→Prop,(∀(y2:Int) (S':St),y2=zq s (s.length+1) j→S'.row 0=[.str s,.int .i64 y2]→S'.next=m2+1→S'.caps=caps2→K' (.ret (.tup [])) S') →
   jb Tryz.prog (Pr.tab real) 34 [.ptr 0 0] ⟨O2,m2+1,caps2⟩ K':=fun hlt hsd O2 m2 caps2 y hy hr K' h=>by
   refine vdf s (by omega) j y hy (hle hlt hsd).2 ⟨O2,m2+1,caps2⟩ 0 (Nat.succ_pos m2) hr K' fun y2 hy2=>?_
   refine h y2 _ hy2 (vd1 _ 0 _ ?_) rfl rfl
   have:(⟨O2,m2+1,caps2⟩:St).row 0=vaq O2 0:=rfl
   rw[this,hr];simp
  clear hrow hnext
  apply step7
  apply xb (mk:=Pr.tab)
  intro _ _ _ _ _ len slen _ _ cmp _ eqS _ _ app _ _ _ _ _ _ _ _ _ room not _ _ _ G
  have hlss:cmp BinOp.lss z (slen s)=decide (p<s.length):=by
   rw[G.cmp',G.slen'];simp only[vb];rw[Bool.eq_iff_iff];simp only[decide_eq_true_eq];omega
  have hne:not (eqS st [48,48,48,48,48])= !(st == jf):=by rw[G.not',G.eqS'];rfl
  have hlen:cmp BinOp.eql (len (acc.map Tk.av)) 600=decide (acc.length=600):=by
   rw[G.cmp',G.len'];simp only[vb];rw[Bool.eq_iff_iff];simp only[beq_iff_eq,decide_eq_true_eq,List.length_map];omega
  have happ:app (acc.map Tk.av) [tk.av]=(acc++[tk]).map Tk.av:=by rw[G.app'];simp
  have hroom:room (len ((acc++[tk]).map Tk.av)) 40=true:=by rw[G.room',G.len'];simp;omega
  have hlen2:len ((acc++[tk]).map Tk.av)=((acc++[tk]).length:Int):=by rw[G.len'];simp
  have hsd:(st == jf)=true→st=jf:=fun h=>by simpa using h
  generalize hL:za Tryz.prog (Pr.tab real) 43 c7 (Less K)=L at hround ⊢
  generalize hK':Less K=K' at hL ⊢
  have hvapp:accV (acc++[tk])= .slice 41 ((acc++[tk]).map Tk.av) (.own 0)∧xat (acc++[tk])=[((acc++[tk]).length:Int)]:=by
   cases acc<;>exact⟨rfl,rfl⟩
  have hcase:(accV acc= .slice 0 [] .exact∧caps=[]∧acc.map Tk.av=[])∨(accV acc= .slice 41 (acc.map Tk.av) (.own 0)∧caps=[(acc.length:Int)]):=by
   rw[hcaps]
   cases acc with
   |nil=>exact .inl ⟨rfl,rfl,rfl⟩
   |cons=>exact .inr ⟨rfl,rfl⟩
  have hown:cmp BinOp.eql (acc.length:Int) (len (acc.map Tk.av))=true:=by rw[G.cmp',G.len'];simp[vb]
  rw[hvapp.1,hvapp.2] at hround
  clear hvapp hcaps
  generalize hav:accV acc=av at *
  clear hav
  generalize ((acc++[tk]).length:Int)=n2 at *
  generalize (acc++[tk]).map Tk.av=cs2 at *
  generalize hn1:(acc.length:Int)=n1 at *
  generalize acc.map Tk.av=cs at *
  obtain⟨tkav,htkav⟩:∃ v,tk.av=v:=⟨_,rfl⟩
  have hlt:decide (p<s.length)=true→p<s.length:=of_decide_eq_true
  have hnn:Nat.beq m m=true:=Nat.beq_refl m
  have hbb:Nat.ble m m=true:=Nat.ble_eq_true_of_le (Nat.le_refl m)
  generalize hdp:decide (p<s.length)=dp at *
  generalize hds:(st == jf)=ds at *
  generalize hda:decide (acc.length=600)=da at *
  clear htk hst hj hle hdp hds hda hn1
  cbv at hnn hbb
  cbv
  refine G.n' rfl ?_
  rw[hlss]
  cases dp with
  |false=>
   have hend:=hend rfl
   cbv
   rw[← hK']
   exact⟨[(5,av)],.cons rfl (.nil _),hend _⟩
  |true=>
   have hround:=fun S' y=>hround S' y rfl
   have herr:=herr rfl
   have hbig:=hbig rfl
   have hlt:=hlt rfl
   cbv
   refine G.c' (wN hlt _ fun y hy=>?_)
   obtain⟨tkk,tkt,tkn,tka⟩:=tk
   have htkav':tkav= .agg [.int .i64 tkk,.str tkt,.int .i64 tkn,.int .i64 tka]:=htkav.symm
   clear htkav
   rw[show (Tk.av ⟨tkk,tkt,tkn,tka⟩)= .agg [.int .i64 tkk,.str tkt,.int .i64 tkn,.int .i64 tka] from rfl] at happ
   cbv
   rw[hnn]
   cbv
   rw[hne]
   cases ds with
   |false=>
    have herr:=herr rfl
    cbv
    rw[← hK']
    exact⟨[(2,.slice 0 [] .exact),(3,.str st)],.cons rfl (.cons rfl (.nil _)),herr _⟩
   |true=>
    have hround:=fun S' y=>hround S' y rfl
    have hbig:=hbig rfl
    have wK:=wK hlt (hsd rfl)
    rcases hcase with ⟨rfl,rfl,rfl⟩|⟨rfl,rfl⟩
    ·cbv
     refine G.n' rfl ?_
     rw[hlen]
     cases da with
     |true=>
      have hbig:=hbig rfl
      cbv
      rw[← hK']
      exact⟨[(2,.slice 0 [] .exact),(3,.str [53,52,48,48,48])],.cons rfl (.cons rfl (.nil _)),hbig _⟩
     |false=>
      have hround:=fun S' y=>hround S' y rfl
      cbv
      iterate 4 (first|(rw[hbb];cbv)|(rw[hnn];cbv)|skip)
      rw[happ]
      refine G.n' rfl (G.n' hroom ?_)
      rw[hlen2]
      refine G.c' (wK _ _ _ y hy rfl _ fun y2 S' hy2 hr2 hnx2 hc2=>?_)
      have hgo:=hround S' y2 hy2 hr2 (by rw[hnx2];exact Nat.succ_pos _) hc2
      cbv
      rw[← hL] at hgo ⊢
      exact za.weak (env':=[(0,.str s),(4,.ptr 0 0),(5,.slice 41 cs2 (.own 0))]) (.cons rfl (.cons rfl (.cons rfl (.nil _)))) hgo
    ·cbv
     refine G.n' rfl ?_
     rw[hlen]
     cases da with
     |true=>
      have hbig:=hbig rfl
      cbv
      rw[← hK']
      exact⟨[(2,.slice 0 [] .exact),(3,.str [53,52,48,48,48])],.cons rfl (.cons rfl (.nil _)),hbig _⟩
     |false=>
      have hround:=fun S' y=>hround S' y rfl
      cbv
      iterate 4 (first|(rw[hbb];cbv)|(rw[hnn];cbv)|skip)
      rw[happ]
      refine G.n' rfl (G.n' hroom (G.n' hown ?_))
      rw[hlen2]
      refine G.c' (wK _ _ _ y hy rfl _ fun y2 S' hy2 hr2 hnx2 hc2=>?_)
      have hgo:=hround S' y2 hy2 hr2 (by rw[hnx2];exact Nat.succ_pos _) hc2
      cbv
      rw[← hL] at hgo ⊢
      exact za.weak (env':=[(0,.str s),(4,.ptr 0 0),(5,.slice 41 cs2 (.own 0))]) (.cons rfl (.cons rfl (.cons rfl (.nil _)))) hgo
end Go.AM
namespace Go.AM
open Go.Proofs
def ze(s:List UInt8):List Tk × List UInt8:=match decide (2000<s.length) with
 |true=>([],zap)
 |false=>match yai s (s.length+1) (zq s (s.length+1) 0) [] with
  |.inl l=>(l,jf)
  |.inr st=>([],st)
def tokV:List Tk→AV
 | []=> .slice 0 [] .exact
 |x::r=> .slice 41 ((x::r).map Tk.av) .no
theorem xdh(s:List UInt8)(S:St)(K:Out→St→Prop)(hK:K (.ret (.tup [tokV (ze s).1,.str (ze s).2])) S):jb Tryz.prog (Pr.tab real) 19 [.str s] S K:=by
 refine jb.lift (K0:=fun o _=>o= .ret (.tup [accV (ze s).1,.str (ze s).2])) rfl ?_ (by
  rintro o S0 rfl
  generalize ze s=r at *
  obtain⟨l,st⟩:=r
  cases l<;>exact hK)
 apply ja (un:=0) Pr.tabOk Pr.mixed Pl.fn19 (nb rfl)
 apply qb (mk:=Pr.tab)
 intro _ _ _ _ _ _ slen _ _ cmp _ _ _ _ _ _ _ _ _ _ _ _ _ _ _ _ _ _ _ G
 have hgt:cmp BinOp.gtr (slen s) 2000=decide (2000<s.length):=by
  rw[G.cmp',G.slen'];simp only[vb];rw[Bool.eq_iff_iff];simp only[decide_eq_true_eq];omega
 have hbig:decide (2000<s.length)=true→∀ S:St,(fun(o:Out) (_:St)=>o= .ret (.tup [accV (ze s).1,.str (ze s).2])) (.ret (.tup [.slice 0 [] .exact,.str zap])) S:=fun h S=>by
  show _=_
  unfold ze
  rw[h];rfl
 have hskip:decide (2000<s.length)=false→∀ K:Out→St→Prop,(∀ y:Int,y=zq s (s.length+1) 0→K (.ret (.tup [])) ⟨[(0,[.str s,.int .i64 y])],1,[]⟩)→jb Tryz.prog (Pr.tab real) 34 [.ptr 0 0] ⟨[(0,[.str s,.int .i64 0])],1,[]⟩ K:=fun h K hk=>by
  have h':=of_decide_eq_false h
  exact vdf s (by omega) 0 0 rfl (by omega) ⟨[(0,[.str s,.int .i64 0])],1,[]⟩ 0 Nat.one_pos rfl K hk
 have hloop:decide (2000<s.length)=false→∀(y:Int),y=zq s (s.length+1) 0→∀ K:Ex→Env→St→Prop,(∀ acc' S',yai s (s.length+1) (zq s (s.length+1) 0) []= .inl acc'→K (.exit 0) [(5,accV acc')] S') →
  (∀ st S',yai s (s.length+1) (zq s (s.length+1) 0) []= .inr st→K .ret [(2,.slice 0 [] .exact),(3,.str st)] S')→za Tryz.prog (Pr.tab real) 43 c7 (Less K) [(0,.str s),(4,.ptr 0 0),(5,accV [])] ⟨[(0,[.str s,.int .i64 y])],1,[]⟩:=fun h y hy K h1 h2=>by
  have h':=of_decide_eq_false h
  have hb:=xbw s (s.length+1) 0 (by omega)
  exact vdh s (by omega) K (s.length+1) (zq s (s.length+1) 0) y [] _ hy hb.2 (by omega) (by simp) rfl (Nat.le_refl _) rfl h1 h2
 have hl:decide (2000<s.length)=false→∀ l,yai s (s.length+1) (zq s (s.length+1) 0) []= .inl l→∀ S:St,(fun(o:Out) (_:St)=>o= .ret (.tup [accV (ze s).1,.str (ze s).2])) (.ret (.tup [accV l,.str jf])) S:=fun h l hl S=>by
  show _=_
  unfold ze
  rw[h,hl]
 have hr:decide (2000<s.length)=false→∀ st,yai s (s.length+1) (zq s (s.length+1) 0) []= .inr st→∀ S:St,(fun(o:Out) (_:St)=>o= .ret (.tup [accV (ze s).1,.str (ze s).2])) (.ret (.tup [.slice 0 [] .exact,.str st])) S:=fun h st hl S=>by
  show _=_
  unfold ze
  rw[h,hl]
  rfl
 generalize (fun(o:Out) (_:St)=>o= .ret (.tup [accV (ze s).1,.str (ze s).2]))=K0 at *
 generalize yai s (s.length+1) (zq s (s.length+1) 0) []=sc at *
 generalize zq s (s.length+1) 0=sk at *
 generalize decide (2000<s.length)=db at *
 cbv
 refine G.n' rfl ?_
 rw[hgt]
 cases db with
 |true=>
  have hbig:=hbig rfl
  cbv
  exact hbig _
 |false=>
  have hskip:=hskip rfl
  have hloop:=hloop rfl
  have hl:=hl rfl
  have hr:=hr rfl
  cbv
  refine G.c' (hskip _ fun y hy=>?_)
  cbv
  refine G.l' ?_
  change za Tryz.prog (Pr.tab real) 43 c7 _ _ _
  refine za.relax (za.weak (env':=[(0,.str s),(4,.ptr 0 0),(5,accV [])]) (.cons rfl (.cons rfl (.cons rfl (.nil _)))) ?_)
  refine hloop y hy _ (fun l S' h=>?_) fun st S' h=>?_
  ·have hl:=hl l h
   generalize accV l=v at *
   cbv
   exact hl _
  ·have hr:=hr st h
   cbv
   exact hr _
end Go.AM
