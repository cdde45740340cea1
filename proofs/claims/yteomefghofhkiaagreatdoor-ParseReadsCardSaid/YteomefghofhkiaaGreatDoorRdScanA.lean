/- The program's scanner, first part. -/
import Derived.Test.YteomefghofhkiaaGreatDoorRdTab
import Derived.Lib.Builder
import Derived.Lib.Walk
import Derived.Lib.UnsafeStr
import Derived.Shelf.Strings.Builder1
set_option maxRecDepth 100000
set_option linter.unusedVariables false
set_option maxHeartbeats 2000000
namespace Go.AM
open Go.Proofs
noncomputable def Pl.fns:FuncId→Option FnI
 | 67=>some (fni Tryz.f67 Pr.a67)
 | 70=>some (fni Tryz.f70 Pr.a70)
 | 26=>some (fni Tryz.f26 Pr.a26)
 | 27=>some (fni Tryz.f27 Pr.a27)
 |_=>none
theorem Pl.fn67:FnOk Tryz.prog 67 (fni Tryz.f67 Pr.a67):=⟨⟨Tryz.f67,Tryz.func67,rfl,rfl,rfl,by kernel_rfl⟩,by kernel_rfl⟩
theorem Pl.fn70:FnOk Tryz.prog 70 (fni Tryz.f70 Pr.a70):=⟨⟨Tryz.f70,Tryz.func70,rfl,rfl,rfl,by kernel_rfl⟩,by kernel_rfl⟩
theorem Pl.fn26:FnOk Tryz.prog 26 (fni Tryz.f26 Pr.a26):=⟨⟨Tryz.f26,Tryz.func26,rfl,rfl,rfl,by kernel_rfl⟩,by kernel_rfl⟩
theorem Pl.fn27:FnOk Tryz.prog 27 (fni Tryz.f27 Pr.a27):=⟨⟨Tryz.f27,Tryz.func27,rfl,rfl,rfl,by kernel_rfl⟩,by kernel_rfl⟩
theorem Pl.fn66:FnOk Tryz.prog 66 (fni Tryz.f66 Pr.a66):=⟨⟨Tryz.f66,Tryz.func66,rfl,rfl,rfl,by kernel_rfl⟩,by kernel_rfl⟩
theorem Pl.fn69:FnOk Tryz.prog 69 (fni Tryz.f69 Pr.a69):=⟨⟨Tryz.f69,Tryz.func69,rfl,rfl,rfl,by kernel_rfl⟩,by kernel_rfl⟩
theorem Pl.fn101:FnOk Tryz.prog 101 (fni Tryz.f101 Pr.a101):=⟨⟨Tryz.f101,Tryz.func101,rfl,rfl,rfl,by kernel_rfl⟩,by kernel_rfl⟩
theorem Pl.fnsOk:∀ f fi,Pl.fns f=some fi→FnOk Tryz.prog f fi:=by
 intro f fi h
 unfold Pl.fns at h
 split at h
 ·cases h;exact Pl.fn67
 ·cases h;exact Pl.fn70
 ·cases h;exact Pl.fn26
 ·cases h;exact Pl.fn27
 ·cases h
def ve(b:UInt8):Bool:=(97≤b && b≤122) || (65≤b && b≤90) || b == 95
theorem run28:yas (Pr.tab real) Pl.fns (fni Tryz.f66 Pr.a66) (fun b=>b != 10)=true:=by kernel_rfl
theorem run29:yas (Pr.tab real) Pl.fns (fni Tryz.f67 Pr.a67) ve=true:=by kernel_rfl
theorem run32:yas (Pr.tab real) Pl.fns (fni Tryz.f70 Pr.a70) jc=true:=by kernel_rfl
theorem run16:yas (Pr.tab real) Pl.fns (fni Tryz.f26 Pr.a26) ve=true:=by kernel_rfl
theorem run17:yas (Pr.tab real) Pl.fns (fni Tryz.f27 Pr.a27) jc=true:=by kernel_rfl
theorem run31:yas (Pr.tab real) Pl.fns (fni Tryz.f69 Pr.a69) (fun b=>ve b || jc b)=true:=by kernel_rfl
theorem run41:yas (Pr.tab real) Pl.fns (fni Tryz.f101 Pr.a101) (fun b=>b != 39)=true:=by kernel_rfl
theorem qex:Asks Tryz.prog (Pr.tab real) 66 (fun b=>b != 10):=vv Pr.tabOk Pr.mixed Pl.fnsOk Pl.fn66 (by decide) run28
theorem zeg:Asks Tryz.prog (Pr.tab real) 67 ve:=vv Pr.tabOk Pr.mixed Pl.fnsOk Pl.fn67 (by decide) run29
theorem qeg:Asks Tryz.prog (Pr.tab real) 70 jc:=vv Pr.tabOk Pr.mixed Pl.fnsOk Pl.fn70 (by decide) run32
theorem ydw:Asks Tryz.prog (Pr.tab real) 26 ve:=vv Pr.tabOk Pr.mixed Pl.fnsOk Pl.fn26 (by decide) run16
theorem vdw:Asks Tryz.prog (Pr.tab real) 27 jc:=vv Pr.tabOk Pr.mixed Pl.fnsOk Pl.fn27 (by decide) run17
theorem yew:Asks Tryz.prog (Pr.tab real) 69 (fun b=>ve b || jc b):=vv Pr.tabOk Pr.mixed Pl.fnsOk Pl.fn69 (by decide) run31
theorem vew:Asks Tryz.prog (Pr.tab real) 101 (fun b=>b != 39):=vv Pr.tabOk Pr.mixed Pl.fnsOk Pl.fn101 (by decide) run41
theorem Pl.fn62:FnOk Tryz.prog 62 (fni Tryz.f62 Pr.a62):=⟨⟨Tryz.f62,Tryz.func62,rfl,rfl,rfl,by kernel_rfl⟩,by kernel_rfl⟩
noncomputable def c24:Code:=(fni Tryz.f62 Pr.a62).loop 0
theorem Pl.c24:qf 50 Pr.a62 c24=true:=by kernel_rfl
end Go.AM
namespace Go.AM
open Go.Proofs
def S1(s:List UInt8)(i:Int):St:=⟨[(0,[.str s,.int .i64 i])],1,[]⟩
theorem xec(K:Ex→Env→St→Prop)(env:Env)(S:St)(h:xg (pAlg Tryz.prog (Pr.tab real) 50) (Pr.tab real) Pr.a62 0 c24 (andThen (za Tryz.prog (Pr.tab real) 50 c24 K) K) env S):za Tryz.prog (Pr.tab real) 50 c24 K env S:=
 vc Pr.tabOk Pr.mixed Pl.c24 h
def scan(q:UInt8→Bool)(s:List UInt8)(i:Nat):Nat:=i+((s.drop i).takeWhile q).length
def envW(fid:FuncId)(j:Int):Env:=[(0,.ptr 0 0),(1,.func fid [] []),(5,.int .i64 j)]
theorem wrap_i64(n:Int)(h1: -9223372036854775808≤n)(h2:n<9223372036854775808):IntKind.i64.wrap n=n:=by
 rw[IntKind.wrap_i64];omega
theorem ycy(fid:FuncId)(q:UInt8→Bool)(hq:Asks Tryz.prog (Pr.tab real) fid q)(s:List UInt8)(hs:s.length≤1000000000000)(j:Int)(K:Ex→Env→St→Prop)(n:Nat) :
 ∀(i:Nat) (z:Int),z=i→i+n=s.length→(∀ y:Int,y=scan q s i→K (.exit 0) (envW fid j) (S1 s y))→za Tryz.prog (Pr.tab real) 50 c24 (Less K) (envW fid j) (S1 s z):=by
 induction n with
 |zero=>
  intro i z hz hi hK
  apply xec
  apply xb (mk:=Pr.tab)
  intro fail need same call loop len slen arith shift cmp conv eqS ltS cat app elt byt subS subL strOf isB fit inb cut room not and eqB avs G
  have hb:cmp BinOp.lss z (slen s)=false:=by
   rw[G.cmp',G.slen',hz];simp[vb];omega
  generalize za Tryz.prog (Pr.tab real) 50 c24 (Less K)=L at *
  generalize hK':Less K=K' at *
  cbv
  refine G.n' rfl ?_
  rw[hb]
  cbv
  rw[← hK']
  refine⟨envW fid j,?_,?_⟩
  ·exact .cons rfl (.cons rfl (.cons rfl (.nil _)))
  ·have:scan q s i=i:=by simp[scan,List.drop_eq_nil_of_le (show s.length≤i by omega)]
   exact hK z (by rw[this];exact hz)
 |succ n ih=>
  intro i z hz hi hK
  apply xec
  apply xb (mk:=Pr.tab)
  intro _ _ _ _ _ _ slen arith _ cmp _ _ _ _ _ _ byt _ _ _ _ _ inb _ _ _ _ _ _ G
  have hb:cmp BinOp.lss z (slen s)=true:=by
   rw[G.cmp',G.slen',hz];simp[vb];omega
  have hin:inb z (slen s)=true:=by
   rw[G.inb',G.slen',hz];simp;omega
  have hlt:i<s.length:=by omega
  have hbyt:byt s z=(s[i].toNat:Int):=by
   rw[G.byt',hz];simp[List.getD_eq_getElem?_getD,hlt]
  have hnext:arith BinOp.add IntKind.i64 z 1=((i+1:Nat):Int):=by
   rw[G.arith']
   rw[hz]
   exact wrap_i64 _ (by omega) (by omega)
  generalize hL:za Tryz.prog (Pr.tab real) 50 c24 (Less K)=L at *
  generalize hK':Less K=K' at *
  cbv
  refine G.n' rfl ?_
  rw[hb]
  cbv
  refine G.n' hin (G.c' ?_)
  rw[hbyt]
  refine hq s[i] _ _ ?_
  have hdrop:s.drop i=s[i]::s.drop (i+1):=List.drop_eq_getElem_cons hlt
  cases hqv:q s[i] with
  |false=>
   cbv
   rw[← hK']
   refine⟨envW fid j,?_,?_⟩
   ·exact .cons rfl (.cons rfl (.cons rfl (.nil _)))
   ·have:scan q s i=i:=by unfold scan;rw[hdrop,List.takeWhile_cons,hqv];simp
    exact hK z (by rw[this];exact hz)
  |true=>
   cbv
   refine G.n' rfl ?_
   rw[hnext,← hL]
   have hsc:scan q s (i+1)=scan q s i:=by
    unfold scan;rw[hdrop,List.takeWhile_cons,hqv];simp;omega
   have:=ih (i+1) ((i+1:Nat):Int) rfl (by omega) (fun y hy=>hK y (by rw[hy,hsc]))
   rw[← hL] at this
   exact za.weak (.cons rfl (.cons rfl (.cons rfl (.nil _)))) this
theorem ja4(fid:FuncId)(q:UInt8→Bool)(hq:Asks Tryz.prog (Pr.tab real) fid q)(s:List UInt8)(hs:s.length≤1000000000000)(i:Nat)(z:Int)(hz:z=i)(hi:i≤s.length)(K:Out→St→Prop)
 (hK:∀ y:Int,y=scan q s i→K (.ret (.str ((s.drop i).takeWhile q))) (S1 s y)):jb Tryz.prog (Pr.tab real) 62 [.ptr 0 0,.func fid [] []] (S1 s z) K:=by
 apply ja (un:=0) Pr.tabOk Pr.mixed Pl.fn62 (nb rfl)
 apply qb (mk:=Pr.tab)
 intro _ _ _ _ _ _ slen _ _ _ _ _ _ _ _ _ _ subS _ _ _ _ _ cut _ _ _ _ _ G
 have hsl:∀ y:Int,y=scan q s i→subS s z y=(s.drop i).takeWhile q:=by
  intro y hy
  rw[G.subS',hy,hz]
  unfold scan
  simp only[Int.toNat_natCast]
  rw[show ((i+((s.drop i).takeWhile q).length:Nat):Int)-(i:Int)=(((s.drop i).takeWhile q).length:Int) by omega,Int.toNat_natCast]
  exact(List.prefix_iff_eq_take.1 (List.takeWhile_prefix q)).symm
 have hcut:∀ y:Int,y=scan q s i→cut z y (slen s)=true:=by
  intro y hy
  rw[G.cut',G.slen',hy,hz]
  have:((s.drop i).takeWhile q).length≤(s.drop i).length:=(List.takeWhile_prefix q).length_le
  simp[scan] at this ⊢
  omega
 cbv
 refine G.l' ?_
 change za Tryz.prog (Pr.tab real) 50 c24 _ _ _
 refine za.relax (za.weak (env':=envW fid z) (.cons rfl (.cons rfl (.cons rfl (.nil _)))) ?_)
 refine ycy fid q hq s hs z _ (s.length-i) i z hz (by omega) ?_
 intro y hy
 have h1:=hsl y hy
 have h2:=hcut y hy
 have h3:=hK y hy
 cbv
 refine G.n' h2 ?_
 rw[h1]
 exact h3
theorem zbv(fid:FuncId)(q:UInt8→Bool)(hq:Asks Tryz.prog (Pr.tab real) fid q)(s:List UInt8)(hs:s.length≤1000000000000)(i:Nat)(z:Int)(hz:z=i)(hi:i≤s.length)(S:St)(o:Nat)(ho:o<S.next)
 (hrow:S.row o=[.str s,.int .i64 z]) (K:Out→St→Prop) (hK:∀ y:Int,y=scan q s i→K (.ret (.str ((s.drop i).takeWhile q))) (S.set o [.str s,.int .i64 y])) :
 jb Tryz.prog (Pr.tab real) 62 [.ptr o 0,.func fid [] []] S K:=by
 have hptr:one o 0 o=some 0:=vo.2 ⟨rfl,rfl⟩
 refine xbj (K0:=fun out S'=>∃ y:Int,y=scan q s i∧out= .ret (.str ((s.drop i).takeWhile q))∧S'=S1 s y) ho (by rw[hrow];simp) ?_ ?_
 ·rw[hrow]
  simp only[renL,AV.ren,hptr]
  exact ja4 fid q hq s hs i z hz hi _ fun y hy=>⟨y,hy,rfl,rfl⟩
 ·rintro out S' ⟨y,hy,rfl,rfl⟩
  exact⟨Nat.le_refl _,hK y hy⟩
end Go.AM
namespace Go.AM
open Go.Proofs
theorem qbo(s:List UInt8)(b:UInt8)(S:St)(K:Out→St→Prop)(hK:K (.ret (.int .i64 (Lib.indexByte s b))) S):jb Tryz.prog (Pr.tab real) 64 [.str s,.int .u8 b.toNat] S K:=by
 refine zam (v:= .int .i64 (Lib.indexByte s b)) hK fun g w vs r ha=> .inl ⟨Pr.enters64,?_⟩
 obtain⟨x,y,rfl,hx,hy⟩:=jeo ha
 cases hx
 cases hy
 refine Calls.mono (Tryz.strings_IndexByte _ _ _) ?_
 rintro e w' ⟨rfl,rfl⟩
 refine⟨_,g,rfl,.refl _ _,?_⟩
 have:((b.toNat:Int).toNat).toUInt8=b:=by simp
 rw[this]
 exact .int ..
def zi(b:UInt8):Bool:=b == 9 || b == 10 || b == 13 || b == 32
theorem yd9(b:UInt8):decide (Lib.indexByte [9,10,13,32] b ≥ 0)=zi b:=by
 unfold zi
 simp only[Lib.indexByte]
 by_cases h1:b=9
 ·subst h1;decide
 ·by_cases h2:b=10
  ·subst h2;decide
  ·by_cases h3:b=13
   ·subst h3;decide
   ·by_cases h4:b=32
    ·subst h4;decide
    ·have e1:(9 == b)=false:=by simpa using Ne.symm h1
     have e2:(10 == b)=false:=by simpa using Ne.symm h2
     have e3:(13 == b)=false:=by simpa using Ne.symm h3
     have e4:(32 == b)=false:=by simpa using Ne.symm h4
     simp[e1,e2,e3,e4,h1,h2,h3,h4]
theorem Pl.fn63:FnOk Tryz.prog 63 (fni Tryz.f63 Pr.a63):=⟨⟨Tryz.f63,Tryz.func63,rfl,rfl,rfl,by kernel_rfl⟩,by kernel_rfl⟩
theorem zex:Asks Tryz.prog (Pr.tab real) 63 zi:=by
 intro b S K hK
 refine jb.lift (K0:=fun o _=>o= .ret (.bool (zi b))) rfl ?_ (by rintro o S0 rfl;exact hK)
 generalize hz:(b.toNat:Int)=z
 apply ja (un:=0) Pr.tabOk Pr.mixed Pl.fn63 (nb rfl)
 apply qb (mk:=Pr.tab)
 intro _ _ _ _ _ _ _ _ _ cmp _ _ _ _ _ _ _ _ _ _ _ _ _ _ _ _ _ _ _ G
 generalize hK':(fun(o:Out) (_:St)=>o= .ret (.bool (zi b)))=K'
 cbv
 refine G.c' ?_
 rw[← hz]
 refine qbo _ b _ _ ?_
 generalize hy:Lib.indexByte [9,10,13,32] b=y
 have hc:cmp BinOp.geq y 0=zi b:=by rw[G.cmp',← yd9,hy];rfl
 cbv
 refine G.n' rfl ?_
 rw[hc,← hK']
 rfl
end Go.AM
namespace Go.AM
open Go.Proofs
theorem Pl.fn98:FnOk Tryz.prog 98 (fni Tryz.f98 Pr.a98):=⟨⟨Tryz.f98,Tryz.func98,rfl,rfl,rfl,by kernel_rfl⟩,by kernel_rfl⟩
theorem Pl.fn65:FnOk Tryz.prog 65 (fni Tryz.f65 Pr.a65):=⟨⟨Tryz.f65,Tryz.func65,rfl,rfl,rfl,by kernel_rfl⟩,by kernel_rfl⟩
theorem zb7(s p:List UInt8):p.isPrefixOf s=(s.take p.length == p):=by
 rw[Bool.eq_iff_iff]
 simp only[List.isPrefixOf_iff_prefix,beq_iff_eq]
 exact⟨fun h=>(List.prefix_iff_eq_take.1 h).symm,fun h=>List.prefix_iff_eq_take.2 h.symm⟩
theorem jcm(s p:List UInt8)(S:St)(K:Out→St→Prop)(hK:K (.ret (.bool (p.isPrefixOf s))) S):jb Tryz.prog (Pr.tab real) 98 [.str s,.str p] S K:=by
 refine jb.lift (K0:=fun o _=>o= .ret (.bool (p.isPrefixOf s))) rfl ?_ (by rintro o S0 rfl;exact hK)
 apply ja (un:=0) Pr.tabOk Pr.mixed Pl.fn98 (nb rfl)
 apply qb (mk:=Pr.tab)
 intro _ _ _ _ _ _ slen _ _ cmp _ eqS _ _ _ _ _ subS _ _ _ _ _ cut _ _ _ _ _ G
 generalize hK':(fun(o:Out) (_:St)=>o= .ret (.bool (p.isPrefixOf s)))=K'
 have hsub:eqS (subS s 0 (slen p)) p=p.isPrefixOf s:=by
  rw[G.eqS',G.subS',G.slen',zb7];simp
 cbv
 refine G.n' rfl ?_
 cases hb:cmp BinOp.geq (slen s) (slen p) with
 |false=>
  cbv
  rw[← hK']
  have hlt:s.length<p.length:=by
   rw[G.cmp',G.slen'] at hb;simp[vb] at hb;omega
  have:p.isPrefixOf s=false:=by
   rw[zb7]
   simp only[beq_eq_false_iff_ne]
   intro e
   have:=congrArg List.length e
   simp at this;omega
  rw[this]
  rfl
 |true=>
  have hle:p.length≤s.length:=by
   rw[G.cmp',G.slen'] at hb;simp[vb] at hb;omega
  have hcut:cut 0 (slen p) (slen s)=true:=by rw[G.cut',G.slen'];simp;omega
  cbv
  refine G.n' hcut ?_
  rw[hsub,← hK']
  rfl
theorem jaw(s p:List UInt8)(S:St)(K:Out→St→Prop)(hK:K (.ret (.bool (p.isPrefixOf s))) S):jb Tryz.prog (Pr.tab real) 65 [.str s,.str p] S K:=by
 refine jb.lift (K0:=fun o _=>o= .ret (.bool (p.isPrefixOf s))) rfl ?_ (by rintro o S0 rfl;exact hK)
 apply ja (un:=0) Pr.tabOk Pr.mixed Pl.fn65 (nb rfl)
 apply qb (mk:=Pr.tab)
 intro _ _ _ _ _ _ _ _ _ _ _ _ _ _ _ _ _ _ _ _ _ _ _ _ _ _ _ _ _ G
 generalize hK':(fun(o:Out) (_:St)=>o= .ret (.bool (p.isPrefixOf s)))=K'
 cbv
 refine G.c' (jcm s p _ _ ?_)
 generalize hr:p.isPrefixOf s=r at hK'
 cbv
 rw[← hK']
 rfl
end Go.AM
namespace Go.AM
open Go.Proofs
theorem Pl.fn34:FnOk Tryz.prog 34 (fni Tryz.f34 Pr.a34):=⟨⟨Tryz.f34,Tryz.func34,rfl,rfl,rfl,by kernel_rfl⟩,by kernel_rfl⟩
noncomputable def c13:Code:=(fni Tryz.f34 Pr.a34).loop 0
theorem Pl.c13:qf 17 Pr.a34 c13=true:=by kernel_rfl
theorem step13(K:Ex→Env→St→Prop)(env:Env)(S:St)(h:xg (pAlg Tryz.prog (Pr.tab real) 17) (Pr.tab real) Pr.a34 0 c13 (andThen (za Tryz.prog (Pr.tab real) 17 c13 K) K) env S):za Tryz.prog (Pr.tab real) 17 c13 K env S:=
 vc Pr.tabOk Pr.mixed Pl.c13 h
theorem xr(q:UInt8→Bool)(s:List UInt8)(i:Nat)(hi:i≤s.length):i≤scan q s i∧scan q s i≤s.length:=by
 have:((s.drop i).takeWhile q).length≤(s.drop i).length:=(List.takeWhile_prefix q).length_le
 simp at this
 unfold scan
 omega
def yl(b:UInt8):Bool:=b != 10
def zq(s:List UInt8):Nat→Nat→Nat
 | 0,i=>i
 |n+1,i=>match [45,45].isPrefixOf (s.drop (scan zi s i)) with
  |true=>zq s n (scan yl s (scan zi s i))
  |false=>scan zi s i
theorem va6(s:List UInt8)(i:Nat)(h:[45,45].isPrefixOf (s.drop i)=true):i+2≤scan yl s i:=by
 have hp:[45,45] <+: s.drop i:=List.isPrefixOf_iff_prefix.1 h
 obtain⟨t,ht⟩:=hp
 unfold scan
 rw[← ht]
 have:List.takeWhile yl ([45,45]++t)=45::45::List.takeWhile yl t:=by
  simp[List.takeWhile_cons,yl]
 rw[this]
 simp
theorem xdf(s:List UInt8)(hs:s.length≤1000000000000)(K:Ex→Env→St→Prop)(n:Nat) :
 ∀(i:Nat) (z:Int),z=i→i≤s.length→s.length-i<n→(∀ y:Int,y=zq s n i→K .ret [(0,.ptr 0 0)] (S1 s y))→za Tryz.prog (Pr.tab real) 17 c13 (Less K) [(0,.ptr 0 0)] (S1 s z):=by
 induction n with
 |zero=>intro i z hz hi hn;omega
 |succ n ih=>
  intro i z hz hi hn hK
  apply step13
  apply xb (mk:=Pr.tab)
  intro _ _ _ _ _ _ slen _ _ _ _ _ _ _ _ _ _ subS _ _ _ _ _ cut _ not _ _ _ G
  generalize hL:za Tryz.prog (Pr.tab real) 17 c13 (Less K)=L at *
  generalize hK':Less K=K' at *
  cbv
  refine G.c' (ja4 63 zi zex s hs i z hz hi _ fun y hy=>?_)
  obtain⟨j,hj⟩:∃ j,scan zi s i=j:=⟨_,rfl⟩
  have hb:=xr zi s i hi
  rw[hj] at hb hy
  have hcut:cut y (slen s) (slen s)=true:=by rw[G.cut',G.slen',hy];simp;omega
  have hsub:subS s y (slen s)=s.drop j:=by
   rw[G.subS',G.slen',hy]
   simp only[Int.toNat_natCast]
   rw[List.take_of_length_le]
   simp
  cbv
  refine G.n' hcut (G.c' ?_)
  rw[hsub]
  refine jaw _ _ _ _ ?_
  cases hp:[45,45].isPrefixOf (s.drop j) with
  |false=>
   have hnot:not false=true:=by rw[G.not'];rfl
   cbv
   rw[hnot]
   cbv
   rw[← hK']
   refine⟨[(0,.ptr 0 0)],.cons rfl (.nil _),hK y ?_⟩
   rw[hy]
   simp only[zq,hj,hp]
  |true=>
   have hnot:not true=false:=by rw[G.not'];rfl
   cbv
   rw[hnot]
   cbv
   refine G.c' (ja4 66 yl qex s hs j y hy hb.2 _ fun x hx=>?_)
   have h1:=va6 s j hp
   have h2:=xr yl s j hb.2
   cbv
   have:=ih (scan yl s j) x hx h2.2 (by omega) (fun v hv=>hK v (by rw[hv];simp only[zq,hj,hp]))
   rw[← hL] at this ⊢
   exact za.weak (.cons rfl (.nil _)) this
theorem jdf(s:List UInt8)(hs:s.length≤1000000000000)(i:Nat)(z:Int)(hz:z=i)(hi:i≤s.length)(K:Out→St→Prop)
 (hK:∀ y:Int,y=zq s (s.length+1) i→K (.ret (.tup [])) (S1 s y)):jb Tryz.prog (Pr.tab real) 34 [.ptr 0 0] (S1 s z) K:=by
 apply ja (un:=0) Pr.tabOk Pr.mixed Pl.fn34 (nb rfl)
 apply qb (mk:=Pr.tab)
 intro _ _ _ _ _ _ _ _ _ _ _ _ _ _ _ _ _ _ _ _ _ _ _ _ _ _ _ _ _ G
 cbv
 refine G.l' ?_
 change za Tryz.prog (Pr.tab real) 17 c13 _ _ _
 refine za.relax (xdf s hs _ (s.length+1) i z hz hi (by omega) ?_)
 intro y hy
 exact hK y hy
theorem vdf(s:List UInt8)(hs:s.length≤1000000000000)(i:Nat)(z:Int)(hz:z=i)(hi:i≤s.length)(S:St)(o:Nat)(ho:o<S.next)(hrow:S.row o=[.str s,.int .i64 z])(K:Out→St→Prop)
 (hK:∀ y:Int,y=zq s (s.length+1) i→K (.ret (.tup [])) (S.set o [.str s,.int .i64 y])):jb Tryz.prog (Pr.tab real) 34 [.ptr o 0] S K:=by
 have hptr:one o 0 o=some 0:=vo.2 ⟨rfl,rfl⟩
 refine xbj (K0:=fun out S'=>∃ y:Int,y=zq s (s.length+1) i∧out= .ret (.tup [])∧S'=S1 s y) ho (by rw[hrow];simp) ?_ ?_
 ·rw[hrow]
  simp only[renL,AV.ren,hptr]
  exact jdf s hs i z hz hi _ fun y hy=>⟨y,hy,rfl,rfl⟩
 ·rintro out S' ⟨y,hy,rfl,rfl⟩
  exact⟨Nat.le_refl _,hK y hy⟩
end Go.AM
namespace Go.AM
open Go.Proofs
theorem Pl.fn25:FnOk Tryz.prog 25 (fni Tryz.f25 Pr.a25):=⟨⟨Tryz.f25,Tryz.func25,rfl,rfl,rfl,by kernel_rfl⟩,by kernel_rfl⟩
noncomputable def c15:Code:=(fni Tryz.f25 Pr.a25).loop 0
theorem Pl.c15:qf 57 Pr.a25 c15=true:=by kernel_rfl
theorem jed(K:Ex→Env→St→Prop)(env:Env)(S:St)(h:xg (pAlg Tryz.prog (Pr.tab real) 57) (Pr.tab real) Pr.a25 0 c15 (andThen (za Tryz.prog (Pr.tab real) 57 c15 K) K) env S):za Tryz.prog (Pr.tab real) 57 c15 K env S:=
 vc Pr.tabOk Pr.mixed Pl.c15 h
def xbo(s:List UInt8)(z y:Int):Env:=[(0,.str s),(1,.int .i64 z),(6,.int .i64 y)]
theorem xc8(s:List UInt8)(hs:s.length≤1000000000000)(i:Nat)(z:Int)(hz:z=i)(K:Ex→Env→St→Prop)(m:Nat) :
 ∀(n:Nat) (y:Int),y=n→i+n+m=s.length→(∀ x:Int,x=scan yl s (i+n)-i→K (.exit 0) (xbo s z x) St.nil)→za Tryz.prog (Pr.tab real) 57 c15 (Less K) (xbo s z y) St.nil:=by
 induction m with
 |zero=>
  intro n y hy hm hK
  have hfin:K (.exit 0) (xbo s z y) St.nil:=hK y (by
   have h1:scan yl s (i+n)=i+n:=by simp[scan,List.drop_eq_nil_of_le (show s.length≤i+n by omega)]
   rw[h1];omega)
  apply jed
  apply xb (mk:=Pr.tab)
  intro fail need same call loop len slen arith shift cmp conv eqS ltS cat app elt byt subS subL strOf isB fit inb cut room not and eqB avs G
  generalize hL:za Tryz.prog (Pr.tab real) 57 c15 (Less K)=L
  generalize hK':Less K=K'
  have hadd:arith BinOp.add IntKind.i64 z y=z+y:=by rw[G.arith'];exact wrap_i64 _ (by omega) (by omega)
  have hb:cmp BinOp.lss (z+y) (slen s)=false:=by rw[G.cmp',G.slen'];simp[vb];omega
  cbv
  refine G.n' rfl (G.n' rfl ?_)
  rw[hadd,hb]
  cbv
  rw[← hK']
  exact⟨xbo s z y,.cons rfl (.cons rfl (.cons rfl (.nil _))),hfin⟩
 |succ m ih=>
  intro n y hy hm hK
  have hlt:i+n<s.length:=by omega
  have hdrop:s.drop (i+n)=s[i+n]::s.drop (i+n+1):=List.drop_eq_getElem_cons hlt
  have hfin:yl s[i+n]=false→K (.exit 0) (xbo s z y) St.nil:=fun hq=>hK y (by
   have h3:scan yl s (i+n)=i+n:=by unfold scan;rw[hdrop,List.takeWhile_cons,hq];simp
   rw[h3];omega)
  have hgo:yl s[i+n]=true→za Tryz.prog (Pr.tab real) 57 c15 (Less K) (xbo s z (y+1)) St.nil:=fun hq=>by
   have h3:scan yl s (i+(n+1))=scan yl s (i+n):=by
    unfold scan;rw[hdrop,List.takeWhile_cons,hq,← Nat.add_assoc];simp;omega
   exact ih (n+1) (y+1) (by omega) (by omega) (fun x hx=>hK x (by rw[hx,h3]))
  apply jed
  apply xb (mk:=Pr.tab)
  intro _ _ _ _ _ _ slen arith _ cmp _ _ _ _ _ _ byt _ _ _ _ _ inb _ _ _ _ _ _ G
  generalize hL:za Tryz.prog (Pr.tab real) 57 c15 (Less K)=L at hgo ⊢
  generalize hK':Less K=K' at hL ⊢
  have hadd:arith BinOp.add IntKind.i64 z y=z+y:=by rw[G.arith'];exact wrap_i64 _ (by omega) (by omega)
  have hone:arith BinOp.add IntKind.i64 y 1=y+1:=by rw[G.arith'];exact wrap_i64 _ (by omega) (by omega)
  have hb:cmp BinOp.lss (z+y) (slen s)=true:=by rw[G.cmp',G.slen'];simp[vb];omega
  have hin:inb (z+y) (slen s)=true:=by rw[G.inb',G.slen'];simp;omega
  have hbyt:byt s (z+y)=(s[i+n].toNat:Int):=by
   rw[G.byt',hz,hy];simp only[];rw[show ((i:Int)+(n:Int)).toNat=i+n by omega];simp[List.getD_eq_getElem?_getD,hlt]
  have hne:cmp BinOp.neq (byt s (z+y)) 10=yl s[i+n]:=by
   rw[G.cmp',hbyt]
   simp only[vb,yl,bne]
   congr 1
   rw[Bool.eq_iff_iff]
   simp only[beq_iff_eq]
   constructor
   ·intro h;exact UInt8.toNat_inj.1 (by simpa using (by omega:s[i+n].toNat=10))
   ·intro h;rw[h];rfl
  cbv
  refine G.n' rfl (G.n' rfl ?_)
  rw[hadd,hb]
  cbv
  refine G.n' rfl ?_
  rw[hadd]
  refine G.n' hin ?_
  cases hq:yl s[i+n] with
  |false=>
   rw[hne,hq]
   cbv
   refine G.n' rfl ?_
   cbv
   rw[← hK']
   exact⟨xbo s z y,.cons rfl (.cons rfl (.cons rfl (.nil _))),hfin hq⟩
  |true=>
   rw[hne,hq]
   cbv
   refine G.n' rfl ?_
   cbv
   refine G.n' rfl ?_
   rw[hone]
   have:=hgo hq
   rw[← hL] at this ⊢
   exact za.weak (.cons rfl (.cons rfl (.cons rfl (.nil _)))) this
end Go.AM
namespace Go.AM
open Go.Proofs
theorem eqb(b k:UInt8):vb .eql b.toNat k.toNat=(b == k):=by
 simp only[vb]
 rw[Bool.eq_iff_iff]
 simp only[beq_iff_eq]
 exact⟨fun h=>UInt8.toNat_inj.1 (by omega),fun h=>by rw[h]⟩
theorem neb(b k:UInt8):vb .neq b.toNat k.toNat=(b != k):=by
 have:=eqb b k
 simp only[vb,bne] at this ⊢
 rw[this]
theorem pre2(b:UInt8)(l:List UInt8):[45,45].isPrefixOf (b::l)=(b == 45 && [45].isPrefixOf l):=by
 rw[List.isPrefixOf_cons_cons,BEq.comm]
theorem pre1(b:UInt8)(l:List UInt8):[45].isPrefixOf (b::l)=(b == 45):=by
 rw[List.isPrefixOf_cons_cons,BEq.comm];simp
theorem jew(b:UInt8)(h9:(b == 9)=false)(h10:(b == 10)=false)(h13:(b == 13)=false)(h32:(b == 32)=false):zi b=false:=by
 unfold zi;rw[h9,h10,h13,h32];rfl
def jz(s:List UInt8)(i:Nat):Nat:=
 match zi (s.getD i 0) with
 |true=>1
 |false=>match [45,45].isPrefixOf (s.drop i) with
  |true=>scan yl s (i+2)-i
  |false=>0
theorem jc8(s:List UInt8)(hs:s.length≤1000000000000)(i:Nat)(z:Int)(hz:z=i)(hi:i<s.length)(S:St)(K:Out→St→Prop)(hK:∀ y:Int,y=jz s i→K (.ret (.int .i64 y)) S) :
 jb Tryz.prog (Pr.tab real) 25 [.str s,.int .i64 z] S K:=by
 refine jb.lift (K0:=fun o _=>∃ y:Int,y=jz s i∧o= .ret (.int .i64 y)) rfl ?_ (by rintro o S0 ⟨y,hy,rfl⟩;exact hK y hy)
 apply ja (un:=0) Pr.tabOk Pr.mixed Pl.fn25 (nb rfl)
 apply qb (mk:=Pr.tab)
 intro _ _ _ _ _ _ slen arith _ cmp _ _ _ _ _ _ byt _ _ _ _ _ inb _ _ _ _ _ _ G
 have hb:byt s z=(s[i].toNat:Int):=by rw[G.byt',hz];simp[List.getD_eq_getElem?_getD,hi]
 have hget:s.getD i 0=s[i]:=by simp[List.getD_eq_getElem?_getD,hi]
 have hin:inb z (slen s)=true:=by rw[G.inb',G.slen'];simp;omega
 have c9:cmp BinOp.eql (byt s z) 9=(s[i] == 9):=by rw[G.cmp',hb];exact eqb s[i] 9
 have c10:cmp BinOp.eql (byt s z) 10=(s[i] == 10):=by rw[G.cmp',hb];exact eqb s[i] 10
 have c13:cmp BinOp.eql (byt s z) 13=(s[i] == 13):=by rw[G.cmp',hb];exact eqb s[i] 13
 have c32:cmp BinOp.eql (byt s z) 32=(s[i] == 32):=by rw[G.cmp',hb];exact eqb s[i] 32
 have c45:cmp BinOp.neq (byt s z) 45=(s[i] != 45):=by rw[G.cmp',hb];exact neb s[i] 45
 have h1:zi s[i]=true→(1:Int)=jz s i:=fun h=>by unfold jz;rw[hget,h];rfl
 generalize hK':(fun(o:Out) (_:St)=>∃ y:Int,y=jz s i∧o= .ret (.int .i64 y))=K'
 have fin1:zi s[i]=true→K' (.ret (.int .i64 1)) St.nil:=fun h=>by rw[← hK'];exact⟨1,h1 h,rfl⟩
 have e1:zi s[i]=(s[i] == 9 || s[i] == 10 || s[i] == 13 || s[i] == 32):=rfl
 have hadd:arith BinOp.add IntKind.i64 z 1=z+1:=by rw[G.arith'];exact wrap_i64 _ (by omega) (by omega)
 have hdrop:s.drop i=s[i]::s.drop (i+1):=List.drop_eq_getElem_cons hi
 have pre:[45,45].isPrefixOf (s.drop i)=(s[i] == 45 && [45].isPrefixOf (s.drop (i+1))):=by
  rw[hdrop,pre2]
 have fin0:zi s[i]=false→[45,45].isPrefixOf (s.drop i)=false→K' (.ret (.int .i64 0)) St.nil:=fun h p=>by
  rw[← hK'];exact⟨0,by unfold jz;rw[hget,h,p];rfl,rfl⟩
 have fin2:zi s[i]=false→[45,45].isPrefixOf (s.drop i)=true→∀ x:Int,x=scan yl s (i+2)-i→K' (.ret (.int .i64 x)) St.nil:=fun h p x hx=>by
  rw[← hK']
  refine⟨x,?_,rfl⟩
  unfold jz
  rw[hget,h,p]
  show x=((scan yl s (i+2)-i:Nat):Int)
  have h2:i+2≤scan yl s (i+2):=by unfold scan;omega
  omega
 have two:(i+1<s.length)∨¬ (i+1<s.length):=Decidable.em _
 have g0:¬ (i+1<s.length)→cmp BinOp.geq (z+1) (slen s)=true:=fun h=>by rw[G.cmp',G.slen'];simp[vb];omega
 have g1:i+1<s.length→cmp BinOp.geq (z+1) (slen s)=false:=fun h=>by rw[G.cmp',G.slen'];simp[vb];omega
 have g2:i+1<s.length→inb (z+1) (slen s)=true:=fun h=>by rw[G.inb',G.slen'];simp;omega
 have g3:∀ h:i+1<s.length,cmp BinOp.neq (byt s (z+1)) 45=(s[i+1] != 45):=fun h=>by
  have:byt s (z+1)=(s[i+1].toNat:Int):=by
   rw[G.byt'];simp only[];rw[show (z+1).toNat=i+1 by omega];simp[List.getD_eq_getElem?_getD,h]
  rw[G.cmp',this];exact neb s[i+1] 45
 have p0:¬ (i+1<s.length)→[45,45].isPrefixOf (s.drop i)=false:=fun h=>by
  rw[pre,List.drop_eq_nil_of_le (by omega)];exact Bool.and_false _
 have p1:∀ h:i+1<s.length,[45,45].isPrefixOf (s.drop i)=(s[i] == 45 && s[i+1] == 45):=fun h=>by
  rw[pre,List.drop_eq_getElem_cons h,pre1]
 have loopG:i+1<s.length→∀ Kx:Ex→Env→St→Prop,(∀ x:Int,x=scan yl s (i+2)-i→Kx (.exit 0) (xbo s z x) St.nil)→za Tryz.prog (Pr.tab real) 57 c15 (Less Kx) (xbo s z 2) St.nil:=fun h Kx hKx=>
  xc8 s hs i z hz Kx (s.length-i-2) 2 2 rfl (by omega) hKx
 cbv
 refine G.n' hin (G.n' rfl ?_)
 rw[c9]
 cases h9:(s[i] == 9) with
 |true=>cbv;exact fin1 (by rw[e1,h9];rfl)
 |false=>
  cbv
  refine G.n' rfl ?_
  rw[c10]
  cases h10:(s[i] == 10) with
  |true=>cbv;exact fin1 (by rw[e1,h9,h10];rfl)
  |false=>
   cbv
   refine G.n' rfl ?_
   rw[c13]
   cases h13:(s[i] == 13) with
   |true=>cbv;exact fin1 (by rw[e1,h9,h10,h13];rfl)
   |false=>
    cbv
    refine G.n' rfl ?_
    rw[c32]
    cases h32:(s[i] == 32) with
    |true=>cbv;exact fin1 (by rw[e1,h9,h10,h13,h32];rfl)
    |false=>
     cbv
     refine G.n' rfl ?_
     rw[c45]
     have hbl:=jew s[i] h9 h10 h13 h32
     cases h45:(s[i] != 45) with
     |true=>
      cbv
      refine fin0 hbl ?_
      have:(s[i] == 45)=false:=by simpa[bne] using h45
      rw[pre,this];rfl
     |false=>
      have h45':(s[i] == 45)=true:=by simpa[bne] using h45
      cbv
      refine G.n' rfl (G.n' rfl ?_)
      rw[hadd]
      rcases two with hl|hl
      ·rw[g1 hl]
       cbv
       refine G.n' rfl ?_
       rw[hadd]
       refine G.n' (g2 hl) (G.n' rfl ?_)
       rw[g3 hl]
       cases h46:(s[i+1] != 45) with
       |true=>
        cbv
        refine fin0 hbl ?_
        have:(s[i+1] == 45)=false:=by simpa[bne] using h46
        rw[p1 hl,this];simp
       |false=>
        have h46':(s[i+1] == 45)=true:=by simpa[bne] using h46
        have hpre:[45,45].isPrefixOf (s.drop i)=true:=by rw[p1 hl,h45',h46'];rfl
        cbv
        refine G.l' ?_
        change za Tryz.prog (Pr.tab real) 57 c15 _ _ _
        refine za.relax (za.weak (env':=xbo s z 2) (.cons rfl (.cons rfl (.cons rfl (.nil _)))) ?_)
        refine loopG hl _ fun x hx=>?_
        have:=fin2 hbl hpre x hx
        cbv
        exact this
      ·rw[g0 hl]
       cbv
       exact fin0 hbl (p0 hl)
end Go.AM
namespace Go.Proofs
open Go.RowKit
theorem Tryz.copy_used(b:Nat)(w:World)(h0:w.cell? ⟨b,0,none⟩=some (.pointer (some ⟨b,0,none⟩))) :
 Calls Tryz.prog 132 #[.pointer (some ⟨b,0,none⟩)] w fun e w'=>e= .returned (.tuple #[])∧w'=w:=by
 obtain⟨j,hj,_⟩:∃ j,Tryz.prog.info? 99=some j∧j.size=2:=Option.map_eq_some_iff.1 (show (Tryz.prog.info? 99).map (·.size)=some 2 by kernel_rfl)
 go_enter Tryz.func132,Tryz.ntmps132
 go_wp2
 rw[Lib.run_neq_ptr_same w _ (by kernel_rfl) hj]
 go_wp2
 go_end0
 exact⟨rfl,rfl⟩
theorem Tryz.copy_fresh(b:Nat)(w:World)(h0:w.cell? ⟨b,0,none⟩=some (.pointer none))(hsh:w.shape? b=some (99,2))(hfz:w.frozen? ⟨b,0,none⟩=false) :
 Calls Tryz.prog 132 #[.pointer (some ⟨b,0,none⟩)] w fun e w'=>e= .returned (.tuple #[])∧w'=w.setCell ⟨b,0,none⟩ (.pointer (some ⟨b,0,none⟩)):=by
 obtain⟨j,hj,hjs⟩:∃ j,Tryz.prog.info? 99=some j∧j.size=2:=Option.map_eq_some_iff.1 (show (Tryz.prog.info? 99).map (·.size)=some 2 by kernel_rfl)
 go_enter Tryz.func132,Tryz.ntmps132
 go_wp2
 rw[Lib.run_to_unsafe w ⟨b,0,none⟩ (by kernel_rfl) (by kernel_rfl) hj (by rw[hjs];decide) hsh (Nat.zero_lt_succ 1)]
 simp only[Result.andThen]
 rw[Oper.upon_value]
 go_wp2
 rw[run_callFunc_extern Tryz.func146 (by kernel_rfl) (by kernel_rfl) (by kernel_rfl) (e:=Extern.AbiNoEscape.same) (by kernel_rfl)]
 rw[Lib.run_noEscape]
 simp only[Result.andThen]
 rw[Oper.upon_value]
 go_wp2
 rw[Lib.run_from_unsafe w ⟨b,0,none⟩ (by kernel_rfl) (by kernel_rfl) hj hsh (by kernel_rfl)]
 simp only[Result.andThen]
 rw[Oper.upon_value]
 go_wp2
 go_end0
 exact⟨rfl,rfl⟩
end Go.Proofs
namespace Go.AM
open Go.Proofs
theorem qbf{w:World}{b:Nat}{c:Array Value}{t:TypeId}(hb:w.heap[b]? =some (.cells c t (0,0)))(v:Value):w.setCell ⟨b,0,none⟩ v=w.setRow b (c.setIfInBounds 0 v):=by
 unfold World.setCell World.setRow
 congr 1
 apply Array.ext_getElem?
 intro k
 rw[Array.getElem?_modify,Array.getElem?_modify]
 by_cases hk:b=k
 ·subst hk;simp[hb]
 ·simp[hk]
theorem Pr.enters132:Enters Tryz.prog 132:=enters_of Tryz.func132 (by kernel_rfl) (by kernel_rfl)
theorem xev{T:Tab}{g:Ghost}{S:St}{w:World}(r:WRel T g S w)(hg:GlobOk T g w):Inv T { n:=0,w0:=w,g0:=g,next:=S.next,touch:=qj g } g [] S { tmps:= #[],defers:=[] } w:=
 ⟨fun _=> .undef _ _,rfl,rfl,r,.refl _ _ _,fun o b q=> .inl (.inl ⟨o,q⟩),fun k tk b q q'=> .inl (.inr ⟨k,tk,q,q'⟩),hg,fun o b q=> .inl q,Nat.le_refl _⟩
theorem xej{T:Tab}{g g':Ghost}{S S':St}{w w':World}{K:Out→St→Prop}{v:AV}{x:Value}(h:Inv T { n:=0,w0:=w,g0:=g,next:=S.next,touch:=qj g } g' [] S' { tmps:= #[],defers:=[] } w')
 (hk:K (.ret v) S') (hv:Rep T w' g' v x):vj T g S w K (.returned x) w':=by
 refine⟨.ret v,S',g',hk,hv,h.rel,h.ext,?_,h.nm,h.next⟩
 rintro b (⟨o,q⟩|⟨k,tk,q,q'⟩)
 ·exact h.ob o b q
 ·exact h.tb k tk b q q'
theorem jbk(o:Nat)(p x:AV)(S:St)(hrow:S.row o=[p,x])(hp:p= .tnil o 99∨p= .ptr o 0)(K:Out→St→Prop)(hK:K (.ret (.tup [])) (S.set o [.ptr o 0,x])):jb Tryz.prog (Pr.tab real) 132 [.ptr o 0] S K:=by
 intro g w vs r hglob hA
 obtain⟨hl,hR⟩:=hA
 obtain⟨u,rfl⟩:∃ u,vs=[u]:=by
  match vs,hl with
  | [u],_=>exact⟨u,rfl⟩
 have hu:Rep (Pr.tab real) w g (.ptr o 0) u:=by simpa[nth] using hR 0 (by simp)
 cases hu with
 |ptr _ _ _ b hb=>
  obtain⟨c,t,hc,hs,h1,hRo⟩:=r.obj o b hb
  rw[hrow] at hs hRo
  have h0:=hRo 0 (by simp)
  simp only[nth] at h0
  have hcs:∃ c0 c1,c= #[c0,c1]:=by
   have hcl:c.toList.length=2:=by simpa using hs
   match hq:c.toList,hcl with
   | [c0,c1],_=>exact⟨c0,c1,by rw[← Array.toArray_toList (xs:=c),hq]⟩
  obtain⟨c0,c1,rfl⟩:=hcs
  simp only[List.getD_eq_getElem?_getD] at h0
  have h0':Rep (Pr.tab real) w g p c0:=by simpa using h0
  have hcell:w.cell? ⟨b,0,none⟩=some c0:=by simp[World.cell?,hc]
  have hI:=xev r hglob
  have fin:∀ w',w'=w.setCell ⟨b,0,none⟩ (.pointer (some ⟨b,0,none⟩))→vj (Pr.tab real) g S w K (.returned (.tuple #[])) w':=by
   rintro w' rfl
   have hw:=hI.write (off:=0) (vs:=[.ptr o 0]) (xs:=[.pointer (some ⟨b,0,none⟩)]) hb hc rfl (by rw[hrow];simp) (by rw[hrow];simp) (by intro v hv;simp at hv;subst hv;rfl)
    (by intro j hj;have:j=0:=by simpa using hj
        subst this;exact .ptr _ _ _ _ hb)
   rw[hrow] at hw
   rw[qbf hc]
   exact xej hw hK (.tup _ _ [] rfl (by simp))
  rcases hp with rfl|rfl
  ·cases h0' with
   |tnil _ _ _ b' c' fr hb' hc'=>
    have:b'=b:=by have:=hb'.symm.trans hb;simpa using this
    subst this
    have ht:t=99:=by
     have:=hc.symm.trans hc'
     simp only[Option.some.injEq,Obj.cells.injEq] at this
     exact this.2.1
    subst ht
    refine .inl ⟨Pr.enters132,Calls.mono (Tryz.copy_fresh b' w hcell (by simp[World.shape?,hc]) (by simp[World.frozen?,hc])) ?_⟩
    rintro e w' ⟨rfl,hw'⟩
    exact fin w' hw'
  ·cases h0' with
   |ptr _ _ _ b' hb'=>
    have:b'=b:=by have:=hb'.symm.trans hb;simpa using this
    subst this
    refine .inl ⟨Pr.enters132,Calls.mono (Tryz.copy_used b' w hcell) ?_⟩
    rintro e w' ⟨rfl,hw'⟩
    refine fin w' ?_
    rw[hw',qbf hc]
    have key:∀ f:Obj→Obj,(∀ y,w.heap[b']? =some y→f y=y)→w.heap.modify b' f=w.heap:=fun f hf=>by
     apply Array.ext_getElem?
     intro k
     rw[Array.getElem?_modify]
     by_cases hk:b'=k
     ·subst hk
      cases hy:w.heap[b']? with
      |none=>simp
      |some y=>simp[hf y hy]
     ·simp[hk]
    unfold World.setRow
    rw[key]
    intro y hy
    have:=hy.symm.trans hc
    simp only[Option.some.injEq] at this
    subst this
    simp
end Go.AM
namespace Go.Proofs
open Go.RowKit
theorem Tryz.string_row(b g cap:Nat)(cur:Array Value)(l:List UInt8)(w:World)(h0:l≠[])(c1:w.drew.cell? ⟨b,1,none⟩=some (.slice (some ⟨g,0,none⟩) l.length cap))
 (hg:w.heap[g]? =some (.cells cur 5 (0,0))) (hcap:l.length≤cap) (hmax:cap≤maxLen) (hsz:l.length≤cur.size) (hc:∀ j x,l[j]? =some x→w.cell? ⟨g,j,none⟩=some (.int .u8 x.toNat)) :
 Calls Tryz.prog 105 #[.pointer (some ⟨b,0,none⟩)] w fun e w'=>e= .returned (.string ⟨l.toArray⟩)∧w'=w.drew.freeze ⟨g,0,none⟩ l.length:=by
 have hl0:l.length≠0:=by simpa using h0
 have hSD:(Builtin.unsafeSliceData_ #[78] 115 #[.slice (some ⟨g,0,none⟩) l.length cap]).run Tryz.prog w.drew= .ok (.pointer (some ⟨g,0,none⟩)) w.drew:=
  Lib.run_unsafeSliceData_row _ _ _ _ _ _ (by omega)
 have hUS:(Builtin.unsafeString_ #[115,3] 9 #[.pointer (some ⟨g,0,none⟩),.int .i64 l.length]).run Tryz.prog w.drew= .ok (.string ⟨l.toArray⟩) (w.drew.freeze ⟨g,0,none⟩ l.length):=by
  refine Lib.run_unsafeString_row w.drew 115 3 9 5 (by kernel_rfl) (by kernel_rfl) g cur.size (by have hg':w.drew.heap[g]? =some (.cells cur 5 (0,0)):=hg;simp[World.shape?,hg']) l h0 (by omega) (by unfold maxLen at hmax;omega) ?_
  intro j x hx
  have:=hc j x hx
  have hadd:(⟨g,0,none⟩:Addr).add j=⟨g,j,none⟩:=by unfold Addr.add;split<;>simp_all
  rw[hadd]
  exact this
 have mixed:Tryz.prog.follows Departure.mixedOrders=true:=AM.Pr.mixed
 go_enter Tryz.func105,Tryz.ntmps105
 go_wp2
 go_region_o
 all_goals (go_wp2;go_ret;exact⟨rfl,rfl⟩)
theorem Tryz.string_nil(b:Nat)(w:World)(c1:w.drew.cell? ⟨b,1,none⟩=some (.slice none 0 0)) :
 Calls Tryz.prog 105 #[.pointer (some ⟨b,0,none⟩)] w fun e w'=>e= .returned (.string ⟨#[]⟩)∧w'=w.drew:=by
 have hUS:∀(W:World) (q:Option Addr),(Builtin.unsafeString_ #[115,3] 9 #[.pointer q,.int .i64 0]).run Tryz.prog W= .ok (.string .empty) W:=fun W q=>Lib.run_unsafeString_none W _ _ _ q
 have hSD:(Builtin.unsafeSliceData_ #[78] 115 #[.slice none 0 0]).run Tryz.prog w.drew= .ok (.pointer none) w.drew:=rfl
 have mixed:Tryz.prog.follows Departure.mixedOrders=true:=AM.Pr.mixed
 go_enter Tryz.func105,Tryz.ntmps105
 go_wp2
 go_region_o
 all_goals (go_wp2;go_ret;exact⟨rfl,rfl⟩)
theorem Tryz.string_room(b g cap:Nat)(w:World)(hc0:cap≠0)(c1:w.drew.cell? ⟨b,1,none⟩=some (.slice (some ⟨g,0,none⟩) 0 cap)) :
 Calls Tryz.prog 105 #[.pointer (some ⟨b,0,none⟩)] w fun e w'=>e= .returned (.string ⟨#[]⟩)∧w'=w.drew:=by
 have hUS:∀(W:World) (q:Option Addr),(Builtin.unsafeString_ #[115,3] 9 #[.pointer q,.int .i64 0]).run Tryz.prog W= .ok (.string .empty) W:=fun W q=>Lib.run_unsafeString_none W _ _ _ q
 have hSD:(Builtin.unsafeSliceData_ #[78] 115 #[.slice (some ⟨g,0,none⟩) 0 cap]).run Tryz.prog w.drew= .ok (.pointer (some ⟨g,0,none⟩)) w.drew:=
  Lib.run_unsafeSliceData_row _ _ _ _ _ _ hc0
 clear hc0
 have mixed:Tryz.prog.follows Departure.mixedOrders=true:=AM.Pr.mixed
 go_enter Tryz.func105,Tryz.ntmps105
 go_wp2
 go_region_o
 all_goals (go_wp2;go_ret;exact⟨rfl,rfl⟩)
theorem Tryz.string_noroom(b g:Nat)(c:Array Value)(t:TypeId)(v:Value)(w:World)(hbk:w.heap[b]? =some (.cells #[v,.slice (some ⟨g,0,none⟩) 0 0] t (0,0)))(cur:Array Value)(hg:w.heap[g]? =some (.cells cur 5 (0,0))) :
 Calls Tryz.prog 105 #[.pointer (some ⟨b,0,none⟩)] w fun e w'=>e= .returned (.string ⟨#[]⟩)∧w'=(w.drew.alloc (.view ⟨g,0,none⟩ 5)):=by
 have hUS:∀(W:World) (q:Option Addr),(Builtin.unsafeString_ #[115,3] 9 #[.pointer q,.int .i64 0]).run Tryz.prog W= .ok (.string .empty) W:=fun W q=>Lib.run_unsafeString_none W _ _ _ q
 have hlt:b<w.heap.size:=by
  rcases Nat.lt_or_ge b w.heap.size with h'|h'
  ·exact h'
  ·simp[Array.getElem?_eq_none h'] at hbk
 have c1:w.drew.cell? ⟨b,1,none⟩=some (.slice (some ⟨g,0,none⟩) 0 0):=by
  have:w.drew.heap[b]? =some (.cells #[v,.slice (some ⟨g,0,none⟩) 0 0] t (0,0)):=hbk
  rw[Lib.cell_of_heap this];rfl
 have hSD:(Builtin.unsafeSliceData_ #[78] 115 #[.slice (some ⟨g,0,none⟩) 0 0]).run Tryz.prog w.drew= .ok (.pointer (some ⟨w.drew.heap.size,0,none⟩)) (w.drew.alloc (.view ⟨g,0,none⟩ 5)):=
  Lib.run_unsafeSliceData_zero w.drew _ _ 5 (by kernel_rfl) ⟨g,0,none⟩ 0 (5,cur.size) (by have hg':w.drew.heap[g]? =some (.cells cur 5 (0,0)):=hg;simp[World.shape?,hg'])
 have c2:(w.drew.alloc (.view ⟨g,0,none⟩ 5)).cell? ⟨b,1,none⟩=some (.slice (some ⟨g,0,none⟩) 0 0):=by
  have:(w.drew.alloc (.view ⟨g,0,none⟩ 5)).heap[b]? =_:=(Lib.alloc_old w.drew _ b hlt).trans hbk
  rw[Lib.cell_of_heap this];rfl
 have c3:(w.alloc (.view ⟨g,0,none⟩ 5)).drew.cell? ⟨b,1,none⟩=some (.slice (some ⟨g,0,none⟩) 0 0):=c2
 have c0:w.cell? ⟨b,1,none⟩=some (.slice (some ⟨g,0,none⟩) 0 0):=c1
 have mixed:Tryz.prog.follows Departure.mixedOrders=true:=AM.Pr.mixed
 go_enter Tryz.func105,Tryz.ntmps105
 go_wp2
 go_region_o
 all_goals (go_wp2;go_ret;exact⟨rfl,rfl⟩)
end Go.Proofs
namespace Go.AM
open Go.Proofs
theorem WRel.beside{T:Tab}{g:Ghost}{S:St}{w w':World}(r:WRel T g S w){row:Option Nat}(hg:w.grownBy w' row)(hk:Keeps g w g w')
 (ho:∀ o b,g.ρ o=some b→row≠some b) (ht:∀ k tk b,g.τ k=some tk→tk.v.ownBlock=some b→row≠some b):WRel T g S w':=by
 refine⟨?_,r.inj,r.dom,r.apart,fun b off hD=>Nat.lt_of_lt_of_le (r.live b off hD) hg.size,?_,r.tinj⟩
 ·intro o b e
  obtain⟨c,t,hc,hs,h1,hR⟩:=r.obj o b e
  exact⟨c,t,(hg.block b (xao hc) (ho o b e).symm).trans hc,hs,h1,fun j hj=>(hR j hj).keeps hk⟩
 ·intro k tk e
  obtain⟨h1,h2,xs,h3,h4⟩:=r.tok k tk e
  refine⟨h1,h2,xs,h3.kept hg ?_,h4⟩
  cases hv:tk.v.ownBlock with
  |none=>exact .inl rfl
  |some b=>exact .inr (ht k tk b e hv).symm
theorem jbj{w:World}{g n:Nat}(i:Nat)(hi:i≠g):(w.freeze ⟨g,0,none⟩ n).heap[i]? =w.heap[i]? :=by
 unfold World.freeze
 split
 ·rfl
 ·simp only[Array.getElem?_modify]
  rw[if_neg (Ne.symm hi)]
theorem yc6{w:World}{g n:Nat}{c:Array Value}{t:TypeId}{fr:Nat × Nat}(h:w.heap[g]? =some (.cells c t fr)):∃ fr',(w.freeze ⟨g,0,none⟩ n).heap[g]? =some (.cells c t fr'):=by
 unfold World.freeze
 split
 ·exact⟨fr,h⟩
 ·simp only[Array.getElem?_modify,if_true,h]
  obtain⟨lo,hi⟩:=fr
  exact⟨_,rfl⟩
theorem qcn(w:World)(g n:Nat):(w.freeze ⟨g,0,none⟩ n).os=w.os∧(w.freeze ⟨g,0,none⟩ n).tape=w.tape∧(w.freeze ⟨g,0,none⟩ n).output=w.output∧(w.freeze ⟨g,0,none⟩ n).heap.size=w.heap.size:=by
 unfold World.freeze
 split
 ·exact⟨rfl,rfl,rfl,rfl⟩
 ·exact⟨rfl,rfl,rfl,by simp⟩
def avl(b:List UInt8):List AV:=b.map fun x=> .int .u8 (x.toNat:Int)
theorem Pr.enters105:Enters Tryz.prog 105:=enters_of Tryz.func105 (by kernel_rfl) (by kernel_rfl)
theorem jce(o k:Nat)(p:AV)(l:List UInt8)(S:St)(hrow:S.row o=[p,.slice 5 (avl l) (.own k)])(hcap:qu S.caps k=(l.length:Int))(K:Out→St→Prop)
 (hK:K (.ret (.str l)) { S with caps:=vy S.caps k (maxLen+1:Nat) }):jb Tryz.prog (Pr.tab real) 105 [.ptr o 0] S K:=by
 intro g w vs r hglob hA
 obtain⟨hl,hR⟩:=hA
 obtain⟨u,rfl⟩:∃ u,vs=[u]:=by
  match vs,hl with
  | [u],_=>exact⟨u,rfl⟩
 have hu:Rep (Pr.tab real) w g (.ptr o 0) u:=by simpa[nth] using hR 0 (by simp)
 cases hu with
 |ptr _ _ _ b hb=>
  obtain⟨c,t,hc,hs,h1,hRo⟩:=r.obj o b hb
  rw[hrow] at hs hRo
  have hcs:∃ c0 c1,c= #[c0,c1]:=by
   have hcl:c.toList.length=2:=by simpa using hs
   match hq:c.toList,hcl with
   | [c0,c1],_=>exact⟨c0,c1,by rw[← Array.toArray_toList (xs:=c),hq]⟩
  obtain⟨c0,c1,rfl⟩:=hcs
  have hsl:Rep (Pr.tab real) w g (.slice 5 (avl l) (.own k)) c1:=by simpa[nth,List.getD_eq_getElem?_getD] using hRo 1 (by simp)
  have hsz5:(Pr.tab real).size 5=1:=by rfl
  have hlen:(avl l).length=l.length:=by simp[avl]
  have hnth:∀ i (h:i<l.length),nth (avl l) i= .int .u8 (l[i].toNat:Int):=fun i h=>by rw[nth_eq];simp[avl,List.getD_eq_getElem?_getD,h]
  cases hsl with
  |slice _ _ _ _ ad cap bb base xs hcapl hmax hm hown ha hf hcl h1l hD hRl=>
   obtain⟨tk,htk,hte,hln,htv⟩:=hown k rfl
   obtain⟨hkl,hkc,xs',hOwn,hblk⟩:=r.tok k tk htk
   have htn:tk.n=l.length:=by have:=hkc.symm.trans hcap;omega
   have htv':=htv (by rw[hlen];exact htn.symm)
   have hOwn':=hOwn.resolve_left (by rintro⟨q,_⟩;omega)
   rw[hlen] at hcapl htv'
   let tk':Tok:={ e:=tk.e,v:= .slice none 0 0,n:=maxLen+1 }
   have hkk:∀ t0,g.τ k=some t0→tk'.e=t0.e∧(tk'=t0∨t0.n<tk'.n):=fun t0 e0=>by
    have:tk=t0:=by have:=htk.symm.trans e0;simpa using this
    subst this
    exact⟨rfl,.inr (by simp only[tk'];omega)⟩
   have r1:=r.setTok k tk' (vy S.caps k (maxLen+1:Nat)) hkk ⟨by rw[qao];exact hkl,by rw[qao];exact Nat.le_refl _⟩ (fun i=>by rw[vas _ _ _ _ hkl])
    ⟨[],.inl ⟨Nat.lt_succ_self _,rfl⟩,fun b hb=>by simp[tk',Value.ownBlock] at hb⟩ (fun i ti b _ _ _ hb=>by simp[tk',Value.ownBlock] at hb)
   have hkt:=qac (w:=w) hkk
   have fin:∀ w':World,w.grownBy w' (tk.v.ownBlock)→w'.output=w.output→(∀(i:Nat) (c:Array Value) (t:TypeId) (fr:Nat × Nat),w.heap[i]? =some (.cells c t fr)→∃ fr',w'.heap[i]? =some (.cells c t fr'))→vj (Pr.tab real) g S w K (.returned (.string ⟨l.toArray⟩)) w':=by
    intro w' hg hout hrows
    have hcell:∀ b off,g.D b off→w'.cell? ⟨b,off,none⟩=w.cell? ⟨b,off,none⟩:=fun b2 off hD2=>by
     by_cases hq:tk.v.ownBlock=some b2
     ·rcases hOwn'.2 with ⟨hv,_⟩|⟨gb,cap',cur,hv,_,hcur,_⟩
      ·rw[hv] at hq;simp[Value.ownBlock] at hq
      ·have:gb=b2:=by rw[hv] at hq;simpa[Value.ownBlock] using hq
       subst this
       obtain⟨fr',h'⟩:=hrows gb _ _ _ hcur
       simp[World.cell?,hcur,h']
     ·exact cell_of_heap (hg.block b2 (r.live b2 off hD2) (Ne.symm hq))
    have hkeep:Keeps (setTok g k tk') w (setTok g k tk') w':=⟨fun _ _ e=>e,fun _ tk0 e=>⟨tk0,e,rfl,.inl rfl⟩,fun _ _ e=>e,hcell,fun i c t fr e=>by
     obtain⟨fr',h'⟩:=hrows i c t fr e
     exact⟨c,fr',h'⟩⟩
    have r2:=r1.beside hg hkeep (fun o2 b2 e q=>by
     have:=(hblk b2 q).2 o2
     exact this e) (fun k2 tk2 b2 e hb2 q=>by
     by_cases hk2:k2=k
     ·subst hk2
      simp only[setTok,if_true,Option.some.injEq] at e
      subst e
      simp[tk',Value.ownBlock] at hb2
     ·simp only[setTok,if_neg hk2] at e
      exact hk2 (r.tinj k2 k tk2 tk b2 e htk hb2 q))
    refine⟨.ret (.str l),_,setTok g k tk',hK,.str _ l,r2,⟨hg.os,hg.tape,hout,hg.size,hkt.trans hkeep,fun b2 hb2 hn=>hg.block b2 hb2 (fun q=>hn (.inr ⟨k,tk,htk,q.symm⟩)),fun b2 off hD2=> .inl hD2⟩,?_,fun o2 b2 e=> .inl e,Nat.le_refl _⟩
    rintro b2 (⟨o2,q⟩|⟨k2,tk2,q,q'⟩)
    ·exact .inl (.inl ⟨o2,q⟩)
    ·by_cases hk2:k2=k
     ·subst hk2
      simp only[setTok,if_true,Option.some.injEq] at q
      subst q
      simp[tk',Value.ownBlock] at q'
     ·simp only[setTok,if_neg hk2] at q
      exact .inl (.inr ⟨k2,tk2,q,q'⟩)
   have hcell1:w.drew.cell? ⟨b,1,none⟩=some (.slice ad (avl l).length cap):=by
    have:w.drew.heap[b]? =some (.cells #[c0,.slice ad (avl l).length cap] t (0,0)):=hc
    rw[Lib.cell_of_heap this];rfl
   rw[hlen] at hcell1
   have hdrew:w.grownBy w.drew tk.v.ownBlock:=⟨rfl,rfl,rfl,Nat.le_refl _,fun _ _ _=>rfl⟩
   rcases hOwn'.2 with ⟨hv,hn0⟩|⟨gb,cap',cur,hv,_,hcur,hnc,hcm,hcsz,htake⟩
   ·have he:=hv.symm.trans htv'
    simp only[Value.slice.injEq] at he
    obtain⟨rfl,hl0,rfl⟩:=he
    have hnil:l=[]:=List.eq_nil_of_length_eq_zero hl0.symm
    subst hnil
    refine .inl ⟨Pr.enters105,Calls.mono (Tryz.string_nil b w hcell1) ?_⟩
    rintro e w' ⟨rfl,rfl⟩
    exact fin _ hdrew rfl fun i c t fr h=>⟨fr,h⟩
   ·have he:=hv.symm.trans htv'
    simp only[Value.slice.injEq] at he
    obtain⟨rfl,_,rfl⟩:=he
    rw[hte] at hcur hcsz
    by_cases hl0:l=[]
    ·subst hl0
     by_cases hc0:cap'=0
     ·subst hc0
      rw[hlen] at hc
      refine .inl ⟨Pr.enters105,Calls.mono (Tryz.string_noroom b gb #[] t c0 w hc cur hcur) ?_⟩
      rintro e w' ⟨rfl,rfl⟩
      refine fin _ ⟨rfl,rfl,rfl,by simp,fun i hi _=>heap_alloc_old w.drew _ hi⟩ rfl fun i c t fr h=>⟨fr,(heap_alloc_old w.drew _ (xao h)).trans h⟩
     ·refine .inl ⟨Pr.enters105,Calls.mono (Tryz.string_room b gb cap' w hc0 hcell1) ?_⟩
      rintro e w' ⟨rfl,rfl⟩
      exact fin _ hdrew rfl fun i c t fr h=>⟨fr,h⟩
    ·have hne:avl l≠[]:=by intro q;exact hl0 (by simpa[avl] using q)
     have had:=ha hne
     simp only[Option.some.injEq,Addr.mk.injEq] at had
     obtain⟨rfl,rfl,-⟩:=had
     refine .inl ⟨Pr.enters105,Calls.mono (Tryz.string_row b gb cap' cur l w hl0 hcell1 hcur hcapl hmax (by rw[hcsz,hsz5];omega) ?_) ?_⟩
     ·intro j x hj
      have hjl:j<l.length:=(List.getElem?_eq_some_iff.1 hj).1
      have hx:l[j]=x:=(List.getElem?_eq_some_iff.1 hj).2
      have h2:=hcl j 0 (by rw[hlen];exact hjl) (by rw[hsz5];omega)
      have h3:=hRl j 0 (by rw[hlen];exact hjl) (by rw[hsz5];omega)
      rw[hnth j hjl] at h3
      simp only[AV.cells,nth] at h3
      rw[hsz5] at h2
      simp only[Nat.mul_one,Nat.add_zero,Nat.zero_add] at h2
      rw[h2]
      generalize xs j 0=q at h3
      cases h3
      rw[hx]
     ·rintro e w' ⟨rfl,rfl⟩
      have hfz:=qcn (w.drew) gb l.length
      refine fin _ ⟨hfz.1,hfz.2.1,hfz.2.2.1,Nat.le_of_eq hfz.2.2.2.symm,fun i hi hq=>?_⟩ hfz.2.2.1 fun i c t fr h=>?_
      ·rw[hv] at hq
       exact jbj (w:=w.drew) i (by rintro rfl;exact hq rfl)
      ·by_cases hi:i=gb
       ·subst hi
        exact yc6 (w:=w.drew) h
       ·exact⟨fr,(jbj (w:=w.drew) i hi).trans h⟩
end Go.AM
namespace Go.AM
open Go.Proofs
def SE(e:TypeId)(s:List UInt8)(z:Int)(p:AV)(cs:List AV)(m:Mode)(caps:List Int):St:=⟨[(1,[p,.slice e cs m]),(0,[.str s,.int .i64 z])],2,caps⟩
def SB(s:List UInt8)(z:Int)(p:AV)(cs:List AV)(m:Mode)(caps:List Int):St:=⟨[(1,[p,.slice 5 cs m]),(0,[.str s,.int .i64 z])],2,caps⟩
theorem Pl.fn102:FnOk Tryz.prog 102 (fni Tryz.f102 Pr.a102):=⟨⟨Tryz.f102,Tryz.func102,rfl,rfl,rfl,by kernel_rfl⟩,by kernel_rfl⟩
theorem Pl.fn103:FnOk Tryz.prog 103 (fni Tryz.f103 Pr.a103):=⟨⟨Tryz.f103,Tryz.func103,rfl,rfl,rfl,by kernel_rfl⟩,by kernel_rfl⟩
theorem Pl.fn104:FnOk Tryz.prog 104 (fni Tryz.f104 Pr.a104):=⟨⟨Tryz.f104,Tryz.func104,rfl,rfl,rfl,by kernel_rfl⟩,by kernel_rfl⟩
theorem ycd(s t:List UInt8)(z:Int)(ht:t.length≤1000000000)(K:Out→St→Prop)
 (hK:∀ n:Int,n=t.length→K (.ret (.tup [.int .i64 n,.nili])) (SB s z (.ptr 1 0) (avl t) (.own 0) [n])):jb Tryz.prog (Pr.tab real) 102 [.ptr 1 0,.str t] (SE 0 s z (.tnil 1 99) [] .exact []) K:=by
 apply ja (un:=0) Pr.tabOk Pr.mixed Pl.fn102 (nb rfl)
 apply qb (mk:=Pr.tab)
 intro _ _ _ _ _ len slen _ _ _ _ _ _ _ app _ _ _ _ _ _ _ _ _ room _ _ _ avs G
 have happ:app [] (avs t)=avl t:=by rw[G.app',G.avs'];rfl
 have hlen:len (avl t)=(t.length:Int):=by rw[G.len'];simp[avl]
 have hslen:slen t=(t.length:Int):=by rw[G.slen']
 have hroom:room (len (avl t)) 1=true:=by rw[hlen,G.room'];simp;omega
 have hk:=hK _ rfl
 generalize (t.length:Int)=n at *
 cbv
 refine G.c' (jbk 1 (.tnil 1 99) _ _ rfl (.inl rfl) _ ?_)
 cbv
 rw[happ]
 refine G.n' hroom ?_
 rw[hlen,hslen]
 exact hk
theorem vcy(s t b:List UInt8)(z:Int)(ht:t.length≤1000000000)(hb:b.length≤1000000000)(m:Int)(hm:m=b.length)(K:Out→St→Prop)
 (hK:∀ n k:Int,n=t.length→k=(b++t).length→K (.ret (.tup [.int .i64 n,.nili])) (SB s z (.ptr 1 0) (avl (b++t)) (.own 0) [k])):jb Tryz.prog (Pr.tab real) 102 [.ptr 1 0,.str t] (SB s z (.ptr 1 0) (avl b) (.own 0) [m]) K:=by
 apply ja (un:=0) Pr.tabOk Pr.mixed Pl.fn102 (nb rfl)
 apply qb (mk:=Pr.tab)
 intro _ _ _ _ _ len slen _ _ cmp _ _ _ _ app _ _ _ _ _ _ _ _ _ room _ _ _ avs G
 have happ:app (avl b) (avs t)=avl (b++t):=by rw[G.app',G.avs'];simp[avl]
 have hlen:len (avl (b++t))=((b++t).length:Int):=by rw[G.len'];simp[avl]
 have hlen2:cmp BinOp.eql m (len (avl b))=true:=by rw[G.cmp',G.len',hm];simp[vb,avl]
 have hslen:slen t=(t.length:Int):=by rw[G.slen']
 have hroom:room (len (avl (b++t))) 1=true:=by rw[hlen,G.room'];simp;omega
 have hk:=hK _ _ rfl rfl
 generalize (t.length:Int)=n at *
 generalize ((b++t).length:Int)=n2 at *
 generalize avl b=cb at *
 generalize avl (b++t)=cbt at *
 cbv
 refine G.c' (jbk 1 (.ptr 1 0) _ _ rfl (.inr rfl) _ ?_)
 cbv
 rw[happ]
 refine G.n' hroom ?_
 refine G.n' hlen2 ?_
 rw[hlen,hslen]
 exact hk
theorem ydu(s b:List UInt8)(z:Int)(x:UInt8)(y:Int)(hy:y=x.toNat)(hb:b.length≤1000000000)(m:Int)(hm:m=b.length)(K:Out→St→Prop)
 (hK:∀ k:Int,k=(b++[x]).length→K (.ret .nili) (SB s z (.ptr 1 0) (avl (b++[x])) (.own 0) [k])):jb Tryz.prog (Pr.tab real) 103 [.ptr 1 0,.int .u8 y] (SB s z (.ptr 1 0) (avl b) (.own 0) [m]) K:=by
 apply ja (un:=0) Pr.tabOk Pr.mixed Pl.fn103 (nb rfl)
 apply qb (mk:=Pr.tab)
 intro _ _ _ _ _ len _ _ _ cmp _ _ _ _ app _ _ _ _ _ _ _ _ _ room _ _ _ _ G
 have happ:app (avl b) [.int .u8 y]=avl (b++[x]):=by rw[G.app',hy];simp[avl]
 have hlen:len (avl (b++[x]))=((b++[x]).length:Int):=by rw[G.len'];simp[avl]
 have hlen2:cmp BinOp.eql m (len (avl b))=true:=by rw[G.cmp',G.len',hm];simp[vb,avl]
 have hroom:room (len (avl (b++[x]))) 1=true:=by rw[hlen,G.room'];simp;omega
 have hk:=hK _ rfl
 generalize ((b++[x]).length:Int)=n2 at *
 generalize avl b=cb at *
 generalize avl (b++[x])=cbt at *
 cbv
 refine G.c' (jbk 1 (.ptr 1 0) _ _ rfl (.inr rfl) _ ?_)
 cbv
 rw[happ]
 refine G.n' rfl (G.n' hroom (G.n' hlen2 ?_))
 rw[hlen]
 exact hk
theorem vd7(s b:List UInt8)(z:Int)(p:AV)(m:Mode)(caps:List Int)(K:Out→St→Prop)
 (hK:∀ k:Int,k=b.length→K (.ret (.int .i64 k)) (SB s z p (avl b) m caps)):jb Tryz.prog (Pr.tab real) 104 [.ptr 1 0] (SB s z p (avl b) m caps) K:=by
 apply ja (un:=0) Pr.tabOk Pr.mixed Pl.fn104 (nb rfl)
 apply qb (mk:=Pr.tab)
 intro _ _ _ _ _ len _ _ _ _ _ _ _ _ _ _ _ _ _ _ _ _ _ _ _ _ _ _ _ G
 have hlen:len (avl b)=(b.length:Int):=by rw[G.len'];simp[avl]
 have hk:=hK _ rfl
 generalize (b.length:Int)=n at *
 generalize avl b=cb at *
 cbv
 rw[hlen]
 exact hk
end Go.AM
