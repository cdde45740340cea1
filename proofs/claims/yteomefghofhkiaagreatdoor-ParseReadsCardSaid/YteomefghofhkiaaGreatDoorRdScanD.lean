/- The two scanners in plain words. -/
import Derived.Test.YteomefghofhkiaaGreatDoorRdScanC
set_option maxRecDepth 100000
set_option linter.unusedVariables false
namespace Go.AM
open Go.Proofs
theorem qag(s:List UInt8)(i:Nat)(h:i<s.length):s.drop i=s.getD i 0::s.drop (i+1):=by
 rw[List.drop_eq_getElem_cons h];simp[List.getD_eq_getElem?_getD,h]
theorem jaz(q:UInt8→Bool)(s:List UInt8)(i:Nat)(h:i<s.length)(hq:q (s.getD i 0)=false):scan q s i=i:=by
 unfold scan;rw[qag s i h,List.takeWhile_cons,hq];simp
theorem jbx(q:UInt8→Bool)(s:List UInt8)(i:Nat)(h:s.length≤i):scan q s i=i:=by
 unfold scan;rw[List.drop_eq_nil_of_le h];simp
theorem xaq(q:UInt8→Bool)(s:List UInt8)(i:Nat)(h:i<s.length)(hq:q (s.getD i 0)=true):scan q s i=scan q s (i+1):=by
 unfold scan;rw[qag s i h,List.takeWhile_cons,hq];simp;omega
theorem yei(q:UInt8→Bool)(s:List UInt8):∀(n i:Nat),i+n=s.length→scan q s i<s.length→q (s.getD (scan q s i) 0)=false:=by
 intro n
 induction n with
 |zero=>intro i hi h;rw[jbx q s i (by omega)] at h;omega
 |succ n ih=>
  intro i hi h
  have hlt:i<s.length:=by omega
  cases hq:q (s.getD i 0) with
  |false=>rw[jaz q s i hlt hq];exact hq
  |true=>rw[xaq q s i hlt hq] at h ⊢;exact ih (i+1) (by omega) h
theorem qc2(s:List UInt8)(n:Nat):∀(i m:Nat) (b:List UInt8) (ok:Bool),i+n=s.length→ju s (m+((s.drop i).takeWhile notQ).length) i b ok =
 ju s m (scan notQ s i) (b++(s.drop i).takeWhile notQ) (ok && ((s.drop i).takeWhile notQ).all ja6):=by
 induction n with
 |zero=>
  intro i m b ok hi
  rw[jbx notQ s i (by omega),List.drop_eq_nil_of_le (by omega)]
  simp
 |succ n ih=>
  intro i m b ok hi
  have hlt:i<s.length:=by omega
  cases hq:notQ (s.getD i 0) with
  |false=>
   rw[jaz notQ s i hlt hq,qag s i hlt,List.takeWhile_cons,hq]
   simp
  |true=>
   rw[xaq notQ s i hlt hq,qag s i hlt,List.takeWhile_cons,hq]
   simp only[if_true,List.length_cons,List.all_cons]
   have h39:(s.getD i 0 == 39)=false:=by simpa[notQ,bne] using hq
   rw[← Nat.add_assoc]
   rw[ju,decide_eq_true hlt,h39]
   simp only
   rw[ih (i+1) m _ _ (by omega)]
   simp[Bool.and_assoc]
def up:List UInt8 × Bool × Nat→List UInt8 × Bool × Nat:=fun r=>(r.1,r.2.1,r.2.2+1)
theorem yeg(s:List UInt8)(n:Nat):∀(i m:Nat) (b:List UInt8) (ok:Bool),i≤s.length→s.length-i<n→s.length-i<m→txtN s n i b ok=(ju s m i b ok).map up:=by
 induction n with
 |zero=>intro i m b ok hi hn;omega
 |succ n ih=>
  intro i m b ok hi hn hm
  have hjb:=xr notQ s i hi
  have hjp:scan notQ s i=i+((s.drop i).takeWhile notQ).length:=rfl
  obtain⟨m',hm'⟩:∃ m',m=m'+1+((s.drop i).takeWhile notQ).length:=⟨m-1-((s.drop i).takeWhile notQ).length,by omega⟩
  rw[hm',qc2 s (s.length-i) i (m'+1) b ok (by omega)]
  unfold txtN
  rw[ju]
  generalize hpart:(s.drop i).takeWhile notQ=part at *
  generalize hj:scan notQ s i=j at *
  by_cases hend:j=s.length
  ·have e:decide (j<s.length)=false:=decide_eq_false (by omega)
   rw[decide_eq_true hend,e];rfl
  ·have hlt:j<s.length:=by omega
   rw[decide_eq_false hend,decide_eq_true hlt]
   have hq:=yei notQ s (s.length-i) i (by omega) (by rw[hj];exact hlt)
   rw[hj] at hq
   have h39:(s.getD j 0 == 39)=true:=by simpa[notQ,bne] using hq
   rw[h39]
   simp only
   have hc:(decide (j+1=s.length) || s.getD (j+1) 0 != 39)= !(decide (j+1<s.length) && s.getD (j+1) 0 == 39):=by
    by_cases h1:j+1=s.length
    ·rw[decide_eq_true h1,decide_eq_false (by omega)];rfl
    ·rw[decide_eq_false h1,decide_eq_true (by omega)];simp[bne]
   rw[hc]
   cases hd:(decide (j+1<s.length) && s.getD (j+1) 0 == 39) with
   |false=>rfl
   |true=>
    have h2:j+1<s.length:=by simp only[Bool.and_eq_true,decide_eq_true_eq] at hd;exact hd.1
    exact ih (j+2) m' _ _ (by omega) (by omega) (by omega)
theorem vd5(s:List UInt8)(i:Nat)(hi:i<s.length):(jl s i).2.1=(yq s i).2.2∧((jl s i).2.1=jf→(jl s i).1=(yq s i).1∧(jl s i).2.2=i+(yq s i).2.1):=by
 unfold jl yq
 cases h1:ve (s.getD i 0) with
 |true=>
  simp only
  unfold xeg zau
  cases decide (32<((s.drop i).takeWhile xj).length) with
  |true=>exact⟨rfl,fun h=>by simp[zf,jf] at h⟩
  |false=>exact⟨rfl,fun _=>⟨rfl,rfl⟩⟩
 |false=>
  simp only
  cases h2:jc (s.getD i 0) with
  |true=>
   simp only
   unfold numR ja5
   by_cases hd:xf 0 ((s.drop i).takeWhile jc)<9223372036854775808
   ·have e:decide (9223372036854775808≤xf 0 ((s.drop i).takeWhile jc))=false:=decide_eq_false (by omega)
    rw[decide_eq_true hd,e]
    simp only
    cases (decide (scan jc s i<s.length) && ve (s.getD (scan jc s i) 0)) with
    |true=>exact⟨rfl,fun h=>by simp[zf,jf] at h⟩
    |false=>exact⟨rfl,fun _=>⟨rfl,rfl⟩⟩
   ·have e:decide (9223372036854775808≤xf 0 ((s.drop i).takeWhile jc))=true:=decide_eq_true (by omega)
    rw[decide_eq_false hd,e]
    exact⟨rfl,fun h=>by simp[ja8,jf] at h⟩
  |false=>
   simp only
   cases h3:(s.getD i 0 == 39) with
   |true=>
    simp only
    unfold qax jau
    rw[yeg s (s.length+1) (i+1) (s.length+1) [] true (by omega) (by omega) (by omega)]
    cases hr:ju s (s.length+1) (i+1) [] true with
    |none=>exact⟨rfl,fun h=>by simp[zf,jf] at h⟩
    |some r=>
     obtain⟨b,ok,k⟩:=r
     have hk:=ybf s _ _ _ _ _ _ _ hr
     simp only[Option.map_some,up,jbd]
     cases ok with
     |false=>exact⟨rfl,fun h=>by simp[zf,jf] at h⟩
     |true=>
      simp only
      cases decide (400<b.length) with
      |true=>exact⟨rfl,fun h=>by simp[jah,jf] at h⟩
      |false=>exact⟨rfl,fun _=>⟨rfl,by simp only;omega⟩⟩
   |false=>
    simp only
    unfold xau
    cases js s i Pr.signs with
    |none=>exact⟨rfl,fun h=>by simp[ydg,zf,jf] at h⟩
    |some x=>exact⟨rfl,fun _=>⟨rfl,rfl⟩⟩
theorem vc0(s:List UInt8)(n:Nat):∀(m i:Nat),i≤s.length→s.length-i<n→s.length-i<m→zq s n i=zq s m i:=by
 induction n with
 |zero=>intro m i hi hn;omega
 |succ n ih=>
  intro m i hi hn hm
  obtain⟨m',rfl⟩:∃ m',m=m'+1:=⟨m-1,by omega⟩
  unfold zq
  have h1:=xr zi s i hi
  cases hp:[45,45].isPrefixOf (s.drop (scan zi s i)) with
  |false=>rfl
  |true=>
   have h2:=va6 s _ hp
   have h3:=xr yl s (scan zi s i) h1.2
   exact ih m' _ h3.2 (by omega) (by omega)
theorem vdz(s:List UInt8)(n:Nat):zq s (n+1) s.length=s.length:=by
 unfold zq
 rw[jbx zi s _ (Nat.le_refl _)]
 rw[List.drop_eq_nil_of_le (Nat.le_refl _)]
 rfl
theorem zdf(s:List UInt8)(n i:Nat)(hi:i<s.length)(h:jz s i=0):zq s (n+1) i=i:=by
 unfold jz at h
 cases hb:zi (s.getD i 0) with
 |true=>rw[hb] at h;cases h
 |false=>
  rw[hb] at h
  unfold zq
  rw[jaz zi s i hi hb]
  cases hp:[45,45].isPrefixOf (s.drop i) with
  |false=>rfl
  |true=>
   rw[hp] at h
   have:=va6 s i hp
   have h0:i+2≤s.length:=by
    have hpre:[45,45] <+: s.drop i:=List.isPrefixOf_iff_prefix.1 hp
    have hl:=hpre.length_le
    simp at hl
    omega
   have:=xr yl s (i+2) h0
   simp only at h
   omega
theorem zew(s:List UInt8)(i:Nat)(h:[45,45].isPrefixOf (s.drop i)=true):i+2≤s.length∧s.getD i 0=45∧s.getD (i+1) 0=45:=by
 have hpre:[45,45] <+: s.drop i:=List.isPrefixOf_iff_prefix.1 h
 have hl:=hpre.length_le
 simp at hl
 have h0:i<s.length:=by omega
 have h1:i+1<s.length:=by omega
 rw[qag s i h0,qag s (i+1) h1] at hpre
 obtain⟨t,ht⟩:=hpre
 simp only[List.cons_append,List.nil_append,List.cons.injEq] at ht
 exact⟨by omega,ht.1.symm,ht.2.1.symm⟩
theorem vei(s:List UInt8)(i:Nat)(hi:i<s.length)(h:0<jz s i):zq s (s.length+1) i=zq s (s.length+1) (i+jz s i):=by
 have hle:=jbl s i hi
 unfold jz at h hle ⊢
 cases hb:zi (s.getD i 0) with
 |true=>
  simp only
  unfold zq
  rw[xaq zi s i hi hb]
 |false=>
  rw[hb] at h hle
  cases hp:[45,45].isPrefixOf (s.drop i) with
  |false=>rw[hp] at h;simp at h
  |true=>
   rw[hp] at h hle
   simp only at h hle ⊢
   obtain⟨h0,h1,h2⟩:=zew s i hp
   have e1:scan yl s i=scan yl s (i+2):=by
    rw[xaq yl s i hi (by rw[h1];rfl),xaq yl s (i+1) (by omega) (by rw[h2];rfl)]
   have h3:=xr yl s (i+2) h0
   rw[show i+(scan yl s (i+2)-i)=scan yl s (i+2) by omega]
   conv=>lhs;unfold zq
   rw[jaz zi s i hi hb,hp]
   simp only
   rw[e1]
   exact vc0 s _ _ _ h3.2 (by omega) (by omega)
theorem zd1(s:List UInt8)(d:Nat):∀(p n m:Nat) (acc:List Tk),p≤s.length→s.length-p<d→s.length-p<n→s.length-p<m→acc.length≤600→refN s m p acc=yai s n (zq s (s.length+1) p) acc:=by
 induction d with
 |zero=>intro p n m acc hp hd;omega
 |succ d ih=>
  intro p n m acc hp hd hn hm hacc
  obtain⟨n',rfl⟩:∃ n',n=n'+1:=⟨n-1,by omega⟩
  obtain⟨m',rfl⟩:∃ m',m=m'+1:=⟨m-1,by omega⟩
  by_cases hend:p=s.length
  ·subst hend
   have e:decide (s.length<s.length)=false:=decide_eq_false (by omega)
   rw[vdz,refN,yai,e]
  ·have hlt:p<s.length:=by omega
   by_cases hb:0<jz s p
   ·have hle:=jbl s p hlt
    rw[vei s p hlt hb]
    rw[refN,decide_eq_true hlt,decide_eq_true hb]
    simp only
    exact ih _ (n'+1) m' acc hle (by omega) (by omega) (by omega) hacc
   ·rw[zdf s s.length p hlt (by omega)]
    rw[refN,yai,decide_eq_true hlt,decide_eq_false hb]
    obtain⟨e1,e2⟩:=vd5 s p hlt
    have hle:=jbr s p hlt
    rw[e1] at e2 ⊢
    simp only
    cases hs:((yq s p).2.2 == jf) with
    |false=>rfl
    |true=>
     have hsd:(yq s p).2.2=jf:=by simpa using hs
     obtain⟨e3,e4⟩:=e2 hsd
     have hle:=hle hsd
     simp only
     by_cases h6:acc.length=600
     ·have e:decide (600≤acc.length)=true:=decide_eq_true (by omega)
      rw[decide_eq_true h6,e]
     ·have e:decide (600≤acc.length)=false:=decide_eq_false (by omega)
      rw[decide_eq_false h6,e]
      simp only
      rw[e3,e4]
      exact ih _ n' m' _ hle.2 (by omega) (by omega) (by omega) (by simp;omega)
theorem yel(s:List UInt8):ze s=vr s:=by
 unfold ze vr
 cases decide (2000<s.length) with
 |true=>rfl
 |false=>
  simp only
  rw[zd1 s (s.length+1) 0 (s.length+1) (s.length+1) [] (by omega) (by omega) (by omega) (by omega) (by simp)]
  rfl
theorem ydh(s:List UInt8)(n:Nat):∀(p:Nat) (acc l:List Tk),acc.length≤600→yai s n p acc= .inl l→l.length≤600:=by
 induction n with
 |zero=>intro p acc l _ h;cases h
 |succ n ih=>
  intro p acc l hacc h
  unfold yai at h
  cases h1:decide (p<s.length) with
  |false=>rw[h1] at h;simp only[Sum.inl.injEq] at h;rw[← h];exact hacc
  |true=>
   rw[h1] at h
   cases h2:((jl s p).2.1 == jf) with
   |false=>rw[h2] at h;cases h
   |true=>
    rw[h2] at h
    cases h3:decide (acc.length=600) with
    |true=>rw[h3] at h;cases h
    |false=>
     rw[h3] at h
     have:=of_decide_eq_false h3
     exact ih _ _ l (by simp;omega) h
theorem zcl(s:List UInt8):(ze s).1.length≤600:=by
 unfold ze
 cases decide (2000<s.length) with
 |true=>simp
 |false=>
  simp only
  cases h:yai s (s.length+1) (zq s (s.length+1) 0) [] with
  |inl l=>exact ydh s _ _ _ l (by simp) h
  |inr st=>simp
end Go.AM
namespace Go.AM
open Go.Proofs
def skip(s:List UInt8)(i:Nat):Nat:=zq s (s.length+1) i
theorem jbe(s:List UInt8)(i:Nat)(h:i≤s.length):i≤skip s i∧skip s i≤s.length:=xbw s _ i h
def runN(s:List UInt8):Nat→Nat→Option (List Tk)
 | 0,_=>none
 |n+1,p=>match decide (p<s.length) with
  |false=>some []
  |true=>match (jl s p).2.1 == jf with
   |false=>none
   |true=>(runN s n (skip s (jl s p).2.2)).map ((jl s p).1:: ·)
theorem xdi(s:List UInt8)(n:Nat):∀ m p,p≤s.length→s.length-p<n→s.length-p<m→runN s n p=runN s m p:=by
 induction n with
 |zero=>intro m p hp hn;omega
 |succ n ih=>
  intro m p hp hn hm
  obtain⟨m',rfl⟩:∃ m',m=m'+1:=⟨m-1,by omega⟩
  unfold runN
  by_cases hlt:p<s.length
  ·rw[decide_eq_true hlt]
   simp only
   cases hs:((jl s p).2.1 == jf) with
   |false=>rfl
   |true=>
    simp only
    have hl:=zbh s p hlt (by simpa using hs)
    have hk:=jbe s (jl s p).2.2 hl.2
    rw[ih m' _ hk.2 (by omega) (by omega)]
  ·rw[decide_eq_false hlt]
def run(s:List UInt8)(p:Nat):Option (List Tk):=runN s (s.length+1) p
theorem ycq(s:List UInt8)(p:Nat)(h:p<s.length):run s p=match (jl s p).2.1 == jf with
 |false=>none
 |true=>(run s (skip s (jl s p).2.2)).map ((jl s p).1:: ·):=by
 unfold run
 conv=>lhs;unfold runN
 rw[decide_eq_true h]
 simp only
 cases hs:((jl s p).2.1 == jf) with
 |false=>rfl
 |true=>
  have hl:=zbh s p h (by simpa using hs)
  have hk:=jbe s (jl s p).2.2 hl.2
  simp only
  rw[xdi s s.length (s.length+1) _ hk.2 (by omega) (by omega)]
theorem jdi(s:List UInt8):run s s.length=some []:=by
 unfold run runN
 rw[decide_eq_false (by omega)]
theorem jd1(s:List UInt8)(n:Nat):∀(p:Nat) (acc:List Tk),p≤s.length→s.length-p<n→acc.length≤600 →
 (∀ l,yai s n p acc= .inl l↔∃ l',run s p=some l'∧l=acc++l'∧l.length≤600)∧(∀ st,yai s n p acc= .inr st→st≠jf):=by
 induction n with
 |zero=>intro p acc hp hn;omega
 |succ n ih=>
  intro p acc hp hn hacc
  by_cases hlt:p<s.length
  ·rw[ycq s p hlt,yai,decide_eq_true hlt]
   simp only
   cases hs:((jl s p).2.1 == jf) with
   |false=>
    simp only
    refine⟨fun l=>⟨fun h=>(by cases h),fun⟨l',h,_⟩=>(by cases h)⟩,fun st h=>?_⟩
    simp only[Sum.inr.injEq] at h
    rw[← h]
    simpa using hs
   |true=>
    have hl:=zbh s p hlt (by simpa using hs)
    have hk:=jbe s (jl s p).2.2 hl.2
    simp only
    by_cases h6:acc.length=600
    ·rw[decide_eq_true h6]
     refine⟨fun l=>⟨fun h=>(by cases h),?_⟩,fun st h=>?_⟩
     ·rintro⟨l',h,he,hle⟩
      simp only[Option.map_eq_some_iff] at h
      obtain⟨l2,_,rfl⟩:=h
      rw[he] at hle
      simp at hle
      omega
     ·simp only[Sum.inr.injEq] at h
      rw[← h]
      decide
    ·rw[decide_eq_false h6]
     simp only
     obtain⟨h1,h2⟩:=ih (skip s (jl s p).2.2) (acc++[(jl s p).1]) hk.2 (by omega) (by simp;omega)
     refine⟨fun l=>?_,h2⟩
     have:=h1 l
     rw[show zq s (s.length+1) (jl s p).2.2=skip s (jl s p).2.2 from rfl,this]
     constructor
     ·rintro⟨l',h,he,hle⟩
      exact⟨_::l',by rw[h];rfl,by rw[he];simp,hle⟩
     ·rintro⟨l',h,he,hle⟩
      simp only[Option.map_eq_some_iff] at h
      obtain⟨l2,h,rfl⟩:=h
      exact⟨l2,h,by rw[he];simp,hle⟩
  ·have:p=s.length:=by omega
   subst this
   rw[jdi,yai,decide_eq_false hlt]
   refine⟨fun l=>⟨fun h=>?_,?_⟩,fun st h=>(by cases h)⟩
   ·simp only[Sum.inl.injEq] at h
    exact⟨[],rfl,by rw[← h];simp,by rw[← h];exact hacc⟩
   ·rintro⟨l',h,he,hle⟩
    simp only[Option.some.injEq] at h
    subst h
    rw[he];simp
theorem zas(s:List UInt8):((ze s).2=jf↔s.length≤2000∧∃ l,run s (skip s 0)=some l∧l.length≤600)∧((ze s).2=jf→run s (skip s 0)=some (ze s).1)∧((ze s).2≠jf→(ze s).1=[]):=by
 have hk:=jbe s 0 (Nat.zero_le _)
 obtain⟨h1,h2⟩:=jd1 s (s.length+1) (skip s 0) [] hk.2 (by omega) (by simp)
 unfold ze
 by_cases hb:2000<s.length
 ·rw[decide_eq_true hb]
  refine⟨⟨fun h=>by simp[zap,jf] at h,fun⟨h,_⟩=>by omega⟩,fun h=>by simp[zap,jf] at h,fun _=>rfl⟩
 ·rw[decide_eq_false hb]
  simp only
  rw[show zq s (s.length+1) 0=skip s 0 from rfl]
  cases hq:yai s (s.length+1) (skip s 0) [] with
  |inl l=>
   obtain⟨l',h3,h4,h5⟩:=(h1 l).1 hq
   simp only[List.nil_append] at h4
   subst h4
   exact⟨⟨fun _=>⟨by omega,l,h3,h5⟩,fun _=>rfl⟩,fun _=>h3,fun h=>absurd rfl h⟩
  |inr st=>
   refine⟨⟨fun h=>absurd h (h2 st hq),?_⟩,fun h=>absurd h (h2 st hq),fun _=>rfl⟩
   rintro⟨_,l,h3,h4⟩
   have:=(h1 l).2 ⟨l,h3,rfl,h4⟩
   rw[hq] at this
   cases this
end Go.AM
namespace Go.AM
open Go.Proofs
theorem yeb(q:UInt8→Bool):∀(l:List UInt8) (c:UInt8),c ∈ l.takeWhile q→q c=true
 | [],c,h=>by simp at h
 |x::l,c,h=>by
  rw[List.takeWhile_cons] at h
  cases hx:q x with
  |false=>rw[hx] at h;simp at h
  |true=>
   rw[hx] at h
   simp only[if_true,List.mem_cons] at h
   rcases h with rfl|h
   ·exact hx
   ·exact yeb q l c h
inductive TokIs (s:List UInt8) (i:Nat):Tk→Nat→Prop
 |word (w:List UInt8) (hw:w=(s.drop i).takeWhile xj) (hl:ve (s.getD i 0)=true) (h32:w.length≤32):TokIs s i ⟨0,w.map low,0,i⟩ (i+w.length)
 |num (hd:jc (s.getD i 0)=true) (v:Nat) (hv:v<9223372036854775808):TokIs s i ⟨1,[],v,i⟩ (scan jc s i)
 |text (b:List UInt8) (j:Nat) (hb:txtN s (s.length+1) (i+1) [] true=some (b,true,j)) (h4:b.length≤400):TokIs s i ⟨2,b,0,i⟩ j
 |sign (x:List UInt8) (hx:x ∈ Pr.signs) (hp:x.isPrefixOf (s.drop i)=true):TokIs s i ⟨3,x,0,i⟩ (i+x.length)
theorem yeo(s:List UInt8)(i:Nat)(hi:i<s.length)(h:(jl s i).2.1=jf):TokIs s i (jl s i).1 (jl s i).2.2:=by
 unfold jl at h ⊢
 cases h1:ve (s.getD i 0) with
 |true=>
  rw[h1] at h
  simp only at h ⊢
  unfold xeg at h ⊢
  cases h3:decide (32<((s.drop i).takeWhile xj).length) with
  |true=>rw[h3] at h;simp[zf,jf] at h
  |false=>exact .word _ rfl h1 (by have:=of_decide_eq_false h3;omega)
 |false=>
  rw[h1] at h
  cases h2:jc (s.getD i 0) with
  |true=>
   rw[h2] at h
   simp only at h ⊢
   unfold numR at h ⊢
   cases h3:decide (xf 0 ((s.drop i).takeWhile jc)<9223372036854775808) with
   |false=>rw[h3] at h;simp[ja8,jf] at h
   |true=>exact .num h2 _ (of_decide_eq_true h3)
  |false=>
   rw[h2] at h
   cases h3:(s.getD i 0 == 39) with
   |true=>
    rw[h3] at h
    simp only at h ⊢
    unfold qax at h ⊢
    cases ht:txtN s (s.length+1) (i+1) [] true with
    |none=>rw[ht] at h;simp[zf,jf] at h
    |some r=>
     obtain⟨b,ok,j⟩:=r
     rw[ht] at h
     simp only at h ⊢
     cases ok with
     |false=>simp[jbd,zf,jf] at h
     |true=>
      simp only[jbd] at h
      cases h4:decide (400<b.length) with
      |true=>rw[h4] at h;simp[jah,jf] at h
      |false=>exact .text b j ht (by have:=of_decide_eq_false h4;omega)
   |false=>
    rw[h3] at h
    simp only at h ⊢
    cases ho:js s i Pr.signs with
    |none=>rw[ho] at h;simp[ydg,zf,jf] at h
    |some x=>
     have hp:=List.find?_some ho
     exact .sign x (List.mem_of_find?_eq_some ho) hp
inductive Chain (s:List UInt8):Nat→List Tk→Prop
 |nil (p:Nat):Chain s p []
 |cons (p:Nat) (t:Tk) (l:List Tk) (j:Nat) (hlt:skip s p<s.length) (ht:TokIs s (skip s p) t j) (hj:skip s p<j) (hle:j≤s.length) (h:Chain s j l):Chain s p (t::l)
theorem xd9(s:List UInt8)(n:Nat):∀ p l,p≤s.length→s.length-p<n→run s (skip s p)=some l→Chain s p l:=by
 induction n with
 |zero=>intro p l hp hn;omega
 |succ n ih=>
  intro p l hp hn h
  have hk:=jbe s p hp
  by_cases hlt:skip s p<s.length
  ·rw[ycq s _ hlt] at h
   cases hs:((jl s (skip s p)).2.1 == jf) with
   |false=>rw[hs] at h;cases h
   |true=>
    rw[hs] at h
    have hsd:(jl s (skip s p)).2.1=jf:=by simpa using hs
    have hl:=zbh s _ hlt hsd
    simp only[Option.map_eq_some_iff] at h
    obtain⟨l',h1,rfl⟩:=h
    exact .cons p _ l' _ hlt (yeo s _ hlt hsd) hl.1 hl.2 (ih _ _ hl.2 (by omega) h1)
  ·have:skip s p=s.length:=by omega
   rw[this,jdi] at h
   simp only[Option.some.injEq] at h
   subst h
   exact .nil p
theorem jb9(s:List UInt8)(h:(ze s).2=jf):s.length≤2000∧(ze s).1.length≤600∧Chain s 0 (ze s).1:=by
 obtain⟨h1,h2,_⟩:=zas s
 exact⟨(h1.1 h).1,zcl s,xd9 s (s.length+1) 0 _ (by omega) (by omega) (h2 h)⟩
end Go.AM
