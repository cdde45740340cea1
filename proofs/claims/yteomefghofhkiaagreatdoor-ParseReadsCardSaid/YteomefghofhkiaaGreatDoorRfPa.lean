/- The document's reader: how it is told, its least functions, its grammar. -/
import Derived.Test.YteomefghofhkiaaGreatDoorRdN
import Derived.Test.YteomefghofhkiaaGreatDoorRdB
set_option maxRecDepth 100000
set_option maxHeartbeats 4000000
set_option linter.unusedVariables false
set_option linter.unusedSimpArgs false
namespace Go.AM.Rf
open Go.Proofs Go.AM.Ps
abbrev M(α:Type):=Nat→Bool→Option (α × Nat × Bool)
def W{α:Type}(m:M α)(z:Nat)(b:Bool)(Q:α→Nat→Bool→Prop):Prop:=∃ a z' b',m z b=some (a,z',b')∧Q a z' b'
theorem W.mono{α:Type}{m:M α}{z:Nat}{b:Bool}{Q Q':α→Nat→Bool→Prop}(h:W m z b Q)(hq:∀ a z' b',Q a z' b'→Q' a z' b'):W m z b Q':=by
 obtain⟨a,z',b',h1,h2⟩:=h
 exact⟨a,z',b',h1,hq _ _ _ h2⟩
def bd{α β:Type}(m:M α)(f:α→M β):M β:=fun z b=>match m z b with
 |none=>none
 |some (a,z',b')=>f a z' b'
def rt{α:Type}(a:α):M α:=fun z b=>some (a,z,b)
theorem W.bd{α β:Type}{m:M α}{f:α→M β}{z:Nat}{b:Bool}{Q:β→Nat→Bool→Prop}(h:W (bd m f) z b Q):W m z b fun a z' b'=>W (f a) z' b' Q:=by
 obtain⟨c,z',b',h1,h2⟩:=h
 unfold Rf.bd at h1
 cases hm:m z b with
 |none=>rw[hm] at h1;cases h1
 |some r=>
  obtain⟨a,z1,b1⟩:=r
  rw[hm] at h1
  exact⟨a,z1,b1,hm,c,z',b',h1,h2⟩
theorem W.rt{α:Type}{a:α}{z:Nat}{b:Bool}{Q:α→Nat→Bool→Prop}(h:W (rt a) z b Q):Q a z b:=by
 obtain⟨_,_,_,h1,h2⟩:=h
 obtain⟨rfl,rfl,rfl⟩:_∧_∧_:=by simpa[Rf.rt] using h1
 exact h2
def row(t:List Tk)(y:Int)(b:Bool):List AV:=[tokV t,.int .i64 y,.bool b]
theorem vdi(f h:Nat→Option Nat)(t:List Tk)(y:Int)(b:Bool):renL f h (row t y b)=row t y b:=by
 unfold row;simp only[renL,vcp];rfl
def Ok{α:Type}(t:List Tk)(f:FuncId)(args:List AV)(m:M α)(av:α→AV):Prop:=
 ∀(z:Nat) (b:Bool) (y:Int) (S:St) (o:Nat) (K:Out→St→Prop),y=z→S.row o=row t y b→z≤t.length→o<S.next →
  W m z b (fun a z' b'=>z'≤t.length→∀ y':Int,y'=z'→K (.ret (av a)) (S.set o (row t y' b')))→jb Tryz.prog (Pr.tab real) f (.ptr o 0::args) S K
theorem Ok.of{α:Type}{t:List Tk}{f:FuncId}{args:List AV}{m:M α}{av:α→AV}(hargs:∀ f h,renL f h args=args)(hav:∀ a f h,(av a).ren f h=av a)
 (hc:∀(z:Nat) (b:Bool) (y:Int) (K:Out→St→Prop),y=z→z≤t.length→W m z b (fun a z' b'=>∀(y':Int) v S',y'=z'→z'≤t.length→Sub (Pr.tab real) v (av a)→S'.row 0=row t y' b'→1≤S'.next→K (.ret v) S') →
   jb Tryz.prog (Pr.tab real) f (.ptr 0 0::args) ⟨[(0,row t y b)],1,[]⟩ K):Ok t f args m av:=by
 intro z b y S o K hy hrow hz ho hW
 obtain⟨a,z',b',hm,hK⟩:=hW
 have hptr:AM.one o 0 o=some 0:=vo.2 ⟨rfl,rfl⟩
 have hc2:jb Tryz.prog (Pr.tab real) f (.ptr 0 0::args) ⟨[(0,row t y b)],1,[]⟩ fun out S'=>∃ y':Int,out= .ret (av a)∧S'.row 0=row t y' b'∧1≤S'.next∧z'≤t.length∧y'=z':=
  jb.sub (hc z b y _ hy hz ⟨a,z',b',hm,fun y' v S' hy' hz' hv hr hn=>⟨.ret (av a),.ret _ _ hv,y',rfl,hr,hn,hz',hy'⟩⟩)
 refine xbj ho (by rw[hrow];simp[row]) (K0:=fun out S'=>∃ y':Int,out= .ret (av a)∧S'.row 0=row t y' b'∧1≤S'.next∧z'≤t.length∧y'=z') ?_ ?_
 ·rw[hrow,vdi]
  simp only[renL,AV.ren,hptr]
  rw[hargs]
  exact hc2
 ·rintro out0 S0' ⟨y',rfl,hr,hn,hz',hy'⟩
  refine⟨hn,?_⟩
  rw[hr,vdi]
  show K (.ret ((av a).ren _ _)) _
  rw[hav]
  exact hK hz' y' hy'
def isT(t:List Tk)(on:Nat)(s:List UInt8):M Bool:=fun z b=>some (!b && sees t (z+on) s,z,b)
def got(t:List Tk)(s:List UInt8):M Bool:=fun z b=>match !b && sees t z s with
 |true=>some (true,z+1,b)
 |false=>some (false,z,b)
def must(t:List Tk)(s:List UInt8):M Unit:=fun z b=>match !b && sees t z s with
 |true=>some ((),z+1,b)
 |false=>some ((),z,true)
def namedT(t:List Tk)(on:Nat):M Bool:=fun z b=>some (!b && Ps.isName qa t (z+on),z,b)
def name(t:List Tk):M (List UInt8):=fun z b=>match !b && Ps.isName qa t z with
 |true=>some (Ps.textAt t z,z+1,b)
 |false=>some ([],z,true)
def kindT(t:List Tk)(k:Int):M Bool:=fun z b=>some (!b && Ps.isKind t k z,z,b)
def number(t:List Tk):M Int:=fun z b=>match !b && Ps.isKind t 1 z with
 |true=>some (Ps.numAt t z,z+1,b)
 |false=>some (0,z,true)
end Go.AM.Rf
namespace Go.AM.Rf
open Go.Proofs Go.AM.Ps
theorem Rf.fn50:FnOk Tryz.prog 50 (fni Tryz.f50 Pr.a50):=⟨⟨Tryz.f50,Tryz.func50,rfl,rfl,rfl,by kernel_rfl⟩,by kernel_rfl⟩
theorem Rf.fn24:FnOk Tryz.prog 24 (fni Tryz.f24 Pr.a24):=⟨⟨Tryz.f24,Tryz.func24,rfl,rfl,rfl,by kernel_rfl⟩,by kernel_rfl⟩
theorem Rf.fn56:FnOk Tryz.prog 56 (fni Tryz.f56 Pr.a56):=⟨⟨Tryz.f56,Tryz.func56,rfl,rfl,rfl,by kernel_rfl⟩,by kernel_rfl⟩
theorem Rf.fn52:FnOk Tryz.prog 52 (fni Tryz.f52 Pr.a52):=⟨⟨Tryz.f52,Tryz.func52,rfl,rfl,rfl,by kernel_rfl⟩,by kernel_rfl⟩
theorem Rf.fn90:FnOk Tryz.prog 90 (fni Tryz.f90 Pr.a90):=⟨⟨Tryz.f90,Tryz.func90,rfl,rfl,rfl,by kernel_rfl⟩,by kernel_rfl⟩
theorem Rf.fn55:FnOk Tryz.prog 55 (fni Tryz.f55 Pr.a55):=⟨⟨Tryz.f55,Tryz.func55,rfl,rfl,rfl,by kernel_rfl⟩,by kernel_rfl⟩
theorem Rf.fn119:FnOk Tryz.prog 119 (fni Tryz.f119 Pr.a119):=⟨⟨Tryz.f119,Tryz.func119,rfl,rfl,rfl,by kernel_rfl⟩,by kernel_rfl⟩
theorem ybw{t:List Tk}{z:Nat}{s:List UInt8}(h:sees t z s=true):z+1≤t.length:=by
 unfold sees at h
 rcases Nat.lt_or_ge z t.length with q|q
 ·exact q
 ·rw[List.getElem?_eq_none q] at h;cases h
theorem qdr{t:List Tk}{z:Nat}(h:Ps.isName qa t z=true):z+1≤t.length:=by
 unfold Ps.isName at h
 rcases Nat.lt_or_ge z t.length with q|q
 ·exact q
 ·rw[List.getElem?_eq_none q] at h;cases h
theorem vbi{t:List Tk}{z:Nat}{k:Int}(h:Ps.isKind t k z=true):z+1≤t.length:=by
 unfold Ps.isKind at h
 rcases Nat.lt_or_ge z t.length with q|q
 ·exact q
 ·rw[List.getElem?_eq_none q] at h;cases h
theorem zby{t:List Tk}(ht:t.length≤600)(on:Nat)(y0:Int)(hy0:y0=on)(hon:on≤1000)(s:List UInt8):Ok t 50 [.int .i64 y0,.str s] (isT t on s) .bool:=by
 refine Ok.of (fun _ _=>rfl) (fun _ _ _=>rfl) fun z b y K hy hz hW=>?_
 have hK:∀ q,q=(!b && sees t (z+on) s)→K (.ret (.bool q)) ⟨[(0,row t y b)],1,[]⟩:=fun q hq=>by
  obtain⟨a,z',b',hm,hK⟩:=hW
  obtain⟨rfl,rfl,rfl⟩:_∧_∧_:=by simpa[isT] using hm
  exact hK y _ _ hy hz (by rw[hq];exact Sub.refl _ _) rfl (Nat.le_refl _)
 clear hW
 obtain⟨e,cs,m,hv,hcs,he⟩:=qp t
 unfold row at *
 rw[hv] at hK ⊢
 apply ja (un:=0) Pr.tabOk Pr.mixed Rf.fn50 (nb rfl)
 apply qb (mk:=Pr.tab)
 intro _ _ _ _ _ len _ arith _ cmp _ eqS _ _ _ elt _ _ _ _ _ _ inb _ _ not _ _ _ G
 obtain⟨v,hv'⟩:∃ v:Int,v=y+y0:=⟨_,rfl⟩
 have hadd:arith BinOp.add IntKind.i64 y y0=v:=by rw[G.arith',hv'];exact wrap_i64 _ (by omega) (by omega)
 have hlss:cmp BinOp.lss v (len cs)=decide (z+on<t.length):=by
  rw[G.cmp',G.len',hcs];simp only[vb,List.length_map];rw[Bool.eq_iff_iff];simp only[decide_eq_true_eq];omega
 have hin:z+on<t.length→inb v (len cs)=true:=fun hlt=>by
  rw[G.inb',G.len',hcs];simp;omega
 have helt:∀ x,t[z+on]? =some x→elt cs v=x.av:=fun x hx=>by
  rw[G.elt',hcs];simp only[]
  rw[show v.toNat=z+on by omega,List.getD_eq_getElem?_getD,List.getElem?_map,hx];rfl
 have heql:∀ k:Int,cmp BinOp.eql k 0=(k == 0):=fun k=>by rw[G.cmp'];rfl
 have heql3:∀ k:Int,cmp BinOp.eql k 3=(k == 3):=fun k=>by rw[G.cmp'];rfl
 have heqS:=G.eqS2
 have hnt:=G.not2
 cbv
 refine G.n' rfl ?_
 rw[hadd]
 rw[hnt]
 cases b with
 |true=>
  cbv
  exact hK _ rfl
 |false=>
 cbv
 refine G.n' rfl ?_
 rw[hlss]
 cases hx:t[z+on]? with
 |none=>
  have hd:decide (z+on<t.length)=false:=by simpa using hx
  have hs:sees t (z+on) s=false:=by unfold sees;rw[hx]
  rw[hs] at hK
  rw[hd]
  cbv
  exact hK _ rfl
 |some x=>
  have hlt:z+on<t.length:=by
   rcases Nat.lt_or_ge (z+on) t.length with q|q
   ·exact q
   ·rw[List.getElem?_eq_none q] at hx;cases hx
  have hs:sees t (z+on) s=((x.k == 0 || x.k == 3) && x.t == s):=by unfold sees;rw[hx]
  obtain rfl:e=41:=he (by intro q;rw[q] at hlt;simp at hlt)
  have hel:=helt x hx
  have hi:=hin hlt
  obtain⟨xk,xt,xn,xa⟩:=x
  rw[show Tk.av ⟨xk,xt,xn,xa⟩= .agg [.int .i64 xk,.str xt,.int .i64 xn,.int .i64 xa] from rfl] at hel
  rw[hs] at hK
  have hk0:=heql xk
  have hk3:=heql3 xk
  have hS:=heqS xt s
  simp only[] at hK
  generalize (xk == 0)=b0 at *
  generalize (xk == 3)=b3 at *
  generalize (xt == s)=bs at *
  rw[decide_eq_true hlt]
  clear hs hin helt heql heql3 heqS hlt hx
  cbv
  refine G.n' hi ?_
  rw[hel]
  cbv
  refine G.n' rfl ?_
  rw[hk0]
  cases b0
  ·cbv
   refine G.n' hi ?_
   rw[hel]
   cbv
   refine G.n' rfl ?_
   rw[hk3]
   cases b3
   ·cbv
    exact hK _ rfl
   ·cbv
    refine G.n' hi ?_
    rw[hel]
    cbv
    rw[hS]
    cases bs<;>(cbv;exact hK _ rfl)
  ·cbv
   refine G.n' hi ?_
   rw[hel]
   cbv
   rw[hS]
   cases bs<;>(cbv;exact hK _ rfl)
theorem zj{t:List Tk}(ht:t.length≤600)(s:List UInt8):Ok t 24 [.str s] (got t s) .bool:=by
 refine Ok.of (fun _ _=>rfl) (fun _ _ _=>rfl) fun z b y K hy hz hW=>?_
 have hi:=zby ht 0 0 rfl (by omega) s
 have hlt:(!b && sees t z s)=true→z+1≤t.length:=fun h=>by
  simp only[Bool.and_eq_true] at h
  exact ybw h.2
 obtain⟨q,hq⟩:∃ q,(!b && sees t z s)=q:=⟨_,rfl⟩
 have hK1:q=true→K (.ret (.bool true)) ⟨[(0,row t (y+1) b)],1,[]⟩:=fun h=>by
  obtain⟨a,z',b',hm,hK⟩:=hW
  unfold got at hm
  rw[hq,h] at hm
  obtain⟨rfl,rfl,rfl⟩:_∧_∧_:=by simpa using hm
  exact hK (y+1) _ _ (by omega) (hlt (by rw[hq,h])) (Sub.refl _ _) rfl (Nat.le_refl _)
 have hK0:q=false→K (.ret (.bool false)) ⟨[(0,row t y b)],1,[]⟩:=fun h=>by
  obtain⟨a,z',b',hm,hK⟩:=hW
  unfold got at hm
  rw[hq,h] at hm
  obtain⟨rfl,rfl,rfl⟩:_∧_∧_:=by simpa using hm
  exact hK y _ _ hy hz (Sub.refl _ _) rfl (Nat.le_refl _)
 have hcall:∀(K:Out→St→Prop),K (.ret (.bool q)) ⟨[(0,row t y b)],1,[]⟩→jb Tryz.prog (Pr.tab real) 50 [.ptr 0 0,.int .i64 0,.str s] ⟨[(0,row t y b)],1,[]⟩ K:=fun K hK=>
  hi z b y _ 0 K hy rfl hz (Nat.le_refl _) ⟨_,_,_,rfl,fun _ y' hy'=>by
   obtain rfl:y'=y:=by omega
   rw[Nat.add_zero,hq];exact hK⟩
 clear hW hi
 unfold row at *
 generalize tokV t=tv at *
 apply ja (un:=0) Pr.tabOk Pr.mixed Rf.fn24 (nb rfl)
 apply qb (mk:=Pr.tab)
 intro _ _ _ _ _ _ _ arith _ _ _ _ _ _ _ _ _ _ _ _ _ _ _ _ _ _ _ _ _ G
 have hone:q=true→arith BinOp.add IntKind.i64 y 1=y+1:=fun h=>by rw[G.arith'];exact wrap_i64 _ (by omega) (by omega)
 generalize y+1=y1 at *
 cbv
 refine G.c' (hcall _ ?_)
 clear hcall
 cbv
 cases q with
 |true=>
  have hK1:=hK1 rfl
  have hone:=hone rfl
  cbv
  refine G.n' rfl ?_
  rw[hone]
  cbv
  exact hK1
 |false=>
  have hK0:=hK0 rfl
  cbv
  exact hK0
end Go.AM.Rf
namespace Go.AM.Rf
open Go.Proofs Go.AM.Ps
theorem jm{t:List Tk}(ht:t.length≤600)(s:List UInt8):Ok t 56 [.str s] (must t s) (fun _=> .tup []):=by
 refine Ok.of (fun _ _=>rfl) (fun _ _ _=>rfl) fun z b y K hy hz hW=>?_
 have hi:=zj ht s
 have hlt:(!b && sees t z s)=true→z+1≤t.length:=fun h=>by
  simp only[Bool.and_eq_true] at h
  exact ybw h.2
 obtain⟨q,hq⟩:∃ q,(!b && sees t z s)=q:=⟨_,rfl⟩
 have hb:q=true→b=false:=fun h=>by
  rw[h] at hq
  cases b
  ·rfl
  ·cases hq
 have hK1:q=true→K (.ret (.tup [])) ⟨[(0,row t (y+1) b)],1,[]⟩:=fun h=>by
  obtain⟨a,z',b',hm,hK⟩:=hW
  unfold must at hm
  rw[hq,h] at hm
  obtain⟨rfl,rfl⟩:_∧_:=by simpa using hm
  exact hK (y+1) _ _ (by omega) (hlt (by rw[hq,h])) (Sub.refl _ _) rfl (Nat.le_refl _)
 have hK0:q=false→K (.ret (.tup [])) ⟨[(0,row t y true)],1,[]⟩:=fun h=>by
  obtain⟨a,z',b',hm,hK⟩:=hW
  unfold must at hm
  rw[hq,h] at hm
  obtain⟨rfl,rfl⟩:_∧_:=by simpa using hm
  exact hK y _ _ hy hz (Sub.refl _ _) rfl (Nat.le_refl _)
 have hcall:∀(K:Out→St→Prop),(q=true→K (.ret (.bool true)) ⟨[(0,row t (y+1) b)],1,[]⟩)→(q=false→K (.ret (.bool false)) ⟨[(0,row t y b)],1,[]⟩)→jb Tryz.prog (Pr.tab real) 24 [.ptr 0 0,.str s] ⟨[(0,row t y b)],1,[]⟩ K:=fun K k1 k0=>by
  refine hi z b y _ 0 K hy rfl hz (Nat.le_refl _) ?_
  unfold W got
  rw[hq]
  cases q with
  |true=>exact⟨_,_,_,rfl,fun _ y' hy'=>by obtain rfl:y'=y+1:=by omega
                                          exact k1 rfl⟩
  |false=>exact⟨_,_,_,rfl,fun _ y' hy'=>by obtain rfl:y'=y:=by omega
                                           exact k0 rfl⟩
 clear hW hi
 unfold row at *
 generalize tokV t=tv at *
 apply ja (un:=0) Pr.tabOk Pr.mixed Rf.fn56 (nb rfl)
 apply qb (mk:=Pr.tab)
 intro _ _ _ _ _ _ _ _ _ _ _ _ _ _ _ _ _ _ _ _ _ _ _ _ _ not _ _ _ G
 have hnt:=G.not2
 generalize y+1=y1 at *
 cbv
 refine G.c' (hcall _ (fun h=>?_) (fun h=>?_))
 ·have hK1:=hK1 h
  obtain rfl:=hb h
  clear hcall hK0
  cbv
  rw[hnt]
  cbv
  exact hK1
 ·have hK0:=hK0 h
  clear hcall hK1 hb
  cases b with
  |true=>cbv;exact hK0
  |false=>cbv;rw[hnt];cbv;exact hK0
theorem qby{t:List Tk}(ht:t.length≤600)(k:Int):Ok t 52 [.int .i64 k] (kindT t k) .bool:=by
 refine Ok.of (fun _ _=>rfl) (fun _ _ _=>rfl) fun z b y K hy hz hW=>?_
 have hK:∀ q,q=(!b && isKind t k z)→K (.ret (.bool q)) ⟨[(0,row t y b)],1,[]⟩:=fun q hq=>by
  obtain⟨a,z',b',hm,hK⟩:=hW
  obtain⟨rfl,rfl,rfl⟩:_∧_∧_:=by simpa[kindT] using hm
  exact hK y _ _ hy hz (by rw[hq];exact Sub.refl _ _) rfl (Nat.le_refl _)
 clear hW
 obtain⟨e,cs,m,hv,hcs,he⟩:=qp t
 unfold row at *
 rw[hv] at hK ⊢
 apply ja (un:=0) Pr.tabOk Pr.mixed Rf.fn52 (nb rfl)
 apply qb (mk:=Pr.tab)
 intro _ _ _ _ _ len _ _ _ cmp _ _ _ _ _ elt _ _ _ _ _ _ inb _ _ not _ _ _ G
 have hlss:cmp BinOp.lss y (len cs)=decide (z<t.length):=by
  rw[G.cmp',G.len',hcs];simp only[vb,List.length_map];rw[Bool.eq_iff_iff];simp only[decide_eq_true_eq];omega
 have hin:z<t.length→inb y (len cs)=true:=fun hlt=>by
  rw[G.inb',G.len',hcs];simp;omega
 have helt:∀ x,t[z]? =some x→elt cs y=x.av:=fun x hx=>by
  rw[G.elt',hcs];simp only[]
  rw[show y.toNat=z by omega,List.getD_eq_getElem?_getD,List.getElem?_map,hx];rfl
 have heql:∀ a:Int,cmp BinOp.eql a k=(a == k):=fun a=>by rw[G.cmp'];rfl
 have hnt:=G.not2
 cbv
 rw[hnt]
 cases b with
 |true=>cbv;exact hK _ rfl
 |false=>
 cbv
 refine G.n' rfl ?_
 rw[hlss]
 cases hx:t[z]? with
 |none=>
  have hd:decide (z<t.length)=false:=by simpa using hx
  have hs:isKind t k z=false:=by unfold isKind;rw[hx]
  rw[hs] at hK
  rw[hd]
  cbv
  exact hK _ rfl
 |some x=>
  have hlt:z<t.length:=by
   rcases Nat.lt_or_ge z t.length with q|q
   ·exact q
   ·rw[List.getElem?_eq_none q] at hx;cases hx
  have hs:isKind t k z=(x.k == k):=by unfold isKind;rw[hx]
  obtain rfl:e=41:=he (by intro q;rw[q] at hlt;simp at hlt)
  have hel:=helt x hx
  have hi:=hin hlt
  obtain⟨xk,xt,xn,xa⟩:=x
  rw[show Tk.av ⟨xk,xt,xn,xa⟩= .agg [.int .i64 xk,.str xt,.int .i64 xn,.int .i64 xa] from rfl] at hel
  rw[hs] at hK
  have hk0:=heql xk
  simp only[] at hK
  generalize (xk == k)=b0 at *
  rw[decide_eq_true hlt]
  clear hs hin helt heql hlt hx
  cbv
  refine G.n' hi ?_
  rw[hel]
  cbv
  refine G.n' rfl ?_
  rw[hk0]
  cases b0<;>exact hK _ rfl
def Wd(t:List Tk):Prop:=∀ x ∈ t,x.k=0→x.t≠[]∧∀ c ∈ x.t,c≠32
theorem ybx{t:List Tk}(ht:Toks t)(hwd:Wd t)(on:Nat)(y0:Int)(hy0:y0=on)(hon:on≤1000):Ok t 90 [.int .i64 y0] (namedT t on) .bool:=by
 refine Ok.of (fun _ _=>rfl) (fun _ _ _=>rfl) fun z b y K hy hz hW=>?_
 have hK:∀ q,q=(!b && Ps.isName qa t (z+on))→K (.ret (.bool q)) ⟨[(0,row t y b)],1,[]⟩:=fun q hq=>by
  obtain⟨a,z',b',hm,hK⟩:=hW
  obtain⟨rfl,rfl,rfl⟩:_∧_∧_:=by simpa[namedT] using hm
  exact hK y _ _ hy hz (by rw[hq];exact Sub.refl _ _) rfl (Nat.le_refl _)
 clear hW
 have hl6:=ht.len
 obtain⟨e,cs,m,hv,hcs,he⟩:=qp t
 unfold row at *
 rw[hv] at hK ⊢
 apply ja (un:=0) Pr.tabOk Pr.mixed Rf.fn90 (nb rfl)
 apply qb (mk:=Pr.tab)
 intro _ _ _ _ _ len _ arith _ cmp _ _ _ _ _ elt _ _ _ _ _ _ inb _ _ not _ _ _ G
 obtain⟨v,hv'⟩:∃ v:Int,v=y+y0:=⟨_,rfl⟩
 have hadd:arith BinOp.add IntKind.i64 y y0=v:=by rw[G.arith',hv'];exact wrap_i64 _ (by omega) (by omega)
 have hgeq:cmp BinOp.geq v (len cs)= !decide (z+on<t.length):=by
  rw[G.cmp',G.len',hcs];simp only[vb,List.length_map];rw[Bool.eq_iff_iff];simp only[decide_eq_true_eq,Bool.not_eq_true',decide_eq_false_iff_not];omega
 have hin:z+on<t.length→inb v (len cs)=true:=fun hlt=>by
  rw[G.inb',G.len',hcs];simp;omega
 have helt:∀ x,t[z+on]? =some x→elt cs v=x.av:=fun x hx=>by
  rw[G.elt',hcs];simp only[]
  rw[show v.toNat=z+on by omega,List.getD_eq_getElem?_getD,List.getElem?_map,hx];rfl
 have hneq:∀ k:Int,cmp BinOp.neq k 0= !(k == 0):=fun k=>by rw[G.cmp'];rfl
 have hnt:=G.not2
 cbv
 refine G.n' rfl ?_
 rw[hadd]
 cases b with
 |true=>cbv;exact hK _ rfl
 |false=>
 cbv
 refine G.n' rfl ?_
 rw[hgeq]
 cases hx:t[z+on]? with
 |none=>
  have hd:decide (z+on<t.length)=false:=by simpa using hx
  have hs:Ps.isName qa t (z+on)=false:=by unfold Ps.isName;rw[hx]
  rw[hs] at hK
  rw[hd]
  cbv
  exact hK _ rfl
 |some x=>
  have hlt:z+on<t.length:=by
   rcases Nat.lt_or_ge (z+on) t.length with q|q
   ·exact q
   ·rw[List.getElem?_eq_none q] at hx;cases hx
  have hs:Ps.isName qa t (z+on)=(x.k == 0 && !qa x.t):=by unfold Ps.isName;rw[hx]
  obtain rfl:e=41:=he (by intro q;rw[q] at hlt;simp at hlt)
  have hel:=helt x hx
  have hi:=hin hlt
  have hxm:x ∈ t:=List.mem_of_getElem? hx
  have hres:(x.k == 0)=true→∀(S:St) (K:Out→St→Prop),K (.ret (.bool (qa x.t))) S→jb Tryz.prog (Pr.tab real) 18 [.str x.t] S K:=fun h S K hK=>by
   have hw:=hwd x hxm (by simpa using h)
   exact jcc x.t (ht.tx x hxm) hw.1 hw.2 S K hK
  obtain⟨xk,xt,xn,xa⟩:=x
  rw[show Tk.av ⟨xk,xt,xn,xa⟩= .agg [.int .i64 xk,.str xt,.int .i64 xn,.int .i64 xa] from rfl] at hel
  rw[hs] at hK
  have hk0:=hneq xk
  simp only[] at hK hres
  generalize (xk == 0)=b0 at *
  generalize qa xt=rb at *
  rw[decide_eq_true hlt]
  clear hs hin helt hneq hlt hx hxm
  cbv
  refine G.n' hi ?_
  rw[hel]
  cbv
  refine G.n' rfl ?_
  rw[hk0]
  cases b0 with
  |false=>cbv;exact hK _ rfl
  |true=>
   have hres:=hres rfl
   cbv
   refine G.n' hi ?_
   rw[hel]
   cbv
   refine G.c' (hres _ _ ?_)
   cbv
   rw[hnt]
   exact hK _ rfl
end Go.AM.Rf
namespace Go.AM.Rf
open Go.Proofs Go.AM.Ps
theorem qv{t:List Tk}(ht:Toks t)(hwd:Wd t):Ok t 55 [] (name t) AV.str:=by
 refine Ok.of (fun _ _=>rfl) (fun _ _ _=>rfl) fun z b y K hy hz hW=>?_
 have hi:=ybx ht hwd 0 0 rfl (by omega)
 obtain⟨q,hq⟩:∃ q,(!b && Ps.isName qa t z)=q:=⟨_,rfl⟩
 have hlt:q=true→z+1≤t.length:=fun h=>by
  rw[← hq] at h
  simp only[Bool.and_eq_true] at h
  exact qdr h.2
 have hK1:q=true→K (.ret (AV.str (Ps.textAt t z))) ⟨[(0,row t (y+1) b)],1,[]⟩:=fun h=>by
  obtain⟨a,z',b',hm,hK⟩:=hW
  unfold name at hm
  rw[hq,h] at hm
  obtain⟨rfl,rfl,rfl⟩:_∧_∧_:=by simpa using hm
  exact hK (y+1) _ _ (by omega) (hlt h) (Sub.refl _ _) rfl (Nat.le_refl _)
 have hK0:q=false→K (.ret (AV.str [])) ⟨[(0,row t y true)],1,[]⟩:=fun h=>by
  obtain⟨a,z',b',hm,hK⟩:=hW
  unfold name at hm
  rw[hq,h] at hm
  obtain⟨rfl,rfl,rfl⟩:_∧_∧_:=by simpa using hm
  exact hK y _ _ hy hz (Sub.refl _ _) rfl (Nat.le_refl _)
 have hb:q=true→b=false:=fun h=>by
  rw[h] at hq
  cases b
  ·rfl
  ·cases hq
 have hcall:∀(K:Out→St→Prop),K (.ret (.bool q)) ⟨[(0,row t y b)],1,[]⟩→jb Tryz.prog (Pr.tab real) 90 [.ptr 0 0,.int .i64 0] ⟨[(0,row t y b)],1,[]⟩ K:=fun K hK=>
  hi z b y _ 0 K hy rfl hz (Nat.le_refl _) ⟨_,_,_,rfl,fun _ y' hy'=>by
   obtain rfl:y'=y:=by omega
   rw[Nat.add_zero]
   rw[hq];exact hK⟩
 clear hW hi
 have hl6:=ht.len
 obtain⟨e,cs,m,hv,hcs,he⟩:=qp t
 unfold row at *
 rw[hv] at hK1 hK0 hcall ⊢
 apply ja (un:=0) Pr.tabOk Pr.mixed Rf.fn55 (nb rfl)
 apply qb (mk:=Pr.tab)
 intro _ _ _ _ _ len _ arith _ _ _ _ _ _ _ elt _ _ _ _ _ _ inb _ _ not _ _ _ G
 have hnt:=G.not2
 have hadd:arith BinOp.add IntKind.i64 y 1=y+1:=by rw[G.arith'];exact wrap_i64 _ (by omega) (by omega)
 have hsub:arith BinOp.sub IntKind.i64 (y+1) 1=y:=by rw[G.arith'];simp only[zaw];rw[wrap_i64 _ (by omega) (by omega)];omega
 have hin:q=true→inb y (len cs)=true:=fun h=>by
  have:=hlt h
  rw[G.inb',G.len',hcs];simp;omega
 have h41:q=true→e=41:=fun h=>he (by have:=hlt h;rintro rfl;simp at this)
 obtain⟨⟨xk,xt,xn,xa⟩,hx⟩:∃ x,(t[z]?).getD ⟨0,[],0,0⟩=x:=⟨_,rfl⟩
 have hsome:q=true→t[z]? =some ⟨xk,xt,xn,xa⟩:=fun h=>by
  have:=hlt h
  rw[← hx,List.getElem?_eq_getElem (by omega)];rfl
 have helt:q=true→elt cs y= .agg [.int .i64 xk,.str xt,.int .i64 xn,.int .i64 xa]:=fun h=>by
  have:=hsome h
  rw[G.elt',hcs];simp only[]
  rw[show y.toNat=z by omega,List.getD_eq_getElem?_getD,List.getElem?_map,this];rfl
 have hval:q=true→Ps.textAt t z=xt:=fun h=>by unfold Ps.textAt;rw[hsome h]
 generalize y+1=y1 at *
 clear hlt hsome hx hcs he hv hq hl6
 cbv
 refine G.c' (hcall _ ?_)
 clear hcall
 cbv
 rw[hnt]
 cases q with
 |false=>
  have hK0:=hK0 rfl
  cbv
  exact hK0
 |true=>
  have hK1:=hK1 rfl
  rw[hval rfl] at hK1
  have helt:=helt rfl
  have hin:=hin rfl
  obtain rfl:=h41 rfl
  obtain rfl:=hb rfl
  clear hK0 hval h41 hb
  cbv
  refine G.n' rfl ?_
  rw[hadd]
  cbv
  refine G.n' rfl ?_
  rw[hsub]
  refine G.n' hin ?_
  rw[helt]
  cbv
  exact hK1
theorem xa0{t:List Tk}(ht:Toks t):Ok t 119 [] (number t) (AV.int .i64):=by
 refine Ok.of (fun _ _=>rfl) (fun _ _ _=>rfl) fun z b y K hy hz hW=>?_
 have hi:=qby ht.len 1
 obtain⟨q,hq⟩:∃ q,(!b && Ps.isKind t 1 z)=q:=⟨_,rfl⟩
 have hlt:q=true→z+1≤t.length:=fun h=>by
  rw[← hq] at h
  simp only[Bool.and_eq_true] at h
  exact vbi h.2
 have hK1:q=true→K (.ret ((AV.int .i64) (Ps.numAt t z))) ⟨[(0,row t (y+1) b)],1,[]⟩:=fun h=>by
  obtain⟨a,z',b',hm,hK⟩:=hW
  unfold number at hm
  rw[hq,h] at hm
  obtain⟨rfl,rfl,rfl⟩:_∧_∧_:=by simpa using hm
  exact hK (y+1) _ _ (by omega) (hlt h) (Sub.refl _ _) rfl (Nat.le_refl _)
 have hK0:q=false→K (.ret ((AV.int .i64) 0)) ⟨[(0,row t y true)],1,[]⟩:=fun h=>by
  obtain⟨a,z',b',hm,hK⟩:=hW
  unfold number at hm
  rw[hq,h] at hm
  obtain⟨rfl,rfl,rfl⟩:_∧_∧_:=by simpa using hm
  exact hK y _ _ hy hz (Sub.refl _ _) rfl (Nat.le_refl _)
 have hb:q=true→b=false:=fun h=>by
  rw[h] at hq
  cases b
  ·rfl
  ·cases hq
 have hcall:∀(K:Out→St→Prop),K (.ret (.bool q)) ⟨[(0,row t y b)],1,[]⟩→jb Tryz.prog (Pr.tab real) 52 [.ptr 0 0,.int .i64 1] ⟨[(0,row t y b)],1,[]⟩ K:=fun K hK=>
  hi z b y _ 0 K hy rfl hz (Nat.le_refl _) ⟨_,_,_,rfl,fun _ y' hy'=>by
   obtain rfl:y'=y:=by omega
   skip
   rw[hq];exact hK⟩
 clear hW hi
 have hl6:=ht.len
 obtain⟨e,cs,m,hv,hcs,he⟩:=qp t
 unfold row at *
 rw[hv] at hK1 hK0 hcall ⊢
 apply ja (un:=0) Pr.tabOk Pr.mixed Rf.fn119 (nb rfl)
 apply qb (mk:=Pr.tab)
 intro _ _ _ _ _ len _ arith _ _ _ _ _ _ _ elt _ _ _ _ _ _ inb _ _ not _ _ _ G
 have hnt:=G.not2
 have hadd:arith BinOp.add IntKind.i64 y 1=y+1:=by rw[G.arith'];exact wrap_i64 _ (by omega) (by omega)
 have hsub:arith BinOp.sub IntKind.i64 (y+1) 1=y:=by rw[G.arith'];simp only[zaw];rw[wrap_i64 _ (by omega) (by omega)];omega
 have hin:q=true→inb y (len cs)=true:=fun h=>by
  have:=hlt h
  rw[G.inb',G.len',hcs];simp;omega
 have h41:q=true→e=41:=fun h=>he (by have:=hlt h;rintro rfl;simp at this)
 obtain⟨⟨xk,xt,xn,xa⟩,hx⟩:∃ x,(t[z]?).getD ⟨0,[],0,0⟩=x:=⟨_,rfl⟩
 have hsome:q=true→t[z]? =some ⟨xk,xt,xn,xa⟩:=fun h=>by
  have:=hlt h
  rw[← hx,List.getElem?_eq_getElem (by omega)];rfl
 have helt:q=true→elt cs y= .agg [.int .i64 xk,.str xt,.int .i64 xn,.int .i64 xa]:=fun h=>by
  have:=hsome h
  rw[G.elt',hcs];simp only[]
  rw[show y.toNat=z by omega,List.getD_eq_getElem?_getD,List.getElem?_map,this];rfl
 have hval:q=true→Ps.numAt t z=xn:=fun h=>by unfold Ps.numAt;rw[hsome h]
 generalize y+1=y1 at *
 clear hlt hsome hx hcs he hv hq hl6
 cbv
 refine G.c' (hcall _ ?_)
 clear hcall
 cbv
 rw[hnt]
 cases q with
 |false=>
  have hK0:=hK0 rfl
  cbv
  exact hK0
 |true=>
  have hK1:=hK1 rfl
  rw[hval rfl] at hK1
  have helt:=helt rfl
  have hin:=hin rfl
  obtain rfl:=h41 rfl
  obtain rfl:=hb rfl
  clear hK0 hval h41 hb
  cbv
  refine G.n' rfl ?_
  rw[hadd]
  cbv
  refine G.n' rfl ?_
  rw[hsub]
  refine G.n' hin ?_
  rw[helt]
  cbv
  exact hK1
end Go.AM.Rf
namespace Go.AM
theorem jb.args{P:Program}{T:Tab}{f:FuncId}{args args':List AV}{S:St}{K:Out→St→Prop}(h:∀ w g vs,zk T w g args vs→zk T w g args' vs)(hc:jb P T f args' S K):jb P T f args S K:=by
 intro g w vs r hg ha
 exact hc g w vs r hg (h _ _ _ ha)
theorem jeb{T:Tab}{w:World}{g:Ghost}{l l':List AV}{vs:List Value}(hl:l'.length=l.length)(h:∀ j,j<l.length→Sub T (nth l j) (nth l' j))(ha:zk T w g l vs):zk T w g l' vs:=
 ⟨by rw[ha.1,hl],fun j hj=>h j (by omega) w g _ (ha.2 j (by omega))⟩
end Go.AM
namespace Go.AM.Rf
open Go.Proofs Go.AM.Ps
theorem Rf.fn54:FnOk Tryz.prog 54 (fni Tryz.f54 Pr.a54):=⟨⟨Tryz.f54,Tryz.func54,rfl,rfl,rfl,by kernel_rfl⟩,by kernel_rfl⟩
theorem xd5(op s:List UInt8)(k:Int)(l:List Nd)(hl:l.length≤2000000000)(K:Out→St→Prop)(hK:∀ v S,Sub (Pr.tab real) v (Nd.mk op s k l).av→K (.ret v) S) :
 jb Tryz.prog (Pr.tab real) 54 [.str op,.str s,.int .i64 k,.slice 24 (avL l) .no] St.nil K:=by
 have hlen:(avL l).length=l.length:=by rw[xd,List.length_map]
 have hK2:∀ m S,K (.ret (.agg [.str op,.str s,.int .i64 k,.slice 24 (avL l) m])) S:=fun m S=>hK _ _ (xad _ op s k 24 _ m l rfl (.inl rfl))
 clear hK
 generalize avL l=cs at *
 apply ja (un:=0) Pr.tabOk Pr.mixed Rf.fn54 (nb rfl)
 apply qb (mk:=Pr.tab)
 intro _ _ _ _ _ len _ _ _ _ _ _ _ _ app _ _ _ _ _ _ _ _ _ room _ _ _ _ G
 have happ:app [] cs=cs:=by rw[G.app'];rfl
 have hroom:room (len cs) 64=true:=by rw[G.room',G.len'];simp;omega
 cbv
 rw[happ]
 refine G.n' hroom ?_
 exact hK2 _ _
theorem va{op s:List UInt8}{k:Int}{e:TypeId}{cs:List AV}{m:Mode}(l:List Nd)(hcs:cs=avL l)(he:e=24∨cs=[])(hl:l.length≤2000000000){S:St}{K:Out→St→Prop}(hK:∀ cl,cl=avL l→K (.ret (.agg [.str op,.str s,.int .i64 k,.slice 24 cl .no])) S) :
 jb Tryz.prog (Pr.tab real) 54 [.str op,.str s,.int .i64 k,.slice e cs m] S K:=by
 refine jb.args (args':=[.str op,.str s,.int .i64 k,.slice 24 (avL l) .no]) (fun w g vs ha=>jeb (l:=[.str op,.str s,.int .i64 k,.slice e cs m]) rfl (fun j hj=>?_) ha) ?_
 ·match j,hj with
  | 0,_=>exact Sub.refl _ _
  | 1,_=>exact Sub.refl _ _
  | 2,_=>exact Sub.refl _ _
  | 3,_=>
   show Sub _ (.slice e cs m) (.slice 24 (avL l) .no)
   rw[← hcs]
   rcases he with rfl|rfl
   ·exact xab _ _ _ _
   ·exact xak _ _ _ _
 ·refine ja1 (K0:=fun o _=>o= .ret (Nd.mk op s k l).av) ?_ (by
   rintro o S0 rfl
   simp only[Out.ren,zh]
   exact hK _ rfl)
  have hr:renL (fun _=>none) (fun _=>none) [AV.str op,.str s,.int .i64 k,.slice 24 (avL l) .no]=[AV.str op,.str s,.int .i64 k,.slice 24 (avL l) .no]:=rfl
  rw[hr]
  exact jb.sub (xd5 op s k l hl _ fun v S hv=>⟨_,.ret _ _ hv,rfl⟩)
end Go.AM.Rf
namespace Go.AM.Rf
open Go.Proofs Go.AM.Ps Go.AM.W
section
variable (t:List Tk)
def unbad{α:Type}(a:α)(m:M α):M α:=fun z b=>match b with
 |true=>some (a,z,true)
 |false=>m z false
def setBad:M Unit:=fun z b=>some ((),z,true)
def out{α:Type}:M α:=fun _ _=>none
def commas(p:M Nd):Nat→List Nd→M (List Nd)
 | 0,_=>out
 |n+1,acc=>unbad acc (bd (got t g_comma) fun ok=>match ok with
  |false=>rt acc
  |true=>bd p fun x=>commas p n (acc++[x]))
def list(p:M Nd)(n:Nat):M (List Nd):=bd p fun x=>commas t p n [x]
def chain(w:List UInt8)(p:M Nd):Nat→Nd→M Nd
 | 0,_=>out
 |n+1,a=>unbad a (bd (got t w) fun ok=>match ok with
  |false=>rt a
  |true=>bd p fun x=>chain w p n (.mk w [] 0 [a,x]))
def whichOf:List (List UInt8)→M (Option (List UInt8))
 | []=>rt none
 |s::r=>bd (got t s) fun ok=>match ok with
  |true=>rt (some s)
  |false=>whichOf r
def pars:Nat→Nat→M Nat
 | 0,_=>out
 |n+1,k=>bd (isT t k g_par) fun ok=>match ok with
  |false=>rt k
  |true=>pars n (k+1)
def opens(n:Nat):M Bool:=bd (pars t n 0) fun k=>bd (isT t k zn) fun sel=>rt (decide (0<k) && sel)
def aName:M Nd:=bd (name t) fun s=>rt (.mk xbg s 0 [])
def names(n:Nat):M (List Nd):=bd (must t g_par) fun _=>bd (list t (aName t) n) fun l=>bd (must t g_rap) fun _=>rt l
def turned(no:Bool)(a:Nd):Nd:=match no with
 |true=> .mk qah [] 0 [a]
 |false=>a
def column:M Nd:=bd (name t) fun s=>bd (got t xcm) fun dot=>match dot with
 |true=>bd (name t) fun c=>rt (.mk jd5 c 0 [.mk k_of s 0 []])
 |false=>rt (.mk jd5 s 0 [])
def all:M Int:=bd (got t vaj) fun ok=>match ok with
 |true=>rt 1
 |false=>rt 0
def alias(s:List UInt8):M (List UInt8):=bd (got t k_as) fun q=>bd (namedT t 0) fun nm=>match q || nm with
 |true=>name t
 |false=>rt s
def typed:M Nd:=bd (whichOf t [qaf,jac,zav,xal]) fun o=>match o with
 |some s=>rt (.mk vaf s 0 [])
 |none=>bd (got t xdq) fun i=>match i with
  |true=>rt (.mk vaf jac 0 [])
  |false=>bd (got t qal) fun v=>match v with
   |true=>bd (must t g_par) fun _=>bd (number t) fun n=>bd (must t g_rap) fun _=>rt (.mk vaf qal n [])
   |false=>bd (got t jal) fun c=>bd (match c with
    |true=>rt ()
    |false=>must t yaf) fun _=>bd (got t g_par) fun p=>match p with
    |true=>bd (number t) fun n=>bd (must t g_rap) fun _=>rt (.mk vaf jal n [])
    |false=>rt (.mk vaf jal 1 [])
def sumMore(p:M Nd):Nat→Nd→M Nd
 | 0,_=>out
 |n+1,a=>unbad a (bd (got t xac) fun q=>match q with
  |true=>bd p fun x=>sumMore p n (.mk xac [] 0 [a,x])
  |false=>bd (got t yj) fun q=>match q with
   |true=>bd p fun x=>sumMore p n (.mk yj [] 0 [a,x])
   |false=>bd (got t xas) fun q=>match q with
    |true=>bd p fun x=>sumMore p n (.mk xas [] 0 [a,x])
    |false=>rt a)
def prodMore(p:M Nd):Nat→Nd→M Nd
 | 0,_=>out
 |n+1,a=>unbad a (bd (got t g_star) fun q=>match q with
  |true=>bd p fun x=>prodMore p n (.mk g_star [] 0 [a,x])
  |false=>bd (got t vp) fun q=>match q with
   |true=>bd p fun x=>prodMore p n (.mk vp [] 0 [a,x])
   |false=>rt a)
def arms(p:M Nd)(of:Option Nd):Nat→List Nd→M (List Nd)
 | 0,_=>out
 |n+1,l=>unbad l (bd (must t k_when) fun _=>bd p fun c=>bd (must t xb9) fun _=>bd p fun e=>bd (isT t 0 k_when) fun more=>match more with
  |true=>arms p of n (l++[.mk k_when [] 0 [match of with|some o=> .mk g_eq [] 0 [o,c]|none=>c,e]])
  |false=>rt (l++[.mk k_when [] 0 [match of with|some o=> .mk g_eq [] 0 [o,c]|none=>c,e]]))
def unions(p:M Nd):Nat→Nd→M Nd
 | 0,_=>out
 |n+1,a=>unbad a (bd (got t jj) fun q=>match q with
  |true=>bd (all t) fun k=>bd p fun x=>unions p n (.mk jj [] k [a,x])
  |false=>bd (got t ji) fun q=>match q with
   |true=>bd (all t) fun k=>bd p fun x=>unions p n (.mk ji [] k [a,x])
   |false=>rt a)
def sects(p:M Nd):Nat→Nd→M Nd
 | 0,_=>out
 |n+1,a=>unbad a (bd (got t ye) fun q=>match q with
  |true=>bd (all t) fun k=>bd p fun x=>sects p n (.mk ye [] k [a,x])
  |false=>rt a)
def joins(jn ex:M Nd):Nat→Nd→M Nd
 | 0,_=>out
 |n+1,a=>unbad a (bd (got t k_cross) fun q=>match q with
  |true=>bd (must t zw) fun _=>bd jn fun x=>joins jn ex n (.mk k_cross [] 0 [a,x])
  |false=>bd (whichOf t [k_left,k_right,k_full]) fun o=>match o with
   |some op=>bd (got t k_outer) fun _=>bd (isT t 0 zw) fun _=>bd (must t zw) fun _=>bd jn fun x=>bd (must t k_on) fun _=>bd ex fun e=>joins jn ex n (.mk op [] 0 [a,x,e])
   |none=>bd (got t k_inner) fun inner=>bd (isT t 0 zw) fun join=>match inner || join with
    |false=>rt a
    |true=>bd (must t zw) fun _=>bd jn fun x=>bd (must t k_on) fun _=>bd ex fun e=>joins jn ex n (.mk k_inner [] 0 [a,x,e]))
mutual
def expr:Nat→M Nd
 | 0=>out
 |n+1=>bd (andE n) fun a=>chain t k_or (andE n) n a
def andE:Nat→M Nd
 | 0=>out
 |n+1=>bd (notE n) fun a=>chain t xaj (notE n) n a
def notE:Nat→M Nd
 | 0=>out
 |n+1=>bd (got t qah) fun q=>match q with
  |true=>bd (notE n) fun a=>rt (.mk qah [] 0 [a])
  |false=>test n
def test:Nat→M Nd
 | 0=>out
 |n+1=>bd (sum n) fun a=>bd (whichOf t [g_eq,g_ne,g_lt,g_le,g_gt,g_ge]) fun o=>match o with
  |some s=>compared n s a
  |none=>bd (got t k_is) fun is=>match is with
   |true=>bd (got t qah) fun no=>bd (whichOf t [jy,qaw,jaj,zal]) fun o=>match o with
    |some w=>rt (turned no (.mk k_is w 0 [a]))
    |none=>bd setBad fun _=>rt a
   |false=>bd (got t qah) fun no=>bd (got t yal) fun bt=>match bt with
    |true=>bd (sum n) fun x=>bd (must t xaj) fun _=>bd (sum n) fun y=>rt (turned no (.mk yal [] 0 [a,x,y]))
    |false=>bd (got t ybs) fun lk=>match lk with
     |true=>bd (sum n) fun x=>rt (turned no (.mk ybs [] 0 [a,x]))
     |false=>bd (got t k_in) fun i=>match i with
      |true=>bd (inE n a) fun x=>rt (turned no x)
      |false=>match no with
       |true=>bd setBad fun _=>rt a
       |false=>rt a
def compared:Nat→List UInt8→Nd→M Nd
 | 0,_,_=>out
 |n+1,s,a=>bd (got t vaj) fun q=>match q with
  |true=>bd (inner n) fun x=>rt (.mk vaj s 0 [a,x])
  |false=>bd (got t ybn) fun q=>match q with
   |true=>bd (inner n) fun x=>rt (.mk ybn s 0 [a,x])
   |false=>bd (got t vbs) fun q=>match q with
    |true=>bd (inner n) fun x=>rt (.mk ybn s 0 [a,x])
    |false=>bd (sum n) fun x=>rt (.mk s [] 0 [a,x])
def inner:Nat→M Nd
 | 0=>out
 |n+1=>bd (must t g_par) fun _=>bd (body n) fun x=>bd (must t g_rap) fun _=>rt x
def inE:Nat→Nd→M Nd
 | 0,_=>out
 |n+1,a=>bd (opens t n) fun bo=>match bo with
  |true=>bd (inner n) fun x=>rt (.mk k_in jbg 0 [a,x])
  |false=>bd (must t g_par) fun _=>bd (exprs n) fun l=>bd (must t g_rap) fun _=>rt (.mk k_in [] 0 (a::l))
def exprs:Nat→M (List Nd)
 | 0=>out
 |n+1=>list t (expr n) n
def sum:Nat→M Nd
 | 0=>out
 |n+1=>bd (product n) fun a=>sumMore t (product n) n a
def product:Nat→M Nd
 | 0=>out
 |n+1=>bd (sign n) fun a=>prodMore t (sign n) n a
def sign:Nat→M Nd
 | 0=>out
 |n+1=>bd (got t yj) fun q=>match q with
  |true=>bd (sign n) fun a=>rt (.mk yeu [] 0 [a])
  |false=>one n
def one:Nat→M Nd
 | 0=>out
 |n+1=>bd (kindT t 1) fun k1=>match k1 with
  |true=>bd (number t) fun k=>rt (.mk qdl [] k [])
  |false=>bd (kindT t 2) fun k2=>match k2 with
   |true=>fun z b=>some (.mk jee (Ps.textAt t z) 0 [],z+1,b)
   |false=>bd (got t qaw) fun q=>match q with
    |true=>rt (.mk zcs [] 1 [])
    |false=>bd (got t jaj) fun q=>match q with
     |true=>rt (.mk zcs [] 0 [])
     |false=>bd (got t jy) fun q=>match q with
      |true=>rt (.mk jy [] 0 [])
      |false=>bd (opens t n) fun q=>match q with
       |true=>bd (inner n) fun x=>rt (.mk qcs [] 0 [x])
       |false=>bd (got t g_par) fun q=>match q with
        |true=>bd (expr n) fun x=>bd (must t g_rap) fun _=>rt x
        |false=>bd (got t qav) fun q=>match q with
         |true=>bd (inner n) fun x=>rt (.mk qav [] 0 [x])
         |false=>bd (got t xy) fun q=>match q with
          |true=>cases n
          |false=>call n
def cases:Nat→M Nd
 | 0=>out
 |n+1=>bd (isT t 0 k_when) fun w=>bd (match w with
  |true=>rt none
  |false=>bd (expr n) fun x=>rt (some x)) fun of=>bd (arms t (expr n) of n []) fun l=>bd (got t vb9) fun el=>bd (match el with
  |true=>expr n
  |false=>rt (.mk jy [] 0 [])) fun last=>bd (must t zc6) fun _=>rt (.mk xy [] 0 (l++[last]))
def call:Nat→M Nd
 | 0=>out
 |n+1=>bd (whichOf t [k_count,jcl,vcl,ycl]) fun o=>match o with
  |some s=>total n s
  |none=>bd (got t qa2) fun q=>match q with
   |true=>bd (must t g_par) fun _=>bd (expr n) fun e=>bd (must t k_as) fun _=>bd (typed t) fun ty=>bd (must t g_rap) fun _=>rt (.mk qa2 [] 0 [ty,e])
   |false=>bd (got t zaf) fun q=>match q with
    |true=>bd (must t g_par) fun _=>bd (exprs n) fun l=>bd (must t g_rap) fun _=>rt (.mk zaf [] 0 l)
    |false=>bd (got t zae) fun q=>match q with
     |true=>bd (must t g_par) fun _=>bd (expr n) fun x=>bd (must t g_comma) fun _=>bd (expr n) fun y=>bd (must t g_rap) fun _=>rt (.mk zae [] 0 [x,y])
     |false=>column t
def total:Nat→List UInt8→M Nd
 | 0,_=>out
 |n+1,op=>bd (must t g_par) fun _=>bd (match op == k_count with
  |true=>got t g_star
  |false=>rt false) fun st=>match st with
  |true=>bd (must t g_rap) fun _=>rt (.mk ybg [] 0 [])
  |false=>bd (got t jp) fun d=>match d with
   |true=>bd (expr n) fun e=>bd (must t g_rap) fun _=>rt (.mk op [] 1 [e])
   |false=>bd (got t vaj) fun _=>bd (expr n) fun e=>bd (must t g_rap) fun _=>rt (.mk op [] 0 [e])
def body:Nat→M Nd
 | 0=>out
 |n+1=>bd (term n) fun a=>unions t (term n) n a
def term:Nat→M Nd
 | 0=>out
 |n+1=>bd (simple n) fun a=>sects t (simple n) n a
def simple:Nat→M Nd
 | 0=>out
 |n+1=>bd (got t g_par) fun q=>match q with
  |true=>bd (body n) fun x=>bd (must t g_rap) fun _=>rt x
  |false=>bd (must t zn) fun _=>bd (got t jp) fun d=>bd (match d with
   |true=>rt 1
   |false=>bd (got t vaj) fun _=>rt 0) fun d=>bd (list t (item n) n) fun items=>bd (must t k_from) fun _=>bd (list t (table n) n) fun from_=>
   bd (got t k_where) fun w=>bd (match w with
    |true=>bd (expr n) fun e=>rt [e]
    |false=>rt []) fun wh=>bd (got t k_group) fun g=>bd (match g with
    |true=>bd (must t k_by) fun _=>list t (column t) n
    |false=>rt []) fun gr=>bd (got t k_having) fun h=>bd (match h with
    |true=>bd (expr n) fun e=>rt [e]
    |false=>rt []) fun hv=>rt (.mk zn [] d [.mk o_items [] 0 items,.mk k_from [] 0 from_,.mk k_where [] 0 wh,.mk k_group [] 0 gr,.mk k_having [] 0 hv])
def item:Nat→M Nd
 | 0=>out
 |n+1=>bd (got t g_star) fun st=>match st with
  |true=>rt (.mk jby [] 0 [])
  |false=>bd (namedT t 0) fun nm=>bd (isT t 1 xcm) fun dot=>bd (isT t 2 g_star) fun star=>match nm && (dot && star) with
   |true=>bd (name t) fun s=>fun z b=>some (.mk jby s 0 [],z+2,b)
   |false=>bd (expr n) fun e=>bd (alias t []) fun s=>rt (.mk xee s 0 [e])
def table:Nat→M Nd
 | 0=>out
 |n+1=>bd (joined n) fun a=>joins t (joined n) (expr n) n a
def joined:Nat→M Nd
 | 0=>out
 |n+1=>bd (opens t n) fun bo=>match bo with
  |true=>bd (must t g_par) fun _=>bd (body n) fun x=>bd (must t g_rap) fun _=>bd (got t k_as) fun _=>bd (name t) fun s=>rt (.mk qb8 s 0 [x])
  |false=>bd (got t g_par) fun q=>match q with
   |true=>bd (table n) fun x=>bd (must t g_rap) fun _=>rt x
   |false=>bd (name t) fun s=>bd (alias t s) fun a=>rt (.mk qa6 s 0 [.mk k_as a 0 []])
end
end
end Go.AM.Rf
namespace Go.AM.Rf
open Go.Proofs Go.AM.Ps Go.AM.W
def Lit{α:Type}(tv:AV)(N:Nat)(f:FuncId)(args:List AV)(m:M α)(av:α→AV):Prop:=
 ∀(z:Nat) (b:Bool) (y:Int) (S:St) (K:Out→St→Prop),y=z→S.row 0=[tv,.int .i64 y,.bool b]→z≤N→0<S.next →
  W m z b (fun a z' b'=>z'≤N→∀ y':Int,y'=z'→K (.ret (av a)) (S.set 0 [tv,.int .i64 y',.bool b']))→jb Tryz.prog (Pr.tab real) f (.ptr 0 0::args) S K
theorem Ok.lit{α:Type}{t:List Tk}{f:FuncId}{args:List AV}{m:M α}{av:α→AV}(h:Ok t f args m av):Lit (tokV t) t.length f args m av:=
 fun z b y S K hy hrow hz ho hW=>h z b y S 0 K hy hrow hz ho hW
def ndOp:Nd→List UInt8| .mk o _ _ _=>o
def ndS:Nd→List UInt8| .mk _ s _ _=>s
def ndN:Nd→Int| .mk _ _ k _=>k
def ndL:Nd→List Nd| .mk _ _ _ l=>l
theorem qev(a:Nd):a.av= .agg [.str (ndOp a),.str (ndS a),.int .i64 (ndN a),.slice 24 (avL (ndL a)) .no]:=by cases a;rfl
def LitN(tv:AV)(N:Nat)(f:FuncId)(args:List AV)(m:M Nd):Prop:=
 ∀(z:Nat) (b:Bool) (y:Int) (S:St) (K:Out→St→Prop),y=z→S.row 0=[tv,.int .i64 y,.bool b]→z≤N→0<S.next →
  W m z b (fun a z' b'=>z'≤N→∀ y':Int,y'=z'→∀ cl,cl=avL (ndL a)→K (.ret (.agg [.str (ndOp a),.str (ndS a),.int .i64 (ndN a),.slice 24 cl .no])) (S.set 0 [tv,.int .i64 y',.bool b']))→jb Tryz.prog (Pr.tab real) f (.ptr 0 0::args) S K
theorem Ok.litN{t:List Tk}{f:FuncId}{args:List AV}{m:M Nd}(h:Ok t f args m Nd.av):LitN (tokV t) t.length f args m:=
 fun z b y S K hy hrow hz ho hW=>h z b y S 0 K hy hrow hz ho (hW.mono fun a z' b' hK hz' y' hy'=>by rw[qev];exact hK hz' y' hy' _ rfl)
def LitL(tv:AV)(N:Nat)(f:FuncId)(args:List AV)(m:M (List Nd)):Prop:=
 ∀(z:Nat) (b:Bool) (y:Int) (S:St) (K:Out→St→Prop),y=z→S.row 0=[tv,.int .i64 y,.bool b]→z≤N→0<S.next →
  W m z b (fun a z' b'=>z'≤N→∀ y':Int,y'=z'→∀ cl,cl=avL a→K (.ret (.slice 24 cl .no)) (S.set 0 [tv,.int .i64 y',.bool b']))→jb Tryz.prog (Pr.tab real) f (.ptr 0 0::args) S K
theorem Ok.litL{t:List Tk}{f:FuncId}{args:List AV}{m:M (List Nd)}(h:Ok t f args m lav):LitL (tokV t) t.length f args m:=
 fun z b y S K hy hrow hz ho hW=>h z b y S 0 K hy hrow hz ho (hW.mono fun a z' b' hK hz' y' hy'=>hK hz' y' hy' _ rfl)
theorem W.bad{β:Type}{f:Unit→M β}{z:Nat}{b:Bool}{Q:β→Nat→Bool→Prop}(h:W (Rf.bd setBad f) z b Q):W (f ()) z true Q:=h
theorem W.badrt{β:Type}{a:β}{z:Nat}{b:Bool}{Q:β→Nat→Bool→Prop}(h:W (Rf.bd setBad fun _=>Rf.rt a) z b Q):Q a z true:=W.rt (a:=a) (z:=z) (b:=true) h
theorem W.unbad1{α:Type}{a:α}{m:M α}{z:Nat}{Q:α→Nat→Bool→Prop}(h:W (unbad a m) z true Q):Q a z true:=W.rt (a:=a) (z:=z) (b:=true) h
theorem W.unbad0{α:Type}{a:α}{m:M α}{z:Nat}{Q:α→Nat→Bool→Prop}(h:W (unbad a m) z false Q):W m z false Q:=h
def FinL{α:Type}(tv:AV)(N:Nat)(av:α→AV)(K:Out→St→Prop)(a:α)(z':Nat)(b':Bool):Prop:=
 ∀(y':Int) v S',y'=z'→z'≤N→Sub (Pr.tab real) v (av a)→S'.row 0=[tv,.int .i64 y',.bool b']→1≤S'.next→K (.ret v) S'
theorem Ok.of2{α:Type}{t:List Tk}{f:FuncId}{args:List AV}{m:M α}{av:α→AV}(hargs:∀ f h,renL f h args=args)(hav:∀ a f h,(av a).ren f h=av a)
 (hc:∀ tv,tv=tokV t→∀(z:Nat) (b:Bool) (y:Int) (K:Out→St→Prop),y=z→z≤t.length→W m z b (FinL tv t.length av K) →
   jb Tryz.prog (Pr.tab real) f (.ptr 0 0::args) ⟨[(0,[tv,.int .i64 y,.bool b])],1,[]⟩ K):Ok t f args m av:=
 Ok.of hargs hav fun z b y K hy hz hW=>hc (tokV t) rfl z b y K hy hz hW
theorem FinL.go{α:Type}{tv:AV}{N:Nat}{av:α→AV}{K:Out→St→Prop}{a:α}{z':Nat}{b':Bool}(h:FinL tv N av K a z' b'){y':Int}{v:AV}{S':St}(hy:y'=z')(hz:z'≤N)(hv:Sub (Pr.tab real) v (av a))(hr:S'.row 0=[tv,.int .i64 y',.bool b'])(hn:1≤S'.next):K (.ret v) S':=h y' v S' hy hz hv hr hn
theorem yd{o s:List UInt8}{k:Int}{l:List Nd}{cl:List AV}{m:Mode}(h:cl=avL l):Sub (Pr.tab real) (.agg [.str o,.str s,.int .i64 k,.slice 24 cl m]) (Nd.mk o s k l).av:=xad _ o s k 24 cl m l h (.inl rfl)
end Go.AM.Rf
