/- The parser's functions: names, kinds, words. -/
import Derived.Test.YteomefghofhkiaaGreatDoorRdPlain
set_option maxRecDepth 100000
set_option maxHeartbeats 40000000
set_option linter.unusedVariables false
set_option linter.unusedSimpArgs false
namespace Go.AM.Ps
open Go.Proofs W
def vg:AV:= .iface 47 (.agg [])
def At(t:List Tk)(z:Nat)(r:List AV):Prop:=r=[tokV t,.int .i64 z]∧z≤t.length
def P0(r:List AV):St:=⟨[(0,r)],1,[]⟩
theorem At.ne{t:List Tk}{z:Nat}{r:List AV}(h:At t z r):r≠[]:=by rw[h.1];simp
theorem qp(l:List Tk):∃ e cs m,tokV l= .slice e cs m∧cs=l.map Tk.av∧(l≠[]→e=41):=by
 cases l with
 |nil=>exact⟨0,[],.exact,rfl,rfl,fun h=>absurd rfl h⟩
 |cons x r=>exact⟨41,(x::r).map Tk.av,.no,rfl,rfl,fun _=>rfl⟩
theorem vcp(f h:Nat→Option Nat)(l:List Tk):(tokV l).ren f h=tokV l:=by cases l<;>rfl
theorem At.ren{t:List Tk}{z:Nat}{r:List AV}(f h:Nat→Option Nat)(hr:At t z r):renL f h r=r:=by
 rw[hr.1];simp only[renL,vcp];rfl
theorem xbq:∀(l:List (Nat × List AV)) (o:Nat),vcg l o (vaq l o)=l
 | [],o=>rfl
 |(k,r)::l,o=>by
  simp only[vcg,vaq]
  cases hb:Nat.beq k o with
  |true=>rfl
  |false=>simp only[];rw[xbq l o]
theorem St.set_same(S:St)(o:Nat):S.set o (S.row o)=S:=by
 unfold St.set St.row;rw[xbq]
theorem Ps.fn36:FnOk Tryz.prog 36 (fni Tryz.f36 Pr.a36):=⟨⟨Tryz.f36,Tryz.func36,rfl,rfl,rfl,by kernel_rfl⟩,by kernel_rfl⟩
theorem qa1(t:List Tk)(ht:t.length≤600)(z on:Nat)(y:Int)(hy:y=on)(hon:on≤1000)(s:List UInt8)(r:List AV)(h:At t z r)(K:Out→St→Prop)(hK:K (.ret (.bool (sees t (z+on) s))) (P0 r)) :
 jb Tryz.prog (Pr.tab real) 36 [.ptr 0 0,.int .i64 y,.str s] (P0 r) K:=by
 obtain⟨h1,h2⟩:=h
 obtain⟨e,cs,m,hv,hcs,he⟩:=qp t
 rw[hv] at h1
 subst h1
 apply ja (un:=0) Pr.tabOk Pr.mixed Ps.fn36 (nb rfl)
 apply qb (mk:=Pr.tab)
 intro _ _ _ _ _ len _ arith _ cmp _ eqS _ _ _ elt _ _ _ _ _ _ inb _ _ _ _ _ _ G
 obtain⟨zz,hzz⟩:∃ zz:Int,zz=(z:Int):=⟨_,rfl⟩
 rw[← hzz] at hK ⊢
 obtain⟨v,hv'⟩:∃ v:Int,v=zz+y:=⟨_,rfl⟩
 have hadd:arith BinOp.add IntKind.i64 zz y=v:=by rw[G.arith',hv'];exact wrap_i64 _ (by omega) (by omega)
 have hlss:cmp BinOp.lss v (len cs)=decide (z+on<t.length):=by
  rw[G.cmp',G.len',hcs];simp only[vb,List.length_map];rw[Bool.eq_iff_iff];simp only[decide_eq_true_eq];omega
 have hin:z+on<t.length→inb v (len cs)=true:=fun hlt=>by
  rw[G.inb',G.len',hcs];simp;omega
 have helt:∀ x,t[z+on]? =some x→elt cs v=x.av:=fun x hx=>by
  rw[G.elt',hcs];simp only[]
  rw[show v.toNat=z+on by omega,List.getD_eq_getElem?_getD,List.getElem?_map,hx];rfl
 have heql:∀ k:Int,cmp BinOp.eql k 0=(k == 0):=fun k=>by rw[G.cmp'];rfl
 have heql3:∀ k:Int,cmp BinOp.eql k 3=(k == 3):=fun k=>by rw[G.cmp'];rfl
 have heqS:=G.eqS2
 cbv
 refine G.n' rfl (G.n' rfl ?_)
 rw[hadd,hlss]
 cases hx:t[z+on]? with
 |none=>
  have hd:decide (z+on<t.length)=false:=by simpa using hx
  have hs:sees t (z+on) s=false:=by unfold sees;rw[hx]
  rw[hs] at hK
  rw[hd]
  cbv
  exact hK
 |some x=>
  have hlt:z+on<t.length:=by
   rcases Nat.lt_or_ge (z+on) t.length with q|q
   ·exact q
   ·rw[List.getElem?_eq_none q] at hx;cases hx
  have hs:sees t (z+on) s=((x.k == 0 || x.k == 3) && x.t == s):=by unfold sees;rw[hx]
  obtain rfl:e=41:=he (by intro q;rw[q] at hlt;simp at hlt)
  have hel:=helt x hx
  have hi:=hin hlt
  obtain⟨xk,xt,xn,xa⟩:=x
  rw[show Tk.av ⟨xk,xt,xn,xa⟩= .agg [.int .i64 xk,.str xt,.int .i64 xn,.int .i64 xa] from rfl] at hel
  rw[hs] at hK
  have hk0:=heql xk
  have hk3:=heql3 xk
  have hS:=heqS xt s
  simp only[] at hK
  generalize (xk == 0)=b0 at *
  generalize (xk == 3)=b3 at *
  generalize (xt == s)=bs at *
  rw[decide_eq_true hlt]
  clear hs hin helt heql heql3 heqS hlt hx
  cbv
  refine G.n' hi ?_
  rw[hel]
  cbv
  refine G.n' rfl ?_
  rw[hk0]
  cases b0
  ·cbv
   refine G.n' hi ?_
   rw[hel]
   cbv
   refine G.n' rfl ?_
   rw[hk3]
   cases b3
   ·cbv
    exact hK
   ·cbv
    refine G.n' hi ?_
    rw[hel]
    cbv
    rw[hS]
    cases bs<;>(cbv;exact hK)
  ·cbv
   refine G.n' hi ?_
   rw[hel]
   cbv
   rw[hS]
   cases bs<;>(cbv;exact hK)
end Go.AM.Ps
namespace Go.AM
def Sub(T:Tab)(v v':AV):Prop:=∀(w:World) (g:Ghost) (x:Value),Rep T w g v x→Rep T w g v' x
theorem Sub.refl(T:Tab)(v:AV):Sub T v v:=fun _ _ _ h=>h
inductive SubO (T:Tab):Out→Out→Prop where
 |ret (v v':AV) (h:Sub T v v'):SubO T (.ret v) (.ret v')
 |panic (v:AV):SubO T (.panic v) (.panic v)
theorem jb.sub{P:Program}{T:Tab}{f:FuncId}{args:List AV}{S:St}{K:Out→St→Prop}(h:jb P T f args S fun o S'=>∃ o',SubO T o o'∧K o' S'):jb P T f args S K:=by
 intro g w vs r hg ha
 have key:∀ e w',vj T g S w (fun o S'=>∃ o',SubO T o o'∧K o' S') e w'→vj T g S w K e w':=by
  rintro e w' ⟨out,S',g',⟨o',hs,hk⟩,hor,rest⟩
  refine⟨o',S',g',hk,?_,rest⟩
  cases hs with
  |panic v=>exact hor
  |ret v v' h=>
   cases e with
   |returned x=>exact h _ _ _ hor
   |_=>exact hor.elim
 rcases h g w vs r hg ha with ⟨h1,h2⟩|⟨x,w',h1,h2⟩
 ·exact .inl ⟨h1,Calls.mono h2 fun e w' q=>key e w' q⟩
 ·exact .inr ⟨x,w',h1,key _ _ h2⟩
theorem xab(T:Tab)(e:TypeId)(cs:List AV)(m:Mode):Sub T (.slice e cs m) (.slice e cs .no):=by
 intro w g x h
 cases h with
 |slice _ _ _ _ a cap b base xs hcap hmax hm ho ha hf hc h1 hD hR=>
  exact .slice g e cs .no a cap b base xs hcap hmax (fun q=>by cases q) (fun k q=>by cases q) ha hf hc h1 hD hR
theorem xak(T:Tab)(e e':TypeId)(m:Mode):Sub T (.slice e [] m) (.slice e' [] .no):=by
 intro w g x h
 cases h with
 |slice _ _ _ _ a cap b base xs hcap hmax hm ho ha hf hc h1 hD hR=>
  exact .slice g e' [] .no a cap b base xs hcap hmax (fun q=>by cases q) (fun k q=>by cases q) (fun q=>absurd rfl q) (fun i q=>absurd q (Nat.not_lt_zero i)) (fun i j q=>absurd q (Nat.not_lt_zero i)) (fun i j q=>absurd q (Nat.not_lt_zero i)) (fun i j q=>absurd q (Nat.not_lt_zero i)) (fun i j q=>absurd q (Nat.not_lt_zero i))
theorem zdd{T:Tab}{l l':List AV}(hl:l'.length=l.length)(h:∀ j,j<l.length→Sub T (nth l j) (nth l' j)):Sub T (.agg l) (.agg l'):=by
 intro w g x hr
 cases hr with
 |agg _ _ xs hl1 h1 hR=>exact .agg g l' xs (hl1.trans hl.symm) h1 fun j hj=>h j (by omega) w g _ (hR j (by omega))
end Go.AM
namespace Go.AM.Ps
open Go.Proofs W
mutual
def Nd.av:Nd→AV
 |.mk op s n l=> .agg [.str op,.str s,.int .i64 n,.slice 24 (avL l) .no]
def avL:List Nd→List AV
 | []=>[]
 |x::l=>x.av::avL l
end
theorem xd:∀ l:List Nd,avL l=l.map Nd.av
 | []=>rfl
 |x::l=>by simp[avL,xd l]
theorem zh(f h:Nat→Option Nat)(x:Nd):x.av.ren f h=x.av:=by
 obtain⟨op,s,n,l⟩:=x;rfl
def lav(l:List Nd):AV:= .slice 24 (avL l) .no
theorem jas(f h:Nat→Option Nat)(l:List Nd):(lav l).ren f h=lav l:=rfl
theorem xad(T:Tab)(op s:List UInt8)(n:Int)(e:TypeId)(cs:List AV)(m:Mode)(l:List Nd)(hcs:cs=avL l)(he:e=24∨cs=[]):Sub T (.agg [.str op,.str s,.int .i64 n,.slice e cs m]) (Nd.mk op s n l).av:=by
 have hs:Sub T (.slice e cs m) (.slice 24 (avL l) .no):=by
  rw[← hcs]
  rcases he with rfl|rfl
  ·exact xab _ _ _ _
  ·exact xak _ _ _ _
 refine zdd rfl fun j hj=>?_
 match j,hj with
 | 0,_=>exact Sub.refl _ _
 | 1,_=>exact Sub.refl _ _
 | 2,_=>exact Sub.refl _ _
 | 3,_=>exact hs
def Ans{α:Type}(r:Rs α)(av:α→AV)(out:Out)(z':Nat):Prop:=
 match r with
 |.fuel=>False
 |.wrong=>out= .panic vg
 |.ok a z1=>SubO (Pr.tab real) out (.ret (av a))∧z'=z1
def Post{α:Type}(t:List Tk)(r:Rs α)(av:α→AV)(out:Out)(S':St):Prop:=∃ z',Ans r av out z'∧At t z' (S'.row 0)∧1≤S'.next
theorem za1{f:FuncId}{args:List AV}{v:AV}{t:List Tk}{z:Nat}{S:St}{o:Nat}{K:Out→St→Prop}(hargs:renL (AM.one o 0) noh args=args)(hv:v.ren (AM.one 0 o) noh=v)(h:At t z (S.row o))(ho:o<S.next)
 (hc:jb Tryz.prog (Pr.tab real) f (.ptr 0 0::args) (P0 (S.row o)) fun out S'=>out= .ret v∧S'=P0 (S.row o)) (hK:K (.ret v) S):jb Tryz.prog (Pr.tab real) f (.ptr o 0::args) S K:=by
 have hptr:AM.one o 0 o=some 0:=vo.2 ⟨rfl,rfl⟩
 refine xbj ho h.ne ?_ ?_ (K0:=fun out S'=>out= .ret v∧S'=P0 (S.row o))
 ·rw[h.ren]
  simp only[renL,AV.ren,hptr]
  rw[hargs]
  exact hc
 ·rintro out0 S0' ⟨rfl,rfl⟩
  refine⟨Nat.le_refl _,?_⟩
  have:renL (AM.one 0 o) noh ((P0 (S.row o)).row 0)=S.row o:=h.ren _ _
  rw[this,St.set_same]
  show K (.ret (v.ren _ _)) S
  rw[hv];exact hK
theorem jv{α:Type}{f:FuncId}{args args0:List AV}{r:Rs α}{av:α→AV}{t:List Tk}{z:Nat}{S:St}{o:Nat}{K:Out→St→Prop}(hargs:renL (AM.one o 0) noh args=args0)(hav:∀ a f h,(av a).ren f h=av a)(h:At t z (S.row o))(ho:o<S.next)
 (hc:jb Tryz.prog (Pr.tab real) f args0 (P0 (S.row o)) (Post t r av))
 (hok:∀ a z' r',r= .ok a z'→At t z' r'→K (.ret (av a)) (S.set o r')) (hwr:∀ z' r',r= .wrong→At t z' r'→K (.panic vg) (S.set o r')):jb Tryz.prog (Pr.tab real) f args S K:=by
 have hc2:jb Tryz.prog (Pr.tab real) f args0 (P0 (S.row o)) fun out S'=>(∃ a z',r= .ok a z'∧out= .ret (av a)∧At t z' (S'.row 0)∧1≤S'.next)∨(∃ z',r= .wrong∧out= .panic vg∧At t z' (S'.row 0)∧1≤S'.next):=by
  refine jb.sub (jb.mono hc ?_)
  rintro out S' ⟨z',ha,h1,h2⟩
  unfold Ans at ha
  split at ha
  ·exact ha.elim
  ·subst ha;exact⟨_,.panic _,.inr ⟨z',rfl,rfl,h1,h2⟩⟩
  ·obtain⟨h3,rfl⟩:=ha
   exact⟨_,h3,.inl ⟨_,_,rfl,rfl,h1,h2⟩⟩
 refine xbj ho h.ne (by rw[hargs,h.ren];exact hc2) ?_
 rintro out0 S0' (⟨a,z',h1,rfl,h2,h3⟩|⟨z',h1,rfl,h2,h3⟩)
 ·refine⟨h3,?_⟩
  rw[h2.ren]
  show K (.ret ((av a).ren _ _)) _
  rw[hav]
  exact hok a z' _ h1 h2
 ·refine⟨h3,?_⟩
  rw[h2.ren]
  exact hwr z' _ h1 h2
theorem yco{t:List Tk}(ht:t.length≤600){z:Nat}(on:Nat){y:Int}(hy:y=on)(hon:on≤1000){s:List UInt8}{S:St}{o:Nat}(h:At t z (S.row o))(ho:o<S.next){K:Out→St→Prop}(hK:K (.ret (.bool (sees t (z+on) s))) S) :
 jb Tryz.prog (Pr.tab real) 36 [.ptr o 0,.int .i64 y,.str s] S K:=
 za1 rfl rfl h ho (qa1 t ht z on y hy hon s _ h _ ⟨rfl,rfl⟩) hK
end Go.AM.Ps
namespace Go.AM.Ps
open Go.Proofs W
def vm:List UInt8:=[32,97,108,108,32,97,110,100,32,97,110,121,32,97,115,32,97,115,99,32,98,101,116,119,101,101,110,32,98,121,32,99,97,115,101,32,99,97,115,116,32,99,104,101,99,107,32,99,108,111,115,101,32,99,111,97,108,101,115,99,101,32,99,111,109,109,105,116,32,99,114,101,97,116,101,32,99,114,111,115,115,32,99,117,114,114,101,110,116,32,99,117,114,115,111,114,32,100,101,99,108,97,114,101,32,100,101,108,101,116,101,32,100,101,115,99,32,100,105,115,116,105,110,99,116,32,100,114,111,112,32,101,108,115,101,32,101,110,100,32,101,120,99,101,112,116,32,101,120,105,115,116,115,32,102,97,108,115,101,32,102,101,116,99,104,32,102,105,114,115,116,32,102,111,114,32,102,111,114,101,105,103,110,32,102,114,111,109,32,102,117,108,108,32,103,114,111,117,112,32,104,97,118,105,110,103,32,105,110,32,105,110,100,101,120,32,105,110,110,101,114,32,105,110,115,101,114,116,32,105,110,116,101,114,115,101,99,116,32,105,110,116,111,32,105,115,32,105,115,111,108,97,116,105,111,110,32,106,111,105,110,32,107,101,121,32,108,97,115,116,32,108,101,102,116,32,108,101,118,101,108,32,108,105,107,101,32,110,101,120,116,32,110,111,116,32,110,117,108,108,32,110,117,108,108,105,102,32,111,102,32,111,110,32,111,110,108,121,32,111,112,101,110,32,111,114,32,111,114,100,101,114,32,111,117,116,101,114,32,112,114,105,109,97,114,121,32,112,114,105,111,114,32,114,101,97,100,32,114,101,102,101,114,101,110,99,101,115,32,114,101,108,97,116,105,118,101,32,114,101,108,101,97,115,101,32,114,105,103,104,116,32,114,111,108,108,98,97,99,107,32,115,97,118,101,112,111,105,110,116,32,115,99,114,111,108,108,32,115,101,108,101,99,116,32,115,101,116,32,115,111,109,101,32,116,97,98,108,101,32,116,104,101,110,32,116,111,32,116,114,97,110,115,97,99,116,105,111,110,32,116,114,117,101,32,117,110,105,111,110,32,117,110,105,113,117,101,32,117,110,107,110,111,119,110,32,117,112,100,97,116,101,32,118,97,108,117,101,115,32,119,104,101,110,32,119,104,101,114,101,32,97,98,115,111,108,117,116,101,32,99,111,117,110,116,32,115,117,109,32,109,105,110,32,109,97,120,32,98,105,103,105,110,116,32,98,111,111,108,101,97,110,32,99,104,97,114,32,99,104,97,114,97,99,116,101,114,32,105,110,116,32,105,110,116,101,103,101,114,32,115,109,97,108,108,105,110,116,32,118,97,114,99,104,97,114,32,117,110,99,111,109,109,105,116,116,101,100,32,99,111,109,109,105,116,116,101,100,32,114,101,112,101,97,116,97,98,108,101,32,115,101,114,105,97,108,105,122,97,98,108,101,32]
def qa(w:List UInt8):Bool:=match w == [] with
 |true=>false
 |false=>match Lib.contains w [32] with
  |true=>false
  |false=>Lib.contains vm (32::w++[32])
structure Toks (t:List Tk):Prop where
 len:t.length≤600
 tx:∀ x ∈ t,x.t.length≤2000
 nn:∀ x ∈ t,0≤x.n∧x.n<9223372036854775808
theorem Ps.fn115:FnOk Tryz.prog 115 (fni Tryz.f115 Pr.a115):=⟨⟨Tryz.f115,Tryz.func115,rfl,rfl,rfl,by kernel_rfl⟩,by kernel_rfl⟩
theorem Ps.fn79:FnOk Tryz.prog 79 (fni Tryz.f79 Pr.a79):=⟨⟨Tryz.f79,Tryz.func79,rfl,rfl,rfl,by kernel_rfl⟩,by kernel_rfl⟩
theorem Ps.fn109:FnOk Tryz.prog 109 (fni Tryz.f109 Pr.a109):=⟨⟨Tryz.f109,Tryz.func109,rfl,rfl,rfl,by kernel_rfl⟩,by kernel_rfl⟩
theorem Ps.fn80:FnOk Tryz.prog 80 (fni Tryz.f80 Pr.a80):=⟨⟨Tryz.f80,Tryz.func80,rfl,rfl,rfl,by kernel_rfl⟩,by kernel_rfl⟩
theorem Ps.fn40:FnOk Tryz.prog 40 (fni Tryz.f40 Pr.a40):=⟨⟨Tryz.f40,Tryz.func40,rfl,rfl,rfl,by kernel_rfl⟩,by kernel_rfl⟩
theorem Ps.fn85:FnOk Tryz.prog 85 (fni Tryz.f85 Pr.a85):=⟨⟨Tryz.f85,Tryz.func85,rfl,rfl,rfl,by kernel_rfl⟩,by kernel_rfl⟩
theorem qcp(w:List UInt8)(hw:w.length≤2000)(S:St)(K:Out→St→Prop)(hK:K (.ret (.bool (qa w))) S):jb Tryz.prog (Pr.tab real) 115 [.str w] S K:=by
 refine jb.lift (K0:=fun o _=>o= .ret (.bool (qa w))) rfl ?_ (by rintro o S0 rfl;exact hK)
 apply ja (un:=0) Pr.tabOk Pr.mixed Ps.fn115 (nb rfl)
 apply qb (mk:=Pr.tab)
 intro _ _ _ _ _ _ _ _ _ _ _ eqS _ cat _ _ _ _ _ _ _ fit _ _ _ not _ _ _ G
 have h0:not (eqS w [])= !(w == []):=by rw[G.not',G.eqS']
 have h1:=G.not2
 have hc:cat (cat [32] w) [32]=32::w++[32]:=by rw[G.cat'];rfl
 have hf1:fit [32] w=true:=by rw[G.fit'];simp;omega
 have hf2:fit (cat [32] w) [32]=true:=by rw[G.fit',G.cat'];simp;omega
 generalize hK':(fun(o:Out) (_:St)=>o= .ret (.bool (qa w)))=K0
 have hfin:∀ b S,qa w=b→K0 (.ret (.bool b)) S:=fun b S h=>by rw[← hK',h]
 have ht:vm.length<4294967281:=by decide
 have hrw:qa w=match w == [] with
  |true=>false
  |false=>match Lib.contains w [32] with
   |true=>false
   |false=>Lib.contains vm (32::w++[32]):=rfl
 generalize qa w=rb at *
 have hRT:(vm:List UInt8)=[32,97,108,108,32,97,110,100,32,97,110,121,32,97,115,32,97,115,99,32,98,101,116,119,101,101,110,32,98,121,32,99,97,115,101,32,99,97,115,116,32,99,104,101,99,107,32,99,108,111,115,101,32,99,111,97,108,101,115,99,101,32,99,111,109,109,105,116,32,99,114,101,97,116,101,32,99,114,111,115,115,32,99,117,114,114,101,110,116,32,99,117,114,115,111,114,32,100,101,99,108,97,114,101,32,100,101,108,101,116,101,32,100,101,115,99,32,100,105,115,116,105,110,99,116,32,100,114,111,112,32,101,108,115,101,32,101,110,100,32,101,120,99,101,112,116,32,101,120,105,115,116,115,32,102,97,108,115,101,32,102,101,116,99,104,32,102,105,114,115,116,32,102,111,114,32,102,111,114,101,105,103,110,32,102,114,111,109,32,102,117,108,108,32,103,114,111,117,112,32,104,97,118,105,110,103,32,105,110,32,105,110,100,101,120,32,105,110,110,101,114,32,105,110,115,101,114,116,32,105,110,116,101,114,115,101,99,116,32,105,110,116,111,32,105,115,32,105,115,111,108,97,116,105,111,110,32,106,111,105,110,32,107,101,121,32,108,97,115,116,32,108,101,102,116,32,108,101,118,101,108,32,108,105,107,101,32,110,101,120,116,32,110,111,116,32,110,117,108,108,32,110,117,108,108,105,102,32,111,102,32,111,110,32,111,110,108,121,32,111,112,101,110,32,111,114,32,111,114,100,101,114,32,111,117,116,101,114,32,112,114,105,109,97,114,121,32,112,114,105,111,114,32,114,101,97,100,32,114,101,102,101,114,101,110,99,101,115,32,114,101,108,97,116,105,118,101,32,114,101,108,101,97,115,101,32,114,105,103,104,116,32,114,111,108,108,98,97,99,107,32,115,97,118,101,112,111,105,110,116,32,115,99,114,111,108,108,32,115,101,108,101,99,116,32,115,101,116,32,115,111,109,101,32,116,97,98,108,101,32,116,104,101,110,32,116,111,32,116,114,97,110,115,97,99,116,105,111,110,32,116,114,117,101,32,117,110,105,111,110,32,117,110,105,113,117,101,32,117,110,107,110,111,119,110,32,117,112,100,97,116,101,32,118,97,108,117,101,115,32,119,104,101,110,32,119,104,101,114,101,32,97,98,115,111,108,117,116,101,32,99,111,117,110,116,32,115,117,109,32,109,105,110,32,109,97,120,32,98,105,103,105,110,116,32,98,111,111,108,101,97,110,32,99,104,97,114,32,99,104,97,114,97,99,116,101,114,32,105,110,116,32,105,110,116,101,103,101,114,32,115,109,97,108,108,105,110,116,32,118,97,114,99,104,97,114,32,117,110,99,111,109,109,105,116,116,101,100,32,99,111,109,109,105,116,116,101,100,32,114,101,112,101,97,116,97,98,108,101,32,115,101,114,105,97,108,105,122,97,98,108,101,32]:=rfl
 rw[hRT] at hrw ht
 generalize hw0:(w == [])=b0 at *
 generalize hw1:Lib.contains w [32]=b1 at *
 generalize (32::w++[32])=ww at *
 cbv
 rw[h0]
 cases b0
 ·cbv
  refine G.c' (vao _ _ (by omega) _ _ ?_)
  rw[hw1]
  cbv
  rw[h1]
  cases b1
  ·cbv
   refine G.n' hf1 (G.n' hf2 (G.c' ?_))
   rw[hc]
   refine vao _ _ ht _ _ ?_
   generalize Lib.contains _ ww=r at *
   cbv
   exact hfin _ _ hrw
  ·cbv
   exact hfin _ _ hrw
 ·cbv
  exact hfin _ _ hrw
theorem zbs{t:List Tk}(ht:Toks t)(z on:Nat)(y:Int)(hy:y=on)(hon:on≤1000)(r:List AV)(h:At t z r)(K:Out→St→Prop)(hK:K (.ret (.bool (isName qa t (z+on)))) (P0 r)) :
 jb Tryz.prog (Pr.tab real) 79 [.ptr 0 0,.int .i64 y] (P0 r) K:=by
 have htl:=ht.len
 obtain⟨h1,h2⟩:=h
 obtain⟨e,cs,m,hv,hcs,he⟩:=qp t
 rw[hv] at h1
 subst h1
 apply ja (un:=0) Pr.tabOk Pr.mixed Ps.fn79 (nb rfl)
 apply qb (mk:=Pr.tab)
 intro _ _ _ _ _ len _ arith _ cmp _ _ _ _ _ elt _ _ _ _ _ _ inb _ _ not _ _ _ G
 obtain⟨zz,hzz⟩:∃ zz:Int,zz=(z:Int):=⟨_,rfl⟩
 rw[← hzz] at hK ⊢
 obtain⟨v,hv'⟩:∃ v:Int,v=zz+y:=⟨_,rfl⟩
 have hadd:arith BinOp.add IntKind.i64 zz y=v:=by rw[G.arith',hv'];exact wrap_i64 _ (by omega) (by omega)
 have hlss:cmp BinOp.lss v (len cs)=decide (z+on<t.length):=by
  rw[G.cmp',G.len',hcs];simp only[vb,List.length_map];rw[Bool.eq_iff_iff];simp only[decide_eq_true_eq];omega
 have hin:z+on<t.length→inb v (len cs)=true:=fun hlt=>by
  rw[G.inb',G.len',hcs];simp;omega
 have helt:∀ x,t[z+on]? =some x→elt cs v=x.av:=fun x hx=>by
  rw[G.elt',hcs];simp only[]
  rw[show (v).toNat=z+on by omega,List.getD_eq_getElem?_getD,List.getElem?_map,hx];rfl
 have heql:∀ k:Int,cmp BinOp.eql k 0=(k == 0):=fun k=>by rw[G.cmp'];rfl
 have hnot:=G.not2
 cbv
 refine G.n' rfl (G.n' rfl ?_)
 rw[hadd,hlss]
 cases hx:t[z+on]? with
 |none=>
  have hd:decide (z+on<t.length)=false:=by simpa using hx
  have hs:isName qa t (z+on)=false:=by unfold isName;rw[hx]
  rw[hs] at hK
  rw[hd]
  cbv
  exact hK
 |some x=>
  have hlt:z+on<t.length:=by
   rcases Nat.lt_or_ge (z+on) t.length with q|q
   ·exact q
   ·rw[List.getElem?_eq_none q] at hx;cases hx
  obtain rfl:e=41:=he (by intro q;rw[q] at hlt;simp at hlt)
  have hel:=helt x hx
  have hi:=hin hlt
  have hs:isName qa t (z+on)=(x.k == 0 && !qa x.t):=by unfold isName;rw[hx]
  have hxl:x.t.length≤2000:=ht.tx x (List.mem_of_getElem? hx)
  obtain⟨xk,xt,xn,xa⟩:=x
  rw[show Tk.av ⟨xk,xt,xn,xa⟩= .agg [.int .i64 xk,.str xt,.int .i64 xn,.int .i64 xa] from rfl] at hel
  rw[hs] at hK
  have hk0:=heql xk
  simp only[] at hK
  have hres:=fun S K hK=>qcp xt hxl S K hK
  generalize (xk == 0)=b0 at *
  generalize qa xt=bs at *
  rw[decide_eq_true hlt]
  clear hs hin helt heql hlt hx
  cbv
  refine G.n' hi ?_
  rw[hel]
  cbv
  refine G.n' rfl ?_
  rw[hk0]
  cases b0
  ·cbv
   exact hK
  ·cbv
   refine G.n' hi ?_
   rw[hel]
   cbv
   refine G.c' (hres _ _ ?_)
   cbv
   rw[hnot]
   cases bs<;>(cbv;exact hK)
theorem jbs{t:List Tk}(ht:Toks t)(z:Nat)(k:Int)(r:List AV)(h:At t z r)(K:Out→St→Prop)(hK:K (.ret (.bool (isKind t k z))) (P0 r)) :
 jb Tryz.prog (Pr.tab real) 109 [.ptr 0 0,.int .i64 k] (P0 r) K:=by
 have htl:=ht.len
 obtain⟨h1,h2⟩:=h
 obtain⟨e,cs,m,hv,hcs,he⟩:=qp t
 rw[hv] at h1
 subst h1
 apply ja (un:=0) Pr.tabOk Pr.mixed Ps.fn109 (nb rfl)
 apply qb (mk:=Pr.tab)
 intro _ _ _ _ _ len _ _ _ cmp _ _ _ _ _ elt _ _ _ _ _ _ inb _ _ _ _ _ _ G
 obtain⟨zz,hzz⟩:∃ zz:Int,zz=(z:Int):=⟨_,rfl⟩
 rw[← hzz] at hK ⊢
 have hlss:cmp BinOp.lss zz (len cs)=decide (z<t.length):=by
  rw[G.cmp',G.len',hcs];simp only[vb,List.length_map];rw[Bool.eq_iff_iff];simp only[decide_eq_true_eq];omega
 have hin:z<t.length→inb zz (len cs)=true:=fun hlt=>by
  rw[G.inb',G.len',hcs];simp;omega
 have helt:∀ x,t[z]? =some x→elt cs zz=x.av:=fun x hx=>by
  rw[G.elt',hcs];simp only[]
  rw[show (zz).toNat=z by omega,List.getD_eq_getElem?_getD,List.getElem?_map,hx];rfl
 have heql:∀ j:Int,cmp BinOp.eql j k=(j == k):=fun j=>by rw[G.cmp'];rfl
 cbv
 refine G.n' rfl ?_
 rw[hlss]
 cases hx:t[z]? with
 |none=>
  have hd:decide (z<t.length)=false:=by simpa using hx
  have hs:isKind t k z=false:=by unfold isKind;rw[hx]
  rw[hs] at hK
  rw[hd]
  cbv
  exact hK
 |some x=>
  have hlt:z<t.length:=by
   rcases Nat.lt_or_ge (z) t.length with q|q
   ·exact q
   ·rw[List.getElem?_eq_none q] at hx;cases hx
  obtain rfl:e=41:=he (by intro q;rw[q] at hlt;simp at hlt)
  have hel:=helt x hx
  have hi:=hin hlt
  have hs:isKind t k z=(x.k == k):=by unfold isKind;rw[hx]
  obtain⟨xk,xt,xn,xa⟩:=x
  rw[show Tk.av ⟨xk,xt,xn,xa⟩= .agg [.int .i64 xk,.str xt,.int .i64 xn,.int .i64 xa] from rfl] at hel
  rw[hs] at hK
  have hk0:=heql xk
  simp only[] at hK
  generalize (xk == k)=b0 at *
  rw[decide_eq_true hlt]
  clear hs hin helt heql hlt hx
  cbv
  refine G.n' hi ?_
  rw[hel]
  cbv
  refine G.n' rfl ?_
  rw[hk0]
  cbv
  exact hK
theorem zdw{t:List Tk}(ht:Toks t){z:Nat}(on:Nat){y:Int}(hy:y=on)(hon:on≤1000){S:St}{o:Nat}(h:At t z (S.row o))(ho:o<S.next){K:Out→St→Prop}(hK:K (.ret (.bool (isName qa t (z+on)))) S) :
 jb Tryz.prog (Pr.tab real) 79 [.ptr o 0,.int .i64 y] S K:=
 za1 rfl rfl h ho (zbs ht z on y hy hon _ h _ ⟨rfl,rfl⟩) hK
theorem jdw{t:List Tk}(ht:Toks t){z:Nat}(k:Int){S:St}{o:Nat}(h:At t z (S.row o))(ho:o<S.next){K:Out→St→Prop}(hK:K (.ret (.bool (isKind t k z))) S) :
 jb Tryz.prog (Pr.tab real) 109 [.ptr o 0,.int .i64 k] S K:=
 za1 rfl rfl h ho (jbs ht z k _ h _ ⟨rfl,rfl⟩) hK
theorem vd6{t:List Tk}(ht:Toks t)(z:Nat)(r:List AV)(h:At t z r):jb Tryz.prog (Pr.tab real) 40 [.ptr 0 0] (P0 r) (Post t (name qa t z) AV.str):=by
 have htl:=ht.len
 have hask:=fun K hK=>zbs ht z 0 0 rfl (by omega) r h K hK
 try simp only[Nat.add_zero] at hask
 cases hb:isName qa t z with
 |false=>
  rw[hb] at hask
  have hr:name qa t z= .wrong:=by unfold name;rw[hb]
  rw[hr]
  have hfin:∀ S',S'=P0 r→Post t (Rs.wrong) AV.str (.panic (.iface 47 (.agg []))) S':=fun S' q=>⟨z,rfl,by rw[q];exact h,by rw[q];exact Nat.le_refl 1⟩
  generalize Post t (Rs.wrong) AV.str=K0 at *
  apply ja (un:=0) Pr.tabOk Pr.mixed Ps.fn40 (nb rfl)
  apply qb (mk:=Pr.tab)
  intro fail need same call loop len slen arith shift cmp conv eqS ltS cat app elt byt subS subL strOf isB fit inb cut room not and eqB avs G
  have hnot:=G.not2
  generalize hS:P0 r=S0 at *
  unfold P0 at hS
  subst hS
  cbv
  refine G.c' (hask _ ?_)
  cbv
  rw[hnot]
  cbv
  exact hfin _ rfl
 |true=>
  rw[hb] at hask
  obtain⟨x,hx⟩:∃ x,t[z]? =some x:=by
   unfold isName at hb
   cases hq:t[z]? with
   |none=>rw[hq] at hb;cases hb
   |some x=>exact⟨x,rfl⟩
  have hlt:z<t.length:=by
   rcases Nat.lt_or_ge z t.length with q|q
   ·exact q
   ·rw[List.getElem?_eq_none q] at hx;cases hx
  have hr:name qa t z= .ok (x.t) (z+1):=by unfold name textAt;rw[hb,hx]
  rw[hr]
  obtain⟨h1,h2⟩:=h
  obtain⟨e,cs,m,hv,hcs,he⟩:=qp t
  rw[hv] at h1
  obtain rfl:e=41:=he (by intro q;rw[q] at hlt;simp at hlt)
  have hfin:∀ S' (y:Int),y=(z+1:Nat)→S'.row 0=[.slice 41 cs m,.int .i64 y]→S'.next=1→Post t (Rs.ok (x.t) (z+1)) AV.str (.ret (.str x.t)) S':=fun S' y hy hr hn=>⟨z+1,⟨.ret _ _ (Sub.refl _ _),rfl⟩,⟨by rw[hr,hv,hy],hlt⟩,by rw[hn];exact Nat.le_refl 1⟩
  generalize Post t (Rs.ok (x.t) (z+1)) AV.str=K0 at *
  subst h1
  apply ja (un:=0) Pr.tabOk Pr.mixed Ps.fn40 (nb rfl)
  apply qb (mk:=Pr.tab)
  intro _ _ _ _ _ len _ arith _ _ _ _ _ _ _ elt _ _ _ _ _ _ inb _ _ not _ _ _ G
  have hnot:=G.not2
  obtain⟨zz,hzz⟩:∃ zz:Int,zz=(z:Int):=⟨_,rfl⟩
  rw[← hzz] at hask ⊢
  obtain⟨v,hv'⟩:∃ v:Int,v=zz+1:=⟨_,rfl⟩
  have hadd:arith BinOp.add IntKind.i64 zz 1=v:=by rw[G.arith',hv'];exact wrap_i64 _ (by omega) (by omega)
  have hsub:arith BinOp.sub IntKind.i64 v 1=zz:=by
   rw[G.arith',hv']
   show IntKind.i64.wrap (zz+1-1)=zz
   rw[show zz+1-1=zz by omega]
   exact wrap_i64 _ (by omega) (by omega)
  have hin:inb zz (len cs)=true:=by
   rw[G.inb',G.len',hcs];simp;omega
  have hel:elt cs zz=x.av:=by
   rw[G.elt',hcs];simp only[]
   rw[show zz.toNat=z by omega,List.getD_eq_getElem?_getD,List.getElem?_map,hx];rfl
  have hfin:=fun S'=>hfin S' v (by omega)
  obtain⟨xk,xt,xn,xa⟩:=x
  rw[show Tk.av ⟨xk,xt,xn,xa⟩= .agg [.int .i64 xk,.str xt,.int .i64 xn,.int .i64 xa] from rfl] at hel
  clear hv' hzz hlt hcs he hr hx hb
  unfold P0 at *
  cbv
  refine G.c' (hask _ ?_)
  cbv
  rw[hnot]
  cbv
  refine G.n' rfl ?_
  rw[hadd]
  refine G.n' rfl ?_
  rw[hsub]
  refine G.n' hin ?_
  rw[hel]
  cbv
  exact hfin _ rfl rfl
theorem qc5{t:List Tk}(ht:Toks t)(z:Nat)(r:List AV)(h:At t z r):jb Tryz.prog (Pr.tab real) 85 [.ptr 0 0] (P0 r) (Post t (number t z) (AV.int .i64)):=by
 have htl:=ht.len
 have hask:=fun K hK=>jbs ht z 1 r h K hK
 try simp only[Nat.add_zero] at hask
 cases hb:isKind t 1 z with
 |false=>
  rw[hb] at hask
  have hr:number t z= .wrong:=by unfold number;rw[hb]
  rw[hr]
  have hfin:∀ S',S'=P0 r→Post t (Rs.wrong) (AV.int .i64) (.panic (.iface 47 (.agg []))) S':=fun S' q=>⟨z,rfl,by rw[q];exact h,by rw[q];exact Nat.le_refl 1⟩
  generalize Post t (Rs.wrong) (AV.int .i64)=K0 at *
  apply ja (un:=0) Pr.tabOk Pr.mixed Ps.fn85 (nb rfl)
  apply qb (mk:=Pr.tab)
  intro fail need same call loop len slen arith shift cmp conv eqS ltS cat app elt byt subS subL strOf isB fit inb cut room not and eqB avs G
  have hnot:=G.not2
  generalize hS:P0 r=S0 at *
  unfold P0 at hS
  subst hS
  cbv
  refine G.c' (hask _ ?_)
  cbv
  rw[hnot]
  cbv
  exact hfin _ rfl
 |true=>
  rw[hb] at hask
  obtain⟨x,hx⟩:∃ x,t[z]? =some x:=by
   unfold isKind at hb
   cases hq:t[z]? with
   |none=>rw[hq] at hb;cases hb
   |some x=>exact⟨x,rfl⟩
  have hlt:z<t.length:=by
   rcases Nat.lt_or_ge z t.length with q|q
   ·exact q
   ·rw[List.getElem?_eq_none q] at hx;cases hx
  have hr:number t z= .ok (x.n) (z+1):=by unfold number numAt;rw[hb,hx]
  rw[hr]
  obtain⟨h1,h2⟩:=h
  obtain⟨e,cs,m,hv,hcs,he⟩:=qp t
  rw[hv] at h1
  obtain rfl:e=41:=he (by intro q;rw[q] at hlt;simp at hlt)
  have hfin:∀ S' (y:Int),y=(z+1:Nat)→S'.row 0=[.slice 41 cs m,.int .i64 y]→S'.next=1→Post t (Rs.ok (x.n) (z+1)) (AV.int .i64) (.ret (.int .i64 x.n)) S':=fun S' y hy hr hn=>⟨z+1,⟨.ret _ _ (Sub.refl _ _),rfl⟩,⟨by rw[hr,hv,hy],hlt⟩,by rw[hn];exact Nat.le_refl 1⟩
  generalize Post t (Rs.ok (x.n) (z+1)) (AV.int .i64)=K0 at *
  subst h1
  apply ja (un:=0) Pr.tabOk Pr.mixed Ps.fn85 (nb rfl)
  apply qb (mk:=Pr.tab)
  intro _ _ _ _ _ len _ arith _ _ _ _ _ _ _ elt _ _ _ _ _ _ inb _ _ not _ _ _ G
  have hnot:=G.not2
  obtain⟨zz,hzz⟩:∃ zz:Int,zz=(z:Int):=⟨_,rfl⟩
  rw[← hzz] at hask ⊢
  obtain⟨v,hv'⟩:∃ v:Int,v=zz+1:=⟨_,rfl⟩
  have hadd:arith BinOp.add IntKind.i64 zz 1=v:=by rw[G.arith',hv'];exact wrap_i64 _ (by omega) (by omega)
  have hsub:arith BinOp.sub IntKind.i64 v 1=zz:=by
   rw[G.arith',hv']
   show IntKind.i64.wrap (zz+1-1)=zz
   rw[show zz+1-1=zz by omega]
   exact wrap_i64 _ (by omega) (by omega)
  have hin:inb zz (len cs)=true:=by
   rw[G.inb',G.len',hcs];simp;omega
  have hel:elt cs zz=x.av:=by
   rw[G.elt',hcs];simp only[]
   rw[show zz.toNat=z by omega,List.getD_eq_getElem?_getD,List.getElem?_map,hx];rfl
  have hfin:=fun S'=>hfin S' v (by omega)
  obtain⟨xk,xt,xn,xa⟩:=x
  rw[show Tk.av ⟨xk,xt,xn,xa⟩= .agg [.int .i64 xk,.str xt,.int .i64 xn,.int .i64 xa] from rfl] at hel
  clear hv' hzz hlt hcs he hr hx hb
  unfold P0 at *
  cbv
  refine G.c' (hask _ ?_)
  cbv
  rw[hnot]
  cbv
  refine G.n' rfl ?_
  rw[hadd]
  refine G.n' rfl ?_
  rw[hsub]
  refine G.n' hin ?_
  rw[hel]
  cbv
  exact hfin _ rfl rfl
theorem vce(a:List UInt8)(f h:Nat→Option Nat):(AV.str a).ren f h=AV.str a:=rfl
theorem qcm(a:Int)(f h:Nat→Option Nat):(AV.int .i64 a).ren f h=AV.int .i64 a:=rfl
theorem ycv(a:Bool)(f h:Nat→Option Nat):(AV.bool a).ren f h=AV.bool a:=rfl
theorem yy{t:List Tk}(ht:Toks t){z:Nat}{S:St}{o:Nat}(h:At t z (S.row o))(ho:o<S.next){K:Out→St→Prop}
 (hok:∀ a z' r',name qa t z= .ok a z'→At t z' r'→K (.ret (AV.str a)) (S.set o r')) (hwr:∀ z' r',name qa t z= .wrong→At t z' r'→K (.panic vg) (S.set o r')) :
 jb Tryz.prog (Pr.tab real) 40 [.ptr o 0] S K:=
 jv (by simp only[renL,AV.ren,show AM.one o 0 o=some 0 from vo.2 ⟨rfl,rfl⟩]) vce h ho (vd6 ht z _ h) hok hwr
theorem ja3{t:List Tk}(ht:Toks t){z:Nat}{S:St}{o:Nat}(h:At t z (S.row o))(ho:o<S.next){K:Out→St→Prop}
 (hok:∀ a z' r',number t z= .ok a z'→At t z' r'→K (.ret ((AV.int .i64) a)) (S.set o r')) (hwr:∀ z' r',number t z= .wrong→At t z' r'→K (.panic vg) (S.set o r')) :
 jb Tryz.prog (Pr.tab real) 85 [.ptr o 0] S K:=
 jv (by simp only[renL,AV.ren,show AM.one o 0 o=some 0 from vo.2 ⟨rfl,rfl⟩]) qcm h ho (qc5 ht z _ h) hok hwr
end Go.AM.Ps
