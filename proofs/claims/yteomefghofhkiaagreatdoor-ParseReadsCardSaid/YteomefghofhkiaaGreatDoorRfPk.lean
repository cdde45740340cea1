/- The two grammars: how they are compared, what binds, loops. -/
import Derived.Test.YteomefghofhkiaaGreatDoorRfPj
set_option maxRecDepth 100000
set_option maxHeartbeats 4000000
set_option linter.unusedVariables false
set_option linter.unusedSimpArgs false
namespace Go.AM.Rf
open Go.Proofs Go.AM.Ps Go.AM.W
def D{α:Type}(m:M α):Prop:=∀ z,∃ a z',m z true=some (a,z',true)
def R{α:Type}(r:Rs α)(m:M α)(z:Nat):Prop:=match r with
 |.fuel=>True
 |.wrong=>∃ a z',m z false=some (a,z',true)
 |.ok a z'=>m z false=some (a,z',false)
section
variable {t:List Tk}
theorem D.rt{α:Type}(a:α):D (Rf.rt a):=fun z=>⟨a,z,rfl⟩
theorem D.bd{α β:Type}{m:M α}{g:α→M β}(h:D m)(hg:∀ a,D (g a)):D (Rf.bd m g):=fun z=>by
 obtain⟨a,z1,h1⟩:=h z
 obtain⟨c,z2,h2⟩:=hg a z1
 exact⟨c,z2,by unfold Rf.bd;rw[h1];exact h2⟩
theorem D.setBad{β:Type}{g:Unit→M β}(h:D (g ())):D (Rf.bd Rf.setBad g):=fun z=>h z
theorem D.isT{β:Type}{n:Nat}{s:List UInt8}{g:Bool→M β}(h:D (g false)):D (Rf.bd (isT t n s) g):=fun z=>h z
theorem D.got{β:Type}{s:List UInt8}{g:Bool→M β}(h:D (g false)):D (Rf.bd (got t s) g):=fun z=>h z
theorem D.must{β:Type}{s:List UInt8}{g:Unit→M β}(h:D (g ())):D (Rf.bd (must t s) g):=fun z=>h z
theorem D.must0{s:List UInt8}:D (Rf.must t s):=fun z=>⟨(),z,rfl⟩
theorem D.namedT{β:Type}{n:Nat}{g:Bool→M β}(h:D (g false)):D (Rf.bd (namedT t n) g):=fun z=>h z
theorem D.kindT{β:Type}{k:Int}{g:Bool→M β}(h:D (g false)):D (Rf.bd (kindT t k) g):=fun z=>h z
theorem D.name{β:Type}{g:List UInt8→M β}(h:D (g [])):D (Rf.bd (name t) g):=fun z=>h z
theorem D.number{β:Type}{g:Int→M β}(h:D (g 0)):D (Rf.bd (number t) g):=fun z=>h z
theorem qa8:∀(l:List (List UInt8)) (z:Nat),whichOf t l z true=some (none,z,true)
 | [],z=>rfl
 |s::l,z=>qa8 l z
theorem D.which{β:Type}{l:List (List UInt8)}{g:Option (List UInt8)→M β}(h:D (g none)):D (Rf.bd (whichOf t l) g):=fun z=>by
 unfold Rf.bd;rw[qa8];exact h z
theorem D.opens{β:Type}{n:Nat}{g:Bool→M β}(h:D (g false)):D (Rf.bd (opens t (n+1)) g):=fun z=>h z
theorem D.unbad{α:Type}{a:α}{m:M α}:D (unbad a m):=fun z=>⟨a,z,rfl⟩
theorem vt{α β γ:Type}(m:M α)(f:α→M β)(g:β→M γ):Rf.bd (Rf.bd m f) g=Rf.bd m fun a=>Rf.bd (f a) g:=by
 funext z b
 unfold Rf.bd
 cases m z b with
 |none=>rfl
 |some r=>rfl
theorem jen{α β:Type}(a:α)(f:α→M β):Rf.bd (Rf.rt a) f=f a:=rfl
theorem xq{α β γ:Type}(r:Rs α)(f:α→Nat→Rs β)(g:β→Nat→Rs γ):(r.bind f).bind g=r.bind fun a z=>(f a z).bind g:=by
 cases r<;>rfl
theorem D.commas{p:M Nd}{n:Nat}{l:List Nd}:D (commas t p (n+1) l):=D.unbad
theorem D.list{p:M Nd}{n:Nat}(h:D p):D (Rf.list t p (n+1)):=D.bd h fun a=>D.commas
theorem D.chain{w:List UInt8}{p:M Nd}{n:Nat}{a:Nd}:D (chain t w p (n+1) a):=D.unbad
theorem D.sumMore{p:M Nd}{n:Nat}{a:Nd}:D (sumMore t p (n+1) a):=D.unbad
theorem D.prodMore{p:M Nd}{n:Nat}{a:Nd}:D (prodMore t p (n+1) a):=D.unbad
theorem D.arms{p:M Nd}{o:Option Nd}{n:Nat}{l:List Nd}:D (arms t p o (n+1) l):=D.unbad
theorem D.unions{p:M Nd}{n:Nat}{a:Nd}:D (unions t p (n+1) a):=D.unbad
theorem D.sects{p:M Nd}{n:Nat}{a:Nd}:D (sects t p (n+1) a):=D.unbad
theorem D.joins{p q:M Nd}{n:Nat}{a:Nd}:D (joins t p q (n+1) a):=D.unbad
theorem D.sets{p:M Nd}{n:Nat}{l:List Nd}:D (sets t p (n+1) l):=D.unbad
theorem D.opts{n k:Nat}{l:List Nd}:D (opts t n (k+1) l):=D.unbad
end
section
variable {t:List Tk}
theorem D.column:D (column t):=by unfold Rf.column;exact D.name (D.got (D.rt _))
theorem D.typed:D (typed t):=by unfold Rf.typed;exact D.which (D.got (D.got (D.got (D.must (D.got (D.rt _))))))
theorem D.alias{s:List UInt8}:D (alias t s):=by unfold Rf.alias;exact D.got (D.namedT (D.rt _))
theorem D.aName:D (aName t):=by unfold Rf.aName;exact D.name (D.rt _)
theorem D.names{n:Nat}:D (names t (n+1)):=by unfold Rf.names;exact D.must (D.bd (D.list D.aName) fun a=>D.must (D.rt _))
theorem D.call{n:Nat}:D (call t (n+1)):=by unfold Rf.call;exact D.which (D.got (D.got (D.got D.column)))
theorem D.one{n:Nat}:D (one t (n+2)):=by unfold Rf.one;exact D.kindT (D.kindT (D.got (D.got (D.got (D.opens (D.got (D.got (D.got D.call))))))))
theorem D.sign{n:Nat}:D (sign t (n+3)):=by unfold Rf.sign;exact D.got D.one
theorem D.product{n:Nat}:D (product t (n+4)):=by unfold Rf.product;exact D.bd D.sign fun a=>D.prodMore
theorem D.sum{n:Nat}:D (sum t (n+5)):=by unfold Rf.sum;exact D.bd D.product fun a=>D.sumMore
theorem D.test{n:Nat}:D (test t (n+6)):=by unfold Rf.test;exact D.bd D.sum fun a=>D.which (D.got (D.got (D.got (D.got (D.got (D.rt _))))))
theorem D.notE{n:Nat}:D (notE t (n+7)):=by unfold Rf.notE;exact D.got D.test
theorem D.andE{n:Nat}:D (andE t (n+8)):=by unfold Rf.andE;exact D.bd D.notE fun a=>D.chain
theorem D.expr{n:Nat}:D (expr t (n+9)):=by unfold Rf.expr;exact D.bd D.andE fun a=>D.chain
theorem D.exprs{n:Nat}:D (exprs t (n+10)):=by unfold Rf.exprs;exact D.list D.expr
theorem D.item{n:Nat}:D (item t (n+10)):=by unfold Rf.item;exact D.got (D.namedT (D.isT (D.isT (D.bd D.expr fun a=>D.bd D.alias fun a=>D.rt _))))
theorem D.joined{n:Nat}:D (joined t (n+2)):=by unfold Rf.joined;exact D.opens (D.got (D.name (D.bd D.alias fun a=>D.rt _)))
theorem D.table{n:Nat}:D (table t (n+3)):=by unfold Rf.table;exact D.bd D.joined fun a=>D.joins
theorem D.simple{n:Nat}:D (simple t (n+11)):=by
 unfold Rf.simple
 exact D.got (D.must (D.got (D.bd (D.got (D.rt _)) fun a=>D.bd (D.list D.item) fun a=>D.must (D.bd (D.list D.table) fun a=>D.got (D.bd (D.rt _) fun a=>D.got (D.bd (D.rt _) fun a=>D.got (D.bd (D.rt _) fun a=>D.rt _)))))))
theorem D.term{n:Nat}:D (term t (n+12)):=by unfold Rf.term;exact D.bd D.simple fun a=>D.sects
theorem D.body{n:Nat}:D (body t (n+13)):=by unfold Rf.body;exact D.bd D.term fun a=>D.unions
theorem D.inner{n:Nat}:D (inner t (n+14)):=by unfold Rf.inner;exact D.must (D.bd D.body fun a=>D.must (D.rt _))
theorem D.compared{n:Nat}{w:List UInt8}{a:Nd}:D (compared t (n+6) w a):=by unfold Rf.compared;exact D.got (D.got (D.got (D.bd D.sum fun a=>D.rt _)))
theorem D.inE{n:Nat}{a:Nd}:D (inE t (n+11) a):=by unfold Rf.inE;exact D.opens (D.must (D.bd D.exprs fun a=>D.must (D.rt _)))
theorem D.cases{n:Nat}:D (cases t (n+10)):=by unfold Rf.cases;exact D.isT (D.bd (D.bd D.expr fun a=>D.rt _) fun a=>D.bd D.arms fun a=>D.got (D.bd (D.rt _) fun a=>D.must (D.rt _)))
theorem D.total{n:Nat}{w:List UInt8}:D (total t (n+10) w):=by
 unfold Rf.total
 refine D.must ?_
 cases w == k_count
 ·exact D.got (D.got (D.bd D.expr fun a=>D.must (D.rt _)))
 ·exact D.got (D.got (D.got (D.bd D.expr fun a=>D.must (D.rt _))))
theorem R.ret{α:Type}(a:α)(z:Nat):R (.ok a z) (Rf.rt a) z:=rfl
theorem R.wrong{α:Type}{g:Unit→M α}{z:Nat}(h:D (g ())):R .wrong (Rf.bd setBad g) z:=h z
theorem R.part{α β:Type}{r:Rs α}{f:α→Nat→Rs β}{m:M α}{g:α→M β}{z:Nat}(h:R r m z)(hd:∀ a,D (g a))(hg:∀ a z',r= .ok a z'→R (f a z') (g a) z'):R (r.bind f) (Rf.bd m g) z:=by
 cases r with
 |fuel=>trivial
 |wrong=>
  obtain⟨a,z1,h1⟩:=h
  obtain⟨c,z2,h2⟩:=hd a z1
  exact⟨c,z2,by unfold Rf.bd;rw[h1];exact h2⟩
 |ok a z'=>
  have hm:Rf.bd m g z false=g a z' false:=by unfold Rf.bd;rw[show m z false=_ from h]
  have:=hg a z' rfl
  show R (f a z') _ z
  revert this
  unfold R
  rw[hm]
  exact id
theorem zai{s:List UInt8}{z:Nat}(h:sees t z s=true):got t s z false=some (true,z+1,false):=by unfold Rf.got;rw[h];rfl
theorem xp{s:List UInt8}{z:Nat}(h:sees t z s=false):got t s z false=some (false,z,false):=by unfold Rf.got;rw[h];rfl
theorem xm{α β:Type}{m:M α}{g:α→M β}{z:Nat}{b:Bool}{a:α}{z':Nat}{b':Bool}(h:m z b=some (a,z',b')):Rf.bd m g z b=g a z' b':=by unfold Rf.bd;rw[h]
theorem R.move{α:Type}{r:Rs α}{m m':M α}{z z':Nat}(h:m z false=m' z' false)(hr:R r m' z'):R r m z:=by
 revert hr;unfold R;rw[h];exact id
theorem R.got1{α:Type}{r:Rs α}{s:List UInt8}{g:Bool→M α}{z:Nat}(h:sees t z s=true)(hr:R r (g true) (z+1)):R r (Rf.bd (got t s) g) z:=hr.move (xm (zai h))
theorem R.got0{α:Type}{r:Rs α}{s:List UInt8}{g:Bool→M α}{z:Nat}(h:sees t z s=false)(hr:R r (g false) z):R r (Rf.bd (got t s) g) z:=hr.move (xm (xp h))
theorem R.is{α:Type}{r:Rs α}{n:Nat}{s:List UInt8}{g:Bool→M α}{z:Nat}{q:Bool}(h:sees t (z+n) s=q)(hr:R r (g q) z):R r (Rf.bd (isT t n s) g) z:=hr.move (xm (by unfold Rf.isT;rw[h];rfl))
theorem R.kind{α:Type}{r:Rs α}{k:Int}{g:Bool→M α}{z:Nat}{q:Bool}(h:isKind t k z=q)(hr:R r (g q) z):R r (Rf.bd (kindT t k) g) z:=hr.move (xm (by unfold Rf.kindT;rw[h];rfl))
theorem R.named{α:Type}{r:Rs α}{n:Nat}{g:Bool→M α}{z:Nat}{q:Bool}(h:isName qa t (z+n)=q)(hr:R r (g q) z):R r (Rf.bd (namedT t n) g) z:=hr.move (xm (by unfold Rf.namedT;rw[h];rfl))
theorem R.take{α:Type}{s:List UInt8}{f:Bool→Nat→Rs α}{g:Bool→M α}{z:Nat}(h1:sees t z s=true→R (f true (z+1)) (g true) (z+1))(h0:sees t z s=false→R (f false z) (g false) z):R ((take t s [] z).bind f) (Rf.bd (got t s) g) z:=by
 unfold Ps.take
 cases h:sees t z s with
 |true=>exact R.got1 h (h1 h)
 |false=>exact R.got0 h (h0 h)
theorem R.need{α:Type}{s:List UInt8}{f:Unit→Nat→Rs α}{g:Unit→M α}{z:Nat}(hd:D (g ()))(h1:sees t z s=true→R (f () (z+1)) (g ()) (z+1)):R ((need t s z).bind f) (Rf.bd (must t s) g) z:=by
 unfold Ps.need
 cases h:sees t z s with
 |true=>exact(h1 h).move (xm (by unfold Rf.must;rw[h];rfl))
 |false=>
  obtain⟨c,z2,h2⟩:=hd z
  exact⟨c,z2,by rw[xm (a:=()) (z':=z) (b':=true) (by unfold Rf.must;rw[h];rfl)];exact h2⟩
theorem R.must1{α:Type}{r:Rs α}{s:List UInt8}{g:Unit→M α}{z:Nat}(h:sees t z s=true)(hr:R r (g ()) (z+1)):R r (Rf.bd (must t s) g) z:=hr.move (xm (by unfold Rf.must;rw[h];rfl))
theorem R.must0{α:Type}{s:List UInt8}{g:Unit→M α}{z:Nat}(h:sees t z s=false)(hd:D (g ())):R .wrong (Rf.bd (must t s) g) z:=by
 obtain⟨c,z2,h2⟩:=hd z
 exact⟨c,z2,by rw[xm (a:=()) (z':=z) (b':=true) (by unfold Rf.must;rw[h];rfl)];exact h2⟩
theorem R.name{α:Type}{f:List UInt8→Nat→Rs α}{g:List UInt8→M α}{z:Nat}(hd:D (g []))(h1:isName qa t z=true→R (f (textAt t z) (z+1)) (g (textAt t z)) (z+1)):R ((Ps.name qa t z).bind f) (Rf.bd (name t) g) z:=by
 unfold Ps.name
 cases h:isName qa t z with
 |true=>exact(h1 h).move (xm (by unfold Rf.name;rw[h];rfl))
 |false=>
  obtain⟨c,z2,h2⟩:=hd z
  exact⟨c,z2,by rw[xm (a:=[]) (z':=z) (b':=true) (by unfold Rf.name;rw[h];rfl)];exact h2⟩
theorem R.name1{z:Nat}:R (Ps.name qa t z) (Rf.name t) z:=by
 unfold Ps.name
 cases h:isName qa t z with
 |true=>show Rf.name t z false=_;unfold Rf.name;rw[h];rfl
 |false=>exact⟨[],z,by unfold Rf.name;rw[h];rfl⟩
theorem R.number{α:Type}{f:Int→Nat→Rs α}{g:Int→M α}{z:Nat}(hd:D (g 0))(h1:isKind t 1 z=true→R (f (numAt t z) (z+1)) (g (numAt t z)) (z+1)):R ((Ps.number t z).bind f) (Rf.bd (number t) g) z:=by
 unfold Ps.number
 cases h:isKind t 1 z with
 |true=>exact(h1 h).move (xm (by unfold Rf.number;rw[h];rfl))
 |false=>
  obtain⟨c,z2,h2⟩:=hd z
  exact⟨c,z2,by rw[xm (a:=0) (z':=z) (b':=true) (by unfold Rf.number;rw[h];rfl)];exact h2⟩
theorem qbx{z:Nat}{a b:List UInt8}(h1:sees t z a=true)(h2:sees t z b=true):a=b:=by
 unfold sees at h1 h2
 cases h:t[z]? with
 |none=>rw[h] at h1;cases h1
 |some x=>
  rw[h] at h1 h2
  simp only[Bool.and_eq_true,beq_iff_eq] at h1 h2
  exact h1.2.symm.trans h2.2
theorem yb{z:Nat}{a b:List UInt8}(h1:sees t z a=true)(h:(a == b)=false):sees t z b=false:=by
 cases h2:sees t z b with
 |false=>rfl
 |true=>rw[qbx h1 h2] at h;simp at h
theorem yah:∀ {l:List (List UInt8)} {w:List UInt8} {z:Nat},w ∈ l→sees t z w=true→Ps.one t l z= .ok w (z+1)
 |s::l,w,z,hm,h=>by
  unfold Ps.one
  cases hs:sees t z s with
  |true=>rw[qbx hs h]
  |false=>
   rcases List.mem_cons.1 hm with rfl|hm
   ·rw[h] at hs;cases hs
   ·exact yah hm h
theorem xaa:∀ {l:List (List UInt8)} {z:Nat},(∀ w ∈ l,sees t z w=false)→Ps.one t l z= .ok [] z
 | [],z,_=>rfl
 |s::l,z,h=>by
  unfold Ps.one
  rw[h s (List.mem_cons_self ..)]
  exact xaa fun w hw=>h w (List.mem_cons_of_mem _ hw)
theorem jbv:∀ {l:List (List UInt8)} {w:List UInt8} {z:Nat},w ∈ l→sees t z w=true→whichOf t l z false=some (some w,z+1,false)
 |s::l,w,z,hm,h=>by
  unfold Rf.whichOf
  cases hs:sees t z s with
  |true=>rw[xm (zai hs),qbx hs h];rfl
  |false=>
   rw[xm (xp hs)]
   rcases List.mem_cons.1 hm with rfl|hm
   ·rw[h] at hs;cases hs
   ·exact jbv hm h
theorem zbd:∀ {l:List (List UInt8)} {z:Nat},(∀ w ∈ l,sees t z w=false)→whichOf t l z false=some (none,z,false)
 | [],z,_=>rfl
 |s::l,z,h=>by
  unfold Rf.whichOf
  rw[xm (xp (h s (List.mem_cons_self ..)))]
  exact zbd fun w hw=>h w (List.mem_cons_of_mem _ hw)
theorem qr(t:List Tk)(z:Nat):∀ l:List (List UInt8),(∃ w ∈ l,sees t z w=true)∨(∀ w ∈ l,sees t z w=false)
 | []=> .inr fun w hw=>by cases hw
 |s::l=>by
  cases hs:sees t z s with
  |true=>exact .inl ⟨s,List.mem_cons_self ..,hs⟩
  |false=>
   rcases qr t z l with ⟨w,hw,h⟩|h
   ·exact .inl ⟨w,List.mem_cons_of_mem _ hw,h⟩
   ·exact .inr fun w hw=>by
     rcases List.mem_cons.1 hw with rfl|hw
     ·exact hs
     ·exact h w hw
theorem R.which{α:Type}{l l':List (List UInt8)}{f:List UInt8→Nat→Rs α}{g:Option (List UInt8)→M α}{z:Nat}(hl:∀ w,w ∈ l↔w ∈ l')(h1:∀ w,w ∈ l→sees t z w=true→R (f w (z+1)) (g (some w)) (z+1))(h0:(∀ w ∈ l,sees t z w=false)→R (f [] z) (g none) z):R ((Ps.one t l z).bind f) (Rf.bd (whichOf t l') g) z:=by
 rcases qr t z l with ⟨w,hw,h⟩|h
 ·rw[yah hw h]
  exact(h1 w hw h).move (xm (jbv ((hl w).1 hw) h))
 ·rw[xaa h]
  exact(h0 h).move (xm (zbd fun w hw=>h w ((hl w).2 hw)))
theorem R.which0{α:Type}{r:Rs α}{l:List (List UInt8)}{g:Option (List UInt8)→M α}{z:Nat}(h:∀ w ∈ l,sees t z w=false)(hr:R r (g none) z):R r (Rf.bd (whichOf t l) g) z:=hr.move (xm (zbd h))
theorem R.which1{α:Type}{r:Rs α}{l:List (List UInt8)}{w:List UInt8}{g:Option (List UInt8)→M α}{z:Nat}(hw:w ∈ l)(h:sees t z w=true)(hr:R r (g (some w)) (z+1)):R r (Rf.bd (whichOf t l) g) z:=hr.move (xm (jbv hw h))
theorem R.commas{part:Nat→Rs Nd}{m:M Nd}(hp:∀ z,R (part z) m z):∀(n N:Nat),n<N→∀ acc z,R (listMore t part n acc z) (commas t m N acc) z
 | 0,N,_,acc,z=>trivial
 |n+1,0,h,acc,z=>by omega
 |n+1,N+1,h,acc,z=>by
  unfold Ps.listMore
  show R _ (Rf.unbad acc _) z
  refine R.move (m':=bd (got t g_comma) fun ok=>match ok with
   |false=>rt acc
   |true=>bd m fun x=>Rf.commas t m N (acc++[x])) rfl ?_
  cases hs:sees t z g_comma with
  |false=>exact R.got0 hs (R.ret _ _)
  |true=>
   refine R.got1 hs ?_
   obtain⟨N,rfl⟩:∃ M,N=M+1:=⟨N-1,by omega⟩
   exact R.part (hp _) (fun a=>D.commas) fun a z' _=>R.commas hp _ _ (by omega) _ _
theorem R.list{part:Nat→Rs Nd}{m:M Nd}(hp:∀ z,R (part z) m z){n N:Nat}(h:n<N)(z:Nat):R (vf t n part z) (Rf.list t m N) z:=by
 obtain⟨N,rfl⟩:∃ M,N=M+1:=⟨N-1,by omega⟩
 exact R.part (hp _) (fun a=>D.commas) fun a z' _=>R.commas hp _ _ h _ _
theorem R.within{α:Type}{part:Nat→Rs α}{m:M α}(hm:D m)(hp:∀ z,R (part z) m z)(z:Nat):R (within t part z) (Rf.bd (must t g_par) fun _=>Rf.bd m fun x=>Rf.bd (must t g_rap) fun _=>Rf.rt x) z:=
 R.need (D.bd hm fun a=>D.must (D.rt _)) fun _=>R.part (hp _) (fun a=>D.must (D.rt _)) fun a z' _=>R.need (D.rt _) fun _=>R.ret _ _
theorem R.all{z:Nat}{α:Type}{f:Bool→Nat→Rs α}{g:Int→M α}(h:∀ q z',R (f q z') (g (match q with|true=>1|false=>0)) z'):R ((Ps.take t vaj [] z).bind f) (Rf.bd (Rf.all t) g) z:=by
 unfold Rf.all
 rw[vt]
 exact R.take (fun _=>h true (z+1)) (fun _=>h false z)
end
end Go.AM.Rf
namespace Go.AM.Rf
open Go.Proofs Go.AM.Ps Go.AM.W
def Kd(t:List Tk):Prop:=∀ x ∈ t,x.k=0∨x.k=1∨x.k=2∨(x.k=3∧x.t ∈ Pr.signs)
theorem ybv{w:List UInt8}(h:∀ x ∈ [k_or,xaj,xac,yj,xas,g_star,vp],(w == x)=false):vd w=0:=by
 unfold vd
 simp only[h k_or (by simp),h xaj (by simp),h xac (by simp),h yj (by simp),h xas (by simp),h g_star (by simp),h vp (by simp),Bool.or_false]
section
variable {t:List Tk}
theorem ycg{z:Nat}{w:List UInt8}(h:sees t z w=true):∃ x,t[z]? =some x∧(x.k != 2 && x.k != 1)=true∧x.t=w:=by
 unfold sees at h
 cases hx:t[z]? with
 |none=>rw[hx] at h;cases h
 |some x=>
  rw[hx] at h
  simp only[Bool.and_eq_true,beq_iff_eq,Bool.or_eq_true] at h
  refine⟨x,rfl,?_,h.2⟩
  rcases h.1 with h|h<;>rw[h]<;>rfl
theorem xb8{n:Nat}{least:Int}{a:Nd}{z:Nat}{w:List UInt8}(h:sees t z w=true):bindsMore qa t (n+1) least a z=match decide (vd w<least) || vd w == 0 || (decide (least≤4) && decide (5≤vd w)) with
 |true=> .ok a z
 |false=>(binds qa t n (vd w+1) (z+1)).bind fun b z=>bindsMore qa t n least (node w [a,b]) z:=by
 obtain⟨x,hx,hk,rfl⟩:=ycg h
 rw[Ps.bindsMore,hx]
 simp only[hk]
 rfl
theorem qh{n:Nat}{least:Int}{a:Nd}{z:Nat}{w:List UInt8}(h:sees t z w=true)(hs:(decide (vd w<least) || vd w == 0 || (decide (least≤4) && decide (5≤vd w)))=true):bindsMore qa t (n+1) least a z= .ok a z:=by
 rw[xb8 h,hs]
theorem yar{n:Nat}{least:Int}{a:Nd}{z:Nat}{w:List UInt8}(h:sees t z w=true)(hs:(decide (vd w<least) || vd w == 0 || (decide (least≤4) && decide (5≤vd w)))=false):bindsMore qa t (n+1) least a z=(binds qa t n (vd w+1) (z+1)).bind fun b z=>bindsMore qa t n least (node w [a,b]) z:=by
 rw[xb8 h,hs]
theorem var(hk:Kd t){n:Nat}{least:Int}{a:Nd}{z:Nat}(h:∀ w ∈ [k_or,xaj,xac,yj,xas,g_star,vp],sees t z w=false):bindsMore qa t (n+1) least a z= .ok a z:=by
 rw[Ps.bindsMore]
 cases hx:t[z]? with
 |none=>rfl
 |some x=>
  simp only[]
  cases hq:(x.k != 2 && x.k != 1) with
  |false=>rfl
  |true=>
   have h0:vd x.t=0:=ybv fun w hw=>by
    have:=h w hw
    unfold sees at this
    rw[hx] at this
    simp only[] at this
    simp only[Bool.and_eq_true,bne_iff_ne,ne_eq] at hq
    have hkk:(x.k == 0 || x.k == 3)=true:=by
     rcases hk x (List.mem_of_getElem? hx) with h|h|h|h
     ·rw[h];rfl
     ·exact absurd h hq.2
     ·exact absurd h hq.1
     ·rw[h.1];rfl
    rw[hkk] at this
    simpa using this
   rw[h0]
   simp
theorem ycs:∀(n:Nat) {least:Int} {a b:Nd} {z z':Nat},bindsMore qa t n least a z= .ok b z'→∀ w,sees t z' w=true→(decide (vd w<least) || vd w == 0 || (decide (least≤4) && decide (5≤vd w)))=true
 | 0,least,a,b,z,z',h,w,hw=>by rw[Ps.bindsMore] at h;cases h
 |n+1,least,a,b,z,z',h,w,hw=>by
  rw[Ps.bindsMore] at h
  cases hx:t[z]? with
  |none=>
   rw[hx] at h
   cases h
   unfold sees at hw
   rw[hx] at hw
   cases hw
  |some x=>
   rw[hx] at h
   simp only[] at h
   cases hq:(x.k != 2 && x.k != 1) with
   |false=>
    rw[hq] at h
    cases h
    obtain⟨y,hy,hk,_⟩:=ycg hw
    rw[hx] at hy
    cases hy
    rw[hq] at hk
    cases hk
   |true=>
    rw[hq] at h
    simp only[] at h
    split at h
    ·rename_i hs
     cases h
     obtain⟨y,hy,hk,rfl⟩:=ycg hw
     rw[hx] at hy
     cases hy
     exact hs
    ·cases hb:binds qa t n (vd x.t+1) (z+1) with
     |fuel=>rw[hb] at h;cases h
     |wrong=>rw[hb] at h;cases h
     |ok c z1=>
      rw[hb] at h
      exact ycs n h w hw
theorem xdv{n:Nat}{least:Int}{b:Nd}{z z':Nat}(h:binds qa t n least z= .ok b z')(w:List UInt8)(hw:sees t z' w=true):(decide (vd w<least) || vd w == 0 || (decide (least≤4) && decide (5≤vd w)))=true:=by
 cases n with
 |zero=>rw[Ps.binds] at h;cases h
 |succ n=>
  rw[Ps.binds] at h
  cases hf:first qa t n least z with
  |fuel=>rw[hf] at h;cases h
  |wrong=>rw[hf] at h;cases h
  |ok a z1=>
   rw[hf] at h
   exact ycs n h w hw
theorem xbl{n:Nat}{least:Int}{b:Nd}{z z':Nat}(h:binds qa t n least z= .ok b z')(w:List UInt8)(hs:(decide (vd w<least) || vd w == 0 || (decide (least≤4) && decide (5≤vd w)))=false):sees t z' w=false:=by
 cases hw:sees t z' w with
 |false=>rfl
 |true=>rw[xdv h w hw] at hs;cases hs
theorem ops(t:List Tk)(z:Nat):sees t z k_or=true∨sees t z xaj=true∨(sees t z xac=true∨sees t z yj=true∨sees t z xas=true)∨(sees t z g_star=true∨sees t z vp=true)∨(∀ w ∈ [k_or,xaj,xac,yj,xas,g_star,vp],sees t z w=false):=by
 rcases qr t z [k_or,xaj,xac,yj,xas,g_star,vp] with ⟨w,hw,h⟩|h
 ·simp only[List.mem_cons,List.not_mem_nil,or_false] at hw
  rcases hw with rfl|rfl|rfl|rfl|rfl|rfl|rfl<;>simp[h]
 ·exact .inr (.inr (.inr (.inr h)))
theorem qq{w:List UInt8}{p:M Nd}{n:Nat}{a:Nd}{z:Nat}(h:sees t z w=false):chain t w p (n+1) a z false=some (a,z,false):=by
 show Rf.bd (got t w) _ z false=_
 rw[xm (xp h)];rfl
theorem zb0{w:List UInt8}{p:M Nd}{n:Nat}{a:Nd}{z:Nat}(h:sees t z w=true):chain t w p (n+1) a z false=Rf.bd p (fun x=>chain t w p n (.mk w [] 0 [a,x])) (z+1) false:=by
 show Rf.bd (got t w) _ z false=_
 rw[xm (zai h)]
theorem xx{p:M Nd}{n:Nat}{a:Nd}{z:Nat}(h:sees t z g_star=false)(h2:sees t z vp=false):prodMore t p (n+1) a z false=some (a,z,false):=by
 show Rf.bd (got t g_star) _ z false=_
 rw[xm (xp h)]
 show Rf.bd (got t vp) _ z false=_
 rw[xm (xp h2)];rfl
theorem qb7{p:M Nd}{n:Nat}{a:Nd}{z:Nat}(h:sees t z g_star=true):prodMore t p (n+1) a z false=Rf.bd p (fun x=>prodMore t p n (.mk g_star [] 0 [a,x])) (z+1) false:=by
 show Rf.bd (got t g_star) _ z false=_
 rw[xm (zai h)]
theorem xbr{p:M Nd}{n:Nat}{a:Nd}{z:Nat}(h:sees t z vp=true):prodMore t p (n+1) a z false=Rf.bd p (fun x=>prodMore t p n (.mk vp [] 0 [a,x])) (z+1) false:=by
 show Rf.bd (got t g_star) _ z false=_
 rw[xm (xp (yb h rfl))]
 show Rf.bd (got t vp) _ z false=_
 rw[xm (zai h)]
theorem jep{p:M Nd}{n:Nat}{a:Nd}{z:Nat}{w:List UInt8}(hw:w=xac∨w=yj∨w=xas)(h:sees t z w=true):sumMore t p (n+1) a z false=Rf.bd p (fun x=>sumMore t p n (.mk w [] 0 [a,x])) (z+1) false:=by
 show Rf.bd (got t xac) _ z false=_
 rcases hw with rfl|rfl|rfl
 ·rw[xm (zai h)]
 ·rw[xm (xp (yb h rfl))]
  show Rf.bd (got t yj) _ z false=_
  rw[xm (zai h)]
 ·rw[xm (xp (yb h rfl))]
  show Rf.bd (got t yj) _ z false=_
  rw[xm (xp (yb h rfl))]
  show Rf.bd (got t xas) _ z false=_
  rw[xm (zai h)]
theorem ydy{p:M Nd}{n:Nat}{a:Nd}{z:Nat}(h1:sees t z xac=false)(h2:sees t z yj=false)(h3:sees t z xas=false):sumMore t p (n+1) a z false=some (a,z,false):=by
 show Rf.bd (got t xac) _ z false=_
 rw[xm (xp h1)]
 show Rf.bd (got t yj) _ z false=_
 rw[xm (xp h2)]
 show Rf.bd (got t xas) _ z false=_
 rw[xm (xp h3)];rfl
theorem vdl(hk:Kd t){n:Nat}{least:Int}(hl:least=3∨least=7){a:Nd}{z:Nat}:bindsMore qa t (n+1) least a z= .ok a z:=by
 rcases ops t z with h|h|(h|h|h)|(h|h)|h
 ·exact qh h (by rcases hl with rfl|rfl<;>rfl)
 ·exact qh h (by rcases hl with rfl|rfl<;>rfl)
 ·exact qh h (by rcases hl with rfl|rfl<;>rfl)
 ·exact qh h (by rcases hl with rfl|rfl<;>rfl)
 ·exact qh h (by rcases hl with rfl|rfl<;>rfl)
 ·exact qh h (by rcases hl with rfl|rfl<;>rfl)
 ·exact qh h (by rcases hl with rfl|rfl<;>rfl)
 ·exact var hk h
theorem R.more2(hk:Kd t){p:M Nd}:∀(n N:Nat),n<N→(∀ m,m<n→∀ z,R (binds qa t m 3 z) p z)→∀ a z,R (bindsMore qa t n 2 a z) (chain t xaj p N a) z
 | 0,N,_,_,a,z=>by rw[Ps.bindsMore];trivial
 |n+1,N,h,hp,a,z=>by
  obtain⟨N,rfl⟩:∃ M,N=M+2:=⟨N-2,by omega⟩
  rcases ops t z with h|h|(h|h|h)|(h|h)|h
  ·rw[qh h rfl];exact qq (yb h rfl)
  ·rw[yar h rfl]
   exact R.move (zb0 h) (R.part (hp n (by omega) _) (fun a=>D.chain) fun b z' _=>R.more2 hk n _ (by omega) (fun m hm=>hp m (by omega)) _ _)
  ·rw[qh h rfl];exact qq (yb h rfl)
  ·rw[qh h rfl];exact qq (yb h rfl)
  ·rw[qh h rfl];exact qq (yb h rfl)
  ·rw[qh h rfl];exact qq (yb h rfl)
  ·rw[qh h rfl];exact qq (yb h rfl)
  ·rw[var hk h];exact qq (h _ (by simp))
theorem R.more6(hk:Kd t){p:M Nd}:∀(n N:Nat),n<N→(∀ m,m<n→∀ z,R (binds qa t m 7 z) p z)→∀ a z,R (bindsMore qa t n 6 a z) (prodMore t p N a) z
 | 0,N,_,_,a,z=>by rw[Ps.bindsMore];trivial
 |n+1,N,h,hp,a,z=>by
  obtain⟨N,rfl⟩:∃ M,N=M+2:=⟨N-2,by omega⟩
  rcases ops t z with h|h|(h|h|h)|(h|h)|h
  ·rw[qh h rfl];exact xx (yb h rfl) (yb h rfl)
  ·rw[qh h rfl];exact xx (yb h rfl) (yb h rfl)
  ·rw[qh h rfl];exact xx (yb h rfl) (yb h rfl)
  ·rw[qh h rfl];exact xx (yb h rfl) (yb h rfl)
  ·rw[qh h rfl];exact xx (yb h rfl) (yb h rfl)
  ·rw[yar h rfl]
   exact R.move (qb7 h) (R.part (hp n (by omega) _) (fun a=>D.prodMore) fun b z' _=>R.more6 hk n _ (by omega) (fun m hm=>hp m (by omega)) _ _)
  ·rw[yar h rfl]
   exact R.move (xbr h) (R.part (hp n (by omega) _) (fun a=>D.prodMore) fun b z' _=>R.more6 hk n _ (by omega) (fun m hm=>hp m (by omega)) _ _)
  ·rw[var hk h];exact xx (h _ (by simp)) (h _ (by simp))
theorem qab{p q:M Nd}{n k:Nat}{a:Nd}{z:Nat}(h1:sees t z xaj=false)(h2:sees t z k_or=false):Rf.bd (chain t xaj p (n+1) a) (chain t k_or q (k+1)) z false=some (a,z,false):=by
 rw[xm (qq h1)];exact qq h2
theorem R.more1(hk:Kd t){p q:M Nd}:∀(n N N':Nat),n<N→n<N'→(∀ m,m<n→∀ z,R (binds qa t m 3 z) p z)→(∀ m,m<n→∀ z,R (binds qa t m 2 z) q z)→∀ a z,R (bindsMore qa t n 1 a z) (Rf.bd (chain t xaj p N a) (chain t k_or q N')) z
 | 0,N,N',_,_,_,_,a,z=>by rw[Ps.bindsMore];trivial
 |n+1,N,N',h,h',hp,hq,a,z=>by
  obtain⟨N,rfl⟩:∃ M,N=M+2:=⟨N-2,by omega⟩
  obtain⟨N',rfl⟩:∃ M,N'=M+2:=⟨N'-2,by omega⟩
  rcases ops t z with h|h|(h|h|h)|(h|h)|h
  ·rw[yar h rfl]
   refine R.move (m':=Rf.bd q fun x=>chain t k_or q (N'+1) (.mk k_or [] 0 [a,x])) (by rw[xm (qq (yb h rfl)),zb0 h]) (R.part (hq n (by omega) _) (fun a=>D.chain) fun b z' hb=>?_)
   exact R.move (m:=chain t k_or q (N'+1) (.mk k_or [] 0 [a,b])) (by rw[xm (qq (xbl hb xaj rfl))];rfl) (R.more1 hk n (N+1) (N'+1) (by omega) (by omega) (fun m hm=>hp m (by omega)) (fun m hm=>hq m (by omega)) _ _)
  ·rw[yar h rfl]
   refine R.move (m':=Rf.bd p fun x=>Rf.bd (chain t xaj p (N+1) (.mk xaj [] 0 [a,x])) (chain t k_or q (N'+2))) ?_ (R.part (hp n (by omega) _) (fun a=>D.bd D.chain fun a=>D.chain) fun b z' hb=>R.more1 hk n (N+1) (N'+2) (by omega) (by omega) (fun m hm=>hp m (by omega)) (fun m hm=>hq m (by omega)) _ _)
   rw[← vt]
   unfold Rf.bd
   rw[zb0 h]
   rfl
  ·rw[qh h rfl];exact qab (yb h rfl) (yb h rfl)
  ·rw[qh h rfl];exact qab (yb h rfl) (yb h rfl)
  ·rw[qh h rfl];exact qab (yb h rfl) (yb h rfl)
  ·rw[qh h rfl];exact qab (yb h rfl) (yb h rfl)
  ·rw[qh h rfl];exact qab (yb h rfl) (yb h rfl)
  ·rw[var hk h];exact qab (h _ (by simp)) (h _ (by simp))
theorem xbd{p q:M Nd}{n k:Nat}{a:Nd}{z:Nat}(h1:sees t z g_star=false)(h2:sees t z vp=false)(h3:sees t z xac=false)(h4:sees t z yj=false)(h5:sees t z xas=false):Rf.bd (prodMore t p (n+1) a) (sumMore t q (k+1)) z false=some (a,z,false):=by
 rw[xm (xx h1 h2)];exact ydy h3 h4 h5
theorem R.more5(hk:Kd t){p q:M Nd}:∀(n N N':Nat),n<N→n<N'→(∀ m,m<n→∀ z,R (binds qa t m 7 z) p z)→(∀ m,m<n→∀ z,R (binds qa t m 6 z) q z)→∀ a z,R (bindsMore qa t n 5 a z) (Rf.bd (prodMore t p N a) (sumMore t q N')) z
 | 0,N,N',_,_,_,_,a,z=>by rw[Ps.bindsMore];trivial
 |n+1,N,N',h,h',hp,hq,a,z=>by
  obtain⟨N,rfl⟩:∃ M,N=M+2:=⟨N-2,by omega⟩
  obtain⟨N',rfl⟩:∃ M,N'=M+2:=⟨N'-2,by omega⟩
  have ih:=R.more5 hk (p:=p) (q:=q) n
  have hadd:∀ w,(w=xac∨w=yj∨w=xas)→sees t z w=true→sees t z g_star=false→sees t z vp=false→vd w=5→R (bindsMore qa t (n+1) 5 a z) (Rf.bd (prodMore t p (N+2) a) (sumMore t q (N'+2))) z:=by
   intro w hw h q1 q2 hs
   rw[yar h (by rw[hs];rfl),hs]
   refine R.move (m':=Rf.bd q fun x=>sumMore t q (N'+1) (.mk w [] 0 [a,x])) (by rw[xm (xx q1 q2),jep hw h]) (R.part (hq n (by omega) _) (fun a=>D.sumMore) fun b z' hb=>?_)
   exact R.move (m:=sumMore t q (N'+1) (.mk w [] 0 [a,b])) (by rw[xm (xx (xbl hb g_star rfl) (xbl hb vp rfl))];rfl) (ih (N+1) (N'+1) (by omega) (by omega) (fun m hm=>hp m (by omega)) (fun m hm=>hq m (by omega)) _ _)
  rcases ops t z with h|h|(h|h|h)|(h|h)|h
  ·rw[qh h rfl];exact xbd (yb h rfl) (yb h rfl) (yb h rfl) (yb h rfl) (yb h rfl)
  ·rw[qh h rfl];exact xbd (yb h rfl) (yb h rfl) (yb h rfl) (yb h rfl) (yb h rfl)
  ·exact hadd _ (.inl rfl) h (yb h rfl) (yb h rfl) rfl
  ·exact hadd _ (.inr (.inl rfl)) h (yb h rfl) (yb h rfl) rfl
  ·exact hadd _ (.inr (.inr rfl)) h (yb h rfl) (yb h rfl) rfl
  ·rw[yar h rfl]
   refine R.move (m':=Rf.bd p fun x=>Rf.bd (prodMore t p (N+1) (.mk g_star [] 0 [a,x])) (sumMore t q (N'+2))) ?_ (R.part (hp n (by omega) _) (fun a=>D.bd D.prodMore fun a=>D.sumMore) fun b z' hb=>ih (N+1) (N'+2) (by omega) (by omega) (fun m hm=>hp m (by omega)) (fun m hm=>hq m (by omega)) _ _)
   rw[← vt]
   unfold Rf.bd
   rw[qb7 h]
   rfl
  ·rw[yar h rfl]
   refine R.move (m':=Rf.bd p fun x=>Rf.bd (prodMore t p (N+1) (.mk vp [] 0 [a,x])) (sumMore t q (N'+2))) ?_ (R.part (hp n (by omega) _) (fun a=>D.bd D.prodMore fun a=>D.sumMore) fun b z' hb=>ih (N+1) (N'+2) (by omega) (by omega) (fun m hm=>hp m (by omega)) (fun m hm=>hq m (by omega)) _ _)
   rw[← vt]
   unfold Rf.bd
   rw[xbr h]
   rfl
  ·rw[var hk h];exact xbd (h _ (by simp)) (h _ (by simp)) (h _ (by simp)) (h _ (by simp)) (h _ (by simp))
end
end Go.AM.Rf
namespace Go.AM.Rf
open Go.Proofs Go.AM.Ps Go.AM.W
section
variable {t:List Tk}
theorem xdj(z:Nat):∀(m N k:Nat),m<N→t.length≤z+k+m→pars t N k z false=some (k+Ps.opens t m (z+k),z,false)
 | 0,N+1,k,_,hl=>by
  have hs:sees t (z+k) g_par=false:=by
   unfold sees
   rw[List.getElem?_eq_none (by omega)]
  show Rf.bd (isT t k g_par) _ z false=_
  rw[xm (a:=false) (z':=z) (b':=false) (by unfold Rf.isT;rw[hs];rfl)]
  rfl
 |m+1,N+1,k,h,hl=>by
  show Rf.bd (isT t k g_par) _ z false=_
  unfold Ps.opens
  cases hs:sees t (z+k) g_par with
  |false=>
   rw[xm (a:=false) (z':=z) (b':=false) (by unfold Rf.isT;rw[hs];rfl)]
   rfl
  |true=>
   rw[xm (a:=true) (z':=z) (b':=false) (by unfold Rf.isT;rw[hs];rfl)]
   show pars t N (k+1) z false=_
   rw[xdj z m N (k+1) (by omega) (by omega)]
   show some (k+1+Ps.opens t m (z+k+1),z,false)=some (k+(Ps.opens t m (z+k+1)+1),z,false)
   rw[show k+1+Ps.opens t m (z+k+1)=k+(Ps.opens t m (z+k+1)+1) by omega]
theorem xd3{N:Nat}(h:t.length<N)(z:Nat):opens t N z false=some (vi t z,z,false):=by
 unfold Rf.opens
 rw[xm (xdj z t.length N 0 h (by omega))]
 rw[show 0+Ps.opens t t.length (z+0)=Ps.opens t t.length z by rw[Nat.zero_add,Nat.add_zero]]
 rfl
theorem R.opens{α:Type}{r:Rs α}{N:Nat}(h:t.length<N){g:Bool→M α}{z:Nat}{q:Bool}(hq:vi t z=q)(hr:R r (g q) z):R r (Rf.bd (Rf.opens t N) g) z:=hr.move (xm (by rw[xd3 h,hq]))
theorem ydj{z:Nat}(h:vi t z=true):sees t z g_par=true:=by
 cases hs:sees t z g_par with
 |true=>rfl
 |false=>
  unfold vi at h
  have:Ps.opens t t.length z=0:=by
   cases hl:t.length with
   |zero=>rfl
   |succ m=>unfold Ps.opens;rw[hs]
  rw[this] at h
  simp at h
theorem R.aName{z:Nat}:R (Ps.aName qa t z) (aName t) z:=R.name (D.rt _) fun _=>R.ret _ _
theorem R.names{n N:Nat}(h:n<N)(z:Nat):R (Ps.names qa t n z) (Rf.names t N) z:=by
 obtain⟨N,rfl⟩:∃ M,N=M+1:=⟨N-1,by omega⟩
 exact R.within (D.list D.aName) (fun z=>R.list (fun z=>R.aName) h z) z
theorem R.column{z:Nat}:R (Ps.column qa t z) (Rf.column t) z:=
 R.name (D.got (D.rt _)) fun _=>R.take (fun _=>R.name (D.rt _) fun _=>R.ret _ _) (fun _=>R.ret _ _)
theorem R.alias{s:List UInt8}{z:Nat}:R (Ps.alias qa t s z) (Rf.alias t s) z:=by
 unfold Ps.alias Rf.alias
 refine R.take (fun _=>?_) (fun _=>?_)
 ·refine R.named (n:=0) rfl ?_
  exact R.name1
 ·refine R.named (n:=0) (q:=isName qa t z) rfl ?_
  cases h:isName qa t z with
  |true=>exact R.name1
  |false=>exact R.ret _ _
theorem R.typed{z:Nat}:R (Ps.typed t z) (Rf.typed t) z:=by
 unfold Ps.typed Rf.typed
 have hnum:∀(w:List UInt8) (z:Nat),R ((Ps.within t (Ps.number t) z).bind fun n z=> .ok (Nd.mk vaf w n []) z) (Rf.bd (must t g_par) fun _=>Rf.bd (Rf.number t) fun n=>Rf.bd (must t g_rap) fun _=>Rf.rt (.mk vaf w n [])) z:=by
  intro w z
  unfold Ps.within
  rw[xq]
  refine R.need (D.number (D.must (D.rt _))) fun _=>?_
  rw[xq]
  refine R.number (D.must (D.rt _)) fun _=>?_
  rw[xq]
  exact R.need (D.rt _) fun _=>R.ret _ _
 rcases qr t z [qaf,jac,xdq,zav,xal,jal,yaf,qal] with ⟨w,hw,h⟩|h
 ·rw[yah hw h]
  simp only[List.mem_cons,List.not_mem_nil,or_false] at hw
  have hno:∀ {l:List (List UInt8)},(∀ x ∈ l,(w == x)=false)→∀ x ∈ l,sees t z x=false:=fun hl x hx=>yb h (hl x hx)
  rcases hw with rfl|rfl|rfl|rfl|rfl|rfl|rfl|rfl
  ·exact R.which1 (by simp) h (R.ret _ _)
  ·exact R.which1 (by simp) h (R.ret _ _)
  ·exact R.which0 (hno (by decide)) (R.got1 h (R.ret _ _))
  ·exact R.which1 (by simp) h (R.ret _ _)
  ·exact R.which1 (by simp) h (R.ret _ _)
  ·refine R.which0 (hno (by decide)) (R.got0 (yb h rfl) (R.got0 (yb h rfl) (R.got1 h ?_)))
   show R (match sees t (z+1) g_par with|true=>_|false=>_) (Rf.bd (got t g_par) _) (z+1)
   cases hp:sees t (z+1) g_par with
   |true=>
    have:=hnum jal (z+1)
    unfold Ps.within at this ⊢
    unfold Ps.need at this ⊢
    rw[hp] at this ⊢
    refine R.got1 hp ?_
    revert this
    unfold R
    rw[xm (m:=must t g_par) (a:=()) (z':=z+1+1) (b':=false) (by unfold Rf.must;rw[hp];rfl)]
    exact id
   |false=>exact R.got0 hp (R.ret _ _)
  ·refine R.which0 (hno (by decide)) (R.got0 (yb h rfl) (R.got0 (yb h rfl) (R.got0 (yb h rfl) (R.must1 h ?_))))
   show R (match sees t (z+1) g_par with|true=>_|false=>_) (Rf.bd (got t g_par) _) (z+1)
   cases hp:sees t (z+1) g_par with
   |true=>
    have:=hnum jal (z+1)
    unfold Ps.within at this ⊢
    unfold Ps.need at this ⊢
    rw[hp] at this ⊢
    refine R.got1 hp ?_
    revert this
    unfold R
    rw[xm (m:=must t g_par) (a:=()) (z':=z+1+1) (b':=false) (by unfold Rf.must;rw[hp];rfl)]
    exact id
   |false=>exact R.got0 hp (R.ret _ _)
  ·exact R.which0 (hno (by decide)) (R.got0 (yb h rfl) (R.got1 h (hnum _ _)))
 ·rw[xaa h]
  exact R.which0 (fun w hw=>h w (by revert hw;simp only[List.mem_cons,List.not_mem_nil,or_false];rintro(rfl|rfl|rfl|rfl)<;>simp)) (R.got0 (h _ (by simp)) (R.got0 (h _ (by simp)) (R.got0 (h _ (by simp)) (R.must0 (h _ (by simp)) (D.got (D.rt _))))))
theorem R.arms{ex:Nat→Rs Nd}{m:M Nd}(hd:D m)(hp:∀ z,R (ex z) m z)(of:Option Nd):∀(n N:Nat),n<N→∀ l z,R (qd t ex n of true l z) (Rf.arms t m of N l) z
 | 0,N,_,l,z=>trivial
 |n+1,N,h,l,z=>by
  obtain⟨N,rfl⟩:∃ M,N=M+2:=⟨N-2,by omega⟩
  show R ((Ps.need t k_when z).bind _) (Rf.unbad l _) z
  refine R.move (m':=Rf.bd (must t k_when) fun _=>Rf.bd m fun c=>Rf.bd (must t xb9) fun _=>Rf.bd m fun e=>Rf.bd (isT t 0 k_when) fun more=>match more with
   |true=>Rf.arms t m of (N+1) (l++[.mk k_when [] 0 [match of with|some o=> .mk g_eq [] 0 [o,c]|none=>c,e]])
   |false=>rt (l++[.mk k_when [] 0 [match of with|some o=> .mk g_eq [] 0 [o,c]|none=>c,e]])) rfl ?_
  refine R.need (D.bd hd fun a=>D.must (D.bd hd fun a=>D.isT (D.rt _))) fun _=>R.part (hp _) (fun a=>D.must (D.bd hd fun a=>D.isT (D.rt _))) fun c z _=>R.need (D.bd hd fun a=>D.isT (D.rt _)) fun _=>R.part (hp _) (fun a=>D.isT (D.rt _)) fun e z _=>?_
  cases n with
  |zero=>trivial
  |succ n=>
   have ih:=fun l z=>R.arms hd hp of (n+1) (N+1) (by omega) l z
   refine R.is (n:=0) (q:=sees t z k_when) rfl ?_
   cases hs:sees t z k_when with
   |false=>
    unfold qd
    rw[hs]
    exact R.ret _ _
   |true=>
    have h2:=fun l=>ih l z
    unfold qd at h2 ⊢
    rw[hs]
    exact h2 _
theorem R.unions{part:Nat→Rs Nd}{m:M Nd}(hd:D m)(hp:∀ z,R (part z) m z):∀(n N:Nat),n<N→∀ a z,R (jh t part [jj,ji] n a z) (Rf.unions t m N a) z
 | 0,N,_,a,z=>trivial
 |n+1,N,h,a,z=>by
  obtain⟨N,rfl⟩:∃ M,N=M+2:=⟨N-2,by omega⟩
  have ih:=R.unions hd hp n (N+1) (by omega)
  unfold jh
  show R _ (Rf.unbad a _) z
  cases h1:sees t z jj with
  |true=>
   rw[yah (w:=jj) (by simp) h1]
   refine R.move (m':=Rf.bd (got t jj) _) rfl (R.got1 h1 ?_)
   refine R.all fun q z=>R.part (hp _) (fun a=>D.unbad) fun b z _=>?_
   cases q<;>exact ih _ _
  |false=>
   cases h2:sees t z ji with
   |true=>
    rw[yah (w:=ji) (by simp) h2]
    refine R.move (m':=Rf.bd (got t jj) _) rfl (R.got0 h1 (R.got1 h2 ?_))
    refine R.all fun q z=>R.part (hp _) (fun a=>D.unbad) fun b z _=>?_
    cases q<;>exact ih _ _
   |false=>
    rw[xaa (by simp[h1,h2])]
    exact R.move (m':=Rf.bd (got t jj) _) rfl (R.got0 h1 (R.got0 h2 (R.ret _ _)))
theorem R.sects{part:Nat→Rs Nd}{m:M Nd}(hd:D m)(hp:∀ z,R (part z) m z):∀(n N:Nat),n<N→∀ a z,R (jh t part [ye] n a z) (Rf.sects t m N a) z
 | 0,N,_,a,z=>trivial
 |n+1,N,h,a,z=>by
  obtain⟨N,rfl⟩:∃ M,N=M+2:=⟨N-2,by omega⟩
  have ih:=R.sects hd hp n (N+1) (by omega)
  unfold jh
  show R _ (Rf.unbad a _) z
  cases h1:sees t z ye with
  |true=>
   rw[yah (w:=ye) (by simp) h1]
   refine R.move (m':=Rf.bd (got t ye) _) rfl (R.got1 h1 ?_)
   refine R.all fun q z=>R.part (hp _) (fun a=>D.unbad) fun b z _=>?_
   cases q<;>exact ih _ _
  |false=>
   rw[xaa (by simp[h1])]
   exact R.move (m':=Rf.bd (got t ye) _) rfl (R.got0 h1 (R.ret _ _))
theorem R.joins{jn ex:Nat→Rs Nd}{mj me:M Nd}(hdj:D mj)(hde:D me)(hj:∀ z,R (jn z) mj z)(he:∀ z,R (ex z) me z):∀(n N:Nat),n<N→∀ a z,R (yg t jn ex n a z) (Rf.joins t mj me N a) z
 | 0,N,_,a,z=>trivial
 |n+1,N,h,a,z=>by
  obtain⟨N,rfl⟩:∃ M,N=M+2:=⟨N-2,by omega⟩
  have ih:=R.joins hdj hde hj he n (N+1) (by omega)
  unfold yg
  show R _ (Rf.unbad a _) z
  refine R.move (m':=Rf.bd (got t k_cross) fun q=>match q with
  |true=>Rf.bd (must t zw) fun _=>Rf.bd mj fun x=>Rf.joins t mj me (N+1) (.mk k_cross [] 0 [a,x])
  |false=>Rf.bd (whichOf t [k_left,k_right,k_full]) fun o=>match o with
   |some op=>Rf.bd (got t k_outer) fun _=>Rf.bd (isT t 0 zw) fun _=>Rf.bd (must t zw) fun _=>Rf.bd mj fun x=>Rf.bd (must t k_on) fun _=>Rf.bd me fun e=>Rf.joins t mj me (N+1) (.mk op [] 0 [a,x,e])
   |none=>Rf.bd (got t k_inner) fun inner=>Rf.bd (isT t 0 zw) fun join=>match inner || join with
    |false=>rt a
    |true=>Rf.bd (must t zw) fun _=>Rf.bd mj fun x=>Rf.bd (must t k_on) fun _=>Rf.bd me fun e=>Rf.joins t mj me (N+1) (.mk k_inner [] 0 [a,x,e])) rfl ?_
  have hon:∀(op:List UInt8) (x:Nd) (z:Nat),R ((Ps.need t k_on z).bind fun _ z=>(ex z).bind fun e z=>yg t jn ex n (node op [a,x,e]) z) (Rf.bd (must t k_on) fun _=>Rf.bd me fun e=>Rf.joins t mj me (N+1) (.mk op [] 0 [a,x,e])) z:=fun op x z=>
   R.need (D.bd hde fun _=>D.unbad) fun _=>R.part (he _) (fun _=>D.unbad) fun e z _=>ih _ _
  have hdon:∀(op:List UInt8),∀ x,D (Rf.bd (must t k_on) fun _=>Rf.bd me fun e=>Rf.joins t mj me (N+1) (.mk op [] 0 [a,x,e])):=fun op x=>D.must (D.bd hde fun _=>D.unbad)
  have hjn:∀(op:List UInt8) (z:Nat),R ((jn z).bind fun x z=>(Ps.need t k_on z).bind fun _ z=>(ex z).bind fun e z=>yg t jn ex n (node op [a,x,e]) z) (Rf.bd mj fun x=>Rf.bd (must t k_on) fun _=>Rf.bd me fun e=>Rf.joins t mj me (N+1) (.mk op [] 0 [a,x,e])) z:=fun op z=>
   R.part (hj _) (hdon op) fun x z _=>hon op x z
  have hdj2:∀ op:List UInt8,D (Rf.bd mj fun x=>Rf.bd (must t k_on) fun _=>Rf.bd me fun e=>Rf.joins t mj me (N+1) (.mk op [] 0 [a,x,e])):=fun op=>D.bd hdj (hdon op)
  rcases qr t z [k_cross,k_inner,k_left,k_right,k_full,zw] with ⟨w,hw,h⟩|h
  ·rw[yah hw h]
   simp only[List.mem_cons,List.not_mem_nil,or_false] at hw
   have hno:∀ {l:List (List UInt8)},(∀ x ∈ l,(w == x)=false)→∀ x ∈ l,sees t z x=false:=fun hl x hx=>yb h (hl x hx)
   rcases hw with rfl|rfl|rfl|rfl|rfl|rfl
   ·exact R.got1 h (R.need (D.bd hdj fun _=>D.unbad) fun _=>R.part (hj _) (fun _=>D.unbad) fun x z _=>ih _ _)
   ·refine R.got0 (yb h rfl) (R.which0 (hno (by decide)) (R.got1 h (R.is (n:=0) (q:=sees t (z+1) zw) rfl ?_)))
    exact R.need (hdj2 _) fun _=>hjn _ _
   all_goals first
    |(refine R.got0 (yb h rfl) (R.which1 (by simp) h ?_)
      refine R.take (fun _=>?_) (fun _=>?_)
      ·exact R.is (n:=0) (q:=sees t (z+1+1) zw) rfl (R.need (hdj2 _) fun _=>hjn _ _)
      ·exact R.is (n:=0) (q:=sees t (z+1) zw) rfl (R.need (hdj2 _) fun _=>hjn _ _))
    |(refine R.got0 (yb h rfl) (R.which0 (hno (by decide)) (R.got0 (yb h rfl) (R.is (n:=0) (q:=true) h ?_)))
      exact R.must1 h (hjn _ _))
  ·rw[xaa h]
   exact R.got0 (h _ (by simp)) (R.which0 (fun w hw=>h w (by revert hw;simp only[List.mem_cons,List.not_mem_nil,or_false];rintro(rfl|rfl|rfl)<;>simp)) (R.got0 (h _ (by simp)) (R.is (n:=0) (q:=false) (h _ (by simp)) (R.ret _ _))))
end
end Go.AM.Rf
