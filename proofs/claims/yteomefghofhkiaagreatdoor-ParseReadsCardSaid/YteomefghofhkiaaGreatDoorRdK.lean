/- The parser's functions: statements, third part. -/
import Derived.Test.YteomefghofhkiaaGreatDoorRdJ
set_option maxRecDepth 100000
set_option maxHeartbeats 40000000
set_option linter.unusedVariables false
set_option linter.unusedSimpArgs false
namespace Go.AM.Ps
open Go.Proofs W
theorem jea{t:List Tk}(ht:Toks t){z:Nat}{a b c d:List UInt8}{S:St}{o:Nat}(h:At t z (S.row o))(ho:o<S.next){K:Out→St→Prop}
 (hyes:∀ r',sees t z a=true→sees t (z+1) b=true→sees t (z+1+1) c=true→sees t (z+1+1+1) d=true→At t (z+1+1+1+1) r'→K (.ret (.bool true)) (S.set o r')) (hno:∀ r',sees t z a=false→At t z r'→K (.ret (.bool false)) (S.set o r'))
 (hwr1:∀ z' r',sees t z a=true→sees t (z+1) b=false→At t z' r'→K (.panic vg) (S.set o r'))
 (hwr2:∀ z' r',sees t z a=true→sees t (z+1) b=true→sees t (z+1+1) c=false→At t z' r'→K (.panic vg) (S.set o r'))
 (hwr3:∀ z' r',sees t z a=true→sees t (z+1) b=true→sees t (z+1+1) c=true→sees t (z+1+1+1) d=false→At t z' r'→K (.panic vg) (S.set o r')) :
 jb Tryz.prog (Pr.tab real) 22 [.ptr o 0,.slice 9 [.str a,.str b,.str c,.str d] .exact] S K:=by
 refine yb0 ht a [b,c,d] (by simp) h ho ?_ ?_
 ·intro x z' r' hx hr'
  unfold take at hx
  cases h0:sees t z a with
  |false=>
   rw[h0] at hx
   simp only[Rs.ok.injEq] at hx
   obtain⟨rfl,rfl⟩:=hx
   exact hno r' h0 hr'
  |true=>
   rw[h0] at hx
   cases h1:sees t (z+1) b<;>cases h2:sees t (z+1+1) c<;>cases h3:sees t (z+1+1+1) d<;>simp[needs,Ps.need,Rs.bind,h1,h2,h3] at hx
   obtain⟨rfl,rfl⟩:=hx
   exact hyes r' h0 h1 h2 h3 hr'
 ·intro z' r' hx hr'
  unfold take at hx
  cases h0:sees t z a with
  |false=>rw[h0] at hx;cases hx
  |true=>
   rw[h0] at hx
   cases h1:sees t (z+1) b with
   |false=>exact hwr1 z' r' h0 h1 hr'
   |true=>
    cases h2:sees t (z+1+1) c with
    |false=>exact hwr2 z' r' h0 h1 h2 hr'
    |true=>
     cases h3:sees t (z+1+1+1) d with
     |false=>exact hwr3 z' r' h0 h1 h2 h3 hr'
     |true=>simp[needs,Ps.need,Rs.bind,h1,h2,h3] at hx
theorem xck{t:List Tk}(ht:Toks t)(n:Nat)(hn:n≤1000000000)(P:Parser t n)(z:Nat)(r:List AV)(h:At t z r)(hf:element qa t n z= .fuel→False) :
 jb Tryz.prog (Pr.tab real) 77 [.ptr 0 0] (P0 r) (Post t (element qa t n z) Nd.av):=by
 have hfin:=fun op s k e cs m l z' S'=>vac t (element qa t n z) op s k e cs m l z' S'
 have hbad:=fun z' S'=>qm t (element qa t n z) Nd.av z' S'
 generalize Post t (element qa t n z) Nd.av=K0 at hfin hbad ⊢
 apply ja (un:=0) Pr.tabOk Pr.mixed Ps.fn77 (nb rfl)
 apply qb (mk:=Pr.tab)
 intro fail need _ _ _ _ _ _ _ _ _ eqS _ _ _ _ _ _ _ _ _ _ _ _ _ not _ _ _ G
 have heqS:=G.eqS2
 have hnot:=G.not2
 unfold P0
 cbv
 repeat'
  (first
    |refine G.n' rfl ?_
    |((refine G.c' (yao ht (by assumption) (nb rfl) (fun r' hs hs2 hr'=>?_) (fun r' hs hr'=>?_) (fun z' r' hs hs2 hr'=>?_)))<;>(try cbv))
    |((refine G.c' ((qb1 ht n hn P) _ _ 0 _ (by assumption) (nb rfl) (fun q=>hf (by simp only[element,Rs.bind,Ps.need,Ps.take,Ps.needs,bl,bn,Ps.named,Ps.node, *];try exact rfl)) (fun l cl z' r' hs hcl hr'=>?_) (fun z' r' hs hr'=>?_)))<;>(try cbv))
    |((refine G.c' (qk ht (by assumption) (nb rfl) (fun r' hs hr'=>?_) (fun r' hs hr'=>?_)))<;>(try cbv))
    |((refine G.c' (vag ht P.expr (by assumption) (nb rfl) (fun q=>hf (by simp only[element,Rs.bind,Ps.need,Ps.take,Ps.needs,bl,bn,Ps.named,Ps.node, *];try exact rfl)) (fun op s k l cl z' r' hs hcl hr'=>?_) (fun z' r' hs hr'=>?_)))<;>(try cbv))
    |((refine G.c' (vl ht (by assumption) (nb rfl) (fun r' hs hr'=>?_) (fun z' r' hs hr'=>?_)))<;>(try cbv))
    |((refine G.c' (yy ht (by assumption) (nb rfl) (fun a z' r' hs hr'=>?_) (fun z' r' hs hr'=>?_)))<;>(try cbv))
    |((refine G.c' (xcx ht _ _ 0 _ (by assumption) (nb rfl) (fun q=>hf (by simp only[element,Rs.bind,Ps.need,Ps.take,Ps.needs,bl,bn,Ps.named,Ps.node, *];try exact rfl)) (fun op s k l cl z' r' hs hcl hr'=>?_) (fun z' r' hs hr'=>?_)))<;>(try cbv))
    |((refine G.c' (jbh qae _ _ _ _ rfl _ _ ?_))<;>(try cbv))
    |(((refine G.l' ?_;change za Tryz.prog (Pr.tab real) 105 c77 _ _ _;refine za.relax (za.weak (.cons rfl (.cons rfl (.cons rfl (.nil _)))) (opts_loop ht P.expr _ _ n [.mk _ _ _ _] _ .exact [] _ _ (by subst_vars;exact rfl) (.fresh _) (by simp;omega) (by assumption) (fun q=>hf (by simp only[element,Rs.bind,Ps.need,Ps.take,Ps.needs,bl,bn,Ps.named,Ps.node, *];try exact rfl)) (fun l' cs' m' caps' z' r' hs hcl hr'=>?_) (fun z' r' S' hs hr' e0 en=>?_)))))<;>(try cbv))
    |((refine G.c' (jg [.mk _ _ _ _] (by subst_vars;exact rfl) (by first|exact .inl rfl|exact .inr rfl) rfl (fun cl hcl=>?_)))<;>(try cbv))
    |((refine G.c' (jg _ (by subst_vars;exact rfl) (by first|exact .inl rfl|exact .inr rfl) rfl (fun cl hcl=>?_)))<;>(try cbv))
    |((refine G.c' (vk _ (by subst_vars;exact rfl) (by first|exact .inl rfl|exact .inr rfl) rfl (fun cl hcl=>?_)))<;>(try cbv))
    |fail)
 all_goals first
  |exact hbad _ _ (by simp only[element,Rs.bind,Ps.need,Ps.take,Ps.needs,bl,bn,Ps.named,Ps.node, *];try exact rfl) (by assumption) (nb rfl)
  |exact hfin _ _ _ _ _ _ _ _ _ (by simp only[element,Rs.bind,Ps.need,Ps.take,Ps.needs,bl,bn,Ps.named,Ps.node, *];try exact rfl) (by subst_vars;exact rfl) (by first|exact .inl rfl|exact .inr rfl) (by assumption) (nb rfl)
  |exact hbad _ _ (by simp only[element,Rs.bind,Ps.need,Ps.take,Ps.needs,bl,bn,Ps.named,Ps.node, *];try exact rfl) (by rw[show St.row _ 0=_ by assumption];assumption) (by assumption)
theorem vc9{t:List Tk}(ht:Toks t)(n:Nat)(hn:n≤1000000000)(P:Parser t n):Fn t 77 [] (element qa t n):=xae (fun _=>rfl) fun z r h hf=>xck ht n hn P z r h hf
theorem vck{t:List Tk}(ht:Toks t)(n:Nat)(hn:n≤1000000000)(P:Parser t n)(z:Nat)(r:List AV)(h:At t z r)(hf:vf t n (element qa t n) z= .fuel→False) :
 jb Tryz.prog (Pr.tab real) 76 [.ptr 1 0] (P2 r) (jad t 2 (vf t n (element qa t n) z) lav):=by
 have hfin:=fun e cs m l z' S'=>xd8 t 2 (vf t n (element qa t n) z) e cs m l z' S'
 have hbad:=fun z' S'=>qak t 2 (vf t n (element qa t n) z) lav z' S'
 generalize jad t 2 (vf t n (element qa t n) z) lav=K0 at hfin hbad ⊢
 apply ja (un:=0) Pr.tabOk Pr.mixed Ps.fn76 (nb rfl)
 apply qb (mk:=Pr.tab)
 intro fail need _ _ _ _ _ _ _ _ _ eqS _ _ _ _ _ _ _ _ _ _ _ _ _ not _ _ _ G
 have heqS:=G.eqS2
 have hnot:=G.not2
 unfold P2
 cbv
 repeat'
  (first
    |((refine G.c' (zay ht (vc9 ht n hn P) hn (by assumption) (nb rfl) (fun q=>hf (by simp only[Ps.need,Rs.bind,Ps.need,Ps.take,Ps.needs,bl,bn, *];try exact rfl)) (fun l cl z' r' hs hcl hr'=>?_) (fun z' r' hs hr'=>?_)))<;>(try cbv))
    |fail)
 all_goals first
  |exact hbad _ _ (by simp only[Ps.need,Rs.bind,Ps.need,Ps.take,Ps.needs,bl,bn, *];try exact rfl) (by assumption) (nb rfl) rfl
  |exact hfin _ _ _ _ _ _ (by simp only[Ps.need,Rs.bind,Ps.need,Ps.take,Ps.needs,bl,bn, *];try exact rfl) (by subst_vars;exact rfl) (by first|exact .inl rfl|exact .inr rfl) (by assumption) (nb rfl) rfl
theorem yc9{t:List Tk}(ht:Toks t)(n:Nat)(hn:n≤1000000000)(P:Parser t n):FnCL t 76 (vf t n (element qa t n)):=zds fun z r h hf=>vck ht n hn P z r h hf
theorem names_len{t:List Tk}{n z:Nat}{l:List Nd}{z':Nat}(h:names qa t n z= .ok l z'):1≤l.length∧l.length≤n+1:=by
 unfold names at h
 obtain⟨a,b,hab⟩:=zb2 h
 exact xbs hab
theorem xc5{t:List Tk}(ht:Toks t)(n:Nat)(hn:n≤1000000000)(P:Parser t n)(z:Nat)(r:List AV)(h:At t z r)(hf:create qa t n z= .fuel→False) :
 jb Tryz.prog (Pr.tab real) 38 [.ptr 0 0] (P0 r) (Post t (create qa t n z) Nd.av):=by
 have hfin:=fun op s k e cs m l z' S'=>vac t (create qa t n z) op s k e cs m l z' S'
 have hbad:=fun z' S'=>qm t (create qa t n z) Nd.av z' S'
 generalize Post t (create qa t n z) Nd.av=K0 at hfin hbad ⊢
 apply ja (un:=0) Pr.tabOk Pr.mixed Ps.fn38 (nb rfl)
 apply qb (mk:=Pr.tab)
 intro fail need _ _ _ len _ _ _ cmp _ eqS _ _ app _ _ _ _ _ _ _ _ _ room not _ _ _ G
 have heqS:=G.eqS2
 have hnot:=G.not2
 have hlenE:∀ {l cl z1 z2},names qa t n z1= .ok l z2→cl=avL l→1≤cl.length∧cl.length≤1000000001:=by
  intro l cl z1 z2 hq hcl
  have:=names_len hq
  rw[hcl,xd,List.length_map]
  omega
 have hroomE:∀ {l cl z1 z2 x},names qa t n z1= .ok l z2→cl=avL l→room (len (app [x] cl)) 64=true:=by
  intro l cl z1 z2 x hq hcl
  have:=hlenE hq hcl
  rw[G.app',G.room',G.len'];simp;omega
 have hposE:∀ {l cl z1 z2},names qa t n z1= .ok l z2→cl=avL l→cmp BinOp.lss 0 (len cl)=true:=by
  intro l cl z1 z2 hq hcl
  have:=hlenE hq hcl
  rw[G.cmp',G.len'];simp[vb];omega
 have happE:∀ x cl,app [x] cl=x::cl:=fun x cl=>by rw[G.app'];rfl
 unfold P0
 cbv
 repeat'
  (first
    |refine G.n' rfl ?_
    |refine G.s' rfl ?_
    |((refine G.c' (qk ht (by assumption) (nb rfl) (fun r' hs hr'=>?_) (fun r' hs hr'=>?_)))<;>(try cbv))
    |((refine G.c' (yy ht (by assumption) (nb rfl) (fun a z' r' hs hr'=>?_) (fun z' r' hs hr'=>?_)))<;>(try cbv))
    |((refine G.c' (vbl ht (yc9 ht n hn P) (by decide) (by assumption) (nb rfl) rfl (nb rfl) (fun q=>hf (by simp only[create,Rs.bind,Ps.need,Ps.take,Ps.needs,bl,bn,Ps.named,Ps.node, *];try exact rfl)) (fun l cl z' r' hs hcl hr'=>?_) (fun z' r' hs hr'=>?_)))<;>(try cbv))
    |((refine G.c' (vl ht (by assumption) (nb rfl) (fun r' hs hr'=>?_) (fun z' r' hs hr'=>?_)))<;>(try cbv))
    |((refine G.c' ((qb1 ht n hn P) _ _ 0 _ (by assumption) (nb rfl) (fun q=>hf (by simp only[create,Rs.bind,Ps.need,Ps.take,Ps.needs,bl,bn,Ps.named,Ps.node, *];try exact rfl)) (fun l cl z' r' hs hcl hr'=>?_) (fun z' r' hs hr'=>?_)))<;>(try cbv))
    |(((refine G.n' (hroomE (by assumption) (by assumption)) (G.n' (hposE (by assumption) (by assumption)) ?_);rw[happE]))<;>(try cbv))
    |((refine G.c' (jg [] (by subst_vars;exact rfl) (by first|exact .inl rfl|exact .inr rfl) rfl (fun cl hcl=>?_)))<;>(try cbv))
    |((refine G.c' (vk [] (by subst_vars;exact rfl) (by first|exact .inl rfl|exact .inr rfl) rfl (fun cl hcl=>?_)))<;>(try cbv))
    |fail)
 all_goals first
  |exact hbad _ _ (by simp only[create,Rs.bind,Ps.need,Ps.take,Ps.needs,bl,bn,Ps.named,Ps.node, *];try exact rfl) (by assumption) (nb rfl)
  |exact hfin _ _ _ _ _ _ _ _ _ (by simp only[create,Rs.bind,Ps.need,Ps.take,Ps.needs,bl,bn,Ps.named,Ps.node, *];try exact rfl) (by subst_vars;exact rfl) (by first|exact .inl rfl|exact .inr rfl) (by assumption) (nb rfl)
theorem xdw{t:List Tk}(ht:Toks t)(n:Nat)(hn:n≤1000000000)(P:Parser t n):Fn t 38 [] (create qa t n):=xae (fun _=>rfl) fun z r h hf=>xc5 ht n hn P z r h hf
theorem xby{t:List Tk}(ht:Toks t)(n:Nat)(hn:n≤1000000000)(P:Parser t n)(z:Nat)(r:List AV)(h:At t z r)(hf:statement qa t n z= .fuel→False) :
 jb Tryz.prog (Pr.tab real) 21 [.ptr 0 0] (P0 r) (Post t (statement qa t n z) Nd.av):=by
 have hfin:=fun op s k e cs m l z' S'=>vac t (statement qa t n z) op s k e cs m l z' S'
 have hbad:=fun z' S'=>qm t (statement qa t n z) Nd.av z' S'
 generalize Post t (statement qa t n z) Nd.av=K0 at hfin hbad ⊢
 apply ja (un:=0) Pr.tabOk Pr.mixed Ps.fn21 (nb rfl)
 apply qb (mk:=Pr.tab)
 intro fail need _ _ _ len _ _ _ cmp _ eqS _ _ app _ _ _ _ _ _ _ _ _ room not _ _ _ G
 have heqS:=G.eqS2
 have hnot:=G.not2
 have happ:∀ cs x,app cs [x]=cs++[x]:=fun cs x=>by rw[G.app']
 have hroom:∀(cs:List AV) x,cs.length≤2000000001→room (len (cs++[x])) 64=true:=fun cs x h=>by rw[G.room',G.len'];simp;omega
 have heqc:∀(cs:List AV) (n2:Int),n2=cs.length→cmp BinOp.eql n2 (len cs)=true:=fun cs n2 h=>by rw[G.cmp',G.len',h];simp[vb]
 have h01:∀ x,cmp BinOp.lss 0 (len [x])=true:=fun x=>by rw[G.cmp',G.len'];rfl
 unfold P0
 cbv
 repeat'
  (first
    |refine G.n' rfl ?_
    |refine G.s' rfl ?_
    |((refine G.c' (zbf ht (by assumption) (nb rfl) (fun hs=>?_) (fun hs=>?_)))<;>(try cbv))
    |((refine G.c' (qk ht (by assumption) (nb rfl) (fun r' hs hr'=>?_) (fun r' hs hr'=>?_)))<;>(try cbv))
    |((refine G.c' (yao ht (by assumption) (nb rfl) (fun r' hs hs2 hr'=>?_) (fun r' hs hr'=>?_) (fun z' r' hs hs2 hr'=>?_)))<;>(try cbv))
    |((refine G.c' (jea ht (by assumption) (nb rfl) (fun r' hs hs2 hs3 hs4 hr'=>?_) (fun r' hs hr'=>?_) (fun z' r' hs hs2 hr'=>?_) (fun z' r' hs hs2 hs3 hr'=>?_) (fun z' r' hs hs2 hs3 hs4 hr'=>?_)))<;>(try cbv))
    |((refine G.c' (yy ht (by assumption) (nb rfl) (fun a z' r' hs hr'=>?_) (fun z' r' hs hr'=>?_)))<;>(try cbv))
    |((refine G.c' (vl ht (by assumption) (nb rfl) (fun r' hs hr'=>?_) (fun z' r' hs hr'=>?_)))<;>(try cbv))
    |((refine G.c' ((vcx ht n hn P) _ _ 0 _ (by assumption) (nb rfl) (fun q=>hf (by simp only[statement,updateP,Rs.bind,Ps.need,Ps.take,Ps.needs,bl,bn,Ps.named,Ps.node, *];try exact rfl)) (fun op s k l cl z' r' hs hcl hr'=>?_) (fun z' r' hs hr'=>?_)))<;>(try cbv))
    |((refine G.c' ((xdw ht n hn P) _ _ 0 _ (by assumption) (nb rfl) (fun q=>hf (by simp only[statement,updateP,Rs.bind,Ps.need,Ps.take,Ps.needs,bl,bn,Ps.named,Ps.node, *];try exact rfl)) (fun op s k l cl z' r' hs hcl hr'=>?_) (fun z' r' hs hr'=>?_)))<;>(try cbv))
    |((refine G.c' ((xc9 ht n hn P) _ _ 0 _ (by assumption) (nb rfl) (fun q=>hf (by simp only[statement,updateP,Rs.bind,Ps.need,Ps.take,Ps.needs,bl,bn,Ps.named,Ps.node, *];try exact rfl)) (fun op s k l cl z' r' hs hcl hr'=>?_) (fun z' r' hs hr'=>?_)))<;>(try cbv))
    |((refine G.c' ((zea ht n hn P) _ _ 0 _ (by assumption) (nb rfl) (fun q=>hf (by simp only[statement,updateP,Rs.bind,Ps.need,Ps.take,Ps.needs,bl,bn,Ps.named,Ps.node, *];try exact rfl)) (fun op s k l cl z' r' hs hcl hr'=>?_) (fun z' r' hs hr'=>?_)))<;>(try cbv))
    |((refine G.c' ((zcp ht n hn P) _ _ 0 _ (by assumption) (nb rfl) (fun q=>hf (by simp only[statement,updateP,Rs.bind,Ps.need,Ps.take,Ps.needs,bl,bn,Ps.named,Ps.node, *];try exact rfl)) (fun op s k l cl z' r' hs hcl hr'=>?_) (fun z' r' hs hr'=>?_)))<;>(try cbv))
    |((refine G.c' ((xew ht n hn P) _ _ 0 _ (by assumption) (nb rfl) (fun q=>hf (by simp only[statement,updateP,Rs.bind,Ps.need,Ps.take,Ps.needs,bl,bn,Ps.named,Ps.node, *];try exact rfl)) (fun op s k l cl z' r' hs hcl hr'=>?_) (fun z' r' hs hr'=>?_)))<;>(try cbv))
    |((refine G.c' (qeb ht n hn P (by assumption) (nb rfl) (fun a z' r' hs hr'=>?_) (fun z' r' hs hr'=>?_)))<;>(try cbv))
    |(((refine G.c' (jc9 ht (xen ht n hn P) hn (by assumption) rfl rfl (fun q=>hf (by simp only[statement,updateP,Rs.bind,Ps.need,Ps.take,Ps.needs,bl,bn,Ps.named,Ps.node, *];try exact rfl)) (fun l cs m caps z' r' hs hcl hg hlen hr'=>?_) (fun z' r' caps hs hr'=>?_))))<;>(try cbv))
    |(((rw[happ];refine G.n' (hroom _ _ (by assumption)) (G.n' (heqc _ _ (by assumption)) ?_)))<;>(try cbv))
    |(((rw[happ];refine G.n' (hroom _ _ (by assumption)) (G.n' (h01 _) ?_)))<;>(try cbv))
    |((refine G.c' (jg [] (by subst_vars;exact rfl) (by first|exact .inl rfl|exact .inr rfl) rfl (fun cl hcl=>?_)))<;>(try cbv))
    |((refine G.c' (vk [] (by subst_vars;exact rfl) (by first|exact .inl rfl|exact .inr rfl) rfl (fun cl hcl=>?_)))<;>(try cbv))
    |((refine G.c' (vk [.mk _ _ _ _] (by subst_vars;exact rfl) (by first|exact .inl rfl|exact .inr rfl) rfl (fun cl hcl=>?_)))<;>(try cbv))
    |(((cases hg))<;>(try cbv))
    |(rw[hnot];(try cbv))
    |fail)
 all_goals first
  |exact hbad _ _ (by simp only[statement,updateP,Rs.bind,Ps.need,Ps.take,Ps.needs,bl,bn,Ps.named,Ps.node, *];try exact rfl) (by assumption) (nb rfl)
  |exact hfin _ _ _ _ _ _ _ _ _ (by simp only[statement,updateP,Rs.bind,Ps.need,Ps.take,Ps.needs,bl,bn,Ps.named,Ps.node, *];try exact rfl) (by subst_vars;exact rfl) (by first|exact .inl rfl|exact .inr rfl) (by assumption) (nb rfl)
  |exact hfin _ _ _ _ _ _ _ _ _ (by simp only[statement,updateP,Rs.bind,Ps.need,Ps.take,Ps.needs,bl,bn,Ps.named,Ps.node, *];try exact rfl) (by rw[happ];exact jcx (by assumption) (by assumption)) (.inl rfl) (by assumption) (nb rfl)
theorem zcc{t:List Tk}(ht:Toks t)(n:Nat)(hn:n≤1000000000)(P:Parser t n):Fn t 21 [] (statement qa t n):=xae (fun _=>rfl) fun z r h hf=>xby ht n hn P z r h hf
end Go.AM.Ps
