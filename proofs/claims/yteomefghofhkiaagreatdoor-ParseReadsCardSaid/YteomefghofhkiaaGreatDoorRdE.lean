/- The parser's functions: what stands first. -/
import Derived.Test.YteomefghofhkiaaGreatDoorRdD
set_option maxRecDepth 100000
set_option linter.unusedVariables false
set_option linter.unusedSimpArgs false
set_option maxHeartbeats 40000000
namespace Go.AM.Ps
open Go.Proofs W
def ycc{α:Type}(t:List Tk)(w:List UInt8)(r:Rs α)(av:α→AV)(out:Out)(S':St):Prop:=∃ z',Ans r av out z'∧At t z' (S'.row 0)∧S'.row 1=[.ptr 0 0]∧S'.row 2=[.str w]∧3≤S'.next
theorem vdv{a b:Nat}(h:a≠b):Nat.beq a b=false:=by
 cases hq:Nat.beq a b with
 |false=>rfl
 |true=>exact absurd (Nat.eq_of_beq_eq_true hq) h
theorem idx3{o o1 o2:Nat}(h01:o≠o1)(h02:o≠o2)(h12:o1≠o2):idx [o,o1,o2] o=some 0∧idx [o,o1,o2] o1=some 1∧idx [o,o1,o2] o2=some 2:=by
 have e0:Nat.beq o o=true:=Nat.beq_refl o
 have e1:Nat.beq o1 o1=true:=Nat.beq_refl o1
 have e2:Nat.beq o2 o2=true:=Nat.beq_refl o2
 simp[idx,e0,e1,e2,vdv h01,vdv h02,vdv h12]
theorem jev{α:Type}{f:FuncId}{args args0:List AV}{r:Rs α}{av:α→AV}{t:List Tk}{z:Nat}{S:St}{o o1 o2:Nat}{w:List UInt8}{K:Out→St→Prop}(h01:o≠o1)(h02:o≠o2)(h12:o1≠o2)(hargs:renL (idx [o,o1,o2]) noh args=args0)(hav:∀ a f h,(av a).ren f h=av a)
 (h:At t z (S.row o)) (ho:o<S.next) (hb:S.row o1=[.ptr o 0]) (ho1:o1<S.next) (hw:S.row o2=[.str w]) (ho2:o2<S.next)
 (hc:jb Tryz.prog (Pr.tab real) f args0 (P3 (S.row o) [.str w]) (ycc t w r av))
 (hok:∀ a z' r',r= .ok a z'→At t z' r'→K (.ret (av a)) (S.set o r')) (hwr:∀ z' r',r= .wrong→At t z' r'→K (.panic vg) (S.set o r')):jb Tryz.prog (Pr.tab real) f args S K:=by
 have hc2:jb Tryz.prog (Pr.tab real) f args0 (P3 (S.row o) [.str w]) fun out S'=>(∃ a z',r= .ok a z'∧out= .ret (av a)∧At t z' (S'.row 0)∧S'.row 1=[.ptr 0 0]∧S'.row 2=[.str w]∧3≤S'.next) ∨
  (∃ z',r= .wrong∧out= .panic vg∧At t z' (S'.row 0)∧S'.row 1=[.ptr 0 0]∧S'.row 2=[.str w]∧3≤S'.next):=by
  refine jb.sub (jb.mono hc ?_)
  rintro out S' ⟨z',ha,h1,h2,h3,h4⟩
  unfold Ans at ha
  split at ha
  ·exact ha.elim
  ·subst ha;exact⟨_,.panic _,.inr ⟨z',rfl,rfl,h1,h2,h3,h4⟩⟩
  ·obtain⟨h5,rfl⟩:=ha
   exact⟨_,h5,.inl ⟨_,_,rfl,rfl,h1,h2,h3,h4⟩⟩
 obtain⟨i0,i1,i2⟩:=idx3 h01 h02 h12
 refine qef [o,o1,o2] (by simp[h01,h02,h12]) ?_ (S0:=P3 (S.row o) [.str w]) rfl ?_ (by rw[hargs];exact hc2) ?_
 ·intro p hp
  simp at hp
  rcases hp with rfl|rfl|rfl<;>assumption
 ·intro i p hp
  match i,hp with
  | 0,hp=>simp at hp;subst hp;rw[h.ren];rfl
  | 1,hp=>simp at hp;subst hp;rw[hb];simp only[renL,AV.ren,i0];rfl
  | 2,hp=>simp at hp;subst hp;rw[hw];rfl
  |i+3,hp=>simp at hp
 ·have fin:∀(S0':St) (z':Nat),At t z' (S0'.row 0)→S0'.row 1=[.ptr 0 0]→S0'.row 2=[.str w]→(S.set o (S0'.row 0)).next=S.next∧(S.set o (S0'.row 0)).caps=S.caps∧(∀ p,p ∉ [o,o1,o2]→(S.set o (S0'.row 0)).row p=S.row p) ∧
   (∀ i p,[o,o1,o2][i]? =some p→(S.set o (S0'.row 0)).row p=renL (fun i=>[o,o1,o2][i]?) noh (S0'.row i)):=by
   intro S0' z' h1 h2 h3
   refine⟨rfl,rfl,?_,?_⟩
   ·intro p hp
    simp at hp
    rw[qt _ _ _ _ h.ne,if_neg (fun q=>hp.1 q.symm)]
   ·intro i p hp
    match i,hp with
    | 0,hp=>simp at hp;subst hp;rw[qt _ _ _ _ h.ne,if_pos rfl,h1.ren]
    | 1,hp=>simp at hp;subst hp;rw[qt _ _ _ _ h.ne,if_neg h01,hb,h2];rfl
    | 2,hp=>simp at hp;subst hp;rw[qt _ _ _ _ h.ne,if_neg h02,hw,h3];rfl
    |i+3,hp=>simp at hp
  rintro out0 S0' (⟨a,z',h1,rfl,h2,h3,h4,h5⟩|⟨z',h1,rfl,h2,h3,h4,h5⟩)
  ·obtain⟨f1,f2,f3,f4⟩:=fin S0' z' h2 h3 h4
   refine⟨h5,S.set o (S0'.row 0),f1,f2,f3,f4,?_⟩
   show K (.ret ((av a).ren _ _)) _
   rw[hav]
   exact hok a z' _ h1 h2
  ·obtain⟨f1,f2,f3,f4⟩:=fin S0' z' h2 h3 h4
   exact⟨h5,S.set o (S0'.row 0),f1,f2,f3,f4,hwr z' _ h1 h2⟩
def FnT(t:List Tk)(f:FuncId)(w:List UInt8)(r:Nat→Rs Nd):Prop:=
 ∀(z:Nat) (S:St) (o o1 o2:Nat) (K:Out→St→Prop),o≠o1→o≠o2→o1≠o2→At t z (S.row o)→o<S.next→S.row o1=[.ptr o 0]→o1<S.next→S.row o2=[.str w]→o2<S.next→(r z= .fuel→False) →
  (∀ op s k l cl z' r',r z= .ok (.mk op s k l) z'→cl=avL l→At t z' r'→K (.ret (.agg [.str op,.str s,.int .i64 k,.slice 24 cl .no])) (S.set o r')) →
  (∀ z' r',r z= .wrong→At t z' r'→K (.panic vg) (S.set o r'))→jb Tryz.prog (Pr.tab real) f [.ptr o2 0,.ptr o1 0] S K
theorem vev{t:List Tk}{f:FuncId}{w:List UInt8}{r:Nat→Rs Nd}
 (hc:∀ z rw',At t z rw'→(r z= .fuel→False)→jb Tryz.prog (Pr.tab real) f [.ptr 2 0,.ptr 1 0] (P3 rw' [.str w]) (ycc t w (r z) Nd.av)):FnT t f w r:=by
 intro z S o o1 o2 K h01 h02 h12 h ho hb ho1 hw ho2 hf hok hwr
 obtain⟨i0,i1,i2⟩:=idx3 h01 h02 h12
 refine jev h01 h02 h12 (args0:=[.ptr 2 0,.ptr 1 0]) (by simp only[renL,AV.ren,i1,i2]) (fun a f h=>zh f h a) h ho hb ho1 hw ho2 (hc z _ h hf) (fun a z' r' hq hr'=>?_) hwr
 obtain⟨op,s,k,l⟩:=a
 exact hok op s k l _ z' r' hq rfl hr'
theorem jef(t:List Tk)(w:List UInt8)(r:Rs Nd)(op s:List UInt8)(k:Int)(e:TypeId)(cs:List AV)(m:Mode)(l:List Nd)(z':Nat)(S':St)(hr:r= .ok (.mk op s k l) z')(hcs:cs=avL l)(he:e=24∨cs=[])(h:At t z' (S'.row 0))(hn:3≤S'.next)(h1:S'.row 1=[.ptr 0 0])(h2:S'.row 2=[.str w]) :
 ycc t w r Nd.av (.ret (.agg [.str op,.str s,.int .i64 k,.slice e cs m])) S':=by
 rw[hr]
 exact⟨z',⟨.ret _ _ (xad _ op s k e cs m l hcs he),rfl⟩,h,h1,h2,hn⟩
theorem xds{α:Type}(t:List Tk)(w:List UInt8)(r:Rs α)(av:α→AV)(z':Nat)(S':St)(hr:r= .wrong)(h:At t z' (S'.row 0))(hn:3≤S'.next)(h1:S'.row 1=[.ptr 0 0])(h2:S'.row 2=[.str w]):ycc t w r av (.panic (.iface 47 (.agg []))) S':=by
 rw[hr]
 exact⟨z',rfl,h,h1,h2,hn⟩
end Go.AM.Ps
namespace Go.AM.Ps
open Go.Proofs W
theorem xcj{t:List Tk}(ht:Toks t){fid:FuncId}{w:List UInt8}{part:Nat→Rs Nd}(hp:FnT t fid w part)(z:Nat)(r:List AV)(h:At t z r)(hf:within t part z= .fuel→False) :
 jb Tryz.prog (Pr.tab real) 111 [.ptr 0 0,.func fid [] [.ptr 2 0,.ptr 1 0]] (P3 r [.str w]) (ycc t w (within t part z) Nd.av):=by
 have hfin:=fun op s k e cs m l z' S'=>jef t w (within t part z) op s k e cs m l z' S'
 have hbad:=fun z' S'=>xds t w (within t part z) Nd.av z' S'
 generalize ycc t w (within t part z) Nd.av=K0 at hfin hbad ⊢
 apply ja (un:=0) Pr.tabOk Pr.mixed Ps.fn111 (nb rfl)
 apply qb (mk:=Pr.tab)
 intro fail need _ _ _ _ _ _ _ _ _ eqS _ _ _ _ _ _ _ _ _ _ _ _ _ not _ _ _ G
 have heqS:=G.eqS2
 have hnot:=G.not2
 unfold P3
 cbv
 repeat'
  (first
    |((refine G.c' (vl ht (by assumption) (nb rfl) (fun r' hs hr'=>?_) (fun z' r' hs hr'=>?_)))<;>(try cbv))
    |((refine G.c' (hp _ _ 0 1 2 _ (by decide) (by decide) (by decide) (by assumption) (nb rfl) rfl (nb rfl) rfl (nb rfl) (fun q=>hf (by simp only[within,Rs.bind,Ps.need,Ps.take,Ps.needs,bl, *];try exact rfl)) (fun op s k l cl z' r' hs hcl hr'=>?_) (fun z' r' hs hr'=>?_)))<;>(try cbv))
    |fail)
 all_goals first
  |exact hbad _ _ (by simp only[within,Rs.bind,Ps.need,Ps.take,Ps.needs,bl, *];try exact rfl) (by assumption) (nb rfl) rfl rfl
  |exact hfin _ _ _ _ _ _ _ _ _ (by simp only[within,Rs.bind,Ps.need,Ps.take,Ps.needs,bl, *];try exact rfl) (by subst_vars;exact rfl) (by first|exact .inl rfl|exact .inr rfl) (by assumption) (nb rfl) rfl rfl
theorem yc8{t:List Tk}(ht:Toks t){fid:FuncId}{w:List UInt8}{part:Nat→Rs Nd}(hp:FnT t fid w part){z:Nat}{S:St}{o o1 o2:Nat}(h01:o≠o1)(h02:o≠o2)(h12:o1≠o2)(h:At t z (S.row o))(ho:o<S.next)(hb:S.row o1=[.ptr o 0])(ho1:o1<S.next)(hw:S.row o2=[.str w])(ho2:o2<S.next){K:Out→St→Prop}(hf:within t part z= .fuel→False)
 (hok:∀ op s k l cl z' r',within t part z= .ok (.mk op s k l) z'→cl=avL l→At t z' r'→K (.ret (.agg [.str op,.str s,.int .i64 k,.slice 24 cl .no])) (S.set o r'))
 (hwr:∀ z' r',within t part z= .wrong→At t z' r'→K (.panic vg) (S.set o r')):jb Tryz.prog (Pr.tab real) 111 [.ptr o 0,.func fid [] [.ptr o2 0,.ptr o1 0]] S K:=by
 obtain⟨i0,i1,i2⟩:=idx3 h01 h02 h12
 refine jev h01 h02 h12 (args0:=[.ptr 0 0,.func fid [] [.ptr 2 0,.ptr 1 0]]) (by simp only[renL,AV.ren,i0,i1,i2]) (fun a f h=>zh f h a) h ho hb ho1 hw ho2 (xcj ht hp z _ h hf) (fun a z' r' hq hr'=>?_) hwr
 obtain⟨op,s,k,l⟩:=a;exact hok op s k l _ z' r' hq rfl hr'
theorem vby{t:List Tk}(ht:Toks t)(n:Nat)(hn:n≤1000000000)(w:List UInt8)(hexpr:Fn t 83 [] (expr qa t n))(z:Nat)(r:List AV)(h:At t z r)(hf:primTotal qa t (n+1) w z= .fuel→False) :
 jb Tryz.prog (Pr.tab real) 161 [.ptr 2 0,.ptr 1 0] (P3 r [.str w]) (ycc t w (primTotal qa t (n+1) w z) Nd.av):=by
 have hfin:=fun op s k e cs m l z' S'=>jef t w (primTotal qa t (n+1) w z) op s k e cs m l z' S'
 have hbad:=fun z' S'=>xds t w (primTotal qa t (n+1) w z) Nd.av z' S'
 generalize ycc t w (primTotal qa t (n+1) w z) Nd.av=K0 at hfin hbad ⊢
 apply ja (un:=0) Pr.tabOk Pr.mixed Ps.fn161 (nb rfl)
 apply qb (mk:=Pr.tab)
 intro fail need _ _ _ _ _ _ _ _ _ eqS _ _ _ _ _ _ _ _ _ _ _ _ _ not _ _ _ G
 have heqS:=G.eqS2
 have hnot:=G.not2
 unfold P3
 cbv
 repeat'
  (first
    |refine G.n' rfl ?_
    |(rw[heqS];(try rw[hnot]);split<;>((first|contradiction|(rename_i hq;(try simp only[Bool.not_eq_true',Bool.not_eq_false'] at hq);rw[hq])|(rename_i hq _;rw[hq])|skip);try cbv))
    |((refine G.c' (qk ht (by assumption) (nb rfl) (fun r' hs hr'=>?_) (fun r' hs hr'=>?_)))<;>(try cbv))
    |((refine G.c' (jg [] (by subst_vars;exact rfl) (by first|exact .inl rfl|exact .inr rfl) rfl (fun cl hcl=>?_)))<;>(try cbv))
    |((refine G.c' (jai ht [_,_] (by decide) (by assumption) (nb rfl) (fun a z' r' hs hr'=>?_)))<;>(try cbv))
    |((refine G.c' (hexpr _ _ 0 _ (by assumption) (nb rfl) (fun q=>hf (by simp only[primTotal,Rs.bind,Ps.need,Ps.take,Ps.needs,bl,Ps.named,Ps.node, *];try exact rfl)) (fun op s k l cl z' r' hs hcl hr'=>?_) (fun z' r' hs hr'=>?_)))<;>(try cbv))
    |fail)
 all_goals first
  |exact hbad _ _ (by simp only[primTotal,Rs.bind,Ps.need,Ps.take,Ps.needs,bl,Ps.named,Ps.node, *];try exact rfl) (by assumption) (nb rfl) rfl rfl
  |exact hfin _ _ _ _ _ _ _ _ _ (by simp only[primTotal,Rs.bind,Ps.need,Ps.take,Ps.needs,bl,Ps.named,Ps.node, *];try exact rfl) (by subst_vars;exact rfl) (by first|exact .inl rfl|exact .inr rfl) (by assumption) (nb rfl) rfl rfl
theorem zck{t:List Tk}(ht:Toks t)(n:Nat)(hn:n≤1000000000)(hexpr:Fn t 83 [] (expr qa t n))(hbody:Fn t 73 [] (body qa t n))(hexprs:FnL t 82 [] (exprs qa t n))(hcases:Fn t 158 [] (cases qa t n))(hcast:FnC t 159 (primCast qa t n))(hnullif:FnC t 160 (primNullif qa t n))(htotal:∀ w,FnT t 161 w (primTotal qa t n w))(z:Nat)(r:List AV)(h:At t z r)(hf:primary qa t (n+1) z= .fuel→False) :
 jb Tryz.prog (Pr.tab real) 151 [.ptr 0 0] (P0 r) (Post t (primary qa t (n+1) z) Nd.av):=by
 have hfin:=fun op s k e cs m l z' S'=>vac t (primary qa t (n+1) z) op s k e cs m l z' S'
 have hbad:=fun z' S'=>qm t (primary qa t (n+1) z) Nd.av z' S'
 generalize Post t (primary qa t (n+1) z) Nd.av=K0 at hfin hbad ⊢
 have htl:=ht.len
 have hr0:=h
 obtain⟨h1,h2⟩:=h
 obtain⟨e,cs,m,hv,hcs,he⟩:=qp t
 rw[hv] at h1
 obtain⟨zz,hzz⟩:∃ zz:Int,zz=(z:Int):=⟨_,rfl⟩
 rw[← hzz] at h1
 obtain⟨z1,hz1⟩:∃ z1:Int,z1=(z+1:Nat):=⟨_,rfl⟩
 have kind_lt:isKind t 2 z=true→z<t.length:=by
  intro q
  unfold isKind at q
  rcases Nat.lt_or_ge z t.length with w|w
  ·exact w
  ·rw[List.getElem?_eq_none w] at q;cases q
 have hat1:isKind t 2 z=true→At t (z+1) [.slice e cs m,.int .i64 z1]:=fun q=>⟨by rw[hv,hz1],kind_lt q⟩
 have he41:isKind t 2 z=true→e=41:=fun q=>he (by intro w;have:=kind_lt q;rw[w] at this;simp at this)
 obtain⟨xk,xn,xa,hxx⟩:∃ xk xn xa,isKind t 2 z=true→t[z]? =some ⟨xk,textAt t z,xn,xa⟩:=by
  cases hx:t[z]? with
  |none=>exact⟨0,0,0,fun q=>by unfold isKind at q;rw[hx] at q;cases q⟩
  |some x=>obtain⟨a,b,c,d⟩:=x;exact⟨a,c,d,fun _=>by unfold textAt;rw[hx]⟩
 obtain⟨tx,htx⟩:∃ tx,textAt t z=tx:=⟨_,rfl⟩
 rw[htx] at hxx
 apply ja (un:=0) Pr.tabOk Pr.mixed Ps.fn151 (nb rfl)
 apply qb (mk:=Pr.tab)
 intro fail need _ _ _ len _ arith _ _ _ eqS _ _ _ elt _ _ _ _ _ _ inb _ _ not _ _ _ G
 have heqS:=G.eqS2
 have hnot:=G.not2
 have hadd1:arith BinOp.add IntKind.i64 zz 1=z1:=by rw[G.arith',hz1,hzz];exact wrap_i64 _ (by omega) (by omega)
 have hsub1:arith BinOp.sub IntKind.i64 z1 1=zz:=by
  rw[G.arith']
  show IntKind.i64.wrap (z1-1)=zz
  rw[show z1-1=zz by omega]
  exact wrap_i64 _ (by omega) (by omega)
 have hinT:isKind t 2 z=true→inb zz (len cs)=true:=fun q=>by
  have:=kind_lt q
  rw[G.inb',G.len',hcs];simp;omega
 have helT:isKind t 2 z=true→elt cs zz= .agg [.int .i64 xk,.str tx,.int .i64 xn,.int .i64 xa]:=fun q=>by
  rw[G.elt',hcs];simp only[]
  rw[show zz.toNat=z by omega,List.getD_eq_getElem?_getD,List.getElem?_map,hxx q];rfl
 clear hxx kind_lt hcs he hzz hz1 hv
 unfold P0
 cbv
 repeat'
  (first
    |refine G.n' rfl ?_
    |(rw[heqS];(try rw[hnot]);split<;>((first|contradiction|(rename_i hq;(try simp only[Bool.not_eq_true',Bool.not_eq_false'] at hq);rw[hq])|(rename_i hq _;rw[hq])|skip);try cbv))
    |((refine G.c' (vdq ht (by assumption) (nb rfl) (fun hs=>?_) (fun hs=>?_)))<;>(try cbv))
    |((refine G.c' (ja3 ht (by assumption) (nb rfl) (fun a z' r' hs hr'=>?_) (fun z' r' hs hr'=>?_)))<;>(try cbv))
    |((refine G.c' (yau ht (by assumption) (nb rfl) (fun hs=>?_) (fun hs=>?_)))<;>(try cbv))
    |((refine G.c' (zbf ht (by assumption) (nb rfl) (fun hs=>?_) (fun hs=>?_)))<;>(try cbv))
    |((refine G.c' (vag ht (by assumption) (by assumption) (nb rfl) (fun q=>hf (by simp only[primary,Rs.bind,Ps.need,Ps.take,Ps.needs,bl,Ps.named,Ps.node, *];try exact rfl)) (fun op s k l cl z' r' hs hcl hr'=>?_) (fun z' r' hs hr'=>?_)))<;>(try cbv))
    |((refine G.c' (zc9 ht (by assumption) (by decide) (by assumption) (nb rfl) rfl (nb rfl) (fun q=>hf (by simp only[primary,Rs.bind,Ps.need,Ps.take,Ps.needs,bl,Ps.named,Ps.node, *];try exact rfl)) (fun op s k l cl z' r' hs hcl hr'=>?_) (fun z' r' hs hr'=>?_)))<;>(try cbv))
    |((refine G.c' (za7 ht (by assumption) (by assumption) (nb rfl) (fun q=>hf (by simp only[primary,Rs.bind,Ps.need,Ps.take,Ps.needs,bl,Ps.named,Ps.node, *];try exact rfl)) (fun l cl z' r' hs hcl hr'=>?_) (fun z' r' hs hr'=>?_)))<;>(try cbv))
    |((refine G.c' (yc8 ht (htotal _) (by decide) (by decide) (by decide) (by assumption) (nb rfl) rfl (nb rfl) rfl (nb rfl) (fun q=>hf (by simp only[primary,Rs.bind,Ps.need,Ps.take,Ps.needs,bl,Ps.named,Ps.node, *];try exact rfl)) (fun op s k l cl z' r' hs hcl hr'=>?_) (fun z' r' hs hr'=>?_)))<;>(try cbv))
    |((refine G.c' (jai ht [_,_,_,_,_,_,_,_,_,_,_,_] (by decide) (by assumption) (nb rfl) (fun a z' r' hs hr'=>?_)))<;>(try cbv))
    |((refine G.c' (hcases _ _ 0 _ (by assumption) (nb rfl) (fun q=>hf (by simp only[primary,Rs.bind,Ps.need,Ps.take,Ps.needs,bl,Ps.named,Ps.node, *];try exact rfl)) (fun op s k l cl z' r' hs hcl hr'=>?_) (fun z' r' hs hr'=>?_)))<;>(try cbv))
    |((refine G.c' (ybl ht _ _ 0 _ (by assumption) (nb rfl) (fun q=>hf (by simp only[primary,Rs.bind,Ps.need,Ps.take,Ps.needs,bl,Ps.named,Ps.node, *];try exact rfl)) (fun op s k l cl z' r' hs hcl hr'=>?_) (fun z' r' hs hr'=>?_)))<;>(try cbv))
    |((refine G.c' (vk [] (by subst_vars;exact rfl) (by first|exact .inl rfl|exact .inr rfl) rfl (fun cl hcl=>?_)))<;>(try cbv))
    |((refine G.c' (jg [] (by subst_vars;exact rfl) (by first|exact .inl rfl|exact .inr rfl) rfl (fun cl hcl=>?_)))<;>(try cbv))
    |((refine G.c' (jg [.mk _ _ _ _] (by subst_vars;exact rfl) (by first|exact .inl rfl|exact .inr rfl) rfl (fun cl hcl=>?_)))<;>(try cbv))
    |((refine G.c' (jg _ (by subst_vars;exact rfl) (by first|exact .inl rfl|exact .inr rfl) rfl (fun cl hcl=>?_)))<;>(try cbv))
    |(((rw[hadd1,hsub1];refine G.n' (hinT (by assumption)) ?_;rw[helT (by assumption)]))<;>(try cbv))
    |(((have hq41:=he41 (by assumption);subst hq41;subst h1))<;>(try cbv))
    |fail)
 all_goals first
  |exact hbad _ _ (by simp only[primary,Rs.bind,Ps.need,Ps.take,Ps.needs,bl,Ps.named,Ps.node, *];try exact rfl) (by assumption) (nb rfl)
  |exact hfin _ _ _ _ _ _ _ _ _ (by simp only[primary,Rs.bind,Ps.need,Ps.take,Ps.needs,bl,Ps.named,Ps.node, *];try exact rfl) (by subst_vars;exact rfl) (by first|exact .inl rfl|exact .inr rfl) (by assumption) (nb rfl)
  |exact hfin _ _ _ _ _ _ _ _ _ (by simp only[primary,Rs.bind,Ps.need,Ps.take,Ps.needs,bl,Ps.named,Ps.node, *];try exact rfl) (by subst_vars;exact rfl) (by first|exact .inl rfl|exact .inr rfl) (hat1 (by assumption)) (nb rfl)
end Go.AM.Ps
