/- The parser's functions: tests. -/
import Derived.Test.YteomefghofhkiaaGreatDoorRdC
set_option maxRecDepth 100000
set_option maxHeartbeats 40000000
set_option linter.unusedVariables false
set_option linter.unusedSimpArgs false
namespace Go.AM.Ps
open Go.Proofs W
theorem ya8{α:Type}{t:List Tk}{part:Nat→Rs α}:∀(n:Nat) (acc:List α) (z:Nat) (l:List α) (z':Nat),listMore t part n acc z= .ok l z'→acc.length≤l.length∧l.length≤acc.length+n
 | 0,acc,z,l,z',h=>by cases h
 |n+1,acc,z,l,z',h=>by
  have hlm:listMore t part (n+1) acc z=match sees t z g_comma with
   |true=>(part (z+1)).bind fun x z=>listMore t part n (acc++[x]) z
   |false=> .ok acc z:=rfl
  rw[hlm] at h
  split at h
  ·cases hp:part (z+1) with
   |fuel=>rw[hp] at h;cases h
   |wrong=>rw[hp] at h;cases h
   |ok x z1=>
    rw[hp] at h
    have:=ya8 n (acc++[x]) z1 l z' h
    simp at this
    omega
  ·cases h;omega
theorem xbs{α:Type}{t:List Tk}{part:Nat→Rs α}{n:Nat}{z:Nat}{l:List α}{z':Nat}(h:vf t n part z= .ok l z'):1≤l.length∧l.length≤n+1:=by
 unfold vf at h
 cases hp:part z with
 |fuel=>rw[hp] at h;cases h
 |wrong=>rw[hp] at h;cases h
 |ok x z1=>
  rw[hp] at h
  have:=ya8 n [x] z1 l z' h
  simp at this
  omega
theorem zb2{α:Type}{t:List Tk}{part:Nat→Rs α}{z:Nat}{x:α}{z':Nat}(h:within t part z= .ok x z'):∃ z1 z2,part z1= .ok x z2:=by
 unfold within at h
 cases h1:Ps.need t g_par z with
 |fuel=>rw[h1] at h;cases h
 |wrong=>rw[h1] at h;cases h
 |ok u z1=>
  rw[h1] at h
  simp only[Rs.bind] at h
  cases h2:part z1 with
  |fuel=>rw[h2] at h;cases h
  |wrong=>rw[h2] at h;cases h
  |ok y z2=>
   rw[h2] at h
   simp only[] at h
   split at h
   ·cases h
   ·cases h
   ·cases h;exact⟨z1,z2,h2⟩
theorem exprs_len{t:List Tk}{n z:Nat}{l:List Nd}{z':Nat}(h:exprs qa t n z= .ok l z'):1≤l.length∧l.length≤n+1:=by
 cases n with
 |zero=>rw[exprs] at h;cases h
 |succ n=>
  rw[exprs] at h
  have:=xbs h
  omega
theorem jd7{t:List Tk}(ht:Toks t)(n:Nat)(hn:n≤1000000000)(hb1:Fn t 116 [.int .i64 1] (binds qa t n 1))(z:Nat)(r:List AV)(h:At t z r)(hf:expr qa t (n+1) z= .fuel→False) :
 jb Tryz.prog (Pr.tab real) 83 [.ptr 0 0] (P0 r) (Post t (expr qa t (n+1) z) Nd.av):=by
 have hfin:=fun op s k e cs m l z' S'=>vac t (expr qa t (n+1) z) op s k e cs m l z' S'
 have hbad:=fun z' S'=>qm t (expr qa t (n+1) z) Nd.av z' S'
 generalize Post t (expr qa t (n+1) z) Nd.av=K0 at hfin hbad ⊢
 apply ja (un:=0) Pr.tabOk Pr.mixed Ps.fn83 (nb rfl)
 apply qb (mk:=Pr.tab)
 intro fail need _ _ _ _ _ _ _ _ _ eqS _ _ _ _ _ _ _ _ _ _ _ _ _ not _ _ _ G
 have heqS:=G.eqS2
 have hnot:=G.not2
 unfold P0
 cbv
 repeat'
  (first
    |((refine G.c' (hb1 _ _ 0 _ (by assumption) (nb rfl) (fun q=>hf (by simp only[expr,Rs.bind,Ps.need,Ps.take,Ps.needs,bl, *];try exact rfl)) (fun op s k l cl z' r' hs hcl hr'=>?_) (fun z' r' hs hr'=>?_)))<;>(try cbv))
    |fail)
 all_goals first
  |exact hbad _ _ (by simp only[expr,Rs.bind,Ps.need,Ps.take,Ps.needs,bl, *];try exact rfl) (by assumption) (nb rfl)
  |exact hfin _ _ _ _ _ _ _ _ _ (by simp only[expr,Rs.bind,Ps.need,Ps.take,Ps.needs,bl, *];try exact rfl) (by subst_vars;exact rfl) (by first|exact .inl rfl|exact .inr rfl) (by assumption) (nb rfl)
theorem zdo{t:List Tk}(ht:Toks t)(n:Nat)(hn:n≤1000000000)(hexpr:Fn t 83 [] (expr qa t n))(z:Nat)(r:List AV)(h:At t z r)(hf:exprs qa t (n+1) z= .fuel→False) :
 jb Tryz.prog (Pr.tab real) 82 [.ptr 0 0] (P0 r) (Post t (exprs qa t (n+1) z) lav):=by
 have hfin:=fun e cs m l z' S'=>finL t (exprs qa t (n+1) z) e cs m l z' S'
 have hbad:=fun z' S'=>qm t (exprs qa t (n+1) z) lav z' S'
 generalize Post t (exprs qa t (n+1) z) lav=K0 at hfin hbad ⊢
 apply ja (un:=0) Pr.tabOk Pr.mixed Ps.fn82 (nb rfl)
 apply qb (mk:=Pr.tab)
 intro fail need _ _ _ _ _ _ _ _ _ eqS _ _ _ _ _ _ _ _ _ _ _ _ _ not _ _ _ G
 have heqS:=G.eqS2
 have hnot:=G.not2
 unfold P0
 cbv
 repeat'
  (first
    |((refine G.c' (zay ht (by assumption) (by assumption) (by assumption) (nb rfl) (fun q=>hf (by simp only[exprs,Rs.bind,Ps.need,Ps.take,Ps.needs,bl, *];try exact rfl)) (fun l cl z' r' hs hcl hr'=>?_) (fun z' r' hs hr'=>?_)))<;>(try cbv))
    |fail)
 all_goals first
  |exact hbad _ _ (by simp only[exprs,Rs.bind,Ps.need,Ps.take,Ps.needs,bl, *];try exact rfl) (by assumption) (nb rfl)
  |exact hfin _ _ _ _ _ _ (by simp only[exprs,Rs.bind,Ps.need,Ps.take,Ps.needs,bl, *];try exact rfl) (by subst_vars;exact rfl) (by first|exact .inl rfl|exact .inr rfl) (by assumption) (nb rfl)
theorem qb9{t:List Tk}(ht:Toks t)(n:Nat)(hn:n≤1000000000)(hexpr:Fn t 83 [] (expr qa t n))(z:Nat)(r:List AV)(h:At t z r)(hf:primCast qa t (n+1) z= .fuel→False) :
 jb Tryz.prog (Pr.tab real) 159 [.ptr 1 0] (P2 r) (jad t 2 (primCast qa t (n+1) z) Nd.av):=by
 have hfin:=fun op s k e cs m l z' S'=>qbt t 2 (primCast qa t (n+1) z) op s k e cs m l z' S'
 have hbad:=fun z' S'=>qak t 2 (primCast qa t (n+1) z) Nd.av z' S'
 generalize jad t 2 (primCast qa t (n+1) z) Nd.av=K0 at hfin hbad ⊢
 apply ja (un:=0) Pr.tabOk Pr.mixed Ps.fn159 (nb rfl)
 apply qb (mk:=Pr.tab)
 intro fail need _ _ _ _ _ _ _ _ _ eqS _ _ _ _ _ _ _ _ _ _ _ _ _ not _ _ _ G
 have heqS:=G.eqS2
 have hnot:=G.not2
 unfold P2
 cbv
 repeat'
  (first
    |refine G.n' rfl ?_
    |refine G.s' rfl ?_
    |((refine G.c' (hexpr _ _ 0 _ (by assumption) (nb rfl) (fun q=>hf (by simp only[primCast,Rs.bind,Ps.need,Ps.take,Ps.needs,bl, *];try exact rfl)) (fun op s k l cl z' r' hs hcl hr'=>?_) (fun z' r' hs hr'=>?_)))<;>(try cbv))
    |((refine G.c' (vl ht (by assumption) (nb rfl) (fun r' hs hr'=>?_) (fun z' r' hs hr'=>?_)))<;>(try cbv))
    |((refine G.c' (xcx ht _ _ 0 _ (by assumption) (nb rfl) (fun q=>hf (by simp only[primCast,Rs.bind,Ps.need,Ps.take,Ps.needs,bl, *];try exact rfl)) (fun op s k l cl z' r' hs hcl hr'=>?_) (fun z' r' hs hr'=>?_)))<;>(try cbv))
    |((refine G.c' (jg [.mk _ _ _ _,.mk _ _ _ _] (by subst_vars;exact rfl) (by first|exact .inl rfl|exact .inr rfl) rfl (fun cl hcl=>?_)))<;>(try cbv))
    |fail)
 all_goals first
  |exact hbad _ _ (by simp only[primCast,Rs.bind,Ps.need,Ps.take,Ps.needs,bl, *];try exact rfl) (by assumption) (nb rfl) rfl
  |exact hfin _ _ _ _ _ _ _ _ _ (by simp only[primCast,Rs.bind,Ps.need,Ps.take,Ps.needs,bl, *];try exact rfl) (by subst_vars;exact rfl) (by first|exact .inl rfl|exact .inr rfl) (by assumption) (nb rfl) rfl
theorem xbn{t:List Tk}(ht:Toks t)(n:Nat)(hn:n≤1000000000)(hexpr:Fn t 83 [] (expr qa t n))(z:Nat)(r:List AV)(h:At t z r)(hf:primNullif qa t (n+1) z= .fuel→False) :
 jb Tryz.prog (Pr.tab real) 160 [.ptr 1 0] (P2 r) (jad t 2 (primNullif qa t (n+1) z) Nd.av):=by
 have hfin:=fun op s k e cs m l z' S'=>qbt t 2 (primNullif qa t (n+1) z) op s k e cs m l z' S'
 have hbad:=fun z' S'=>qak t 2 (primNullif qa t (n+1) z) Nd.av z' S'
 generalize jad t 2 (primNullif qa t (n+1) z) Nd.av=K0 at hfin hbad ⊢
 apply ja (un:=0) Pr.tabOk Pr.mixed Ps.fn160 (nb rfl)
 apply qb (mk:=Pr.tab)
 intro fail need _ _ _ _ _ _ _ _ _ eqS _ _ _ _ _ _ _ _ _ _ _ _ _ not _ _ _ G
 have heqS:=G.eqS2
 have hnot:=G.not2
 unfold P2
 cbv
 repeat'
  (first
    |refine G.n' rfl ?_
    |refine G.s' rfl ?_
    |((refine G.c' (hexpr _ _ 0 _ (by assumption) (nb rfl) (fun q=>hf (by simp only[primNullif,Rs.bind,Ps.need,Ps.take,Ps.needs,bl, *];try exact rfl)) (fun op s k l cl z' r' hs hcl hr'=>?_) (fun z' r' hs hr'=>?_)))<;>(try cbv))
    |((refine G.c' (vl ht (by assumption) (nb rfl) (fun r' hs hr'=>?_) (fun z' r' hs hr'=>?_)))<;>(try cbv))
    |((refine G.c' (jg [.mk _ _ _ _,.mk _ _ _ _] (by subst_vars;exact rfl) (by first|exact .inl rfl|exact .inr rfl) rfl (fun cl hcl=>?_)))<;>(try cbv))
    |fail)
 all_goals first
  |exact hbad _ _ (by simp only[primNullif,Rs.bind,Ps.need,Ps.take,Ps.needs,bl, *];try exact rfl) (by assumption) (nb rfl) rfl
  |exact hfin _ _ _ _ _ _ _ _ _ (by simp only[primNullif,Rs.bind,Ps.need,Ps.take,Ps.needs,bl, *];try exact rfl) (by subst_vars;exact rfl) (by first|exact .inl rfl|exact .inr rfl) (by assumption) (nb rfl) rfl
theorem qd6{t:List Tk}(ht:Toks t)(n:Nat)(hn:n≤1000000000)(hb5:Fn t 116 [.int .i64 5] (binds qa t n 5))(hbody:Fn t 73 [] (body qa t n))(hexprs:FnL t 82 [] (exprs qa t n))(z:Nat)(r:List AV)(h:At t z r)(hf:test qa t (n+1) z= .fuel→False) :
 jb Tryz.prog (Pr.tab real) 150 [.ptr 0 0] (P0 r) (Post t (test qa t (n+1) z) Nd.av):=by
 have hfin:=fun op s k e cs m l z' S'=>vac t (test qa t (n+1) z) op s k e cs m l z' S'
 have hbad:=fun z' S'=>qm t (test qa t (n+1) z) Nd.av z' S'
 generalize Post t (test qa t (n+1) z) Nd.av=K0 at hfin hbad ⊢
 apply ja (un:=0) Pr.tabOk Pr.mixed Ps.fn150 (nb rfl)
 apply qb (mk:=Pr.tab)
 intro fail need _ _ _ len _ _ _ cmp _ eqS _ _ app _ _ _ _ _ _ _ _ _ room not _ _ _ G
 have heqS:=G.eqS2
 have hnot:=G.not2
 have hlenE:∀ {l cl z1 z2},within t (exprs qa t n) z1= .ok l z2→cl=avL l→1≤cl.length∧cl.length≤1000000001:=by
  intro l cl z1 z2 hq hcl
  obtain⟨a,b,hab⟩:=zb2 hq
  have:=exprs_len hab
  rw[hcl,xd,List.length_map]
  omega
 have hroomE:∀ {l cl z1 z2 x},within t (exprs qa t n) z1= .ok l z2→cl=avL l→room (len (app [x] cl)) 64=true:=by
  intro l cl z1 z2 x hq hcl
  have:=hlenE hq hcl
  rw[G.app',G.room',G.len'];simp;omega
 have hposE:∀ {l cl z1 z2},within t (exprs qa t n) z1= .ok l z2→cl=avL l→cmp BinOp.lss 0 (len cl)=true:=by
  intro l cl z1 z2 hq hcl
  have:=hlenE hq hcl
  rw[G.cmp',G.len'];simp[vb];omega
 have happE:∀ x cl,app [x] cl=x::cl:=fun x cl=>by rw[G.app'];rfl
 unfold P0
 cbv
 repeat'
  (first
    |refine G.n' rfl ?_
    |refine G.s' rfl ?_
    |(rw[heqS];(try rw[hnot]);split<;>((first|contradiction|(rename_i hq;(try simp only[Bool.not_eq_true',Bool.not_eq_false'] at hq);rw[hq])|(rename_i hq _;rw[hq])|skip);try cbv))
    |((refine G.c' (hb5 _ _ 0 _ (by assumption) (nb rfl) (fun q=>hf (by simp only[test,Rs.bind,Ps.need,Ps.take,Ps.needs,bl,Ps.named,Ps.node, *];try exact rfl)) (fun op s k l cl z' r' hs hcl hr'=>?_) (fun z' r' hs hr'=>?_)))<;>(try cbv))
    |((refine G.c' (jai ht [_,_,_,_,_,_] (by decide) (by assumption) (nb rfl) (fun a z' r' hs hr'=>?_)))<;>(try cbv))
    |((refine G.c' (jai ht [_,_,_] (by decide) (by assumption) (nb rfl) (fun a z' r' hs hr'=>?_)))<;>(try cbv))
    |((refine G.c' (jai ht [_,_,_,_] (by decide) (by assumption) (nb rfl) (fun a z' r' hs hr'=>?_)))<;>(try cbv))
    |((refine G.c' (vag ht (by assumption) (by assumption) (nb rfl) (fun q=>hf (by simp only[test,Rs.bind,Ps.need,Ps.take,Ps.needs,bl,Ps.named,Ps.node, *];try exact rfl)) (fun op s k l cl z' r' hs hcl hr'=>?_) (fun z' r' hs hr'=>?_)))<;>(try cbv))
    |((refine G.c' (za7 ht (by assumption) (by assumption) (nb rfl) (fun q=>hf (by simp only[test,Rs.bind,Ps.need,Ps.take,Ps.needs,bl,Ps.named,Ps.node, *];try exact rfl)) (fun l cl z' r' hs hcl hr'=>?_) (fun z' r' hs hr'=>?_)))<;>(try cbv))
    |((refine G.c' (qk ht (by assumption) (nb rfl) (fun r' hs hr'=>?_) (fun r' hs hr'=>?_)))<;>(try cbv))
    |((refine G.c' (vl ht (by assumption) (nb rfl) (fun r' hs hr'=>?_) (fun z' r' hs hr'=>?_)))<;>(try cbv))
    |((refine G.c' (yau ht (by assumption) (nb rfl) (fun hs=>?_) (fun hs=>?_)))<;>(try cbv))
    |((refine G.c' (vk [.mk _ _ _ _] (by subst_vars;exact rfl) (by first|exact .inl rfl|exact .inr rfl) rfl (fun cl hcl=>?_)))<;>(try cbv))
    |((refine G.c' (vk [.mk _ _ _ _,.mk _ _ _ _] (by subst_vars;exact rfl) (by first|exact .inl rfl|exact .inr rfl) rfl (fun cl hcl=>?_)))<;>(try cbv))
    |((refine G.c' (jg [.mk _ _ _ _,.mk _ _ _ _] (by subst_vars;exact rfl) (by first|exact .inl rfl|exact .inr rfl) rfl (fun cl hcl=>?_)))<;>(try cbv))
    |((refine G.c' (jg [.mk _ _ _ _,.mk _ _ _ _,.mk _ _ _ _] (by subst_vars;exact rfl) (by first|exact .inl rfl|exact .inr rfl) rfl (fun cl hcl=>?_)))<;>(try cbv))
    |((refine G.c' (jg (.mk _ _ _ _::_) (by subst_vars;exact rfl) (by first|exact .inl rfl|exact .inr rfl) rfl (fun cl hcl=>?_)))<;>(try cbv))
    |((refine G.c' (at_turned _ _ (by first|assumption|(subst_vars;exact rfl)) (fun op s k l cl hs hcl=>?_)))<;>(try cbv))
    |(((refine G.n' (hroomE (by assumption) (by assumption)) (G.n' (hposE (by assumption) (by assumption)) ?_);rw[happE]))<;>(try cbv))
    |fail)
 all_goals first
  |exact hbad _ _ (by simp only[test,Rs.bind,Ps.need,Ps.take,Ps.needs,bl,Ps.named,Ps.node, *];try exact rfl) (by assumption) (nb rfl)
  |exact hfin _ _ _ _ _ _ _ _ _ (by simp only[test,Rs.bind,Ps.need,Ps.take,Ps.needs,bl,Ps.named,Ps.node, *];try exact rfl) (by subst_vars;exact rfl) (by first|exact .inl rfl|exact .inr rfl) (by assumption) (nb rfl)
end Go.AM.Ps
