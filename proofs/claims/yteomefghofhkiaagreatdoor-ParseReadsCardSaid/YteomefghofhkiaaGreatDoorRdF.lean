/- The parser's functions: cases, joins, sets of queries. -/
import Derived.Test.YteomefghofhkiaaGreatDoorRdE
set_option maxRecDepth 100000
set_option maxHeartbeats 40000000
set_option linter.unusedVariables false
set_option linter.unusedSimpArgs false
namespace Go.AM.Ps
open Go.Proofs W
theorem Ps.fn133:FnOk Tryz.prog 133 (fni Tryz.f133 Pr.a133):=⟨⟨Tryz.f133,Tryz.func133,rfl,rfl,rfl,by kernel_rfl⟩,by kernel_rfl⟩
theorem Ps.fn134:FnOk Tryz.prog 134 (fni Tryz.f134 Pr.a134):=⟨⟨Tryz.f134,Tryz.func134,rfl,rfl,rfl,by kernel_rfl⟩,by kernel_rfl⟩
theorem Ps.fn148:FnOk Tryz.prog 148 (fni Tryz.f148 Pr.a148):=⟨⟨Tryz.f148,Tryz.func148,rfl,rfl,rfl,by kernel_rfl⟩,by kernel_rfl⟩
theorem star2{t:List Tk}(ht:Toks t){z z':Nat}{a:List UInt8}{r':List AV}(hn:name qa t z= .ok a z')(hs:sees t (z+2) g_star=true)(h:At t z' r') :
 ∃(y y2:Int),r'=[tokV t,.int .i64 y]∧y2=y+2∧0≤y∧y≤1000∧At t (z'+2) [tokV t,.int .i64 y2]:=by
 have hz:z'=z+1:=by
  unfold name at hn
  split at hn
  ·cases hn;rfl
  ·cases hn
 have hlt:z+2<t.length:=by
  unfold sees at hs
  rcases Nat.lt_or_ge (z+2) t.length with w|w
  ·exact w
  ·rw[List.getElem?_eq_none w] at hs;cases hs
 have:=ht.len
 exact⟨z',z'+2,h.1,rfl,by omega,by omega,⟨rfl,by omega⟩⟩
theorem zd7{t:List Tk}(ht:Toks t)(n:Nat)(hn:n≤1000000000)(hexpr:Fn t 83 [] (expr qa t n))(z:Nat)(r:List AV)(h:At t z r)(hf:item qa t (n+1) z= .fuel→False) :
 jb Tryz.prog (Pr.tab real) 133 [.ptr 0 0] (P0 r) (Post t (item qa t (n+1) z) Nd.av):=by
 have hfin:=fun op s k e cs m l z' S'=>vac t (item qa t (n+1) z) op s k e cs m l z' S'
 have hbad:=fun z' S'=>qm t (item qa t (n+1) z) Nd.av z' S'
 generalize Post t (item qa t (n+1) z) Nd.av=K0 at hfin hbad ⊢
 apply ja (un:=0) Pr.tabOk Pr.mixed Ps.fn133 (nb rfl)
 apply qb (mk:=Pr.tab)
 intro fail need _ _ _ _ _ arith _ _ _ eqS _ _ _ _ _ _ _ _ _ _ _ _ _ not _ _ _ G
 have heqS:=G.eqS2
 have hnot:=G.not2
 have hadd2':∀ y y2:Int,y2=y+2→0≤y→y≤1000→arith BinOp.add IntKind.i64 y 2=y2:=fun y y2 a b c=>by rw[G.arith',a];exact wrap_i64 _ (by omega) (by omega)
 unfold P0
 cbv
 repeat'
  (first
    |refine G.n' rfl ?_
    |refine G.s' rfl ?_
    |((refine G.c' (qk ht (by assumption) (nb rfl) (fun r' hs hr'=>?_) (fun r' hs hr'=>?_)))<;>(try cbv))
    |((refine G.c' (yct ht (by assumption) (nb rfl) (fun hs=>?_) (fun hs=>?_)))<;>(try cbv))
    |((refine G.c' (sees1 ht (by assumption) (nb rfl) (fun hs=>?_) (fun hs=>?_)))<;>(try cbv))
    |((refine G.c' (sees2 ht (by assumption) (nb rfl) (fun hs=>?_) (fun hs=>?_)))<;>(try cbv))
    |((refine G.c' (yy ht (by assumption) (nb rfl) (fun a z' r' hs hr'=>?_) (fun z' r' hs hr'=>?_)))<;>(try cbv))
    |((refine G.c' (hexpr _ _ 0 _ (by assumption) (nb rfl) (fun q=>hf (by simp only[item,Rs.bind,Ps.need,Ps.take,Ps.needs,bl,Ps.named,Ps.node, *];try exact rfl)) (fun op s k l cl z' r' hs hcl hr'=>?_) (fun z' r' hs hr'=>?_)))<;>(try cbv))
    |((refine G.c' (ycx ht (by assumption) (nb rfl) (fun a z' r' hs hr'=>?_) (fun z' r' hs hr'=>?_)))<;>(try cbv))
    |((refine G.c' (jg [] (by subst_vars;exact rfl) (by first|exact .inl rfl|exact .inr rfl) rfl (fun cl hcl=>?_)))<;>(try cbv))
    |((refine G.c' (vk [] (by subst_vars;exact rfl) (by first|exact .inl rfl|exact .inr rfl) rfl (fun cl hcl=>?_)))<;>(try cbv))
    |((refine G.c' (vk [.mk _ _ _ _] (by subst_vars;exact rfl) (by first|exact .inl rfl|exact .inr rfl) rfl (fun cl hcl=>?_)))<;>(try cbv))
    |(((obtain⟨y,y2,hr1,hy2,hy0,hy1,hat2⟩:=star2 ht (by assumption) (by assumption) (by assumption);generalize tokV t=tv at *;subst hr1;have hadd2:=hadd2' y y2 hy2 hy0 hy1;clear hy2 hy0 hy1;cbv;refine G.n' rfl ?_;rw[hadd2]))<;>(try cbv))
    |fail)
 all_goals first
  |exact hbad _ _ (by simp only[item,Rs.bind,Ps.need,Ps.take,Ps.needs,bl,Ps.named,Ps.node, *];try exact rfl) (by assumption) (nb rfl)
  |exact hfin _ _ _ _ _ _ _ _ _ (by simp only[item,Rs.bind,Ps.need,Ps.take,Ps.needs,bl,Ps.named,Ps.node, *];try exact rfl) (by subst_vars;exact rfl) (by first|exact .inl rfl|exact .inr rfl) (by assumption) (nb rfl)
theorem jc5{t:List Tk}(ht:Toks t)(n:Nat)(hn:n≤1000000000)(hbody:Fn t 73 [] (body qa t n))(htable:Fn t 134 [] (table qa t n))(z:Nat)(r:List AV)(h:At t z r)(hf:joined qa t (n+1) z= .fuel→False) :
 jb Tryz.prog (Pr.tab real) 148 [.ptr 0 0] (P0 r) (Post t (joined qa t (n+1) z) Nd.av):=by
 have hfin:=fun op s k e cs m l z' S'=>vac t (joined qa t (n+1) z) op s k e cs m l z' S'
 have hbad:=fun z' S'=>qm t (joined qa t (n+1) z) Nd.av z' S'
 generalize Post t (joined qa t (n+1) z) Nd.av=K0 at hfin hbad ⊢
 apply ja (un:=0) Pr.tabOk Pr.mixed Ps.fn148 (nb rfl)
 apply qb (mk:=Pr.tab)
 intro fail need _ _ _ _ _ _ _ _ _ eqS _ _ _ _ _ _ _ _ _ _ _ _ _ not _ _ _ G
 have heqS:=G.eqS2
 have hnot:=G.not2
 unfold P0
 cbv
 repeat'
  (first
    |refine G.n' rfl ?_
    |refine G.s' rfl ?_
    |((refine G.c' (yau ht (by assumption) (nb rfl) (fun hs=>?_) (fun hs=>?_)))<;>(try cbv))
    |((refine G.c' (vag ht (by assumption) (by assumption) (nb rfl) (fun q=>hf (by simp only[joined,Rs.bind,Ps.need,Ps.take,Ps.needs,bl,Ps.named,Ps.node, *];try exact rfl)) (fun op s k l cl z' r' hs hcl hr'=>?_) (fun z' r' hs hr'=>?_)))<;>(try cbv))
    |((refine G.c' (qk ht (by assumption) (nb rfl) (fun r' hs hr'=>?_) (fun r' hs hr'=>?_)))<;>(try cbv))
    |((refine G.c' (yy ht (by assumption) (nb rfl) (fun a z' r' hs hr'=>?_) (fun z' r' hs hr'=>?_)))<;>(try cbv))
    |((refine G.c' (zbf ht (by assumption) (nb rfl) (fun hs=>?_) (fun hs=>?_)))<;>(try cbv))
    |((refine G.c' (ycx ht (by assumption) (nb rfl) (fun a z' r' hs hr'=>?_) (fun z' r' hs hr'=>?_)))<;>(try cbv))
    |((refine G.c' (vk [] (by subst_vars;exact rfl) (by first|exact .inl rfl|exact .inr rfl) rfl (fun cl hcl=>?_)))<;>(try cbv))
    |((refine G.c' (vk [.mk _ _ _ _] (by subst_vars;exact rfl) (by first|exact .inl rfl|exact .inr rfl) rfl (fun cl hcl=>?_)))<;>(try cbv))
    |fail)
 all_goals first
  |exact hbad _ _ (by simp only[joined,Rs.bind,Ps.need,Ps.take,Ps.needs,bl,Ps.named,Ps.node, *];try exact rfl) (by assumption) (nb rfl)
  |exact hfin _ _ _ _ _ _ _ _ _ (by simp only[joined,Rs.bind,Ps.need,Ps.take,Ps.needs,bl,Ps.named,Ps.node, *];try exact rfl) (by subst_vars;exact rfl) (by first|exact .inl rfl|exact .inr rfl) (by assumption) (nb rfl)
end Go.AM.Ps
namespace Go.AM.Ps
open Go.Proofs W
noncomputable def c134:Code:=(fni Tryz.f134 Pr.a134).loop 0
theorem Ps.c134:qf 47 Pr.a134 c134=true:=by kernel_rfl
theorem yeh(K:Ex→Env→St→Prop)(env:Env)(S:St)(h:xg (pAlg Tryz.prog (Pr.tab real) 47) (Pr.tab real) Pr.a134 0 c134 (andThen (za Tryz.prog (Pr.tab real) 47 c134 K) K) env S):za Tryz.prog (Pr.tab real) 47 c134 K env S:=
 vc Pr.tabOk Pr.mixed Ps.c134 h
theorem za.front3{P:Program}{T:Tab}{N:Nat}{c:Code}{K:Ex→Env→St→Prop}{env:Env}{S:St}(h:za P T N c K env ⟨(0,S.row 0)::(1,S.row 1)::(2,S.row 2)::S.objs,S.next,S.caps⟩):za P T N c K env S:=by
 refine za.ext (S':=⟨(0,S.row 0)::(1,S.row 1)::(2,S.row 2)::S.objs,S.next,S.caps⟩) ?_ rfl rfl h
 intro o
 have h2:=qi S 2 o
 have h1:=qi ⟨(2,S.row 2)::S.objs,S.next,S.caps⟩ 1 o
 have h0:=qi ⟨(1,S.row 1)::(2,S.row 2)::S.objs,S.next,S.caps⟩ 0 o
 have e1:St.row ⟨(2,S.row 2)::S.objs,S.next,S.caps⟩ 1=S.row 1:=qi S 2 1
 have e0:St.row ⟨(1,S.row 1)::(2,S.row 2)::S.objs,S.next,S.caps⟩ 0=S.row 0:=by
  have a:=qi ⟨(2,S.row 2)::S.objs,S.next,S.caps⟩ 1 0
  rw[e1] at a
  exact a.trans (qi S 2 0)
 rw[e0] at h0
 rw[e1] at h1
 exact h0.trans (h1.trans h2)
theorem table_loop{t:List Tk}(ht:Toks t){jn ex:Nat→Rs Nd}(hjn:Fn t 148 [] jn)(hex:Fn t 83 [] ex)(K:Ex→Env→St→Prop):∀(n:Nat) (op s:List UInt8) (k:Int) (l:List Nd) (cl:List AV) (z:Nat) (r:List AV) (S:St),cl=avL l→At t z r →
      S.row 0=r→S.row 1=zeroN→S.row 2=[.str op,.str s,.int .i64 k,.slice 24 cl .no]→(∃ m,S.next=m+3)→S.caps=[]→(yg t jn ex n (.mk op s k l) z= .fuel→False) →
      (∀ op' s' k' l' cl' z' r' S',yg t jn ex n (.mk op s k l) z= .ok (.mk op' s' k' l') z'→cl'=avL l'→At t z' r'→S'.row 0=r'→S'.row 1=[.str op',.str s',.int .i64 k',.slice 24 cl' .no]→1≤S'.next→K .ret [(2,.ptr 1 0)] S') →
      (∀ z' r' S',yg t jn ex n (.mk op s k l) z= .wrong→At t z' r'→S'.row 0=r'→1≤S'.next→K (.panic vg) [] S') →
      za Tryz.prog (Pr.tab real) 47 c134 (Less K) [(0,.ptr 0 0),(2,.ptr 1 0),(3,.ptr 2 0)] S:=by
 intro n
 induction n with
 |zero=>intro op s k l cl z r S _ _ _ _ _ _ _ hf;exact(hf rfl).elim
 |succ n ih=>
  intro op s k l cl z r S hcl h hr0 hr1 hr2 hnx hcaps hf hK1 hK2
  obtain⟨m,hm⟩:=hnx
  refine za.front3 ?_
  rw[hr0,hr1,hr2,hm,hcaps]
  obtain⟨O,hO⟩:∃ O,S.objs=O:=⟨_,rfl⟩
  rw[hO]
  clear hr0 hr1 hr2 hm hcaps hO S
  have hret:∀ op' s' k' l' cl' z' r' env S',yg t jn ex (n+1) (.mk op s k l) z= .ok (.mk op' s' k' l') z'→cl'=avL l'→At t z' r'→qz [(2,.ptr 1 0)] env→S'.row 0=r'→S'.row 1=[.str op',.str s',.int .i64 k',.slice 24 cl' .no]→1≤S'.next→Less K .ret env S':=
   fun op' s' k' l' cl' z' r' env S' a b c d e f g=>⟨_,d,hK1 op' s' k' l' cl' z' r' S' a b c e f g⟩
  have hbad:∀ z' r' env S',yg t jn ex (n+1) (.mk op s k l) z= .wrong→At t z' r'→S'.row 0=r'→1≤S'.next→Less K (.panic (.iface 47 (.agg []))) env S':=
   fun z' r' env S' a b c d=>⟨[],.nil _,hK2 z' r' S' a b c d⟩
  have hcont:∀ op' s' k' l' cl' z' r' env S',yg t jn ex (n+1) (.mk op s k l) z=yg t jn ex n (.mk op' s' k' l') z'→cl'=avL l'→At t z' r'→qz [(0,.ptr 0 0),(2,.ptr 1 0),(3,.ptr 2 0)] env→S'.row 0=r'→S'.row 1=zeroN→S'.row 2=[.str op',.str s',.int .i64 k',.slice 24 cl' .no]→(∃ m,S'.next=m+3)→S'.caps=[] →
   za Tryz.prog (Pr.tab real) 47 c134 (Less K) env S':=by
   intro op' s' k' l' cl' z' r' env S' a b c d e f g i j
   rw[a] at hf hK1 hK2
   exact za.weak d (ih op' s' k' l' cl' z' r' S' b c e f g i j hf hK1 hK2)
  clear ih hK1 hK2
  apply yeh
  apply xb (mk:=Pr.tab)
  intro fail need _ _ _ _ _ _ _ _ _ eqS _ _ _ _ _ _ _ _ _ _ _ _ _ not _ _ _ G
  have heqS:=G.eqS2
  have hnot:=G.not2
  have hnn:Nat.beq m m=true:=Nat.beq_refl m
  have hbb:Nat.ble m m=true:=Nat.ble_eq_true_of_le (Nat.le_refl m)
  cbv at hnn hbb
  generalize hL:za Tryz.prog (Pr.tab real) 47 c134 (Less K)=L at *
  generalize hK':Less K=K' at *
  unfold zeroN at *
  clear hL hK'
  cbv
  repeat'
   (first
     |refine G.n' rfl ?_
     |refine G.s' rfl ?_
     |(rw[hnn];(try cbv))
     |(rw[hbb];(try cbv))
     |(rw[heqS];(try rw[hnot]);split<;>((first|contradiction|(rename_i hq;(try simp only[Bool.not_eq_true',Bool.not_eq_false'] at hq);rw[hq])|(rename_i hq _;rw[hq])|skip);try cbv))
     |((refine G.c' (jai ht [_,_,_,_,_,_] (by decide) (by assumption) (nb rfl) (fun a z' r' hs hr'=>?_)))<;>(try cbv))
     |((refine G.c' (vl ht (by assumption) (nb rfl) (fun r' hs hr'=>?_) (fun z' r' hs hr'=>?_)))<;>(try cbv))
     |((refine G.c' (qk ht (by assumption) (nb rfl) (fun r' hs hr'=>?_) (fun r' hs hr'=>?_)))<;>(try cbv))
     |((refine G.c' (hjn _ _ 0 _ (by assumption) (nb rfl) (fun q=>hf (by simp only[yg,Rs.bind,Ps.need,Ps.take,Ps.needs,Ps.named,Ps.node,bl, *];try exact rfl)) (fun op s k l cl z' r' hs hcl hr'=>?_) (fun z' r' hs hr'=>?_)))<;>(try cbv))
     |((refine G.c' (hex _ _ 0 _ (by assumption) (nb rfl) (fun q=>hf (by simp only[yg,Rs.bind,Ps.need,Ps.take,Ps.needs,Ps.named,Ps.node,bl, *];try exact rfl)) (fun op s k l cl z' r' hs hcl hr'=>?_) (fun z' r' hs hr'=>?_)))<;>(try cbv))
     |((refine G.c' (jg [.mk _ _ _ _,.mk _ _ _ _] (by subst_vars;exact rfl) (by first|exact .inl rfl|exact .inr rfl) rfl (fun cl hcl=>?_)))<;>(try cbv))
     |((refine G.c' (jg [.mk _ _ _ _,.mk _ _ _ _,.mk _ _ _ _] (by subst_vars;exact rfl) (by first|exact .inl rfl|exact .inr rfl) rfl (fun cl hcl=>?_)))<;>(try cbv))
     |fail)
  all_goals first
   |exact hbad _ _ _ _ (by simp only[yg,Rs.bind,Ps.need,Ps.take,Ps.needs,Ps.named,Ps.node,bl, *];try exact rfl) (by assumption) rfl (nb rfl)
   |exact hret _ _ _ _ _ _ _ _ _ (by simp only[yg,Rs.bind,Ps.need,Ps.take,Ps.needs,Ps.named,Ps.node,bl, *];try exact rfl) (by subst_vars;exact rfl) (by assumption) (.cons rfl (.nil _)) rfl rfl (nb rfl)
   |exact hcont _ _ _ _ _ _ _ _ _ (by simp only[yg,Rs.bind,Ps.need,Ps.take,Ps.needs,Ps.named,Ps.node,bl, *];try exact rfl) (by subst_vars;exact rfl) (by assumption) (.cons rfl (.cons rfl (.cons rfl (.nil _)))) rfl rfl rfl ⟨_,rfl⟩ rfl
end Go.AM.Ps
namespace Go.AM.Ps
open Go.Proofs W
theorem ybb{A:Alg Prop}{X:Sg}{env:Env}{S:St}{K:Out→St→Prop}{a o:Nat}{v1 v2 v3 v4:AV}(he:env.get a= .ptr o 0)(hr:S.row o=[v1,v2,v3,v4])(hK:K (.ret (.agg [v1,v2,v3,v4])) S) :
 xret A (Pr.tab X) [.cell a 24] env S K:=by
 have hh:(Pr.tab X).has 24=true:=rfl
 have hs:(Pr.tab X).size 24=4:=rfl
 have hp:part (Pr.tab X) 24 [v1,v2,v3,v4] 0= .agg [v1,v2,v3,v4]:=rfl
 simp only[xret,yaz,qbr,hh,he,hr,hs,hp,lenN]
 exact hK
theorem ydm{t:List Tk}(ht:Toks t)(n:Nat)(hn:n≤1000000000)(hexpr:Fn t 83 [] (expr qa t n))(hjoined:Fn t 148 [] (joined qa t n))(z:Nat)(r:List AV)(h:At t z r)(hf:table qa t (n+1) z= .fuel→False) :
 jb Tryz.prog (Pr.tab real) 134 [.ptr 0 0] (P0 r) (Post t (table qa t (n+1) z) Nd.av):=by
 have hfin:=fun op s k e cs m l z' S'=>vac t (table qa t (n+1) z) op s k e cs m l z' S'
 have hbad:=fun z' S'=>qm t (table qa t (n+1) z) Nd.av z' S'
 generalize Post t (table qa t (n+1) z) Nd.av=K0 at hfin hbad ⊢
 apply ja (un:=0) Pr.tabOk Pr.mixed Ps.fn134 (nb rfl)
 apply qb (mk:=Pr.tab)
 intro fail need _ _ _ _ _ _ _ _ _ eqS _ _ _ _ _ _ _ _ _ _ _ _ _ not _ _ _ G
 have heqS:=G.eqS2
 have hnot:=G.not2
 unfold P0
 cbv
 repeat'
  (first
    |((refine G.c' (hjoined _ _ 0 _ (by assumption) (nb rfl) (fun q=>hf (by simp only[table,Rs.bind,Ps.need,Ps.take,Ps.needs,bl,Ps.named,Ps.node, *];try exact rfl)) (fun op s k l cl z' r' hs hcl hr'=>?_) (fun z' r' hs hr'=>?_)))<;>(try cbv))
    |(((refine G.l' ?_;change za Tryz.prog (Pr.tab real) 47 c134 _ _ _;refine za.relax (za.weak (.cons rfl (.cons rfl (.cons rfl (.nil _)))) (table_loop ht hjoined hexpr _ n _ _ _ _ _ _ _ _ (by assumption) (by assumption) rfl rfl rfl ⟨_,rfl⟩ rfl (fun q=>hf (by simp only[table,Rs.bind,Ps.need,Ps.take,Ps.needs,bl,Ps.named,Ps.node, *];try exact rfl)) (fun op' s' k' l' cl' z' r' S' hs hcl hr' e0 e1 en=>?_) (fun z' r' S' hs hr' e0 en=>?_)))<;>(first|(refine ybb rfl (by assumption) ?_)|skip)))<;>(try cbv))
    |fail)
 all_goals first
  |exact hbad _ _ (by simp only[table,Rs.bind,Ps.need,Ps.take,Ps.needs,bl,Ps.named,Ps.node, *];try exact rfl) (by assumption) (nb rfl)
  |exact hfin _ _ _ _ _ _ _ _ _ (by simp only[table,Rs.bind,Ps.need,Ps.take,Ps.needs,bl,Ps.named,Ps.node, *];try exact rfl) (by assumption) (.inl rfl) (by rw[e0];assumption) en
  |exact hbad _ _ (by simp only[table,Rs.bind,Ps.need,Ps.take,Ps.needs,bl,Ps.named,Ps.node, *];try exact rfl) (by rw[e0];assumption) en
end Go.AM.Ps
namespace Go.AM.Ps
open Go.Proofs W
theorem Ps.fn106:FnOk Tryz.prog 106 (fni Tryz.f106 Pr.a106):=⟨⟨Tryz.f106,Tryz.func106,rfl,rfl,rfl,by kernel_rfl⟩,by kernel_rfl⟩
theorem Ps.fn73:FnOk Tryz.prog 73 (fni Tryz.f73 Pr.a73):=⟨⟨Tryz.f73,Tryz.func73,rfl,rfl,rfl,by kernel_rfl⟩,by kernel_rfl⟩
theorem Ps.fn107:FnOk Tryz.prog 107 (fni Tryz.f107 Pr.a107):=⟨⟨Tryz.f107,Tryz.func107,rfl,rfl,rfl,by kernel_rfl⟩,by kernel_rfl⟩
noncomputable def c106:Code:=(fni Tryz.f106 Pr.a106).loop 0
theorem Ps.c106:qf 30 Pr.a106 c106=true:=by kernel_rfl
theorem xde(K:Ex→Env→St→Prop)(env:Env)(S:St)(h:xg (pAlg Tryz.prog (Pr.tab real) 30) (Pr.tab real) Pr.a106 0 c106 (andThen (za Tryz.prog (Pr.tab real) 30 c106 K) K) env S):za Tryz.prog (Pr.tab real) 30 c106 K env S:=
 vc Pr.tabOk Pr.mixed Ps.c106 h
theorem za.retell{P:Program}{T:Tab}{N:Nat}{c:Code}{K:Ex→Env→St→Prop}{env:Env}{S:St}{o:Nat}{row:List AV}(hne:S.row o≠[])(hl:row.length=(S.row o).length)
 (hR:∀ j,j<row.length→Sub T (nth (S.row o) j) (nth row j)) (h:za P T N c K env (S.set o row)):za P T N c K env S:=fun C hC g a w hI=>
 h C hC g a w (hI.retell hne hl fun j hj x hx=>hR j hj _ _ _ hx)
theorem qdd(op s:List UInt8)(k:Int)(e:TypeId)(cs:List AV)(m:Mode)(he:e=24∨cs=[]):∀ j,j<4→Sub (Pr.tab real) (nth [.str op,.str s,.int .i64 k,.slice e cs m] j) (nth [.str op,.str s,.int .i64 k,.slice 24 cs .no] j):=by
 intro j hj
 match j,hj with
 | 0,_=>exact Sub.refl _ _
 | 1,_=>exact Sub.refl _ _
 | 2,_=>exact Sub.refl _ _
 | 3,_=>
  rcases he with rfl|rfl
  ·exact xab _ _ _ _
  ·exact xak _ _ _ _
theorem za.front4{P:Program}{T:Tab}{N:Nat}{c:Code}{K:Ex→Env→St→Prop}{env:Env}{S:St}(h:za P T N c K env ⟨(0,S.row 0)::(1,S.row 1)::(2,S.row 2)::(3,S.row 3)::S.objs,S.next,S.caps⟩):za P T N c K env S:=by
 have e3:∀ p,St.row ⟨(3,S.row 3)::S.objs,S.next,S.caps⟩ p=S.row p:=qi S 3
 refine za.ext (S':=⟨(3,S.row 3)::S.objs,S.next,S.caps⟩) e3 rfl rfl (za.front3 ?_)
 rw[e3,e3,e3]
 exact h
theorem zc1{t:List Tk}(ht:Toks t){fid:FuncId}{part:Nat→Rs Nd}(hp:Fn t fid [] part)(K:Ex→Env→St→Prop):∀(n:Nat) (op s:List UInt8) (k:Int) (l:List Nd) (cl:List AV) (z:Nat) (r:List AV) (S:St),cl=avL l→At t z r →
      S.row 0=r→S.row 1=zeroN→S.row 2=[.str op,.str s,.int .i64 k,.slice 24 cl .no]→(∃ m,S.next=m+3)→S.caps=[]→(jh t part [ye] n (.mk op s k l) z= .fuel→False) →
      (∀ op' s' k' l' cl' z' r' S',jh t part [ye] n (.mk op s k l) z= .ok (.mk op' s' k' l') z'→cl'=avL l'→At t z' r'→S'.row 0=r'→S'.row 1=[.str op',.str s',.int .i64 k',.slice 24 cl' .no]→2≤S'.next→K .ret [(6,.ptr 1 0)] S') →
      (∀ z' r' S',jh t part [ye] n (.mk op s k l) z= .wrong→At t z' r'→S'.row 0=r'→2≤S'.next→K (.panic vg) [] S') →
      za Tryz.prog (Pr.tab real) 30 c106 (Less K) [(0,.ptr 0 0),(1,.func fid [.ptr 0 0] []),(2,.slice 9 [AV.str ye] .exact),(6,.ptr 1 0),(7,.ptr 2 0)] S:=by
 intro n
 induction n with
 |zero=>intro op s k l cl z r S _ _ _ _ _ _ _ hf;exact(hf rfl).elim
 |succ n ih=>
  intro op s k l cl z r S hcl h hr0 hr1 hr2 hnx hcaps hf hK1 hK2
  obtain⟨m,hm⟩:=hnx
  refine za.front3 ?_
  rw[hr0,hr1,hr2,hm,hcaps]
  obtain⟨O,hO⟩:∃ O,S.objs=O:=⟨_,rfl⟩
  rw[hO]
  clear hr0 hr1 hr2 hm hcaps hO S
  have hret:∀ op' s' k' l' cl' z' r' env S',jh t part [ye] (n+1) (.mk op s k l) z= .ok (.mk op' s' k' l') z'→cl'=avL l'→At t z' r'→qz [(6,.ptr 1 0)] env→S'.row 0=r'→S'.row 1=[.str op',.str s',.int .i64 k',.slice 24 cl' .no]→2≤S'.next→Less K .ret env S':=
   fun op' s' k' l' cl' z' r' env S' a b c d e f g=>⟨_,d,hK1 op' s' k' l' cl' z' r' S' a b c e f g⟩
  have hbad:∀ z' r' env S',jh t part [ye] (n+1) (.mk op s k l) z= .wrong→At t z' r'→S'.row 0=r'→2≤S'.next→Less K (.panic (.iface 47 (.agg []))) env S':=
   fun z' r' env S' a b c d=>⟨[],.nil _,hK2 z' r' S' a b c d⟩
  have hcont:∀ op' s' k' l' cl' e' m' z' r' env S',jh t part [ye] (n+1) (.mk op s k l) z=jh t part [ye] n (.mk op' s' k' l') z'→cl'=avL l'→(e'=24∨cl'=[])→At t z' r'→qz [(0,.ptr 0 0),(1,.func fid [.ptr 0 0] []),(2,.slice 9 [AV.str ye] .exact),(6,.ptr 1 0),(7,.ptr 2 0)] env→S'.row 0=r'→S'.row 1=zeroN→S'.row 2=[.str op',.str s',.int .i64 k',.slice e' cl' m']→(∃ m,S'.next=m+3)→S'.caps=[] →
   za Tryz.prog (Pr.tab real) 30 c106 (Less K) env S':=by
   intro op' s' k' l' cl' e' m' z' r' env S' a b he c d e f g i j
   rw[a] at hf hK1 hK2
   have hset:∀ p,(S'.set 2 [.str op',.str s',.int .i64 k',.slice 24 cl' .no]).row p=if 2=p then [.str op',.str s',.int .i64 k',.slice 24 cl' .no] else S'.row p:=fun p=>qt _ _ _ _ (by rw[g];simp)
   refine za.retell (o:=2) (row:=[.str op',.str s',.int .i64 k',.slice 24 cl' .no]) (by rw[g];simp) (by rw[g];rfl) (by rw[g];exact qdd _ _ _ _ _ _ he) ?_
   exact za.weak d (ih op' s' k' l' cl' z' r' _ b c (by rw[hset];exact e) (by rw[hset];exact f) (by rw[hset];rfl) i j hf hK1 hK2)
  clear ih hK1 hK2
  apply xde
  apply xb (mk:=Pr.tab)
  intro fail need _ _ _ _ _ _ _ _ _ eqS _ _ _ _ _ _ _ _ _ _ _ _ _ not _ _ _ G
  have heqS:=G.eqS2
  have hnot:=G.not2
  have hnn:Nat.beq m m=true:=Nat.beq_refl m
  have hbb:Nat.ble m m=true:=Nat.ble_eq_true_of_le (Nat.le_refl m)
  cbv at hnn hbb
  generalize hL:za Tryz.prog (Pr.tab real) 30 c106 (Less K)=L at *
  generalize hK':Less K=K' at *
  unfold zeroN at *
  clear hL hK'
  cbv
  repeat'
   (first
     |refine G.n' rfl ?_
     |refine G.s' rfl ?_
     |(rw[hnn];(try cbv))
     |(rw[hbb];(try cbv))
     |(rw[heqS];(try rw[hnot]);split<;>((first|contradiction|(rename_i hq;(try simp only[Bool.not_eq_true',Bool.not_eq_false'] at hq);rw[hq])|(rename_i hq _;rw[hq])|skip);try cbv))
     |((refine G.c' (jai ht [_] (by decide) (by assumption) (nb rfl) (fun a z' r' hs hr'=>?_)))<;>(try cbv))
     |((refine G.c' (qk ht (by assumption) (nb rfl) (fun r' hs hr'=>?_) (fun r' hs hr'=>?_)))<;>(try cbv))
     |((refine G.c' (hp _ _ 0 _ (by assumption) (nb rfl) (fun q=>hf (by simp only[jh,Rs.bind,Ps.need,Ps.take,Ps.needs,Ps.named,Ps.node,bl, *];try exact rfl)) (fun op s k l cl z' r' hs hcl hr'=>?_) (fun z' r' hs hr'=>?_)))<;>(try cbv))
     |((refine G.c' (jg [] (by subst_vars;exact rfl) (by first|exact .inl rfl|exact .inr rfl) rfl (fun cl hcl=>?_)))<;>(try cbv))
     |fail)
  all_goals first
   |exact hbad _ _ _ _ (by simp only[jh,Rs.bind,Ps.need,Ps.take,Ps.needs,Ps.named,Ps.node,bl, *];try exact rfl) (by assumption) rfl (nb rfl)
   |exact hret _ _ _ _ _ _ _ _ _ (by simp only[jh,Rs.bind,Ps.need,Ps.take,Ps.needs,Ps.named,Ps.node,bl, *];try exact rfl) (by subst_vars;exact rfl) (by assumption) (.cons rfl (.nil _)) rfl rfl (nb rfl)
   |exact hcont _ _ _ _ _ _ _ _ _ _ _ (by simp only[jh,Rs.bind,Ps.need,Ps.take,Ps.needs,Ps.named,Ps.node,bl, *];try exact rfl) (by subst_vars;exact rfl) (.inl rfl) (by assumption) (.cons rfl (.cons rfl (.cons rfl (.cons rfl (.cons rfl (.nil _)))))) rfl rfl rfl ⟨_,rfl⟩ rfl
theorem jc1{t:List Tk}(ht:Toks t){fid:FuncId}{part:Nat→Rs Nd}(hp:FnC t fid part)(K:Ex→Env→St→Prop):∀(n:Nat) (op s:List UInt8) (k:Int) (l:List Nd) (cl:List AV) (z:Nat) (r:List AV) (S:St),cl=avL l→At t z r →
      S.row 0=r→S.row 1=[.ptr 0 0]→S.row 2=zeroN→S.row 3=[.str op,.str s,.int .i64 k,.slice 24 cl .no]→(∃ m,S.next=m+4)→S.caps=[]→(jh t part [jj,ji] n (.mk op s k l) z= .fuel→False) →
      (∀ op' s' k' l' cl' z' r' S',jh t part [jj,ji] n (.mk op s k l) z= .ok (.mk op' s' k' l') z'→cl'=avL l'→At t z' r'→S'.row 0=r'→S'.row 1=[.ptr 0 0]→S'.row 2=[.str op',.str s',.int .i64 k',.slice 24 cl' .no]→3≤S'.next→K .ret [(6,.ptr 2 0)] S') →
      (∀ z' r' S',jh t part [jj,ji] n (.mk op s k l) z= .wrong→At t z' r'→S'.row 0=r'→S'.row 1=[.ptr 0 0]→3≤S'.next→K (.panic vg) [] S') →
      za Tryz.prog (Pr.tab real) 30 c106 (Less K) [(0,.ptr 0 0),(1,.func fid [] [.ptr 1 0]),(2,.slice 9 [AV.str jj,AV.str ji] .exact),(6,.ptr 2 0),(7,.ptr 3 0)] S:=by
 intro n
 induction n with
 |zero=>intro op s k l cl z r S _ _ _ _ _ _ _ _ hf;exact(hf rfl).elim
 |succ n ih=>
  intro op s k l cl z r S hcl h hr0 hrb hr1 hr2 hnx hcaps hf hK1 hK2
  obtain⟨m,hm⟩:=hnx
  refine za.front4 ?_
  rw[hr0,hrb,hr1,hr2,hm,hcaps]
  obtain⟨O,hO⟩:∃ O,S.objs=O:=⟨_,rfl⟩
  rw[hO]
  clear hr0 hrb hr1 hr2 hm hcaps hO S
  have hret:∀ op' s' k' l' cl' z' r' env S',jh t part [jj,ji] (n+1) (.mk op s k l) z= .ok (.mk op' s' k' l') z'→cl'=avL l'→At t z' r'→qz [(6,.ptr 2 0)] env→S'.row 0=r'→S'.row 1=[.ptr 0 0]→S'.row 2=[.str op',.str s',.int .i64 k',.slice 24 cl' .no]→3≤S'.next→Less K .ret env S':=
   fun op' s' k' l' cl' z' r' env S' a b c d e x f g=>⟨_,d,hK1 op' s' k' l' cl' z' r' S' a b c e x f g⟩
  have hbad:∀ z' r' env S',jh t part [jj,ji] (n+1) (.mk op s k l) z= .wrong→At t z' r'→S'.row 0=r'→S'.row 1=[.ptr 0 0]→3≤S'.next→Less K (.panic (.iface 47 (.agg []))) env S':=
   fun z' r' env S' a b c x d=>⟨[],.nil _,hK2 z' r' S' a b c x d⟩
  have hcont:∀ op' s' k' l' cl' e' m' z' r' env S',jh t part [jj,ji] (n+1) (.mk op s k l) z=jh t part [jj,ji] n (.mk op' s' k' l') z'→cl'=avL l'→(e'=24∨cl'=[])→At t z' r'→qz [(0,.ptr 0 0),(1,.func fid [] [.ptr 1 0]),(2,.slice 9 [AV.str jj,AV.str ji] .exact),(6,.ptr 2 0),(7,.ptr 3 0)] env→S'.row 0=r'→S'.row 1=[.ptr 0 0]→S'.row 2=zeroN→S'.row 3=[.str op',.str s',.int .i64 k',.slice e' cl' m']→(∃ m,S'.next=m+4)→S'.caps=[] →
   za Tryz.prog (Pr.tab real) 30 c106 (Less K) env S':=by
   intro op' s' k' l' cl' e' m' z' r' env S' a b he c d e x f g i j
   rw[a] at hf hK1 hK2
   have hset:∀ p,(S'.set 3 [.str op',.str s',.int .i64 k',.slice 24 cl' .no]).row p=if 3=p then [.str op',.str s',.int .i64 k',.slice 24 cl' .no] else S'.row p:=fun p=>qt _ _ _ _ (by rw[g];simp)
   refine za.retell (o:=3) (row:=[.str op',.str s',.int .i64 k',.slice 24 cl' .no]) (by rw[g];simp) (by rw[g];rfl) (by rw[g];exact qdd _ _ _ _ _ _ he) ?_
   exact za.weak d (ih op' s' k' l' cl' z' r' _ b c (by rw[hset];exact e) (by rw[hset];exact x) (by rw[hset];exact f) (by rw[hset];rfl) i j hf hK1 hK2)
  clear ih hK1 hK2
  apply xde
  apply xb (mk:=Pr.tab)
  intro fail need _ _ _ _ _ _ _ _ _ eqS _ _ _ _ _ _ _ _ _ _ _ _ _ not _ _ _ G
  have heqS:=G.eqS2
  have hnot:=G.not2
  have hnn:Nat.beq m m=true:=Nat.beq_refl m
  have hbb:Nat.ble m m=true:=Nat.ble_eq_true_of_le (Nat.le_refl m)
  cbv at hnn hbb
  generalize hL:za Tryz.prog (Pr.tab real) 30 c106 (Less K)=L at *
  generalize hK':Less K=K' at *
  unfold zeroN at *
  clear hL hK'
  cbv
  repeat'
   (first
     |refine G.n' rfl ?_
     |refine G.s' rfl ?_
     |(rw[hnn];(try cbv))
     |(rw[hbb];(try cbv))
     |(rw[heqS];(try rw[hnot]);split<;>((first|contradiction|(rename_i hq;(try simp only[Bool.not_eq_true',Bool.not_eq_false'] at hq);rw[hq])|(rename_i hq _;rw[hq])|skip);try cbv))
     |((refine G.c' (jai ht [_,_] (by decide) (by assumption) (nb rfl) (fun a z' r' hs hr'=>?_)))<;>(try cbv))
     |((refine G.c' (qk ht (by assumption) (nb rfl) (fun r' hs hr'=>?_) (fun r' hs hr'=>?_)))<;>(try cbv))
     |((refine G.c' (hp _ _ 0 1 _ (by decide) (by assumption) (nb rfl) rfl (nb rfl) (fun q=>hf (by simp only[jh,Rs.bind,Ps.need,Ps.take,Ps.needs,Ps.named,Ps.node,bl, *];try exact rfl)) (fun op s k l cl z' r' hs hcl hr'=>?_) (fun z' r' hs hr'=>?_)))<;>(try cbv))
     |((refine G.c' (jg [] (by subst_vars;exact rfl) (by first|exact .inl rfl|exact .inr rfl) rfl (fun cl hcl=>?_)))<;>(try cbv))
     |fail)
  all_goals first
   |exact hbad _ _ _ _ (by simp only[jh,Rs.bind,Ps.need,Ps.take,Ps.needs,Ps.named,Ps.node,bl, *];try exact rfl) (by assumption) rfl rfl (nb rfl)
   |exact hret _ _ _ _ _ _ _ _ _ (by simp only[jh,Rs.bind,Ps.need,Ps.take,Ps.needs,Ps.named,Ps.node,bl, *];try exact rfl) (by subst_vars;exact rfl) (by assumption) (.cons rfl (.nil _)) rfl rfl rfl (nb rfl)
   |exact hcont _ _ _ _ _ _ _ _ _ _ _ (by simp only[jh,Rs.bind,Ps.need,Ps.take,Ps.needs,Ps.named,Ps.node,bl, *];try exact rfl) (by subst_vars;exact rfl) (.inl rfl) (by assumption) (.cons rfl (.cons rfl (.cons rfl (.cons rfl (.cons rfl (.nil _)))))) rfl rfl rfl rfl ⟨_,rfl⟩ rfl
end Go.AM.Ps
namespace Go.AM.Ps
open Go.Proofs W
theorem qdn{t:List Tk}(ht:Toks t){fid:FuncId}{part:Nat→Rs Nd}(hp:Fn t fid [] part)(n:Nat)(z:Nat)(r:List AV)(h:At t z r)(hf:vn t n part [ye] z= .fuel→False) :
 jb Tryz.prog (Pr.tab real) 106 [.ptr 0 0,.func fid [.ptr 0 0] [],.slice 9 [.str ye] .exact] (P0 r) (Post t (vn t n part [ye] z) Nd.av):=by
 have hfin:=fun op s k e cs m l z' S'=>vac t (vn t n part [ye] z) op s k e cs m l z' S'
 have hbad:=fun z' S'=>qm t (vn t n part [ye] z) Nd.av z' S'
 generalize Post t (vn t n part [ye] z) Nd.av=K0 at hfin hbad ⊢
 apply ja (un:=0) Pr.tabOk Pr.mixed Ps.fn106 (nb rfl)
 apply qb (mk:=Pr.tab)
 intro fail need _ _ _ _ _ _ _ _ _ eqS _ _ _ _ _ _ _ _ _ _ _ _ _ not _ _ _ G
 have heqS:=G.eqS2
 have hnot:=G.not2
 unfold P0
 cbv
 repeat'
  (first
    |((refine G.c' (hp _ _ 0 _ (by assumption) (nb rfl) (fun q=>hf (by simp only[vn,Rs.bind,Ps.need,Ps.take,Ps.needs,bl, *];try exact rfl)) (fun op s k l cl z' r' hs hcl hr'=>?_) (fun z' r' hs hr'=>?_)))<;>(try cbv))
    |(((refine G.l' ?_;change za Tryz.prog (Pr.tab real) 30 c106 _ _ _;refine za.relax (za.weak (.cons rfl (.cons rfl (.cons rfl (.cons rfl (.cons rfl (.nil _)))))) (zc1 ht hp _ n _ _ _ _ _ _ _ _ (by assumption) (by assumption) rfl rfl rfl ⟨_,rfl⟩ rfl (fun q=>hf (by simp only[vn,Rs.bind,Ps.need,Ps.take,Ps.needs,bl, *];try exact rfl)) (fun op' s' k' l' cl' z' r' S' hs hcl hr' e0 e1 en=>?_) (fun z' r' S' hs hr' e0 en=>?_)))<;>(first|(refine ybb rfl (by assumption) ?_)|skip)))<;>(try cbv))
    |fail)
 all_goals first
  |exact hbad _ _ (by simp only[vn,Rs.bind,Ps.need,Ps.take,Ps.needs,bl, *];try exact rfl) (by assumption) (nb rfl)
  |exact hfin _ _ _ _ _ _ _ _ _ (by simp only[vn,Rs.bind,Ps.need,Ps.take,Ps.needs,bl, *];try exact rfl) (by assumption) (.inl rfl) (by rw[e0];assumption) (Nat.le_of_succ_le en)
  |exact hbad _ _ (by simp only[vn,Rs.bind,Ps.need,Ps.take,Ps.needs,bl, *];try exact rfl) (by rw[e0];assumption) (Nat.le_of_succ_le en)
theorem xea{t:List Tk}(ht:Toks t){fid:FuncId}{part:Nat→Rs Nd}(hp:Fn t fid [] part){n:Nat}{z:Nat}{S:St}{o:Nat}(h:At t z (S.row o))(ho:o<S.next){K:Out→St→Prop}(hf:vn t n part [ye] z= .fuel→False)
 (hok:∀ op s k l cl z' r',vn t n part [ye] z= .ok (.mk op s k l) z'→cl=avL l→At t z' r'→K (.ret (.agg [.str op,.str s,.int .i64 k,.slice 24 cl .no])) (S.set o r'))
 (hwr:∀ z' r',vn t n part [ye] z= .wrong→At t z' r'→K (.panic vg) (S.set o r')):jb Tryz.prog (Pr.tab real) 106 [.ptr o 0,.func fid [.ptr o 0] [],.slice 9 [.str ye] .exact] S K:=by
 refine jv (args0:=[.ptr 0 0,.func fid [.ptr 0 0] [],.slice 9 [.str ye] .exact]) ?_ (fun a f h=>zh f h a) h ho (qdn ht hp n z _ h hf) (fun a z' r' hq hr'=>?_) hwr
 ·simp only[renL,AV.ren,show AM.one o 0 o=some 0 from vo.2 ⟨rfl,rfl⟩];rfl
 ·obtain⟨op,s,k,l⟩:=a;exact hok op s k l _ z' r' hq rfl hr'
theorem zdn{t:List Tk}(ht:Toks t){fid:FuncId}{part:Nat→Rs Nd}(hp:FnC t fid part)(n:Nat)(z:Nat)(r:List AV)(h:At t z r)(hf:vn t n part [jj,ji] z= .fuel→False) :
 jb Tryz.prog (Pr.tab real) 106 [.ptr 0 0,.func fid [] [.ptr 1 0],.slice 9 [.str jj,.str ji] .exact] (P2 r) (jad t 2 (vn t n part [jj,ji] z) Nd.av):=by
 have hfin:=fun op s k e cs m l z' S'=>qbt t 2 (vn t n part [jj,ji] z) op s k e cs m l z' S'
 have hbad:=fun z' S'=>qak t 2 (vn t n part [jj,ji] z) Nd.av z' S'
 generalize jad t 2 (vn t n part [jj,ji] z) Nd.av=K0 at hfin hbad ⊢
 apply ja (un:=0) Pr.tabOk Pr.mixed Ps.fn106 (nb rfl)
 apply qb (mk:=Pr.tab)
 intro fail need _ _ _ _ _ _ _ _ _ eqS _ _ _ _ _ _ _ _ _ _ _ _ _ not _ _ _ G
 have heqS:=G.eqS2
 have hnot:=G.not2
 unfold P2
 cbv
 repeat'
  (first
    |((refine G.c' (hp _ _ 0 1 _ (by decide) (by assumption) (nb rfl) rfl (nb rfl) (fun q=>hf (by simp only[vn,Rs.bind,Ps.need,Ps.take,Ps.needs,bl, *];try exact rfl)) (fun op s k l cl z' r' hs hcl hr'=>?_) (fun z' r' hs hr'=>?_)))<;>(try cbv))
    |(((refine G.l' ?_;change za Tryz.prog (Pr.tab real) 30 c106 _ _ _;refine za.relax (za.weak (.cons rfl (.cons rfl (.cons rfl (.cons rfl (.cons rfl (.nil _)))))) (jc1 ht hp _ n _ _ _ _ _ _ _ _ (by assumption) (by assumption) rfl rfl rfl rfl ⟨_,rfl⟩ rfl (fun q=>hf (by simp only[vn,Rs.bind,Ps.need,Ps.take,Ps.needs,bl, *];try exact rfl)) (fun op' s' k' l' cl' z' r' S' hs hcl hr' e0 eb e1 en=>?_) (fun z' r' S' hs hr' e0 eb en=>?_)))<;>(first|(refine ybb rfl (by assumption) ?_)|skip)))<;>(try cbv))
    |fail)
 all_goals first
  |exact hbad _ _ (by simp only[vn,Rs.bind,Ps.need,Ps.take,Ps.needs,bl, *];try exact rfl) (by assumption) (nb rfl) rfl
  |exact hfin _ _ _ _ _ _ _ _ _ (by simp only[vn,Rs.bind,Ps.need,Ps.take,Ps.needs,bl, *];try exact rfl) (by assumption) (.inl rfl) (by rw[e0];assumption) (Nat.le_of_succ_le en) eb
  |exact hbad _ _ (by simp only[vn,Rs.bind,Ps.need,Ps.take,Ps.needs,bl, *];try exact rfl) (by rw[e0];assumption) (Nat.le_of_succ_le en) eb
theorem vea{t:List Tk}(ht:Toks t){fid:FuncId}{part:Nat→Rs Nd}(hp:FnC t fid part){n:Nat}{z:Nat}{S:St}{o o1:Nat}(hne:o≠o1)(h:At t z (S.row o))(ho:o<S.next)(hb:S.row o1=[.ptr o 0])(ho1:o1<S.next){K:Out→St→Prop}(hf:vn t n part [jj,ji] z= .fuel→False)
 (hok:∀ op s k l cl z' r',vn t n part [jj,ji] z= .ok (.mk op s k l) z'→cl=avL l→At t z' r'→K (.ret (.agg [.str op,.str s,.int .i64 k,.slice 24 cl .no])) (S.set o r'))
 (hwr:∀ z' r',vn t n part [jj,ji] z= .wrong→At t z' r'→K (.panic vg) (S.set o r')):jb Tryz.prog (Pr.tab real) 106 [.ptr o 0,.func fid [] [.ptr o1 0],.slice 9 [.str jj,.str ji] .exact] S K:=by
 refine yc5 hne (args0:=[.ptr 0 0,.func fid [] [.ptr 1 0],.slice 9 [.str jj,.str ji] .exact]) ?_ (fun a f h=>zh f h a) h ho hb ho1 (zdn ht hp n z _ h hf) (fun a z' r' hq hr'=>?_) hwr
 ·simp only[renL,AV.ren,(idx2 hne).1,(idx2 hne).2];rfl
 ·obtain⟨op,s,k,l⟩:=a;exact hok op s k l _ z' r' hq rfl hr'
theorem zd6{t:List Tk}(ht:Toks t)(n:Nat)(hn:n≤1000000000)(hsimple:Fn t 108 [] (simple qa t n))(z:Nat)(r:List AV)(h:At t z r)(hf:term qa t (n+1) z= .fuel→False) :
 jb Tryz.prog (Pr.tab real) 107 [.ptr 1 0] (P2 r) (jad t 2 (term qa t (n+1) z) Nd.av):=by
 have hfin:=fun op s k e cs m l z' S'=>qbt t 2 (term qa t (n+1) z) op s k e cs m l z' S'
 have hbad:=fun z' S'=>qak t 2 (term qa t (n+1) z) Nd.av z' S'
 generalize jad t 2 (term qa t (n+1) z) Nd.av=K0 at hfin hbad ⊢
 apply ja (un:=0) Pr.tabOk Pr.mixed Ps.fn107 (nb rfl)
 apply qb (mk:=Pr.tab)
 intro fail need _ _ _ _ _ _ _ _ _ eqS _ _ _ _ _ _ _ _ _ _ _ _ _ not _ _ _ G
 have heqS:=G.eqS2
 have hnot:=G.not2
 unfold P2
 cbv
 repeat'
  (first
    |refine G.n' rfl ?_
    |((refine G.c' (xea (n:=n) ht hsimple (by assumption) (nb rfl) (fun q=>hf (by simp only[term,Rs.bind,Ps.need,Ps.take,Ps.needs,bl, *];try exact rfl)) (fun op s k l cl z' r' hs hcl hr'=>?_) (fun z' r' hs hr'=>?_)))<;>(try cbv))
    |fail)
 all_goals first
  |exact hbad _ _ (by simp only[term,Rs.bind,Ps.need,Ps.take,Ps.needs,bl, *];try exact rfl) (by assumption) (nb rfl) rfl
  |exact hfin _ _ _ _ _ _ _ _ _ (by simp only[term,Rs.bind,Ps.need,Ps.take,Ps.needs,bl, *];try exact rfl) (by subst_vars;exact rfl) (by first|exact .inl rfl|exact .inr rfl) (by assumption) (nb rfl) rfl
theorem xd7{t:List Tk}(ht:Toks t)(n:Nat)(hn:n≤1000000000)(hterm:FnC t 107 (term qa t n))(z:Nat)(r:List AV)(h:At t z r)(hf:body qa t (n+1) z= .fuel→False) :
 jb Tryz.prog (Pr.tab real) 73 [.ptr 0 0] (P0 r) (Post t (body qa t (n+1) z) Nd.av):=by
 have hfin:=fun op s k e cs m l z' S'=>vac t (body qa t (n+1) z) op s k e cs m l z' S'
 have hbad:=fun z' S'=>qm t (body qa t (n+1) z) Nd.av z' S'
 generalize Post t (body qa t (n+1) z) Nd.av=K0 at hfin hbad ⊢
 apply ja (un:=0) Pr.tabOk Pr.mixed Ps.fn73 (nb rfl)
 apply qb (mk:=Pr.tab)
 intro fail need _ _ _ _ _ _ _ _ _ eqS _ _ _ _ _ _ _ _ _ _ _ _ _ not _ _ _ G
 have heqS:=G.eqS2
 have hnot:=G.not2
 unfold P0
 cbv
 repeat'
  (first
    |refine G.n' rfl ?_
    |((refine G.c' (vea (n:=n) ht hterm (by decide) (by assumption) (nb rfl) rfl (nb rfl) (fun q=>hf (by simp only[body,Rs.bind,Ps.need,Ps.take,Ps.needs,bl, *];try exact rfl)) (fun op s k l cl z' r' hs hcl hr'=>?_) (fun z' r' hs hr'=>?_)))<;>(try cbv))
    |fail)
 all_goals first
  |exact hbad _ _ (by simp only[body,Rs.bind,Ps.need,Ps.take,Ps.needs,bl, *];try exact rfl) (by assumption) (nb rfl)
  |exact hfin _ _ _ _ _ _ _ _ _ (by simp only[body,Rs.bind,Ps.need,Ps.take,Ps.needs,bl, *];try exact rfl) (by subst_vars;exact rfl) (by first|exact .inl rfl|exact .inr rfl) (by assumption) (nb rfl)
end Go.AM.Ps
