/- The parser's functions: statements, second part. -/
import Derived.Test.YteomefghofhkiaaGreatDoorRdI
set_option maxRecDepth 100000
set_option maxHeartbeats 40000000
set_option linter.unusedVariables false
set_option linter.unusedSimpArgs false
namespace Go.AM.Ps
open Go.Proofs W
theorem yc7{t:List Tk}(ht:Toks t){fid:FuncId}{part:Nat→Rs Nd}(hp:Fn t fid [] part){n:Nat}(hn:n≤1000000000)(O:List (Nat × List AV))(nx:Nat){z:Nat}{r:List AV}(h:At t z r){K:Out→St→Prop}(hf:vf t n part z= .fuel→False)
 (hok:∀ l cs m caps z' r',vf t n part z= .ok l z'→cs=avL l→Grows m cs caps→cs.length≤2000000001→At t z' r'→K (.ret (.slice 24 cs m)) ⟨(0,r')::O,nx+1,caps⟩)
 (hwr:∀ z' r' caps,vf t n part z= .wrong→At t z' r'→K (.panic (.iface 47 (.agg []))) ⟨(0,r')::O,nx+1,caps⟩):jb Tryz.prog (Pr.tab real) 43 [.ptr 0 0,.func fid [.ptr 0 0] []] ⟨(0,r)::O,nx+1,[]⟩ K:=by
 have hfin:=hok
 have hbad:=hwr
 clear hok hwr
 generalize K=K0 at hfin hbad ⊢
 apply ja (un:=0) Pr.tabOk Pr.mixed Ps.fn43 (nb rfl)
 apply qb (mk:=Pr.tab)
 intro fail need _ _ _ _ _ _ _ _ _ eqS _ _ _ _ _ _ _ _ _ _ _ _ _ not _ _ _ G
 have heqS:=G.eqS2
 have hnot:=G.not2
 have hnn:True:=trivial
 have hbb:True:=trivial
 cbv
 repeat'
  (first
    |refine G.n' rfl ?_
    |((refine G.c' (hp _ _ 0 _ (by assumption) (Nat.succ_pos _) (fun q=>hf (by simp only[vf,Rs.bind,Ps.need,Ps.take,Ps.needs,Ps.named,Ps.node,bl,bn, *];try exact rfl)) (fun op s k l cl z' r' hs hcl hr'=>?_) (fun z' r' hs hr'=>?_)))<;>(try cbv))
    |(((refine G.l' ?_;change za Tryz.prog (Pr.tab real) 18 c43 _ _ _;refine za.relax (za.weak (show qz [(0,.ptr 0 0),(1,.func fid [.ptr 0 0] []),(5,.slice 24 _ .exact)] _ from (.cons rfl (.cons rfl (.cons rfl (.nil _))))) (yck ht hp O nx _ n [.mk _ _ _ _] _ .exact [] _ _ (by subst_vars;exact rfl) (.fresh _) (by simp;omega) (by assumption) (fun q=>hf (by simp only[vf,Rs.bind,Ps.need,Ps.take,Ps.needs,Ps.named,Ps.node,bl,bn, *];try exact rfl)) (fun l cl m' caps' z' r' hs hcl hg hlen hr'=>?_) (fun z' r' caps' hs hr'=>?_)))))<;>(try cbv))
    |fail)
 all_goals first
  |exact hfin _ _ _ _ _ _ (by simp only[vf,Rs.bind,Ps.need,Ps.take,Ps.needs,Ps.named,Ps.node,bl,bn, *];try exact rfl) (by assumption) (by assumption) (by assumption) (by assumption)
  |exact hbad _ _ _ (by simp only[vf,Rs.bind,Ps.need,Ps.take,Ps.needs,Ps.named,Ps.node,bl,bn, *];try exact rfl) (by assumption)
theorem qc8{t:List Tk}(ht:Toks t){fid:FuncId}{part:Nat→Rs Nd}(hp:FnC t fid part){n:Nat}(hn:n≤1000000000)(O:List (Nat × List AV))(nx:Nat)(hO:vaq O 1=[.ptr 0 0]){z:Nat}{r:List AV}(h:At t z r){K:Out→St→Prop}(hf:vf t n part z= .fuel→False)
 (hok:∀ l cs m caps z' r',vf t n part z= .ok l z'→cs=avL l→Grows m cs caps→cs.length≤2000000001→At t z' r'→K (.ret (.slice 24 cs m)) ⟨(0,r')::O,nx+2,caps⟩)
 (hwr:∀ z' r' caps,vf t n part z= .wrong→At t z' r'→K (.panic (.iface 47 (.agg []))) ⟨(0,r')::O,nx+2,caps⟩):jb Tryz.prog (Pr.tab real) 43 [.ptr 0 0,.func fid [] [.ptr 1 0]] ⟨(0,r)::O,nx+2,[]⟩ K:=by
 have hfin:=hok
 have hbad:=hwr
 clear hok hwr
 generalize K=K0 at hfin hbad ⊢
 apply ja (un:=0) Pr.tabOk Pr.mixed Ps.fn43 (nb rfl)
 apply qb (mk:=Pr.tab)
 intro fail need _ _ _ _ _ _ _ _ _ eqS _ _ _ _ _ _ _ _ _ _ _ _ _ not _ _ _ G
 have heqS:=G.eqS2
 have hnot:=G.not2
 have hnn:True:=trivial
 have hbb:True:=trivial
 cbv
 repeat'
  (first
    |refine G.n' rfl ?_
    |((refine G.c' (hp _ _ 0 1 _ (by decide) (by assumption) (Nat.succ_pos _) hO (Nat.succ_lt_succ (Nat.succ_pos _)) (fun q=>hf (by simp only[vf,Rs.bind,Ps.need,Ps.take,Ps.needs,Ps.named,Ps.node,bl,bn, *];try exact rfl)) (fun op s k l cl z' r' hs hcl hr'=>?_) (fun z' r' hs hr'=>?_)))<;>(try cbv))
    |(((refine G.l' ?_;change za Tryz.prog (Pr.tab real) 18 c43 _ _ _;refine za.relax (za.weak (show qz [(0,.ptr 0 0),(1,.func fid [] [.ptr 1 0]),(5,.slice 24 _ .exact)] _ from (.cons rfl (.cons rfl (.cons rfl (.nil _))))) (qcl ht hp O nx hO _ n [.mk _ _ _ _] _ .exact [] _ _ (by subst_vars;exact rfl) (.fresh _) (by simp;omega) (by assumption) (fun q=>hf (by simp only[vf,Rs.bind,Ps.need,Ps.take,Ps.needs,Ps.named,Ps.node,bl,bn, *];try exact rfl)) (fun l cl m' caps' z' r' hs hcl hg hlen hr'=>?_) (fun z' r' caps' hs hr'=>?_)))))<;>(try cbv))
    |fail)
 all_goals first
  |exact hfin _ _ _ _ _ _ (by simp only[vf,Rs.bind,Ps.need,Ps.take,Ps.needs,Ps.named,Ps.node,bl,bn, *];try exact rfl) (by assumption) (by assumption) (by assumption) (by assumption)
  |exact hbad _ _ _ (by simp only[vf,Rs.bind,Ps.need,Ps.take,Ps.needs,Ps.named,Ps.node,bl,bn, *];try exact rfl) (by assumption)
theorem jc9{t:List Tk}(ht:Toks t){fid:FuncId}{part:Nat→Rs Nd}(hp:Fn t fid [] part){n:Nat}(hn:n≤1000000000){z:Nat}{S:St}{nx:Nat}(h:At t z (S.row 0))(hnx:S.next=nx+1)(hcaps:S.caps=[]){K:Out→St→Prop}(hf:vf t n part z= .fuel→False)
 (hok:∀ l cs m caps z' r',vf t n part z= .ok l z'→cs=avL l→Grows m cs caps→cs.length≤2000000001→At t z' r'→K (.ret (.slice 24 cs m)) ⟨(0,r')::S.objs,S.next,caps⟩)
 (hwr:∀ z' r' caps,vf t n part z= .wrong→At t z' r'→K (.panic (.iface 47 (.agg []))) ⟨(0,r')::S.objs,S.next,caps⟩):jb Tryz.prog (Pr.tab real) 43 [.ptr 0 0,.func fid [.ptr 0 0] []] S K:=by
 refine jb.ext (S':=⟨(0,S.row 0)::S.objs,S.next,S.caps⟩) (qi S 0) rfl rfl ?_
 rw[hcaps]
 rw[hnx] at hok hwr ⊢
 exact yc7 ht hp hn S.objs nx h hf hok hwr
theorem vdn{t:List Tk}(ht:Toks t){fid:FuncId}{part:Nat→Rs Nd}(hp:FnC t fid part){n:Nat}(hn:n≤1000000000)(z:Nat)(r:List AV)(h:At t z r)(hf:vf t n part z= .fuel→False) :
 jb Tryz.prog (Pr.tab real) 43 [.ptr 0 0,.func fid [] [.ptr 1 0]] (P2 r) (jad t 2 (vf t n part z) lav):=by
 refine jb.ext (S':=⟨(0,(P2 r).row 0)::(P2 r).objs,(P2 r).next,(P2 r).caps⟩) (qi (P2 r) 0) rfl rfl ?_
 refine qc8 ht hp hn (P2 r).objs 0 rfl h hf (fun l cs m caps z' r' hs hcs hg hlen hr'=>?_) (fun z' r' caps hs hr'=>?_)
 ·exact xd8 t 2 _ 24 cs m l z' _ hs hcs (.inl rfl) hr' (Nat.le_refl 2) rfl
 ·exact qak t 2 _ lav z' _ hs hr' (Nat.le_refl 2) rfl
theorem yea{t:List Tk}(ht:Toks t){fid:FuncId}{part:Nat→Rs Nd}(hp:FnC t fid part){n:Nat}(hn:n≤1000000000){z:Nat}{S:St}{o o1:Nat}(hne:o≠o1)(h:At t z (S.row o))(ho:o<S.next)(hb:S.row o1=[.ptr o 0])(ho1:o1<S.next){K:Out→St→Prop}(hf:vf t n part z= .fuel→False)
 (hok:∀ l cl z' r',vf t n part z= .ok l z'→cl=avL l→At t z' r'→K (.ret (.slice 24 cl .no)) (S.set o r'))
 (hwr:∀ z' r',vf t n part z= .wrong→At t z' r'→K (.panic vg) (S.set o r')):jb Tryz.prog (Pr.tab real) 43 [.ptr o 0,.func fid [] [.ptr o1 0]] S K:=by
 refine yc5 hne (args0:=[.ptr 0 0,.func fid [] [.ptr 1 0]]) ?_ (fun a f h=>jas f h a) h ho hb ho1 (vdn ht hp hn z _ h hf) (fun a z' r' hq hr'=>hok a _ z' r' hq rfl hr') hwr
 simp only[renL,AV.ren,(idx2 hne).1,(idx2 hne).2]
theorem jck{t:List Tk}(ht:Toks t)(n:Nat)(hn:n≤1000000000)(P:Parser t n)(z:Nat)(r:List AV)(h:At t z r)(hf:insertP qa t n z= .fuel→False) :
 jb Tryz.prog (Pr.tab real) 42 [.ptr 0 0] (P0 r) (Post t (insertP qa t n z) Nd.av):=by
 have hfin:=fun op s k e cs m l z' S'=>vac t (insertP qa t n z) op s k e cs m l z' S'
 have hbad:=fun z' S'=>qm t (insertP qa t n z) Nd.av z' S'
 have hfin2:=fun op s k cs m l z' S'=>jds t (insertP qa t n z) op s k cs m l z' S'
 generalize Post t (insertP qa t n z) Nd.av=K0 at hfin hbad hfin2 ⊢
 apply ja (un:=0) Pr.tabOk Pr.mixed Ps.fn42 (nb rfl)
 apply qb (mk:=Pr.tab)
 intro fail need _ _ _ _ _ _ _ _ _ eqS _ _ _ _ _ _ _ _ _ _ _ _ _ not _ _ _ G
 have heqS:=G.eqS2
 have hnot:=G.not2
 unfold P0
 cbv
 repeat'
  (first
    |refine G.n' rfl ?_
    |refine G.s' rfl ?_
    |((refine G.c' (yy ht (by assumption) (nb rfl) (fun a z' r' hs hr'=>?_) (fun z' r' hs hr'=>?_)))<;>(try cbv))
    |((refine G.c' (zbf ht (by assumption) (nb rfl) (fun hs=>?_) (fun hs=>?_)))<;>(try cbv))
    |((refine G.c' (yau ht (by assumption) (nb rfl) (fun hs=>?_) (fun hs=>?_)))<;>(try cbv))
    |((refine G.c' ((qb1 ht n hn P) _ _ 0 _ (by assumption) (nb rfl) (fun q=>hf (by simp only[insertP,jt,Rs.bind,Ps.need,Ps.take,Ps.needs,bl,bn,Ps.named,Ps.node, *];try exact rfl)) (fun l cl z' r' hs hcl hr'=>?_) (fun z' r' hs hr'=>?_)))<;>(try cbv))
    |((refine G.c' (qk ht (by assumption) (nb rfl) (fun r' hs hr'=>?_) (fun r' hs hr'=>?_)))<;>(try cbv))
    |((refine G.c' (yea ht (ven ht n hn P) hn (by decide) (by assumption) (nb rfl) rfl (nb rfl) (fun q=>hf (by simp only[insertP,jt,Rs.bind,Ps.need,Ps.take,Ps.needs,bl,bn,Ps.named,Ps.node, *];try exact rfl)) (fun l cl z' r' hs hcl hr'=>?_) (fun z' r' hs hr'=>?_)))<;>(try cbv))
    |((refine G.c' (P.body _ _ 0 _ (by assumption) (nb rfl) (fun q=>hf (by simp only[insertP,jt,Rs.bind,Ps.need,Ps.take,Ps.needs,bl,bn,Ps.named,Ps.node, *];try exact rfl)) (fun op s k l cl z' r' hs hcl hr'=>?_) (fun z' r' hs hr'=>?_)))<;>(try cbv))
    |((refine G.c' (jg [] (by subst_vars;exact rfl) (by first|exact .inl rfl|exact .inr rfl) rfl (fun cl hcl=>?_)))<;>(try cbv))
    |((refine G.c' (jg _ (by subst_vars;exact rfl) (by first|exact .inl rfl|exact .inr rfl) rfl (fun cl hcl=>?_)))<;>(try cbv))
    |((refine G.c' (vk [] (by subst_vars;exact rfl) (by first|exact .inl rfl|exact .inr rfl) rfl (fun cl hcl=>?_)))<;>(try cbv))
    |(rw[hnot];(try cbv))
    |fail)
 all_goals first
  |exact hbad _ _ (by simp only[insertP,jt,Rs.bind,Ps.need,Ps.take,Ps.needs,bl,bn,Ps.named,Ps.node, *];try exact rfl) (by assumption) (nb rfl)
  |exact hfin _ _ _ _ _ _ _ _ _ (by simp only[insertP,jt,Rs.bind,Ps.need,Ps.take,Ps.needs,bl,bn,Ps.named,Ps.node, *];try exact rfl) (by subst_vars;exact rfl) (by first|exact .inl rfl|exact .inr rfl) (by assumption) (nb rfl)
theorem xc9{t:List Tk}(ht:Toks t)(n:Nat)(hn:n≤1000000000)(P:Parser t n):Fn t 42 [] (insertP qa t n):=xae (fun _=>rfl) fun z r h hf=>jck ht n hn P z r h hf
end Go.AM.Ps
namespace Go.AM.Ps
open Go.Proofs W
noncomputable def c77:Code:=(fni Tryz.f77 Pr.a77).loop 0
theorem Ps.c77:qf 105 Pr.a77 c77=true:=by kernel_rfl
theorem jeq(K:Ex→Env→St→Prop)(env:Env)(S:St)(h:xg (pAlg Tryz.prog (Pr.tab real) 105) (Pr.tab real) Pr.a77 0 c77 (andThen (za Tryz.prog (Pr.tab real) 105 c77 K) K) env S):za Tryz.prog (Pr.tab real) 105 c77 K env S:=
 vc Pr.tabOk Pr.mixed Ps.c77 h
def SE(s:List UInt8)(cs:List AV)(m:Mode)(r:List AV)(caps:List Int):St:=⟨[(2,[.str qae,.str s,.int .i64 0,.slice 24 cs m]),(1,zeroN),(0,r)],3,caps⟩
theorem opts_loop{t:List Tk}(ht:Toks t){n:Nat}(hexpr:Fn t 83 [] (expr qa t n))(s:List UInt8)(K:Ex→Env→St→Prop):∀(k:Nat) (l:List Nd) (cs:List AV) (mo:Mode) (caps:List Int) (z:Nat) (r:List AV),cs=avL l→Grows mo cs caps→cs.length+k≤2000000000→At t z r→(yh qa t n k l z= .fuel→False) →
      (∀ l' cs' m' caps' z' r',yh qa t n k l z= .ok l' z'→cs'=avL l'→At t z' r'→K .ret [(2,.ptr 1 0)] ⟨[(2,[.str qae,.str s,.int .i64 0,.slice 24 cs' m']),(1,[.str qae,.str s,.int .i64 0,.slice 24 cs' m']),(0,r')],3,caps'⟩) →
      (∀ z' r' S',yh qa t n k l z= .wrong→At t z' r'→S'.row 0=r'→1≤S'.next→K (.panic vg) [] S') →
      za Tryz.prog (Pr.tab real) 105 c77 (Less K) [(0,.ptr 0 0),(2,.ptr 1 0),(4,.ptr 2 0)] (SE s cs mo r caps):=by
 intro k
 induction k with
 |zero=>intro l cs mo caps z r _ _ _ _ hf;exact(hf rfl).elim
 |succ k ih=>
  intro l cs mo caps z r hcs hg hlen h hf hK1 hK2
  have hret:∀ z' r' env,yh qa t n (k+1) l z= .ok l z'→At t z' r'→qz [(2,.ptr 1 0)] env→Less K .ret env ⟨[(2,[.str qae,.str s,.int .i64 0,.slice 24 cs mo]),(1,[.str qae,.str s,.int .i64 0,.slice 24 cs mo]),(0,r')],3,caps⟩:=
   fun z' r' env a b c=>⟨_,c,hK1 l cs mo caps z' r' a hcs b⟩
  have hbad:∀ z' r' env S',yh qa t n (k+1) l z= .wrong→At t z' r'→S'.row 0=r'→1≤S'.next→Less K (.panic (.iface 47 (.agg []))) env S':=
   fun z' r' env S' a b c d=>⟨[],.nil _,hK2 z' r' S' a b c d⟩
  have hcont:∀ op2 s2 k2 l2 cl2 (n2:Int) z' r' env,yh qa t n (k+1) l z=yh qa t n k (l++[.mk op2 s2 k2 l2]) z'→cl2=avL l2→At t z' r'→qz [(0,.ptr 0 0),(2,.ptr 1 0),(4,.ptr 2 0)] env→n2=((cs++[AV.agg [.str op2,.str s2,.int .i64 k2,.slice 24 cl2 .no]]).length:Nat) →
   za Tryz.prog (Pr.tab real) 105 c77 (Less K) env ⟨[(2,[.str qae,.str s,.int .i64 0,.slice 24 (cs++[.agg [.str op2,.str s2,.int .i64 k2,.slice 24 cl2 .no]]) (.own 0)]),(1,zeroN),(0,r')],3,[n2]⟩:=by
   intro op2 s2 k2 l2 cl2 n2 z' r' env a hc2 c d hn2
   rw[a] at hf hK1 hK2
   refine za.weak d (ih (l++[.mk op2 s2 k2 l2]) _ (.own 0) [n2] z' r' (by rw[hcs,hc2];exact vb0 l op2 s2 k2 l2) (.own _ n2 hn2) ?_ c hf hK1 hK2)
   rw[List.length_append];simp;omega
  have hlen':cs.length≤2000000000:=by omega
  clear ih hK1 hK2 hlen
  apply jeq
  apply xb (mk:=Pr.tab)
  intro fail need _ _ _ len _ _ _ cmp _ eqS _ _ app _ _ _ _ _ _ _ _ _ room not _ _ _ G
  have heqS:=G.eqS2
  have hnot:=G.not2
  have hnn:True:=trivial
  have hbb:True:=trivial
  have happ:∀ x,app cs [x]=cs++[x]:=fun x=>by rw[G.app']
  have hroom:∀ x,room (len (cs++[x])) 64=true:=fun x=>by rw[G.room',G.len'];simp;omega
  have hl2:∀ x,len (cs++[x])=((cs++[x]).length:Nat):=fun x=>by rw[G.len']
  have h01:∀ x,cmp BinOp.lss 0 (len [x])=true:=fun x=>by rw[G.cmp',G.len'];rfl
  have heqc:∀ n2:Int,n2=cs.length→cmp BinOp.eql n2 (len cs)=true:=fun n2 h=>by rw[G.cmp',G.len',h];simp[vb]
  generalize hL:za Tryz.prog (Pr.tab real) 105 c77 (Less K)=L at *
  generalize hK':Less K=K' at *
  unfold zeroN at *
  unfold SE zeroN
  clear hL hK' hlen'
  cases hg with
  |fresh v=>
   cbv
   repeat'
    (first
      |refine G.n' rfl ?_
      |refine G.s' rfl ?_
      |((refine G.c' (yao ht (by assumption) (nb rfl) (fun r' hs hs2 hr'=>?_) (fun r' hs hr'=>?_) (fun z' r' hs hs2 hr'=>?_)))<;>(try cbv))
      |((refine G.c' (qk ht (by assumption) (nb rfl) (fun r' hs hr'=>?_) (fun r' hs hr'=>?_)))<;>(try cbv))
      |((refine G.c' (vag ht (by assumption) (by assumption) (nb rfl) (fun q=>hf (by simp only[yh,Rs.bind,Ps.need,Ps.take,Ps.needs,Ps.named,Ps.node,bl,bn, *];try exact rfl)) (fun op s k l cl z' r' hs hcl hr'=>?_) (fun z' r' hs hr'=>?_)))<;>(try cbv))
      |((refine G.c' (yy ht (by assumption) (nb rfl) (fun a z' r' hs hr'=>?_) (fun z' r' hs hr'=>?_)))<;>(try cbv))
      |((refine G.c' (jg [] (by subst_vars;exact rfl) (by first|exact .inl rfl|exact .inr rfl) rfl (fun cl hcl=>?_)))<;>(try cbv))
      |((refine G.c' (jg [.mk _ _ _ _] (by subst_vars;exact rfl) (by first|exact .inl rfl|exact .inr rfl) rfl (fun cl hcl=>?_)))<;>(try cbv))
      |((refine G.c' (vk [] (by subst_vars;exact rfl) (by first|exact .inl rfl|exact .inr rfl) rfl (fun cl hcl=>?_)))<;>(try cbv))
      |(((rw[happ];refine G.n' (hroom _) (G.n' (h01 _) ?_);rw[hl2]))<;>(try cbv))
      |fail)
   all_goals first
    |exact hbad _ _ _ _ (by simp only[yh,Rs.bind,Ps.need,Ps.take,Ps.needs,Ps.named,Ps.node,bl,bn, *];try exact rfl) (by assumption) rfl (nb rfl)
    |exact hret _ _ _ (by simp only[yh,Rs.bind,Ps.need,Ps.take,Ps.needs,Ps.named,Ps.node,bl,bn, *];try exact rfl) (by assumption) (.cons rfl (.nil _))
    |exact hcont _ _ _ _ _ _ _ _ _ (by simp only[yh,Rs.bind,Ps.need,Ps.take,Ps.needs,Ps.named,Ps.node,bl,bn, *];try exact rfl) (by assumption) (by assumption) (.cons rfl (.cons rfl (.cons rfl (.nil _)))) rfl
  |own cs n2 hn2=>
   have hq2:=heqc n2 hn2
   cbv
   repeat'
    (first
      |refine G.n' rfl ?_
      |refine G.s' rfl ?_
      |((refine G.c' (yao ht (by assumption) (nb rfl) (fun r' hs hs2 hr'=>?_) (fun r' hs hr'=>?_) (fun z' r' hs hs2 hr'=>?_)))<;>(try cbv))
      |((refine G.c' (qk ht (by assumption) (nb rfl) (fun r' hs hr'=>?_) (fun r' hs hr'=>?_)))<;>(try cbv))
      |((refine G.c' (vag ht (by assumption) (by assumption) (nb rfl) (fun q=>hf (by simp only[yh,Rs.bind,Ps.need,Ps.take,Ps.needs,Ps.named,Ps.node,bl,bn, *];try exact rfl)) (fun op s k l cl z' r' hs hcl hr'=>?_) (fun z' r' hs hr'=>?_)))<;>(try cbv))
      |((refine G.c' (yy ht (by assumption) (nb rfl) (fun a z' r' hs hr'=>?_) (fun z' r' hs hr'=>?_)))<;>(try cbv))
      |((refine G.c' (jg [] (by subst_vars;exact rfl) (by first|exact .inl rfl|exact .inr rfl) rfl (fun cl hcl=>?_)))<;>(try cbv))
      |((refine G.c' (jg [.mk _ _ _ _] (by subst_vars;exact rfl) (by first|exact .inl rfl|exact .inr rfl) rfl (fun cl hcl=>?_)))<;>(try cbv))
      |((refine G.c' (vk [] (by subst_vars;exact rfl) (by first|exact .inl rfl|exact .inr rfl) rfl (fun cl hcl=>?_)))<;>(try cbv))
      |(((rw[happ];refine G.n' (hroom _) (G.n' hq2 ?_);rw[hl2]))<;>(try cbv))
      |fail)
   all_goals first
    |exact hbad _ _ _ _ (by simp only[yh,Rs.bind,Ps.need,Ps.take,Ps.needs,Ps.named,Ps.node,bl,bn, *];try exact rfl) (by assumption) rfl (nb rfl)
    |exact hret _ _ _ (by simp only[yh,Rs.bind,Ps.need,Ps.take,Ps.needs,Ps.named,Ps.node,bl,bn, *];try exact rfl) (by assumption) (.cons rfl (.nil _))
    |exact hcont _ _ _ _ _ _ _ _ _ (by simp only[yh,Rs.bind,Ps.need,Ps.take,Ps.needs,Ps.named,Ps.node,bl,bn, *];try exact rfl) (by assumption) (by assumption) (.cons rfl (.cons rfl (.cons rfl (.nil _)))) rfl
end Go.AM.Ps
