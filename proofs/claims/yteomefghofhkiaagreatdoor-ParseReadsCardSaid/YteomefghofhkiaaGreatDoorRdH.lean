/- The parser's functions: expressions, and all that call one another. -/
import Derived.Test.YteomefghofhkiaaGreatDoorRdG
set_option maxRecDepth 100000
set_option maxHeartbeats 40000000
set_option linter.unusedVariables false
set_option linter.unusedSimpArgs false
namespace Go.AM.Ps
open Go.Proofs W
noncomputable def c158:Code:=(fni Tryz.f158 Pr.a158).loop 0
theorem Ps.c158:qf 59 Pr.a158 c158=true:=by kernel_rfl
theorem jde(K:Ex→Env→St→Prop)(env:Env)(S:St)(h:xg (pAlg Tryz.prog (Pr.tab real) 59) (Pr.tab real) Pr.a158 0 c158 (andThen (za Tryz.prog (Pr.tab real) 59 c158 K) K) env S):za Tryz.prog (Pr.tab real) 59 c158 K env S:=
 vc Pr.tabOk Pr.mixed Ps.c158 h
inductive GrowS:TypeId→List AV→Mode→List Int→Prop where
 |nil:GrowS 0 [] .exact []
 |own (cs:List AV) (n:Int) (h:n=cs.length):GrowS 24 cs (.own 0) [n]
theorem GrowS.ty{e:TypeId}{cs:List AV}{m:Mode}{caps:List Int}(h:GrowS e cs m caps):e=24∨cs=[]:=by
 cases h
 ·exact .inr rfl
 ·exact .inl rfl
theorem vb0(l:List Nd)(op s:List UInt8)(k:Int)(l2:List Nd):avL l++[.agg [.str op,.str s,.int .i64 k,.slice 24 (avL l2) .no]]=avL (l++[.mk op s k l2]):=by
 rw[xd l,xd (l++_),List.map_append];rfl
theorem xco{t:List Tk}(ht:Toks t){ex:Nat→Rs Nd}(hex:Fn t 83 [] ex)(K:Ex→Env→St→Prop):∀(n:Nat) (fst:Bool) (l:List Nd) (e:TypeId) (cs:List AV) (mo:Mode) (caps:List Int) (z:Nat) (r:List AV) (S:St),cs=avL l→GrowS e cs mo caps→cs.length+n≤2000000000→At t z r →
      S.row 0=r→S.row 1=zeroN→S.row 2=[.str xy,.str [],.int .i64 0,.slice e cs mo]→(∃ m,S.next=m+3)→S.caps=caps→(qd t ex n none fst l z= .fuel→False) →
      (∀ l' e' cs' m' caps' z' r' O m,qd t ex n none fst l z= .ok l' z'→cs'=avL l'→GrowS e' cs' m' caps'→cs'.length≤2000000000→At t z' r'→K (.exit 0) [(0,.ptr 0 0),(2,.ptr 1 0),(5,.ptr 2 0)] ⟨(0,r')::(1,zeroN)::(2,[.str xy,.str [],.int .i64 0,.slice e' cs' m'])::O,m+3,caps'⟩) →
      (∀ z' r' S',qd t ex n none fst l z= .wrong→At t z' r'→S'.row 0=r'→1≤S'.next→K (.panic vg) [] S') →
      za Tryz.prog (Pr.tab real) 59 c158 (Less K) [(0,.ptr 0 0),(2,.ptr 1 0),(3,.nilp),(5,.ptr 2 0),(6,.bool fst)] S:=by
 intro n
 induction n with
 |zero=>intro fst l e cs mo caps z r S _ _ _ _ _ _ _ _ _ hf;exact(hf rfl).elim
 |succ n ih=>
  intro fst l e cs mo caps z r S hcs hg hlen h hr0 hr1 hr2 hnx hcaps hf hK1 hK2
  obtain⟨m,hm⟩:=hnx
  refine za.front3 ?_
  rw[hr0,hr1,hr2,hm,hcaps]
  obtain⟨O,hO⟩:∃ O,S.objs=O:=⟨_,rfl⟩
  rw[hO]
  clear hr0 hr1 hr2 hm hcaps hO S
  have hexit:∀ env,qd t ex (n+1) none fst l z= .ok l z→qz [(0,.ptr 0 0),(2,.ptr 1 0),(5,.ptr 2 0)] env→Less K (.exit 0) env ⟨(0,r)::(1,zeroN)::(2,[.str xy,.str [],.int .i64 0,.slice e cs mo])::O,m+3,caps⟩:=
   fun env a b=>⟨_,b,hK1 l e cs mo caps z r O m a hcs hg (by omega) h⟩
  have hbad:∀ z' r' env S',qd t ex (n+1) none fst l z= .wrong→At t z' r'→S'.row 0=r'→1≤S'.next→Less K (.panic (.iface 47 (.agg []))) env S':=
   fun z' r' env S' a b c d=>⟨[],.nil _,hK2 z' r' S' a b c d⟩
  have hcont:∀ op2 s2 k2 l2 cl2 (n2:Int) z' r' env S',qd t ex (n+1) none fst l z=qd t ex n none false (l++[.mk op2 s2 k2 l2]) z'→cl2=avL l2→At t z' r'→qz [(0,.ptr 0 0),(2,.ptr 1 0),(3,.nilp),(5,.ptr 2 0),(6,.bool false)] env→S'.row 0=r'→S'.row 1=zeroN→S'.row 2=[.str xy,.str [],.int .i64 0,.slice 24 (cs++[.agg [.str op2,.str s2,.int .i64 k2,.slice 24 cl2 .no]]) (.own 0)]→(∃ m,S'.next=m+3)→S'.caps=[n2]→n2=((cs++[AV.agg [.str op2,.str s2,.int .i64 k2,.slice 24 cl2 .no]]).length:Nat) →
   za Tryz.prog (Pr.tab real) 59 c158 (Less K) env S':=by
   intro op2 s2 k2 l2 cl2 n2 z' r' env S' a hc2 c d e1 f1 g i j hn2
   rw[a] at hf hK1 hK2
   refine za.weak d (ih false (l++[.mk op2 s2 k2 l2]) 24 _ (.own 0) [n2] z' r' S' (by rw[hcs,hc2];exact vb0 l op2 s2 k2 l2) (.own _ n2 hn2) ?_ c e1 f1 g i j hf hK1 hK2)
   rw[List.length_append];simp;omega
  have hlen':cs.length≤2000000000:=by omega
  clear ih hK1 hK2 hlen
  apply jde
  apply xb (mk:=Pr.tab)
  intro fail need _ _ _ len _ _ _ cmp _ eqS _ _ app _ _ _ _ _ _ _ _ _ room not _ _ _ G
  have heqS:=G.eqS2
  have hnot:=G.not2
  have hnn:Nat.beq m m=true:=Nat.beq_refl m
  have hbb:Nat.ble m m=true:=Nat.ble_eq_true_of_le (Nat.le_refl m)
  have happ:∀ x,app cs [x]=cs++[x]:=fun x=>by rw[G.app']
  have hroom:∀ x,room (len (cs++[x])) 64=true:=fun x=>by rw[G.room',G.len'];simp;omega
  have hl2:∀ x,len (cs++[x])=((cs++[x]).length:Nat):=fun x=>by rw[G.len']
  have heqc:∀ n2:Int,n2=cs.length→cmp BinOp.eql n2 (len cs)=true:=fun n2 h=>by rw[G.cmp',G.len',h];simp[vb]
  cbv at hnn hbb
  generalize hL:za Tryz.prog (Pr.tab real) 59 c158 (Less K)=L at *
  generalize hK':Less K=K' at *
  unfold zeroN at *
  clear hL hK' hlen'
  cases fst
  ·cases hg with
   |nil=>
    cbv
    repeat'
     (first
       |refine G.n' rfl ?_
       |refine G.s' rfl ?_
       |(rw[hnn];(try cbv))
       |(rw[hbb];(try cbv))
       |((refine G.c' (zbf ht (by assumption) (nb rfl) (fun hs=>?_) (fun hs=>?_)))<;>(try cbv))
       |((refine G.c' (vl ht (by assumption) (nb rfl) (fun r' hs hr'=>?_) (fun z' r' hs hr'=>?_)))<;>(try cbv))
       |((refine G.c' (hex _ _ 0 _ (by assumption) (nb rfl) (fun q=>hf (by simp only[qd,Rs.bind,Ps.need,Ps.take,Ps.needs,Ps.named,Ps.node,bl, *];try exact rfl)) (fun op s k l cl z' r' hs hcl hr'=>?_) (fun z' r' hs hr'=>?_)))<;>(try cbv))
       |((refine G.c' (jg [.mk _ _ _ _,.mk _ _ _ _] (by subst_vars;exact rfl) (by first|exact .inl rfl|exact .inr rfl) rfl (fun cl hcl=>?_)))<;>(try cbv))
       |(((rw[happ];refine G.n' (hroom _) ?_;rw[hl2]))<;>(try cbv))
       |(rw[hnot];(try cbv))
       |fail)
    all_goals first
     |exact absurd (Eq.trans (Eq.symm (show sees t z k_when=true by assumption)) (show sees t z k_when=false by assumption)) (by decide)
     |exact hexit _ (by simp only[qd,Rs.bind,Ps.need,Ps.take,Ps.needs,Ps.named,Ps.node,bl, *];try exact rfl) (.cons rfl (.cons rfl (.cons rfl (.nil _))))
     |exact hbad _ _ _ _ (by simp only[qd,Rs.bind,Ps.need,Ps.take,Ps.needs,Ps.named,Ps.node,bl, *];try exact rfl) (by assumption) rfl (nb rfl)
     |exact hcont _ _ _ _ _ _ _ _ _ _ (by simp only[qd,Rs.bind,Ps.need,Ps.take,Ps.needs,Ps.named,Ps.node,bl, *];try exact rfl) (by assumption) (by assumption) (.cons rfl (.cons rfl (.cons rfl (.cons rfl (.cons rfl (.nil _)))))) rfl rfl rfl ⟨_,rfl⟩ rfl rfl
   |own cs n2 hn2=>
    have hq2:=heqc n2 hn2
    cbv
    repeat'
     (first
       |refine G.n' rfl ?_
       |refine G.s' rfl ?_
       |(rw[hnn];(try cbv))
       |(rw[hbb];(try cbv))
       |((refine G.c' (zbf ht (by assumption) (nb rfl) (fun hs=>?_) (fun hs=>?_)))<;>(try cbv))
       |((refine G.c' (vl ht (by assumption) (nb rfl) (fun r' hs hr'=>?_) (fun z' r' hs hr'=>?_)))<;>(try cbv))
       |((refine G.c' (hex _ _ 0 _ (by assumption) (nb rfl) (fun q=>hf (by simp only[qd,Rs.bind,Ps.need,Ps.take,Ps.needs,Ps.named,Ps.node,bl, *];try exact rfl)) (fun op s k l cl z' r' hs hcl hr'=>?_) (fun z' r' hs hr'=>?_)))<;>(try cbv))
       |((refine G.c' (jg [.mk _ _ _ _,.mk _ _ _ _] (by subst_vars;exact rfl) (by first|exact .inl rfl|exact .inr rfl) rfl (fun cl hcl=>?_)))<;>(try cbv))
       |(((rw[happ];refine G.n' (hroom _) (G.n' hq2 ?_);rw[hl2]))<;>(try cbv))
       |(rw[hnot];(try cbv))
       |fail)
    all_goals first
     |exact absurd (Eq.trans (Eq.symm (show sees t z k_when=true by assumption)) (show sees t z k_when=false by assumption)) (by decide)
     |exact hexit _ (by simp only[qd,Rs.bind,Ps.need,Ps.take,Ps.needs,Ps.named,Ps.node,bl, *];try exact rfl) (.cons rfl (.cons rfl (.cons rfl (.nil _))))
     |exact hbad _ _ _ _ (by simp only[qd,Rs.bind,Ps.need,Ps.take,Ps.needs,Ps.named,Ps.node,bl, *];try exact rfl) (by assumption) rfl (nb rfl)
     |exact hcont _ _ _ _ _ _ _ _ _ _ (by simp only[qd,Rs.bind,Ps.need,Ps.take,Ps.needs,Ps.named,Ps.node,bl, *];try exact rfl) (by assumption) (by assumption) (.cons rfl (.cons rfl (.cons rfl (.cons rfl (.cons rfl (.nil _)))))) rfl rfl rfl ⟨_,rfl⟩ rfl rfl
  ·cases hg with
   |nil=>
    cbv
    repeat'
     (first
       |refine G.n' rfl ?_
       |refine G.s' rfl ?_
       |(rw[hnn];(try cbv))
       |(rw[hbb];(try cbv))
       |((refine G.c' (vl ht (by assumption) (nb rfl) (fun r' hs hr'=>?_) (fun z' r' hs hr'=>?_)))<;>(try cbv))
       |((refine G.c' (hex _ _ 0 _ (by assumption) (nb rfl) (fun q=>hf (by simp only[qd,Rs.bind,Ps.need,Ps.take,Ps.needs,Ps.named,Ps.node,bl, *];try exact rfl)) (fun op s k l cl z' r' hs hcl hr'=>?_) (fun z' r' hs hr'=>?_)))<;>(try cbv))
       |((refine G.c' (jg [.mk _ _ _ _,.mk _ _ _ _] (by subst_vars;exact rfl) (by first|exact .inl rfl|exact .inr rfl) rfl (fun cl hcl=>?_)))<;>(try cbv))
       |(((rw[happ];refine G.n' (hroom _) ?_;rw[hl2]))<;>(try cbv))
       |(rw[hnot];(try cbv))
       |fail)
    all_goals first
     |exact hbad _ _ _ _ (by simp only[qd,Rs.bind,Ps.need,Ps.take,Ps.needs,Ps.named,Ps.node,bl, *];try exact rfl) (by assumption) rfl (nb rfl)
     |exact hcont _ _ _ _ _ _ _ _ _ _ (by simp only[qd,Rs.bind,Ps.need,Ps.take,Ps.needs,Ps.named,Ps.node,bl, *];try exact rfl) (by assumption) (by assumption) (.cons rfl (.cons rfl (.cons rfl (.cons rfl (.cons rfl (.nil _)))))) rfl rfl rfl ⟨_,rfl⟩ rfl rfl
   |own cs n2 hn2=>
    have hq2:=heqc n2 hn2
    cbv
    repeat'
     (first
       |refine G.n' rfl ?_
       |refine G.s' rfl ?_
       |(rw[hnn];(try cbv))
       |(rw[hbb];(try cbv))
       |((refine G.c' (vl ht (by assumption) (nb rfl) (fun r' hs hr'=>?_) (fun z' r' hs hr'=>?_)))<;>(try cbv))
       |((refine G.c' (hex _ _ 0 _ (by assumption) (nb rfl) (fun q=>hf (by simp only[qd,Rs.bind,Ps.need,Ps.take,Ps.needs,Ps.named,Ps.node,bl, *];try exact rfl)) (fun op s k l cl z' r' hs hcl hr'=>?_) (fun z' r' hs hr'=>?_)))<;>(try cbv))
       |((refine G.c' (jg [.mk _ _ _ _,.mk _ _ _ _] (by subst_vars;exact rfl) (by first|exact .inl rfl|exact .inr rfl) rfl (fun cl hcl=>?_)))<;>(try cbv))
       |(((rw[happ];refine G.n' (hroom _) (G.n' hq2 ?_);rw[hl2]))<;>(try cbv))
       |(rw[hnot];(try cbv))
       |fail)
    all_goals first
     |exact hbad _ _ _ _ (by simp only[qd,Rs.bind,Ps.need,Ps.take,Ps.needs,Ps.named,Ps.node,bl, *];try exact rfl) (by assumption) rfl (nb rfl)
     |exact hcont _ _ _ _ _ _ _ _ _ _ (by simp only[qd,Rs.bind,Ps.need,Ps.take,Ps.needs,Ps.named,Ps.node,bl, *];try exact rfl) (by assumption) (by assumption) (.cons rfl (.cons rfl (.cons rfl (.cons rfl (.cons rfl (.nil _)))))) rfl rfl rfl ⟨_,rfl⟩ rfl rfl
theorem jco{t:List Tk}(ht:Toks t){ex:Nat→Rs Nd}(hex:Fn t 83 [] ex)(op0 s0:List UInt8)(k0:Int)(l0:List Nd)(cl0:List AV)(hc0:cl0=avL l0)(K:Ex→Env→St→Prop):∀(n:Nat) (fst:Bool) (l:List Nd) (e:TypeId) (cs:List AV) (mo:Mode) (caps:List Int) (z:Nat) (r:List AV) (S:St),cs=avL l→GrowS e cs mo caps→cs.length+n≤2000000000→At t z r →
      S.row 0=r→S.row 1=zeroN→S.row 2=[.str op0,.str s0,.int .i64 k0,.slice 24 cl0 .no]→S.row 3=[.str xy,.str [],.int .i64 0,.slice e cs mo]→(∃ m,S.next=m+4)→S.caps=caps→(qd t ex n (some (.mk op0 s0 k0 l0)) fst l z= .fuel→False) →
      (∀ l' e' cs' m' caps' z' r' O m,qd t ex n (some (.mk op0 s0 k0 l0)) fst l z= .ok l' z'→cs'=avL l'→GrowS e' cs' m' caps'→cs'.length≤2000000000→At t z' r'→K (.exit 0) [(0,.ptr 0 0),(2,.ptr 1 0),(5,.ptr 3 0)] ⟨(0,r')::(1,zeroN)::(2,[.str op0,.str s0,.int .i64 k0,.slice 24 cl0 .no])::(3,[.str xy,.str [],.int .i64 0,.slice e' cs' m'])::O,m+4,caps'⟩) →
      (∀ z' r' S',qd t ex n (some (.mk op0 s0 k0 l0)) fst l z= .wrong→At t z' r'→S'.row 0=r'→1≤S'.next→K (.panic vg) [] S') →
      za Tryz.prog (Pr.tab real) 59 c158 (Less K) [(0,.ptr 0 0),(2,.ptr 1 0),(3,.ptr 2 0),(5,.ptr 3 0),(6,.bool fst)] S:=by
 intro n
 induction n with
 |zero=>intro fst l e cs mo caps z r S _ _ _ _ _ _ _ _ _ _ hf;exact(hf rfl).elim
 |succ n ih=>
  intro fst l e cs mo caps z r S hcs hg hlen h hr0 hr1 hro hr2 hnx hcaps hf hK1 hK2
  obtain⟨m,hm⟩:=hnx
  refine za.front4 ?_
  rw[hr0,hr1,hro,hr2,hm,hcaps]
  obtain⟨O,hO⟩:∃ O,S.objs=O:=⟨_,rfl⟩
  rw[hO]
  clear hr0 hr1 hro hr2 hm hcaps hO S
  have hexit:∀ env,qd t ex (n+1) (some (.mk op0 s0 k0 l0)) fst l z= .ok l z→qz [(0,.ptr 0 0),(2,.ptr 1 0),(5,.ptr 3 0)] env→Less K (.exit 0) env ⟨(0,r)::(1,zeroN)::(2,[.str op0,.str s0,.int .i64 k0,.slice 24 cl0 .no])::(3,[.str xy,.str [],.int .i64 0,.slice e cs mo])::O,m+4,caps⟩:=
   fun env a b=>⟨_,b,hK1 l e cs mo caps z r O m a hcs hg (by omega) h⟩
  have hbad:∀ z' r' env S',qd t ex (n+1) (some (.mk op0 s0 k0 l0)) fst l z= .wrong→At t z' r'→S'.row 0=r'→1≤S'.next→Less K (.panic (.iface 47 (.agg []))) env S':=
   fun z' r' env S' a b c d=>⟨[],.nil _,hK2 z' r' S' a b c d⟩
  have hcont:∀ op2 s2 k2 l2 cl2 (n2:Int) z' r' env S',qd t ex (n+1) (some (.mk op0 s0 k0 l0)) fst l z=qd t ex n (some (.mk op0 s0 k0 l0)) false (l++[.mk op2 s2 k2 l2]) z'→cl2=avL l2→At t z' r'→qz [(0,.ptr 0 0),(2,.ptr 1 0),(3,.ptr 2 0),(5,.ptr 3 0),(6,.bool false)] env→S'.row 0=r'→S'.row 1=zeroN→S'.row 2=[.str op0,.str s0,.int .i64 k0,.slice 24 cl0 .no]→S'.row 3=[.str xy,.str [],.int .i64 0,.slice 24 (cs++[.agg [.str op2,.str s2,.int .i64 k2,.slice 24 cl2 .no]]) (.own 0)]→(∃ m,S'.next=m+4)→S'.caps=[n2]→n2=((cs++[AV.agg [.str op2,.str s2,.int .i64 k2,.slice 24 cl2 .no]]).length:Nat) →
   za Tryz.prog (Pr.tab real) 59 c158 (Less K) env S':=by
   intro op2 s2 k2 l2 cl2 n2 z' r' env S' a hc2 c d e1 f1 x g i j hn2
   rw[a] at hf hK1 hK2
   refine za.weak d (ih false (l++[.mk op2 s2 k2 l2]) 24 _ (.own 0) [n2] z' r' S' (by rw[hcs,hc2];exact vb0 l op2 s2 k2 l2) (.own _ n2 hn2) ?_ c e1 f1 x g i j hf hK1 hK2)
   rw[List.length_append];simp;omega
  have hlen':cs.length≤2000000000:=by omega
  clear ih hK1 hK2 hlen
  apply jde
  apply xb (mk:=Pr.tab)
  intro fail need _ _ _ len _ _ _ cmp _ eqS _ _ app _ _ _ _ _ _ _ _ _ room not _ _ _ G
  have heqS:=G.eqS2
  have hnot:=G.not2
  have hnn:Nat.beq m m=true:=Nat.beq_refl m
  have hbb:Nat.ble m m=true:=Nat.ble_eq_true_of_le (Nat.le_refl m)
  have happ:∀ x,app cs [x]=cs++[x]:=fun x=>by rw[G.app']
  have hroom:∀ x,room (len (cs++[x])) 64=true:=fun x=>by rw[G.room',G.len'];simp;omega
  have hl2:∀ x,len (cs++[x])=((cs++[x]).length:Nat):=fun x=>by rw[G.len']
  have heqc:∀ n2:Int,n2=cs.length→cmp BinOp.eql n2 (len cs)=true:=fun n2 h=>by rw[G.cmp',G.len',h];simp[vb]
  cbv at hnn hbb
  generalize hL:za Tryz.prog (Pr.tab real) 59 c158 (Less K)=L at *
  generalize hK':Less K=K' at *
  unfold zeroN at *
  clear hL hK' hlen'
  cases fst
  ·cases hg with
   |nil=>
    cbv
    repeat'
     (first
       |refine G.n' rfl ?_
       |refine G.s' rfl ?_
       |(rw[hnn];(try cbv))
       |(rw[hbb];(try cbv))
       |((refine G.c' (zbf ht (by assumption) (nb rfl) (fun hs=>?_) (fun hs=>?_)))<;>(try cbv))
       |((refine G.c' (vl ht (by assumption) (nb rfl) (fun r' hs hr'=>?_) (fun z' r' hs hr'=>?_)))<;>(try cbv))
       |((refine G.c' (hex _ _ 0 _ (by assumption) (nb rfl) (fun q=>hf (by simp only[qd,Rs.bind,Ps.need,Ps.take,Ps.needs,Ps.named,Ps.node,bl, *];try exact rfl)) (fun op s k l cl z' r' hs hcl hr'=>?_) (fun z' r' hs hr'=>?_)))<;>(try cbv))
       |((refine G.c' (jg [.mk _ _ _ _,.mk _ _ _ _] (by subst_vars;exact rfl) (by first|exact .inl rfl|exact .inr rfl) rfl (fun cl hcl=>?_)))<;>(try cbv))
       |(((rw[happ];refine G.n' (hroom _) ?_;rw[hl2]))<;>(try cbv))
       |(rw[hnot];(try cbv))
       |fail)
    all_goals first
     |exact absurd (Eq.trans (Eq.symm (show sees t z k_when=true by assumption)) (show sees t z k_when=false by assumption)) (by decide)
     |exact hexit _ (by simp only[qd,Rs.bind,Ps.need,Ps.take,Ps.needs,Ps.named,Ps.node,bl, *];try exact rfl) (.cons rfl (.cons rfl (.cons rfl (.nil _))))
     |exact hbad _ _ _ _ (by simp only[qd,Rs.bind,Ps.need,Ps.take,Ps.needs,Ps.named,Ps.node,bl, *];try exact rfl) (by assumption) rfl (nb rfl)
     |exact hcont _ _ _ _ _ _ _ _ _ _ (by simp only[qd,Rs.bind,Ps.need,Ps.take,Ps.needs,Ps.named,Ps.node,bl, *];try exact rfl) (by assumption) (by assumption) (.cons rfl (.cons rfl (.cons rfl (.cons rfl (.cons rfl (.nil _)))))) rfl rfl rfl rfl ⟨_,rfl⟩ rfl rfl
   |own cs n2 hn2=>
    have hq2:=heqc n2 hn2
    cbv
    repeat'
     (first
       |refine G.n' rfl ?_
       |refine G.s' rfl ?_
       |(rw[hnn];(try cbv))
       |(rw[hbb];(try cbv))
       |((refine G.c' (zbf ht (by assumption) (nb rfl) (fun hs=>?_) (fun hs=>?_)))<;>(try cbv))
       |((refine G.c' (vl ht (by assumption) (nb rfl) (fun r' hs hr'=>?_) (fun z' r' hs hr'=>?_)))<;>(try cbv))
       |((refine G.c' (hex _ _ 0 _ (by assumption) (nb rfl) (fun q=>hf (by simp only[qd,Rs.bind,Ps.need,Ps.take,Ps.needs,Ps.named,Ps.node,bl, *];try exact rfl)) (fun op s k l cl z' r' hs hcl hr'=>?_) (fun z' r' hs hr'=>?_)))<;>(try cbv))
       |((refine G.c' (jg [.mk _ _ _ _,.mk _ _ _ _] (by subst_vars;exact rfl) (by first|exact .inl rfl|exact .inr rfl) rfl (fun cl hcl=>?_)))<;>(try cbv))
       |(((rw[happ];refine G.n' (hroom _) (G.n' hq2 ?_);rw[hl2]))<;>(try cbv))
       |(rw[hnot];(try cbv))
       |fail)
    all_goals first
     |exact absurd (Eq.trans (Eq.symm (show sees t z k_when=true by assumption)) (show sees t z k_when=false by assumption)) (by decide)
     |exact hexit _ (by simp only[qd,Rs.bind,Ps.need,Ps.take,Ps.needs,Ps.named,Ps.node,bl, *];try exact rfl) (.cons rfl (.cons rfl (.cons rfl (.nil _))))
     |exact hbad _ _ _ _ (by simp only[qd,Rs.bind,Ps.need,Ps.take,Ps.needs,Ps.named,Ps.node,bl, *];try exact rfl) (by assumption) rfl (nb rfl)
     |exact hcont _ _ _ _ _ _ _ _ _ _ (by simp only[qd,Rs.bind,Ps.need,Ps.take,Ps.needs,Ps.named,Ps.node,bl, *];try exact rfl) (by assumption) (by assumption) (.cons rfl (.cons rfl (.cons rfl (.cons rfl (.cons rfl (.nil _)))))) rfl rfl rfl rfl ⟨_,rfl⟩ rfl rfl
  ·cases hg with
   |nil=>
    cbv
    repeat'
     (first
       |refine G.n' rfl ?_
       |refine G.s' rfl ?_
       |(rw[hnn];(try cbv))
       |(rw[hbb];(try cbv))
       |((refine G.c' (vl ht (by assumption) (nb rfl) (fun r' hs hr'=>?_) (fun z' r' hs hr'=>?_)))<;>(try cbv))
       |((refine G.c' (hex _ _ 0 _ (by assumption) (nb rfl) (fun q=>hf (by simp only[qd,Rs.bind,Ps.need,Ps.take,Ps.needs,Ps.named,Ps.node,bl, *];try exact rfl)) (fun op s k l cl z' r' hs hcl hr'=>?_) (fun z' r' hs hr'=>?_)))<;>(try cbv))
       |((refine G.c' (jg [.mk _ _ _ _,.mk _ _ _ _] (by subst_vars;exact rfl) (by first|exact .inl rfl|exact .inr rfl) rfl (fun cl hcl=>?_)))<;>(try cbv))
       |(((rw[happ];refine G.n' (hroom _) ?_;rw[hl2]))<;>(try cbv))
       |(rw[hnot];(try cbv))
       |fail)
    all_goals first
     |exact hbad _ _ _ _ (by simp only[qd,Rs.bind,Ps.need,Ps.take,Ps.needs,Ps.named,Ps.node,bl, *];try exact rfl) (by assumption) rfl (nb rfl)
     |exact hcont _ _ _ _ _ _ _ _ _ _ (by simp only[qd,Rs.bind,Ps.need,Ps.take,Ps.needs,Ps.named,Ps.node,bl, *];try exact rfl) (by assumption) (by assumption) (.cons rfl (.cons rfl (.cons rfl (.cons rfl (.cons rfl (.nil _)))))) rfl rfl rfl rfl ⟨_,rfl⟩ rfl rfl
   |own cs n2 hn2=>
    have hq2:=heqc n2 hn2
    cbv
    repeat'
     (first
       |refine G.n' rfl ?_
       |refine G.s' rfl ?_
       |(rw[hnn];(try cbv))
       |(rw[hbb];(try cbv))
       |((refine G.c' (vl ht (by assumption) (nb rfl) (fun r' hs hr'=>?_) (fun z' r' hs hr'=>?_)))<;>(try cbv))
       |((refine G.c' (hex _ _ 0 _ (by assumption) (nb rfl) (fun q=>hf (by simp only[qd,Rs.bind,Ps.need,Ps.take,Ps.needs,Ps.named,Ps.node,bl, *];try exact rfl)) (fun op s k l cl z' r' hs hcl hr'=>?_) (fun z' r' hs hr'=>?_)))<;>(try cbv))
       |((refine G.c' (jg [.mk _ _ _ _,.mk _ _ _ _] (by subst_vars;exact rfl) (by first|exact .inl rfl|exact .inr rfl) rfl (fun cl hcl=>?_)))<;>(try cbv))
       |(((rw[happ];refine G.n' (hroom _) (G.n' hq2 ?_);rw[hl2]))<;>(try cbv))
       |(rw[hnot];(try cbv))
       |fail)
    all_goals first
     |exact hbad _ _ _ _ (by simp only[qd,Rs.bind,Ps.need,Ps.take,Ps.needs,Ps.named,Ps.node,bl, *];try exact rfl) (by assumption) rfl (nb rfl)
     |exact hcont _ _ _ _ _ _ _ _ _ _ (by simp only[qd,Rs.bind,Ps.need,Ps.take,Ps.needs,Ps.named,Ps.node,bl, *];try exact rfl) (by assumption) (by assumption) (.cons rfl (.cons rfl (.cons rfl (.cons rfl (.cons rfl (.nil _)))))) rfl rfl rfl rfl ⟨_,rfl⟩ rfl rfl
end Go.AM.Ps
namespace Go.AM.Ps
open Go.Proofs W
theorem jcx{cs:List AV}{l:List Nd}{op s:List UInt8}{k:Int}{cl:List AV}{l2:List Nd}(h:cs=avL l)(h2:cl=avL l2):cs++[.agg [.str op,.str s,.int .i64 k,.slice 24 cl .no]]=avL (l++[.mk op s k l2]):=by
 rw[h,h2];exact vb0 l op s k l2
theorem jdo{t:List Tk}(ht:Toks t)(n:Nat)(hn:n≤1000000000)(hexpr:Fn t 83 [] (expr qa t n))(z:Nat)(r:List AV)(h:At t z r)(hf:cases qa t (n+1) z= .fuel→False) :
 jb Tryz.prog (Pr.tab real) 158 [.ptr 0 0] (P0 r) (Post t (cases qa t (n+1) z) Nd.av):=by
 have hfin:=fun op s k e cs m l z' S'=>vac t (cases qa t (n+1) z) op s k e cs m l z' S'
 have hbad:=fun z' S'=>qm t (cases qa t (n+1) z) Nd.av z' S'
 generalize Post t (cases qa t (n+1) z) Nd.av=K0 at hfin hbad ⊢
 apply ja (un:=0) Pr.tabOk Pr.mixed Ps.fn158 (nb rfl)
 apply qb (mk:=Pr.tab)
 intro fail need _ _ _ len _ _ _ cmp _ eqS _ _ app _ _ _ _ _ _ _ _ _ room not _ _ _ G
 have heqS:=G.eqS2
 have hnot:=G.not2
 have happ:∀ cs x,app cs [x]=cs++[x]:=fun cs x=>by rw[G.app']
 have hroom:∀(cs:List AV) x,cs.length≤2000000000→room (len (cs++[x])) 64=true:=fun cs x h=>by rw[G.room',G.len'];simp;omega
 have heqc:∀(cs:List AV) (n2:Int),n2=cs.length→cmp BinOp.eql n2 (len cs)=true:=fun cs n2 h=>by rw[G.cmp',G.len',h];simp[vb]
 unfold P0
 cbv
 repeat'
  (first
    |refine G.n' rfl ?_
    |(((rw[hnn]))<;>(try cbv))
    |(((rw[hbb]))<;>(try cbv))
    |((refine G.c' (zbf ht (by assumption) (nb rfl) (fun hs=>?_) (fun hs=>?_)))<;>(try cbv))
    |((refine G.c' (hexpr _ _ 0 _ (by assumption) (nb rfl) (fun q=>hf (by simp only[cases,vu,Rs.bind,Ps.need,Ps.take,Ps.needs,bl,Ps.named,Ps.node, *];try exact rfl)) (fun op s k l cl z' r' hs hcl hr'=>?_) (fun z' r' hs hr'=>?_)))<;>(try cbv))
    |((refine G.c' (vcs xy _ _ _ rfl _ _ ?_))<;>(try cbv))
    |(((refine G.l' ?_;change za Tryz.prog (Pr.tab real) 59 c158 _ _ _;refine za.relax (za.weak (.cons rfl (.cons rfl (.cons rfl (.cons rfl (.cons rfl (.nil _)))))) (xco ht hexpr _ n true [] 0 [] .exact [] _ _ _ rfl .nil (by simp;omega) (by assumption) rfl rfl rfl ⟨_,rfl⟩ rfl (fun q=>hf (by simp only[cases,vu,Rs.bind,Ps.need,Ps.take,Ps.needs,bl,Ps.named,Ps.node, *];try exact rfl)) (fun l' e' cs' m' caps' z' r' O m hs hcl hg hlen hr'=>?_) (fun z' r' S' hs hr' e0 en=>?_)))<;>(first|(cases hg<;>(have hnn:Nat.beq m m=true:=Nat.beq_refl m;have hbb:Nat.ble m m=true:=Nat.ble_eq_true_of_le (Nat.le_refl m);cbv at hnn hbb))|skip)))<;>(try cbv))
    |(((refine G.l' ?_;change za Tryz.prog (Pr.tab real) 59 c158 _ _ _;refine za.relax (za.weak (.cons rfl (.cons rfl (.cons rfl (.cons rfl (.cons rfl (.nil _)))))) (jco ht hexpr _ _ _ _ _ (by assumption) _ n true [] 0 [] .exact [] _ _ _ rfl .nil (by simp;omega) (by assumption) rfl rfl rfl rfl ⟨_,rfl⟩ rfl (fun q=>hf (by simp only[cases,vu,Rs.bind,Ps.need,Ps.take,Ps.needs,bl,Ps.named,Ps.node, *];try exact rfl)) (fun l' e' cs' m' caps' z' r' O m hs hcl hg hlen hr'=>?_) (fun z' r' S' hs hr' e0 en=>?_)))<;>(first|(cases hg<;>(have hnn:Nat.beq m m=true:=Nat.beq_refl m;have hbb:Nat.ble m m=true:=Nat.ble_eq_true_of_le (Nat.le_refl m);cbv at hnn hbb))|skip)))<;>(try cbv))
    |((refine G.c' (qk ht (by assumption) (nb rfl) (fun r' hs hr'=>?_) (fun r' hs hr'=>?_)))<;>(try cbv))
    |((refine G.c' (vl ht (by assumption) (nb rfl) (fun r' hs hr'=>?_) (fun z' r' hs hr'=>?_)))<;>(try cbv))
    |((refine G.c' (jg [] (by subst_vars;exact rfl) (by first|exact .inl rfl|exact .inr rfl) rfl (fun cl hcl=>?_)))<;>(try cbv))
    |(((rw[happ];refine G.n' (hroom _ _ (by assumption)) (G.n' (heqc _ _ (by assumption)) ?_)))<;>(try cbv))
    |(((rw[happ];refine G.n' (hroom _ _ (by assumption)) ?_))<;>(try cbv))
    |(rw[hnot];(try cbv))
    |fail)
 all_goals first
  |exact hbad _ _ (by simp only[cases,vu,Rs.bind,Ps.need,Ps.take,Ps.needs,bl,Ps.named,Ps.node, *];try exact rfl) (by assumption) (nb rfl)
  |exact hfin _ _ _ _ _ _ _ _ _ (by simp only[cases,vu,Rs.bind,Ps.need,Ps.take,Ps.needs,bl,Ps.named,Ps.node, *];try exact rfl) (jcx (by assumption) (by assumption)) (.inl rfl) (by assumption) (nb rfl)
  |exact hbad _ _ (by simp only[cases,vu,Rs.bind,Ps.need,Ps.take,Ps.needs,bl,Ps.named,Ps.node, *];try exact rfl) (by rw[show St.row _ 0=_ by assumption];assumption) (by assumption)
end Go.AM.Ps
namespace Go.AM.Ps
open Go.Proofs W
theorem qdo{t:List Tk}(ht:Toks t)(n:Nat)(hn:n≤1000000000)(L:Int)(hf3:Fn t 137 [.int .i64 3] (first qa t n 3))(hf7:Fn t 137 [.int .i64 7] (first qa t n 7))(htest:Fn t 150 [] (test qa t n))(hprim:Fn t 151 [] (primary qa t n))(z:Nat)(r:List AV)(h:At t z r)(hf:first qa t (n+1) L z= .fuel→False) :
 jb Tryz.prog (Pr.tab real) 137 [.ptr 0 0,.int .i64 L] (P0 r) (Post t (first qa t (n+1) L z) Nd.av):=by
 have hfin:=fun op s k e cs m l z' S'=>vac t (first qa t (n+1) L z) op s k e cs m l z' S'
 have hbad:=fun z' S'=>qm t (first qa t (n+1) L z) Nd.av z' S'
 generalize Post t (first qa t (n+1) L z) Nd.av=K0 at hfin hbad ⊢
 apply ja (un:=0) Pr.tabOk Pr.mixed Ps.fn137 (nb rfl)
 apply qb (mk:=Pr.tab)
 intro fail need _ _ _ _ _ _ _ cmp _ eqS _ _ _ _ _ _ _ _ _ _ _ _ _ not _ _ _ G
 have heqS:=G.eqS2
 have hnot:=G.not2
 have hle3:cmp BinOp.leq L 3=decide (L≤3):=by rw[G.cmp'];rfl
 have hle4:cmp BinOp.leq L 4=decide (L≤4):=by rw[G.cmp'];rfl
 cases hb3:decide (L≤3)<;>cases hb4:decide (L≤4)
 all_goals unfold P0
 all_goals cbv
 all_goals repeat'
  (first
    |refine G.n' rfl ?_
    |(((rw[hle3,hb3]))<;>(try cbv))
    |(((rw[hle4,hb4]))<;>(try cbv))
    |((refine G.c' (qk ht (by assumption) (nb rfl) (fun r' hs hr'=>?_) (fun r' hs hr'=>?_)))<;>(try cbv))
    |((refine G.c' (hf3 _ _ 0 _ (by assumption) (nb rfl) (fun q=>hf (by simp only[first,Rs.bind,Ps.need,Ps.take,Ps.needs,bl,Ps.named,Ps.node, *];try exact rfl)) (fun op s k l cl z' r' hs hcl hr'=>?_) (fun z' r' hs hr'=>?_)))<;>(try cbv))
    |((refine G.c' (hf7 _ _ 0 _ (by assumption) (nb rfl) (fun q=>hf (by simp only[first,Rs.bind,Ps.need,Ps.take,Ps.needs,bl,Ps.named,Ps.node, *];try exact rfl)) (fun op s k l cl z' r' hs hcl hr'=>?_) (fun z' r' hs hr'=>?_)))<;>(try cbv))
    |((refine G.c' (htest _ _ 0 _ (by assumption) (nb rfl) (fun q=>hf (by simp only[first,Rs.bind,Ps.need,Ps.take,Ps.needs,bl,Ps.named,Ps.node, *];try exact rfl)) (fun op s k l cl z' r' hs hcl hr'=>?_) (fun z' r' hs hr'=>?_)))<;>(try cbv))
    |((refine G.c' (hprim _ _ 0 _ (by assumption) (nb rfl) (fun q=>hf (by simp only[first,Rs.bind,Ps.need,Ps.take,Ps.needs,bl,Ps.named,Ps.node, *];try exact rfl)) (fun op s k l cl z' r' hs hcl hr'=>?_) (fun z' r' hs hr'=>?_)))<;>(try cbv))
    |((refine G.c' (jg [.mk _ _ _ _] (by subst_vars;exact rfl) (by first|exact .inl rfl|exact .inr rfl) rfl (fun cl hcl=>?_)))<;>(try cbv))
    |fail)
 all_goals first
  |exact hbad _ _ (by simp only[first,Rs.bind,Ps.need,Ps.take,Ps.needs,bl,Ps.named,Ps.node, *];try exact rfl) (by assumption) (nb rfl)
  |exact hfin _ _ _ _ _ _ _ _ _ (by simp only[first,Rs.bind,Ps.need,Ps.take,Ps.needs,bl,Ps.named,Ps.node, *];try exact rfl) (by subst_vars;exact rfl) (by first|exact .inl rfl|exact .inr rfl) (by assumption) (nb rfl)
theorem xdo{t:List Tk}(ht:Toks t)(n:Nat)(hn:n≤1000000000)(L:Int)(hL:1≤L∧L≤7)(hb:∀ m,m<n→∀ L',1≤L'∧L'≤7→Fn t 116 [.int .i64 L'] (binds qa t m L'))(hfirst:∀ L',1≤L'∧L'≤7→Fn t 137 [.int .i64 L'] (first qa t n L'))(z:Nat)(r:List AV)(h:At t z r)(hf:binds qa t (n+1) L z= .fuel→False) :
 jb Tryz.prog (Pr.tab real) 116 [.ptr 0 0,.int .i64 L] (P0 r) (Post t (binds qa t (n+1) L z) Nd.av):=by
 have hfin:=fun op s k e cs m l z' S'=>vac t (binds qa t (n+1) L z) op s k e cs m l z' S'
 have hbad:=fun z' S'=>qm t (binds qa t (n+1) L z) Nd.av z' S'
 generalize Post t (binds qa t (n+1) L z) Nd.av=K0 at hfin hbad ⊢
 apply ja (un:=0) Pr.tabOk Pr.mixed Ps.fn116 (nb rfl)
 apply qb (mk:=Pr.tab)
 intro fail need _ _ _ _ _ _ _ _ _ eqS _ _ _ _ _ _ _ _ _ _ _ _ _ not _ _ _ G
 have heqS:=G.eqS2
 have hnot:=G.not2
 unfold P0
 cbv
 repeat'
  (first
    |((refine G.c' ((hfirst L hL) _ _ 0 _ (by assumption) (nb rfl) (fun q=>hf (by simp only[binds,Rs.bind,Ps.need,Ps.take,Ps.needs,bl,Ps.named,Ps.node, *];try exact rfl)) (fun op s k l cl z' r' hs hcl hr'=>?_) (fun z' r' hs hr'=>?_)))<;>(try cbv))
    |(((refine G.l' ?_;change za Tryz.prog (Pr.tab real) 93 c116 _ _ _;refine za.relax (za.weak (show qz [(0,.ptr 0 0),(1,.int .i64 L),(4,.ptr 1 0),(5,.ptr 2 0)] _ from (.cons rfl (.cons rfl (.cons rfl (.cons rfl (.nil _)))))) (vc8 ht L hL _ n hb n (Nat.le_refl n) _ _ _ _ _ _ _ (by assumption) (by assumption) (fun q=>hf (by simp only[binds,Rs.bind,Ps.need,Ps.take,Ps.needs,bl,Ps.named,Ps.node, *];try exact rfl)) (fun op' s' k' l' cl' z' r' hs hcl hr'=>?_) (fun z' r' S' hs hr' e0 en=>?_)))))<;>(try cbv))
    |fail)
 all_goals first
  |exact hbad _ _ (by simp only[binds,Rs.bind,Ps.need,Ps.take,Ps.needs,bl,Ps.named,Ps.node, *];try exact rfl) (by assumption) (nb rfl)
  |exact hfin _ _ _ _ _ _ _ _ _ (by simp only[binds,Rs.bind,Ps.need,Ps.take,Ps.needs,bl,Ps.named,Ps.node, *];try exact rfl) (by subst_vars;exact rfl) (by first|exact .inl rfl|exact .inr rfl) (by assumption) (nb rfl)
  |exact hbad _ _ (by simp only[binds,Rs.bind,Ps.need,Ps.take,Ps.needs,bl,Ps.named,Ps.node, *];try exact rfl) (by rw[show St.row _ 0=_ by assumption];assumption) (by assumption)
structure Parser (t:List Tk) (n:Nat):Prop where
 expr:Fn t 83 [] (expr qa t n)
 exprs:FnL t 82 [] (exprs qa t n)
 binds:∀ L,1≤L∧L≤7→Fn t 116 [.int .i64 L] (binds qa t n L)
 first:∀ L,1≤L∧L≤7→Fn t 137 [.int .i64 L] (first qa t n L)
 test:Fn t 150 [] (test qa t n)
 primary:Fn t 151 [] (primary qa t n)
 primCast:FnC t 159 (primCast qa t n)
 primNullif:FnC t 160 (primNullif qa t n)
 primTotal:∀ w,FnT t 161 w (primTotal qa t n w)
 cases:Fn t 158 [] (cases qa t n)
 body:Fn t 73 [] (body qa t n)
 term:FnC t 107 (term qa t n)
 simple:Fn t 108 [] (simple qa t n)
 item:Fn t 133 [] (item qa t n)
 table:Fn t 134 [] (table qa t n)
 joined:Fn t 148 [] (joined qa t n)
theorem zc3{t:List Tk}(ht:Toks t):∀ n,n≤1000000000→Parser t n:=by
 intro n
 induction n using Nat.strongRecOn with
 |ind n ih=>
  intro hn
  cases n with
  |zero=>
   exact {
    expr:=fun z S o K h ho hf=>(hf (by rw[Ps.expr])).elim
    exprs:=fun z S o K h ho hf=>(hf (by rw[Ps.exprs])).elim
    binds:=fun L hL z S o K h ho hf=>(hf (by rw[Ps.binds])).elim
    first:=fun L hL z S o K h ho hf=>(hf (by rw[Ps.first])).elim
    test:=fun z S o K h ho hf=>(hf (by rw[Ps.test])).elim
    primary:=fun z S o K h ho hf=>(hf (by rw[Ps.primary])).elim
    primCast:=fun z S o o1 K h0 h ho hb ho1 hf=>(hf (by rw[Ps.primCast])).elim
    primNullif:=fun z S o o1 K h0 h ho hb ho1 hf=>(hf (by rw[Ps.primNullif])).elim
    primTotal:=fun w z S o o1 o2 K h0 h1 h2 h ho hb ho1 hw ho2 hf=>(hf (by rw[Ps.primTotal])).elim
    cases:=fun z S o K h ho hf=>(hf (by rw[Ps.cases])).elim
    body:=fun z S o K h ho hf=>(hf (by rw[Ps.body])).elim
    term:=fun z S o o1 K h0 h ho hb ho1 hf=>(hf (by rw[Ps.term])).elim
    simple:=fun z S o K h ho hf=>(hf (by rw[Ps.simple])).elim
    item:=fun z S o K h ho hf=>(hf (by rw[Ps.item])).elim
    table:=fun z S o K h ho hf=>(hf (by rw[Ps.table])).elim
    joined:=fun z S o K h ho hf=>(hf (by rw[Ps.joined])).elim }
  |succ n=>
   have hn':n≤1000000000:=by omega
   have P:=ih n (Nat.lt_succ_self n) hn'
   have hb:∀ m,m<n→∀ L',1≤L'∧L'≤7→Fn t 116 [.int .i64 L'] (binds qa t m L'):=fun m hm=>(ih m (by omega) (by omega)).binds
   have h1:(1:Int)≤1∧(1:Int)≤7:=by omega
   have h3:(1:Int)≤3∧(3:Int)≤7:=by omega
   have h5:(1:Int)≤5∧(5:Int)≤7:=by omega
   have h7:(1:Int)≤7∧(7:Int)≤7:=by omega
   exact {
    expr:=xae (fun _=>rfl) fun z r h hf=>jd7 ht n hn' (P.binds 1 h1) z r h hf
    exprs:=zef (fun _=>rfl) fun z r h hf=>zdo ht n hn' P.expr z r h hf
    binds:=fun L hL=>xae (fun _=>rfl) fun z r h hf=>xdo ht n hn' L hL hb P.first z r h hf
    first:=fun L hL=>xae (fun _=>rfl) fun z r h hf=>qdo ht n hn' L (P.first 3 h3) (P.first 7 h7) P.test P.primary z r h hf
    test:=xae (fun _=>rfl) fun z r h hf=>qd6 ht n hn' (P.binds 5 h5) P.body P.exprs z r h hf
    primary:=xae (fun _=>rfl) fun z r h hf=>zck ht n hn' P.expr P.body P.exprs P.cases P.primCast P.primNullif P.primTotal z r h hf
    primCast:=xcu fun z r h hf=>qb9 ht n hn' P.expr z r h hf
    primNullif:=xcu fun z r h hf=>xbn ht n hn' P.expr z r h hf
    primTotal:=fun w=>vev fun z r h hf=>vby ht n hn' w P.expr z r h hf
    cases:=xae (fun _=>rfl) fun z r h hf=>jdo ht n hn' P.expr z r h hf
    body:=xae (fun _=>rfl) fun z r h hf=>xd7 ht n hn' P.term z r h hf
    term:=xcu fun z r h hf=>zd6 ht n hn' P.simple z r h hf
    simple:=xae (fun _=>rfl) fun z r h hf=>yc4 ht n hn' P.expr P.body P.item P.table z r h hf
    item:=xae (fun _=>rfl) fun z r h hf=>zd7 ht n hn' P.expr z r h hf
    table:=xae (fun _=>rfl) fun z r h hf=>ydm ht n hn' P.expr P.joined z r h hf
    joined:=xae (fun _=>rfl) fun z r h hf=>jc5 ht n hn' P.body P.table z r h hf }
end Go.AM.Ps
