/- The parser's functions: a query's parts. -/
import Derived.Test.YteomefghofhkiaaGreatDoorRdF
set_option maxRecDepth 100000
set_option linter.unusedVariables false
set_option maxHeartbeats 40000000
set_option linter.unusedSimpArgs false
namespace Go.AM.Ps
open Go.Proofs W
inductive NA:AV→Nd→Prop where
 |mk (op s:List UInt8) (k:Int) (e:TypeId) (cs:List AV) (m:Mode) (l:List Nd) (hcs:cs=avL l) (he:e=24∨cs=[]):NA (.agg [.str op,.str s,.int .i64 k,.slice e cs m]) (.mk op s k l)
inductive NL:List AV→List Nd→Prop where
 |nil:NL [] []
 |cons {v:AV} {x:Nd} {cs:List AV} {l:List Nd} (h:NA v x) (t:NL cs l):NL (v::cs) (x::l)
theorem NL.len:∀ {cs:List AV} {l:List Nd},NL cs l→(avL l).length=cs.length
 |_,_,.nil=>rfl
 |_,_,.cons h t=>by simp[avL,t.len]
theorem NA.cell{v:AV}{x:Nd}(h:NA v x)(j:Nat):Sub (Pr.tab real) (nth v.cells j) (nth x.av.cells j):=by
 cases h with
 |mk op s k e cs m l hcs he=>
  match j with
  | 0=>exact Sub.refl _ _
  | 1=>exact Sub.refl _ _
  | 2=>exact Sub.refl _ _
  | 3=>
   show Sub _ (.slice e cs m) (.slice 24 (avL l) .no)
   rw[← hcs]
   rcases he with rfl|rfl
   ·exact xab _ _ _ _
   ·exact xak _ _ _ _
  |j+4=>exact fun _ _ _ h=> .undef _ _
theorem NL.cell:∀ {cs:List AV} {l:List Nd},NL cs l→∀ i j,i<cs.length→Sub (Pr.tab real) (nth (nth cs i).cells j) (nth (nth (avL l) i).cells j)
 |_,_,.nil,i,j,hi=>absurd hi (Nat.not_lt_zero i)
 |_,_,.cons h t,0,j,_=>h.cell j
 |_,_,.cons h t,i+1,j,hi=>by simpa[nth,avL] using t.cell i j (by simpa using hi)
theorem NL.isNode:∀ {cs:List AV} {l:List Nd},NL cs l→∀ i,i<cs.length→∃ a,nth (avL l) i= .agg a∧a.length=4
 |_,_,.nil,i,hi=>absurd hi (Nat.not_lt_zero i)
 |_,_,.cons (x:=x) h t,0,_=>by obtain⟨op,s,n,l⟩:=x;exact⟨_,rfl,rfl⟩
 |_,_,.cons h t,i+1,hi=>by simpa[nth,avL] using t.isNode i (by simpa using hi)
theorem zdz{cs:List AV}{l:List Nd}(h:NL cs l)(m:Mode):Sub (Pr.tab real) (.slice 24 cs m) (.slice 24 (avL l) .no):=by
 intro w g x hr
 have hlen:=h.len
 have hsz:(Pr.tab real).size 24=4:=rfl
 have hag:(Pr.tab real).agg 24=true:=rfl
 cases hr with
 |slice _ _ _ _ a cap b base xs hcap hmax hm ho ha hf hc h1 hD hR=>
  rw[← hlen] at hcap hf hc h1 hD hR ⊢
  refine .slice g 24 (avL l) .no a cap b base xs hcap hmax (fun q=>by cases q) (fun k q=>by cases q) (fun q=>ha fun q2=>q (by rw[q2] at hlen;exact List.eq_nil_of_length_eq_zero hlen)) ?_ hc h1 hD ?_
  ·intro i hi
   obtain⟨c,h2,h3⟩:=h.isNode i (by omega)
   exact .inl ⟨hag,c,h2,h3.trans hsz.symm⟩
  ·intro i j hi hj
   exact h.cell i j (by omega) _ _ _ (hR i j hi hj)
theorem zcq(op s:List UInt8)(k:Int){cs:List AV}(m:Mode){l:List Nd}(h:NL cs l):Sub (Pr.tab real) (.agg [.str op,.str s,.int .i64 k,.slice 24 cs m]) (Nd.mk op s k l).av:=by
 refine zdd rfl fun j hj=>?_
 match j,hj with
 | 0,_=>exact Sub.refl _ _
 | 1,_=>exact Sub.refl _ _
 | 2,_=>exact Sub.refl _ _
 | 3,_=>exact zdz h m
theorem jds(t:List Tk)(r:Rs Nd)(op s:List UInt8)(k:Int)(cs:List AV)(m:Mode)(l:List Nd)(z':Nat)(S':St)(hr:r= .ok (.mk op s k l) z')(hcs:NL cs l)(h:At t z' (S'.row 0))(hn:1≤S'.next) :
 Post t r Nd.av (.ret (.agg [.str op,.str s,.int .i64 k,.slice 24 cs m])) S':=by
 rw[hr]
 exact⟨z',⟨.ret _ _ (zcq op s k m hcs),rfl⟩,h,hn⟩
end Go.AM.Ps
namespace Go.AM.Ps
open Go.Proofs W
theorem Ps.fn108:FnOk Tryz.prog 108 (fni Tryz.f108 Pr.a108):=⟨⟨Tryz.f108,Tryz.func108,rfl,rfl,rfl,by kernel_rfl⟩,by kernel_rfl⟩
theorem yao{t:List Tk}(ht:Toks t){z:Nat}{a b:List UInt8}{S:St}{o:Nat}(h:At t z (S.row o))(ho:o<S.next){K:Out→St→Prop}
 (hyes:∀ r',sees t z a=true→sees t (z+1) b=true→At t (z+1+1) r'→K (.ret (.bool true)) (S.set o r')) (hno:∀ r',sees t z a=false→At t z r'→K (.ret (.bool false)) (S.set o r'))
 (hwr:∀ z' r',sees t z a=true→sees t (z+1) b=false→At t z' r'→K (.panic vg) (S.set o r')) :
 jb Tryz.prog (Pr.tab real) 22 [.ptr o 0,.slice 9 [.str a,.str b] .exact] S K:=by
 refine yb0 ht a [b] (by simp) h ho ?_ ?_
 ·intro x z' r' hx hr'
  unfold take at hx
  split at hx
  ·rename_i hs
   simp only[needs,Ps.need] at hx
   split at hx
   ·rename_i hs2
    simp only[Rs.bind,Rs.ok.injEq] at hx
    obtain⟨rfl,rfl⟩:=hx
    exact hyes r' hs hs2 hr'
   ·cases hx
  ·rename_i hs
   simp only[Rs.ok.injEq] at hx
   obtain⟨rfl,rfl⟩:=hx
   exact hno r' hs hr'
 ·intro z' r' hx hr'
  unfold take at hx
  split at hx
  ·rename_i hs
   simp only[needs,Ps.need] at hx
   split at hx
   ·cases hx
   ·rename_i hs2
    exact hwr z' r' hs hs2 hr'
  ·cases hx
theorem yc4{t:List Tk}(ht:Toks t)(n:Nat)(hn:n≤1000000000)(hexpr:Fn t 83 [] (expr qa t n))(hbody:Fn t 73 [] (body qa t n))(hitem:Fn t 133 [] (item qa t n))(htable:Fn t 134 [] (table qa t n))(z:Nat)(r:List AV)(h:At t z r)(hf:simple qa t (n+1) z= .fuel→False) :
 jb Tryz.prog (Pr.tab real) 108 [.ptr 0 0] (P0 r) (Post t (simple qa t (n+1) z) Nd.av):=by
 have hfin:=fun op s k e cs m l z' S'=>vac t (simple qa t (n+1) z) op s k e cs m l z' S'
 have hbad:=fun z' S'=>qm t (simple qa t (n+1) z) Nd.av z' S'
 have hfin2:=fun op s k cs m l z' S'=>jds t (simple qa t (n+1) z) op s k cs m l z' S'
 generalize Post t (simple qa t (n+1) z) Nd.av=K0 at hfin hbad hfin2 ⊢
 apply ja (un:=0) Pr.tabOk Pr.mixed Ps.fn108 (nb rfl)
 apply qb (mk:=Pr.tab)
 intro fail need _ _ _ _ _ _ _ _ _ eqS _ _ _ _ _ _ _ _ _ _ _ _ _ not _ _ _ G
 have heqS:=G.eqS2
 have hnot:=G.not2
 unfold P0
 cbv
 repeat'
  (first
    |refine G.n' rfl ?_
    |(rw[heqS];(try rw[hnot]);split<;>((first|contradiction|(rename_i hq;(try simp only[Bool.not_eq_true',Bool.not_eq_false'] at hq);rw[hq])|(rename_i hq _;rw[hq])|skip);try cbv))
    |((refine G.c' (zbf ht (by assumption) (nb rfl) (fun hs=>?_) (fun hs=>?_)))<;>(try cbv))
    |((refine G.c' (vag ht (by assumption) (by assumption) (nb rfl) (fun q=>hf (by simp only[simple,optPart,optGroup,Rs.bind,Ps.need,Ps.take,Ps.needs,bl,Ps.named,Ps.node, *];try exact rfl)) (fun op s k l cl z' r' hs hcl hr'=>?_) (fun z' r' hs hr'=>?_)))<;>(try cbv))
    |((refine G.c' (vl ht (by assumption) (nb rfl) (fun r' hs hr'=>?_) (fun z' r' hs hr'=>?_)))<;>(try cbv))
    |((refine G.c' (jai ht [_,_] (by decide) (by assumption) (nb rfl) (fun a z' r' hs hr'=>?_)))<;>(try cbv))
    |((refine G.c' (zay ht hitem hn (by assumption) (nb rfl) (fun q=>hf (by simp only[simple,optPart,optGroup,Rs.bind,Ps.need,Ps.take,Ps.needs,bl,Ps.named,Ps.node, *];try exact rfl)) (fun l cl z' r' hs hcl hr'=>?_) (fun z' r' hs hr'=>?_)))<;>(try cbv))
    |((refine G.c' (zay ht htable hn (by assumption) (nb rfl) (fun q=>hf (by simp only[simple,optPart,optGroup,Rs.bind,Ps.need,Ps.take,Ps.needs,bl,Ps.named,Ps.node, *];try exact rfl)) (fun l cl z' r' hs hcl hr'=>?_) (fun z' r' hs hr'=>?_)))<;>(try cbv))
    |((refine G.c' (zay ht (ybl ht) hn (by assumption) (nb rfl) (fun q=>hf (by simp only[simple,optPart,optGroup,Rs.bind,Ps.need,Ps.take,Ps.needs,bl,Ps.named,Ps.node, *];try exact rfl)) (fun l cl z' r' hs hcl hr'=>?_) (fun z' r' hs hr'=>?_)))<;>(try cbv))
    |((refine G.c' (qk ht (by assumption) (nb rfl) (fun r' hs hr'=>?_) (fun r' hs hr'=>?_)))<;>(try cbv))
    |((refine G.c' (yao ht (by assumption) (nb rfl) (fun r' hs hs2 hr'=>?_) (fun r' hs hr'=>?_) (fun z' r' hs hs2 hr'=>?_)))<;>(try cbv))
    |((refine G.c' (hexpr _ _ 0 _ (by assumption) (nb rfl) (fun q=>hf (by simp only[simple,optPart,optGroup,Rs.bind,Ps.need,Ps.take,Ps.needs,bl,Ps.named,Ps.node, *];try exact rfl)) (fun op s k l cl z' r' hs hcl hr'=>?_) (fun z' r' hs hr'=>?_)))<;>(try cbv))
    |((refine G.c' (jg [] (by subst_vars;exact rfl) (by first|exact .inl rfl|exact .inr rfl) rfl (fun cl hcl=>?_)))<;>(try cbv))
    |((refine G.c' (jg _ (by subst_vars;exact rfl) (by first|exact .inl rfl|exact .inr rfl) rfl (fun cl hcl=>?_)))<;>(try cbv))
    |fail)
 all_goals first
  |exact hbad _ _ (by simp only[simple,optPart,optGroup,Rs.bind,Ps.need,Ps.take,Ps.needs,bl,Ps.named,Ps.node, *];try exact rfl) (by assumption) (nb rfl)
  |exact hfin _ _ _ _ _ _ _ _ _ (by simp only[simple,optPart,optGroup,Rs.bind,Ps.need,Ps.take,Ps.needs,bl,Ps.named,Ps.node, *];try exact rfl) (by subst_vars;exact rfl) (by first|exact .inl rfl|exact .inr rfl) (by assumption) (nb rfl)
  |exact hfin2 _ _ _ _ _ _ _ _ (by simp only[simple,optPart,optGroup,Rs.bind,Ps.need,Ps.take,Ps.needs,bl,Ps.named,Ps.node, *];try exact rfl) (.cons (NA.mk _ _ _ _ _ _ _ (by subst_vars;exact rfl) (by first|exact .inl rfl|exact .inr rfl)) (.cons (NA.mk _ _ _ _ _ _ _ (by subst_vars;exact rfl) (by first|exact .inl rfl|exact .inr rfl)) (.cons (NA.mk _ _ _ _ _ _ _ (by subst_vars;exact rfl) (by first|exact .inl rfl|exact .inr rfl)) (.cons (NA.mk _ _ _ _ _ _ _ (by subst_vars;exact rfl) (by first|exact .inl rfl|exact .inr rfl)) (.cons (NA.mk _ _ _ _ _ _ _ (by subst_vars;exact rfl) (by first|exact .inl rfl|exact .inr rfl)) (.nil)))))) (by assumption) (nb rfl)
end Go.AM.Ps
