/- The two grammars: what is read in both. -/
import Derived.Test.YteomefghofhkiaaGreatDoorRfPk
import Derived.Test.YteomefghofhkiaaGreatDoorRdPlain
set_option maxRecDepth 100000
set_option maxHeartbeats 4000000
set_option linter.unusedVariables false
set_option linter.unusedSimpArgs false
namespace Go.AM.Rf
open Go.Proofs Go.AM.Ps Go.AM.W
def B(n:Nat):Nat:=30 * n+700
def Sm{α:Type}(n:Nat)(r:Nat→Rs α)(m:Nat→M α):Prop:=∀ N,B n≤N→∀ z,R (r z) (m N) z
structure Sim (t:List Tk) (n:Nat):Prop where
 b1:Sm n (binds qa t n 1) (expr t)
 b2:Sm n (binds qa t n 2) (andE t)
 b3:Sm n (binds qa t n 3) (notE t)
 b5:Sm n (binds qa t n 5) (sum t)
 b6:Sm n (binds qa t n 6) (product t)
 b7:Sm n (binds qa t n 7) (sign t)
 f3:∀ least:Int,least≤3→Sm n (first qa t n least) (notE t)
 f7:∀ least:Int,5≤least→Sm n (first qa t n least) (sign t)
 expr:Sm n (Ps.expr qa t n) (expr t)
 exprs:Sm n (Ps.exprs qa t n) (exprs t)
 test:Sm n (Ps.test qa t n) (test t)
 primary:Sm n (Ps.primary qa t n) (one t)
 primCast:Sm n (Ps.primCast qa t n) fun N=>Rf.bd (Rf.expr t N) fun e=>Rf.bd (must t k_as) fun _=>Rf.bd (typed t) fun ty=>Rf.rt (.mk qa2 [] 0 [ty,e])
 primNullif:Sm n (Ps.primNullif qa t n) fun N=>Rf.bd (Rf.expr t N) fun x=>Rf.bd (must t g_comma) fun _=>Rf.bd (Rf.expr t N) fun y=>Rf.rt (.mk zae [] 0 [x,y])
 total:∀ op z,∀ N,B n≤N→R (within t (Ps.primTotal qa t n op) z) (total t (N+1) op) z
 cases:Sm n (Ps.cases qa t n) (cases t)
 body:Sm n (Ps.body qa t n) (body t)
 term:Sm n (Ps.term qa t n) (term t)
 simple:Sm n (Ps.simple qa t n) (simple t)
 item:Sm n (Ps.item qa t n) (item t)
 table:Sm n (Ps.table qa t n) (table t)
 joined:Sm n (Ps.joined qa t n) (joined t)
theorem xd1{α:Type}(r:Rs α):(r.bind fun a z=> .ok a z)=r:=by cases r<;>rfl
theorem R.zero{α:Type}{r:Rs α}{m:M α}{z:Nat}(h:r= .fuel):R r m z:=by rw[h];trivial
section
variable {t:List Tk}
theorem qd0:Sim t 0:=by
 constructor
 case f3=>exact fun l _ N _ z=>R.zero (by rw[Ps.first])
 case f7=>exact fun l _ N _ z=>R.zero (by rw[Ps.first])
 case total=>
  intro op z N h
  unfold B at h
  rw[Rf.total]
  exact R.need (by obtain⟨M,rfl⟩:∃ M,N=M+9:=⟨N-9,by omega⟩;cases op == k_count;exact D.got (D.got (D.bd D.expr fun a=>D.must (D.rt _)));exact D.got (D.got (D.got (D.bd D.expr fun a=>D.must (D.rt _))))) fun _=>R.zero (by rw[Ps.primTotal];rfl)
 all_goals exact fun N _ z=>R.zero (by first|rw[Ps.binds]|rw[Ps.first]|rw[Ps.expr]|rw[Ps.exprs]|rw[Ps.test]|rw[Ps.primary]|rw[Ps.primCast]|rw[Ps.primNullif]|rw[Ps.cases]|rw[Ps.body]|rw[Ps.term]|rw[Ps.simple]|rw[Ps.item]|rw[Ps.table]|rw[Ps.joined])
theorem zes(hk:Kd t){n:Nat}(P:Sim t n)(Q:∀ m,m<n→Sim t m):Sm (n+1) (binds qa t (n+1) 1) (expr t):=fun N h z=>by
 unfold B at h
 obtain⟨M,rfl⟩:∃ M,N=M+28+1+1:=⟨N-30,by omega⟩
 rw[Ps.binds,Rf.expr,Rf.andE,vt]
 have hM:B n≤M+28:=by unfold B;omega
 exact R.part (P.f3 1 (by decide) _ hM z) (fun a=>D.bd D.chain fun a=>D.chain) fun a z _=>R.more1 hk n _ _ (by omega) (by omega) (fun m hm z=>(Q m hm).b3 _ (by unfold B at *;omega) z) (fun m hm z=>by rw[← Rf.andE];exact(Q m hm).b2 _ (by unfold B at *;omega) z) _ _
theorem qes(hk:Kd t){n:Nat}(P:Sim t n)(Q:∀ m,m<n→Sim t m):Sm (n+1) (binds qa t (n+1) 2) (andE t):=fun N h z=>by
 unfold B at h
 obtain⟨M,rfl⟩:∃ M,N=M+28+1:=⟨N-29,by omega⟩
 rw[Ps.binds,Rf.andE]
 have hM:B n≤M+28:=by unfold B;omega
 exact R.part (P.f3 2 (by decide) _ hM z) (fun a=>D.chain) fun a z _=>R.more2 hk n _ (by omega) (fun m hm z=>(Q m hm).b3 _ (by unfold B at *;omega) z) _ _
theorem bare{n:Nat}{least:Int}(hk:Kd t)(hl:least=3∨least=7){m:M Nd}{z:Nat}(h:R (first qa t n least z) m z):R (binds qa t (n+1) least z) m z:=by
 rw[Ps.binds]
 cases n with
 |zero=>rw[Ps.first];trivial
 |succ n=>
  have:(first qa t (n+1) least z).bind (fun a z=>bindsMore qa t (n+1) least a z)=first qa t (n+1) least z:=by
   rw[show (fun a z=>bindsMore qa t (n+1) least a z)=fun a z=>Rs.ok a z from funext fun a=>funext fun z=>vdl hk hl]
   exact xd1 _
  rw[this]
  exact h
theorem yer(hk:Kd t){n:Nat}(P:Sim t n):Sm (n+1) (binds qa t (n+1) 3) (notE t):=fun N h z=>bare hk (.inl rfl) (P.f3 3 (by decide) _ (by unfold B at *;omega) z)
theorem jer(hk:Kd t){n:Nat}(P:Sim t n):Sm (n+1) (binds qa t (n+1) 7) (sign t):=fun N h z=>bare hk (.inr rfl) (P.f7 7 (by decide) _ (by unfold B at *;omega) z)
theorem ver(hk:Kd t){n:Nat}(P:Sim t n)(Q:∀ m,m<n→Sim t m):Sm (n+1) (binds qa t (n+1) 5) (sum t):=fun N h z=>by
 unfold B at h
 obtain⟨M,rfl⟩:∃ M,N=M+28+1+1:=⟨N-30,by omega⟩
 rw[Ps.binds,Rf.sum,Rf.product,vt]
 have hM:B n≤M+28:=by unfold B;omega
 exact R.part (P.f7 5 (by decide) _ hM z) (fun a=>D.bd D.prodMore fun a=>D.sumMore) fun a z _=>R.more5 hk n _ _ (by omega) (by omega) (fun m hm z=>(Q m hm).b7 _ (by unfold B at *;omega) z) (fun m hm z=>by rw[← Rf.product];exact(Q m hm).b6 _ (by unfold B at *;omega) z) _ _
theorem xer(hk:Kd t){n:Nat}(P:Sim t n)(Q:∀ m,m<n→Sim t m):Sm (n+1) (binds qa t (n+1) 6) (product t):=fun N h z=>by
 unfold B at h
 obtain⟨M,rfl⟩:∃ M,N=M+28+1:=⟨N-29,by omega⟩
 rw[Ps.binds,Rf.product]
 have hM:B n≤M+28:=by unfold B;omega
 exact R.part (P.f7 6 (by decide) _ hM z) (fun a=>D.prodMore) fun a z _=>R.more6 hk n _ (by omega) (fun m hm z=>(Q m hm).b7 _ (by unfold B at *;omega) z) _ _
theorem zer{n:Nat}(P:Sim t n)(least:Int)(hl:least≤3):Sm (n+1) (first qa t (n+1) least) (notE t):=fun N h z=>by
 unfold B at h
 obtain⟨M,rfl⟩:∃ M,N=M+28+1:=⟨N-29,by omega⟩
 have hM:B n≤M+28:=by unfold B;omega
 rw[Ps.first,Rf.notE,decide_eq_true hl,decide_eq_true (show least≤4 by omega),Bool.true_and]
 cases hs:sees t z qah with
 |true=>exact R.got1 hs (R.part (P.f3 3 (by decide) _ hM _) (fun a=>D.rt _) fun a z _=>R.ret _ _)
 |false=>exact R.got0 hs (P.test _ hM _)
theorem qer{n:Nat}(P:Sim t n)(least:Int)(hl:5≤least):Sm (n+1) (first qa t (n+1) least) (sign t):=fun N h z=>by
 unfold B at h
 obtain⟨M,rfl⟩:∃ M,N=M+28+1:=⟨N-29,by omega⟩
 have hM:B n≤M+28:=by unfold B;omega
 rw[Ps.first,Rf.sign,decide_eq_false (show ¬least≤3 by omega),decide_eq_false (show ¬least≤4 by omega),Bool.false_and]
 show R (match sees t z yj with|true=>_|false=>_) _ z
 cases hs:sees t z yj with
 |true=>exact R.got1 hs (R.part (P.f7 7 (by decide) _ hM _) (fun a=>D.rt _) fun a z _=>R.ret _ _)
 |false=>exact R.got0 hs (P.primary _ hM _)
theorem vd0{n:Nat}(P:Sim t n):Sm (n+1) (Ps.expr qa t (n+1)) (expr t):=fun N h z=>by
 rw[Ps.expr]
 exact P.b1 _ (by unfold B at *;omega) z
theorem zdg{n:Nat}(P:Sim t n):Sm (n+1) (Ps.exprs qa t (n+1)) (exprs t):=fun N h z=>by
 unfold B at h
 obtain⟨M,rfl⟩:∃ M,N=M+28+1:=⟨N-29,by omega⟩
 rw[Ps.exprs,Rf.exprs]
 exact R.list (P.expr _ (by unfold B;omega)) (by omega) z
theorem ja2{n:Nat}(P:Sim t n){N:Nat}(h:B n+20≤N)(z:Nat):R (within t (Ps.body qa t n) z) (inner t N) z:=by
 unfold B at h
 obtain⟨M,rfl⟩:∃ M,N=M+18+1:=⟨N-19,by omega⟩
 rw[Rf.inner]
 exact R.within D.body (P.body _ (by unfold B;omega)) z
theorem qdc{n N:Nat}(P:Sim t n)(h:B n+20≤N){α:Type}{f:List Nd→Nat→Rs α}{g:List Nd→M α}(hd:∀ a,D (g a))(hg:∀ a z,R (f a z) (g a) z)(z:Nat):R ((within t (Ps.exprs qa t n) z).bind f) (Rf.bd (must t g_par) fun _=>Rf.bd (exprs t N) fun l=>Rf.bd (must t g_rap) fun _=>g l) z:=by
 unfold B at h
 obtain⟨M,rfl⟩:∃ M,N=M+18+1:=⟨N-19,by omega⟩
 unfold Ps.within
 rw[xq]
 refine R.need (D.bd D.exprs fun a=>D.must (hd _)) fun _=>?_
 rw[xq]
 refine R.part (P.exprs _ (by unfold B;omega) _) (fun a=>D.must (hd _)) fun a z _=>?_
 rw[xq]
 exact R.need (hd _) fun _=>hg _ _
theorem R.compared{n N:Nat}(P:Sim t n)(h:B n+22≤N)(op:List UInt8)(a:Nd)(z:Nat):R ((Ps.one t [vaj,ybn,vbs] z).bind fun q z=>match q == vaj,q == ybn || q == vbs with
      |true,_=>(Ps.within t (Ps.body qa t n) z).bind fun b z=> .ok (Ps.named vaj op [a,b]) z
      |_,true=>(Ps.within t (Ps.body qa t n) z).bind fun b z=> .ok (Ps.named ybn op [a,b]) z
      |_,_=>(binds qa t n 5 z).bind fun b z=> .ok (node op [a,b]) z) (Rf.compared t N op a) z:=by
 have hB:=h
 unfold B at h
 obtain⟨M,rfl⟩:∃ M,N=M+20+1:=⟨N-21,by omega⟩
 rw[Rf.compared]
 have hi:=fun z=>ja2 P (N:=M+20) (by omega) z
 rcases qr t z [vaj,ybn,vbs] with ⟨w,hw,h⟩|h
 ·rw[yah hw h]
  simp only[List.mem_cons,List.not_mem_nil,or_false] at hw
  rcases hw with rfl|rfl|rfl
  ·exact R.got1 h (R.part (hi _) (fun a=>D.rt _) fun b z _=>R.ret _ _)
  ·exact R.got0 (yb h rfl) (R.got1 h (R.part (hi _) (fun a=>D.rt _) fun b z _=>R.ret _ _))
  ·exact R.got0 (yb h rfl) (R.got0 (yb h rfl) (R.got1 h (R.part (hi _) (fun a=>D.rt _) fun b z _=>R.ret _ _)))
 ·rw[xaa h]
  exact R.got0 (h _ (by simp)) (R.got0 (h _ (by simp)) (R.got0 (h _ (by simp)) (R.part (P.b5 _ (by omega) _) (fun a=>D.rt _) fun b z _=>R.ret _ _)))
theorem zd0(hl:t.length≤600){n:Nat}(P:Sim t n):Sm (n+1) (Ps.test qa t (n+1)) (test t):=fun N h z=>by
 unfold B at h
 obtain⟨M,rfl⟩:∃ M,N=M+28+1:=⟨N-29,by omega⟩
 have hM:B n+24≤M+28:=by unfold B;omega
 have hsum:=fun z=>P.b5 (M+28) (by omega) z
 rw[Ps.test,Rf.test]
 refine R.part (hsum z) (fun a=>D.which (D.got (D.got (D.got (D.got (D.got (D.rt _))))))) fun a z _=>?_
 have hd6:∀ w,w ∈ [g_eq,g_ne,g_le,g_ge,g_lt,g_gt]↔w ∈ [g_eq,g_ne,g_lt,g_le,g_gt,g_ge]:=by
  intro w
  simp only[List.mem_cons,List.not_mem_nil,or_false]
  constructor<;>(rintro(rfl|rfl|rfl|rfl|rfl|rfl)<;>simp)
 refine R.which hd6 (fun w hw hs=>?_) (fun hno=>?_)
 ·simp only[List.mem_cons,List.not_mem_nil,or_false] at hw
  rcases hw with rfl|rfl|rfl|rfl|rfl|rfl<;>exact R.compared P (N:=M+28) (by omega) _ a _
 ·refine R.take (fun _=>?_) (fun _=>?_)
  ·refine R.move (m':=Rf.bd (got t qah) fun no=>Rf.bd (whichOf t [jy,qaw,jaj,zal]) fun o=>match o with
    |some w=>rt (turned no (.mk k_is w 0 [a]))
    |none=>Rf.bd setBad fun _=>rt a) rfl (R.take (fun _=>?_) (fun _=>?_))
   all_goals (
    refine R.which (fun w=>Iff.rfl) (fun w hw hs=>?_) (fun hno=>?_)
    ·simp only[List.mem_cons,List.not_mem_nil,or_false] at hw
     rcases hw with rfl|rfl|rfl|rfl<;>exact R.ret _ _
    ·exact R.wrong (D.rt _))
  ·refine R.move (m':=Rf.bd (got t qah) fun no=>Rf.bd (got t yal) fun bt=>match bt with
    |true=>Rf.bd (Rf.sum t (M+28)) fun x=>Rf.bd (must t xaj) fun _=>Rf.bd (Rf.sum t (M+28)) fun y=>rt (turned no (.mk yal [] 0 [a,x,y]))
    |false=>Rf.bd (got t ybs) fun lk=>match lk with
     |true=>Rf.bd (Rf.sum t (M+28)) fun x=>rt (turned no (.mk ybs [] 0 [a,x]))
     |false=>Rf.bd (got t k_in) fun i=>match i with
      |true=>Rf.bd (inE t (M+28) a) fun x=>rt (turned no x)
      |false=>match no with
       |true=>Rf.bd setBad fun _=>rt a
       |false=>rt a) rfl (R.take (fun _=>?_) (fun _=>?_))
   all_goals (
    refine R.take (fun _=>R.part (hsum _) (fun a=>D.must (D.bd D.sum fun a=>D.rt _)) fun b z _=>R.need (D.bd D.sum fun a=>D.rt _) fun _=>R.part (hsum _) (fun a=>D.rt _) fun y z _=>R.ret _ _) (fun _=>?_)
    refine R.take (fun _=>R.part (hsum _) (fun a=>D.rt _) fun b z _=>R.ret _ _) (fun _=>?_)
    refine R.take (fun _=>?_) (fun _=>?_)
    ·rw[show M+28=M+27+1 from rfl,Rf.inE]
     dsimp only
     rw[vt]
     refine R.opens (by omega) (q:=vi t _) rfl ?_
     cases ho:vi t _ with
     |true=>
      dsimp only
      rw[vt]
      exact R.part (ja2 P (N:=M+27) (by omega) _) (fun a=>D.rt _) fun b z _=>R.ret _ _
     |false=>
      dsimp only
      simp only[vt]
      refine qdc P (N:=M+27) (by omega) ?_ ?_ _
      ·exact fun a=>D.rt _
      ·exact fun a z=>R.ret _ _
    ·first|exact R.ret _ _|exact R.wrong (D.rt _))
end
end Go.AM.Rf
namespace Go.AM.Rf
open Go.Proofs Go.AM.Ps Go.AM.W
section
variable {t:List Tk}
theorem xcg(hl:t.length≤600){n:Nat}(P:Sim t n):Sm (n+1) (Ps.primary qa t (n+1)) (one t):=fun N h z=>by
 unfold B at h
 obtain⟨M,rfl⟩:∃ M,N=M+28+1:=⟨N-29,by omega⟩
 have hM:B n≤M:=by unfold B;omega
 rw[Ps.primary,Rf.one]
 refine R.kind (q:=isKind t 1 z) rfl ?_
 cases h1:isKind t 1 z with
 |true=>exact R.number (D.rt _) fun _=>R.ret _ _
 |false=>
 refine R.kind (q:=isKind t 2 z) rfl ?_
 cases h2:isKind t 2 z with
 |true=>rfl
 |false=>
 cases ho:vi t z with
 |true=>
  have hp:=ydj ho
  exact R.got0 (yb hp rfl) (R.got0 (yb hp rfl) (R.got0 (yb hp rfl) (R.opens (by omega) ho (R.part (ja2 P (N:=M+28) (by omega) _) (fun a=>D.rt _) fun b z _=>R.ret _ _))))
 |false=>
 cases hp:sees t z g_par with
 |true=>
  refine R.got0 (yb hp rfl) (R.got0 (yb hp rfl) (R.got0 (yb hp rfl) (R.opens (by omega) ho (R.got1 hp ?_))))
  show R (within t (Ps.expr qa t n) z) _ _
  unfold Ps.within Ps.need
  rw[hp]
  exact R.part (P.expr _ (by omega) _) (fun a=>D.must (D.rt _)) fun e z _=>R.need (D.rt _) fun _=>R.ret _ _
 |false=>
 have hcall:M+28=M+27+1:=rfl
 rcases qr t z [qaw,jaj,jy,qav,xy,qa2,zaf,zae,k_count,jcl,vcl,ycl] with ⟨w,hw,h⟩|h
 ·rw[yah hw h]
  have hno:∀ {l:List (List UInt8)},(∀ x ∈ l,(w == x)=false)→∀ x ∈ l,sees t z x=false:=fun hl x hx=>yb h (hl x hx)
  simp only[List.mem_cons,List.not_mem_nil,or_false] at hw
  rcases hw with rfl|rfl|rfl|rfl|rfl|rfl|rfl|rfl|rfl|rfl|rfl|rfl
  ·exact R.got1 h (R.ret _ _)
  ·exact R.got0 (yb h rfl) (R.got1 h (R.ret _ _))
  ·exact R.got0 (yb h rfl) (R.got0 (yb h rfl) (R.got1 h (R.ret _ _)))
  ·exact R.got0 (yb h rfl) (R.got0 (yb h rfl) (R.got0 (yb h rfl) (R.opens (by omega) ho (R.got0 hp (R.got1 h (R.part (ja2 P (N:=M+28) (by omega) _) (fun a=>D.rt _) fun b z _=>R.ret _ _))))))
  ·exact R.got0 (yb h rfl) (R.got0 (yb h rfl) (R.got0 (yb h rfl) (R.opens (by omega) ho (R.got0 hp (R.got0 (yb h rfl) (R.got1 h (P.cases _ (by omega) _)))))))
  all_goals refine R.got0 (yb h rfl) (R.got0 (yb h rfl) (R.got0 (yb h rfl) (R.opens (by omega) ho (R.got0 hp (R.got0 (yb h rfl) (R.got0 (yb h rfl) ?_))))))
  all_goals (dsimp only;rw[hcall,Rf.call])
  ·refine R.which0 (hno (by decide)) (R.got1 h ?_)
   have:=R.within (t:=t) (part:=Ps.primCast qa t n) (m:=Rf.bd (Rf.expr t (M+27)) fun e=>Rf.bd (must t k_as) fun _=>Rf.bd (typed t) fun ty=>Rf.rt (Nd.mk qa2 [] 0 [ty,e])) (D.bd D.expr fun a=>D.must (D.bd D.typed fun a=>D.rt _)) (P.primCast _ (by omega)) (z+1)
   simp only[vt,jen] at this
   exact this
  ·refine R.which0 (hno (by decide)) (R.got0 (yb h rfl) (R.got1 h ?_))
   refine qdc P (N:=M+27) (by omega) ?_ ?_ _
   ·exact fun a=>D.rt _
   ·exact fun a z=>R.ret _ _
  ·refine R.which0 (hno (by decide)) (R.got0 (yb h rfl) (R.got0 (yb h rfl) (R.got1 h ?_)))
   have:=R.within (t:=t) (part:=Ps.primNullif qa t n) (m:=Rf.bd (Rf.expr t (M+27)) fun x=>Rf.bd (must t g_comma) fun _=>Rf.bd (Rf.expr t (M+27)) fun y=>Rf.rt (Nd.mk zae [] 0 [x,y])) (D.bd D.expr fun a=>D.must (D.bd D.expr fun a=>D.rt _)) (P.primNullif _ (by omega)) (z+1)
   simp only[vt,jen] at this
   exact this
  ·exact R.which1 (by simp) h (P.total _ _ (M+26) (by omega))
  ·exact R.which1 (by simp) h (P.total _ _ (M+26) (by omega))
  ·exact R.which1 (by simp) h (P.total _ _ (M+26) (by omega))
  ·exact R.which1 (by simp) h (P.total _ _ (M+26) (by omega))
 ·rw[xaa h]
  refine R.got0 (h _ (by simp)) (R.got0 (h _ (by simp)) (R.got0 (h _ (by simp)) (R.opens (by omega) ho (R.got0 hp (R.got0 (h _ (by simp)) (R.got0 (h _ (by simp)) ?_))))))
  dsimp only
  rw[hcall,Rf.call]
  exact R.which0 (fun w hw=>h w (by revert hw;simp only[List.mem_cons,List.not_mem_nil,or_false];rintro(rfl|rfl|rfl|rfl)<;>simp)) (R.got0 (h _ (by simp)) (R.got0 (h _ (by simp)) (R.got0 (h _ (by simp)) R.column)))
theorem xb3{n:Nat}(P:Sim t n):Sm (n+1) (Ps.primCast qa t (n+1)) fun N=>Rf.bd (Rf.expr t N) fun e=>Rf.bd (must t k_as) fun _=>Rf.bd (typed t) fun ty=>Rf.rt (Nd.mk qa2 [] 0 [ty,e]):=fun N h z=>by
 unfold B at h
 rw[Ps.primCast]
 exact R.part (P.expr _ (by unfold B;omega) _) (fun a=>D.must (D.bd D.typed fun a=>D.rt _)) fun e z _=>R.need (D.bd D.typed fun a=>D.rt _) fun _=>R.part R.typed (fun a=>D.rt _) fun ty z _=>R.ret _ _
theorem zbn{n:Nat}(P:Sim t n):Sm (n+1) (Ps.primNullif qa t (n+1)) fun N=>Rf.bd (Rf.expr t N) fun x=>Rf.bd (must t g_comma) fun _=>Rf.bd (Rf.expr t N) fun y=>Rf.rt (Nd.mk zae [] 0 [x,y]):=fun N h z=>by
 unfold B at h
 obtain⟨M,rfl⟩:∃ M,N=M+28:=⟨N-28,by omega⟩
 rw[Ps.primNullif]
 exact R.part (P.expr _ (by unfold B;omega) _) (fun a=>D.must (D.bd D.expr fun a=>D.rt _)) fun e z _=>R.need (D.bd D.expr fun a=>D.rt _) fun _=>R.part (P.expr _ (by unfold B;omega) _) (fun a=>D.rt _) fun ty z _=>R.ret _ _
theorem ydf{n:Nat}(P:Sim t n)(op:List UInt8)(z:Nat)(N:Nat)(h:B (n+1)≤N):R (within t (Ps.primTotal qa t (n+1) op) z) (total t (N+1) op) z:=by
 unfold B at h
 obtain⟨M,rfl⟩:∃ M,N=M+28:=⟨N-28,by omega⟩
 rw[Rf.total]
 unfold Ps.within
 have hend:∀(k:Int) z,R ((Ps.expr qa t n z).bind fun e z=>(need t g_rap z).bind fun _ z=>Rs.ok (Nd.mk op [] k [e]) z) (Rf.bd (Rf.expr t (M+28)) fun e=>Rf.bd (must t g_rap) fun _=>Rf.rt (Nd.mk op [] k [e])) z:=fun k z=>
  R.part (P.expr _ (by unfold B;omega) _) (fun a=>D.must (D.rt _)) fun e z _=>R.need (D.rt _) fun _=>R.ret _ _
 have hrest:∀ z,R (((Ps.one t [vaj,jp] z).bind fun q z=>(Ps.expr qa t n z).bind fun e z=>Rs.ok (Nd.mk op [] (match q == jp with|true=>1|false=>0) [e]) z).bind fun x z=>(need t g_rap z).bind fun _ z=> .ok x z) (Rf.bd (got t jp) fun d=>match d with
  |true=>Rf.bd (Rf.expr t (M+28)) fun e=>Rf.bd (must t g_rap) fun _=>rt (Nd.mk op [] 1 [e])
  |false=>Rf.bd (got t vaj) fun _=>Rf.bd (Rf.expr t (M+28)) fun e=>Rf.bd (must t g_rap) fun _=>rt (Nd.mk op [] 0 [e])) z:=by
  intro z
  rw[xq]
  simp only[xq,Rs.bind_ok]
  rcases qr t z [vaj,jp] with ⟨w,hw,h⟩|h
  ·rw[yah hw h]
   simp only[List.mem_cons,List.not_mem_nil,or_false] at hw
   rcases hw with rfl|rfl
   ·exact R.got0 (yb h rfl) (R.got1 h (hend 0 _))
   ·exact R.got1 h (hend 1 _)
  ·rw[xaa h]
   exact R.got0 (h _ (by simp)) (R.got0 (h _ (by simp)) (hend 0 _))
 refine R.need ?_ fun _=>?_
 ·cases op == k_count
  ·exact D.got (D.got (D.bd D.expr fun a=>D.must (D.rt _)))
  ·exact D.got (D.got (D.got (D.bd D.expr fun a=>D.must (D.rt _))))
 ·rw[Ps.primTotal]
  cases hc:op == k_count with
  |false=>exact hrest _
  |true=>
   show R (Rs.bind (match sees t (z+1) g_star with|true=>_|false=>_) _) (Rf.bd (got t g_star) _) _
   cases hs:sees t (z+1) g_star with
   |true=>exact R.got1 hs (R.need (D.rt _) fun _=>R.ret _ _)
   |false=>exact R.got0 hs (hrest _)
theorem jdg{n:Nat}(P:Sim t n):Sm (n+1) (Ps.cases qa t (n+1)) (cases t):=fun N h z=>by
 unfold B at h
 obtain⟨M,rfl⟩:∃ M,N=M+28+1:=⟨N-29,by omega⟩
 have hM:B n≤M:=by unfold B;omega
 rw[Ps.cases,Rf.cases]
 have hex:=fun z=>P.expr (M+28) (by omega) z
 have hend:∀ l z,R (vu t (Ps.expr qa t n) l z) (Rf.bd (got t vb9) fun el=>Rf.bd (match el with
  |true=>Rf.expr t (M+28)
  |false=>rt (Nd.mk jy [] 0 [])) fun last=>Rf.bd (must t zc6) fun _=>rt (Nd.mk xy [] 0 (l++[last]))) z:=fun l z=>
  R.take (fun _=>R.part (hex _) (fun a=>D.must (D.rt _)) fun e z _=>R.need (D.rt _) fun _=>R.ret _ _) (fun _=>R.need (D.rt _) fun _=>R.ret _ _)
 have hde:∀ l,D (Rf.bd (got t vb9) fun el=>Rf.bd (match el with
  |true=>Rf.expr t (M+28)
  |false=>rt (Nd.mk jy [] 0 [])) fun last=>Rf.bd (must t zc6) fun _=>rt (Nd.mk xy [] 0 (l++[last]))):=fun l=>D.got (D.bd (D.rt _) fun a=>D.must (D.rt _))
 have harms:∀ of z,R ((qd t (Ps.expr qa t n) n of true [] z).bind fun l z=>vu t (Ps.expr qa t n) l z) (Rf.bd (arms t (Rf.expr t (M+28)) of (M+28) []) fun l=>Rf.bd (got t vb9) fun el=>Rf.bd (match el with
  |true=>Rf.expr t (M+28)
  |false=>rt (Nd.mk jy [] 0 [])) fun last=>Rf.bd (must t zc6) fun _=>rt (Nd.mk xy [] 0 (l++[last]))) z:=fun of z=>
  R.part (R.arms D.expr hex of n _ (by omega) _ _) hde fun l z _=>hend _ _
 refine R.is (n:=0) (q:=sees t z k_when) rfl ?_
 cases hs:sees t z k_when with
 |true=>exact harms none z
 |false=>
  dsimp only
  rw[vt]
  exact R.part (hex _) (fun a=>D.bd (D.rt _) fun a=>D.bd D.arms hde) fun e z _=>harms (some e) z
theorem yd0{n:Nat}(P:Sim t n):Sm (n+1) (Ps.body qa t (n+1)) (body t):=fun N h z=>by
 unfold B at h
 obtain⟨M,rfl⟩:∃ M,N=M+28+1:=⟨N-29,by omega⟩
 have hM:B n≤M:=by unfold B;omega
 rw[Ps.body,Rf.body]
 exact R.part (P.term _ (by omega) _) (fun a=>D.unions) fun a z _=>R.unions D.term (P.term _ (by omega)) n _ (by omega) _ _
theorem jd0{n:Nat}(P:Sim t n):Sm (n+1) (Ps.term qa t (n+1)) (term t):=fun N h z=>by
 unfold B at h
 obtain⟨M,rfl⟩:∃ M,N=M+28+1:=⟨N-29,by omega⟩
 have hM:B n≤M:=by unfold B;omega
 rw[Ps.term,Rf.term]
 exact R.part (P.simple _ (by omega) _) (fun a=>D.sects) fun a z _=>R.sects D.simple (P.simple _ (by omega)) n _ (by omega) _ _
theorem R.optPart{w:List UInt8}{part:Nat→Rs Nd}{m:M Nd}{α:Type}{f:List Nd→Nat→Rs α}{g:List Nd→M α}(hp:∀ z,R (part z) m z)(hd:∀ l,D (g l))(hg:∀ l z,R (f l z) (g l) z)(z:Nat):R ((Ps.optPart t w part z).bind f) (Rf.bd (got t w) fun q=>Rf.bd (match q with
 |true=>Rf.bd m fun e=>rt [e]
 |false=>rt []) g) z:=by
 unfold Ps.optPart
 rw[xq]
 refine R.take (fun _=>?_) (fun _=>?_)
 ·dsimp only
  rw[vt,xq]
  exact R.part (hp _) (fun a=>hd _) fun e z _=>hg _ _
 ·exact hg _ _
theorem yc0{n:Nat}(P:Sim t n):Sm (n+1) (Ps.simple qa t (n+1)) (simple t):=fun N h z=>by
 unfold B at h
 obtain⟨M,rfl⟩:∃ M,N=M+28+1:=⟨N-29,by omega⟩
 have hM:B n≤M:=by unfold B;omega
 rw[Ps.simple,Rf.simple]
 cases hp:sees t z g_par with
 |true=>
  refine R.got1 hp ?_
  show R (within t (Ps.body qa t n) z) _ _
  unfold Ps.within Ps.need
  rw[hp]
  exact R.part (P.body _ (by omega) _) (fun a=>D.must (D.rt _)) fun e z _=>R.need (D.rt _) fun _=>R.ret _ _
 |false=>
 refine R.got0 hp (R.need (D.got (D.bd (D.got (D.rt _)) fun a=>D.bd (D.list D.item) fun a=>D.must (D.bd (D.list D.table) fun a=>D.got (D.bd (D.rt _) fun a=>D.got (D.bd (D.rt _) fun a=>D.got (D.bd (D.rt _) fun a=>D.rt _)))))) fun _=>?_)
 have hrest:∀(d:Int) z,R ((vf t n (Ps.item qa t n) z).bind fun items z=>(need t k_from z).bind fun _ z=>
       (vf t n (Ps.table qa t n) z).bind fun from_ z=>(optPart t k_where (Ps.expr qa t n) z).bind fun wh z=>(optGroup qa t n z).bind fun gr z=>(optPart t k_having (Ps.expr qa t n) z).bind fun hv z=>
         Rs.ok (Nd.mk zn [] d [node o_items items,node k_from from_,node k_where wh,node k_group gr,node k_having hv]) z) (Rf.bd (Rf.list t (Rf.item t (M+28)) (M+28)) fun items=>Rf.bd (must t k_from) fun _=>Rf.bd (Rf.list t (Rf.table t (M+28)) (M+28)) fun from_=>
  Rf.bd (got t k_where) fun w=>Rf.bd (match w with
   |true=>Rf.bd (Rf.expr t (M+28)) fun e=>rt [e]
   |false=>rt []) fun wh=>Rf.bd (got t k_group) fun g=>Rf.bd (match g with
   |true=>Rf.bd (must t k_by) fun _=>Rf.list t (Rf.column t) (M+28)
   |false=>rt []) fun gr=>Rf.bd (got t k_having) fun h=>Rf.bd (match h with
   |true=>Rf.bd (Rf.expr t (M+28)) fun e=>rt [e]
   |false=>rt []) fun hv=>rt (Nd.mk zn [] d [Nd.mk o_items [] 0 items,Nd.mk k_from [] 0 from_,Nd.mk k_where [] 0 wh,Nd.mk k_group [] 0 gr,Nd.mk k_having [] 0 hv])) z:=by
  intro d z
  refine R.part (R.list (P.item _ (by omega)) (by omega) _) (fun a=>D.must (D.bd (D.list D.table) fun a=>D.got (D.bd (D.rt _) fun a=>D.got (D.bd (D.rt _) fun a=>D.got (D.bd (D.rt _) fun a=>D.rt _))))) fun items z _=>?_
  refine R.need (D.bd (D.list D.table) fun a=>D.got (D.bd (D.rt _) fun a=>D.got (D.bd (D.rt _) fun a=>D.got (D.bd (D.rt _) fun a=>D.rt _)))) fun _=>?_
  refine R.part (R.list (P.table _ (by omega)) (by omega) _) (fun a=>D.got (D.bd (D.rt _) fun a=>D.got (D.bd (D.rt _) fun a=>D.got (D.bd (D.rt _) fun a=>D.rt _)))) fun from_ z _=>?_
  refine R.optPart (P.expr (M+28) (by omega)) ?_ ?_ _
  ·exact fun l=>D.got (D.bd (D.rt _) fun a=>D.got (D.bd (D.rt _) fun a=>D.rt _))
  intro wh z
  have hhv:∀ gr z,R ((optPart t k_having (Ps.expr qa t n) z).bind fun hv z=>Rs.ok (Nd.mk zn [] d [node o_items items,node k_from from_,node k_where wh,node k_group gr,node k_having hv]) z) (Rf.bd (got t k_having) fun h=>Rf.bd (match h with
   |true=>Rf.bd (Rf.expr t (M+28)) fun e=>rt [e]
   |false=>rt []) fun hv=>rt (Nd.mk zn [] d [Nd.mk o_items [] 0 items,Nd.mk k_from [] 0 from_,Nd.mk k_where [] 0 wh,Nd.mk k_group [] 0 gr,Nd.mk k_having [] 0 hv])) z:=fun gr z=>
    by
    refine R.optPart (P.expr (M+28) (by omega)) ?_ ?_ _
    ·exact fun l=>D.rt _
    ·exact fun hv z=>R.ret _ _
  unfold Ps.optGroup Ps.take
  cases hg:sees t z k_group with
  |false=>exact R.got0 hg (hhv _ _)
  |true=>
   refine R.got1 hg ?_
   dsimp only
   rw[vt,xq]
   show R ((((need t k_by (z+1)).bind fun _ z=>Rs.ok () z).bind fun _ z=>Rs.ok true z).bind _) _ _
   rw[xd1,xq]
   refine R.need (D.bd (D.list D.column) fun a=>D.got (D.bd (D.rt _) fun a=>D.rt _)) fun _=>?_
   exact R.part (R.list (fun z=>R.column) (by omega) _) (fun a=>D.got (D.bd (D.rt _) fun a=>D.rt _)) fun gr z _=>hhv _ _
 rcases qr t (z+1) [vaj,jp] with ⟨w,hw,h⟩|h
 ·rw[yah hw h]
  simp only[List.mem_cons,List.not_mem_nil,or_false] at hw
  rcases hw with rfl|rfl
  ·refine R.got0 (yb h rfl) ?_
   dsimp only
   rw[vt]
   exact R.got1 h (hrest 0 _)
  ·exact R.got1 h (hrest 1 _)
 ·rw[xaa h]
  refine R.got0 (h _ (by simp)) ?_
  dsimp only
  rw[vt]
  exact R.got0 (h _ (by simp)) (hrest 0 _)
theorem xd0{n:Nat}(P:Sim t n):Sm (n+1) (Ps.item qa t (n+1)) (item t):=fun N h z=>by
 unfold B at h
 obtain⟨M,rfl⟩:∃ M,N=M+28+1:=⟨N-29,by omega⟩
 have hM:B n≤M:=by unfold B;omega
 rw[Ps.item,Rf.item]
 refine R.take (fun _=>R.ret _ _) (fun _=>?_)
 refine R.named (n:=0) (q:=isName qa t z) rfl (R.is (n:=1) (q:=sees t (z+1) xcm) rfl (R.is (n:=2) (q:=sees t (z+2) g_star) rfl ?_))
 dsimp only
 rw[← Bool.and_assoc]
 cases hq:isName qa t z && sees t (z+1) xcm && sees t (z+2) g_star with
 |true=>
  refine R.name (fun z=>⟨_,_,rfl⟩) fun _=>rfl
 |false=>exact R.part (P.expr _ (by omega) _) (fun a=>D.bd D.alias fun a=>D.rt _) fun e z _=>R.part R.alias (fun a=>D.rt _) fun s z _=>R.ret _ _
theorem qdg{n:Nat}(P:Sim t n):Sm (n+1) (Ps.table qa t (n+1)) (table t):=fun N h z=>by
 unfold B at h
 obtain⟨M,rfl⟩:∃ M,N=M+28+1:=⟨N-29,by omega⟩
 have hM:B n≤M:=by unfold B;omega
 rw[Ps.table,Rf.table]
 exact R.part (P.joined _ (by omega) _) (fun a=>D.joins) fun a z _=>R.joins D.joined D.expr (P.joined _ (by omega)) (P.expr _ (by omega)) n _ (by omega) _ _
theorem qc1(hl:t.length≤600){n:Nat}(P:Sim t n):Sm (n+1) (Ps.joined qa t (n+1)) (joined t):=fun N h z=>by
 unfold B at h
 obtain⟨M,rfl⟩:∃ M,N=M+28+1:=⟨N-29,by omega⟩
 have hM:B n≤M:=by unfold B;omega
 rw[Ps.joined,Rf.joined]
 refine R.opens (by omega) (q:=vi t z) rfl ?_
 cases ho:vi t z with
 |true=>
  show R ((within t (Ps.body qa t n) z).bind _) _ _
  unfold Ps.within
  rw[xq]
  refine R.need (D.bd D.body fun a=>D.must (D.got (D.name (D.rt _)))) fun _=>?_
  rw[xq]
  refine R.part (P.body _ (by omega) _) (fun a=>D.must (D.got (D.name (D.rt _)))) fun b z _=>?_
  rw[xq]
  refine R.need (D.got (D.name (D.rt _))) fun _=>?_
  exact R.take (fun _=>R.name (D.rt _) fun _=>R.ret _ _) (fun _=>R.name (D.rt _) fun _=>R.ret _ _)
 |false=>
  cases hp:sees t z g_par with
  |true=>
   refine R.got1 hp ?_
   show R (within t (Ps.table qa t n) z) _ _
   unfold Ps.within Ps.need
   rw[hp]
   exact R.part (P.table _ (by omega) _) (fun a=>D.must (D.rt _)) fun e z _=>R.need (D.rt _) fun _=>R.ret _ _
  |false=>
   exact R.got0 hp (R.name (D.bd D.alias fun a=>D.rt _) fun _=>R.part R.alias (fun a=>D.rt _) fun s z _=>R.ret _ _)
theorem ydz(hk:Kd t)(hl:t.length≤600):∀ n,Sim t n:=fun n=>by
 induction n using Nat.strongRecOn with
 |ind n ih=>
  cases n with
  |zero=>exact qd0
  |succ n=>
   have P:=ih n (Nat.lt_succ_self n)
   have Q:∀ m,m<n→Sim t m:=fun m hm=>ih m (by omega)
   exact⟨zes hk P Q,qes hk P Q,yer hk P,ver hk P Q,xer hk P Q,jer hk P,zer P,qer P,vd0 P,zdg P,zd0 hl P,xcg hl P,xb3 P,zbn P,ydf P,jdg P,yd0 P,jd0 P,yc0 P,xd0 P,qdg P,qc1 hl P⟩
end
end Go.AM.Rf
namespace Go.AM.Rf
open Go.Proofs Go.AM.Ps Go.AM.W
section
variable {t:List Tk}
theorem jr{s:List UInt8}{l:List (List UInt8)}{z:Nat}{α:Type}{f:Bool→Nat→Rs α}(h:sees t z s=false):(Ps.take t s l z).bind f=f false z:=by unfold Ps.take;rw[h];rfl
theorem vz{s:List UInt8}{z:Nat}{α:Type}{f:Bool→Nat→Rs α}(h:sees t z s=true):(Ps.take t s [] z).bind f=f true (z+1):=by unfold Ps.take;rw[h];rfl
theorem vbv{s w:List UInt8}{z:Nat}{α:Type}{f:Bool→Nat→Rs α}(h:sees t z s=true):(Ps.take t s [w] z).bind f=(Ps.need t w (z+1)).bind fun _ z=>f true z:=by
 unfold Ps.take
 rw[h]
 show ((((Ps.need t w (z+1)).bind fun _ z=>Rs.ok () z).bind fun _ z=>Rs.ok true z).bind f)=_
 rw[xd1,xq]
 rfl
theorem vdy{s w w2 w3:List UInt8}{z:Nat}{α:Type}{f:Bool→Nat→Rs α}(h:sees t z s=true):(Ps.take t s [w,w2,w3] z).bind f=(Ps.need t w (z+1)).bind fun _ z=>(Ps.need t w2 z).bind fun _ z=>(Ps.need t w3 z).bind fun _ z=>f true z:=by
 unfold Ps.take
 rw[h]
 show ((((Ps.need t w (z+1)).bind fun _ z=>(Ps.need t w2 z).bind fun _ z=>(Ps.need t w3 z).bind fun _ z=>Rs.ok () z).bind fun _ z=>Rs.ok true z).bind f)=_
 simp only[xq,xd1,Rs.bind_ok]
theorem R.take1{s w:List UInt8}{z:Nat}{α:Type}{f:Bool→Nat→Rs α}{g:Bool→M α}(h1:sees t z s=true→R ((Ps.need t w (z+1)).bind fun _ z=>f true z) (g true) (z+1))(h0:sees t z s=false→R (f false z) (g false) z):R ((Ps.take t s [w] z).bind f) (Rf.bd (got t s) g) z:=by
 cases h:sees t z s with
 |true=>rw[vbv h];exact R.got1 h (h1 h)
 |false=>rw[jr h];exact R.got0 h (h0 h)
theorem R.key{z:Nat}:R (Ps.keyP qa t z) (key t) z:=by
 unfold Ps.keyP Rf.key
 refine R.kind (q:=isKind t 1 z) rfl ?_
 have hrest:∀ e z,R ((Ps.one t [zbz,jbi] z).bind fun s z=>match s == [] with
  |true=>Rs.ok (Ps.named zd5 zbz [e]) z
  |false=>Rs.ok (Ps.named zd5 s [e]) z) (Rf.bd (got t jbi) fun d=>match d with
  |true=>rt (Nd.mk vbn jbi 0 [e])
  |false=>Rf.bd (got t zbz) fun _=>rt (Nd.mk vbn zbz 0 [e])) z:=by
  intro e z
  rcases qr t z [zbz,jbi] with ⟨w,hw,h⟩|h
  ·rw[yah hw h]
   simp only[List.mem_cons,List.not_mem_nil,or_false] at hw
   rcases hw with rfl|rfl
   ·exact R.got0 (yb h rfl) (R.got1 h (R.ret _ _))
   ·exact R.got1 h (R.ret _ _)
  ·rw[xaa h]
   exact R.got0 (h _ (by simp)) (R.got0 (h _ (by simp)) (R.ret _ _))
 cases h:isKind t 1 z with
 |true=>
  dsimp only
  rw[vt,xq]
  exact R.number (D.bd (D.rt _) fun a=>D.got (D.got (D.rt _))) fun _=>hrest _ _
 |false=>exact R.part R.column (fun a=>D.got (D.got (D.rt _))) fun e z _=>hrest _ _
theorem D.key:D (key t):=by unfold Rf.key;exact D.kindT (D.bd D.column fun a=>D.got (D.got (D.rt _)))
theorem R.query{n N:Nat}(P:Sim t n)(h:B n≤N)(z:Nat):R (Ps.query qa t n z) (query t N) z:=by
 have hB:=h
 unfold B at h
 obtain⟨M,rfl⟩:∃ M,N=M+28:=⟨N-28,by omega⟩
 unfold Ps.query Rf.query
 refine R.part (P.body _ hB _) (fun a=>D.got (D.bd (D.rt _) fun a=>D.rt _)) fun b z _=>R.take1 (fun _=>?_) (fun _=>R.ret _ _)
 dsimp only
 rw[vt]
 exact R.need (D.bd (D.list D.key) fun a=>D.rt _) fun _=>R.part (R.list (fun z=>R.key) (by omega) _) (fun a=>D.rt _) fun l z _=>R.ret _ _
theorem R.whose{n N:Nat}(P:Sim t n)(h:B n≤N)(z:Nat):R (Ps.whose qa t n z) (whose t N) z:=by
 unfold Ps.whose Rf.whose
 refine R.take (fun _=>?_) (fun _=>R.ret _ _)
 exact R.take1 (fun _=>R.need (D.name (D.rt _)) fun _=>R.name (D.rt _) fun _=>R.ret _ _) (fun _=>R.part (P.expr _ h _) (fun a=>D.rt _) fun e z _=>R.ret _ _)
theorem D.whose{n:Nat}:D (whose t n):=by unfold Rf.whose;exact D.got (D.rt _)
theorem R.sets{n N:Nat}(P:Sim t n)(h:B n≤N):∀(m K:Nat),m<K→∀ acc z,R ((Ps.setE qa t n z).bind fun x z=>listMore t (Ps.setE qa t n) m (acc++[x]) z) (sets t (Rf.expr t N) K acc) z
 |m,K+1,hm,acc,z=>by
  have hde:D (Rf.expr t N):=by
   unfold B at h
   obtain⟨M,rfl⟩:∃ M,N=M+9:=⟨N-9,by omega⟩
   exact D.expr
  refine R.move (m':=Rf.bd (Rf.name t) fun c=>Rf.bd (must t g_eq) fun _=>Rf.bd (Rf.expr t N) fun e=>Rf.bd (got t g_comma) fun q=>match q with
   |true=>Rf.sets t (Rf.expr t N) K (acc++[Nd.mk k_set c 0 [e]])
   |false=>rt (acc++[Nd.mk k_set c 0 [e]])) rfl ?_
  have hd:∀ c,D (Rf.bd (must t g_eq) fun _=>Rf.bd (Rf.expr t N) fun e=>Rf.bd (got t g_comma) fun q=>match q with
   |true=>Rf.sets t (Rf.expr t N) K (acc++[Nd.mk k_set c 0 [e]])
   |false=>rt (acc++[Nd.mk k_set c 0 [e]])):=fun c=>D.must (D.bd hde fun a=>D.got (D.rt _))
  unfold Ps.setE
  rw[xq]
  refine R.name (hd _) fun _=>?_
  rw[xq]
  refine R.need (D.bd hde fun a=>D.got (D.rt _)) fun _=>?_
  rw[xq]
  refine R.part (P.expr _ h _) (fun a=>D.got (D.rt _)) fun e z _=>?_
  rw[Rs.bind_ok]
  cases m with
  |zero=>trivial
  |succ m=>
   unfold listMore
   cases hs:sees t z g_comma with
   |false=>exact R.got0 hs (R.ret _ _)
   |true=>exact R.got1 hs (R.sets P h m K (by omega) _ _)
theorem R.update{n N:Nat}(P:Sim t n)(h:B n≤N)(z:Nat):R (Ps.updateP qa t n z) (updateE t N) z:=by
 unfold Ps.updateP Rf.updateE
 have hN:n<N:=by unfold B at h;omega
 obtain⟨M,hM⟩:∃ M,N=M+1:=⟨N-1,by omega⟩
 have hds:∀ a,D (Rf.sets t (Rf.expr t N) N a):=fun a=>by rw[hM];exact D.sets
 refine R.name (D.must (D.bd (hds _) fun a=>D.bd D.whose fun a=>D.rt _)) fun _=>R.need (D.bd (hds _) fun a=>D.bd D.whose fun a=>D.rt _) fun _=>?_
 refine R.part (r:=vf t n (Ps.setE qa t n) _) ?_ (fun a=>D.bd D.whose fun a=>D.rt _) fun l z _=>R.part (R.whose P h _) (fun a=>D.rt _) fun w z _=>R.ret _ _
 exact R.sets P h n N hN [] _
theorem D.row{n:Nat}:D (rowE t (n+10)):=by unfold Rf.rowE;exact D.must (D.bd D.exprs fun a=>D.must (D.rt _))
theorem R.row{n N:Nat}(P:Sim t n)(h:B n≤N)(z:Nat):R (Ps.rowP qa t n z) (rowE t N) z:=by
 unfold B at h
 obtain⟨M,rfl⟩:∃ M,N=M+28:=⟨N-28,by omega⟩
 unfold Ps.rowP Rf.rowE Ps.within
 rw[xq]
 refine R.need (D.bd D.exprs fun a=>D.must (D.rt _)) fun _=>?_
 rw[xq]
 refine R.part (P.exprs _ (by unfold B;omega) _) (fun a=>D.must (D.rt _)) fun l z _=>?_
 rw[xq]
 exact R.need (D.rt _) fun _=>R.ret _ _
theorem R.insert(hl:t.length≤600){n N:Nat}(P:Sim t n)(h:B n≤N)(z:Nat):R ((Ps.need t jdq z).bind fun _ z=>Ps.insertP qa t n z) (insertE t N) z:=by
 have hB:=h
 unfold B at h
 obtain⟨M,rfl⟩:∃ M,N=M+28:=⟨N-28,by omega⟩
 unfold Ps.insertP Rf.insertE
 refine R.need (D.name (D.opens (D.isT (D.bd (D.rt _) fun a=>D.got (D.bd D.body fun a=>D.rt _))))) fun _=>R.name (D.opens (D.isT (D.bd (D.rt _) fun a=>D.got (D.bd D.body fun a=>D.rt _)))) fun _=>?_
 generalize textAt t (z+1)=s
 generalize z+1+1=z
 have hrest:∀(s:List UInt8) cols z,R ((Ps.take t k_values [] z).bind fun v z=>match v with
  |true=>(vf t n (rowP qa t n) z).bind fun l z=>Rs.ok (Ps.named k_insert s [node o_columns cols,node k_values l]) z
  |false=>(Ps.body qa t n z).bind fun b z=>Rs.ok (Ps.named k_insert s [node o_columns cols,b]) z) (Rf.bd (got t k_values) fun v=>match v with
 |false=>Rf.bd (Rf.body t (M+28)) fun b=>rt (Nd.mk k_insert s 0 [Nd.mk o_columns [] 0 cols,b])
 |true=>Rf.bd (Rf.list t (rowE t (M+28)) (M+28)) fun rows=>rt (Nd.mk k_insert s 0 [Nd.mk o_columns [] 0 cols,Nd.mk k_values [] 0 rows])) z:=fun s cols z=>
  R.take (fun _=>R.part (R.list (R.row P hB) (by omega) _) (fun a=>D.rt _) fun l z _=>R.ret _ _) (fun _=>R.part (P.body _ hB _) (fun a=>D.rt _) fun b z _=>R.ret _ _)
 refine R.opens (by omega) (q:=vi t z) rfl (R.is (n:=0) (q:=sees t z g_par) rfl ?_)
 unfold jt
 cases hq:sees t z g_par && !vi t z with
 |true=>exact R.part (R.names (by omega) _) (fun a=>D.got (D.bd D.body fun a=>D.rt _)) fun cols z _=>hrest _ _ _
 |false=>exact hrest _ _ _
theorem R.check{n N:Nat}(P:Sim t n)(h:B n≤N){z:Nat}(hs:sees t z k_check=true){α:Type}{f:Nd→Nat→Rs α}{g:Nd→M α}(hd:∀ e,D (g e))(hg:∀ e z,R (f e z) (g e) z):R ((Ps.within t (Ps.expr qa t n) (z+1)).bind f) (Rf.bd (must t k_check) fun _=>Rf.bd (must t g_par) fun _=>Rf.bd (Rf.expr t N) fun e=>Rf.bd (must t g_rap) fun _=>g e) z:=by
 have hB:=h
 unfold B at h
 obtain⟨M,rfl⟩:∃ M,N=M+28:=⟨N-28,by omega⟩
 refine R.must1 hs ?_
 unfold Ps.within
 rw[xq]
 refine R.need (D.bd D.expr fun a=>D.must (hd _)) fun _=>?_
 rw[xq]
 refine R.part (P.expr _ hB _) (fun a=>D.must (hd _)) fun l z _=>?_
 rw[xq]
 exact R.need (hd _) fun _=>hg _ _
theorem R.opts{n N:Nat}(P:Sim t n)(h:B n≤N):∀(m K:Nat),m<K→∀ l z,R (yh qa t n m l z) (opts t N K l) z
 | 0,K,_,l,z=>by unfold yh;trivial
 |m+1,K+1,hm,l,z=>by
  obtain⟨K,rfl⟩:∃ J,K=J+1:=⟨K-1,by omega⟩
  have ih:=R.opts P h m (K+1) (by omega)
  unfold yh
  refine R.move (m':=Rf.bd (option t N) fun o=>match o with
  |none=>rt l
  |some x=>Rf.opts t N (K+1) (l++[x])) rfl ?_
  unfold Rf.option
  rw[vt]
  refine R.take1 (fun _=>?_) (fun _=>?_)
  ·dsimp only
   rw[vt]
   exact R.need (D.unbad) fun _=>ih _ _
  dsimp only
  rw[vt]
  refine R.take1 (fun _=>?_) (fun _=>?_)
  ·dsimp only
   rw[vt]
   exact R.need (D.unbad) fun _=>ih _ _
  dsimp only
  rw[vt]
  refine R.take (fun _=>ih _ _) (fun _=>?_)
  dsimp only
  rw[vt]
  cases hs:sees t z k_check with
  |true=>
   rw[vz hs]
   refine R.is (n:=0) (q:=true) hs ?_
   dsimp only
   unfold Rf.checkE
   simp only[vt,jen]
   refine R.check P h hs ?_ ?_
   ·exact fun e=>D.unbad
   ·exact fun e z=>ih _ _
  |false=>
   rw[jr hs]
   refine R.is (n:=0) (q:=false) hs ?_
   dsimp only
   rw[vt]
   refine R.take (fun _=>?_) (fun _=>R.ret _ _)
   dsimp only
   rw[vt]
   exact R.name (D.unbad) fun _=>ih _ _
theorem D.element{n:Nat}:D (element t (n+10)):=by unfold Rf.element;exact D.got (D.got (D.isT (D.got (D.name (D.bd D.typed fun a=>D.bd D.opts fun a=>D.rt _)))))
theorem R.element{n N:Nat}(P:Sim t n)(h:B n≤N)(z:Nat):R (Ps.element qa t n z) (element t N) z:=by
 have hB:=h
 unfold B at h
 obtain⟨M,rfl⟩:∃ M,N=M+28:=⟨N-28,by omega⟩
 unfold Ps.element Rf.element
 refine R.take1 (fun _=>R.need (D.bd D.names fun a=>D.rt _) fun _=>R.part (R.names (by omega) _) (fun a=>D.rt _) fun l z _=>R.ret _ _) (fun _=>?_)
 refine R.take (fun _=>R.part (R.names (by omega) _) (fun a=>D.rt _) fun l z _=>R.ret _ _) (fun _=>?_)
 cases hs:sees t z k_check with
 |true=>
  rw[vz hs]
  refine R.is (n:=0) (q:=true) hs ?_
  dsimp only
  unfold Rf.checkE
  refine R.check P hB hs ?_ ?_
  ·exact fun e=>D.rt _
  ·exact fun e z=>R.ret _ _
 |false=>
  rw[jr hs]
  refine R.is (n:=0) (q:=false) hs ?_
  refine R.take1 (fun _=>R.need (D.bd D.names fun a=>D.must (D.name (D.rt _))) fun _=>R.part (R.names (by omega) _) (fun a=>D.must (D.name (D.rt _))) fun l z _=>R.need (D.name (D.rt _)) fun _=>R.name (D.rt _) fun _=>R.ret _ _) (fun _=>?_)
  exact R.name (D.bd D.typed fun a=>D.bd D.opts fun a=>D.rt _) fun _=>R.part R.typed (fun a=>D.bd D.opts fun a=>D.rt _) fun ty z _=>R.part (R.opts P hB n _ (by omega) _ _) (fun a=>D.rt _) fun l z _=>R.ret _ _
theorem R.create{n N:Nat}(P:Sim t n)(h:B n≤N)(z:Nat):R (Ps.create qa t n z) (createE t N) z:=by
 have hB:=h
 unfold B at h
 obtain⟨M,rfl⟩:∃ M,N=M+28:=⟨N-28,by omega⟩
 unfold Ps.create Rf.createE
 refine R.take (fun _=>?_) (fun _=>?_)
 ·refine R.name (D.must (D.bd (D.list D.element) fun a=>D.must (D.rt _))) fun _=>?_
  unfold Ps.within
  rw[xq]
  refine R.need (D.bd (D.list D.element) fun a=>D.must (D.rt _)) fun _=>?_
  rw[xq]
  refine R.part (R.list (R.element P hB) (by omega) _) (fun a=>D.must (D.rt _)) fun l z _=>?_
  rw[xq]
  exact R.need (D.rt _) fun _=>R.ret _ _
 ·have hrest:∀(k:Int) z,R ((Ps.need t za6 z).bind fun _ z=>(Ps.name qa t z).bind fun s z=>(Ps.need t k_on z).bind fun _ z=>(Ps.name qa t z).bind fun o z=>
   (Ps.names qa t n z).bind fun l z=>Rs.ok (Nd.mk yad s k (Ps.named k_on o []::l)) z) (Rf.bd (must t za6) fun _=>Rf.bd (Rf.name t) fun s=>Rf.bd (must t k_on) fun _=>Rf.bd (Rf.name t) fun o=>Rf.bd (Rf.names t (M+28)) fun l=>rt (Nd.mk yad s k (Nd.mk k_on o 0 []::l))) z:=fun k z=>
   R.need (D.name (D.must (D.name (D.bd D.names fun a=>D.rt _)))) fun _=>R.name (D.must (D.name (D.bd D.names fun a=>D.rt _))) fun _=>R.need (D.name (D.bd D.names fun a=>D.rt _)) fun _=>R.name (D.bd D.names fun a=>D.rt _) fun _=>R.part (R.names (by omega) _) (fun a=>D.rt _) fun l z _=>R.ret _ _
  exact R.take (fun _=>hrest 1 _) (fun _=>hrest 0 _)
theorem R.level{z:Nat}:R ((Ps.level t z).bind fun k z=>Rs.ok (Nd.mk vbg [] k []) z) (level t) z:=by
 unfold Ps.level Rf.level
 rcases qr t z [xap,qai,zab] with ⟨w,hw,h⟩|h
 ·rw[yah hw h]
  simp only[List.mem_cons,List.not_mem_nil,or_false] at hw
  rcases hw with rfl|rfl|rfl
  ·refine R.got1 h ?_
   show R (((Ps.take t jao [] (z+1)).bind _).bind _) _ _
   rw[xq]
   refine R.take (fun _=>R.ret _ _) (fun _=>?_)
   dsimp only
   rw[xq]
   exact R.need (D.rt _) fun _=>R.ret _ _
  ·refine R.got0 (yb h rfl) (R.got1 h ?_)
   show R (((Ps.need t xap (z+1)).bind _).bind _) _ _
   rw[xq]
   exact R.need (D.rt _) fun _=>R.ret _ _
  ·exact R.got0 (yb h rfl) (R.got0 (yb h rfl) (R.must1 h (R.ret _ _)))
 ·rw[xaa h]
  exact R.got0 (h _ (by simp)) (R.got0 (h _ (by simp)) (R.must0 (h _ (by simp)) (D.rt _)))
theorem D.level:D (level t):=by unfold Rf.level;exact D.got (D.got (D.must (D.rt _)))
theorem D.query{n:Nat}:D (query t (n+13)):=by unfold Rf.query;exact D.bd D.body fun a=>D.got (D.bd (D.rt _) fun a=>D.rt _)
theorem R.declare{n N:Nat}(P:Sim t n)(h:B n≤N)(z:Nat):R (Ps.declareP qa t n z) (declareE t N) z:=by
 have hB:=h
 unfold B at h
 obtain⟨M,rfl⟩:∃ M,N=M+28:=⟨N-28,by omega⟩
 unfold Ps.declareP Rf.declareE
 refine R.name (D.got (D.must (D.must (D.bd D.query fun a=>D.got (D.bd (D.rt _) fun a=>D.rt _))))) fun _=>?_
 generalize textAt t z=s
 have hrest:∀(k:Int) z,R ((Ps.need t yba z).bind fun _ z=>(Ps.need t zbi z).bind fun _ z=>(Ps.query qa t n z).bind fun q z=>
  (forP t z).bind fun f z=>Rs.ok (Nd.mk k_declare s k [q,Ps.named zbi f []]) z) (Rf.bd (must t yba) fun _=>Rf.bd (must t zbi) fun _=>Rf.bd (Rf.query t (M+28)) fun q=>Rf.bd (got t zbi) fun f=>Rf.bd (match f with
  |false=>rt []
  |true=>Rf.bd (got t xap) fun r=>match r with
   |true=>Rf.bd (must t vct) fun _=>rt va5
   |false=>Rf.bd (must t k_update) fun _=>rt k_update) fun of=>rt (Nd.mk k_declare s k [q,Nd.mk zbi of 0 []])) z:=by
  intro k z
  refine R.need (D.must (D.bd D.query fun a=>D.got (D.bd (D.rt _) fun a=>D.rt _))) fun _=>R.need (D.bd D.query fun a=>D.got (D.bd (D.rt _) fun a=>D.rt _)) fun _=>R.part (R.query P hB _) (fun a=>D.got (D.bd (D.rt _) fun a=>D.rt _)) fun q z _=>?_
  unfold forP
  rw[xq]
  refine R.take (fun _=>?_) (fun _=>R.ret _ _)
  dsimp only
  rw[vt,xq]
  rcases qr t (z+1) [xap,k_update] with ⟨w,hw,h⟩|h
  ·rw[yah hw h]
   simp only[List.mem_cons,List.not_mem_nil,or_false] at hw
   rcases hw with rfl|rfl
   ·refine R.got1 h ?_
    show R (((Ps.need t vct (z+1+1)).bind _).bind _) _ _
    dsimp only
    rw[vt,xq]
    exact R.need (D.rt _) fun _=>R.ret _ _
   ·refine R.got0 (yb h rfl) ?_
    dsimp only
    rw[vt]
    exact R.must1 h (R.ret _ _)
  ·rw[xaa h]
   refine R.got0 (h _ (by simp)) ?_
   dsimp only
   rw[vt]
   exact R.must0 (h _ (by simp)) (D.rt _)
 exact R.take (fun _=>hrest 1 _) (fun _=>hrest 0 _)
theorem R.fetch{z:Nat}:R ((Ps.way t z).bind fun w z=>(Ps.take t k_from [] z).bind fun _ z=>(Ps.name qa t z).bind fun s z=>Rs.ok (Ps.named k_fetch s [w]) z) (fetchE t) z:=by
 unfold Rf.fetchE Ps.way
 have hrest:∀ w z,R ((Ps.take t k_from [] z).bind fun _ z=>(Ps.name qa t z).bind fun s z=>Rs.ok (Ps.named k_fetch s [w]) z) (Rf.bd (got t k_from) fun _=>Rf.bd (Rf.name t) fun s=>rt (Nd.mk k_fetch s 0 [w])) z:=fun w z=>
  R.take (fun _=>R.name (D.rt _) fun _=>R.ret _ _) (fun _=>R.name (D.rt _) fun _=>R.ret _ _)
 have hd:∀ w,D (Rf.bd (got t k_from) fun _=>Rf.bd (Rf.name t) fun s=>rt (Nd.mk k_fetch s 0 [w])):=fun w=>D.got (D.name (D.rt _))
 rw[vt,xq]
 refine R.which (fun w=>Iff.rfl) (fun w hw h=>?_) (fun h=>hrest _ _)
 simp only[List.mem_cons,List.not_mem_nil,or_false] at hw
 have hnum:∀(op:List UInt8) z,R (((Ps.take t yj [] z).bind fun m z=>(Ps.number t z).bind fun k z=>Rs.ok (Nd.mk op [] (match m with|true=> -k|false=>k) []) z).bind fun w z=>(Ps.take t k_from [] z).bind fun _ z=>(Ps.name qa t z).bind fun s z=>Rs.ok (Ps.named k_fetch s [w]) z) (Rf.bd (Rf.bd (got t yj) fun m=>Rf.bd (Rf.number t) fun k=>rt (Nd.mk op [] (match m with|true=> -k|false=>k) [])) fun w=>Rf.bd (got t k_from) fun _=>Rf.bd (Rf.name t) fun s=>rt (Nd.mk k_fetch s 0 [w])) z:=by
  intro op z
  rw[vt,xq]
  refine R.take (fun _=>?_) (fun _=>?_)
  all_goals (
   dsimp only
   rw[vt,xq]
   exact R.number (D.bd (D.rt _) hd) fun _=>hrest _ _)
 rcases hw with rfl|rfl|rfl|rfl|rfl|rfl
 ·exact hrest _ _
 ·exact hrest _ _
 ·exact hrest _ _
 ·exact hrest _ _
 ·exact hnum _ _
 ·exact hnum _ _
theorem jdh(hk:Kd t){z:Nat}(h:isKind t 0 z=false){w:List UInt8}(hw:(Pr.signs.contains w)=false):sees t z w=false:=by
 unfold sees
 unfold Ps.isKind at h
 cases hx:t[z]? with
 |none=>rfl
 |some x=>
  rw[hx] at h
  simp only[] at h ⊢
  rcases hk x (List.mem_of_getElem? hx) with q|q|q|⟨q,q2⟩
  ·rw[q] at h;cases h
  ·rw[q];rfl
  ·rw[q];rfl
  ·cases hq:x.t == w with
   |false=>rw[Bool.and_false]
   |true=>
    have:x.t=w:=by simpa using hq
    rw[this] at q2
    rw[List.contains_iff_mem.2 q2] at hw
    cases hw
theorem zdh{z:Nat}(h:isKind t 0 z=true)(w:List UInt8):sees t z w=(textAt t z == w):=by
 unfold sees Ps.textAt
 unfold Ps.isKind at h
 cases hx:t[z]? with
 |none=>rw[hx] at h;cases h
 |some x=>
  rw[hx] at h
  simp only[] at h ⊢
  rw[h];rfl
theorem R.statement(hk:Kd t)(hl:t.length≤600){n N:Nat}(P:Sim t n)(h:B n≤N)(z:Nat):R (Ps.statement qa t n z) (statementE t N) z:=by
 have hB:=h
 unfold B at h
 obtain⟨M,hM⟩:∃ M,N=M+28:=⟨N-28,by omega⟩
 unfold Ps.statement Rf.statementE
 refine R.is (n:=0) (q:=sees t z g_par) rfl (R.is (n:=0) (q:=sees t z zn) rfl ?_)
 cases hq:sees t z g_par || sees t z zn with
 |true=>exact R.query P hB z
 |false=>
 refine R.kind (q:=isKind t 0 z) rfl ?_
 cases hz:isKind t 0 z with
 |false=>
  have hs:∀ w,(Pr.signs.contains w)=false→sees t z w=false:=fun w hw=>jdh hk hz hw
  dsimp only
  iterate 14 (rw[jr (hs _ (by decide))];dsimp only)
  exact R.wrong (D.rt _)
 |true=>
 have hs:=zdh hz
 dsimp only
 refine R.move (m':=stmtW t N (textAt t z)) (z':=z+1) rfl ?_
 generalize textAt t z=w at *
 unfold Rf.stmtW
 cases h1:w == k_create with
 |true=>rw[vz ((hs _).trans h1)];exact R.create P hB _
 |false=>
 rw[jr ((hs _).trans h1)]
 dsimp only
 cases h2:w == k_drop with
 |true=>
  rw[vz ((hs _).trans h2)]
  exact R.take (fun _=>R.name (D.rt _) fun _=>R.ret _ _) (fun _=>R.need (D.name (D.rt _)) fun _=>R.name (D.rt _) fun _=>R.ret _ _)
 |false=>
 rw[jr ((hs _).trans h2)]
 dsimp only
 cases h3:w == k_insert with
 |true=>rw[vbv ((hs _).trans h3)];exact R.insert hl P hB _
 |false=>
 rw[jr ((hs _).trans h3)]
 dsimp only
 cases h4:w == k_update with
 |true=>rw[vz ((hs _).trans h4)];exact R.update P hB _
 |false=>
 rw[jr ((hs _).trans h4)]
 dsimp only
 cases h5:w == k_delete with
 |true=>
  rw[vbv ((hs _).trans h5)]
  exact R.need (D.name (D.bd D.whose fun a=>D.rt _)) fun _=>R.name (D.bd D.whose fun a=>D.rt _) fun _=>R.part (R.whose P hB _) (fun a=>D.rt _) fun x z _=>R.ret _ _
 |false=>
 rw[jr ((hs _).trans h5)]
 dsimp only
 cases h6:w == k_commit with
 |true=>rw[vz ((hs _).trans h6)];exact R.ret _ _
 |false=>
 rw[jr ((hs _).trans h6)]
 dsimp only
 cases h7:w == k_rollback with
 |true=>
  rw[vz ((hs _).trans h7)]
  refine R.take (fun _=>?_) (fun _=>R.ret _ _)
  exact R.take (fun _=>R.name (D.rt _) fun _=>R.ret _ _) (fun _=>R.name (D.rt _) fun _=>R.ret _ _)
 |false=>
 rw[jr ((hs _).trans h7)]
 dsimp only
 cases h8:w == k_savepoint with
 |true=>rw[vz ((hs _).trans h8)];exact R.name (D.rt _) fun _=>R.ret _ _
 |false=>
 rw[jr ((hs _).trans h8)]
 dsimp only
 cases h9:w == k_release with
 |true=>
  rw[vz ((hs _).trans h9)]
  exact R.take (fun _=>R.name (D.rt _) fun _=>R.ret _ _) (fun _=>R.name (D.rt _) fun _=>R.ret _ _)
 |false=>
 rw[jr ((hs _).trans h9)]
 dsimp only
 show R _ (moreE t N w) _
 unfold Rf.moreE
 cases h10:w == k_set with
 |true=>
  rw[vdy ((hs _).trans h10)]
  exact R.need (D.must (D.must D.level)) fun _=>R.need (D.must D.level) fun _=>R.need D.level fun _=>R.level
 |false=>
 rw[jr ((hs _).trans h10)]
 dsimp only
 cases h11:w == k_declare with
 |true=>rw[vz ((hs _).trans h11)];exact R.declare P hB _
 |false=>
 rw[jr ((hs _).trans h11)]
 dsimp only
 cases h12:w == k_open with
 |true=>
  rw[vz ((hs _).trans h12)]
  have hw:w=k_open:=by simpa using h12
  subst hw
  exact R.name (D.rt _) fun _=>R.ret _ _
 |false=>
 rw[jr ((hs _).trans h12)]
 dsimp only
 cases h13:w == k_close with
 |true=>
  rw[vz ((hs _).trans h13)]
  have hw:w=k_close:=by simpa using h13
  subst hw
  exact R.name (D.rt _) fun _=>R.ret _ _
 |false=>
 rw[jr ((hs _).trans h13)]
 dsimp only
 cases h14:w == k_fetch with
 |true=>rw[vz ((hs _).trans h14)];exact R.fetch
 |false=>
 rw[jr ((hs _).trans h14)]
 exact R.wrong (g:=fun _=>rt Rf.zeroN) (D.rt _)
end
end Go.AM.Rf
