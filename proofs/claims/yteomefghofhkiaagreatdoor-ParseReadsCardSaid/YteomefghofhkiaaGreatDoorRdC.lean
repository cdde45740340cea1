/- The parser's functions: columns, types, lists. -/
import Derived.Test.YteomefghofhkiaaGreatDoorRdB
set_option linter.unusedVariables false
set_option maxRecDepth 100000
set_option maxHeartbeats 40000000
set_option linter.unusedSimpArgs false
namespace Go.AM
def idx:List Nat→Nat→Option Nat
 | [],_=>none
 |x::l,o=>match Nat.beq x o with
  |true=>some 0
  |false=>match idx l o with
   |some i=>some (i+1)
   |none=>none
theorem zbj:∀ {os:List Nat} (_:os.Nodup) {o i:Nat},idx os o=some i↔os[i]? =some o
 | [],_,o,i=>by simp[idx]
 |x::l,hnd,o,i=>by
  have hnd':=List.nodup_cons.1 hnd
  simp only[idx]
  cases hb:Nat.beq x o with
  |true=>
   have hx:=Nat.eq_of_beq_eq_true hb
   subst hx
   simp only[Option.some.injEq]
   constructor
   ·rintro rfl;simp
   ·intro q
    cases i with
    |zero=>rfl
    |succ i=>
     simp only[List.getElem?_cons_succ] at q
     exact absurd (List.mem_of_getElem? q) hnd'.1
  |false=>
   have hx:=Nat.ne_of_beq_eq_false hb
   have ih:=fun i=>@zbj l hnd'.2 o i
   cases hq:idx l o with
   |none=>
    simp only[]
    constructor
    ·intro q;cases q
    ·intro q
     cases i with
     |zero=>simp at q;exact absurd q hx
     |succ i=>simp only[List.getElem?_cons_succ] at q;rw[(ih i).2 q] at hq;cases hq
   |some j=>
    simp only[Option.some.injEq]
    constructor
    ·rintro rfl;simp only[List.getElem?_cons_succ];exact(ih j).1 hq
    ·intro q
     cases i with
     |zero=>simp at q;exact absurd q hx
     |succ i=>simp only[List.getElem?_cons_succ] at q;have:=(ih i).2 q;rw[hq] at this;simp at this;omega
theorem qcx{os:List Nat}{n:Nat}:back (fun i=>os[i]?) n os.length 0=fun i=>os[i]? :=by
 funext i
 unfold back
 cases hb:Nat.ble os.length i with
 |false=>rfl
 |true=>
  have h1:os.length≤i:=nb hb
  have h2:os[i]? =none:=List.getElem?_eq_none h1
  rw[h2]
  cases hq:Nat.blt i (os.length+0) with
  |false=>rfl
  |true=>have:i+1≤os.length+0:=nb hq;omega
theorem qef{P:Program}{T:Tab}{fid:FuncId}(os:List Nat)(hnd:os.Nodup){S S0:St}{args:List AV}{K K0:Out→St→Prop}(hlt:∀ o ∈ os,o<S.next)
 (hn:S0.next=os.length) (hrow:∀ i o,os[i]? =some o→S0.row i=renL (idx os) noh (S.row o)) (hc:jb P T fid (renL (idx os) noh args) S0 K0)
 (hK:∀ out0 S0',K0 out0 S0'→os.length≤S0'.next∧∃ S':St,S'.next=S.next∧S'.caps=S.caps∧(∀ o,o ∉ os→S'.row o=S.row o)∧(∀ i o,os[i]? =some o→S'.row o=renL (fun i=>os[i]?) noh (S0'.row i))∧K (out0.ren (fun i=>os[i]?) noh) S'):jb P T fid args S K:=by
 refine frame (f:=idx os) (fi:=fun i=>os[i]?) (h:=noh) (hi:=noh) (S0:=S0) ⟨fun o i=>zbj hnd,?_,?_,?_,?_⟩ rfl hc ?_
 ·intro k l;exact⟨(fun e=>nomatch e),(fun e=>nomatch e)⟩
 ·intro o i e
  have:=(zbj hnd).1 e
  exact⟨hlt o (List.mem_of_getElem? this),by rw[hn];exact(List.getElem?_eq_some_iff.1 this).1⟩
 ·intro o i e;exact hrow i o ((zbj hnd).1 e)
 ·intro k l e;cases e
 ·intro out0 S0' hk0
  obtain⟨h1,S',h2,h3,h4,h5,h6⟩:=hK out0 S0' hk0
  refine⟨0,S',⟨by rw[hn];exact h1,h2,?_,?_,by rw[h3],fun k=>by rw[h3];rfl⟩,?_⟩
  ·intro o ho hf
   refine h4 o fun hm=>?_
   obtain⟨i,hi,he⟩:=List.getElem_of_mem hm
   have:idx os o=some i:=(zbj hnd).2 (by rw[List.getElem?_eq_getElem hi,he])
   rw[hf] at this;cases this
  ·intro i o e
   rw[hn,qcx] at e ⊢
   exact h5 i o e
  ·rw[hn,qcx];exact h6
end Go.AM
namespace Go.AM.Ps
open Go.Proofs W
def P2(r:List AV):St:=⟨[(1,[.ptr 0 0]),(0,r)],2,[]⟩
def P3(r:List AV)(w:List AV):St:=⟨[(2,w),(1,[.ptr 0 0]),(0,r)],3,[]⟩
def jad{α:Type}(t:List Tk)(n:Nat)(r:Rs α)(av:α→AV)(out:Out)(S':St):Prop:=∃ z',Ans r av out z'∧At t z' (S'.row 0)∧S'.row 1=[.ptr 0 0]∧n≤S'.next
theorem idx2{o o1:Nat}(hne:o≠o1):idx [o,o1] o=some 0∧idx [o,o1] o1=some 1:=by
 have h1:Nat.beq o o=true:=Nat.beq_refl o
 have h2:Nat.beq o1 o1=true:=Nat.beq_refl o1
 have h3:Nat.beq o o1=false:=by
  cases hq:Nat.beq o o1 with
  |false=>rfl
  |true=>exact absurd (Nat.eq_of_beq_eq_true hq) hne
 simp[idx,h1,h2,h3]
theorem qt(S:St)(o p:Nat)(r:List AV)(h:S.row o≠[]):(S.set o r).row p=if o=p then r else S.row p:=yak _ _ _ _ h
theorem yc5{α:Type}{f:FuncId}{args args0:List AV}{r:Rs α}{av:α→AV}{t:List Tk}{z:Nat}{S:St}{o o1:Nat}{K:Out→St→Prop}(hne:o≠o1)(hargs:renL (idx [o,o1]) noh args=args0)(hav:∀ a f h,(av a).ren f h=av a)
 (h:At t z (S.row o)) (ho:o<S.next) (hb:S.row o1=[.ptr o 0]) (ho1:o1<S.next)
 (hc:jb Tryz.prog (Pr.tab real) f args0 (P2 (S.row o)) (jad t 2 r av))
 (hok:∀ a z' r',r= .ok a z'→At t z' r'→K (.ret (av a)) (S.set o r')) (hwr:∀ z' r',r= .wrong→At t z' r'→K (.panic vg) (S.set o r')):jb Tryz.prog (Pr.tab real) f args S K:=by
 have hc2:jb Tryz.prog (Pr.tab real) f args0 (P2 (S.row o)) fun out S'=>(∃ a z',r= .ok a z'∧out= .ret (av a)∧At t z' (S'.row 0)∧S'.row 1=[.ptr 0 0]∧2≤S'.next)∨(∃ z',r= .wrong∧out= .panic vg∧At t z' (S'.row 0)∧S'.row 1=[.ptr 0 0]∧2≤S'.next):=by
  refine jb.sub (jb.mono hc ?_)
  rintro out S' ⟨z',ha,h1,h2,h3⟩
  unfold Ans at ha
  split at ha
  ·exact ha.elim
  ·subst ha;exact⟨_,.panic _,.inr ⟨z',rfl,rfl,h1,h2,h3⟩⟩
  ·obtain⟨h4,rfl⟩:=ha
   exact⟨_,h4,.inl ⟨_,_,rfl,rfl,h1,h2,h3⟩⟩
 obtain⟨i0,i1⟩:=idx2 hne
 refine qef [o,o1] (by simp[hne]) ?_ (S0:=P2 (S.row o)) rfl ?_ (by rw[hargs];exact hc2) ?_
 ·intro p hp
  simp at hp
  rcases hp with rfl|rfl<;>assumption
 ·intro i p hp
  match i,hp with
  | 0,hp=>simp at hp;subst hp;rw[h.ren];rfl
  | 1,hp=>simp at hp;subst hp;rw[hb];simp only[renL,AV.ren,i0];rfl
  |i+2,hp=>simp at hp
 ·have fin:∀(S0':St) (z':Nat),At t z' (S0'.row 0)→S0'.row 1=[.ptr 0 0]→(S.set o (S0'.row 0)).next=S.next∧(S.set o (S0'.row 0)).caps=S.caps∧(∀ p,p ∉ [o,o1]→(S.set o (S0'.row 0)).row p=S.row p) ∧
   (∀ i p,[o,o1][i]? =some p→(S.set o (S0'.row 0)).row p=renL (fun i=>[o,o1][i]?) noh (S0'.row i)):=by
   intro S0' z' h1 h2
   refine⟨rfl,rfl,?_,?_⟩
   ·intro p hp
    simp at hp
    rw[qt _ _ _ _ h.ne,if_neg (fun q=>hp.1 q.symm)]
   ·intro i p hp
    match i,hp with
    | 0,hp=>simp at hp;subst hp;rw[qt _ _ _ _ h.ne,if_pos rfl,h1.ren]
    | 1,hp=>simp at hp;subst hp;rw[qt _ _ _ _ h.ne,if_neg hne,hb,h2];rfl
    |i+2,hp=>simp at hp
  rintro out0 S0' (⟨a,z',h1,rfl,h2,h3,h4⟩|⟨z',h1,rfl,h2,h3,h4⟩)
  ·obtain⟨f1,f2,f3,f4⟩:=fin S0' z' h2 h3
   refine⟨h4,S.set o (S0'.row 0),f1,f2,f3,f4,?_⟩
   show K (.ret ((av a).ren _ _)) _
   rw[hav]
   exact hok a z' _ h1 h2
  ·obtain⟨f1,f2,f3,f4⟩:=fin S0' z' h2 h3
   exact⟨h4,S.set o (S0'.row 0),f1,f2,f3,f4,hwr z' _ h1 h2⟩
def FnC(t:List Tk)(f:FuncId)(r:Nat→Rs Nd):Prop:=
 ∀(z:Nat) (S:St) (o o1:Nat) (K:Out→St→Prop),o≠o1→At t z (S.row o)→o<S.next→S.row o1=[.ptr o 0]→o1<S.next→(r z= .fuel→False) →
  (∀ op s k l cl z' r',r z= .ok (.mk op s k l) z'→cl=avL l→At t z' r'→K (.ret (.agg [.str op,.str s,.int .i64 k,.slice 24 cl .no])) (S.set o r')) →
  (∀ z' r',r z= .wrong→At t z' r'→K (.panic vg) (S.set o r'))→jb Tryz.prog (Pr.tab real) f [.ptr o1 0] S K
def FnCL(t:List Tk)(f:FuncId)(r:Nat→Rs (List Nd)):Prop:=
 ∀(z:Nat) (S:St) (o o1:Nat) (K:Out→St→Prop),o≠o1→At t z (S.row o)→o<S.next→S.row o1=[.ptr o 0]→o1<S.next→(r z= .fuel→False) →
  (∀ l cl z' r',r z= .ok l z'→cl=avL l→At t z' r'→K (.ret (.slice 24 cl .no)) (S.set o r')) →
  (∀ z' r',r z= .wrong→At t z' r'→K (.panic vg) (S.set o r'))→jb Tryz.prog (Pr.tab real) f [.ptr o1 0] S K
theorem ren2{o o1:Nat}(hne:o≠o1):renL (idx [o,o1]) noh [.ptr o1 0]=[.ptr 1 0]:=by
 simp only[renL,AV.ren,(idx2 hne).2]
theorem xcu{t:List Tk}{f:FuncId}{r:Nat→Rs Nd}
 (hc:∀ z rw',At t z rw'→(r z= .fuel→False)→jb Tryz.prog (Pr.tab real) f [.ptr 1 0] (P2 rw') (jad t 2 (r z) Nd.av)):FnC t f r:=by
 intro z S o o1 K hne h ho hb ho1 hf hok hwr
 refine yc5 hne (ren2 hne) (fun a f h=>zh f h a) h ho hb ho1 (hc z _ h hf) (fun a z' r' hq hr'=>?_) hwr
 obtain⟨op,s,k,l⟩:=a
 exact hok op s k l _ z' r' hq rfl hr'
theorem zds{t:List Tk}{f:FuncId}{r:Nat→Rs (List Nd)}
 (hc:∀ z rw',At t z rw'→(r z= .fuel→False)→jb Tryz.prog (Pr.tab real) f [.ptr 1 0] (P2 rw') (jad t 2 (r z) lav)):FnCL t f r:=by
 intro z S o o1 K hne h ho hb ho1 hf hok hwr
 exact yc5 hne (ren2 hne) (fun a f h=>jas f h a) h ho hb ho1 (hc z _ h hf) (fun a z' r' hq hr'=>hok a _ z' r' hq rfl hr') hwr
theorem qbt(t:List Tk)(n:Nat)(r:Rs Nd)(op s:List UInt8)(k:Int)(e:TypeId)(cs:List AV)(m:Mode)(l:List Nd)(z':Nat)(S':St)(hr:r= .ok (.mk op s k l) z')(hcs:cs=avL l)(he:e=24∨cs=[])(h:At t z' (S'.row 0))(hn:n≤S'.next)(h1:S'.row 1=[.ptr 0 0]) :
 jad t n r Nd.av (.ret (.agg [.str op,.str s,.int .i64 k,.slice e cs m])) S':=by
 rw[hr]
 exact⟨z',⟨.ret _ _ (xad _ op s k e cs m l hcs he),rfl⟩,h,h1,hn⟩
theorem qak{α:Type}(t:List Tk)(n:Nat)(r:Rs α)(av:α→AV)(z':Nat)(S':St)(hr:r= .wrong)(h:At t z' (S'.row 0))(hn:n≤S'.next)(h1:S'.row 1=[.ptr 0 0]):jad t n r av (.panic (.iface 47 (.agg []))) S':=by
 rw[hr]
 exact⟨z',rfl,h,h1,hn⟩
theorem xd8(t:List Tk)(n:Nat)(r:Rs (List Nd))(e:TypeId)(cs:List AV)(m:Mode)(l:List Nd)(z':Nat)(S':St)(hr:r= .ok l z')(hcs:cs=avL l)(he:e=24∨cs=[])(h:At t z' (S'.row 0))(hn:n≤S'.next)(h1:S'.row 1=[.ptr 0 0]) :
 jad t n r lav (.ret (.slice e cs m)) S':=by
 rw[hr]
 refine⟨z',⟨.ret _ _ ?_,rfl⟩,h,h1,hn⟩
 unfold lav
 rw[← hcs]
 rcases he with rfl|rfl
 ·exact xab _ _ _ _
 ·exact xak _ _ _ _
end Go.AM.Ps
namespace Go.AM.Ps
open Go.Proofs W
theorem finS(t:List Tk)(r:Rs (List UInt8))(a:List UInt8)(z':Nat)(S':St)(hr:r= .ok a z')(h:At t z' (S'.row 0))(hn:1≤S'.next):Post t r AV.str (.ret (.str a)) S':=by
 rw[hr];exact⟨z',⟨.ret _ _ (Sub.refl _ _),rfl⟩,h,hn⟩
theorem finI(t:List Tk)(r:Rs Int)(a:Int)(z':Nat)(S':St)(hr:r= .ok a z')(h:At t z' (S'.row 0))(hn:1≤S'.next):Post t r (AV.int .i64) (.ret (.int .i64 a)) S':=by
 rw[hr];exact⟨z',⟨.ret _ _ (Sub.refl _ _),rfl⟩,h,hn⟩
theorem jbu{K:Out→St→Prop}{S:St}{b:Bool}(hyes:b=true→K (.ret (.bool true)) S)(hno:b=false→K (.ret (.bool false)) S):K (.ret (.bool b)) S:=by
 cases b
 ·exact hno rfl
 ·exact hyes rfl
theorem yct{t:List Tk}(ht:Toks t){z:Nat}{S:St}{o:Nat}(h:At t z (S.row o))(ho:o<S.next){K:Out→St→Prop}(hyes:isName qa t z=true→K (.ret (.bool true)) S)(hno:isName qa t z=false→K (.ret (.bool false)) S) :
 jb Tryz.prog (Pr.tab real) 79 [.ptr o 0,.int .i64 0] S K:=zdw ht 0 rfl (Nat.zero_le _) h ho (jbu hyes hno)
theorem vdq{t:List Tk}(ht:Toks t){z:Nat}{k:Int}{S:St}{o:Nat}(h:At t z (S.row o))(ho:o<S.next){K:Out→St→Prop}(hyes:isKind t k z=true→K (.ret (.bool true)) S)(hno:isKind t k z=false→K (.ret (.bool false)) S) :
 jb Tryz.prog (Pr.tab real) 109 [.ptr o 0,.int .i64 k] S K:=jdw ht k h ho (jbu hyes hno)
theorem zbf{t:List Tk}(ht:Toks t){z:Nat}{s:List UInt8}{S:St}{o:Nat}(h:At t z (S.row o))(ho:o<S.next){K:Out→St→Prop}(hyes:sees t z s=true→K (.ret (.bool true)) S)(hno:sees t z s=false→K (.ret (.bool false)) S) :
 jb Tryz.prog (Pr.tab real) 36 [.ptr o 0,.int .i64 0,.str s] S K:=yco ht.len 0 rfl (Nat.zero_le _) h ho (jbu hyes hno)
theorem sees1{t:List Tk}(ht:Toks t){z:Nat}{s:List UInt8}{S:St}{o:Nat}(h:At t z (S.row o))(ho:o<S.next){K:Out→St→Prop}(hyes:sees t (z+1) s=true→K (.ret (.bool true)) S)(hno:sees t (z+1) s=false→K (.ret (.bool false)) S) :
 jb Tryz.prog (Pr.tab real) 36 [.ptr o 0,.int .i64 1,.str s] S K:=yco ht.len 1 rfl (by decide) h ho (jbu hyes hno)
theorem sees2{t:List Tk}(ht:Toks t){z:Nat}{s:List UInt8}{S:St}{o:Nat}(h:At t z (S.row o))(ho:o<S.next){K:Out→St→Prop}(hyes:sees t (z+2) s=true→K (.ret (.bool true)) S)(hno:sees t (z+2) s=false→K (.ret (.bool false)) S) :
 jb Tryz.prog (Pr.tab real) 36 [.ptr o 0,.int .i64 2,.str s] S K:=yco ht.len 2 rfl (by decide) h ho (jbu hyes hno)
theorem yau{t:List Tk}(ht:Toks t){z:Nat}{S:St}{o:Nat}(h:At t z (S.row o))(ho:o<S.next){K:Out→St→Prop}(hyes:vi t z=true→K (.ret (.bool true)) S)(hno:vi t z=false→K (.ret (.bool false)) S) :
 jb Tryz.prog (Pr.tab real) 80 [.ptr o 0] S K:=xcc ht h ho (jbu hyes hno)
theorem bind_fuel{α β:Type}{r:Rs α}{f:α→Nat→Rs β}(h:r.bind f= .fuel)(h1:r≠ .fuel)(h2:∀ a z,f a z≠ .fuel):False:=by
 cases r with
 |fuel=>exact h1 rfl
 |wrong=>cases h
 |ok a z=>exact h2 a z h
theorem ya0(t:List Tk)(s:List UInt8)(z:Nat):Ps.need t s z≠ .fuel:=by
 unfold Ps.need;split<;>simp
theorem jcj(t:List Tk)(z:Nat):Ps.number t z≠ .fuel:=by
 unfold Ps.number;split<;>simp
theorem zce{α:Type}{t:List Tk}{part:Nat→Rs α}(hp:∀ z,part z≠ .fuel)(z:Nat):within t part z≠ .fuel:=by
 intro h
 unfold within at h
 exact bind_fuel h (ya0 _ _ _) fun _ z h=>bind_fuel h (hp _) fun _ z h=>bind_fuel h (ya0 _ _ _) fun _ _ h=>nomatch h
theorem vc4{t:List Tk}(ht:Toks t){fid:FuncId}{part:Nat→Rs Nd}(hp:Fn t fid [] part)(z:Nat)(r:List AV)(h:At t z r)(hf:within t part z= .fuel→False) :
 jb Tryz.prog (Pr.tab real) 111 [.ptr 0 0,.func fid [.ptr 0 0] []] (P0 r) (Post t (within t part z) Nd.av):=by
 have hfin:=fun op s k e cs m l z' S'=>vac t (within t part z) op s k e cs m l z' S'
 have hbad:=fun z' S'=>qm t (within t part z) Nd.av z' S'
 generalize Post t (within t part z) Nd.av=K0 at hfin hbad ⊢
 apply ja (un:=0) Pr.tabOk Pr.mixed Ps.fn111 (nb rfl)
 apply qb (mk:=Pr.tab)
 intro fail need _ _ _ _ _ _ _ _ _ eqS _ _ _ _ _ _ _ _ _ _ _ _ _ not _ _ _ G
 have heqS:=G.eqS2
 have hnot:=G.not2
 unfold P0
 cbv
 repeat'
  (first
    |((refine G.c' (vl ht (by assumption) (nb rfl) (fun r' hs hr'=>?_) (fun z' r' hs hr'=>?_)))<;>(try cbv))
    |((refine G.c' (hp _ _ 0 _ (by assumption) (nb rfl) (fun q=>hf (by simp only[within,Rs.bind,Ps.need,Ps.take,Ps.needs,bl, *];try exact rfl)) (fun op s k l cl z' r' hs hcl hr'=>?_) (fun z' r' hs hr'=>?_)))<;>(try cbv))
    |fail)
 all_goals first
  |exact hbad _ _ (by simp only[within,Rs.bind,Ps.need,Ps.take,Ps.needs,bl, *];try exact rfl) (by assumption) (nb rfl)
  |exact hfin _ _ _ _ _ _ _ _ _ (by simp only[within,Rs.bind,Ps.need,Ps.take,Ps.needs,bl, *];try exact rfl) (by subst_vars;exact rfl) (by first|exact .inl rfl|exact .inr rfl) (by assumption) (nb rfl)
theorem vcj{t:List Tk}(ht:Toks t){fid:FuncId}{part:Nat→Rs (List Nd)}(hp:FnL t fid [] part)(z:Nat)(r:List AV)(h:At t z r)(hf:within t part z= .fuel→False) :
 jb Tryz.prog (Pr.tab real) 75 [.ptr 0 0,.func fid [.ptr 0 0] []] (P0 r) (Post t (within t part z) lav):=by
 have hfin:=fun e cs m l z' S'=>finL t (within t part z) e cs m l z' S'
 have hbad:=fun z' S'=>qm t (within t part z) lav z' S'
 generalize Post t (within t part z) lav=K0 at hfin hbad ⊢
 apply ja (un:=0) Pr.tabOk Pr.mixed Ps.fn75 (nb rfl)
 apply qb (mk:=Pr.tab)
 intro fail need _ _ _ _ _ _ _ _ _ eqS _ _ _ _ _ _ _ _ _ _ _ _ _ not _ _ _ G
 have heqS:=G.eqS2
 have hnot:=G.not2
 unfold P0
 cbv
 repeat'
  (first
    |((refine G.c' (vl ht (by assumption) (nb rfl) (fun r' hs hr'=>?_) (fun z' r' hs hr'=>?_)))<;>(try cbv))
    |((refine G.c' (hp _ _ 0 _ (by assumption) (nb rfl) (fun q=>hf (by simp only[within,Rs.bind,Ps.need,Ps.take,Ps.needs,bl, *];try exact rfl)) (fun l cl z' r' hs hcl hr'=>?_) (fun z' r' hs hr'=>?_)))<;>(try cbv))
    |fail)
 all_goals first
  |exact hbad _ _ (by simp only[within,Rs.bind,Ps.need,Ps.take,Ps.needs,bl, *];try exact rfl) (by assumption) (nb rfl)
  |exact hfin _ _ _ _ _ _ (by simp only[within,Rs.bind,Ps.need,Ps.take,Ps.needs,bl, *];try exact rfl) (by subst_vars;exact rfl) (by first|exact .inl rfl|exact .inr rfl) (by assumption) (nb rfl)
theorem ycj{t:List Tk}(ht:Toks t)(z:Nat)(r:List AV)(h:At t z r)(hf:within t (number t) z= .fuel→False) :
 jb Tryz.prog (Pr.tab real) 135 [.ptr 0 0,.func 85 [.ptr 0 0] []] (P0 r) (Post t (within t (number t) z) (AV.int .i64)):=by
 have hfin:=fun a z' S'=>finI t (within t (number t) z) a z' S'
 have hbad:=fun z' S'=>qm t (within t (number t) z) (AV.int .i64) z' S'
 generalize Post t (within t (number t) z) (AV.int .i64)=K0 at hfin hbad ⊢
 apply ja (un:=0) Pr.tabOk Pr.mixed Ps.fn135 (nb rfl)
 apply qb (mk:=Pr.tab)
 intro fail need _ _ _ _ _ _ _ _ _ eqS _ _ _ _ _ _ _ _ _ _ _ _ _ not _ _ _ G
 have heqS:=G.eqS2
 have hnot:=G.not2
 unfold P0
 cbv
 repeat'
  (first
    |((refine G.c' (vl ht (by assumption) (nb rfl) (fun r' hs hr'=>?_) (fun z' r' hs hr'=>?_)))<;>(try cbv))
    |((refine G.c' (ja3 ht (by assumption) (nb rfl) (fun a z' r' hs hr'=>?_) (fun z' r' hs hr'=>?_)))<;>(try cbv))
    |fail)
 all_goals first
  |exact hbad _ _ (by simp only[within,Rs.bind,Ps.need,Ps.take,Ps.needs,bl, *];try exact rfl) (by assumption) (nb rfl)
  |exact hfin _ _ _ (by simp only[within,Rs.bind,Ps.need,Ps.take,Ps.needs,bl, *];try exact rfl) (by assumption) (nb rfl)
theorem qck{t:List Tk}(ht:Toks t){fid:FuncId}{part:Nat→Rs Nd}(hp:FnC t fid part)(z:Nat)(r:List AV)(h:At t z r)(hf:within t part z= .fuel→False) :
 jb Tryz.prog (Pr.tab real) 111 [.ptr 0 0,.func fid [] [.ptr 1 0]] (P2 r) (jad t 2 (within t part z) Nd.av):=by
 have hfin:=fun op s k e cs m l z' S'=>qbt t 2 (within t part z) op s k e cs m l z' S'
 have hbad:=fun z' S'=>qak t 2 (within t part z) Nd.av z' S'
 generalize jad t 2 (within t part z) Nd.av=K0 at hfin hbad ⊢
 apply ja (un:=0) Pr.tabOk Pr.mixed Ps.fn111 (nb rfl)
 apply qb (mk:=Pr.tab)
 intro fail need _ _ _ _ _ _ _ _ _ eqS _ _ _ _ _ _ _ _ _ _ _ _ _ not _ _ _ G
 have heqS:=G.eqS2
 have hnot:=G.not2
 unfold P2
 cbv
 repeat'
  (first
    |((refine G.c' (vl ht (by assumption) (nb rfl) (fun r' hs hr'=>?_) (fun z' r' hs hr'=>?_)))<;>(try cbv))
    |((refine G.c' (hp _ _ 0 1 _ (by decide) (by assumption) (nb rfl) rfl (nb rfl) (fun q=>hf (by simp only[within,Rs.bind,Ps.need,Ps.take,Ps.needs,bl, *];try exact rfl)) (fun op s k l cl z' r' hs hcl hr'=>?_) (fun z' r' hs hr'=>?_)))<;>(try cbv))
    |fail)
 all_goals first
  |exact hbad _ _ (by simp only[within,Rs.bind,Ps.need,Ps.take,Ps.needs,bl, *];try exact rfl) (by assumption) (nb rfl) rfl
  |exact hfin _ _ _ _ _ _ _ _ _ (by simp only[within,Rs.bind,Ps.need,Ps.take,Ps.needs,bl, *];try exact rfl) (by subst_vars;exact rfl) (by first|exact .inl rfl|exact .inr rfl) (by assumption) (nb rfl) rfl
theorem yb8{t:List Tk}(ht:Toks t){fid:FuncId}{part:Nat→Rs (List Nd)}(hp:FnCL t fid part)(z:Nat)(r:List AV)(h:At t z r)(hf:within t part z= .fuel→False) :
 jb Tryz.prog (Pr.tab real) 75 [.ptr 0 0,.func fid [] [.ptr 1 0]] (P2 r) (jad t 2 (within t part z) lav):=by
 have hfin:=fun e cs m l z' S'=>xd8 t 2 (within t part z) e cs m l z' S'
 have hbad:=fun z' S'=>qak t 2 (within t part z) lav z' S'
 generalize jad t 2 (within t part z) lav=K0 at hfin hbad ⊢
 apply ja (un:=0) Pr.tabOk Pr.mixed Ps.fn75 (nb rfl)
 apply qb (mk:=Pr.tab)
 intro fail need _ _ _ _ _ _ _ _ _ eqS _ _ _ _ _ _ _ _ _ _ _ _ _ not _ _ _ G
 have heqS:=G.eqS2
 have hnot:=G.not2
 unfold P2
 cbv
 repeat'
  (first
    |((refine G.c' (vl ht (by assumption) (nb rfl) (fun r' hs hr'=>?_) (fun z' r' hs hr'=>?_)))<;>(try cbv))
    |((refine G.c' (hp _ _ 0 1 _ (by decide) (by assumption) (nb rfl) rfl (nb rfl) (fun q=>hf (by simp only[within,Rs.bind,Ps.need,Ps.take,Ps.needs,bl, *];try exact rfl)) (fun l cl z' r' hs hcl hr'=>?_) (fun z' r' hs hr'=>?_)))<;>(try cbv))
    |fail)
 all_goals first
  |exact hbad _ _ (by simp only[within,Rs.bind,Ps.need,Ps.take,Ps.needs,bl, *];try exact rfl) (by assumption) (nb rfl) rfl
  |exact hfin _ _ _ _ _ _ (by simp only[within,Rs.bind,Ps.need,Ps.take,Ps.needs,bl, *];try exact rfl) (by subst_vars;exact rfl) (by first|exact .inl rfl|exact .inr rfl) (by assumption) (nb rfl) rfl
end Go.AM.Ps
namespace Go.AM.Ps
open Go.Proofs W
theorem Ps.fn112:FnOk Tryz.prog 112 (fni Tryz.f112 Pr.a112):=⟨⟨Tryz.f112,Tryz.func112,rfl,rfl,rfl,by kernel_rfl⟩,by kernel_rfl⟩
theorem Ps.fn147:FnOk Tryz.prog 147 (fni Tryz.f147 Pr.a147):=⟨⟨Tryz.f147,Tryz.func147,rfl,rfl,rfl,by kernel_rfl⟩,by kernel_rfl⟩
theorem Ps.fn113:FnOk Tryz.prog 113 (fni Tryz.f113 Pr.a113):=⟨⟨Tryz.f113,Tryz.func113,rfl,rfl,rfl,by kernel_rfl⟩,by kernel_rfl⟩
theorem Ps.fn78:FnOk Tryz.prog 78 (fni Tryz.f78 Pr.a78):=⟨⟨Tryz.f78,Tryz.func78,rfl,rfl,rfl,by kernel_rfl⟩,by kernel_rfl⟩
theorem vag{t:List Tk}(ht:Toks t){fid:FuncId}{part:Nat→Rs Nd}(hp:Fn t fid [] part){z:Nat}{S:St}{o:Nat}(h:At t z (S.row o))(ho:o<S.next){K:Out→St→Prop}(hf:within t part z= .fuel→False)
 (hok:∀ op s k l cl z' r',within t part z= .ok (.mk op s k l) z'→cl=avL l→At t z' r'→K (.ret (.agg [.str op,.str s,.int .i64 k,.slice 24 cl .no])) (S.set o r'))
 (hwr:∀ z' r',within t part z= .wrong→At t z' r'→K (.panic vg) (S.set o r')):jb Tryz.prog (Pr.tab real) 111 [.ptr o 0,.func fid [.ptr o 0] []] S K:=by
 refine jv (args0:=[.ptr 0 0,.func fid [.ptr 0 0] []]) ?_ (fun a f h=>zh f h a) h ho (vc4 ht hp z _ h hf) (fun a z' r' hq hr'=>?_) hwr
 ·simp only[renL,AV.ren,show AM.one o 0 o=some 0 from vo.2 ⟨rfl,rfl⟩]
 ·obtain⟨op,s,k,l⟩:=a;exact hok op s k l _ z' r' hq rfl hr'
theorem za7{t:List Tk}(ht:Toks t){fid:FuncId}{part:Nat→Rs (List Nd)}(hp:FnL t fid [] part){z:Nat}{S:St}{o:Nat}(h:At t z (S.row o))(ho:o<S.next){K:Out→St→Prop}(hf:within t part z= .fuel→False)
 (hok:∀ l cl z' r',within t part z= .ok l z'→cl=avL l→At t z' r'→K (.ret (.slice 24 cl .no)) (S.set o r'))
 (hwr:∀ z' r',within t part z= .wrong→At t z' r'→K (.panic vg) (S.set o r')):jb Tryz.prog (Pr.tab real) 75 [.ptr o 0,.func fid [.ptr o 0] []] S K:=by
 refine jv (args0:=[.ptr 0 0,.func fid [.ptr 0 0] []]) ?_ (fun a f h=>jas f h a) h ho (vcj ht hp z _ h hf) (fun a z' r' hq hr'=>?_) hwr
 ·simp only[renL,AV.ren,show AM.one o 0 o=some 0 from vo.2 ⟨rfl,rfl⟩]
 ·exact hok a _ z' r' hq rfl hr'
theorem zc9{t:List Tk}(ht:Toks t){fid:FuncId}{part:Nat→Rs Nd}(hp:FnC t fid part){z:Nat}{S:St}{o o1:Nat}(hne:o≠o1)(h:At t z (S.row o))(ho:o<S.next)(hb:S.row o1=[.ptr o 0])(ho1:o1<S.next){K:Out→St→Prop}(hf:within t part z= .fuel→False)
 (hok:∀ op s k l cl z' r',within t part z= .ok (.mk op s k l) z'→cl=avL l→At t z' r'→K (.ret (.agg [.str op,.str s,.int .i64 k,.slice 24 cl .no])) (S.set o r'))
 (hwr:∀ z' r',within t part z= .wrong→At t z' r'→K (.panic vg) (S.set o r')):jb Tryz.prog (Pr.tab real) 111 [.ptr o 0,.func fid [] [.ptr o1 0]] S K:=by
 refine yc5 hne (args0:=[.ptr 0 0,.func fid [] [.ptr 1 0]]) ?_ (fun a f h=>zh f h a) h ho hb ho1 (qck ht hp z _ h hf) (fun a z' r' hq hr'=>?_) hwr
 ·simp only[renL,AV.ren,(idx2 hne).1,(idx2 hne).2]
 ·obtain⟨op,s,k,l⟩:=a;exact hok op s k l _ z' r' hq rfl hr'
theorem vbl{t:List Tk}(ht:Toks t){fid:FuncId}{part:Nat→Rs (List Nd)}(hp:FnCL t fid part){z:Nat}{S:St}{o o1:Nat}(hne:o≠o1)(h:At t z (S.row o))(ho:o<S.next)(hb:S.row o1=[.ptr o 0])(ho1:o1<S.next){K:Out→St→Prop}(hf:within t part z= .fuel→False)
 (hok:∀ l cl z' r',within t part z= .ok l z'→cl=avL l→At t z' r'→K (.ret (.slice 24 cl .no)) (S.set o r'))
 (hwr:∀ z' r',within t part z= .wrong→At t z' r'→K (.panic vg) (S.set o r')):jb Tryz.prog (Pr.tab real) 75 [.ptr o 0,.func fid [] [.ptr o1 0]] S K:=by
 refine yc5 hne (args0:=[.ptr 0 0,.func fid [] [.ptr 1 0]]) ?_ (fun a f h=>jas f h a) h ho hb ho1 (yb8 ht hp z _ h hf) (fun a z' r' hq hr'=>?_) hwr
 ·simp only[renL,AV.ren,(idx2 hne).1,(idx2 hne).2]
 ·exact hok a _ z' r' hq rfl hr'
theorem zay{t:List Tk}(ht:Toks t){fid:FuncId}{part:Nat→Rs Nd}(hp:Fn t fid [] part){n:Nat}(hn:n≤1000000000){z:Nat}{S:St}{o:Nat}(h:At t z (S.row o))(ho:o<S.next){K:Out→St→Prop}(hf:vf t n part z= .fuel→False)
 (hok:∀ l cl z' r',vf t n part z= .ok l z'→cl=avL l→At t z' r'→K (.ret (.slice 24 cl .no)) (S.set o r'))
 (hwr:∀ z' r',vf t n part z= .wrong→At t z' r'→K (.panic vg) (S.set o r')):jb Tryz.prog (Pr.tab real) 43 [.ptr o 0,.func fid [.ptr o 0] []] S K:=by
 refine jv (args0:=[.ptr 0 0,.func fid [.ptr 0 0] []]) ?_ (fun a f h=>jas f h a) h ho (yd6 ht hp n hn z _ h hf) (fun a z' r' hq hr'=>?_) hwr
 ·simp only[renL,AV.ren,show AM.one o 0 o=some 0 from vo.2 ⟨rfl,rfl⟩]
 ·exact hok a _ z' r' hq rfl hr'
theorem qc9{t:List Tk}(ht:Toks t){z:Nat}{S:St}{o:Nat}(h:At t z (S.row o))(ho:o<S.next){K:Out→St→Prop}
 (hok:∀ a z' r',within t (number t) z= .ok a z'→At t z' r'→K (.ret (.int .i64 a)) (S.set o r')) (hwr:∀ z' r',within t (number t) z= .wrong→At t z' r'→K (.panic vg) (S.set o r')) :
 jb Tryz.prog (Pr.tab real) 135 [.ptr o 0,.func 85 [.ptr o 0] []] S K:=by
 refine jv (args0:=[.ptr 0 0,.func 85 [.ptr 0 0] []]) ?_ qcm h ho (ycj ht z _ h ?_) hok hwr
 ·simp only[renL,AV.ren,show AM.one o 0 o=some 0 from vo.2 ⟨rfl,rfl⟩]
 ·exact fun q=>zce (jcj t) z q
theorem vdo{t:List Tk}(ht:Toks t)(s:List UInt8)(z:Nat)(r:List AV)(h:At t z r)(hf:alias qa t s z= .fuel→False) :
 jb Tryz.prog (Pr.tab real) 147 [.ptr 0 0,.str s] (P0 r) (Post t (alias qa t s z) AV.str):=by
 have hfin:=fun a z' S'=>finS t (alias qa t s z) a z' S'
 have hbad:=fun z' S'=>qm t (alias qa t s z) AV.str z' S'
 generalize Post t (alias qa t s z) AV.str=K0 at hfin hbad ⊢
 apply ja (un:=0) Pr.tabOk Pr.mixed Ps.fn147 (nb rfl)
 apply qb (mk:=Pr.tab)
 intro fail need _ _ _ _ _ _ _ _ _ eqS _ _ _ _ _ _ _ _ _ _ _ _ _ not _ _ _ G
 have heqS:=G.eqS2
 have hnot:=G.not2
 unfold P0
 cbv
 repeat'
  (first
    |refine G.n' rfl ?_
    |((refine G.c' (qk ht (by assumption) (nb rfl) (fun r' hs hr'=>?_) (fun r' hs hr'=>?_)))<;>(try cbv))
    |((refine G.c' (yct ht (by assumption) (nb rfl) (fun hs=>?_) (fun hs=>?_)))<;>(try cbv))
    |((refine G.c' (yy ht (by assumption) (nb rfl) (fun a z' r' hs hr'=>?_) (fun z' r' hs hr'=>?_)))<;>(try cbv))
    |fail)
 all_goals first
  |exact hbad _ _ (by simp only[alias,Rs.bind,Ps.need,Ps.take,Ps.needs,bl, *];try exact rfl) (by assumption) (nb rfl)
  |exact hfin _ _ _ (by simp only[alias,Rs.bind,Ps.need,Ps.take,Ps.needs,bl, *];try exact rfl) (by assumption) (nb rfl)
theorem vdm{t:List Tk}(ht:Toks t)(z:Nat)(r:List AV)(h:At t z r)(hf:typed t z= .fuel→False) :
 jb Tryz.prog (Pr.tab real) 112 [.ptr 0 0] (P0 r) (Post t (typed t z) Nd.av):=by
 have hfin:=fun op s k e cs m l z' S'=>vac t (typed t z) op s k e cs m l z' S'
 have hbad:=fun z' S'=>qm t (typed t z) Nd.av z' S'
 generalize Post t (typed t z) Nd.av=K0 at hfin hbad ⊢
 apply ja (un:=0) Pr.tabOk Pr.mixed Ps.fn112 (nb rfl)
 apply qb (mk:=Pr.tab)
 intro fail need _ _ _ _ _ _ _ _ _ eqS _ _ _ _ _ _ _ _ _ _ _ _ _ not _ _ _ G
 have heqS:=G.eqS2
 have hnot:=G.not2
 unfold P0
 cbv
 repeat'
  (first
    |refine G.n' rfl ?_
    |(rw[heqS];(try rw[hnot]);split<;>((first|contradiction|(rename_i hq;(try simp only[Bool.not_eq_true',Bool.not_eq_false'] at hq);rw[hq])|(rename_i hq _;rw[hq])|skip);try cbv))
    |((refine G.c' (jai ht [_,_,_,_,_,_,_,_] (by decide) (by assumption) (nb rfl) (fun a z' r' hs hr'=>?_)))<;>(try cbv))
    |((refine G.c' (zbf ht (by assumption) (nb rfl) (fun hs=>?_) (fun hs=>?_)))<;>(try cbv))
    |((refine G.c' (qc9 ht (by assumption) (nb rfl) (fun a z' r' hs hr'=>?_) (fun z' r' hs hr'=>?_)))<;>(try cbv))
    |fail)
 all_goals first
  |exact hbad _ _ (by simp only[typed,Rs.bind,Ps.need,Ps.take,Ps.needs,bl, *];try exact rfl) (by assumption) (nb rfl)
  |exact hfin _ _ _ _ _ _ _ _ _ (by simp only[typed,Rs.bind,Ps.need,Ps.take,Ps.needs,bl, *];try exact rfl) (by subst_vars;exact rfl) (by first|exact .inl rfl|exact .inr rfl) (by assumption) (nb rfl)
end Go.AM.Ps
namespace Go.AM.Ps
open Go.Proofs W
theorem Ps.fn82:FnOk Tryz.prog 82 (fni Tryz.f82 Pr.a82):=⟨⟨Tryz.f82,Tryz.func82,rfl,rfl,rfl,by kernel_rfl⟩,by kernel_rfl⟩
theorem Ps.fn83:FnOk Tryz.prog 83 (fni Tryz.f83 Pr.a83):=⟨⟨Tryz.f83,Tryz.func83,rfl,rfl,rfl,by kernel_rfl⟩,by kernel_rfl⟩
theorem Ps.fn116:FnOk Tryz.prog 116 (fni Tryz.f116 Pr.a116):=⟨⟨Tryz.f116,Tryz.func116,rfl,rfl,rfl,by kernel_rfl⟩,by kernel_rfl⟩
theorem Ps.fn137:FnOk Tryz.prog 137 (fni Tryz.f137 Pr.a137):=⟨⟨Tryz.f137,Tryz.func137,rfl,rfl,rfl,by kernel_rfl⟩,by kernel_rfl⟩
theorem Ps.fn150:FnOk Tryz.prog 150 (fni Tryz.f150 Pr.a150):=⟨⟨Tryz.f150,Tryz.func150,rfl,rfl,rfl,by kernel_rfl⟩,by kernel_rfl⟩
theorem Ps.fn151:FnOk Tryz.prog 151 (fni Tryz.f151 Pr.a151):=⟨⟨Tryz.f151,Tryz.func151,rfl,rfl,rfl,by kernel_rfl⟩,by kernel_rfl⟩
theorem Ps.fn158:FnOk Tryz.prog 158 (fni Tryz.f158 Pr.a158):=⟨⟨Tryz.f158,Tryz.func158,rfl,rfl,rfl,by kernel_rfl⟩,by kernel_rfl⟩
theorem Ps.fn159:FnOk Tryz.prog 159 (fni Tryz.f159 Pr.a159):=⟨⟨Tryz.f159,Tryz.func159,rfl,rfl,rfl,by kernel_rfl⟩,by kernel_rfl⟩
theorem Ps.fn160:FnOk Tryz.prog 160 (fni Tryz.f160 Pr.a160):=⟨⟨Tryz.f160,Tryz.func160,rfl,rfl,rfl,by kernel_rfl⟩,by kernel_rfl⟩
theorem Ps.fn161:FnOk Tryz.prog 161 (fni Tryz.f161 Pr.a161):=⟨⟨Tryz.f161,Tryz.func161,rfl,rfl,rfl,by kernel_rfl⟩,by kernel_rfl⟩
theorem zeb{t:List Tk}(ht:Toks t):Fn t 114 [] (aName qa t):=xae (fun _=>rfl) fun z r h hf=>ydo ht z r h hf
theorem ybl{t:List Tk}(ht:Toks t):Fn t 110 [] (column qa t):=xae (fun _=>rfl) fun z r h hf=>vc5 ht z r h hf
theorem xcx{t:List Tk}(ht:Toks t):Fn t 112 [] (typed t):=xae (fun _=>rfl) fun z r h hf=>vdm ht z r h hf
theorem yda(t:List Tk)(s:List UInt8)(z:Nat):alias qa t s z≠ .fuel:=by
 intro h
 unfold alias at h
 refine bind_fuel h ?_ fun a z h=>?_
 ·unfold Ps.take;split<;>simp[Ps.needs,Rs.bind]
 ·split at h
  ·unfold Ps.name at h;split at h<;>cases h
  ·cases h
theorem ycx{t:List Tk}(ht:Toks t){z:Nat}{s:List UInt8}{S:St}{o:Nat}(h:At t z (S.row o))(ho:o<S.next){K:Out→St→Prop}
 (hok:∀ a z' r',alias qa t s z= .ok a z'→At t z' r'→K (.ret (.str a)) (S.set o r')) (hwr:∀ z' r',alias qa t s z= .wrong→At t z' r'→K (.panic vg) (S.set o r')) :
 jb Tryz.prog (Pr.tab real) 147 [.ptr o 0,.str s] S K:=
 jv (renP rfl) vce h ho (vdo ht s z _ h (yda t s z)) hok hwr
theorem xce(s:List UInt8):0≤vd s∧vd s≤6:=by
 unfold vd
 split<;>decide
noncomputable def c116:Code:=(fni Tryz.f116 Pr.a116).loop 0
theorem Ps.c116:qf 93 Pr.a116 c116=true:=by kernel_rfl
theorem xei(K:Ex→Env→St→Prop)(env:Env)(S:St)(h:xg (pAlg Tryz.prog (Pr.tab real) 93) (Pr.tab real) Pr.a116 0 c116 (andThen (za Tryz.prog (Pr.tab real) 93 c116 K) K) env S):za Tryz.prog (Pr.tab real) 93 c116 K env S:=
 vc Pr.tabOk Pr.mixed Ps.c116 h
def zeroN:List AV:=[.str [],.str [],.int .i64 0,.slice 0 [] .exact]
def SB2(op s:List UInt8)(k:Int)(cl:List AV)(r:List AV):St:=⟨[(2,[.str op,.str s,.int .i64 k,.slice 24 cl .no]),(1,zeroN),(0,r)],3,[]⟩
def vdt(L:Int):Env:=[(0,.ptr 0 0),(1,.int .i64 L),(4,.ptr 1 0),(5,.ptr 2 0)]
theorem vc8{t:List Tk}(ht:Toks t)(L:Int)(hL:1≤L∧L≤7)(K:Ex→Env→St→Prop)(n:Nat)(hb:∀ m,m<n→∀ L',1≤L'∧L'≤7→Fn t 116 [.int .i64 L'] (binds qa t m L')) :
 ∀(m:Nat),m≤n→∀(op s:List UInt8) (k:Int) (l:List Nd) (cl:List AV) (z:Nat) (r:List AV),cl=avL l→At t z r→(bindsMore qa t m L (.mk op s k l) z= .fuel→False) →
  (∀ op' s' k' l' cl' z' r',bindsMore qa t m L (.mk op s k l) z= .ok (.mk op' s' k' l') z'→cl'=avL l'→At t z' r'→K (.exit 0) [(4,.ptr 1 0),(5,.ptr 2 0)] (SB2 op' s' k' cl' r')) →
  (∀ z' r' S',bindsMore qa t m L (.mk op s k l) z= .wrong→At t z' r'→S'.row 0=r'→1≤S'.next→K (.panic vg) [] S') →
  za Tryz.prog (Pr.tab real) 93 c116 (Less K) (vdt L) (SB2 op s k cl r):=by
 intro m
 induction m with
 |zero=>intro _ op s k l cl z r _ _ hf;exact(hf (by rw[bindsMore])).elim
 |succ m ih=>
  intro hm op s k l cl z r hcl h hf hK1 hK2
  have hspec:bindsMore qa t (m+1) L (.mk op s k l) z=match t[z]? with
   |none=> .ok (.mk op s k l) z
   |some x=>match x.k != 2 && x.k != 1 with
    |false=> .ok (.mk op s k l) z
    |true=>match decide (vd x.t<L) || vd x.t == 0 || (decide (L≤4) && decide (5≤vd x.t)) with
     |true=> .ok (.mk op s k l) z
     |false=>(binds qa t m (vd x.t+1) (z+1)).bind fun b z=>bindsMore qa t m L (node x.t [.mk op s k l,b]) z:=by rw[bindsMore];rfl
  rw[hspec] at hf hK1 hK2
  have htl:=ht.len
  have hat:=h
  obtain⟨h1,h2⟩:=h
  obtain⟨e,cs,mo,hv,hcs,he⟩:=qp t
  rw[hv] at h1
  obtain⟨zz,hzz⟩:∃ zz:Int,zz=(z:Int):=⟨_,rfl⟩
  rw[← hzz] at h1
  subst h1
  apply xei
  apply xb (mk:=Pr.tab)
  intro _ _ _ _ _ len _ arith _ cmp _ _ _ _ _ elt _ _ _ _ _ _ inb _ _ _ _ _ _ G
  have hlss:cmp BinOp.lss zz (len cs)=decide (z<t.length):=by
   rw[G.cmp',G.len',hcs];simp only[vb,List.length_map];rw[Bool.eq_iff_iff];simp only[decide_eq_true_eq];omega
  have hin:z<t.length→inb zz (len cs)=true:=fun hlt=>by
   rw[G.inb',G.len',hcs];simp;omega
  have helt:∀ x,t[z]? =some x→elt cs zz=x.av:=fun x hx=>by
   rw[G.elt',hcs];simp only[]
   rw[show (zz).toNat=z by omega,List.getD_eq_getElem?_getD,List.getElem?_map,hx];rfl
  have hneq:∀ a b:Int,cmp BinOp.neq a b=(a != b):=fun a b=>by rw[G.cmp'];rfl
  have heql:∀ a b:Int,cmp BinOp.eql a b=(a == b):=fun a b=>by rw[G.cmp'];rfl
  have hls:∀ a b:Int,cmp BinOp.lss a b=decide (a<b):=fun a b=>by rw[G.cmp'];rfl
  have hle:∀ a b:Int,cmp BinOp.leq a b=decide (a≤b):=fun a b=>by rw[G.cmp'];rfl
  have hge:∀ a b:Int,cmp BinOp.geq a b=decide (b≤a):=fun a b=>by rw[G.cmp'];rfl
  generalize hLL:za Tryz.prog (Pr.tab real) 93 c116 (Less K)=LL at *
  generalize hK':Less K=K' at *
  cases hx:t[z]? with
  |none=>
   rw[hx] at hK1
   have hgo:=hK1 op s k l cl z [.slice e cs mo,.int .i64 zz] rfl hcl hat
   have hd:decide (z<t.length)=false:=by simpa using hx
   rw[hd] at hlss
   clear hK1 hK2 ih hb hf hspec hin helt hneq heql hls hle hge hat
   unfold SB2 vdt zeroN at *
   cbv
   refine G.n' rfl ?_
   rw[hlss]
   cbv
   rw[← hK']
   exact⟨[(4,.ptr 1 0),(5,.ptr 2 0)],.cons rfl (.cons rfl (.nil _)),hgo⟩
  |some x=>
   have hlt:z<t.length:=by
    rcases Nat.lt_or_ge (z) t.length with q|q
    ·exact q
    ·rw[List.getElem?_eq_none q] at hx;cases hx
   obtain rfl:e=41:=he (by intro q;rw[q] at hlt;simp at hlt)
   have hel:=helt x hx
   have hi:=hin hlt
   rw[hx] at hK1 hK2 hf
   rw[decide_eq_true hlt] at hlss
   obtain⟨xk,xt,xn,xa⟩:=x
   rw[show Tk.av ⟨xk,xt,xn,xa⟩= .agg [.int .i64 xk,.str xt,.int .i64 xn,.int .i64 xa] from rfl] at hel
   have hst:=fun S K hK=>vco xt S K hK
   have hsl:=xce xt
   obtain⟨y,hy⟩:∃ y:Int,y=vd xt+1:=⟨_,rfl⟩
   have hadd:arith BinOp.add IntKind.i64 (vd xt) 1=y:=by rw[G.arith',hy];exact wrap_i64 _ (by omega) (by omega)
   obtain⟨z1,hz1⟩:∃ z1:Int,z1=(z+1:Nat):=⟨_,rfl⟩
   have hadd1:arith BinOp.add IntKind.i64 zz 1=z1:=by rw[G.arith',hz1];rw[hzz];exact wrap_i64 _ (by omega) (by omega)
   have hat1:At t (z+1) [.slice 41 cs mo,.int .i64 z1]:=⟨by rw[hv,hz1],hlt⟩
   have hend:∀ q:(∀ op' s' k' l' cl' z' r',Rs.ok (Nd.mk op s k l) z= .ok (.mk op' s' k' l') z'→cl'=avL l'→At t z' r'→K (.exit 0) [(4,.ptr 1 0),(5,.ptr 2 0)] (SB2 op' s' k' cl' r')),K (.exit 0) [(4,.ptr 1 0),(5,.ptr 2 0)] (SB2 op s k cl [.slice 41 cs mo,.int .i64 zz]):=fun q=>q op s k l cl z _ rfl hcl hat
   simp only[] at hK1 hK2 hf
   have e1:=hneq xk 2
   have e2:=hneq xk 1
   have e3:=hls (vd xt) L
   have e4:=heql (vd xt) 0
   have e5:=hle L 4
   have e6:=hge (vd xt) 5
   have hby:decide (vd xt<L)=false→(vd xt == 0)=false→1≤y∧y≤7:=by
    intro q1 q2
    simp at q1 q2
    omega
   have hbn:=fun hy1=>hb m (by omega) y hy1
   rw[← hy] at hK1 hK2 hf
   generalize (xk != 2)=b1 at *
   generalize (xk != 1)=b2 at *
   generalize hb3:decide (vd xt<L)=b3 at *
   generalize hb4:(vd xt == 0)=b4 at *
   generalize decide (L≤4)=b5 at *
   generalize hb6:decide (5≤vd xt)=b6 at *
   generalize vd xt=sg at *
   clear hneq heql hls hle hge hin helt hspec hx hsl hy hz1
   have hnode:∀(S:St) (K:Out→St→Prop) op2 s2 k2 l2 cl2,cl2=avL l2→(∀ cl3,cl3=avL [.mk op s k l,.mk op2 s2 k2 l2]→K (.ret (.agg [.str xt,.str [],.int .i64 0,.slice 24 cl3 .no])) S) →
    jb Tryz.prog (Pr.tab real) 46 [.str xt,.slice 24 [.agg [.str op,.str s,.int .i64 k,.slice 24 cl .no],.agg [.str op2,.str s2,.int .i64 k2,.slice 24 cl2 .no]] .exact] S K:=by
    intro S K op2 s2 k2 l2 cl2 hc2 hK
    exact jg [.mk op s k l,.mk op2 s2 k2 l2] (by rw[hcl,hc2];rfl) (.inl rfl) rfl hK
   unfold SB2 vdt zeroN at *
   cases b1
   ·have hgo:=hend hK1
    cbv
    refine G.n' rfl ?_
    rw[hlss]
    cbv
    refine G.n' hi ?_
    rw[hel]
    cbv
    refine G.n' rfl ?_
    rw[e1]
    cbv
    rw[← hK']
    exact⟨[(4,.ptr 1 0),(5,.ptr 2 0)],.cons rfl (.cons rfl (.nil _)),hgo⟩
   ·cases b2
    ·have hgo:=hend hK1
     cbv
     refine G.n' rfl ?_
     rw[hlss]
     cbv
     refine G.n' hi ?_
     rw[hel]
     cbv
     refine G.n' rfl ?_
     rw[e1]
     cbv
     refine G.n' hi ?_
     rw[hel]
     cbv
     refine G.n' rfl ?_
     rw[e2]
     cbv
     rw[← hK']
     exact⟨[(4,.ptr 1 0),(5,.ptr 2 0)],.cons rfl (.cons rfl (.nil _)),hgo⟩
    ·simp only[Bool.true_and] at hK1 hK2 hf
     cbv
     refine G.n' rfl ?_
     rw[hlss]
     cbv
     refine G.n' hi ?_
     rw[hel]
     cbv
     refine G.n' rfl ?_
     rw[e1]
     cbv
     refine G.n' hi ?_
     rw[hel]
     cbv
     refine G.n' rfl ?_
     rw[e2]
     cbv
     refine G.n' hi ?_
     rw[hel]
     cbv
     refine G.c' (hst _ _ ?_)
     cbv
     refine G.n' rfl ?_
     rw[e3]
     have stop:∀ {env:Env},qz [(4,.ptr 1 0),(5,.ptr 2 0)] env→(b3 || b4 || (b5 && b6))=true→K' (.exit 0) env ⟨[(2,[.str op,.str s,.int .i64 k,.slice 24 cl .no]),(1,[.str [],.str [],.int .i64 0,.slice 0 [] .exact]),(0,[.slice 41 cs mo,.int .i64 zz])],3,[]⟩:=by
      intro env henv hq
      rw[hq] at hK1
      rw[← hK']
      exact⟨_,henv,hend hK1⟩
     have go:b3=false→b4=false→(b5 && b6)=false→∀ {env:Env},qz [(0,.ptr 0 0),(1,.int .i64 L),(4,.ptr 1 0),(5,.ptr 2 0)] env→∀ op2 s2 k2 l2 cl2 z2 r2,binds qa t m y (z+1)= .ok (.mk op2 s2 k2 l2) z2→cl2=avL l2→At t z2 r2→∀ cl3,cl3=avL [.mk op s k l,.mk op2 s2 k2 l2] →
      LL env ⟨[(2,[.str xt,.str [],.int .i64 0,.slice 24 cl3 .no]),(1,[.str [],.str [],.int .i64 0,.slice 0 [] .exact]),(0,r2)],3,[]⟩:=by
      intro q3 q4 q5 env henv op2 s2 k2 l2 cl2 z2 r2 hq hc2 hr2 cl3 hc3
      rw[q3,q4,q5] at hK1 hK2 hf
      simp only[Bool.or_false] at hK1 hK2 hf
      rw[hq] at hK1 hK2 hf
      have:=ih (by omega) xt [] 0 [.mk op s k l,.mk op2 s2 k2 l2] cl3 z2 r2 hc3 hr2 hf hK1 hK2
      rw[← hLL]
      rw[← hLL] at this
      exact za.weak henv this
     have bad:b3=false→b4=false→(b5 && b6)=false→∀ {env:Env} z2 r2 S',binds qa t m y (z+1)= .wrong→At t z2 r2→S'.row 0=r2→1≤S'.next→K' (.panic vg) env S':=by
      intro q3 q4 q5 env z2 r2 S' hq hr2 hs hn
      rw[q3,q4,q5] at hK2
      simp only[Bool.or_false] at hK2
      rw[hq] at hK2
      rw[← hK']
      exact⟨[],.nil _,hK2 z2 r2 S' rfl hr2 hs hn⟩
     have hfu:b3=false→b4=false→(b5 && b6)=false→binds qa t m y (z+1)= .fuel→False:=by
      intro q3 q4 q5 q
      rw[q3,q4,q5] at hf
      simp only[Bool.or_false] at hf
      rw[q] at hf
      exact hf rfl
     have hrec:b3=false→b4=false→(b5 && b6)=false→∀ {e1 e2:Env} (K2:Out→St→Prop),(∀ op2 s2 k2 l2 cl2 z2 r2,binds qa t m y (z+1)= .ok (.mk op2 s2 k2 l2) z2→cl2=avL l2→At t z2 r2→K2 (.ret (.agg [.str op2,.str s2,.int .i64 k2,.slice 24 cl2 .no])) ⟨[(2,[.str op,.str s,.int .i64 k,.slice 24 cl .no]),(1,[.str [],.str [],.int .i64 0,.slice 0 [] .exact]),(0,r2)],3,[]⟩) →
      (∀ z2 r2 ,binds qa t m y (z+1)= .wrong→At t z2 r2→K2 (.panic vg) ⟨[(2,[.str op,.str s,.int .i64 k,.slice 24 cl .no]),(1,[.str [],.str [],.int .i64 0,.slice 0 [] .exact]),(0,r2)],3,[]⟩) →
      jb Tryz.prog (Pr.tab real) 116 [.ptr 0 0,.int .i64 y] ⟨[(2,[.str op,.str s,.int .i64 k,.slice 24 cl .no]),(1,[.str [],.str [],.int .i64 0,.slice 0 [] .exact]),(0,[.slice 41 cs mo,.int .i64 z1])],3,[]⟩ K2:=by
      intro q3 q4 q5 _ _ K2 a b
      have hy7:1≤y∧y≤7:=hby q3 q4
      exact hbn hy7 (z+1) _ 0 K2 hat1 (nb rfl) (hfu q3 q4 q5) a b
     clear hK1 hK2 hf ih hb hbn hst hend
     cases b3
     ·cbv
      refine G.n' rfl ?_
      rw[e4]
      cases b4
      ·cbv
       refine G.n' rfl ?_
       rw[e5]
       cases b5
       ·cbv
        refine G.n' rfl ?_
        rw[hadd1]
        refine G.n' rfl ?_
        rw[hadd]
        refine G.c' (hrec rfl rfl rfl (e1:=[]) (e2:=[]) _ (fun op2 s2 k2 l2 cl2 z2 r2 hq hc2 hr2=>?_) (fun z2 r2 hq hr2=>?_))
        ·have hn2:=fun S K=>hnode S K op2 s2 k2 l2 cl2 hc2
         have hg2:=fun env henv=>@go rfl rfl rfl env henv op2 s2 k2 l2 cl2 z2 r2 hq hc2 hr2
         clear hnode go bad hrec
         cbv
         refine G.s' rfl (G.n' rfl (G.c' (hn2 _ _ fun cl3 hc3=>?_)))
         have hg3:=fun env henv=>hg2 env henv cl3 hc3
         cbv
         exact hg3 _ (.cons rfl (.cons rfl (.cons rfl (.cons rfl (.nil _)))))
        ·have hg2:=fun env=>@bad rfl rfl rfl env z2 r2 ⟨[(2,[.str op,.str s,.int .i64 k,.slice 24 cl .no]),(1,[.str [],.str [],.int .i64 0,.slice 0 [] .exact]),(0,r2)],3,[]⟩ hq hr2 rfl (nb rfl)
         cbv
         exact hg2 _
       ·cbv
        refine G.n' rfl ?_
        rw[e6]
        cases b6
        ·cbv
         refine G.n' rfl ?_
         rw[hadd1]
         refine G.n' rfl ?_
         rw[hadd]
         refine G.c' (hrec rfl rfl rfl (e1:=[]) (e2:=[]) _ (fun op2 s2 k2 l2 cl2 z2 r2 hq hc2 hr2=>?_) (fun z2 r2 hq hr2=>?_))
         ·have hn2:=fun S K=>hnode S K op2 s2 k2 l2 cl2 hc2
          have hg2:=fun env henv=>@go rfl rfl rfl env henv op2 s2 k2 l2 cl2 z2 r2 hq hc2 hr2
          clear hnode go bad hrec
          cbv
          refine G.s' rfl (G.n' rfl (G.c' (hn2 _ _ fun cl3 hc3=>?_)))
          have hg3:=fun env henv=>hg2 env henv cl3 hc3
          cbv
          exact hg3 _ (.cons rfl (.cons rfl (.cons rfl (.cons rfl (.nil _)))))
         ·have hg2:=fun env=>@bad rfl rfl rfl env z2 r2 ⟨[(2,[.str op,.str s,.int .i64 k,.slice 24 cl .no]),(1,[.str [],.str [],.int .i64 0,.slice 0 [] .exact]),(0,r2)],3,[]⟩ hq hr2 rfl (nb rfl)
          cbv
          exact hg2 _
        ·have hs:=fun env henv=>@stop env henv rfl
         cbv
         exact hs _ (.cons rfl (.cons rfl (.nil _)))
      ·have hs:=fun env henv=>@stop env henv rfl
       cbv
       exact hs _ (.cons rfl (.cons rfl (.nil _)))
     ·have hs:=fun env henv=>@stop env henv rfl
      cbv
      exact hs _ (.cons rfl (.cons rfl (.nil _)))
end Go.AM.Ps
