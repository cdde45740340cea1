/- The document's reader: fetch, and statements. -/
import Derived.Test.YteomefghofhkiaaGreatDoorRfPh
set_option maxRecDepth 100000
set_option maxHeartbeats 40000000
set_option linter.unusedVariables false
set_option linter.unusedSimpArgs false
namespace Go.AM.Rf
open Go.Proofs Go.AM.Ps Go.AM.W
def wayF(t:List Tk):Option (List UInt8)→M Nd
 |none=>rt (.mk k_next [] 0 [])
 |some w=>match w == k_absolute || w == k_relative with
  |false=>rt (.mk w [] 0 [])
  |true=>bd (got t yj) fun m=>bd (number t) fun k=>rt (.mk w [] (match m with|true=> -k|false=>k) [])
theorem zdc{t:List Tk}{w:List UInt8}:∀ {d:Bool},(w == k_absolute || w == k_relative)=d→wayF t (some w)=match d with
 |false=>rt (.mk w [] 0 [])
 |true=>bd (got t yj) fun m=>bd (number t) fun k=>rt (.mk w [] (match m with|true=> -k|false=>k) []):=by rintro _ rfl;rfl
def ways:List (List UInt8):=[k_next,k_prior,k_first,k_last,k_absolute,k_relative]
def fetchE(t:List Tk):M Nd:=bd (bd (whichOf t ways) (wayF t)) fun w=>bd (got t k_from) fun _=>bd (name t) fun s=>rt (.mk k_fetch s 0 [w])
theorem zdl{t:List Tk}(ht:Toks t)(k:Int)(z:Nat)(b:Bool)(z':Nat)(b':Bool)(h:number t z b=some (k,z',b')):0≤k∧k<9223372036854775808:=by
 unfold number at h
 split at h
 ·simp only[Option.some.injEq,Prod.mk.injEq] at h
  rw[← h.1]
  unfold Ps.numAt
  split
  ·rename_i x hx
   exact ht.nn x (List.mem_of_getElem? hx)
  ·omega
 ·simp only[Option.some.injEq,Prod.mk.injEq] at h
  rw[← h.1]
  omega
theorem veg:∀(i:Nat) (w:List UInt8),ways[i]? =some w→(w == k_absolute || w == k_relative)=decide (4≤i)
 | 0,w,h=>by cases h;rfl
 | 1,w,h=>by cases h;rfl
 | 2,w,h=>by cases h;rfl
 | 3,w,h=>by cases h;rfl
 | 4,w,h=>by cases h;rfl
 | 5,w,h=>by cases h;rfl
 |n+6,w,h=>by cases h
theorem Rf.fn96:FnOk Tryz.prog 96 (fni Tryz.f96 Pr.a96):=⟨⟨Tryz.f96,Tryz.func96,rfl,rfl,rfl,by kernel_rfl⟩,by kernel_rfl⟩
noncomputable def c96:Code:=(fni Tryz.f96 Pr.a96).loop 0
theorem Rf.c96:qf 50 Pr.a96 c96=true:=by kernel_rfl
theorem zec(K:Ex→Env→St→Prop)(env:Env)(S:St)(h:xg (pAlg Tryz.prog (Pr.tab real) 50) (Pr.tab real) Pr.a96 0 c96 (andThen (za Tryz.prog (Pr.tab real) 50 c96 K) K) env S):za Tryz.prog (Pr.tab real) 50 c96 K env S:=
 vc Pr.tabOk Pr.mixed Rf.c96 h
theorem zdy{t:List Tk}(tv:AV)(N:Nat)(hgot:∀ s,Lit tv N 24 [.str s] (got t s) .bool)(hnum:Lit tv N 119 [] (number t) (AV.int .i64))(hni:∀ k z b z' b',number t z b=some (k,z',b')→0≤k∧k<9223372036854775808)(cl0:List AV)(hcl0:cl0=avL [])(K:Ex→Env→St→Prop)(Q:Nd→Nat→Bool→Prop)
 (hK0:∀(o s:List UInt8) (k:Int) (l:List Nd) (cl:List AV) (z:Nat) (b:Bool) (y:Int),Q (.mk o s k l) z b→cl=avL l→y=z→z≤N→K (.exit 0) [(0,.ptr 0 0),(2,.ptr 1 0),(3,.ptr 2 0)] ⟨[(2,[.str o,.str s,.int .i64 k,.slice 24 cl .no]),(1,[.str [],.str [],.int .i64 0,.slice 0 [] .exact]),(0,[tv,.int .i64 y,.bool b])],3,[]⟩)
 (wv:List AV) (hwv:wv=ways.map AV.str) (rest:List (List UInt8)) :
 ∀(i:Nat) (yi:Int) (z:Nat) (b:Bool) (y:Int),ways.drop i=rest→i≤ways.length→yi=i→y=z→z≤N→W (bd (whichOf t rest) (wayF t)) z b Q →
  za Tryz.prog (Pr.tab real) 50 c96 (Less K) [(0,.ptr 0 0),(2,.ptr 1 0),(3,.ptr 2 0),(4,.slice 9 wv .exact),(5,.int .i64 yi)] ⟨[(2,[.str [110,101,120,116],.str [],.int .i64 0,.slice 24 cl0 .no]),(1,[.str [],.str [],.int .i64 0,.slice 0 [] .exact]),(0,[tv,.int .i64 y,.bool b])],3,[]⟩:=by
 have hw6:ways.length=6:=rfl
 induction rest with
 |nil=>
  intro i yi z b y hd hi hyi hy hz hK
  have hge:ways.length≤i:=by simpa using hd
  have hK:=hK0 _ _ _ _ _ z b y (W.rt (W.rb hK)) hcl0 hy hz
  apply zec
  apply xb (mk:=Pr.tab)
  intro fail need same call loop len slen arith shift cmp conv eqS ltS cat app elt byt subS subL strOf isB fit inb cut room not and eqB avs G
  have hb:cmp BinOp.lss yi (len wv)=false:=by rw[G.cmp',G.len',hwv];simp[vb];omega
  generalize hL:za Tryz.prog (Pr.tab real) 50 c96 (Less K)=L
  generalize hK':Less K=K'
  cbv
  refine G.n' rfl ?_
  rw[hb]
  cbv
  rw[← hK']
  exact⟨[(0,.ptr 0 0),(2,.ptr 1 0),(3,.ptr 2 0)],(.cons rfl (.cons rfl (.cons rfl (.nil _)))),hK⟩
 |cons w rest ih=>
  intro i yi z b y hd hi hyi hy hz hK
  have hlt:i<ways.length:=by
   rcases Nat.lt_or_ge i ways.length with q|q
   ·exact q
   ·rw[List.drop_eq_nil_of_le q] at hd;cases hd
  have hw:ways[i]? =some w:=by
   have:=List.drop_eq_getElem_cons hlt
   rw[hd] at this
   injection this with h1 h2
   rw[List.getElem?_eq_getElem hlt,h1]
  have hd2:ways.drop (i+1)=rest:=by
   have:=List.drop_eq_getElem_cons hlt
   rw[hd] at this
   injection this with h1 h2
   exact h2.symm
  have hat:=veg i w hw
  have ih:=fun z b y hy hz hK=>ih (i+1) (yi+1) z b y hd2 (by omega) (by omega) hy hz hK
  have hK:W (bd (got t w) fun ok=>bd (match ok with
   |true=>rt (some w)
   |false=>whichOf t rest) (wayF t)) z b Q:=W.as hK
  apply zec
  apply xb (mk:=Pr.tab)
  intro _ _ _ _ _ len _ arith _ cmp _ _ _ _ _ elt _ _ _ _ _ _ inb _ _ not _ _ _ G
  have hnt:=G.not2
  have hb:cmp BinOp.lss yi (len wv)=true:=by rw[G.cmp',G.len',hwv];simp[vb];omega
  have hin:inb yi (len wv)=true:=by rw[G.inb',G.len',hwv];simp;omega
  have hel:elt wv yi= .str w:=by
   rw[G.elt',hwv];simp only[]
   rw[show yi.toNat=i by omega,List.getD_eq_getElem?_getD,List.getElem?_map,hw];rfl
  have hone:arith BinOp.add IntKind.i64 yi 1=yi+1:=by rw[G.arith'];exact wrap_i64 _ (by omega) (by omega)
  have hge:cmp BinOp.geq yi 4=decide (4≤i):=by rw[G.cmp'];simp only[vb];rw[Bool.eq_iff_iff];simp only[decide_eq_true_eq];omega
  have hneg:∀ k:Int,0≤k∧k<9223372036854775808→arith BinOp.sub IntKind.i64 0 k= -k:=fun k h=>by
   rw[G.arith']
   simp only[zaw]
   rw[wrap_i64 _ (by omega) (by omega)]
   omega
  obtain⟨d,hd4⟩:∃ d,decide (4≤i)=d:=⟨_,rfl⟩
  rw[hd4] at hge hat
  generalize hL:za Tryz.prog (Pr.tab real) 50 c96 (Less K)=L at ih ⊢
  generalize hK':Less K=K' at hL ⊢
  generalize yi+1=y1 at *
  clear hw hd hd2 hwv hlt hi hd4
  cbv
  refine G.n' rfl ?_
  rw[hb]
  cbv
  refine G.n' hin ?_
  rw[hel]
  refine G.c' (hgot _ _ _ _ _ _ hy rfl hz (nb rfl) (W.mono (W.bd hK) fun a z b hK hz y hy=>?_))
  cases a with
  |false=>
   have hgo:=ih z b y hy hz hK
   cbv
   rw[hnt]
   cbv
   refine G.n' rfl ?_
   rw[hone]
   subst hL
   exact za.weak (env':=[(0,.ptr 0 0),(2,.ptr 1 0),(3,.ptr 2 0),(4,.slice 9 wv .exact),(5,.int .i64 y1)]) (.cons rfl (.cons rfl (.cons rfl (.cons rfl (.cons rfl (.nil _)))))) hgo
  |true=>
   have hK:W (wayF t (some w)) z b Q:=W.rb hK
   rw[zdc hat] at hK
   clear ih
   cbv
   rw[hnt]
   cbv
   refine G.n' hin ?_
   rw[hel]
   cbv
   refine G.c' (va [] (by exact rfl) (.inr rfl) (by simp) fun cl hcl=>?_)
   cbv
   refine G.n' rfl ?_
   rw[hge]
   cases d with
   |false=>
    cbv
    rw[← hK']
    exact⟨[(0,.ptr 0 0),(2,.ptr 1 0),(3,.ptr 2 0)],(.cons rfl (.cons rfl (.cons rfl (.nil _)))),hK0 _ _ _ _ _ _ _ _ (W.rt hK) hcl hy hz⟩
   |true=>
    cbv
    refine G.c' (hgot _ _ _ _ _ _ hy rfl hz (nb rfl) (W.mono (W.bd hK) fun mi z b hK hz y hy=>?_))
    cbv
    refine G.c' (hnum _ _ _ _ _ hy rfl hz (nb rfl) (W.mono (W.with (W.bd hK) fun a z' b' h=>hni a z _ z' b' h) fun k z b hK hz y hy=>?_))
    obtain⟨hk,hK⟩:=hK
    have hng:=hneg k hk
    cases mi with
    |false=>
     cbv
     rw[← hK']
     exact⟨[(0,.ptr 0 0),(2,.ptr 1 0),(3,.ptr 2 0)],(.cons rfl (.cons rfl (.cons rfl (.nil _)))),hK0 _ _ _ _ _ _ _ _ (W.rt hK) hcl hy hz⟩
    |true=>
     cbv
     rw[hng]
     rw[← hK']
     exact⟨[(0,.ptr 0 0),(2,.ptr 1 0),(3,.ptr 2 0)],(.cons rfl (.cons rfl (.cons rfl (.nil _)))),hK0 _ _ _ _ _ _ _ _ (W.rt hK) hcl hy hz⟩
theorem vd4{t:List Tk}(ht:Toks t)(hwd:Wd t):Ok t 96 [] (fetchE t) Nd.av:=by
 refine Ok.of2 (fun _ _=>rfl) (fun a _ _=>zh _ _ a) fun tv htv z b y K hy hz hK=>?_
 unfold fetchE at hK
 have hgot:=fun s=>(zj ht.len s).lit
 simp only[← htv] at hgot
 have hname:=(qv ht hwd).lit
 rw[← htv] at hname
 have hnum:=(xa0 ht).lit
 rw[← htv] at hnum
 clear htv
 generalize t.length=N at *
 have hni:=fun k z b z' b' h=>zdl ht k z b z' b' h
 have hloop:=zdy (t:=t) tv N hgot hnum hni
 apply ja (un:=0) Pr.tabOk Pr.mixed Rf.fn96 (nb rfl)
 apply qb (mk:=Pr.tab)
 intro _ _ _ _ _ _ _ _ _ _ _ _ _ _ _ _ _ _ _ _ _ _ _ _ _ not _ _ _ G
 have hnt:=G.not2
 cbv
 refine G.c' (va [] (by exact rfl) (.inr rfl) (by simp) fun cl0 hcl0=>?_)
 cbv
 refine G.n' rfl ?_
 refine G.l' ?_
 change za Tryz.prog (Pr.tab real) 50 c96 _ _ _
 refine za.relax (za.weak (env':=[(0,.ptr 0 0),(2,.ptr 1 0),(3,.ptr 2 0),(4,.slice 9 [.str W.k_next,.str W.k_prior,.str W.k_first,.str W.k_last,.str W.k_absolute,.str W.k_relative] .exact),(5,.int .i64 0)]) (.cons rfl (.cons rfl (.cons rfl (.cons rfl (.cons rfl (.nil _)))))) (hloop cl0 hcl0 _ _ (fun o s k l cl z b y hK hcl hy hz=>?_) _ rfl ways 0 0 _ _ _ rfl (Nat.zero_le _) rfl hy hz (W.bd hK)))
 cbv
 refine G.c' (hgot _ _ _ _ _ _ hy rfl hz (nb rfl) (W.mono (W.bd hK) fun u z b hK hz y hy=>?_))
 cbv
 refine G.c' (hname _ _ _ _ _ hy rfl hz (nb rfl) (W.mono (W.bd hK) fun w z b hK hz y hy=>?_))
 cbv
 iterate 4 (first|refine G.n' rfl ?_|refine G.s' rfl ?_|cbv|skip)
 refine G.c' (va [.mk o s k l] (by subst hcl;exact rfl) (.inl rfl) (by simp) fun cl4 hcl4=>?_)
 cbv
 exact FinL.go (W.rt hK) hy hz (yd hcl4) rfl (nb rfl)
end Go.AM.Rf
namespace Go.AM.Rf
open Go.Proofs Go.AM.Ps Go.AM.W
def zeroN:Nd:= .mk [] [] 0 []
theorem sub_zero:Sub (Pr.tab real) (.agg [.str [],.str [],.int .i64 0,.slice 0 [] .exact]) (Rf.zeroN).av:=xad _ [] [] 0 0 [] .exact [] rfl (.inr rfl)
def moreB(t:List Tk)(n:Nat)(w:List UInt8)(q1 q2 q3 q4 q5:Bool):M Nd:=match q1 with
 |true=>bd (must t xa1) fun _=>bd (must t vaa) fun _=>bd (must t zdq) fun _=>level t
 |false=>match q2 with
  |true=>declareE t n
  |false=>match q3 || q4 with
   |true=>bd (name t) fun s=>rt (.mk w s 0 [])
   |false=>match q5 with
    |true=>fetchE t
    |false=>bd setBad fun _=>rt Rf.zeroN
def moreE(t:List Tk)(n:Nat)(w:List UInt8):M Nd:=moreB t n w (w == k_set) (w == k_declare) (w == k_open) (w == k_close) (w == k_fetch)
def stmtB(t:List Tk)(n:Nat)(w:List UInt8)(q1 q2 q3 q4 q5 q6 q7 q8 q9:Bool):M Nd:=match q1 with
 |true=>createE t n
 |false=>match q2 with
  |true=>bd (got t qa6) fun q=>match q with
   |true=>bd (name t) fun s=>rt (.mk xax s 0 [])
   |false=>bd (must t za6) fun _=>bd (name t) fun s=>rt (.mk vax s 0 [])
  |false=>match q3 with
   |true=>insertE t n
   |false=>match q4 with
    |true=>updateE t n
    |false=>match q5 with
     |true=>bd (must t k_from) fun _=>bd (name t) fun s=>bd (whose t n) fun x=>rt (.mk k_delete s 0 [x])
     |false=>match q6 with
      |true=>rt (.mk k_commit [] 0 [])
      |false=>match q7 with
       |true=>bd (got t k_to) fun q=>match q with
        |false=>rt (.mk k_rollback [] 0 [])
        |true=>bd (got t k_savepoint) fun _=>bd (name t) fun s=>rt (.mk jar s 0 [])
       |false=>match q8 with
        |true=>bd (name t) fun s=>rt (.mk k_savepoint s 0 [])
        |false=>match q9 with
         |true=>bd (got t k_savepoint) fun _=>bd (name t) fun s=>rt (.mk k_release s 0 [])
         |false=>moreE t n w
def stmtW(t:List Tk)(n:Nat)(w:List UInt8):M Nd:=stmtB t n w (w == k_create) (w == k_drop) (w == k_insert) (w == k_update) (w == k_delete) (w == k_commit) (w == k_rollback) (w == k_savepoint) (w == k_release)
def statementE(t:List Tk)(n:Nat):M Nd:=bd (isT t 0 g_par) fun op=>bd (isT t 0 zn) fun sel=>match op || sel with
 |true=>query t n
 |false=>bd (kindT t 0) fun k=>match k with
  |false=>bd setBad fun _=>rt Rf.zeroN
  |true=>fun z b=>stmtW t n (Ps.textAt t z) (z+1) b
theorem Rf.fn60:FnOk Tryz.prog 60 (fni Tryz.f60 Pr.a60):=⟨⟨Tryz.f60,Tryz.func60,rfl,rfl,rfl,by kernel_rfl⟩,by kernel_rfl⟩
theorem zek{t:List Tk}(ht:Toks t)(hwd:Wd t){n:Nat}(hq:Ok t 51 [] (query t n) Nd.av)(w:List UInt8):Ok t 60 [.str w] (moreE t n w) Nd.av:=by
 refine Ok.of2 (fun _ _=>rfl) (fun a _ _=>zh _ _ a) fun tv htv z b y K hy hz hK=>?_
 unfold moreE at hK
 have hmust:=fun s=>(jm ht.len s).lit
 simp only[← htv] at hmust
 have hname:=(qv ht hwd).lit
 rw[← htv] at hname
 have hlevel:=(jd4 ht).litN
 rw[← htv] at hlevel
 have hdecl:=(qc4 ht hwd hq).litN
 rw[← htv] at hdecl
 have hfetch:=(vd4 ht hwd).litN
 rw[← htv] at hfetch
 have hl6:=ht.len
 clear htv
 apply ja (un:=0) Pr.tabOk Pr.mixed Rf.fn60 (nb rfl)
 apply qb (mk:=Pr.tab)
 intro fail _ _ _ _ _ _ _ _ _ _ eqS _ _ _ _ _ _ _ _ _ _ _ _ _ not _ _ _ G
 have hnt:=G.not2
 have hq1:eqS w [115,101,116]=(w == W.k_set):=by rw[G.eqS']
 have hq2:eqS w [100,101,99,108,97,114,101]=(w == W.k_declare):=by rw[G.eqS']
 have hq3:eqS w [111,112,101,110]=(w == W.k_open):=by rw[G.eqS']
 have hq4:eqS w [99,108,111,115,101]=(w == W.k_close):=by rw[G.eqS']
 have hq5:eqS w [102,101,116,99,104]=(w == W.k_fetch):=by rw[G.eqS']
 generalize (w == W.k_set)=q1 at *
 generalize (w == W.k_declare)=q2 at *
 generalize (w == W.k_open)=q3 at *
 generalize (w == W.k_close)=q4 at *
 generalize (w == W.k_fetch)=q5 at *
 generalize t.length=N at *
 cbv
 repeat' (first
  |(refine G.c' (hmust _ _ _ _ _ _ hy rfl hz (nb rfl) (W.mono (W.bd hK) fun a z b hK hz y hy=>?_));cbv)
  |(refine G.c' (hname _ _ _ _ _ hy rfl hz (nb rfl) (W.mono (W.bd hK) fun a z b hK hz y hy=>?_));cbv)
  |(refine G.c' (hlevel _ _ _ _ _ hy rfl hz (nb rfl) (W.mono hK fun a z b hK hz y hy cl hcl=>?_));obtain⟨o,s,k,l⟩:=a;cbv)
  |(refine G.c' (hdecl _ _ _ _ _ hy rfl hz (nb rfl) (W.mono hK fun a z b hK hz y hy cl hcl=>?_));obtain⟨o,s,k,l⟩:=a;cbv)
  |(refine G.c' (hfetch _ _ _ _ _ hy rfl hz (nb rfl) (W.mono hK fun a z b hK hz y hy cl hcl=>?_));obtain⟨o,s,k,l⟩:=a;cbv)
  |(refine G.c' (va [] (by exact rfl) (.inr rfl) (by simp) fun cl hcl=>?_);cbv)
  |(rw[hq1];cases q1<;>cbv)
  |(rw[hq2];cases q2<;>cbv)
  |(rw[hq3];cases q3<;>cbv)
  |(rw[hq4];cases q4<;>cbv)
  |(rw[hq5];cases q5<;>cbv)
  |exact(W.rt hK).go hy hz (yd (by subst_vars;exact rfl)) rfl (nb rfl)
  |exact FinL.go hK hy hz (yd (by subst_vars;exact rfl)) rfl (nb rfl)
  |exact(W.badrt hK).go hy hz sub_zero rfl (nb rfl)
  |fail)
theorem Rf.fn23:FnOk Tryz.prog 23 (fni Tryz.f23 Pr.a23):=⟨⟨Tryz.f23,Tryz.func23,rfl,rfl,rfl,by kernel_rfl⟩,by kernel_rfl⟩
theorem vb7{t:List Tk}(ht:Toks t)(hwd:Wd t){n:Nat}(hn:n≤1000000000)(he:Ok t 93 [] (expr t n) Nd.av)(hes:Ok t 124 [] (exprs t n) lav)(hb:Ok t 86 [] (body t n) Nd.av)(hq:Ok t 51 [] (query t n) Nd.av):Ok t 23 [] (statementE t n) Nd.av:=by
 refine Ok.of2 (fun _ _=>rfl) (fun a _ _=>zh _ _ a) fun tv htv z b y K hy hz hK=>?_
 unfold statementE at hK
 have hgot:=fun s=>(zj ht.len s).lit
 simp only[← htv] at hgot
 have hmust:=fun s=>(jm ht.len s).lit
 simp only[← htv] at hmust
 have hname:=(qv ht hwd).lit
 rw[← htv] at hname
 have his:=fun s=>(zby ht.len 0 0 rfl (by decide) s).lit
 simp only[← htv] at his
 have hkind:=fun k=>(qby ht.len k).lit
 simp only[← htv] at hkind
 have hquery:=hq.litN
 rw[← htv] at hquery
 have hcreate:=(ydk ht hwd hn he).litN
 rw[← htv] at hcreate
 have hinsert:=(vdk ht hwd hn hb hes).litN
 rw[← htv] at hinsert
 have hupdate:=(qdk ht hwd hn he).litN
 rw[← htv] at hupdate
 have hwhose:=(jcr ht hwd he).litN
 rw[← htv] at hwhose
 have hmore:=fun w=>(zek ht hwd hq w).litN
 simp only[← htv] at hmore
 have hl6:=ht.len
 have hkl:∀ z,Ps.isKind t 0 z=true→z+1≤t.length:=fun z h=>vbi h
 obtain⟨e,cs,m,hv,hcs,h41⟩:=qp t
 rw[hv] at htv
 have htok:∀ z,z+1≤t.length→∃ xk xt xn xa,t[z]? =some ⟨xk,xt,xn,xa⟩∧Ps.textAt t z=xt:=fun z h=>by
  obtain⟨⟨xk,xt,xn,xa⟩,hx⟩:∃ x,t[z]? =some x:=⟨_,List.getElem?_eq_getElem (by omega)⟩
  exact⟨xk,xt,xn,xa,hx,by unfold Ps.textAt;rw[hx]⟩
 have hne:∀ z,z+1≤t.length→e=41:=fun z h=>h41 (by rintro rfl;simp at h)
 have hcl6:cs.length=t.length:=by rw[hcs,List.length_map]
 have hget:∀ z xk xt xn xa,t[z]? =some ⟨xk,xt,xn,xa⟩→cs.getD z AV.undef= .agg [.int .i64 xk,.str xt,.int .i64 xn,.int .i64 xa]:=fun z xk xt xn xa h=>by
  rw[hcs,List.getD_eq_getElem?_getD,List.getElem?_map,h];rfl
 generalize t.length=N at *
 apply ja (un:=0) Pr.tabOk Pr.mixed Rf.fn23 (nb rfl)
 apply qb (mk:=Pr.tab)
 intro fail _ _ _ _ len _ arith _ _ _ eqS _ _ _ elt _ _ _ _ _ _ inb _ _ not _ _ _ G
 have hnt:=G.not2
 cbv
 refine G.c' (his _ _ _ _ _ _ hy rfl hz (nb rfl) (W.mono (W.bd hK) fun op z b hK hz y hy=>?_))
 cbv
 refine G.c' (his _ _ _ _ _ _ hy rfl hz (nb rfl) (W.mono (W.bd hK) fun sel z b hK hz y hy=>?_))
 have hK1:=hK
 have hz1:=hz
 have hy1:=hy
 obtain⟨os,hos⟩:∃ q,(op || sel)=q:=⟨_,rfl⟩
 rw[hos] at hK1
 cases os with
 |true=>
  cases op<;>cases sel<;>first
   |(exact absurd hos (by decide))
   |(have hK:=hK1
     have hz:=hz1
     have hy:=hy1
     cbv
     repeat' (first
      |(refine G.c' (hquery _ _ _ _ _ hy rfl hz (nb rfl) (W.mono hK fun a z b hK hz y hy cl hcl=>?_));obtain⟨o,s,k,l⟩:=a;cbv)
      |exact FinL.go hK hy hz (yd (by subst_vars;exact rfl)) rfl (nb rfl)
      |fail))
 |false=>
 obtain⟨rfl,rfl⟩:op=false∧sel=false:=by simpa using hos
 have hK:=hK1
 have hz:=hz1
 have hy:=hy1
 clear hK1
 cbv
 obtain⟨q,z',b',hm,hF⟩:=W.bd hK
 have hm2:(!b && Ps.isKind t 0 z)=q∧z=z'∧b=b':=by unfold kindT at hm;simpa only[Option.some.injEq,Prod.mk.injEq] using hm
 obtain⟨h1,rfl,rfl⟩:=hm2
 refine G.c' (hkind 0 _ _ _ _ _ hy rfl hz (nb rfl) ⟨q,_,_,hm,fun hz y hy=>?_⟩)
 have hy4:y=(z:Int):=hy
 cbv
 rw[hnt]
 cases q with
 |false=>
  have hK:=hF
  clear hget htok hkl hne
  cbv
  exact(W.badrt hK).go hy hz sub_zero rfl (nb rfl)
 |true=>
  rw[Bool.and_eq_true] at h1
  have hz1:=hkl z h1.2
  obtain⟨xk,xt,xn,xa,hx,htx⟩:=htok z hz1
  obtain rfl:=hne z hz1
  have hy5:y=(z:Int):=hy4
  have hadd:arith BinOp.add IntKind.i64 y 1=y+1:=by rw[G.arith'];exact wrap_i64 _ (by omega) (by omega)
  have hin:inb y (len cs)=true:=by rw[G.inb',G.len'];simp;omega
  have hel:elt cs y= .agg [.int .i64 xk,.str xt,.int .i64 xn,.int .i64 xa]:=by
   rw[G.elt',← hget z xk xt xn xa hx];simp only[]
   rw[show y.toNat=z by omega]
  have hK:W (stmtW t n (Ps.textAt t z)) (z+1) b _:=hF
  rw[htx] at hK
  unfold stmtW at hK
  obtain⟨y1,hy1⟩:∃ y1,y1=y+1:=⟨_,rfl⟩
  have hy:y1=((z+1:Nat):Int):=by omega
  have hz:z+1≤N:=hz1
  rw[← hy1] at hadd
  subst htv
  clear hget htok hkl hne hx hm hF htx
  have hq1:eqS xt [99,114,101,97,116,101]=(xt == W.k_create):=by rw[G.eqS']
  have hq2:eqS xt [100,114,111,112]=(xt == W.k_drop):=by rw[G.eqS']
  have hq3:eqS xt [105,110,115,101,114,116]=(xt == W.k_insert):=by rw[G.eqS']
  have hq4:eqS xt [117,112,100,97,116,101]=(xt == W.k_update):=by rw[G.eqS']
  have hq5:eqS xt [100,101,108,101,116,101]=(xt == W.k_delete):=by rw[G.eqS']
  have hq6:eqS xt [99,111,109,109,105,116]=(xt == W.k_commit):=by rw[G.eqS']
  have hq7:eqS xt [114,111,108,108,98,97,99,107]=(xt == W.k_rollback):=by rw[G.eqS']
  have hq8:eqS xt [115,97,118,101,112,111,105,110,116]=(xt == W.k_savepoint):=by rw[G.eqS']
  have hq9:eqS xt [114,101,108,101,97,115,101]=(xt == W.k_release):=by rw[G.eqS']
  generalize (xt == W.k_create)=q1 at *
  generalize (xt == W.k_drop)=q2 at *
  generalize (xt == W.k_insert)=q3 at *
  generalize (xt == W.k_update)=q4 at *
  generalize (xt == W.k_delete)=q5 at *
  generalize (xt == W.k_commit)=q6 at *
  generalize (xt == W.k_rollback)=q7 at *
  generalize (xt == W.k_savepoint)=q8 at *
  generalize (xt == W.k_release)=q9 at *
  cbv
  refine G.n' hin ?_
  rw[hel]
  cbv
  refine G.n' rfl ?_
  rw[hadd]
  cbv
  repeat' (first
   |(refine G.c' (hgot _ _ _ _ _ _ hy rfl hz (nb rfl) (W.mono (W.bd hK) fun a z b hK hz y hy=>?_));cases a<;>cbv)
   |(refine G.c' (hmust _ _ _ _ _ _ hy rfl hz (nb rfl) (W.mono (W.bd hK) fun a z b hK hz y hy=>?_));cbv)
   |(refine G.c' (hname _ _ _ _ _ hy rfl hz (nb rfl) (W.mono (W.bd hK) fun a z b hK hz y hy=>?_));cbv)
   |(refine G.c' (hcreate _ _ _ _ _ hy rfl hz (nb rfl) (W.mono hK fun a z b hK hz y hy cl hcl=>?_));obtain⟨o,s,k,l⟩:=a;cbv)
   |(refine G.c' (hinsert _ _ _ _ _ hy rfl hz (nb rfl) (W.mono hK fun a z b hK hz y hy cl hcl=>?_));obtain⟨o,s,k,l⟩:=a;cbv)
   |(refine G.c' (hupdate _ _ _ _ _ hy rfl hz (nb rfl) (W.mono hK fun a z b hK hz y hy cl hcl=>?_));obtain⟨o,s,k,l⟩:=a;cbv)
   |(refine G.c' (hwhose _ _ _ _ _ hy rfl hz (nb rfl) (W.mono (W.bd hK) fun a z b hK hz y hy cl hcl=>?_));obtain⟨o,s,k,l⟩:=a;cbv)
   |(refine G.c' (hmore _ _ _ _ _ _ hy rfl hz (nb rfl) (W.mono hK fun a z b hK hz y hy cl hcl=>?_));obtain⟨o,s,k,l⟩:=a;cbv)
   |(refine G.c' (va [] (by exact rfl) (.inr rfl) (by simp) fun cl hcl=>?_);cbv)
   |(refine G.c' (va [.mk _ _ _ _] (by subst_vars;exact rfl) (.inl rfl) (by simp) fun cl hcl=>?_);cbv)
   |(rw[hq1];cases q1<;>cbv)
   |(rw[hq2];cases q2<;>cbv)
   |(rw[hq3];cases q3<;>cbv)
   |(rw[hq4];cases q4<;>cbv)
   |(rw[hq5];cases q5<;>cbv)
   |(rw[hq6];cases q6<;>cbv)
   |(rw[hq7];cases q7<;>cbv)
   |(rw[hq8];cases q8<;>cbv)
   |(rw[hq9];cases q9<;>cbv)
   |exact(W.rt hK).go hy hz (yd (by subst_vars;exact rfl)) rfl (nb rfl)
   |exact FinL.go hK hy hz (yd (by subst_vars;exact rfl)) rfl (nb rfl)
   |(rw[hnt];cbv)
   |refine G.n' rfl ?_
   |fail)
end Go.AM.Rf
